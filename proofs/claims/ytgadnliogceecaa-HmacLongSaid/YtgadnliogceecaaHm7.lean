/- waterlinelaw4.HmacLong: the walk. -/
import Derived.Test.YtgadnliogceecaaHm4
import Derived.Test.YtgadnliogceecaaRs7
namespace Go.Proofs.Ytgadnliogceecaa
open Go Go.RowKit
set_option linter.unusedVariables false
set_option linter.unusedSimpArgs false
theorem long_law (key b : List UInt8) (h : 64 < key.length) : tagL (sha key) b = tagL key b := by
  have hk : ∀ x, padL (sha key) x = padL key x := by
    intro x
    unfold padL keyBlock keyOf
    rw [if_neg (by rw [sha_len]; omega), if_pos h]
  unfold tagL
  rw [hk, hk]
set_option maxRecDepth 100000 in
set_option maxHeartbeats 1000000 in
theorem hmacLong_off (w : World) (A B : Option Addr) (n c m c2 : Nat) (hg : n < 65 ∨ 300 < n ∨ 500 < m) :
    Calls Try.prog 10 #[.slice A n c, .slice B m c2] w fun e w' => e = .returned (.bool true) ∧ Below w.heap.size w w' := by
  by_cases g0 : n < 65
  · clear hg
    go_enter Try.func10, Try.ntmps10
    go_wp2_with (go_at_call 24; refine (alive4_c _).mono ?_; rintro e w1 ⟨rfl, hb⟩)
    go_ret
    exact ⟨rfl, hb⟩
  · by_cases g1 : 300 < n
    · clear hg
      go_enter Try.func10, Try.ntmps10
      go_wp2_with (go_at_call 24; refine (alive4_c _).mono ?_; rintro e w1 ⟨rfl, hb⟩)
      go_ret
      exact ⟨rfl, hb⟩
    · have g2 : 500 < m := by omega
      clear hg
      go_enter Try.func10, Try.ntmps10
      go_wp2_with (go_at_call 24; refine (alive4_c _).mono ?_; rintro e w1 ⟨rfl, hb⟩)
      go_ret
      exact ⟨rfl, hb⟩

set_option maxRecDepth 100000 in
theorem hmacLong_c (w : World) (A B : Option Addr) (n c m c2 : Nat) (key b : List UInt8) (rk : Reads w A n (key.map u8v)) (rb : Reads w B m (b.map u8v)) :
    Calls Try.prog 10 #[.slice A n c, .slice B m c2] w fun e w' => e = .returned (.bool true) ∧ Below w.heap.size w w' := by
  by_cases hg : n < 65 ∨ 300 < n ∨ 500 < m
  · exact hmacLong_off w A B n c m c2 hg
  · have hkl : key.length = n := by simpa using rk.len
    have RK := Lib.hid rk
    have RB := Lib.hid rb
    have g0 : ¬ n < 65 := by omega
    have g1 : ¬ 300 < n := by omega
    have g2 : ¬ 500 < m := by omega
    clear rk rb hg
    go_enter Try.func10, Try.ntmps10
    go_upto_region 4 with (go_at_call 24; refine (alive4_c _).mono ?_; rintro e w1 ⟨rfl, hb⟩)
    have HB := Lib.hid hb
    clear hb
    go_wp2_with fail
    refine (rsha_d w1 A n c key hkl (RK.out.below HB.out) (by omega)).mono ?_
    rintro e w2 ⟨rfl, hb2⟩
    have HB2 := Lib.hid (HB.out.trans (hb2.mono HB.out.size))
    have hlaw := long_law key b (by omega)
    obtain ⟨d, hd⟩ : ∃ d, sha key = d := ⟨_, rfl⟩
    have hdl : d.length = 32 := by rw [← hd]; exact sha_len _
    rw [hd] at hlaw ⊢
    have hsz : ((d.map u8v).toArray).size = 32 := by simp [hdl]
    have HLAW := Lib.hid hlaw
    clear hb2 hd hlaw
    rename_i K hK
    refine hK _ _ ?_
    refine wpList_alloc_store rfl rfl 24 rfl 6 rfl (.tmp 6) (.tmp 27) rfl rfl (.agg zero32) info_z32 (d.map u8v).toArray (by rw [hsz]; exact info_b32) (by rw [hsz]; rfl) (bytes_one d) rfl rfl ?_
    have hD := (Blk.new w2 24 (d.map u8v).toArray).bytes hdl
    have hb4 := HB2.out.alloc HB2.out.size (.cells (d.map u8v).toArray 24)
    generalize w2.alloc (.cells (d.map u8v).toArray 24) = w3 at hD hb4 ⊢
    have HD := Lib.hid hD
    have HB4 := Lib.hid hb4
    clear hD hb4 hsz
    refine wpList_nil ?_
    rename_i K2 hK2
    show K2 _ _
    refine hK2 _ _ ?_
    simp only [Act.put, List.setIfInBounds_toArray, List.set_cons_succ, List.set_cons_zero]
    go_upto_region 5 with fail
    obtain ⟨T, F, hF, hFs⟩ := family (Below w3.heap.size w3)
    have HF := Lib.hid hF
    have HFS := Lib.hid hFs
    have h0 : ∃ x, F x = w3.drew := (hFs _ (Below.refl _ _).drew).imp fun _ h => h.symm
    haveI : Nonempty T := by obtain ⟨x, _⟩ := h0; exact ⟨x⟩
    obtain ⟨t, ht⟩ : ∃ t, tagL key b = t := ⟨_, rfl⟩
    have htl : t.length = 32 := by rw [← ht]; exact tagL_len _ _
    have hm1 := fun x => (tag_c (F x) A B n c m c2 key b ((RK.out.below HB4.out).below (HF.out x)) ((RB.out.below HB4.out).below (HF.out x)) (by omega) (by omega)).mono fun e w' h => (⟨by rw [h.1, ht], HFS.out _ ((HF.out x).trans (h.2.mono (HF.out x).size))⟩ : e = .returned (.agg (t.map u8v).toArray) ∧ ∃ y, w' = F y)
    have hm2 := fun x => (tag_c (F x) (some ⟨w2.heap.size, 0, none⟩) B 32 32 m c2 d b (HD.out.below (HF.out x)) ((RB.out.below HB4.out).below (HF.out x)) (by omega) (by omega)).mono fun e w' h => (⟨by rw [h.1, HLAW.out, ht], HFS.out _ ((HF.out x).trans (h.2.mono (HF.out x).size))⟩ : e = .returned (.agg (t.map u8v).toArray) ∧ ∃ y, w' = F y)
    have HM1 := Lib.hid hm1
    have HM2 := Lib.hid hm2
    have he := fun W => eql32 t t htl htl W
    rw [show (t == t) = true by simp] at he
    clear hF hFs hm1 hm2 ht
    refine wp_region_fam F (by kernel_rfl) (by kernel_rfl) h0 ?_
    repeat (go_big_quiet_step (first | (with_reducible exact HM1.out _) | (with_reducible exact HM2.out _)))
    refine wpQuiet_nil ?_
    rintro _ ⟨x, rfl⟩
    have hfin := HB4.out.trans ((HF.out x).mono HB4.out.size)
    generalize F x = w5 at *
    go_wp2_with fail
    go_ret
    exact ⟨rfl, hfin⟩
end Go.Proofs.Ytgadnliogceecaa
