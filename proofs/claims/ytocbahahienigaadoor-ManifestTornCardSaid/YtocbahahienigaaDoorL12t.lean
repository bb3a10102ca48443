/- waterlinelaw12.ManifestTorn: no beginning of a manifest is one, and none with more behind. -/
import Derived.Test.YtocbahahienigaaDoorL12a
namespace Go.Proofs.YtocbahahienigaaDoor
open Go Go.RowKit
set_option linter.unusedVariables false
set_option linter.unusedSimpArgs false
attribute [local go_sem ↓] sbN_seal sldN_seal sstN_seal
/-- A short one is none. -/
theorem mread_no (w : World) (A : Option Addr) (n c : Nat) (l : List UInt8) (hr : Reads w A n (l.map u8v)) (hn : n ≤ 100000) (h92 : n ≠ 92) :
    Calls Tryd.prog 8 #[.slice A n c] w fun e w' => e = .returned (.tuple #[.agg litN, .slice none 0 0, .int .i64 6]) ∧ Below w.heap.size w w' := by
  have hl : l.length = n := by simpa using hr.len
  refine (mread_short w A n c l hr hl hn h92).mono ?_
  rintro e w' ⟨hret, hb⟩
  rcases hret with ⟨_, he⟩ | ⟨h, _⟩
  · exact ⟨by rw [he, ← zeroN_eq], hb⟩
  · exact absurd (hl.symm.trans h) h92
theorem storeN (w : World) : (sstN (.pointer (some ⟨w.heap.size, 0, none⟩)) (.agg litN)).run Tryd.prog (w.alloc (.cells litN 27)) = .ok () ((w.alloc (.cells litN 27)).setRow w.heap.size litN) := by
  have hN := Blk.new w 27 zeroN.toArray
  have hst := run_sstN zeroN hN (by rw [List.size_toArray]; rfl) rfl (manC_one _ _)
  rw [← zeroN_eq] at hst
  exact hst
theorem below_storeN (w : World) : Below w.heap.size w ((w.alloc (.cells litN 27)).setRow w.heap.size litN) := below_setRow_m ((Below.refl _ _).alloc (Nat.le_refl _) _) (Nat.le_refl _) _
set_option maxRecDepth 100000 in
set_option maxHeartbeats 2000000 in
theorem manifestTorn_c (w : World) (KA : Option Addr) (kn kc : Nat) (key : List UInt8) (hk : Reads w KA kn (key.map u8v)) (nm : ByteArray) (hnm : nm.size ≤ maxLen) (i : Img) (hi : i.d.length = 32) (n : Int) (hn : n ≤ 9223372036854775807) :
    Calls Tryd.prog 5 #[.slice KA kn kc, .agg (manC nm i).toArray, .int .i64 n] w fun e w' => e = .returned (.bool true) ∧ Below w.heap.size w w' := by
  obtain ⟨i0, hi8, hz0, hz1, hz2⟩ := info_parts info_u8
  have hB0 := Blk.new w 27 (manC nm i).toArray
  have hb0 : Below w.heap.size w (w.alloc (.cells (manC nm i).toArray 27)) := (Below.refl _ _).alloc (Nat.le_refl _) _
  obtain ⟨MC, hMC⟩ : ∃ MC, (manC nm i).toArray = MC := ⟨_, rfl⟩
  rw [hMC] at hB0 hb0 ⊢
  have HK := Lib.hid (hk.below hb0)
  have HI := Lib.hid hi8
  have HZ0 := Lib.hid hz0
  have HZ1 := Lib.hid hz1
  have HZ2 := Lib.hid hz2
  have HB := Lib.hid hB0
  have HL := Lib.hid hb0
  have HMC := Lib.hid hMC
  clear hk hi8 hz0 hz1 hz2 hB0 hb0 hMC
  go_enter Tryd.func5, Tryd.ntmps5
  go_wp2_with fail
  generalize w.alloc (.cells MC 27) = W1 at HK HB HL ⊢
  refine (alive12_c W1).mono ?_
  rintro e w2 ⟨rfl, hb2⟩
  have HK := Lib.hid (HK.out.below hb2)
  have hB2 := HB.out.below hb2 HB.out.lt
  have HL := Lib.hid (HL.out.trans (hb2.mono HL.out.size))
  have hc0 : w2.cell? ⟨w.heap.size, 0, none⟩ = some (.string nm) := by rw [hB2.cell, ← HMC.out]; rfl
  have hld : (sldN (.pointer (some ⟨w.heap.size, 0, none⟩))).run Tryd.prog w2 = .ok (.agg MC) w2 := by
    have q := hB2
    rw [← HMC.out] at q ⊢
    exact run_sldN (manC_len hi nm) q.whole
  have HB := Lib.hid hB2
  clear hb2 hB2
  by_cases h1 : (200 : Int) < (kn : Int)
  · go_wp2_with fail
    go_ret
    exact ⟨rfl, HL.out⟩
  by_cases h2 : (100 : Int) < (nm.size : Int)
  · go_wp2_with fail
    go_ret
    exact ⟨rfl, HL.out⟩
  by_cases h3 : n < 0
  · go_wp2_with fail
    go_ret
    exact ⟨rfl, HL.out⟩
  obtain ⟨BB, hBB⟩ : ∃ BB, bytesB key nm i = BB := ⟨_, rfl⟩
  have hBBl : BB.length = 92 := by rw [← hBB]; exact bytesB_len _ _ _
  have hby : ∀ (W : World), Reads W KA kn (key.map u8v) → Calls Tryd.prog 12 #[.slice KA kn kc, .agg MC] W fun e w' => ∃ A c, e = .returned (.slice A 92 c) ∧ w'.ownsRow W.heap.size 5 1 (.slice A 92 c) 92 (BB.map u8v) ∧ Below W.heap.size W w' := fun W h => by
    rw [← HMC.out, ← hBB]
    exact mbytes_c W KA kn kc key h (by omega) nm i hi (by omega)
  have HBY := Lib.hid hby
  have HBL := Lib.hid hBBl
  clear hby hBB hBBl
  go_wp2_with fail
  refine (HBY.out _ HK.out).mono ?_
  rintro e w3 ⟨A, c, rfl, ho3, hb3⟩
  have hcap := own_cap ho3
  have HR := Lib.hid (Reads.of_own ho3)
  have HK := Lib.hid (HK.out.below hb3)
  have HL := Lib.hid (HL.out.trans (hb3.mono HL.out.size))
  clear ho3 hb3 hc0 hld
  obtain ⟨r, hr, hr92⟩ : ∃ r : Nat, Int.tmod n 92 = (r : Int) ∧ r < 92 := ⟨(Int.tmod n 92).toNat, by rw [Int.tmod_eq_emod_of_nonneg (by omega)]; omega, by rw [Int.tmod_eq_emod_of_nonneg (by omega)]; omega⟩
  have hcap1 := hcap.1
  have hcap2 := hcap.2
  have HR92 := Lib.hid hr92
  have hr0 : (0 : Int) ≤ (r : Int) := by omega
  have hrt : Reads w3 A r ((BB.take r).map u8v) := by rw [List.map_take]; exact HR.out.take (by omega)
  have HRT := Lib.hid hrt
  clear hrt
  go_wp2_with fail
  refine (mread_no w3 A r c (BB.take r) HRT.out (by omega) (by have := HR92.out; omega)).mono ?_
  rintro e w4 ⟨rfl, hb4⟩
  have hst := storeN w4
  have hb5 := below_storeN w4
  have HR := Lib.hid ((HR.out.below hb4).below hb5)
  have HRT := Lib.hid ((HRT.out.below hb4).below hb5)
  have HK := Lib.hid ((HK.out.below hb4).below hb5)
  have HL := Lib.hid ((HL.out.trans (hb4.mono HL.out.size)).trans (hb5.mono (Nat.le_trans HL.out.size hb4.size)))
  clear hb4 hb5
  go_upto_region 8 with fail
  generalize (w4.alloc (.cells litN 27)).setRow w4.heap.size litN = W5 at HR HRT HK HL ⊢
  clear hst
  have hown0 := World.ownsRow_nil W5 W5.heap.size 5 1
  go_wp2_with (at_builtin; first
    | (refine wpList_append_any _ rfl (.const (.slice none 0 0)) (.tmp 52) _ rfl W5.heap.size 5 i0 (.int .u8 0) 1 Tryd.underlying22 HI.out HZ0.out HZ1.out HZ2.out rfl _ 0 [] rfl hown0 A 92 c (BB.map u8v) rfl HR.out (u8v_one _) (by unfold maxLen; omega) (by omega) (Nat.le_refl _) ?_; intro A6 c6 w6 hown6 hgrow6 hat; simp only [Nat.zero_add, List.nil_append] at hown6 ⊢; have HB6 := Lib.hid ((Below.refl W5.heap.size W5).grown hgrow6 (Nat.le_refl _) (by intro k hk; cases hk)); have HO6 := Lib.hid hown6; have hal := (Below.refl w6.heap.size w6).alloc (Nat.le_refl _) (.cells #[.int .u8 0] 5); have HO6a := Lib.hid (own_only hown6 (Only.of_below (S := []) hal) (by simp)); have HB6a := Lib.hid (HB6.out.trans (hal.mono HB6.out.size)); clear hown6 hgrow6 hat hal)
    | (refine wpList_append_any _ rfl (.tmp 53) (.tmp 54) _ rfl W5.heap.size 5 i0 (.int .u8 0) 1 Tryd.underlying22 HI.out HZ0.out HZ1.out HZ2.out rfl _ 92 (BB.map u8v) rfl HO6a.out (some ⟨w6.heap.size, 0, none⟩) 1 1 (([0] : List UInt8).map u8v) rfl (rowReads w6 [0] 5 (0, 0)) (u8v_one _) (by unfold maxLen; omega) (by omega) HB6a.out.size ?_; intro A7 c7 w7 hown7 hgrow7 hat; simp only [Nat.reduceAdd] at hown7 ⊢; have HB7 := Lib.hid (HB6a.out.grown hgrow7 HB6a.out.size (fun k hk => (HO6a.out.lt k hk).1)); have HO7 := Lib.hid hown7; clear hown7 hgrow7 hat))
  have hr7 : Reads w7 A7 93 ((BB ++ [0]).map u8v) := by rw [List.map_append]; exact Reads.of_own HO7.out
  refine (mread_no w7 A7 93 c7 (BB ++ [0]) hr7 (by omega) (by omega)).mono ?_
  rintro e w8 ⟨rfl, hb8⟩
  have hst := storeN w8
  have hb9 := below_storeN w8
  have HRT := Lib.hid (((HRT.out.below HB7.out).below hb8).below hb9)
  have HK := Lib.hid (((HK.out.below HB7.out).below hb8).below hb9)
  have HL := Lib.hid (((HL.out.trans (HB7.out.mono HL.out.size)).trans (hb8.mono (Nat.le_trans HL.out.size HB7.out.size))).trans (hb9.mono (Nat.le_trans (Nat.le_trans HL.out.size HB7.out.size) hb8.size)))
  clear hb8 hb9 hr7 hown0
  go_upto_region 9 with fail
  generalize (w8.alloc (.cells litN 27)).setRow w8.heap.size litN = W9 at HRT HK HL ⊢
  clear hst
  have hsf : signedB key (BB.take r) = false := by
    unfold signedB
    rw [decide_eq_false (by rw [List.length_take, HBL.out]; have := HR92.out; omega)]
    rfl
  have HSF := Lib.hid hsf
  clear hsf
  go_wp2_with fail
  refine (num12_c _ _).mono ?_
  rintro e wx ⟨rfl, rfl⟩
  go_wp2_with fail
  refine (num12_c _ _).mono ?_
  rintro e wx ⟨rfl, rfl⟩
  go_wp2_with fail
  refine (msigned_c W9 KA kn kc key HK.out (by omega) A r c (BB.take r) HRT.out (by omega) ⟨by omega, hcap2⟩).mono ?_
  rintro e w10 ⟨rfl, hb10⟩
  rw [HSF.out]
  go_wp2_with fail
  go_ret
  exact ⟨rfl, HL.out.trans (hb10.mono HL.out.size)⟩
end Go.Proofs.YtocbahahienigaaDoor
