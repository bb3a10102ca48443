/- sha.Restore: what was saved is the stream again. -/
import Derived.Test.YtlchlcjahndjgaaSp0
import Derived.Deep.CutRange
import Derived.Deep.DrawnRows
namespace Go.Proofs.Ytlchlcjahndjgaa
open Go Go.RowKit
set_option linter.unusedVariables false
set_option linter.unusedSimpArgs false
attribute [local go_sem ↓] Go.wp_at_zero Go.wp_at_succ
theorem stream_new {w w1 : World} {s : St} {rest : List UInt8} {A5 : Option Addr} {c5 : Nat} (hown : w1.ownsRow w.heap.size 5 1 (.slice A5 rest.length c5) rest.length (rest.map u8v)) (hb : Below w.heap.size w w1) :
    Blk (w1.alloc (.cells (stUp s 0 (.slice A5 rest.length c5)) 86)) w1.heap.size 86 (stUp s 0 (.slice A5 rest.length c5)) ∧ Reads (w1.alloc (.cells (stUp s 0 (.slice A5 rest.length c5)) 86)) A5 rest.length (rest.map u8v) ∧ (∀ a, A5 = some a → a.block ≠ w1.heap.size ∧ ∃ cs fr, (w1.alloc (.cells (stUp s 0 (.slice A5 rest.length c5)) 86)).heap[a.block]? = some (.cells cs 5 fr)) ∧ w.heap.size ≤ w1.heap.size ∧ Below w.heap.size w (w1.alloc (.cells (stUp s 0 (.slice A5 rest.length c5)) 86)) := by
  refine ⟨Blk.new w1 _ _, (Reads.of_own hown).alloc _, fun a ha => ?_, hb.size, hb.alloc hb.size _⟩
  subst ha
  have h1 := (hown.lt a.block rfl).2
  refine ⟨by omega, ?_⟩
  rcases hown.2 with ⟨h, _⟩ | ⟨g, cap, cur, h, _, hh, _⟩
  · injection h with h; cases h
  · injection h with h; cases h
    have hb2 : Below w1.heap.size w1 (w1.alloc (.cells (stUp s 0 (.slice (some ⟨g, 0, none⟩) rest.length c5)) 86)) := (Below.refl _ _).alloc (Nat.le_refl _) _
    exact ⟨_, _, by rw [hb2.block g (Array.getElem?_eq_some_iff.1 hh).1]; exact hh⟩
set_option maxRecDepth 100000 in
set_option maxHeartbeats 4000000 in
theorem restore_c (w : World) (bb bo N c : Nat) (s : St) (n : UInt64) (rest : List UInt8) (hN : (saved s n rest).length = N) (hr : Reads w (some ⟨bb, bo, none⟩) N ((saved s n rest).map u8v)) (hc : N ≤ c ∧ c ≤ maxLen) (hl : rest.length < 64) (hn : n.toNat < 2305843009213693952) (hm : n.toNat % 64 = rest.length) :
    Calls Try.prog 16 #[.slice (some ⟨bb, bo, none⟩) N c] w fun e w' => ∃ sb, e = .returned (.tuple #[.pointer (some ⟨sb, 0, none⟩), .int .i64 0]) ∧ StreamAt w' sb s n rest ∧ w.heap.size ≤ sb ∧ Below w.heap.size w w' := by
  have hlen := saved_len s n rest
  rw [hN] at hlen
  have HLN := Lib.hid hlen
  have hn1 : 40 ≤ N := by omega
  have hn2 : N ≤ 103 := by omega
  clear hlen
  have hmx : c ≤ 9223372036854775807 := by have := hc.2; unfold maxLen at this; omega
  obtain ⟨hc1, hc2⟩ := hc
  have hsw := saved_word s n rest
  have hhi := saved_hi s n rest
  have hlo := saved_lo s n rest
  have hrs := saved_rest s n rest
  obtain ⟨L, hL⟩ : ∃ L, saved s n rest = L := ⟨_, rfl⟩
  rw [hL] at hr hsw hhi hlo hrs hN
  have HR := Lib.hid hr
  have HW := Lib.hid hsw
  have HI := Lib.hid hhi
  have HJ := Lib.hid hlo
  have HS := Lib.hid hrs
  have HN := Lib.hid hn
  have HM := Lib.hid hm
  clear hr hsw hhi hlo hrs hL hn hm hc2
  go_enter Try.func16, Try.ntmps16
  go_upto_region 3 with fail
  go_cut [4] from 9 to 13 (fun p wx => ∃ sb A5 c5, p = .pointer (some ⟨sb, 0, none⟩) ∧ Blk wx sb 86 (stUp s 0 (.slice A5 rest.length c5)) ∧ Reads wx A5 rest.length (rest.map u8v) ∧ (∀ a, A5 = some a → a.block ≠ sb ∧ ∃ cs fr, wx.heap[a.block]? = some (.cells cs 5 fr)) ∧ w.heap.size ≤ sb ∧ Below w.heap.size w wx)
  case first =>
    by_cases h40 : c = 40
    · have hlen := HLN.out
      have hn40 : N = 40 := by omega
      have h0 : rest.length = 0 := by omega
      subst hn40 h40
      obtain rfl : rest = [] := List.eq_nil_of_length_eq_zero h0
      clear hmx hn1 hn2 hc1 hlen hN hl
      go_wp2_with fail
      refine (clone_n w (some ⟨bb, bo, none⟩) 0 0 [] ⟨rfl, fun h => by omega⟩ (by omega)).mono ?_
      rintro e w1 ⟨A5, c5, rfl, hown, hb⟩
      have HO := Lib.hid hown
      have HB := Lib.hid hb
      clear hown hb
      go_wp2_with fail
      go_meet
      exact ⟨_, A5, c5, rfl, stream_new HO.out HB.out⟩
    · have hrd := HR.out.drop (k := 40) (cap := c) (by omega) hc1
      rw [if_neg h40, ← List.map_drop, HS.out, show Option.map (fun x => Addr.add x 40) (some ⟨bb, bo, none⟩) = some ⟨bb, bo + 40, none⟩ by simp [add_off]] at hrd
      have HD := Lib.hid hrd
      clear hrd
      go_wp2_with fail
      refine (clone_n w (some ⟨bb, bo + 40, none⟩) (N - 40) (c - 40) rest HD.out (by omega)).mono ?_
      rintro e w1 ⟨A5, c5, rfl, hown, hb⟩
      have HO := Lib.hid hown
      have HB := Lib.hid hb
      clear hown hb
      go_wp2_with fail
      go_meet
      exact ⟨_, A5, c5, rfl, stream_new HO.out HB.out⟩
  case rest =>
  obtain ⟨sb, A5, c5, rfl, hb1, hb2, hb3, hb4, hb5⟩ := hcut
  obtain ⟨V, hV⟩ : ∃ V, Value.slice A5 rest.length c5 = V := ⟨_, rfl⟩
  rw [hV] at hb1
  have HV := Lib.hid hV
  have H1 := Lib.hid hb1
  have H2 := Lib.hid hb2
  have H3 := Lib.hid hb3
  have H5 := Lib.hid hb5
  clear hV hb1 hb2 hb3 hb5
  go_wp2_with fail
  go_loopw [5, 14] (fun j i wr => ∃ k : Nat, k ≤ 8 ∧ i = .int .i64 k ∧ Blk wr sb 86 (stUp s k V) ∧ Only [sb] wc wr) (fun j i _ => 8 - (intOf i).toNat)
  case atStart => exact ⟨0, by omega, rfl, H1.out, Only.refl _ _⟩
  case round =>
    clear H1
    obtain ⟨k, hk, rfl, hblk, hon⟩ := hrel
    have hbel := hon.below H5.out H5.out.size (by intro j hj; simp at hj; omega)
    have HB := Lib.hid hblk
    have HO := Lib.hid hon
    have HL := Lib.hid hbel
    have HRr := Lib.hid (HR.out.below hbel)
    have hsz := stUp_size s k V hk
    by_cases hlt : k < 8
    · have hfk := hblk.frozen k
      have e4 : IntKind.i64.wrap ((k : Int) * 4) = (k : Int) * 4 := IntWalk.i64_in _ (by omega)
      have hrd := HRr.out.drop (k := k * 4) (cap := c) (by omega) hc1
      rw [if_neg (by omega), ← List.map_drop, show Option.map (fun x => Addr.add x (k * 4)) (some ⟨bb, bo, none⟩) = some ⟨bb, bo + k * 4, none⟩ by simp [add_off]] at hrd
      have hw := HW.out k hlt
      have HRD := Lib.hid hrd
      have hbg : ∀ W, Reads W (some ⟨bb, bo + k * 4, none⟩) (N - k * 4) ((L.drop (k * 4)).map u8v) → Calls Try.prog 64 #[.slice (some ⟨bb, bo + k * 4, none⟩) (N - k * 4) (c - k * 4)] W fun e w' => e = .returned (u32v (s.words.getD k 0)) ∧ W = w' := fun W h => hw ▸ big_c _ _ _ (L.drop (k * 4)) W (by omega) h
      have HBG := Lib.hid hbg
      clear hw hrd hbg hblk hon hbel
      go_upto_region 7 with fail
      refine wp_region_quiet_tail 10 (by kernel_rfl) (by kernel_rfl) ?_
      simp only [List.take_succ_cons, List.take_zero, List.drop_succ_cons, List.drop_zero]
      repeat (go_big_quiet_step ((go_at_call 64; exact Calls.quiet_of_same ((HBG.out _ (HRD.out.drewN _)).mono fun _ _ hh => ⟨hh.1, hh.2.symm⟩))))
      refine wpQuiet_nil ?_
      intro nq
      have hB9 : Blk (wr.drewN nq) sb 86 (stUp s k V) := HB.out.drewN nq
      have hfk := hB9.frozen k
      have hlt9 := hB9.lt
      obtain ⟨u, hu⟩ : ∃ u, (stUp s k V)[k]? = some u := ⟨_, Array.getElem?_eq_getElem (by omega)⟩
      have hck : (wr.drewN nq).cell? ⟨sb, k, none⟩ = some u := by rw [hB9.cell]; exact hu
      clear hu
      go_wp2
      go_roundw
      case rel =>
        refine ⟨k + 1, by omega, by go_num, ?_, ?_⟩
        · have h := (HB.out.drewN nq).set_ k (u32v (s.words.getD k 0))
          rw [stUp_set s k V hlt, List.getD_eq_getElem?_getD] at h
          exact h
        · exact (HO.out.drewN nq).setCell (by simp) _
      case measure => simp [intOf]; omega
    · obtain rfl : k = 8 := by omega
      rw [stUp_full] at hblk
      have HB := Lib.hid hblk
      have hf8 := hblk.frozen 8
      have hbg : ∀ (o : Nat) (W : World), o ≤ 39 → Reads W (some ⟨bb, bo, none⟩) N (L.map u8v) → Calls Try.prog 64 #[.slice (some ⟨bb, bo + o, none⟩) (N - o) (c - o)] W fun e w' => e = .returned (u32v (big (L.drop o))) ∧ W = w' := fun o W h hW => by
        have r := hW.drop (k := o) (cap := c) (by omega) hc1
        rw [if_neg (by omega), ← List.map_drop, show Option.map (fun x => Addr.add x o) (some ⟨bb, bo, none⟩) = some ⟨bb, bo + o, none⟩ by simp [add_off]] at r
        exact big_c _ _ _ (L.drop o) W (by omega) r
      have HBG := Lib.hid hbg
      clear hbg hblk hon hbel
      have hj : bits .or .u64 (((big (L.drop 32)).toNat : Int) * 4294967296) ((big (L.drop 36)).toNat : Int) = (n.toNat : Int) := by
        have h := join64 n
        rw [← HI.out, ← HJ.out, Int.emod_eq_of_lt (by omega) (by have := (big (L.drop 32)).toNat_lt; omega)] at h
        exact h
      have HJ64 := Lib.hid hj
      have hb32 := u32_b (big (L.drop 32))
      have hb36 := u32_b (big (L.drop 36))
      clear hj
      go_upto_region 9 with fail
      refine wp_region_quiet_tail 13 (by kernel_rfl) (by kernel_rfl) ?_
      simp only [List.take_succ_cons, List.take_zero, List.drop_succ_cons, List.drop_zero]
      repeat (go_big_quiet_step ((go_at_call 64; exact Calls.quiet_of_same ((HBG.out _ _ (by omega) (HRr.out.drewN _)).mono fun _ _ hh => ⟨hh.1, hh.2.symm⟩))))
      refine wpQuiet_nil ?_
      intro nq
      have hB9 : Blk (wr.drewN nq) sb 86 (strm s 0 V) := HB.out.drewN nq
      have hfk := hB9.frozen 8
      have hlt9 := hB9.lt
      have hck := strm_c8 hB9
      go_wp2
      rw [HJ64.out]
      have hB10 := (HB.out.drewN nq).set_ 8 (u64v n)
      rw [strm_8] at hB10
      have hO10 := (HO.out.drewN nq).setCell (p := ⟨sb, 8, none⟩) (by simp) (u64v n)
      generalize (wr.drewN nq).setCell ⟨sb, 8, none⟩ (u64v n) = wz at hB10 hO10 ⊢
      have HB10 := Lib.hid hB10
      have HO10 := Lib.hid hO10
      have k8 := strm_c8 hB10
      have k9 := strm_c9 hB10
      rw [← HV.out] at k9
      have hn := HN.out
      have hm := HM.out
      have q1 : (n.toNat : Int) / 2305843009213693952 = 0 := by omega
      have q2 : (n.toNat : Int) % 64 = (rest.length : Int) := by omega
      have q3 : (n.toNat : Int).tmod 64 = (rest.length : Int) := by rw [Int.tmod_eq_emod_of_nonneg (by omega)]; exact q2
      clear hn hm hb32 hb36 hB9 hfk hlt9 hck hB10 hO10 hf8
      go_upto_region 10 with fail
      go_quiet (fail)
      go_wp2_with fail
      go_ret2
      have hbel := HO10.out.below H5.out H5.out.size (by intro j hj; simp at hj; omega)
      refine ⟨sb, rfl, ⟨A5, c5, ?_, ?_, ?_⟩, hb4, below_drewN hbel _⟩
      · rw [HV.out]; exact HB10.out.drewN _
      · exact H2.out.only (HO10.out.drewN _) (fun a ha => by simp; exact (H3.out a ha).1)
      · intro a ha
        obtain ⟨h1, cs, fr, h2⟩ := H3.out a ha
        refine ⟨h1, cs, fr, ?_⟩
        rw [(HO10.out.drewN _).block a.block (Array.getElem?_eq_some_iff.1 h2).1 (by simp; exact h1)]
        exact h2
end Go.Proofs.Ytlchlcjahndjgaa
