/- waterlinelaw14: alive; WearOne: the walk. -/
import Derived.Test.YtaanefgkmjdknaaL14a
namespace Go.Proofs.Ytaanefgkmjdknaa
open Go.RowKit
set_option linter.unusedVariables false
set_option linter.unusedSimpArgs false

theorem al14 : ∃ F0 R, Fl.new ((4 : Nat) : Int) = F0 ∧ F0.wear.length = 4 ∧ Ar.new 4 0 4 3 = R ∧ R.sumLeft F0 R.len = 12 := ⟨_, _, rfl, by kernel_rfl, rfl, by kernel_rfl⟩
theorem alive14_c (w : World) : Calls Try.prog 22 #[] w fun e w' => e = .returned (.bool true) ∧ Below w.heap.size w w' := by
  obtain ⟨F0, R, f0, f1, f2, f3⟩ := al14
  have G0 := Lib.hid f0
  have G1 := Lib.hid f1
  have G2 := Lib.hid f2
  have G3 := Lib.hid f3
  clear f0 f1 f2 f3
  go_enter Try.func22, Try.ntmps22
  go_wp2_with fail
  refine (wsum_nil _).mono ?_
  rintro e w' ⟨rfl, rfl⟩
  go_wp2_with fail
  refine (new_hf 4 (by omega) F0 G0.out (Below.refl w.heap.size w)).mono ?_
  rintro e w1 ⟨fb, bb, wb, rfl, h⟩
  go_wp2_with fail
  refine (anew_h 0 0 4 3 4 G1.out R G2.out h).mono ?_
  rintro e w2 ⟨ab, rfl, h2, -, -⟩
  go_wp2_with fail
  refine (wsum_c _ h2.has.flash h2.area).mono ?_
  rintro e w3 ⟨rfl, q, rfl⟩
  have e3 := G3.out
  go_wp2_with fail
  go_ret
  exact ⟨rfl, (h2.drewN q).has.below⟩

set_option maxRecDepth 100000 in
set_option maxHeartbeats 1000000 in
theorem wearOne_off (b s : Int) (w : World) (hg : b < 1 ∨ 100 < b ∨ s < 0 ∨ 5 < s) :
    Calls Try.prog 7 #[.int .i64 b, .int .i64 s] w fun e w' => e = .returned (.bool true) ∧ Below w.heap.size w w' := by
  by_cases g0 : b < 1
  · clear hg
    go_enter Try.func7, Try.ntmps7
    go_wp2_with (go_at_call 22; refine (alive14_c _).mono ?_; rintro e w1 ⟨rfl, hb⟩)
    go_ret
    exact ⟨rfl, hb⟩
  · by_cases g1 : 100 < b
    · clear hg
      go_enter Try.func7, Try.ntmps7
      go_wp2_with (go_at_call 22; refine (alive14_c _).mono ?_; rintro e w1 ⟨rfl, hb⟩)
      go_ret
      exact ⟨rfl, hb⟩
    · by_cases g2 : s < 0
      · clear hg
        go_enter Try.func7, Try.ntmps7
        go_wp2_with (go_at_call 22; refine (alive14_c _).mono ?_; rintro e w1 ⟨rfl, hb⟩)
        go_ret
        exact ⟨rfl, hb⟩
      · have g3 : 5 < s := by omega
        clear hg
        go_enter Try.func7, Try.ntmps7
        go_wp2_with (go_at_call 22; refine (alive14_c _).mono ?_; rintro e w1 ⟨rfl, hb⟩)
        go_ret
        exact ⟨rfl, hb⟩

set_option maxRecDepth 100000 in
set_option maxHeartbeats 1000000 in
theorem wearOne_in (b : Int) (s : Nat) (w : World) (hb0 : 1 ≤ b) (hb1 : b ≤ 100) (hs : s < 6) :
    Calls Try.prog 7 #[.int .i64 b, .int .i64 (s : Int)] w fun e w' => e = .returned (.bool true) ∧ Below w.heap.size w w' := by
  obtain ⟨F0, F1, R, hf⟩ := one_facts b hb0 hb1 s hs
  have HF := Lib.hid hf
  clear hf
  go_enter Try.func7, Try.ntmps7
  go_wp2_with (go_at_call 22; refine (alive14_c _).mono ?_; rintro e w1 ⟨rfl, hb⟩)
  refine (new_hf 6 (by omega) F0 HF.out.f0 hb).mono ?_
  rintro e w2 ⟨fb, bb, wb, rfl, h⟩
  go_wp2_with fail
  refine (anew_h 0 0 6 b 6 HF.out.w0 R HF.out.r h).mono ?_
  rintro e w3 ⟨ab, rfl, h3, -, -⟩
  go_wp2_with fail
  refine (wsum_c _ h3.has.flash h3.area).mono ?_
  rintro e w4 ⟨rfl, q, rfl⟩
  have h4 := h3.drewN q
  rw [HF.out.s0]
  have H4 := Lib.hid h4
  clear h4 h3 h hb
  have em : IntKind.i64.wrap (6 * b) = 6 * b := IntWalk.i64_in _ (by omega)
  go_wp2_with fail
  refine (aerase_h _ _ _ HF.out.e HF.out.f1 H4.out).mono ?_
  rintro e w5 ⟨rfl, h5, -⟩
  have H5 := Lib.hid h5
  clear h5
  go_wp2_with fail
  refine (wleast_c _ s 1 (by omega) (by omega) (by omega) (by omega) H5.out.has.flash H5.out.area).mono ?_
  rintro e w6 ⟨rfl, q1, rfl⟩
  rw [HF.out.l1]
  go_wp2_with fail
  refine (wleast_c _ 0 6 (by omega) (by omega) (by omega) (by omega) (H5.out.drewN q1).has.flash (H5.out.drewN q1).area).mono ?_
  rintro e w7 ⟨rfl, q2, rfl⟩
  rw [HF.out.l2]
  obtain ⟨t, ht⟩ : ∃ t : Int, (if s = 0 then 1 else 0) = t := ⟨_, rfl⟩
  have HT := Lib.hid ht
  rw [ht]
  clear ht
  by_cases hs0 : s = 0
  · subst hs0
    have ht1 : t = 1 := HT.out.symm
    subst ht1
    go_wp2_with fail
    refine (wleast_c _ 6 3 (by omega) (by omega) (by omega) (by omega) (H5.out.drewN (q1 + q2)).has.flash (H5.out.drewN (q1 + q2)).area).mono ?_
    rintro e w8 ⟨rfl, q3, rfl⟩
    rw [HF.out.l3]
    go_wp2_with fail
    refine (wsum_c _ (H5.out.drewN (q1 + q2 + q3)).has.flash (H5.out.drewN (q1 + q2 + q3)).area).mono ?_
    rintro e w9 ⟨rfl, q4, rfl⟩
    rw [HF.out.s1]
    have em2 : IntKind.i64.wrap (6 * b - 1) = 6 * b - 1 := IntWalk.i64_in _ (by omega)
    go_wp2_with fail
    go_ret
    exact ⟨rfl, (H5.out.drewN _).has.below⟩
  · have ht1 : t = 0 := by have := HT.out; rw [if_neg hs0] at this; exact this.symm
    subst ht1
    have hsp : ((s : Int) == 0) = false := by rw [beq_eq_false_iff_ne]; omega
    go_wp2_with fail
    refine (wleast_c _ 6 3 (by omega) (by omega) (by omega) (by omega) (H5.out.drewN (q1 + q2)).has.flash (H5.out.drewN (q1 + q2)).area).mono ?_
    rintro e w8 ⟨rfl, q3, rfl⟩
    rw [HF.out.l3]
    go_wp2_with fail
    refine (wsum_c _ (H5.out.drewN (q1 + q2 + q3)).has.flash (H5.out.drewN (q1 + q2 + q3)).area).mono ?_
    rintro e w9 ⟨rfl, q4, rfl⟩
    rw [HF.out.s1]
    have em2 : IntKind.i64.wrap (6 * b - 1) = 6 * b - 1 := IntWalk.i64_in _ (by omega)
    go_wp2_with fail
    go_ret
    exact ⟨rfl, (H5.out.drewN _).has.below⟩

theorem wearOne_c (b s : Int) (w : World) : Calls Try.prog 7 #[.int .i64 b, .int .i64 s] w fun e w' => e = .returned (.bool true) ∧ Below w.heap.size w w' := by
  by_cases hg : b < 1 ∨ 100 < b ∨ s < 0 ∨ 5 < s
  · exact wearOne_off b s w hg
  · obtain ⟨S, rfl⟩ := Int.eq_ofNat_of_zero_le (show 0 ≤ s by omega)
    exact wearOne_in b S w (by omega) (by omega) (by omega)
end Go.Proofs.Ytaanefgkmjdknaa
