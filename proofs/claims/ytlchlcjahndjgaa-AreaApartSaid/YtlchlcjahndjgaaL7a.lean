/- The laws of chapter 7: alive, num. -/
import Derived.Test.YtlchlcjahndjgaaAreaE
namespace Go.Proofs.Ytlchlcjahndjgaa
open Go.RowKit
set_option linter.unusedVariables false
set_option linter.unusedSimpArgs false

theorem num7_c (n : Int) (w : World) : Calls Try.prog 83 #[.int .i64 n] w fun e w' => e = .returned (.int .i64 n) ∧ w = w' := by
  go_enter Try.func83, Try.ntmps83
  go_wp2
  go_ret
  exact ⟨rfl, rfl⟩
def al7r : Ar := Ar.new 3 1 2 4
theorem al7_0 : (Fl.new 3).wear.length = 3 := by kernel_rfl
theorem al7_1 : al7r.programE (Fl.new 3) 0 0 [1] = 0 := by kernel_rfl
theorem al7_2 : al7r.left (al7r.program (Fl.new 3) 0 0 [1]) 1 = 4 := by kernel_rfl
theorem al7_3 : (al7r.len : Int) = 2 := by kernel_rfl

theorem al7 : ∃ F0 R F', Fl.new ((3 : Nat) : Int) = F0 ∧ F0.wear.length = 3 ∧ Ar.new 3 1 2 4 = R ∧ R.programE F0 0 0 [1] = 0 ∧ R.program F0 0 0 [1] = F' ∧ R.left F' 1 = 4 ∧ (R.len : Int) = 2 := ⟨_, al7r, _, rfl, al7_0, rfl, al7_1, rfl, al7_2, al7_3⟩
theorem alive7_c (w : World) : Calls Try.prog 34 #[] w fun e w' => e = .returned (.bool true) ∧ Below w.heap.size w w' := by
  obtain ⟨F0, R, F', f5, f6, f0, f1, f2, f4, f3⟩ := al7
  have G5 := Lib.hid f5
  have G6 := Lib.hid f6
  clear f5 f6
  have G0 := Lib.hid f0
  have G1 := Lib.hid f1
  have G2 := Lib.hid f2
  have G4 := Lib.hid f4
  clear f0 f1 f2 f4
  go_enter Try.func34, Try.ntmps34
  go_wp2_with fail
  refine (new_hf 3 (by omega) F0 G5.out (Below.refl w.heap.size w)).mono ?_
  rintro e w1 ⟨fb, bb, wb, rfl, h⟩
  go_wp2_with fail
  refine (anew_h 0 1 2 4 3 G6.out R G0.out h).mono ?_
  rintro e w2 ⟨ab, rfl, h2, -, -⟩
  go_wp2_with fail
  refine (alen_nil _).mono ?_
  rintro e w' ⟨rfl, rfl⟩
  go_wp2_with fail
  refine (alen_c _ h2.area).mono ?_
  rintro e w' ⟨rfl, rfl⟩
  go_wp2_with fail
  refine (aprogram_h 0 0 _ _ _ [1] _ _ G1.out G2.out (byte_row w2 1) h2.has.apart (h2.alloc _)).mono ?_
  rintro e w3 ⟨rfl, h3, -⟩
  have e2 := G4.out
  go_wp2_with (first
    | (go_at_call 83; refine (num7_c _ _).mono ?_; rintro e w' ⟨rfl, rfl⟩)
    | (go_at_call 76; refine (aleft_c _ 1 h3.has.flash h3.area).mono ?_; rintro e w' ⟨rfl, nq, rfl⟩))
  go_ret
  exact ⟨rfl, (h3.drewN nq).has.below⟩
end Go.Proofs.Ytlchlcjahndjgaa
