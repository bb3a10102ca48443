/- waterlinelaw14: alive; WearOne: the walk. -/
import Derived.Test.YtlchlcjahndjgaaL14a
namespace Go.Proofs.Ytlchlcjahndjgaa
open Go.RowKit
set_option linter.unusedVariables false
set_option linter.unusedSimpArgs false

theorem al14 : ∃ F0 R, Fl.new ((4 : Nat) : Int) = F0 ∧ F0.wear.length = 4 ∧ Ar.new 4 0 4 3 = R ∧ R.sumLeft F0 R.len = 12 := ⟨_, _, rfl, by kernel_rfl, rfl, by kernel_rfl⟩
theorem alive14_c (w : World) : Calls Try.prog 19 #[] w fun e w' => e = .returned (.bool true) ∧ Below w.heap.size w w' := by
  obtain ⟨F0, R, f0, f1, f2, f3⟩ := al14
  have G0 := Lib.hid f0
  have G1 := Lib.hid f1
  have G2 := Lib.hid f2
  have G3 := Lib.hid f3
  clear f0 f1 f2 f3
  go_enter Try.func19, Try.ntmps19
  go_wp2_with fail
  refine (wsum_nil _).mono ?_
  rintro e w' ⟨rfl, rfl⟩
  go_wp2_with fail
  refine (new_hf 4 (by omega) F0 G0.out (Below.refl w.heap.size w)).mono ?_
  rintro e w1 ⟨fb, bb, wb, rfl, h⟩
  go_wp2_with fail
  refine (anew_h 0 0 4 3 4 G1.out R G2.out h).mono ?_
  rintro e w2 ⟨ab, rfl, h2, -, -⟩
  go_wp2_with fail
  refine (wsum_c _ h2.has.flash h2.area).mono ?_
  rintro e w3 ⟨rfl, q, rfl⟩
  have e3 := G3.out
  go_wp2_with fail
  go_ret
  exact ⟨rfl, (h2.drewN q).has.below⟩

end Go.Proofs.Ytlchlcjahndjgaa
