/- waterlinelaw17.UpdateStates: which request may be when. -/
import Derived.Test.YtpbdglocfjbbfaaDoorL17c0
import Derived.Test.YtpbdglocfjbbfaaDoorL17c1
import Derived.Test.YtpbdglocfjbbfaaDoorL17c2
import Derived.Test.YtpbdglocfjbbfaaDoorL17c3
namespace Go.Proofs.YtpbdglocfjbbfaaDoor
open Go Go.RowKit
set_option linter.unusedVariables false
set_option maxRecDepth 100000 in
set_option maxHeartbeats 4000000 in
theorem updStates_out (p k t : Int) (h : p < 0 ∨ 3 < p ∨ k < 2 ∨ 10 < k ∨ t < 0 ∨ 2 < t) (w : World) : Calls Tryd.prog 7 #[.int .i64 p, .int .i64 k, .int .i64 t] w fun e w' => e = .returned (.bool true) ∧ Below w.heap.size w w' := by
  by_cases h0 : p < 0
  · clear h
    go_enter Tryd.func7, Tryd.ntmps7
    go_wp2_with fail
    refine (alive17_c w).mono ?_
    rintro e w1 ⟨rfl, hb1⟩
    go_wp2_with fail
    go_ret
    exact ⟨rfl, hb1⟩
  by_cases h1 : 3 < p
  · clear h
    go_enter Tryd.func7, Tryd.ntmps7
    go_wp2_with fail
    refine (alive17_c w).mono ?_
    rintro e w1 ⟨rfl, hb1⟩
    go_wp2_with fail
    go_ret
    exact ⟨rfl, hb1⟩
  by_cases h2 : k < 2
  · clear h
    go_enter Tryd.func7, Tryd.ntmps7
    go_wp2_with fail
    refine (alive17_c w).mono ?_
    rintro e w1 ⟨rfl, hb1⟩
    go_wp2_with fail
    go_ret
    exact ⟨rfl, hb1⟩
  by_cases h3 : 10 < k
  · clear h
    go_enter Tryd.func7, Tryd.ntmps7
    go_wp2_with fail
    refine (alive17_c w).mono ?_
    rintro e w1 ⟨rfl, hb1⟩
    go_wp2_with fail
    go_ret
    exact ⟨rfl, hb1⟩
  by_cases h4 : t < 0
  · clear h
    go_enter Tryd.func7, Tryd.ntmps7
    go_wp2_with fail
    refine (alive17_c w).mono ?_
    rintro e w1 ⟨rfl, hb1⟩
    go_wp2_with fail
    go_ret
    exact ⟨rfl, hb1⟩
  have h5 : 2 < t := by omega
  clear h
  go_enter Tryd.func7, Tryd.ntmps7
  go_wp2_with fail
  refine (alive17_c w).mono ?_
  rintro e w1 ⟨rfl, hb1⟩
  go_wp2_with fail
  go_ret
  exact ⟨rfl, hb1⟩
theorem updStates_c (p k t : Int) (w : World) : Calls Tryd.prog 7 #[.int .i64 p, .int .i64 k, .int .i64 t] w fun e w' => e = .returned (.bool true) ∧ Below w.heap.size w w' := by
  by_cases h : p < 0 ∨ 3 < p ∨ k < 2 ∨ 10 < k ∨ t < 0 ∨ 2 < t
  · exact updStates_out p k t h w
  · have hp : p = 0 ∨ p = 1 ∨ p = 2 ∨ p = 3 := by omega
    rcases hp with rfl | rfl | rfl | rfl
    · exact updStates0_c k t (by omega) (by omega) (by omega) (by omega) w
    · exact updStates1_c k t (by omega) (by omega) (by omega) (by omega) w
    · exact updStates2_c k t (by omega) (by omega) (by omega) (by omega) w
    · exact updStates3_c k t (by omega) (by omega) (by omega) (by omega) w
end Go.Proofs.YtpbdglocfjbbfaaDoor
