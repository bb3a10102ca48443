/- waterlinelaw6.NorCuts: all inputs. -/
import Derived.Test.YtaanefgkmjdknaaL6i
namespace Go.Proofs.Ytaanefgkmjdknaa
open Go.RowKit
set_option linter.unusedVariables false
set_option linter.unusedSimpArgs false

set_option maxRecDepth 100000 in
set_option maxHeartbeats 2000000 in
theorem norCuts_off (A0 A1 A2 : Option Addr) (n0 n1 n2 c0 c1 c2 : Nat) (t : Bool) (w : World) (k0 : (n0 : Int) ≤ 9223372036854775807) (k1 : (n1 : Int) ≤ 9223372036854775807) (k2 : (n2 : Int) ≤ 9223372036854775807)
    (hg : n1 < 1 ∨ 320 < n1 ∨ n0 < n1 ∨ 320 < n0 ∨ 40 < n2) :
    Calls Try.prog 3 #[.slice A0 n0 c0, .slice A1 n1 c1, .slice A2 n2 c2, .bool t] w fun e w' => e = .returned (.bool true) ∧ Below w.heap.size w w' := by
  by_cases g0 : n1 < 1
  · go_enter Try.func3, Try.ntmps3
    go_wp2_with (go_at_call 10; refine (alive6_c _).mono ?_; rintro e w1 ⟨rfl, hb⟩)
    go_ret
    exact ⟨rfl, hb⟩
  · by_cases g1 : 320 < n1
    · go_enter Try.func3, Try.ntmps3
      go_wp2_with (go_at_call 10; refine (alive6_c _).mono ?_; rintro e w1 ⟨rfl, hb⟩)
      go_ret
      exact ⟨rfl, hb⟩
    · by_cases g2 : n0 < n1
      · go_enter Try.func3, Try.ntmps3
        go_wp2_with (go_at_call 10; refine (alive6_c _).mono ?_; rintro e w1 ⟨rfl, hb⟩)
        go_ret
        exact ⟨rfl, hb⟩
      · by_cases g3 : 320 < n0
        · go_enter Try.func3, Try.ntmps3
          go_wp2_with (go_at_call 10; refine (alive6_c _).mono ?_; rintro e w1 ⟨rfl, hb⟩)
          go_ret
          exact ⟨rfl, hb⟩
        · have g4 : 40 < n2 := by omega
          go_enter Try.func3, Try.ntmps3
          go_wp2_with (go_at_call 10; refine (alive6_c _).mono ?_; rintro e w1 ⟨rfl, hb⟩)
          go_ret
          exact ⟨rfl, hb⟩

theorem norCuts_c (A0 A1 A2 : Option Addr) (n0 n1 n2 c0 c1 c2 : Nat) (old b mask : List UInt8) (t : Bool) (w : World) (k0 : (n0 : Int) ≤ 9223372036854775807) (k1 : (n1 : Int) ≤ 9223372036854775807) (k2 : (n2 : Int) ≤ 9223372036854775807)
    (r0 : Reads w A0 n0 (old.map u8v)) (r1 : Reads w A1 n1 (b.map u8v)) (r2 : Reads w A2 n2 (mask.map u8v)) :
    Calls Try.prog 3 #[.slice A0 n0 c0, .slice A1 n1 c1, .slice A2 n2 c2, .bool t] w fun e w' => e = .returned (.bool true) ∧ Below w.heap.size w w' := by
  by_cases hg : n1 < 1 ∨ 320 < n1 ∨ n0 < n1 ∨ 320 < n0 ∨ 40 < n2
  · exact norCuts_off A0 A1 A2 n0 n1 n2 c0 c1 c2 t w k0 k1 k2 hg
  · have l0 : old.length = n0 := by simpa using r0.len
    have l1 : b.length = n1 := by simpa using r1.len
    have l2 : mask.length = n2 := by simpa using r2.len
    subst l0 l1 l2
    cases t
    · exact norCuts_false A0 A1 A2 c0 c1 c2 old b mask w r0 r1 r2 (by omega) (by omega) (by omega) (by omega) (by omega)
    · exact norCuts_true A0 A1 A2 c0 c1 c2 old b mask w r0 r1 r2 (by omega) (by omega) (by omega) (by omega) (by omega)
end Go.Proofs.Ytaanefgkmjdknaa
