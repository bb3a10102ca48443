/- waterlinelaw7.AreaBudget: all inputs. -/
import Derived.Test.YtaanefgkmjdknaaL7d
namespace Go.Proofs.Ytaanefgkmjdknaa
open Go.RowKit
set_option linter.unusedVariables false
set_option linter.unusedSimpArgs false

set_option maxRecDepth 100000 in
set_option maxHeartbeats 1000000 in
theorem areaBudget_off (b : Int) (A : Option Addr) (k c : Nat) (w : World) (hk : (k : Int) ≤ 9223372036854775807) (hg : b < 0 ∨ 20 < b ∨ 100 < k) :
    Calls Try.prog 8 #[.int .i64 b, .slice A k c] w fun e w' => e = .returned (.bool true) ∧ Below w.heap.size w w' := by
  by_cases g0 : b < 0
  · clear hg
    go_enter Try.func8, Try.ntmps8
    go_wp2_with (go_at_call 27; refine (alive7_c _).mono ?_; rintro e w1 ⟨rfl, hb⟩)
    go_ret
    exact ⟨rfl, hb⟩
  · by_cases g1 : 20 < b
    · clear hg
      go_enter Try.func8, Try.ntmps8
      go_wp2_with (go_at_call 27; refine (alive7_c _).mono ?_; rintro e w1 ⟨rfl, hb⟩)
      go_ret
      exact ⟨rfl, hb⟩
    · have g2 : 100 < k := by omega
      clear hg
      go_enter Try.func8, Try.ntmps8
      go_wp2_with (go_at_call 27; refine (alive7_c _).mono ?_; rintro e w1 ⟨rfl, hb⟩)
      go_ret
      exact ⟨rfl, hb⟩

theorem areaBudget_c (b : Int) (A : Option Addr) (k c : Nat) (l : List Int) (w : World) (hk : (k : Int) ≤ 9223372036854775807) (r : Reads w A k (l.map i64v)) :
    Calls Try.prog 8 #[.int .i64 b, .slice A k c] w fun e w' => e = .returned (.bool true) ∧ Below w.heap.size w w' := by
  by_cases hg : b < 0 ∨ 20 < b ∨ 100 < k
  · exact areaBudget_off b A k c w hk hg
  · have hl : l.length = k := by simpa using r.len
    subst hl
    exact areaBudget_in b (by omega) (by omega) A c l (by omega) w r
end Go.Proofs.Ytaanefgkmjdknaa
