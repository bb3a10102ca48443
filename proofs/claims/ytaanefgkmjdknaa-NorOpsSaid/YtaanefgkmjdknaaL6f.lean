/- waterlinelaw6.NorOps: all inputs. -/
import Derived.Test.YtaanefgkmjdknaaL6e
namespace Go.Proofs.Ytaanefgkmjdknaa
open Go.RowKit
set_option linter.unusedVariables false
set_option linter.unusedSimpArgs false

theorem norOps_off (n : Int) (A : Option Addr) (k c : Nat) (w : World) (hk : (k : Int) ≤ 9223372036854775807) (hg : n < 0 ∨ 20 < n ∨ 40 < k) :
    Calls Try.prog 5 #[.int .i64 n, .slice A k c] w fun e w' => e = .returned (.bool true) ∧ Below w.heap.size w w' := by
  by_cases h1 : n < 0
  · go_enter Try.func5, Try.ntmps5
    go_wp2_with (go_at_call 10; refine (alive6_c _).mono ?_; rintro e w1 ⟨rfl, hb⟩)
    go_ret
    exact ⟨rfl, hb⟩
  · by_cases h2 : 20 < n
    · go_enter Try.func5, Try.ntmps5
      go_wp2_with (go_at_call 10; refine (alive6_c _).mono ?_; rintro e w1 ⟨rfl, hb⟩)
      go_ret
      exact ⟨rfl, hb⟩
    · have h3 : 40 < k := by omega
      go_enter Try.func5, Try.ntmps5
      go_wp2_with (go_at_call 10; refine (alive6_c _).mono ?_; rintro e w1 ⟨rfl, hb⟩)
      go_ret
      exact ⟨rfl, hb⟩

theorem norOps_c (n : Int) (A : Option Addr) (k c : Nat) (l : List Int) (w : World) (hk : (k : Int) ≤ 9223372036854775807) (r : Reads w A k (l.map i64v)) :
    Calls Try.prog 5 #[.int .i64 n, .slice A k c] w fun e w' => e = .returned (.bool true) ∧ Below w.heap.size w w' := by
  by_cases hg : n < 0 ∨ 20 < n ∨ 40 < k
  · exact norOps_off n A k c w hk hg
  · obtain ⟨N, rfl⟩ := Int.eq_ofNat_of_zero_le (show 0 ≤ n by omega)
    have hl : l.length = k := by simpa using r.len
    subst hl
    exact norOps_in N (by omega) A c l (by omega) w r
end Go.Proofs.Ytaanefgkmjdknaa
