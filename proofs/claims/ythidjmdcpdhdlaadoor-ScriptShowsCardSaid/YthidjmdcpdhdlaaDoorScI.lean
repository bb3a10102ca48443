/- The reference's digit, may. -/
import Derived.Test.YthidjmdcpdhdlaaDoorScH
namespace Go.Proofs.YthidjmdcpdhdlaaDoor
open Go Go.RowKit
set_option linter.unusedVariables false
set_option linter.unusedSimpArgs false
def digI (r : Int) : Int := if 48 ≤ r ∧ r ≤ 57 then r - 48 else if 97 ≤ r ∧ r ≤ 102 then r - 87 else 99
theorem rdigit_c (c : UInt8) (w : World) : Calls Tryd.prog 36 #[.int .u8 c.toNat] w fun e w' => e = .returned (.int .i64 (digI c.toNat)) ∧ w = w' := by
  obtain ⟨r, hr⟩ : ∃ r : Nat, c.toNat = r := ⟨_, rfl⟩
  have hb : r < 256 := hr ▸ c.toNat_lt
  rw [hr]
  clear hr
  obtain ⟨V, hV⟩ : ∃ V, digI (r : Int) = V := ⟨_, rfl⟩
  rw [hV]
  by_cases h1 : 48 ≤ r
  · by_cases h2 : r ≤ 57
    · have hv : V = (r : Int) - 48 := by rw [← hV]; unfold digI; rw [if_pos (by omega)]
      have e1 : IntKind.u8.wrap ((r : Int) - 48) = (r : Int) - 48 := IntWalk.u8_in _ (by omega)
      have e2 : IntKind.i64.wrap ((r : Int) - 48) = (r : Int) - 48 := IntWalk.i64_in _ (by omega)
      subst hv
      clear hV
      go_enter Tryd.func36, Tryd.ntmps36
      go_wp2_with fail
      all_goals (go_ret; exact ⟨rfl, rfl⟩)
    · by_cases h3 : 97 ≤ r
      · by_cases h4 : r ≤ 102
        · have hv : V = (r : Int) - 97 + 10 := by rw [← hV]; unfold digI; rw [if_neg (by omega), if_pos (by omega)]; omega
          have e1 : IntKind.u8.wrap ((r : Int) - 97) = (r : Int) - 97 := IntWalk.u8_in _ (by omega)
          have e2 : IntKind.i64.wrap ((r : Int) - 97) = (r : Int) - 97 := IntWalk.i64_in _ (by omega)
          have e3 : IntKind.i64.wrap ((r : Int) - 97 + 10) = (r : Int) - 97 + 10 := IntWalk.i64_in _ (by omega)
          subst hv
          clear hV
          go_enter Tryd.func36, Tryd.ntmps36
          go_wp2_with fail
          all_goals (go_ret; exact ⟨rfl, rfl⟩)
        · have hv : V = 99 := by rw [← hV]; unfold digI; rw [if_neg (by omega), if_neg (by omega)]
          subst hv
          clear hV
          go_enter Tryd.func36, Tryd.ntmps36
          go_wp2_with fail
          all_goals (go_ret; exact ⟨rfl, rfl⟩)
      · have hv : V = 99 := by rw [← hV]; unfold digI; rw [if_neg (by omega), if_neg (by omega)]
        subst hv
        clear hV
        go_enter Tryd.func36, Tryd.ntmps36
        go_wp2_with fail
        all_goals (go_ret; exact ⟨rfl, rfl⟩)
  · have hv : V = 99 := by rw [← hV]; unfold digI; rw [if_neg (by omega), if_neg (by omega)]
    subst hv
    clear hV
    go_enter Tryd.func36, Tryd.ntmps36
    go_wp2_with fail
    all_goals (go_ret; exact ⟨rfl, rfl⟩)
theorem rmay21_c (n : Int) (w : World) : Calls Tryd.prog 17 #[.int .i64 n] w fun e w' => e = .returned (.bool (decide (0 ≤ n) && decide (n ≤ 2147483647))) ∧ w = w' := by
  by_cases h1 : 0 ≤ n
  · by_cases h2 : n ≤ 2147483647
    · rw [decide_eq_true h1, decide_eq_true h2]
      go_enter Tryd.func17, Tryd.ntmps17
      go_wp2_with fail
      go_ret
      exact ⟨rfl, rfl⟩
    · rw [decide_eq_true h1, decide_eq_false h2]
      go_enter Tryd.func17, Tryd.ntmps17
      go_wp2_with fail
      go_ret
      exact ⟨rfl, rfl⟩
  · rw [decide_eq_false h1]
    go_enter Tryd.func17, Tryd.ntmps17
    go_wp2_with fail
    go_ret
    exact ⟨rfl, rfl⟩
end Go.Proofs.YthidjmdcpdhdlaaDoor
