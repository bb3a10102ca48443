/- strings.IndexRune over the sixteen digits: which digit a rune is. -/
import Derived.Test.YthidjmdcpdhdlaaDoorScB
namespace Go.Proofs.YthidjmdcpdhdlaaDoor
open Go Go.RowKit
set_option linter.unusedVariables false
set_option linter.unusedSimpArgs false
/-- Which digit of base 16 a rune is; -1: it is none. -/
def hexI (r : Int) : Int := if 48 ≤ r ∧ r ≤ 57 then r - 48 else if 97 ≤ r ∧ r ≤ 102 then r - 87 else -1
theorem hexI_low : ∀ n : Fin 128, Lib.indexByte hexD.data.toList (((n.val : Int).toNat).toUInt8) = hexI (n.val : Int) := of_decide_eq_true (by kernel_rfl)
theorem idxRune_c (r : Int) (h : 0 ≤ r ∧ r ≤ 2147483647) (w : World) : Calls Tryd.prog 35 #[.string hexD, .int .i32 r] w fun e w' => e = .returned (.int .i64 (hexI r)) ∧ Below w.heap.size w w' := by
  by_cases h1 : r < 128
  · have q := Tryd.strings_IndexRune_ascii hexD r w h.1 h1
    obtain ⟨n, hn⟩ : ∃ n : Nat, r = n := ⟨r.toNat, by omega⟩
    subst hn
    have hl := hexI_low ⟨n, by omega⟩
    dsimp only at hl
    rw [hl] at q
    exact q.mono fun e w' hh => ⟨hh.1, by rw [hh.2]; exact Below.refl _ _⟩
  · have q := idxRuneHi_c r ⟨by omega, h.2⟩ w
    have hx : hexI r = -1 := by
      unfold hexI
      rw [if_neg (by omega), if_neg (by omega)]
    rw [hx]
    exact q
theorem hexI_range (r : Int) : hexI r = -1 ∨ (0 ≤ hexI r ∧ hexI r < 16) := by
  unfold hexI
  split
  · right; omega
  · split
    · right; omega
    · left; rfl
end Go.Proofs.YthidjmdcpdhdlaaDoor
