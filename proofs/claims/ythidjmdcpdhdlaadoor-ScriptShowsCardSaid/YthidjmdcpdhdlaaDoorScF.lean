/- Bytes in base 16 (plain). -/
import Derived.Test.YthidjmdcpdhdlaaDoorScC
namespace Go.Proofs.YthidjmdcpdhdlaaDoor
open Go Go.RowKit
set_option linter.unusedVariables false
set_option linter.unusedSimpArgs false
/-- The digit of a number below 16. -/
def dig (n : Nat) : UInt8 := if n < 10 then UInt8.ofNat (48 + n) else UInt8.ofNat (87 + n)
theorem hexI_dig : ∀ n : Fin 16, hexI ((dig n.val).toNat : Int) = (n.val : Int) := by decide
/-- Bytes as text. -/
def hexOf : List UInt8 → List UInt8
  | [] => []
  | b :: l => dig (b.toNat / 16) :: dig (b.toNat % 16) :: hexOf l
/-- What bytes a text says, two digits a byte. -/
def rawL : List UInt8 → Option (List UInt8)
  | [] => Option.some []
  | [_] => Option.none
  | a :: b :: l => if hexI (a.toNat : Int) < 0 ∨ hexI (b.toNat : Int) < 0 then Option.none else (rawL l).map (fun r => UInt8.ofNat (16 * (hexI (a.toNat : Int)).toNat + (hexI (b.toNat : Int)).toNat) :: r)
/-- What bytes a word says. -/
def rawS (l : List UInt8) : Option (List UInt8) := if l = [45] then Option.some [] else if l = [] then Option.none else rawL l
/-- What text a word of bytes is. -/
def hexS (l : List UInt8) : List UInt8 := if l = [] then [45] else hexOf l
theorem rawL_hex : ∀ l : List UInt8, rawL (hexOf l) = Option.some l
  | [] => rfl
  | b :: l => by
    have hb : b.toNat < 256 := b.toNat_lt
    have h1 := hexI_dig ⟨b.toNat / 16, by omega⟩
    have h2 := hexI_dig ⟨b.toNat % 16, by omega⟩
    dsimp only at h1 h2
    show (if hexI ((dig (b.toNat / 16)).toNat : Int) < 0 ∨ hexI ((dig (b.toNat % 16)).toNat : Int) < 0 then Option.none else (rawL (hexOf l)).map (fun r => UInt8.ofNat (16 * (hexI ((dig (b.toNat / 16)).toNat : Int)).toNat + (hexI ((dig (b.toNat % 16)).toNat : Int)).toNat) :: r)) = _
    rw [h1, h2, if_neg (by omega), rawL_hex l]
    show Option.some (UInt8.ofNat (16 * (b.toNat / 16) + b.toNat % 16) :: l) = _
    rw [show 16 * (b.toNat / 16) + b.toNat % 16 = b.toNat from by omega, UInt8.ofNat_toNat]
theorem hexOf_len : ∀ l : List UInt8, (hexOf l).length = 2 * l.length
  | [] => rfl
  | b :: l => by
    show (hexOf l).length + 1 + 1 = 2 * (l.length + 1)
    rw [hexOf_len l]
    omega
theorem rawS_hex (l : List UInt8) : rawS (hexS l) = Option.some l := by
  unfold rawS hexS
  by_cases h : l = []
  · rw [if_pos h, if_pos rfl, h]
  · have hl : 0 < l.length := List.length_pos_iff.2 h
    have hx := hexOf_len l
    rw [if_neg h, if_neg (fun e => by rw [e] at hx; simp at hx; omega), if_neg (fun e => by rw [e] at hx; simp at hx; omega), rawL_hex]
theorem rawL_len : ∀ (l r : List UInt8), rawL l = Option.some r → l.length = 2 * r.length
  | [], r, h => by cases h; rfl
  | [_], r, h => by cases h
  | a :: b :: l, r, h => by
    unfold rawL at h
    split at h
    · cases h
    · cases hr : rawL l with
      | none => rw [hr] at h; cases h
      | some q =>
        rw [hr] at h
        cases h
        have := rawL_len l q hr
        simp only [List.length_cons, this]
        omega
end Go.Proofs.YthidjmdcpdhdlaaDoor
