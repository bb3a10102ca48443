/- script.raw: what bytes a word says. -/
import Derived.Test.YthidjmdcpdhdlaaDoorScF
namespace Go.Proofs.YthidjmdcpdhdlaaDoor
open Go Go.RowKit
set_option linter.unusedVariables false
set_option linter.unusedSimpArgs false
/-- The loop of script.raw: digit by digit. -/
def rawH : List UInt8 → Bool → Nat → List UInt8 → Option (List UInt8)
  | [], _, _, acc => Option.some acc
  | b :: l, odd, h, acc => if hexI (b.toNat : Int) < 0 then Option.none else if odd = true then rawH l false (hexI (b.toNat : Int)).toNat (acc ++ [UInt8.ofNat (16 * h + (hexI (b.toNat : Int)).toNat)]) else rawH l true (hexI (b.toNat : Int)).toNat acc
theorem rawH_eq : ∀ (k : Nat) (l : List UInt8) (h : Nat) (acc : List UInt8), l.length = 2 * k → rawH l false h acc = (rawL l).map (fun r => acc ++ r)
  | 0, l, h, acc, hl => by
    have : l = [] := List.eq_nil_of_length_eq_zero (by omega)
    subst this
    show Option.some acc = Option.some (acc ++ [])
    rw [List.append_nil]
  | k + 1, [], h, acc, hl => by simp at hl
  | k + 1, [_], h, acc, hl => by simp at hl; omega
  | k + 1, a :: b :: l, h, acc, hl => by
    have hll : l.length = 2 * k := by simp at hl; omega
    show (if hexI (a.toNat : Int) < 0 then Option.none else if false = true then _ else rawH (b :: l) true (hexI (a.toNat : Int)).toNat acc) = _
    unfold rawL
    by_cases ha : hexI (a.toNat : Int) < 0
    · rw [if_pos ha, if_pos (Or.inl ha)]; rfl
    · rw [if_neg ha, if_neg (by decide)]
      show (if hexI (b.toNat : Int) < 0 then Option.none else if true = true then rawH l false _ (acc ++ [UInt8.ofNat (16 * (hexI (a.toNat : Int)).toNat + (hexI (b.toNat : Int)).toNat)]) else _) = _
      by_cases hb : hexI (b.toNat : Int) < 0
      · rw [if_pos hb, if_pos (Or.inr hb)]; rfl
      · rw [if_neg hb, if_pos rfl, if_neg (fun q => q.elim ha hb), rawH_eq k l _ _ hll]
        cases rawL l with
        | none => rfl
        | some r => show Option.some (acc ++ [_] ++ r) = Option.some (acc ++ _ :: r); rw [List.append_assoc]; rfl
def rawRet (V : Option (List UInt8)) (e : Ending) (w' : World) : Prop :=
  match V with
  | Option.none => e = .returned (.tuple #[.slice none 0 0, .bool false])
  | Option.some bs => ∃ A c, e = .returned (.tuple #[.slice A bs.length c, .bool true]) ∧ w'.ownsRow 0 5 1 (.slice A bs.length c) bs.length (bs.map u8v)
theorem rawL_odd : ∀ (k : Nat) (l : List UInt8), l.length = 2 * k + 1 → rawL l = Option.none
  | 0, [_], _ => rfl
  | 0, [], h => by simp at h
  | 0, _ :: _ :: _, h => by simp at h
  | k + 1, [], h => by simp at h
  | k + 1, [_], h => by simp at h
  | k + 1, a :: b :: l, h => by
    unfold rawL
    rw [rawL_odd k l (by simp at h; omega)]
    split <;> rfl
end Go.Proofs.YthidjmdcpdhdlaaDoor
