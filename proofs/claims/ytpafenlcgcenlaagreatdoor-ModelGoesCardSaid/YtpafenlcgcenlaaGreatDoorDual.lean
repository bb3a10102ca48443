/- dual.Put and dual.Get. -/
import Derived.Test.YtpafenlcgcenlaaGreatDoorStr
import Derived.Test.YtpafenlcgcenlaaGreatDoorNorB
namespace Go.Proofs.YtpafenlcgcenlaaGreatDoor
open Go.RowKit
set_option linter.unusedVariables false
set_option linter.unusedSimpArgs false
/-- Each byte, and it with all its bits turned. -/
def dualP : List UInt8 → List UInt8
  | [] => []
  | b :: l => b :: (b ^^^ 255) :: dualP l
/-- Are these bytes such? -/
def dualOk : List UInt8 → Bool
  | [] => true
  | [_] => false
  | a :: b :: l => a == (b ^^^ 255) && dualOk l
def evens : List UInt8 → List UInt8
  | a :: _ :: l => a :: evens l
  | _ => []
theorem dualP_len (l : List UInt8) : (dualP l).length = 2 * l.length := by
  induction l with
  | nil => rfl
  | cons b l ih => simp [dualP, ih]; omega
theorem dualP_append (l m : List UInt8) : dualP (l ++ m) = dualP l ++ dualP m := by
  induction l with
  | nil => rfl
  | cons b l ih => simp [dualP, ih]
theorem dualP_step (l : List UInt8) (k : Nat) (hk : k < l.length) : dualP (l.take (k + 1)) = dualP (l.take k) ++ [l[k], l[k] ^^^ 255] := by
  rw [List.take_add_one, List.getElem?_eq_getElem hk, dualP_append]
  rfl
theorem evens_len : ∀ l : List UInt8, (evens l).length = l.length / 2
  | [] => rfl
  | [_] => by simp [evens]
  | a :: b :: l => by simp [evens, evens_len l]; omega
theorem evens_step : ∀ (l : List UInt8) (k : Nat) (hk : 2 * k + 1 < l.length), evens (l.take (2 * (k + 1))) = evens (l.take (2 * k)) ++ [l[2 * k]]
  | [], k, hk => by simp at hk
  | [_], k, hk => by simp at hk
  | a :: b :: l, 0, hk => by simp [evens]
  | a :: b :: l, k + 1, hk => by
    have h := evens_step l k (by simp at hk; omega)
    have e1 : (a :: b :: l).take (2 * (k + 1 + 1)) = a :: b :: l.take (2 * (k + 1)) := by rw [show 2 * (k + 1 + 1) = 2 * (k + 1) + 1 + 1 by omega]; rfl
    have e2 : (a :: b :: l).take (2 * (k + 1)) = a :: b :: l.take (2 * k) := by rw [show 2 * (k + 1) = 2 * k + 1 + 1 by omega]; rfl
    have e3 : (a :: b :: l)[2 * (k + 1)] = l[2 * k]'(by simp at hk; omega) := by simp [show 2 * (k + 1) = 2 * k + 1 + 1 by omega]
    rw [e1, e2, e3]
    show a :: evens (l.take (2 * (k + 1))) = a :: evens (l.take (2 * k)) ++ [_]
    rw [h]
    rfl
theorem dualOk_step : ∀ (l : List UInt8) (k : Nat) (hk : 2 * k + 1 < l.length), dualOk (l.drop (2 * k)) = (l[2 * k] == (l[2 * k + 1] ^^^ 255) && dualOk (l.drop (2 * (k + 1))))
  | [], k, hk => by simp at hk
  | [_], k, hk => by simp at hk
  | a :: b :: l, 0, hk => by simp [dualOk]
  | a :: b :: l, k + 1, hk => by
    have h := dualOk_step l k (by simp at hk; omega)
    have e1 : (a :: b :: l).drop (2 * (k + 1 + 1)) = l.drop (2 * (k + 1)) := by rw [show 2 * (k + 1 + 1) = 2 * (k + 1) + 1 + 1 by omega]; rfl
    have e2 : (a :: b :: l).drop (2 * (k + 1)) = l.drop (2 * k) := by rw [show 2 * (k + 1) = 2 * k + 1 + 1 by omega]; rfl
    have e3 : (a :: b :: l)[2 * (k + 1)] = l[2 * k]'(by simp at hk; omega) := by simp [show 2 * (k + 1) = 2 * k + 1 + 1 by omega]
    have e4 : (a :: b :: l)[2 * (k + 1) + 1] = l[2 * k + 1]'(by simp at hk; omega) := by simp [show 2 * (k + 1) + 1 = 2 * k + 1 + 1 + 1 by omega]
    rw [e1, e2, e3, e4, h]
theorem dualOk_odd : ∀ l : List UInt8, l.length % 2 = 1 → dualOk l = false
  | [], h => by simp at h
  | [_], _ => rfl
  | a :: b :: l, h => by simp [dualOk, dualOk_odd l (by simp at h; omega)]
theorem dualOk_dualP (l : List UInt8) : dualOk (dualP l) = true := by
  induction l with
  | nil => rfl
  | cons b l ih => simp [dualP, dualOk, ih, UInt8.xor_assoc]
theorem evens_dualP (l : List UInt8) : evens (dualP l) = l := by
  induction l with
  | nil => rfl
  | cons b l ih => simp [dualP, evens, ih]
theorem u8_not (c : UInt8) : bits .xor .u8 IntKind.u8.max (c.toNat : Int) = ((c ^^^ 255).toNat : Int) := by
  have := u8_xor_nat 255 c.toNat (by omega) c.toNat_lt
  rw [UInt8.toNat_xor, Nat.xor_comm]
  exact this
theorem pairCells (a b : UInt8) : (#[u8v a, u8v b] : Array Value) = (([a, b] : List UInt8).map u8v).toArray := rfl
end Go.Proofs.YtpafenlcgcenlaaGreatDoor
