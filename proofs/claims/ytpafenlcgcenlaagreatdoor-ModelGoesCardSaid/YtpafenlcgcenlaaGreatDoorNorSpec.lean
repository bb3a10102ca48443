/- What a flash is, as plain data, and what its calls do: no program in sight. -/
import Derived.Test.YtpafenlcgcenlaaGreatDoorMem
namespace Go.Proofs.YtpafenlcgcenlaaGreatDoor
open Go.RowKit
set_option linter.unusedVariables false

structure Fl where
  b : List UInt8
  wear : List Int
  cut : Int
  mask : List UInt8
  off : Bool
  ops : Int
  /-- Of no cell: blocks in which the mask does not lie. -/
  far : List Nat := []

namespace Fl
structure Ok (F : Fl) : Prop where
  len : F.b.length = 320 * F.wear.length
  most : F.wear.length ≤ 400
  cut0 : -1 ≤ F.cut
  cut1 : F.cut ≤ 9223372036854775807
  mask : F.mask.length ≤ 140737488351232
  wear : ∀ x ∈ F.wear, 0 ≤ x ∧ x ≤ 4611686018427387904

def stays (F : Fl) (i : Nat) (cut : Bool) : UInt8 := if cut = true ∧ F.mask ≠ [] then F.mask.getD (i % F.mask.length) 0 else 0
end Fl
def mixB (x c m : UInt8) : UInt8 := x ^^^ ((x ^^^ c) &&& ~~~m)
/-- 'bs' laid over 'b' from place 'at_' on; of each byte the bits of 'm' stay. -/
def laid (b : List UInt8) (at_ : Nat) (bs : List UInt8) (m : Nat → UInt8) : List UInt8 :=
  b.mapIdx fun j x => if at_ ≤ j ∧ j < at_ + bs.length then mixB x (bs.getD (j - at_) 0) (m (j - at_)) else x

theorem laid_length (b : List UInt8) (at_ : Nat) (bs : List UInt8) (m : Nat → UInt8) : (laid b at_ bs m).length = b.length := by simp [laid]
theorem laid_get (b : List UInt8) (at_ : Nat) (bs : List UInt8) (m : Nat → UInt8) (j : Nat) (hj : j < (laid b at_ bs m).length) :
    (laid b at_ bs m)[j] = if at_ ≤ j ∧ j < at_ + bs.length then mixB (b[j]'(by simpa [laid] using hj)) (bs.getD (j - at_) 0) (m (j - at_)) else b[j]'(by simpa [laid] using hj) := by
  simp [laid]
theorem laid_nil (b : List UInt8) (at_ : Nat) (m : Nat → UInt8) : laid b at_ [] m = b := by
  apply List.ext_getElem (by simp [laid])
  intro j h1 h2
  rw [laid_get, if_neg (by rw [List.length_nil]; omega)]
theorem laid_step (b : List UInt8) (at_ : Nat) (bs : List UInt8) (m : Nat → UInt8) (i : Nat) (hi : i < bs.length) (hb : at_ + bs.length ≤ b.length) :
    (laid b at_ (bs.take i) m).set (at_ + i) (mixB (b[at_ + i]'(by omega)) bs[i] (m i)) = laid b at_ (bs.take (i + 1)) m := by
  apply List.ext_getElem (by simp [laid_length])
  intro j h1 h2
  simp only [List.length_set, laid_length] at h1
  rw [List.getElem_set]
  split
  · rename_i e
    subst e
    rw [laid_get, if_pos (by simp; omega)]
    congr 1
    · rw [List.getD_eq_getElem?_getD, List.getElem?_take, if_pos (by omega)]
      simp [hi]
    · rw [show at_ + i - at_ = i by omega]
  · rename_i e
    rw [laid_get, laid_get]
    by_cases c : at_ ≤ j ∧ j < at_ + i
    · rw [if_pos (by simp; omega), if_pos (by simp; omega)]
      congr 1
      simp only [List.getD_eq_getElem?_getD, List.getElem?_take]
      rw [if_pos (by omega), if_pos (by omega)]
    · rw [if_neg (by simp; omega), if_neg (by simp; omega)]
theorem laid_now (b : List UInt8) (at_ : Nat) (bs : List UInt8) (m : Nat → UInt8) (i : Nat) (hi : i < bs.length) (hb : at_ + bs.length ≤ b.length) :
    (laid b at_ (bs.take i) m)[at_ + i]'(by rw [laid_length]; omega) = b[at_ + i]'(by omega) := by
  rw [laid_get, if_neg (by simp; omega)]

namespace Fl
def within (F : Fl) (at_ n : Int) : Bool := decide (0 ≤ at_) && decide (at_ + n ≤ 320 * (F.wear.length : Int))
def is (F : Fl) (s : Int) : Bool := decide (0 ≤ s) && decide (s < (F.wear.length : Int))
def work (F : Fl) (at_ : Nat) (bs : List UInt8) : Fl :=
  { F with b := laid F.b at_ bs (fun i => F.stays i (F.cut == 0)), cut := if 0 ≤ F.cut then F.cut - 1 else F.cut, off := F.off || F.cut == 0, ops := wrap64 (F.ops + 1) }
def workE (F : Fl) : Int := if F.cut == 0 then 4 else 0
/-- May all of these bytes be made, with no bit to be set? -/
def may (F : Fl) (at_ : Nat) (bs : List UInt8) : Bool := (List.range bs.length).all fun i => bs.getD i 0 &&& ~~~(F.b.getD (at_ + i) 0) == 0
def programE (F : Fl) (at_ : Int) (bs : List UInt8) : Int :=
  if F.off then 4 else if F.within at_ bs.length then (if F.may at_.toNat bs then F.workE else 3) else 2
def program (F : Fl) (at_ : Int) (bs : List UInt8) : Fl :=
  if F.off then F else if F.within at_ bs.length then (if F.may at_.toNat bs then F.work at_.toNat bs else F) else F
def worn (F : Fl) (s : Nat) : Fl := { F with wear := F.wear.set s (F.wear.getD s 0 + 1) }
def eraseE (F : Fl) (s : Int) : Int := if F.off then 4 else if F.is s then F.workE else 2
def erase (F : Fl) (s : Int) : Fl := if F.off then F else if F.is s then (F.worn s.toNat).work (s.toNat * 320) (List.replicate 320 255) else F
def read (F : Fl) (at_ n : Int) : List UInt8 := if 1 ≤ n ∧ F.within at_ n = true then (F.b.drop at_.toNat).take n.toNat else []
def wearAt (F : Fl) (s : Int) : Int := if F.is s then F.wear.getD s.toNat 0 else 0
def blank (F : Fl) (s : Int) : Bool := F.is s && ((F.b.drop (s.toNat * 320)).take 320).all (· == 255)
def setCut (F : Fl) (n : Int) (mask : List UInt8) : Fl := { F with cut := max 0 n, mask := mask }
def power (F : Fl) : Fl := { F with off := false, cut := -1 }
def new (n : Int) : Fl := { b := List.replicate ((max 0 (min n 400)).toNat * 320) 255, wear := List.replicate (max 0 (min n 400)).toNat 0, cut := -1, mask := [], off := false, ops := 0 }

theorem worn_ok {F : Fl} (h : F.Ok) (s : Nat) (hm : F.wear.getD s 0 ≤ 4611686018427387903) : (F.worn s).Ok := by
  refine ⟨by simp [worn, h.len], by simp [worn, h.most], h.cut0, h.cut1, h.mask, ?_⟩
  intro x hx
  rcases List.mem_or_eq_of_mem_set hx with h1 | h1
  · exact h.wear x h1
  · subst h1
    by_cases hs : s < F.wear.length
    · have := h.wear _ (List.getElem_mem hs)
      simp only [List.getD_eq_getElem?_getD, List.getElem?_eq_getElem hs, Option.getD_some] at hm ⊢; omega
    · simp only [List.getD_eq_getElem?_getD, List.getElem?_eq_none (Nat.le_of_not_lt hs), Option.getD_none]; omega
theorem work_ok {F : Fl} (h : F.Ok) (at_ : Nat) (bs : List UInt8) : (F.work at_ bs).Ok := by
  refine ⟨by simp [work, laid_length, h.len], by simp [work, h.most], ?_, ?_, h.mask, h.wear⟩
  · show -1 ≤ (if 0 ≤ F.cut then F.cut - 1 else F.cut); split <;> have := h.cut0 <;> omega
  · show (if 0 ≤ F.cut then F.cut - 1 else F.cut) ≤ _; split <;> have := h.cut1 <;> omega
theorem setCut_ok {F : Fl} (h : F.Ok) (n : Int) (hn : n ≤ 9223372036854775807) (mask : List UInt8) (hm : mask.length ≤ 140737488351232) : (F.setCut n mask).Ok :=
  ⟨h.len, h.most, by show -1 ≤ max 0 n; omega, by show max 0 n ≤ _; omega, hm, h.wear⟩
theorem power_ok {F : Fl} (h : F.Ok) : F.power.Ok := ⟨h.len, h.most, by show (-1 : Int) ≤ -1; omega, by show (-1 : Int) ≤ _; omega, h.mask, h.wear⟩
theorem new_ok (n : Int) : (Fl.new n).Ok := by
  refine ⟨by simp [new, Nat.mul_comm], by simp [new]; omega, by simp [new], by simp [new], by simp [new], ?_⟩
  intro x hx
  simp [new] at hx
  simp [hx]
end Fl

section
variable {w w' : World} {fb bb wb : Nat} {F : Fl} {S : List Nat}
end
end Go.Proofs.YtpafenlcgcenlaaGreatDoor
