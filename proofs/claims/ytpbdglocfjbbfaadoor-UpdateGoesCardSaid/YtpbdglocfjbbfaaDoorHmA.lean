/- hmac.Same. · hmac.pad. · hmac.Tag. -/
import Derived.Test.YtpbdglocfjbbfaaDoorShaC
namespace Go.Proofs.YtpbdglocfjbbfaaDoor
open Go Go.RowKit
set_option linter.unusedVariables false
set_option linter.unusedSimpArgs false
def sameTo (a b : List UInt8) : Nat → UInt8
  | 0 => 0
  | k + 1 => sameTo a b k ||| (a.getD k 0 ^^^ b.getD k 0)
theorem sameTo_zero (a b : List UInt8) (k : Nat) : sameTo a b k = 0 ↔ ∀ i, i < k → a.getD i 0 = b.getD i 0 := by
  induction k with
  | zero => simp [sameTo]
  | succ k ih =>
    rw [sameTo, UInt8.or_eq_zero_iff, UInt8.xor_eq_zero_iff, ih]
    constructor
    · rintro ⟨h1, h2⟩ i hi
      by_cases h : i = k
      · subst h; exact h2
      · exact h1 i (by omega)
    · intro h
      exact ⟨fun i hi => h i (by omega), h k (by omega)⟩
theorem sameTo_eq (a b : List UInt8) (h : a.length = b.length) : (sameTo a b a.length == 0) = (a == b) := by
  rw [Bool.eq_iff_iff, beq_iff_eq, beq_iff_eq, sameTo_zero]
  constructor
  · intro hh
    apply List.ext_getElem h
    intro i h1 h2
    have := hh i h1
    rw [List.getD_eq_getElem?_getD, List.getD_eq_getElem?_getD, List.getElem?_eq_getElem h1, List.getElem?_eq_getElem h2] at this
    exact this
  · rintro rfl i hi; rfl
theorem u8_orxor (x y z : UInt8) : bits .or .u8 (x.toNat : Int) (bits .xor .u8 (y.toNat : Int) (z.toNat : Int)) = ((x ||| (y ^^^ z)).toNat : Int) := by
  rw [u8_xor_nat _ _ y.toNat_lt z.toNat_lt, ← UInt8.toNat_xor, u8_or_nat _ _ x.toNat_lt (y ^^^ z).toNat_lt, ← UInt8.toNat_or]
theorem Reads.cellD {w : World} {b o n : Nat} {l : List UInt8} (h : Reads w (some ⟨b, o, none⟩) n (l.map u8v)) (k : Nat) (hk : k < n) : w.cell? ⟨b, o + k, none⟩ = some (u8v (l.getD k 0)) := by
  have hl : l.length = n := by have := h.1; simpa using this
  refine h.rangeAt k _ ?_
  rw [List.getElem?_map, List.getD_eq_getElem?_getD, List.getElem?_eq_getElem (by omega : k < l.length)]
  rfl
end Go.Proofs.YtpbdglocfjbbfaaDoor
namespace Go.Proofs.YtpbdglocfjbbfaaDoor
open Go Go.RowKit
set_option linter.unusedVariables false
set_option linter.unusedSimpArgs false
/-- A key as a block of 64 bytes. -/
def keyOf (key : List UInt8) : List UInt8 := if 64 < key.length then sha key else key
def keyBlock (key : List UInt8) : List UInt8 := keyOf key ++ List.replicate (64 - (keyOf key).length) 0
def padL (key : List UInt8) (x : UInt8) : List UInt8 := (keyBlock key).map (fun c => c ^^^ x)
theorem keyOf_len (key : List UInt8) : (keyOf key).length ≤ 64 := by
  unfold keyOf; split
  · rw [sha_len]; omega
  · omega
theorem keyBlock_len (key : List UInt8) : (keyBlock key).length = 64 := by
  have := keyOf_len key
  unfold keyBlock; rw [List.length_append, List.length_replicate]; omega
theorem padL_len (key : List UInt8) (x : UInt8) : (padL key x).length = 64 := by unfold padL; rw [List.length_map, keyBlock_len]
def xorTo (l : List UInt8) (x : UInt8) (k : Nat) : List UInt8 := (l.take k).map (fun c => c ^^^ x) ++ l.drop k
theorem xorTo_len (l : List UInt8) (x : UInt8) (k : Nat) : (xorTo l x k).length = l.length := by
  unfold xorTo; rw [List.length_append, List.length_map, List.length_take, List.length_drop]; omega
theorem xorTo_zero (l : List UInt8) (x : UInt8) : xorTo l x 0 = l := by simp [xorTo]
theorem xorTo_all (l : List UInt8) (x : UInt8) : xorTo l x l.length = l.map (fun c => c ^^^ x) := by simp [xorTo]
theorem xorTo_at (l : List UInt8) (x : UInt8) (k : Nat) (hk : k < l.length) : (xorTo l x k).getD k 0 = l.getD k 0 := by
  unfold xorTo
  rw [List.getD_eq_getElem?_getD, List.getElem?_append_right (by simp; omega), List.getElem?_drop, List.length_map, List.length_take, List.getD_eq_getElem?_getD]
  congr 2
  omega
theorem xorTo_succ (l : List UInt8) (x : UInt8) (k : Nat) (hk : k < l.length) : xorTo l x (k + 1) = (xorTo l x k).set k (l.getD k 0 ^^^ x) := by
  apply List.ext_getElem?
  intro i
  rw [List.getElem?_set, xorTo_len]
  have hg : l.getD k 0 = l[k] := by rw [List.getD_eq_getElem?_getD, List.getElem?_eq_getElem hk]; rfl
  unfold xorTo
  by_cases h : k = i
  · subst h
    rw [if_pos rfl, if_pos hk, List.getElem?_append_left (by simp; omega), List.getElem?_map, List.getElem?_take, if_pos (by omega), List.getElem?_eq_getElem hk, hg]
    rfl
  · rw [if_neg h]
    by_cases h2 : i < k
    · rw [List.getElem?_append_left (by simp; omega), List.getElem?_append_left (by simp; omega), List.getElem?_map, List.getElem?_map, List.getElem?_take, List.getElem?_take, if_pos (by omega), if_pos (by omega)]
    · rw [List.getElem?_append_right (by simp; omega), List.getElem?_append_right (by simp; omega), List.getElem?_drop, List.getElem?_drop]
      simp only [List.length_map, List.length_take]
      congr 1
      omega
theorem set_bytes (l : List UInt8) (k : Nat) (v : UInt8) : ((l.map u8v).toArray).setIfInBounds k (u8v v) = (((l.set k v).map u8v)).toArray := by
  apply Array.ext'
  simp [List.map_set]
theorem u8_xorc (y z : UInt8) : bits .xor .u8 (y.toNat : Int) (z.toNat : Int) = ((y ^^^ z).toNat : Int) := by
  rw [u8_xor_nat _ _ y.toNat_lt z.toNat_lt, ← UInt8.toNat_xor]
theorem Reads.src {w : World} {A : Option Addr} {n : Nat} {xs : List Value} (h : Reads w A n xs) : 0 < xs.length → ∃ x, A = some x ∧ ∀ j v, xs[j]? = some v → w.cell? (x.add j) = some v := by
  intro hn
  obtain ⟨b, o, e, _, hc⟩ := h.2 (by have := h.1; omega)
  exact ⟨_, e, fun j v hv => by rw [add_off]; exact hc j v hv⟩
theorem info_s8 : (Tryd.prog.info? 5).map (·.size) = some 1 := by kernel_rfl
end Go.Proofs.YtpbdglocfjbbfaaDoor
namespace Go.Proofs.YtpbdglocfjbbfaaDoor
open Go Go.RowKit
set_option linter.unusedVariables false
set_option linter.unusedSimpArgs false
def tagL (key b : List UInt8) : List UInt8 := sha (padL key 92 ++ sha (padL key 54 ++ b))
theorem tagL_len (key b : List UInt8) : (tagL key b).length = 32 := sha_len _
section
variable {w wi wj : World} {s1 s2 : Nat} {l1 l2 : List UInt8} {A : Option Addr} {n : Nat} {key : List UInt8} {B : Option Addr} {m : Nat} {b : List UInt8}
end
end Go.Proofs.YtpbdglocfjbbfaaDoor
