/- hmac.Same. -/
import Derived.Test.YtocbahahienigaaDoorShaC
namespace Go.Proofs.YtocbahahienigaaDoor
open Go Go.RowKit
set_option linter.unusedVariables false
set_option linter.unusedSimpArgs false
def sameTo (a b : List UInt8) : Nat → UInt8
  | 0 => 0
  | k + 1 => sameTo a b k ||| (a.getD k 0 ^^^ b.getD k 0)
theorem sameTo_zero (a b : List UInt8) (k : Nat) : sameTo a b k = 0 ↔ ∀ i, i < k → a.getD i 0 = b.getD i 0 := by
  induction k with
  | zero => simp [sameTo]
  | succ k ih =>
    rw [sameTo, UInt8.or_eq_zero_iff, UInt8.xor_eq_zero_iff, ih]
    constructor
    · rintro ⟨h1, h2⟩ i hi
      by_cases h : i = k
      · subst h; exact h2
      · exact h1 i (by omega)
    · intro h
      exact ⟨fun i hi => h i (by omega), h k (by omega)⟩
theorem sameTo_eq (a b : List UInt8) (h : a.length = b.length) : (sameTo a b a.length == 0) = (a == b) := by
  rw [Bool.eq_iff_iff, beq_iff_eq, beq_iff_eq, sameTo_zero]
  constructor
  · intro hh
    apply List.ext_getElem h
    intro i h1 h2
    have := hh i h1
    rw [List.getD_eq_getElem?_getD, List.getD_eq_getElem?_getD, List.getElem?_eq_getElem h1, List.getElem?_eq_getElem h2] at this
    exact this
  · rintro rfl i hi; rfl
theorem u8_orxor (x y z : UInt8) : bits .or .u8 (x.toNat : Int) (bits .xor .u8 (y.toNat : Int) (z.toNat : Int)) = ((x ||| (y ^^^ z)).toNat : Int) := by
  rw [u8_xor_nat _ _ y.toNat_lt z.toNat_lt, ← UInt8.toNat_xor, u8_or_nat _ _ x.toNat_lt (y ^^^ z).toNat_lt, ← UInt8.toNat_or]
theorem Reads.cellD {w : World} {b o n : Nat} {l : List UInt8} (h : Reads w (some ⟨b, o, none⟩) n (l.map u8v)) (k : Nat) (hk : k < n) : w.cell? ⟨b, o + k, none⟩ = some (u8v (l.getD k 0)) := by
  have hl : l.length = n := by have := h.1; simpa using this
  refine h.rangeAt k _ ?_
  rw [List.getElem?_map, List.getD_eq_getElem?_getD, List.getElem?_eq_getElem (by omega : k < l.length)]
  rfl
theorem same_c (w : World) (A B : Option Addr) (n m c d : Nat) (a b : List UInt8) (ra : Reads w A n (a.map u8v)) (rb : Reads w B m (b.map u8v)) (hn : n ≤ maxLen) (hm : m ≤ maxLen) :
    Calls Tryd.prog 36 #[.slice A n c, .slice B m d] w fun e w' => e = .returned (.bool (a == b)) ∧ ∃ q, w' = w.drewN q := by
  have hla : a.length = n := by simpa using ra.len
  have hlb : b.length = m := by simpa using rb.len
  have RA := Lib.hid ra
  have RB := Lib.hid rb
  unfold maxLen at hn hm
  clear ra rb
  by_cases hnm : n = m
  · subst hnm
    have hab := sameTo_eq a b (by omega)
    rw [hla] at hab
    rw [← hab]
    have HLA := Lib.hid hla
    clear hla hlb hab
    go_enter Tryd.func36, Tryd.ntmps36
    go_wp2_with fail
    go_loopw [5, 14] (fun x i wr => ∃ k q : Nat, k ≤ n ∧ x = .int .u8 ((sameTo a b k).toNat : Int) ∧ i = .int .i64 k ∧ wr = w.drewN q) (fun _ i _ => n - (intOf i).toNat)
    case atStart => exact ⟨0, 0, by omega, rfl, rfl, rfl⟩
    case round =>
      obtain ⟨k, q, hk, rfl, rfl, rfl⟩ := hrel
      by_cases hlt : k < n
      · obtain ⟨g1, o1, rfl, _, _⟩ := RA.out.2 (by omega)
        obtain ⟨g2, o2, rfl, _, _⟩ := RB.out.2 (by omega)
        have c1 := RA.out.cellD k hlt
        have c2 := RB.out.cellD k hlt
        have hs : sameTo a b (k + 1) = sameTo a b k ||| (a.getD k 0 ^^^ b.getD k 0) := rfl
        have HS := Lib.hid hs
        clear hs
        generalize a.getD k 0 = y at *
        generalize b.getD k 0 = z at *
        generalize sameTo a b k = x at *
        go_upto_region 7 with fail
        go_quiet (fail)
        go_wp2_with fail
        go_roundw
        case rel => exact ⟨k + 1, q + nq, by omega, by rw [HS.out, ← u8_orxor], by go_num, rfl⟩
        case measure => simp [intOf]; omega
      · obtain rfl : k = n := by omega
        have hf : (((sameTo a b k).toNat : Int) == 0) = (sameTo a b k == 0) := by
          rw [Bool.eq_iff_iff, beq_iff_eq, beq_iff_eq]
          constructor
          · intro h; exact UInt8.toNat_inj.1 (by have : (sameTo a b k).toNat = 0 := by omega
                                                 simpa using this)
          · intro h; rw [h]; rfl
        go_wp2_with fail
        go_ret
        exact ⟨rfl, q, rfl⟩
  · have hab : (a == b) = false := by
      rw [beq_eq_false_iff_ne]; rintro rfl; omega
    have hi : ¬ ((n : Int) = (m : Int)) := by omega
    rw [hab]
    clear hab hla hlb
    go_enter Tryd.func36, Tryd.ntmps36
    go_wp2_with fail
    go_ret
    exact ⟨rfl, 0, rfl⟩
end Go.Proofs.YtocbahahienigaaDoor
