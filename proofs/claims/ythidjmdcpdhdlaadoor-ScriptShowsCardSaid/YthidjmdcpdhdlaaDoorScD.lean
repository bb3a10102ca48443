/- Numbers in decimal: what digits say a number is what the number is written as (plain). -/
import Derived.Test.YthidjmdcpdhdlaaDoorScA
namespace Go.Proofs.YthidjmdcpdhdlaaDoor
open Go Go.RowKit
set_option linter.unusedVariables false
set_option linter.unusedSimpArgs false
/-- A number, in decimal. -/
def decL (n : Nat) : List UInt8 := if h : 9 < n then decL (n / 10) ++ [UInt8.ofNat (48 + n % 10)] else [UInt8.ofNat (48 + n)]
termination_by n
decreasing_by omega
theorem numL_snoc (b : UInt8) : ∀ (l : List UInt8) (n : Nat), numL (l ++ [b]) n = (numL l n).bind (fun m => numL [b] m)
  | [], n => rfl
  | c :: l, n => by
    show (if c.toNat < 48 ∨ 57 < c.toNat then Option.none else if 2147483647 < n * 10 + (c.toNat - 48) then Option.none else numL (l ++ [b]) (n * 10 + (c.toNat - 48))) = _
    have h : numL (c :: l) n = (if c.toNat < 48 ∨ 57 < c.toNat then Option.none else if 2147483647 < n * 10 + (c.toNat - 48) then Option.none else numL l (n * 10 + (c.toNat - 48))) := rfl
    rw [h]
    split
    · rfl
    · split
      · rfl
      · exact numL_snoc b l _
theorem numL_one (b : UInt8) (m n : Nat) : numL [b] m = Option.some n ↔ (48 ≤ b.toNat ∧ b.toNat ≤ 57) ∧ n = m * 10 + (b.toNat - 48) ∧ n ≤ 2147483647 := by
  show (if b.toNat < 48 ∨ 57 < b.toNat then Option.none else if 2147483647 < m * 10 + (b.toNat - 48) then Option.none else Option.some (m * 10 + (b.toNat - 48))) = Option.some n ↔ _
  split
  · simp; omega
  · split
    · simp; omega
    · simp; omega
/-- What a word says that is a number, is written as that word. -/
theorem dec_of : ∀ (k : Nat) (l : List UInt8) (n : Nat), l.length = k → l ≠ [] → (1 < l.length → l.getD 0 0 ≠ 48) → numL l 0 = Option.some n → decL n = l := by
  intro k
  induction k with
  | zero => intro l n hk h0; exact absurd (List.eq_nil_of_length_eq_zero hk) h0
  | succ k ih =>
    intro l n hk h0 hz hn
    obtain ⟨l', b, rfl⟩ : ∃ l' b, l = l' ++ [b] := ⟨l.dropLast, l.getLast h0, (List.dropLast_concat_getLast h0).symm⟩
    rw [numL_snoc] at hn
    cases hm : numL l' 0 with
    | none => rw [hm] at hn; cases hn
    | some m =>
      rw [hm] at hn
      obtain ⟨hb, he, hle⟩ := (numL_one b m n).1 hn
      have hlk : l'.length = k := by simpa using hk
      by_cases hl : l' = []
      · subst hl
        have hm0 : m = 0 := by cases hm; rfl
        subst hm0
        have hn9 : n = b.toNat - 48 := by omega
        rw [decL, dif_neg (by omega)]
        show [UInt8.ofNat (48 + n)] = [b]
        rw [show 48 + n = b.toNat from by omega, UInt8.ofNat_toNat]
      · have hpos : 0 < l'.length := List.length_pos_iff.2 hl
        have h48 : l'.getD 0 0 ≠ 48 := by
          have q := hz (by simp; omega)
          rw [List.getD_eq_getElem?_getD, List.getElem?_append_left hpos, ← List.getD_eq_getElem?_getD] at q
          exact q
        have hd := ih l' m hlk hl (fun _ => h48) hm
        have hm1 : 1 ≤ m := by
          by_cases q : 1 ≤ m
          · exact q
          · have q0 : m = 0 := by omega
            subst q0
            rw [decL, dif_neg (by omega)] at hd
            rw [← hd] at h48
            exact absurd rfl h48
        rw [decL, dif_pos (by omega), show n / 10 = m from by omega, hd, show 48 + n % 10 = b.toNat from by omega, UInt8.ofNat_toNat]
theorem decL_ne : ∀ n, decL n ≠ [] := by
  intro n
  rw [decL]
  split
  · simp
  · simp
theorem ofNat_digit (d : Nat) (h : d ≤ 9) : (UInt8.ofNat (48 + d)).toNat = 48 + d := by
  rw [UInt8.toNat_ofNat']
  omega
/-- What a number is written as, says that number. -/
theorem num_dec : ∀ n : Nat, n ≤ 2147483647 → numL (decL n) 0 = Option.some n ∧ (1 < (decL n).length → (decL n).getD 0 0 ≠ 48) ∧ (1 ≤ n → (decL n).getD 0 0 ≠ 48) := by
  intro n
  induction n using Nat.strongRecOn with
  | ind n ih =>
    intro hn
    by_cases h : 9 < n
    · obtain ⟨h1, h2, h3⟩ := ih (n / 10) (by omega) (by omega)
      have he : decL n = decL (n / 10) ++ [UInt8.ofNat (48 + n % 10)] := by rw [decL, dif_pos h]
      have hd := ofNat_digit (n % 10) (by omega)
      have hpos : 0 < (decL (n / 10)).length := List.length_pos_iff.2 (decL_ne _)
      have h48 : (decL n).getD 0 0 ≠ 48 := by
        rw [he, List.getD_eq_getElem?_getD, List.getElem?_append_left hpos, ← List.getD_eq_getElem?_getD]
        exact h3 (by omega)
      refine ⟨?_, fun _ => h48, fun _ => h48⟩
      rw [he, numL_snoc, h1]
      exact (numL_one _ (n / 10) n).2 ⟨by omega, by omega, hn⟩
    · have he : decL n = [UInt8.ofNat (48 + n)] := by rw [decL, dif_neg h]
      have hd := ofNat_digit n (by omega)
      rw [he]
      refine ⟨(numL_one _ 0 n).2 ⟨by omega, by omega, hn⟩, fun hl => absurd hl (by show ¬ 1 < 1; omega), fun h1 => ?_⟩
      show UInt8.ofNat (48 + n) ≠ 48
      intro e
      rw [e] at hd
      have : (48 : UInt8).toNat = 48 := rfl
      omega
theorem numS_dec (n : Nat) (hn : n ≤ 2147483647) : numS (decL n) = Option.some n := by
  obtain ⟨h1, h2, _⟩ := num_dec n hn
  unfold numS
  rw [if_neg (decL_ne n), if_neg (fun h => h2 h.1 h.2), h1]
theorem dec_numS {l : List UInt8} {n : Nat} (h : numS l = Option.some n) : decL n = l ∧ n ≤ 2147483647 := by
  unfold numS at h
  split at h
  · cases h
  · split at h
    · cases h
    · rename_i h0 h1
      have hd := dec_of l.length l n rfl h0 (fun q e => h1 ⟨q, e⟩) h
      refine ⟨hd, ?_⟩
      obtain ⟨l', b, rfl⟩ : ∃ l' b, l = l' ++ [b] := ⟨l.dropLast, l.getLast h0, (List.dropLast_concat_getLast h0).symm⟩
      rw [numL_snoc] at h
      cases hm : numL l' 0 with
      | none => rw [hm] at h; cases h
      | some m => rw [hm] at h; exact ((numL_one b m n).1 h).2.2
end Go.Proofs.YthidjmdcpdhdlaaDoor
