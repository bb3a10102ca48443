/- waterlinelaw14.WearOne: an erase takes one from what is left of its sector: the plain law. -/
import Derived.Test.YtlchlcjahndjgaaWear
namespace Go.Proofs.Ytlchlcjahndjgaa
open Go.RowKit
set_option linter.unusedVariables false
set_option linter.unusedSimpArgs false

theorem one_left (b : Int) (hb0 : 1 ≤ b) (hb1 : b ≤ 100) (n : Nat) (hn : n ≤ 400) (i : Int) (h0 : 0 ≤ i) (h1 : i < n) : (⟨0, n, b⟩ : Ar).left (Fl.new (n : Int)) i = b := by
  have hw := (Fl.new_b n hn).2
  have hi : (⟨0, n, b⟩ : Ar).is i = true := by unfold Ar.is; simp; omega
  have hi2 : (Fl.new (n : Int)).is i = true := by unfold Fl.is; rw [hw, List.length_replicate]; simp; omega
  unfold Ar.left
  rw [if_pos hi]
  show max 0 (b - (Fl.new (n : Int)).wearAt (((0 : Nat) : Int) + i)) = b
  rw [show ((0 : Nat) : Int) + i = i from by omega]
  unfold Fl.wearAt
  rw [if_pos hi2, Fl.new_wearD n hn]
  omega
theorem one_erase (b : Int) (hb0 : 1 ≤ b) (hb1 : b ≤ 100) (s : Nat) (hs : s < 6) : (⟨0, 6, b⟩ : Ar).eraseE (Fl.new ((6 : Nat) : Int)) s = 0 ∧
    ∀ i : Int, 0 ≤ i → i < 6 → (⟨0, 6, b⟩ : Ar).left ((⟨0, 6, b⟩ : Ar).erase (Fl.new ((6 : Nat) : Int)) s) i = if i = s then b - 1 else b := by
  have hw := (Fl.new_b 6 (by omega)).2
  have hi : (⟨0, 6, b⟩ : Ar).is s = true := by unfold Ar.is; simp; omega
  have hl := one_left b hb0 hb1 6 (by omega) s (by omega) (by omega)
  have hz : ((⟨0, 6, b⟩ : Ar).left (Fl.new ((6 : Nat) : Int)) s == 0) = false := by rw [hl, beq_eq_false_iff_ne]; omega
  have hi2 : (Fl.new ((6 : Nat) : Int)).is (s : Int) = true := by unfold Fl.is; rw [hw, List.length_replicate]; simp; omega
  have q := (Fl.Calm.new ((6 : Nat) : Int)).erase (s : Int) hi2
  have hc : ((⟨0, 6, b⟩ : Ar).from_ : Int) + (s : Int) = (s : Int) := by show ((0 : Nat) : Int) + (s : Int) = s; omega
  constructor
  · unfold Ar.eraseE
    rw [if_pos hi, hz, hc]
    exact q.1
  · intro i h0 h1
    have e : (⟨0, 6, b⟩ : Ar).erase (Fl.new ((6 : Nat) : Int)) s = (Fl.new ((6 : Nat) : Int)).ers s := by
      unfold Ar.erase
      rw [if_pos hi, hz, hc]
      exact q.2
    rw [e]
    have hii : (⟨0, 6, b⟩ : Ar).is i = true := by unfold Ar.is; simp; omega
    have hi3 : ((Fl.new ((6 : Nat) : Int)).ers s).is i = true := by unfold Fl.is; rw [Fl.ers_wear, List.length_set, hw, List.length_replicate]; simp; omega
    unfold Ar.left
    rw [if_pos hii]
    show max 0 (b - ((Fl.new ((6 : Nat) : Int)).ers s).wearAt (((0 : Nat) : Int) + i)) = _
    rw [show ((0 : Nat) : Int) + i = i from by omega]
    unfold Fl.wearAt
    rw [if_pos hi3, Fl.ers_wear, Fl.new_wearD 6 (by omega), List.getD_eq_getElem?_getD, List.getElem?_set]
    by_cases h : i = s
    · subst h
      rw [if_pos (by omega), if_pos (by rw [hw, List.length_replicate]; omega), if_pos rfl]
      simp only [Option.getD_some]; omega
    · rw [if_neg (by omega), if_neg h, ← List.getD_eq_getElem?_getD, Fl.new_wearD 6 (by omega)]; omega

structure OneFacts (b : Int) (s : Nat) (F0 F1 : Fl) (R : Ar) : Prop where
  f0 : Fl.new ((6 : Nat) : Int) = F0
  w0 : F0.wear.length = 6
  r : Ar.new 6 0 6 b = R
  s0 : R.sumLeft F0 R.len = 6 * b
  e : R.eraseE F0 s = 0
  f1 : R.erase F0 s = F1
  l1 : R.least F1 s 1 = ((s : Int), true)
  l2 : R.least F1 0 6 = (if s = 0 then 1 else 0, true)
  l3 : R.least F1 6 3 = (0, false)
  s1 : R.sumLeft F1 R.len = 6 * b - 1

theorem one_facts (b : Int) (hb0 : 1 ≤ b) (hb1 : b ≤ 100) (s : Nat) (hs : s < 6) : ∃ F0 F1 R, OneFacts b s F0 F1 R := by
  have hr : Ar.new 6 0 6 b = ⟨0, 6, b⟩ := by
    unfold Ar.new
    rw [if_pos (by omega)]
    congr 1
    omega
  obtain ⟨e1, e2⟩ := one_erase b hb0 hb1 s hs
  have z := one_left b hb0 hb1 6 (by omega)
  have hw := (Fl.new_b 6 (by omega)).2
  refine ⟨_, _, _, rfl, by rw [hw, List.length_replicate], hr, ?_, e1, rfl, ?_, ?_, ?_, ?_⟩
  · show Ar.sumLeft _ _ 6 = _
    simp only [Ar.sumLeft]
    rw [z _ (by omega) (by omega), z _ (by omega) (by omega), z _ (by omega) (by omega), z _ (by omega) (by omega), z _ (by omega) (by omega), z _ (by omega) (by omega)]
    omega
  all_goals
    generalize (⟨0, 6, b⟩ : Ar).erase (Fl.new ((6 : Nat) : Int)) s = F1 at *
    have l0 := e2 0 (by omega) (by omega)
    have l1 := e2 1 (by omega) (by omega)
    have l2 := e2 2 (by omega) (by omega)
    have l3 := e2 3 (by omega) (by omega)
    have l4 := e2 4 (by omega) (by omega)
    have l5 := e2 5 (by omega) (by omega)
    have t1 : ¬ (b < b - 1) := by omega
    have t2 : b - 1 < b := by omega
    have hs6 : s = 0 ∨ s = 1 ∨ s = 2 ∨ s = 3 ∨ s = 4 ∨ s = 5 := by omega
    clear e2 e1 z hw hr
    rcases hs6 with rfl | rfl | rfl | rfl | rfl | rfl <;> simp at l0 l1 l2 l3 l4 l5 <;> simp [Ar.least, Ar.leastTo, Ar.leastStep, Ar.sumLeft, l0, l1, l2, l3, l4, l5, t1, t2] <;> omega
end Go.Proofs.Ytlchlcjahndjgaa
