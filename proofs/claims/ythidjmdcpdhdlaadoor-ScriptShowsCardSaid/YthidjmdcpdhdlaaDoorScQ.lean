/- Lines of a text (plain); many steps behind one another. -/
import Derived.Test.YthidjmdcpdhdlaaDoorScP
import Derived.Lib.IndexMore
namespace Go.Proofs.YthidjmdcpdhdlaaDoor
open Go Go.RowKit
set_option linter.unusedVariables false
set_option linter.unusedSimpArgs false
theorem index10 : ∀ l : List UInt8, (Lib.index l [10] = -1 ∧ ∀ b ∈ l, b ≠ 10) ∨ ∃ i : Nat, Lib.index l [10] = (i : Int) ∧ i < l.length ∧ l = l.take i ++ 10 :: l.drop (i + 1) ∧ ∀ b ∈ l.take i, b ≠ 10
  | [] => .inl ⟨rfl, by simp⟩
  | b :: l => by
    by_cases hb : b = 10
    · subst hb
      exact .inr ⟨0, rfl, by simp, rfl, by simp⟩
    · have hp : ([10] : List UInt8).isPrefixOf (b :: l) = false := by
        show ((10 : UInt8) == b && List.isPrefixOf [] l) = false
        rw [show ((10 : UInt8) == b) = false from beq_eq_false_iff_ne.2 (fun e => hb e.symm)]
        rfl
      rcases index10 l with ⟨h1, h2⟩ | ⟨i, h1, h2, h3, h4⟩
      · refine .inl ⟨?_, ?_⟩
        · unfold Lib.index; rw [hp, h1]; rfl
        · intro c hc
          rcases List.mem_cons.1 hc with rfl | hc
          · exact hb
          · exact h2 c hc
      · refine .inr ⟨i + 1, ?_, by simpa using h2, ?_, ?_⟩
        · unfold Lib.index
          rw [hp, h1]
          have : ((i : Int) == -1) = false := by rw [beq_eq_false_iff_ne]; omega
          simp [this]
        · show b :: l = b :: (l.take i ++ 10 :: l.drop (i + 1))
          rw [← h3]
        · intro c hc
          rcases List.mem_cons.1 hc with rfl | hc
          · exact hb
          · exact h4 c hc
/-- A text cut at its first line's end. -/
theorem cut10 (l : List UInt8) : (Lib.cut l [10] = (l, [], false) ∧ ∀ b ∈ l, b ≠ 10) ∨ ∃ a r, Lib.cut l [10] = (a, r, true) ∧ l = a ++ 10 :: r ∧ ∀ b ∈ a, b ≠ 10 := by
  rcases index10 l with ⟨h1, h2⟩ | ⟨i, h1, h2, h3, h4⟩
  · exact .inl ⟨by unfold Lib.cut; rw [h1]; rfl, h2⟩
  · refine .inr ⟨l.take i, l.drop (i + 1), ?_, h3, h4⟩
    unfold Lib.cut
    rw [h1, if_pos (by omega), Int.toNat_natCast]
    rfl
theorem readG_cut : ∀ (a r cur : List UInt8) (k : Nat) (acc : List Sp), (∀ b ∈ a, b ≠ 10) →
    readG (a ++ 10 :: r) cur k acc = match stepW (splitG (cur ++ a) []) with | Option.none => (Option.none, k) | Option.some x => readG r [] (k + 1) (acc ++ [x])
  | [], r, cur, k, acc, _ => by rw [List.append_nil]; rfl
  | b :: a, r, cur, k, acc, h => by
    show (if b = 10 then _ else readG (a ++ 10 :: r) (cur ++ [b]) k acc) = _
    rw [if_neg (h b (List.mem_cons_self ..)), readG_cut a r (cur ++ [b]) k acc (fun c hc => h c (List.mem_cons_of_mem _ hc)), List.append_assoc]
    rfl
theorem readG_end : ∀ (l cur : List UInt8) (k : Nat) (acc : List Sp), (∀ b ∈ l, b ≠ 10) → readG l cur k acc = if cur ++ l = [] then (Option.some acc, 0) else (Option.none, k)
  | [], cur, k, acc, _ => by rw [List.append_nil]; rfl
  | b :: l, cur, k, acc, h => by
    show (if b = 10 then _ else readG l (cur ++ [b]) k acc) = _
    rw [if_neg (h b (List.mem_cons_self ..)), readG_end l (cur ++ [b]) k acc (fun c hc => h c (List.mem_cons_of_mem _ hc)), if_neg (by simp), if_neg (by simp)]
/-- Cells of many steps, one behind another. -/
def Many (P : Sp → List Value → Prop) : List Sp → List Value → Prop
  | [], xs => xs = []
  | x :: l, xs => ∃ cs ys, xs = cs ++ ys ∧ cs.length = 7 ∧ P x cs ∧ Many P l ys
theorem Many.mono {P Q : Sp → List Value → Prop} (h : ∀ x cs, P x cs → Q x cs) : ∀ {l : List Sp} {xs : List Value}, Many P l xs → Many Q l xs
  | [], _, hm => hm
  | _ :: _, _, ⟨cs, ys, h1, h2, h3, h4⟩ => ⟨cs, ys, h1, h2, h _ _ h3, h4.mono h⟩
theorem Many.snoc {P : Sp → List Value → Prop} {y : Sp} {ds : List Value} (hy : P y ds) (hd : ds.length = 7) : ∀ {l : List Sp} {xs : List Value}, Many P l xs → Many P (l ++ [y]) (xs ++ ds)
  | [], xs, hm => by cases hm; exact ⟨ds, [], by simp, hd, hy, rfl⟩
  | _ :: _, _, ⟨cs, ys, h1, h2, h3, h4⟩ => ⟨cs, ys ++ ds, by rw [h1, List.append_assoc], h2, h3, h4.snoc hy hd⟩
theorem Many.len {P : Sp → List Value → Prop} : ∀ {l : List Sp} {xs : List Value}, Many P l xs → xs.length = l.length * 7
  | [], xs, hm => by cases hm; rfl
  | _ :: l, _, ⟨cs, ys, h1, h2, h3, h4⟩ => by rw [h1, List.length_append, h2, h4.len, List.length_cons]; omega
theorem Many.at_ {P : Sp → List Value → Prop} : ∀ {l : List Sp} {xs : List Value} (k : Nat) {x : Sp}, Many P l xs → l[k]? = Option.some x → ∃ cs, cs.length = 7 ∧ P x cs ∧ ∀ j u, cs[j]? = some u → xs[k * 7 + j]? = some u
  | [], _, k, x, _, h => by simp at h
  | y :: l, _, 0, x, ⟨cs, ys, h1, h2, h3, h4⟩, h => by
    have e : y = x := by simpa using h
    subst e
    refine ⟨cs, h2, h3, fun j u hj => ?_⟩
    have hlt : j < cs.length := by
      by_cases q : j < cs.length
      · exact q
      · rw [List.getElem?_eq_none (by omega)] at hj; cases hj
    rw [h1, Nat.zero_mul, Nat.zero_add, List.getElem?_append_left hlt]
    exact hj
  | y :: l, _, k + 1, x, ⟨cs, ys, h1, h2, h3, h4⟩, h => by
    obtain ⟨ds, e1, e2, e3⟩ := Many.at_ k h4 (by simpa using h)
    refine ⟨ds, e1, e2, fun j u hj => ?_⟩
    rw [h1, List.getElem?_append_right (by omega), h2, show (k + 1) * 7 + j - 7 = k * 7 + j from by omega]
    exact e3 j u hj
theorem StepO.len {w : World} {x : Sp} {cs : List Value} (h : StepO w x cs) : cs.length = 7 := by
  obtain ⟨A, c, B, d, h1, _⟩ := h; rw [h1]; rfl
theorem StepO.one {w : World} {x : Sp} {cs : List Value} (h : StepO w x cs) : ∀ u ∈ cs, u.oneCell' = true := by
  obtain ⟨A, c, B, d, h1, _⟩ := h; rw [h1]; exact stC_one _ _ _ _ _ _ _ _ _ _ _
/-- What Read answers. -/
def readRet (V : Option (List Sp) × Nat) (w : World) (e : Ending) (w' : World) : Prop :=
  match V.1 with
  | Option.none => e = .returned (.tuple #[.slice none 0 0, .int .i64 (V.2 : Int), .int .i64 6])
  | Option.some l => ∃ A c xs, e = .returned (.tuple #[.slice A l.length c, .int .i64 0, .int .i64 0]) ∧ w'.ownsRow w.heap.size 36 7 (.slice A l.length c) l.length xs ∧ Many (StepO w') l xs
end Go.Proofs.YthidjmdcpdhdlaaDoor
