/- A drawn region, over a class of worlds: its first operations each give one value, in every world of the class; the others stand in one forced order. -/
import Derived.Test.YtpafenlcgcenlaaGreatDoorQTail
namespace Go.Proofs.YtpafenlcgcenlaaGreatDoor
open Go
set_option linter.unusedVariables false

section
variable {P : Program}
theorem wp_region_fam_tail {id : Nat} {Q : Exit → Act → World → Prop} {a : Act} {w : World} {l : List Oper} {T : Type} (F : T → World) (n : Nat) (hm : P.follows .mixedOrders = true) (hB : Region.lexTailB .any l.toArray n = true)
    (h0 : ∃ x, F x = w.drew)
    (h : wpQuiet P l.toArray (fun w' => ∃ x, w' = F x) (fun a' => ∀ x, wpList P l.toArray Q (l.drop n) a' (F x)) (l.take n) a) : (Code.region id l.toArray true).wp P Q a w := by
  simp only [Region.lexTailB, Bool.and_eq_true, decide_eq_true_eq] at hB
  obtain ⟨⟨⟨⟨hsel, hn⟩, hs⟩, hc⟩, hlex⟩ := hB
  have hn' : n < l.length := by simpa using hn
  have htl : (l.take n).length = n := by simp; omega
  have hdl : (l.drop n).length = l.toArray.size - n := by simp
  have inv0 : HeadInv .any l.toArray n (Array.replicate l.toArray.size false) :=
    ⟨by simp, fun j oj _ hl => (by rw [getD_replicate_false] at hl; cases hl), fun t _ ht => getD_in (by simpa using ht) (getD_replicate_false _ _)⟩
  have H := wpAnyLQ_lex (md := .any) (g := l.toArray.size - n) hsel hs hc hn (l.take n) 0 _ a (fun j hj => by
    have hj' : j < n := by rw [htl] at hj; exact hj
    simp [hj']) (by simpa using htl) inv0 (by rw [htl]; exact hlex) h
  refine wp_region_any hm ?_
  obtain ⟨x0, hx0⟩ := h0
  have := wpAny_of_headQ (Q' := Q) (g := l.toArray.size - n) (fun listed' a' w' hw' hL => by
    obtain ⟨k, rfl⟩ := hw'
    have := wpAny_of_seq (md := .any) (Q' := Q) (l.drop n) n listed' a' (F k) (fun j => by simp [List.getElem?_drop]) (by rw [hdl]; exact hL.1) (hL.2 k)
    rwa [hdl] at this) _ _ _ { w with drawn := w.drawn + 1 } ⟨x0, hx0.symm⟩ H
  rw [htl, show n + (l.toArray.size - n) = l.toArray.size by omega] at this
  exact this
theorem wp_region_fam {id : Nat} {Q : Exit → Act → World → Prop} {a : Act} {w : World} {l : List Oper} {T : Type} (F : T → World) (hm : P.follows .mixedOrders = true) (hB : Region.lexB .any l.toArray = true)
    (h0 : ∃ x, F x = w.drew)
    (h : wpQuiet P l.toArray (fun w' => ∃ x, w' = F x) (fun a' => ∀ w', (∃ x, w' = F x) → Q .normal a' w') l a) : (Code.region id l.toArray true).wp P Q a w := by
  obtain ⟨x0, hx0⟩ := h0
  exact wp_region_quiet (C := fun w' => ∃ x, w' = F x) hm hB ⟨x0, hx0.symm⟩ (by simpa using h)
/-- A class of worlds, as a function's image. -/
theorem family (D : World → Prop) : ∃ (T : Type) (F : T → World), (∀ x, D (F x)) ∧ (∀ w, D w → ∃ x, w = F x) :=
  ⟨{ w // D w }, fun x => x.1, fun x => x.2, fun w h => ⟨⟨w, h⟩, rfl⟩⟩
end
end Go.Proofs.YtpafenlcgcenlaaGreatDoor
