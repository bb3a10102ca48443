/- A new variable that is an array, and a value that is stored into it whole: one step. -/
import Derived.Test.YtgadnliogceecaaQFam
import Derived.Test.YtgadnliogceecaaMem
import Derived.Laws.Tables
namespace Go.Proofs.Ytgadnliogceecaa
open Go Go.RowKit
set_option linter.unusedVariables false
section
variable {P : Program}
theorem run_alloc_z (w : World) (ty : TypeId) (z : Value) (hz : (P.info? ty).map (·.zero) = some (some z)) :
    (Instr.alloc ty true (.tuple #[])).run P w = .ok (.pointer (some ⟨w.heap.size, 0, none⟩)) (w.alloc (.cells z.cells ty)) := by
  cases hq : P.info? ty with
  | none => simp [hq] at hz
  | some i =>
    have hz' : i.zero = some z := by simpa [hq] using hz
    simp [Instr.alloc, zeroValue, typeInfo, hq, hz', newVar, newRow]
theorem alloc_setRow (w : World) (t : TypeId) (a b : Array Value) : (w.alloc (.cells a t)).setRow w.heap.size b = w.alloc (.cells b t) := by
  unfold World.setRow World.alloc
  simp only
  congr 1
  apply Array.ext
  · simp
  · intro i h1 h2
    simp only [Array.getElem_modify, Array.getElem_push]
    by_cases h : w.heap.size = i
    · subst h; simp
    · have : i < w.heap.size := by simp at h1; omega
      simp [h, this]
theorem wpList_alloc_store {ops : Array Oper} {rest : List Oper} {o1 o2 : Oper} {a : Act} {w : World} {Q : Exit → Act → World → Prop} (hg1 : o1.guard = none) (hg2 : o2.guard = none) (ty : TypeId) (ho1 : o1.op = .alloc ty) (p : Tmp) (hd1 : o1.dst = some p)
    (x y : Operand) (ho2 : o2.op = .store ty x y) (hd2 : o2.dst = none) (z : Value) (hz : (P.info? ty).map (·.zero) = some (some z)) (cells : Array Value) (hi : (P.info? ty).map (·.size) = some cells.size) (hold : z.cells.size = cells.size) (h1 : cells.all (·.oneCell') = true)
    (hx : (a.put (some p) (.pointer (some ⟨w.heap.size, 0, none⟩))).eval x = .pointer (some ⟨w.heap.size, 0, none⟩)) (hy : (a.put (some p) (.pointer (some ⟨w.heap.size, 0, none⟩))).eval y = .agg cells)
    (h : wpList P ops Q rest (a.put (some p) (.pointer (some ⟨w.heap.size, 0, none⟩))) (w.alloc (.cells cells ty))) : wpList P ops Q (o1 :: o2 :: rest) a w := by
  refine wpList_plain hg1 fun K hK => ?_
  unfold Oper.wp execOp
  simp only [ho1, Sem.run_bind, run_alloc_z w ty z hz, Result.andThen_ok, Sem.run_pure, Oper.upon_value, hd1]
  refine hK _ _ ?_
  refine wpList_store_row hg2 ty x y ho2 w.heap.size cells hx hy ty z.cells (Blk.new w ty z.cells) hi hold h1 ?_
  rw [alloc_setRow, hd2]
  exact h
end
end Go.Proofs.Ytgadnliogceecaa
