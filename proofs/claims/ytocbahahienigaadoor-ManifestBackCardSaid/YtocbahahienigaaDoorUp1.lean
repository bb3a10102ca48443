/- update: Chunks, Len, when, fails, one. -/
import Derived.Test.YtocbahahienigaaDoorMr
import Derived.Laws.Tables
namespace Go.Proofs.YtocbahahienigaaDoor
open Go Go.RowKit
set_option linter.unusedVariables false
set_option linter.unusedSimpArgs false
theorem Blk.setRow_m {w : World} {g : Nat} {t : TypeId} {old : Array Value} (h : Blk w g t old) (cs : Array Value) : Blk (w.setRow g cs) g t cs := setRow_heap w g old cs t _ h
theorem Blk.setRow_mf {w : World} {g k : Nat} {t : TypeId} {old : Array Value} (h : Blk w k t old) (cs : Array Value) (hk : k ≠ g) : Blk (w.setRow g cs) k t old := (setRow_other w g k cs hk).trans h
theorem below_setRow_m {B g : Nat} {w0 w : World} (hb : Below B w0 w) (hBg : B ≤ g) (cs : Array Value) : Below B w0 (w.setRow g cs) :=
  ⟨hb.os, hb.tape, hb.output, by simpa [World.setRow] using hb.size, fun k hk => (setRow_other w g k cs (by omega)).trans (hb.block k hk)⟩
attribute [local go_sem ↓] sldI_seal
def chunksZ (n : Int) : Int := if n < 1 then 0 else (n - 1) / 320 + 1
/-- What a request does: the cells. -/
def chg (m : Mt) (e n g : Int) : List Value := m.cells ++ [i64v e, i64v n, i64v g]
theorem chg_len {m : Mt} (h : m.Ok) (e n g : Int) : (chg m e n g).length = 110 := by unfold chg; rw [List.length_append, Mt.cells_len h]; rfl
theorem chg_one (m : Mt) (e n g : Int) : ∀ u ∈ chg m e n g, u.oneCell' = true := by
  intro u hu
  simp only [chg, List.mem_append, List.mem_cons, List.not_mem_nil, or_false] at hu
  rcases hu with hu | rfl | rfl | rfl
  · exact Mt.one m u hu
  · rfl
  · rfl
  · rfl
theorem foldSet (cs : List Value) : ∀ (k off : Nat) (z : List Value), off + k + cs.length ≤ z.length →
    (cs.zipIdx k).foldl (fun (a : Array Value) (x : Value × Nat) => a.setIfInBounds (off + x.2) x.1) z.toArray = (z.take (off + k) ++ cs ++ z.drop (off + k + cs.length)).toArray := by
  induction cs with
  | nil => intro k off z h; simp
  | cons c cs ih =>
    intro k off z h
    simp only [List.length_cons] at h
    rw [List.zipIdx_cons, List.foldl_cons, List.setIfInBounds_toArray, ih (k + 1) off (z.set (off + k) c) (by rw [List.length_set]; omega)]
    congr 1
    rw [show off + (k + 1) = off + k + 1 from by omega]
    rw [List.take_succ_eq_append_getElem (by rw [List.length_set]; omega), List.getElem_set_self, List.take_set_of_le (Nat.le_refl _), List.drop_set_of_lt (by omega)]
    simp only [List.length_cons, List.append_assoc, List.singleton_append, List.cons_append, List.nil_append]
    rw [show off + k + 1 + cs.length = off + k + (cs.length + 1) from by omega]
theorem fill_one (place : Nat → Option (Nat × Nat)) (z cs : List Value) (i off : Nat) (rest : List (Nat × Value)) (hp : place i = some (off, cs.length)) (hz : off + cs.length ≤ z.length) :
    Instr.fill place z.toArray ((i, .agg cs.toArray) :: rest) = Instr.fill place (z.take off ++ cs ++ z.drop (off + cs.length)).toArray rest := by
  have hf := foldSet cs 0 off z (by omega)
  rw [Instr.fill, hp]
  simp only [Value.cells, List.size_toArray, ne_eq, not_true_eq_false, decide_false, Bool.false_or]
  rw [if_neg (by simp; omega)]
  rw [← Array.foldl_toList, Array.toList_zipIdx]
  simp only [Nat.add_zero] at hf
  rw [hf]
-- (no rule here)
/-- The first error of some. -/
def firstE : List Int → Int
  | [] => 0
  | e :: l => if e = 0 then firstE l else e
def oneM (m : Mt) (l : List Int) : List Value := if firstE l = 0 then chg m 0 0 0 else chg Mt.zero (firstE l) 0 0
end Go.Proofs.YtocbahahienigaaDoor
