/- A Meta's cells behind a store of one field; update.Len. -/
import Derived.Test.YtocbahahienigaaDoorUp1
namespace Go.Proofs.YtocbahahienigaaDoor
open Go Go.RowKit
set_option linter.unusedVariables false
set_option linter.unusedSimpArgs false
theorem set_mid (A B : List Value) (x u : Value) (k : Nat) (hk : A.length = k) : (A ++ x :: B).set k u = A ++ u :: B := by
  subst hk
  rw [List.set_append_right _ _ (Nat.le_refl _), Nat.sub_self, List.set_cons_zero]
section
variable {m : Mt}
theorem Mt.set0 (v : Int) : m.cells.set 0 (i64v v) = ({ m with act := v } : Mt).cells := rfl
theorem Mt.set69 (h : m.Ok) (v : Int) : m.cells.set 69 (i64v v) = ({ m with mn := v } : Mt).cells := by
  have e : m.cells = (i64v m.act :: (m.h0.cells ++ m.h1.cells)) ++ (i64v m.mn :: (i64v m.ph :: (m.cm.cells ++ [i64v m.got, i64v m.tr]))) := by simp [Mt.cells]
  rw [e, set_mid _ _ _ _ 69 (by simp [Img.cells_len h.d0, Img.cells_len h.d1])]
  simp [Mt.cells]
theorem Mt.set70 (h : m.Ok) (v : Int) : m.cells.set 70 (i64v v) = ({ m with ph := v } : Mt).cells := by
  have e : m.cells = (i64v m.act :: (m.h0.cells ++ (m.h1.cells ++ [i64v m.mn]))) ++ (i64v m.ph :: (m.cm.cells ++ [i64v m.got, i64v m.tr])) := by simp [Mt.cells]
  rw [e, set_mid _ _ _ _ 70 (by simp [Img.cells_len h.d0, Img.cells_len h.d1])]
  simp [Mt.cells]
theorem Mt.set105 (h : m.Ok) (v : Int) : m.cells.set 105 (i64v v) = ({ m with got := v } : Mt).cells := by
  have e : m.cells = (i64v m.act :: (m.h0.cells ++ (m.h1.cells ++ (i64v m.mn :: i64v m.ph :: m.cm.cells)))) ++ (i64v m.got :: [i64v m.tr]) := by simp [Mt.cells]
  rw [e, set_mid _ _ _ _ 105 (by simp [Img.cells_len h.d0, Img.cells_len h.d1, Img.cells_len h.d2])]
  simp [Mt.cells]
theorem Mt.set106 (h : m.Ok) (v : Int) : m.cells.set 106 (i64v v) = ({ m with tr := v } : Mt).cells := by
  have e : m.cells = (i64v m.act :: (m.h0.cells ++ (m.h1.cells ++ (i64v m.mn :: i64v m.ph :: (m.cm.cells ++ [i64v m.got]))))) ++ (i64v m.tr :: []) := by simp [Mt.cells]
  rw [e, set_mid _ _ _ _ 106 (by simp [Img.cells_len h.d0, Img.cells_len h.d1, Img.cells_len h.d2])]
  simp [Mt.cells]
theorem Mt.put1 (h : m.Ok) (i : Img) : m.cells.take 1 ++ (i.cells ++ m.cells.drop 35) = ({ m with h0 := i } : Mt).cells := by
  have e : m.cells.drop 35 = m.h1.cells ++ (i64v m.mn :: i64v m.ph :: (m.cm.cells ++ [i64v m.got, i64v m.tr])) := by
    simp only [Mt.cells, List.drop_succ_cons]
    rw [List.drop_append, Img.cells_len h.d0, List.drop_of_length_le (by rw [Img.cells_len h.d0]; omega), List.nil_append, Nat.sub_self, List.drop_zero]
  rw [e]
  rfl
theorem Mt.put35 (h : m.Ok) (i : Img) : m.cells.take 35 ++ (i.cells ++ m.cells.drop 69) = ({ m with h1 := i } : Mt).cells := by
  have e : m.cells.take 35 = i64v m.act :: m.h0.cells := by
    simp only [Mt.cells, List.take_succ_cons]
    rw [List.take_append_of_le_length (by rw [Img.cells_len h.d0]; omega), List.take_of_length_le (by rw [Img.cells_len h.d0]; omega)]
  rw [e, Mt.drop69 h]
  rfl
theorem Mt.put71 (h : m.Ok) (i : Img) : m.cells.take 71 ++ (i.cells ++ m.cells.drop 105) = ({ m with cm := i } : Mt).cells := by
  have e : m.cells = (i64v m.act :: (m.h0.cells ++ (m.h1.cells ++ [i64v m.mn, i64v m.ph]))) ++ (m.cm.cells ++ [i64v m.got, i64v m.tr]) := by simp [Mt.cells]
  have l1 : (i64v m.act :: (m.h0.cells ++ (m.h1.cells ++ [i64v m.mn, i64v m.ph]))).length = 71 := by simp [Img.cells_len h.d0, Img.cells_len h.d1]
  rw [e, List.take_append_of_le_length (by omega), List.take_of_length_le (by omega), List.drop_append, List.drop_of_length_le (by omega), List.nil_append, l1, List.drop_append, List.drop_of_length_le (by rw [Img.cells_len h.d2]; omega), List.nil_append, Img.cells_len h.d2]
  simp [Mt.cells]
end
section
variable {W : World} {g : Nat} {t : TypeId} {m : Mt}
theorem Blk.setAct (B : Blk W g t m.cells.toArray) (v : Int) : Blk (W.setCell ⟨g, 0, none⟩ (i64v v)) g t ({ m with act := v } : Mt).cells.toArray := by
  have h := B.set_ 0 (i64v v)
  rw [List.setIfInBounds_toArray, Mt.set0] at h
  exact h
theorem Blk.setMin (B : Blk W g t m.cells.toArray) (o : m.Ok) (v : Int) : Blk (W.setCell ⟨g, 69, none⟩ (i64v v)) g t ({ m with mn := v } : Mt).cells.toArray := by
  have h := B.set_ 69 (i64v v)
  rw [List.setIfInBounds_toArray, Mt.set69 o] at h
  exact h
theorem Blk.setPhase (B : Blk W g t m.cells.toArray) (o : m.Ok) (v : Int) : Blk (W.setCell ⟨g, 70, none⟩ (i64v v)) g t ({ m with ph := v } : Mt).cells.toArray := by
  have h := B.set_ 70 (i64v v)
  rw [List.setIfInBounds_toArray, Mt.set70 o] at h
  exact h
theorem Blk.setGot (B : Blk W g t m.cells.toArray) (o : m.Ok) (v : Int) : Blk (W.setCell ⟨g, 105, none⟩ (i64v v)) g t ({ m with got := v } : Mt).cells.toArray := by
  have h := B.set_ 105 (i64v v)
  rw [List.setIfInBounds_toArray, Mt.set105 o] at h
  exact h
theorem Blk.setTrials (B : Blk W g t m.cells.toArray) (o : m.Ok) (v : Int) : Blk (W.setCell ⟨g, 106, none⟩ (i64v v)) g t ({ m with tr := v } : Mt).cells.toArray := by
  have h := B.set_ 106 (i64v v)
  rw [List.setIfInBounds_toArray, Mt.set106 o] at h
  exact h
end
theorem Blk.setCells {g : Nat} {t : TypeId} : ∀ (l : List Value) (o : Nat) (W : World) (cs : List Value), Blk W g t cs.toArray → o + l.length ≤ cs.length → Blk (W.setCells g o l) g t (cs.take o ++ (l ++ cs.drop (o + l.length))).toArray
  | [], o, W, cs, B, h => by
    rw [List.nil_append, List.length_nil, Nat.add_zero, List.take_append_drop]
    exact B
  | v :: r, o, W, cs, B, h => by
    have B1 := B.set_ o v
    rw [List.setIfInBounds_toArray] at B1
    rw [List.length_cons] at h
    have ih := Blk.setCells r (o + 1) _ (cs.set o v) B1 (by rw [List.length_set]; omega)
    have q : cs.set o v = (cs.take o ++ [v]) ++ cs.drop (o + 1) := by
      rw [List.set_eq_take_append_cons_drop, if_pos (by omega), List.append_assoc]
      rfl
    have ql : (cs.take o ++ [v]).length = o + 1 := by rw [List.length_append, List.length_take, List.length_singleton]; omega
    rw [q, List.take_append_of_le_length (by omega), List.take_of_length_le (by omega), List.drop_append, List.drop_of_length_le (by omega), List.nil_append, ql, List.drop_drop, show o + 1 + (o + 1 + r.length - (o + 1)) = o + (r.length + 1) by omega, List.append_assoc] at ih
    exact ih
/-- How long a chunk is. -/
def lenZ (size n : Int) : Int := if n < 0 ∨ chunksZ size ≤ n then 0 else min 320 (size - n * 320)
end Go.Proofs.YtocbahahienigaaDoor
