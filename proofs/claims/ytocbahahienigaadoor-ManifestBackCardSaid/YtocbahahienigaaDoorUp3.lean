/- Whole images stored within a Meta; update.idle. -/
import Derived.Test.YtocbahahienigaaDoorUp2
namespace Go.Proofs.YtocbahahienigaaDoor
open Go Go.RowKit
set_option linter.unusedVariables false
set_option linter.unusedSimpArgs false
noncomputable def sstI (x v : Value) : Sem Unit := Instr.storeAt 25 x v
theorem sstI_seal (x v : Value) : Instr.storeAt 25 x v = sstI x v := rfl
theorem info_sI3 : (Tryd.prog.info? 25).map (·.size) = some 34 := by kernel_rfl
theorem run_sstI {W : World} {g : Nat} {t : TypeId} {cs : Array Value} (B : Blk W g t cs) (o : Nat) (ho : o + 34 ≤ cs.size) (i : Img) (hi : i.d.length = 32) :
    (sstI (.pointer (some ⟨g, o, none⟩)) (.agg i.cells.toArray)).run Tryd.prog W = .ok () (W.setCells g o i.cells) := by
  have hl := Img.cells_len hi
  refine run_storeAt_mid (P := Tryd.prog) W g o 25 i.cells.toArray ?_ (by rw [List.size_toArray, hl]; exact info_sI3) (by simpa using Img.one i)
  intro j hj
  rw [List.size_toArray, hl] at hj
  refine ⟨?_, B.frozen _⟩
  rw [B.cell, Array.getElem?_eq_getElem (by omega)]
  rfl
section
variable {W : World} {g : Nat} {t : TypeId} {m : Mt}
theorem Blk.putH0 (B : Blk W g t m.cells.toArray) (o : m.Ok) (i : Img) (hi : i.d.length = 32) : Blk (W.setCells g 1 i.cells) g t ({ m with h0 := i } : Mt).cells.toArray := by
  have h := Blk.setCells i.cells 1 W m.cells B (by rw [Mt.cells_len o, Img.cells_len hi]; omega)
  rw [Img.cells_len hi, Mt.put1 o] at h
  exact h
theorem Blk.putH1 (B : Blk W g t m.cells.toArray) (o : m.Ok) (i : Img) (hi : i.d.length = 32) : Blk (W.setCells g 35 i.cells) g t ({ m with h1 := i } : Mt).cells.toArray := by
  have h := Blk.setCells i.cells 35 W m.cells B (by rw [Mt.cells_len o, Img.cells_len hi]; omega)
  rw [Img.cells_len hi, Mt.put35 o] at h
  exact h
theorem Blk.putCm (B : Blk W g t m.cells.toArray) (o : m.Ok) (i : Img) (hi : i.d.length = 32) : Blk (W.setCells g 71 i.cells) g t ({ m with cm := i } : Mt).cells.toArray := by
  have h := Blk.setCells i.cells 71 W m.cells B (by rw [Mt.cells_len o, Img.cells_len hi]; omega)
  rw [Img.cells_len hi, Mt.put71 o] at h
  exact h
end
theorem below_setCells {B g : Nat} {w0 : World} (hBg : B ≤ g) : ∀ (l : List Value) (o : Nat) (w : World), Below B w0 w → Below B w0 (w.setCells g o l)
  | [], _, _, h => h
  | v :: r, o, w, h => below_setCells hBg r (o + 1) _ (h.setCell (by exact hBg) v)
end Go.Proofs.YtocbahahienigaaDoor
