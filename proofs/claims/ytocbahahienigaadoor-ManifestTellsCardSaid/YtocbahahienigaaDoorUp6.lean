/- What was found beside a request, as data: its cells. -/
import Derived.Test.YtocbahahienigaaDoorUp5
namespace Go.Proofs.YtocbahahienigaaDoor
open Go Go.RowKit
set_option linter.unusedVariables false
structure Fc where
  nm : Bool
  tg : Bool
  d : List UInt8
  wn : Bool
def Fc.cells (f : Fc) : List Value := .bool f.nm :: .bool f.tg :: (f.d.map u8v ++ [.bool f.wn])
theorem Fc.cells_len {f : Fc} (h : f.d.length = 32) : f.cells.length = 35 := by simp [Fc.cells, h]
theorem Fc.c0 (f : Fc) : f.cells[0]? = some (.bool f.nm) := rfl
theorem Fc.c1 (f : Fc) : f.cells[1]? = some (.bool f.tg) := rfl
theorem Fc.c34 {f : Fc} (h : f.d.length = 32) : f.cells[34]? = some (.bool f.wn) := by
  show (f.d.map u8v ++ [Value.bool f.wn])[32]? = _
  rw [List.getElem?_append_right (by rw [List.length_map, h]; omega), List.length_map, h]
  rfl
theorem Fc.c_d {f : Fc} (h : f.d.length = 32) : (f.cells.drop 2).take 32 = f.d.map u8v := by
  show (f.d.map u8v ++ [Value.bool f.wn]).take 32 = _
  rw [List.take_append_of_le_length (by rw [List.length_map, h]; omega), List.take_of_length_le (by rw [List.length_map, h]; omega)]
end Go.Proofs.YtocbahahienigaaDoor
