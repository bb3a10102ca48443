/- manifest.Body. -/
import Derived.Test.YtpafenlcgcenlaaGreatDoorMn3
import Derived.Test.YtpafenlcgcenlaaGreatDoorFldW
import Derived.Laws.IdiomStrings
import Derived.Lib.SlBytesConst
namespace Go.Proofs.YtpafenlcgcenlaaGreatDoor
open Go Go.RowKit
set_option linter.unusedVariables false
set_option linter.unusedSimpArgs false
attribute [local go_sem ↓] sbN_seal sldN_seal sstN_seal
def uN (n : Int) : Nat := (IntKind.u64.wrap n).toNat
theorem uN_eq (n : Int) : IntKind.u64.wrap n = ((uN n : Nat) : Int) := by
  have h : 0 ≤ IntKind.u64.wrap n := by
    unfold IntKind.wrap
    simp [IntKind.signed, IntKind.bits]
    omega
  unfold uN
  omega
/-- A manifest as bytes, without its tag. -/
def bodyB (nm : ByteArray) (i : Img) : List UInt8 := ((((([] ++ padTo [87, 76, 77, 49] 4) ++ padTo nm.data.toList 16) ++ be (uN i.v) 4) ++ be (uN i.s) 4) ++ padTo i.d 32)
theorem bodyB_len (nm : ByteArray) (i : Img) : (bodyB nm i).length = 60 := by
  unfold bodyB
  simp only [List.length_append, padTo_len, be_len]
  rfl
theorem str_bytes (w : World) (s : ByteArray) : ∃ W c, (convert 9 22 (.string s)).run Tryz.prog w = .ok (.slice (some ⟨w.heap.size, 0, none⟩) s.size c) W ∧ Reads W (some ⟨w.heap.size, 0, none⟩) s.size (s.data.toList.map u8v) ∧ Below w.heap.size w W := by
  refine ⟨_, _, run_bytes_of_string w 9 22 5 s Tryz.underlying9 Tryz.underlying22 Tryz.underlying5, ?_, (Below.refl w.heap.size w).drew.alloc (Nat.le_refl _) _⟩
  refine ⟨by rw [List.length_map, Array.length_toList]; rfl, fun _ => ⟨w.heap.size, 0, rfl, ?_, fun j u hu => ?_⟩⟩
  · show w.heap.size < (w.heap.push _).size
    simp
  · have hj : j < s.data.size := by
      rcases Nat.lt_or_ge j s.data.size with h | h
      · exact h
      · rw [List.getElem?_eq_none (by rw [List.length_map, Array.length_toList]; exact h)] at hu; cases hu
    rw [cell_of_row _ w.heap.size (0 + j) (bytesRow s (grownCap w s.size 0 5)) 5 ((bytesRow s (grownCap w s.size 0 5)).size, (bytesRow s (grownCap w s.size 0 5)).size + 1) (by show (w.heap.push _)[w.heap.size]? = _; simp), Nat.zero_add, bytesRow_at s _ j hj]
    rw [List.getElem?_map, Array.getElem?_toList, Array.getElem?_eq_getElem hj] at hu
    exact hu
end Go.Proofs.YtpafenlcgcenlaaGreatDoor
