/- Walks of package nor, fourth part: New. -/
import Derived.Test.YtpafenlcgcenlaaGreatDoorNorC
import Derived.Deep.RegionWith
namespace Go.Proofs.YtpafenlcgcenlaaGreatDoor
open Go.RowKit
set_option linter.unusedVariables false
set_option linter.unusedSimpArgs false

theorem info_int : (Tryz.prog.info? 3).map (fun i => (i.zero, i.size, i.bytes)) = some (some (.int .i64 0), 1, 8) := by kernel_rfl
theorem made_int (n : Nat) : madeCells (Value.int .i64 0).cells (n * 1) = (List.replicate n (i64v 0)).toArray := by
  rw [Nat.mul_one]
  apply Array.ext
  · simp [madeCells]
  · intro i h1 h2
    simp [madeCells, Value.cells, Nat.mod_one]
theorem make_ints (n : Nat) (hn : n ≤ 1099511627776) (W : World) : (Instr.makeSlice 89 (.int .i64 (n : Int)) (.int .i64 (n : Int))).run Tryz.prog W = .ok (.slice (some ⟨W.heap.size, 0, none⟩) n n) (W.alloc (.cells (List.replicate n (i64v 0)).toArray 3)) := by
  obtain ⟨i0, hi, hz0, hz1, hz2⟩ := info_parts info_int
  have h := run_make (P := Tryz.prog) W 89 3 i0 _ Tryz.underlying89 hi hz0 .i64 .i64 n n (by omega) (by omega) (by rw [hz2]; omega) (by omega)
  rw [hz1] at h
  simp only [Int.toNat_natCast] at h
  rw [made_int] at h
  exact h

theorem c255 (w : World) (t : TypeId) : (w.alloc (.cells #[.int .u8 255] t)).cell? ⟨w.heap.size, 0, none⟩ = some (u8v 255) := (Blk.new w t #[.int .u8 255]).cell 0
theorem c255a (w : World) (R : Array Value) (t t' : TypeId) : ((w.alloc (.cells R t')).alloc (.cells #[.int .u8 255] t)).cell? ⟨w.heap.size + 1, 0, none⟩ = some (u8v 255) := by
  have h := (Blk.new (w.alloc (.cells R t')) t #[.int .u8 255]).cell 0
  rw [show (w.alloc (.cells R t')).heap.size = w.heap.size + 1 by simp] at h
  exact h
theorem c255b (w : World) (R : Array Value) (t t' : TypeId) : ((w.alloc (.cells #[.int .u8 255] t)).alloc (.cells R t')).cell? ⟨w.heap.size, 0, none⟩ = some (u8v 255) := ((Blk.new w t #[.int .u8 255]).alloc _).cell 0

section
variable {w0 w w' : World} {fb bb wb : Nat} {F F' : Fl}
end
theorem byte_row (w : World) (c : UInt8) : Reads (w.alloc (.cells #[u8v c] 5)) (some ⟨w.heap.size, 0, none⟩) 1 ([c].map u8v) := (Blk.new w 5 #[u8v c]).row (l := [u8v c])
end Go.Proofs.YtpafenlcgcenlaaGreatDoor
