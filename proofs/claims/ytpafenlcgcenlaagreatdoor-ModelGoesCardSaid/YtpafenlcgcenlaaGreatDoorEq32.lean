/- Whole arrays of 32 bytes compared. -/
import Derived.Test.YtpafenlcgcenlaaGreatDoorNorD
import Derived.Stop.BytesEq
import Derived.Lib.SmallJoins
namespace Go.Proofs.YtpafenlcgcenlaaGreatDoor
open Go Go.RowKit
set_option linter.unusedVariables false
set_option linter.unusedSimpArgs false
theorem sizeOf_u8 (w : World) : (sizeOf 5).run Tryz.prog w = .ok 1 w := by
  obtain ⟨i0, hi, hz0, hz1, hz2⟩ := info_parts info_u8
  simp [sizeOf, typeInfo, hi, hz1]
theorem eql32 (xs ys : List UInt8) (hx : xs.length = 32) (hy : ys.length = 32) (w : World) :
    (binOp .eql 39 (.agg (xs.map u8v).toArray) (.agg (ys.map u8v).toArray)).run Tryz.prog w = .ok (.bool (xs == ys)) w :=
  run_eql_bytes w 39 5 32 Tryz.underlying39 Tryz.underlying5 sizeOf_u8 xs ys hx hy
theorem neq32 (xs ys : List UInt8) (hx : xs.length = 32) (hy : ys.length = 32) (w : World) :
    (binOp .neq 39 (.agg (xs.map u8v).toArray) (.agg (ys.map u8v).toArray)).run Tryz.prog w = .ok (.bool (!(xs == ys))) w := by
  rw [run_neq_struct]
  have h := run_equalIn_bytes (P := Tryz.prog) w 9998 39 5 32 Tryz.underlying39 Tryz.underlying5 sizeOf_u8 xs ys hx hy
  have h2 : (Op.equalIn 10000 39 (.agg (xs.map u8v).toArray) (.agg (ys.map u8v).toArray)).run Tryz.prog w = .ok (xs == ys) w := h
  rw [h2]
  rfl
end Go.Proofs.YtpafenlcgcenlaaGreatDoor
