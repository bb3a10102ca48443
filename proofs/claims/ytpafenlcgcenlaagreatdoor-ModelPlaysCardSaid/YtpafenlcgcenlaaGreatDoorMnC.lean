/- waterlinelaw12.alive. · Manifests compared; which of the ten manifests of chapter 12 may be. · Plain: a manifest that may be is read as it was written. -/
import Derived.Test.YtpafenlcgcenlaaGreatDoorMnB
import Derived.Lib.SmallJoins
import Derived.Great.BuildSlice
import Derived.Test.YtpafenlcgcenlaaGreatDoorRwr
namespace Go.Proofs.YtpafenlcgcenlaaGreatDoor
open Go Go.RowKit
set_option linter.unusedVariables false
set_option linter.unusedSimpArgs false
attribute [local go_sem ↓] sbN_seal sldN_seal sstN_seal
@[reducible] def litI12 (v s : Int) : Array Value := #[.int .i64 v, .int .i64 s, .int .u8 0, .int .u8 0, .int .u8 0, .int .u8 0, .int .u8 0, .int .u8 0, .int .u8 0, .int .u8 0, .int .u8 0, .int .u8 0, .int .u8 0, .int .u8 0, .int .u8 0, .int .u8 0, .int .u8 0, .int .u8 0, .int .u8 0, .int .u8 0, .int .u8 0, .int .u8 0, .int .u8 0, .int .u8 0, .int .u8 0, .int .u8 0, .int .u8 0, .int .u8 0, .int .u8 0, .int .u8 0, .int .u8 0, .int .u8 0, .int .u8 0, .int .u8 0]
theorem litI12_eq (v s : Int) : litI12 v s = (⟨v, s, List.replicate 32 0⟩ : Img).cells.toArray := by rfl
end Go.Proofs.YtpafenlcgcenlaaGreatDoor
namespace Go.Proofs.YtpafenlcgcenlaaGreatDoor
open Go Go.RowKit
set_option linter.unusedVariables false
set_option linter.unusedSimpArgs false
/-! ### the ten manifests -/
def z32u : List UInt8 := List.replicate 32 0
theorem run_sbN3 (nm : ByteArray) (v s : Int) (w : World) : (sbN #[(0, .string nm), (1, .agg (litI12 v s))]).run Tryz.prog w = .ok (.agg (manC nm ⟨v, s, z32u⟩).toArray) w :=
  run_build w _ _ _ (by kernel_rfl)
end Go.Proofs.YtpafenlcgcenlaaGreatDoor
namespace Go.Proofs.YtpafenlcgcenlaaGreatDoor
open Go Go.RowKit
set_option linter.unusedVariables false
set_option linter.unusedSimpArgs false
end Go.Proofs.YtpafenlcgcenlaaGreatDoor
