/- The laws of chapter 4: alive; whole arrays of bytes compared. -/
import Derived.Test.YtpafenlcgcenlaaGreatDoorHmA
import Derived.Test.YtpafenlcgcenlaaGreatDoorEq32
import Derived.Stop.BytesEq
import Derived.Lib.SmallJoins
namespace Go.Proofs.YtpafenlcgcenlaaGreatDoor
open Go Go.RowKit
set_option linter.unusedVariables false
set_option linter.unusedSimpArgs false
def jefe : List UInt8 := [74, 101, 102, 101]
def want : List UInt8 := [119, 104, 97, 116, 32, 100, 111, 32, 121, 97, 32, 119, 97, 110, 116, 32, 102, 111, 114, 32, 110, 111, 116, 104, 105, 110, 103, 63]
def jefeTag : List UInt8 := [91, 220, 193, 70, 191, 96, 117, 78, 106, 4, 36, 38, 8, 149, 117, 199, 90, 0, 63, 8, 157, 39, 57, 131, 157, 236, 88, 185, 100, 236, 56, 67]
theorem tag_jefe : tagL jefe want = jefeTag := by
  have hp : ∀ x, padL jefe x = (jefe ++ List.replicate 60 0).map (fun c => c ^^^ x) := by
    intro x; unfold padL keyBlock keyOf; rw [if_neg (by decide)]; rfl
  unfold tagL
  have e1 : sha ((jefe ++ List.replicate 60 0).map (fun c => c ^^^ 54) ++ want) = [162, 228, 133, 134, 61, 39, 249, 216, 100, 172, 141, 128, 36, 50, 161, 237, 71, 125, 140, 76, 111, 52, 157, 22, 212, 231, 233, 23, 198, 41, 202, 215] := by
    rw [sha_F _ (by decide)]; kernel_rfl
  have e2 : sha ((jefe ++ List.replicate 60 0).map (fun c => c ^^^ 92) ++ [162, 228, 133, 134, 61, 39, 249, 216, 100, 172, 141, 128, 36, 50, 161, 237, 71, 125, 140, 76, 111, 52, 157, 22, 212, 231, 233, 23, 198, 41, 202, 215]) = jefeTag := by
    rw [sha_F _ (by decide)]; kernel_rfl
  rw [hp, hp, e1]
  exact e2
end Go.Proofs.YtpafenlcgcenlaaGreatDoor
