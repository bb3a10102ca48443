/- waterlinelaw12.alive. -/
import Derived.Test.YtpafenlcgcenlaaGreatDoorMn5
import Derived.Lib.SmallJoins
namespace Go.Proofs.YtpafenlcgcenlaaGreatDoor
open Go Go.RowKit
set_option linter.unusedVariables false
set_option linter.unusedSimpArgs false
attribute [local go_sem ↓] sbN_seal sldN_seal sstN_seal
def body12 : List UInt8 := [87, 76, 77, 49, 97, 0, 0, 0, 0, 0, 0, 0, 0, 0, 0, 0, 0, 0, 0, 0, 0, 0, 0, 1, 0, 0, 0, 1, 0, 0, 0, 0, 0, 0, 0, 0, 0, 0, 0, 0, 0, 0, 0, 0, 0, 0, 0, 0, 0, 0, 0, 0, 0, 0, 0, 0, 0, 0, 0, 0]
def tag107 : List UInt8 := [36, 209, 67, 90, 230, 220, 57, 204, 6, 14, 75, 244, 173, 188, 34, 209, 243, 114, 194, 119, 100, 171, 232, 143, 84, 129, 51, 48, 145, 40, 245, 132]
def key107 : List UInt8 := [107]
theorem tag107_is : tagL [107] body12 = tag107 := by
  have hp : ∀ x, padL [107] x = (key107 ++ List.replicate 63 0).map (fun c => c ^^^ x) := by
    intro x; unfold padL keyBlock keyOf; rw [if_neg (by decide)]; rfl
  unfold tagL
  have e1 : sha ((key107 ++ List.replicate 63 0).map (fun c => c ^^^ 54) ++ body12) = [106, 179, 25, 116, 21, 177, 81, 226, 29, 16, 193, 17, 242, 246, 232, 161, 90, 245, 126, 214, 152, 200, 4, 244, 249, 200, 117, 62, 120, 217, 64, 224] := by
    rw [sha_F _ (of_decide_eq_true (by kernel_rfl))]; kernel_rfl
  have e2 : sha ((key107 ++ List.replicate 63 0).map (fun c => c ^^^ 92) ++ [106, 179, 25, 116, 21, 177, 81, 226, 29, 16, 193, 17, 242, 246, 232, 161, 90, 245, 126, 214, 152, 200, 4, 244, 249, 200, 117, 62, 120, 217, 64, 224]) = tag107 := by
    rw [sha_F _ (of_decide_eq_true (by kernel_rfl))]; kernel_rfl
  rw [hp, hp, e1]
  exact e2
def tag108 : List UInt8 := [139, 115, 47, 77, 41, 246, 5, 138, 246, 166, 177, 239, 169, 185, 105, 3, 146, 43, 30, 169, 232, 162, 195, 18, 20, 31, 54, 168, 102, 3, 217, 27]
def key108 : List UInt8 := [108]
theorem tag108_is : tagL [108] body12 = tag108 := by
  have hp : ∀ x, padL [108] x = (key108 ++ List.replicate 63 0).map (fun c => c ^^^ x) := by
    intro x; unfold padL keyBlock keyOf; rw [if_neg (by decide)]; rfl
  unfold tagL
  have e1 : sha ((key108 ++ List.replicate 63 0).map (fun c => c ^^^ 54) ++ body12) = [36, 204, 58, 208, 88, 20, 111, 229, 127, 159, 169, 24, 162, 12, 223, 114, 53, 128, 8, 179, 34, 104, 43, 184, 72, 1, 244, 99, 91, 96, 207, 91] := by
    rw [sha_F _ (of_decide_eq_true (by kernel_rfl))]; kernel_rfl
  have e2 : sha ((key108 ++ List.replicate 63 0).map (fun c => c ^^^ 92) ++ [36, 204, 58, 208, 88, 20, 111, 229, 127, 159, 169, 24, 162, 12, 223, 114, 53, 128, 8, 179, 34, 104, 43, 184, 72, 1, 244, 99, 91, 96, 207, 91]) = tag108 := by
    rw [sha_F _ (of_decide_eq_true (by kernel_rfl))]; kernel_rfl
  rw [hp, hp, e1]
  exact e2
def img11 : Img := ⟨1, 1, List.replicate 32 0⟩
theorem body12_is : bodyB ⟨#[97]⟩ img11 = body12 := by kernel_rfl
theorem bytes12_is : bytesB [107] ⟨#[97]⟩ img11 = body12 ++ tag107 := by unfold bytesB; rw [body12_is, tag107_is]
theorem take12 : (body12 ++ tag107).take 60 = body12 := by rfl
theorem signed12k : signedB [107] (bytesB [107] ⟨#[97]⟩ img11) = true := by
  rw [bytes12_is]
  unfold signedB
  rw [take12, tag107_is]
  kernel_rfl
theorem signed12l : signedB [108] (bytesB [107] ⟨#[97]⟩ img11) = false := by
  rw [bytes12_is]
  unfold signedB
  rw [take12, tag108_is]
  kernel_rfl
@[reducible] def litI12 (v s : Int) : Array Value := #[.int .i64 v, .int .i64 s, .int .u8 0, .int .u8 0, .int .u8 0, .int .u8 0, .int .u8 0, .int .u8 0, .int .u8 0, .int .u8 0, .int .u8 0, .int .u8 0, .int .u8 0, .int .u8 0, .int .u8 0, .int .u8 0, .int .u8 0, .int .u8 0, .int .u8 0, .int .u8 0, .int .u8 0, .int .u8 0, .int .u8 0, .int .u8 0, .int .u8 0, .int .u8 0, .int .u8 0, .int .u8 0, .int .u8 0, .int .u8 0, .int .u8 0, .int .u8 0, .int .u8 0, .int .u8 0]
theorem litI12_eq (v s : Int) : litI12 v s = (⟨v, s, List.replicate 32 0⟩ : Img).cells.toArray := by rfl
theorem run_sbN2 (w : World) : (sbN #[(0, .string ⟨#[97]⟩), (1, .agg (litI12 1 1))]).run Tryz.prog w = .ok (.agg (manC ⟨#[97]⟩ ⟨1, 1, List.replicate 32 0⟩).toArray) w :=
  run_build w _ _ _ (by kernel_rfl)
end Go.Proofs.YtpafenlcgcenlaaGreatDoor
