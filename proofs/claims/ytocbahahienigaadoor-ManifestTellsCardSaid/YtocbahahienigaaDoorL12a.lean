/- waterlinelaw12.alive. -/
import Derived.Test.YtocbahahienigaaDoorMn5
import Derived.Lib.SmallJoins
namespace Go.Proofs.YtocbahahienigaaDoor
open Go Go.RowKit
set_option linter.unusedVariables false
set_option linter.unusedSimpArgs false
attribute [local go_sem ↓] sbN_seal sldN_seal sstN_seal
def body12 : List UInt8 := [87, 76, 77, 49, 97, 0, 0, 0, 0, 0, 0, 0, 0, 0, 0, 0, 0, 0, 0, 0, 0, 0, 0, 1, 0, 0, 0, 1, 0, 0, 0, 0, 0, 0, 0, 0, 0, 0, 0, 0, 0, 0, 0, 0, 0, 0, 0, 0, 0, 0, 0, 0, 0, 0, 0, 0, 0, 0, 0, 0]
def tag107 : List UInt8 := [36, 209, 67, 90, 230, 220, 57, 204, 6, 14, 75, 244, 173, 188, 34, 209, 243, 114, 194, 119, 100, 171, 232, 143, 84, 129, 51, 48, 145, 40, 245, 132]
def key107 : List UInt8 := [107]
theorem tag107_is : tagL [107] body12 = tag107 := by
  have hp : ∀ x, padL [107] x = (key107 ++ List.replicate 63 0).map (fun c => c ^^^ x) := by
    intro x; unfold padL keyBlock keyOf; rw [if_neg (by decide)]; rfl
  unfold tagL
  have e1 : sha ((key107 ++ List.replicate 63 0).map (fun c => c ^^^ 54) ++ body12) = [106, 179, 25, 116, 21, 177, 81, 226, 29, 16, 193, 17, 242, 246, 232, 161, 90, 245, 126, 214, 152, 200, 4, 244, 249, 200, 117, 62, 120, 217, 64, 224] := by
    rw [sha_F _ (of_decide_eq_true (by kernel_rfl))]; kernel_rfl
  have e2 : sha ((key107 ++ List.replicate 63 0).map (fun c => c ^^^ 92) ++ [106, 179, 25, 116, 21, 177, 81, 226, 29, 16, 193, 17, 242, 246, 232, 161, 90, 245, 126, 214, 152, 200, 4, 244, 249, 200, 117, 62, 120, 217, 64, 224]) = tag107 := by
    rw [sha_F _ (of_decide_eq_true (by kernel_rfl))]; kernel_rfl
  rw [hp, hp, e1]
  exact e2
def tag108 : List UInt8 := [139, 115, 47, 77, 41, 246, 5, 138, 246, 166, 177, 239, 169, 185, 105, 3, 146, 43, 30, 169, 232, 162, 195, 18, 20, 31, 54, 168, 102, 3, 217, 27]
def key108 : List UInt8 := [108]
theorem tag108_is : tagL [108] body12 = tag108 := by
  have hp : ∀ x, padL [108] x = (key108 ++ List.replicate 63 0).map (fun c => c ^^^ x) := by
    intro x; unfold padL keyBlock keyOf; rw [if_neg (by decide)]; rfl
  unfold tagL
  have e1 : sha ((key108 ++ List.replicate 63 0).map (fun c => c ^^^ 54) ++ body12) = [36, 204, 58, 208, 88, 20, 111, 229, 127, 159, 169, 24, 162, 12, 223, 114, 53, 128, 8, 179, 34, 104, 43, 184, 72, 1, 244, 99, 91, 96, 207, 91] := by
    rw [sha_F _ (of_decide_eq_true (by kernel_rfl))]; kernel_rfl
  have e2 : sha ((key108 ++ List.replicate 63 0).map (fun c => c ^^^ 92) ++ [36, 204, 58, 208, 88, 20, 111, 229, 127, 159, 169, 24, 162, 12, 223, 114, 53, 128, 8, 179, 34, 104, 43, 184, 72, 1, 244, 99, 91, 96, 207, 91]) = tag108 := by
    rw [sha_F _ (of_decide_eq_true (by kernel_rfl))]; kernel_rfl
  rw [hp, hp, e1]
  exact e2
def img11 : Img := ⟨1, 1, List.replicate 32 0⟩
theorem body12_is : bodyB ⟨#[97]⟩ img11 = body12 := by kernel_rfl
theorem bytes12_is : bytesB [107] ⟨#[97]⟩ img11 = body12 ++ tag107 := by unfold bytesB; rw [body12_is, tag107_is]
theorem take12 : (body12 ++ tag107).take 60 = body12 := by rfl
theorem signed12k : signedB [107] (bytesB [107] ⟨#[97]⟩ img11) = true := by
  rw [bytes12_is]
  unfold signedB
  rw [take12, tag107_is]
  kernel_rfl
theorem signed12l : signedB [108] (bytesB [107] ⟨#[97]⟩ img11) = false := by
  rw [bytes12_is]
  unfold signedB
  rw [take12, tag108_is]
  kernel_rfl
theorem num12_c (n : Int) (w : World) : Calls Tryd.prog 14 #[.int .i64 n] w fun e w' => e = .returned (.int .i64 n) ∧ w = w' := by
  go_enter Tryd.func14, Tryd.ntmps14
  go_wp2_with fail
  go_ret
  exact ⟨rfl, rfl⟩
@[reducible] def litI12 (v s : Int) : Array Value := #[.int .i64 v, .int .i64 s, .int .u8 0, .int .u8 0, .int .u8 0, .int .u8 0, .int .u8 0, .int .u8 0, .int .u8 0, .int .u8 0, .int .u8 0, .int .u8 0, .int .u8 0, .int .u8 0, .int .u8 0, .int .u8 0, .int .u8 0, .int .u8 0, .int .u8 0, .int .u8 0, .int .u8 0, .int .u8 0, .int .u8 0, .int .u8 0, .int .u8 0, .int .u8 0, .int .u8 0, .int .u8 0, .int .u8 0, .int .u8 0, .int .u8 0, .int .u8 0, .int .u8 0, .int .u8 0]
theorem litI12_eq (v s : Int) : litI12 v s = (⟨v, s, List.replicate 32 0⟩ : Img).cells.toArray := by rfl
theorem run_sbN2 (w : World) : (sbN #[(0, .string ⟨#[97]⟩), (1, .agg (litI12 1 1))]).run Tryd.prog w = .ok (.agg (manC ⟨#[97]⟩ ⟨1, 1, List.replicate 32 0⟩).toArray) w :=
  run_build w _ _ _ (by kernel_rfl)
set_option maxRecDepth 100000 in
set_option maxHeartbeats 2000000 in
theorem alive12_c (w : World) : Calls Tryd.prog 7 #[] w fun e w' => e = .returned (.bool true) ∧ Below w.heap.size w w' := by
  have kc := fun (w : World) (C : Array Value) (n c : Nat) => Lib.run_convert_bytes_const (P := Tryd.prog) w 22 5 C n c Tryd.underlying22 Tryd.underlying5
  have hbd := fun W => run_sbN2 W
  have hread := mread_short w none 0 0 [] (Reads.none_ w) rfl (by omega) (by omega)
  go_enter Tryd.func7, Tryd.ntmps7
  go_wp2_with fail
  refine hread.mono ?_
  rintro e w1 ⟨hret, hb1⟩
  rcases hret with ⟨_, rfl⟩ | ⟨h92, _⟩
  rotate_left
  · exact absurd h92 (by decide)
  have hN := Blk.new w1 27 zeroN.toArray
  have hst := run_sstN zeroN hN (by rw [List.size_toArray]; rfl) rfl (manC_one _ _)
  have hb2 := below_setRow_m (hb1.alloc hb1.size (.cells zeroN.toArray 27)) hb1.size zeroN.toArray
  rw [← zeroN_eq] at hst hb2 ⊢
  have HB2 := Lib.hid hb2
  clear hread hb1 hN hb2
  go_upto_region 2 with fail
  generalize (w1.alloc (.cells litN 27)).setRow w1.heap.size litN = W2 at HB2 ⊢
  clear hst
  obtain ⟨MC, hMC⟩ : ∃ MC, (manC ⟨#[97]⟩ ⟨1, 1, List.replicate 32 0⟩).toArray = MC := ⟨_, rfl⟩
  obtain ⟨BB, hBB⟩ : ∃ BB, bytesB [107] ⟨#[97]⟩ img11 = BB := ⟨_, rfl⟩
  have hby : ∀ (W : World) (b c : Nat), Reads W (some ⟨b, 0, none⟩) 1 (([107] : List UInt8).map u8v) → Calls Tryd.prog 12 #[.slice (some ⟨b, 0, none⟩) 1 c, .agg MC] W fun e w' => ∃ A c, e = .returned (.slice A 92 c) ∧ w'.ownsRow W.heap.size 5 1 (.slice A 92 c) 92 (BB.map u8v) ∧ Below W.heap.size W w' := fun W b c h => by
    rw [← hMC, ← hBB]
    exact mbytes_c W (some ⟨b, 0, none⟩) 1 c [107] h (by omega) ⟨#[97]⟩ img11 rfl (by decide)
  have hs1 : signedB [107] BB = true := by rw [← hBB]; exact signed12k
  have hs2 : signedB [108] BB = false := by rw [← hBB]; exact signed12l
  rw [hMC] at hbd
  have HBY := Lib.hid hby
  have HS1 := Lib.hid hs1
  have HS2 := Lib.hid hs2
  clear hby hs1 hs2 hMC hBB
  go_wp2_with fail
  have hba : Below W2.heap.size W2 (W2.alloc (.cells #[.int .u8 107] 5 (1, 2))) := (Below.refl _ _).alloc (Nat.le_refl _) _
  refine (HBY.out _ W2.heap.size 1 (rowReads W2 [107] 5 (1, 2))).mono ?_
  rintro e w3 ⟨A, c, rfl, ho3, hb3⟩
  have hcap := own_cap ho3
  have HR3 := Lib.hid (Reads.of_own ho3)
  have HB3 := Lib.hid ((HB2.out.trans (hba.mono HB2.out.size)).trans (hb3.mono (Nat.le_trans HB2.out.size hba.size)))
  clear ho3 hba hb3 hbd
  go_wp2_with fail
  refine (num12_c _ _).mono ?_
  rintro e w4 ⟨rfl, rfl⟩
  go_wp2_with fail
  have hba : Below w3.heap.size w3 (w3.alloc (.cells #[.int .u8 107] 5 (1, 2))) := (Below.refl _ _).alloc (Nat.le_refl _) _
  refine (msigned_c _ (some ⟨w3.heap.size, 0, none⟩) 1 1 [107] (rowReads w3 [107] 5 (1, 2)) (by omega) A 92 c BB (HR3.out.below hba) (by omega) hcap).mono ?_
  rintro e w5 ⟨rfl, hb5⟩
  rw [HS1.out]
  have HR5 := Lib.hid ((HR3.out.below hba).below hb5)
  have HB5 := Lib.hid ((HB3.out.trans (hba.mono HB3.out.size)).trans (hb5.mono (Nat.le_trans HB3.out.size hba.size)))
  clear hba hb5
  go_wp2_with fail
  have hba : Below w5.heap.size w5 (w5.alloc (.cells #[.int .u8 108] 5 (1, 2))) := (Below.refl _ _).alloc (Nat.le_refl _) _
  refine (msigned_c _ (some ⟨w5.heap.size, 0, none⟩) 1 1 [108] (rowReads w5 [108] 5 (1, 2)) (by omega) A 92 c BB (HR5.out.below hba) (by omega) hcap).mono ?_
  rintro e w6 ⟨rfl, hb6⟩
  rw [HS2.out]
  have HB6 := Lib.hid ((HB5.out.trans (hba.mono HB5.out.size)).trans (hb6.mono (Nat.le_trans HB5.out.size hba.size)))
  clear hba hb6
  go_wp2_with fail
  go_ret
  exact ⟨rfl, HB6.out⟩
end Go.Proofs.YtocbahahienigaaDoor
