/- waterlinelaw17.alive. -/
import Derived.Test.YtpbdglocfjbbfaaDoorUpC
namespace Go.Proofs.YtpbdglocfjbbfaaDoor
open Go Go.RowKit
set_option linter.unusedVariables false
set_option linter.unusedSimpArgs false
attribute [local go_sem ↓] sldI_seal sldM_seal sstM_seal sstI_seal sldF_seal sldQ_seal sldR_seal sstR_seal
def Mt.m17 : Mt := { Mt.zero with h0 := ⟨1, 5, List.replicate 32 0⟩ }
@[reducible] def litI (v s : Int) : Array Value := #[.int .i64 v, .int .i64 s, .int .u8 0, .int .u8 0, .int .u8 0, .int .u8 0, .int .u8 0, .int .u8 0, .int .u8 0, .int .u8 0, .int .u8 0, .int .u8 0, .int .u8 0, .int .u8 0, .int .u8 0, .int .u8 0, .int .u8 0, .int .u8 0, .int .u8 0, .int .u8 0, .int .u8 0, .int .u8 0, .int .u8 0, .int .u8 0, .int .u8 0, .int .u8 0, .int .u8 0, .int .u8 0, .int .u8 0, .int .u8 0, .int .u8 0, .int .u8 0, .int .u8 0, .int .u8 0]
theorem litI_eq (v s : Int) : litI v s = (⟨v, s, List.replicate 32 0⟩ : Img).cells.toArray := by rfl
@[reducible] def zeroF : Array Value := #[.bool false, .bool false, .int .u8 0, .int .u8 0, .int .u8 0, .int .u8 0, .int .u8 0, .int .u8 0, .int .u8 0, .int .u8 0, .int .u8 0, .int .u8 0, .int .u8 0, .int .u8 0, .int .u8 0, .int .u8 0, .int .u8 0, .int .u8 0, .int .u8 0, .int .u8 0, .int .u8 0, .int .u8 0, .int .u8 0, .int .u8 0, .int .u8 0, .int .u8 0, .int .u8 0, .int .u8 0, .int .u8 0, .int .u8 0, .int .u8 0, .int .u8 0, .int .u8 0, .int .u8 0, .bool false]
def Fc.zero : Fc := ⟨false, false, List.replicate 32 0, false⟩
theorem zeroF_eq : zeroF = Fc.zero.cells.toArray := by rfl
theorem m17_ok : Mt.m17.Ok := ⟨rfl, rfl, rfl, by decide, by decide⟩
theorem alive17_res : Ending.returned (doD Mt.m17 Fc.zero 9 0 ((0 : Nat) : Int) ⟨Mt.zero, 0, 0, 0⟩).res = .returned (.tuple #[.agg Mt.m17.cells.toArray, .agg #[.int .i64 0, .int .i64 0, .int .i64 0]]) := by
  have h1 : doD Mt.m17 Fc.zero 9 0 ((0 : Nat) : Int) ⟨Mt.zero, 0, 0, 0⟩ = ⟨Mt.m17, 0, 0, 0⟩ := by kernel_rfl
  rw [h1]
  rfl
set_option maxRecDepth 100000 in
set_option maxHeartbeats 4000000 in
theorem alive17_c (w : World) : Calls Tryd.prog 9 #[] w fun e w' => e = .returned (.bool true) ∧ Below w.heap.size w w' := by
  have hN := (Bxs.nil w).new rfl 27 Tryd.zeroCells27
  have hst := storeM Mt.zero_ok hN.hd zeroM_size
  have hP := hN.put Mt.zero.cells.toArray (Nat.le_refl _) (by intro x hx; cases hx)
  rw [← zeroC_M] at hst hP
  go_enter Tryd.func9, Tryd.ntmps9
  go_upto_region 2 with fail
  clear hst hN
  generalize (w.alloc (.cells Tryd.zeroCells27 27)).setRow w.heap.size Tryd.zeroCells27 = W1 at hP ⊢
  rw [zeroC_M] at hP
  have hst := run_sstI hP.hd 1 (by rw [List.size_toArray, Mt.cells_len Mt.zero_ok]; omega) ⟨1, 5, List.replicate 32 0⟩ rfl
  have hX := hP.sets (hP.hd.putH0 Mt.zero_ok ⟨1, 5, List.replicate 32 0⟩ rfl) (Nat.le_refl _) (by intro x hx; cases hx)
  rw [← litI_eq] at hst
  clear hP
  obtain ⟨IC, hIC⟩ : ∃ IC, (⟨1, 5, List.replicate 32 0⟩ : Img).cells = IC := ⟨_, rfl⟩
  rw [hIC] at hst hX
  clear hIC
  have HX := Lib.hid hX
  clear hX
  go_upto_region 3 with fail
  have hX := HX.out
  clear HX hst
  generalize World.setCells W1 w.heap.size 1 IC = W2 at hX ⊢
  obtain ⟨M, hM⟩ : ∃ M, Mt.m17.cells.toArray = M := ⟨_, rfl⟩
  have hX : Bxs w W2 [(w.heap.size, 27, M)] := hM ▸ hX
  have hld : (sldM (.pointer (some ⟨w.heap.size, 0, none⟩))).run Tryd.prog W2 = .ok (.agg M) W2 := by
    have q := hX.hd
    rw [← hM] at q ⊢
    exact run_sldM (Mt.cells_len m17_ok) q.whole
  have hdo : ∀ W, Calls Tryd.prog 10 #[.agg M, .agg #[.int .i64 9, .int .i64 0, .slice none 0 0], .agg zeroF, .int .i64 1] W fun e w' => e = .returned (.tuple #[.agg M, .agg #[.int .i64 0, .int .i64 0, .int .i64 0]]) ∧ Below W.heap.size W w' := fun W => by
    rw [← hM, zeroF_eq]
    refine (do_c W Mt.m17 m17_ok 9 0 none 0 0 (by decide) Fc.zero rfl 1 ⟨Mt.zero, 0, 0, 0⟩ (fun _ _ => Mt.zero_ok) (fun _ h => by cases h)).mono fun e w' hh => ⟨by rw [hh.1]; exact alive17_res, hh.2⟩
  have HX := Lib.hid hX
  have HDO := Lib.hid hdo
  have HM := Lib.hid hM
  clear hX hdo hM
  go_wp2_with fail
  refine (HDO.out _).mono ?_
  rintro e w3 ⟨rfl, hb3⟩
  have hX3 := HX.out.later hb3
  have hlt := hX3.hd.lt
  have hN1 := hX3.new rfl 27 Tryd.zeroCells27
  have hN2 := hN1.new (g := w3.heap.size + 1) (by simp) 36 #[.int .i64 0, .int .i64 0, .int .i64 0]
  have hst1 := storeM m17_ok hN2.tl.hd zeroM_size
  rw [HM.out] at hst1
  have hP1 := hN2.swap.put M (by have := hX3.bel.size; omega) (by intro x hx; simp only [List.mem_cons, List.not_mem_nil, or_false] at hx; rcases hx with hx | hx <;> (rw [hx]; simp <;> omega))
  have hst2 := run_sstR 0 0 0 hP1.tl.hd zeroR_size
  have hP2 := hP1.swap.put #[.int .i64 0, .int .i64 0, .int .i64 0] (by have := hX3.bel.size; omega) (by intro x hx; simp only [List.mem_cons, List.not_mem_nil, or_false] at hx; rcases hx with hx | hx <;> (rw [hx]; simp <;> omega))
  have HP := Lib.hid hP2
  clear hb3 hX3 hN1 hN2 hP1 hP2 hld HX
  obtain ⟨nb, hnb⟩ : ∃ nb, w3.heap.size = nb := ⟨_, rfl⟩
  rw [hnb] at hst1 hst2 HP
  go_upto_region 4 with fail
  have hP := HP.out
  clear HP hst1 hst2
  generalize World.setRow _ (nb + 1) _ = W5 at hP ⊢
  have hl1 : (sldM (.pointer (some ⟨nb, 0, none⟩))).run Tryd.prog W5 = .ok (.agg M) W5 := by
    have q := hP.tl.hd
    rw [← HM.out] at q ⊢
    exact run_sldM (Mt.cells_len m17_ok) q.whole
  have hl2 : (sldM (.pointer (some ⟨w.heap.size, 0, none⟩))).run Tryd.prog W5 = .ok (.agg M) W5 := by
    have q := hP.tl.tl.hd
    rw [← HM.out] at q ⊢
    exact run_sldM (Mt.cells_len m17_ok) q.whole
  have hl3 : (sldR (.pointer (some ⟨nb + 1, 0, none⟩))).run Tryd.prog W5 = .ok (.agg #[.int .i64 0, .int .i64 0, .int .i64 0]) W5 := run_sldR rfl (Blk.whole (l := [.int .i64 0, .int .i64 0, .int .i64 0]) hP.hd)
  have he1 : ∀ W, (binOp .eql 27 (.agg M) (.agg M)).run Tryd.prog W = .ok (.bool true) W := fun W => by rw [← HM.out]; exact eqlM Mt.m17 m17_ok W
  have he2 : ∀ W, (binOp .eql 36 (.agg #[.int .i64 0, .int .i64 0, .int .i64 0]) (.agg #[.int .i64 0, .int .i64 0, .int .i64 0])).run Tryd.prog W = .ok (.bool true) W := fun W => eqlR 0 0 0 0 0 0 W
  have hch : ∀ w, Calls Tryd.prog 12 #[.int .i64 1] w fun e w' => e = .returned (.int .i64 1) ∧ w = w' := fun w => uchunks_c 1 (by decide) w
  have hln : ∀ w, Calls Tryd.prog 14 #[.int .i64 321, .int .i64 1] w fun e w' => e = .returned (.int .i64 1) ∧ w = w' := fun w => ulen_c 321 1 (by decide) w
  have HB := Lib.hid hP.bel
  clear hP HDO HM
  go_wp2_with fail
  refine (hch _).mono ?_
  rintro e w6 ⟨rfl, rfl⟩
  go_wp2_with fail
  refine (hln _).mono ?_
  rintro e w7 ⟨rfl, rfl⟩
  go_wp2_with fail
  go_ret
  exact ⟨rfl, HB.out⟩
end Go.Proofs.YtpbdglocfjbbfaaDoor
