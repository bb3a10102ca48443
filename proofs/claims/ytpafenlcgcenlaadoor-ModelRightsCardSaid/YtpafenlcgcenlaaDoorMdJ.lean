/- (*model.Model).Do of a request that the rights do not allow. -/
import Derived.Test.YtpafenlcgcenlaaDoorMdI
namespace Go.Proofs.YtpafenlcgcenlaaDoor
open Go Go.RowKit
set_option linter.unusedVariables false
set_option linter.unusedSimpArgs false
set_option maxRecDepth 100000 in
set_option maxHeartbeats 2000000 in
theorem mdo_no (w : World) (B b : Nat) (c : Cf) (m : Mt) (l0 l1 : List UInt8) (K : Option Addr) (kc : Nat) (F : Option Addr) (fc : Nat) (S0 : Option Addr) (c0 : Nat) (S1 : Option Addr) (c1 : Nat) (h : MdAt w B b c m l0 l1 K kc F fc S0 c0 S1 c1) (r : Nat) (hr : c.rights = (r : Int)) (hr2 : r ≤ 1023) (qk qn : Int) (SB : Option Addr) (sl sc : Nat) (hno : mayK r qk = false) : Calls Tryd.prog 6 #[.pointer (some ⟨b, 0, none⟩), .agg #[.int .i64 qk, .int .i64 qn, .slice SB sl sc]] w fun e w' => e = .returned (.agg #[.int .i64 14, .int .i64 0, .int .i64 0]) ∧ Below w.heap.size w w' := by
  have hq := (Blk.new w 33 #[.int .i64 qk, .int .i64 qn, .slice SB sl sc]).alloc (.cells #[.int .i64 0, .int .i64 0, .int .i64 0] 30)
  have hx := (Blk.new (w.alloc (.cells #[.int .i64 qk, .int .i64 qn, .slice SB sl sc] 33)) 30 #[.int .i64 0, .int .i64 0, .int .i64 0])
  rw [show (w.alloc (.cells #[.int .i64 qk, .int .i64 qn, .slice SB sl sc] 33)).heap.size = w.heap.size + 1 from by simp] at hx
  have hb : Below w.heap.size w ((w.alloc (.cells #[.int .i64 qk, .int .i64 qn, .slice SB sl sc] 33)).alloc (.cells #[.int .i64 0, .int .i64 0, .int .i64 0] 30)) := ((Below.refl _ w).alloc (Nat.le_refl _) _).alloc (by simp) _
  have hm := h.below hb
  have k5 : ((w.alloc (.cells #[.int .i64 qk, .int .i64 qn, .slice SB sl sc] 33)).alloc (.cells #[.int .i64 0, .int .i64 0, .int .i64 0] 30)).cell? ⟨b, 5, none⟩ = some (.int .i64 (r : Int)) := by
    rw [hm.cellC 5 (by omega)]
    show some (Value.int .i64 c.rights) = _
    rw [hr]
  have hmay := fun W => cmay_c W r hr2 0 0 qk
  rw [hno] at hmay
  have HQ := Lib.hid hq
  have HX := Lib.hid hx
  have HB := Lib.hid hb
  have HK5 := Lib.hid k5
  clear h hm hq hx hb hno k5 hr
  go_enter Tryd.func6, Tryd.ntmps6
  go_upto_region 3 with fail
  have hq := HQ.out
  have hx := HX.out
  have hb := HB.out
  have k5 := HK5.out
  clear HQ HX HB HK5
  generalize ((w.alloc (.cells #[.int .i64 qk, .int .i64 qn, .slice SB sl sc] 33)).alloc (.cells #[.int .i64 0, .int .i64 0, .int .i64 0] 30)) = W at hq hx hb k5 ⊢
  have HB := Lib.hid hb
  have HX := Lib.hid hx
  have hs0 : W.drew.cell? ⟨b, 5, none⟩ = some (.int .i64 (r : Int)) ∧ W.drew.cell? ⟨w.heap.size, 0, none⟩ = some (.int .i64 qk) := ⟨k5, hq.cell 0⟩
  clear hb hx hq
  refine wp_region_held_drew (S := (fun W => W.cell? ⟨b, 5, none⟩ = some (.int .i64 (r : Int)) ∧ W.cell? ⟨w.heap.size, 0, none⟩ = some (.int .i64 qk))) (by kernel_rfl) ?_ (fun hHeld => ?_)
  · exact hs0
  refine wpAnyH_take (i := 0) (v := ?_) rfl (by kernel_rfl) (by kernel_rfl) (by kernel_rfl) (fun _ _ _ h => h) (Or.inl ⟨by rfl, ?_⟩) (by assumption) ?_
  rotate_left
  · intro w hSw
    (try dsimp only at hSw)
    go_simp
    all_goals with_reducible rfl
  try simp only [Act.put, List.getElem_toArray, List.getElem_cons_succ, List.getElem_cons_zero, List.setIfInBounds_toArray, List.set_cons_zero, List.set_cons_succ]
  refine wpAnyH_take (i := 1) (v := ?_) rfl (by kernel_rfl) (by kernel_rfl) (by kernel_rfl) (fun _ _ _ h => h) (Or.inl ⟨by rfl, ?_⟩) (by assumption) ?_
  rotate_left
  · intro w hSw
    (try dsimp only at hSw)
    go_simp
    all_goals with_reducible rfl
  try simp only [Act.put, List.getElem_toArray, List.getElem_cons_succ, List.getElem_cons_zero, List.setIfInBounds_toArray, List.set_cons_zero, List.set_cons_succ]
  refine wpAnyH_take (i := 2) (v := ?_) rfl (by kernel_rfl) (by kernel_rfl) (by kernel_rfl) (fun _ _ _ h => h) (Or.inl ⟨by rfl, ?_⟩) (by assumption) ?_
  rotate_left
  · intro w hSw
    (try dsimp only at hSw)
    go_simp
    all_goals with_reducible rfl
  try simp only [Act.put, List.getElem_toArray, List.getElem_cons_succ, List.getElem_cons_zero, List.setIfInBounds_toArray, List.set_cons_zero, List.set_cons_succ]
  refine wpAnyH_take (i := 3) (v := ?_) rfl (by kernel_rfl) (by kernel_rfl) (by kernel_rfl) (fun _ _ _ h => h) (Or.inl ⟨by rfl, ?_⟩) (by assumption) ?_
  rotate_left
  · intro w hSw
    (try dsimp only at hSw)
    go_simp
    all_goals with_reducible rfl
  try simp only [Act.put, List.getElem_toArray, List.getElem_cons_succ, List.getElem_cons_zero, List.setIfInBounds_toArray, List.set_cons_zero, List.set_cons_succ]
  refine wpAnyH_take (i := 4) (v := ?_) rfl (by kernel_rfl) (by kernel_rfl) (by kernel_rfl) (fun _ _ _ h => h) (Or.inl ⟨by rfl, ?_⟩) (by assumption) ?_
  rotate_left
  · intro w hSw
    (try dsimp only at hSw)
    go_simp
    all_goals with_reducible rfl
  try simp only [Act.put, List.getElem_toArray, List.getElem_cons_succ, List.getElem_cons_zero, List.setIfInBounds_toArray, List.set_cons_zero, List.set_cons_succ]
  refine wpAnyH_take (i := 5) (v := ?_) rfl (by kernel_rfl) (by kernel_rfl) (by kernel_rfl) (fun _ _ _ h => h) (Or.inl ⟨by rfl, ?_⟩) (by assumption) ?_
  rotate_left
  · intro w hSw
    (try dsimp only at hSw)
    go_simp
    all_goals with_reducible rfl
  try simp only [Act.put, List.getElem_toArray, List.getElem_cons_succ, List.getElem_cons_zero, List.setIfInBounds_toArray, List.set_cons_zero, List.set_cons_succ]
  refine wpAnyH_take (i := 6) (v := ?_) rfl (by kernel_rfl) (by kernel_rfl) (by kernel_rfl) (fun _ _ _ h => h) (Or.inl ⟨by rfl, ?_⟩) (by assumption) ?_
  rotate_left
  · intro w hSw
    (try dsimp only at hSw)
    go_simp
    all_goals with_reducible rfl
  try simp only [Act.put, List.getElem_toArray, List.getElem_cons_succ, List.getElem_cons_zero, List.setIfInBounds_toArray, List.set_cons_zero, List.set_cons_succ]
  refine wpAnyH_take (i := 7) (v := ?_) rfl (by kernel_rfl) (by kernel_rfl) (by kernel_rfl) (fun _ _ _ h => h) (Or.inl ⟨by rfl, ?_⟩) (by assumption) ?_
  rotate_left
  · intro w hSw
    (try dsimp only at hSw)
    go_simp
    all_goals with_reducible rfl
  try simp only [Act.put, List.getElem_toArray, List.getElem_cons_succ, List.getElem_cons_zero, List.setIfInBounds_toArray, List.set_cons_zero, List.set_cons_succ]
  refine wpAnyH_ready (rs := [8]) (by kernel_rfl) (by simp) ?_
  refine AllReadyH.cons rfl (fun K hK => ?_) AllReadyH.nil
  go_simp
  refine (hmay _).mono ?_
  rintro e w9 ⟨rfl, hb9⟩
  go_wp2_with fail
  refine hK.out _ _ ?_ (fun hHeld => ?_)
  · (try dsimp only)
    exact ⟨cell_keepM hHeld.1 hb9, cell_keepM hHeld.2 hb9⟩
  clear hK K
  try simp only [Act.put, List.getElem_toArray, List.getElem_cons_succ, List.getElem_cons_zero, List.setIfInBounds_toArray, List.set_cons_zero, List.set_cons_succ]
  refine wpAnyH_take (i := 9) (v := ?_) rfl (by kernel_rfl) (by kernel_rfl) (by kernel_rfl) (fun _ _ _ h => h) (Or.inl ⟨by rfl, ?_⟩) (by assumption) ?_
  rotate_left
  · intro w hSw
    (try dsimp only at hSw)
    go_simp
    all_goals with_reducible rfl
  try simp only [Act.put, List.getElem_toArray, List.getElem_cons_succ, List.getElem_cons_zero, List.setIfInBounds_toArray, List.set_cons_zero, List.set_cons_succ]
  refine wpAnyH_done (by kernel_rfl) ?_ _
  try simp only [Act.put, List.getElem_toArray, List.getElem_cons_succ, List.getElem_cons_zero, List.setIfInBounds_toArray, List.set_cons_zero, List.set_cons_succ]
  have hb2 := (Below.refl W.heap.size W).drew.trans hb9
  have HX2 := Lib.hid (HX.out.below hb2 HX.out.lt)
  have HB2 := Lib.hid (HB.out.trans (hb2.mono HB.out.size))
  have q0 := HX2.out.cell 0
  have q1 := HX2.out.cell 1
  have q2 := HX2.out.cell 2
  have z0 := HX2.out.frozen 0
  have z1 := HX2.out.frozen 1
  have z2 := HX2.out.frozen 2
  go_wp2_with fail
  have hge : w.heap.size ≤ w.heap.size + 1 := Nat.le_succ _
  refine bodyPost_ret (results_cell_row rfl _ _ (w.heap.size + 1) 30 #[.int .i64 14, .int .i64 0, .int .i64 0] (0, 0) _ rfl (((HX2.out.set_ 0 (.int .i64 14)).set_ 1 (.int .i64 0)).set_ 2 (.int .i64 0)) Tryd.underlying30 rfl info_sRp) rfl ?_
  exact ⟨rfl, ((HB2.out.setCell hge _).setCell hge _).setCell hge _⟩
end Go.Proofs.YtpafenlcgcenlaaDoor
