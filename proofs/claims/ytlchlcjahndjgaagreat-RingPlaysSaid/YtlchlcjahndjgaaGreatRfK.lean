/- The reference: NewArea, WearSum, Least. -/
import Derived.Test.YtlchlcjahndjgaaGreatRfJ
import Derived.Test.YtlchlcjahndjgaaGreatWear
namespace Go.Proofs.YtlchlcjahndjgaaGreat
open Go.RowKit
set_option linter.unusedVariables false
set_option linter.unusedSimpArgs false
def Ar.rnew (n : Nat) (x l b : Int) : Ar :=
  if 0 ≤ x ∧ 0 ≤ l ∧ x ≤ (n : Int) then { from_ := x.toNat, len := (min l ((n : Int) - x)).toNat, budget := max 0 (min b 1000) }
  else { from_ := 0, len := 0, budget := max 0 (min b 1000) }
theorem Ar.rnew_ok (n : Nat) (x l b : Int) : (Ar.rnew n x l b).Ok n := by
  unfold rnew
  split
  · refine ⟨?_, ?_, ?_⟩ <;> simp only <;> omega
  · refine ⟨?_, ?_, ?_⟩ <;> simp only <;> omega
theorem Ar.rnew_new (n : Nat) (b : Int) : Ar.rnew n 0 n b = Ar.new n 0 n b := by
  unfold rnew Ar.new
  rw [if_pos (by omega)]
  split
  · rfl
  · congr 1
    omega
section
variable {fb bb wb : Nat} {G : RF} (w : World)
def RNewArea (w : World) (fb n : Nat) (R : Ar) (e : Ending) (w' : World) : Prop :=
  ∃ ab, e = .returned (ptr ab) ∧ RAt w' ab fb R n ∧ Below w.heap.size w w' ∧ w.heap.size ≤ ab
theorem rnewarea_fin {w W : World} {g fb n : Nat} {R : Ar} {x y v : Int} (HB : Blk W g 67 #[ptr fb, .int .i64 x, .int .i64 y, .int .i64 v]) (hW : Below w.heap.size w W) (hg : w.heap.size ≤ g)
    (hok : R.Ok n) (hn : n ≤ 400) (e1 : (R.from_ : Int) = x) (e2 : (R.len : Int) = y) (e3 : R.budget = v) : RNewArea w fb n R (.returned (ptr g)) W := by
  subst e1 e2 e3
  exact ⟨g, rfl, ⟨hok, hn, HB⟩, hW, hg⟩
set_option maxHeartbeats 1000000 in
set_option maxRecDepth 100000 in
theorem rnewarea_c (r x l b : Int) (hF : RFAt w fb bb wb G) :
    Calls Tryz.prog 8 #[ptr fb, .agg #[.int .i64 r, .int .i64 x, .int .i64 l], .int .i64 b] w (RNewArea w fb G.wear.length (Ar.rnew G.wear.length x l b)) := by
  have HF := Lib.hid hF
  have hmost := hF.ok.most
  obtain ⟨v, hv⟩ : ∃ v, (if b < 0 then 0 else if 1000 < b then 1000 else b) = v := ⟨_, rfl⟩
  have hv2 : v = max 0 (min b 1000) := by rw [← hv]; split <;> (try split) <;> omega
  have hcut : ∀ W, Calls Tryz.prog 29 #[.int .i64 b, .int .i64 0, .int .i64 1000] W fun e w' => e = .returned (.int .i64 v) ∧ W = w' := fun W => hv ▸ refcut_c b 0 1000 W
  have HV := Lib.hid hv2
  obtain ⟨C, hC⟩ : ∃ C, (w.alloc (.cells #[.int .i64 r, .int .i64 x, .int .i64 l] 29)) = C := ⟨_, rfl⟩
  have hCs : C.heap.size = w.heap.size + 1 := by rw [← hC]; simp
  have hCb : Below w.heap.size w C := hC ▸ (Below.refl _ _).alloc (Nat.le_refl _) _
  have hCF : RFAt C fb bb wb G := hC ▸ hF.alloc _
  have hCB : Blk C w.heap.size 29 #[.int .i64 r, .int .i64 x, .int .i64 l] := hC ▸ Blk.new w _ _
  have k1 : C.cell? ⟨w.heap.size, 1, none⟩ = some (.int .i64 x) := hCB.cell 1
  have k2 : C.cell? ⟨w.heap.size, 2, none⟩ = some (.int .i64 l) := hCB.cell 2
  have HCb := Lib.hid hCb
  have HCF := Lib.hid hCF
  have HCB := Lib.hid hCB
  have hB : Blk (C.alloc (.cells #[ptr fb, .int .i64 x, .int .i64 0, .int .i64 v] 67)) C.heap.size 67 #[ptr fb, .int .i64 x, .int .i64 0, .int .i64 v] := Blk.new C _ _
  obtain ⟨W, hW⟩ : ∃ W, C.alloc (.cells #[ptr fb, .int .i64 x, .int .i64 0, .int .i64 v] 67) = W := ⟨_, rfl⟩
  rw [hW, hCs] at hB
  have hWF : RFAt W fb bb wb G := hW ▸ hCF.alloc _
  have hWb : Below w.heap.size w W := hW ▸ hCb.alloc (by omega) _
  have hWB : Blk W w.heap.size 29 #[.int .i64 r, .int .i64 x, .int .i64 l] := hW ▸ hCB.alloc _
  have j1 : W.cell? ⟨w.heap.size, 1, none⟩ = some (.int .i64 x) := hWB.cell 1
  have j2 : W.cell? ⟨w.heap.size, 2, none⟩ = some (.int .i64 l) := hWB.cell 2
  have a1 : W.cell? ⟨w.heap.size + 1, 1, none⟩ = some (.int .i64 x) := hB.cell 1
  have a2 : W.cell? ⟨w.heap.size + 1, 2, none⟩ = some (.int .i64 0) := hB.cell 2
  have f1 := hB.frozen 1
  have f2 := hB.frozen 2
  have HW := Lib.hid hWF
  have HWb := Lib.hid hWb
  have HB := Lib.hid hB
  have e0 : ∀ n, (C.drewN n).alloc (.cells #[ptr fb, .int .i64 x, .int .i64 0, .int .i64 v] 67) = W.drewN n := fun n => by rw [← hW]; rfl
  have hcut2 : ∀ W' : World, ∀ m : Int, 0 ≤ l → 0 ≤ m → Calls Tryz.prog 29 #[.int .i64 l, .int .i64 0, .int .i64 m] W' fun e w' => e = .returned (.int .i64 (min l m)) ∧ W' = w' := fun W' m h1 h2 => by
    refine (refcut_c l 0 m W').mono ?_
    rintro e w' ⟨rfl, rfl⟩
    refine ⟨int_ret ?_, rfl⟩
    split
    · omega
    · split <;> omega
  clear hF hv hv2 hCb hCF hCB hB hWF hWb hWB HF
  by_cases hx : x < 0
  · have hA : Ar.rnew G.wear.length x l b = { from_ := 0, len := 0, budget := max 0 (min b 1000) } := by unfold Ar.rnew; rw [if_neg (by omega)]
    have HA := Lib.hid hA
    clear hA
    go_enter Tryz.func8, Tryz.ntmps8
    go_upto_region 1 with fail
    try rw [hC]
    clear hC
    refine wp_region_quiet_tail 5 (by kernel_rfl) (by kernel_rfl) ?_
    simp only [List.take_succ_cons, List.take_zero, List.drop_succ_cons, List.drop_zero]
    repeat (go_big_quiet_step ((go_at_call 29; exact Calls.quiet_of_same ((hcut _).mono fun _ _ hh => ⟨hh.1, hh.2.symm⟩))))
    refine wpQuiet_nil ?_
    intro nq
    go_upto_region 2 with fail
    try rw [e0]
    clear e0 k1 k2 hW
    have HW := Lib.hid (HW.out.drewN nq)
    have HWb := Lib.hid (below_drewN HWb.out nq)
    have HB := Lib.hid (HB.out.drewN nq)
    have j1 : (W.drewN nq).cell? ⟨w.heap.size, 1, none⟩ = some (.int .i64 x) := j1
    have j2 : (W.drewN nq).cell? ⟨w.heap.size, 2, none⟩ = some (.int .i64 l) := j2
    have a1 : (W.drewN nq).cell? ⟨w.heap.size + 1, 1, none⟩ = some (.int .i64 x) := a1
    have a2 : (W.drewN nq).cell? ⟨w.heap.size + 1, 2, none⟩ = some (.int .i64 0) := a2
    have f1 : (W.drewN nq).frozen? ⟨w.heap.size + 1, 1, none⟩ = false := f1
    have f2 : (W.drewN nq).frozen? ⟨w.heap.size + 1, 2, none⟩ = false := f2
    generalize W.drewN nq = W at *
    go_quiet ((go_at_call 31; first | exact Calls.quiet_of_same ((rlen_c _ (HW.out.drewN _)).mono fun _ _ hh => ⟨hh.1, hh.2.symm⟩) | exact Calls.quiet_of_same ((rlen_c _ ((HW.out.drewN _).drewN _)).mono fun _ _ hh => ⟨hh.1, hh.2.symm⟩)))
    go_wp2
    go_ret
    exact rnewarea_fin ((HB.out.drewN _).set_ 1 (.int .i64 0)) (Below.setCell (below_drewN HWb.out _) (Nat.le_succ _) _) (by omega) (Ar.rnew_ok _ _ _ _) hmost (by rw [HA.out]; rfl) (by rw [HA.out]; rfl) (by rw [HA.out, HV.out])
  · have hd1 : decide (x < 0) = false := decide_eq_false hx
    by_cases hl : l < 0
    · have hA : Ar.rnew G.wear.length x l b = { from_ := 0, len := 0, budget := max 0 (min b 1000) } := by unfold Ar.rnew; rw [if_neg (by omega)]
      have HA := Lib.hid hA
      clear hA
      go_enter Tryz.func8, Tryz.ntmps8
      go_upto_region 1 with fail
      try rw [hC]
      clear hC
      refine wp_region_quiet_tail 5 (by kernel_rfl) (by kernel_rfl) ?_
      simp only [List.take_succ_cons, List.take_zero, List.drop_succ_cons, List.drop_zero]
      repeat (go_big_quiet_step ((go_at_call 29; exact Calls.quiet_of_same ((hcut _).mono fun _ _ hh => ⟨hh.1, hh.2.symm⟩))))
      refine wpQuiet_nil ?_
      intro nq
      go_upto_region 2 with fail
      try rw [e0]
      clear e0 k1 k2 hW
      have HW := Lib.hid (HW.out.drewN nq)
      have HWb := Lib.hid (below_drewN HWb.out nq)
      have HB := Lib.hid (HB.out.drewN nq)
      have j1 : (W.drewN nq).cell? ⟨w.heap.size, 1, none⟩ = some (.int .i64 x) := j1
      have j2 : (W.drewN nq).cell? ⟨w.heap.size, 2, none⟩ = some (.int .i64 l) := j2
      have a1 : (W.drewN nq).cell? ⟨w.heap.size + 1, 1, none⟩ = some (.int .i64 x) := a1
      have a2 : (W.drewN nq).cell? ⟨w.heap.size + 1, 2, none⟩ = some (.int .i64 0) := a2
      have f1 : (W.drewN nq).frozen? ⟨w.heap.size + 1, 1, none⟩ = false := f1
      have f2 : (W.drewN nq).frozen? ⟨w.heap.size + 1, 2, none⟩ = false := f2
      generalize W.drewN nq = W at *
      go_quiet ((go_at_call 31; first | exact Calls.quiet_of_same ((rlen_c _ (HW.out.drewN _)).mono fun _ _ hh => ⟨hh.1, hh.2.symm⟩) | exact Calls.quiet_of_same ((rlen_c _ ((HW.out.drewN _).drewN _)).mono fun _ _ hh => ⟨hh.1, hh.2.symm⟩)))
      go_wp2
      go_ret
      exact rnewarea_fin ((HB.out.drewN _).set_ 1 (.int .i64 0)) (Below.setCell (below_drewN HWb.out _) (Nat.le_succ _) _) (by omega) (Ar.rnew_ok _ _ _ _) hmost (by rw [HA.out]; rfl) (by rw [HA.out]; rfl) (by rw [HA.out, HV.out])
    · have hd2 : decide (l < 0) = false := decide_eq_false hl
      by_cases hn : (G.wear.length : Int) < x
      · have hA : Ar.rnew G.wear.length x l b = { from_ := 0, len := 0, budget := max 0 (min b 1000) } := by unfold Ar.rnew; rw [if_neg (by omega)]
        have HA := Lib.hid hA
        clear hA
        go_enter Tryz.func8, Tryz.ntmps8
        go_upto_region 1 with fail
        try rw [hC]
        clear hC
        refine wp_region_quiet_tail 5 (by kernel_rfl) (by kernel_rfl) ?_
        simp only [List.take_succ_cons, List.take_zero, List.drop_succ_cons, List.drop_zero]
        repeat (go_big_quiet_step ((go_at_call 29; exact Calls.quiet_of_same ((hcut _).mono fun _ _ hh => ⟨hh.1, hh.2.symm⟩))))
        refine wpQuiet_nil ?_
        intro nq
        go_upto_region 2 with fail
        try rw [e0]
        clear e0 k1 k2 hW
        have HW := Lib.hid (HW.out.drewN nq)
        have HWb := Lib.hid (below_drewN HWb.out nq)
        have HB := Lib.hid (HB.out.drewN nq)
        have j1 : (W.drewN nq).cell? ⟨w.heap.size, 1, none⟩ = some (.int .i64 x) := j1
        have j2 : (W.drewN nq).cell? ⟨w.heap.size, 2, none⟩ = some (.int .i64 l) := j2
        have a1 : (W.drewN nq).cell? ⟨w.heap.size + 1, 1, none⟩ = some (.int .i64 x) := a1
        have a2 : (W.drewN nq).cell? ⟨w.heap.size + 1, 2, none⟩ = some (.int .i64 0) := a2
        have f1 : (W.drewN nq).frozen? ⟨w.heap.size + 1, 1, none⟩ = false := f1
        have f2 : (W.drewN nq).frozen? ⟨w.heap.size + 1, 2, none⟩ = false := f2
        generalize W.drewN nq = W at *
        go_quiet ((go_at_call 31; first | exact Calls.quiet_of_same ((rlen_c _ (HW.out.drewN _)).mono fun _ _ hh => ⟨hh.1, hh.2.symm⟩) | exact Calls.quiet_of_same ((rlen_c _ ((HW.out.drewN _).drewN _)).mono fun _ _ hh => ⟨hh.1, hh.2.symm⟩)))
        go_wp2
        go_ret
        exact rnewarea_fin ((HB.out.drewN _).set_ 1 (.int .i64 0)) (Below.setCell (below_drewN HWb.out _) (Nat.le_succ _) _) (by omega) (Ar.rnew_ok _ _ _ _) hmost (by rw [HA.out]; rfl) (by rw [HA.out]; rfl) (by rw [HA.out, HV.out])
      · have hd3 : decide ((G.wear.length : Int) < x) = false := decide_eq_false hn
        have hA : Ar.rnew G.wear.length x l b = { from_ := x.toNat, len := (min l ((G.wear.length : Int) - x)).toNat, budget := max 0 (min b 1000) } := by unfold Ar.rnew; rw [if_pos (by omega)]
        have HA := Lib.hid hA
        have ew : IntKind.i64.wrap ((G.wear.length : Int) - x) = (G.wear.length : Int) - x := IntWalk.i64_in _ (by omega)
        clear hA
        go_enter Tryz.func8, Tryz.ntmps8
        go_upto_region 1 with fail
        try rw [hC]
        clear hC
        refine wp_region_quiet_tail 5 (by kernel_rfl) (by kernel_rfl) ?_
        simp only [List.take_succ_cons, List.take_zero, List.drop_succ_cons, List.drop_zero]
        repeat (go_big_quiet_step ((go_at_call 29; exact Calls.quiet_of_same ((hcut _).mono fun _ _ hh => ⟨hh.1, hh.2.symm⟩))))
        refine wpQuiet_nil ?_
        intro nq
        go_upto_region 2 with fail
        try rw [e0]
        clear e0 k1 k2 hW
        have HW := Lib.hid (HW.out.drewN nq)
        have HWb := Lib.hid (below_drewN HWb.out nq)
        have HB := Lib.hid (HB.out.drewN nq)
        have j1 : (W.drewN nq).cell? ⟨w.heap.size, 1, none⟩ = some (.int .i64 x) := j1
        have j2 : (W.drewN nq).cell? ⟨w.heap.size, 2, none⟩ = some (.int .i64 l) := j2
        have a1 : (W.drewN nq).cell? ⟨w.heap.size + 1, 1, none⟩ = some (.int .i64 x) := a1
        have a2 : (W.drewN nq).cell? ⟨w.heap.size + 1, 2, none⟩ = some (.int .i64 0) := a2
        have f1 : (W.drewN nq).frozen? ⟨w.heap.size + 1, 1, none⟩ = false := f1
        have f2 : (W.drewN nq).frozen? ⟨w.heap.size + 1, 2, none⟩ = false := f2
        generalize W.drewN nq = W at *
        go_quiet ((go_at_call 31; first | exact Calls.quiet_of_same ((rlen_c _ (HW.out.drewN _)).mono fun _ _ hh => ⟨hh.1, hh.2.symm⟩) | exact Calls.quiet_of_same ((rlen_c _ ((HW.out.drewN _).drewN _)).mono fun _ _ hh => ⟨hh.1, hh.2.symm⟩)))
        go_upto_region 5 with fail
        have HW := Lib.hid (HW.out.drewN nq)
        have HWb := Lib.hid (below_drewN HWb.out nq)
        have HB := Lib.hid (HB.out.drewN nq)
        have j1 : (W.drewN nq).cell? ⟨w.heap.size, 1, none⟩ = some (.int .i64 x) := j1
        have j2 : (W.drewN nq).cell? ⟨w.heap.size, 2, none⟩ = some (.int .i64 l) := j2
        have a1 : (W.drewN nq).cell? ⟨w.heap.size + 1, 1, none⟩ = some (.int .i64 x) := a1
        have a2 : (W.drewN nq).cell? ⟨w.heap.size + 1, 2, none⟩ = some (.int .i64 0) := a2
        have f1 : (W.drewN nq).frozen? ⟨w.heap.size + 1, 1, none⟩ = false := f1
        have f2 : (W.drewN nq).frozen? ⟨w.heap.size + 1, 2, none⟩ = false := f2
        generalize W.drewN nq = W at *
        refine wp_region_quiet_tail 9 (by kernel_rfl) (by kernel_rfl) ?_
        simp only [List.take_succ_cons, List.take_zero, List.drop_succ_cons, List.drop_zero]
        repeat (go_big_quiet_step (first | (go_at_call 31; first | exact Calls.quiet_of_same ((rlen_c _ (HW.out.drewN _)).mono fun _ _ hh => ⟨hh.1, hh.2.symm⟩) | exact Calls.quiet_of_same ((rlen_c _ ((HW.out.drewN _).drewN _)).mono fun _ _ hh => ⟨hh.1, hh.2.symm⟩)) | (go_at_call 29; exact Calls.quiet_of_same ((hcut2 _ ((G.wear.length : Int) - x) (by omega) (by omega)).mono fun _ _ hh => ⟨hh.1, hh.2.symm⟩))))
        refine wpQuiet_nil ?_
        intro nq
        go_wp2
        go_ret
        exact rnewarea_fin ((HB.out.drewN _).set_ 2 (.int .i64 (min l ((G.wear.length : Int) - x)))) (Below.setCell (below_drewN HWb.out _) (Nat.le_succ _) _) (by omega) (Ar.rnew_ok _ _ _ _) hmost (by rw [HA.out]; simp only; omega) (by rw [HA.out]; simp only; omega) (by rw [HA.out, HV.out])
end
section
variable {ab fb bb wb : Nat} {R : Ar} {G : RF} (w : World)
def bestI (S : Int × Bool) : Int := if S.2 = true then S.1 else -1
theorem bestI_true (v : Int) : bestI (v, true) = v := rfl
theorem bestI_false (v : Int) : bestI (v, false) = -1 := rfl
theorem leastTo_false (R : Ar) (F : Fl) (x n : Int) (k : Nat) (h : (R.leastTo F x n k).2 = false) : (R.leastTo F x n k).1 = 0 := by
  induction k with
  | zero => rfl
  | succ k ih =>
    simp only [Ar.leastTo, Ar.leastStep] at h ⊢
    split at h
    · rename_i hc
      rw [if_pos hc]
      exact ih h
    · rename_i hc
      rw [if_neg hc]
      split at h
      · cases h
      · rename_i hd
        rw [if_neg hd]
        exact ih h
end
end Go.Proofs.YtlchlcjahndjgaaGreat
