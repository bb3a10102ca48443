/- The reference: NewArea, WearSum, Least. -/
import Derived.Test.YtlchlcjahndjgaaRfJ
import Derived.Test.YtlchlcjahndjgaaWear
namespace Go.Proofs.Ytlchlcjahndjgaa
open Go.RowKit
set_option linter.unusedVariables false
set_option linter.unusedSimpArgs false
def Ar.rnew (n : Nat) (x l b : Int) : Ar :=
  if 0 ≤ x ∧ 0 ≤ l ∧ x ≤ (n : Int) then { from_ := x.toNat, len := (min l ((n : Int) - x)).toNat, budget := max 0 (min b 1000) }
  else { from_ := 0, len := 0, budget := max 0 (min b 1000) }
theorem Ar.rnew_ok (n : Nat) (x l b : Int) : (Ar.rnew n x l b).Ok n := by
  unfold rnew
  split
  · refine ⟨?_, ?_, ?_⟩ <;> simp only <;> omega
  · refine ⟨?_, ?_, ?_⟩ <;> simp only <;> omega
theorem Ar.rnew_new (n : Nat) (b : Int) : Ar.rnew n 0 n b = Ar.new n 0 n b := by
  unfold rnew Ar.new
  rw [if_pos (by omega)]
  split
  · rfl
  · congr 1
    omega
section
variable {fb bb wb : Nat} {G : RF} (w : World)
def RNewArea (w : World) (fb n : Nat) (R : Ar) (e : Ending) (w' : World) : Prop :=
  ∃ ab, e = .returned (ptr ab) ∧ RAt w' ab fb R n ∧ Below w.heap.size w w' ∧ w.heap.size ≤ ab
theorem rnewarea_fin {w W : World} {g fb n : Nat} {R : Ar} {x y v : Int} (HB : Blk W g 106 #[ptr fb, .int .i64 x, .int .i64 y, .int .i64 v]) (hW : Below w.heap.size w W) (hg : w.heap.size ≤ g)
    (hok : R.Ok n) (hn : n ≤ 400) (e1 : (R.from_ : Int) = x) (e2 : (R.len : Int) = y) (e3 : R.budget = v) : RNewArea w fb n R (.returned (ptr g)) W := by
  subst e1 e2 e3
  exact ⟨g, rfl, ⟨hok, hn, HB⟩, hW, hg⟩
set_option maxHeartbeats 1000000 in
set_option maxRecDepth 100000 in
theorem rnewarea_c (r x l b : Int) (hF : RFAt w fb bb wb G) :
    Calls Try.prog 23 #[ptr fb, .agg #[.int .i64 r, .int .i64 x, .int .i64 l], .int .i64 b] w (RNewArea w fb G.wear.length (Ar.rnew G.wear.length x l b)) := by
  have HF := Lib.hid hF
  have hmost := hF.ok.most
  obtain ⟨v, hv⟩ : ∃ v, (if b < 0 then 0 else if 1000 < b then 1000 else b) = v := ⟨_, rfl⟩
  have hv2 : v = max 0 (min b 1000) := by rw [← hv]; split <;> (try split) <;> omega
  have hcut : ∀ W, Calls Try.prog 67 #[.int .i64 b, .int .i64 0, .int .i64 1000] W fun e w' => e = .returned (.int .i64 v) ∧ W = w' := fun W => hv ▸ refcut_c b 0 1000 W
  have HV := Lib.hid hv2
  obtain ⟨C, hC⟩ : ∃ C, (w.alloc (.cells #[.int .i64 r, .int .i64 x, .int .i64 l] 48)) = C := ⟨_, rfl⟩
  have hCs : C.heap.size = w.heap.size + 1 := by rw [← hC]; simp
  have hCb : Below w.heap.size w C := hC ▸ (Below.refl _ _).alloc (Nat.le_refl _) _
  have hCF : RFAt C fb bb wb G := hC ▸ hF.alloc _
  have hCB : Blk C w.heap.size 48 #[.int .i64 r, .int .i64 x, .int .i64 l] := hC ▸ Blk.new w _ _
  have k1 : C.cell? ⟨w.heap.size, 1, none⟩ = some (.int .i64 x) := hCB.cell 1
  have k2 : C.cell? ⟨w.heap.size, 2, none⟩ = some (.int .i64 l) := hCB.cell 2
  have HCb := Lib.hid hCb
  have HCF := Lib.hid hCF
  have HCB := Lib.hid hCB
  have hB : Blk (C.alloc (.cells #[ptr fb, .int .i64 x, .int .i64 0, .int .i64 v] 106)) C.heap.size 106 #[ptr fb, .int .i64 x, .int .i64 0, .int .i64 v] := Blk.new C _ _
  obtain ⟨W, hW⟩ : ∃ W, C.alloc (.cells #[ptr fb, .int .i64 x, .int .i64 0, .int .i64 v] 106) = W := ⟨_, rfl⟩
  rw [hW, hCs] at hB
  have hWF : RFAt W fb bb wb G := hW ▸ hCF.alloc _
  have hWb : Below w.heap.size w W := hW ▸ hCb.alloc (by omega) _
  have hWB : Blk W w.heap.size 48 #[.int .i64 r, .int .i64 x, .int .i64 l] := hW ▸ hCB.alloc _
  have j1 : W.cell? ⟨w.heap.size, 1, none⟩ = some (.int .i64 x) := hWB.cell 1
  have j2 : W.cell? ⟨w.heap.size, 2, none⟩ = some (.int .i64 l) := hWB.cell 2
  have a1 : W.cell? ⟨w.heap.size + 1, 1, none⟩ = some (.int .i64 x) := hB.cell 1
  have a2 : W.cell? ⟨w.heap.size + 1, 2, none⟩ = some (.int .i64 0) := hB.cell 2
  have f1 := hB.frozen 1
  have f2 := hB.frozen 2
  have HW := Lib.hid hWF
  have HWb := Lib.hid hWb
  have HB := Lib.hid hB
  have e0 : ∀ n, (C.drewN n).alloc (.cells #[ptr fb, .int .i64 x, .int .i64 0, .int .i64 v] 106) = W.drewN n := fun n => by rw [← hW]; rfl
  have hcut2 : ∀ W' : World, ∀ m : Int, 0 ≤ l → 0 ≤ m → Calls Try.prog 67 #[.int .i64 l, .int .i64 0, .int .i64 m] W' fun e w' => e = .returned (.int .i64 (min l m)) ∧ W' = w' := fun W' m h1 h2 => by
    refine (refcut_c l 0 m W').mono ?_
    rintro e w' ⟨rfl, rfl⟩
    refine ⟨int_ret ?_, rfl⟩
    split
    · omega
    · split <;> omega
  clear hF hv hv2 hCb hCF hCB hB hWF hWb hWB HF
  by_cases hx : x < 0
  · have hA : Ar.rnew G.wear.length x l b = { from_ := 0, len := 0, budget := max 0 (min b 1000) } := by unfold Ar.rnew; rw [if_neg (by omega)]
    have HA := Lib.hid hA
    clear hA
    go_enter Try.func23, Try.ntmps23
    go_upto_region 1 with fail
    try rw [hC]
    clear hC
    refine wp_region_quiet_tail 5 (by kernel_rfl) (by kernel_rfl) ?_
    simp only [List.take_succ_cons, List.take_zero, List.drop_succ_cons, List.drop_zero]
    repeat (go_big_quiet_step ((go_at_call 67; exact Calls.quiet_of_same ((hcut _).mono fun _ _ hh => ⟨hh.1, hh.2.symm⟩))))
    refine wpQuiet_nil ?_
    intro nq
    go_upto_region 2 with fail
    try rw [e0]
    clear e0 k1 k2 hW
    have HW := Lib.hid (HW.out.drewN nq)
    have HWb := Lib.hid (below_drewN HWb.out nq)
    have HB := Lib.hid (HB.out.drewN nq)
    have j1 : (W.drewN nq).cell? ⟨w.heap.size, 1, none⟩ = some (.int .i64 x) := j1
    have j2 : (W.drewN nq).cell? ⟨w.heap.size, 2, none⟩ = some (.int .i64 l) := j2
    have a1 : (W.drewN nq).cell? ⟨w.heap.size + 1, 1, none⟩ = some (.int .i64 x) := a1
    have a2 : (W.drewN nq).cell? ⟨w.heap.size + 1, 2, none⟩ = some (.int .i64 0) := a2
    have f1 : (W.drewN nq).frozen? ⟨w.heap.size + 1, 1, none⟩ = false := f1
    have f2 : (W.drewN nq).frozen? ⟨w.heap.size + 1, 2, none⟩ = false := f2
    generalize W.drewN nq = W at *
    go_quiet ((go_at_call 69; first | exact Calls.quiet_of_same ((rlen_c _ (HW.out.drewN _)).mono fun _ _ hh => ⟨hh.1, hh.2.symm⟩) | exact Calls.quiet_of_same ((rlen_c _ ((HW.out.drewN _).drewN _)).mono fun _ _ hh => ⟨hh.1, hh.2.symm⟩)))
    go_wp2
    go_ret
    exact rnewarea_fin ((HB.out.drewN _).set_ 1 (.int .i64 0)) (Below.setCell (below_drewN HWb.out _) (Nat.le_succ _) _) (by omega) (Ar.rnew_ok _ _ _ _) hmost (by rw [HA.out]; rfl) (by rw [HA.out]; rfl) (by rw [HA.out, HV.out])
  · have hd1 : decide (x < 0) = false := decide_eq_false hx
    by_cases hl : l < 0
    · have hA : Ar.rnew G.wear.length x l b = { from_ := 0, len := 0, budget := max 0 (min b 1000) } := by unfold Ar.rnew; rw [if_neg (by omega)]
      have HA := Lib.hid hA
      clear hA
      go_enter Try.func23, Try.ntmps23
      go_upto_region 1 with fail
      try rw [hC]
      clear hC
      refine wp_region_quiet_tail 5 (by kernel_rfl) (by kernel_rfl) ?_
      simp only [List.take_succ_cons, List.take_zero, List.drop_succ_cons, List.drop_zero]
      repeat (go_big_quiet_step ((go_at_call 67; exact Calls.quiet_of_same ((hcut _).mono fun _ _ hh => ⟨hh.1, hh.2.symm⟩))))
      refine wpQuiet_nil ?_
      intro nq
      go_upto_region 2 with fail
      try rw [e0]
      clear e0 k1 k2 hW
      have HW := Lib.hid (HW.out.drewN nq)
      have HWb := Lib.hid (below_drewN HWb.out nq)
      have HB := Lib.hid (HB.out.drewN nq)
      have j1 : (W.drewN nq).cell? ⟨w.heap.size, 1, none⟩ = some (.int .i64 x) := j1
      have j2 : (W.drewN nq).cell? ⟨w.heap.size, 2, none⟩ = some (.int .i64 l) := j2
      have a1 : (W.drewN nq).cell? ⟨w.heap.size + 1, 1, none⟩ = some (.int .i64 x) := a1
      have a2 : (W.drewN nq).cell? ⟨w.heap.size + 1, 2, none⟩ = some (.int .i64 0) := a2
      have f1 : (W.drewN nq).frozen? ⟨w.heap.size + 1, 1, none⟩ = false := f1
      have f2 : (W.drewN nq).frozen? ⟨w.heap.size + 1, 2, none⟩ = false := f2
      generalize W.drewN nq = W at *
      go_quiet ((go_at_call 69; first | exact Calls.quiet_of_same ((rlen_c _ (HW.out.drewN _)).mono fun _ _ hh => ⟨hh.1, hh.2.symm⟩) | exact Calls.quiet_of_same ((rlen_c _ ((HW.out.drewN _).drewN _)).mono fun _ _ hh => ⟨hh.1, hh.2.symm⟩)))
      go_wp2
      go_ret
      exact rnewarea_fin ((HB.out.drewN _).set_ 1 (.int .i64 0)) (Below.setCell (below_drewN HWb.out _) (Nat.le_succ _) _) (by omega) (Ar.rnew_ok _ _ _ _) hmost (by rw [HA.out]; rfl) (by rw [HA.out]; rfl) (by rw [HA.out, HV.out])
    · have hd2 : decide (l < 0) = false := decide_eq_false hl
      by_cases hn : (G.wear.length : Int) < x
      · have hA : Ar.rnew G.wear.length x l b = { from_ := 0, len := 0, budget := max 0 (min b 1000) } := by unfold Ar.rnew; rw [if_neg (by omega)]
        have HA := Lib.hid hA
        clear hA
        go_enter Try.func23, Try.ntmps23
        go_upto_region 1 with fail
        try rw [hC]
        clear hC
        refine wp_region_quiet_tail 5 (by kernel_rfl) (by kernel_rfl) ?_
        simp only [List.take_succ_cons, List.take_zero, List.drop_succ_cons, List.drop_zero]
        repeat (go_big_quiet_step ((go_at_call 67; exact Calls.quiet_of_same ((hcut _).mono fun _ _ hh => ⟨hh.1, hh.2.symm⟩))))
        refine wpQuiet_nil ?_
        intro nq
        go_upto_region 2 with fail
        try rw [e0]
        clear e0 k1 k2 hW
        have HW := Lib.hid (HW.out.drewN nq)
        have HWb := Lib.hid (below_drewN HWb.out nq)
        have HB := Lib.hid (HB.out.drewN nq)
        have j1 : (W.drewN nq).cell? ⟨w.heap.size, 1, none⟩ = some (.int .i64 x) := j1
        have j2 : (W.drewN nq).cell? ⟨w.heap.size, 2, none⟩ = some (.int .i64 l) := j2
        have a1 : (W.drewN nq).cell? ⟨w.heap.size + 1, 1, none⟩ = some (.int .i64 x) := a1
        have a2 : (W.drewN nq).cell? ⟨w.heap.size + 1, 2, none⟩ = some (.int .i64 0) := a2
        have f1 : (W.drewN nq).frozen? ⟨w.heap.size + 1, 1, none⟩ = false := f1
        have f2 : (W.drewN nq).frozen? ⟨w.heap.size + 1, 2, none⟩ = false := f2
        generalize W.drewN nq = W at *
        go_quiet ((go_at_call 69; first | exact Calls.quiet_of_same ((rlen_c _ (HW.out.drewN _)).mono fun _ _ hh => ⟨hh.1, hh.2.symm⟩) | exact Calls.quiet_of_same ((rlen_c _ ((HW.out.drewN _).drewN _)).mono fun _ _ hh => ⟨hh.1, hh.2.symm⟩)))
        go_wp2
        go_ret
        exact rnewarea_fin ((HB.out.drewN _).set_ 1 (.int .i64 0)) (Below.setCell (below_drewN HWb.out _) (Nat.le_succ _) _) (by omega) (Ar.rnew_ok _ _ _ _) hmost (by rw [HA.out]; rfl) (by rw [HA.out]; rfl) (by rw [HA.out, HV.out])
      · have hd3 : decide ((G.wear.length : Int) < x) = false := decide_eq_false hn
        have hA : Ar.rnew G.wear.length x l b = { from_ := x.toNat, len := (min l ((G.wear.length : Int) - x)).toNat, budget := max 0 (min b 1000) } := by unfold Ar.rnew; rw [if_pos (by omega)]
        have HA := Lib.hid hA
        have ew : IntKind.i64.wrap ((G.wear.length : Int) - x) = (G.wear.length : Int) - x := IntWalk.i64_in _ (by omega)
        clear hA
        go_enter Try.func23, Try.ntmps23
        go_upto_region 1 with fail
        try rw [hC]
        clear hC
        refine wp_region_quiet_tail 5 (by kernel_rfl) (by kernel_rfl) ?_
        simp only [List.take_succ_cons, List.take_zero, List.drop_succ_cons, List.drop_zero]
        repeat (go_big_quiet_step ((go_at_call 67; exact Calls.quiet_of_same ((hcut _).mono fun _ _ hh => ⟨hh.1, hh.2.symm⟩))))
        refine wpQuiet_nil ?_
        intro nq
        go_upto_region 2 with fail
        try rw [e0]
        clear e0 k1 k2 hW
        have HW := Lib.hid (HW.out.drewN nq)
        have HWb := Lib.hid (below_drewN HWb.out nq)
        have HB := Lib.hid (HB.out.drewN nq)
        have j1 : (W.drewN nq).cell? ⟨w.heap.size, 1, none⟩ = some (.int .i64 x) := j1
        have j2 : (W.drewN nq).cell? ⟨w.heap.size, 2, none⟩ = some (.int .i64 l) := j2
        have a1 : (W.drewN nq).cell? ⟨w.heap.size + 1, 1, none⟩ = some (.int .i64 x) := a1
        have a2 : (W.drewN nq).cell? ⟨w.heap.size + 1, 2, none⟩ = some (.int .i64 0) := a2
        have f1 : (W.drewN nq).frozen? ⟨w.heap.size + 1, 1, none⟩ = false := f1
        have f2 : (W.drewN nq).frozen? ⟨w.heap.size + 1, 2, none⟩ = false := f2
        generalize W.drewN nq = W at *
        go_quiet ((go_at_call 69; first | exact Calls.quiet_of_same ((rlen_c _ (HW.out.drewN _)).mono fun _ _ hh => ⟨hh.1, hh.2.symm⟩) | exact Calls.quiet_of_same ((rlen_c _ ((HW.out.drewN _).drewN _)).mono fun _ _ hh => ⟨hh.1, hh.2.symm⟩)))
        go_upto_region 5 with fail
        have HW := Lib.hid (HW.out.drewN nq)
        have HWb := Lib.hid (below_drewN HWb.out nq)
        have HB := Lib.hid (HB.out.drewN nq)
        have j1 : (W.drewN nq).cell? ⟨w.heap.size, 1, none⟩ = some (.int .i64 x) := j1
        have j2 : (W.drewN nq).cell? ⟨w.heap.size, 2, none⟩ = some (.int .i64 l) := j2
        have a1 : (W.drewN nq).cell? ⟨w.heap.size + 1, 1, none⟩ = some (.int .i64 x) := a1
        have a2 : (W.drewN nq).cell? ⟨w.heap.size + 1, 2, none⟩ = some (.int .i64 0) := a2
        have f1 : (W.drewN nq).frozen? ⟨w.heap.size + 1, 1, none⟩ = false := f1
        have f2 : (W.drewN nq).frozen? ⟨w.heap.size + 1, 2, none⟩ = false := f2
        generalize W.drewN nq = W at *
        refine wp_region_quiet_tail 9 (by kernel_rfl) (by kernel_rfl) ?_
        simp only [List.take_succ_cons, List.take_zero, List.drop_succ_cons, List.drop_zero]
        repeat (go_big_quiet_step (first | (go_at_call 69; first | exact Calls.quiet_of_same ((rlen_c _ (HW.out.drewN _)).mono fun _ _ hh => ⟨hh.1, hh.2.symm⟩) | exact Calls.quiet_of_same ((rlen_c _ ((HW.out.drewN _).drewN _)).mono fun _ _ hh => ⟨hh.1, hh.2.symm⟩)) | (go_at_call 67; exact Calls.quiet_of_same ((hcut2 _ ((G.wear.length : Int) - x) (by omega) (by omega)).mono fun _ _ hh => ⟨hh.1, hh.2.symm⟩))))
        refine wpQuiet_nil ?_
        intro nq
        go_wp2
        go_ret
        exact rnewarea_fin ((HB.out.drewN _).set_ 2 (.int .i64 (min l ((G.wear.length : Int) - x)))) (Below.setCell (below_drewN HWb.out _) (Nat.le_succ _) _) (by omega) (Ar.rnew_ok _ _ _ _) hmost (by rw [HA.out]; simp only; omega) (by rw [HA.out]; simp only; omega) (by rw [HA.out, HV.out])
end
section
variable {ab fb bb wb : Nat} {R : Ar} {G : RF} (w : World)
theorem rwsum_c (hF : RFAt w fb bb wb G) (h : RAt w ab fb R G.wear.length) :
    Calls Try.prog 31 #[ptr ab] w fun e w' => e = .returned (.int .i64 (R.sumLeft G.fl R.len)) ∧ ∃ n, w' = w.drewN n := by
  have HF := Lib.hid hF
  have H := Lib.hid h
  have hfit := h.ok.fit
  have hmost := h.most
  clear hF h
  go_enter Try.func31, Try.ntmps31
  go_wp2_with fail
  go_loopw [3, 4] (fun v i wr => ∃ k m : Nat, k ≤ R.len ∧ v = .int .i64 (R.sumLeft G.fl k) ∧ i = .int .i64 k ∧ w.drewN m = wr) (fun _ i _ => R.len - (intOf i).toNat)
  case atStart => exact ⟨0, 0, Nat.zero_le _, rfl, rfl, rfl⟩
  case round =>
    obtain ⟨k, m, hk, rfl, rfl, rfl⟩ := hrel
    have hb := Ar.sumLeft_b R G.fl _ H.out.ok HF.out.ok.fl k
    have hb2 := Ar.left_b R G.fl _ H.out.ok HF.out.ok.fl k
    have hs : R.sumLeft G.fl (k + 1) = R.sumLeft G.fl k + R.left G.fl k := rfl
    have HS := Lib.hid hs
    clear hs
    generalize hS : R.sumLeft G.fl k = S at *
    have HSS := Lib.hid hS
    clear hS
    by_cases hlt : k < R.len
    · go_wp2_with (first | (go_at_call 77; refine (ralen_c _ (H.out.drewN m)).mono ?_; rintro e w' ⟨rfl, rfl⟩))
      refine (raleft_c _ k (HF.out.drewN m) (H.out.drewN m)).mono ?_
      rintro e w' ⟨rfl, q, rfl⟩
      generalize R.left G.fl k = T at *
      go_wp2
      go_roundw
      case rel =>
        exact ⟨k + 1, m + q, by omega, by rw [HS.out], by go_num, rfl⟩
      case measure => simp [intOf]; omega
    · obtain rfl : k = R.len := by omega
      go_wp2_with (first | (go_at_call 77; refine (ralen_c _ (H.out.drewN m)).mono ?_; rintro e w' ⟨rfl, rfl⟩))
      go_ret
      exact ⟨int_ret HSS.out.symm, m, rfl⟩
def bestI (S : Int × Bool) : Int := if S.2 = true then S.1 else -1
theorem bestI_true (v : Int) : bestI (v, true) = v := rfl
theorem bestI_false (v : Int) : bestI (v, false) = -1 := rfl
theorem leastTo_false (R : Ar) (F : Fl) (x n : Int) (k : Nat) (h : (R.leastTo F x n k).2 = false) : (R.leastTo F x n k).1 = 0 := by
  induction k with
  | zero => rfl
  | succ k ih =>
    simp only [Ar.leastTo, Ar.leastStep] at h ⊢
    split at h
    · rename_i hc
      rw [if_pos hc]
      exact ih h
    · rename_i hc
      rw [if_neg hc]
      split at h
      · cases h
      · rename_i hd
        rw [if_neg hd]
        exact ih h
set_option maxHeartbeats 1000000 in
set_option maxRecDepth 100000 in
theorem rwleast_c (x n : Int) (hx0 : -9223372036854775808 ≤ x) (hx1 : x ≤ 9223372036854775807) (hn0 : -9223372036854775808 ≤ n) (hn1 : n ≤ 9223372036854775807) (hF : RFAt w fb bb wb G) (h : RAt w ab fb R G.wear.length) :
    Calls Try.prog 29 #[ptr ab, .int .i64 x, .int .i64 n] w fun e w' => e = .returned (.tuple #[.int .i64 (R.least G.fl x n).1, .bool (R.least G.fl x n).2]) ∧ ∃ n, w' = w.drewN n := by
  have HF := Lib.hid hF
  have H := Lib.hid h
  have hfit := h.ok.fit
  have hmost := h.most
  clear hF h
  go_enter Try.func29, Try.ntmps29
  go_wp2_with fail
  go_loopw [8, 9] (fun v i wr => ∃ k m : Nat, k ≤ R.len ∧ v = .int .i64 (bestI (R.leastTo G.fl x n k)) ∧ i = .int .i64 k ∧ w.drewN m = wr) (fun _ i _ => R.len - (intOf i).toNat)
  case atStart => exact ⟨0, 0, Nat.zero_le _, rfl, rfl, rfl⟩
  case round =>
    obtain ⟨k, m, hk, rfl, rfl, rfl⟩ := hrel
    have hb := Ar.leastTo_b R G.fl x n k
    have hs : R.leastTo G.fl x n (k + 1) = R.leastStep G.fl x n (R.leastTo G.fl x n k) k := rfl
    have hS0 := leastTo_false R G.fl x n k
    generalize hS : R.leastTo G.fl x n k = S at *
    obtain ⟨v, t⟩ := S
    simp only at hb hS0
    have HS := Lib.hid hs
    have HSS := Lib.hid hS
    have HS0 := Lib.hid hS0
    clear hs hS hS0
    have hlen : ∀ W : World, RAt W ab fb R G.wear.length → Calls Try.prog 77 #[ptr ab] W fun e w' => e = .returned (.int .i64 R.len) ∧ W = w' := fun W h => ralen_c W h
    by_cases hlt : k < R.len
    · -- is it in?
      by_cases hin : (k : Int) < x ∨ n < 1 ∨ n ≤ (k : Int) - x
      · have hst : R.leastTo G.fl x n (k + 1) = (v, t) := by rw [HS.out]; unfold Ar.leastStep; rw [if_pos hin]
        have HST := Lib.hid hst
        clear hst
        by_cases c0 : x < 0
        · by_cases c1 : 0 < n
          · have e1 : IntKind.i64.wrap (n + x) = n + x := IntWalk.i64_in _ (by omega)
            have d1 : decide ((k : Int) < n + x) = false := decide_eq_false (by omega)
            have d2 : x ≤ (k : Int) := by omega
            go_wp2_with (first | (go_at_call 77; refine (hlen _ (H.out.drewN m)).mono ?_; rintro e w' ⟨rfl, rfl⟩))
            go_roundw
            case rel => exact ⟨k + 1, m, by omega, by rw [HST.out], by go_num, rfl⟩
            case measure => simp [intOf]; omega
          · have d1 : decide (0 < n) = false := decide_eq_false c1
            have d2 : x ≤ (k : Int) := by omega
            go_wp2_with (first | (go_at_call 77; refine (hlen _ (H.out.drewN m)).mono ?_; rintro e w' ⟨rfl, rfl⟩))
            go_roundw
            case rel => exact ⟨k + 1, m, by omega, by rw [HST.out], by go_num, rfl⟩
            case measure => simp [intOf]; omega
        · by_cases c1 : x ≤ (k : Int)
          · have e1 : IntKind.i64.wrap ((k : Int) - x) = (k : Int) - x := IntWalk.i64_in _ (by omega)
            have d1 : decide ((k : Int) - x < n) = false := decide_eq_false (by omega)
            go_wp2_with (first | (go_at_call 77; refine (hlen _ (H.out.drewN m)).mono ?_; rintro e w' ⟨rfl, rfl⟩))
            go_roundw
            case rel => exact ⟨k + 1, m, by omega, by rw [HST.out], by go_num, rfl⟩
            case measure => simp [intOf]; omega
          · have d1 : decide (x ≤ (k : Int)) = false := decide_eq_false c1
            go_wp2_with (first | (go_at_call 77; refine (hlen _ (H.out.drewN m)).mono ?_; rintro e w' ⟨rfl, rfl⟩))
            go_roundw
            case rel => exact ⟨k + 1, m, by omega, by rw [HST.out], by go_num, rfl⟩
            case measure => simp [intOf]; omega
      · have hn1 : 1 ≤ n := by omega
        have hxk : x ≤ (k : Int) := by omega
        by_cases c0 : x < 0
        · have e1 : IntKind.i64.wrap (n + x) = n + x := IntWalk.i64_in _ (by omega)
          have d1 : (k : Int) < n + x := by omega
          have d0 : 0 < n := by omega
          cases t
          · have hst : R.leastTo G.fl x n (k + 1) = ((k : Int), true) := by rw [HS.out]; unfold Ar.leastStep; rw [if_neg hin, if_pos (Or.inl rfl)]
            have HST := Lib.hid hst
            clear hst hin
            simp only [bestI_false]
            go_wp2_with (first | (go_at_call 77; refine (hlen _ (H.out.drewN m)).mono ?_; rintro e w' ⟨rfl, rfl⟩))
            go_roundw
            case rel => exact ⟨k + 1, m, by omega, by rw [HST.out, bestI_true], by go_num, rfl⟩
            case measure => simp [intOf]; omega
          · have hv0 : ¬ v < 0 := by omega
            simp only [bestI_true]
            by_cases c4 : R.left G.fl v < R.left G.fl k
            · have hst : R.leastTo G.fl x n (k + 1) = ((k : Int), true) := by rw [HS.out]; unfold Ar.leastStep; rw [if_neg hin, if_pos (Or.inr c4)]
              have HST := Lib.hid hst
              have hd4 : decide (R.left G.fl v < R.left G.fl k) = true := by simpa using c4
              clear hst hin
              go_wp2_with (first | (go_at_call 77; refine (hlen _ (H.out.drewN m)).mono ?_; rintro e w' ⟨rfl, rfl⟩))
              refine (raleft_c _ k (HF.out.drewN m) (H.out.drewN m)).mono ?_
              rintro e w' ⟨rfl, q, rfl⟩
              go_wp2_with fail
              refine (raleft_c _ v (HF.out.drewN (m + q)) (H.out.drewN (m + q))).mono ?_
              rintro e w' ⟨rfl, q2, rfl⟩
              go_wp2_with fail
              go_roundw
              case rel => exact ⟨k + 1, m + q + q2, by omega, by rw [HST.out, bestI_true], by go_num, by simp [World.drewN, Nat.add_assoc]⟩
              case measure => simp [intOf]; omega
            · have hst : R.leastTo G.fl x n (k + 1) = (v, true) := by rw [HS.out]; unfold Ar.leastStep; rw [if_neg hin, if_neg (by intro h; rcases h with h | h; exact absurd h (by simp); exact c4 h)]
              have HST := Lib.hid hst
              have hd4 : decide (R.left G.fl v < R.left G.fl k) = false := by simpa using c4
              clear hst hin
              go_wp2_with (first | (go_at_call 77; refine (hlen _ (H.out.drewN m)).mono ?_; rintro e w' ⟨rfl, rfl⟩))
              refine (raleft_c _ k (HF.out.drewN m) (H.out.drewN m)).mono ?_
              rintro e w' ⟨rfl, q, rfl⟩
              go_wp2_with fail
              refine (raleft_c _ v (HF.out.drewN (m + q)) (H.out.drewN (m + q))).mono ?_
              rintro e w' ⟨rfl, q2, rfl⟩
              go_wp2_with fail
              go_roundw
              case rel => exact ⟨k + 1, m + q + q2, by omega, by rw [HST.out, bestI_true], by go_num, by simp [World.drewN, Nat.add_assoc]⟩
              case measure => simp [intOf]; omega
        · have e1 : IntKind.i64.wrap ((k : Int) - x) = (k : Int) - x := IntWalk.i64_in _ (by omega)
          have d1 : (k : Int) - x < n := by omega
          cases t
          · have hst : R.leastTo G.fl x n (k + 1) = ((k : Int), true) := by rw [HS.out]; unfold Ar.leastStep; rw [if_neg hin, if_pos (Or.inl rfl)]
            have HST := Lib.hid hst
            clear hst hin
            simp only [bestI_false]
            go_wp2_with (first | (go_at_call 77; refine (hlen _ (H.out.drewN m)).mono ?_; rintro e w' ⟨rfl, rfl⟩))
            go_roundw
            case rel => exact ⟨k + 1, m, by omega, by rw [HST.out, bestI_true], by go_num, rfl⟩
            case measure => simp [intOf]; omega
          · have hv0 : ¬ v < 0 := by omega
            simp only [bestI_true]
            by_cases c4 : R.left G.fl v < R.left G.fl k
            · have hst : R.leastTo G.fl x n (k + 1) = ((k : Int), true) := by rw [HS.out]; unfold Ar.leastStep; rw [if_neg hin, if_pos (Or.inr c4)]
              have HST := Lib.hid hst
              have hd4 : decide (R.left G.fl v < R.left G.fl k) = true := by simpa using c4
              clear hst hin
              go_wp2_with (first | (go_at_call 77; refine (hlen _ (H.out.drewN m)).mono ?_; rintro e w' ⟨rfl, rfl⟩))
              refine (raleft_c _ k (HF.out.drewN m) (H.out.drewN m)).mono ?_
              rintro e w' ⟨rfl, q, rfl⟩
              go_wp2_with fail
              refine (raleft_c _ v (HF.out.drewN (m + q)) (H.out.drewN (m + q))).mono ?_
              rintro e w' ⟨rfl, q2, rfl⟩
              go_wp2_with fail
              go_roundw
              case rel => exact ⟨k + 1, m + q + q2, by omega, by rw [HST.out, bestI_true], by go_num, by simp [World.drewN, Nat.add_assoc]⟩
              case measure => simp [intOf]; omega
            · have hst : R.leastTo G.fl x n (k + 1) = (v, true) := by rw [HS.out]; unfold Ar.leastStep; rw [if_neg hin, if_neg (by intro h; rcases h with h | h; exact absurd h (by simp); exact c4 h)]
              have HST := Lib.hid hst
              have hd4 : decide (R.left G.fl v < R.left G.fl k) = false := by simpa using c4
              clear hst hin
              go_wp2_with (first | (go_at_call 77; refine (hlen _ (H.out.drewN m)).mono ?_; rintro e w' ⟨rfl, rfl⟩))
              refine (raleft_c _ k (HF.out.drewN m) (H.out.drewN m)).mono ?_
              rintro e w' ⟨rfl, q, rfl⟩
              go_wp2_with fail
              refine (raleft_c _ v (HF.out.drewN (m + q)) (H.out.drewN (m + q))).mono ?_
              rintro e w' ⟨rfl, q2, rfl⟩
              go_wp2_with fail
              go_roundw
              case rel => exact ⟨k + 1, m + q + q2, by omega, by rw [HST.out, bestI_true], by go_num, by simp [World.drewN, Nat.add_assoc]⟩
              case measure => simp [intOf]; omega
    · obtain rfl : k = R.len := by omega
      have hl : R.least G.fl x n = (v, t) := HSS.out
      have HL := Lib.hid hl
      clear hl
      cases t
      · obtain rfl : v = 0 := HS0.out rfl
        simp only [bestI_false]
        go_wp2_with (first | (go_at_call 77; refine (hlen _ (H.out.drewN m)).mono ?_; rintro e w' ⟨rfl, rfl⟩))
        go_ret2
        exact ⟨by rw [HL.out]; rfl, m, rfl⟩
      · simp only [bestI_true]
        go_wp2_with (first | (go_at_call 77; refine (hlen _ (H.out.drewN m)).mono ?_; rintro e w' ⟨rfl, rfl⟩))
        go_ret2
        exact ⟨by rw [HL.out]; rfl, m, rfl⟩
end
theorem spent_h {w0 w : World} {ab fb bb wb : Nat} {R : Ar} {F : Fl} (h : HasA w0 w ab fb bb wb R F) (M : Bool) (hM : R.ringM F = M) : Calls Try.prog 32 #[ptr ab] w fun e w' =>
    e = .returned (.bool (!M)) ∧ HasA w0 w' ab fb bb wb R F ∧ Below w.heap.size w w' := by
  have hm := rmay_h h M hM
  clear h hM
  go_enter Try.func32, Try.ntmps32
  go_wp2_with (go_at_call 79; refine hm.mono ?_; rintro e w2 ⟨rfl, h2, hb2⟩)
  go_ret
  exact ⟨rfl, h2, hb2⟩
end Go.Proofs.Ytlchlcjahndjgaa
