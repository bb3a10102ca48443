/- update.verify. -/
import Derived.Test.YtpbdglocfjbbfaaDoorUp8
import Derived.Stop.BytesEq
import Derived.Lib.SmallJoins
import Derived.Deep.RegionHeld3
import Derived.Deep.DrawnRows
namespace Go.Proofs.YtpbdglocfjbbfaaDoor
open Go Go.RowKit
set_option linter.unusedVariables false
set_option linter.unusedSimpArgs false
attribute [local go_sem ↓] sldI_seal sldM_seal sstM_seal sstI_seal sldC_seal sldF_seal sstC_seal sbC_seal
noncomputable def sldD (x : Value) : Sem Value := Instr.loadAt 22 x
theorem sldD_seal (x : Value) : Instr.loadAt 22 x = sldD x := rfl
theorem run_sldD {W : World} {g o : Nat} {cs : List Value} (hs : cs.length = 32) (h : W.rangeAt g o cs) : (sldD (.pointer (some ⟨g, o, none⟩))).run Tryd.prog W = .ok (.agg cs.toArray) W :=
  run_loadAt_mid (P := Tryd.prog) W g o 22 cs _ h Tryd.underlying22 rfl (by rw [hs]; exact info_sD)
attribute [local go_sem ↓] sldD_seal
theorem neqD (xs ys : List UInt8) (hx : xs.length = 32) (hy : ys.length = 32) (w : World) :
    (binOp .neq 22 (.agg (xs.map u8v).toArray) (.agg (ys.map u8v).toArray)).run Tryd.prog w = .ok (.bool (!(xs == ys))) w := by
  rw [run_neq_struct]
  have h := run_equalIn_bytes (P := Tryd.prog) w 9998 22 5 32 Tryd.underlying22 Tryd.underlying5 sizeOf_u8m xs ys hx hy
  have h2 : (Op.equalIn 10000 22 (.agg (xs.map u8v).toArray) (.agg (ys.map u8v).toArray)).run Tryd.prog w = .ok (xs == ys) w := h
  rw [h2]
  rfl
theorem Mt.c_cmd {m : Mt} (h : m.Ok) : (m.cells.drop 73).take 32 = m.cm.d.map u8v := by
  have e : m.cells.drop 73 = (m.cells.drop 69).drop 4 := by rw [List.drop_drop]
  rw [e, Mt.drop69 h]
  show (m.cm.d.map u8v ++ _).take 32 = _
  rw [List.take_append_of_le_length (by rw [List.length_map, h.d2]; omega), List.take_of_length_le (by rw [List.length_map, h.d2]; omega)]
set_option maxRecDepth 100000 in
set_option maxHeartbeats 4000000 in
theorem verify_c (w : World) (m : Mt) (h : m.Ok) (hs : 0 ≤ m.cm.s ∧ m.cm.s ≤ 1920) (f : Fc) (hf : f.d.length = 32) :
    Calls Tryd.prog 35 #[.agg m.cells.toArray, .agg f.cells.toArray] w fun e w' => e = .returned (.agg (oneM { m with ph := 2 } [wh (m.ph != 1) 11, wh (decide (m.got < chunksZ m.cm.s)) 12, wh (!(f.d == m.cm.d)) 13, wh f.wn 5]).toArray) ∧ Below w.heap.size w w' := by
  have hX0 := box3 w m.cells.toArray f.cells.toArray _ rfl
  obtain ⟨T, hT⟩ : ∃ T, { m with ph := 2 } = T := ⟨_, rfl⟩
  have hTo : T.Ok := hT ▸ ⟨h.d0, h.d1, h.d2, h.act⟩
  rw [hT]
  have HT := Lib.hid hT
  clear hT
  obtain ⟨x, hx⟩ : ∃ x, m.ph = x := ⟨_, rfl⟩
  obtain ⟨g, hg⟩ : ∃ g, m.got = g := ⟨_, rfl⟩
  obtain ⟨s, hss⟩ : ∃ s, m.cm.s = s := ⟨_, rfl⟩
  obtain ⟨wn, hwn⟩ : ∃ wn, f.wn = wn := ⟨_, rfl⟩
  obtain ⟨df, hdf⟩ : ∃ df, (!(f.d == m.cm.d)) = df := ⟨_, rfl⟩
  have hne : ∀ W, (binOp .neq 22 (.agg (f.d.map u8v).toArray) (.agg (m.cm.d.map u8v).toArray)).run Tryd.prog W = .ok (.bool df) W := fun W => hdf ▸ neqD f.d m.cm.d hf h.d2 W
  rw [hx, hg, hss, hwn, hdf]
  rw [hss] at hs
  obtain ⟨K, hK⟩ : ∃ K, chunksZ s = K := ⟨_, rfl⟩
  have hch : ∀ W, Calls Tryd.prog 12 #[.int .i64 s] W fun e w' => e = .returned (.int .i64 K) ∧ W = w' := fun W => hK ▸ uchunks_c s (by omega) W
  rw [hK]
  obtain ⟨e1, he1⟩ : ∃ e1, wh (x != 1) 11 = e1 := ⟨_, rfl⟩
  obtain ⟨e2, he2⟩ : ∃ e2, wh (decide (g < K)) 12 = e2 := ⟨_, rfl⟩
  obtain ⟨e3, he3⟩ : ∃ e3, wh df 13 = e3 := ⟨_, rfl⟩
  obtain ⟨e4, he4⟩ : ∃ e4, wh wn 5 = e4 := ⟨_, rfl⟩
  rw [he1, he2, he3, he4]
  have hw1 : ∀ W, Calls Tryd.prog 54 #[.bool (x != 1), .int .i64 11] W fun en w' => en = .returned (.int .i64 e1) ∧ W = w' := fun W => he1 ▸ when_c _ _ W
  have hw2 : ∀ W, Calls Tryd.prog 54 #[.bool (decide (g < K)), .int .i64 12] W fun en w' => en = .returned (.int .i64 e2) ∧ W = w' := fun W => he2 ▸ when_c _ _ W
  have hw3 : ∀ W, Calls Tryd.prog 54 #[.bool df, .int .i64 13] W fun en w' => en = .returned (.int .i64 e3) ∧ W = w' := fun W => he3 ▸ when_c _ _ W
  have hw4 : ∀ W, Calls Tryd.prog 54 #[.bool wn, .int .i64 5] W fun en w' => en = .returned (.int .i64 e4) ∧ W = w' := fun W => he4 ▸ when_c _ _ W
  have hone := fun (W : World) (b c : Nat) (hr : Reads W (some ⟨b, 0, none⟩) 4 [i64v e1, i64v e2, i64v e3, i64v e4]) => one_c W (T) (hTo) b 0 4 c [e1, e2, e3, e4] hr (by omega)
  have hrl := oneM_len hTo [e1, e2, e3, e4]
  have hr1 := oneM_one T [e1, e2, e3, e4]
  obtain ⟨R, hR⟩ : ∃ R, oneM T [e1, e2, e3, e4] = R := ⟨_, rfl⟩
  rw [hR] at hrl hr1 hone ⊢
  have hM0 := run_sldM (Mt.cells_len h) hX0.tl.tl.hd.whole
  have hS4 : ∀ tb W, Bxs w W [(tb, 27, T.cells.toArray), (w.heap.size + 1, 32, f.cells.toArray), (w.heap.size, 27, m.cells.toArray)] →
      (sldM (.pointer (some ⟨tb, 0, none⟩))).run Tryd.prog W = .ok (.agg T.cells.toArray) W ∧ W.cell? ⟨w.heap.size, 70, none⟩ = some (.int .i64 x) ∧ W.cell? ⟨w.heap.size + 1, 34, none⟩ = some (.bool wn) ∧ W.cell? ⟨w.heap.size, 105, none⟩ = some (.int .i64 g) ∧ W.cell? ⟨w.heap.size, 72, none⟩ = some (.int .i64 s) ∧
      (sldD (.pointer (some ⟨w.heap.size + 1, 2, none⟩))).run Tryd.prog W = .ok (.agg (f.d.map u8v).toArray) W ∧ (sldD (.pointer (some ⟨w.heap.size, 73, none⟩))).run Tryd.prog W = .ok (.agg (m.cm.d.map u8v).toArray) W := fun tb W hX =>
    ⟨run_sldM (Mt.cells_len hTo) hX.hd.whole, by rw [hX.tl.tl.hd.cell, List.getElem?_toArray, Mt.c70 h, hx], by rw [hX.tl.hd.cell, List.getElem?_toArray, Fc.c34 hf, hwn], by rw [hX.tl.tl.hd.cell, List.getElem?_toArray, Mt.c105 h, hg], by rw [hX.tl.tl.hd.cell, List.getElem?_toArray, Mt.c72 h, hss],
      run_sldD (by rw [List.length_map, hf]) (by have r := hX.tl.hd.range 2 32 (by rw [Fc.cells_len hf]; omega); rw [Fc.c_d hf] at r; exact r),
      run_sldD (by rw [List.length_map, h.d2]) (by have r := hX.tl.tl.hd.range 73 32 (by rw [Mt.cells_len h]; omega); rw [Mt.c_cmd h] at r; exact r)⟩
  obtain ⟨M, hM⟩ : ∃ M, m.cells.toArray = M := ⟨_, rfl⟩
  obtain ⟨FA, hFA⟩ : ∃ FA, f.cells.toArray = FA := ⟨_, rfl⟩
  obtain ⟨A, hA⟩ : ∃ A, T.cells.toArray = A := ⟨_, rfl⟩
  generalize (f.d.map u8v).toArray = D1 at hne hS4
  generalize (m.cm.d.map u8v).toArray = D2 at hne hS4
  rw [hA] at hone
  rw [hM, hFA] at hX0 hS4 ⊢
  rw [hA] at hS4
  rw [hM, hFA] at hM0
  have HONE := Lib.hid hone
  have HW1 := Lib.hid hw1
  have HW2 := Lib.hid hw2
  have HW3 := Lib.hid hw3
  have HW4 := Lib.hid hw4
  have HCH := Lib.hid hch
  have HS4 := Lib.hid hS4
  have HRL := Lib.hid hrl
  have HR1 := Lib.hid hr1
  have HM := Lib.hid hM
  have HA := Lib.hid hA
  clear hR hM hFA hA he1 he2 he3 he4 hx hg hss hwn hdf hK hone hw1 hw2 hw3 hw4 hch hS4 hrl hr1
  go_enter Tryd.func35, Tryd.ntmps35
  go_upto_region 1 with fail
  generalize ((w.alloc (.cells M 27)).alloc (.cells FA 32)).alloc (.cells Tryd.zeroCells57 57) = W3 at hX0 hM0 ⊢
  have htb := hX0.hd.lt
  have hN := hX0.new rfl 27 Tryd.zeroCells27
  have hst := storeM h hN.hd zeroM_size
  have hP := hN.put m.cells.toArray (by omega) (ne3 htb)
  rw [HM.out] at hst
  clear hX0 hN
  obtain ⟨tb, htb2⟩ : ∃ tb, W3.heap.size = tb := ⟨_, rfl⟩
  rw [htb2] at hst hP htb
  have HP := Lib.hid hP
  clear hP
  go_upto_region 2 with fail
  have hP := HP.out
  clear HP
  rw [HM.out] at hP
  generalize (W3.alloc (.cells Tryd.zeroCells27 27)).setRow tb M = W5 at hP ⊢
  have hn3 := ne3 (t1 := 57) (t2 := 32) (t3 := 27) (c1 := Tryd.zeroCells57) (c2 := FA) (c3 := M) htb
  have hg3 : w.heap.size ≤ tb := by omega
  have hB5 : Blk W5 tb 27 m.cells.toArray := HM.out ▸ hP.hd
  obtain ⟨u1, k1⟩ := hB5.some h 70 (by omega)
  have f1 := hB5.frozen 70
  have P1 := hP.set (hB5.setPhase h 2) hg3 hn3
  have HP1 := Lib.hid P1
  have HTB := Lib.hid htb
  clear hP P1 hst htb htb2 hB5 hM0
  go_upto_region 3 with fail
  have hP1 := HP1.out
  clear k1 f1 HP1
  rw [HT.out, HA.out] at hP1
  generalize W5.setCell ⟨tb, 70, none⟩ (i64v 2) = W8 at hP1 ⊢
  have HX := Lib.hid hP1.swap.drew
  have hs0 := HS4.out _ _ HX.out.tl
  clear hP1
  refine wp_region_held_drew (S := (fun W => (sldM (.pointer (some ⟨tb, 0, none⟩))).run Tryd.prog W = .ok (.agg A) W ∧ W.cell? ⟨w.heap.size, 70, none⟩ = some (.int .i64 x) ∧ W.cell? ⟨w.heap.size + 1, 34, none⟩ = some (.bool wn) ∧ W.cell? ⟨w.heap.size, 105, none⟩ = some (.int .i64 g) ∧ W.cell? ⟨w.heap.size, 72, none⟩ = some (.int .i64 s) ∧ (sldD (.pointer (some ⟨w.heap.size + 1, 2, none⟩))).run Tryd.prog W = .ok (.agg D1) W ∧ (sldD (.pointer (some ⟨w.heap.size, 73, none⟩))).run Tryd.prog W = .ok (.agg D2) W)) (by kernel_rfl) ?_ (fun hHeld => ?_)
  · exact hs0
  refine wpAnyH_take (i := 0) (v := ?_) rfl (by kernel_rfl) (by kernel_rfl) (by kernel_rfl) (fun _ _ _ h => h) (Or.inl ⟨by rfl, ?_⟩) (by assumption) ?_
  rotate_left
  · intro w hSw
    (try dsimp only at hSw)
    go_simp
    all_goals with_reducible rfl
  try simp only [Act.put, List.getElem_toArray, List.getElem_cons_succ, List.getElem_cons_zero, List.setIfInBounds_toArray, List.set_cons_zero, List.set_cons_succ]
  refine wpAnyH_take (i := 1) (v := ?_) rfl (by kernel_rfl) (by kernel_rfl) (by kernel_rfl) (fun _ _ _ h => h) (Or.inl ⟨by rfl, ?_⟩) (by assumption) ?_
  rotate_left
  · intro w hSw
    (try dsimp only at hSw)
    go_simp
    all_goals with_reducible rfl
  try simp only [Act.put, List.getElem_toArray, List.getElem_cons_succ, List.getElem_cons_zero, List.setIfInBounds_toArray, List.set_cons_zero, List.set_cons_succ]
  refine wpAnyH_take (i := 2) (v := ?_) rfl (by kernel_rfl) (by kernel_rfl) (by kernel_rfl) (fun _ _ _ h => h) (Or.inl ⟨by rfl, ?_⟩) (by assumption) ?_
  rotate_left
  · intro w hSw
    (try dsimp only at hSw)
    go_simp
    all_goals with_reducible rfl
  try simp only [Act.put, List.getElem_toArray, List.getElem_cons_succ, List.getElem_cons_zero, List.setIfInBounds_toArray, List.set_cons_zero, List.set_cons_succ]
  refine wpAnyH_take (i := 3) (v := ?_) rfl (by kernel_rfl) (by kernel_rfl) (by kernel_rfl) (fun _ _ _ h => h) (Or.inl ⟨by rfl, ?_⟩) (by assumption) ?_
  rotate_left
  · intro w hSw
    (try dsimp only at hSw)
    go_simp
    all_goals with_reducible rfl
  try simp only [Act.put, List.getElem_toArray, List.getElem_cons_succ, List.getElem_cons_zero, List.setIfInBounds_toArray, List.set_cons_zero, List.set_cons_succ]
  refine wpAnyH_take (i := 5) (v := ?_) rfl (by kernel_rfl) (by kernel_rfl) (by kernel_rfl) (fun _ _ _ h => h) (Or.inl ⟨by rfl, ?_⟩) (by assumption) ?_
  rotate_left
  · intro w hSw
    (try dsimp only at hSw)
    go_simp
    all_goals with_reducible rfl
  try simp only [Act.put, List.getElem_toArray, List.getElem_cons_succ, List.getElem_cons_zero, List.setIfInBounds_toArray, List.set_cons_zero, List.set_cons_succ]
  refine wpAnyH_take (i := 6) (v := ?_) rfl (by kernel_rfl) (by kernel_rfl) (by kernel_rfl) (fun _ _ _ h => h) (Or.inl ⟨by rfl, ?_⟩) (by assumption) ?_
  rotate_left
  · intro w hSw
    (try dsimp only at hSw)
    go_simp
    all_goals with_reducible rfl
  try simp only [Act.put, List.getElem_toArray, List.getElem_cons_succ, List.getElem_cons_zero, List.setIfInBounds_toArray, List.set_cons_zero, List.set_cons_succ]
  refine wpAnyH_take (i := 7) (v := ?_) rfl (by kernel_rfl) (by kernel_rfl) (by kernel_rfl) (fun _ _ _ h => h) (Or.inl ⟨by rfl, ?_⟩) (by assumption) ?_
  rotate_left
  · intro w hSw
    (try dsimp only at hSw)
    go_simp
    all_goals with_reducible rfl
  try simp only [Act.put, List.getElem_toArray, List.getElem_cons_succ, List.getElem_cons_zero, List.setIfInBounds_toArray, List.set_cons_zero, List.set_cons_succ]
  refine wpAnyH_take (i := 8) (v := ?_) rfl (by kernel_rfl) (by kernel_rfl) (by kernel_rfl) (fun _ _ _ h => h) (Or.inl ⟨by rfl, ?_⟩) (by assumption) ?_
  rotate_left
  · intro w hSw
    (try dsimp only at hSw)
    go_simp
    all_goals with_reducible rfl
  try simp only [Act.put, List.getElem_toArray, List.getElem_cons_succ, List.getElem_cons_zero, List.setIfInBounds_toArray, List.set_cons_zero, List.set_cons_succ]
  refine wpAnyH_take (i := 9) (v := ?_) rfl (by kernel_rfl) (by kernel_rfl) (by kernel_rfl) (fun _ _ _ h => h) (Or.inl ⟨by rfl, ?_⟩) (by assumption) ?_
  rotate_left
  · intro w hSw
    (try dsimp only at hSw)
    go_simp
    all_goals with_reducible rfl
  try simp only [Act.put, List.getElem_toArray, List.getElem_cons_succ, List.getElem_cons_zero, List.setIfInBounds_toArray, List.set_cons_zero, List.set_cons_succ]
  refine wpAnyH_take (i := 13) (v := ?_) rfl (by kernel_rfl) (by kernel_rfl) (by kernel_rfl) (fun _ _ _ h => h) (Or.inl ⟨by rfl, ?_⟩) (by assumption) ?_
  rotate_left
  · intro w hSw
    (try dsimp only at hSw)
    go_simp
    all_goals with_reducible rfl
  try simp only [Act.put, List.getElem_toArray, List.getElem_cons_succ, List.getElem_cons_zero, List.setIfInBounds_toArray, List.set_cons_zero, List.set_cons_succ]
  refine wpAnyH_take (i := 14) (v := ?_) rfl (by kernel_rfl) (by kernel_rfl) (by kernel_rfl) (fun _ _ _ h => h) (Or.inl ⟨by rfl, ?_⟩) (by assumption) ?_
  rotate_left
  · intro w hSw
    (try dsimp only at hSw)
    go_simp
    all_goals with_reducible rfl
  try simp only [Act.put, List.getElem_toArray, List.getElem_cons_succ, List.getElem_cons_zero, List.setIfInBounds_toArray, List.set_cons_zero, List.set_cons_succ]
  refine wpAnyH_take (i := 15) (v := ?_) rfl (by kernel_rfl) (by kernel_rfl) (by kernel_rfl) (fun _ _ _ h => h) (Or.inl ⟨by rfl, ?_⟩) (by assumption) ?_
  rotate_left
  · intro w hSw
    (try dsimp only at hSw)
    go_simp
    all_goals with_reducible rfl
  try simp only [Act.put, List.getElem_toArray, List.getElem_cons_succ, List.getElem_cons_zero, List.setIfInBounds_toArray, List.set_cons_zero, List.set_cons_succ]
  refine wpAnyH_take (i := 16) (v := ?_) rfl (by kernel_rfl) (by kernel_rfl) (by kernel_rfl) (fun _ _ _ h => h) (Or.inl ⟨by rfl, ?_⟩) (by assumption) ?_
  rotate_left
  · intro w hSw
    (try dsimp only at hSw)
    go_simp
    all_goals with_reducible rfl
  try simp only [Act.put, List.getElem_toArray, List.getElem_cons_succ, List.getElem_cons_zero, List.setIfInBounds_toArray, List.set_cons_zero, List.set_cons_succ]
  refine wpAnyH_take (i := 17) (v := ?_) rfl (by kernel_rfl) (by kernel_rfl) (by kernel_rfl) (fun _ _ _ h => h) (Or.inl ⟨by rfl, ?_⟩) (by assumption) ?_
  rotate_left
  · intro w hSw
    (try dsimp only at hSw)
    go_simp
    all_goals with_reducible rfl
  try simp only [Act.put, List.getElem_toArray, List.getElem_cons_succ, List.getElem_cons_zero, List.setIfInBounds_toArray, List.set_cons_zero, List.set_cons_succ]
  refine wpAnyH_take (i := 18) (v := ?_) rfl (by kernel_rfl) (by kernel_rfl) (by kernel_rfl) (fun _ _ _ h => h) (Or.inl ⟨by rfl, ?_⟩) (by assumption) ?_
  rotate_left
  · intro w hSw
    (try dsimp only at hSw)
    go_simp
    all_goals with_reducible rfl
  try simp only [Act.put, List.getElem_toArray, List.getElem_cons_succ, List.getElem_cons_zero, List.setIfInBounds_toArray, List.set_cons_zero, List.set_cons_succ]
  refine wpAnyH_take (i := 20) (v := ?_) rfl (by kernel_rfl) (by kernel_rfl) (by kernel_rfl) (fun _ _ _ h => h) (Or.inl ⟨by rfl, ?_⟩) (by assumption) ?_
  rotate_left
  · intro w hSw
    (try dsimp only at hSw)
    go_simp
    all_goals with_reducible rfl
  try simp only [Act.put, List.getElem_toArray, List.getElem_cons_succ, List.getElem_cons_zero, List.setIfInBounds_toArray, List.set_cons_zero, List.set_cons_succ]
  refine wpAnyH_take (i := 21) (v := ?_) rfl (by kernel_rfl) (by kernel_rfl) (by kernel_rfl) (fun _ _ _ h => h) (Or.inl ⟨by rfl, ?_⟩) (by assumption) ?_
  rotate_left
  · intro w hSw
    (try dsimp only at hSw)
    go_simp
    all_goals with_reducible rfl
  try simp only [Act.put, List.getElem_toArray, List.getElem_cons_succ, List.getElem_cons_zero, List.setIfInBounds_toArray, List.set_cons_zero, List.set_cons_succ]
  refine wpAnyH_ready (rs := [4]) (by kernel_rfl) (by simp) ?_
  refine AllReadyH.cons rfl (fun K hK => ?_) AllReadyH.nil
  go_simp
  refine (HW1.out _).mono ?_; rintro e w' ⟨rfl, rfl⟩
  go_wp2_with fail
  refine hK.out _ _ ?_ (fun hHeld => ?_)
  · (try dsimp only)
    exact HS4.out _ _ HX.out.tl
  clear hK K
  try simp only [Act.put, List.getElem_toArray, List.getElem_cons_succ, List.getElem_cons_zero, List.setIfInBounds_toArray, List.set_cons_zero, List.set_cons_succ]
  refine wpAnyH_ready (rs := [10]) (by kernel_rfl) (by simp) ?_
  refine AllReadyH.cons rfl (fun K hK => ?_) AllReadyH.nil
  go_simp
  refine (HCH.out _).mono ?_; rintro e w' ⟨rfl, rfl⟩
  go_wp2_with fail
  refine hK.out _ _ ?_ (fun hHeld => ?_)
  · (try dsimp only)
    exact HS4.out _ _ HX.out.tl
  clear hK K
  try simp only [Act.put, List.getElem_toArray, List.getElem_cons_succ, List.getElem_cons_zero, List.setIfInBounds_toArray, List.set_cons_zero, List.set_cons_succ]
  refine wpAnyH_take (i := 11) (v := ?_) rfl (by kernel_rfl) (by kernel_rfl) (by kernel_rfl) (fun _ _ _ h => h) (Or.inl ⟨by rfl, ?_⟩) (by assumption) ?_
  rotate_left
  · intro w hSw
    (try dsimp only at hSw)
    go_simp
    all_goals with_reducible rfl
  try simp only [Act.put, List.getElem_toArray, List.getElem_cons_succ, List.getElem_cons_zero, List.setIfInBounds_toArray, List.set_cons_zero, List.set_cons_succ]
  refine wpAnyH_ready (rs := [12]) (by kernel_rfl) (by simp) ?_
  refine AllReadyH.cons rfl (fun K hK => ?_) AllReadyH.nil
  go_simp
  refine (HW2.out _).mono ?_; rintro e w' ⟨rfl, rfl⟩
  go_wp2_with fail
  refine hK.out _ _ ?_ (fun hHeld => ?_)
  · (try dsimp only)
    exact HS4.out _ _ HX.out.tl
  clear hK K
  try simp only [Act.put, List.getElem_toArray, List.getElem_cons_succ, List.getElem_cons_zero, List.setIfInBounds_toArray, List.set_cons_zero, List.set_cons_succ]
  refine wpAnyH_ready (rs := [19]) (by kernel_rfl) (by simp) ?_
  refine AllReadyH.cons rfl (fun K hK => ?_) AllReadyH.nil
  go_simp
  refine (HW3.out _).mono ?_; rintro e w' ⟨rfl, rfl⟩
  go_wp2_with fail
  refine hK.out _ _ ?_ (fun hHeld => ?_)
  · (try dsimp only)
    exact HS4.out _ _ HX.out.tl
  clear hK K
  try simp only [Act.put, List.getElem_toArray, List.getElem_cons_succ, List.getElem_cons_zero, List.setIfInBounds_toArray, List.set_cons_zero, List.set_cons_succ]
  refine wpAnyH_ready (rs := [22]) (by kernel_rfl) (by simp) ?_
  refine AllReadyH.cons rfl (fun K hK => ?_) AllReadyH.nil
  go_simp
  refine (HW4.out _).mono ?_; rintro e w' ⟨rfl, rfl⟩
  go_wp2_with fail
  refine hK.out _ _ ?_ (fun hHeld => ?_)
  · (try dsimp only)
    exact HS4.out _ _ HX.out.tl
  clear hK K
  try simp only [Act.put, List.getElem_toArray, List.getElem_cons_succ, List.getElem_cons_zero, List.setIfInBounds_toArray, List.set_cons_zero, List.set_cons_succ]
  refine wpAnyH_ready (rs := [23]) (by kernel_rfl) (by simp) ?_
  refine AllReadyH.cons rfl (fun K hK => ?_) AllReadyH.nil
  go_simp
  have HB2 := HX.out.build [i64v e1, i64v e2, i64v e3, i64v e4] 34
  have HRD := Lib.hid HB2.1
  have HX := Lib.hid HB2.2
  clear HB2
  refine hK.out _ _ ?_ (fun hHeld => ?_)
  · (try dsimp only)
    exact HS4.out _ _ HX.out.tl
  clear hK K
  try simp only [Act.put, List.getElem_toArray, List.getElem_cons_succ, List.getElem_cons_zero, List.setIfInBounds_toArray, List.set_cons_zero, List.set_cons_succ]
  refine wpAnyH_ready (rs := [24]) (by kernel_rfl) (by simp) ?_
  refine AllReadyH.cons rfl (fun K hK => ?_) AllReadyH.nil
  go_simp
  refine (HONE.out _ _ _ HRD.out).mono ?_; rintro e w' ⟨rfl, hb⟩; have HX := Lib.hid (HX.out.later hb); clear hb HRD; have hst := endC HX.out.hd zeroC_size HRL.out HR1.out
  go_wp2_with fail
  refine hK.out _ _ ?_ (fun hHeld => ?_)
  · (try dsimp only)
    exact HS4.out _ _ HX.out.tl
  clear hK K
  try simp only [Act.put, List.getElem_toArray, List.getElem_cons_succ, List.getElem_cons_zero, List.setIfInBounds_toArray, List.set_cons_zero, List.set_cons_succ]
  refine wpAnyH_ready (rs := [25]) (by kernel_rfl) (by simp) ?_
  refine AllReadyH.cons rfl (fun K hK => ?_) AllReadyH.nil
  go_simp
  have HX := Lib.hid (HX.out.put R.toArray (by omega) (by have := HTB.out; intro x hx; simp only [List.mem_cons, List.not_mem_nil, or_false] at hx; rcases hx with hx | hx | hx <;> (rw [hx]; simp <;> omega)))
  clear hst
  refine hK.out _ _ ?_ (fun hHeld => ?_)
  · (try dsimp only)
    exact HS4.out _ _ HX.out.tl
  clear hK K
  try simp only [Act.put, List.getElem_toArray, List.getElem_cons_succ, List.getElem_cons_zero, List.setIfInBounds_toArray, List.set_cons_zero, List.set_cons_succ]
  refine wpAnyH_done (by kernel_rfl) ?_ _
  try simp only [Act.put, List.getElem_toArray, List.getElem_cons_succ, List.getElem_cons_zero, List.setIfInBounds_toArray, List.set_cons_zero, List.set_cons_succ]
  go_wp2_with fail
  refine bodyPost_ret (results_cell_row rfl _ _ (w.heap.size + 2) 57 R.toArray (0, 0) _ rfl HX.out.hd Tryd.underlying57 rfl (by rw [List.size_toArray, HRL.out]; exact info_sC)) rfl ?_
  exact ⟨rfl, HX.out.bel⟩
end Go.Proofs.YtpbdglocfjbbfaaDoor
