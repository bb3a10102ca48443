/- update.commit, update.confirm. -/
import Derived.Test.YtpbdglocfjbbfaaDoorUp7
import Derived.Deep.RegionHeld3
import Derived.Deep.DrawnRows
namespace Go.Proofs.YtpbdglocfjbbfaaDoor
open Go Go.RowKit
set_option linter.unusedVariables false
set_option linter.unusedSimpArgs false
attribute [local go_sem ↓] sldI_seal sldM_seal sstM_seal sstI_seal sldC_seal sldF_seal sstC_seal sbC_seal
section
variable {w0 W W' : World} {l : List (Nat × TypeId × Array Value)} {g : Nat} {t : TypeId} {cs c2 : Array Value}
theorem Bxs.set (h : Bxs w0 W ((g, t, cs) :: l)) {o : Nat} {v : Value} (hB : Blk (W.setCell ⟨g, o, none⟩ v) g t c2) (hg : w0.heap.size ≤ g) (hl : ∀ x ∈ l, x.1 ≠ g) : Bxs w0 (W.setCell ⟨g, o, none⟩ v) ((g, t, c2) :: l) := by
  refine ⟨fun x hx => ?_, h.bel.setCell hg v⟩
  rcases List.mem_cons.1 hx with rfl | hx
  · exact hB
  · exact (h.tl.all x hx).far (p := ⟨g, o, none⟩) (hl x hx) v
theorem Bxs.sets (h : Bxs w0 W ((g, t, cs) :: l)) {o : Nat} {vs : List Value} (hB : Blk (W.setCells g o vs) g t c2) (hg : w0.heap.size ≤ g) (hl : ∀ x ∈ l, x.1 ≠ g) : Bxs w0 (W.setCells g o vs) ((g, t, c2) :: l) := by
  refine ⟨fun x hx => ?_, below_setCells hg _ _ _ h.bel⟩
  rcases List.mem_cons.1 hx with rfl | hx
  · exact hB
  · exact Blk.setCells_far (fun e => hl x hx e.symm) _ _ _ (h.tl.all x hx)
theorem Bxs.swap {a b : Nat × TypeId × Array Value} (h : Bxs w0 W (a :: b :: l)) : Bxs w0 W (b :: a :: l) :=
  ⟨fun x hx => h.all x (by
    rcases List.mem_cons.1 hx with rfl | hx
    · exact List.mem_cons_of_mem _ (List.mem_cons_self ..)
    · rcases List.mem_cons.1 hx with rfl | hx
      · exact List.mem_cons_self ..
      · exact List.mem_cons_of_mem _ (List.mem_cons_of_mem _ hx)), h.bel⟩
end
theorem zeroM_size : Tryd.zeroCells27.size = 107 := by kernel_rfl
/-- A Meta stored whole into a new variable. -/
theorem storeM {W : World} {g : Nat} {old : Array Value} {m : Mt} (h : m.Ok) (B : Blk W g 27 old) (ho : old.size = 107) :
    (sstM (.pointer (some ⟨g, 0, none⟩)) (.agg m.cells.toArray)).run Tryd.prog W = .ok () (W.setRow g m.cells.toArray) :=
  run_sstM m.cells B (by rw [ho, Mt.cells_len h]) (by rw [Mt.cells_len h]; kernel_rfl) (Mt.one _)
theorem ne3 {tb B : Nat} {t1 t2 t3 : TypeId} {c1 c2 c3 : Array Value} (h : B + 3 ≤ tb) : ∀ x ∈ [(B + 2, t1, c1), (B + 1, t2, c2), (B, t3, c3)], x.1 ≠ tb := by
  intro x hx
  simp only [List.mem_cons, List.not_mem_nil, or_false] at hx
  rcases hx with hx | hx | hx <;> (rw [hx]; simp <;> omega)
def Mt.commitT (m : Mt) : Mt := if m.act = 0 then { m.idle with ph := 3, tr := 2, h1 := m.cm } else { m.idle with ph := 3, tr := 2, h0 := m.cm }
theorem Mt.commitT_ok {m : Mt} (h : m.Ok) : m.commitT.Ok := by
  unfold Mt.commitT
  split
  · exact ⟨h.d0, h.d2, rfl, h.act⟩
  · exact ⟨h.d2, h.d1, rfl, h.act⟩
set_option maxRecDepth 100000 in
set_option maxHeartbeats 4000000 in
theorem commit_c (w : World) (m : Mt) (h : m.Ok) (hact : m.act = 0 ∨ m.act = 1) (f : Fc) (hf : f.d.length = 32) :
    Calls Tryd.prog 36 #[.agg m.cells.toArray, .agg f.cells.toArray] w fun e w' => e = .returned (.agg (oneM m.commitT [wh (m.ph != 2) 11, wh f.wn 5]).toArray) ∧ Below w.heap.size w w' := by
  have hX0 := box3 w m.cells.toArray f.cells.toArray _ rfl
  obtain ⟨T, hT⟩ : ∃ T, m.commitT = T := ⟨_, rfl⟩
  have hTo : T.Ok := hT ▸ Mt.commitT_ok h
  rw [hT]
  have HT := Lib.hid hT
  clear hT
  have hidle := fun W => idle_c W m h
  obtain ⟨x, hx⟩ : ∃ x, m.ph = x := ⟨_, rfl⟩
  obtain ⟨wn, hwn⟩ : ∃ wn, f.wn = wn := ⟨_, rfl⟩
  rw [hx, hwn]
  obtain ⟨e1, he1⟩ : ∃ e1, wh (x != 2) 11 = e1 := ⟨_, rfl⟩
  obtain ⟨e2, he2⟩ : ∃ e2, wh wn 5 = e2 := ⟨_, rfl⟩
  rw [he1, he2]
  have hw1 : ∀ W, Calls Tryd.prog 54 #[.bool (x != 2), .int .i64 11] W fun en w' => en = .returned (.int .i64 e1) ∧ W = w' := fun W => he1 ▸ when_c _ _ W
  have hw2 : ∀ W, Calls Tryd.prog 54 #[.bool wn, .int .i64 5] W fun en w' => en = .returned (.int .i64 e2) ∧ W = w' := fun W => he2 ▸ when_c _ _ W
  have hone := fun (W : World) (b c : Nat) (hr : Reads W (some ⟨b, 0, none⟩) 2 [i64v e1, i64v e2]) => one_c W (T) (hTo) b 0 2 c [e1, e2] hr (by omega)
  have hrl := oneM_len hTo [e1, e2]
  have hr1 := oneM_one T [e1, e2]
  obtain ⟨R, hR⟩ : ∃ R, oneM T [e1, e2] = R := ⟨_, rfl⟩
  rw [hR] at hrl hr1 hone ⊢
  have hS3 : ∀ W, Bxs w W [(w.heap.size + 2, 57, Tryd.zeroCells57), (w.heap.size + 1, 32, f.cells.toArray), (w.heap.size, 27, m.cells.toArray)] →
      (sldM (.pointer (some ⟨w.heap.size, 0, none⟩))).run Tryd.prog W = .ok (.agg m.cells.toArray) W ∧ (sldI (.pointer (some ⟨w.heap.size, 71, none⟩))).run Tryd.prog W = .ok (.agg m.cm.cells.toArray) W := fun W hX =>
    ⟨run_sldM (Mt.cells_len h) hX.tl.tl.hd.whole, run_sldI (Img.cells_len h.d2) (by have r := hX.tl.tl.hd.range 71 34 (by rw [Mt.cells_len h]; omega); rw [Mt.c_cm h] at r; exact r)⟩
  have hS4 : ∀ tb W, Bxs w W [(tb, 27, T.cells.toArray), (w.heap.size + 1, 32, f.cells.toArray), (w.heap.size, 27, m.cells.toArray)] →
      (sldM (.pointer (some ⟨tb, 0, none⟩))).run Tryd.prog W = .ok (.agg T.cells.toArray) W ∧ W.cell? ⟨w.heap.size, 70, none⟩ = some (.int .i64 x) ∧ W.cell? ⟨w.heap.size + 1, 34, none⟩ = some (.bool wn) := fun tb W hX =>
    ⟨run_sldM (Mt.cells_len hTo) hX.hd.whole, by rw [hX.tl.tl.hd.cell, List.getElem?_toArray, Mt.c70 h, hx], by rw [hX.tl.hd.cell, List.getElem?_toArray, Fc.c34 hf, hwn]⟩
  have hoth := fun W => other_c W m h (by omega)
  obtain ⟨M, hM⟩ : ∃ M, m.cells.toArray = M := ⟨_, rfl⟩
  obtain ⟨FA, hFA⟩ : ∃ FA, f.cells.toArray = FA := ⟨_, rfl⟩
  obtain ⟨CI, hCI⟩ : ∃ CI, m.cm.cells = CI := ⟨_, rfl⟩
  obtain ⟨A, hA⟩ : ∃ A, T.cells.toArray = A := ⟨_, rfl⟩
  obtain ⟨MI, hMI⟩ : ∃ MI, m.idle.cells.toArray = MI := ⟨_, rfl⟩
  rw [hM, hMI] at hidle
  rw [hM] at hoth
  rw [hA] at hone
  rw [hM, hFA] at hX0 hS3 hS4 ⊢
  rw [hCI] at hS3
  rw [hA] at hS4
  have HONE := Lib.hid hone
  have HID := Lib.hid hidle
  have HW1 := Lib.hid hw1
  have HW2 := Lib.hid hw2
  have HS := Lib.hid hS3
  have HS4 := Lib.hid hS4
  have HRL := Lib.hid hrl
  have HR1 := Lib.hid hr1
  have HMI := Lib.hid hMI
  have HCI := Lib.hid hCI
  have HA := Lib.hid hA
  clear hR hM hFA hA he1 he2 hx hwn hone hidle hw1 hw2 hS3 hS4 hrl hr1 hMI hCI
  rcases hact with ha | ha
  · have hoth2 : ∀ W, Calls Tryd.prog 50 #[.agg M] W fun e w' => e = .returned (.int .i64 1) ∧ Below W.heap.size W w' := fun W => (hoth W).mono fun e w' ⟨h1, h2⟩ => ⟨by rw [h1, ha]; rfl, h2⟩
    have hT2 : ({ m.idle with ph := 3, tr := 2, h1 := m.cm } : Mt) = T := by rw [← HT.out]; unfold Mt.commitT; rw [ha]; rfl
    have HT2 := Lib.hid hT2
    have HO := Lib.hid hoth2
    clear hoth hoth2 HT hT2
    go_enter Tryd.func36, Tryd.ntmps36
    go_upto_region 1 with fail
    generalize ((w.alloc (.cells M 27)).alloc (.cells FA 32)).alloc (.cells Tryd.zeroCells57 57) = W3 at hX0 ⊢
    have hld := (HS.out _ hX0).1
    have HX := Lib.hid hX0
    clear hX0
    go_wp2_with fail
    refine (HID.out _).mono ?_
    rintro e w4 ⟨rfl, hb⟩
    have hX4 := HX.out.later hb
    have htb := hX4.hd.lt
    have hN := hX4.new rfl 27 Tryd.zeroCells27
    have oi := Mt.idle_ok h
    have hst := storeM oi hN.hd zeroM_size
    have hP := hN.put m.idle.cells.toArray (by omega) (ne3 htb)
    rw [HMI.out] at hst
    clear hb hX4 hN hld HX
    obtain ⟨tb, htb2⟩ : ∃ tb, w4.heap.size = tb := ⟨_, rfl⟩
    rw [htb2] at hst hP htb
    go_upto_region 2 with fail
    rw [HMI.out] at hP
    generalize (w4.alloc (.cells Tryd.zeroCells27 27)).setRow tb MI = W5 at hP ⊢
    rw [← HMI.out] at hP
    have hn3 := ne3 (t1 := 57) (t2 := 32) (t3 := 27) (c1 := Tryd.zeroCells57) (c2 := FA) (c3 := M) htb
    have hg3 : w.heap.size ≤ tb := by omega
    have o1 : ({ m.idle with ph := 3 } : Mt).Ok := ⟨oi.d0, oi.d1, oi.d2, oi.act⟩
    have o2 : ({ m.idle with ph := 3, tr := 2 } : Mt).Ok := ⟨oi.d0, oi.d1, oi.d2, oi.act⟩
    obtain ⟨u1, k1⟩ := hP.hd.some oi 70 (by omega)
    have f1 := hP.hd.frozen 70
    have P1 := hP.set (hP.hd.setPhase oi 3) hg3 hn3
    obtain ⟨u2, k2⟩ := P1.hd.some o1 106 (by omega)
    have f2 := P1.hd.frozen 106
    have P2 := P1.set (P1.hd.setTrials o1 2) hg3 hn3
    have HP2 := Lib.hid P2
    have HTB := Lib.hid htb
    clear hP P1 P2 hst htb htb2
    go_upto_region 3 with fail
    have hP2 := HP2.out
    clear k1 k2 f1 f2 HP2
    generalize (W5.setCell ⟨tb, 70, none⟩ (i64v 3)).setCell ⟨tb, 106, none⟩ (i64v 2) = W6 at hP2 ⊢
    have HX := Lib.hid hP2.drew
    have hs0 := HS.out _ HX.out.tl
    clear hP2
    refine wp_region_held_drew (S := (fun W => (sldM (.pointer (some ⟨w.heap.size, 0, none⟩))).run Tryd.prog W = .ok (.agg M) W ∧ (sldI (.pointer (some ⟨w.heap.size, 71, none⟩))).run Tryd.prog W = .ok (.agg CI.toArray) W)) (by kernel_rfl) ?_ (fun hHeld => ?_)
    · exact hs0
    refine wpAnyH_take (i := 0) (v := ?_) rfl (by kernel_rfl) (by kernel_rfl) (by kernel_rfl) (fun _ _ _ h => h) (Or.inl ⟨by rfl, ?_⟩) (by assumption) ?_
    rotate_left
    · intro w hSw
      (try dsimp only at hSw)
      go_simp
      all_goals with_reducible rfl
    try simp only [Act.put, List.getElem_toArray, List.getElem_cons_succ, List.getElem_cons_zero, List.setIfInBounds_toArray, List.set_cons_zero, List.set_cons_succ]
    refine wpAnyH_take (i := 2) (v := ?_) rfl (by kernel_rfl) (by kernel_rfl) (by kernel_rfl) (fun _ _ _ h => h) (Or.inl ⟨by rfl, ?_⟩) (by assumption) ?_
    rotate_left
    · intro w hSw
      (try dsimp only at hSw)
      go_simp
      all_goals with_reducible rfl
    try simp only [Act.put, List.getElem_toArray, List.getElem_cons_succ, List.getElem_cons_zero, List.setIfInBounds_toArray, List.set_cons_zero, List.set_cons_succ]
    refine wpAnyH_take (i := 3) (v := ?_) rfl (by kernel_rfl) (by kernel_rfl) (by kernel_rfl) (fun _ _ _ h => h) (Or.inl ⟨by rfl, ?_⟩) (by assumption) ?_
    rotate_left
    · intro w hSw
      (try dsimp only at hSw)
      go_simp
      all_goals with_reducible rfl
    try simp only [Act.put, List.getElem_toArray, List.getElem_cons_succ, List.getElem_cons_zero, List.setIfInBounds_toArray, List.set_cons_zero, List.set_cons_succ]
    refine wpAnyH_take (i := 4) (v := ?_) rfl (by kernel_rfl) (by kernel_rfl) (by kernel_rfl) (fun _ _ _ h => h) (Or.inl ⟨by rfl, ?_⟩) (by assumption) ?_
    rotate_left
    · intro w hSw
      (try dsimp only at hSw)
      go_simp
      all_goals with_reducible rfl
    try simp only [Act.put, List.getElem_toArray, List.getElem_cons_succ, List.getElem_cons_zero, List.setIfInBounds_toArray, List.set_cons_zero, List.set_cons_succ]
    refine wpAnyH_ready (rs := [1]) (by kernel_rfl) (by simp) ?_
    refine AllReadyH.cons rfl (fun K hK => ?_) AllReadyH.nil
    go_simp
    refine (HO.out _).mono ?_; rintro e w' ⟨rfl, hb⟩; have HX := Lib.hid (HX.out.later hb); clear hb
    go_wp2_with fail
    refine hK.out _ _ ?_ (fun hHeld => ?_)
    · (try dsimp only)
      exact HS.out _ HX.out.tl
    clear hK K
    try simp only [Act.put, List.getElem_toArray, List.getElem_cons_succ, List.getElem_cons_zero, List.setIfInBounds_toArray, List.set_cons_zero, List.set_cons_succ]
    refine wpAnyH_take (i := 5) (v := ?_) rfl (by kernel_rfl) (by kernel_rfl) (by kernel_rfl) (fun _ _ _ h => h) (Or.inl ⟨by rfl, ?_⟩) (by assumption) ?_
    rotate_left
    · intro w hSw
      (try dsimp only at hSw)
      go_simp
      all_goals with_reducible rfl
    try simp only [Act.put, List.getElem_toArray, List.getElem_cons_succ, List.getElem_cons_zero, List.setIfInBounds_toArray, List.set_cons_zero, List.set_cons_succ]
    have hst := run_sstI HX.out.hd 35 (by rw [List.size_toArray, Mt.cells_len o2]; omega) m.cm h.d2
    have HX := Lib.hid (HX.out.sets (HX.out.hd.putH1 o2 m.cm h.d2) hg3 hn3)
    rw [HCI.out] at hst HX
    refine wpAnyH_ready (rs := [6]) (by kernel_rfl) (by simp) ?_
    refine AllReadyH.cons rfl (fun K hK => ?_) AllReadyH.nil
    go_simp
    clear hst
    refine hK.out _ _ ?_ (fun hHeld => ?_)
    · (try dsimp only)
      exact HS.out _ HX.out.tl
    clear hK K
    try simp only [Act.put, List.getElem_toArray, List.getElem_cons_succ, List.getElem_cons_zero, List.setIfInBounds_toArray, List.set_cons_zero, List.set_cons_succ]
    refine wpAnyH_done (by kernel_rfl) ?_ _
    try simp only [Act.put, List.getElem_toArray, List.getElem_cons_succ, List.getElem_cons_zero, List.setIfInBounds_toArray, List.set_cons_zero, List.set_cons_succ]
    go_upto_region 4 with fail
    have hX8 := HX.out
    clear hs0 HX
    rw [HT2.out, HA.out] at hX8
    generalize World.setCells _ tb 35 CI = W8 at hX8 ⊢
    have HX := Lib.hid hX8.swap.drew
    have hs0 := HS4.out _ _ HX.out.tl
    clear hX8
    refine wp_region_held_drew (S := (fun W => (sldM (.pointer (some ⟨tb, 0, none⟩))).run Tryd.prog W = .ok (.agg A) W ∧ W.cell? ⟨w.heap.size, 70, none⟩ = some (.int .i64 x) ∧ W.cell? ⟨w.heap.size + 1, 34, none⟩ = some (.bool wn))) (by kernel_rfl) ?_ (fun hHeld => ?_)
    · exact hs0
    refine wpAnyH_take (i := 0) (v := ?_) rfl (by kernel_rfl) (by kernel_rfl) (by kernel_rfl) (fun _ _ _ h => h) (Or.inl ⟨by rfl, ?_⟩) (by assumption) ?_
    rotate_left
    · intro w hSw
      (try dsimp only at hSw)
      go_simp
      all_goals with_reducible rfl
    try simp only [Act.put, List.getElem_toArray, List.getElem_cons_succ, List.getElem_cons_zero, List.setIfInBounds_toArray, List.set_cons_zero, List.set_cons_succ]
    refine wpAnyH_take (i := 1) (v := ?_) rfl (by kernel_rfl) (by kernel_rfl) (by kernel_rfl) (fun _ _ _ h => h) (Or.inl ⟨by rfl, ?_⟩) (by assumption) ?_
    rotate_left
    · intro w hSw
      (try dsimp only at hSw)
      go_simp
      all_goals with_reducible rfl
    try simp only [Act.put, List.getElem_toArray, List.getElem_cons_succ, List.getElem_cons_zero, List.setIfInBounds_toArray, List.set_cons_zero, List.set_cons_succ]
    refine wpAnyH_take (i := 2) (v := ?_) rfl (by kernel_rfl) (by kernel_rfl) (by kernel_rfl) (fun _ _ _ h => h) (Or.inl ⟨by rfl, ?_⟩) (by assumption) ?_
    rotate_left
    · intro w hSw
      (try dsimp only at hSw)
      go_simp
      all_goals with_reducible rfl
    try simp only [Act.put, List.getElem_toArray, List.getElem_cons_succ, List.getElem_cons_zero, List.setIfInBounds_toArray, List.set_cons_zero, List.set_cons_succ]
    refine wpAnyH_take (i := 3) (v := ?_) rfl (by kernel_rfl) (by kernel_rfl) (by kernel_rfl) (fun _ _ _ h => h) (Or.inl ⟨by rfl, ?_⟩) (by assumption) ?_
    rotate_left
    · intro w hSw
      (try dsimp only at hSw)
      go_simp
      all_goals with_reducible rfl
    try simp only [Act.put, List.getElem_toArray, List.getElem_cons_succ, List.getElem_cons_zero, List.setIfInBounds_toArray, List.set_cons_zero, List.set_cons_succ]
    refine wpAnyH_take (i := 5) (v := ?_) rfl (by kernel_rfl) (by kernel_rfl) (by kernel_rfl) (fun _ _ _ h => h) (Or.inl ⟨by rfl, ?_⟩) (by assumption) ?_
    rotate_left
    · intro w hSw
      (try dsimp only at hSw)
      go_simp
      all_goals with_reducible rfl
    try simp only [Act.put, List.getElem_toArray, List.getElem_cons_succ, List.getElem_cons_zero, List.setIfInBounds_toArray, List.set_cons_zero, List.set_cons_succ]
    refine wpAnyH_take (i := 6) (v := ?_) rfl (by kernel_rfl) (by kernel_rfl) (by kernel_rfl) (fun _ _ _ h => h) (Or.inl ⟨by rfl, ?_⟩) (by assumption) ?_
    rotate_left
    · intro w hSw
      (try dsimp only at hSw)
      go_simp
      all_goals with_reducible rfl
    try simp only [Act.put, List.getElem_toArray, List.getElem_cons_succ, List.getElem_cons_zero, List.setIfInBounds_toArray, List.set_cons_zero, List.set_cons_succ]
    refine wpAnyH_ready (rs := [4]) (by kernel_rfl) (by simp) ?_
    refine AllReadyH.cons rfl (fun K hK => ?_) AllReadyH.nil
    go_simp
    refine (HW1.out _).mono ?_; rintro e w' ⟨rfl, rfl⟩
    go_wp2_with fail
    refine hK.out _ _ ?_ (fun hHeld => ?_)
    · (try dsimp only)
      exact HS4.out _ _ HX.out.tl
    clear hK K
    try simp only [Act.put, List.getElem_toArray, List.getElem_cons_succ, List.getElem_cons_zero, List.setIfInBounds_toArray, List.set_cons_zero, List.set_cons_succ]
    refine wpAnyH_ready (rs := [7]) (by kernel_rfl) (by simp) ?_
    refine AllReadyH.cons rfl (fun K hK => ?_) AllReadyH.nil
    go_simp
    refine (HW2.out _).mono ?_; rintro e w' ⟨rfl, rfl⟩
    go_wp2_with fail
    refine hK.out _ _ ?_ (fun hHeld => ?_)
    · (try dsimp only)
      exact HS4.out _ _ HX.out.tl
    clear hK K
    try simp only [Act.put, List.getElem_toArray, List.getElem_cons_succ, List.getElem_cons_zero, List.setIfInBounds_toArray, List.set_cons_zero, List.set_cons_succ]
    refine wpAnyH_ready (rs := [8]) (by kernel_rfl) (by simp) ?_
    refine AllReadyH.cons rfl (fun K hK => ?_) AllReadyH.nil
    go_simp
    have HB2 := HX.out.build [i64v e1, i64v e2] 34
    have HRD := Lib.hid HB2.1
    have HX := Lib.hid HB2.2
    clear HB2
    refine hK.out _ _ ?_ (fun hHeld => ?_)
    · (try dsimp only)
      exact HS4.out _ _ HX.out.tl
    clear hK K
    try simp only [Act.put, List.getElem_toArray, List.getElem_cons_succ, List.getElem_cons_zero, List.setIfInBounds_toArray, List.set_cons_zero, List.set_cons_succ]
    refine wpAnyH_ready (rs := [9]) (by kernel_rfl) (by simp) ?_
    refine AllReadyH.cons rfl (fun K hK => ?_) AllReadyH.nil
    go_simp
    refine (HONE.out _ _ _ HRD.out).mono ?_; rintro e w' ⟨rfl, hb⟩; have HX := Lib.hid (HX.out.later hb); clear hb HRD; have hst := endC HX.out.hd zeroC_size HRL.out HR1.out
    go_wp2_with fail
    refine hK.out _ _ ?_ (fun hHeld => ?_)
    · (try dsimp only)
      exact HS4.out _ _ HX.out.tl
    clear hK K
    try simp only [Act.put, List.getElem_toArray, List.getElem_cons_succ, List.getElem_cons_zero, List.setIfInBounds_toArray, List.set_cons_zero, List.set_cons_succ]
    refine wpAnyH_ready (rs := [10]) (by kernel_rfl) (by simp) ?_
    refine AllReadyH.cons rfl (fun K hK => ?_) AllReadyH.nil
    go_simp
    have HX := Lib.hid (HX.out.put R.toArray (by omega) (by have := HTB.out; intro x hx; simp only [List.mem_cons, List.not_mem_nil, or_false] at hx; rcases hx with hx | hx | hx <;> (rw [hx]; simp <;> omega)))
    clear hst
    refine hK.out _ _ ?_ (fun hHeld => ?_)
    · (try dsimp only)
      exact HS4.out _ _ HX.out.tl
    clear hK K
    try simp only [Act.put, List.getElem_toArray, List.getElem_cons_succ, List.getElem_cons_zero, List.setIfInBounds_toArray, List.set_cons_zero, List.set_cons_succ]
    refine wpAnyH_done (by kernel_rfl) ?_ _
    try simp only [Act.put, List.getElem_toArray, List.getElem_cons_succ, List.getElem_cons_zero, List.setIfInBounds_toArray, List.set_cons_zero, List.set_cons_succ]
    go_wp2_with fail
    refine bodyPost_ret (results_cell_row rfl _ _ (w.heap.size + 2) 57 R.toArray (0, 0) _ rfl HX.out.hd Tryd.underlying57 rfl (by rw [List.size_toArray, HRL.out]; exact info_sC)) rfl ?_
    exact ⟨rfl, HX.out.bel⟩
  · have hoth2 : ∀ W, Calls Tryd.prog 50 #[.agg M] W fun e w' => e = .returned (.int .i64 0) ∧ Below W.heap.size W w' := fun W => (hoth W).mono fun e w' ⟨h1, h2⟩ => ⟨by rw [h1, ha]; rfl, h2⟩
    have hT2 : ({ m.idle with ph := 3, tr := 2, h0 := m.cm } : Mt) = T := by rw [← HT.out]; unfold Mt.commitT; rw [ha]; rfl
    have HT2 := Lib.hid hT2
    have HO := Lib.hid hoth2
    clear hoth hoth2 HT hT2
    go_enter Tryd.func36, Tryd.ntmps36
    go_upto_region 1 with fail
    generalize ((w.alloc (.cells M 27)).alloc (.cells FA 32)).alloc (.cells Tryd.zeroCells57 57) = W3 at hX0 ⊢
    have hld := (HS.out _ hX0).1
    have HX := Lib.hid hX0
    clear hX0
    go_wp2_with fail
    refine (HID.out _).mono ?_
    rintro e w4 ⟨rfl, hb⟩
    have hX4 := HX.out.later hb
    have htb := hX4.hd.lt
    have hN := hX4.new rfl 27 Tryd.zeroCells27
    have oi := Mt.idle_ok h
    have hst := storeM oi hN.hd zeroM_size
    have hP := hN.put m.idle.cells.toArray (by omega) (ne3 htb)
    rw [HMI.out] at hst
    clear hb hX4 hN hld HX
    obtain ⟨tb, htb2⟩ : ∃ tb, w4.heap.size = tb := ⟨_, rfl⟩
    rw [htb2] at hst hP htb
    go_upto_region 2 with fail
    rw [HMI.out] at hP
    generalize (w4.alloc (.cells Tryd.zeroCells27 27)).setRow tb MI = W5 at hP ⊢
    rw [← HMI.out] at hP
    have hn3 := ne3 (t1 := 57) (t2 := 32) (t3 := 27) (c1 := Tryd.zeroCells57) (c2 := FA) (c3 := M) htb
    have hg3 : w.heap.size ≤ tb := by omega
    have o1 : ({ m.idle with ph := 3 } : Mt).Ok := ⟨oi.d0, oi.d1, oi.d2, oi.act⟩
    have o2 : ({ m.idle with ph := 3, tr := 2 } : Mt).Ok := ⟨oi.d0, oi.d1, oi.d2, oi.act⟩
    obtain ⟨u1, k1⟩ := hP.hd.some oi 70 (by omega)
    have f1 := hP.hd.frozen 70
    have P1 := hP.set (hP.hd.setPhase oi 3) hg3 hn3
    obtain ⟨u2, k2⟩ := P1.hd.some o1 106 (by omega)
    have f2 := P1.hd.frozen 106
    have P2 := P1.set (P1.hd.setTrials o1 2) hg3 hn3
    have HP2 := Lib.hid P2
    have HTB := Lib.hid htb
    clear hP P1 P2 hst htb htb2
    go_upto_region 3 with fail
    have hP2 := HP2.out
    clear k1 k2 f1 f2 HP2
    generalize (W5.setCell ⟨tb, 70, none⟩ (i64v 3)).setCell ⟨tb, 106, none⟩ (i64v 2) = W6 at hP2 ⊢
    have HX := Lib.hid hP2.drew
    have hs0 := HS.out _ HX.out.tl
    clear hP2
    refine wp_region_held_drew (S := (fun W => (sldM (.pointer (some ⟨w.heap.size, 0, none⟩))).run Tryd.prog W = .ok (.agg M) W ∧ (sldI (.pointer (some ⟨w.heap.size, 71, none⟩))).run Tryd.prog W = .ok (.agg CI.toArray) W)) (by kernel_rfl) ?_ (fun hHeld => ?_)
    · exact hs0
    refine wpAnyH_take (i := 0) (v := ?_) rfl (by kernel_rfl) (by kernel_rfl) (by kernel_rfl) (fun _ _ _ h => h) (Or.inl ⟨by rfl, ?_⟩) (by assumption) ?_
    rotate_left
    · intro w hSw
      (try dsimp only at hSw)
      go_simp
      all_goals with_reducible rfl
    try simp only [Act.put, List.getElem_toArray, List.getElem_cons_succ, List.getElem_cons_zero, List.setIfInBounds_toArray, List.set_cons_zero, List.set_cons_succ]
    refine wpAnyH_take (i := 2) (v := ?_) rfl (by kernel_rfl) (by kernel_rfl) (by kernel_rfl) (fun _ _ _ h => h) (Or.inl ⟨by rfl, ?_⟩) (by assumption) ?_
    rotate_left
    · intro w hSw
      (try dsimp only at hSw)
      go_simp
      all_goals with_reducible rfl
    try simp only [Act.put, List.getElem_toArray, List.getElem_cons_succ, List.getElem_cons_zero, List.setIfInBounds_toArray, List.set_cons_zero, List.set_cons_succ]
    refine wpAnyH_take (i := 3) (v := ?_) rfl (by kernel_rfl) (by kernel_rfl) (by kernel_rfl) (fun _ _ _ h => h) (Or.inl ⟨by rfl, ?_⟩) (by assumption) ?_
    rotate_left
    · intro w hSw
      (try dsimp only at hSw)
      go_simp
      all_goals with_reducible rfl
    try simp only [Act.put, List.getElem_toArray, List.getElem_cons_succ, List.getElem_cons_zero, List.setIfInBounds_toArray, List.set_cons_zero, List.set_cons_succ]
    refine wpAnyH_take (i := 4) (v := ?_) rfl (by kernel_rfl) (by kernel_rfl) (by kernel_rfl) (fun _ _ _ h => h) (Or.inl ⟨by rfl, ?_⟩) (by assumption) ?_
    rotate_left
    · intro w hSw
      (try dsimp only at hSw)
      go_simp
      all_goals with_reducible rfl
    try simp only [Act.put, List.getElem_toArray, List.getElem_cons_succ, List.getElem_cons_zero, List.setIfInBounds_toArray, List.set_cons_zero, List.set_cons_succ]
    refine wpAnyH_ready (rs := [1]) (by kernel_rfl) (by simp) ?_
    refine AllReadyH.cons rfl (fun K hK => ?_) AllReadyH.nil
    go_simp
    refine (HO.out _).mono ?_; rintro e w' ⟨rfl, hb⟩; have HX := Lib.hid (HX.out.later hb); clear hb
    go_wp2_with fail
    refine hK.out _ _ ?_ (fun hHeld => ?_)
    · (try dsimp only)
      exact HS.out _ HX.out.tl
    clear hK K
    try simp only [Act.put, List.getElem_toArray, List.getElem_cons_succ, List.getElem_cons_zero, List.setIfInBounds_toArray, List.set_cons_zero, List.set_cons_succ]
    refine wpAnyH_take (i := 5) (v := ?_) rfl (by kernel_rfl) (by kernel_rfl) (by kernel_rfl) (fun _ _ _ h => h) (Or.inl ⟨by rfl, ?_⟩) (by assumption) ?_
    rotate_left
    · intro w hSw
      (try dsimp only at hSw)
      go_simp
      all_goals with_reducible rfl
    try simp only [Act.put, List.getElem_toArray, List.getElem_cons_succ, List.getElem_cons_zero, List.setIfInBounds_toArray, List.set_cons_zero, List.set_cons_succ]
    have hst := run_sstI HX.out.hd 1 (by rw [List.size_toArray, Mt.cells_len o2]; omega) m.cm h.d2
    have HX := Lib.hid (HX.out.sets (HX.out.hd.putH0 o2 m.cm h.d2) hg3 hn3)
    rw [HCI.out] at hst HX
    refine wpAnyH_ready (rs := [6]) (by kernel_rfl) (by simp) ?_
    refine AllReadyH.cons rfl (fun K hK => ?_) AllReadyH.nil
    go_simp
    clear hst
    refine hK.out _ _ ?_ (fun hHeld => ?_)
    · (try dsimp only)
      exact HS.out _ HX.out.tl
    clear hK K
    try simp only [Act.put, List.getElem_toArray, List.getElem_cons_succ, List.getElem_cons_zero, List.setIfInBounds_toArray, List.set_cons_zero, List.set_cons_succ]
    refine wpAnyH_done (by kernel_rfl) ?_ _
    try simp only [Act.put, List.getElem_toArray, List.getElem_cons_succ, List.getElem_cons_zero, List.setIfInBounds_toArray, List.set_cons_zero, List.set_cons_succ]
    go_upto_region 4 with fail
    have hX8 := HX.out
    clear hs0 HX
    rw [HT2.out, HA.out] at hX8
    generalize World.setCells _ tb 1 CI = W8 at hX8 ⊢
    have HX := Lib.hid hX8.swap.drew
    have hs0 := HS4.out _ _ HX.out.tl
    clear hX8
    refine wp_region_held_drew (S := (fun W => (sldM (.pointer (some ⟨tb, 0, none⟩))).run Tryd.prog W = .ok (.agg A) W ∧ W.cell? ⟨w.heap.size, 70, none⟩ = some (.int .i64 x) ∧ W.cell? ⟨w.heap.size + 1, 34, none⟩ = some (.bool wn))) (by kernel_rfl) ?_ (fun hHeld => ?_)
    · exact hs0
    refine wpAnyH_take (i := 0) (v := ?_) rfl (by kernel_rfl) (by kernel_rfl) (by kernel_rfl) (fun _ _ _ h => h) (Or.inl ⟨by rfl, ?_⟩) (by assumption) ?_
    rotate_left
    · intro w hSw
      (try dsimp only at hSw)
      go_simp
      all_goals with_reducible rfl
    try simp only [Act.put, List.getElem_toArray, List.getElem_cons_succ, List.getElem_cons_zero, List.setIfInBounds_toArray, List.set_cons_zero, List.set_cons_succ]
    refine wpAnyH_take (i := 1) (v := ?_) rfl (by kernel_rfl) (by kernel_rfl) (by kernel_rfl) (fun _ _ _ h => h) (Or.inl ⟨by rfl, ?_⟩) (by assumption) ?_
    rotate_left
    · intro w hSw
      (try dsimp only at hSw)
      go_simp
      all_goals with_reducible rfl
    try simp only [Act.put, List.getElem_toArray, List.getElem_cons_succ, List.getElem_cons_zero, List.setIfInBounds_toArray, List.set_cons_zero, List.set_cons_succ]
    refine wpAnyH_take (i := 2) (v := ?_) rfl (by kernel_rfl) (by kernel_rfl) (by kernel_rfl) (fun _ _ _ h => h) (Or.inl ⟨by rfl, ?_⟩) (by assumption) ?_
    rotate_left
    · intro w hSw
      (try dsimp only at hSw)
      go_simp
      all_goals with_reducible rfl
    try simp only [Act.put, List.getElem_toArray, List.getElem_cons_succ, List.getElem_cons_zero, List.setIfInBounds_toArray, List.set_cons_zero, List.set_cons_succ]
    refine wpAnyH_take (i := 3) (v := ?_) rfl (by kernel_rfl) (by kernel_rfl) (by kernel_rfl) (fun _ _ _ h => h) (Or.inl ⟨by rfl, ?_⟩) (by assumption) ?_
    rotate_left
    · intro w hSw
      (try dsimp only at hSw)
      go_simp
      all_goals with_reducible rfl
    try simp only [Act.put, List.getElem_toArray, List.getElem_cons_succ, List.getElem_cons_zero, List.setIfInBounds_toArray, List.set_cons_zero, List.set_cons_succ]
    refine wpAnyH_take (i := 5) (v := ?_) rfl (by kernel_rfl) (by kernel_rfl) (by kernel_rfl) (fun _ _ _ h => h) (Or.inl ⟨by rfl, ?_⟩) (by assumption) ?_
    rotate_left
    · intro w hSw
      (try dsimp only at hSw)
      go_simp
      all_goals with_reducible rfl
    try simp only [Act.put, List.getElem_toArray, List.getElem_cons_succ, List.getElem_cons_zero, List.setIfInBounds_toArray, List.set_cons_zero, List.set_cons_succ]
    refine wpAnyH_take (i := 6) (v := ?_) rfl (by kernel_rfl) (by kernel_rfl) (by kernel_rfl) (fun _ _ _ h => h) (Or.inl ⟨by rfl, ?_⟩) (by assumption) ?_
    rotate_left
    · intro w hSw
      (try dsimp only at hSw)
      go_simp
      all_goals with_reducible rfl
    try simp only [Act.put, List.getElem_toArray, List.getElem_cons_succ, List.getElem_cons_zero, List.setIfInBounds_toArray, List.set_cons_zero, List.set_cons_succ]
    refine wpAnyH_ready (rs := [4]) (by kernel_rfl) (by simp) ?_
    refine AllReadyH.cons rfl (fun K hK => ?_) AllReadyH.nil
    go_simp
    refine (HW1.out _).mono ?_; rintro e w' ⟨rfl, rfl⟩
    go_wp2_with fail
    refine hK.out _ _ ?_ (fun hHeld => ?_)
    · (try dsimp only)
      exact HS4.out _ _ HX.out.tl
    clear hK K
    try simp only [Act.put, List.getElem_toArray, List.getElem_cons_succ, List.getElem_cons_zero, List.setIfInBounds_toArray, List.set_cons_zero, List.set_cons_succ]
    refine wpAnyH_ready (rs := [7]) (by kernel_rfl) (by simp) ?_
    refine AllReadyH.cons rfl (fun K hK => ?_) AllReadyH.nil
    go_simp
    refine (HW2.out _).mono ?_; rintro e w' ⟨rfl, rfl⟩
    go_wp2_with fail
    refine hK.out _ _ ?_ (fun hHeld => ?_)
    · (try dsimp only)
      exact HS4.out _ _ HX.out.tl
    clear hK K
    try simp only [Act.put, List.getElem_toArray, List.getElem_cons_succ, List.getElem_cons_zero, List.setIfInBounds_toArray, List.set_cons_zero, List.set_cons_succ]
    refine wpAnyH_ready (rs := [8]) (by kernel_rfl) (by simp) ?_
    refine AllReadyH.cons rfl (fun K hK => ?_) AllReadyH.nil
    go_simp
    have HB2 := HX.out.build [i64v e1, i64v e2] 34
    have HRD := Lib.hid HB2.1
    have HX := Lib.hid HB2.2
    clear HB2
    refine hK.out _ _ ?_ (fun hHeld => ?_)
    · (try dsimp only)
      exact HS4.out _ _ HX.out.tl
    clear hK K
    try simp only [Act.put, List.getElem_toArray, List.getElem_cons_succ, List.getElem_cons_zero, List.setIfInBounds_toArray, List.set_cons_zero, List.set_cons_succ]
    refine wpAnyH_ready (rs := [9]) (by kernel_rfl) (by simp) ?_
    refine AllReadyH.cons rfl (fun K hK => ?_) AllReadyH.nil
    go_simp
    refine (HONE.out _ _ _ HRD.out).mono ?_; rintro e w' ⟨rfl, hb⟩; have HX := Lib.hid (HX.out.later hb); clear hb HRD; have hst := endC HX.out.hd zeroC_size HRL.out HR1.out
    go_wp2_with fail
    refine hK.out _ _ ?_ (fun hHeld => ?_)
    · (try dsimp only)
      exact HS4.out _ _ HX.out.tl
    clear hK K
    try simp only [Act.put, List.getElem_toArray, List.getElem_cons_succ, List.getElem_cons_zero, List.setIfInBounds_toArray, List.set_cons_zero, List.set_cons_succ]
    refine wpAnyH_ready (rs := [10]) (by kernel_rfl) (by simp) ?_
    refine AllReadyH.cons rfl (fun K hK => ?_) AllReadyH.nil
    go_simp
    have HX := Lib.hid (HX.out.put R.toArray (by omega) (by have := HTB.out; intro x hx; simp only [List.mem_cons, List.not_mem_nil, or_false] at hx; rcases hx with hx | hx | hx <;> (rw [hx]; simp <;> omega)))
    clear hst
    refine hK.out _ _ ?_ (fun hHeld => ?_)
    · (try dsimp only)
      exact HS4.out _ _ HX.out.tl
    clear hK K
    try simp only [Act.put, List.getElem_toArray, List.getElem_cons_succ, List.getElem_cons_zero, List.setIfInBounds_toArray, List.set_cons_zero, List.set_cons_succ]
    refine wpAnyH_done (by kernel_rfl) ?_ _
    try simp only [Act.put, List.getElem_toArray, List.getElem_cons_succ, List.getElem_cons_zero, List.setIfInBounds_toArray, List.set_cons_zero, List.set_cons_succ]
    go_wp2_with fail
    refine bodyPost_ret (results_cell_row rfl _ _ (w.heap.size + 2) 57 R.toArray (0, 0) _ rfl HX.out.hd Tryd.underlying57 rfl (by rw [List.size_toArray, HRL.out]; exact info_sC)) rfl ?_
    exact ⟨rfl, HX.out.bel⟩
def Mt.confT (m : Mt) : Mt := { m.idle with mn := m.vconf, act := 1 - m.act }
theorem Mt.confT_ok {m : Mt} (h : m.Ok) (ha : m.act = 0 ∨ m.act = 1) : m.confT.Ok :=
  ⟨h.d0, h.d1, rfl, by show -9223372036854775808 ≤ 1 - m.act; omega, by show 1 - m.act ≤ 9223372036854775807; omega⟩
set_option maxRecDepth 100000 in
set_option maxHeartbeats 4000000 in
theorem confirm_c (w : World) (m : Mt) (h : m.Ok) (hact : m.act = 0 ∨ m.act = 1) (f : Fc) (hf : f.d.length = 32) :
    Calls Tryd.prog 38 #[.agg m.cells.toArray, .agg f.cells.toArray] w fun e w' => e = .returned (.agg (oneM m.confT [wh (m.ph != 3 || m.tr == 2) 11, wh f.wn 5]).toArray) ∧ Below w.heap.size w w' := by
  have hX0 := box3 w m.cells.toArray f.cells.toArray _ rfl
  obtain ⟨T, hT⟩ : ∃ T, m.confT = T := ⟨_, rfl⟩
  have hTo : T.Ok := hT ▸ Mt.confT_ok h hact
  rw [hT]
  have HT := Lib.hid hT
  clear hT
  have hidle := fun W => idle_c W m h
  obtain ⟨x, hx⟩ : ∃ x, m.ph = x := ⟨_, rfl⟩
  obtain ⟨y, hy⟩ : ∃ y, m.tr = y := ⟨_, rfl⟩
  obtain ⟨wn, hwn⟩ : ∃ wn, f.wn = wn := ⟨_, rfl⟩
  rw [hx, hy, hwn]
  obtain ⟨B1, hB1⟩ : ∃ B1, (x != 3 || y == 2) = B1 := ⟨_, rfl⟩
  rw [hB1]
  obtain ⟨e1, he1⟩ : ∃ e1, wh B1 11 = e1 := ⟨_, rfl⟩
  obtain ⟨e2, he2⟩ : ∃ e2, wh wn 5 = e2 := ⟨_, rfl⟩
  rw [he1, he2]
  have hw1 : ∀ W, Calls Tryd.prog 54 #[.bool B1, .int .i64 11] W fun en w' => en = .returned (.int .i64 e1) ∧ W = w' := fun W => he1 ▸ when_c _ _ W
  have hw2 : ∀ W, Calls Tryd.prog 54 #[.bool wn, .int .i64 5] W fun en w' => en = .returned (.int .i64 e2) ∧ W = w' := fun W => he2 ▸ when_c _ _ W
  have hone := fun (W : World) (b c : Nat) (hr : Reads W (some ⟨b, 0, none⟩) 2 [i64v e1, i64v e2]) => one_c W (T) (hTo) b 0 2 c [e1, e2] hr (by omega)
  have hrl := oneM_len hTo [e1, e2]
  have hr1 := oneM_one T [e1, e2]
  obtain ⟨R, hR⟩ : ∃ R, oneM T [e1, e2] = R := ⟨_, rfl⟩
  rw [hR] at hrl hr1 hone ⊢
  have hS3 : ∀ W, Bxs w W [(w.heap.size + 2, 57, Tryd.zeroCells57), (w.heap.size + 1, 32, f.cells.toArray), (w.heap.size, 27, m.cells.toArray)] →
      (sldM (.pointer (some ⟨w.heap.size, 0, none⟩))).run Tryd.prog W = .ok (.agg m.cells.toArray) W := fun W hX =>
    run_sldM (Mt.cells_len h) hX.tl.tl.hd.whole
  have hS4 : ∀ tb W, Bxs w W [(tb, 27, T.cells.toArray), (w.heap.size + 1, 32, f.cells.toArray), (w.heap.size, 27, m.cells.toArray)] →
      (sldM (.pointer (some ⟨tb, 0, none⟩))).run Tryd.prog W = .ok (.agg T.cells.toArray) W ∧ W.cell? ⟨w.heap.size, 70, none⟩ = some (.int .i64 x) ∧ W.cell? ⟨w.heap.size + 1, 34, none⟩ = some (.bool wn) ∧ W.cell? ⟨w.heap.size, 106, none⟩ = some (.int .i64 y) := fun tb W hX =>
    ⟨run_sldM (Mt.cells_len hTo) hX.hd.whole, by rw [hX.tl.tl.hd.cell, List.getElem?_toArray, Mt.c70 h, hx], by rw [hX.tl.hd.cell, List.getElem?_toArray, Fc.c34 hf, hwn], by rw [hX.tl.tl.hd.cell, List.getElem?_toArray, Mt.c106 h, hy]⟩
  have hoth := fun W => other_c W m h (by omega)
  have hvc := fun W => vconf_c W m h hact
  obtain ⟨ov, hov⟩ : ∃ ov, 1 - m.act = ov := ⟨_, rfl⟩
  obtain ⟨vc, hvv⟩ : ∃ vc, m.vconf = vc := ⟨_, rfl⟩
  have hT2 : ({ m.idle with mn := vc, act := ov } : Mt) = T := by rw [← HT.out, ← hov, ← hvv]; rfl
  have hto : ({ m.idle with mn := vc } : Mt).Ok := ⟨h.d0, h.d1, rfl, h.act⟩
  rw [hov] at hoth
  rw [hvv] at hvc
  obtain ⟨M, hM⟩ : ∃ M, m.cells.toArray = M := ⟨_, rfl⟩
  obtain ⟨FA, hFA⟩ : ∃ FA, f.cells.toArray = FA := ⟨_, rfl⟩
  obtain ⟨A, hA⟩ : ∃ A, T.cells.toArray = A := ⟨_, rfl⟩
  obtain ⟨MI, hMI⟩ : ∃ MI, m.idle.cells.toArray = MI := ⟨_, rfl⟩
  rw [hM, hMI] at hidle
  rw [hM] at hoth hvc
  rw [hA] at hone
  rw [hM, hFA] at hX0 hS3 hS4 ⊢
  rw [hA] at hS4
  have HONE := Lib.hid hone
  have HID := Lib.hid hidle
  have HW1 := Lib.hid hw1
  have HW2 := Lib.hid hw2
  have HS := Lib.hid hS3
  have HS4 := Lib.hid hS4
  have HRL := Lib.hid hrl
  have HR1 := Lib.hid hr1
  have HMI := Lib.hid hMI
  have HA := Lib.hid hA
  have HT2 := Lib.hid hT2
  have HO := Lib.hid hoth
  have HVC := Lib.hid hvc
  clear hR hM hFA hA he1 he2 hx hy hwn hone hidle hw1 hw2 hS3 hS4 hrl hr1 hMI hT2 HT hoth hvc hov hvv
  go_enter Tryd.func38, Tryd.ntmps38
  go_upto_region 1 with fail
  generalize ((w.alloc (.cells M 27)).alloc (.cells FA 32)).alloc (.cells Tryd.zeroCells57 57) = W3 at hX0 ⊢
  have hld := HS.out _ hX0
  have HX := Lib.hid hX0
  clear hX0
  go_wp2_with fail
  refine (HID.out _).mono ?_
  rintro e w4 ⟨rfl, hb⟩
  have hX4 := HX.out.later hb
  have htb := hX4.hd.lt
  have hN := hX4.new rfl 27 Tryd.zeroCells27
  have oi := Mt.idle_ok h
  have hst := storeM oi hN.hd zeroM_size
  have hP := hN.put m.idle.cells.toArray (by omega) (ne3 htb)
  rw [HMI.out] at hst
  clear hb hX4 hN hld HX
  obtain ⟨tb, htb2⟩ : ∃ tb, w4.heap.size = tb := ⟨_, rfl⟩
  rw [htb2] at hst hP htb
  go_upto_region 2 with fail
  rw [HMI.out] at hP
  generalize (w4.alloc (.cells Tryd.zeroCells27 27)).setRow tb MI = W5 at hP ⊢
  rw [← HMI.out] at hP
  have hn3 := ne3 (t1 := 57) (t2 := 32) (t3 := 27) (c1 := Tryd.zeroCells57) (c2 := FA) (c3 := M) htb
  have hg3 : w.heap.size ≤ tb := by omega
  have HTB := Lib.hid htb
  have HX := Lib.hid hP.drew
  have hs0 := HS.out _ HX.out.tl
  clear hP hst htb htb2
  refine wp_region_held_drew (S := (fun W => (sldM (.pointer (some ⟨w.heap.size, 0, none⟩))).run Tryd.prog W = .ok (.agg M) W)) (by kernel_rfl) ?_ (fun hHeld => ?_)
  · exact hs0
  refine wpAnyH_take (i := 0) (v := ?_) rfl (by kernel_rfl) (by kernel_rfl) (by kernel_rfl) (fun _ _ _ h => h) (Or.inl ⟨by rfl, ?_⟩) (by assumption) ?_
  rotate_left
  · intro w hSw
    (try dsimp only at hSw)
    go_simp
    all_goals with_reducible rfl
  try simp only [Act.put, List.getElem_toArray, List.getElem_cons_succ, List.getElem_cons_zero, List.setIfInBounds_toArray, List.set_cons_zero, List.set_cons_succ]
  refine wpAnyH_take (i := 2) (v := ?_) rfl (by kernel_rfl) (by kernel_rfl) (by kernel_rfl) (fun _ _ _ h => h) (Or.inl ⟨by rfl, ?_⟩) (by assumption) ?_
  rotate_left
  · intro w hSw
    (try dsimp only at hSw)
    go_simp
    all_goals with_reducible rfl
  try simp only [Act.put, List.getElem_toArray, List.getElem_cons_succ, List.getElem_cons_zero, List.setIfInBounds_toArray, List.set_cons_zero, List.set_cons_succ]
  refine wpAnyH_ready (rs := [1]) (by kernel_rfl) (by simp) ?_
  refine AllReadyH.cons rfl (fun K hK => ?_) AllReadyH.nil
  go_simp
  refine (HVC.out _).mono ?_; rintro e w' ⟨rfl, hb⟩; have HX := Lib.hid (HX.out.later hb); clear hb
  go_wp2_with fail
  refine hK.out _ _ ?_ (fun hHeld => ?_)
  · (try dsimp only)
    exact HS.out _ HX.out.tl
  clear hK K
  try simp only [Act.put, List.getElem_toArray, List.getElem_cons_succ, List.getElem_cons_zero, List.setIfInBounds_toArray, List.set_cons_zero, List.set_cons_succ]
  refine wpAnyH_take (i := 4) (v := ?_) rfl (by kernel_rfl) (by kernel_rfl) (by kernel_rfl) (fun _ _ _ h => h) (Or.inl ⟨by rfl, ?_⟩) (by assumption) ?_
  rotate_left
  · intro w hSw
    (try dsimp only at hSw)
    go_simp
    all_goals with_reducible rfl
  try simp only [Act.put, List.getElem_toArray, List.getElem_cons_succ, List.getElem_cons_zero, List.setIfInBounds_toArray, List.set_cons_zero, List.set_cons_succ]
  refine wpAnyH_ready (rs := [3]) (by kernel_rfl) (by simp) ?_
  refine AllReadyH.cons rfl (fun K hK => ?_) AllReadyH.nil
  go_simp
  refine (HO.out _).mono ?_; rintro e w' ⟨rfl, hb⟩; have HX := Lib.hid (HX.out.later hb); clear hb
  go_wp2_with fail
  refine hK.out _ _ ?_ (fun hHeld => ?_)
  · (try dsimp only)
    exact HS.out _ HX.out.tl
  clear hK K
  try simp only [Act.put, List.getElem_toArray, List.getElem_cons_succ, List.getElem_cons_zero, List.setIfInBounds_toArray, List.set_cons_zero, List.set_cons_succ]
  obtain ⟨u1, k1⟩ := HX.out.hd.some oi 69 (by omega)
  have f1 := HX.out.hd.frozen 69
  have HX := Lib.hid (HX.out.set (HX.out.hd.setMin oi vc) hg3 hn3)
  refine wpAnyH_ready (rs := [5]) (by kernel_rfl) (by simp) ?_
  refine AllReadyH.cons rfl (fun K hK => ?_) AllReadyH.nil
  go_simp
  clear k1 f1
  refine hK.out _ _ ?_ (fun hHeld => ?_)
  · (try dsimp only)
    exact HS.out _ HX.out.tl
  clear hK K
  try simp only [Act.put, List.getElem_toArray, List.getElem_cons_succ, List.getElem_cons_zero, List.setIfInBounds_toArray, List.set_cons_zero, List.set_cons_succ]
  refine wpAnyH_take (i := 6) (v := ?_) rfl (by kernel_rfl) (by kernel_rfl) (by kernel_rfl) (fun _ _ _ h => h) (Or.inl ⟨by rfl, ?_⟩) (by assumption) ?_
  rotate_left
  · intro w hSw
    (try dsimp only at hSw)
    go_simp
    all_goals with_reducible rfl
  try simp only [Act.put, List.getElem_toArray, List.getElem_cons_succ, List.getElem_cons_zero, List.setIfInBounds_toArray, List.set_cons_zero, List.set_cons_succ]
  obtain ⟨u1, k1⟩ := HX.out.hd.some hto 0 (by omega)
  have f1 := HX.out.hd.frozen 0
  have HX := Lib.hid (HX.out.set (HX.out.hd.setAct ov) hg3 hn3)
  refine wpAnyH_ready (rs := [7]) (by kernel_rfl) (by simp) ?_
  refine AllReadyH.cons rfl (fun K hK => ?_) AllReadyH.nil
  go_simp
  clear k1 f1
  refine hK.out _ _ ?_ (fun hHeld => ?_)
  · (try dsimp only)
    exact HS.out _ HX.out.tl
  clear hK K
  try simp only [Act.put, List.getElem_toArray, List.getElem_cons_succ, List.getElem_cons_zero, List.setIfInBounds_toArray, List.set_cons_zero, List.set_cons_succ]
  refine wpAnyH_done (by kernel_rfl) ?_ _
  try simp only [Act.put, List.getElem_toArray, List.getElem_cons_succ, List.getElem_cons_zero, List.setIfInBounds_toArray, List.set_cons_zero, List.set_cons_succ]
  go_upto_region 3 with fail
  have hX8 := HX.out
  clear hs0 HX
  rw [HT2.out, HA.out] at hX8
  generalize World.setCell _ (⟨tb, 0, none⟩ : Addr) (i64v ov) = W8 at hX8 ⊢
  have HX := Lib.hid hX8.swap.drew
  have hs0 := HS4.out _ _ HX.out.tl
  clear hX8
  by_cases h3 : x = 3
  · subst h3
    obtain rfl : (y == 2) = B1 := by rw [← hB1]; rfl
    clear hB1
    refine wp_region_held_drew (S := (fun W => (sldM (.pointer (some ⟨tb, 0, none⟩))).run Tryd.prog W = .ok (.agg A) W ∧ W.cell? ⟨w.heap.size, 70, none⟩ = some (.int .i64 3) ∧ W.cell? ⟨w.heap.size + 1, 34, none⟩ = some (.bool wn) ∧ W.cell? ⟨w.heap.size, 106, none⟩ = some (.int .i64 y))) (by kernel_rfl) ?_ (fun hHeld => ?_)
    · exact hs0
    refine wpAnyH_take (i := 0) (v := ?_) rfl (by kernel_rfl) (by kernel_rfl) (by kernel_rfl) (fun _ _ _ h => h) (Or.inl ⟨by rfl, ?_⟩) (by assumption) ?_
    rotate_left
    · intro w hSw
      (try dsimp only at hSw)
      go_simp
      all_goals with_reducible rfl
    try simp only [Act.put, List.getElem_toArray, List.getElem_cons_succ, List.getElem_cons_zero, List.setIfInBounds_toArray, List.set_cons_zero, List.set_cons_succ]
    refine wpAnyH_take (i := 1) (v := ?_) rfl (by kernel_rfl) (by kernel_rfl) (by kernel_rfl) (fun _ _ _ h => h) (Or.inl ⟨by rfl, ?_⟩) (by assumption) ?_
    rotate_left
    · intro w hSw
      (try dsimp only at hSw)
      go_simp
      all_goals with_reducible rfl
    try simp only [Act.put, List.getElem_toArray, List.getElem_cons_succ, List.getElem_cons_zero, List.setIfInBounds_toArray, List.set_cons_zero, List.set_cons_succ]
    refine wpAnyH_take (i := 2) (v := ?_) rfl (by kernel_rfl) (by kernel_rfl) (by kernel_rfl) (fun _ _ _ h => h) (Or.inl ⟨by rfl, ?_⟩) (by assumption) ?_
    rotate_left
    · intro w hSw
      (try dsimp only at hSw)
      go_simp
      all_goals with_reducible rfl
    try simp only [Act.put, List.getElem_toArray, List.getElem_cons_succ, List.getElem_cons_zero, List.setIfInBounds_toArray, List.set_cons_zero, List.set_cons_succ]
    refine wpAnyH_take (i := 3) (v := ?_) rfl (by kernel_rfl) (by kernel_rfl) (by kernel_rfl) (fun _ _ _ h => h) (Or.inl ⟨by rfl, ?_⟩) (by assumption) ?_
    rotate_left
    · intro w hSw
      (try dsimp only at hSw)
      go_simp
      all_goals with_reducible rfl
    try simp only [Act.put, List.getElem_toArray, List.getElem_cons_succ, List.getElem_cons_zero, List.setIfInBounds_toArray, List.set_cons_zero, List.set_cons_succ]
    refine wpAnyH_take (i := 4) (v := ?_) rfl (by kernel_rfl) (by kernel_rfl) (by kernel_rfl) (fun _ _ _ h => h) (Or.inl ⟨by rfl, ?_⟩) (by assumption) ?_
    rotate_left
    · intro w hSw
      (try dsimp only at hSw)
      go_simp
      all_goals with_reducible rfl
    try simp only [Act.put, List.getElem_toArray, List.getElem_cons_succ, List.getElem_cons_zero, List.setIfInBounds_toArray, List.set_cons_zero, List.set_cons_succ]
    refine wpAnyH_take (i := 5) (v := ?_) rfl (by kernel_rfl) (by kernel_rfl) (by kernel_rfl) (fun _ _ _ h => h) (Or.inl ⟨by rfl, ?_⟩) (by assumption) ?_
    rotate_left
    · intro w hSw
      (try dsimp only at hSw)
      go_simp
      all_goals with_reducible rfl
    try simp only [Act.put, List.getElem_toArray, List.getElem_cons_succ, List.getElem_cons_zero, List.setIfInBounds_toArray, List.set_cons_zero, List.set_cons_succ]
    refine wpAnyH_take (i := 6) (v := ?_) rfl (by kernel_rfl) (by kernel_rfl) (by kernel_rfl) (fun _ _ _ h => h) (Or.inl ⟨by rfl, ?_⟩) (by assumption) ?_
    rotate_left
    · intro w hSw
      (try dsimp only at hSw)
      go_simp
      all_goals with_reducible rfl
    try simp only [Act.put, List.getElem_toArray, List.getElem_cons_succ, List.getElem_cons_zero, List.setIfInBounds_toArray, List.set_cons_zero, List.set_cons_succ]
    refine wpAnyH_take (i := 7) (v := ?_) rfl (by kernel_rfl) (by kernel_rfl) (by kernel_rfl) (fun _ _ _ h => h) (Or.inl ⟨by rfl, ?_⟩) (by assumption) ?_
    rotate_left
    · intro w hSw
      (try dsimp only at hSw)
      go_simp
      all_goals with_reducible rfl
    try simp only [Act.put, List.getElem_toArray, List.getElem_cons_succ, List.getElem_cons_zero, List.setIfInBounds_toArray, List.set_cons_zero, List.set_cons_succ]
    refine wpAnyH_take (i := 8) (v := ?_) rfl (by kernel_rfl) (by kernel_rfl) (by kernel_rfl) (fun _ _ _ h => h) (Or.inl ⟨by rfl, ?_⟩) (by assumption) ?_
    rotate_left
    · intro w hSw
      (try dsimp only at hSw)
      go_simp
      all_goals with_reducible rfl
    try simp only [Act.put, List.getElem_toArray, List.getElem_cons_succ, List.getElem_cons_zero, List.setIfInBounds_toArray, List.set_cons_zero, List.set_cons_succ]
    refine wpAnyH_take (i := 10) (v := ?_) rfl (by kernel_rfl) (by kernel_rfl) (by kernel_rfl) (fun _ _ _ h => h) (Or.inl ⟨by rfl, ?_⟩) (by assumption) ?_
    rotate_left
    · intro w hSw
      (try dsimp only at hSw)
      go_simp
      all_goals with_reducible rfl
    try simp only [Act.put, List.getElem_toArray, List.getElem_cons_succ, List.getElem_cons_zero, List.setIfInBounds_toArray, List.set_cons_zero, List.set_cons_succ]
    refine wpAnyH_take (i := 11) (v := ?_) rfl (by kernel_rfl) (by kernel_rfl) (by kernel_rfl) (fun _ _ _ h => h) (Or.inl ⟨by rfl, ?_⟩) (by assumption) ?_
    rotate_left
    · intro w hSw
      (try dsimp only at hSw)
      go_simp
      all_goals with_reducible rfl
    try simp only [Act.put, List.getElem_toArray, List.getElem_cons_succ, List.getElem_cons_zero, List.setIfInBounds_toArray, List.set_cons_zero, List.set_cons_succ]
    refine wpAnyH_ready (rs := [9]) (by kernel_rfl) (by simp) ?_
    refine AllReadyH.cons rfl (fun K hK => ?_) AllReadyH.nil
    go_simp
    refine (HW1.out _).mono ?_; rintro e w' ⟨rfl, rfl⟩
    go_wp2_with fail
    refine hK.out _ _ ?_ (fun hHeld => ?_)
    · (try dsimp only)
      exact HS4.out _ _ HX.out.tl
    clear hK K
    try simp only [Act.put, List.getElem_toArray, List.getElem_cons_succ, List.getElem_cons_zero, List.setIfInBounds_toArray, List.set_cons_zero, List.set_cons_succ]
    refine wpAnyH_ready (rs := [12]) (by kernel_rfl) (by simp) ?_
    refine AllReadyH.cons rfl (fun K hK => ?_) AllReadyH.nil
    go_simp
    refine (HW2.out _).mono ?_; rintro e w' ⟨rfl, rfl⟩
    go_wp2_with fail
    refine hK.out _ _ ?_ (fun hHeld => ?_)
    · (try dsimp only)
      exact HS4.out _ _ HX.out.tl
    clear hK K
    try simp only [Act.put, List.getElem_toArray, List.getElem_cons_succ, List.getElem_cons_zero, List.setIfInBounds_toArray, List.set_cons_zero, List.set_cons_succ]
    refine wpAnyH_ready (rs := [13]) (by kernel_rfl) (by simp) ?_
    refine AllReadyH.cons rfl (fun K hK => ?_) AllReadyH.nil
    go_simp
    have HB2 := HX.out.build [i64v e1, i64v e2] 34
    have HRD := Lib.hid HB2.1
    have HX := Lib.hid HB2.2
    clear HB2
    refine hK.out _ _ ?_ (fun hHeld => ?_)
    · (try dsimp only)
      exact HS4.out _ _ HX.out.tl
    clear hK K
    try simp only [Act.put, List.getElem_toArray, List.getElem_cons_succ, List.getElem_cons_zero, List.setIfInBounds_toArray, List.set_cons_zero, List.set_cons_succ]
    refine wpAnyH_ready (rs := [14]) (by kernel_rfl) (by simp) ?_
    refine AllReadyH.cons rfl (fun K hK => ?_) AllReadyH.nil
    go_simp
    refine (HONE.out _ _ _ HRD.out).mono ?_; rintro e w' ⟨rfl, hb⟩; have HX := Lib.hid (HX.out.later hb); clear hb HRD; have hst := endC HX.out.hd zeroC_size HRL.out HR1.out
    go_wp2_with fail
    refine hK.out _ _ ?_ (fun hHeld => ?_)
    · (try dsimp only)
      exact HS4.out _ _ HX.out.tl
    clear hK K
    try simp only [Act.put, List.getElem_toArray, List.getElem_cons_succ, List.getElem_cons_zero, List.setIfInBounds_toArray, List.set_cons_zero, List.set_cons_succ]
    refine wpAnyH_ready (rs := [15]) (by kernel_rfl) (by simp) ?_
    refine AllReadyH.cons rfl (fun K hK => ?_) AllReadyH.nil
    go_simp
    have HX := Lib.hid (HX.out.put R.toArray (by omega) (by have := HTB.out; intro x hx; simp only [List.mem_cons, List.not_mem_nil, or_false] at hx; rcases hx with hx | hx | hx <;> (rw [hx]; simp <;> omega)))
    clear hst
    refine hK.out _ _ ?_ (fun hHeld => ?_)
    · (try dsimp only)
      exact HS4.out _ _ HX.out.tl
    clear hK K
    try simp only [Act.put, List.getElem_toArray, List.getElem_cons_succ, List.getElem_cons_zero, List.setIfInBounds_toArray, List.set_cons_zero, List.set_cons_succ]
    refine wpAnyH_done (by kernel_rfl) ?_ _
    try simp only [Act.put, List.getElem_toArray, List.getElem_cons_succ, List.getElem_cons_zero, List.setIfInBounds_toArray, List.set_cons_zero, List.set_cons_succ]
    go_wp2_with fail
    refine bodyPost_ret (results_cell_row rfl _ _ (w.heap.size + 2) 57 R.toArray (0, 0) _ rfl HX.out.hd Tryd.underlying57 rfl (by rw [List.size_toArray, HRL.out]; exact info_sC)) rfl ?_
    exact ⟨rfl, HX.out.bel⟩
  · have h1 : (x != 3) = true := by rw [bne_iff_ne]; exact h3
    obtain rfl : true = B1 := by rw [← hB1, h1]; rfl
    clear hB1
    refine wp_region_held_drew (S := (fun W => (sldM (.pointer (some ⟨tb, 0, none⟩))).run Tryd.prog W = .ok (.agg A) W ∧ W.cell? ⟨w.heap.size, 70, none⟩ = some (.int .i64 x) ∧ W.cell? ⟨w.heap.size + 1, 34, none⟩ = some (.bool wn) ∧ W.cell? ⟨w.heap.size, 106, none⟩ = some (.int .i64 y))) (by kernel_rfl) ?_ (fun hHeld => ?_)
    · exact hs0
    refine wpAnyH_take (i := 0) (v := ?_) rfl (by kernel_rfl) (by kernel_rfl) (by kernel_rfl) (fun _ _ _ h => h) (Or.inl ⟨by rfl, ?_⟩) (by assumption) ?_
    rotate_left
    · intro w hSw
      (try dsimp only at hSw)
      go_simp
      all_goals with_reducible rfl
    try simp only [Act.put, List.getElem_toArray, List.getElem_cons_succ, List.getElem_cons_zero, List.setIfInBounds_toArray, List.set_cons_zero, List.set_cons_succ]
    refine wpAnyH_take (i := 1) (v := ?_) rfl (by kernel_rfl) (by kernel_rfl) (by kernel_rfl) (fun _ _ _ h => h) (Or.inl ⟨by rfl, ?_⟩) (by assumption) ?_
    rotate_left
    · intro w hSw
      (try dsimp only at hSw)
      go_simp
      all_goals with_reducible rfl
    try simp only [Act.put, List.getElem_toArray, List.getElem_cons_succ, List.getElem_cons_zero, List.setIfInBounds_toArray, List.set_cons_zero, List.set_cons_succ]
    refine wpAnyH_take (i := 2) (v := ?_) rfl (by kernel_rfl) (by kernel_rfl) (by kernel_rfl) (fun _ _ _ h => h) (Or.inl ⟨by rfl, ?_⟩) (by assumption) ?_
    rotate_left
    · intro w hSw
      (try dsimp only at hSw)
      go_simp
      all_goals with_reducible rfl
    try simp only [Act.put, List.getElem_toArray, List.getElem_cons_succ, List.getElem_cons_zero, List.setIfInBounds_toArray, List.set_cons_zero, List.set_cons_succ]
    refine wpAnyH_take (i := 3) (v := ?_) rfl (by kernel_rfl) (by kernel_rfl) (by kernel_rfl) (fun _ _ _ h => h) (Or.inl ⟨by rfl, ?_⟩) (by assumption) ?_
    rotate_left
    · intro w hSw
      (try dsimp only at hSw)
      go_simp
      all_goals with_reducible rfl
    try simp only [Act.put, List.getElem_toArray, List.getElem_cons_succ, List.getElem_cons_zero, List.setIfInBounds_toArray, List.set_cons_zero, List.set_cons_succ]
    refine wpAnyH_take (i := 4) (v := ?_) rfl (by kernel_rfl) (by kernel_rfl) (by kernel_rfl) (fun _ _ _ h => h) (Or.inl ⟨by rfl, ?_⟩) (by assumption) ?_
    rotate_left
    · intro w hSw
      (try dsimp only at hSw)
      go_simp
      all_goals with_reducible rfl
    try simp only [Act.put, List.getElem_toArray, List.getElem_cons_succ, List.getElem_cons_zero, List.setIfInBounds_toArray, List.set_cons_zero, List.set_cons_succ]
    refine wpAnyH_take (i := 5) (v := undef) rfl (by kernel_rfl) (by kernel_rfl) (by kernel_rfl) (fun _ _ _ h => h) (Or.inr ⟨by rfl, rfl⟩) (by assumption) ?_
    try simp only [Act.put, List.getElem_toArray, List.getElem_cons_succ, List.getElem_cons_zero, List.setIfInBounds_toArray, List.set_cons_zero, List.set_cons_succ]
    refine wpAnyH_take (i := 6) (v := undef) rfl (by kernel_rfl) (by kernel_rfl) (by kernel_rfl) (fun _ _ _ h => h) (Or.inr ⟨by rfl, rfl⟩) (by assumption) ?_
    try simp only [Act.put, List.getElem_toArray, List.getElem_cons_succ, List.getElem_cons_zero, List.setIfInBounds_toArray, List.set_cons_zero, List.set_cons_succ]
    refine wpAnyH_take (i := 7) (v := undef) rfl (by kernel_rfl) (by kernel_rfl) (by kernel_rfl) (fun _ _ _ h => h) (Or.inr ⟨by rfl, rfl⟩) (by assumption) ?_
    try simp only [Act.put, List.getElem_toArray, List.getElem_cons_succ, List.getElem_cons_zero, List.setIfInBounds_toArray, List.set_cons_zero, List.set_cons_succ]
    refine wpAnyH_take (i := 8) (v := ?_) rfl (by kernel_rfl) (by kernel_rfl) (by kernel_rfl) (fun _ _ _ h => h) (Or.inl ⟨by rfl, ?_⟩) (by assumption) ?_
    rotate_left
    · intro w hSw
      (try dsimp only at hSw)
      go_simp
      all_goals with_reducible rfl
    try simp only [Act.put, List.getElem_toArray, List.getElem_cons_succ, List.getElem_cons_zero, List.setIfInBounds_toArray, List.set_cons_zero, List.set_cons_succ]
    refine wpAnyH_take (i := 10) (v := ?_) rfl (by kernel_rfl) (by kernel_rfl) (by kernel_rfl) (fun _ _ _ h => h) (Or.inl ⟨by rfl, ?_⟩) (by assumption) ?_
    rotate_left
    · intro w hSw
      (try dsimp only at hSw)
      go_simp
      all_goals with_reducible rfl
    try simp only [Act.put, List.getElem_toArray, List.getElem_cons_succ, List.getElem_cons_zero, List.setIfInBounds_toArray, List.set_cons_zero, List.set_cons_succ]
    refine wpAnyH_take (i := 11) (v := ?_) rfl (by kernel_rfl) (by kernel_rfl) (by kernel_rfl) (fun _ _ _ h => h) (Or.inl ⟨by rfl, ?_⟩) (by assumption) ?_
    rotate_left
    · intro w hSw
      (try dsimp only at hSw)
      go_simp
      all_goals with_reducible rfl
    try simp only [Act.put, List.getElem_toArray, List.getElem_cons_succ, List.getElem_cons_zero, List.setIfInBounds_toArray, List.set_cons_zero, List.set_cons_succ]
    refine wpAnyH_ready (rs := [9]) (by kernel_rfl) (by simp) ?_
    refine AllReadyH.cons rfl (fun K hK => ?_) AllReadyH.nil
    go_simp
    refine (HW1.out _).mono ?_; rintro e w' ⟨rfl, rfl⟩
    go_wp2_with fail
    refine hK.out _ _ ?_ (fun hHeld => ?_)
    · (try dsimp only)
      exact HS4.out _ _ HX.out.tl
    clear hK K
    try simp only [Act.put, List.getElem_toArray, List.getElem_cons_succ, List.getElem_cons_zero, List.setIfInBounds_toArray, List.set_cons_zero, List.set_cons_succ]
    refine wpAnyH_ready (rs := [12]) (by kernel_rfl) (by simp) ?_
    refine AllReadyH.cons rfl (fun K hK => ?_) AllReadyH.nil
    go_simp
    refine (HW2.out _).mono ?_; rintro e w' ⟨rfl, rfl⟩
    go_wp2_with fail
    refine hK.out _ _ ?_ (fun hHeld => ?_)
    · (try dsimp only)
      exact HS4.out _ _ HX.out.tl
    clear hK K
    try simp only [Act.put, List.getElem_toArray, List.getElem_cons_succ, List.getElem_cons_zero, List.setIfInBounds_toArray, List.set_cons_zero, List.set_cons_succ]
    refine wpAnyH_ready (rs := [13]) (by kernel_rfl) (by simp) ?_
    refine AllReadyH.cons rfl (fun K hK => ?_) AllReadyH.nil
    go_simp
    have HB2 := HX.out.build [i64v e1, i64v e2] 34
    have HRD := Lib.hid HB2.1
    have HX := Lib.hid HB2.2
    clear HB2
    refine hK.out _ _ ?_ (fun hHeld => ?_)
    · (try dsimp only)
      exact HS4.out _ _ HX.out.tl
    clear hK K
    try simp only [Act.put, List.getElem_toArray, List.getElem_cons_succ, List.getElem_cons_zero, List.setIfInBounds_toArray, List.set_cons_zero, List.set_cons_succ]
    refine wpAnyH_ready (rs := [14]) (by kernel_rfl) (by simp) ?_
    refine AllReadyH.cons rfl (fun K hK => ?_) AllReadyH.nil
    go_simp
    refine (HONE.out _ _ _ HRD.out).mono ?_; rintro e w' ⟨rfl, hb⟩; have HX := Lib.hid (HX.out.later hb); clear hb HRD; have hst := endC HX.out.hd zeroC_size HRL.out HR1.out
    go_wp2_with fail
    refine hK.out _ _ ?_ (fun hHeld => ?_)
    · (try dsimp only)
      exact HS4.out _ _ HX.out.tl
    clear hK K
    try simp only [Act.put, List.getElem_toArray, List.getElem_cons_succ, List.getElem_cons_zero, List.setIfInBounds_toArray, List.set_cons_zero, List.set_cons_succ]
    refine wpAnyH_ready (rs := [15]) (by kernel_rfl) (by simp) ?_
    refine AllReadyH.cons rfl (fun K hK => ?_) AllReadyH.nil
    go_simp
    have HX := Lib.hid (HX.out.put R.toArray (by omega) (by have := HTB.out; intro x hx; simp only [List.mem_cons, List.not_mem_nil, or_false] at hx; rcases hx with hx | hx | hx <;> (rw [hx]; simp <;> omega)))
    clear hst
    refine hK.out _ _ ?_ (fun hHeld => ?_)
    · (try dsimp only)
      exact HS4.out _ _ HX.out.tl
    clear hK K
    try simp only [Act.put, List.getElem_toArray, List.getElem_cons_succ, List.getElem_cons_zero, List.setIfInBounds_toArray, List.set_cons_zero, List.set_cons_succ]
    refine wpAnyH_done (by kernel_rfl) ?_ _
    try simp only [Act.put, List.getElem_toArray, List.getElem_cons_succ, List.getElem_cons_zero, List.setIfInBounds_toArray, List.set_cons_zero, List.set_cons_succ]
    go_wp2_with fail
    refine bodyPost_ret (results_cell_row rfl _ _ (w.heap.size + 2) 57 R.toArray (0, 0) _ rfl HX.out.hd Tryd.underlying57 rfl (by rw [List.size_toArray, HRL.out]; exact info_sC)) rfl ?_
    exact ⟨rfl, HX.out.bel⟩
end Go.Proofs.YtpbdglocfjbbfaaDoor
