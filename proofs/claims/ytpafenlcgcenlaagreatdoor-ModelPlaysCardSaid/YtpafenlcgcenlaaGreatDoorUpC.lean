/- update.commit, update.confirm. · update.verify. · update.write. · update.boot. · update.does: what a request does, as data. · update.Do. · Metas and answers that are the same, compared. -/
import Derived.Test.YtpafenlcgcenlaaGreatDoorHeldTk
import Derived.Test.YtpafenlcgcenlaaGreatDoorUpB
import Derived.Deep.RegionHeld3
import Derived.Deep.DrawnRows
import Derived.Stop.BytesEq
import Derived.Lib.SmallJoins
namespace Go.Proofs.YtpafenlcgcenlaaGreatDoor
open Go Go.RowKit
set_option linter.unusedVariables false
set_option linter.unusedSimpArgs false
attribute [local go_sem ↓] sldI_seal sldM_seal sstM_seal sstI_seal sldC_seal sldF_seal sstC_seal sbC_seal
section
variable {w0 W W' : World} {l : List (Nat × TypeId × Array Value)} {g : Nat} {t : TypeId} {cs c2 : Array Value}
theorem Bxs.set (h : Bxs w0 W ((g, t, cs) :: l)) {o : Nat} {v : Value} (hB : Blk (W.setCell ⟨g, o, none⟩ v) g t c2) (hg : w0.heap.size ≤ g) (hl : ∀ x ∈ l, x.1 ≠ g) : Bxs w0 (W.setCell ⟨g, o, none⟩ v) ((g, t, c2) :: l) := by
 refine ⟨fun x hx => ?_, h.bel.setCell hg v⟩
 rcases List.mem_cons.1 hx with rfl | hx
 ·
  exact hB
 ·
  exact (h.tl.all x hx).far (p := ⟨g, o, none⟩) (hl x hx) v
theorem Bxs.sets (h : Bxs w0 W ((g, t, cs) :: l)) {o : Nat} {vs : List Value} (hB : Blk (W.setCells g o vs) g t c2) (hg : w0.heap.size ≤ g) (hl : ∀ x ∈ l, x.1 ≠ g) : Bxs w0 (W.setCells g o vs) ((g, t, c2) :: l) := by
 refine ⟨fun x hx => ?_, below_setCells hg _ _ _ h.bel⟩
 rcases List.mem_cons.1 hx with rfl | hx
 ·
  exact hB
 ·
  exact Blk.setCells_far (fun e => hl x hx e.symm) _ _ _ (h.tl.all x hx)
theorem Bxs.swap {a b : Nat × TypeId × Array Value} (h : Bxs w0 W (a :: b :: l)) : Bxs w0 W (b :: a :: l) :=
 ⟨fun x hx => h.all x (by
  rcases List.mem_cons.1 hx with rfl | hx
  ·
   exact List.mem_cons_of_mem _ (List.mem_cons_self ..)
  ·
   rcases List.mem_cons.1 hx with rfl | hx
   ·
    exact List.mem_cons_self ..
   ·
    exact List.mem_cons_of_mem _ (List.mem_cons_of_mem _ hx)), h.bel⟩
end
theorem zeroM_size : Tryz.zeroCells44.size = 107 := by kernel_rfl
/-- A Meta stored whole into a new variable. -/
theorem storeM {W : World} {g : Nat} {old : Array Value} {m : Mt} (h : m.Ok) (B : Blk W g 44 old) (ho : old.size = 107) :
  (sstM (.pointer (some ⟨g, 0, none⟩)) (.agg m.cells.toArray)).run Tryz.prog W = .ok () (W.setRow g m.cells.toArray) :=
 run_sstM m.cells B (by rw [ho, Mt.cells_len h]) (by rw [Mt.cells_len h]; kernel_rfl) (Mt.one _)
theorem ne3 {tb B : Nat} {t1 t2 t3 : TypeId} {c1 c2 c3 : Array Value} (h : B + 3 ≤ tb) : ∀ x ∈ [(B + 2, t1, c1), (B + 1, t2, c2), (B, t3, c3)], x.1 ≠ tb := by
 intro x hx
 simp only [List.mem_cons, List.not_mem_nil, or_false] at hx
 rcases hx with hx | hx | hx <;> (rw [hx]; simp <;> omega)
def Mt.commitT (m : Mt) : Mt := if m.act = 0 then { m.idle with ph := 3, tr := 2, h1 := m.cm } else { m.idle with ph := 3, tr := 2, h0 := m.cm }
theorem Mt.commitT_ok {m : Mt} (h : m.Ok) : m.commitT.Ok := by
 unfold Mt.commitT
 split
 ·
  exact ⟨h.d0, h.d2, rfl, h.act⟩
 ·
  exact ⟨h.d2, h.d1, rfl, h.act⟩
set_option maxRecDepth 100000 in
set_option maxHeartbeats 4000000 in
theorem commit_c (w : World) (m : Mt) (h : m.Ok) (hact : m.act = 0 ∨ m.act = 1) (f : Fc) (hf : f.d.length = 32) :
  Calls Tryz.prog 113 #[.agg m.cells.toArray, .agg f.cells.toArray] w fun e w' => e = .returned (.agg (oneM m.commitT [wh (m.ph != 2) 11, wh f.wn 5]).toArray) ∧ Below w.heap.size w w' := by
 have hX0 := box3 w m.cells.toArray f.cells.toArray _ rfl
 obtain ⟨T, hT⟩ : ∃ T, m.commitT = T := ⟨_, rfl⟩
 have hTo : T.Ok := hT ▸ Mt.commitT_ok h
 rw [hT]
 have HT := Lib.hid hT
 clear hT
 have hidle := fun W => idle_c W m h
 obtain ⟨x, hx⟩ : ∃ x, m.ph = x := ⟨_, rfl⟩
 obtain ⟨wn, hwn⟩ : ∃ wn, f.wn = wn := ⟨_, rfl⟩
 rw [hx, hwn]
 obtain ⟨e1, he1⟩ : ∃ e1, wh (x != 2) 11 = e1 := ⟨_, rfl⟩
 obtain ⟨e2, he2⟩ : ∃ e2, wh wn 5 = e2 := ⟨_, rfl⟩
 rw [he1, he2]
 have hw1 : ∀ W, Calls Tryz.prog 149 #[.bool (x != 2), .int .i64 11] W fun en w' => en = .returned (.int .i64 e1) ∧ W = w' := fun W => he1 ▸ when_c _ _ W
 have hw2 : ∀ W, Calls Tryz.prog 149 #[.bool wn, .int .i64 5] W fun en w' => en = .returned (.int .i64 e2) ∧ W = w' := fun W => he2 ▸ when_c _ _ W
 have hone := fun (W : World) (b c : Nat) (hr : Reads W (some ⟨b, 0, none⟩) 2 [i64v e1, i64v e2]) => one_c W (T) (hTo) b 0 2 c [e1, e2] hr (by omega)
 have hrl := oneM_len hTo [e1, e2]
 have hr1 := oneM_one T [e1, e2]
 obtain ⟨R, hR⟩ : ∃ R, oneM T [e1, e2] = R := ⟨_, rfl⟩
 rw [hR] at hrl hr1 hone ⊢
 have hS3 : ∀ W, Bxs w W [(w.heap.size + 2, 119, Tryz.zeroCells119), (w.heap.size + 1, 78, f.cells.toArray), (w.heap.size, 44, m.cells.toArray)] →
   (sldM (.pointer (some ⟨w.heap.size, 0, none⟩))).run Tryz.prog W = .ok (.agg m.cells.toArray) W ∧ (sldI (.pointer (some ⟨w.heap.size, 71, none⟩))).run Tryz.prog W = .ok (.agg m.cm.cells.toArray) W := fun W hX =>
  ⟨run_sldM (Mt.cells_len h) hX.tl.tl.hd.whole, run_sldI (Img.cells_len h.d2) (by have r := hX.tl.tl.hd.range 71 34 (by rw [Mt.cells_len h]; omega); rw [Mt.c_cm h] at r; exact r)⟩
 have hS4 : ∀ tb W, Bxs w W [(tb, 44, T.cells.toArray), (w.heap.size + 1, 78, f.cells.toArray), (w.heap.size, 44, m.cells.toArray)] →
   (sldM (.pointer (some ⟨tb, 0, none⟩))).run Tryz.prog W = .ok (.agg T.cells.toArray) W ∧ W.cell? ⟨w.heap.size, 70, none⟩ = some (.int .i64 x) ∧ W.cell? ⟨w.heap.size + 1, 34, none⟩ = some (.bool wn) := fun tb W hX =>
  ⟨run_sldM (Mt.cells_len hTo) hX.hd.whole, by rw [hX.tl.tl.hd.cell, List.getElem?_toArray, Mt.c70 h, hx], by rw [hX.tl.hd.cell, List.getElem?_toArray, Fc.c34 hf, hwn]⟩
 have hoth := fun W => other_c W m h (by omega)
 obtain ⟨M, hM⟩ : ∃ M, m.cells.toArray = M := ⟨_, rfl⟩
 obtain ⟨FA, hFA⟩ : ∃ FA, f.cells.toArray = FA := ⟨_, rfl⟩
 obtain ⟨CI, hCI⟩ : ∃ CI, m.cm.cells = CI := ⟨_, rfl⟩
 obtain ⟨A, hA⟩ : ∃ A, T.cells.toArray = A := ⟨_, rfl⟩
 obtain ⟨MI, hMI⟩ : ∃ MI, m.idle.cells.toArray = MI := ⟨_, rfl⟩
 rw [hM, hMI] at hidle
 rw [hM] at hoth
 rw [hA] at hone
 rw [hM, hFA] at hX0 hS3 hS4 ⊢
 rw [hCI] at hS3
 rw [hA] at hS4
 have HONE := Lib.hid hone
 have HID := Lib.hid hidle
 have HW1 := Lib.hid hw1
 have HW2 := Lib.hid hw2
 have HS := Lib.hid hS3
 have HS4 := Lib.hid hS4
 have HRL := Lib.hid hrl
 have HR1 := Lib.hid hr1
 have HMI := Lib.hid hMI
 have HCI := Lib.hid hCI
 have HA := Lib.hid hA
 clear hR hM hFA hA he1 he2 hx hwn hone hidle hw1 hw2 hS3 hS4 hrl hr1 hMI hCI
 rcases hact with ha | ha
 ·
  have hoth2 : ∀ W, Calls Tryz.prog 32 #[.agg M] W fun e w' => e = .returned (.int .i64 1) ∧ Below W.heap.size W w' := fun W => (hoth W).mono fun e w' ⟨h1, h2⟩ => ⟨by rw [h1, ha]; rfl, h2⟩
  have hT2 : ({ m.idle with ph := 3, tr := 2, h1 := m.cm } : Mt) = T := by rw [← HT.out]; unfold Mt.commitT; rw [ha]; rfl
  have HT2 := Lib.hid hT2
  have HO := Lib.hid hoth2
  clear hoth hoth2 HT hT2
  go_enter Tryz.func113, Tryz.ntmps113
  go_upto_region 1 with fail
  generalize ((w.alloc (.cells M 44)).alloc (.cells FA 78)).alloc (.cells Tryz.zeroCells119 119) = W3 at hX0 ⊢
  have hld := (HS.out _ hX0).1
  have HX := Lib.hid hX0
  clear hX0
  go_wp2_with fail
  refine (HID.out _).mono ?_
  rintro e w4 ⟨rfl, hb⟩
  have hX4 := HX.out.later hb
  have htb := hX4.hd.lt
  have hN := hX4.new rfl 44 Tryz.zeroCells44
  have oi := Mt.idle_ok h
  have hst := storeM oi hN.hd zeroM_size
  have hP := hN.put m.idle.cells.toArray (by omega) (ne3 htb)
  rw [HMI.out] at hst
  clear hb hX4 hN hld HX
  obtain ⟨tb, htb2⟩ : ∃ tb, w4.heap.size = tb := ⟨_, rfl⟩
  rw [htb2] at hst hP htb
  go_upto_region 2 with fail
  rw [HMI.out] at hP
  generalize (w4.alloc (.cells Tryz.zeroCells44 44)).setRow tb MI = W5 at hP ⊢
  rw [← HMI.out] at hP
  have hn3 := ne3 (t1 := 119) (t2 := 78) (t3 := 44) (c1 := Tryz.zeroCells119) (c2 := FA) (c3 := M) htb
  have hg3 : w.heap.size ≤ tb := by omega
  have o1 : ({ m.idle with ph := 3 } : Mt).Ok := ⟨oi.d0, oi.d1, oi.d2, oi.act⟩
  have o2 : ({ m.idle with ph := 3, tr := 2 } : Mt).Ok := ⟨oi.d0, oi.d1, oi.d2, oi.act⟩
  obtain ⟨u1, k1⟩ := hP.hd.some oi 70 (by omega)
  have f1 := hP.hd.frozen 70
  have P1 := hP.set (hP.hd.setPhase oi 3) hg3 hn3
  obtain ⟨u2, k2⟩ := P1.hd.some o1 106 (by omega)
  have f2 := P1.hd.frozen 106
  have P2 := P1.set (P1.hd.setTrials o1 2) hg3 hn3
  have HP2 := Lib.hid P2
  have HTB := Lib.hid htb
  clear hP P1 P2 hst htb htb2
  go_upto_region 3 with fail
  have hP2 := HP2.out
  clear k1 k2 f1 f2 HP2
  generalize (W5.setCell ⟨tb, 70, none⟩ (i64v 3)).setCell ⟨tb, 106, none⟩ (i64v 2) = W6 at hP2 ⊢
  have HX := Lib.hid hP2.drew
  have hs0 := HS.out _ HX.out.tl
  clear hP2
  refine wp_region_held_drew (S := (fun W => (sldM (.pointer (some ⟨w.heap.size, 0, none⟩))).run Tryz.prog W = .ok (.agg M) W ∧ (sldI (.pointer (some ⟨w.heap.size, 71, none⟩))).run Tryz.prog W = .ok (.agg CI.toArray) W)) (by kernel_rfl) ?_ (fun hHeld => ?_)
  ·
   exact hs0
  refine tk 0 (h := ?_)
  refine tk 2 (h := ?_)
  refine tk 3 (h := ?_)
  refine tk 4 (h := ?_)
  refine rd 1 (h := fun K hK => ?_)
  go_simp
  refine (HO.out _).mono ?_; rintro e w' ⟨rfl, hb⟩; have HX := Lib.hid (HX.out.later hb); clear hb
  go_wp2_with fail
  refine so hK (by (try dsimp only); (exact HS.out _ HX.out.tl)) (h := fun hHeld => ?_)
  clear hK K
  refine tk 5 (h := ?_)
  have hst := run_sstI HX.out.hd 35 (by rw [List.size_toArray, Mt.cells_len o2]; omega) m.cm h.d2
  have HX := Lib.hid (HX.out.sets (HX.out.hd.putH1 o2 m.cm h.d2) hg3 hn3)
  rw [HCI.out] at hst HX
  refine rd 6 (h := fun K hK => ?_)
  go_simp
  clear hst
  refine so hK (by (try dsimp only); (exact HS.out _ HX.out.tl)) (h := fun hHeld => ?_)
  clear hK K
  refine wpAnyH_done (by kernel_rfl) ?_ _
  try simp only [Act.put, List.getElem_toArray, List.getElem_cons_succ, List.getElem_cons_zero, List.setIfInBounds_toArray, List.set_cons_zero, List.set_cons_succ]
  go_upto_region 4 with fail
  have hX8 := HX.out
  clear hs0 HX
  rw [HT2.out, HA.out] at hX8
  generalize World.setCells _ tb 35 CI = W8 at hX8 ⊢
  have HX := Lib.hid hX8.swap.drew
  have hs0 := HS4.out _ _ HX.out.tl
  clear hX8
  refine wp_region_held_drew (S := (fun W => (sldM (.pointer (some ⟨tb, 0, none⟩))).run Tryz.prog W = .ok (.agg A) W ∧ W.cell? ⟨w.heap.size, 70, none⟩ = some (.int .i64 x) ∧ W.cell? ⟨w.heap.size + 1, 34, none⟩ = some (.bool wn))) (by kernel_rfl) ?_ (fun hHeld => ?_)
  ·
   exact hs0
  refine tk 0 (h := ?_)
  refine tk 1 (h := ?_)
  refine tk 2 (h := ?_)
  refine tk 3 (h := ?_)
  refine tk 5 (h := ?_)
  refine tk 6 (h := ?_)
  refine rd 4 (h := fun K hK => ?_)
  go_simp
  refine (HW1.out _).mono ?_; rintro e w' ⟨rfl, rfl⟩
  go_wp2_with fail
  refine so hK (by (try dsimp only); (exact HS4.out _ _ HX.out.tl)) (h := fun hHeld => ?_)
  clear hK K
  refine rd 7 (h := fun K hK => ?_)
  go_simp
  refine (HW2.out _).mono ?_; rintro e w' ⟨rfl, rfl⟩
  go_wp2_with fail
  refine so hK (by (try dsimp only); (exact HS4.out _ _ HX.out.tl)) (h := fun hHeld => ?_)
  clear hK K
  refine rd 8 (h := fun K hK => ?_)
  go_simp
  have HB2 := HX.out.build [i64v e1, i64v e2] 35
  have HRD := Lib.hid HB2.1
  have HX := Lib.hid HB2.2
  clear HB2
  refine so hK (by (try dsimp only); (exact HS4.out _ _ HX.out.tl)) (h := fun hHeld => ?_)
  clear hK K
  refine rd 9 (h := fun K hK => ?_)
  go_simp
  refine (HONE.out _ _ _ HRD.out).mono ?_; rintro e w' ⟨rfl, hb⟩; have HX := Lib.hid (HX.out.later hb); clear hb HRD; have hst := endC HX.out.hd zeroC_size HRL.out HR1.out
  go_wp2_with fail
  refine so hK (by (try dsimp only); (exact HS4.out _ _ HX.out.tl)) (h := fun hHeld => ?_)
  clear hK K
  refine rd 10 (h := fun K hK => ?_)
  go_simp
  have HX := Lib.hid (HX.out.put R.toArray (by omega) (by have := HTB.out; intro x hx; simp only [List.mem_cons, List.not_mem_nil, or_false] at hx; rcases hx with hx | hx | hx <;> (rw [hx]; simp <;> omega)))
  clear hst
  refine so hK (by (try dsimp only); (exact HS4.out _ _ HX.out.tl)) (h := fun hHeld => ?_)
  clear hK K
  refine wpAnyH_done (by kernel_rfl) ?_ _
  try simp only [Act.put, List.getElem_toArray, List.getElem_cons_succ, List.getElem_cons_zero, List.setIfInBounds_toArray, List.set_cons_zero, List.set_cons_succ]
  go_wp2_with fail
  refine bodyPost_ret (results_cell_row rfl _ _ (w.heap.size + 2) 119 R.toArray (0, 0) _ rfl HX.out.hd Tryz.underlying119 rfl (by rw [List.size_toArray, HRL.out]; exact info_sC)) rfl ?_
  exact ⟨rfl, HX.out.bel⟩
 ·
  have hoth2 : ∀ W, Calls Tryz.prog 32 #[.agg M] W fun e w' => e = .returned (.int .i64 0) ∧ Below W.heap.size W w' := fun W => (hoth W).mono fun e w' ⟨h1, h2⟩ => ⟨by rw [h1, ha]; rfl, h2⟩
  have hT2 : ({ m.idle with ph := 3, tr := 2, h0 := m.cm } : Mt) = T := by rw [← HT.out]; unfold Mt.commitT; rw [ha]; rfl
  have HT2 := Lib.hid hT2
  have HO := Lib.hid hoth2
  clear hoth hoth2 HT hT2
  go_enter Tryz.func113, Tryz.ntmps113
  go_upto_region 1 with fail
  generalize ((w.alloc (.cells M 44)).alloc (.cells FA 78)).alloc (.cells Tryz.zeroCells119 119) = W3 at hX0 ⊢
  have hld := (HS.out _ hX0).1
  have HX := Lib.hid hX0
  clear hX0
  go_wp2_with fail
  refine (HID.out _).mono ?_
  rintro e w4 ⟨rfl, hb⟩
  have hX4 := HX.out.later hb
  have htb := hX4.hd.lt
  have hN := hX4.new rfl 44 Tryz.zeroCells44
  have oi := Mt.idle_ok h
  have hst := storeM oi hN.hd zeroM_size
  have hP := hN.put m.idle.cells.toArray (by omega) (ne3 htb)
  rw [HMI.out] at hst
  clear hb hX4 hN hld HX
  obtain ⟨tb, htb2⟩ : ∃ tb, w4.heap.size = tb := ⟨_, rfl⟩
  rw [htb2] at hst hP htb
  go_upto_region 2 with fail
  rw [HMI.out] at hP
  generalize (w4.alloc (.cells Tryz.zeroCells44 44)).setRow tb MI = W5 at hP ⊢
  rw [← HMI.out] at hP
  have hn3 := ne3 (t1 := 119) (t2 := 78) (t3 := 44) (c1 := Tryz.zeroCells119) (c2 := FA) (c3 := M) htb
  have hg3 : w.heap.size ≤ tb := by omega
  have o1 : ({ m.idle with ph := 3 } : Mt).Ok := ⟨oi.d0, oi.d1, oi.d2, oi.act⟩
  have o2 : ({ m.idle with ph := 3, tr := 2 } : Mt).Ok := ⟨oi.d0, oi.d1, oi.d2, oi.act⟩
  obtain ⟨u1, k1⟩ := hP.hd.some oi 70 (by omega)
  have f1 := hP.hd.frozen 70
  have P1 := hP.set (hP.hd.setPhase oi 3) hg3 hn3
  obtain ⟨u2, k2⟩ := P1.hd.some o1 106 (by omega)
  have f2 := P1.hd.frozen 106
  have P2 := P1.set (P1.hd.setTrials o1 2) hg3 hn3
  have HP2 := Lib.hid P2
  have HTB := Lib.hid htb
  clear hP P1 P2 hst htb htb2
  go_upto_region 3 with fail
  have hP2 := HP2.out
  clear k1 k2 f1 f2 HP2
  generalize (W5.setCell ⟨tb, 70, none⟩ (i64v 3)).setCell ⟨tb, 106, none⟩ (i64v 2) = W6 at hP2 ⊢
  have HX := Lib.hid hP2.drew
  have hs0 := HS.out _ HX.out.tl
  clear hP2
  refine wp_region_held_drew (S := (fun W => (sldM (.pointer (some ⟨w.heap.size, 0, none⟩))).run Tryz.prog W = .ok (.agg M) W ∧ (sldI (.pointer (some ⟨w.heap.size, 71, none⟩))).run Tryz.prog W = .ok (.agg CI.toArray) W)) (by kernel_rfl) ?_ (fun hHeld => ?_)
  ·
   exact hs0
  refine tk 0 (h := ?_)
  refine tk 2 (h := ?_)
  refine tk 3 (h := ?_)
  refine tk 4 (h := ?_)
  refine rd 1 (h := fun K hK => ?_)
  go_simp
  refine (HO.out _).mono ?_; rintro e w' ⟨rfl, hb⟩; have HX := Lib.hid (HX.out.later hb); clear hb
  go_wp2_with fail
  refine so hK (by (try dsimp only); (exact HS.out _ HX.out.tl)) (h := fun hHeld => ?_)
  clear hK K
  refine tk 5 (h := ?_)
  have hst := run_sstI HX.out.hd 1 (by rw [List.size_toArray, Mt.cells_len o2]; omega) m.cm h.d2
  have HX := Lib.hid (HX.out.sets (HX.out.hd.putH0 o2 m.cm h.d2) hg3 hn3)
  rw [HCI.out] at hst HX
  refine rd 6 (h := fun K hK => ?_)
  go_simp
  clear hst
  refine so hK (by (try dsimp only); (exact HS.out _ HX.out.tl)) (h := fun hHeld => ?_)
  clear hK K
  refine wpAnyH_done (by kernel_rfl) ?_ _
  try simp only [Act.put, List.getElem_toArray, List.getElem_cons_succ, List.getElem_cons_zero, List.setIfInBounds_toArray, List.set_cons_zero, List.set_cons_succ]
  go_upto_region 4 with fail
  have hX8 := HX.out
  clear hs0 HX
  rw [HT2.out, HA.out] at hX8
  generalize World.setCells _ tb 1 CI = W8 at hX8 ⊢
  have HX := Lib.hid hX8.swap.drew
  have hs0 := HS4.out _ _ HX.out.tl
  clear hX8
  refine wp_region_held_drew (S := (fun W => (sldM (.pointer (some ⟨tb, 0, none⟩))).run Tryz.prog W = .ok (.agg A) W ∧ W.cell? ⟨w.heap.size, 70, none⟩ = some (.int .i64 x) ∧ W.cell? ⟨w.heap.size + 1, 34, none⟩ = some (.bool wn))) (by kernel_rfl) ?_ (fun hHeld => ?_)
  ·
   exact hs0
  refine tk 0 (h := ?_)
  refine tk 1 (h := ?_)
  refine tk 2 (h := ?_)
  refine tk 3 (h := ?_)
  refine tk 5 (h := ?_)
  refine tk 6 (h := ?_)
  refine rd 4 (h := fun K hK => ?_)
  go_simp
  refine (HW1.out _).mono ?_; rintro e w' ⟨rfl, rfl⟩
  go_wp2_with fail
  refine so hK (by (try dsimp only); (exact HS4.out _ _ HX.out.tl)) (h := fun hHeld => ?_)
  clear hK K
  refine rd 7 (h := fun K hK => ?_)
  go_simp
  refine (HW2.out _).mono ?_; rintro e w' ⟨rfl, rfl⟩
  go_wp2_with fail
  refine so hK (by (try dsimp only); (exact HS4.out _ _ HX.out.tl)) (h := fun hHeld => ?_)
  clear hK K
  refine rd 8 (h := fun K hK => ?_)
  go_simp
  have HB2 := HX.out.build [i64v e1, i64v e2] 35
  have HRD := Lib.hid HB2.1
  have HX := Lib.hid HB2.2
  clear HB2
  refine so hK (by (try dsimp only); (exact HS4.out _ _ HX.out.tl)) (h := fun hHeld => ?_)
  clear hK K
  refine rd 9 (h := fun K hK => ?_)
  go_simp
  refine (HONE.out _ _ _ HRD.out).mono ?_; rintro e w' ⟨rfl, hb⟩; have HX := Lib.hid (HX.out.later hb); clear hb HRD; have hst := endC HX.out.hd zeroC_size HRL.out HR1.out
  go_wp2_with fail
  refine so hK (by (try dsimp only); (exact HS4.out _ _ HX.out.tl)) (h := fun hHeld => ?_)
  clear hK K
  refine rd 10 (h := fun K hK => ?_)
  go_simp
  have HX := Lib.hid (HX.out.put R.toArray (by omega) (by have := HTB.out; intro x hx; simp only [List.mem_cons, List.not_mem_nil, or_false] at hx; rcases hx with hx | hx | hx <;> (rw [hx]; simp <;> omega)))
  clear hst
  refine so hK (by (try dsimp only); (exact HS4.out _ _ HX.out.tl)) (h := fun hHeld => ?_)
  clear hK K
  refine wpAnyH_done (by kernel_rfl) ?_ _
  try simp only [Act.put, List.getElem_toArray, List.getElem_cons_succ, List.getElem_cons_zero, List.setIfInBounds_toArray, List.set_cons_zero, List.set_cons_succ]
  go_wp2_with fail
  refine bodyPost_ret (results_cell_row rfl _ _ (w.heap.size + 2) 119 R.toArray (0, 0) _ rfl HX.out.hd Tryz.underlying119 rfl (by rw [List.size_toArray, HRL.out]; exact info_sC)) rfl ?_
  exact ⟨rfl, HX.out.bel⟩
def Mt.confT (m : Mt) : Mt := { m.idle with mn := m.vconf, act := 1 - m.act }
theorem Mt.confT_ok {m : Mt} (h : m.Ok) (ha : m.act = 0 ∨ m.act = 1) : m.confT.Ok :=
 ⟨h.d0, h.d1, rfl, by show -9223372036854775808 ≤ 1 - m.act; omega, by show 1 - m.act ≤ 9223372036854775807; omega⟩
set_option maxRecDepth 100000 in
set_option maxHeartbeats 4000000 in
theorem confirm_c (w : World) (m : Mt) (h : m.Ok) (hact : m.act = 0 ∨ m.act = 1) (f : Fc) (hf : f.d.length = 32) :
  Calls Tryz.prog 115 #[.agg m.cells.toArray, .agg f.cells.toArray] w fun e w' => e = .returned (.agg (oneM m.confT [wh (m.ph != 3 || m.tr == 2) 11, wh f.wn 5]).toArray) ∧ Below w.heap.size w w' := by
 have hX0 := box3 w m.cells.toArray f.cells.toArray _ rfl
 obtain ⟨T, hT⟩ : ∃ T, m.confT = T := ⟨_, rfl⟩
 have hTo : T.Ok := hT ▸ Mt.confT_ok h hact
 rw [hT]
 have HT := Lib.hid hT
 clear hT
 have hidle := fun W => idle_c W m h
 obtain ⟨x, hx⟩ : ∃ x, m.ph = x := ⟨_, rfl⟩
 obtain ⟨y, hy⟩ : ∃ y, m.tr = y := ⟨_, rfl⟩
 obtain ⟨wn, hwn⟩ : ∃ wn, f.wn = wn := ⟨_, rfl⟩
 rw [hx, hy, hwn]
 obtain ⟨B1, hB1⟩ : ∃ B1, (x != 3 || y == 2) = B1 := ⟨_, rfl⟩
 rw [hB1]
 obtain ⟨e1, he1⟩ : ∃ e1, wh B1 11 = e1 := ⟨_, rfl⟩
 obtain ⟨e2, he2⟩ : ∃ e2, wh wn 5 = e2 := ⟨_, rfl⟩
 rw [he1, he2]
 have hw1 : ∀ W, Calls Tryz.prog 149 #[.bool B1, .int .i64 11] W fun en w' => en = .returned (.int .i64 e1) ∧ W = w' := fun W => he1 ▸ when_c _ _ W
 have hw2 : ∀ W, Calls Tryz.prog 149 #[.bool wn, .int .i64 5] W fun en w' => en = .returned (.int .i64 e2) ∧ W = w' := fun W => he2 ▸ when_c _ _ W
 have hone := fun (W : World) (b c : Nat) (hr : Reads W (some ⟨b, 0, none⟩) 2 [i64v e1, i64v e2]) => one_c W (T) (hTo) b 0 2 c [e1, e2] hr (by omega)
 have hrl := oneM_len hTo [e1, e2]
 have hr1 := oneM_one T [e1, e2]
 obtain ⟨R, hR⟩ : ∃ R, oneM T [e1, e2] = R := ⟨_, rfl⟩
 rw [hR] at hrl hr1 hone ⊢
 have hS3 : ∀ W, Bxs w W [(w.heap.size + 2, 119, Tryz.zeroCells119), (w.heap.size + 1, 78, f.cells.toArray), (w.heap.size, 44, m.cells.toArray)] →
   (sldM (.pointer (some ⟨w.heap.size, 0, none⟩))).run Tryz.prog W = .ok (.agg m.cells.toArray) W := fun W hX =>
  run_sldM (Mt.cells_len h) hX.tl.tl.hd.whole
 have hS4 : ∀ tb W, Bxs w W [(tb, 44, T.cells.toArray), (w.heap.size + 1, 78, f.cells.toArray), (w.heap.size, 44, m.cells.toArray)] →
   (sldM (.pointer (some ⟨tb, 0, none⟩))).run Tryz.prog W = .ok (.agg T.cells.toArray) W ∧ W.cell? ⟨w.heap.size, 70, none⟩ = some (.int .i64 x) ∧ W.cell? ⟨w.heap.size + 1, 34, none⟩ = some (.bool wn) ∧ W.cell? ⟨w.heap.size, 106, none⟩ = some (.int .i64 y) := fun tb W hX =>
  ⟨run_sldM (Mt.cells_len hTo) hX.hd.whole, by rw [hX.tl.tl.hd.cell, List.getElem?_toArray, Mt.c70 h, hx], by rw [hX.tl.hd.cell, List.getElem?_toArray, Fc.c34 hf, hwn], by rw [hX.tl.tl.hd.cell, List.getElem?_toArray, Mt.c106 h, hy]⟩
 have hoth := fun W => other_c W m h (by omega)
 have hvc := fun W => vconf_c W m h hact
 obtain ⟨ov, hov⟩ : ∃ ov, 1 - m.act = ov := ⟨_, rfl⟩
 obtain ⟨vc, hvv⟩ : ∃ vc, m.vconf = vc := ⟨_, rfl⟩
 have hT2 : ({ m.idle with mn := vc, act := ov } : Mt) = T := by rw [← HT.out, ← hov, ← hvv]; rfl
 have hto : ({ m.idle with mn := vc } : Mt).Ok := ⟨h.d0, h.d1, rfl, h.act⟩
 rw [hov] at hoth
 rw [hvv] at hvc
 obtain ⟨M, hM⟩ : ∃ M, m.cells.toArray = M := ⟨_, rfl⟩
 obtain ⟨FA, hFA⟩ : ∃ FA, f.cells.toArray = FA := ⟨_, rfl⟩
 obtain ⟨A, hA⟩ : ∃ A, T.cells.toArray = A := ⟨_, rfl⟩
 obtain ⟨MI, hMI⟩ : ∃ MI, m.idle.cells.toArray = MI := ⟨_, rfl⟩
 rw [hM, hMI] at hidle
 rw [hM] at hoth hvc
 rw [hA] at hone
 rw [hM, hFA] at hX0 hS3 hS4 ⊢
 rw [hA] at hS4
 have HONE := Lib.hid hone
 have HID := Lib.hid hidle
 have HW1 := Lib.hid hw1
 have HW2 := Lib.hid hw2
 have HS := Lib.hid hS3
 have HS4 := Lib.hid hS4
 have HRL := Lib.hid hrl
 have HR1 := Lib.hid hr1
 have HMI := Lib.hid hMI
 have HA := Lib.hid hA
 have HT2 := Lib.hid hT2
 have HO := Lib.hid hoth
 have HVC := Lib.hid hvc
 clear hR hM hFA hA he1 he2 hx hy hwn hone hidle hw1 hw2 hS3 hS4 hrl hr1 hMI hT2 HT hoth hvc hov hvv
 go_enter Tryz.func115, Tryz.ntmps115
 go_upto_region 1 with fail
 generalize ((w.alloc (.cells M 44)).alloc (.cells FA 78)).alloc (.cells Tryz.zeroCells119 119) = W3 at hX0 ⊢
 have hld := HS.out _ hX0
 have HX := Lib.hid hX0
 clear hX0
 go_wp2_with fail
 refine (HID.out _).mono ?_
 rintro e w4 ⟨rfl, hb⟩
 have hX4 := HX.out.later hb
 have htb := hX4.hd.lt
 have hN := hX4.new rfl 44 Tryz.zeroCells44
 have oi := Mt.idle_ok h
 have hst := storeM oi hN.hd zeroM_size
 have hP := hN.put m.idle.cells.toArray (by omega) (ne3 htb)
 rw [HMI.out] at hst
 clear hb hX4 hN hld HX
 obtain ⟨tb, htb2⟩ : ∃ tb, w4.heap.size = tb := ⟨_, rfl⟩
 rw [htb2] at hst hP htb
 go_upto_region 2 with fail
 rw [HMI.out] at hP
 generalize (w4.alloc (.cells Tryz.zeroCells44 44)).setRow tb MI = W5 at hP ⊢
 rw [← HMI.out] at hP
 have hn3 := ne3 (t1 := 119) (t2 := 78) (t3 := 44) (c1 := Tryz.zeroCells119) (c2 := FA) (c3 := M) htb
 have hg3 : w.heap.size ≤ tb := by omega
 have HTB := Lib.hid htb
 have HX := Lib.hid hP.drew
 have hs0 := HS.out _ HX.out.tl
 clear hP hst htb htb2
 refine wp_region_held_drew (S := (fun W => (sldM (.pointer (some ⟨w.heap.size, 0, none⟩))).run Tryz.prog W = .ok (.agg M) W)) (by kernel_rfl) ?_ (fun hHeld => ?_)
 ·
  exact hs0
 refine tk 0 (h := ?_)
 refine tk 2 (h := ?_)
 refine rd 1 (h := fun K hK => ?_)
 go_simp
 refine (HVC.out _).mono ?_; rintro e w' ⟨rfl, hb⟩; have HX := Lib.hid (HX.out.later hb); clear hb
 go_wp2_with fail
 refine so hK (by (try dsimp only); (exact HS.out _ HX.out.tl)) (h := fun hHeld => ?_)
 clear hK K
 refine tk 4 (h := ?_)
 refine rd 3 (h := fun K hK => ?_)
 go_simp
 refine (HO.out _).mono ?_; rintro e w' ⟨rfl, hb⟩; have HX := Lib.hid (HX.out.later hb); clear hb
 go_wp2_with fail
 refine so hK (by (try dsimp only); (exact HS.out _ HX.out.tl)) (h := fun hHeld => ?_)
 clear hK K
 obtain ⟨u1, k1⟩ := HX.out.hd.some oi 69 (by omega)
 have f1 := HX.out.hd.frozen 69
 have HX := Lib.hid (HX.out.set (HX.out.hd.setMin oi vc) hg3 hn3)
 refine rd 5 (h := fun K hK => ?_)
 go_simp
 clear k1 f1
 refine so hK (by (try dsimp only); (exact HS.out _ HX.out.tl)) (h := fun hHeld => ?_)
 clear hK K
 refine tk 6 (h := ?_)
 obtain ⟨u1, k1⟩ := HX.out.hd.some hto 0 (by omega)
 have f1 := HX.out.hd.frozen 0
 have HX := Lib.hid (HX.out.set (HX.out.hd.setAct ov) hg3 hn3)
 refine rd 7 (h := fun K hK => ?_)
 go_simp
 clear k1 f1
 refine so hK (by (try dsimp only); (exact HS.out _ HX.out.tl)) (h := fun hHeld => ?_)
 clear hK K
 refine wpAnyH_done (by kernel_rfl) ?_ _
 try simp only [Act.put, List.getElem_toArray, List.getElem_cons_succ, List.getElem_cons_zero, List.setIfInBounds_toArray, List.set_cons_zero, List.set_cons_succ]
 go_upto_region 3 with fail
 have hX8 := HX.out
 clear hs0 HX
 rw [HT2.out, HA.out] at hX8
 generalize World.setCell _ (⟨tb, 0, none⟩ : Addr) (i64v ov) = W8 at hX8 ⊢
 have HX := Lib.hid hX8.swap.drew
 have hs0 := HS4.out _ _ HX.out.tl
 clear hX8
 by_cases h3 : x = 3
 ·
  subst h3
  obtain rfl : (y == 2) = B1 := by rw [← hB1]; rfl
  clear hB1
  refine wp_region_held_drew (S := (fun W => (sldM (.pointer (some ⟨tb, 0, none⟩))).run Tryz.prog W = .ok (.agg A) W ∧ W.cell? ⟨w.heap.size, 70, none⟩ = some (.int .i64 3) ∧ W.cell? ⟨w.heap.size + 1, 34, none⟩ = some (.bool wn) ∧ W.cell? ⟨w.heap.size, 106, none⟩ = some (.int .i64 y))) (by kernel_rfl) ?_ (fun hHeld => ?_)
  ·
   exact hs0
  refine tk 0 (h := ?_)
  refine tk 1 (h := ?_)
  refine tk 2 (h := ?_)
  refine tk 3 (h := ?_)
  refine tk 4 (h := ?_)
  refine tk 5 (h := ?_)
  refine tk 6 (h := ?_)
  refine tk 7 (h := ?_)
  refine tk 8 (h := ?_)
  refine tk 10 (h := ?_)
  refine tk 11 (h := ?_)
  refine rd 9 (h := fun K hK => ?_)
  go_simp
  refine (HW1.out _).mono ?_; rintro e w' ⟨rfl, rfl⟩
  go_wp2_with fail
  refine so hK (by (try dsimp only); (exact HS4.out _ _ HX.out.tl)) (h := fun hHeld => ?_)
  clear hK K
  refine rd 12 (h := fun K hK => ?_)
  go_simp
  refine (HW2.out _).mono ?_; rintro e w' ⟨rfl, rfl⟩
  go_wp2_with fail
  refine so hK (by (try dsimp only); (exact HS4.out _ _ HX.out.tl)) (h := fun hHeld => ?_)
  clear hK K
  refine rd 13 (h := fun K hK => ?_)
  go_simp
  have HB2 := HX.out.build [i64v e1, i64v e2] 35
  have HRD := Lib.hid HB2.1
  have HX := Lib.hid HB2.2
  clear HB2
  refine so hK (by (try dsimp only); (exact HS4.out _ _ HX.out.tl)) (h := fun hHeld => ?_)
  clear hK K
  refine rd 14 (h := fun K hK => ?_)
  go_simp
  refine (HONE.out _ _ _ HRD.out).mono ?_; rintro e w' ⟨rfl, hb⟩; have HX := Lib.hid (HX.out.later hb); clear hb HRD; have hst := endC HX.out.hd zeroC_size HRL.out HR1.out
  go_wp2_with fail
  refine so hK (by (try dsimp only); (exact HS4.out _ _ HX.out.tl)) (h := fun hHeld => ?_)
  clear hK K
  refine rd 15 (h := fun K hK => ?_)
  go_simp
  have HX := Lib.hid (HX.out.put R.toArray (by omega) (by have := HTB.out; intro x hx; simp only [List.mem_cons, List.not_mem_nil, or_false] at hx; rcases hx with hx | hx | hx <;> (rw [hx]; simp <;> omega)))
  clear hst
  refine so hK (by (try dsimp only); (exact HS4.out _ _ HX.out.tl)) (h := fun hHeld => ?_)
  clear hK K
  refine wpAnyH_done (by kernel_rfl) ?_ _
  try simp only [Act.put, List.getElem_toArray, List.getElem_cons_succ, List.getElem_cons_zero, List.setIfInBounds_toArray, List.set_cons_zero, List.set_cons_succ]
  go_wp2_with fail
  refine bodyPost_ret (results_cell_row rfl _ _ (w.heap.size + 2) 119 R.toArray (0, 0) _ rfl HX.out.hd Tryz.underlying119 rfl (by rw [List.size_toArray, HRL.out]; exact info_sC)) rfl ?_
  exact ⟨rfl, HX.out.bel⟩
 ·
  have h1 : (x != 3) = true := by rw [bne_iff_ne]; exact h3
  obtain rfl : true = B1 := by rw [← hB1, h1]; rfl
  clear hB1
  refine wp_region_held_drew (S := (fun W => (sldM (.pointer (some ⟨tb, 0, none⟩))).run Tryz.prog W = .ok (.agg A) W ∧ W.cell? ⟨w.heap.size, 70, none⟩ = some (.int .i64 x) ∧ W.cell? ⟨w.heap.size + 1, 34, none⟩ = some (.bool wn) ∧ W.cell? ⟨w.heap.size, 106, none⟩ = some (.int .i64 y))) (by kernel_rfl) ?_ (fun hHeld => ?_)
  ·
   exact hs0
  refine tk 0 (h := ?_)
  refine tk 1 (h := ?_)
  refine tk 2 (h := ?_)
  refine tk 3 (h := ?_)
  refine tk 4 (h := ?_)
  refine sk 5 (h := ?_)
  refine sk 6 (h := ?_)
  refine sk 7 (h := ?_)
  refine tk 8 (h := ?_)
  refine tk 10 (h := ?_)
  refine tk 11 (h := ?_)
  refine rd 9 (h := fun K hK => ?_)
  go_simp
  refine (HW1.out _).mono ?_; rintro e w' ⟨rfl, rfl⟩
  go_wp2_with fail
  refine so hK (by (try dsimp only); (exact HS4.out _ _ HX.out.tl)) (h := fun hHeld => ?_)
  clear hK K
  refine rd 12 (h := fun K hK => ?_)
  go_simp
  refine (HW2.out _).mono ?_; rintro e w' ⟨rfl, rfl⟩
  go_wp2_with fail
  refine so hK (by (try dsimp only); (exact HS4.out _ _ HX.out.tl)) (h := fun hHeld => ?_)
  clear hK K
  refine rd 13 (h := fun K hK => ?_)
  go_simp
  have HB2 := HX.out.build [i64v e1, i64v e2] 35
  have HRD := Lib.hid HB2.1
  have HX := Lib.hid HB2.2
  clear HB2
  refine so hK (by (try dsimp only); (exact HS4.out _ _ HX.out.tl)) (h := fun hHeld => ?_)
  clear hK K
  refine rd 14 (h := fun K hK => ?_)
  go_simp
  refine (HONE.out _ _ _ HRD.out).mono ?_; rintro e w' ⟨rfl, hb⟩; have HX := Lib.hid (HX.out.later hb); clear hb HRD; have hst := endC HX.out.hd zeroC_size HRL.out HR1.out
  go_wp2_with fail
  refine so hK (by (try dsimp only); (exact HS4.out _ _ HX.out.tl)) (h := fun hHeld => ?_)
  clear hK K
  refine rd 15 (h := fun K hK => ?_)
  go_simp
  have HX := Lib.hid (HX.out.put R.toArray (by omega) (by have := HTB.out; intro x hx; simp only [List.mem_cons, List.not_mem_nil, or_false] at hx; rcases hx with hx | hx | hx <;> (rw [hx]; simp <;> omega)))
  clear hst
  refine so hK (by (try dsimp only); (exact HS4.out _ _ HX.out.tl)) (h := fun hHeld => ?_)
  clear hK K
  refine wpAnyH_done (by kernel_rfl) ?_ _
  try simp only [Act.put, List.getElem_toArray, List.getElem_cons_succ, List.getElem_cons_zero, List.setIfInBounds_toArray, List.set_cons_zero, List.set_cons_succ]
  go_wp2_with fail
  refine bodyPost_ret (results_cell_row rfl _ _ (w.heap.size + 2) 119 R.toArray (0, 0) _ rfl HX.out.hd Tryz.underlying119 rfl (by rw [List.size_toArray, HRL.out]; exact info_sC)) rfl ?_
  exact ⟨rfl, HX.out.bel⟩
end Go.Proofs.YtpafenlcgcenlaaGreatDoor
namespace Go.Proofs.YtpafenlcgcenlaaGreatDoor
open Go Go.RowKit
set_option linter.unusedVariables false
set_option linter.unusedSimpArgs false
attribute [local go_sem ↓] sldI_seal sldM_seal sstM_seal sstI_seal sldC_seal sldF_seal sstC_seal sbC_seal
noncomputable def sldD (x : Value) : Sem Value := Instr.loadAt 39 x
theorem sldD_seal (x : Value) : Instr.loadAt 39 x = sldD x := rfl
theorem run_sldD {W : World} {g o : Nat} {cs : List Value} (hs : cs.length = 32) (h : W.rangeAt g o cs) : (sldD (.pointer (some ⟨g, o, none⟩))).run Tryz.prog W = .ok (.agg cs.toArray) W :=
 run_loadAt_mid (P := Tryz.prog) W g o 39 cs _ h Tryz.underlying39 rfl (by rw [hs]; exact info_sD)
attribute [local go_sem ↓] sldD_seal
theorem neqD (xs ys : List UInt8) (hx : xs.length = 32) (hy : ys.length = 32) (w : World) :
  (binOp .neq 39 (.agg (xs.map u8v).toArray) (.agg (ys.map u8v).toArray)).run Tryz.prog w = .ok (.bool (!(xs == ys))) w := by
 rw [run_neq_struct]
 have h := run_equalIn_bytes (P := Tryz.prog) w 9998 39 5 32 Tryz.underlying39 Tryz.underlying5 sizeOf_u8m xs ys hx hy
 have h2 : (Op.equalIn 10000 39 (.agg (xs.map u8v).toArray) (.agg (ys.map u8v).toArray)).run Tryz.prog w = .ok (xs == ys) w := h
 rw [h2]
 rfl
theorem Mt.c_cmd {m : Mt} (h : m.Ok) : (m.cells.drop 73).take 32 = m.cm.d.map u8v := by
 have e : m.cells.drop 73 = (m.cells.drop 69).drop 4 := by rw [List.drop_drop]
 rw [e, Mt.drop69 h]
 show (m.cm.d.map u8v ++ _).take 32 = _
 rw [List.take_append_of_le_length (by rw [List.length_map, h.d2]; omega), List.take_of_length_le (by rw [List.length_map, h.d2]; omega)]
set_option maxRecDepth 100000 in
set_option maxHeartbeats 4000000 in
theorem verify_c (w : World) (m : Mt) (h : m.Ok) (hs : 0 ≤ m.cm.s ∧ m.cm.s ≤ 1920) (f : Fc) (hf : f.d.length = 32) :
  Calls Tryz.prog 112 #[.agg m.cells.toArray, .agg f.cells.toArray] w fun e w' => e = .returned (.agg (oneM { m with ph := 2 } [wh (m.ph != 1) 11, wh (decide (m.got < chunksZ m.cm.s)) 12, wh (!(f.d == m.cm.d)) 13, wh f.wn 5]).toArray) ∧ Below w.heap.size w w' := by
 have hX0 := box3 w m.cells.toArray f.cells.toArray _ rfl
 obtain ⟨T, hT⟩ : ∃ T, { m with ph := 2 } = T := ⟨_, rfl⟩
 have hTo : T.Ok := hT ▸ ⟨h.d0, h.d1, h.d2, h.act⟩
 rw [hT]
 have HT := Lib.hid hT
 clear hT
 obtain ⟨x, hx⟩ : ∃ x, m.ph = x := ⟨_, rfl⟩
 obtain ⟨g, hg⟩ : ∃ g, m.got = g := ⟨_, rfl⟩
 obtain ⟨s, hss⟩ : ∃ s, m.cm.s = s := ⟨_, rfl⟩
 obtain ⟨wn, hwn⟩ : ∃ wn, f.wn = wn := ⟨_, rfl⟩
 obtain ⟨df, hdf⟩ : ∃ df, (!(f.d == m.cm.d)) = df := ⟨_, rfl⟩
 have hne : ∀ W, (binOp .neq 39 (.agg (f.d.map u8v).toArray) (.agg (m.cm.d.map u8v).toArray)).run Tryz.prog W = .ok (.bool df) W := fun W => hdf ▸ neqD f.d m.cm.d hf h.d2 W
 rw [hx, hg, hss, hwn, hdf]
 rw [hss] at hs
 obtain ⟨K, hK⟩ : ∃ K, chunksZ s = K := ⟨_, rfl⟩
 have hch : ∀ W, Calls Tryz.prog 151 #[.int .i64 s] W fun e w' => e = .returned (.int .i64 K) ∧ W = w' := fun W => hK ▸ uchunks_c s (by omega) W
 rw [hK]
 obtain ⟨e1, he1⟩ : ∃ e1, wh (x != 1) 11 = e1 := ⟨_, rfl⟩
 obtain ⟨e2, he2⟩ : ∃ e2, wh (decide (g < K)) 12 = e2 := ⟨_, rfl⟩
 obtain ⟨e3, he3⟩ : ∃ e3, wh df 13 = e3 := ⟨_, rfl⟩
 obtain ⟨e4, he4⟩ : ∃ e4, wh wn 5 = e4 := ⟨_, rfl⟩
 rw [he1, he2, he3, he4]
 have hw1 : ∀ W, Calls Tryz.prog 149 #[.bool (x != 1), .int .i64 11] W fun en w' => en = .returned (.int .i64 e1) ∧ W = w' := fun W => he1 ▸ when_c _ _ W
 have hw2 : ∀ W, Calls Tryz.prog 149 #[.bool (decide (g < K)), .int .i64 12] W fun en w' => en = .returned (.int .i64 e2) ∧ W = w' := fun W => he2 ▸ when_c _ _ W
 have hw3 : ∀ W, Calls Tryz.prog 149 #[.bool df, .int .i64 13] W fun en w' => en = .returned (.int .i64 e3) ∧ W = w' := fun W => he3 ▸ when_c _ _ W
 have hw4 : ∀ W, Calls Tryz.prog 149 #[.bool wn, .int .i64 5] W fun en w' => en = .returned (.int .i64 e4) ∧ W = w' := fun W => he4 ▸ when_c _ _ W
 have hone := fun (W : World) (b c : Nat) (hr : Reads W (some ⟨b, 0, none⟩) 4 [i64v e1, i64v e2, i64v e3, i64v e4]) => one_c W (T) (hTo) b 0 4 c [e1, e2, e3, e4] hr (by omega)
 have hrl := oneM_len hTo [e1, e2, e3, e4]
 have hr1 := oneM_one T [e1, e2, e3, e4]
 obtain ⟨R, hR⟩ : ∃ R, oneM T [e1, e2, e3, e4] = R := ⟨_, rfl⟩
 rw [hR] at hrl hr1 hone ⊢
 have hM0 := run_sldM (Mt.cells_len h) hX0.tl.tl.hd.whole
 have hS4 : ∀ tb W, Bxs w W [(tb, 44, T.cells.toArray), (w.heap.size + 1, 78, f.cells.toArray), (w.heap.size, 44, m.cells.toArray)] →
   (sldM (.pointer (some ⟨tb, 0, none⟩))).run Tryz.prog W = .ok (.agg T.cells.toArray) W ∧ W.cell? ⟨w.heap.size, 70, none⟩ = some (.int .i64 x) ∧ W.cell? ⟨w.heap.size + 1, 34, none⟩ = some (.bool wn) ∧ W.cell? ⟨w.heap.size, 105, none⟩ = some (.int .i64 g) ∧ W.cell? ⟨w.heap.size, 72, none⟩ = some (.int .i64 s) ∧
   (sldD (.pointer (some ⟨w.heap.size + 1, 2, none⟩))).run Tryz.prog W = .ok (.agg (f.d.map u8v).toArray) W ∧ (sldD (.pointer (some ⟨w.heap.size, 73, none⟩))).run Tryz.prog W = .ok (.agg (m.cm.d.map u8v).toArray) W := fun tb W hX =>
  ⟨run_sldM (Mt.cells_len hTo) hX.hd.whole, by rw [hX.tl.tl.hd.cell, List.getElem?_toArray, Mt.c70 h, hx], by rw [hX.tl.hd.cell, List.getElem?_toArray, Fc.c34 hf, hwn], by rw [hX.tl.tl.hd.cell, List.getElem?_toArray, Mt.c105 h, hg], by rw [hX.tl.tl.hd.cell, List.getElem?_toArray, Mt.c72 h, hss],
   run_sldD (by rw [List.length_map, hf]) (by have r := hX.tl.hd.range 2 32 (by rw [Fc.cells_len hf]; omega); rw [Fc.c_d hf] at r; exact r),
   run_sldD (by rw [List.length_map, h.d2]) (by have r := hX.tl.tl.hd.range 73 32 (by rw [Mt.cells_len h]; omega); rw [Mt.c_cmd h] at r; exact r)⟩
 obtain ⟨M, hM⟩ : ∃ M, m.cells.toArray = M := ⟨_, rfl⟩
 obtain ⟨FA, hFA⟩ : ∃ FA, f.cells.toArray = FA := ⟨_, rfl⟩
 obtain ⟨A, hA⟩ : ∃ A, T.cells.toArray = A := ⟨_, rfl⟩
 generalize (f.d.map u8v).toArray = D1 at hne hS4
 generalize (m.cm.d.map u8v).toArray = D2 at hne hS4
 rw [hA] at hone
 rw [hM, hFA] at hX0 hS4 ⊢
 rw [hA] at hS4
 rw [hM, hFA] at hM0
 have HONE := Lib.hid hone
 have HW1 := Lib.hid hw1
 have HW2 := Lib.hid hw2
 have HW3 := Lib.hid hw3
 have HW4 := Lib.hid hw4
 have HCH := Lib.hid hch
 have HS4 := Lib.hid hS4
 have HRL := Lib.hid hrl
 have HR1 := Lib.hid hr1
 have HM := Lib.hid hM
 have HA := Lib.hid hA
 clear hR hM hFA hA he1 he2 he3 he4 hx hg hss hwn hdf hK hone hw1 hw2 hw3 hw4 hch hS4 hrl hr1
 go_enter Tryz.func112, Tryz.ntmps112
 go_upto_region 1 with fail
 generalize ((w.alloc (.cells M 44)).alloc (.cells FA 78)).alloc (.cells Tryz.zeroCells119 119) = W3 at hX0 hM0 ⊢
 have htb := hX0.hd.lt
 have hN := hX0.new rfl 44 Tryz.zeroCells44
 have hst := storeM h hN.hd zeroM_size
 have hP := hN.put m.cells.toArray (by omega) (ne3 htb)
 rw [HM.out] at hst
 clear hX0 hN
 obtain ⟨tb, htb2⟩ : ∃ tb, W3.heap.size = tb := ⟨_, rfl⟩
 rw [htb2] at hst hP htb
 have HP := Lib.hid hP
 clear hP
 go_upto_region 2 with fail
 have hP := HP.out
 clear HP
 rw [HM.out] at hP
 generalize (W3.alloc (.cells Tryz.zeroCells44 44)).setRow tb M = W5 at hP ⊢
 have hn3 := ne3 (t1 := 119) (t2 := 78) (t3 := 44) (c1 := Tryz.zeroCells119) (c2 := FA) (c3 := M) htb
 have hg3 : w.heap.size ≤ tb := by omega
 have hB5 : Blk W5 tb 44 m.cells.toArray := HM.out ▸ hP.hd
 obtain ⟨u1, k1⟩ := hB5.some h 70 (by omega)
 have f1 := hB5.frozen 70
 have P1 := hP.set (hB5.setPhase h 2) hg3 hn3
 have HP1 := Lib.hid P1
 have HTB := Lib.hid htb
 clear hP P1 hst htb htb2 hB5 hM0
 go_upto_region 3 with fail
 have hP1 := HP1.out
 clear k1 f1 HP1
 rw [HT.out, HA.out] at hP1
 generalize W5.setCell ⟨tb, 70, none⟩ (i64v 2) = W8 at hP1 ⊢
 have HX := Lib.hid hP1.swap.drew
 have hs0 := HS4.out _ _ HX.out.tl
 clear hP1
 refine wp_region_held_drew (S := (fun W => (sldM (.pointer (some ⟨tb, 0, none⟩))).run Tryz.prog W = .ok (.agg A) W ∧ W.cell? ⟨w.heap.size, 70, none⟩ = some (.int .i64 x) ∧ W.cell? ⟨w.heap.size + 1, 34, none⟩ = some (.bool wn) ∧ W.cell? ⟨w.heap.size, 105, none⟩ = some (.int .i64 g) ∧ W.cell? ⟨w.heap.size, 72, none⟩ = some (.int .i64 s) ∧ (sldD (.pointer (some ⟨w.heap.size + 1, 2, none⟩))).run Tryz.prog W = .ok (.agg D1) W ∧ (sldD (.pointer (some ⟨w.heap.size, 73, none⟩))).run Tryz.prog W = .ok (.agg D2) W)) (by kernel_rfl) ?_ (fun hHeld => ?_)
 ·
  exact hs0
 refine tk 0 (h := ?_)
 refine tk 1 (h := ?_)
 refine tk 2 (h := ?_)
 refine tk 3 (h := ?_)
 refine tk 5 (h := ?_)
 refine tk 6 (h := ?_)
 refine tk 7 (h := ?_)
 refine tk 8 (h := ?_)
 refine tk 9 (h := ?_)
 refine tk 13 (h := ?_)
 refine tk 14 (h := ?_)
 refine tk 15 (h := ?_)
 refine tk 16 (h := ?_)
 refine tk 17 (h := ?_)
 refine tk 18 (h := ?_)
 refine tk 20 (h := ?_)
 refine tk 21 (h := ?_)
 refine rd 4 (h := fun K hK => ?_)
 go_simp
 refine (HW1.out _).mono ?_; rintro e w' ⟨rfl, rfl⟩
 go_wp2_with fail
 refine so hK (by (try dsimp only); (exact HS4.out _ _ HX.out.tl)) (h := fun hHeld => ?_)
 clear hK K
 refine rd 10 (h := fun K hK => ?_)
 go_simp
 refine (HCH.out _).mono ?_; rintro e w' ⟨rfl, rfl⟩
 go_wp2_with fail
 refine so hK (by (try dsimp only); (exact HS4.out _ _ HX.out.tl)) (h := fun hHeld => ?_)
 clear hK K
 refine tk 11 (h := ?_)
 refine rd 12 (h := fun K hK => ?_)
 go_simp
 refine (HW2.out _).mono ?_; rintro e w' ⟨rfl, rfl⟩
 go_wp2_with fail
 refine so hK (by (try dsimp only); (exact HS4.out _ _ HX.out.tl)) (h := fun hHeld => ?_)
 clear hK K
 refine rd 19 (h := fun K hK => ?_)
 go_simp
 refine (HW3.out _).mono ?_; rintro e w' ⟨rfl, rfl⟩
 go_wp2_with fail
 refine so hK (by (try dsimp only); (exact HS4.out _ _ HX.out.tl)) (h := fun hHeld => ?_)
 clear hK K
 refine rd 22 (h := fun K hK => ?_)
 go_simp
 refine (HW4.out _).mono ?_; rintro e w' ⟨rfl, rfl⟩
 go_wp2_with fail
 refine so hK (by (try dsimp only); (exact HS4.out _ _ HX.out.tl)) (h := fun hHeld => ?_)
 clear hK K
 refine rd 23 (h := fun K hK => ?_)
 go_simp
 have HB2 := HX.out.build [i64v e1, i64v e2, i64v e3, i64v e4] 35
 have HRD := Lib.hid HB2.1
 have HX := Lib.hid HB2.2
 clear HB2
 refine so hK (by (try dsimp only); (exact HS4.out _ _ HX.out.tl)) (h := fun hHeld => ?_)
 clear hK K
 refine rd 24 (h := fun K hK => ?_)
 go_simp
 refine (HONE.out _ _ _ HRD.out).mono ?_; rintro e w' ⟨rfl, hb⟩; have HX := Lib.hid (HX.out.later hb); clear hb HRD; have hst := endC HX.out.hd zeroC_size HRL.out HR1.out
 go_wp2_with fail
 refine so hK (by (try dsimp only); (exact HS4.out _ _ HX.out.tl)) (h := fun hHeld => ?_)
 clear hK K
 refine rd 25 (h := fun K hK => ?_)
 go_simp
 have HX := Lib.hid (HX.out.put R.toArray (by omega) (by have := HTB.out; intro x hx; simp only [List.mem_cons, List.not_mem_nil, or_false] at hx; rcases hx with hx | hx | hx <;> (rw [hx]; simp <;> omega)))
 clear hst
 refine so hK (by (try dsimp only); (exact HS4.out _ _ HX.out.tl)) (h := fun hHeld => ?_)
 clear hK K
 refine wpAnyH_done (by kernel_rfl) ?_ _
 try simp only [Act.put, List.getElem_toArray, List.getElem_cons_succ, List.getElem_cons_zero, List.setIfInBounds_toArray, List.set_cons_zero, List.set_cons_succ]
 go_wp2_with fail
 refine bodyPost_ret (results_cell_row rfl _ _ (w.heap.size + 2) 119 R.toArray (0, 0) _ rfl HX.out.hd Tryz.underlying119 rfl (by rw [List.size_toArray, HRL.out]; exact info_sC)) rfl ?_
 exact ⟨rfl, HX.out.bel⟩
end Go.Proofs.YtpafenlcgcenlaaGreatDoor
namespace Go.Proofs.YtpafenlcgcenlaaGreatDoor
open Go Go.RowKit
set_option linter.unusedVariables false
set_option linter.unusedSimpArgs false
attribute [local go_sem ↓] sldI_seal sldM_seal sstM_seal sstI_seal sldC_seal sldF_seal sstC_seal sbC_seal
theorem box4 (w : World) (M Q FA : Array Value) (B : Nat) (hB : w.heap.size = B) :
  Bxs w ((((w.alloc (.cells M 44)).alloc (.cells Q 34)).alloc (.cells FA 78)).alloc (.cells Tryz.zeroCells119 119)) [(B + 3, 119, Tryz.zeroCells119), (B + 2, 78, FA), (B + 1, 34, Q), (B, 44, M)] :=
 ((((Bxs.nil w).new hB _ _).new (by simp [hB]) _ _).new (by simp [hB]) _ _).new (by simp [hB]) _ _
theorem ne4 {tb B : Nat} {t1 t2 t3 t4 : TypeId} {c1 c2 c3 c4 : Array Value} (h : B + 4 ≤ tb) : ∀ x ∈ [(B + 3, t1, c1), (B + 2, t2, c2), (B + 1, t3, c3), (B, t4, c4)], x.1 ≠ tb := by
 intro x hx
 simp only [List.mem_cons, List.not_mem_nil, or_false] at hx
 rcases hx with hx | hx | hx | hx <;> (rw [hx]; simp <;> omega)
set_option maxRecDepth 100000 in
set_option maxHeartbeats 4000000 in
theorem write_c (w : World) (m : Mt) (h : m.Ok) (hs : 0 ≤ m.cm.s ∧ m.cm.s ≤ 1920) (hgt : 0 ≤ m.got ∧ m.got ≤ 6) (qk qn : Int) (SB : Option Addr) (sl sc : Nat) (hsl : sl ≤ maxLen) (f : Fc) (hf : f.d.length = 32) :
  Calls Tryz.prog 111 #[.agg m.cells.toArray, .agg #[.int .i64 qk, .int .i64 qn, .slice SB sl sc], .agg f.cells.toArray] w fun e w' => e = .returned (.agg (oneM { m with got := m.got + 1 } [wh (m.ph != 1) 11, wh (qn != m.got || decide (chunksZ m.cm.s ≤ m.got)) 12, wh ((sl : Int) != lenZ m.cm.s m.got) 6, wh f.wn 5]).toArray) ∧ Below w.heap.size w w' := by
 have hX0 := box4 w m.cells.toArray #[.int .i64 qk, .int .i64 qn, .slice SB sl sc] f.cells.toArray _ rfl
 obtain ⟨T, hT⟩ : ∃ T, { m with got := m.got + 1 } = T := ⟨_, rfl⟩
 have hTo : T.Ok := hT ▸ ⟨h.d0, h.d1, h.d2, h.act⟩
 rw [hT]
 obtain ⟨x, hx⟩ : ∃ x, m.ph = x := ⟨_, rfl⟩
 obtain ⟨g, hg⟩ : ∃ g, m.got = g := ⟨_, rfl⟩
 obtain ⟨s, hss⟩ : ∃ s, m.cm.s = s := ⟨_, rfl⟩
 obtain ⟨wn, hwn⟩ : ∃ wn, f.wn = wn := ⟨_, rfl⟩
 rw [hx, hg, hss, hwn]
 rw [hss] at hs
 rw [hg] at hT hgt
 have HT := Lib.hid hT
 clear hT
 have hwr : IntKind.i64.wrap (g + 1) = g + 1 := IntWalk.i64_in _ (by omega)
 obtain ⟨K, hK⟩ : ∃ K, chunksZ s = K := ⟨_, rfl⟩
 obtain ⟨L, hL⟩ : ∃ L, lenZ s g = L := ⟨_, rfl⟩
 have hch : ∀ W, Calls Tryz.prog 151 #[.int .i64 s] W fun e w' => e = .returned (.int .i64 K) ∧ W = w' := fun W => hK ▸ uchunks_c s (by omega) W
 have hln : ∀ W, Calls Tryz.prog 152 #[.int .i64 s, .int .i64 g] W fun e w' => e = .returned (.int .i64 L) ∧ W = w' := fun W => hL ▸ ulen_c s g (by omega) W
 rw [hK, hL]
 obtain ⟨B2, hB2⟩ : ∃ B2, (qn != g || decide (K ≤ g)) = B2 := ⟨_, rfl⟩
 rw [hB2]
 obtain ⟨e1, he1⟩ : ∃ e1, wh (x != 1) 11 = e1 := ⟨_, rfl⟩
 obtain ⟨e2, he2⟩ : ∃ e2, wh B2 12 = e2 := ⟨_, rfl⟩
 obtain ⟨e3, he3⟩ : ∃ e3, wh ((sl : Int) != L) 6 = e3 := ⟨_, rfl⟩
 obtain ⟨e4, he4⟩ : ∃ e4, wh wn 5 = e4 := ⟨_, rfl⟩
 rw [he1, he2, he3, he4]
 have hw1 : ∀ W, Calls Tryz.prog 149 #[.bool (x != 1), .int .i64 11] W fun en w' => en = .returned (.int .i64 e1) ∧ W = w' := fun W => he1 ▸ when_c _ _ W
 have hw2 : ∀ W, Calls Tryz.prog 149 #[.bool B2, .int .i64 12] W fun en w' => en = .returned (.int .i64 e2) ∧ W = w' := fun W => he2 ▸ when_c _ _ W
 have hw3 : ∀ W, Calls Tryz.prog 149 #[.bool ((sl : Int) != L), .int .i64 6] W fun en w' => en = .returned (.int .i64 e3) ∧ W = w' := fun W => he3 ▸ when_c _ _ W
 have hw4 : ∀ W, Calls Tryz.prog 149 #[.bool wn, .int .i64 5] W fun en w' => en = .returned (.int .i64 e4) ∧ W = w' := fun W => he4 ▸ when_c _ _ W
 have hone := fun (W : World) (b c : Nat) (hr : Reads W (some ⟨b, 0, none⟩) 4 [i64v e1, i64v e2, i64v e3, i64v e4]) => one_c W (T) (hTo) b 0 4 c [e1, e2, e3, e4] hr (by omega)
 have hrl := oneM_len hTo [e1, e2, e3, e4]
 have hr1 := oneM_one T [e1, e2, e3, e4]
 obtain ⟨R, hR⟩ : ∃ R, oneM T [e1, e2, e3, e4] = R := ⟨_, rfl⟩
 rw [hR] at hrl hr1 hone ⊢
 have hM0 := run_sldM (Mt.cells_len h) hX0.tl.tl.tl.hd.whole
 have hS4 : ∀ tb W, Bxs w W [(tb, 44, T.cells.toArray), (w.heap.size + 2, 78, f.cells.toArray), (w.heap.size + 1, 34, #[.int .i64 qk, .int .i64 qn, .slice SB sl sc]), (w.heap.size, 44, m.cells.toArray)] →
   (sldM (.pointer (some ⟨tb, 0, none⟩))).run Tryz.prog W = .ok (.agg T.cells.toArray) W ∧ W.cell? ⟨w.heap.size, 70, none⟩ = some (.int .i64 x) ∧ W.cell? ⟨w.heap.size + 2, 34, none⟩ = some (.bool wn) ∧ W.cell? ⟨w.heap.size, 105, none⟩ = some (.int .i64 g) ∧ W.cell? ⟨w.heap.size, 72, none⟩ = some (.int .i64 s) ∧
   W.cell? ⟨w.heap.size + 1, 1, none⟩ = some (.int .i64 qn) ∧ W.cell? ⟨w.heap.size + 1, 2, none⟩ = some (.slice SB sl sc) := fun tb W hX =>
  ⟨run_sldM (Mt.cells_len hTo) hX.hd.whole, by rw [hX.tl.tl.tl.hd.cell, List.getElem?_toArray, Mt.c70 h, hx], by rw [hX.tl.hd.cell, List.getElem?_toArray, Fc.c34 hf, hwn], by rw [hX.tl.tl.tl.hd.cell, List.getElem?_toArray, Mt.c105 h, hg], by rw [hX.tl.tl.tl.hd.cell, List.getElem?_toArray, Mt.c72 h, hss],
   hX.tl.tl.hd.cell 1, hX.tl.tl.hd.cell 2⟩
 obtain ⟨M, hM⟩ : ∃ M, m.cells.toArray = M := ⟨_, rfl⟩
 obtain ⟨FA, hFA⟩ : ∃ FA, f.cells.toArray = FA := ⟨_, rfl⟩
 obtain ⟨A, hA⟩ : ∃ A, T.cells.toArray = A := ⟨_, rfl⟩
 rw [hA] at hone
 rw [hM, hFA] at hX0 hS4 ⊢
 rw [hA] at hS4
 rw [hM, hFA] at hM0
 have hgc : ∀ W, Bxs w W [(w.heap.size, 44, M)] → W.cell? ⟨w.heap.size, 105, none⟩ = some (.int .i64 g) := fun W hX => by rw [hX.hd.cell, ← hM, List.getElem?_toArray, Mt.c105 h, hg]
 have HONE := Lib.hid hone
 have HW1 := Lib.hid hw1
 have HW2 := Lib.hid hw2
 have HW3 := Lib.hid hw3
 have HW4 := Lib.hid hw4
 have HCH := Lib.hid hch
 have HLN := Lib.hid hln
 have HS4 := Lib.hid hS4
 have HRL := Lib.hid hrl
 have HR1 := Lib.hid hr1
 have HM := Lib.hid hM
 have HA := Lib.hid hA
 have HB2 := Lib.hid hB2
 have HG := Lib.hid hg
 clear hR hM hFA hA he1 he2 he3 he4 hx hg hss hwn hK hL hone hw1 hw2 hw3 hw4 hch hln hS4 hrl hr1 hB2 hgc
 go_enter Tryz.func111, Tryz.ntmps111
 go_upto_region 1 with fail
 generalize (((w.alloc (.cells M 44)).alloc (.cells #[.int .i64 qk, .int .i64 qn, .slice SB sl sc] 34)).alloc (.cells FA 78)).alloc (.cells Tryz.zeroCells119 119) = W3 at hX0 hM0 ⊢
 have htb := hX0.hd.lt
 have hN := hX0.new rfl 44 Tryz.zeroCells44
 have hst := storeM h hN.hd zeroM_size
 have hP := hN.put m.cells.toArray (by omega) (ne4 htb)
 rw [HM.out] at hst
 clear hX0 hN
 obtain ⟨tb, htb2⟩ : ∃ tb, W3.heap.size = tb := ⟨_, rfl⟩
 rw [htb2] at hst hP htb
 have HP := Lib.hid hP
 clear hP
 go_upto_region 2 with fail
 have hP := HP.out
 clear HP
 rw [HM.out] at hP
 generalize (W3.alloc (.cells Tryz.zeroCells44 44)).setRow tb M = W5 at hP ⊢
 have hn3 := ne4 (t1 := 119) (t2 := 78) (t3 := 34) (t4 := 44) (c1 := Tryz.zeroCells119) (c2 := FA) (c3 := #[.int .i64 qk, .int .i64 qn, .slice SB sl sc]) (c4 := M) htb
 have hg3 : w.heap.size ≤ tb := by omega
 have hB5 : Blk W5 tb 44 m.cells.toArray := HM.out ▸ hP.hd
 have k0 : W5.cell? ⟨tb, 105, none⟩ = some (.int .i64 g) := by rw [hB5.cell, List.getElem?_toArray, Mt.c105 h, HG.out]
 have f1 := hB5.frozen 105
 have P1 := hP.set (hB5.setGot h (g + 1)) hg3 hn3
 have HP1 := Lib.hid P1
 have HTB := Lib.hid htb
 clear hP P1 hst htb htb2 hB5 hM0
 go_upto_region 3 with fail
 have hP1 := HP1.out
 clear k0 f1 HP1
 rw [HT.out, HA.out] at hP1
 generalize W5.setCell ⟨tb, 105, none⟩ (i64v (g + 1)) = W8 at hP1 ⊢
 have HX := Lib.hid hP1.swap.drew
 have hs0 := HS4.out _ _ HX.out.tl
 clear hP1
 by_cases h3 : qn = g
 ·
  have h1 : (qn != g) = false := by rw [h3]; simp
  obtain rfl : decide (K ≤ g) = B2 := by rw [← HB2.out, h1]; rfl
  clear h3 HB2
  refine wp_region_held_drew (S := (fun W => (sldM (.pointer (some ⟨tb, 0, none⟩))).run Tryz.prog W = .ok (.agg A) W ∧ W.cell? ⟨w.heap.size, 70, none⟩ = some (.int .i64 x) ∧ W.cell? ⟨w.heap.size + 2, 34, none⟩ = some (.bool wn) ∧ W.cell? ⟨w.heap.size, 105, none⟩ = some (.int .i64 g) ∧ W.cell? ⟨w.heap.size, 72, none⟩ = some (.int .i64 s) ∧ W.cell? ⟨w.heap.size + 1, 1, none⟩ = some (.int .i64 qn) ∧ W.cell? ⟨w.heap.size + 1, 2, none⟩ = some (.slice SB sl sc))) (by kernel_rfl) ?_ (fun hHeld => ?_)
  ·
   exact hs0
  refine tk 0 (h := ?_)
  refine tk 1 (h := ?_)
  refine tk 2 (h := ?_)
  refine tk 3 (h := ?_)
  refine tk 5 (h := ?_)
  refine tk 6 (h := ?_)
  refine tk 7 (h := ?_)
  refine tk 8 (h := ?_)
  refine tk 9 (h := ?_)
  refine tk 20 (h := ?_)
  refine tk 21 (h := ?_)
  refine tk 22 (h := ?_)
  refine tk 23 (h := ?_)
  refine tk 24 (h := ?_)
  refine tk 25 (h := ?_)
  refine tk 26 (h := ?_)
  refine tk 27 (h := ?_)
  refine tk 31 (h := ?_)
  refine tk 32 (h := ?_)
  refine rd 4 (h := fun K hK => ?_)
  go_simp
  refine (HW1.out _).mono ?_; rintro e w' ⟨rfl, rfl⟩
  go_wp2_with fail
  refine so hK (by (try dsimp only); (exact HS4.out _ _ HX.out.tl)) (h := fun hHeld => ?_)
  clear hK K
  refine tk 10 (h := ?_)
  refine tk 11 (h := ?_)
  refine tk 12 (h := ?_)
  refine tk 13 (h := ?_)
  refine tk 14 (h := ?_)
  refine tk 15 (h := ?_)
  refine rd 16 (h := fun K hK => ?_)
  go_simp
  refine (HCH.out _).mono ?_; rintro e w' ⟨rfl, rfl⟩
  go_wp2_with fail
  refine so hK (by (try dsimp only); (exact HS4.out _ _ HX.out.tl)) (h := fun hHeld => ?_)
  clear hK K
  refine tk 17 (h := ?_)
  refine tk 18 (h := ?_)
  refine rd 19 (h := fun K hK => ?_)
  go_simp
  refine (HW2.out _).mono ?_; rintro e w' ⟨rfl, rfl⟩
  go_wp2_with fail
  refine so hK (by (try dsimp only); (exact HS4.out _ _ HX.out.tl)) (h := fun hHeld => ?_)
  clear hK K
  refine rd 28 (h := fun K hK => ?_)
  go_simp
  refine (HLN.out _).mono ?_; rintro e w' ⟨rfl, rfl⟩
  go_wp2_with fail
  refine so hK (by (try dsimp only); (exact HS4.out _ _ HX.out.tl)) (h := fun hHeld => ?_)
  clear hK K
  refine tk 29 (h := ?_)
  refine rd 30 (h := fun K hK => ?_)
  go_simp
  refine (HW3.out _).mono ?_; rintro e w' ⟨rfl, rfl⟩
  go_wp2_with fail
  refine so hK (by (try dsimp only); (exact HS4.out _ _ HX.out.tl)) (h := fun hHeld => ?_)
  clear hK K
  refine rd 33 (h := fun K hK => ?_)
  go_simp
  refine (HW4.out _).mono ?_; rintro e w' ⟨rfl, rfl⟩
  go_wp2_with fail
  refine so hK (by (try dsimp only); (exact HS4.out _ _ HX.out.tl)) (h := fun hHeld => ?_)
  clear hK K
  refine rd 34 (h := fun K hK => ?_)
  go_simp
  have HB2 := HX.out.build [i64v e1, i64v e2, i64v e3, i64v e4] 35
  have HRD := Lib.hid HB2.1
  have HX := Lib.hid HB2.2
  clear HB2
  refine so hK (by (try dsimp only); (exact HS4.out _ _ HX.out.tl)) (h := fun hHeld => ?_)
  clear hK K
  refine rd 35 (h := fun K hK => ?_)
  go_simp
  refine (HONE.out _ _ _ HRD.out).mono ?_; rintro e w' ⟨rfl, hb⟩; have HX := Lib.hid (HX.out.later hb); clear hb HRD; have hst := endC HX.out.hd zeroC_size HRL.out HR1.out
  go_wp2_with fail
  refine so hK (by (try dsimp only); (exact HS4.out _ _ HX.out.tl)) (h := fun hHeld => ?_)
  clear hK K
  refine rd 36 (h := fun K hK => ?_)
  go_simp
  have HX := Lib.hid (HX.out.put R.toArray (by omega) (by have := HTB.out; intro x hx; simp only [List.mem_cons, List.not_mem_nil, or_false] at hx; rcases hx with hx | hx | hx | hx <;> (rw [hx]; simp <;> omega)))
  clear hst
  refine so hK (by (try dsimp only); (exact HS4.out _ _ HX.out.tl)) (h := fun hHeld => ?_)
  clear hK K
  refine wpAnyH_done (by kernel_rfl) ?_ _
  try simp only [Act.put, List.getElem_toArray, List.getElem_cons_succ, List.getElem_cons_zero, List.setIfInBounds_toArray, List.set_cons_zero, List.set_cons_succ]
  go_wp2_with fail
  refine bodyPost_ret (results_cell_row rfl _ _ (w.heap.size + 3) 119 R.toArray (0, 0) _ rfl HX.out.hd Tryz.underlying119 rfl (by rw [List.size_toArray, HRL.out]; exact info_sC)) rfl ?_
  exact ⟨rfl, HX.out.bel⟩
 ·
  have h1 : (qn != g) = true := by rw [bne_iff_ne]; exact h3
  obtain rfl : true = B2 := by rw [← HB2.out, h1]; rfl
  clear h3 HB2
  refine wp_region_held_drew (S := (fun W => (sldM (.pointer (some ⟨tb, 0, none⟩))).run Tryz.prog W = .ok (.agg A) W ∧ W.cell? ⟨w.heap.size, 70, none⟩ = some (.int .i64 x) ∧ W.cell? ⟨w.heap.size + 2, 34, none⟩ = some (.bool wn) ∧ W.cell? ⟨w.heap.size, 105, none⟩ = some (.int .i64 g) ∧ W.cell? ⟨w.heap.size, 72, none⟩ = some (.int .i64 s) ∧ W.cell? ⟨w.heap.size + 1, 1, none⟩ = some (.int .i64 qn) ∧ W.cell? ⟨w.heap.size + 1, 2, none⟩ = some (.slice SB sl sc))) (by kernel_rfl) ?_ (fun hHeld => ?_)
  ·
   exact hs0
  refine tk 0 (h := ?_)
  refine tk 1 (h := ?_)
  refine tk 2 (h := ?_)
  refine tk 3 (h := ?_)
  refine tk 5 (h := ?_)
  refine tk 6 (h := ?_)
  refine tk 7 (h := ?_)
  refine tk 8 (h := ?_)
  refine tk 9 (h := ?_)
  refine tk 20 (h := ?_)
  refine tk 21 (h := ?_)
  refine tk 22 (h := ?_)
  refine tk 23 (h := ?_)
  refine tk 24 (h := ?_)
  refine tk 25 (h := ?_)
  refine tk 26 (h := ?_)
  refine tk 27 (h := ?_)
  refine tk 31 (h := ?_)
  refine tk 32 (h := ?_)
  refine rd 4 (h := fun K hK => ?_)
  go_simp
  refine (HW1.out _).mono ?_; rintro e w' ⟨rfl, rfl⟩
  go_wp2_with fail
  refine so hK (by (try dsimp only); (exact HS4.out _ _ HX.out.tl)) (h := fun hHeld => ?_)
  clear hK K
  refine tk 10 (h := ?_)
  refine sk 11 (h := ?_)
  refine sk 12 (h := ?_)
  refine sk 13 (h := ?_)
  refine sk 14 (h := ?_)
  refine sk 15 (h := ?_)
  refine sk 16 (h := ?_)
  refine sk 17 (h := ?_)
  refine tk 18 (h := ?_)
  refine rd 19 (h := fun K hK => ?_)
  go_simp
  refine (HW2.out _).mono ?_; rintro e w' ⟨rfl, rfl⟩
  go_wp2_with fail
  refine so hK (by (try dsimp only); (exact HS4.out _ _ HX.out.tl)) (h := fun hHeld => ?_)
  clear hK K
  refine rd 28 (h := fun K hK => ?_)
  go_simp
  refine (HLN.out _).mono ?_; rintro e w' ⟨rfl, rfl⟩
  go_wp2_with fail
  refine so hK (by (try dsimp only); (exact HS4.out _ _ HX.out.tl)) (h := fun hHeld => ?_)
  clear hK K
  refine tk 29 (h := ?_)
  refine rd 30 (h := fun K hK => ?_)
  go_simp
  refine (HW3.out _).mono ?_; rintro e w' ⟨rfl, rfl⟩
  go_wp2_with fail
  refine so hK (by (try dsimp only); (exact HS4.out _ _ HX.out.tl)) (h := fun hHeld => ?_)
  clear hK K
  refine rd 33 (h := fun K hK => ?_)
  go_simp
  refine (HW4.out _).mono ?_; rintro e w' ⟨rfl, rfl⟩
  go_wp2_with fail
  refine so hK (by (try dsimp only); (exact HS4.out _ _ HX.out.tl)) (h := fun hHeld => ?_)
  clear hK K
  refine rd 34 (h := fun K hK => ?_)
  go_simp
  have HB2 := HX.out.build [i64v e1, i64v e2, i64v e3, i64v e4] 35
  have HRD := Lib.hid HB2.1
  have HX := Lib.hid HB2.2
  clear HB2
  refine so hK (by (try dsimp only); (exact HS4.out _ _ HX.out.tl)) (h := fun hHeld => ?_)
  clear hK K
  refine rd 35 (h := fun K hK => ?_)
  go_simp
  refine (HONE.out _ _ _ HRD.out).mono ?_; rintro e w' ⟨rfl, hb⟩; have HX := Lib.hid (HX.out.later hb); clear hb HRD; have hst := endC HX.out.hd zeroC_size HRL.out HR1.out
  go_wp2_with fail
  refine so hK (by (try dsimp only); (exact HS4.out _ _ HX.out.tl)) (h := fun hHeld => ?_)
  clear hK K
  refine rd 36 (h := fun K hK => ?_)
  go_simp
  have HX := Lib.hid (HX.out.put R.toArray (by omega) (by have := HTB.out; intro x hx; simp only [List.mem_cons, List.not_mem_nil, or_false] at hx; rcases hx with hx | hx | hx | hx <;> (rw [hx]; simp <;> omega)))
  clear hst
  refine so hK (by (try dsimp only); (exact HS4.out _ _ HX.out.tl)) (h := fun hHeld => ?_)
  clear hK K
  refine wpAnyH_done (by kernel_rfl) ?_ _
  try simp only [Act.put, List.getElem_toArray, List.getElem_cons_succ, List.getElem_cons_zero, List.setIfInBounds_toArray, List.set_cons_zero, List.set_cons_succ]
  go_wp2_with fail
  refine bodyPost_ret (results_cell_row rfl _ _ (w.heap.size + 3) 119 R.toArray (0, 0) _ rfl HX.out.hd Tryz.underlying119 rfl (by rw [List.size_toArray, HRL.out]; exact info_sC)) rfl ?_
  exact ⟨rfl, HX.out.bel⟩
end Go.Proofs.YtpafenlcgcenlaaGreatDoor
namespace Go.Proofs.YtpafenlcgcenlaaGreatDoor
open Go Go.RowKit
set_option linter.unusedVariables false
set_option linter.unusedSimpArgs false
attribute [local go_sem ↓] sldI_seal sldM_seal sstM_seal sstI_seal sldC_seal sldF_seal sstC_seal sbC_seal
theorem chg_get {m : Mt} (k : Nat) (e n g : Int) (hk : k < 107) (h : m.Ok) : (chg m e n g)[k]? = m.cells[k]? := by
 unfold chg
 rw [List.getElem?_append_left (by rw [Mt.cells_len h]; exact hk)]
theorem chg_set {m m2 : Mt} (k : Nat) (v : Value) (e n g : Int) (hk : k < 107) (h : m.Ok) (h2 : m.cells.set k v = m2.cells) : (chg m e n g).set k v = chg m2 e n g := by
 unfold chg
 rw [List.set_append_left _ _ (by rw [Mt.cells_len h]; exact hk), h2]
theorem chg_setN {m : Mt} (e n g v : Int) (h : m.Ok) : (chg m e n g).set 108 (i64v v) = chg m e v g := by
 unfold chg
 rw [List.set_append_right _ _ (by rw [Mt.cells_len h]; omega), Mt.cells_len h]
 rfl
theorem chg_put {m m2 : Mt} (e n g : Int) (h : m.Ok) (h2 : m2.Ok) : (chg m e n g).take 0 ++ (m2.cells ++ (chg m e n g).drop (0 + m2.cells.length)) = chg m2 e n g := by
 unfold chg
 rw [List.take_zero, List.nil_append, Mt.cells_len h2, List.drop_append, Mt.cells_len h, List.drop_of_length_le (by rw [Mt.cells_len h]; exact Nat.le_refl _)]
 rfl
theorem Blk.chgSet {W : World} {g0 : Nat} {t : TypeId} {m m2 : Mt} {e n g : Int} (B : Blk W g0 t (chg m e n g).toArray) (k : Nat) (v : Value) (hk : k < 107) (h : m.Ok) (h2 : m.cells.set k v = m2.cells) : Blk (W.setCell ⟨g0, k, none⟩ v) g0 t (chg m2 e n g).toArray := by
 have q := B.set_ k v
 rw [List.setIfInBounds_toArray, chg_set k v e n g hk h h2] at q
 exact q
theorem Blk.chgN {W : World} {g0 : Nat} {t : TypeId} {m : Mt} {e n g : Int} (B : Blk W g0 t (chg m e n g).toArray) (v : Int) (h : m.Ok) : Blk (W.setCell ⟨g0, 108, none⟩ (i64v v)) g0 t (chg m e v g).toArray := by
 have q := B.set_ 108 (i64v v)
 rw [List.setIfInBounds_toArray, chg_setN e n g v h] at q
 exact q
theorem Blk.chgM {W : World} {g0 : Nat} {t : TypeId} {m m2 : Mt} {e n g : Int} (B : Blk W g0 t (chg m e n g).toArray) (h : m.Ok) (h2 : m2.Ok) : Blk (W.setCells g0 0 m2.cells) g0 t (chg m2 e n g).toArray := by
 have q := Blk.setCells m2.cells 0 W _ B (by rw [chg_len h, Mt.cells_len h2]; omega)
 rw [chg_put e n g h h2] at q
 exact q
theorem Blk.chgSome {W : World} {g0 : Nat} {t : TypeId} {m : Mt} {e n g : Int} (B : Blk W g0 t (chg m e n g).toArray) (o : m.Ok) (k : Nat) (hk : k < 110) : ∃ u, W.cell? ⟨g0, k, none⟩ = Option.some u := by
 rw [B.cell]
 exact ⟨_, Array.getElem?_eq_getElem (by rw [List.size_toArray, chg_len o]; exact hk)⟩
theorem neX {tb B : Nat} {t0 t2 t3 : TypeId} {c0 c2 c3 : Array Value} (h : B + 2 < tb) : ∀ x ∈ [(tb, t0, c0), (B + 1, t2, c2), (B, t3, c3)], x.1 ≠ B + 2 := by
 intro x hx
 simp only [List.mem_cons, List.not_mem_nil, or_false] at hx
 rcases hx with hx | hx | hx <;> (rw [hx]; simp <;> omega)
/-- A Meta stored whole at the beginning of a bigger variable. -/
theorem run_sstM_mid {W : World} {g : Nat} {t : TypeId} {cs : Array Value} (B : Blk W g t cs) (ho : 107 ≤ cs.size) (m : Mt) (h : m.Ok) :
  (sstM (.pointer (some ⟨g, 0, none⟩)) (.agg m.cells.toArray)).run Tryz.prog W = .ok () (W.setCells g 0 m.cells) := by
 have hl := Mt.cells_len h
 refine run_storeAt_mid (P := Tryz.prog) W g 0 44 m.cells.toArray ?_ (by rw [List.size_toArray, hl]; kernel_rfl) (by simpa using Mt.one m)
 intro j hj
 rw [List.size_toArray, hl] at hj
 refine ⟨?_, B.frozen _⟩
 rw [B.cell, Array.getElem?_eq_getElem (by omega)]
 rfl
def Mt.bootC (m : Mt) (wn : Bool) : List Value :=
 if m.ph = 3 ∧ wn = false then (if m.tr = 0 then chg m.idle.alone 0 m.act 0 else chg { m with tr := m.tr - 1 } 0 (1 - m.act) 0) else chg m 0 m.act 0
set_option maxRecDepth 100000 in
set_option maxHeartbeats 4000000 in
theorem boot_c (w : World) (m : Mt) (h : m.Ok) (hact : m.act = 0 ∨ m.act = 1) (htr : 0 ≤ m.tr ∧ m.tr ≤ 2) (f : Fc) (hf : f.d.length = 32) :
  Calls Tryz.prog 114 #[.agg m.cells.toArray, .agg f.cells.toArray] w fun e w' => e = .returned (.agg (m.bootC f.wn).toArray) ∧ Below w.heap.size w w' := by
 have hX0 := box3 w m.cells.toArray f.cells.toArray _ rfl
 have hidle := fun W => idle_c W m h
 have halone := fun W => alone_c W m.idle (Mt.idle_ok h) hact
 have hoth := fun W => other_c W m h (by omega)
 have hl := chg_len h 0 m.act 0
 have hbd := fun W => run_sbC2 m h 0 m.act 0 W
 obtain ⟨x, hx⟩ : ∃ x, m.ph = x := ⟨_, rfl⟩
 obtain ⟨y, hy⟩ : ∃ y, m.tr = y := ⟨_, rfl⟩
 obtain ⟨a, ha⟩ : ∃ a, m.act = a := ⟨_, rfl⟩
 obtain ⟨wn, hwn⟩ : ∃ wn, f.wn = wn := ⟨_, rfl⟩
 have hS : ∀ W, Bxs w W [(w.heap.size + 1, 78, f.cells.toArray), (w.heap.size, 44, m.cells.toArray)] →
   (sldM (.pointer (some ⟨w.heap.size, 0, none⟩))).run Tryz.prog W = .ok (.agg m.cells.toArray) W ∧ W.cell? ⟨w.heap.size, 70, none⟩ = some (.int .i64 x) ∧ W.cell? ⟨w.heap.size + 1, 34, none⟩ = some (.bool wn) ∧ W.cell? ⟨w.heap.size, 106, none⟩ = some (.int .i64 y) ∧ W.cell? ⟨w.heap.size, 0, none⟩ = some (.int .i64 a) := fun W hX =>
  ⟨run_sldM (Mt.cells_len h) hX.tl.hd.whole, by rw [hX.tl.hd.cell, List.getElem?_toArray, Mt.c70 h, hx], by rw [hX.hd.cell, List.getElem?_toArray, Fc.c34 hf, hwn], by rw [hX.tl.hd.cell, List.getElem?_toArray, Mt.c106 h, hy], by rw [hX.tl.hd.cell, List.getElem?_toArray, Mt.c0, ha]⟩
 obtain ⟨RES, hRES⟩ : ∃ RES, m.bootC f.wn = RES := ⟨_, rfl⟩
 rw [hRES]
 have HPH := Lib.hid hx
 have HWN := Lib.hid hwn
 have HACT := Lib.hid ha
 have HRES := Lib.hid hRES
 clear hRES
 rw [hy] at htr
 rw [ha] at hoth hl hbd
 obtain ⟨M, hM⟩ : ∃ M, m.cells.toArray = M := ⟨_, rfl⟩
 obtain ⟨FA, hFA⟩ : ∃ FA, f.cells.toArray = FA := ⟨_, rfl⟩
 obtain ⟨MI, hMI⟩ : ∃ MI, m.idle.cells.toArray = MI := ⟨_, rfl⟩
 rw [hM] at hidle hoth hbd
 rw [hMI] at hidle halone
 rw [hM, hFA] at hX0 hS ⊢
 obtain ⟨C0, hC0⟩ : ∃ C0, (chg m 0 a 0).toArray = C0 := ⟨_, rfl⟩
 rw [hC0] at hbd
 have hC1 : ∀ (W : World) (old : Array Value) (xb : Nat), Blk W xb 119 old → old.size = 110 → (sstC (.pointer (some ⟨xb, 0, none⟩)) (.agg C0)).run Tryz.prog W = .ok () (W.setRow xb C0) := fun W old xb hB ho => hC0 ▸ endC hB ho hl (chg_one _ _ _ _)
 have HX := Lib.hid hX0
 have HS := Lib.hid hS
 have HID := Lib.hid hidle
 have HAL := Lib.hid halone
 have HO := Lib.hid hoth
 have HC0 := Lib.hid hC0
 have HC1 := Lib.hid hC1
 have HY := Lib.hid hy
 have HTR := Lib.hid htr
 have oi := Mt.idle_ok h
 have oa := Mt.alone_ok oi
 clear hM hFA hMI hx hy ha hwn hX0 hS hidle halone hoth hC0 hC1 htr
 go_enter Tryz.func114, Tryz.ntmps114
 go_upto_region 1 with fail
 have hX0 := HX.out
 clear HX
 generalize ((w.alloc (.cells M 44)).alloc (.cells FA 78)).alloc (.cells Tryz.zeroCells119 119) = W3 at hX0 ⊢
 obtain ⟨hld, k70, k34, k106, k0⟩ := HS.out _ hX0.tl
 have htb := hX0.hd.lt
 have hN := hX0.new rfl 119 Tryz.zeroCells119
 have hst := HC1.out _ _ _ hN.hd zeroC_size
 have hP := hN.put C0 (by omega) (ne3 htb)
 clear hX0 hN
 obtain ⟨tb, htb2⟩ : ∃ tb, W3.heap.size = tb := ⟨_, rfl⟩
 rw [htb2] at hst hP htb
 have HP := Lib.hid hP
 clear hP
 go_upto_region 2 with fail
 have hP := HP.out
 clear HP hld k70 k34 k106 k0 hst htb2 hbd
 generalize (W3.alloc (.cells Tryz.zeroCells119 119)).setRow tb C0 = W5 at hP ⊢
 have hn3 := ne3 (t1 := 119) (t2 := 78) (t3 := 44) (c1 := Tryz.zeroCells119) (c2 := FA) (c3 := M) htb
 have hg3 : w.heap.size ≤ tb := by omega
 obtain ⟨hld, k70, k34, k106, k0⟩ := HS.out _ hP.tl.tl
 have hldC : (sldC (.pointer (some ⟨tb, 0, none⟩))).run Tryz.prog W5 = .ok (.agg C0) W5 := by have q := hP.hd; rw [← HC0.out] at q ⊢; exact run_sldC hl q.whole
 have hst := HC1.out _ _ _ hP.tl.hd zeroC_size
 have HX := Lib.hid hP
 have HTB := Lib.hid htb
 clear hP
 by_cases h3 : x = 3
 ·
  subst h3
  cases wn
  ·
   clear hst hldC
   by_cases h0 : y = 0
   ·
    subst h0
    go_wp2_with fail
    refine (HID.out _).mono ?_
    rintro e w1 ⟨rfl, hb1⟩
    have HX1 := Lib.hid (HX.out.later hb1)
    clear hb1
    go_wp2_with fail
    refine (HAL.out _).mono ?_
    rintro e w2 ⟨rfl, hb2⟩
    have hX2 := HX1.out.later hb2
    have hst := run_sstM_mid hX2.hd (by rw [← HC0.out, List.size_toArray, hl]; omega) m.idle.alone oa
    have hB3 : Blk (w2.setCells tb 0 m.idle.alone.cells) tb 119 (chg m.idle.alone 0 a 0).toArray := by have q := hX2.hd; rw [← HC0.out] at q; exact q.chgM h oa
    have HX3 := Lib.hid (hX2.sets hB3 hg3 hn3)
    clear hb2 hX2 hB3 HX HX1 hld k70 k34 k106 k0
    generalize hALC : m.idle.alone.cells = ALC at *
    go_upto_region 6 with fail
    have hX3 := HX3.out
    clear HX3 hst
    generalize World.setCells w2 tb 0 ALC = W6 at hX3 ⊢
    have hl6 := chg_len oa 0 a 0
    have hld := run_sldC hl6 hX3.hd.whole
    have hst := endC hX3.tl.hd zeroC_size hl6 (chg_one _ _ _ _)
    have HX6 := Lib.hid (hX3.swap.put (chg m.idle.alone 0 a 0).toArray (by omega) (neX htb))
    clear hX3
    go_wp2_with fail
    refine bodyPost_ret (results_cell_row rfl _ _ (w.heap.size + 2) 119 (chg m.idle.alone 0 a 0).toArray (0, 0) _ rfl HX6.out.hd Tryz.underlying119 rfl (by rw [List.size_toArray, hl6]; exact info_sC)) rfl ?_
    exact ⟨by rw [← HRES.out]; unfold Mt.bootC; rw [if_pos ⟨HPH.out, HWN.out⟩, if_pos HY.out, HACT.out], HX6.out.bel⟩
   ·
    have h1 : (y == 0) = false := beq_eq_false_iff_ne.2 h0
    have hwr : IntKind.i64.wrap (y - 1) = y - 1 := IntWalk.i64_in _ (by have := HTR.out; omega)
    have o2 : ({ m with tr := y - 1 } : Mt).Ok := ⟨h.d0, h.d1, h.d2, h.act⟩
    have hB1 : Blk W5 tb 119 (chg m 0 a 0).toArray := HC0.out ▸ HX.out.hd
    have k6 : W5.cell? ⟨tb, 106, none⟩ = some (.int .i64 y) := by rw [hB1.cell, List.getElem?_toArray, chg_get 106 0 a 0 (by omega) h, Mt.c106 h, HY.out]
    have f6 := hB1.frozen 106
    have hB2 : Blk (W5.setCell ⟨tb, 106, none⟩ (i64v (y - 1))) tb 119 (chg { m with tr := y - 1 } 0 a 0).toArray := hB1.chgSet 106 (i64v (y - 1)) (by omega) h (Mt.set106 h (y - 1))
    have HX2 := Lib.hid (HX.out.set hB2 hg3 hn3)
    clear hB1 hB2 hld k0
    go_upto_region 8 with fail
    have hX2 := HX2.out
    clear HX2 HX k6 f6 k70 k34 k106
    generalize World.setCell W5 (⟨tb, 106, none⟩ : Addr) (i64v (y - 1)) = W6 at hX2 ⊢
    obtain ⟨hld, _⟩ := HS.out _ hX2.tl.tl
    have HX := Lib.hid hX2
    clear hX2
    go_wp2_with fail
    refine (HO.out _).mono ?_
    rintro e w1 ⟨rfl, hb1⟩
    have hX1 := HX.out.later hb1
    obtain ⟨u8, k8⟩ := hX1.hd.chgSome o2 108 (by omega)
    have f8 := hX1.hd.frozen 108
    have HX2 := Lib.hid (hX1.set (hX1.hd.chgN (1 - a) o2) hg3 hn3)
    clear hb1 hX1 HX hld
    go_upto_region 9 with fail
    have hX2 := HX2.out
    clear HX2 k8 f8
    generalize World.setCell w1 (⟨tb, 108, none⟩ : Addr) (i64v (1 - a)) = W7 at hX2 ⊢
    have hl6 := chg_len o2 0 (1 - a) 0
    have hld := run_sldC hl6 hX2.hd.whole
    have hst := endC hX2.tl.hd zeroC_size hl6 (chg_one _ _ _ _)
    have HX6 := Lib.hid (hX2.swap.put (chg { m with tr := y - 1 } 0 (1 - a) 0).toArray (by omega) (neX htb))
    clear hX2
    go_wp2_with fail
    refine bodyPost_ret (results_cell_row rfl _ _ (w.heap.size + 2) 119 (chg { m with tr := y - 1 } 0 (1 - a) 0).toArray (0, 0) _ rfl HX6.out.hd Tryz.underlying119 rfl (by rw [List.size_toArray, hl6]; exact info_sC)) rfl ?_
    exact ⟨by rw [← HRES.out]; unfold Mt.bootC; rw [if_pos ⟨HPH.out, HWN.out⟩, if_neg (fun e => h0 (HY.out.symm.trans e)), HY.out, HACT.out], HX6.out.bel⟩
  ·
   have HX6 := Lib.hid (HX.out.swap.put C0 (by omega) (neX htb))
   clear HX
   go_wp2_with fail
   refine bodyPost_ret (results_cell_row rfl _ _ (w.heap.size + 2) 119 C0 (0, 0) _ rfl HX6.out.hd Tryz.underlying119 rfl (by rw [← HC0.out, List.size_toArray, hl]; exact info_sC)) rfl ?_
   exact ⟨by rw [← HRES.out]; unfold Mt.bootC; rw [if_neg (fun e => by have e2 := e.2; rw [HWN.out] at e2; cases e2), HACT.out, HC0.out], HX6.out.bel⟩
 ·
  have h1 : (x != 3) = true := by rw [bne_iff_ne]; exact h3
  have HX6 := Lib.hid (HX.out.swap.put C0 (by omega) (neX htb))
  clear HX
  go_wp2_with fail
  refine bodyPost_ret (results_cell_row rfl _ _ (w.heap.size + 2) 119 C0 (0, 0) _ rfl HX6.out.hd Tryz.underlying119 rfl (by rw [← HC0.out, List.size_toArray, hl]; exact info_sC)) rfl ?_
  exact ⟨by rw [← HRES.out]; unfold Mt.bootC; rw [if_neg (fun e => h3 (HPH.out.symm.trans e.1)), HACT.out, HC0.out], HX6.out.bel⟩
end Go.Proofs.YtpafenlcgcenlaaGreatDoor
namespace Go.Proofs.YtpafenlcgcenlaaGreatDoor
open Go Go.RowKit
set_option linter.unusedVariables false
set_option linter.unusedSimpArgs false
attribute [local go_sem ↓] sldI_seal sldM_seal sstM_seal sstI_seal sldC_seal sldF_seal sstC_seal sbC_seal
structure Ch where
 m : Mt
 e : Int
 n : Int
 g : Int
def Ch.cells (c : Ch) : List Value := chg c.m c.e c.n c.g
def oneD (m : Mt) (l : List Int) : Ch := if firstE l = 0 then ⟨m, 0, 0, 0⟩ else ⟨Mt.zero, firstE l, 0, 0⟩
theorem oneM_D (m : Mt) (l : List Int) : oneM m l = (oneD m l).cells := by
 unfold oneM oneD Ch.cells
 split <;> rfl
def Mt.bootD (m : Mt) (wn : Bool) : Ch :=
 if m.ph = 3 ∧ wn = false then (if m.tr = 0 then ⟨m.idle.alone, 0, m.act, 0⟩ else ⟨{ m with tr := m.tr - 1 }, 0, 1 - m.act, 0⟩) else ⟨m, 0, m.act, 0⟩
theorem bootC_D (m : Mt) (wn : Bool) : m.bootC wn = (m.bootD wn).cells := by
 unfold Mt.bootC Mt.bootD Ch.cells
 split
 ·
  split <;> rfl
 ·
  rfl
theorem Ch.len {c : Ch} (h : c.m.Ok) : c.cells.length = 110 := chg_len h _ _ _
theorem Ch.one (c : Ch) : ∀ u ∈ c.cells, u.oneCell' = true := chg_one _ _ _ _
theorem oneD_ok {m : Mt} (h : m.Ok) (l : List Int) : (oneD m l).m.Ok := by
 unfold oneD
 split
 ·
  exact h
 ·
  exact Mt.zero_ok
theorem bootD_ok {m : Mt} (h : m.Ok) (wn : Bool) : (m.bootD wn).m.Ok := by
 unfold Mt.bootD
 split
 ·
  split
  ·
   exact Mt.alone_ok (Mt.idle_ok h)
  ·
   exact ⟨h.d0, h.d1, h.d2, h.act⟩
 ·
  exact h
/-- What a request does, and answers: B is what QBegin does. -/
def doesD (m : Mt) (f : Fc) (k n sl : Int) (B : Ch) : Ch :=
 if k = 1 then B
 else if k = 2 then oneD { m with got := m.got + 1 } [wh (m.ph != 1) 11, wh (n != m.got || decide (chunksZ m.cm.s ≤ m.got)) 12, wh (sl != lenZ m.cm.s m.got) 6, wh f.wn 5]
 else if k = 3 then oneD { m with ph := 2 } [wh (m.ph != 1) 11, wh (decide (m.got < chunksZ m.cm.s)) 12, wh (!(f.d == m.cm.d)) 13, wh f.wn 5]
 else if k = 4 then oneD m.commitT [wh (m.ph != 2) 11, wh f.wn 5]
 else if k = 5 then m.bootD f.wn
 else if k = 6 then oneD m.confT [wh (m.ph != 3 || m.tr == 2) 11, wh f.wn 5]
 else if k = 7 then oneD m.idle.alone [wh (m.ph != 3) 11, wh f.wn 5]
 else if k = 8 then oneD m.idle [wh (m.ph == 0 || m.ph == 3) 11, wh f.wn 5]
 else if k = 9 then ⟨m, 0, m.ph, m.got⟩
 else ⟨Mt.zero, 1, 0, 0⟩
theorem Mt.right_b {m : Mt} (h : m.right = true) : (m.act = 0 ∨ m.act = 1) ∧ (0 ≤ m.cm.s ∧ m.cm.s ≤ 1920) ∧ (0 ≤ m.got ∧ m.got ≤ 6) ∧ (0 ≤ m.tr ∧ m.tr ≤ 2) := by
 unfold Mt.right at h
 simp only [Bool.and_eq_true, decide_eq_true_eq] at h
 obtain ⟨h1, h2, _, _, h5, _, _, _, h9, h10, h11, h12, _⟩ := h
 have := (Img.may_b h5).2
 refine ⟨by omega, this, ⟨h9, h10⟩, h11, h12⟩
theorem doesD_ok {m : Mt} (h : m.Ok) (hr : m.right = true) (f : Fc) (k n sl : Int) (B : Ch) (hB : k = 1 → B.m.Ok) : (doesD m f k n sl B).m.Ok := by
 have hb := Mt.right_b hr
 unfold doesD
 repeat' split
 ·
  exact hB (by assumption)
 ·
  exact oneD_ok (by exact ⟨h.d0, h.d1, h.d2, h.act⟩) _
 ·
  exact oneD_ok (by exact ⟨h.d0, h.d1, h.d2, h.act⟩) _
 ·
  exact oneD_ok (Mt.commitT_ok h) _
 ·
  exact bootD_ok h _
 ·
  exact oneD_ok (Mt.confT_ok h hb.1) _
 ·
  exact oneD_ok (Mt.alone_ok (Mt.idle_ok h)) _
 ·
  exact oneD_ok (Mt.idle_ok h) _
 ·
  exact h
 ·
  exact Mt.zero_ok
theorem neY (B : Nat) {t1 t2 t3 : TypeId} {c1 c2 c3 : Array Value} : ∀ x ∈ [(B + 2, t1, c1), (B + 1, t2, c2), (B, t3, c3)], x.1 ≠ B + 3 := by
 intro x hx
 simp only [List.mem_cons, List.not_mem_nil, or_false] at hx
 rcases hx with hx | hx | hx <;> (rw [hx]; simp <;> omega)
noncomputable def sldQ (x : Value) : Sem Value := Instr.loadAt 34 x
theorem sldQ_seal (x : Value) : Instr.loadAt 34 x = sldQ x := rfl
theorem info_sQ : (Tryz.prog.info? 34).map (·.size) = some 3 := by kernel_rfl
theorem run_sldQ {W : World} {g o : Nat} {cs : List Value} (hs : cs.length = 3) (h : W.rangeAt g o cs) : (sldQ (.pointer (some ⟨g, o, none⟩))).run Tryz.prog W = .ok (.agg cs.toArray) W :=
 run_loadAt_mid (P := Tryz.prog) W g o 34 cs _ h Tryz.underlying34 rfl (by rw [hs]; exact info_sQ)
attribute [local go_sem ↓] sldQ_seal
set_option maxRecDepth 100000 in
set_option maxHeartbeats 8000000 in
theorem does_c (w : World) (m : Mt) (h : m.Ok) (hr : m.right = true) (qk qn : Int) (SB : Option Addr) (sl sc : Nat) (hsl : sl ≤ maxLen) (f : Fc) (hf : f.d.length = 32) (qu : Int) (B : Ch) (hBo : qk = 1 → B.m.Ok)
  (hbeg : qk = 1 → ∀ W, Below w.heap.size w W → Calls Tryz.prog 110 #[.agg m.cells.toArray, .agg #[.int .i64 qk, .int .i64 qn, .slice SB sl sc], .agg f.cells.toArray, .int .i64 qu] W fun e w' => e = .returned (.agg B.cells.toArray) ∧ Below W.heap.size W w') :
  Calls Tryz.prog 64 #[.agg m.cells.toArray, .agg #[.int .i64 qk, .int .i64 qn, .slice SB sl sc], .agg f.cells.toArray, .int .i64 qu] w fun e w' => e = .returned (.agg (doesD m f qk qn sl B).cells.toArray) ∧ Below w.heap.size w w' := by
 have hb := Mt.right_b hr
 have hX0 := box4 w m.cells.toArray #[.int .i64 qk, .int .i64 qn, .slice SB sl sc] f.cells.toArray _ rfl
 have hrl := Ch.len (doesD_ok h hr f qk qn sl B hBo)
 have hr1 := Ch.one (doesD m f qk qn sl B)
 obtain ⟨R, hR⟩ : ∃ R, (doesD m f qk qn sl B).cells = R := ⟨_, rfl⟩
 rw [hR] at hrl hr1 ⊢
 have hS : ∀ W, Bxs w W [(w.heap.size + 3, 119, Tryz.zeroCells119), (w.heap.size + 2, 78, f.cells.toArray), (w.heap.size + 1, 34, #[.int .i64 qk, .int .i64 qn, .slice SB sl sc]), (w.heap.size, 44, m.cells.toArray)] →
   (sldM (.pointer (some ⟨w.heap.size, 0, none⟩))).run Tryz.prog W = .ok (.agg m.cells.toArray) W ∧ (sldF (.pointer (some ⟨w.heap.size + 2, 0, none⟩))).run Tryz.prog W = .ok (.agg f.cells.toArray) W ∧ (sldQ (.pointer (some ⟨w.heap.size + 1, 0, none⟩))).run Tryz.prog W = .ok (.agg #[.int .i64 qk, .int .i64 qn, .slice SB sl sc]) W ∧
   W.cell? ⟨w.heap.size + 1, 0, none⟩ = some (.int .i64 qk) := fun W hX =>
  ⟨run_sldM (Mt.cells_len h) hX.tl.tl.tl.hd.whole, run_sldF (Fc.cells_len hf) hX.tl.hd.whole, run_sldQ rfl (Blk.whole (l := [.int .i64 qk, .int .i64 qn, .slice SB sl sc]) hX.tl.tl.hd), hX.tl.tl.hd.cell 0⟩
 obtain ⟨M, hM⟩ : ∃ M, m.cells.toArray = M := ⟨_, rfl⟩
 obtain ⟨FA, hFA⟩ : ∃ FA, f.cells.toArray = FA := ⟨_, rfl⟩
 rw [hM, hFA] at hX0 hS ⊢
 have HX := Lib.hid hX0
 have HS := Lib.hid hS
 have HR := Lib.hid hR
 have HM := Lib.hid hM
 have HFA := Lib.hid hFA
 have HRL := Lib.hid hrl
 have HR1 := Lib.hid hr1
 have HBG := Lib.hid hbeg
 clear hX0 hS hR hM hFA hrl hr1 hbeg hBo
 by_cases k1 : qk = 1
 ·
  subst k1
  go_enter Tryz.func64, Tryz.ntmps64
  go_upto_region 1 with fail
  have hX0 := HX.out
  clear HX
  generalize (((w.alloc (.cells M 44)).alloc (.cells #[.int .i64 1, .int .i64 qn, .slice SB sl sc] 34)).alloc (.cells FA 78)).alloc (.cells Tryz.zeroCells119 119) = W3 at hX0 ⊢
  obtain ⟨hldM, hldF, hldQ, hk0⟩ := HS.out _ hX0
  have HX := Lib.hid hX0
  clear hX0
  have hcl : ∀ W, Below w.heap.size w W → Calls Tryz.prog 110 #[.agg M, .agg #[.int .i64 1, .int .i64 qn, .slice SB sl sc], .agg FA, .int .i64 qu] W fun e w' => e = .returned (.agg R.toArray) ∧ Below W.heap.size W w' := fun W hW => by
   refine (HM.out ▸ HFA.out ▸ HBG.out rfl W hW).mono fun e w' hh => ⟨by rw [hh.1, ← HR.out]; rfl, hh.2⟩
  have HCL := Lib.hid hcl
  clear hcl
  go_wp2_with fail
  refine (HCL.out _ HX.out.bel).mono ?_
  rintro e w4 ⟨rfl, hb4⟩
  have hX4 := HX.out.later hb4
  have hst := endC hX4.hd zeroC_size HRL.out HR1.out
  have HX4 := Lib.hid (hX4.put R.toArray (by omega) (neY w.heap.size))
  clear hb4 hX4
  go_wp2_with fail
  refine bodyPost_ret (results_cell_row rfl _ _ (w.heap.size + 3) 119 R.toArray (0, 0) _ rfl HX4.out.hd Tryz.underlying119 rfl (by rw [List.size_toArray, HRL.out]; exact info_sC)) rfl ?_
  exact ⟨rfl, HX4.out.bel⟩
 by_cases k2 : qk = 2
 ·
  subst k2
  go_enter Tryz.func64, Tryz.ntmps64
  go_upto_region 1 with fail
  have hX0 := HX.out
  clear HX
  generalize (((w.alloc (.cells M 44)).alloc (.cells #[.int .i64 2, .int .i64 qn, .slice SB sl sc] 34)).alloc (.cells FA 78)).alloc (.cells Tryz.zeroCells119 119) = W3 at hX0 ⊢
  obtain ⟨hldM, hldF, hldQ, hk0⟩ := HS.out _ hX0
  have HX := Lib.hid hX0
  clear hX0
  have hcl : ∀ W, Below w.heap.size w W → Calls Tryz.prog 111 #[.agg M, .agg #[.int .i64 2, .int .i64 qn, .slice SB sl sc], .agg FA] W fun e w' => e = .returned (.agg R.toArray) ∧ Below W.heap.size W w' := fun W hW => by
   refine (HM.out ▸ HFA.out ▸ write_c W m h hb.2.1 hb.2.2.1 2 qn SB sl sc hsl f hf).mono fun e w' hh => ⟨by rw [hh.1, ← HR.out]; rw [oneM_D]; rfl, hh.2⟩
  have HCL := Lib.hid hcl
  clear hcl
  go_wp2_with fail
  refine (HCL.out _ HX.out.bel).mono ?_
  rintro e w4 ⟨rfl, hb4⟩
  have hX4 := HX.out.later hb4
  have hst := endC hX4.hd zeroC_size HRL.out HR1.out
  have HX4 := Lib.hid (hX4.put R.toArray (by omega) (neY w.heap.size))
  clear hb4 hX4
  go_wp2_with fail
  refine bodyPost_ret (results_cell_row rfl _ _ (w.heap.size + 3) 119 R.toArray (0, 0) _ rfl HX4.out.hd Tryz.underlying119 rfl (by rw [List.size_toArray, HRL.out]; exact info_sC)) rfl ?_
  exact ⟨rfl, HX4.out.bel⟩
 by_cases k3 : qk = 3
 ·
  subst k3
  go_enter Tryz.func64, Tryz.ntmps64
  go_upto_region 1 with fail
  have hX0 := HX.out
  clear HX
  generalize (((w.alloc (.cells M 44)).alloc (.cells #[.int .i64 3, .int .i64 qn, .slice SB sl sc] 34)).alloc (.cells FA 78)).alloc (.cells Tryz.zeroCells119 119) = W3 at hX0 ⊢
  obtain ⟨hldM, hldF, hldQ, hk0⟩ := HS.out _ hX0
  have HX := Lib.hid hX0
  clear hX0
  have hcl : ∀ W, Below w.heap.size w W → Calls Tryz.prog 112 #[.agg M, .agg FA] W fun e w' => e = .returned (.agg R.toArray) ∧ Below W.heap.size W w' := fun W hW => by
   refine (HM.out ▸ HFA.out ▸ verify_c W m h hb.2.1 f hf).mono fun e w' hh => ⟨by rw [hh.1, ← HR.out]; rw [oneM_D]; rfl, hh.2⟩
  have HCL := Lib.hid hcl
  clear hcl
  go_wp2_with fail
  refine (HCL.out _ HX.out.bel).mono ?_
  rintro e w4 ⟨rfl, hb4⟩
  have hX4 := HX.out.later hb4
  have hst := endC hX4.hd zeroC_size HRL.out HR1.out
  have HX4 := Lib.hid (hX4.put R.toArray (by omega) (neY w.heap.size))
  clear hb4 hX4
  go_wp2_with fail
  refine bodyPost_ret (results_cell_row rfl _ _ (w.heap.size + 3) 119 R.toArray (0, 0) _ rfl HX4.out.hd Tryz.underlying119 rfl (by rw [List.size_toArray, HRL.out]; exact info_sC)) rfl ?_
  exact ⟨rfl, HX4.out.bel⟩
 by_cases k4 : qk = 4
 ·
  subst k4
  go_enter Tryz.func64, Tryz.ntmps64
  go_upto_region 1 with fail
  have hX0 := HX.out
  clear HX
  generalize (((w.alloc (.cells M 44)).alloc (.cells #[.int .i64 4, .int .i64 qn, .slice SB sl sc] 34)).alloc (.cells FA 78)).alloc (.cells Tryz.zeroCells119 119) = W3 at hX0 ⊢
  obtain ⟨hldM, hldF, hldQ, hk0⟩ := HS.out _ hX0
  have HX := Lib.hid hX0
  clear hX0
  have hcl : ∀ W, Below w.heap.size w W → Calls Tryz.prog 113 #[.agg M, .agg FA] W fun e w' => e = .returned (.agg R.toArray) ∧ Below W.heap.size W w' := fun W hW => by
   refine (HM.out ▸ HFA.out ▸ commit_c W m h hb.1 f hf).mono fun e w' hh => ⟨by rw [hh.1, ← HR.out]; rw [oneM_D]; rfl, hh.2⟩
  have HCL := Lib.hid hcl
  clear hcl
  go_wp2_with fail
  refine (HCL.out _ HX.out.bel).mono ?_
  rintro e w4 ⟨rfl, hb4⟩
  have hX4 := HX.out.later hb4
  have hst := endC hX4.hd zeroC_size HRL.out HR1.out
  have HX4 := Lib.hid (hX4.put R.toArray (by omega) (neY w.heap.size))
  clear hb4 hX4
  go_wp2_with fail
  refine bodyPost_ret (results_cell_row rfl _ _ (w.heap.size + 3) 119 R.toArray (0, 0) _ rfl HX4.out.hd Tryz.underlying119 rfl (by rw [List.size_toArray, HRL.out]; exact info_sC)) rfl ?_
  exact ⟨rfl, HX4.out.bel⟩
 by_cases k5 : qk = 5
 ·
  subst k5
  go_enter Tryz.func64, Tryz.ntmps64
  go_upto_region 1 with fail
  have hX0 := HX.out
  clear HX
  generalize (((w.alloc (.cells M 44)).alloc (.cells #[.int .i64 5, .int .i64 qn, .slice SB sl sc] 34)).alloc (.cells FA 78)).alloc (.cells Tryz.zeroCells119 119) = W3 at hX0 ⊢
  obtain ⟨hldM, hldF, hldQ, hk0⟩ := HS.out _ hX0
  have HX := Lib.hid hX0
  clear hX0
  have hcl : ∀ W, Below w.heap.size w W → Calls Tryz.prog 114 #[.agg M, .agg FA] W fun e w' => e = .returned (.agg R.toArray) ∧ Below W.heap.size W w' := fun W hW => by
   refine (HM.out ▸ HFA.out ▸ boot_c W m h hb.1 hb.2.2.2 f hf).mono fun e w' hh => ⟨by rw [hh.1, ← HR.out]; rw [bootC_D]; rfl, hh.2⟩
  have HCL := Lib.hid hcl
  clear hcl
  go_wp2_with fail
  refine (HCL.out _ HX.out.bel).mono ?_
  rintro e w4 ⟨rfl, hb4⟩
  have hX4 := HX.out.later hb4
  have hst := endC hX4.hd zeroC_size HRL.out HR1.out
  have HX4 := Lib.hid (hX4.put R.toArray (by omega) (neY w.heap.size))
  clear hb4 hX4
  go_wp2_with fail
  refine bodyPost_ret (results_cell_row rfl _ _ (w.heap.size + 3) 119 R.toArray (0, 0) _ rfl HX4.out.hd Tryz.underlying119 rfl (by rw [List.size_toArray, HRL.out]; exact info_sC)) rfl ?_
  exact ⟨rfl, HX4.out.bel⟩
 by_cases k6 : qk = 6
 ·
  subst k6
  go_enter Tryz.func64, Tryz.ntmps64
  go_upto_region 1 with fail
  have hX0 := HX.out
  clear HX
  generalize (((w.alloc (.cells M 44)).alloc (.cells #[.int .i64 6, .int .i64 qn, .slice SB sl sc] 34)).alloc (.cells FA 78)).alloc (.cells Tryz.zeroCells119 119) = W3 at hX0 ⊢
  obtain ⟨hldM, hldF, hldQ, hk0⟩ := HS.out _ hX0
  have HX := Lib.hid hX0
  clear hX0
  have hcl : ∀ W, Below w.heap.size w W → Calls Tryz.prog 115 #[.agg M, .agg FA] W fun e w' => e = .returned (.agg R.toArray) ∧ Below W.heap.size W w' := fun W hW => by
   refine (HM.out ▸ HFA.out ▸ confirm_c W m h hb.1 f hf).mono fun e w' hh => ⟨by rw [hh.1, ← HR.out]; rw [oneM_D]; rfl, hh.2⟩
  have HCL := Lib.hid hcl
  clear hcl
  go_wp2_with fail
  refine (HCL.out _ HX.out.bel).mono ?_
  rintro e w4 ⟨rfl, hb4⟩
  have hX4 := HX.out.later hb4
  have hst := endC hX4.hd zeroC_size HRL.out HR1.out
  have HX4 := Lib.hid (hX4.put R.toArray (by omega) (neY w.heap.size))
  clear hb4 hX4
  go_wp2_with fail
  refine bodyPost_ret (results_cell_row rfl _ _ (w.heap.size + 3) 119 R.toArray (0, 0) _ rfl HX4.out.hd Tryz.underlying119 rfl (by rw [List.size_toArray, HRL.out]; exact info_sC)) rfl ?_
  exact ⟨rfl, HX4.out.bel⟩
 by_cases k7 : qk = 7
 ·
  subst k7
  go_enter Tryz.func64, Tryz.ntmps64
  go_upto_region 1 with fail
  have hX0 := HX.out
  clear HX
  generalize (((w.alloc (.cells M 44)).alloc (.cells #[.int .i64 7, .int .i64 qn, .slice SB sl sc] 34)).alloc (.cells FA 78)).alloc (.cells Tryz.zeroCells119 119) = W3 at hX0 ⊢
  obtain ⟨hldM, hldF, hldQ, hk0⟩ := HS.out _ hX0
  have HX := Lib.hid hX0
  clear hX0
  have hcl : ∀ W, Below w.heap.size w W → Calls Tryz.prog 116 #[.agg M, .agg FA] W fun e w' => e = .returned (.agg R.toArray) ∧ Below W.heap.size W w' := fun W hW => by
   refine (HM.out ▸ HFA.out ▸ rollback_c W m h hb.1 f hf).mono fun e w' hh => ⟨by rw [hh.1, ← HR.out]; rw [oneM_D]; rfl, hh.2⟩
  have HCL := Lib.hid hcl
  clear hcl
  go_wp2_with fail
  refine (HCL.out _ HX.out.bel).mono ?_
  rintro e w4 ⟨rfl, hb4⟩
  have hX4 := HX.out.later hb4
  have hst := endC hX4.hd zeroC_size HRL.out HR1.out
  have HX4 := Lib.hid (hX4.put R.toArray (by omega) (neY w.heap.size))
  clear hb4 hX4
  go_wp2_with fail
  refine bodyPost_ret (results_cell_row rfl _ _ (w.heap.size + 3) 119 R.toArray (0, 0) _ rfl HX4.out.hd Tryz.underlying119 rfl (by rw [List.size_toArray, HRL.out]; exact info_sC)) rfl ?_
  exact ⟨rfl, HX4.out.bel⟩
 by_cases k8 : qk = 8
 ·
  subst k8
  go_enter Tryz.func64, Tryz.ntmps64
  go_upto_region 1 with fail
  have hX0 := HX.out
  clear HX
  generalize (((w.alloc (.cells M 44)).alloc (.cells #[.int .i64 8, .int .i64 qn, .slice SB sl sc] 34)).alloc (.cells FA 78)).alloc (.cells Tryz.zeroCells119 119) = W3 at hX0 ⊢
  obtain ⟨hldM, hldF, hldQ, hk0⟩ := HS.out _ hX0
  have HX := Lib.hid hX0
  clear hX0
  have hcl : ∀ W, Below w.heap.size w W → Calls Tryz.prog 117 #[.agg M, .agg FA] W fun e w' => e = .returned (.agg R.toArray) ∧ Below W.heap.size W w' := fun W hW => by
   refine (HM.out ▸ HFA.out ▸ abort_c W m h hb.1 f hf).mono fun e w' hh => ⟨by rw [hh.1, ← HR.out]; rw [oneM_D]; rfl, hh.2⟩
  have HCL := Lib.hid hcl
  clear hcl
  go_wp2_with fail
  refine (HCL.out _ HX.out.bel).mono ?_
  rintro e w4 ⟨rfl, hb4⟩
  have hX4 := HX.out.later hb4
  have hst := endC hX4.hd zeroC_size HRL.out HR1.out
  have HX4 := Lib.hid (hX4.put R.toArray (by omega) (neY w.heap.size))
  clear hb4 hX4
  go_wp2_with fail
  refine bodyPost_ret (results_cell_row rfl _ _ (w.heap.size + 3) 119 R.toArray (0, 0) _ rfl HX4.out.hd Tryz.underlying119 rfl (by rw [List.size_toArray, HRL.out]; exact info_sC)) rfl ?_
  exact ⟨rfl, HX4.out.bel⟩
 by_cases k9 : qk = 9
 ·
  subst k9
  obtain ⟨x, hx⟩ : ∃ x, m.ph = x := ⟨_, rfl⟩
  obtain ⟨g, hg⟩ : ∃ g, m.got = g := ⟨_, rfl⟩
  have hbd := fun W => run_sbC2 m h 0 x g W
  have hres : R = chg m 0 x g := by rw [← HR.out, ← hx, ← hg]; rfl
  rw [HM.out] at hbd
  rw [← hres] at hbd
  have hcl : ∀ W, Blk W w.heap.size 44 M → W.cell? ⟨w.heap.size, 70, none⟩ = some (.int .i64 x) ∧ W.cell? ⟨w.heap.size, 105, none⟩ = some (.int .i64 g) := fun W hB => by
   rw [← HM.out] at hB
   exact ⟨by rw [hB.cell, List.getElem?_toArray, Mt.c70 h, hx], by rw [hB.cell, List.getElem?_toArray, Mt.c105 h, hg]⟩
  have HCL := Lib.hid hcl
  clear hcl hres hx hg
  go_enter Tryz.func64, Tryz.ntmps64
  go_upto_region 1 with fail
  have hX0 := HX.out
  clear HX
  generalize (((w.alloc (.cells M 44)).alloc (.cells #[.int .i64 9, .int .i64 qn, .slice SB sl sc] 34)).alloc (.cells FA 78)).alloc (.cells Tryz.zeroCells119 119) = W3 at hX0 ⊢
  obtain ⟨hldM, hldF, hldQ, hk0⟩ := HS.out _ hX0
  have HX := Lib.hid hX0
  clear hX0
  obtain ⟨hc70, hc105⟩ := HCL.out _ HX.out.tl.tl.tl.hd
  have hst := endC HX.out.hd zeroC_size HRL.out HR1.out
  have HX4 := Lib.hid (HX.out.put R.toArray (by omega) (neY w.heap.size))
  go_wp2_with fail
  refine bodyPost_ret (results_cell_row rfl _ _ (w.heap.size + 3) 119 R.toArray (0, 0) _ rfl HX4.out.hd Tryz.underlying119 rfl (by rw [List.size_toArray, HRL.out]; exact info_sC)) rfl ?_
  exact ⟨rfl, HX4.out.bel⟩
 have b1 : (qk == 1) = false := beq_eq_false_iff_ne.2 k1
 have b2 : (qk == 2) = false := beq_eq_false_iff_ne.2 k2
 have b3 : (qk == 3) = false := beq_eq_false_iff_ne.2 k3
 have b4 : (qk == 4) = false := beq_eq_false_iff_ne.2 k4
 have b5 : (qk == 5) = false := beq_eq_false_iff_ne.2 k5
 have b6 : (qk == 6) = false := beq_eq_false_iff_ne.2 k6
 have b7 : (qk == 7) = false := beq_eq_false_iff_ne.2 k7
 have b8 : (qk == 8) = false := beq_eq_false_iff_ne.2 k8
 have b9 : (qk == 9) = false := beq_eq_false_iff_ne.2 k9
 have hfl := fun W => fails_c 1 W
 have hres : R = chg Mt.zero 1 0 0 := by rw [← HR.out]; unfold doesD; rw [if_neg k1, if_neg k2, if_neg k3, if_neg k4, if_neg k5, if_neg k6, if_neg k7, if_neg k8, if_neg k9]; rfl
 rw [← hres] at hfl
 have HFL := Lib.hid hfl
 clear hfl hres k1 k2 k3 k4 k5 k6 k7 k8 k9
 go_enter Tryz.func64, Tryz.ntmps64
 go_upto_region 1 with fail
 have hX0 := HX.out
 clear HX
 generalize (((w.alloc (.cells M 44)).alloc (.cells #[.int .i64 qk, .int .i64 qn, .slice SB sl sc] 34)).alloc (.cells FA 78)).alloc (.cells Tryz.zeroCells119 119) = W3 at hX0 ⊢
 obtain ⟨hldM, hldF, hldQ, hk0⟩ := HS.out _ hX0
 have HX := Lib.hid hX0
 clear hX0
 go_wp2_with fail
 refine (HFL.out _).mono ?_
 rintro e w4 ⟨rfl, hb4⟩
 have hX4 := HX.out.later hb4
 have hst := endC hX4.hd zeroC_size HRL.out HR1.out
 have HX4 := Lib.hid (hX4.put R.toArray (by omega) (neY w.heap.size))
 clear hb4 hX4
 go_wp2_with fail
 refine bodyPost_ret (results_cell_row rfl _ _ (w.heap.size + 3) 119 R.toArray (0, 0) _ rfl HX4.out.hd Tryz.underlying119 rfl (by rw [List.size_toArray, HRL.out]; exact info_sC)) rfl ?_
 exact ⟨rfl, HX4.out.bel⟩
end Go.Proofs.YtpafenlcgcenlaaGreatDoor
namespace Go.Proofs.YtpafenlcgcenlaaGreatDoor
open Go Go.RowKit
set_option linter.unusedVariables false
set_option linter.unusedSimpArgs false
attribute [local go_sem ↓] sldI_seal sldM_seal sstM_seal sstI_seal sldC_seal sldF_seal sstC_seal sbC_seal sldQ_seal
/-- The results, two whole variables. -/
theorem results_cell_row2 {P : Program} {fn : Func} {p q : Tmp} {ty1 ty2 : TypeId} (h : fn.results = #[.cell p ty1, .cell q ty2]) (tmps : Array Value) (w : World) (g1 g2 : Nat) (t1 t2 : TypeId) (cs1 cs2 : Array Value) (fr1 fr2 : Nat × Nat) (d1 d2 : TypeDesc)
  (hp : tmps.getD p undef = .pointer (some ⟨g1, 0, none⟩)) (hg1 : w.heap[g1]? = some (.cells cs1 t1 fr1))
  (hu1 : P.underlying ty1 = some d1) (hd1 : (match d1 with | .struct _ | .array _ _ => true | _ => false) = true) (hi1 : (P.info? ty1).map (·.size) = some cs1.size)
  (hq : tmps.getD q undef = .pointer (some ⟨g2, 0, none⟩)) (hg2 : w.heap[g2]? = some (.cells cs2 t2 fr2))
  (hu2 : P.underlying ty2 = some d2) (hd2 : (match d2 with | .struct _ | .array _ _ => true | _ => false) = true) (hi2 : (P.info? ty2).map (·.size) = some cs2.size) :
  (results fn tmps).run P w = .ok (.tuple #[.agg cs1, .agg cs2]) w := by
 have hp' : tmps[p]?.getD undef = .pointer (some ⟨g1, 0, none⟩) := by simpa using hp
 have hq' : tmps[q]?.getD undef = .pointer (some ⟨g2, 0, none⟩) := by simpa using hq
 simp [results, h, hp', hq', asAddr, run_loadVar_row w g1 t1 ty1 cs1 fr1 d1 hg1 hu1 hd1 hi1, run_loadVar_row w g2 t2 ty2 cs2 fr2 d2 hg2 hu2 hd2 hi2]
theorem Bxs.sub {w0 W : World} {l l' : List (Nat × TypeId × Array Value)} (h : Bxs w0 W l) (hs : ∀ x ∈ l', x ∈ l) : Bxs w0 W l' := ⟨fun x hx => h.all x (hs x hx), h.bel⟩
noncomputable def sldR (x : Value) : Sem Value := Instr.loadAt 37 x
theorem sldR_seal (x : Value) : Instr.loadAt 37 x = sldR x := rfl
theorem info_sR : (Tryz.prog.info? 37).map (·.size) = some 3 := by kernel_rfl
theorem run_sldR {W : World} {g o : Nat} {cs : List Value} (hs : cs.length = 3) (h : W.rangeAt g o cs) : (sldR (.pointer (some ⟨g, o, none⟩))).run Tryz.prog W = .ok (.agg cs.toArray) W :=
 run_loadAt_mid (P := Tryz.prog) W g o 37 cs _ h Tryz.underlying37 rfl (by rw [hs]; exact info_sR)
noncomputable def sstR (x v : Value) : Sem Unit := Instr.storeAt 37 x v
theorem sstR_seal (x v : Value) : Instr.storeAt 37 x v = sstR x v := rfl
theorem run_sstR {W : World} {g : Nat} {old : Array Value} (e n k : Int) (h : Blk W g 37 old) (ho : old.size = 3) :
  (sstR (.pointer (some ⟨g, 0, none⟩)) (.agg #[.int .i64 e, .int .i64 n, .int .i64 k])).run Tryz.prog W = .ok () (W.setRow g #[.int .i64 e, .int .i64 n, .int .i64 k]) := by
 unfold sstR
 simp only [Instr.storeAt, Instr.sureAddr, Sem.run_bind, Sem.run_pure, Result.andThen_ok, run_storeVar_row (P := Tryz.prog) W g 37 37 old #[.int .i64 e, .int .i64 n, .int .i64 k] h info_sR ho (by simp [Value.oneCell'])]
attribute [local go_sem ↓] sldR_seal sstR_seal
theorem box5 (w : World) (M Q FA : Array Value) (B : Nat) (hB : w.heap.size = B) :
  Bxs w (((((w.alloc (.cells M 44)).alloc (.cells Q 34)).alloc (.cells FA 78)).alloc (.cells Tryz.zeroCells44 44)).alloc (.cells #[.int .i64 0, .int .i64 0, .int .i64 0] 37)) [(B + 4, 37, #[.int .i64 0, .int .i64 0, .int .i64 0]), (B + 3, 44, Tryz.zeroCells44), (B + 2, 78, FA), (B + 1, 34, Q), (B, 44, M)] :=
 (((((Bxs.nil w).new hB _ _).new (by simp [hB]) _ _).new (by simp [hB]) _ _).new (by simp [hB]) _ _).new (by simp [hB]) _ _
theorem zeroR_size : #[Value.int .i64 0, Value.int .i64 0, Value.int .i64 0].size = 3 := by rfl
theorem info_sM107 : (Tryz.prog.info? 44).map (·.size) = some 107 := info_sM
/-- What Do answers: what is kept then, and the answer's three numbers. -/
def doD (m : Mt) (f : Fc) (k n sl : Int) (B : Ch) : Ch :=
 if m.right = false then ⟨m, 1, 0, 0⟩
 else if (doesD m f k n sl B).e = 0 then doesD m f k n sl B
 else ⟨m, (doesD m f k n sl B).e, (doesD m f k n sl B).n, (doesD m f k n sl B).g⟩
theorem doD_ok {m : Mt} (h : m.Ok) (f : Fc) (k n sl : Int) (B : Ch) (hB : m.right = true → k = 1 → B.m.Ok) : (doD m f k n sl B).m.Ok := by
 unfold doD
 split
 ·
  exact h
 ·
  rename_i hr
  split
  ·
   exact doesD_ok h (by simpa using hr) f k n sl B (hB (by simpa using hr))
  ·
   exact h
def Ch.res (c : Ch) : Value := .tuple #[.agg c.m.cells.toArray, .agg #[.int .i64 c.e, .int .i64 c.n, .int .i64 c.g]]
theorem chg_r {m : Mt} (h : m.Ok) (e n g : Int) : ((chg m e n g).drop 107).take 3 = [i64v e, i64v n, i64v g] := by
 unfold chg
 rw [List.drop_append, Mt.cells_len h, List.drop_of_length_le (by rw [Mt.cells_len h]; exact Nat.le_refl _)]
 rfl
theorem chg_m {m : Mt} (h : m.Ok) (e n g : Int) : ((chg m e n g).drop 0).take 107 = m.cells := by
 unfold chg
 rw [List.drop_zero, List.take_append_of_le_length (by rw [Mt.cells_len h]; exact Nat.le_refl _), List.take_of_length_le (by rw [Mt.cells_len h]; exact Nat.le_refl _)]
theorem chg_e {m : Mt} (h : m.Ok) (e n g : Int) : (chg m e n g)[107]? = some (i64v e) := by
 unfold chg
 rw [List.getElem?_append_right (by rw [Mt.cells_len h]; exact Nat.le_refl _), Mt.cells_len h]
 rfl
theorem neV (B : Nat) {t1 t2 t3 t4 : TypeId} {c1 c2 c3 c4 : Array Value} : ∀ x ∈ [(B + 4, t1, c1), (B + 2, t2, c2), (B + 1, t3, c3), (B, t4, c4)], x.1 ≠ B + 3 := by
 intro x hx
 simp only [List.mem_cons, List.not_mem_nil, or_false] at hx
 rcases hx with hx | hx | hx | hx <;> (rw [hx]; simp <;> omega)
theorem neU (B : Nat) {t1 t2 t3 t4 : TypeId} {c1 c2 c3 c4 : Array Value} : ∀ x ∈ [(B + 3, t1, c1), (B + 2, t2, c2), (B + 1, t3, c3), (B, t4, c4)], x.1 ≠ B + 4 := by
 intro x hx
 simp only [List.mem_cons, List.not_mem_nil, or_false] at hx
 rcases hx with hx | hx | hx | hx <;> (rw [hx]; simp <;> omega)
theorem neT {B tb : Nat} (h : B + 4 < tb) {t0 t1 t2 t3 t4 : TypeId} {c0 c1 c2 c3 c4 : Array Value} : ∀ x ∈ [(B + 4, t0, c0), (B + 3, t1, c1), (B + 2, t2, c2), (B + 1, t3, c3), (B, t4, c4)], x.1 ≠ tb := by
 intro x hx
 simp only [List.mem_cons, List.not_mem_nil, or_false] at hx
 rcases hx with hx | hx | hx | hx | hx <;> (rw [hx]; simp <;> omega)
set_option maxRecDepth 100000 in
set_option maxHeartbeats 8000000 in
theorem do_c (w : World) (m : Mt) (h : m.Ok) (qk qn : Int) (SB : Option Addr) (sl sc : Nat) (hsl : sl ≤ maxLen) (f : Fc) (hf : f.d.length = 32) (qu : Int) (B : Ch) (hBo : m.right = true → qk = 1 → B.m.Ok)
  (hbeg : m.right = true → qk = 1 → ∀ W, Below w.heap.size w W → Calls Tryz.prog 110 #[.agg m.cells.toArray, .agg #[.int .i64 qk, .int .i64 qn, .slice SB sl sc], .agg f.cells.toArray, .int .i64 qu] W fun e w' => e = .returned (.agg B.cells.toArray) ∧ Below W.heap.size W w') :
  Calls Tryz.prog 30 #[.agg m.cells.toArray, .agg #[.int .i64 qk, .int .i64 qn, .slice SB sl sc], .agg f.cells.toArray, .int .i64 qu] w fun e w' => e = .returned (doD m f qk qn sl B).res ∧ Below w.heap.size w w' := by
 have hX0 := box5 w m.cells.toArray #[.int .i64 qk, .int .i64 qn, .slice SB sl sc] f.cells.toArray _ rfl
 obtain ⟨RES, hRES⟩ : ∃ RES, (doD m f qk qn sl B).res = RES := ⟨_, rfl⟩
 rw [hRES]
 have hright := fun W => right_c W m h
 obtain ⟨rt, hrt⟩ : ∃ rt, m.right = rt := ⟨_, rfl⟩
 rw [hrt] at hright
 have hS : ∀ W, Bxs w W [(w.heap.size + 2, 78, f.cells.toArray), (w.heap.size + 1, 34, #[.int .i64 qk, .int .i64 qn, .slice SB sl sc]), (w.heap.size, 44, m.cells.toArray)] →
   (sldM (.pointer (some ⟨w.heap.size, 0, none⟩))).run Tryz.prog W = .ok (.agg m.cells.toArray) W ∧ (sldF (.pointer (some ⟨w.heap.size + 2, 0, none⟩))).run Tryz.prog W = .ok (.agg f.cells.toArray) W ∧ (sldQ (.pointer (some ⟨w.heap.size + 1, 0, none⟩))).run Tryz.prog W = .ok (.agg #[.int .i64 qk, .int .i64 qn, .slice SB sl sc]) W := fun W hX =>
  ⟨run_sldM (Mt.cells_len h) hX.tl.tl.hd.whole, run_sldF (Fc.cells_len hf) hX.hd.whole, run_sldQ rfl (Blk.whole (l := [.int .i64 qk, .int .i64 qn, .slice SB sl sc]) hX.tl.hd)⟩
 have hdoes : rt = true → ∀ W, Below w.heap.size w W → Calls Tryz.prog 64 #[.agg m.cells.toArray, .agg #[.int .i64 qk, .int .i64 qn, .slice SB sl sc], .agg f.cells.toArray, .int .i64 qu] W fun e w' => e = .returned (.agg (doesD m f qk qn sl B).cells.toArray) ∧ Below W.heap.size W w' := fun hr W hW =>
  does_c W m h (hrt.trans hr) qk qn SB sl sc hsl f hf qu B (hBo (hrt.trans hr)) (fun hk W2 hW2 => hbeg (hrt.trans hr) hk W2 (hW.trans (hW2.mono hW.size)))
 have hstM : ∀ (W : World) (g : Nat) (old : Array Value), Blk W g 44 old → old.size = 107 → (sstM (.pointer (some ⟨g, 0, none⟩)) (.agg m.cells.toArray)).run Tryz.prog W = .ok () (W.setRow g m.cells.toArray) := fun W g old hB ho => storeM h hB ho
 have hML : m.cells.toArray.size = 107 := by rw [List.size_toArray, Mt.cells_len h]
 have hDok : rt = true → (doesD m f qk qn sl B).m.Ok := fun hr => doesD_ok h (hrt.trans hr) f qk qn sl B (hBo (hrt.trans hr))
 obtain ⟨D, hD⟩ : ∃ D, doesD m f qk qn sl B = D := ⟨_, rfl⟩
 have hRES1 : rt = false → RES = .tuple #[.agg m.cells.toArray, .agg #[.int .i64 1, .int .i64 0, .int .i64 0]] := fun hr => by rw [← hRES]; unfold doD Ch.res; rw [if_pos (hrt.trans hr)]
 have hRES2 : rt = true → D.e = 0 → RES = .tuple #[.agg D.m.cells.toArray, .agg #[.int .i64 D.e, .int .i64 D.n, .int .i64 D.g]] := fun hr he => by rw [← hRES]; unfold doD Ch.res; rw [if_neg (by rw [hrt, hr]; decide), hD, if_pos he]
 have hRES3 : rt = true → D.e ≠ 0 → RES = .tuple #[.agg m.cells.toArray, .agg #[.int .i64 D.e, .int .i64 D.n, .int .i64 D.g]] := fun hr he => by rw [← hRES]; unfold doD Ch.res; rw [if_neg (by rw [hrt, hr]; decide), hD, if_neg he]
 rw [hD] at hdoes hDok
 obtain ⟨M, hM⟩ : ∃ M, m.cells.toArray = M := ⟨_, rfl⟩
 obtain ⟨FA, hFA⟩ : ∃ FA, f.cells.toArray = FA := ⟨_, rfl⟩
 rw [hM] at hright hRES1 hRES3 hstM hML
 rw [hM, hFA] at hX0 hS hdoes ⊢
 have HX := Lib.hid hX0
 have HS := Lib.hid hS
 have HRI := Lib.hid hright
 have HST := Lib.hid hstM
 have HML := Lib.hid hML
 have HR1 := Lib.hid hRES1
 have HR2 := Lib.hid hRES2
 have HR3 := Lib.hid hRES3
 have HDO := Lib.hid hdoes
 have HOK := Lib.hid hDok
 clear hX0 hS hright hstM hML hRES1 hRES2 hRES3 hdoes hDok hRES hM hFA hD hbeg hBo hrt
 go_enter Tryz.func30, Tryz.ntmps30
 go_upto_region 1 with fail
 have hX0 := HX.out
 clear HX
 generalize ((((w.alloc (.cells M 44)).alloc (.cells #[.int .i64 qk, .int .i64 qn, .slice SB sl sc] 34)).alloc (.cells FA 78)).alloc (.cells Tryz.zeroCells44 44)).alloc (.cells #[.int .i64 0, .int .i64 0, .int .i64 0] 37) = W3 at hX0 ⊢
 obtain ⟨hldM, hldF, hldQ⟩ := HS.out _ hX0.tl.tl
 have HX := Lib.hid hX0
 clear hX0
 go_wp2_with fail
 refine (HRI.out _).mono ?_
 rintro e w4 ⟨rfl, hb4⟩
 have hX4 := HX.out.later hb4
 clear hb4 HX hldM hldF hldQ
 obtain ⟨hldM, hldF, hldQ⟩ := HS.out _ hX4.tl.tl
 have HX := Lib.hid hX4
 clear hX4
 cases rt
 ·
  have hst := HST.out _ _ _ HX.out.tl.hd zeroM_size
  have hX5 := HX.out.swap.put M (by omega) (neV w.heap.size)
  have hst2 := run_sstR 1 0 0 hX5.tl.hd zeroR_size
  have HX6 := Lib.hid (hX5.swap.put #[.int .i64 1, .int .i64 0, .int .i64 0] (by omega) (neU w.heap.size))
  clear hX5 HX
  go_wp2_with fail
  refine bodyPost_ret (results_cell_row2 rfl _ _ (w.heap.size + 3) (w.heap.size + 4) 44 37 M #[.int .i64 1, .int .i64 0, .int .i64 0] (0, 0) (0, 0) _ _ rfl HX6.out.tl.hd Tryz.underlying44 rfl (by rw [HML.out]; exact info_sM107) rfl HX6.out.hd Tryz.underlying37 rfl info_sR) rfl ?_
  exact ⟨by rw [HR1.out (by simp)], HX6.out.bel⟩
 ·
  obtain ⟨DM, e, n, g⟩ := D
  have ho := HOK.out rfl
  have hlC := chg_len ho e n g
  have hC1 := chg_one DM e n g
  have hcl := HDO.out rfl
  simp only [Ch.cells] at ho hcl
  have hldX : ∀ W xb, Blk W xb 119 (chg DM e n g).toArray → (sldM (.pointer (some ⟨xb, 0, none⟩))).run Tryz.prog W = .ok (.agg DM.cells.toArray) W ∧ (sldR (.pointer (some ⟨xb, 107, none⟩))).run Tryz.prog W = .ok (.agg #[.int .i64 e, .int .i64 n, .int .i64 g]) W ∧ W.cell? ⟨xb, 107, none⟩ = some (.int .i64 e) := fun W xb hB =>
   ⟨run_sldM (Mt.cells_len ho) (by have r := hB.range 0 107 (by rw [hlC]; omega); rw [chg_m ho] at r; exact r), run_sldR rfl (by have r := hB.range 107 3 (by rw [hlC]; omega); rw [chg_r ho] at r; exact r), by rw [hB.cell, List.getElem?_toArray, chg_e ho]⟩
  have hstX : ∀ (W : World) (g0 : Nat) (old : Array Value), Blk W g0 119 old → old.size = 110 → (sstC (.pointer (some ⟨g0, 0, none⟩)) (.agg (chg DM e n g).toArray)).run Tryz.prog W = .ok () (W.setRow g0 (chg DM e n g).toArray) := fun W g0 old hB hs => endC hB hs hlC hC1
  have hstD : ∀ (W : World) (g0 : Nat) (old : Array Value), Blk W g0 44 old → old.size = 107 → (sstM (.pointer (some ⟨g0, 0, none⟩)) (.agg DM.cells.toArray)).run Tryz.prog W = .ok () (W.setRow g0 DM.cells.toArray) := fun W g0 old hB hs => storeM ho hB hs
  have hDL : DM.cells.toArray.size = 107 := by rw [List.size_toArray, Mt.cells_len ho]
  have hr2 := HR2.out rfl
  have hr3 := HR3.out rfl
  simp only at hr2 hr3
  generalize (chg DM e n g).toArray = CC at *
  generalize DM.cells.toArray = DC at *
  have HCL := Lib.hid hcl
  have HLX := Lib.hid hldX
  have HSX := Lib.hid hstX
  have HSD := Lib.hid hstD
  have HDL := Lib.hid hDL
  have HR2' := Lib.hid hr2
  have HR3' := Lib.hid hr3
  clear hcl hldX hstX hstD hDL hr2 hr3 HOK HR1 HR2 HR3 HDO hC1 hlC
  go_wp2_with fail
  refine (HCL.out _ HX.out.bel).mono ?_
  rintro e5 w5 ⟨rfl, hb5⟩
  have hX5 := HX.out.later hb5
  have htb := hX5.hd.lt
  have hN := hX5.new rfl 119 Tryz.zeroCells119
  have hst := HSX.out _ _ _ hN.hd zeroC_size
  have hP := hN.put CC (by omega) (neT htb)
  clear hX5 hN hb5 HX hldM hldF hldQ
  obtain ⟨xb, hxb⟩ : ∃ xb, w5.heap.size = xb := ⟨_, rfl⟩
  rw [hxb] at hst hP htb
  have HP := Lib.hid hP
  clear hP
  go_upto_region 4 with fail
  have hP := HP.out
  clear HP hst hxb
  generalize (w5.alloc (.cells Tryz.zeroCells119 119)).setRow xb CC = W6 at hP ⊢
  have he0 := (HLX.out _ _ hP.hd).2.2
  have HX := Lib.hid hP
  have HTB := Lib.hid htb
  clear hP htb
  by_cases h0 : e = 0
  ·
   subst h0
   go_upto_region 6 with fail
   clear he0
   have HX := Lib.hid HX.out.drew
   have hS2 : ∀ W c9 c8, Bxs w W [(xb, 119, CC), (w.heap.size + 4, 37, c9), (w.heap.size + 3, 44, c8), (w.heap.size + 2, 78, FA), (w.heap.size + 1, 34, #[.int .i64 qk, .int .i64 qn, .slice SB sl sc]), (w.heap.size, 44, M)] → (sldM (.pointer (some ⟨xb, 0, none⟩))).run Tryz.prog W = .ok (.agg DC) W ∧ (sldR (.pointer (some ⟨xb, 107, none⟩))).run Tryz.prog W = .ok (.agg #[.int .i64 0, .int .i64 n, .int .i64 g]) W := fun W c9 c8 hX =>
    ⟨(HLX.out _ _ hX.hd).1, (HLX.out _ _ hX.hd).2.1⟩
   have HS2 := Lib.hid hS2
   clear hS2
   have hs0 := HS2.out _ _ _ HX.out
   refine wp_region_held_drew (S := (fun W => (sldM (.pointer (some ⟨xb, 0, none⟩))).run Tryz.prog W = .ok (.agg DC) W ∧ (sldR (.pointer (some ⟨xb, 107, none⟩))).run Tryz.prog W = .ok (.agg #[.int .i64 0, .int .i64 n, .int .i64 g]) W)) (by kernel_rfl) ?_ (fun hHeld => ?_)
   ·
    exact hs0
   refine tk 0 (h := ?_)
   refine tk 1 (h := ?_)
   refine tk 2 (h := ?_)
   refine tk 3 (h := ?_)
   have hst := HSD.out _ _ _ HX.out.tl.tl.hd zeroM_size
   have HX := Lib.hid ((((HX.out.sub (l' := [(w.heap.size + 3, 44, Tryz.zeroCells44), (xb, 119, CC), (w.heap.size + 4, 37, #[.int .i64 0, .int .i64 0, .int .i64 0]), (w.heap.size + 2, 78, FA), (w.heap.size + 1, 34, #[.int .i64 qk, .int .i64 qn, .slice SB sl sc]), (w.heap.size, 44, M)]) (by intro x hx; simp only [List.mem_cons, List.not_mem_nil, or_false] at hx ⊢; rcases hx with h | h | h | h | h | h <;> simp [h])).put DC (by omega) (by have := HTB.out; intro x hx; simp only [List.mem_cons, List.not_mem_nil, or_false] at hx; rcases hx with hx | hx | hx | hx | hx <;> (rw [hx]; simp <;> omega))).sub (l' := [(xb, 119, CC), (w.heap.size + 4, 37, #[.int .i64 0, .int .i64 0, .int .i64 0]), (w.heap.size + 3, 44, DC), (w.heap.size + 2, 78, FA), (w.heap.size + 1, 34, #[.int .i64 qk, .int .i64 qn, .slice SB sl sc]), (w.heap.size, 44, M)]) (by intro x hx; simp only [List.mem_cons, List.not_mem_nil, or_false] at hx ⊢; rcases hx with h | h | h | h | h | h <;> simp [h])))
   refine rd 4 (h := fun K hK => ?_)
   go_simp
   clear hst
   refine so hK (by (try dsimp only); (exact HS2.out _ _ _ HX.out)) (h := fun hHeld => ?_)
   clear hK K
   have hst := run_sstR 0 n g HX.out.tl.hd zeroR_size
   have HX := Lib.hid ((((HX.out.sub (l' := [(w.heap.size + 4, 37, #[.int .i64 0, .int .i64 0, .int .i64 0]), (xb, 119, CC), (w.heap.size + 3, 44, DC), (w.heap.size + 2, 78, FA), (w.heap.size + 1, 34, #[.int .i64 qk, .int .i64 qn, .slice SB sl sc]), (w.heap.size, 44, M)]) (by intro x hx; simp only [List.mem_cons, List.not_mem_nil, or_false] at hx ⊢; rcases hx with h | h | h | h | h | h <;> simp [h])).put #[.int .i64 0, .int .i64 n, .int .i64 g] (by omega) (by have := HTB.out; intro x hx; simp only [List.mem_cons, List.not_mem_nil, or_false] at hx; rcases hx with hx | hx | hx | hx | hx <;> (rw [hx]; simp <;> omega))).sub (l' := [(xb, 119, CC), (w.heap.size + 4, 37, #[.int .i64 0, .int .i64 n, .int .i64 g]), (w.heap.size + 3, 44, DC), (w.heap.size + 2, 78, FA), (w.heap.size + 1, 34, #[.int .i64 qk, .int .i64 qn, .slice SB sl sc]), (w.heap.size, 44, M)]) (by intro x hx; simp only [List.mem_cons, List.not_mem_nil, or_false] at hx ⊢; rcases hx with h | h | h | h | h | h <;> simp [h])))
   refine rd 5 (h := fun K hK => ?_)
   go_simp
   clear hst
   refine so hK (by (try dsimp only); (exact HS2.out _ _ _ HX.out)) (h := fun hHeld => ?_)
   clear hK K
   refine wpAnyH_done (by kernel_rfl) ?_ _
   try simp only [Act.put, List.getElem_toArray, List.getElem_cons_succ, List.getElem_cons_zero, List.setIfInBounds_toArray, List.set_cons_zero, List.set_cons_succ]
   go_wp2_with fail
   refine bodyPost_ret (results_cell_row2 rfl _ _ (w.heap.size + 3) (w.heap.size + 4) 44 37 DC #[.int .i64 0, .int .i64 n, .int .i64 g] (0, 0) (0, 0) _ _ rfl HX.out.tl.tl.hd Tryz.underlying44 rfl (by rw [HDL.out]; exact info_sM107) rfl HX.out.tl.hd Tryz.underlying37 rfl info_sR) rfl ?_
   exact ⟨by rw [HR2'.out (by simp)], HX.out.bel⟩
  ·
   have h1 : (e != 0) = true := by rw [bne_iff_ne]; exact h0
   go_upto_region 5 with fail
   clear he0
   have HX := Lib.hid HX.out.drew
   have hS2 : ∀ W c9 c8, Bxs w W [(xb, 119, CC), (w.heap.size + 4, 37, c9), (w.heap.size + 3, 44, c8), (w.heap.size + 2, 78, FA), (w.heap.size + 1, 34, #[.int .i64 qk, .int .i64 qn, .slice SB sl sc]), (w.heap.size, 44, M)] → (sldM (.pointer (some ⟨w.heap.size, 0, none⟩))).run Tryz.prog W = .ok (.agg M) W ∧ (sldR (.pointer (some ⟨xb, 107, none⟩))).run Tryz.prog W = .ok (.agg #[.int .i64 e, .int .i64 n, .int .i64 g]) W := fun W c9 c8 hX =>
    ⟨(HS.out _ hX.tl.tl.tl).1, (HLX.out _ _ hX.hd).2.1⟩
   have HS2 := Lib.hid hS2
   clear hS2
   have hs0 := HS2.out _ _ _ HX.out
   refine wp_region_held_drew (S := (fun W => (sldM (.pointer (some ⟨w.heap.size, 0, none⟩))).run Tryz.prog W = .ok (.agg M) W ∧ (sldR (.pointer (some ⟨xb, 107, none⟩))).run Tryz.prog W = .ok (.agg #[.int .i64 e, .int .i64 n, .int .i64 g]) W)) (by kernel_rfl) ?_ (fun hHeld => ?_)
   ·
    exact hs0
   refine tk 0 (h := ?_)
   refine tk 1 (h := ?_)
   refine tk 2 (h := ?_)
   have hst := HST.out _ _ _ HX.out.tl.tl.hd zeroM_size
   have HX := Lib.hid ((((HX.out.sub (l' := [(w.heap.size + 3, 44, Tryz.zeroCells44), (xb, 119, CC), (w.heap.size + 4, 37, #[.int .i64 0, .int .i64 0, .int .i64 0]), (w.heap.size + 2, 78, FA), (w.heap.size + 1, 34, #[.int .i64 qk, .int .i64 qn, .slice SB sl sc]), (w.heap.size, 44, M)]) (by intro x hx; simp only [List.mem_cons, List.not_mem_nil, or_false] at hx ⊢; rcases hx with h | h | h | h | h | h <;> simp [h])).put M (by omega) (by have := HTB.out; intro x hx; simp only [List.mem_cons, List.not_mem_nil, or_false] at hx; rcases hx with hx | hx | hx | hx | hx <;> (rw [hx]; simp <;> omega))).sub (l' := [(xb, 119, CC), (w.heap.size + 4, 37, #[.int .i64 0, .int .i64 0, .int .i64 0]), (w.heap.size + 3, 44, M), (w.heap.size + 2, 78, FA), (w.heap.size + 1, 34, #[.int .i64 qk, .int .i64 qn, .slice SB sl sc]), (w.heap.size, 44, M)]) (by intro x hx; simp only [List.mem_cons, List.not_mem_nil, or_false] at hx ⊢; rcases hx with h | h | h | h | h | h <;> simp [h])))
   refine rd 3 (h := fun K hK => ?_)
   go_simp
   clear hst
   refine so hK (by (try dsimp only); (exact HS2.out _ _ _ HX.out)) (h := fun hHeld => ?_)
   clear hK K
   have hst := run_sstR e n g HX.out.tl.hd zeroR_size
   have HX := Lib.hid ((((HX.out.sub (l' := [(w.heap.size + 4, 37, #[.int .i64 0, .int .i64 0, .int .i64 0]), (xb, 119, CC), (w.heap.size + 3, 44, M), (w.heap.size + 2, 78, FA), (w.heap.size + 1, 34, #[.int .i64 qk, .int .i64 qn, .slice SB sl sc]), (w.heap.size, 44, M)]) (by intro x hx; simp only [List.mem_cons, List.not_mem_nil, or_false] at hx ⊢; rcases hx with h | h | h | h | h | h <;> simp [h])).put #[.int .i64 e, .int .i64 n, .int .i64 g] (by omega) (by have := HTB.out; intro x hx; simp only [List.mem_cons, List.not_mem_nil, or_false] at hx; rcases hx with hx | hx | hx | hx | hx <;> (rw [hx]; simp <;> omega))).sub (l' := [(xb, 119, CC), (w.heap.size + 4, 37, #[.int .i64 e, .int .i64 n, .int .i64 g]), (w.heap.size + 3, 44, M), (w.heap.size + 2, 78, FA), (w.heap.size + 1, 34, #[.int .i64 qk, .int .i64 qn, .slice SB sl sc]), (w.heap.size, 44, M)]) (by intro x hx; simp only [List.mem_cons, List.not_mem_nil, or_false] at hx ⊢; rcases hx with h | h | h | h | h | h <;> simp [h])))
   refine rd 4 (h := fun K hK => ?_)
   go_simp
   clear hst
   refine so hK (by (try dsimp only); (exact HS2.out _ _ _ HX.out)) (h := fun hHeld => ?_)
   clear hK K
   refine wpAnyH_done (by kernel_rfl) ?_ _
   try simp only [Act.put, List.getElem_toArray, List.getElem_cons_succ, List.getElem_cons_zero, List.setIfInBounds_toArray, List.set_cons_zero, List.set_cons_succ]
   go_wp2_with fail
   refine bodyPost_ret (results_cell_row2 rfl _ _ (w.heap.size + 3) (w.heap.size + 4) 44 37 M #[.int .i64 e, .int .i64 n, .int .i64 g] (0, 0) (0, 0) _ _ rfl HX.out.tl.tl.hd Tryz.underlying44 rfl (by rw [HML.out]; exact info_sM107) rfl HX.out.tl.hd Tryz.underlying37 rfl info_sR) rfl ?_
   exact ⟨by rw [HR3'.out h0], HX.out.bel⟩
end Go.Proofs.YtpafenlcgcenlaaGreatDoor
namespace Go.Proofs.YtpafenlcgcenlaaGreatDoor
open Go Go.RowKit
set_option linter.unusedVariables false
set_option linter.unusedSimpArgs false
theorem fieldsM_is : ∃ f0 f1 f2 f3 f4 f5 f6 : Field, (Tryz.prog.fieldsOf 44).toList = [f0, f1, f2, f3, f4, f5, f6] ∧ (f0.name ≠ "_" ∧ f0.type = 3 ∧ f0.offset = 0) ∧ (f1.name ≠ "_" ∧ f1.type = 42 ∧ f1.offset = 1) ∧ (f2.name ≠ "_" ∧ f2.type = 3 ∧ f2.offset = 69) ∧ (f3.name ≠ "_" ∧ f3.type = 3 ∧ f3.offset = 70) ∧ (f4.name ≠ "_" ∧ f4.type = 41 ∧ f4.offset = 71) ∧ (f5.name ≠ "_" ∧ f5.type = 3 ∧ f5.offset = 105) ∧ (f6.name ≠ "_" ∧ f6.type = 3 ∧ f6.offset = 106) :=
 ⟨{ name := "Active", type := 3, offset := 0, embedded := false, tag := "", pkgPath := "", byteOffset := 0 }, { name := "Have", type := 42, offset := 1, embedded := false, tag := "", pkgPath := "", byteOffset := 8 },
  { name := "Min", type := 3, offset := 69, embedded := false, tag := "", pkgPath := "", byteOffset := 104 }, { name := "Phase", type := 3, offset := 70, embedded := false, tag := "", pkgPath := "", byteOffset := 112 },
  { name := "Coming", type := 41, offset := 71, embedded := false, tag := "", pkgPath := "", byteOffset := 120 }, { name := "Got", type := 3, offset := 105, embedded := false, tag := "", pkgPath := "", byteOffset := 168 }, { name := "Trials", type := 3, offset := 106, embedded := false, tag := "", pkgPath := "", byteOffset := 176 },
  by kernel_rfl, ⟨by decide, rfl, rfl⟩, ⟨by decide, rfl, rfl⟩, ⟨by decide, rfl, rfl⟩, ⟨by decide, rfl, rfl⟩, ⟨by decide, rfl, rfl⟩, ⟨by decide, rfl, rfl⟩, ⟨by decide, rfl, rfl⟩⟩
theorem info_sA : (Tryz.prog.info? 42).map (·.size) = some 68 := by kernel_rfl
theorem Mt.c_have {m : Mt} (h : m.Ok) : (m.cells.drop 1).take 68 = m.h0.cells ++ m.h1.cells := by
 simp only [Mt.cells, List.drop_succ_cons, List.drop_zero]
 rw [← List.append_assoc, List.take_append_of_le_length (by rw [List.length_append, Img.cells_len h.d0, Img.cells_len h.d1]; omega), List.take_of_length_le (by rw [List.length_append, Img.cells_len h.d0, Img.cells_len h.d1]; omega)]
theorem eqM_refl (d : Nat) (m : Mt) (h : m.Ok) (w : World) : (Op.equalIn (d + 5) 44 (.agg m.cells.toArray) (.agg m.cells.toArray)).run Tryz.prog w = .ok true w := by
 rw [run_equalIn_struct w (d + 4) 44 _ _ fieldsM heldM]
 obtain ⟨f0, f1, f2, f3, f4, f5, f6, hf, ⟨n0, t0, o0⟩, ⟨n1, t1, o1⟩, ⟨n2, t2, o2⟩, ⟨n3, t3, o3⟩, ⟨n4, t4, o4⟩, ⟨n5, t5, o5⟩, n6, t6, o6⟩ := fieldsM_is
 have pI : ∀ (o : Nat) (v : Int), m.cells[o]? = some (i64v v) → (part 3 m.cells.toArray o).run Tryz.prog w = .ok (i64v v) w := fun o v hv => part_one w _ _ Tryz.underlying3 _ _ _ hv
 have eI : ∀ v : Int, (Op.equalIn (d + 4) 3 (i64v v) (i64v v)).run Tryz.prog w = .ok true w := fun v => by
  have q := run_equalIn_int (P := Tryz.prog) w (d + 3) 3 .i64 .i64 v v Tryz.underlying3
  rw [beq_self_eq_true] at q
  exact q
 have pA : (part 42 m.cells.toArray 1).run Tryz.prog w = .ok (.agg (m.h0.cells ++ m.h1.cells).toArray) w :=
  part_agg w _ _ Tryz.underlying42 rfl 68 info_sA _ _ _ (Mt.c_have h)
 have pC : (part 41 m.cells.toArray 71).run Tryz.prog w = .ok (.agg m.cm.cells.toArray) w :=
  part_agg w _ _ Tryz.underlying41 rfl 34 info_sI _ _ _ (Mt.c_cm h)
 have eC : (Op.equalIn (d + 4) 41 (.agg m.cm.cells.toArray) (.agg m.cm.cells.toArray)).run Tryz.prog w = .ok true w := by
  have q := eqI_run (d + 1) m.cm m.cm h.d2 h.d2 w
  rw [Img.same_refl] at q
  exact q
 rw [hf, eqF_cons w (d + 4) _ _ f0 _ n0 (i64v m.act) (i64v m.act) true (by rw [t0, o0]; exact pI _ _ Mt.c0) (by rw [t0, o0]; exact pI _ _ Mt.c0) (by rw [t0]; exact eI _), if_pos rfl,
  eqF_cons w (d + 4) _ _ f1 _ n1 _ _ true (by rw [t1, o1]; exact pA) (by rw [t1, o1]; exact pA) (by rw [t1]; exact eqA_refl d m.h0 m.h1 h.d0 h.d1 w), if_pos rfl,
  eqF_cons w (d + 4) _ _ f2 _ n2 (i64v m.mn) (i64v m.mn) true (by rw [t2, o2]; exact pI _ _ (Mt.c69 h)) (by rw [t2, o2]; exact pI _ _ (Mt.c69 h)) (by rw [t2]; exact eI _), if_pos rfl,
  eqF_cons w (d + 4) _ _ f3 _ n3 (i64v m.ph) (i64v m.ph) true (by rw [t3, o3]; exact pI _ _ (Mt.c70 h)) (by rw [t3, o3]; exact pI _ _ (Mt.c70 h)) (by rw [t3]; exact eI _), if_pos rfl,
  eqF_cons w (d + 4) _ _ f4 _ n4 _ _ true (by rw [t4, o4]; exact pC) (by rw [t4, o4]; exact pC) (by rw [t4]; exact eC), if_pos rfl,
  eqF_cons w (d + 4) _ _ f5 _ n5 (i64v m.got) (i64v m.got) true (by rw [t5, o5]; exact pI _ _ (Mt.c105 h)) (by rw [t5, o5]; exact pI _ _ (Mt.c105 h)) (by rw [t5]; exact eI _), if_pos rfl,
  eqF_cons w (d + 4) _ _ f6 _ n6 (i64v m.tr) (i64v m.tr) true (by rw [t6, o6]; exact pI _ _ (Mt.c106 h)) (by rw [t6, o6]; exact pI _ _ (Mt.c106 h)) (by rw [t6]; exact eI _), if_pos rfl]
 simp [Op.eqFields]
theorem neqM (m : Mt) (h : m.Ok) (w : World) : (binOp .neq 44 (.agg m.cells.toArray) (.agg m.cells.toArray)).run Tryz.prog w = .ok (.bool false) w := by
 rw [run_neq_struct, eqM_refl 9995 m h w]
 rfl
theorem fieldsR : Tryz.prog.underlying 37 = some (.struct (Tryz.prog.fieldsOf 37)) := by kernel_rfl
theorem heldR : Tryz.prog.stoodInHeld 37 = false := by kernel_rfl
theorem fieldsR_is : ∃ f0 f1 f2 : Field, (Tryz.prog.fieldsOf 37).toList = [f0, f1, f2] ∧ (f0.name ≠ "_" ∧ f0.type = 35 ∧ f0.offset = 0) ∧ (f1.name ≠ "_" ∧ f1.type = 3 ∧ f1.offset = 1) ∧ (f2.name ≠ "_" ∧ f2.type = 3 ∧ f2.offset = 2) :=
 ⟨{ name := "Err", type := 35, offset := 0, embedded := false, tag := "", pkgPath := "", byteOffset := 0 }, { name := "N", type := 3, offset := 1, embedded := false, tag := "", pkgPath := "", byteOffset := 8 }, { name := "Got", type := 3, offset := 2, embedded := false, tag := "", pkgPath := "", byteOffset := 16 },
  by kernel_rfl, ⟨by decide, rfl, rfl⟩, ⟨by decide, rfl, rfl⟩, ⟨by decide, rfl, rfl⟩⟩
theorem eqR_run (d : Nat) (a b c a' b' c' : Int) (w : World) :
  (Op.equalIn (d + 2) 37 (.agg #[.int .i64 a, .int .i64 b, .int .i64 c]) (.agg #[.int .i64 a', .int .i64 b', .int .i64 c'])).run Tryz.prog w = .ok (a == a' && (b == b' && c == c')) w := by
 rw [run_equalIn_struct w (d + 1) 37 _ _ fieldsR heldR]
 obtain ⟨f0, f1, f2, hf, ⟨n0, t0, o0⟩, ⟨n1, t1, o1⟩, n2, t2, o2⟩ := fieldsR_is
 have p0 : ∀ x y z : Int, (part 35 #[.int .i64 x, .int .i64 y, .int .i64 z] 0).run Tryz.prog w = .ok (i64v x) w := fun x y z => part_one w _ _ Tryz.underlying35 [i64v x, i64v y, i64v z] 0 _ rfl
 have p1 : ∀ x y z : Int, (part 3 #[.int .i64 x, .int .i64 y, .int .i64 z] 1).run Tryz.prog w = .ok (i64v y) w := fun x y z => part_one w _ _ Tryz.underlying3 [i64v x, i64v y, i64v z] 1 _ rfl
 have p2 : ∀ x y z : Int, (part 3 #[.int .i64 x, .int .i64 y, .int .i64 z] 2).run Tryz.prog w = .ok (i64v z) w := fun x y z => part_one w _ _ Tryz.underlying3 [i64v x, i64v y, i64v z] 2 _ rfl
 rw [hf, eqF_cons w (d + 1) _ _ f0 _ n0 (i64v a) (i64v a') (a == a') (by rw [t0, o0]; exact p0 _ _ _) (by rw [t0, o0]; exact p0 _ _ _) (by rw [t0]; exact run_equalIn_int w d _ .i64 .i64 _ _ Tryz.underlying35),
  eqF_cons w (d + 1) _ _ f1 _ n1 (i64v b) (i64v b') (b == b') (by rw [t1, o1]; exact p1 _ _ _) (by rw [t1, o1]; exact p1 _ _ _) (by rw [t1]; exact run_equalIn_int w d _ .i64 .i64 _ _ Tryz.underlying3),
  eqF_cons w (d + 1) _ _ f2 _ n2 (i64v c) (i64v c') (c == c') (by rw [t2, o2]; exact p2 _ _ _) (by rw [t2, o2]; exact p2 _ _ _) (by rw [t2]; exact run_equalIn_int w d _ .i64 .i64 _ _ Tryz.underlying3)]
 cases a == a' <;> cases b == b' <;> cases c == c' <;> simp [Op.eqFields]
theorem eqlR (a b c a' b' c' : Int) (w : World) : (binOp .eql 37 (.agg #[.int .i64 a, .int .i64 b, .int .i64 c]) (.agg #[.int .i64 a', .int .i64 b', .int .i64 c'])).run Tryz.prog w = .ok (.bool (a == a' && (b == b' && c == c'))) w := by
 rw [run_eql_struct, eqR_run 9998 a b c a' b' c' w]
 rfl
end Go.Proofs.YtpafenlcgcenlaaGreatDoor
