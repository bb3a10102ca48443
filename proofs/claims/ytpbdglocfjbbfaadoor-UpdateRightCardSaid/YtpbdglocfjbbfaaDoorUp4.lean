/- update.idle, update.alone. -/
import Derived.Test.YtpbdglocfjbbfaaDoorUp3
namespace Go.Proofs.YtpbdglocfjbbfaaDoor
open Go Go.RowKit
set_option linter.unusedVariables false
set_option linter.unusedSimpArgs false
attribute [local go_sem ↓] sldI_seal sldM_seal sstM_seal sstI_seal
def Mt.idle (m : Mt) : Mt := { m with ph := 0, cm := Img.zero, got := 0, tr := 0 }
theorem Mt.idle_ok {m : Mt} (h : m.Ok) : m.idle.Ok := ⟨h.d0, h.d1, rfl, h.act⟩
theorem Blk.setCells_far {g k : Nat} {t : TypeId} {cs : Array Value} (hk : g ≠ k) : ∀ (l : List Value) (o : Nat) (W : World), Blk W k t cs → Blk (W.setCells g o l) k t cs
  | [], _, _, h => h
  | v :: r, o, W, h => Blk.setCells_far hk r (o + 1) _ (h.far (fun e => hk e.symm) v)
theorem Blk.some {W : World} {g : Nat} {t : TypeId} {m : Mt} (B : Blk W g t m.cells.toArray) (o : m.Ok) (k : Nat) (hk : k < 107) : ∃ u, W.cell? ⟨g, k, none⟩ = some u := by
  rw [B.cell]
  exact ⟨_, Array.getElem?_eq_getElem (by rw [List.size_toArray, Mt.cells_len o]; exact hk)⟩
set_option maxRecDepth 100000 in
set_option maxHeartbeats 1000000 in
theorem idle_c (w : World) (m : Mt) (h : m.Ok) : Calls Tryd.prog 56 #[.agg m.cells.toArray] w fun e w' => e = .returned (.agg m.idle.cells.toArray) ∧ Below w.heap.size w w' := by
  have hB0 := Blk.new w 27 m.cells.toArray
  have hZ0 := Blk.new (w.alloc (.cells m.cells.toArray 27)) 27 Tryd.zeroCells27
  have hB1 := hB0.alloc (.cells Tryd.zeroCells27 27)
  have hs : (w.alloc (.cells m.cells.toArray 27)).heap.size = w.heap.size + 1 := by simp
  rw [hs] at hZ0
  have hbel : Below w.heap.size w ((w.alloc (.cells m.cells.toArray 27)).alloc (.cells Tryd.zeroCells27 27)) := ((Below.refl _ _).alloc (Nat.le_refl _) _).alloc (by simp) _
  clear hB0 hs
  obtain ⟨M, hM⟩ : ∃ M, m.cells.toArray = M := ⟨_, rfl⟩
  have HM := Lib.hid hM
  rw [hM] at hZ0 hB1 hbel ⊢
  clear hM
  go_enter Tryd.func56, Tryd.ntmps56
  go_upto_region 1 with fail
  generalize (w.alloc (.cells M 27)).alloc (.cells Tryd.zeroCells27 27) = W2 at hZ0 hB1 hbel ⊢
  rw [← HM.out] at hB1
  have o1 : ({ m with ph := 0 } : Mt).Ok := ⟨h.d0, h.d1, h.d2, h.act⟩
  have o2 : ({ m with ph := 0, cm := Img.zero } : Mt).Ok := ⟨h.d0, h.d1, rfl, h.act⟩
  have o3 : ({ m with ph := 0, cm := Img.zero, got := 0 } : Mt).Ok := ⟨h.d0, h.d1, rfl, h.act⟩
  have B1 := hB1.setPhase h 0
  have hst := run_sstI B1 71 (by rw [List.size_toArray, Mt.cells_len o1]; omega) Img.zero rfl
  rw [← zeroI_eq] at hst
  have B2 := B1.putCm o1 Img.zero rfl
  have B3 := B2.setGot o2 0
  have B4 := B3.setTrials o3 0
  obtain ⟨u1, k1⟩ := hB1.some h 70 (by omega)
  obtain ⟨u2, k2⟩ := B2.some o2 105 (by omega)
  obtain ⟨u3, k3⟩ := B3.some o3 106 (by omega)
  have f1 := hB1.frozen 70
  have f2 := B2.frozen 105
  have f3 := B3.frozen 106
  have bl4 : Below w.heap.size w ((((W2.setCell ⟨w.heap.size, 70, none⟩ (i64v 0)).setCells w.heap.size 71 Img.zero.cells).setCell ⟨w.heap.size, 105, none⟩ (i64v 0)).setCell ⟨w.heap.size, 106, none⟩ (i64v 0)) :=
    ((below_setCells (Nat.le_refl _) _ _ _ (hbel.setCell (Nat.le_refl _) _)).setCell (Nat.le_refl _) _).setCell (Nat.le_refl _) _
  have hZ1 := (((Blk.setCells_far (show w.heap.size ≠ w.heap.size + 1 by omega) Img.zero.cells 71 _ (hZ0.far (p := ⟨w.heap.size, 70, none⟩) (by simp) (i64v 0))).far (p := ⟨w.heap.size, 105, none⟩) (by simp) (i64v 0)).far (p := ⟨w.heap.size, 106, none⟩) (by simp) (i64v 0))
  clear hZ0
  have B4' : Blk _ _ _ m.idle.cells.toArray := B4
  have oi := Mt.idle_ok h
  have hlI := Mt.cells_len oi
  generalize Img.zero.cells = ZC at *
  have HB4 := Lib.hid B4'
  have HZ := Lib.hid hZ1
  have HBL := Lib.hid bl4
  clear B1 B2 B3 B4 B4' hB1 hZ1 hbel bl4
  go_upto_region 2 with fail
  have hB := HB4.out
  have hZ := HZ.out
  have hL := HBL.out
  clear HB4 HZ HBL hst k1 k2 k3 f1 f2 f3
  generalize (((W2.setCell ⟨w.heap.size, 70, none⟩ (i64v 0)).setCells w.heap.size 71 ZC).setCell ⟨w.heap.size, 105, none⟩ (i64v 0)).setCell ⟨w.heap.size, 106, none⟩ (i64v 0) = W6 at hB hZ hL ⊢
  have hld := run_sldM hlI hB.whole
  have hst := run_sstM m.idle.cells hZ (by rw [zeroC_M, List.size_toArray, Mt.cells_len Mt.zero_ok, hlI]) (by rw [hlI]; kernel_rfl) (Mt.one _)
  have HZ := Lib.hid hZ
  have HL := Lib.hid hL
  clear hB hZ hL
  go_wp2_with fail
  refine bodyPost_ret (results_cell_row rfl _ _ (w.heap.size + 1) 27 m.idle.cells.toArray (0, 0) _ rfl (HZ.out.setRow_m _) Tryd.underlying27 rfl (by rw [List.size_toArray, hlI]; kernel_rfl)) rfl ?_
  exact ⟨rfl, below_setRow_m HL.out (by omega) _⟩
/-- The other slot has no image. -/
def Mt.alone (m : Mt) : Mt := if m.act = 0 then { m with h1 := Img.zero } else { m with h0 := Img.zero }
set_option maxRecDepth 100000 in
set_option maxHeartbeats 1000000 in
theorem alone_c (w : World) (m : Mt) (h : m.Ok) (hact : m.act = 0 ∨ m.act = 1) : Calls Tryd.prog 52 #[.agg m.cells.toArray] w fun e w' => e = .returned (.agg m.alone.cells.toArray) ∧ Below w.heap.size w w' := by
  rcases hact with ha | ha
  · have oi : ({ m with h1 := Img.zero } : Mt).Ok := ⟨h.d0, rfl, h.d2, h.act⟩
    have hlI := Mt.cells_len oi
    have hal : m.alone = { m with h1 := Img.zero } := by unfold Mt.alone; rw [ha]; rfl
    rw [hal]
    obtain ⟨MM, hMM⟩ : ∃ MM : Mt, { m with h1 := Img.zero } = MM := ⟨_, rfl⟩
    rw [hMM] at oi hlI ⊢
    have HMM := Lib.hid hMM
    clear hMM hal
    have hB0 := Blk.new w 27 m.cells.toArray
    have hZ0 := Blk.new (w.alloc (.cells m.cells.toArray 27)) 27 Tryd.zeroCells27
    have hB1 := hB0.alloc (.cells Tryd.zeroCells27 27)
    have hs : (w.alloc (.cells m.cells.toArray 27)).heap.size = w.heap.size + 1 := by simp
    rw [hs] at hZ0
    have hbel : Below w.heap.size w ((w.alloc (.cells m.cells.toArray 27)).alloc (.cells Tryd.zeroCells27 27)) := ((Below.refl _ _).alloc (Nat.le_refl _) _).alloc (by simp) _
    have hsz : w.heap.size + 2 ≤ ((w.alloc (.cells m.cells.toArray 27)).alloc (.cells Tryd.zeroCells27 27)).heap.size := by simp
    clear hB0 hs
    obtain ⟨M, hM⟩ : ∃ M, m.cells.toArray = M := ⟨_, rfl⟩
    have HM := Lib.hid hM
    have hoth : ∀ W, Calls Tryd.prog 50 #[.agg M] W fun e w' => e = .returned (.int .i64 1) ∧ Below W.heap.size W w' := fun W => hM ▸ (other_c W m h (by omega)).mono fun e w' ⟨h1, h2⟩ => ⟨by rw [h1, ha]; rfl, h2⟩
    rw [hM] at hZ0 hB1 hbel hsz ⊢
    clear hM
    go_enter Tryd.func52, Tryd.ntmps52
    go_upto_region 1 with fail
    generalize (w.alloc (.cells M 27)).alloc (.cells Tryd.zeroCells27 27) = W2 at hZ0 hB1 hbel hsz ⊢
    rw [← HM.out] at hB1
    have hld := run_sldM (Mt.cells_len h) hB1.whole
    rw [HM.out] at hld
    have HB1 := Lib.hid hB1
    have HZ0 := Lib.hid hZ0
    have HBL := Lib.hid hbel
    clear hB1 hZ0 hbel
    go_wp2_with fail
    refine (hoth W2).mono ?_
    rintro e W3 ⟨rfl, hb3⟩
    have B3 := HB1.out.below hb3 (by omega)
    have Z3 := HZ0.out.below hb3 (by omega)
    have L3 := HBL.out.trans (hb3.mono (by omega))
    have hst := run_sstI B3 35 (by rw [List.size_toArray, Mt.cells_len h]; omega) Img.zero rfl
    rw [← zeroI_eq] at hst
    have B4 : Blk _ _ _ ({ m with h1 := Img.zero } : Mt).cells.toArray := B3.putH1 h Img.zero rfl
    have Z4 := Blk.setCells_far (show w.heap.size ≠ w.heap.size + 1 by omega) Img.zero.cells 35 _ Z3
    have L4 := below_setCells (Nat.le_refl w.heap.size) Img.zero.cells 35 _ L3
    rw [HMM.out] at B4
    generalize Img.zero.cells = ZC at *
    have HB4 := Lib.hid B4
    have HZ4 := Lib.hid Z4
    have HL4 := Lib.hid L4
    clear B3 Z3 L3 B4 Z4 L4 hb3 hld
    go_upto_region 2 with fail
    have hB := HB4.out
    have hZ := HZ4.out
    have hL := HL4.out
    clear HB4 HZ4 HL4 hst HB1 HZ0 HBL
    generalize W3.setCells w.heap.size 35 ZC = W6 at hB hZ hL ⊢
    have hld := run_sldM hlI hB.whole
    have hst := run_sstM MM.cells hZ (by rw [zeroC_M, List.size_toArray, Mt.cells_len Mt.zero_ok, hlI]) (by rw [hlI]; kernel_rfl) (Mt.one _)
    have HZ := Lib.hid hZ
    have HL := Lib.hid hL
    clear hB hZ hL
    go_wp2_with fail
    refine bodyPost_ret (results_cell_row rfl _ _ (w.heap.size + 1) 27 MM.cells.toArray (0, 0) _ rfl (HZ.out.setRow_m _) Tryd.underlying27 rfl (by rw [List.size_toArray, hlI]; kernel_rfl)) rfl ?_
    exact ⟨rfl, below_setRow_m HL.out (by omega) _⟩
  · have oi : ({ m with h0 := Img.zero } : Mt).Ok := ⟨rfl, h.d1, h.d2, h.act⟩
    have hlI := Mt.cells_len oi
    have hal : m.alone = { m with h0 := Img.zero } := by unfold Mt.alone; rw [ha]; rfl
    rw [hal]
    obtain ⟨MM, hMM⟩ : ∃ MM : Mt, { m with h0 := Img.zero } = MM := ⟨_, rfl⟩
    rw [hMM] at oi hlI ⊢
    have HMM := Lib.hid hMM
    clear hMM hal
    have hB0 := Blk.new w 27 m.cells.toArray
    have hZ0 := Blk.new (w.alloc (.cells m.cells.toArray 27)) 27 Tryd.zeroCells27
    have hB1 := hB0.alloc (.cells Tryd.zeroCells27 27)
    have hs : (w.alloc (.cells m.cells.toArray 27)).heap.size = w.heap.size + 1 := by simp
    rw [hs] at hZ0
    have hbel : Below w.heap.size w ((w.alloc (.cells m.cells.toArray 27)).alloc (.cells Tryd.zeroCells27 27)) := ((Below.refl _ _).alloc (Nat.le_refl _) _).alloc (by simp) _
    have hsz : w.heap.size + 2 ≤ ((w.alloc (.cells m.cells.toArray 27)).alloc (.cells Tryd.zeroCells27 27)).heap.size := by simp
    clear hB0 hs
    obtain ⟨M, hM⟩ : ∃ M, m.cells.toArray = M := ⟨_, rfl⟩
    have HM := Lib.hid hM
    have hoth : ∀ W, Calls Tryd.prog 50 #[.agg M] W fun e w' => e = .returned (.int .i64 0) ∧ Below W.heap.size W w' := fun W => hM ▸ (other_c W m h (by omega)).mono fun e w' ⟨h1, h2⟩ => ⟨by rw [h1, ha]; rfl, h2⟩
    rw [hM] at hZ0 hB1 hbel hsz ⊢
    clear hM
    go_enter Tryd.func52, Tryd.ntmps52
    go_upto_region 1 with fail
    generalize (w.alloc (.cells M 27)).alloc (.cells Tryd.zeroCells27 27) = W2 at hZ0 hB1 hbel hsz ⊢
    rw [← HM.out] at hB1
    have hld := run_sldM (Mt.cells_len h) hB1.whole
    rw [HM.out] at hld
    have HB1 := Lib.hid hB1
    have HZ0 := Lib.hid hZ0
    have HBL := Lib.hid hbel
    clear hB1 hZ0 hbel
    go_wp2_with fail
    refine (hoth W2).mono ?_
    rintro e W3 ⟨rfl, hb3⟩
    have B3 := HB1.out.below hb3 (by omega)
    have Z3 := HZ0.out.below hb3 (by omega)
    have L3 := HBL.out.trans (hb3.mono (by omega))
    have hst := run_sstI B3 1 (by rw [List.size_toArray, Mt.cells_len h]; omega) Img.zero rfl
    rw [← zeroI_eq] at hst
    have B4 : Blk _ _ _ ({ m with h0 := Img.zero } : Mt).cells.toArray := B3.putH0 h Img.zero rfl
    have Z4 := Blk.setCells_far (show w.heap.size ≠ w.heap.size + 1 by omega) Img.zero.cells 1 _ Z3
    have L4 := below_setCells (Nat.le_refl w.heap.size) Img.zero.cells 1 _ L3
    rw [HMM.out] at B4
    generalize Img.zero.cells = ZC at *
    have HB4 := Lib.hid B4
    have HZ4 := Lib.hid Z4
    have HL4 := Lib.hid L4
    clear B3 Z3 L3 B4 Z4 L4 hb3 hld
    go_upto_region 2 with fail
    have hB := HB4.out
    have hZ := HZ4.out
    have hL := HL4.out
    clear HB4 HZ4 HL4 hst HB1 HZ0 HBL
    generalize W3.setCells w.heap.size 1 ZC = W6 at hB hZ hL ⊢
    have hld := run_sldM hlI hB.whole
    have hst := run_sstM MM.cells hZ (by rw [zeroC_M, List.size_toArray, Mt.cells_len Mt.zero_ok, hlI]) (by rw [hlI]; kernel_rfl) (Mt.one _)
    have HZ := Lib.hid hZ
    have HL := Lib.hid hL
    clear hB hZ hL
    go_wp2_with fail
    refine bodyPost_ret (results_cell_row rfl _ _ (w.heap.size + 1) 27 MM.cells.toArray (0, 0) _ rfl (HZ.out.setRow_m _) Tryd.underlying27 rfl (by rw [List.size_toArray, hlI]; kernel_rfl)) rfl ?_
    exact ⟨rfl, below_setRow_m HL.out (by omega) _⟩
end Go.Proofs.YtpbdglocfjbbfaaDoor
