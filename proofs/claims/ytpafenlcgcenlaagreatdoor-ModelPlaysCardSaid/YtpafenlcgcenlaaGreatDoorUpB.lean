/- update.idle, update.alone. · update.Len, version.May, version.Confirm. · What was found beside a request, as data: its cells. · update.rollback, update.abort. -/
import Derived.Test.YtpafenlcgcenlaaGreatDoorHeldTk
import Derived.Test.YtpafenlcgcenlaaGreatDoorUpA
import Derived.Deep.RegionHeld3
import Derived.Deep.DrawnRows
namespace Go.Proofs.YtpafenlcgcenlaaGreatDoor
open Go Go.RowKit
set_option linter.unusedVariables false
set_option linter.unusedSimpArgs false
attribute [local go_sem ↓] sldI_seal sldM_seal sstM_seal sstI_seal
def Mt.idle (m : Mt) : Mt := { m with ph := 0, cm := Img.zero, got := 0, tr := 0 }
theorem Mt.idle_ok {m : Mt} (h : m.Ok) : m.idle.Ok := ⟨h.d0, h.d1, rfl, h.act⟩
theorem Blk.setCells_far {g k : Nat} {t : TypeId} {cs : Array Value} (hk : g ≠ k) : ∀ (l : List Value) (o : Nat) (W : World), Blk W k t cs → Blk (W.setCells g o l) k t cs
 | [], _, _, h => h
 | v :: r, o, W, h => Blk.setCells_far hk r (o + 1) _ (h.far (fun e => hk e.symm) v)
theorem Blk.some {W : World} {g : Nat} {t : TypeId} {m : Mt} (B : Blk W g t m.cells.toArray) (o : m.Ok) (k : Nat) (hk : k < 107) : ∃ u, W.cell? ⟨g, k, none⟩ = some u := by
 rw [B.cell]
 exact ⟨_, Array.getElem?_eq_getElem (by rw [List.size_toArray, Mt.cells_len o]; exact hk)⟩
set_option maxRecDepth 100000 in
set_option maxHeartbeats 1000000 in
theorem idle_c (w : World) (m : Mt) (h : m.Ok) : Calls Tryz.prog 153 #[.agg m.cells.toArray] w fun e w' => e = .returned (.agg m.idle.cells.toArray) ∧ Below w.heap.size w w' := by
 have hB0 := Blk.new w 44 m.cells.toArray
 have hZ0 := Blk.new (w.alloc (.cells m.cells.toArray 44)) 44 Tryz.zeroCells44
 have hB1 := hB0.alloc (.cells Tryz.zeroCells44 44)
 have hs : (w.alloc (.cells m.cells.toArray 44)).heap.size = w.heap.size + 1 := by simp
 rw [hs] at hZ0
 have hbel : Below w.heap.size w ((w.alloc (.cells m.cells.toArray 44)).alloc (.cells Tryz.zeroCells44 44)) := ((Below.refl _ _).alloc (Nat.le_refl _) _).alloc (by simp) _
 clear hB0 hs
 obtain ⟨M, hM⟩ : ∃ M, m.cells.toArray = M := ⟨_, rfl⟩
 have HM := Lib.hid hM
 rw [hM] at hZ0 hB1 hbel ⊢
 clear hM
 go_enter Tryz.func153, Tryz.ntmps153
 go_upto_region 1 with fail
 generalize (w.alloc (.cells M 44)).alloc (.cells Tryz.zeroCells44 44) = W2 at hZ0 hB1 hbel ⊢
 rw [← HM.out] at hB1
 have o1 : ({ m with ph := 0 } : Mt).Ok := ⟨h.d0, h.d1, h.d2, h.act⟩
 have o2 : ({ m with ph := 0, cm := Img.zero } : Mt).Ok := ⟨h.d0, h.d1, rfl, h.act⟩
 have o3 : ({ m with ph := 0, cm := Img.zero, got := 0 } : Mt).Ok := ⟨h.d0, h.d1, rfl, h.act⟩
 have B1 := hB1.setPhase h 0
 have hst := run_sstI B1 71 (by rw [List.size_toArray, Mt.cells_len o1]; omega) Img.zero rfl
 rw [← zeroI_eq] at hst
 have B2 := B1.putCm o1 Img.zero rfl
 have B3 := B2.setGot o2 0
 have B4 := B3.setTrials o3 0
 obtain ⟨u1, k1⟩ := hB1.some h 70 (by omega)
 obtain ⟨u2, k2⟩ := B2.some o2 105 (by omega)
 obtain ⟨u3, k3⟩ := B3.some o3 106 (by omega)
 have f1 := hB1.frozen 70
 have f2 := B2.frozen 105
 have f3 := B3.frozen 106
 have bl4 : Below w.heap.size w ((((W2.setCell ⟨w.heap.size, 70, none⟩ (i64v 0)).setCells w.heap.size 71 Img.zero.cells).setCell ⟨w.heap.size, 105, none⟩ (i64v 0)).setCell ⟨w.heap.size, 106, none⟩ (i64v 0)) :=
  ((below_setCells (Nat.le_refl _) _ _ _ (hbel.setCell (Nat.le_refl _) _)).setCell (Nat.le_refl _) _).setCell (Nat.le_refl _) _
 have hZ1 := (((Blk.setCells_far (show w.heap.size ≠ w.heap.size + 1 by omega) Img.zero.cells 71 _ (hZ0.far (p := ⟨w.heap.size, 70, none⟩) (by simp) (i64v 0))).far (p := ⟨w.heap.size, 105, none⟩) (by simp) (i64v 0)).far (p := ⟨w.heap.size, 106, none⟩) (by simp) (i64v 0))
 clear hZ0
 have B4' : Blk _ _ _ m.idle.cells.toArray := B4
 have oi := Mt.idle_ok h
 have hlI := Mt.cells_len oi
 generalize Img.zero.cells = ZC at *
 have HB4 := Lib.hid B4'
 have HZ := Lib.hid hZ1
 have HBL := Lib.hid bl4
 clear B1 B2 B3 B4 B4' hB1 hZ1 hbel bl4
 go_upto_region 2 with fail
 have hB := HB4.out
 have hZ := HZ.out
 have hL := HBL.out
 clear HB4 HZ HBL hst k1 k2 k3 f1 f2 f3
 generalize (((W2.setCell ⟨w.heap.size, 70, none⟩ (i64v 0)).setCells w.heap.size 71 ZC).setCell ⟨w.heap.size, 105, none⟩ (i64v 0)).setCell ⟨w.heap.size, 106, none⟩ (i64v 0) = W6 at hB hZ hL ⊢
 have hld := run_sldM hlI hB.whole
 have hst := run_sstM m.idle.cells hZ (by rw [zeroC_M, List.size_toArray, Mt.cells_len Mt.zero_ok, hlI]) (by rw [hlI]; kernel_rfl) (Mt.one _)
 have HZ := Lib.hid hZ
 have HL := Lib.hid hL
 clear hB hZ hL
 go_wp2_with fail
 refine bodyPost_ret (results_cell_row rfl _ _ (w.heap.size + 1) 44 m.idle.cells.toArray (0, 0) _ rfl (HZ.out.setRow_m _) Tryz.underlying44 rfl (by rw [List.size_toArray, hlI]; kernel_rfl)) rfl ?_
 exact ⟨rfl, below_setRow_m HL.out (by omega) _⟩
/-- The other slot has no image. -/
def Mt.alone (m : Mt) : Mt := if m.act = 0 then { m with h1 := Img.zero } else { m with h0 := Img.zero }
set_option maxRecDepth 100000 in
set_option maxHeartbeats 1000000 in
theorem alone_c (w : World) (m : Mt) (h : m.Ok) (hact : m.act = 0 ∨ m.act = 1) : Calls Tryz.prog 147 #[.agg m.cells.toArray] w fun e w' => e = .returned (.agg m.alone.cells.toArray) ∧ Below w.heap.size w w' := by
 rcases hact with ha | ha
 ·
  have oi : ({ m with h1 := Img.zero } : Mt).Ok := ⟨h.d0, rfl, h.d2, h.act⟩
  have hlI := Mt.cells_len oi
  have hal : m.alone = { m with h1 := Img.zero } := by unfold Mt.alone; rw [ha]; rfl
  rw [hal]
  obtain ⟨MM, hMM⟩ : ∃ MM : Mt, { m with h1 := Img.zero } = MM := ⟨_, rfl⟩
  rw [hMM] at oi hlI ⊢
  have HMM := Lib.hid hMM
  clear hMM hal
  have hB0 := Blk.new w 44 m.cells.toArray
  have hZ0 := Blk.new (w.alloc (.cells m.cells.toArray 44)) 44 Tryz.zeroCells44
  have hB1 := hB0.alloc (.cells Tryz.zeroCells44 44)
  have hs : (w.alloc (.cells m.cells.toArray 44)).heap.size = w.heap.size + 1 := by simp
  rw [hs] at hZ0
  have hbel : Below w.heap.size w ((w.alloc (.cells m.cells.toArray 44)).alloc (.cells Tryz.zeroCells44 44)) := ((Below.refl _ _).alloc (Nat.le_refl _) _).alloc (by simp) _
  have hsz : w.heap.size + 2 ≤ ((w.alloc (.cells m.cells.toArray 44)).alloc (.cells Tryz.zeroCells44 44)).heap.size := by simp
  clear hB0 hs
  obtain ⟨M, hM⟩ : ∃ M, m.cells.toArray = M := ⟨_, rfl⟩
  have HM := Lib.hid hM
  have hoth : ∀ W, Calls Tryz.prog 32 #[.agg M] W fun e w' => e = .returned (.int .i64 1) ∧ Below W.heap.size W w' := fun W => hM ▸ (other_c W m h (by omega)).mono fun e w' ⟨h1, h2⟩ => ⟨by rw [h1, ha]; rfl, h2⟩
  rw [hM] at hZ0 hB1 hbel hsz ⊢
  clear hM
  go_enter Tryz.func147, Tryz.ntmps147
  go_upto_region 1 with fail
  generalize (w.alloc (.cells M 44)).alloc (.cells Tryz.zeroCells44 44) = W2 at hZ0 hB1 hbel hsz ⊢
  rw [← HM.out] at hB1
  have hld := run_sldM (Mt.cells_len h) hB1.whole
  rw [HM.out] at hld
  have HB1 := Lib.hid hB1
  have HZ0 := Lib.hid hZ0
  have HBL := Lib.hid hbel
  clear hB1 hZ0 hbel
  go_wp2_with fail
  refine (hoth W2).mono ?_
  rintro e W3 ⟨rfl, hb3⟩
  have B3 := HB1.out.below hb3 (by omega)
  have Z3 := HZ0.out.below hb3 (by omega)
  have L3 := HBL.out.trans (hb3.mono (by omega))
  have hst := run_sstI B3 35 (by rw [List.size_toArray, Mt.cells_len h]; omega) Img.zero rfl
  rw [← zeroI_eq] at hst
  have B4 : Blk _ _ _ ({ m with h1 := Img.zero } : Mt).cells.toArray := B3.putH1 h Img.zero rfl
  have Z4 := Blk.setCells_far (show w.heap.size ≠ w.heap.size + 1 by omega) Img.zero.cells 35 _ Z3
  have L4 := below_setCells (Nat.le_refl w.heap.size) Img.zero.cells 35 _ L3
  rw [HMM.out] at B4
  generalize Img.zero.cells = ZC at *
  have HB4 := Lib.hid B4
  have HZ4 := Lib.hid Z4
  have HL4 := Lib.hid L4
  clear B3 Z3 L3 B4 Z4 L4 hb3 hld
  go_upto_region 2 with fail
  have hB := HB4.out
  have hZ := HZ4.out
  have hL := HL4.out
  clear HB4 HZ4 HL4 hst HB1 HZ0 HBL
  generalize W3.setCells w.heap.size 35 ZC = W6 at hB hZ hL ⊢
  have hld := run_sldM hlI hB.whole
  have hst := run_sstM MM.cells hZ (by rw [zeroC_M, List.size_toArray, Mt.cells_len Mt.zero_ok, hlI]) (by rw [hlI]; kernel_rfl) (Mt.one _)
  have HZ := Lib.hid hZ
  have HL := Lib.hid hL
  clear hB hZ hL
  go_wp2_with fail
  refine bodyPost_ret (results_cell_row rfl _ _ (w.heap.size + 1) 44 MM.cells.toArray (0, 0) _ rfl (HZ.out.setRow_m _) Tryz.underlying44 rfl (by rw [List.size_toArray, hlI]; kernel_rfl)) rfl ?_
  exact ⟨rfl, below_setRow_m HL.out (by omega) _⟩
 ·
  have oi : ({ m with h0 := Img.zero } : Mt).Ok := ⟨rfl, h.d1, h.d2, h.act⟩
  have hlI := Mt.cells_len oi
  have hal : m.alone = { m with h0 := Img.zero } := by unfold Mt.alone; rw [ha]; rfl
  rw [hal]
  obtain ⟨MM, hMM⟩ : ∃ MM : Mt, { m with h0 := Img.zero } = MM := ⟨_, rfl⟩
  rw [hMM] at oi hlI ⊢
  have HMM := Lib.hid hMM
  clear hMM hal
  have hB0 := Blk.new w 44 m.cells.toArray
  have hZ0 := Blk.new (w.alloc (.cells m.cells.toArray 44)) 44 Tryz.zeroCells44
  have hB1 := hB0.alloc (.cells Tryz.zeroCells44 44)
  have hs : (w.alloc (.cells m.cells.toArray 44)).heap.size = w.heap.size + 1 := by simp
  rw [hs] at hZ0
  have hbel : Below w.heap.size w ((w.alloc (.cells m.cells.toArray 44)).alloc (.cells Tryz.zeroCells44 44)) := ((Below.refl _ _).alloc (Nat.le_refl _) _).alloc (by simp) _
  have hsz : w.heap.size + 2 ≤ ((w.alloc (.cells m.cells.toArray 44)).alloc (.cells Tryz.zeroCells44 44)).heap.size := by simp
  clear hB0 hs
  obtain ⟨M, hM⟩ : ∃ M, m.cells.toArray = M := ⟨_, rfl⟩
  have HM := Lib.hid hM
  have hoth : ∀ W, Calls Tryz.prog 32 #[.agg M] W fun e w' => e = .returned (.int .i64 0) ∧ Below W.heap.size W w' := fun W => hM ▸ (other_c W m h (by omega)).mono fun e w' ⟨h1, h2⟩ => ⟨by rw [h1, ha]; rfl, h2⟩
  rw [hM] at hZ0 hB1 hbel hsz ⊢
  clear hM
  go_enter Tryz.func147, Tryz.ntmps147
  go_upto_region 1 with fail
  generalize (w.alloc (.cells M 44)).alloc (.cells Tryz.zeroCells44 44) = W2 at hZ0 hB1 hbel hsz ⊢
  rw [← HM.out] at hB1
  have hld := run_sldM (Mt.cells_len h) hB1.whole
  rw [HM.out] at hld
  have HB1 := Lib.hid hB1
  have HZ0 := Lib.hid hZ0
  have HBL := Lib.hid hbel
  clear hB1 hZ0 hbel
  go_wp2_with fail
  refine (hoth W2).mono ?_
  rintro e W3 ⟨rfl, hb3⟩
  have B3 := HB1.out.below hb3 (by omega)
  have Z3 := HZ0.out.below hb3 (by omega)
  have L3 := HBL.out.trans (hb3.mono (by omega))
  have hst := run_sstI B3 1 (by rw [List.size_toArray, Mt.cells_len h]; omega) Img.zero rfl
  rw [← zeroI_eq] at hst
  have B4 : Blk _ _ _ ({ m with h0 := Img.zero } : Mt).cells.toArray := B3.putH0 h Img.zero rfl
  have Z4 := Blk.setCells_far (show w.heap.size ≠ w.heap.size + 1 by omega) Img.zero.cells 1 _ Z3
  have L4 := below_setCells (Nat.le_refl w.heap.size) Img.zero.cells 1 _ L3
  rw [HMM.out] at B4
  generalize Img.zero.cells = ZC at *
  have HB4 := Lib.hid B4
  have HZ4 := Lib.hid Z4
  have HL4 := Lib.hid L4
  clear B3 Z3 L3 B4 Z4 L4 hb3 hld
  go_upto_region 2 with fail
  have hB := HB4.out
  have hZ := HZ4.out
  have hL := HL4.out
  clear HB4 HZ4 HL4 hst HB1 HZ0 HBL
  generalize W3.setCells w.heap.size 1 ZC = W6 at hB hZ hL ⊢
  have hld := run_sldM hlI hB.whole
  have hst := run_sstM MM.cells hZ (by rw [zeroC_M, List.size_toArray, Mt.cells_len Mt.zero_ok, hlI]) (by rw [hlI]; kernel_rfl) (Mt.one _)
  have HZ := Lib.hid hZ
  have HL := Lib.hid hL
  clear hB hZ hL
  go_wp2_with fail
  refine bodyPost_ret (results_cell_row rfl _ _ (w.heap.size + 1) 44 MM.cells.toArray (0, 0) _ rfl (HZ.out.setRow_m _) Tryz.underlying44 rfl (by rw [List.size_toArray, hlI]; kernel_rfl)) rfl ?_
  exact ⟨rfl, below_setRow_m HL.out (by omega) _⟩
end Go.Proofs.YtpafenlcgcenlaaGreatDoor
namespace Go.Proofs.YtpafenlcgcenlaaGreatDoor
open Go Go.RowKit
set_option linter.unusedVariables false
set_option linter.unusedSimpArgs false
attribute [local go_sem ↓] sldI_seal sldM_seal sstM_seal sstI_seal
theorem int_ret5 {a b : Int} (h : a = b) : Ending.returned (Value.int .i64 a) = Ending.returned (Value.int .i64 b) := by rw [h]
theorem ulen_c (z n : Int) (hz : -9223372036854775808 ≤ z ∧ z ≤ 9223372036854775807) (w : World) : Calls Tryz.prog 152 #[.int .i64 z, .int .i64 n] w fun e w' => e = .returned (.int .i64 (lenZ z n)) ∧ w = w' := by
 obtain ⟨K, hK⟩ : ∃ K, chunksZ z = K := ⟨_, rfl⟩
 have hch : ∀ w, Calls Tryz.prog 151 #[.int .i64 z] w fun e w' => e = .returned (.int .i64 K) ∧ w = w' := fun w => hK ▸ uchunks_c z hz w
 unfold lenZ
 rw [hK]
 by_cases h0 : n < 0
 ·
  rw [if_pos (Or.inl h0)]
  go_enter Tryz.func152, Tryz.ntmps152
  go_wp2_with fail
  go_ret
  exact ⟨rfl, rfl⟩
 ·
  by_cases h1 : K ≤ n
  ·
   rw [if_pos (Or.inr h1)]
   go_enter Tryz.func152, Tryz.ntmps152
   go_wp2_with (go_at_call 151; refine (hch _).mono ?_; rintro e w' ⟨rfl, rfl⟩)
   go_ret
   exact ⟨rfl, rfl⟩
  ·
   rw [if_neg (by omega)]
   have hq : n * 320 < z := by
    unfold chunksZ at hK
    split at hK <;> omega
   have e1 : IntKind.i64.wrap (n * 320) = n * 320 := IntWalk.i64_in _ (by omega)
   have e2 : IntKind.i64.wrap (z - n * 320) = z - n * 320 := IntWalk.i64_in _ (by omega)
   clear hK
   go_enter Tryz.func152, Tryz.ntmps152
   go_wp2_with (go_at_call 151; refine (hch _).mono ?_; rintro e w' ⟨rfl, rfl⟩)
   all_goals (go_ret; exact ⟨int_ret5 (by omega), rfl⟩)
/-- May a version come? -/
def Mt.vmay (m : Mt) (v : Int) : Bool := decide (1 ≤ v) && (decide (v ≤ 1073741824) && decide (m.mn ≤ v))
theorem vmay_c (w : World) (m : Mt) (h : m.Ok) (v : Int) : Calls Tryz.prog 150 #[.agg m.cells.toArray, .int .i64 v] w fun e w' => e = .returned (.bool (m.vmay v)) ∧ Below w.heap.size w w' := by
 have hB := Blk.new w 44 m.cells.toArray
 obtain ⟨x, hx⟩ : ∃ x, m.mn = x := ⟨_, rfl⟩
 obtain ⟨_, k1, _⟩ := mall h hB _ x _ _ _ rfl hx rfl rfl rfl
 unfold Mt.vmay
 rw [hx]
 clear hB hx
 by_cases h1 : 1 ≤ v
 ·
  by_cases h2 : v ≤ 1073741824
  ·
   go_enter Tryz.func150, Tryz.ntmps150
   go_wp2_with fail
   go_ret
   exact ⟨by simp [h1, h2], (Below.refl _ _).alloc (Nat.le_refl _) _⟩
  ·
   go_enter Tryz.func150, Tryz.ntmps150
   go_wp2_with fail
   go_ret
   exact ⟨by simp [show ¬ v ≤ 1073741824 by omega], (Below.refl _ _).alloc (Nat.le_refl _) _⟩
 ·
  go_enter Tryz.func150, Tryz.ntmps150
  go_wp2_with fail
  go_ret
  exact ⟨by simp [show ¬ 1 ≤ v by omega], (Below.refl _ _).alloc (Nat.le_refl _) _⟩
/-- The least version when the other slot is confirmed. -/
def Mt.vconf (m : Mt) : Int := if m.oth.v ≤ 0 then m.mn else max m.mn m.oth.v
theorem Mt.c_v0 {W : World} {g : Nat} {m : Mt} (B : Blk W g 44 m.cells.toArray) : W.cell? ⟨g, 1, none⟩ = some (.int .i64 m.h0.v) := by
 rw [B.cell, List.getElem?_toArray]; rfl
theorem Mt.c_v1 {W : World} {g : Nat} {m : Mt} (h : m.Ok) (B : Blk W g 44 m.cells.toArray) : W.cell? ⟨g, 35, none⟩ = some (.int .i64 m.h1.v) := by
 have r := B.range 35 34 (by rw [Mt.cells_len h]; omega)
 rw [Mt.c_h1 h] at r
 exact r 0 _ rfl
theorem vconf_c (w : World) (m : Mt) (h : m.Ok) (hact : m.act = 0 ∨ m.act = 1) : Calls Tryz.prog 154 #[.agg m.cells.toArray] w fun e w' => e = .returned (.int .i64 m.vconf) ∧ Below w.heap.size w w' := by
 have hB := Blk.new w 44 m.cells.toArray
 obtain ⟨x, hx⟩ : ∃ x, m.mn = x := ⟨_, rfl⟩
 obtain ⟨y, hy⟩ : ∃ y, m.oth.v = y := ⟨_, rfl⟩
 have k35 := Mt.c_v1 h hB
 have k1 := Mt.c_v0 hB
 unfold Mt.vconf
 rw [hx, hy]
 rcases hact with ha | ha
 ·
  obtain ⟨k0, k69, _⟩ := mall h hB 0 x _ _ _ ha hx rfl rfl rfl
  rw [← Mt.oth0 ha, hy] at k35
  clear hB hx hy k1
  by_cases hv : y ≤ 0
  ·
   go_enter Tryz.func154, Tryz.ntmps154
   go_wp2_with fail
   go_ret
   exact ⟨int_ret5 (by simp [hv]), (Below.refl _ _).alloc (Nat.le_refl _) _⟩
  ·
   go_enter Tryz.func154, Tryz.ntmps154
   go_wp2_with fail
   all_goals (go_ret; exact ⟨int_ret5 (by omega), (Below.refl _ _).alloc (Nat.le_refl _) _⟩)
 ·
  obtain ⟨k0, k69, _⟩ := mall h hB 1 x _ _ _ ha hx rfl rfl rfl
  rw [← Mt.oth1 ha, hy] at k1
  clear hB hx hy k35
  by_cases hv : y ≤ 0
  ·
   go_enter Tryz.func154, Tryz.ntmps154
   go_wp2_with fail
   go_ret
   exact ⟨int_ret5 (by simp [hv]), (Below.refl _ _).alloc (Nat.le_refl _) _⟩
  ·
   go_enter Tryz.func154, Tryz.ntmps154
   go_wp2_with fail
   all_goals (go_ret; exact ⟨int_ret5 (by omega), (Below.refl _ _).alloc (Nat.le_refl _) _⟩)
end Go.Proofs.YtpafenlcgcenlaaGreatDoor
namespace Go.Proofs.YtpafenlcgcenlaaGreatDoor
open Go Go.RowKit
set_option linter.unusedVariables false
structure Fc where
 nm : Bool
 tg : Bool
 d : List UInt8
 wn : Bool
def Fc.cells (f : Fc) : List Value := .bool f.nm :: .bool f.tg :: (f.d.map u8v ++ [.bool f.wn])
theorem Fc.cells_len {f : Fc} (h : f.d.length = 32) : f.cells.length = 35 := by simp [Fc.cells, h]
theorem Fc.c0 (f : Fc) : f.cells[0]? = some (.bool f.nm) := rfl
theorem Fc.c1 (f : Fc) : f.cells[1]? = some (.bool f.tg) := rfl
theorem Fc.c34 {f : Fc} (h : f.d.length = 32) : f.cells[34]? = some (.bool f.wn) := by
 show (f.d.map u8v ++ [Value.bool f.wn])[32]? = _
 rw [List.getElem?_append_right (by rw [List.length_map, h]; omega), List.length_map, h]
 rfl
theorem Fc.c_d {f : Fc} (h : f.d.length = 32) : (f.cells.drop 2).take 32 = f.d.map u8v := by
 show (f.d.map u8v ++ [Value.bool f.wn]).take 32 = _
 rw [List.take_append_of_le_length (by rw [List.length_map, h]; omega), List.take_of_length_le (by rw [List.length_map, h]; omega)]
end Go.Proofs.YtpafenlcgcenlaaGreatDoor
namespace Go.Proofs.YtpafenlcgcenlaaGreatDoor
open Go Go.RowKit
set_option linter.unusedVariables false
set_option linter.unusedSimpArgs false
attribute [local go_sem ↓] sldI_seal sldM_seal sstM_seal sstI_seal sldC_seal sldF_seal sstC_seal sbC_seal
def wh (b : Bool) (e : Int) : Int := if b = true then e else 0
theorem Mt.alone_ok {m : Mt} (h : m.Ok) : m.alone.Ok := by
 unfold Mt.alone
 split
 ·
  exact ⟨h.d0, rfl, h.d2, h.act⟩
 ·
  exact ⟨rfl, h.d1, h.d2, h.act⟩
theorem oneM_len {m : Mt} (h : m.Ok) (l : List Int) : (oneM m l).length = 110 := by
 unfold oneM
 split
 ·
  exact chg_len h _ _ _
 ·
  exact chg_len Mt.zero_ok _ _ _
theorem oneM_one (m : Mt) (l : List Int) : ∀ u ∈ oneM m l, u.oneCell' = true := by
 unfold oneM
 split
 ·
  exact chg_one _ _ _ _
 ·
  exact chg_one _ _ _ _
/-- Some whole blocks, all of them new since w0. -/
structure Bxs (w0 W : World) (l : List (Nat × TypeId × Array Value)) : Prop where
 all : ∀ x ∈ l, Blk W x.1 x.2.1 x.2.2
 bel : Below w0.heap.size w0 W
section
variable {w0 W W' : World} {l : List (Nat × TypeId × Array Value)} {g : Nat} {t : TypeId} {cs : Array Value}
theorem Bxs.later (h : Bxs w0 W l) (hb : Below W.heap.size W W') : Bxs w0 W' l := ⟨fun x hx => (h.all x hx).below hb (h.all x hx).lt, h.bel.trans (hb.mono h.bel.size)⟩
theorem Bxs.alloc (h : Bxs w0 W l) (o : Obj) : Bxs w0 (W.alloc o) l := h.later ((Below.refl _ _).alloc (Nat.le_refl _) _)
theorem Bxs.drew (h : Bxs w0 W l) : Bxs w0 W.drew l := h.later (Below.refl W.heap.size W).drew
theorem Bxs.hd (h : Bxs w0 W ((g, t, cs) :: l)) : Blk W g t cs := h.all _ (List.mem_cons_self ..)
theorem Bxs.tl {x} (h : Bxs w0 W (x :: l)) : Bxs w0 W l := ⟨fun x hx => h.all x (List.mem_cons_of_mem _ hx), h.bel⟩
theorem Bxs.nil (w0 : World) : Bxs w0 w0 [] := ⟨fun _ h => (by cases h), Below.refl _ _⟩
theorem Bxs.new (h : Bxs w0 W l) (hg : W.heap.size = g) (t : TypeId) (cs : Array Value) : Bxs w0 (W.alloc (.cells cs t)) ((g, t, cs) :: l) := by
 subst hg
 refine ⟨fun x hx => ?_, (h.alloc _).bel⟩
 rcases List.mem_cons.1 hx with rfl | hx
 ·
  exact Blk.new _ _ _
 ·
  exact (h.alloc _).all x hx
theorem Bxs.put (h : Bxs w0 W ((g, t, cs) :: l)) (c2 : Array Value) (hg : w0.heap.size ≤ g) (hl : ∀ x ∈ l, x.1 ≠ g) : Bxs w0 (W.setRow g c2) ((g, t, c2) :: l) := by
 refine ⟨fun x hx => ?_, below_setRow_m h.bel hg _⟩
 rcases List.mem_cons.1 hx with rfl | hx
 ·
  exact h.hd.setRow_m _
 ·
  exact (h.tl.all x hx).setRow_mf _ (hl x hx)
end
theorem alloc_readsV (w : World) (l : List Value) (t : TypeId) : Reads (w.alloc (.cells l.toArray t)) (some ⟨w.heap.size, 0, none⟩) l.length l := by
 refine ⟨by simp, fun _ => ⟨w.heap.size, 0, rfl, by simp, fun j u hu => ?_⟩⟩
 rw [(Blk.new w t l.toArray).cell, List.getElem?_toArray]
 simpa using hu
theorem Bxs.build {w0 W : World} {L : List (Nat × TypeId × Array Value)} (h : Bxs w0 W L) (l : List Value) (t : TypeId) : Reads (W.alloc (.cells l.toArray t)) (some ⟨W.heap.size, 0, none⟩) l.length l ∧ Bxs w0 (W.alloc (.cells l.toArray t)) L :=
 ⟨alloc_readsV _ _ _, h.alloc _⟩
/-- How the last store of such a function ends. -/
theorem endC {W : World} {g : Nat} {old : Array Value} {R : List Value} (h : Blk W g 119 old) (ho : old.size = 110) (hl : R.length = 110) (h1 : ∀ u ∈ R, u.oneCell' = true) :
  (sstC (.pointer (some ⟨g, 0, none⟩)) (.agg R.toArray)).run Tryz.prog W = .ok () (W.setRow g R.toArray) :=
 run_sstC R h (by rw [ho, hl]) (by rw [hl]; exact info_sC) h1
theorem zeroC_size : Tryz.zeroCells119.size = 110 := by kernel_rfl
/-- The boxes that such a function begins with: a Meta, a Fact, the result. -/
theorem box3 (w : World) (M FA : Array Value) (B : Nat) (hB : w.heap.size = B) :
  Bxs w (((w.alloc (.cells M 44)).alloc (.cells FA 78)).alloc (.cells Tryz.zeroCells119 119)) [(B + 2, 119, Tryz.zeroCells119), (B + 1, 78, FA), (B, 44, M)] :=
 (((Bxs.nil w).new hB _ _).new (by simp [hB]) _ _).new (by simp [hB]) _ _
set_option maxRecDepth 100000 in
set_option maxHeartbeats 4000000 in
theorem rollback_c (w : World) (m : Mt) (h : m.Ok) (hact : m.act = 0 ∨ m.act = 1) (f : Fc) (hf : f.d.length = 32) :
  Calls Tryz.prog 116 #[.agg m.cells.toArray, .agg f.cells.toArray] w fun e w' => e = .returned (.agg (oneM m.idle.alone [wh (m.ph != 3) 11, wh f.wn 5]).toArray) ∧ Below w.heap.size w w' := by
 have hX0 := box3 w m.cells.toArray f.cells.toArray _ rfl
 have hrl := oneM_len (Mt.alone_ok (Mt.idle_ok h)) [wh (m.ph != 3) 11, wh f.wn 5]
 have hr1 := oneM_one (m.idle.alone) [wh (m.ph != 3) 11, wh f.wn 5]
 obtain ⟨x, hx⟩ : ∃ x, m.ph = x := ⟨_, rfl⟩
 obtain ⟨wn, hwn⟩ : ∃ wn, f.wn = wn := ⟨_, rfl⟩
 rw [hx, hwn] at hrl hr1 ⊢
 have hidle := fun W => idle_c W m h
 have halone := fun W => alone_c W m.idle (Mt.idle_ok h) hact
 have hS0 : ∀ W, Bxs w W [(w.heap.size + 1, 78, f.cells.toArray), (w.heap.size, 44, m.cells.toArray)] →
   (sldM (.pointer (some ⟨w.heap.size, 0, none⟩))).run Tryz.prog W = .ok (.agg m.cells.toArray) W ∧ W.cell? ⟨w.heap.size, 70, none⟩ = some (.int .i64 x) ∧ W.cell? ⟨w.heap.size + 1, 34, none⟩ = some (.bool wn) := fun W hX =>
  ⟨run_sldM (Mt.cells_len h) hX.tl.hd.whole, by rw [hX.tl.hd.cell, List.getElem?_toArray, Mt.c70 h, hx], by rw [hX.hd.cell, List.getElem?_toArray, Fc.c34 hf, hwn]⟩
 obtain ⟨M, hM⟩ : ∃ M, m.cells.toArray = M := ⟨_, rfl⟩
 obtain ⟨FA, hFA⟩ : ∃ FA, f.cells.toArray = FA := ⟨_, rfl⟩
 rw [hM] at hidle
 rw [hM, hFA] at hX0 hS0 ⊢
 have HID := Lib.hid hidle
 have HS := Lib.hid hS0
 clear hM hFA hx hwn hidle hS0
 obtain ⟨e1, he1⟩ : ∃ e1, wh (x != 3) 11 = e1 := ⟨_, rfl⟩
 obtain ⟨e2, he2⟩ : ∃ e2, wh wn 5 = e2 := ⟨_, rfl⟩
 rw [he1, he2] at hrl hr1 ⊢
 have hw1 : ∀ W, Calls Tryz.prog 149 #[.bool (x != 3), .int .i64 11] W fun en w' => en = .returned (.int .i64 e1) ∧ W = w' := fun W => he1 ▸ when_c _ _ W
 have hw2 : ∀ W, Calls Tryz.prog 149 #[.bool wn, .int .i64 5] W fun en w' => en = .returned (.int .i64 e2) ∧ W = w' := fun W => he2 ▸ when_c _ _ W
 have hone := fun (W : World) (b c : Nat) (hr : Reads W (some ⟨b, 0, none⟩) 2 [i64v e1, i64v e2]) => one_c W (m.idle.alone) (Mt.alone_ok (Mt.idle_ok h)) b 0 2 c [e1, e2] hr (by omega)
 obtain ⟨R, hR⟩ : ∃ R, oneM m.idle.alone [e1, e2] = R := ⟨_, rfl⟩
 rw [hR] at hrl hr1 hone ⊢
 obtain ⟨A, hA⟩ : ∃ A, (m.idle.alone).cells.toArray = A := ⟨_, rfl⟩
 rw [hA] at hone
 rw [hA] at halone
 have HAL := Lib.hid halone
 clear halone
 have HONE := Lib.hid hone
 have HW1 := Lib.hid hw1
 have HW2 := Lib.hid hw2
 have HRL := Lib.hid hrl
 have HR1 := Lib.hid hr1
 clear hR hA he1 he2 hone hw1 hw2 hrl hr1
 go_enter Tryz.func116, Tryz.ntmps116
 go_upto_region 1 with fail
 generalize ((w.alloc (.cells M 44)).alloc (.cells FA 78)).alloc (.cells Tryz.zeroCells119 119) = W3 at hX0 ⊢
 have HX := Lib.hid hX0.drew
 have hs0 := HS.out _ HX.out.tl
 clear hX0
 refine wp_region_held_drew (S := (fun W => (sldM (.pointer (some ⟨w.heap.size, 0, none⟩))).run Tryz.prog W = .ok (.agg M) W ∧ W.cell? ⟨w.heap.size, 70, none⟩ = some (.int .i64 x) ∧ W.cell? ⟨w.heap.size + 1, 34, none⟩ = some (.bool wn))) (by kernel_rfl) ?_ (fun hHeld => ?_)
 ·
  exact hs0
 refine tk 0 (h := ?_)
 refine tk 3 (h := ?_)
 refine tk 4 (h := ?_)
 refine tk 5 (h := ?_)
 refine tk 7 (h := ?_)
 refine tk 8 (h := ?_)
 refine rd 1 (h := fun K hK => ?_)
 go_simp
 refine (HID.out _).mono ?_; rintro e w' ⟨rfl, hb⟩; have HX := Lib.hid (HX.out.later hb); clear hb
 go_wp2_with fail
 refine so hK (by (try dsimp only); (exact HS.out _ HX.out.tl)) (h := fun hHeld => ?_)
 clear hK K
 refine rd 2 (h := fun K hK => ?_)
 go_simp
 refine (HAL.out _).mono ?_; rintro e w' ⟨rfl, hb⟩; have HX := Lib.hid (HX.out.later hb); clear hb
 go_wp2_with fail
 refine so hK (by (try dsimp only); (exact HS.out _ HX.out.tl)) (h := fun hHeld => ?_)
 clear hK K
 refine rd 6 (h := fun K hK => ?_)
 go_simp
 refine (HW1.out _).mono ?_; rintro e w' ⟨rfl, rfl⟩
 go_wp2_with fail
 refine so hK (by (try dsimp only); (exact HS.out _ HX.out.tl)) (h := fun hHeld => ?_)
 clear hK K
 refine rd 9 (h := fun K hK => ?_)
 go_simp
 refine (HW2.out _).mono ?_; rintro e w' ⟨rfl, rfl⟩
 go_wp2_with fail
 refine so hK (by (try dsimp only); (exact HS.out _ HX.out.tl)) (h := fun hHeld => ?_)
 clear hK K
 refine rd 10 (h := fun K hK => ?_)
 go_simp
 have HB2 := HX.out.build [i64v e1, i64v e2] 35
 have HRD := Lib.hid HB2.1
 have HX := Lib.hid HB2.2
 clear HB2
 refine so hK (by (try dsimp only); (exact HS.out _ HX.out.tl)) (h := fun hHeld => ?_)
 clear hK K
 refine rd 11 (h := fun K hK => ?_)
 go_simp
 refine (HONE.out _ _ _ HRD.out).mono ?_; rintro e w' ⟨rfl, hb⟩; have HX := Lib.hid (HX.out.later hb); clear hb HRD; have hst := endC HX.out.hd zeroC_size HRL.out HR1.out
 go_wp2_with fail
 refine so hK (by (try dsimp only); (exact HS.out _ HX.out.tl)) (h := fun hHeld => ?_)
 clear hK K
 refine rd 12 (h := fun K hK => ?_)
 go_simp
 have HX := Lib.hid (HX.out.put R.toArray (by omega) (by intro x hx; simp only [List.mem_cons, List.not_mem_nil, or_false] at hx; rcases hx with hx | hx <;> (rw [hx]; simp <;> omega)))
 clear hst
 refine so hK (by (try dsimp only); (exact HS.out _ HX.out.tl)) (h := fun hHeld => ?_)
 clear hK K
 refine wpAnyH_done (by kernel_rfl) ?_ _
 try simp only [Act.put, List.getElem_toArray, List.getElem_cons_succ, List.getElem_cons_zero, List.setIfInBounds_toArray, List.set_cons_zero, List.set_cons_succ]
 go_wp2_with fail
 refine bodyPost_ret (results_cell_row rfl _ _ (w.heap.size + 2) 119 R.toArray (0, 0) _ rfl HX.out.hd Tryz.underlying119 rfl (by rw [List.size_toArray, HRL.out]; exact info_sC)) rfl ?_
 exact ⟨rfl, HX.out.bel⟩
set_option maxRecDepth 100000 in
set_option maxHeartbeats 4000000 in
theorem abort_c (w : World) (m : Mt) (h : m.Ok) (hact : m.act = 0 ∨ m.act = 1) (f : Fc) (hf : f.d.length = 32) :
  Calls Tryz.prog 117 #[.agg m.cells.toArray, .agg f.cells.toArray] w fun e w' => e = .returned (.agg (oneM m.idle [wh (m.ph == 0 || m.ph == 3) 11, wh f.wn 5]).toArray) ∧ Below w.heap.size w w' := by
 have hX0 := box3 w m.cells.toArray f.cells.toArray _ rfl
 have hrl := oneM_len (Mt.idle_ok h) [wh (m.ph == 0 || m.ph == 3) 11, wh f.wn 5]
 have hr1 := oneM_one (m.idle) [wh (m.ph == 0 || m.ph == 3) 11, wh f.wn 5]
 obtain ⟨x, hx⟩ : ∃ x, m.ph = x := ⟨_, rfl⟩
 obtain ⟨wn, hwn⟩ : ∃ wn, f.wn = wn := ⟨_, rfl⟩
 rw [hx, hwn] at hrl hr1 ⊢
 have hidle := fun W => idle_c W m h
 have hS0 : ∀ W, Bxs w W [(w.heap.size + 1, 78, f.cells.toArray), (w.heap.size, 44, m.cells.toArray)] →
   (sldM (.pointer (some ⟨w.heap.size, 0, none⟩))).run Tryz.prog W = .ok (.agg m.cells.toArray) W ∧ W.cell? ⟨w.heap.size, 70, none⟩ = some (.int .i64 x) ∧ W.cell? ⟨w.heap.size + 1, 34, none⟩ = some (.bool wn) := fun W hX =>
  ⟨run_sldM (Mt.cells_len h) hX.tl.hd.whole, by rw [hX.tl.hd.cell, List.getElem?_toArray, Mt.c70 h, hx], by rw [hX.hd.cell, List.getElem?_toArray, Fc.c34 hf, hwn]⟩
 obtain ⟨M, hM⟩ : ∃ M, m.cells.toArray = M := ⟨_, rfl⟩
 obtain ⟨FA, hFA⟩ : ∃ FA, f.cells.toArray = FA := ⟨_, rfl⟩
 rw [hM] at hidle
 rw [hM, hFA] at hX0 hS0 ⊢
 have HID := Lib.hid hidle
 have HS := Lib.hid hS0
 clear hM hFA hx hwn hidle hS0
 by_cases h0 : x = 0
 ·
  subst h0
  simp only [show ((0 : Int) == 0 || (0 : Int) == 3) = true from rfl] at hrl hr1 ⊢
  obtain ⟨e1, he1⟩ : ∃ e1, wh (true) 11 = e1 := ⟨_, rfl⟩
  obtain ⟨e2, he2⟩ : ∃ e2, wh wn 5 = e2 := ⟨_, rfl⟩
  rw [he1, he2] at hrl hr1 ⊢
  have hw1 : ∀ W, Calls Tryz.prog 149 #[.bool (true), .int .i64 11] W fun en w' => en = .returned (.int .i64 e1) ∧ W = w' := fun W => he1 ▸ when_c _ _ W
  have hw2 : ∀ W, Calls Tryz.prog 149 #[.bool wn, .int .i64 5] W fun en w' => en = .returned (.int .i64 e2) ∧ W = w' := fun W => he2 ▸ when_c _ _ W
  have hone := fun (W : World) (b c : Nat) (hr : Reads W (some ⟨b, 0, none⟩) 2 [i64v e1, i64v e2]) => one_c W (m.idle) (Mt.idle_ok h) b 0 2 c [e1, e2] hr (by omega)
  obtain ⟨R, hR⟩ : ∃ R, oneM m.idle [e1, e2] = R := ⟨_, rfl⟩
  rw [hR] at hrl hr1 hone ⊢
  obtain ⟨A, hA⟩ : ∃ A, (m.idle).cells.toArray = A := ⟨_, rfl⟩
  rw [hA] at hone
  have hidle := HID.out
  rw [hA] at hidle
  have HID := Lib.hid hidle
  clear hidle
  have HONE := Lib.hid hone
  have HW1 := Lib.hid hw1
  have HW2 := Lib.hid hw2
  have HRL := Lib.hid hrl
  have HR1 := Lib.hid hr1
  clear hR hA he1 he2 hone hw1 hw2 hrl hr1
  go_enter Tryz.func117, Tryz.ntmps117
  go_upto_region 1 with fail
  generalize ((w.alloc (.cells M 44)).alloc (.cells FA 78)).alloc (.cells Tryz.zeroCells119 119) = W3 at hX0 ⊢
  have HX := Lib.hid hX0.drew
  have hs0 := HS.out _ HX.out.tl
  clear hX0
  refine wp_region_held_drew (S := (fun W => (sldM (.pointer (some ⟨w.heap.size, 0, none⟩))).run Tryz.prog W = .ok (.agg M) W ∧ W.cell? ⟨w.heap.size, 70, none⟩ = some (.int .i64 0) ∧ W.cell? ⟨w.heap.size + 1, 34, none⟩ = some (.bool wn))) (by kernel_rfl) ?_ (fun hHeld => ?_)
  ·
   exact hs0
  refine tk 0 (h := ?_)
  refine tk 2 (h := ?_)
  refine tk 3 (h := ?_)
  refine tk 4 (h := ?_)
  refine tk 11 (h := ?_)
  refine tk 12 (h := ?_)
  refine rd 1 (h := fun K hK => ?_)
  go_simp
  refine (HID.out _).mono ?_; rintro e w' ⟨rfl, hb⟩; have HX := Lib.hid (HX.out.later hb); clear hb
  go_wp2_with fail
  refine so hK (by (try dsimp only); (exact HS.out _ HX.out.tl)) (h := fun hHeld => ?_)
  clear hK K
  refine tk 5 (h := ?_)
  refine sk 6 (h := ?_)
  refine sk 7 (h := ?_)
  refine sk 8 (h := ?_)
  refine tk 9 (h := ?_)
  refine rd 10 (h := fun K hK => ?_)
  go_simp
  refine (HW1.out _).mono ?_; rintro e w' ⟨rfl, rfl⟩
  go_wp2_with fail
  refine so hK (by (try dsimp only); (exact HS.out _ HX.out.tl)) (h := fun hHeld => ?_)
  clear hK K
  refine rd 13 (h := fun K hK => ?_)
  go_simp
  refine (HW2.out _).mono ?_; rintro e w' ⟨rfl, rfl⟩
  go_wp2_with fail
  refine so hK (by (try dsimp only); (exact HS.out _ HX.out.tl)) (h := fun hHeld => ?_)
  clear hK K
  refine rd 14 (h := fun K hK => ?_)
  go_simp
  have HB2 := HX.out.build [i64v e1, i64v e2] 35
  have HRD := Lib.hid HB2.1
  have HX := Lib.hid HB2.2
  clear HB2
  refine so hK (by (try dsimp only); (exact HS.out _ HX.out.tl)) (h := fun hHeld => ?_)
  clear hK K
  refine rd 15 (h := fun K hK => ?_)
  go_simp
  refine (HONE.out _ _ _ HRD.out).mono ?_; rintro e w' ⟨rfl, hb⟩; have HX := Lib.hid (HX.out.later hb); clear hb HRD; have hst := endC HX.out.hd zeroC_size HRL.out HR1.out
  go_wp2_with fail
  refine so hK (by (try dsimp only); (exact HS.out _ HX.out.tl)) (h := fun hHeld => ?_)
  clear hK K
  refine rd 16 (h := fun K hK => ?_)
  go_simp
  have HX := Lib.hid (HX.out.put R.toArray (by omega) (by intro x hx; simp only [List.mem_cons, List.not_mem_nil, or_false] at hx; rcases hx with hx | hx <;> (rw [hx]; simp <;> omega)))
  clear hst
  refine so hK (by (try dsimp only); (exact HS.out _ HX.out.tl)) (h := fun hHeld => ?_)
  clear hK K
  refine wpAnyH_done (by kernel_rfl) ?_ _
  try simp only [Act.put, List.getElem_toArray, List.getElem_cons_succ, List.getElem_cons_zero, List.setIfInBounds_toArray, List.set_cons_zero, List.set_cons_succ]
  go_wp2_with fail
  refine bodyPost_ret (results_cell_row rfl _ _ (w.heap.size + 2) 119 R.toArray (0, 0) _ rfl HX.out.hd Tryz.underlying119 rfl (by rw [List.size_toArray, HRL.out]; exact info_sC)) rfl ?_
  exact ⟨rfl, HX.out.bel⟩
 ·
  have h1 : (x == 0) = false := beq_eq_false_iff_ne.2 h0
  simp only [h1, Bool.false_or] at hrl hr1 ⊢
  obtain ⟨e1, he1⟩ : ∃ e1, wh (x == 3) 11 = e1 := ⟨_, rfl⟩
  obtain ⟨e2, he2⟩ : ∃ e2, wh wn 5 = e2 := ⟨_, rfl⟩
  rw [he1, he2] at hrl hr1 ⊢
  have hw1 : ∀ W, Calls Tryz.prog 149 #[.bool (x == 3), .int .i64 11] W fun en w' => en = .returned (.int .i64 e1) ∧ W = w' := fun W => he1 ▸ when_c _ _ W
  have hw2 : ∀ W, Calls Tryz.prog 149 #[.bool wn, .int .i64 5] W fun en w' => en = .returned (.int .i64 e2) ∧ W = w' := fun W => he2 ▸ when_c _ _ W
  have hone := fun (W : World) (b c : Nat) (hr : Reads W (some ⟨b, 0, none⟩) 2 [i64v e1, i64v e2]) => one_c W (m.idle) (Mt.idle_ok h) b 0 2 c [e1, e2] hr (by omega)
  obtain ⟨R, hR⟩ : ∃ R, oneM m.idle [e1, e2] = R := ⟨_, rfl⟩
  rw [hR] at hrl hr1 hone ⊢
  obtain ⟨A, hA⟩ : ∃ A, (m.idle).cells.toArray = A := ⟨_, rfl⟩
  rw [hA] at hone
  have hidle := HID.out
  rw [hA] at hidle
  have HID := Lib.hid hidle
  clear hidle
  have HONE := Lib.hid hone
  have HW1 := Lib.hid hw1
  have HW2 := Lib.hid hw2
  have HRL := Lib.hid hrl
  have HR1 := Lib.hid hr1
  clear hR hA he1 he2 hone hw1 hw2 hrl hr1
  go_enter Tryz.func117, Tryz.ntmps117
  go_upto_region 1 with fail
  generalize ((w.alloc (.cells M 44)).alloc (.cells FA 78)).alloc (.cells Tryz.zeroCells119 119) = W3 at hX0 ⊢
  have HX := Lib.hid hX0.drew
  have hs0 := HS.out _ HX.out.tl
  clear hX0
  refine wp_region_held_drew (S := (fun W => (sldM (.pointer (some ⟨w.heap.size, 0, none⟩))).run Tryz.prog W = .ok (.agg M) W ∧ W.cell? ⟨w.heap.size, 70, none⟩ = some (.int .i64 x) ∧ W.cell? ⟨w.heap.size + 1, 34, none⟩ = some (.bool wn))) (by kernel_rfl) ?_ (fun hHeld => ?_)
  ·
   exact hs0
  refine tk 0 (h := ?_)
  refine tk 2 (h := ?_)
  refine tk 3 (h := ?_)
  refine tk 4 (h := ?_)
  refine tk 11 (h := ?_)
  refine tk 12 (h := ?_)
  refine rd 1 (h := fun K hK => ?_)
  go_simp
  refine (HID.out _).mono ?_; rintro e w' ⟨rfl, hb⟩; have HX := Lib.hid (HX.out.later hb); clear hb
  go_wp2_with fail
  refine so hK (by (try dsimp only); (exact HS.out _ HX.out.tl)) (h := fun hHeld => ?_)
  clear hK K
  refine tk 5 (h := ?_)
  refine tk 6 (h := ?_)
  refine tk 7 (h := ?_)
  refine tk 8 (h := ?_)
  refine tk 9 (h := ?_)
  refine rd 10 (h := fun K hK => ?_)
  go_simp
  refine (HW1.out _).mono ?_; rintro e w' ⟨rfl, rfl⟩
  go_wp2_with fail
  refine so hK (by (try dsimp only); (exact HS.out _ HX.out.tl)) (h := fun hHeld => ?_)
  clear hK K
  refine rd 13 (h := fun K hK => ?_)
  go_simp
  refine (HW2.out _).mono ?_; rintro e w' ⟨rfl, rfl⟩
  go_wp2_with fail
  refine so hK (by (try dsimp only); (exact HS.out _ HX.out.tl)) (h := fun hHeld => ?_)
  clear hK K
  refine rd 14 (h := fun K hK => ?_)
  go_simp
  have HB2 := HX.out.build [i64v e1, i64v e2] 35
  have HRD := Lib.hid HB2.1
  have HX := Lib.hid HB2.2
  clear HB2
  refine so hK (by (try dsimp only); (exact HS.out _ HX.out.tl)) (h := fun hHeld => ?_)
  clear hK K
  refine rd 15 (h := fun K hK => ?_)
  go_simp
  refine (HONE.out _ _ _ HRD.out).mono ?_; rintro e w' ⟨rfl, hb⟩; have HX := Lib.hid (HX.out.later hb); clear hb HRD; have hst := endC HX.out.hd zeroC_size HRL.out HR1.out
  go_wp2_with fail
  refine so hK (by (try dsimp only); (exact HS.out _ HX.out.tl)) (h := fun hHeld => ?_)
  clear hK K
  refine rd 16 (h := fun K hK => ?_)
  go_simp
  have HX := Lib.hid (HX.out.put R.toArray (by omega) (by intro x hx; simp only [List.mem_cons, List.not_mem_nil, or_false] at hx; rcases hx with hx | hx <;> (rw [hx]; simp <;> omega)))
  clear hst
  refine so hK (by (try dsimp only); (exact HS.out _ HX.out.tl)) (h := fun hHeld => ?_)
  clear hK K
  refine wpAnyH_done (by kernel_rfl) ?_ _
  try simp only [Act.put, List.getElem_toArray, List.getElem_cons_succ, List.getElem_cons_zero, List.setIfInBounds_toArray, List.set_cons_zero, List.set_cons_succ]
  go_wp2_with fail
  refine bodyPost_ret (results_cell_row rfl _ _ (w.heap.size + 2) 119 R.toArray (0, 0) _ rfl HX.out.hd Tryz.underlying119 rfl (by rw [List.size_toArray, HRL.out]; exact info_sC)) rfl ?_
  exact ⟨rfl, HX.out.bel⟩
end Go.Proofs.YtpafenlcgcenlaaGreatDoor
