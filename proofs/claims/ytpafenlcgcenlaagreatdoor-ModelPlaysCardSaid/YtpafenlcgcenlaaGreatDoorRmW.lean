/- The reference's RightMeta, walked. -/
import Derived.Test.YtpafenlcgcenlaaGreatDoorUpP
namespace Go.Proofs.YtpafenlcgcenlaaGreatDoor
open Go Go.RowKit
set_option linter.unusedVariables false
set_option linter.unusedSimpArgs false
attribute [local go_sem ↓] sldI_seal sldM_seal
set_option maxHeartbeats 1000000 in
theorem rimage_c (w : World) (i : Img) (h : i.d.length = 32) (no : Bool) : Calls Tryz.prog 126 #[.agg i.cells.toArray, .bool no] w fun e w' => e = .returned (.bool (i.rmay no)) ∧ Below w.heap.size w w' := by
 have hB := Blk.new w 41 i.cells.toArray
 have hl := run_sldI (Img.cells_len h) hB.whole
 have c0 : (w.alloc (.cells i.cells.toArray 41)).cell? ⟨w.heap.size, 0, none⟩ = some (.int .i64 i.v) := by rw [hB.cell]; rfl
 have c1 : (w.alloc (.cells i.cells.toArray 41)).cell? ⟨w.heap.size, 1, none⟩ = some (.int .i64 i.s) := by rw [hB.cell]; rfl
 have he : ∀ W : World, (binOp .eql 41 (.agg i.cells.toArray) (.agg zeroI)).run Tryz.prog W = .ok (.bool i.none) W := fun W => by rw [zeroI_eq]; exact eqlI i Img.zero h rfl W
 have hbel : Below w.heap.size w (w.alloc (.cells i.cells.toArray 41)) := (Below.refl _ _).alloc (Nat.le_refl _) _
 unfold Img.rmay
 generalize i.cells = cs at hB hl c0 c1 he hbel ⊢
 generalize i.none = N at he ⊢
 generalize i.v = v at c0 ⊢
 generalize i.s = s at c1 ⊢
 clear hB
 cases N
 ·
  rw [if_neg (by decide)]
  clear h
  cases no
  ·
   by_cases h3 : 1 ≤ v
   ·
    by_cases h4 : v ≤ 1073741824
    ·
     by_cases h5 : 1 ≤ s
     ·
      go_enter Tryz.func126, Tryz.ntmps126
      go_wp2_with fail
      go_ret
      exact ⟨mbool_ret (by first | rfl | (simp [h3, h4, h5]; done) | (simp; omega)), hbel⟩
     ·
      go_enter Tryz.func126, Tryz.ntmps126
      go_wp2_with fail
      go_ret
      exact ⟨mbool_ret (by first | rfl | (simp [h3, h4, h5]; done) | (simp; omega)), hbel⟩
    ·
     go_enter Tryz.func126, Tryz.ntmps126
     go_wp2_with fail
     go_ret
     exact ⟨mbool_ret (by first | rfl | (simp [h3, h4]; done) | (simp; omega)), hbel⟩
   ·
    go_enter Tryz.func126, Tryz.ntmps126
    go_wp2_with fail
    go_ret
    exact ⟨mbool_ret (by first | rfl | (simp [h3]; done) | (simp; omega)), hbel⟩
  ·
   go_enter Tryz.func126, Tryz.ntmps126
   go_wp2_with fail
   go_ret
   exact ⟨rfl, hbel⟩
 ·
  rw [if_pos rfl]
  go_enter Tryz.func126, Tryz.ntmps126
  go_wp2_with fail
  go_ret
  exact ⟨rfl, hbel⟩
theorem Img.rmay_s {i : Img} {no : Bool} (h : i.rmay no = true) : 0 ≤ i.s ∧ i.s ≤ 1920 := by
 unfold Img.rmay at h
 split at h
 ·
  rename_i hn
  rw [(Img.same_iff _ _).1 hn]
  decide
 ·
  simp at h
  omega
set_option maxRecDepth 100000 in
set_option maxHeartbeats 40000000 in
theorem rrmeta_c (w : World) (m : Mt) (h : m.Ok) : Calls Tryz.prog 74 #[.agg m.cells.toArray] w fun e w' => e = .returned (.bool m.rright) ∧ Below w.heap.size w w' := by
 have hB := Lib.hid (Blk.new w 44 m.cells.toArray)
 have hbel : Below w.heap.size w (w.alloc (.cells m.cells.toArray 44)) := (Below.refl _ _).alloc (Nat.le_refl _) _
 have HBEL := Lib.hid hbel
 obtain ⟨act, e0⟩ : ∃ x, m.act = x := ⟨_, rfl⟩
 obtain ⟨mn, e1⟩ : ∃ x, m.mn = x := ⟨_, rfl⟩
 obtain ⟨ph, e2⟩ : ∃ x, m.ph = x := ⟨_, rfl⟩
 obtain ⟨got, e3⟩ : ∃ x, m.got = x := ⟨_, rfl⟩
 obtain ⟨tr, e4⟩ : ∃ x, m.tr = x := ⟨_, rfl⟩
 obtain ⟨H0, eH0⟩ : ∃ x, m.h0.rmay false = x := ⟨_, rfl⟩
 obtain ⟨H1, eH1⟩ : ∃ x, m.h1.rmay false = x := ⟨_, rfl⟩
 obtain ⟨cv, ecv⟩ : ∃ x, m.cm.v = x := ⟨_, rfl⟩
 obtain ⟨cs, ecs⟩ : ∃ x, m.cm.s = x := ⟨_, rfl⟩
 obtain ⟨v0, ev0⟩ : ∃ x, m.h0.v = x := ⟨_, rfl⟩
 obtain ⟨v1, ev1⟩ : ∃ x, m.h1.v = x := ⟨_, rfl⟩
 obtain ⟨K, eK⟩ : ∃ x, chunksZ cs = x := ⟨_, rfl⟩
 have him0 : ∀ W, Calls Tryz.prog 126 #[.agg m.h0.cells.toArray, .bool false] W fun e w' => e = .returned (.bool H0) ∧ Below W.heap.size W w' := fun W => eH0 ▸ rimage_c W m.h0 h.d0 false
 have him1 : ∀ W, Calls Tryz.prog 126 #[.agg m.h1.cells.toArray, .bool false] W fun e w' => e = .returned (.bool H1) ∧ Below W.heap.size W w' := fun W => eH1 ▸ rimage_c W m.h1 h.d1 false
 have hic : ∀ no RC, m.cm.rmay no = RC → ∀ W, Calls Tryz.prog 126 #[.agg m.cm.cells.toArray, .bool no] W fun e w' => e = .returned (.bool RC) ∧ Below W.heap.size W w' := fun no RC hRC W => hRC ▸ rimage_c W m.cm h.d2 no
 have hch : (∃ no, m.cm.rmay no = true) → ∀ W, Calls Tryz.prog 42 #[.int .i64 cs] W fun e w' => e = .returned (.int .i64 K) ∧ W = w' := fun ⟨no, hn⟩ W => eK ▸ rchunks12_c cs (by have := Img.rmay_s hn; rw [ecs] at this; omega) W
 have hR : m.rright = (decide (0 ≤ act) && (decide (act ≤ 1) && (H0 && (H1 && (!((m.have_ act).v == 0) && (decide (0 ≤ mn) && (decide (mn ≤ 1073741824) && (decide (0 ≤ got) && (decide (got ≤ 6) && (decide (0 ≤ tr) && (decide (tr ≤ 2) && (m.cm.rmay (!decide (0 < cv)) && rphase ph got tr K (decide (0 < cv)) (decide (0 < m.oth.v)))))))))))))) := by
  unfold Mt.rright
  rw [e0, e1, e2, e3, e4, eH0, eH1, ecv, ecs, eK]
 have hall : ∀ W, Below (w.heap.size + 1) (w.alloc (.cells m.cells.toArray 44)) W → _ := fun W hb => mall h (hB.out.below hb (by omega)) act mn ph got tr e0 e1 e2 e3 e4
 have hks : ∀ W, Below (w.heap.size + 1) (w.alloc (.cells m.cells.toArray 44)) W → W.cell? ⟨w.heap.size, 1, none⟩ = some (.int .i64 v0) ∧ W.cell? ⟨w.heap.size, 35, none⟩ = some (.int .i64 v1) ∧ W.cell? ⟨w.heap.size, 71, none⟩ = some (.int .i64 cv) ∧ W.cell? ⟨w.heap.size, 72, none⟩ = some (.int .i64 cs) := fun W hb => by
  have B := hB.out.below hb (by omega)
  exact ⟨by rw [B.cell, List.getElem?_toArray, Mt.c1 h, ev0], by rw [B.cell, List.getElem?_toArray, Mt.c35 h, ev1], by rw [B.cell, List.getElem?_toArray, Mt.c71 h, ecv], by rw [B.cell, List.getElem?_toArray, Mt.c72 h, ecs]⟩
 have hz : (w.alloc (.cells m.cells.toArray 44)).heap.size = w.heap.size + 1 := by simp
 obtain ⟨c0, c69, c70, c105, c106, l1, l35, l71, lM⟩ := hall _ (Below.refl _ _)
 obtain ⟨k1, k35, k71, k72⟩ := hks _ (Below.refl _ _)
 have HALL := Lib.hid hall
 have HKS := Lib.hid hks
 have HZ := Lib.hid hz
 have HIC := Lib.hid hic
 have HCH := Lib.hid hch
 have E0 := Lib.hid e0
 have EV0 := Lib.hid ev0
 have EV1 := Lib.hid ev1
 clear hall hks hz hic hch e1 e2 e3 e4 eH0 eH1 ecv ecs eK h hB hbel ev0 ev1
 have HB0 := Lib.hid (Below.refl (w.heap.size + 1) (w.alloc (.cells m.cells.toArray 44)))
 by_cases s1 : act < 0
 ·
  rw [hR]
  clear hR e0
  go_enter Tryz.func74, Tryz.ntmps74
  go_wp2_with fail
  go_ret
  exact ⟨mbool_ret (by first | rfl | (simp; done) | (simp [*]; done) | (simp; omega)), HBEL.out.trans (HB0.out.mono (Nat.le_succ _))⟩
 by_cases s2 : 1 < act
 ·
  rw [hR]
  clear hR e0
  go_enter Tryz.func74, Tryz.ntmps74
  go_wp2_with fail
  go_ret
  exact ⟨mbool_ret (by first | rfl | (simp; done) | (simp [*]; done) | (simp; omega)), HBEL.out.trans (HB0.out.mono (Nat.le_succ _))⟩
 have s3 : act = 0 ∨ act = 1 := by omega
 clear s1 s2
 rcases s3 with rfl | rfl
 ·
  have hhv : (m.have_ 0).v = v0 := by rw [← EV0.out]; rfl
  have hov : m.oth.v = v1 := by rw [Mt.oth0 e0]; exact EV1.out
  rw [hhv, hov] at hR
  obtain ⟨RES, hRES⟩ : ∃ RES, m.rright = RES := ⟨_, rfl⟩
  rw [hRES] at hR ⊢
  have HR := Lib.hid hR
  clear hR hRES hhv hov e0
  cases H0
  ·
   go_enter Tryz.func74, Tryz.ntmps74
   go_wp2_with fail
   refine (him0 _).mono ?_
   rintro e u1 ⟨rfl, hb⟩
   have HB1 := Lib.hid (HB0.out.trans (hb.mono (by have := HB0.out.size; have := HZ.out; omega)))
   clear c0 c69 c70 c105 c106 l1 l35 l71 lM k1 k35 k71 k72 hb
   obtain ⟨c0, c69, c70, c105, c106, l1, l35, l71, lM⟩ := HALL.out _ HB1.out
   obtain ⟨k1, k35, k71, k72⟩ := HKS.out _ HB1.out
   go_wp2_with fail
   go_ret
   exact ⟨mbool_ret (by rw [HR.out]; first | rfl | (simp; done) | (simp [*]; done) | (simp; omega)), HBEL.out.trans (HB1.out.mono (Nat.le_succ _))⟩
  cases H1
  ·
   go_enter Tryz.func74, Tryz.ntmps74
   go_wp2_with fail
   refine (him0 _).mono ?_
   rintro e u1 ⟨rfl, hb⟩
   have HB1 := Lib.hid (HB0.out.trans (hb.mono (by have := HB0.out.size; have := HZ.out; omega)))
   clear c0 c69 c70 c105 c106 l1 l35 l71 lM k1 k35 k71 k72 hb
   obtain ⟨c0, c69, c70, c105, c106, l1, l35, l71, lM⟩ := HALL.out _ HB1.out
   obtain ⟨k1, k35, k71, k72⟩ := HKS.out _ HB1.out
   go_wp2_with fail
   refine (him1 _).mono ?_
   rintro e u2 ⟨rfl, hb⟩
   have HB2 := Lib.hid (HB1.out.trans (hb.mono (by have := HB1.out.size; have := HZ.out; omega)))
   clear c0 c69 c70 c105 c106 l1 l35 l71 lM k1 k35 k71 k72 hb
   obtain ⟨c0, c69, c70, c105, c106, l1, l35, l71, lM⟩ := HALL.out _ HB2.out
   obtain ⟨k1, k35, k71, k72⟩ := HKS.out _ HB2.out
   go_wp2_with fail
   go_ret
   exact ⟨mbool_ret (by rw [HR.out]; first | rfl | (simp; done) | (simp [*]; done) | (simp; omega)), HBEL.out.trans (HB2.out.mono (Nat.le_succ _))⟩
  by_cases s4 : v0 = 0
  ·
   subst s4
   go_enter Tryz.func74, Tryz.ntmps74
   go_wp2_with fail
   refine (him0 _).mono ?_
   rintro e u1 ⟨rfl, hb⟩
   have HB1 := Lib.hid (HB0.out.trans (hb.mono (by have := HB0.out.size; have := HZ.out; omega)))
   clear c0 c69 c70 c105 c106 l1 l35 l71 lM k1 k35 k71 k72 hb
   obtain ⟨c0, c69, c70, c105, c106, l1, l35, l71, lM⟩ := HALL.out _ HB1.out
   obtain ⟨k1, k35, k71, k72⟩ := HKS.out _ HB1.out
   go_wp2_with fail
   refine (him1 _).mono ?_
   rintro e u2 ⟨rfl, hb⟩
   have HB2 := Lib.hid (HB1.out.trans (hb.mono (by have := HB1.out.size; have := HZ.out; omega)))
   clear c0 c69 c70 c105 c106 l1 l35 l71 lM k1 k35 k71 k72 hb
   obtain ⟨c0, c69, c70, c105, c106, l1, l35, l71, lM⟩ := HALL.out _ HB2.out
   obtain ⟨k1, k35, k71, k72⟩ := HKS.out _ HB2.out
   go_wp2_with fail
   go_ret
   exact ⟨mbool_ret (by rw [HR.out]; first | rfl | (simp; done) | (simp [*]; done) | (simp; omega)), HBEL.out.trans (HB2.out.mono (Nat.le_succ _))⟩
  have q4 : (v0 == 0) = false := beq_eq_false_iff_ne.2 s4
  by_cases s5 : mn < 0
  ·
   go_enter Tryz.func74, Tryz.ntmps74
   go_wp2_with fail
   refine (him0 _).mono ?_
   rintro e u1 ⟨rfl, hb⟩
   have HB1 := Lib.hid (HB0.out.trans (hb.mono (by have := HB0.out.size; have := HZ.out; omega)))
   clear c0 c69 c70 c105 c106 l1 l35 l71 lM k1 k35 k71 k72 hb
   obtain ⟨c0, c69, c70, c105, c106, l1, l35, l71, lM⟩ := HALL.out _ HB1.out
   obtain ⟨k1, k35, k71, k72⟩ := HKS.out _ HB1.out
   go_wp2_with fail
   refine (him1 _).mono ?_
   rintro e u2 ⟨rfl, hb⟩
   have HB2 := Lib.hid (HB1.out.trans (hb.mono (by have := HB1.out.size; have := HZ.out; omega)))
   clear c0 c69 c70 c105 c106 l1 l35 l71 lM k1 k35 k71 k72 hb
   obtain ⟨c0, c69, c70, c105, c106, l1, l35, l71, lM⟩ := HALL.out _ HB2.out
   obtain ⟨k1, k35, k71, k72⟩ := HKS.out _ HB2.out
   go_wp2_with fail
   go_ret
   exact ⟨mbool_ret (by rw [HR.out]; first | rfl | (simp; done) | (simp [*]; done) | (simp; omega)), HBEL.out.trans (HB2.out.mono (Nat.le_succ _))⟩
  by_cases s6 : 1073741824 < mn
  ·
   go_enter Tryz.func74, Tryz.ntmps74
   go_wp2_with fail
   refine (him0 _).mono ?_
   rintro e u1 ⟨rfl, hb⟩
   have HB1 := Lib.hid (HB0.out.trans (hb.mono (by have := HB0.out.size; have := HZ.out; omega)))
   clear c0 c69 c70 c105 c106 l1 l35 l71 lM k1 k35 k71 k72 hb
   obtain ⟨c0, c69, c70, c105, c106, l1, l35, l71, lM⟩ := HALL.out _ HB1.out
   obtain ⟨k1, k35, k71, k72⟩ := HKS.out _ HB1.out
   go_wp2_with fail
   refine (him1 _).mono ?_
   rintro e u2 ⟨rfl, hb⟩
   have HB2 := Lib.hid (HB1.out.trans (hb.mono (by have := HB1.out.size; have := HZ.out; omega)))
   clear c0 c69 c70 c105 c106 l1 l35 l71 lM k1 k35 k71 k72 hb
   obtain ⟨c0, c69, c70, c105, c106, l1, l35, l71, lM⟩ := HALL.out _ HB2.out
   obtain ⟨k1, k35, k71, k72⟩ := HKS.out _ HB2.out
   go_wp2_with fail
   go_ret
   exact ⟨mbool_ret (by rw [HR.out]; first | rfl | (simp; done) | (simp [*]; done) | (simp; omega)), HBEL.out.trans (HB2.out.mono (Nat.le_succ _))⟩
  by_cases s7 : got < 0
  ·
   go_enter Tryz.func74, Tryz.ntmps74
   go_wp2_with fail
   refine (him0 _).mono ?_
   rintro e u1 ⟨rfl, hb⟩
   have HB1 := Lib.hid (HB0.out.trans (hb.mono (by have := HB0.out.size; have := HZ.out; omega)))
   clear c0 c69 c70 c105 c106 l1 l35 l71 lM k1 k35 k71 k72 hb
   obtain ⟨c0, c69, c70, c105, c106, l1, l35, l71, lM⟩ := HALL.out _ HB1.out
   obtain ⟨k1, k35, k71, k72⟩ := HKS.out _ HB1.out
   go_wp2_with fail
   refine (him1 _).mono ?_
   rintro e u2 ⟨rfl, hb⟩
   have HB2 := Lib.hid (HB1.out.trans (hb.mono (by have := HB1.out.size; have := HZ.out; omega)))
   clear c0 c69 c70 c105 c106 l1 l35 l71 lM k1 k35 k71 k72 hb
   obtain ⟨c0, c69, c70, c105, c106, l1, l35, l71, lM⟩ := HALL.out _ HB2.out
   obtain ⟨k1, k35, k71, k72⟩ := HKS.out _ HB2.out
   go_wp2_with fail
   go_ret
   exact ⟨mbool_ret (by rw [HR.out]; first | rfl | (simp; done) | (simp [*]; done) | (simp; omega)), HBEL.out.trans (HB2.out.mono (Nat.le_succ _))⟩
  by_cases s8 : 6 < got
  ·
   go_enter Tryz.func74, Tryz.ntmps74
   go_wp2_with fail
   refine (him0 _).mono ?_
   rintro e u1 ⟨rfl, hb⟩
   have HB1 := Lib.hid (HB0.out.trans (hb.mono (by have := HB0.out.size; have := HZ.out; omega)))
   clear c0 c69 c70 c105 c106 l1 l35 l71 lM k1 k35 k71 k72 hb
   obtain ⟨c0, c69, c70, c105, c106, l1, l35, l71, lM⟩ := HALL.out _ HB1.out
   obtain ⟨k1, k35, k71, k72⟩ := HKS.out _ HB1.out
   go_wp2_with fail
   refine (him1 _).mono ?_
   rintro e u2 ⟨rfl, hb⟩
   have HB2 := Lib.hid (HB1.out.trans (hb.mono (by have := HB1.out.size; have := HZ.out; omega)))
   clear c0 c69 c70 c105 c106 l1 l35 l71 lM k1 k35 k71 k72 hb
   obtain ⟨c0, c69, c70, c105, c106, l1, l35, l71, lM⟩ := HALL.out _ HB2.out
   obtain ⟨k1, k35, k71, k72⟩ := HKS.out _ HB2.out
   go_wp2_with fail
   go_ret
   exact ⟨mbool_ret (by rw [HR.out]; first | rfl | (simp; done) | (simp [*]; done) | (simp; omega)), HBEL.out.trans (HB2.out.mono (Nat.le_succ _))⟩
  by_cases s9 : tr < 0
  ·
   go_enter Tryz.func74, Tryz.ntmps74
   go_wp2_with fail
   refine (him0 _).mono ?_
   rintro e u1 ⟨rfl, hb⟩
   have HB1 := Lib.hid (HB0.out.trans (hb.mono (by have := HB0.out.size; have := HZ.out; omega)))
   clear c0 c69 c70 c105 c106 l1 l35 l71 lM k1 k35 k71 k72 hb
   obtain ⟨c0, c69, c70, c105, c106, l1, l35, l71, lM⟩ := HALL.out _ HB1.out
   obtain ⟨k1, k35, k71, k72⟩ := HKS.out _ HB1.out
   go_wp2_with fail
   refine (him1 _).mono ?_
   rintro e u2 ⟨rfl, hb⟩
   have HB2 := Lib.hid (HB1.out.trans (hb.mono (by have := HB1.out.size; have := HZ.out; omega)))
   clear c0 c69 c70 c105 c106 l1 l35 l71 lM k1 k35 k71 k72 hb
   obtain ⟨c0, c69, c70, c105, c106, l1, l35, l71, lM⟩ := HALL.out _ HB2.out
   obtain ⟨k1, k35, k71, k72⟩ := HKS.out _ HB2.out
   go_wp2_with fail
   go_ret
   exact ⟨mbool_ret (by rw [HR.out]; first | rfl | (simp; done) | (simp [*]; done) | (simp; omega)), HBEL.out.trans (HB2.out.mono (Nat.le_succ _))⟩
  by_cases s10 : 2 < tr
  ·
   go_enter Tryz.func74, Tryz.ntmps74
   go_wp2_with fail
   refine (him0 _).mono ?_
   rintro e u1 ⟨rfl, hb⟩
   have HB1 := Lib.hid (HB0.out.trans (hb.mono (by have := HB0.out.size; have := HZ.out; omega)))
   clear c0 c69 c70 c105 c106 l1 l35 l71 lM k1 k35 k71 k72 hb
   obtain ⟨c0, c69, c70, c105, c106, l1, l35, l71, lM⟩ := HALL.out _ HB1.out
   obtain ⟨k1, k35, k71, k72⟩ := HKS.out _ HB1.out
   go_wp2_with fail
   refine (him1 _).mono ?_
   rintro e u2 ⟨rfl, hb⟩
   have HB2 := Lib.hid (HB1.out.trans (hb.mono (by have := HB1.out.size; have := HZ.out; omega)))
   clear c0 c69 c70 c105 c106 l1 l35 l71 lM k1 k35 k71 k72 hb
   obtain ⟨c0, c69, c70, c105, c106, l1, l35, l71, lM⟩ := HALL.out _ HB2.out
   obtain ⟨k1, k35, k71, k72⟩ := HKS.out _ HB2.out
   go_wp2_with fail
   go_ret
   exact ⟨mbool_ret (by rw [HR.out]; first | rfl | (simp; done) | (simp [*]; done) | (simp; omega)), HBEL.out.trans (HB2.out.mono (Nat.le_succ _))⟩
  go_enter Tryz.func74, Tryz.ntmps74
  go_wp2_with fail
  refine (him0 _).mono ?_
  rintro e u1 ⟨rfl, hb⟩
  have HB1 := Lib.hid (HB0.out.trans (hb.mono (by have := HB0.out.size; have := HZ.out; omega)))
  clear c0 c69 c70 c105 c106 l1 l35 l71 lM k1 k35 k71 k72 hb
  obtain ⟨c0, c69, c70, c105, c106, l1, l35, l71, lM⟩ := HALL.out _ HB1.out
  obtain ⟨k1, k35, k71, k72⟩ := HKS.out _ HB1.out
  go_wp2_with fail
  refine (him1 _).mono ?_
  rintro e u2 ⟨rfl, hb⟩
  have HB2 := Lib.hid (HB1.out.trans (hb.mono (by have := HB1.out.size; have := HZ.out; omega)))
  clear c0 c69 c70 c105 c106 l1 l35 l71 lM k1 k35 k71 k72 hb
  obtain ⟨c0, c69, c70, c105, c106, l1, l35, l71, lM⟩ := HALL.out _ HB2.out
  obtain ⟨k1, k35, k71, k72⟩ := HKS.out _ HB2.out
  go_upto_region 3 with fail
  obtain ⟨C, hC⟩ : ∃ C, decide (0 < cv) = C := ⟨_, rfl⟩
  obtain ⟨O, hO⟩ : ∃ O, decide (0 < v1) = O := ⟨_, rfl⟩
  obtain ⟨RC, hRC⟩ : ∃ RC, m.cm.rmay (!C) = RC := ⟨_, rfl⟩
  have hres : RES = (RC && rphase ph got tr K C O) := by rw [HR.out, hC, hO, hRC]; first | (simp [*]; done) | (simp [*]; omega)
  have HRES := Lib.hid hres
  have HRC := Lib.hid hRC
  clear hres HR hRC s4 s5 s6 s7 s8 s9 s10 q4
  go_upto_region 5 with fail
  clear hC hO
  go_wp2_with fail
  refine (HIC.out _ _ HRC.out _).mono ?_
  rintro e u3 ⟨rfl, hb⟩
  have HB3 := Lib.hid (HB2.out.trans (hb.mono (by have := HB2.out.size; have := HZ.out; omega)))
  clear c0 c69 c70 c105 c106 l1 l35 l71 lM k1 k35 k71 k72 hb
  obtain ⟨c0, c69, c70, c105, c106, l1, l35, l71, lM⟩ := HALL.out _ HB3.out
  obtain ⟨k1, k35, k71, k72⟩ := HKS.out _ HB3.out
  cases RC
  ·
   go_wp2_with fail
   go_ret
   exact ⟨mbool_ret (by rw [HRES.out]; unfold rphase; first | rfl | (simp; done) | (simp [*]; done) | (simp; omega)), HBEL.out.trans (HB3.out.mono (Nat.le_succ _))⟩
  have hch := HCH.out ⟨_, HRC.out⟩
  go_wp2_with fail
  refine (hch _).mono ?_
  rintro e u4 ⟨rfl, rfl⟩
  clear hch l1 l35 l71 lM
  by_cases p0 : ph = 0
  ·
   subst p0
   cases C
   ·
    by_cases g0 : got = 0
    ·
     subst g0
     go_wp2_with fail
     all_goals (go_ret; exact ⟨mbool_ret (by rw [HRES.out]; unfold rphase; first | rfl | (simp; done) | (simp [*]; done) | (simp; omega)), HBEL.out.trans (HB3.out.mono (Nat.le_succ _))⟩)
    have g1 : (got == 0) = false := beq_eq_false_iff_ne.2 g0
    go_wp2_with fail
    all_goals (go_ret; exact ⟨mbool_ret (by rw [HRES.out]; unfold rphase; first | rfl | (simp; done) | (simp [*]; done) | (simp; omega)), HBEL.out.trans (HB3.out.mono (Nat.le_succ _))⟩)
   go_wp2_with fail
   all_goals (go_ret; exact ⟨mbool_ret (by rw [HRES.out]; unfold rphase; first | rfl | (simp; done) | (simp [*]; done) | (simp; omega)), HBEL.out.trans (HB3.out.mono (Nat.le_succ _))⟩)
  by_cases p1 : ph = 1
  ·
   subst p1
   cases C
   ·
    go_wp2_with fail
    all_goals (go_ret; exact ⟨mbool_ret (by rw [HRES.out]; unfold rphase; first | rfl | (simp; done) | (simp [*]; done) | (simp; omega)), HBEL.out.trans (HB3.out.mono (Nat.le_succ _))⟩)
   cases O
   ·
    by_cases g0 : tr = 0
    ·
     subst g0
     go_wp2_with fail
     all_goals (go_ret; exact ⟨mbool_ret (by rw [HRES.out]; unfold rphase; first | rfl | (simp; done) | (simp [*]; done) | (simp; omega)), HBEL.out.trans (HB3.out.mono (Nat.le_succ _))⟩)
    have g1 : (tr == 0) = false := beq_eq_false_iff_ne.2 g0
    go_wp2_with fail
    all_goals (go_ret; exact ⟨mbool_ret (by rw [HRES.out]; unfold rphase; first | rfl | (simp; done) | (simp [*]; done) | (simp; omega)), HBEL.out.trans (HB3.out.mono (Nat.le_succ _))⟩)
   go_wp2_with fail
   all_goals (go_ret; exact ⟨mbool_ret (by rw [HRES.out]; unfold rphase; first | rfl | (simp; done) | (simp [*]; done) | (simp; omega)), HBEL.out.trans (HB3.out.mono (Nat.le_succ _))⟩)
  by_cases p2 : ph = 2
  ·
   subst p2
   cases C
   ·
    go_wp2_with fail
    all_goals (go_ret; exact ⟨mbool_ret (by rw [HRES.out]; unfold rphase; first | rfl | (simp; done) | (simp [*]; done) | (simp; omega)), HBEL.out.trans (HB3.out.mono (Nat.le_succ _))⟩)
   cases O
   ·
    by_cases g0 : tr = 0
    ·
     subst g0
     go_wp2_with fail
     all_goals (go_ret; exact ⟨mbool_ret (by rw [HRES.out]; unfold rphase; first | rfl | (simp; done) | (simp [*]; done) | (simp; omega)), HBEL.out.trans (HB3.out.mono (Nat.le_succ _))⟩)
    have g1 : (tr == 0) = false := beq_eq_false_iff_ne.2 g0
    go_wp2_with fail
    all_goals (go_ret; exact ⟨mbool_ret (by rw [HRES.out]; unfold rphase; first | rfl | (simp; done) | (simp [*]; done) | (simp; omega)), HBEL.out.trans (HB3.out.mono (Nat.le_succ _))⟩)
   go_wp2_with fail
   all_goals (go_ret; exact ⟨mbool_ret (by rw [HRES.out]; unfold rphase; first | rfl | (simp; done) | (simp [*]; done) | (simp; omega)), HBEL.out.trans (HB3.out.mono (Nat.le_succ _))⟩)
  by_cases p3 : ph = 3
  ·
   subst p3
   cases C
   ·
    by_cases g0 : got = 0
    ·
     subst g0
     go_wp2_with fail
     all_goals (go_ret; exact ⟨mbool_ret (by rw [HRES.out]; unfold rphase; first | rfl | (simp; done) | (simp [*]; done) | (simp; omega)), HBEL.out.trans (HB3.out.mono (Nat.le_succ _))⟩)
    have g1 : (got == 0) = false := beq_eq_false_iff_ne.2 g0
    go_wp2_with fail
    all_goals (go_ret; exact ⟨mbool_ret (by rw [HRES.out]; unfold rphase; first | rfl | (simp; done) | (simp [*]; done) | (simp; omega)), HBEL.out.trans (HB3.out.mono (Nat.le_succ _))⟩)
   go_wp2_with fail
   all_goals (go_ret; exact ⟨mbool_ret (by rw [HRES.out]; unfold rphase; first | rfl | (simp; done) | (simp [*]; done) | (simp; omega)), HBEL.out.trans (HB3.out.mono (Nat.le_succ _))⟩)
  have b0 : (ph == 0) = false := beq_eq_false_iff_ne.2 p0
  have b1 : (ph == 1) = false := beq_eq_false_iff_ne.2 p1
  have b2 : (ph == 2) = false := beq_eq_false_iff_ne.2 p2
  have b3 : (ph == 3) = false := beq_eq_false_iff_ne.2 p3
  go_wp2_with fail
  all_goals (go_ret; exact ⟨mbool_ret (by rw [HRES.out]; unfold rphase; first | rfl | (simp; done) | (simp [*]; done) | (simp; omega)), HBEL.out.trans (HB3.out.mono (Nat.le_succ _))⟩)
 ·
  have hhv : (m.have_ 1).v = v1 := by rw [← EV1.out]; rfl
  have hov : m.oth.v = v0 := by rw [Mt.oth1 e0]; exact EV0.out
  rw [hhv, hov] at hR
  obtain ⟨RES, hRES⟩ : ∃ RES, m.rright = RES := ⟨_, rfl⟩
  rw [hRES] at hR ⊢
  have HR := Lib.hid hR
  clear hR hRES hhv hov e0
  cases H0
  ·
   go_enter Tryz.func74, Tryz.ntmps74
   go_wp2_with fail
   refine (him0 _).mono ?_
   rintro e u1 ⟨rfl, hb⟩
   have HB1 := Lib.hid (HB0.out.trans (hb.mono (by have := HB0.out.size; have := HZ.out; omega)))
   clear c0 c69 c70 c105 c106 l1 l35 l71 lM k1 k35 k71 k72 hb
   obtain ⟨c0, c69, c70, c105, c106, l1, l35, l71, lM⟩ := HALL.out _ HB1.out
   obtain ⟨k1, k35, k71, k72⟩ := HKS.out _ HB1.out
   go_wp2_with fail
   go_ret
   exact ⟨mbool_ret (by rw [HR.out]; first | rfl | (simp; done) | (simp [*]; done) | (simp; omega)), HBEL.out.trans (HB1.out.mono (Nat.le_succ _))⟩
  cases H1
  ·
   go_enter Tryz.func74, Tryz.ntmps74
   go_wp2_with fail
   refine (him0 _).mono ?_
   rintro e u1 ⟨rfl, hb⟩
   have HB1 := Lib.hid (HB0.out.trans (hb.mono (by have := HB0.out.size; have := HZ.out; omega)))
   clear c0 c69 c70 c105 c106 l1 l35 l71 lM k1 k35 k71 k72 hb
   obtain ⟨c0, c69, c70, c105, c106, l1, l35, l71, lM⟩ := HALL.out _ HB1.out
   obtain ⟨k1, k35, k71, k72⟩ := HKS.out _ HB1.out
   go_wp2_with fail
   refine (him1 _).mono ?_
   rintro e u2 ⟨rfl, hb⟩
   have HB2 := Lib.hid (HB1.out.trans (hb.mono (by have := HB1.out.size; have := HZ.out; omega)))
   clear c0 c69 c70 c105 c106 l1 l35 l71 lM k1 k35 k71 k72 hb
   obtain ⟨c0, c69, c70, c105, c106, l1, l35, l71, lM⟩ := HALL.out _ HB2.out
   obtain ⟨k1, k35, k71, k72⟩ := HKS.out _ HB2.out
   go_wp2_with fail
   go_ret
   exact ⟨mbool_ret (by rw [HR.out]; first | rfl | (simp; done) | (simp [*]; done) | (simp; omega)), HBEL.out.trans (HB2.out.mono (Nat.le_succ _))⟩
  by_cases s4 : v1 = 0
  ·
   subst s4
   go_enter Tryz.func74, Tryz.ntmps74
   go_wp2_with fail
   refine (him0 _).mono ?_
   rintro e u1 ⟨rfl, hb⟩
   have HB1 := Lib.hid (HB0.out.trans (hb.mono (by have := HB0.out.size; have := HZ.out; omega)))
   clear c0 c69 c70 c105 c106 l1 l35 l71 lM k1 k35 k71 k72 hb
   obtain ⟨c0, c69, c70, c105, c106, l1, l35, l71, lM⟩ := HALL.out _ HB1.out
   obtain ⟨k1, k35, k71, k72⟩ := HKS.out _ HB1.out
   go_wp2_with fail
   refine (him1 _).mono ?_
   rintro e u2 ⟨rfl, hb⟩
   have HB2 := Lib.hid (HB1.out.trans (hb.mono (by have := HB1.out.size; have := HZ.out; omega)))
   clear c0 c69 c70 c105 c106 l1 l35 l71 lM k1 k35 k71 k72 hb
   obtain ⟨c0, c69, c70, c105, c106, l1, l35, l71, lM⟩ := HALL.out _ HB2.out
   obtain ⟨k1, k35, k71, k72⟩ := HKS.out _ HB2.out
   go_wp2_with fail
   go_ret
   exact ⟨mbool_ret (by rw [HR.out]; first | rfl | (simp; done) | (simp [*]; done) | (simp; omega)), HBEL.out.trans (HB2.out.mono (Nat.le_succ _))⟩
  have q4 : (v1 == 0) = false := beq_eq_false_iff_ne.2 s4
  by_cases s5 : mn < 0
  ·
   go_enter Tryz.func74, Tryz.ntmps74
   go_wp2_with fail
   refine (him0 _).mono ?_
   rintro e u1 ⟨rfl, hb⟩
   have HB1 := Lib.hid (HB0.out.trans (hb.mono (by have := HB0.out.size; have := HZ.out; omega)))
   clear c0 c69 c70 c105 c106 l1 l35 l71 lM k1 k35 k71 k72 hb
   obtain ⟨c0, c69, c70, c105, c106, l1, l35, l71, lM⟩ := HALL.out _ HB1.out
   obtain ⟨k1, k35, k71, k72⟩ := HKS.out _ HB1.out
   go_wp2_with fail
   refine (him1 _).mono ?_
   rintro e u2 ⟨rfl, hb⟩
   have HB2 := Lib.hid (HB1.out.trans (hb.mono (by have := HB1.out.size; have := HZ.out; omega)))
   clear c0 c69 c70 c105 c106 l1 l35 l71 lM k1 k35 k71 k72 hb
   obtain ⟨c0, c69, c70, c105, c106, l1, l35, l71, lM⟩ := HALL.out _ HB2.out
   obtain ⟨k1, k35, k71, k72⟩ := HKS.out _ HB2.out
   go_wp2_with fail
   go_ret
   exact ⟨mbool_ret (by rw [HR.out]; first | rfl | (simp; done) | (simp [*]; done) | (simp; omega)), HBEL.out.trans (HB2.out.mono (Nat.le_succ _))⟩
  by_cases s6 : 1073741824 < mn
  ·
   go_enter Tryz.func74, Tryz.ntmps74
   go_wp2_with fail
   refine (him0 _).mono ?_
   rintro e u1 ⟨rfl, hb⟩
   have HB1 := Lib.hid (HB0.out.trans (hb.mono (by have := HB0.out.size; have := HZ.out; omega)))
   clear c0 c69 c70 c105 c106 l1 l35 l71 lM k1 k35 k71 k72 hb
   obtain ⟨c0, c69, c70, c105, c106, l1, l35, l71, lM⟩ := HALL.out _ HB1.out
   obtain ⟨k1, k35, k71, k72⟩ := HKS.out _ HB1.out
   go_wp2_with fail
   refine (him1 _).mono ?_
   rintro e u2 ⟨rfl, hb⟩
   have HB2 := Lib.hid (HB1.out.trans (hb.mono (by have := HB1.out.size; have := HZ.out; omega)))
   clear c0 c69 c70 c105 c106 l1 l35 l71 lM k1 k35 k71 k72 hb
   obtain ⟨c0, c69, c70, c105, c106, l1, l35, l71, lM⟩ := HALL.out _ HB2.out
   obtain ⟨k1, k35, k71, k72⟩ := HKS.out _ HB2.out
   go_wp2_with fail
   go_ret
   exact ⟨mbool_ret (by rw [HR.out]; first | rfl | (simp; done) | (simp [*]; done) | (simp; omega)), HBEL.out.trans (HB2.out.mono (Nat.le_succ _))⟩
  by_cases s7 : got < 0
  ·
   go_enter Tryz.func74, Tryz.ntmps74
   go_wp2_with fail
   refine (him0 _).mono ?_
   rintro e u1 ⟨rfl, hb⟩
   have HB1 := Lib.hid (HB0.out.trans (hb.mono (by have := HB0.out.size; have := HZ.out; omega)))
   clear c0 c69 c70 c105 c106 l1 l35 l71 lM k1 k35 k71 k72 hb
   obtain ⟨c0, c69, c70, c105, c106, l1, l35, l71, lM⟩ := HALL.out _ HB1.out
   obtain ⟨k1, k35, k71, k72⟩ := HKS.out _ HB1.out
   go_wp2_with fail
   refine (him1 _).mono ?_
   rintro e u2 ⟨rfl, hb⟩
   have HB2 := Lib.hid (HB1.out.trans (hb.mono (by have := HB1.out.size; have := HZ.out; omega)))
   clear c0 c69 c70 c105 c106 l1 l35 l71 lM k1 k35 k71 k72 hb
   obtain ⟨c0, c69, c70, c105, c106, l1, l35, l71, lM⟩ := HALL.out _ HB2.out
   obtain ⟨k1, k35, k71, k72⟩ := HKS.out _ HB2.out
   go_wp2_with fail
   go_ret
   exact ⟨mbool_ret (by rw [HR.out]; first | rfl | (simp; done) | (simp [*]; done) | (simp; omega)), HBEL.out.trans (HB2.out.mono (Nat.le_succ _))⟩
  by_cases s8 : 6 < got
  ·
   go_enter Tryz.func74, Tryz.ntmps74
   go_wp2_with fail
   refine (him0 _).mono ?_
   rintro e u1 ⟨rfl, hb⟩
   have HB1 := Lib.hid (HB0.out.trans (hb.mono (by have := HB0.out.size; have := HZ.out; omega)))
   clear c0 c69 c70 c105 c106 l1 l35 l71 lM k1 k35 k71 k72 hb
   obtain ⟨c0, c69, c70, c105, c106, l1, l35, l71, lM⟩ := HALL.out _ HB1.out
   obtain ⟨k1, k35, k71, k72⟩ := HKS.out _ HB1.out
   go_wp2_with fail
   refine (him1 _).mono ?_
   rintro e u2 ⟨rfl, hb⟩
   have HB2 := Lib.hid (HB1.out.trans (hb.mono (by have := HB1.out.size; have := HZ.out; omega)))
   clear c0 c69 c70 c105 c106 l1 l35 l71 lM k1 k35 k71 k72 hb
   obtain ⟨c0, c69, c70, c105, c106, l1, l35, l71, lM⟩ := HALL.out _ HB2.out
   obtain ⟨k1, k35, k71, k72⟩ := HKS.out _ HB2.out
   go_wp2_with fail
   go_ret
   exact ⟨mbool_ret (by rw [HR.out]; first | rfl | (simp; done) | (simp [*]; done) | (simp; omega)), HBEL.out.trans (HB2.out.mono (Nat.le_succ _))⟩
  by_cases s9 : tr < 0
  ·
   go_enter Tryz.func74, Tryz.ntmps74
   go_wp2_with fail
   refine (him0 _).mono ?_
   rintro e u1 ⟨rfl, hb⟩
   have HB1 := Lib.hid (HB0.out.trans (hb.mono (by have := HB0.out.size; have := HZ.out; omega)))
   clear c0 c69 c70 c105 c106 l1 l35 l71 lM k1 k35 k71 k72 hb
   obtain ⟨c0, c69, c70, c105, c106, l1, l35, l71, lM⟩ := HALL.out _ HB1.out
   obtain ⟨k1, k35, k71, k72⟩ := HKS.out _ HB1.out
   go_wp2_with fail
   refine (him1 _).mono ?_
   rintro e u2 ⟨rfl, hb⟩
   have HB2 := Lib.hid (HB1.out.trans (hb.mono (by have := HB1.out.size; have := HZ.out; omega)))
   clear c0 c69 c70 c105 c106 l1 l35 l71 lM k1 k35 k71 k72 hb
   obtain ⟨c0, c69, c70, c105, c106, l1, l35, l71, lM⟩ := HALL.out _ HB2.out
   obtain ⟨k1, k35, k71, k72⟩ := HKS.out _ HB2.out
   go_wp2_with fail
   go_ret
   exact ⟨mbool_ret (by rw [HR.out]; first | rfl | (simp; done) | (simp [*]; done) | (simp; omega)), HBEL.out.trans (HB2.out.mono (Nat.le_succ _))⟩
  by_cases s10 : 2 < tr
  ·
   go_enter Tryz.func74, Tryz.ntmps74
   go_wp2_with fail
   refine (him0 _).mono ?_
   rintro e u1 ⟨rfl, hb⟩
   have HB1 := Lib.hid (HB0.out.trans (hb.mono (by have := HB0.out.size; have := HZ.out; omega)))
   clear c0 c69 c70 c105 c106 l1 l35 l71 lM k1 k35 k71 k72 hb
   obtain ⟨c0, c69, c70, c105, c106, l1, l35, l71, lM⟩ := HALL.out _ HB1.out
   obtain ⟨k1, k35, k71, k72⟩ := HKS.out _ HB1.out
   go_wp2_with fail
   refine (him1 _).mono ?_
   rintro e u2 ⟨rfl, hb⟩
   have HB2 := Lib.hid (HB1.out.trans (hb.mono (by have := HB1.out.size; have := HZ.out; omega)))
   clear c0 c69 c70 c105 c106 l1 l35 l71 lM k1 k35 k71 k72 hb
   obtain ⟨c0, c69, c70, c105, c106, l1, l35, l71, lM⟩ := HALL.out _ HB2.out
   obtain ⟨k1, k35, k71, k72⟩ := HKS.out _ HB2.out
   go_wp2_with fail
   go_ret
   exact ⟨mbool_ret (by rw [HR.out]; first | rfl | (simp; done) | (simp [*]; done) | (simp; omega)), HBEL.out.trans (HB2.out.mono (Nat.le_succ _))⟩
  go_enter Tryz.func74, Tryz.ntmps74
  go_wp2_with fail
  refine (him0 _).mono ?_
  rintro e u1 ⟨rfl, hb⟩
  have HB1 := Lib.hid (HB0.out.trans (hb.mono (by have := HB0.out.size; have := HZ.out; omega)))
  clear c0 c69 c70 c105 c106 l1 l35 l71 lM k1 k35 k71 k72 hb
  obtain ⟨c0, c69, c70, c105, c106, l1, l35, l71, lM⟩ := HALL.out _ HB1.out
  obtain ⟨k1, k35, k71, k72⟩ := HKS.out _ HB1.out
  go_wp2_with fail
  refine (him1 _).mono ?_
  rintro e u2 ⟨rfl, hb⟩
  have HB2 := Lib.hid (HB1.out.trans (hb.mono (by have := HB1.out.size; have := HZ.out; omega)))
  clear c0 c69 c70 c105 c106 l1 l35 l71 lM k1 k35 k71 k72 hb
  obtain ⟨c0, c69, c70, c105, c106, l1, l35, l71, lM⟩ := HALL.out _ HB2.out
  obtain ⟨k1, k35, k71, k72⟩ := HKS.out _ HB2.out
  go_upto_region 3 with fail
  obtain ⟨C, hC⟩ : ∃ C, decide (0 < cv) = C := ⟨_, rfl⟩
  obtain ⟨O, hO⟩ : ∃ O, decide (0 < v0) = O := ⟨_, rfl⟩
  obtain ⟨RC, hRC⟩ : ∃ RC, m.cm.rmay (!C) = RC := ⟨_, rfl⟩
  have hres : RES = (RC && rphase ph got tr K C O) := by rw [HR.out, hC, hO, hRC]; first | (simp [*]; done) | (simp [*]; omega)
  have HRES := Lib.hid hres
  have HRC := Lib.hid hRC
  clear hres HR hRC s4 s5 s6 s7 s8 s9 s10 q4
  go_upto_region 5 with fail
  clear hC hO
  go_wp2_with fail
  refine (HIC.out _ _ HRC.out _).mono ?_
  rintro e u3 ⟨rfl, hb⟩
  have HB3 := Lib.hid (HB2.out.trans (hb.mono (by have := HB2.out.size; have := HZ.out; omega)))
  clear c0 c69 c70 c105 c106 l1 l35 l71 lM k1 k35 k71 k72 hb
  obtain ⟨c0, c69, c70, c105, c106, l1, l35, l71, lM⟩ := HALL.out _ HB3.out
  obtain ⟨k1, k35, k71, k72⟩ := HKS.out _ HB3.out
  cases RC
  ·
   go_wp2_with fail
   go_ret
   exact ⟨mbool_ret (by rw [HRES.out]; unfold rphase; first | rfl | (simp; done) | (simp [*]; done) | (simp; omega)), HBEL.out.trans (HB3.out.mono (Nat.le_succ _))⟩
  have hch := HCH.out ⟨_, HRC.out⟩
  go_wp2_with fail
  refine (hch _).mono ?_
  rintro e u4 ⟨rfl, rfl⟩
  clear hch l1 l35 l71 lM
  by_cases p0 : ph = 0
  ·
   subst p0
   cases C
   ·
    by_cases g0 : got = 0
    ·
     subst g0
     go_wp2_with fail
     all_goals (go_ret; exact ⟨mbool_ret (by rw [HRES.out]; unfold rphase; first | rfl | (simp; done) | (simp [*]; done) | (simp; omega)), HBEL.out.trans (HB3.out.mono (Nat.le_succ _))⟩)
    have g1 : (got == 0) = false := beq_eq_false_iff_ne.2 g0
    go_wp2_with fail
    all_goals (go_ret; exact ⟨mbool_ret (by rw [HRES.out]; unfold rphase; first | rfl | (simp; done) | (simp [*]; done) | (simp; omega)), HBEL.out.trans (HB3.out.mono (Nat.le_succ _))⟩)
   go_wp2_with fail
   all_goals (go_ret; exact ⟨mbool_ret (by rw [HRES.out]; unfold rphase; first | rfl | (simp; done) | (simp [*]; done) | (simp; omega)), HBEL.out.trans (HB3.out.mono (Nat.le_succ _))⟩)
  by_cases p1 : ph = 1
  ·
   subst p1
   cases C
   ·
    go_wp2_with fail
    all_goals (go_ret; exact ⟨mbool_ret (by rw [HRES.out]; unfold rphase; first | rfl | (simp; done) | (simp [*]; done) | (simp; omega)), HBEL.out.trans (HB3.out.mono (Nat.le_succ _))⟩)
   cases O
   ·
    by_cases g0 : tr = 0
    ·
     subst g0
     go_wp2_with fail
     all_goals (go_ret; exact ⟨mbool_ret (by rw [HRES.out]; unfold rphase; first | rfl | (simp; done) | (simp [*]; done) | (simp; omega)), HBEL.out.trans (HB3.out.mono (Nat.le_succ _))⟩)
    have g1 : (tr == 0) = false := beq_eq_false_iff_ne.2 g0
    go_wp2_with fail
    all_goals (go_ret; exact ⟨mbool_ret (by rw [HRES.out]; unfold rphase; first | rfl | (simp; done) | (simp [*]; done) | (simp; omega)), HBEL.out.trans (HB3.out.mono (Nat.le_succ _))⟩)
   go_wp2_with fail
   all_goals (go_ret; exact ⟨mbool_ret (by rw [HRES.out]; unfold rphase; first | rfl | (simp; done) | (simp [*]; done) | (simp; omega)), HBEL.out.trans (HB3.out.mono (Nat.le_succ _))⟩)
  by_cases p2 : ph = 2
  ·
   subst p2
   cases C
   ·
    go_wp2_with fail
    all_goals (go_ret; exact ⟨mbool_ret (by rw [HRES.out]; unfold rphase; first | rfl | (simp; done) | (simp [*]; done) | (simp; omega)), HBEL.out.trans (HB3.out.mono (Nat.le_succ _))⟩)
   cases O
   ·
    by_cases g0 : tr = 0
    ·
     subst g0
     go_wp2_with fail
     all_goals (go_ret; exact ⟨mbool_ret (by rw [HRES.out]; unfold rphase; first | rfl | (simp; done) | (simp [*]; done) | (simp; omega)), HBEL.out.trans (HB3.out.mono (Nat.le_succ _))⟩)
    have g1 : (tr == 0) = false := beq_eq_false_iff_ne.2 g0
    go_wp2_with fail
    all_goals (go_ret; exact ⟨mbool_ret (by rw [HRES.out]; unfold rphase; first | rfl | (simp; done) | (simp [*]; done) | (simp; omega)), HBEL.out.trans (HB3.out.mono (Nat.le_succ _))⟩)
   go_wp2_with fail
   all_goals (go_ret; exact ⟨mbool_ret (by rw [HRES.out]; unfold rphase; first | rfl | (simp; done) | (simp [*]; done) | (simp; omega)), HBEL.out.trans (HB3.out.mono (Nat.le_succ _))⟩)
  by_cases p3 : ph = 3
  ·
   subst p3
   cases C
   ·
    by_cases g0 : got = 0
    ·
     subst g0
     go_wp2_with fail
     all_goals (go_ret; exact ⟨mbool_ret (by rw [HRES.out]; unfold rphase; first | rfl | (simp; done) | (simp [*]; done) | (simp; omega)), HBEL.out.trans (HB3.out.mono (Nat.le_succ _))⟩)
    have g1 : (got == 0) = false := beq_eq_false_iff_ne.2 g0
    go_wp2_with fail
    all_goals (go_ret; exact ⟨mbool_ret (by rw [HRES.out]; unfold rphase; first | rfl | (simp; done) | (simp [*]; done) | (simp; omega)), HBEL.out.trans (HB3.out.mono (Nat.le_succ _))⟩)
   go_wp2_with fail
   all_goals (go_ret; exact ⟨mbool_ret (by rw [HRES.out]; unfold rphase; first | rfl | (simp; done) | (simp [*]; done) | (simp; omega)), HBEL.out.trans (HB3.out.mono (Nat.le_succ _))⟩)
  have b0 : (ph == 0) = false := beq_eq_false_iff_ne.2 p0
  have b1 : (ph == 1) = false := beq_eq_false_iff_ne.2 p1
  have b2 : (ph == 2) = false := beq_eq_false_iff_ne.2 p2
  have b3 : (ph == 3) = false := beq_eq_false_iff_ne.2 p3
  go_wp2_with fail
  all_goals (go_ret; exact ⟨mbool_ret (by rw [HRES.out]; unfold rphase; first | rfl | (simp; done) | (simp [*]; done) | (simp; omega)), HBEL.out.trans (HB3.out.mono (Nat.le_succ _))⟩)
end Go.Proofs.YtpafenlcgcenlaaGreatDoor
