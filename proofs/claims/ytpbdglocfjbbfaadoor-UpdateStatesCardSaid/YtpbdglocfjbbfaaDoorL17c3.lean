/- UpdateStates, phase 3. -/
import Derived.Test.YtpbdglocfjbbfaaDoorL17c
namespace Go.Proofs.YtpbdglocfjbbfaaDoor
open Go Go.RowKit
set_option linter.unusedVariables false
set_option linter.unusedSimpArgs false
attribute [local go_sem ↓] sldI_seal sldM_seal sstM_seal sstI_seal sldF_seal sldQ_seal sldR_seal sstR_seal sbM_seal sstQ_seal
set_option maxRecDepth 100000 in
set_option maxHeartbeats 40000000 in
theorem updStates3_c (k t : Int) (hk0 : 2 ≤ k) (hk1 : k ≤ 10) (ht0 : 0 ≤ t) (ht1 : t ≤ 2) (w : World) : Calls Tryd.prog 7 #[.int .i64 3, .int .i64 k, .int .i64 t] w fun e w' => e = .returned (.bool true) ∧ Below w.heap.size w w' := by
  have hbm := fun W => run_sbM 3 W
  go_enter Tryd.func7, Tryd.ntmps7
  go_wp2_with fail
  refine (alive17_c w).mono ?_
  rintro e w1 ⟨rfl, hb1⟩
  have hN := (Bxs.nil w).later hb1
  have hlt := hN.bel.size
  have hN := hN.new rfl 27 Tryd.zeroCells27
  have hst := storeM (litM_ok 3) hN.hd zeroM_size
  have hP := hN.put (litM 3).cells.toArray hlt (by intro x hx; cases hx)
  obtain ⟨mb, hmb⟩ : ∃ mb, w1.heap.size = mb := ⟨_, rfl⟩
  rw [hmb] at hst hP hlt
  obtain ⟨LM, hLM⟩ : ∃ LM, (litM 3).cells.toArray = LM := ⟨_, rfl⟩
  rw [hLM] at hst hP hbm
  have HP := Lib.hid hP
  clear hN hP hb1
  go_upto_region 5 with fail
  have hP := HP.out
  clear HP hst hbm
  generalize (w1.alloc (.cells Tryd.zeroCells27 27)).setRow mb LM = W1 at hP ⊢
  rw [← hLM] at hP
  clear hLM
  have hst := run_sstI hP.hd 1 (by rw [List.size_toArray, Mt.cells_len (litM_ok 3)]; omega) ⟨1, 5, List.replicate 32 0⟩ rfl
  have hX := hP.sets (hP.hd.putH0 (litM_ok 3) ⟨1, 5, List.replicate 32 0⟩ rfl) hlt (by intro x hx; cases hx)
  rw [← litI_eq] at hst
  clear hP
  obtain ⟨IC, hIC⟩ : ∃ IC, (⟨1, 5, List.replicate 32 0⟩ : Img).cells = IC := ⟨_, rfl⟩
  rw [hIC] at hst hX
  clear hIC
  have HX := Lib.hid hX
  clear hX
  go_upto_region 6 with fail
  have hX := HX.out
  clear HX hst
  generalize World.setCells W1 mb 1 IC = W2 at hX ⊢
  have o1 : ({ litM 3 with h0 := ⟨1, 5, List.replicate 32 0⟩ } : Mt).Ok := ⟨rfl, rfl, rfl, act0⟩
  have o2 : ({ litM 3 with h0 := ⟨1, 5, List.replicate 32 0⟩, h1 := ⟨5, 7, List.replicate 32 0⟩ } : Mt).Ok := ⟨rfl, rfl, rfl, act0⟩
  have hst := run_sstI hX.hd 35 (by rw [List.size_toArray, Mt.cells_len o1]; omega) ⟨5, 7, List.replicate 32 0⟩ rfl
  have hX2 := hX.sets (hX.hd.putH1 o1 ⟨5, 7, List.replicate 32 0⟩ rfl) hlt (by intro x hx; cases hx)
  rw [← litI_eq] at hst
  obtain ⟨IC2, hIC2⟩ : ∃ IC2, (⟨5, 7, List.replicate 32 0⟩ : Img).cells = IC2 := ⟨_, rfl⟩
  rw [hIC2] at hst hX2
  have HX2 := Lib.hid hX2
  clear hX hX2 hIC2
  go_upto_region 13 with fail
  have hX2 := HX2.out
  clear HX2 hst
  generalize World.setCells W2 mb 35 IC2 = W3 at hX2 ⊢
  obtain ⟨u1, k1⟩ := hX2.hd.some o2 106 (by omega)
  have f1 := hX2.hd.frozen 106
  have hX3 := hX2.set (hX2.hd.setTrials o2 t) hlt (by intro x hx; cases hx)
  have HX3 := Lib.hid (show Bxs w _ [(mb, 27, (mS 3 t).cells.toArray)] from hX3)
  clear hX2 hX3
  go_upto_region 14 with fail
  have hX3 := HX3.out
  clear HX3 k1 f1
  generalize World.setCell W3 (⟨mb, 106, none⟩ : Addr) (i64v t) = W4 at hX3 ⊢
  have hlq := hX3.hd.lt
  have hN := hX3.new rfl 30 #[.int .i64 0, .int .i64 0, .slice none 0 0]
  have hst := run_sstQ k 0 none 0 0 hN.hd rfl
  have hP := hN.put #[.int .i64 k, .int .i64 0, .slice none 0 0] (by omega) (by intro x hx; simp only [List.mem_cons, List.not_mem_nil, or_false] at hx; rw [hx]; simp; omega)
  obtain ⟨qb, hqb⟩ : ∃ qb, W4.heap.size = qb := ⟨_, rfl⟩
  rw [hqb] at hst hP hlq
  have HP := Lib.hid hP
  clear hX3 hN hP
  go_upto_region 15 with fail
  have hP := HP.out
  clear HP hst hqb
  generalize World.setRow _ qb _ = W5 at hP ⊢
  obtain ⟨M, hM⟩ : ∃ M, (mS 3 t).cells.toArray = M := ⟨_, rfl⟩
  rw [hM] at hP
  have HM := Lib.hid hM
  clear hM
  have hk : k = 2 ∨ k = 3 ∨ k = 4 ∨ k = 5 ∨ k = 6 ∨ k = 7 ∨ k = 8 ∨ k = 9 ∨ k = 10 := by omega
  have HLQ := Lib.hid hlq
  have HLT := Lib.hid hlt
  have HX := Lib.hid hP
  clear hk0 hk1 hP hlq hlt
  rcases hk with rfl | rfl | rfl | rfl | rfl | rfl | rfl | rfl | rfl
  · have hmk : (Instr.makeSlice 28 (.int .i64 7) (.int .i64 7)).run Tryd.prog W5 = .ok (.slice (some ⟨W5.heap.size, 0, none⟩) 7 7) (W5.alloc (.cells #[.int .u8 0, .int .u8 0, .int .u8 0, .int .u8 0, .int .u8 0, .int .u8 0, .int .u8 0] 5)) := make_bytes 7 (by omega) W5
    have hXa := HX.out.alloc (.cells #[.int .u8 0, .int .u8 0, .int .u8 0, .int .u8 0, .int .u8 0, .int .u8 0, .int .u8 0] 5)
    have f2 := hXa.hd.frozen 2
    have k2 : (W5.alloc (.cells #[.int .u8 0, .int .u8 0, .int .u8 0, .int .u8 0, .int .u8 0, .int .u8 0, .int .u8 0] 5)).cell? ⟨qb, 2, none⟩ = some (.slice none 0 0) := hXa.hd.cell 2
    obtain ⟨sb, hsb⟩ : ∃ sb, W5.heap.size = sb := ⟨_, rfl⟩
    have hXs := hXa.set (c2 := #[.int .i64 2, .int .i64 0, .slice (some ⟨sb, 0, none⟩) 7 7]) (hXa.hd.set_ 2 (.slice (some ⟨sb, 0, none⟩) 7 7)) (by have := HLQ.out; have := HLT.out; omega) (by intro x hx; simp only [List.mem_cons, List.not_mem_nil, or_false] at hx; rw [hx]; simp; have := HLQ.out; omega)
    have HXs := Lib.hid hXs
    rw [hsb] at hmk
    clear hXa hXs
    go_upto_region 17 with fail
    have hXs := HXs.out
    clear HXs k2 f2 HX hmk
    generalize World.setCell _ (⟨qb, 2, none⟩ : Addr) _ = W6 at hXs ⊢
    have HX := Lib.hid hXs
    clear hXs
    have ht : t = 0 ∨ t = 1 ∨ t = 2 := by omega
    clear ht0 ht1
    rcases ht with rfl | rfl | rfl
    · obtain ⟨D, hDD⟩ : ∃ D, doD (mS 3 0) Fc.zero 2 0 ((7 : Nat) : Int) B0 = D := ⟨_, rfl⟩
      have hDo : D.m.Ok := hDD ▸ doD_ok (mS_ok _ _) Fc.zero 2 0 _ B0 (fun _ h => absurd h (by decide))
      have hdo : ∀ W, Calls Tryd.prog 10 #[.agg M, .agg #[.int .i64 2, .int .i64 0, .slice (some ⟨sb, 0, none⟩) 7 7], .agg zeroF, .int .i64 1] W fun e w' => e = .returned D.res ∧ Below W.heap.size W w' := fun W => by
        rw [← HM.out, zeroF_eq, ← hDD]
        exact do_c W (mS 3 0) (mS_ok _ _) 2 0 (some ⟨sb, 0, none⟩) 7 7 (by decide) Fc.zero rfl 1 B0 (fun _ h => absurd h (by decide)) (fun _ h => absurd h (by decide))
      have hld : (sldM (.pointer (some ⟨mb, 0, none⟩))).run Tryd.prog W6 = .ok (.agg M) W6 := by
        have q := HX.out.tl.hd
        rw [← HM.out] at q ⊢
        exact run_sldM (Mt.cells_len (mS_ok _ _)) q.whole
      have hlq : (sldQ (.pointer (some ⟨qb, 0, none⟩))).run Tryd.prog W6 = .ok (.agg #[.int .i64 2, .int .i64 0, .slice (some ⟨sb, 0, none⟩) 7 7]) W6 := run_sldQ rfl (Blk.whole (l := [.int .i64 2, .int .i64 0, .slice (some ⟨sb, 0, none⟩) 7 7]) HX.out.hd)
      have he : D.e = 11 := by rw [← hDD]; kernel_rfl
      have hrr : D.m.rright = true := by rw [← hDD]; kernel_rfl
      have hnm : D.m = mS 3 0 := by rw [← hDD]; kernel_rfl
      obtain ⟨dm, de, dn, dg⟩ := D
      simp only at hDo he hrr hnm
      obtain rfl : de = 11 := he
      have HDO := Lib.hid (show ∀ W, Calls Tryd.prog 10 #[.agg M, .agg #[.int .i64 2, .int .i64 0, .slice (some ⟨sb, 0, none⟩) 7 7], .agg zeroF, .int .i64 1] W fun e w' => e = .returned (.tuple #[.agg dm.cells.toArray, .agg #[.int .i64 11, .int .i64 dn, .int .i64 dg]]) ∧ Below W.heap.size W w' from hdo)
      clear hdo hDD
      go_wp2_with fail
      refine (HDO.out _).mono ?_
      rintro e w3 ⟨rfl, hb3⟩
      have hX3 := HX.out.later hb3
      have hlt3 := hX3.hd.lt
      have hlt4 := hX3.tl.hd.lt
      have hN1 := hX3.new rfl 27 Tryd.zeroCells27
      have hN2 := hN1.new (g := w3.heap.size + 1) (by simp) 36 #[.int .i64 0, .int .i64 0, .int .i64 0]
      have hst1 := storeM hDo hN2.tl.hd zeroM_size
      obtain ⟨N, hN⟩ : ∃ N, dm.cells.toArray = N := ⟨_, rfl⟩
      rw [hN] at hst1
      have hP1 := hN2.swap.put N (by have := hX3.bel.size; omega) (by intro x hx; simp only [List.mem_cons, List.not_mem_nil, or_false] at hx; rcases hx with hx | hx | hx <;> (rw [hx]; simp <;> omega))
      have hst2 := run_sstR 11 dn dg hP1.tl.hd zeroR_size
      have hP2 := hP1.swap.put #[.int .i64 11, .int .i64 dn, .int .i64 dg] (by have := hX3.bel.size; omega) (by intro x hx; simp only [List.mem_cons, List.not_mem_nil, or_false] at hx; rcases hx with hx | hx | hx <;> (rw [hx]; simp <;> omega))
      have HP := Lib.hid hP2
      have HN := Lib.hid hN
      clear hb3 hX3 hN1 hN2 hP1 hP2 hld hlq HX hlt3 hlt4 hN
      obtain ⟨nb, hnb⟩ : ∃ nb, w3.heap.size = nb := ⟨_, rfl⟩
      rw [hnb] at hst1 hst2 HP
      rw [HN.out]
      go_upto_region 18 with fail
      have hP := HP.out
      clear HP hst1 hst2 hnb HDO
      generalize World.setRow _ (nb + 1) _ = W7 at hP ⊢
      have hl1 : (sldM (.pointer (some ⟨nb, 0, none⟩))).run Tryd.prog W7 = .ok (.agg N) W7 := by
        have q := hP.tl.hd
        rw [← HN.out] at q ⊢
        exact run_sldM (Mt.cells_len hDo) q.whole
      have kr : W7.cell? ⟨nb + 1, 0, none⟩ = some (.int .i64 11) := hP.hd.cell 0
      have hrm : ∀ W, Calls Tryd.prog 16 #[.agg N] W fun e w' => e = .returned (.bool true) ∧ Below W.heap.size W w' := fun W => by rw [← HN.out, ← hrr]; exact rright_c W dm hDo
      have hMN : M = N := by rw [← HM.out, ← HN.out, hnm]
      have hl2 : (sldM (.pointer (some ⟨mb, 0, none⟩))).run Tryd.prog W7 = .ok (.agg N) W7 := by
        have q := hP.tl.tl.tl.hd
        rw [hMN, ← HN.out] at q
        rw [← HN.out]
        exact run_sldM (Mt.cells_len hDo) q.whole
      have hee : ∀ W, (binOp .eql 27 (.agg N) (.agg N)).run Tryd.prog W = .ok (.bool true) W := fun W => by rw [← HN.out]; exact eqlM dm hDo W
      clear hMN hnm
      have HB := Lib.hid hP.bel
      have HRM := Lib.hid hrm
      clear hP hrr hrm
      go_wp2_with fail
      refine (HRM.out _).mono ?_
      rintro e w9 ⟨rfl, hb9⟩
      go_wp2_with fail
      go_ret
      exact ⟨rfl, HB.out.trans (hb9.mono HB.out.size)⟩
    · obtain ⟨D, hDD⟩ : ∃ D, doD (mS 3 1) Fc.zero 2 0 ((7 : Nat) : Int) B0 = D := ⟨_, rfl⟩
      have hDo : D.m.Ok := hDD ▸ doD_ok (mS_ok _ _) Fc.zero 2 0 _ B0 (fun _ h => absurd h (by decide))
      have hdo : ∀ W, Calls Tryd.prog 10 #[.agg M, .agg #[.int .i64 2, .int .i64 0, .slice (some ⟨sb, 0, none⟩) 7 7], .agg zeroF, .int .i64 1] W fun e w' => e = .returned D.res ∧ Below W.heap.size W w' := fun W => by
        rw [← HM.out, zeroF_eq, ← hDD]
        exact do_c W (mS 3 1) (mS_ok _ _) 2 0 (some ⟨sb, 0, none⟩) 7 7 (by decide) Fc.zero rfl 1 B0 (fun _ h => absurd h (by decide)) (fun _ h => absurd h (by decide))
      have hld : (sldM (.pointer (some ⟨mb, 0, none⟩))).run Tryd.prog W6 = .ok (.agg M) W6 := by
        have q := HX.out.tl.hd
        rw [← HM.out] at q ⊢
        exact run_sldM (Mt.cells_len (mS_ok _ _)) q.whole
      have hlq : (sldQ (.pointer (some ⟨qb, 0, none⟩))).run Tryd.prog W6 = .ok (.agg #[.int .i64 2, .int .i64 0, .slice (some ⟨sb, 0, none⟩) 7 7]) W6 := run_sldQ rfl (Blk.whole (l := [.int .i64 2, .int .i64 0, .slice (some ⟨sb, 0, none⟩) 7 7]) HX.out.hd)
      have he : D.e = 11 := by rw [← hDD]; kernel_rfl
      have hrr : D.m.rright = true := by rw [← hDD]; kernel_rfl
      have hnm : D.m = mS 3 1 := by rw [← hDD]; kernel_rfl
      obtain ⟨dm, de, dn, dg⟩ := D
      simp only at hDo he hrr hnm
      obtain rfl : de = 11 := he
      have HDO := Lib.hid (show ∀ W, Calls Tryd.prog 10 #[.agg M, .agg #[.int .i64 2, .int .i64 0, .slice (some ⟨sb, 0, none⟩) 7 7], .agg zeroF, .int .i64 1] W fun e w' => e = .returned (.tuple #[.agg dm.cells.toArray, .agg #[.int .i64 11, .int .i64 dn, .int .i64 dg]]) ∧ Below W.heap.size W w' from hdo)
      clear hdo hDD
      go_wp2_with fail
      refine (HDO.out _).mono ?_
      rintro e w3 ⟨rfl, hb3⟩
      have hX3 := HX.out.later hb3
      have hlt3 := hX3.hd.lt
      have hlt4 := hX3.tl.hd.lt
      have hN1 := hX3.new rfl 27 Tryd.zeroCells27
      have hN2 := hN1.new (g := w3.heap.size + 1) (by simp) 36 #[.int .i64 0, .int .i64 0, .int .i64 0]
      have hst1 := storeM hDo hN2.tl.hd zeroM_size
      obtain ⟨N, hN⟩ : ∃ N, dm.cells.toArray = N := ⟨_, rfl⟩
      rw [hN] at hst1
      have hP1 := hN2.swap.put N (by have := hX3.bel.size; omega) (by intro x hx; simp only [List.mem_cons, List.not_mem_nil, or_false] at hx; rcases hx with hx | hx | hx <;> (rw [hx]; simp <;> omega))
      have hst2 := run_sstR 11 dn dg hP1.tl.hd zeroR_size
      have hP2 := hP1.swap.put #[.int .i64 11, .int .i64 dn, .int .i64 dg] (by have := hX3.bel.size; omega) (by intro x hx; simp only [List.mem_cons, List.not_mem_nil, or_false] at hx; rcases hx with hx | hx | hx <;> (rw [hx]; simp <;> omega))
      have HP := Lib.hid hP2
      have HN := Lib.hid hN
      clear hb3 hX3 hN1 hN2 hP1 hP2 hld hlq HX hlt3 hlt4 hN
      obtain ⟨nb, hnb⟩ : ∃ nb, w3.heap.size = nb := ⟨_, rfl⟩
      rw [hnb] at hst1 hst2 HP
      rw [HN.out]
      go_upto_region 18 with fail
      have hP := HP.out
      clear HP hst1 hst2 hnb HDO
      generalize World.setRow _ (nb + 1) _ = W7 at hP ⊢
      have hl1 : (sldM (.pointer (some ⟨nb, 0, none⟩))).run Tryd.prog W7 = .ok (.agg N) W7 := by
        have q := hP.tl.hd
        rw [← HN.out] at q ⊢
        exact run_sldM (Mt.cells_len hDo) q.whole
      have kr : W7.cell? ⟨nb + 1, 0, none⟩ = some (.int .i64 11) := hP.hd.cell 0
      have hrm : ∀ W, Calls Tryd.prog 16 #[.agg N] W fun e w' => e = .returned (.bool true) ∧ Below W.heap.size W w' := fun W => by rw [← HN.out, ← hrr]; exact rright_c W dm hDo
      have hMN : M = N := by rw [← HM.out, ← HN.out, hnm]
      have hl2 : (sldM (.pointer (some ⟨mb, 0, none⟩))).run Tryd.prog W7 = .ok (.agg N) W7 := by
        have q := hP.tl.tl.tl.hd
        rw [hMN, ← HN.out] at q
        rw [← HN.out]
        exact run_sldM (Mt.cells_len hDo) q.whole
      have hee : ∀ W, (binOp .eql 27 (.agg N) (.agg N)).run Tryd.prog W = .ok (.bool true) W := fun W => by rw [← HN.out]; exact eqlM dm hDo W
      clear hMN hnm
      have HB := Lib.hid hP.bel
      have HRM := Lib.hid hrm
      clear hP hrr hrm
      go_wp2_with fail
      refine (HRM.out _).mono ?_
      rintro e w9 ⟨rfl, hb9⟩
      go_wp2_with fail
      go_ret
      exact ⟨rfl, HB.out.trans (hb9.mono HB.out.size)⟩
    · obtain ⟨D, hDD⟩ : ∃ D, doD (mS 3 2) Fc.zero 2 0 ((7 : Nat) : Int) B0 = D := ⟨_, rfl⟩
      have hDo : D.m.Ok := hDD ▸ doD_ok (mS_ok _ _) Fc.zero 2 0 _ B0 (fun _ h => absurd h (by decide))
      have hdo : ∀ W, Calls Tryd.prog 10 #[.agg M, .agg #[.int .i64 2, .int .i64 0, .slice (some ⟨sb, 0, none⟩) 7 7], .agg zeroF, .int .i64 1] W fun e w' => e = .returned D.res ∧ Below W.heap.size W w' := fun W => by
        rw [← HM.out, zeroF_eq, ← hDD]
        exact do_c W (mS 3 2) (mS_ok _ _) 2 0 (some ⟨sb, 0, none⟩) 7 7 (by decide) Fc.zero rfl 1 B0 (fun _ h => absurd h (by decide)) (fun _ h => absurd h (by decide))
      have hld : (sldM (.pointer (some ⟨mb, 0, none⟩))).run Tryd.prog W6 = .ok (.agg M) W6 := by
        have q := HX.out.tl.hd
        rw [← HM.out] at q ⊢
        exact run_sldM (Mt.cells_len (mS_ok _ _)) q.whole
      have hlq : (sldQ (.pointer (some ⟨qb, 0, none⟩))).run Tryd.prog W6 = .ok (.agg #[.int .i64 2, .int .i64 0, .slice (some ⟨sb, 0, none⟩) 7 7]) W6 := run_sldQ rfl (Blk.whole (l := [.int .i64 2, .int .i64 0, .slice (some ⟨sb, 0, none⟩) 7 7]) HX.out.hd)
      have he : D.e = 11 := by rw [← hDD]; kernel_rfl
      have hrr : D.m.rright = true := by rw [← hDD]; kernel_rfl
      have hnm : D.m = mS 3 2 := by rw [← hDD]; kernel_rfl
      obtain ⟨dm, de, dn, dg⟩ := D
      simp only at hDo he hrr hnm
      obtain rfl : de = 11 := he
      have HDO := Lib.hid (show ∀ W, Calls Tryd.prog 10 #[.agg M, .agg #[.int .i64 2, .int .i64 0, .slice (some ⟨sb, 0, none⟩) 7 7], .agg zeroF, .int .i64 1] W fun e w' => e = .returned (.tuple #[.agg dm.cells.toArray, .agg #[.int .i64 11, .int .i64 dn, .int .i64 dg]]) ∧ Below W.heap.size W w' from hdo)
      clear hdo hDD
      go_wp2_with fail
      refine (HDO.out _).mono ?_
      rintro e w3 ⟨rfl, hb3⟩
      have hX3 := HX.out.later hb3
      have hlt3 := hX3.hd.lt
      have hlt4 := hX3.tl.hd.lt
      have hN1 := hX3.new rfl 27 Tryd.zeroCells27
      have hN2 := hN1.new (g := w3.heap.size + 1) (by simp) 36 #[.int .i64 0, .int .i64 0, .int .i64 0]
      have hst1 := storeM hDo hN2.tl.hd zeroM_size
      obtain ⟨N, hN⟩ : ∃ N, dm.cells.toArray = N := ⟨_, rfl⟩
      rw [hN] at hst1
      have hP1 := hN2.swap.put N (by have := hX3.bel.size; omega) (by intro x hx; simp only [List.mem_cons, List.not_mem_nil, or_false] at hx; rcases hx with hx | hx | hx <;> (rw [hx]; simp <;> omega))
      have hst2 := run_sstR 11 dn dg hP1.tl.hd zeroR_size
      have hP2 := hP1.swap.put #[.int .i64 11, .int .i64 dn, .int .i64 dg] (by have := hX3.bel.size; omega) (by intro x hx; simp only [List.mem_cons, List.not_mem_nil, or_false] at hx; rcases hx with hx | hx | hx <;> (rw [hx]; simp <;> omega))
      have HP := Lib.hid hP2
      have HN := Lib.hid hN
      clear hb3 hX3 hN1 hN2 hP1 hP2 hld hlq HX hlt3 hlt4 hN
      obtain ⟨nb, hnb⟩ : ∃ nb, w3.heap.size = nb := ⟨_, rfl⟩
      rw [hnb] at hst1 hst2 HP
      rw [HN.out]
      go_upto_region 18 with fail
      have hP := HP.out
      clear HP hst1 hst2 hnb HDO
      generalize World.setRow _ (nb + 1) _ = W7 at hP ⊢
      have hl1 : (sldM (.pointer (some ⟨nb, 0, none⟩))).run Tryd.prog W7 = .ok (.agg N) W7 := by
        have q := hP.tl.hd
        rw [← HN.out] at q ⊢
        exact run_sldM (Mt.cells_len hDo) q.whole
      have kr : W7.cell? ⟨nb + 1, 0, none⟩ = some (.int .i64 11) := hP.hd.cell 0
      have hrm : ∀ W, Calls Tryd.prog 16 #[.agg N] W fun e w' => e = .returned (.bool true) ∧ Below W.heap.size W w' := fun W => by rw [← HN.out, ← hrr]; exact rright_c W dm hDo
      have hMN : M = N := by rw [← HM.out, ← HN.out, hnm]
      have hl2 : (sldM (.pointer (some ⟨mb, 0, none⟩))).run Tryd.prog W7 = .ok (.agg N) W7 := by
        have q := hP.tl.tl.tl.hd
        rw [hMN, ← HN.out] at q
        rw [← HN.out]
        exact run_sldM (Mt.cells_len hDo) q.whole
      have hee : ∀ W, (binOp .eql 27 (.agg N) (.agg N)).run Tryd.prog W = .ok (.bool true) W := fun W => by rw [← HN.out]; exact eqlM dm hDo W
      clear hMN hnm
      have HB := Lib.hid hP.bel
      have HRM := Lib.hid hrm
      clear hP hrr hrm
      go_wp2_with fail
      refine (HRM.out _).mono ?_
      rintro e w9 ⟨rfl, hb9⟩
      go_wp2_with fail
      go_ret
      exact ⟨rfl, HB.out.trans (hb9.mono HB.out.size)⟩
  · have ht : t = 0 ∨ t = 1 ∨ t = 2 := by omega
    clear ht0 ht1
    rcases ht with rfl | rfl | rfl
    · obtain ⟨D, hDD⟩ : ∃ D, doD (mS 3 0) Fc.zero 3 0 ((0 : Nat) : Int) B0 = D := ⟨_, rfl⟩
      have hDo : D.m.Ok := hDD ▸ doD_ok (mS_ok _ _) Fc.zero 3 0 _ B0 (fun _ h => absurd h (by decide))
      have hdo : ∀ W, Calls Tryd.prog 10 #[.agg M, .agg #[.int .i64 3, .int .i64 0, .slice none 0 0], .agg zeroF, .int .i64 1] W fun e w' => e = .returned D.res ∧ Below W.heap.size W w' := fun W => by
        rw [← HM.out, zeroF_eq, ← hDD]
        exact do_c W (mS 3 0) (mS_ok _ _) 3 0 none 0 0 (by decide) Fc.zero rfl 1 B0 (fun _ h => absurd h (by decide)) (fun _ h => absurd h (by decide))
      have hld : (sldM (.pointer (some ⟨mb, 0, none⟩))).run Tryd.prog W5 = .ok (.agg M) W5 := by
        have q := HX.out.tl.hd
        rw [← HM.out] at q ⊢
        exact run_sldM (Mt.cells_len (mS_ok _ _)) q.whole
      have hlq : (sldQ (.pointer (some ⟨qb, 0, none⟩))).run Tryd.prog W5 = .ok (.agg #[.int .i64 3, .int .i64 0, .slice none 0 0]) W5 := run_sldQ rfl (Blk.whole (l := [.int .i64 3, .int .i64 0, .slice none 0 0]) HX.out.hd)
      have he : D.e = 11 := by rw [← hDD]; kernel_rfl
      have hrr : D.m.rright = true := by rw [← hDD]; kernel_rfl
      have hnm : D.m = mS 3 0 := by rw [← hDD]; kernel_rfl
      obtain ⟨dm, de, dn, dg⟩ := D
      simp only at hDo he hrr hnm
      obtain rfl : de = 11 := he
      have HDO := Lib.hid (show ∀ W, Calls Tryd.prog 10 #[.agg M, .agg #[.int .i64 3, .int .i64 0, .slice none 0 0], .agg zeroF, .int .i64 1] W fun e w' => e = .returned (.tuple #[.agg dm.cells.toArray, .agg #[.int .i64 11, .int .i64 dn, .int .i64 dg]]) ∧ Below W.heap.size W w' from hdo)
      clear hdo hDD
      go_wp2_with fail
      refine (HDO.out _).mono ?_
      rintro e w3 ⟨rfl, hb3⟩
      have hX3 := HX.out.later hb3
      have hlt3 := hX3.hd.lt
      have hlt4 := hX3.tl.hd.lt
      have hN1 := hX3.new rfl 27 Tryd.zeroCells27
      have hN2 := hN1.new (g := w3.heap.size + 1) (by simp) 36 #[.int .i64 0, .int .i64 0, .int .i64 0]
      have hst1 := storeM hDo hN2.tl.hd zeroM_size
      obtain ⟨N, hN⟩ : ∃ N, dm.cells.toArray = N := ⟨_, rfl⟩
      rw [hN] at hst1
      have hP1 := hN2.swap.put N (by have := hX3.bel.size; omega) (by intro x hx; simp only [List.mem_cons, List.not_mem_nil, or_false] at hx; rcases hx with hx | hx | hx <;> (rw [hx]; simp <;> omega))
      have hst2 := run_sstR 11 dn dg hP1.tl.hd zeroR_size
      have hP2 := hP1.swap.put #[.int .i64 11, .int .i64 dn, .int .i64 dg] (by have := hX3.bel.size; omega) (by intro x hx; simp only [List.mem_cons, List.not_mem_nil, or_false] at hx; rcases hx with hx | hx | hx <;> (rw [hx]; simp <;> omega))
      have HP := Lib.hid hP2
      have HN := Lib.hid hN
      clear hb3 hX3 hN1 hN2 hP1 hP2 hld hlq HX hlt3 hlt4 hN
      obtain ⟨nb, hnb⟩ : ∃ nb, w3.heap.size = nb := ⟨_, rfl⟩
      rw [hnb] at hst1 hst2 HP
      rw [HN.out]
      go_upto_region 18 with fail
      have hP := HP.out
      clear HP hst1 hst2 hnb HDO
      generalize World.setRow _ (nb + 1) _ = W7 at hP ⊢
      have hl1 : (sldM (.pointer (some ⟨nb, 0, none⟩))).run Tryd.prog W7 = .ok (.agg N) W7 := by
        have q := hP.tl.hd
        rw [← HN.out] at q ⊢
        exact run_sldM (Mt.cells_len hDo) q.whole
      have kr : W7.cell? ⟨nb + 1, 0, none⟩ = some (.int .i64 11) := hP.hd.cell 0
      have hrm : ∀ W, Calls Tryd.prog 16 #[.agg N] W fun e w' => e = .returned (.bool true) ∧ Below W.heap.size W w' := fun W => by rw [← HN.out, ← hrr]; exact rright_c W dm hDo
      have hMN : M = N := by rw [← HM.out, ← HN.out, hnm]
      have hl2 : (sldM (.pointer (some ⟨mb, 0, none⟩))).run Tryd.prog W7 = .ok (.agg N) W7 := by
        have q := hP.tl.tl.tl.hd
        rw [hMN, ← HN.out] at q
        rw [← HN.out]
        exact run_sldM (Mt.cells_len hDo) q.whole
      have hee : ∀ W, (binOp .eql 27 (.agg N) (.agg N)).run Tryd.prog W = .ok (.bool true) W := fun W => by rw [← HN.out]; exact eqlM dm hDo W
      clear hMN hnm
      have HB := Lib.hid hP.bel
      have HRM := Lib.hid hrm
      clear hP hrr hrm
      go_wp2_with fail
      refine (HRM.out _).mono ?_
      rintro e w9 ⟨rfl, hb9⟩
      go_wp2_with fail
      go_ret
      exact ⟨rfl, HB.out.trans (hb9.mono HB.out.size)⟩
    · obtain ⟨D, hDD⟩ : ∃ D, doD (mS 3 1) Fc.zero 3 0 ((0 : Nat) : Int) B0 = D := ⟨_, rfl⟩
      have hDo : D.m.Ok := hDD ▸ doD_ok (mS_ok _ _) Fc.zero 3 0 _ B0 (fun _ h => absurd h (by decide))
      have hdo : ∀ W, Calls Tryd.prog 10 #[.agg M, .agg #[.int .i64 3, .int .i64 0, .slice none 0 0], .agg zeroF, .int .i64 1] W fun e w' => e = .returned D.res ∧ Below W.heap.size W w' := fun W => by
        rw [← HM.out, zeroF_eq, ← hDD]
        exact do_c W (mS 3 1) (mS_ok _ _) 3 0 none 0 0 (by decide) Fc.zero rfl 1 B0 (fun _ h => absurd h (by decide)) (fun _ h => absurd h (by decide))
      have hld : (sldM (.pointer (some ⟨mb, 0, none⟩))).run Tryd.prog W5 = .ok (.agg M) W5 := by
        have q := HX.out.tl.hd
        rw [← HM.out] at q ⊢
        exact run_sldM (Mt.cells_len (mS_ok _ _)) q.whole
      have hlq : (sldQ (.pointer (some ⟨qb, 0, none⟩))).run Tryd.prog W5 = .ok (.agg #[.int .i64 3, .int .i64 0, .slice none 0 0]) W5 := run_sldQ rfl (Blk.whole (l := [.int .i64 3, .int .i64 0, .slice none 0 0]) HX.out.hd)
      have he : D.e = 11 := by rw [← hDD]; kernel_rfl
      have hrr : D.m.rright = true := by rw [← hDD]; kernel_rfl
      have hnm : D.m = mS 3 1 := by rw [← hDD]; kernel_rfl
      obtain ⟨dm, de, dn, dg⟩ := D
      simp only at hDo he hrr hnm
      obtain rfl : de = 11 := he
      have HDO := Lib.hid (show ∀ W, Calls Tryd.prog 10 #[.agg M, .agg #[.int .i64 3, .int .i64 0, .slice none 0 0], .agg zeroF, .int .i64 1] W fun e w' => e = .returned (.tuple #[.agg dm.cells.toArray, .agg #[.int .i64 11, .int .i64 dn, .int .i64 dg]]) ∧ Below W.heap.size W w' from hdo)
      clear hdo hDD
      go_wp2_with fail
      refine (HDO.out _).mono ?_
      rintro e w3 ⟨rfl, hb3⟩
      have hX3 := HX.out.later hb3
      have hlt3 := hX3.hd.lt
      have hlt4 := hX3.tl.hd.lt
      have hN1 := hX3.new rfl 27 Tryd.zeroCells27
      have hN2 := hN1.new (g := w3.heap.size + 1) (by simp) 36 #[.int .i64 0, .int .i64 0, .int .i64 0]
      have hst1 := storeM hDo hN2.tl.hd zeroM_size
      obtain ⟨N, hN⟩ : ∃ N, dm.cells.toArray = N := ⟨_, rfl⟩
      rw [hN] at hst1
      have hP1 := hN2.swap.put N (by have := hX3.bel.size; omega) (by intro x hx; simp only [List.mem_cons, List.not_mem_nil, or_false] at hx; rcases hx with hx | hx | hx <;> (rw [hx]; simp <;> omega))
      have hst2 := run_sstR 11 dn dg hP1.tl.hd zeroR_size
      have hP2 := hP1.swap.put #[.int .i64 11, .int .i64 dn, .int .i64 dg] (by have := hX3.bel.size; omega) (by intro x hx; simp only [List.mem_cons, List.not_mem_nil, or_false] at hx; rcases hx with hx | hx | hx <;> (rw [hx]; simp <;> omega))
      have HP := Lib.hid hP2
      have HN := Lib.hid hN
      clear hb3 hX3 hN1 hN2 hP1 hP2 hld hlq HX hlt3 hlt4 hN
      obtain ⟨nb, hnb⟩ : ∃ nb, w3.heap.size = nb := ⟨_, rfl⟩
      rw [hnb] at hst1 hst2 HP
      rw [HN.out]
      go_upto_region 18 with fail
      have hP := HP.out
      clear HP hst1 hst2 hnb HDO
      generalize World.setRow _ (nb + 1) _ = W7 at hP ⊢
      have hl1 : (sldM (.pointer (some ⟨nb, 0, none⟩))).run Tryd.prog W7 = .ok (.agg N) W7 := by
        have q := hP.tl.hd
        rw [← HN.out] at q ⊢
        exact run_sldM (Mt.cells_len hDo) q.whole
      have kr : W7.cell? ⟨nb + 1, 0, none⟩ = some (.int .i64 11) := hP.hd.cell 0
      have hrm : ∀ W, Calls Tryd.prog 16 #[.agg N] W fun e w' => e = .returned (.bool true) ∧ Below W.heap.size W w' := fun W => by rw [← HN.out, ← hrr]; exact rright_c W dm hDo
      have hMN : M = N := by rw [← HM.out, ← HN.out, hnm]
      have hl2 : (sldM (.pointer (some ⟨mb, 0, none⟩))).run Tryd.prog W7 = .ok (.agg N) W7 := by
        have q := hP.tl.tl.tl.hd
        rw [hMN, ← HN.out] at q
        rw [← HN.out]
        exact run_sldM (Mt.cells_len hDo) q.whole
      have hee : ∀ W, (binOp .eql 27 (.agg N) (.agg N)).run Tryd.prog W = .ok (.bool true) W := fun W => by rw [← HN.out]; exact eqlM dm hDo W
      clear hMN hnm
      have HB := Lib.hid hP.bel
      have HRM := Lib.hid hrm
      clear hP hrr hrm
      go_wp2_with fail
      refine (HRM.out _).mono ?_
      rintro e w9 ⟨rfl, hb9⟩
      go_wp2_with fail
      go_ret
      exact ⟨rfl, HB.out.trans (hb9.mono HB.out.size)⟩
    · obtain ⟨D, hDD⟩ : ∃ D, doD (mS 3 2) Fc.zero 3 0 ((0 : Nat) : Int) B0 = D := ⟨_, rfl⟩
      have hDo : D.m.Ok := hDD ▸ doD_ok (mS_ok _ _) Fc.zero 3 0 _ B0 (fun _ h => absurd h (by decide))
      have hdo : ∀ W, Calls Tryd.prog 10 #[.agg M, .agg #[.int .i64 3, .int .i64 0, .slice none 0 0], .agg zeroF, .int .i64 1] W fun e w' => e = .returned D.res ∧ Below W.heap.size W w' := fun W => by
        rw [← HM.out, zeroF_eq, ← hDD]
        exact do_c W (mS 3 2) (mS_ok _ _) 3 0 none 0 0 (by decide) Fc.zero rfl 1 B0 (fun _ h => absurd h (by decide)) (fun _ h => absurd h (by decide))
      have hld : (sldM (.pointer (some ⟨mb, 0, none⟩))).run Tryd.prog W5 = .ok (.agg M) W5 := by
        have q := HX.out.tl.hd
        rw [← HM.out] at q ⊢
        exact run_sldM (Mt.cells_len (mS_ok _ _)) q.whole
      have hlq : (sldQ (.pointer (some ⟨qb, 0, none⟩))).run Tryd.prog W5 = .ok (.agg #[.int .i64 3, .int .i64 0, .slice none 0 0]) W5 := run_sldQ rfl (Blk.whole (l := [.int .i64 3, .int .i64 0, .slice none 0 0]) HX.out.hd)
      have he : D.e = 11 := by rw [← hDD]; kernel_rfl
      have hrr : D.m.rright = true := by rw [← hDD]; kernel_rfl
      have hnm : D.m = mS 3 2 := by rw [← hDD]; kernel_rfl
      obtain ⟨dm, de, dn, dg⟩ := D
      simp only at hDo he hrr hnm
      obtain rfl : de = 11 := he
      have HDO := Lib.hid (show ∀ W, Calls Tryd.prog 10 #[.agg M, .agg #[.int .i64 3, .int .i64 0, .slice none 0 0], .agg zeroF, .int .i64 1] W fun e w' => e = .returned (.tuple #[.agg dm.cells.toArray, .agg #[.int .i64 11, .int .i64 dn, .int .i64 dg]]) ∧ Below W.heap.size W w' from hdo)
      clear hdo hDD
      go_wp2_with fail
      refine (HDO.out _).mono ?_
      rintro e w3 ⟨rfl, hb3⟩
      have hX3 := HX.out.later hb3
      have hlt3 := hX3.hd.lt
      have hlt4 := hX3.tl.hd.lt
      have hN1 := hX3.new rfl 27 Tryd.zeroCells27
      have hN2 := hN1.new (g := w3.heap.size + 1) (by simp) 36 #[.int .i64 0, .int .i64 0, .int .i64 0]
      have hst1 := storeM hDo hN2.tl.hd zeroM_size
      obtain ⟨N, hN⟩ : ∃ N, dm.cells.toArray = N := ⟨_, rfl⟩
      rw [hN] at hst1
      have hP1 := hN2.swap.put N (by have := hX3.bel.size; omega) (by intro x hx; simp only [List.mem_cons, List.not_mem_nil, or_false] at hx; rcases hx with hx | hx | hx <;> (rw [hx]; simp <;> omega))
      have hst2 := run_sstR 11 dn dg hP1.tl.hd zeroR_size
      have hP2 := hP1.swap.put #[.int .i64 11, .int .i64 dn, .int .i64 dg] (by have := hX3.bel.size; omega) (by intro x hx; simp only [List.mem_cons, List.not_mem_nil, or_false] at hx; rcases hx with hx | hx | hx <;> (rw [hx]; simp <;> omega))
      have HP := Lib.hid hP2
      have HN := Lib.hid hN
      clear hb3 hX3 hN1 hN2 hP1 hP2 hld hlq HX hlt3 hlt4 hN
      obtain ⟨nb, hnb⟩ : ∃ nb, w3.heap.size = nb := ⟨_, rfl⟩
      rw [hnb] at hst1 hst2 HP
      rw [HN.out]
      go_upto_region 18 with fail
      have hP := HP.out
      clear HP hst1 hst2 hnb HDO
      generalize World.setRow _ (nb + 1) _ = W7 at hP ⊢
      have hl1 : (sldM (.pointer (some ⟨nb, 0, none⟩))).run Tryd.prog W7 = .ok (.agg N) W7 := by
        have q := hP.tl.hd
        rw [← HN.out] at q ⊢
        exact run_sldM (Mt.cells_len hDo) q.whole
      have kr : W7.cell? ⟨nb + 1, 0, none⟩ = some (.int .i64 11) := hP.hd.cell 0
      have hrm : ∀ W, Calls Tryd.prog 16 #[.agg N] W fun e w' => e = .returned (.bool true) ∧ Below W.heap.size W w' := fun W => by rw [← HN.out, ← hrr]; exact rright_c W dm hDo
      have hMN : M = N := by rw [← HM.out, ← HN.out, hnm]
      have hl2 : (sldM (.pointer (some ⟨mb, 0, none⟩))).run Tryd.prog W7 = .ok (.agg N) W7 := by
        have q := hP.tl.tl.tl.hd
        rw [hMN, ← HN.out] at q
        rw [← HN.out]
        exact run_sldM (Mt.cells_len hDo) q.whole
      have hee : ∀ W, (binOp .eql 27 (.agg N) (.agg N)).run Tryd.prog W = .ok (.bool true) W := fun W => by rw [← HN.out]; exact eqlM dm hDo W
      clear hMN hnm
      have HB := Lib.hid hP.bel
      have HRM := Lib.hid hrm
      clear hP hrr hrm
      go_wp2_with fail
      refine (HRM.out _).mono ?_
      rintro e w9 ⟨rfl, hb9⟩
      go_wp2_with fail
      go_ret
      exact ⟨rfl, HB.out.trans (hb9.mono HB.out.size)⟩
  · have ht : t = 0 ∨ t = 1 ∨ t = 2 := by omega
    clear ht0 ht1
    rcases ht with rfl | rfl | rfl
    · obtain ⟨D, hDD⟩ : ∃ D, doD (mS 3 0) Fc.zero 4 0 ((0 : Nat) : Int) B0 = D := ⟨_, rfl⟩
      have hDo : D.m.Ok := hDD ▸ doD_ok (mS_ok _ _) Fc.zero 4 0 _ B0 (fun _ h => absurd h (by decide))
      have hdo : ∀ W, Calls Tryd.prog 10 #[.agg M, .agg #[.int .i64 4, .int .i64 0, .slice none 0 0], .agg zeroF, .int .i64 1] W fun e w' => e = .returned D.res ∧ Below W.heap.size W w' := fun W => by
        rw [← HM.out, zeroF_eq, ← hDD]
        exact do_c W (mS 3 0) (mS_ok _ _) 4 0 none 0 0 (by decide) Fc.zero rfl 1 B0 (fun _ h => absurd h (by decide)) (fun _ h => absurd h (by decide))
      have hld : (sldM (.pointer (some ⟨mb, 0, none⟩))).run Tryd.prog W5 = .ok (.agg M) W5 := by
        have q := HX.out.tl.hd
        rw [← HM.out] at q ⊢
        exact run_sldM (Mt.cells_len (mS_ok _ _)) q.whole
      have hlq : (sldQ (.pointer (some ⟨qb, 0, none⟩))).run Tryd.prog W5 = .ok (.agg #[.int .i64 4, .int .i64 0, .slice none 0 0]) W5 := run_sldQ rfl (Blk.whole (l := [.int .i64 4, .int .i64 0, .slice none 0 0]) HX.out.hd)
      have he : D.e = 11 := by rw [← hDD]; kernel_rfl
      have hrr : D.m.rright = true := by rw [← hDD]; kernel_rfl
      have hnm : D.m = mS 3 0 := by rw [← hDD]; kernel_rfl
      obtain ⟨dm, de, dn, dg⟩ := D
      simp only at hDo he hrr hnm
      obtain rfl : de = 11 := he
      have HDO := Lib.hid (show ∀ W, Calls Tryd.prog 10 #[.agg M, .agg #[.int .i64 4, .int .i64 0, .slice none 0 0], .agg zeroF, .int .i64 1] W fun e w' => e = .returned (.tuple #[.agg dm.cells.toArray, .agg #[.int .i64 11, .int .i64 dn, .int .i64 dg]]) ∧ Below W.heap.size W w' from hdo)
      clear hdo hDD
      go_wp2_with fail
      refine (HDO.out _).mono ?_
      rintro e w3 ⟨rfl, hb3⟩
      have hX3 := HX.out.later hb3
      have hlt3 := hX3.hd.lt
      have hlt4 := hX3.tl.hd.lt
      have hN1 := hX3.new rfl 27 Tryd.zeroCells27
      have hN2 := hN1.new (g := w3.heap.size + 1) (by simp) 36 #[.int .i64 0, .int .i64 0, .int .i64 0]
      have hst1 := storeM hDo hN2.tl.hd zeroM_size
      obtain ⟨N, hN⟩ : ∃ N, dm.cells.toArray = N := ⟨_, rfl⟩
      rw [hN] at hst1
      have hP1 := hN2.swap.put N (by have := hX3.bel.size; omega) (by intro x hx; simp only [List.mem_cons, List.not_mem_nil, or_false] at hx; rcases hx with hx | hx | hx <;> (rw [hx]; simp <;> omega))
      have hst2 := run_sstR 11 dn dg hP1.tl.hd zeroR_size
      have hP2 := hP1.swap.put #[.int .i64 11, .int .i64 dn, .int .i64 dg] (by have := hX3.bel.size; omega) (by intro x hx; simp only [List.mem_cons, List.not_mem_nil, or_false] at hx; rcases hx with hx | hx | hx <;> (rw [hx]; simp <;> omega))
      have HP := Lib.hid hP2
      have HN := Lib.hid hN
      clear hb3 hX3 hN1 hN2 hP1 hP2 hld hlq HX hlt3 hlt4 hN
      obtain ⟨nb, hnb⟩ : ∃ nb, w3.heap.size = nb := ⟨_, rfl⟩
      rw [hnb] at hst1 hst2 HP
      rw [HN.out]
      go_upto_region 18 with fail
      have hP := HP.out
      clear HP hst1 hst2 hnb HDO
      generalize World.setRow _ (nb + 1) _ = W7 at hP ⊢
      have hl1 : (sldM (.pointer (some ⟨nb, 0, none⟩))).run Tryd.prog W7 = .ok (.agg N) W7 := by
        have q := hP.tl.hd
        rw [← HN.out] at q ⊢
        exact run_sldM (Mt.cells_len hDo) q.whole
      have kr : W7.cell? ⟨nb + 1, 0, none⟩ = some (.int .i64 11) := hP.hd.cell 0
      have hrm : ∀ W, Calls Tryd.prog 16 #[.agg N] W fun e w' => e = .returned (.bool true) ∧ Below W.heap.size W w' := fun W => by rw [← HN.out, ← hrr]; exact rright_c W dm hDo
      have hMN : M = N := by rw [← HM.out, ← HN.out, hnm]
      have hl2 : (sldM (.pointer (some ⟨mb, 0, none⟩))).run Tryd.prog W7 = .ok (.agg N) W7 := by
        have q := hP.tl.tl.tl.hd
        rw [hMN, ← HN.out] at q
        rw [← HN.out]
        exact run_sldM (Mt.cells_len hDo) q.whole
      have hee : ∀ W, (binOp .eql 27 (.agg N) (.agg N)).run Tryd.prog W = .ok (.bool true) W := fun W => by rw [← HN.out]; exact eqlM dm hDo W
      clear hMN hnm
      have HB := Lib.hid hP.bel
      have HRM := Lib.hid hrm
      clear hP hrr hrm
      go_wp2_with fail
      refine (HRM.out _).mono ?_
      rintro e w9 ⟨rfl, hb9⟩
      go_wp2_with fail
      go_ret
      exact ⟨rfl, HB.out.trans (hb9.mono HB.out.size)⟩
    · obtain ⟨D, hDD⟩ : ∃ D, doD (mS 3 1) Fc.zero 4 0 ((0 : Nat) : Int) B0 = D := ⟨_, rfl⟩
      have hDo : D.m.Ok := hDD ▸ doD_ok (mS_ok _ _) Fc.zero 4 0 _ B0 (fun _ h => absurd h (by decide))
      have hdo : ∀ W, Calls Tryd.prog 10 #[.agg M, .agg #[.int .i64 4, .int .i64 0, .slice none 0 0], .agg zeroF, .int .i64 1] W fun e w' => e = .returned D.res ∧ Below W.heap.size W w' := fun W => by
        rw [← HM.out, zeroF_eq, ← hDD]
        exact do_c W (mS 3 1) (mS_ok _ _) 4 0 none 0 0 (by decide) Fc.zero rfl 1 B0 (fun _ h => absurd h (by decide)) (fun _ h => absurd h (by decide))
      have hld : (sldM (.pointer (some ⟨mb, 0, none⟩))).run Tryd.prog W5 = .ok (.agg M) W5 := by
        have q := HX.out.tl.hd
        rw [← HM.out] at q ⊢
        exact run_sldM (Mt.cells_len (mS_ok _ _)) q.whole
      have hlq : (sldQ (.pointer (some ⟨qb, 0, none⟩))).run Tryd.prog W5 = .ok (.agg #[.int .i64 4, .int .i64 0, .slice none 0 0]) W5 := run_sldQ rfl (Blk.whole (l := [.int .i64 4, .int .i64 0, .slice none 0 0]) HX.out.hd)
      have he : D.e = 11 := by rw [← hDD]; kernel_rfl
      have hrr : D.m.rright = true := by rw [← hDD]; kernel_rfl
      have hnm : D.m = mS 3 1 := by rw [← hDD]; kernel_rfl
      obtain ⟨dm, de, dn, dg⟩ := D
      simp only at hDo he hrr hnm
      obtain rfl : de = 11 := he
      have HDO := Lib.hid (show ∀ W, Calls Tryd.prog 10 #[.agg M, .agg #[.int .i64 4, .int .i64 0, .slice none 0 0], .agg zeroF, .int .i64 1] W fun e w' => e = .returned (.tuple #[.agg dm.cells.toArray, .agg #[.int .i64 11, .int .i64 dn, .int .i64 dg]]) ∧ Below W.heap.size W w' from hdo)
      clear hdo hDD
      go_wp2_with fail
      refine (HDO.out _).mono ?_
      rintro e w3 ⟨rfl, hb3⟩
      have hX3 := HX.out.later hb3
      have hlt3 := hX3.hd.lt
      have hlt4 := hX3.tl.hd.lt
      have hN1 := hX3.new rfl 27 Tryd.zeroCells27
      have hN2 := hN1.new (g := w3.heap.size + 1) (by simp) 36 #[.int .i64 0, .int .i64 0, .int .i64 0]
      have hst1 := storeM hDo hN2.tl.hd zeroM_size
      obtain ⟨N, hN⟩ : ∃ N, dm.cells.toArray = N := ⟨_, rfl⟩
      rw [hN] at hst1
      have hP1 := hN2.swap.put N (by have := hX3.bel.size; omega) (by intro x hx; simp only [List.mem_cons, List.not_mem_nil, or_false] at hx; rcases hx with hx | hx | hx <;> (rw [hx]; simp <;> omega))
      have hst2 := run_sstR 11 dn dg hP1.tl.hd zeroR_size
      have hP2 := hP1.swap.put #[.int .i64 11, .int .i64 dn, .int .i64 dg] (by have := hX3.bel.size; omega) (by intro x hx; simp only [List.mem_cons, List.not_mem_nil, or_false] at hx; rcases hx with hx | hx | hx <;> (rw [hx]; simp <;> omega))
      have HP := Lib.hid hP2
      have HN := Lib.hid hN
      clear hb3 hX3 hN1 hN2 hP1 hP2 hld hlq HX hlt3 hlt4 hN
      obtain ⟨nb, hnb⟩ : ∃ nb, w3.heap.size = nb := ⟨_, rfl⟩
      rw [hnb] at hst1 hst2 HP
      rw [HN.out]
      go_upto_region 18 with fail
      have hP := HP.out
      clear HP hst1 hst2 hnb HDO
      generalize World.setRow _ (nb + 1) _ = W7 at hP ⊢
      have hl1 : (sldM (.pointer (some ⟨nb, 0, none⟩))).run Tryd.prog W7 = .ok (.agg N) W7 := by
        have q := hP.tl.hd
        rw [← HN.out] at q ⊢
        exact run_sldM (Mt.cells_len hDo) q.whole
      have kr : W7.cell? ⟨nb + 1, 0, none⟩ = some (.int .i64 11) := hP.hd.cell 0
      have hrm : ∀ W, Calls Tryd.prog 16 #[.agg N] W fun e w' => e = .returned (.bool true) ∧ Below W.heap.size W w' := fun W => by rw [← HN.out, ← hrr]; exact rright_c W dm hDo
      have hMN : M = N := by rw [← HM.out, ← HN.out, hnm]
      have hl2 : (sldM (.pointer (some ⟨mb, 0, none⟩))).run Tryd.prog W7 = .ok (.agg N) W7 := by
        have q := hP.tl.tl.tl.hd
        rw [hMN, ← HN.out] at q
        rw [← HN.out]
        exact run_sldM (Mt.cells_len hDo) q.whole
      have hee : ∀ W, (binOp .eql 27 (.agg N) (.agg N)).run Tryd.prog W = .ok (.bool true) W := fun W => by rw [← HN.out]; exact eqlM dm hDo W
      clear hMN hnm
      have HB := Lib.hid hP.bel
      have HRM := Lib.hid hrm
      clear hP hrr hrm
      go_wp2_with fail
      refine (HRM.out _).mono ?_
      rintro e w9 ⟨rfl, hb9⟩
      go_wp2_with fail
      go_ret
      exact ⟨rfl, HB.out.trans (hb9.mono HB.out.size)⟩
    · obtain ⟨D, hDD⟩ : ∃ D, doD (mS 3 2) Fc.zero 4 0 ((0 : Nat) : Int) B0 = D := ⟨_, rfl⟩
      have hDo : D.m.Ok := hDD ▸ doD_ok (mS_ok _ _) Fc.zero 4 0 _ B0 (fun _ h => absurd h (by decide))
      have hdo : ∀ W, Calls Tryd.prog 10 #[.agg M, .agg #[.int .i64 4, .int .i64 0, .slice none 0 0], .agg zeroF, .int .i64 1] W fun e w' => e = .returned D.res ∧ Below W.heap.size W w' := fun W => by
        rw [← HM.out, zeroF_eq, ← hDD]
        exact do_c W (mS 3 2) (mS_ok _ _) 4 0 none 0 0 (by decide) Fc.zero rfl 1 B0 (fun _ h => absurd h (by decide)) (fun _ h => absurd h (by decide))
      have hld : (sldM (.pointer (some ⟨mb, 0, none⟩))).run Tryd.prog W5 = .ok (.agg M) W5 := by
        have q := HX.out.tl.hd
        rw [← HM.out] at q ⊢
        exact run_sldM (Mt.cells_len (mS_ok _ _)) q.whole
      have hlq : (sldQ (.pointer (some ⟨qb, 0, none⟩))).run Tryd.prog W5 = .ok (.agg #[.int .i64 4, .int .i64 0, .slice none 0 0]) W5 := run_sldQ rfl (Blk.whole (l := [.int .i64 4, .int .i64 0, .slice none 0 0]) HX.out.hd)
      have he : D.e = 11 := by rw [← hDD]; kernel_rfl
      have hrr : D.m.rright = true := by rw [← hDD]; kernel_rfl
      have hnm : D.m = mS 3 2 := by rw [← hDD]; kernel_rfl
      obtain ⟨dm, de, dn, dg⟩ := D
      simp only at hDo he hrr hnm
      obtain rfl : de = 11 := he
      have HDO := Lib.hid (show ∀ W, Calls Tryd.prog 10 #[.agg M, .agg #[.int .i64 4, .int .i64 0, .slice none 0 0], .agg zeroF, .int .i64 1] W fun e w' => e = .returned (.tuple #[.agg dm.cells.toArray, .agg #[.int .i64 11, .int .i64 dn, .int .i64 dg]]) ∧ Below W.heap.size W w' from hdo)
      clear hdo hDD
      go_wp2_with fail
      refine (HDO.out _).mono ?_
      rintro e w3 ⟨rfl, hb3⟩
      have hX3 := HX.out.later hb3
      have hlt3 := hX3.hd.lt
      have hlt4 := hX3.tl.hd.lt
      have hN1 := hX3.new rfl 27 Tryd.zeroCells27
      have hN2 := hN1.new (g := w3.heap.size + 1) (by simp) 36 #[.int .i64 0, .int .i64 0, .int .i64 0]
      have hst1 := storeM hDo hN2.tl.hd zeroM_size
      obtain ⟨N, hN⟩ : ∃ N, dm.cells.toArray = N := ⟨_, rfl⟩
      rw [hN] at hst1
      have hP1 := hN2.swap.put N (by have := hX3.bel.size; omega) (by intro x hx; simp only [List.mem_cons, List.not_mem_nil, or_false] at hx; rcases hx with hx | hx | hx <;> (rw [hx]; simp <;> omega))
      have hst2 := run_sstR 11 dn dg hP1.tl.hd zeroR_size
      have hP2 := hP1.swap.put #[.int .i64 11, .int .i64 dn, .int .i64 dg] (by have := hX3.bel.size; omega) (by intro x hx; simp only [List.mem_cons, List.not_mem_nil, or_false] at hx; rcases hx with hx | hx | hx <;> (rw [hx]; simp <;> omega))
      have HP := Lib.hid hP2
      have HN := Lib.hid hN
      clear hb3 hX3 hN1 hN2 hP1 hP2 hld hlq HX hlt3 hlt4 hN
      obtain ⟨nb, hnb⟩ : ∃ nb, w3.heap.size = nb := ⟨_, rfl⟩
      rw [hnb] at hst1 hst2 HP
      rw [HN.out]
      go_upto_region 18 with fail
      have hP := HP.out
      clear HP hst1 hst2 hnb HDO
      generalize World.setRow _ (nb + 1) _ = W7 at hP ⊢
      have hl1 : (sldM (.pointer (some ⟨nb, 0, none⟩))).run Tryd.prog W7 = .ok (.agg N) W7 := by
        have q := hP.tl.hd
        rw [← HN.out] at q ⊢
        exact run_sldM (Mt.cells_len hDo) q.whole
      have kr : W7.cell? ⟨nb + 1, 0, none⟩ = some (.int .i64 11) := hP.hd.cell 0
      have hrm : ∀ W, Calls Tryd.prog 16 #[.agg N] W fun e w' => e = .returned (.bool true) ∧ Below W.heap.size W w' := fun W => by rw [← HN.out, ← hrr]; exact rright_c W dm hDo
      have hMN : M = N := by rw [← HM.out, ← HN.out, hnm]
      have hl2 : (sldM (.pointer (some ⟨mb, 0, none⟩))).run Tryd.prog W7 = .ok (.agg N) W7 := by
        have q := hP.tl.tl.tl.hd
        rw [hMN, ← HN.out] at q
        rw [← HN.out]
        exact run_sldM (Mt.cells_len hDo) q.whole
      have hee : ∀ W, (binOp .eql 27 (.agg N) (.agg N)).run Tryd.prog W = .ok (.bool true) W := fun W => by rw [← HN.out]; exact eqlM dm hDo W
      clear hMN hnm
      have HB := Lib.hid hP.bel
      have HRM := Lib.hid hrm
      clear hP hrr hrm
      go_wp2_with fail
      refine (HRM.out _).mono ?_
      rintro e w9 ⟨rfl, hb9⟩
      go_wp2_with fail
      go_ret
      exact ⟨rfl, HB.out.trans (hb9.mono HB.out.size)⟩
  · have ht : t = 0 ∨ t = 1 ∨ t = 2 := by omega
    clear ht0 ht1
    rcases ht with rfl | rfl | rfl
    · obtain ⟨D, hDD⟩ : ∃ D, doD (mS 3 0) Fc.zero 5 0 ((0 : Nat) : Int) B0 = D := ⟨_, rfl⟩
      have hDo : D.m.Ok := hDD ▸ doD_ok (mS_ok _ _) Fc.zero 5 0 _ B0 (fun _ h => absurd h (by decide))
      have hdo : ∀ W, Calls Tryd.prog 10 #[.agg M, .agg #[.int .i64 5, .int .i64 0, .slice none 0 0], .agg zeroF, .int .i64 1] W fun e w' => e = .returned D.res ∧ Below W.heap.size W w' := fun W => by
        rw [← HM.out, zeroF_eq, ← hDD]
        exact do_c W (mS 3 0) (mS_ok _ _) 5 0 none 0 0 (by decide) Fc.zero rfl 1 B0 (fun _ h => absurd h (by decide)) (fun _ h => absurd h (by decide))
      have hld : (sldM (.pointer (some ⟨mb, 0, none⟩))).run Tryd.prog W5 = .ok (.agg M) W5 := by
        have q := HX.out.tl.hd
        rw [← HM.out] at q ⊢
        exact run_sldM (Mt.cells_len (mS_ok _ _)) q.whole
      have hlq : (sldQ (.pointer (some ⟨qb, 0, none⟩))).run Tryd.prog W5 = .ok (.agg #[.int .i64 5, .int .i64 0, .slice none 0 0]) W5 := run_sldQ rfl (Blk.whole (l := [.int .i64 5, .int .i64 0, .slice none 0 0]) HX.out.hd)
      have he : D.e = 0 := by rw [← hDD]; kernel_rfl
      have hrr : D.m.rright = true := by rw [← hDD]; kernel_rfl
      have hnm : True := by trivial
      obtain ⟨dm, de, dn, dg⟩ := D
      simp only at hDo he hrr hnm
      obtain rfl : de = 0 := he
      have HDO := Lib.hid (show ∀ W, Calls Tryd.prog 10 #[.agg M, .agg #[.int .i64 5, .int .i64 0, .slice none 0 0], .agg zeroF, .int .i64 1] W fun e w' => e = .returned (.tuple #[.agg dm.cells.toArray, .agg #[.int .i64 0, .int .i64 dn, .int .i64 dg]]) ∧ Below W.heap.size W w' from hdo)
      clear hdo hDD
      go_wp2_with fail
      refine (HDO.out _).mono ?_
      rintro e w3 ⟨rfl, hb3⟩
      have hX3 := HX.out.later hb3
      have hlt3 := hX3.hd.lt
      have hlt4 := hX3.tl.hd.lt
      have hN1 := hX3.new rfl 27 Tryd.zeroCells27
      have hN2 := hN1.new (g := w3.heap.size + 1) (by simp) 36 #[.int .i64 0, .int .i64 0, .int .i64 0]
      have hst1 := storeM hDo hN2.tl.hd zeroM_size
      obtain ⟨N, hN⟩ : ∃ N, dm.cells.toArray = N := ⟨_, rfl⟩
      rw [hN] at hst1
      have hP1 := hN2.swap.put N (by have := hX3.bel.size; omega) (by intro x hx; simp only [List.mem_cons, List.not_mem_nil, or_false] at hx; rcases hx with hx | hx | hx <;> (rw [hx]; simp <;> omega))
      have hst2 := run_sstR 0 dn dg hP1.tl.hd zeroR_size
      have hP2 := hP1.swap.put #[.int .i64 0, .int .i64 dn, .int .i64 dg] (by have := hX3.bel.size; omega) (by intro x hx; simp only [List.mem_cons, List.not_mem_nil, or_false] at hx; rcases hx with hx | hx | hx <;> (rw [hx]; simp <;> omega))
      have HP := Lib.hid hP2
      have HN := Lib.hid hN
      clear hb3 hX3 hN1 hN2 hP1 hP2 hld hlq HX hlt3 hlt4 hN
      obtain ⟨nb, hnb⟩ : ∃ nb, w3.heap.size = nb := ⟨_, rfl⟩
      rw [hnb] at hst1 hst2 HP
      rw [HN.out]
      go_upto_region 18 with fail
      have hP := HP.out
      clear HP hst1 hst2 hnb HDO
      generalize World.setRow _ (nb + 1) _ = W7 at hP ⊢
      have hl1 : (sldM (.pointer (some ⟨nb, 0, none⟩))).run Tryd.prog W7 = .ok (.agg N) W7 := by
        have q := hP.tl.hd
        rw [← HN.out] at q ⊢
        exact run_sldM (Mt.cells_len hDo) q.whole
      have kr : W7.cell? ⟨nb + 1, 0, none⟩ = some (.int .i64 0) := hP.hd.cell 0
      have hrm : ∀ W, Calls Tryd.prog 16 #[.agg N] W fun e w' => e = .returned (.bool true) ∧ Below W.heap.size W w' := fun W => by rw [← HN.out, ← hrr]; exact rright_c W dm hDo
      clear hnm
      have HB := Lib.hid hP.bel
      have HRM := Lib.hid hrm
      clear hP hrr hrm
      go_wp2_with fail
      refine (HRM.out _).mono ?_
      rintro e w9 ⟨rfl, hb9⟩
      go_wp2_with fail
      go_ret
      exact ⟨rfl, HB.out.trans (hb9.mono HB.out.size)⟩
    · obtain ⟨D, hDD⟩ : ∃ D, doD (mS 3 1) Fc.zero 5 0 ((0 : Nat) : Int) B0 = D := ⟨_, rfl⟩
      have hDo : D.m.Ok := hDD ▸ doD_ok (mS_ok _ _) Fc.zero 5 0 _ B0 (fun _ h => absurd h (by decide))
      have hdo : ∀ W, Calls Tryd.prog 10 #[.agg M, .agg #[.int .i64 5, .int .i64 0, .slice none 0 0], .agg zeroF, .int .i64 1] W fun e w' => e = .returned D.res ∧ Below W.heap.size W w' := fun W => by
        rw [← HM.out, zeroF_eq, ← hDD]
        exact do_c W (mS 3 1) (mS_ok _ _) 5 0 none 0 0 (by decide) Fc.zero rfl 1 B0 (fun _ h => absurd h (by decide)) (fun _ h => absurd h (by decide))
      have hld : (sldM (.pointer (some ⟨mb, 0, none⟩))).run Tryd.prog W5 = .ok (.agg M) W5 := by
        have q := HX.out.tl.hd
        rw [← HM.out] at q ⊢
        exact run_sldM (Mt.cells_len (mS_ok _ _)) q.whole
      have hlq : (sldQ (.pointer (some ⟨qb, 0, none⟩))).run Tryd.prog W5 = .ok (.agg #[.int .i64 5, .int .i64 0, .slice none 0 0]) W5 := run_sldQ rfl (Blk.whole (l := [.int .i64 5, .int .i64 0, .slice none 0 0]) HX.out.hd)
      have he : D.e = 0 := by rw [← hDD]; kernel_rfl
      have hrr : D.m.rright = true := by rw [← hDD]; kernel_rfl
      have hnm : True := by trivial
      obtain ⟨dm, de, dn, dg⟩ := D
      simp only at hDo he hrr hnm
      obtain rfl : de = 0 := he
      have HDO := Lib.hid (show ∀ W, Calls Tryd.prog 10 #[.agg M, .agg #[.int .i64 5, .int .i64 0, .slice none 0 0], .agg zeroF, .int .i64 1] W fun e w' => e = .returned (.tuple #[.agg dm.cells.toArray, .agg #[.int .i64 0, .int .i64 dn, .int .i64 dg]]) ∧ Below W.heap.size W w' from hdo)
      clear hdo hDD
      go_wp2_with fail
      refine (HDO.out _).mono ?_
      rintro e w3 ⟨rfl, hb3⟩
      have hX3 := HX.out.later hb3
      have hlt3 := hX3.hd.lt
      have hlt4 := hX3.tl.hd.lt
      have hN1 := hX3.new rfl 27 Tryd.zeroCells27
      have hN2 := hN1.new (g := w3.heap.size + 1) (by simp) 36 #[.int .i64 0, .int .i64 0, .int .i64 0]
      have hst1 := storeM hDo hN2.tl.hd zeroM_size
      obtain ⟨N, hN⟩ : ∃ N, dm.cells.toArray = N := ⟨_, rfl⟩
      rw [hN] at hst1
      have hP1 := hN2.swap.put N (by have := hX3.bel.size; omega) (by intro x hx; simp only [List.mem_cons, List.not_mem_nil, or_false] at hx; rcases hx with hx | hx | hx <;> (rw [hx]; simp <;> omega))
      have hst2 := run_sstR 0 dn dg hP1.tl.hd zeroR_size
      have hP2 := hP1.swap.put #[.int .i64 0, .int .i64 dn, .int .i64 dg] (by have := hX3.bel.size; omega) (by intro x hx; simp only [List.mem_cons, List.not_mem_nil, or_false] at hx; rcases hx with hx | hx | hx <;> (rw [hx]; simp <;> omega))
      have HP := Lib.hid hP2
      have HN := Lib.hid hN
      clear hb3 hX3 hN1 hN2 hP1 hP2 hld hlq HX hlt3 hlt4 hN
      obtain ⟨nb, hnb⟩ : ∃ nb, w3.heap.size = nb := ⟨_, rfl⟩
      rw [hnb] at hst1 hst2 HP
      rw [HN.out]
      go_upto_region 18 with fail
      have hP := HP.out
      clear HP hst1 hst2 hnb HDO
      generalize World.setRow _ (nb + 1) _ = W7 at hP ⊢
      have hl1 : (sldM (.pointer (some ⟨nb, 0, none⟩))).run Tryd.prog W7 = .ok (.agg N) W7 := by
        have q := hP.tl.hd
        rw [← HN.out] at q ⊢
        exact run_sldM (Mt.cells_len hDo) q.whole
      have kr : W7.cell? ⟨nb + 1, 0, none⟩ = some (.int .i64 0) := hP.hd.cell 0
      have hrm : ∀ W, Calls Tryd.prog 16 #[.agg N] W fun e w' => e = .returned (.bool true) ∧ Below W.heap.size W w' := fun W => by rw [← HN.out, ← hrr]; exact rright_c W dm hDo
      clear hnm
      have HB := Lib.hid hP.bel
      have HRM := Lib.hid hrm
      clear hP hrr hrm
      go_wp2_with fail
      refine (HRM.out _).mono ?_
      rintro e w9 ⟨rfl, hb9⟩
      go_wp2_with fail
      go_ret
      exact ⟨rfl, HB.out.trans (hb9.mono HB.out.size)⟩
    · obtain ⟨D, hDD⟩ : ∃ D, doD (mS 3 2) Fc.zero 5 0 ((0 : Nat) : Int) B0 = D := ⟨_, rfl⟩
      have hDo : D.m.Ok := hDD ▸ doD_ok (mS_ok _ _) Fc.zero 5 0 _ B0 (fun _ h => absurd h (by decide))
      have hdo : ∀ W, Calls Tryd.prog 10 #[.agg M, .agg #[.int .i64 5, .int .i64 0, .slice none 0 0], .agg zeroF, .int .i64 1] W fun e w' => e = .returned D.res ∧ Below W.heap.size W w' := fun W => by
        rw [← HM.out, zeroF_eq, ← hDD]
        exact do_c W (mS 3 2) (mS_ok _ _) 5 0 none 0 0 (by decide) Fc.zero rfl 1 B0 (fun _ h => absurd h (by decide)) (fun _ h => absurd h (by decide))
      have hld : (sldM (.pointer (some ⟨mb, 0, none⟩))).run Tryd.prog W5 = .ok (.agg M) W5 := by
        have q := HX.out.tl.hd
        rw [← HM.out] at q ⊢
        exact run_sldM (Mt.cells_len (mS_ok _ _)) q.whole
      have hlq : (sldQ (.pointer (some ⟨qb, 0, none⟩))).run Tryd.prog W5 = .ok (.agg #[.int .i64 5, .int .i64 0, .slice none 0 0]) W5 := run_sldQ rfl (Blk.whole (l := [.int .i64 5, .int .i64 0, .slice none 0 0]) HX.out.hd)
      have he : D.e = 0 := by rw [← hDD]; kernel_rfl
      have hrr : D.m.rright = true := by rw [← hDD]; kernel_rfl
      have hnm : True := by trivial
      obtain ⟨dm, de, dn, dg⟩ := D
      simp only at hDo he hrr hnm
      obtain rfl : de = 0 := he
      have HDO := Lib.hid (show ∀ W, Calls Tryd.prog 10 #[.agg M, .agg #[.int .i64 5, .int .i64 0, .slice none 0 0], .agg zeroF, .int .i64 1] W fun e w' => e = .returned (.tuple #[.agg dm.cells.toArray, .agg #[.int .i64 0, .int .i64 dn, .int .i64 dg]]) ∧ Below W.heap.size W w' from hdo)
      clear hdo hDD
      go_wp2_with fail
      refine (HDO.out _).mono ?_
      rintro e w3 ⟨rfl, hb3⟩
      have hX3 := HX.out.later hb3
      have hlt3 := hX3.hd.lt
      have hlt4 := hX3.tl.hd.lt
      have hN1 := hX3.new rfl 27 Tryd.zeroCells27
      have hN2 := hN1.new (g := w3.heap.size + 1) (by simp) 36 #[.int .i64 0, .int .i64 0, .int .i64 0]
      have hst1 := storeM hDo hN2.tl.hd zeroM_size
      obtain ⟨N, hN⟩ : ∃ N, dm.cells.toArray = N := ⟨_, rfl⟩
      rw [hN] at hst1
      have hP1 := hN2.swap.put N (by have := hX3.bel.size; omega) (by intro x hx; simp only [List.mem_cons, List.not_mem_nil, or_false] at hx; rcases hx with hx | hx | hx <;> (rw [hx]; simp <;> omega))
      have hst2 := run_sstR 0 dn dg hP1.tl.hd zeroR_size
      have hP2 := hP1.swap.put #[.int .i64 0, .int .i64 dn, .int .i64 dg] (by have := hX3.bel.size; omega) (by intro x hx; simp only [List.mem_cons, List.not_mem_nil, or_false] at hx; rcases hx with hx | hx | hx <;> (rw [hx]; simp <;> omega))
      have HP := Lib.hid hP2
      have HN := Lib.hid hN
      clear hb3 hX3 hN1 hN2 hP1 hP2 hld hlq HX hlt3 hlt4 hN
      obtain ⟨nb, hnb⟩ : ∃ nb, w3.heap.size = nb := ⟨_, rfl⟩
      rw [hnb] at hst1 hst2 HP
      rw [HN.out]
      go_upto_region 18 with fail
      have hP := HP.out
      clear HP hst1 hst2 hnb HDO
      generalize World.setRow _ (nb + 1) _ = W7 at hP ⊢
      have hl1 : (sldM (.pointer (some ⟨nb, 0, none⟩))).run Tryd.prog W7 = .ok (.agg N) W7 := by
        have q := hP.tl.hd
        rw [← HN.out] at q ⊢
        exact run_sldM (Mt.cells_len hDo) q.whole
      have kr : W7.cell? ⟨nb + 1, 0, none⟩ = some (.int .i64 0) := hP.hd.cell 0
      have hrm : ∀ W, Calls Tryd.prog 16 #[.agg N] W fun e w' => e = .returned (.bool true) ∧ Below W.heap.size W w' := fun W => by rw [← HN.out, ← hrr]; exact rright_c W dm hDo
      clear hnm
      have HB := Lib.hid hP.bel
      have HRM := Lib.hid hrm
      clear hP hrr hrm
      go_wp2_with fail
      refine (HRM.out _).mono ?_
      rintro e w9 ⟨rfl, hb9⟩
      go_wp2_with fail
      go_ret
      exact ⟨rfl, HB.out.trans (hb9.mono HB.out.size)⟩
  · have ht : t = 0 ∨ t = 1 ∨ t = 2 := by omega
    clear ht0 ht1
    rcases ht with rfl | rfl | rfl
    · obtain ⟨D, hDD⟩ : ∃ D, doD (mS 3 0) Fc.zero 6 0 ((0 : Nat) : Int) B0 = D := ⟨_, rfl⟩
      have hDo : D.m.Ok := hDD ▸ doD_ok (mS_ok _ _) Fc.zero 6 0 _ B0 (fun _ h => absurd h (by decide))
      have hdo : ∀ W, Calls Tryd.prog 10 #[.agg M, .agg #[.int .i64 6, .int .i64 0, .slice none 0 0], .agg zeroF, .int .i64 1] W fun e w' => e = .returned D.res ∧ Below W.heap.size W w' := fun W => by
        rw [← HM.out, zeroF_eq, ← hDD]
        exact do_c W (mS 3 0) (mS_ok _ _) 6 0 none 0 0 (by decide) Fc.zero rfl 1 B0 (fun _ h => absurd h (by decide)) (fun _ h => absurd h (by decide))
      have hld : (sldM (.pointer (some ⟨mb, 0, none⟩))).run Tryd.prog W5 = .ok (.agg M) W5 := by
        have q := HX.out.tl.hd
        rw [← HM.out] at q ⊢
        exact run_sldM (Mt.cells_len (mS_ok _ _)) q.whole
      have hlq : (sldQ (.pointer (some ⟨qb, 0, none⟩))).run Tryd.prog W5 = .ok (.agg #[.int .i64 6, .int .i64 0, .slice none 0 0]) W5 := run_sldQ rfl (Blk.whole (l := [.int .i64 6, .int .i64 0, .slice none 0 0]) HX.out.hd)
      have he : D.e = 0 := by rw [← hDD]; kernel_rfl
      have hrr : D.m.rright = true := by rw [← hDD]; kernel_rfl
      have hnm : True := by trivial
      obtain ⟨dm, de, dn, dg⟩ := D
      simp only at hDo he hrr hnm
      obtain rfl : de = 0 := he
      have HDO := Lib.hid (show ∀ W, Calls Tryd.prog 10 #[.agg M, .agg #[.int .i64 6, .int .i64 0, .slice none 0 0], .agg zeroF, .int .i64 1] W fun e w' => e = .returned (.tuple #[.agg dm.cells.toArray, .agg #[.int .i64 0, .int .i64 dn, .int .i64 dg]]) ∧ Below W.heap.size W w' from hdo)
      clear hdo hDD
      go_wp2_with fail
      refine (HDO.out _).mono ?_
      rintro e w3 ⟨rfl, hb3⟩
      have hX3 := HX.out.later hb3
      have hlt3 := hX3.hd.lt
      have hlt4 := hX3.tl.hd.lt
      have hN1 := hX3.new rfl 27 Tryd.zeroCells27
      have hN2 := hN1.new (g := w3.heap.size + 1) (by simp) 36 #[.int .i64 0, .int .i64 0, .int .i64 0]
      have hst1 := storeM hDo hN2.tl.hd zeroM_size
      obtain ⟨N, hN⟩ : ∃ N, dm.cells.toArray = N := ⟨_, rfl⟩
      rw [hN] at hst1
      have hP1 := hN2.swap.put N (by have := hX3.bel.size; omega) (by intro x hx; simp only [List.mem_cons, List.not_mem_nil, or_false] at hx; rcases hx with hx | hx | hx <;> (rw [hx]; simp <;> omega))
      have hst2 := run_sstR 0 dn dg hP1.tl.hd zeroR_size
      have hP2 := hP1.swap.put #[.int .i64 0, .int .i64 dn, .int .i64 dg] (by have := hX3.bel.size; omega) (by intro x hx; simp only [List.mem_cons, List.not_mem_nil, or_false] at hx; rcases hx with hx | hx | hx <;> (rw [hx]; simp <;> omega))
      have HP := Lib.hid hP2
      have HN := Lib.hid hN
      clear hb3 hX3 hN1 hN2 hP1 hP2 hld hlq HX hlt3 hlt4 hN
      obtain ⟨nb, hnb⟩ : ∃ nb, w3.heap.size = nb := ⟨_, rfl⟩
      rw [hnb] at hst1 hst2 HP
      rw [HN.out]
      go_upto_region 18 with fail
      have hP := HP.out
      clear HP hst1 hst2 hnb HDO
      generalize World.setRow _ (nb + 1) _ = W7 at hP ⊢
      have hl1 : (sldM (.pointer (some ⟨nb, 0, none⟩))).run Tryd.prog W7 = .ok (.agg N) W7 := by
        have q := hP.tl.hd
        rw [← HN.out] at q ⊢
        exact run_sldM (Mt.cells_len hDo) q.whole
      have kr : W7.cell? ⟨nb + 1, 0, none⟩ = some (.int .i64 0) := hP.hd.cell 0
      have hrm : ∀ W, Calls Tryd.prog 16 #[.agg N] W fun e w' => e = .returned (.bool true) ∧ Below W.heap.size W w' := fun W => by rw [← HN.out, ← hrr]; exact rright_c W dm hDo
      clear hnm
      have HB := Lib.hid hP.bel
      have HRM := Lib.hid hrm
      clear hP hrr hrm
      go_wp2_with fail
      refine (HRM.out _).mono ?_
      rintro e w9 ⟨rfl, hb9⟩
      go_wp2_with fail
      go_ret
      exact ⟨rfl, HB.out.trans (hb9.mono HB.out.size)⟩
    · obtain ⟨D, hDD⟩ : ∃ D, doD (mS 3 1) Fc.zero 6 0 ((0 : Nat) : Int) B0 = D := ⟨_, rfl⟩
      have hDo : D.m.Ok := hDD ▸ doD_ok (mS_ok _ _) Fc.zero 6 0 _ B0 (fun _ h => absurd h (by decide))
      have hdo : ∀ W, Calls Tryd.prog 10 #[.agg M, .agg #[.int .i64 6, .int .i64 0, .slice none 0 0], .agg zeroF, .int .i64 1] W fun e w' => e = .returned D.res ∧ Below W.heap.size W w' := fun W => by
        rw [← HM.out, zeroF_eq, ← hDD]
        exact do_c W (mS 3 1) (mS_ok _ _) 6 0 none 0 0 (by decide) Fc.zero rfl 1 B0 (fun _ h => absurd h (by decide)) (fun _ h => absurd h (by decide))
      have hld : (sldM (.pointer (some ⟨mb, 0, none⟩))).run Tryd.prog W5 = .ok (.agg M) W5 := by
        have q := HX.out.tl.hd
        rw [← HM.out] at q ⊢
        exact run_sldM (Mt.cells_len (mS_ok _ _)) q.whole
      have hlq : (sldQ (.pointer (some ⟨qb, 0, none⟩))).run Tryd.prog W5 = .ok (.agg #[.int .i64 6, .int .i64 0, .slice none 0 0]) W5 := run_sldQ rfl (Blk.whole (l := [.int .i64 6, .int .i64 0, .slice none 0 0]) HX.out.hd)
      have he : D.e = 0 := by rw [← hDD]; kernel_rfl
      have hrr : D.m.rright = true := by rw [← hDD]; kernel_rfl
      have hnm : True := by trivial
      obtain ⟨dm, de, dn, dg⟩ := D
      simp only at hDo he hrr hnm
      obtain rfl : de = 0 := he
      have HDO := Lib.hid (show ∀ W, Calls Tryd.prog 10 #[.agg M, .agg #[.int .i64 6, .int .i64 0, .slice none 0 0], .agg zeroF, .int .i64 1] W fun e w' => e = .returned (.tuple #[.agg dm.cells.toArray, .agg #[.int .i64 0, .int .i64 dn, .int .i64 dg]]) ∧ Below W.heap.size W w' from hdo)
      clear hdo hDD
      go_wp2_with fail
      refine (HDO.out _).mono ?_
      rintro e w3 ⟨rfl, hb3⟩
      have hX3 := HX.out.later hb3
      have hlt3 := hX3.hd.lt
      have hlt4 := hX3.tl.hd.lt
      have hN1 := hX3.new rfl 27 Tryd.zeroCells27
      have hN2 := hN1.new (g := w3.heap.size + 1) (by simp) 36 #[.int .i64 0, .int .i64 0, .int .i64 0]
      have hst1 := storeM hDo hN2.tl.hd zeroM_size
      obtain ⟨N, hN⟩ : ∃ N, dm.cells.toArray = N := ⟨_, rfl⟩
      rw [hN] at hst1
      have hP1 := hN2.swap.put N (by have := hX3.bel.size; omega) (by intro x hx; simp only [List.mem_cons, List.not_mem_nil, or_false] at hx; rcases hx with hx | hx | hx <;> (rw [hx]; simp <;> omega))
      have hst2 := run_sstR 0 dn dg hP1.tl.hd zeroR_size
      have hP2 := hP1.swap.put #[.int .i64 0, .int .i64 dn, .int .i64 dg] (by have := hX3.bel.size; omega) (by intro x hx; simp only [List.mem_cons, List.not_mem_nil, or_false] at hx; rcases hx with hx | hx | hx <;> (rw [hx]; simp <;> omega))
      have HP := Lib.hid hP2
      have HN := Lib.hid hN
      clear hb3 hX3 hN1 hN2 hP1 hP2 hld hlq HX hlt3 hlt4 hN
      obtain ⟨nb, hnb⟩ : ∃ nb, w3.heap.size = nb := ⟨_, rfl⟩
      rw [hnb] at hst1 hst2 HP
      rw [HN.out]
      go_upto_region 18 with fail
      have hP := HP.out
      clear HP hst1 hst2 hnb HDO
      generalize World.setRow _ (nb + 1) _ = W7 at hP ⊢
      have hl1 : (sldM (.pointer (some ⟨nb, 0, none⟩))).run Tryd.prog W7 = .ok (.agg N) W7 := by
        have q := hP.tl.hd
        rw [← HN.out] at q ⊢
        exact run_sldM (Mt.cells_len hDo) q.whole
      have kr : W7.cell? ⟨nb + 1, 0, none⟩ = some (.int .i64 0) := hP.hd.cell 0
      have hrm : ∀ W, Calls Tryd.prog 16 #[.agg N] W fun e w' => e = .returned (.bool true) ∧ Below W.heap.size W w' := fun W => by rw [← HN.out, ← hrr]; exact rright_c W dm hDo
      clear hnm
      have HB := Lib.hid hP.bel
      have HRM := Lib.hid hrm
      clear hP hrr hrm
      go_wp2_with fail
      refine (HRM.out _).mono ?_
      rintro e w9 ⟨rfl, hb9⟩
      go_wp2_with fail
      go_ret
      exact ⟨rfl, HB.out.trans (hb9.mono HB.out.size)⟩
    · obtain ⟨D, hDD⟩ : ∃ D, doD (mS 3 2) Fc.zero 6 0 ((0 : Nat) : Int) B0 = D := ⟨_, rfl⟩
      have hDo : D.m.Ok := hDD ▸ doD_ok (mS_ok _ _) Fc.zero 6 0 _ B0 (fun _ h => absurd h (by decide))
      have hdo : ∀ W, Calls Tryd.prog 10 #[.agg M, .agg #[.int .i64 6, .int .i64 0, .slice none 0 0], .agg zeroF, .int .i64 1] W fun e w' => e = .returned D.res ∧ Below W.heap.size W w' := fun W => by
        rw [← HM.out, zeroF_eq, ← hDD]
        exact do_c W (mS 3 2) (mS_ok _ _) 6 0 none 0 0 (by decide) Fc.zero rfl 1 B0 (fun _ h => absurd h (by decide)) (fun _ h => absurd h (by decide))
      have hld : (sldM (.pointer (some ⟨mb, 0, none⟩))).run Tryd.prog W5 = .ok (.agg M) W5 := by
        have q := HX.out.tl.hd
        rw [← HM.out] at q ⊢
        exact run_sldM (Mt.cells_len (mS_ok _ _)) q.whole
      have hlq : (sldQ (.pointer (some ⟨qb, 0, none⟩))).run Tryd.prog W5 = .ok (.agg #[.int .i64 6, .int .i64 0, .slice none 0 0]) W5 := run_sldQ rfl (Blk.whole (l := [.int .i64 6, .int .i64 0, .slice none 0 0]) HX.out.hd)
      have he : D.e = 11 := by rw [← hDD]; kernel_rfl
      have hrr : D.m.rright = true := by rw [← hDD]; kernel_rfl
      have hnm : D.m = mS 3 2 := by rw [← hDD]; kernel_rfl
      obtain ⟨dm, de, dn, dg⟩ := D
      simp only at hDo he hrr hnm
      obtain rfl : de = 11 := he
      have HDO := Lib.hid (show ∀ W, Calls Tryd.prog 10 #[.agg M, .agg #[.int .i64 6, .int .i64 0, .slice none 0 0], .agg zeroF, .int .i64 1] W fun e w' => e = .returned (.tuple #[.agg dm.cells.toArray, .agg #[.int .i64 11, .int .i64 dn, .int .i64 dg]]) ∧ Below W.heap.size W w' from hdo)
      clear hdo hDD
      go_wp2_with fail
      refine (HDO.out _).mono ?_
      rintro e w3 ⟨rfl, hb3⟩
      have hX3 := HX.out.later hb3
      have hlt3 := hX3.hd.lt
      have hlt4 := hX3.tl.hd.lt
      have hN1 := hX3.new rfl 27 Tryd.zeroCells27
      have hN2 := hN1.new (g := w3.heap.size + 1) (by simp) 36 #[.int .i64 0, .int .i64 0, .int .i64 0]
      have hst1 := storeM hDo hN2.tl.hd zeroM_size
      obtain ⟨N, hN⟩ : ∃ N, dm.cells.toArray = N := ⟨_, rfl⟩
      rw [hN] at hst1
      have hP1 := hN2.swap.put N (by have := hX3.bel.size; omega) (by intro x hx; simp only [List.mem_cons, List.not_mem_nil, or_false] at hx; rcases hx with hx | hx | hx <;> (rw [hx]; simp <;> omega))
      have hst2 := run_sstR 11 dn dg hP1.tl.hd zeroR_size
      have hP2 := hP1.swap.put #[.int .i64 11, .int .i64 dn, .int .i64 dg] (by have := hX3.bel.size; omega) (by intro x hx; simp only [List.mem_cons, List.not_mem_nil, or_false] at hx; rcases hx with hx | hx | hx <;> (rw [hx]; simp <;> omega))
      have HP := Lib.hid hP2
      have HN := Lib.hid hN
      clear hb3 hX3 hN1 hN2 hP1 hP2 hld hlq HX hlt3 hlt4 hN
      obtain ⟨nb, hnb⟩ : ∃ nb, w3.heap.size = nb := ⟨_, rfl⟩
      rw [hnb] at hst1 hst2 HP
      rw [HN.out]
      go_upto_region 18 with fail
      have hP := HP.out
      clear HP hst1 hst2 hnb HDO
      generalize World.setRow _ (nb + 1) _ = W7 at hP ⊢
      have hl1 : (sldM (.pointer (some ⟨nb, 0, none⟩))).run Tryd.prog W7 = .ok (.agg N) W7 := by
        have q := hP.tl.hd
        rw [← HN.out] at q ⊢
        exact run_sldM (Mt.cells_len hDo) q.whole
      have kr : W7.cell? ⟨nb + 1, 0, none⟩ = some (.int .i64 11) := hP.hd.cell 0
      have hrm : ∀ W, Calls Tryd.prog 16 #[.agg N] W fun e w' => e = .returned (.bool true) ∧ Below W.heap.size W w' := fun W => by rw [← HN.out, ← hrr]; exact rright_c W dm hDo
      have hMN : M = N := by rw [← HM.out, ← HN.out, hnm]
      have hl2 : (sldM (.pointer (some ⟨mb, 0, none⟩))).run Tryd.prog W7 = .ok (.agg N) W7 := by
        have q := hP.tl.tl.tl.hd
        rw [hMN, ← HN.out] at q
        rw [← HN.out]
        exact run_sldM (Mt.cells_len hDo) q.whole
      have hee : ∀ W, (binOp .eql 27 (.agg N) (.agg N)).run Tryd.prog W = .ok (.bool true) W := fun W => by rw [← HN.out]; exact eqlM dm hDo W
      clear hMN hnm
      have HB := Lib.hid hP.bel
      have HRM := Lib.hid hrm
      clear hP hrr hrm
      go_wp2_with fail
      refine (HRM.out _).mono ?_
      rintro e w9 ⟨rfl, hb9⟩
      go_wp2_with fail
      go_ret
      exact ⟨rfl, HB.out.trans (hb9.mono HB.out.size)⟩
  · have ht : t = 0 ∨ t = 1 ∨ t = 2 := by omega
    clear ht0 ht1
    rcases ht with rfl | rfl | rfl
    · obtain ⟨D, hDD⟩ : ∃ D, doD (mS 3 0) Fc.zero 7 0 ((0 : Nat) : Int) B0 = D := ⟨_, rfl⟩
      have hDo : D.m.Ok := hDD ▸ doD_ok (mS_ok _ _) Fc.zero 7 0 _ B0 (fun _ h => absurd h (by decide))
      have hdo : ∀ W, Calls Tryd.prog 10 #[.agg M, .agg #[.int .i64 7, .int .i64 0, .slice none 0 0], .agg zeroF, .int .i64 1] W fun e w' => e = .returned D.res ∧ Below W.heap.size W w' := fun W => by
        rw [← HM.out, zeroF_eq, ← hDD]
        exact do_c W (mS 3 0) (mS_ok _ _) 7 0 none 0 0 (by decide) Fc.zero rfl 1 B0 (fun _ h => absurd h (by decide)) (fun _ h => absurd h (by decide))
      have hld : (sldM (.pointer (some ⟨mb, 0, none⟩))).run Tryd.prog W5 = .ok (.agg M) W5 := by
        have q := HX.out.tl.hd
        rw [← HM.out] at q ⊢
        exact run_sldM (Mt.cells_len (mS_ok _ _)) q.whole
      have hlq : (sldQ (.pointer (some ⟨qb, 0, none⟩))).run Tryd.prog W5 = .ok (.agg #[.int .i64 7, .int .i64 0, .slice none 0 0]) W5 := run_sldQ rfl (Blk.whole (l := [.int .i64 7, .int .i64 0, .slice none 0 0]) HX.out.hd)
      have he : D.e = 0 := by rw [← hDD]; kernel_rfl
      have hrr : D.m.rright = true := by rw [← hDD]; kernel_rfl
      have hnm : True := by trivial
      obtain ⟨dm, de, dn, dg⟩ := D
      simp only at hDo he hrr hnm
      obtain rfl : de = 0 := he
      have HDO := Lib.hid (show ∀ W, Calls Tryd.prog 10 #[.agg M, .agg #[.int .i64 7, .int .i64 0, .slice none 0 0], .agg zeroF, .int .i64 1] W fun e w' => e = .returned (.tuple #[.agg dm.cells.toArray, .agg #[.int .i64 0, .int .i64 dn, .int .i64 dg]]) ∧ Below W.heap.size W w' from hdo)
      clear hdo hDD
      go_wp2_with fail
      refine (HDO.out _).mono ?_
      rintro e w3 ⟨rfl, hb3⟩
      have hX3 := HX.out.later hb3
      have hlt3 := hX3.hd.lt
      have hlt4 := hX3.tl.hd.lt
      have hN1 := hX3.new rfl 27 Tryd.zeroCells27
      have hN2 := hN1.new (g := w3.heap.size + 1) (by simp) 36 #[.int .i64 0, .int .i64 0, .int .i64 0]
      have hst1 := storeM hDo hN2.tl.hd zeroM_size
      obtain ⟨N, hN⟩ : ∃ N, dm.cells.toArray = N := ⟨_, rfl⟩
      rw [hN] at hst1
      have hP1 := hN2.swap.put N (by have := hX3.bel.size; omega) (by intro x hx; simp only [List.mem_cons, List.not_mem_nil, or_false] at hx; rcases hx with hx | hx | hx <;> (rw [hx]; simp <;> omega))
      have hst2 := run_sstR 0 dn dg hP1.tl.hd zeroR_size
      have hP2 := hP1.swap.put #[.int .i64 0, .int .i64 dn, .int .i64 dg] (by have := hX3.bel.size; omega) (by intro x hx; simp only [List.mem_cons, List.not_mem_nil, or_false] at hx; rcases hx with hx | hx | hx <;> (rw [hx]; simp <;> omega))
      have HP := Lib.hid hP2
      have HN := Lib.hid hN
      clear hb3 hX3 hN1 hN2 hP1 hP2 hld hlq HX hlt3 hlt4 hN
      obtain ⟨nb, hnb⟩ : ∃ nb, w3.heap.size = nb := ⟨_, rfl⟩
      rw [hnb] at hst1 hst2 HP
      rw [HN.out]
      go_upto_region 18 with fail
      have hP := HP.out
      clear HP hst1 hst2 hnb HDO
      generalize World.setRow _ (nb + 1) _ = W7 at hP ⊢
      have hl1 : (sldM (.pointer (some ⟨nb, 0, none⟩))).run Tryd.prog W7 = .ok (.agg N) W7 := by
        have q := hP.tl.hd
        rw [← HN.out] at q ⊢
        exact run_sldM (Mt.cells_len hDo) q.whole
      have kr : W7.cell? ⟨nb + 1, 0, none⟩ = some (.int .i64 0) := hP.hd.cell 0
      have hrm : ∀ W, Calls Tryd.prog 16 #[.agg N] W fun e w' => e = .returned (.bool true) ∧ Below W.heap.size W w' := fun W => by rw [← HN.out, ← hrr]; exact rright_c W dm hDo
      clear hnm
      have HB := Lib.hid hP.bel
      have HRM := Lib.hid hrm
      clear hP hrr hrm
      go_wp2_with fail
      refine (HRM.out _).mono ?_
      rintro e w9 ⟨rfl, hb9⟩
      go_wp2_with fail
      go_ret
      exact ⟨rfl, HB.out.trans (hb9.mono HB.out.size)⟩
    · obtain ⟨D, hDD⟩ : ∃ D, doD (mS 3 1) Fc.zero 7 0 ((0 : Nat) : Int) B0 = D := ⟨_, rfl⟩
      have hDo : D.m.Ok := hDD ▸ doD_ok (mS_ok _ _) Fc.zero 7 0 _ B0 (fun _ h => absurd h (by decide))
      have hdo : ∀ W, Calls Tryd.prog 10 #[.agg M, .agg #[.int .i64 7, .int .i64 0, .slice none 0 0], .agg zeroF, .int .i64 1] W fun e w' => e = .returned D.res ∧ Below W.heap.size W w' := fun W => by
        rw [← HM.out, zeroF_eq, ← hDD]
        exact do_c W (mS 3 1) (mS_ok _ _) 7 0 none 0 0 (by decide) Fc.zero rfl 1 B0 (fun _ h => absurd h (by decide)) (fun _ h => absurd h (by decide))
      have hld : (sldM (.pointer (some ⟨mb, 0, none⟩))).run Tryd.prog W5 = .ok (.agg M) W5 := by
        have q := HX.out.tl.hd
        rw [← HM.out] at q ⊢
        exact run_sldM (Mt.cells_len (mS_ok _ _)) q.whole
      have hlq : (sldQ (.pointer (some ⟨qb, 0, none⟩))).run Tryd.prog W5 = .ok (.agg #[.int .i64 7, .int .i64 0, .slice none 0 0]) W5 := run_sldQ rfl (Blk.whole (l := [.int .i64 7, .int .i64 0, .slice none 0 0]) HX.out.hd)
      have he : D.e = 0 := by rw [← hDD]; kernel_rfl
      have hrr : D.m.rright = true := by rw [← hDD]; kernel_rfl
      have hnm : True := by trivial
      obtain ⟨dm, de, dn, dg⟩ := D
      simp only at hDo he hrr hnm
      obtain rfl : de = 0 := he
      have HDO := Lib.hid (show ∀ W, Calls Tryd.prog 10 #[.agg M, .agg #[.int .i64 7, .int .i64 0, .slice none 0 0], .agg zeroF, .int .i64 1] W fun e w' => e = .returned (.tuple #[.agg dm.cells.toArray, .agg #[.int .i64 0, .int .i64 dn, .int .i64 dg]]) ∧ Below W.heap.size W w' from hdo)
      clear hdo hDD
      go_wp2_with fail
      refine (HDO.out _).mono ?_
      rintro e w3 ⟨rfl, hb3⟩
      have hX3 := HX.out.later hb3
      have hlt3 := hX3.hd.lt
      have hlt4 := hX3.tl.hd.lt
      have hN1 := hX3.new rfl 27 Tryd.zeroCells27
      have hN2 := hN1.new (g := w3.heap.size + 1) (by simp) 36 #[.int .i64 0, .int .i64 0, .int .i64 0]
      have hst1 := storeM hDo hN2.tl.hd zeroM_size
      obtain ⟨N, hN⟩ : ∃ N, dm.cells.toArray = N := ⟨_, rfl⟩
      rw [hN] at hst1
      have hP1 := hN2.swap.put N (by have := hX3.bel.size; omega) (by intro x hx; simp only [List.mem_cons, List.not_mem_nil, or_false] at hx; rcases hx with hx | hx | hx <;> (rw [hx]; simp <;> omega))
      have hst2 := run_sstR 0 dn dg hP1.tl.hd zeroR_size
      have hP2 := hP1.swap.put #[.int .i64 0, .int .i64 dn, .int .i64 dg] (by have := hX3.bel.size; omega) (by intro x hx; simp only [List.mem_cons, List.not_mem_nil, or_false] at hx; rcases hx with hx | hx | hx <;> (rw [hx]; simp <;> omega))
      have HP := Lib.hid hP2
      have HN := Lib.hid hN
      clear hb3 hX3 hN1 hN2 hP1 hP2 hld hlq HX hlt3 hlt4 hN
      obtain ⟨nb, hnb⟩ : ∃ nb, w3.heap.size = nb := ⟨_, rfl⟩
      rw [hnb] at hst1 hst2 HP
      rw [HN.out]
      go_upto_region 18 with fail
      have hP := HP.out
      clear HP hst1 hst2 hnb HDO
      generalize World.setRow _ (nb + 1) _ = W7 at hP ⊢
      have hl1 : (sldM (.pointer (some ⟨nb, 0, none⟩))).run Tryd.prog W7 = .ok (.agg N) W7 := by
        have q := hP.tl.hd
        rw [← HN.out] at q ⊢
        exact run_sldM (Mt.cells_len hDo) q.whole
      have kr : W7.cell? ⟨nb + 1, 0, none⟩ = some (.int .i64 0) := hP.hd.cell 0
      have hrm : ∀ W, Calls Tryd.prog 16 #[.agg N] W fun e w' => e = .returned (.bool true) ∧ Below W.heap.size W w' := fun W => by rw [← HN.out, ← hrr]; exact rright_c W dm hDo
      clear hnm
      have HB := Lib.hid hP.bel
      have HRM := Lib.hid hrm
      clear hP hrr hrm
      go_wp2_with fail
      refine (HRM.out _).mono ?_
      rintro e w9 ⟨rfl, hb9⟩
      go_wp2_with fail
      go_ret
      exact ⟨rfl, HB.out.trans (hb9.mono HB.out.size)⟩
    · obtain ⟨D, hDD⟩ : ∃ D, doD (mS 3 2) Fc.zero 7 0 ((0 : Nat) : Int) B0 = D := ⟨_, rfl⟩
      have hDo : D.m.Ok := hDD ▸ doD_ok (mS_ok _ _) Fc.zero 7 0 _ B0 (fun _ h => absurd h (by decide))
      have hdo : ∀ W, Calls Tryd.prog 10 #[.agg M, .agg #[.int .i64 7, .int .i64 0, .slice none 0 0], .agg zeroF, .int .i64 1] W fun e w' => e = .returned D.res ∧ Below W.heap.size W w' := fun W => by
        rw [← HM.out, zeroF_eq, ← hDD]
        exact do_c W (mS 3 2) (mS_ok _ _) 7 0 none 0 0 (by decide) Fc.zero rfl 1 B0 (fun _ h => absurd h (by decide)) (fun _ h => absurd h (by decide))
      have hld : (sldM (.pointer (some ⟨mb, 0, none⟩))).run Tryd.prog W5 = .ok (.agg M) W5 := by
        have q := HX.out.tl.hd
        rw [← HM.out] at q ⊢
        exact run_sldM (Mt.cells_len (mS_ok _ _)) q.whole
      have hlq : (sldQ (.pointer (some ⟨qb, 0, none⟩))).run Tryd.prog W5 = .ok (.agg #[.int .i64 7, .int .i64 0, .slice none 0 0]) W5 := run_sldQ rfl (Blk.whole (l := [.int .i64 7, .int .i64 0, .slice none 0 0]) HX.out.hd)
      have he : D.e = 0 := by rw [← hDD]; kernel_rfl
      have hrr : D.m.rright = true := by rw [← hDD]; kernel_rfl
      have hnm : True := by trivial
      obtain ⟨dm, de, dn, dg⟩ := D
      simp only at hDo he hrr hnm
      obtain rfl : de = 0 := he
      have HDO := Lib.hid (show ∀ W, Calls Tryd.prog 10 #[.agg M, .agg #[.int .i64 7, .int .i64 0, .slice none 0 0], .agg zeroF, .int .i64 1] W fun e w' => e = .returned (.tuple #[.agg dm.cells.toArray, .agg #[.int .i64 0, .int .i64 dn, .int .i64 dg]]) ∧ Below W.heap.size W w' from hdo)
      clear hdo hDD
      go_wp2_with fail
      refine (HDO.out _).mono ?_
      rintro e w3 ⟨rfl, hb3⟩
      have hX3 := HX.out.later hb3
      have hlt3 := hX3.hd.lt
      have hlt4 := hX3.tl.hd.lt
      have hN1 := hX3.new rfl 27 Tryd.zeroCells27
      have hN2 := hN1.new (g := w3.heap.size + 1) (by simp) 36 #[.int .i64 0, .int .i64 0, .int .i64 0]
      have hst1 := storeM hDo hN2.tl.hd zeroM_size
      obtain ⟨N, hN⟩ : ∃ N, dm.cells.toArray = N := ⟨_, rfl⟩
      rw [hN] at hst1
      have hP1 := hN2.swap.put N (by have := hX3.bel.size; omega) (by intro x hx; simp only [List.mem_cons, List.not_mem_nil, or_false] at hx; rcases hx with hx | hx | hx <;> (rw [hx]; simp <;> omega))
      have hst2 := run_sstR 0 dn dg hP1.tl.hd zeroR_size
      have hP2 := hP1.swap.put #[.int .i64 0, .int .i64 dn, .int .i64 dg] (by have := hX3.bel.size; omega) (by intro x hx; simp only [List.mem_cons, List.not_mem_nil, or_false] at hx; rcases hx with hx | hx | hx <;> (rw [hx]; simp <;> omega))
      have HP := Lib.hid hP2
      have HN := Lib.hid hN
      clear hb3 hX3 hN1 hN2 hP1 hP2 hld hlq HX hlt3 hlt4 hN
      obtain ⟨nb, hnb⟩ : ∃ nb, w3.heap.size = nb := ⟨_, rfl⟩
      rw [hnb] at hst1 hst2 HP
      rw [HN.out]
      go_upto_region 18 with fail
      have hP := HP.out
      clear HP hst1 hst2 hnb HDO
      generalize World.setRow _ (nb + 1) _ = W7 at hP ⊢
      have hl1 : (sldM (.pointer (some ⟨nb, 0, none⟩))).run Tryd.prog W7 = .ok (.agg N) W7 := by
        have q := hP.tl.hd
        rw [← HN.out] at q ⊢
        exact run_sldM (Mt.cells_len hDo) q.whole
      have kr : W7.cell? ⟨nb + 1, 0, none⟩ = some (.int .i64 0) := hP.hd.cell 0
      have hrm : ∀ W, Calls Tryd.prog 16 #[.agg N] W fun e w' => e = .returned (.bool true) ∧ Below W.heap.size W w' := fun W => by rw [← HN.out, ← hrr]; exact rright_c W dm hDo
      clear hnm
      have HB := Lib.hid hP.bel
      have HRM := Lib.hid hrm
      clear hP hrr hrm
      go_wp2_with fail
      refine (HRM.out _).mono ?_
      rintro e w9 ⟨rfl, hb9⟩
      go_wp2_with fail
      go_ret
      exact ⟨rfl, HB.out.trans (hb9.mono HB.out.size)⟩
  · have ht : t = 0 ∨ t = 1 ∨ t = 2 := by omega
    clear ht0 ht1
    rcases ht with rfl | rfl | rfl
    · obtain ⟨D, hDD⟩ : ∃ D, doD (mS 3 0) Fc.zero 8 0 ((0 : Nat) : Int) B0 = D := ⟨_, rfl⟩
      have hDo : D.m.Ok := hDD ▸ doD_ok (mS_ok _ _) Fc.zero 8 0 _ B0 (fun _ h => absurd h (by decide))
      have hdo : ∀ W, Calls Tryd.prog 10 #[.agg M, .agg #[.int .i64 8, .int .i64 0, .slice none 0 0], .agg zeroF, .int .i64 1] W fun e w' => e = .returned D.res ∧ Below W.heap.size W w' := fun W => by
        rw [← HM.out, zeroF_eq, ← hDD]
        exact do_c W (mS 3 0) (mS_ok _ _) 8 0 none 0 0 (by decide) Fc.zero rfl 1 B0 (fun _ h => absurd h (by decide)) (fun _ h => absurd h (by decide))
      have hld : (sldM (.pointer (some ⟨mb, 0, none⟩))).run Tryd.prog W5 = .ok (.agg M) W5 := by
        have q := HX.out.tl.hd
        rw [← HM.out] at q ⊢
        exact run_sldM (Mt.cells_len (mS_ok _ _)) q.whole
      have hlq : (sldQ (.pointer (some ⟨qb, 0, none⟩))).run Tryd.prog W5 = .ok (.agg #[.int .i64 8, .int .i64 0, .slice none 0 0]) W5 := run_sldQ rfl (Blk.whole (l := [.int .i64 8, .int .i64 0, .slice none 0 0]) HX.out.hd)
      have he : D.e = 11 := by rw [← hDD]; kernel_rfl
      have hrr : D.m.rright = true := by rw [← hDD]; kernel_rfl
      have hnm : D.m = mS 3 0 := by rw [← hDD]; kernel_rfl
      obtain ⟨dm, de, dn, dg⟩ := D
      simp only at hDo he hrr hnm
      obtain rfl : de = 11 := he
      have HDO := Lib.hid (show ∀ W, Calls Tryd.prog 10 #[.agg M, .agg #[.int .i64 8, .int .i64 0, .slice none 0 0], .agg zeroF, .int .i64 1] W fun e w' => e = .returned (.tuple #[.agg dm.cells.toArray, .agg #[.int .i64 11, .int .i64 dn, .int .i64 dg]]) ∧ Below W.heap.size W w' from hdo)
      clear hdo hDD
      go_wp2_with fail
      refine (HDO.out _).mono ?_
      rintro e w3 ⟨rfl, hb3⟩
      have hX3 := HX.out.later hb3
      have hlt3 := hX3.hd.lt
      have hlt4 := hX3.tl.hd.lt
      have hN1 := hX3.new rfl 27 Tryd.zeroCells27
      have hN2 := hN1.new (g := w3.heap.size + 1) (by simp) 36 #[.int .i64 0, .int .i64 0, .int .i64 0]
      have hst1 := storeM hDo hN2.tl.hd zeroM_size
      obtain ⟨N, hN⟩ : ∃ N, dm.cells.toArray = N := ⟨_, rfl⟩
      rw [hN] at hst1
      have hP1 := hN2.swap.put N (by have := hX3.bel.size; omega) (by intro x hx; simp only [List.mem_cons, List.not_mem_nil, or_false] at hx; rcases hx with hx | hx | hx <;> (rw [hx]; simp <;> omega))
      have hst2 := run_sstR 11 dn dg hP1.tl.hd zeroR_size
      have hP2 := hP1.swap.put #[.int .i64 11, .int .i64 dn, .int .i64 dg] (by have := hX3.bel.size; omega) (by intro x hx; simp only [List.mem_cons, List.not_mem_nil, or_false] at hx; rcases hx with hx | hx | hx <;> (rw [hx]; simp <;> omega))
      have HP := Lib.hid hP2
      have HN := Lib.hid hN
      clear hb3 hX3 hN1 hN2 hP1 hP2 hld hlq HX hlt3 hlt4 hN
      obtain ⟨nb, hnb⟩ : ∃ nb, w3.heap.size = nb := ⟨_, rfl⟩
      rw [hnb] at hst1 hst2 HP
      rw [HN.out]
      go_upto_region 18 with fail
      have hP := HP.out
      clear HP hst1 hst2 hnb HDO
      generalize World.setRow _ (nb + 1) _ = W7 at hP ⊢
      have hl1 : (sldM (.pointer (some ⟨nb, 0, none⟩))).run Tryd.prog W7 = .ok (.agg N) W7 := by
        have q := hP.tl.hd
        rw [← HN.out] at q ⊢
        exact run_sldM (Mt.cells_len hDo) q.whole
      have kr : W7.cell? ⟨nb + 1, 0, none⟩ = some (.int .i64 11) := hP.hd.cell 0
      have hrm : ∀ W, Calls Tryd.prog 16 #[.agg N] W fun e w' => e = .returned (.bool true) ∧ Below W.heap.size W w' := fun W => by rw [← HN.out, ← hrr]; exact rright_c W dm hDo
      have hMN : M = N := by rw [← HM.out, ← HN.out, hnm]
      have hl2 : (sldM (.pointer (some ⟨mb, 0, none⟩))).run Tryd.prog W7 = .ok (.agg N) W7 := by
        have q := hP.tl.tl.tl.hd
        rw [hMN, ← HN.out] at q
        rw [← HN.out]
        exact run_sldM (Mt.cells_len hDo) q.whole
      have hee : ∀ W, (binOp .eql 27 (.agg N) (.agg N)).run Tryd.prog W = .ok (.bool true) W := fun W => by rw [← HN.out]; exact eqlM dm hDo W
      clear hMN hnm
      have HB := Lib.hid hP.bel
      have HRM := Lib.hid hrm
      clear hP hrr hrm
      go_wp2_with fail
      refine (HRM.out _).mono ?_
      rintro e w9 ⟨rfl, hb9⟩
      go_wp2_with fail
      go_ret
      exact ⟨rfl, HB.out.trans (hb9.mono HB.out.size)⟩
    · obtain ⟨D, hDD⟩ : ∃ D, doD (mS 3 1) Fc.zero 8 0 ((0 : Nat) : Int) B0 = D := ⟨_, rfl⟩
      have hDo : D.m.Ok := hDD ▸ doD_ok (mS_ok _ _) Fc.zero 8 0 _ B0 (fun _ h => absurd h (by decide))
      have hdo : ∀ W, Calls Tryd.prog 10 #[.agg M, .agg #[.int .i64 8, .int .i64 0, .slice none 0 0], .agg zeroF, .int .i64 1] W fun e w' => e = .returned D.res ∧ Below W.heap.size W w' := fun W => by
        rw [← HM.out, zeroF_eq, ← hDD]
        exact do_c W (mS 3 1) (mS_ok _ _) 8 0 none 0 0 (by decide) Fc.zero rfl 1 B0 (fun _ h => absurd h (by decide)) (fun _ h => absurd h (by decide))
      have hld : (sldM (.pointer (some ⟨mb, 0, none⟩))).run Tryd.prog W5 = .ok (.agg M) W5 := by
        have q := HX.out.tl.hd
        rw [← HM.out] at q ⊢
        exact run_sldM (Mt.cells_len (mS_ok _ _)) q.whole
      have hlq : (sldQ (.pointer (some ⟨qb, 0, none⟩))).run Tryd.prog W5 = .ok (.agg #[.int .i64 8, .int .i64 0, .slice none 0 0]) W5 := run_sldQ rfl (Blk.whole (l := [.int .i64 8, .int .i64 0, .slice none 0 0]) HX.out.hd)
      have he : D.e = 11 := by rw [← hDD]; kernel_rfl
      have hrr : D.m.rright = true := by rw [← hDD]; kernel_rfl
      have hnm : D.m = mS 3 1 := by rw [← hDD]; kernel_rfl
      obtain ⟨dm, de, dn, dg⟩ := D
      simp only at hDo he hrr hnm
      obtain rfl : de = 11 := he
      have HDO := Lib.hid (show ∀ W, Calls Tryd.prog 10 #[.agg M, .agg #[.int .i64 8, .int .i64 0, .slice none 0 0], .agg zeroF, .int .i64 1] W fun e w' => e = .returned (.tuple #[.agg dm.cells.toArray, .agg #[.int .i64 11, .int .i64 dn, .int .i64 dg]]) ∧ Below W.heap.size W w' from hdo)
      clear hdo hDD
      go_wp2_with fail
      refine (HDO.out _).mono ?_
      rintro e w3 ⟨rfl, hb3⟩
      have hX3 := HX.out.later hb3
      have hlt3 := hX3.hd.lt
      have hlt4 := hX3.tl.hd.lt
      have hN1 := hX3.new rfl 27 Tryd.zeroCells27
      have hN2 := hN1.new (g := w3.heap.size + 1) (by simp) 36 #[.int .i64 0, .int .i64 0, .int .i64 0]
      have hst1 := storeM hDo hN2.tl.hd zeroM_size
      obtain ⟨N, hN⟩ : ∃ N, dm.cells.toArray = N := ⟨_, rfl⟩
      rw [hN] at hst1
      have hP1 := hN2.swap.put N (by have := hX3.bel.size; omega) (by intro x hx; simp only [List.mem_cons, List.not_mem_nil, or_false] at hx; rcases hx with hx | hx | hx <;> (rw [hx]; simp <;> omega))
      have hst2 := run_sstR 11 dn dg hP1.tl.hd zeroR_size
      have hP2 := hP1.swap.put #[.int .i64 11, .int .i64 dn, .int .i64 dg] (by have := hX3.bel.size; omega) (by intro x hx; simp only [List.mem_cons, List.not_mem_nil, or_false] at hx; rcases hx with hx | hx | hx <;> (rw [hx]; simp <;> omega))
      have HP := Lib.hid hP2
      have HN := Lib.hid hN
      clear hb3 hX3 hN1 hN2 hP1 hP2 hld hlq HX hlt3 hlt4 hN
      obtain ⟨nb, hnb⟩ : ∃ nb, w3.heap.size = nb := ⟨_, rfl⟩
      rw [hnb] at hst1 hst2 HP
      rw [HN.out]
      go_upto_region 18 with fail
      have hP := HP.out
      clear HP hst1 hst2 hnb HDO
      generalize World.setRow _ (nb + 1) _ = W7 at hP ⊢
      have hl1 : (sldM (.pointer (some ⟨nb, 0, none⟩))).run Tryd.prog W7 = .ok (.agg N) W7 := by
        have q := hP.tl.hd
        rw [← HN.out] at q ⊢
        exact run_sldM (Mt.cells_len hDo) q.whole
      have kr : W7.cell? ⟨nb + 1, 0, none⟩ = some (.int .i64 11) := hP.hd.cell 0
      have hrm : ∀ W, Calls Tryd.prog 16 #[.agg N] W fun e w' => e = .returned (.bool true) ∧ Below W.heap.size W w' := fun W => by rw [← HN.out, ← hrr]; exact rright_c W dm hDo
      have hMN : M = N := by rw [← HM.out, ← HN.out, hnm]
      have hl2 : (sldM (.pointer (some ⟨mb, 0, none⟩))).run Tryd.prog W7 = .ok (.agg N) W7 := by
        have q := hP.tl.tl.tl.hd
        rw [hMN, ← HN.out] at q
        rw [← HN.out]
        exact run_sldM (Mt.cells_len hDo) q.whole
      have hee : ∀ W, (binOp .eql 27 (.agg N) (.agg N)).run Tryd.prog W = .ok (.bool true) W := fun W => by rw [← HN.out]; exact eqlM dm hDo W
      clear hMN hnm
      have HB := Lib.hid hP.bel
      have HRM := Lib.hid hrm
      clear hP hrr hrm
      go_wp2_with fail
      refine (HRM.out _).mono ?_
      rintro e w9 ⟨rfl, hb9⟩
      go_wp2_with fail
      go_ret
      exact ⟨rfl, HB.out.trans (hb9.mono HB.out.size)⟩
    · obtain ⟨D, hDD⟩ : ∃ D, doD (mS 3 2) Fc.zero 8 0 ((0 : Nat) : Int) B0 = D := ⟨_, rfl⟩
      have hDo : D.m.Ok := hDD ▸ doD_ok (mS_ok _ _) Fc.zero 8 0 _ B0 (fun _ h => absurd h (by decide))
      have hdo : ∀ W, Calls Tryd.prog 10 #[.agg M, .agg #[.int .i64 8, .int .i64 0, .slice none 0 0], .agg zeroF, .int .i64 1] W fun e w' => e = .returned D.res ∧ Below W.heap.size W w' := fun W => by
        rw [← HM.out, zeroF_eq, ← hDD]
        exact do_c W (mS 3 2) (mS_ok _ _) 8 0 none 0 0 (by decide) Fc.zero rfl 1 B0 (fun _ h => absurd h (by decide)) (fun _ h => absurd h (by decide))
      have hld : (sldM (.pointer (some ⟨mb, 0, none⟩))).run Tryd.prog W5 = .ok (.agg M) W5 := by
        have q := HX.out.tl.hd
        rw [← HM.out] at q ⊢
        exact run_sldM (Mt.cells_len (mS_ok _ _)) q.whole
      have hlq : (sldQ (.pointer (some ⟨qb, 0, none⟩))).run Tryd.prog W5 = .ok (.agg #[.int .i64 8, .int .i64 0, .slice none 0 0]) W5 := run_sldQ rfl (Blk.whole (l := [.int .i64 8, .int .i64 0, .slice none 0 0]) HX.out.hd)
      have he : D.e = 11 := by rw [← hDD]; kernel_rfl
      have hrr : D.m.rright = true := by rw [← hDD]; kernel_rfl
      have hnm : D.m = mS 3 2 := by rw [← hDD]; kernel_rfl
      obtain ⟨dm, de, dn, dg⟩ := D
      simp only at hDo he hrr hnm
      obtain rfl : de = 11 := he
      have HDO := Lib.hid (show ∀ W, Calls Tryd.prog 10 #[.agg M, .agg #[.int .i64 8, .int .i64 0, .slice none 0 0], .agg zeroF, .int .i64 1] W fun e w' => e = .returned (.tuple #[.agg dm.cells.toArray, .agg #[.int .i64 11, .int .i64 dn, .int .i64 dg]]) ∧ Below W.heap.size W w' from hdo)
      clear hdo hDD
      go_wp2_with fail
      refine (HDO.out _).mono ?_
      rintro e w3 ⟨rfl, hb3⟩
      have hX3 := HX.out.later hb3
      have hlt3 := hX3.hd.lt
      have hlt4 := hX3.tl.hd.lt
      have hN1 := hX3.new rfl 27 Tryd.zeroCells27
      have hN2 := hN1.new (g := w3.heap.size + 1) (by simp) 36 #[.int .i64 0, .int .i64 0, .int .i64 0]
      have hst1 := storeM hDo hN2.tl.hd zeroM_size
      obtain ⟨N, hN⟩ : ∃ N, dm.cells.toArray = N := ⟨_, rfl⟩
      rw [hN] at hst1
      have hP1 := hN2.swap.put N (by have := hX3.bel.size; omega) (by intro x hx; simp only [List.mem_cons, List.not_mem_nil, or_false] at hx; rcases hx with hx | hx | hx <;> (rw [hx]; simp <;> omega))
      have hst2 := run_sstR 11 dn dg hP1.tl.hd zeroR_size
      have hP2 := hP1.swap.put #[.int .i64 11, .int .i64 dn, .int .i64 dg] (by have := hX3.bel.size; omega) (by intro x hx; simp only [List.mem_cons, List.not_mem_nil, or_false] at hx; rcases hx with hx | hx | hx <;> (rw [hx]; simp <;> omega))
      have HP := Lib.hid hP2
      have HN := Lib.hid hN
      clear hb3 hX3 hN1 hN2 hP1 hP2 hld hlq HX hlt3 hlt4 hN
      obtain ⟨nb, hnb⟩ : ∃ nb, w3.heap.size = nb := ⟨_, rfl⟩
      rw [hnb] at hst1 hst2 HP
      rw [HN.out]
      go_upto_region 18 with fail
      have hP := HP.out
      clear HP hst1 hst2 hnb HDO
      generalize World.setRow _ (nb + 1) _ = W7 at hP ⊢
      have hl1 : (sldM (.pointer (some ⟨nb, 0, none⟩))).run Tryd.prog W7 = .ok (.agg N) W7 := by
        have q := hP.tl.hd
        rw [← HN.out] at q ⊢
        exact run_sldM (Mt.cells_len hDo) q.whole
      have kr : W7.cell? ⟨nb + 1, 0, none⟩ = some (.int .i64 11) := hP.hd.cell 0
      have hrm : ∀ W, Calls Tryd.prog 16 #[.agg N] W fun e w' => e = .returned (.bool true) ∧ Below W.heap.size W w' := fun W => by rw [← HN.out, ← hrr]; exact rright_c W dm hDo
      have hMN : M = N := by rw [← HM.out, ← HN.out, hnm]
      have hl2 : (sldM (.pointer (some ⟨mb, 0, none⟩))).run Tryd.prog W7 = .ok (.agg N) W7 := by
        have q := hP.tl.tl.tl.hd
        rw [hMN, ← HN.out] at q
        rw [← HN.out]
        exact run_sldM (Mt.cells_len hDo) q.whole
      have hee : ∀ W, (binOp .eql 27 (.agg N) (.agg N)).run Tryd.prog W = .ok (.bool true) W := fun W => by rw [← HN.out]; exact eqlM dm hDo W
      clear hMN hnm
      have HB := Lib.hid hP.bel
      have HRM := Lib.hid hrm
      clear hP hrr hrm
      go_wp2_with fail
      refine (HRM.out _).mono ?_
      rintro e w9 ⟨rfl, hb9⟩
      go_wp2_with fail
      go_ret
      exact ⟨rfl, HB.out.trans (hb9.mono HB.out.size)⟩
  · have ht : t = 0 ∨ t = 1 ∨ t = 2 := by omega
    clear ht0 ht1
    rcases ht with rfl | rfl | rfl
    · obtain ⟨D, hDD⟩ : ∃ D, doD (mS 3 0) Fc.zero 9 0 ((0 : Nat) : Int) B0 = D := ⟨_, rfl⟩
      have hDo : D.m.Ok := hDD ▸ doD_ok (mS_ok _ _) Fc.zero 9 0 _ B0 (fun _ h => absurd h (by decide))
      have hdo : ∀ W, Calls Tryd.prog 10 #[.agg M, .agg #[.int .i64 9, .int .i64 0, .slice none 0 0], .agg zeroF, .int .i64 1] W fun e w' => e = .returned D.res ∧ Below W.heap.size W w' := fun W => by
        rw [← HM.out, zeroF_eq, ← hDD]
        exact do_c W (mS 3 0) (mS_ok _ _) 9 0 none 0 0 (by decide) Fc.zero rfl 1 B0 (fun _ h => absurd h (by decide)) (fun _ h => absurd h (by decide))
      have hld : (sldM (.pointer (some ⟨mb, 0, none⟩))).run Tryd.prog W5 = .ok (.agg M) W5 := by
        have q := HX.out.tl.hd
        rw [← HM.out] at q ⊢
        exact run_sldM (Mt.cells_len (mS_ok _ _)) q.whole
      have hlq : (sldQ (.pointer (some ⟨qb, 0, none⟩))).run Tryd.prog W5 = .ok (.agg #[.int .i64 9, .int .i64 0, .slice none 0 0]) W5 := run_sldQ rfl (Blk.whole (l := [.int .i64 9, .int .i64 0, .slice none 0 0]) HX.out.hd)
      have he : D.e = 0 := by rw [← hDD]; kernel_rfl
      have hrr : D.m.rright = true := by rw [← hDD]; kernel_rfl
      have hnm : True := by trivial
      obtain ⟨dm, de, dn, dg⟩ := D
      simp only at hDo he hrr hnm
      obtain rfl : de = 0 := he
      have HDO := Lib.hid (show ∀ W, Calls Tryd.prog 10 #[.agg M, .agg #[.int .i64 9, .int .i64 0, .slice none 0 0], .agg zeroF, .int .i64 1] W fun e w' => e = .returned (.tuple #[.agg dm.cells.toArray, .agg #[.int .i64 0, .int .i64 dn, .int .i64 dg]]) ∧ Below W.heap.size W w' from hdo)
      clear hdo hDD
      go_wp2_with fail
      refine (HDO.out _).mono ?_
      rintro e w3 ⟨rfl, hb3⟩
      have hX3 := HX.out.later hb3
      have hlt3 := hX3.hd.lt
      have hlt4 := hX3.tl.hd.lt
      have hN1 := hX3.new rfl 27 Tryd.zeroCells27
      have hN2 := hN1.new (g := w3.heap.size + 1) (by simp) 36 #[.int .i64 0, .int .i64 0, .int .i64 0]
      have hst1 := storeM hDo hN2.tl.hd zeroM_size
      obtain ⟨N, hN⟩ : ∃ N, dm.cells.toArray = N := ⟨_, rfl⟩
      rw [hN] at hst1
      have hP1 := hN2.swap.put N (by have := hX3.bel.size; omega) (by intro x hx; simp only [List.mem_cons, List.not_mem_nil, or_false] at hx; rcases hx with hx | hx | hx <;> (rw [hx]; simp <;> omega))
      have hst2 := run_sstR 0 dn dg hP1.tl.hd zeroR_size
      have hP2 := hP1.swap.put #[.int .i64 0, .int .i64 dn, .int .i64 dg] (by have := hX3.bel.size; omega) (by intro x hx; simp only [List.mem_cons, List.not_mem_nil, or_false] at hx; rcases hx with hx | hx | hx <;> (rw [hx]; simp <;> omega))
      have HP := Lib.hid hP2
      have HN := Lib.hid hN
      clear hb3 hX3 hN1 hN2 hP1 hP2 hld hlq HX hlt3 hlt4 hN
      obtain ⟨nb, hnb⟩ : ∃ nb, w3.heap.size = nb := ⟨_, rfl⟩
      rw [hnb] at hst1 hst2 HP
      rw [HN.out]
      go_upto_region 18 with fail
      have hP := HP.out
      clear HP hst1 hst2 hnb HDO
      generalize World.setRow _ (nb + 1) _ = W7 at hP ⊢
      have hl1 : (sldM (.pointer (some ⟨nb, 0, none⟩))).run Tryd.prog W7 = .ok (.agg N) W7 := by
        have q := hP.tl.hd
        rw [← HN.out] at q ⊢
        exact run_sldM (Mt.cells_len hDo) q.whole
      have kr : W7.cell? ⟨nb + 1, 0, none⟩ = some (.int .i64 0) := hP.hd.cell 0
      have hrm : ∀ W, Calls Tryd.prog 16 #[.agg N] W fun e w' => e = .returned (.bool true) ∧ Below W.heap.size W w' := fun W => by rw [← HN.out, ← hrr]; exact rright_c W dm hDo
      clear hnm
      have HB := Lib.hid hP.bel
      have HRM := Lib.hid hrm
      clear hP hrr hrm
      go_wp2_with fail
      refine (HRM.out _).mono ?_
      rintro e w9 ⟨rfl, hb9⟩
      go_wp2_with fail
      go_ret
      exact ⟨rfl, HB.out.trans (hb9.mono HB.out.size)⟩
    · obtain ⟨D, hDD⟩ : ∃ D, doD (mS 3 1) Fc.zero 9 0 ((0 : Nat) : Int) B0 = D := ⟨_, rfl⟩
      have hDo : D.m.Ok := hDD ▸ doD_ok (mS_ok _ _) Fc.zero 9 0 _ B0 (fun _ h => absurd h (by decide))
      have hdo : ∀ W, Calls Tryd.prog 10 #[.agg M, .agg #[.int .i64 9, .int .i64 0, .slice none 0 0], .agg zeroF, .int .i64 1] W fun e w' => e = .returned D.res ∧ Below W.heap.size W w' := fun W => by
        rw [← HM.out, zeroF_eq, ← hDD]
        exact do_c W (mS 3 1) (mS_ok _ _) 9 0 none 0 0 (by decide) Fc.zero rfl 1 B0 (fun _ h => absurd h (by decide)) (fun _ h => absurd h (by decide))
      have hld : (sldM (.pointer (some ⟨mb, 0, none⟩))).run Tryd.prog W5 = .ok (.agg M) W5 := by
        have q := HX.out.tl.hd
        rw [← HM.out] at q ⊢
        exact run_sldM (Mt.cells_len (mS_ok _ _)) q.whole
      have hlq : (sldQ (.pointer (some ⟨qb, 0, none⟩))).run Tryd.prog W5 = .ok (.agg #[.int .i64 9, .int .i64 0, .slice none 0 0]) W5 := run_sldQ rfl (Blk.whole (l := [.int .i64 9, .int .i64 0, .slice none 0 0]) HX.out.hd)
      have he : D.e = 0 := by rw [← hDD]; kernel_rfl
      have hrr : D.m.rright = true := by rw [← hDD]; kernel_rfl
      have hnm : True := by trivial
      obtain ⟨dm, de, dn, dg⟩ := D
      simp only at hDo he hrr hnm
      obtain rfl : de = 0 := he
      have HDO := Lib.hid (show ∀ W, Calls Tryd.prog 10 #[.agg M, .agg #[.int .i64 9, .int .i64 0, .slice none 0 0], .agg zeroF, .int .i64 1] W fun e w' => e = .returned (.tuple #[.agg dm.cells.toArray, .agg #[.int .i64 0, .int .i64 dn, .int .i64 dg]]) ∧ Below W.heap.size W w' from hdo)
      clear hdo hDD
      go_wp2_with fail
      refine (HDO.out _).mono ?_
      rintro e w3 ⟨rfl, hb3⟩
      have hX3 := HX.out.later hb3
      have hlt3 := hX3.hd.lt
      have hlt4 := hX3.tl.hd.lt
      have hN1 := hX3.new rfl 27 Tryd.zeroCells27
      have hN2 := hN1.new (g := w3.heap.size + 1) (by simp) 36 #[.int .i64 0, .int .i64 0, .int .i64 0]
      have hst1 := storeM hDo hN2.tl.hd zeroM_size
      obtain ⟨N, hN⟩ : ∃ N, dm.cells.toArray = N := ⟨_, rfl⟩
      rw [hN] at hst1
      have hP1 := hN2.swap.put N (by have := hX3.bel.size; omega) (by intro x hx; simp only [List.mem_cons, List.not_mem_nil, or_false] at hx; rcases hx with hx | hx | hx <;> (rw [hx]; simp <;> omega))
      have hst2 := run_sstR 0 dn dg hP1.tl.hd zeroR_size
      have hP2 := hP1.swap.put #[.int .i64 0, .int .i64 dn, .int .i64 dg] (by have := hX3.bel.size; omega) (by intro x hx; simp only [List.mem_cons, List.not_mem_nil, or_false] at hx; rcases hx with hx | hx | hx <;> (rw [hx]; simp <;> omega))
      have HP := Lib.hid hP2
      have HN := Lib.hid hN
      clear hb3 hX3 hN1 hN2 hP1 hP2 hld hlq HX hlt3 hlt4 hN
      obtain ⟨nb, hnb⟩ : ∃ nb, w3.heap.size = nb := ⟨_, rfl⟩
      rw [hnb] at hst1 hst2 HP
      rw [HN.out]
      go_upto_region 18 with fail
      have hP := HP.out
      clear HP hst1 hst2 hnb HDO
      generalize World.setRow _ (nb + 1) _ = W7 at hP ⊢
      have hl1 : (sldM (.pointer (some ⟨nb, 0, none⟩))).run Tryd.prog W7 = .ok (.agg N) W7 := by
        have q := hP.tl.hd
        rw [← HN.out] at q ⊢
        exact run_sldM (Mt.cells_len hDo) q.whole
      have kr : W7.cell? ⟨nb + 1, 0, none⟩ = some (.int .i64 0) := hP.hd.cell 0
      have hrm : ∀ W, Calls Tryd.prog 16 #[.agg N] W fun e w' => e = .returned (.bool true) ∧ Below W.heap.size W w' := fun W => by rw [← HN.out, ← hrr]; exact rright_c W dm hDo
      clear hnm
      have HB := Lib.hid hP.bel
      have HRM := Lib.hid hrm
      clear hP hrr hrm
      go_wp2_with fail
      refine (HRM.out _).mono ?_
      rintro e w9 ⟨rfl, hb9⟩
      go_wp2_with fail
      go_ret
      exact ⟨rfl, HB.out.trans (hb9.mono HB.out.size)⟩
    · obtain ⟨D, hDD⟩ : ∃ D, doD (mS 3 2) Fc.zero 9 0 ((0 : Nat) : Int) B0 = D := ⟨_, rfl⟩
      have hDo : D.m.Ok := hDD ▸ doD_ok (mS_ok _ _) Fc.zero 9 0 _ B0 (fun _ h => absurd h (by decide))
      have hdo : ∀ W, Calls Tryd.prog 10 #[.agg M, .agg #[.int .i64 9, .int .i64 0, .slice none 0 0], .agg zeroF, .int .i64 1] W fun e w' => e = .returned D.res ∧ Below W.heap.size W w' := fun W => by
        rw [← HM.out, zeroF_eq, ← hDD]
        exact do_c W (mS 3 2) (mS_ok _ _) 9 0 none 0 0 (by decide) Fc.zero rfl 1 B0 (fun _ h => absurd h (by decide)) (fun _ h => absurd h (by decide))
      have hld : (sldM (.pointer (some ⟨mb, 0, none⟩))).run Tryd.prog W5 = .ok (.agg M) W5 := by
        have q := HX.out.tl.hd
        rw [← HM.out] at q ⊢
        exact run_sldM (Mt.cells_len (mS_ok _ _)) q.whole
      have hlq : (sldQ (.pointer (some ⟨qb, 0, none⟩))).run Tryd.prog W5 = .ok (.agg #[.int .i64 9, .int .i64 0, .slice none 0 0]) W5 := run_sldQ rfl (Blk.whole (l := [.int .i64 9, .int .i64 0, .slice none 0 0]) HX.out.hd)
      have he : D.e = 0 := by rw [← hDD]; kernel_rfl
      have hrr : D.m.rright = true := by rw [← hDD]; kernel_rfl
      have hnm : True := by trivial
      obtain ⟨dm, de, dn, dg⟩ := D
      simp only at hDo he hrr hnm
      obtain rfl : de = 0 := he
      have HDO := Lib.hid (show ∀ W, Calls Tryd.prog 10 #[.agg M, .agg #[.int .i64 9, .int .i64 0, .slice none 0 0], .agg zeroF, .int .i64 1] W fun e w' => e = .returned (.tuple #[.agg dm.cells.toArray, .agg #[.int .i64 0, .int .i64 dn, .int .i64 dg]]) ∧ Below W.heap.size W w' from hdo)
      clear hdo hDD
      go_wp2_with fail
      refine (HDO.out _).mono ?_
      rintro e w3 ⟨rfl, hb3⟩
      have hX3 := HX.out.later hb3
      have hlt3 := hX3.hd.lt
      have hlt4 := hX3.tl.hd.lt
      have hN1 := hX3.new rfl 27 Tryd.zeroCells27
      have hN2 := hN1.new (g := w3.heap.size + 1) (by simp) 36 #[.int .i64 0, .int .i64 0, .int .i64 0]
      have hst1 := storeM hDo hN2.tl.hd zeroM_size
      obtain ⟨N, hN⟩ : ∃ N, dm.cells.toArray = N := ⟨_, rfl⟩
      rw [hN] at hst1
      have hP1 := hN2.swap.put N (by have := hX3.bel.size; omega) (by intro x hx; simp only [List.mem_cons, List.not_mem_nil, or_false] at hx; rcases hx with hx | hx | hx <;> (rw [hx]; simp <;> omega))
      have hst2 := run_sstR 0 dn dg hP1.tl.hd zeroR_size
      have hP2 := hP1.swap.put #[.int .i64 0, .int .i64 dn, .int .i64 dg] (by have := hX3.bel.size; omega) (by intro x hx; simp only [List.mem_cons, List.not_mem_nil, or_false] at hx; rcases hx with hx | hx | hx <;> (rw [hx]; simp <;> omega))
      have HP := Lib.hid hP2
      have HN := Lib.hid hN
      clear hb3 hX3 hN1 hN2 hP1 hP2 hld hlq HX hlt3 hlt4 hN
      obtain ⟨nb, hnb⟩ : ∃ nb, w3.heap.size = nb := ⟨_, rfl⟩
      rw [hnb] at hst1 hst2 HP
      rw [HN.out]
      go_upto_region 18 with fail
      have hP := HP.out
      clear HP hst1 hst2 hnb HDO
      generalize World.setRow _ (nb + 1) _ = W7 at hP ⊢
      have hl1 : (sldM (.pointer (some ⟨nb, 0, none⟩))).run Tryd.prog W7 = .ok (.agg N) W7 := by
        have q := hP.tl.hd
        rw [← HN.out] at q ⊢
        exact run_sldM (Mt.cells_len hDo) q.whole
      have kr : W7.cell? ⟨nb + 1, 0, none⟩ = some (.int .i64 0) := hP.hd.cell 0
      have hrm : ∀ W, Calls Tryd.prog 16 #[.agg N] W fun e w' => e = .returned (.bool true) ∧ Below W.heap.size W w' := fun W => by rw [← HN.out, ← hrr]; exact rright_c W dm hDo
      clear hnm
      have HB := Lib.hid hP.bel
      have HRM := Lib.hid hrm
      clear hP hrr hrm
      go_wp2_with fail
      refine (HRM.out _).mono ?_
      rintro e w9 ⟨rfl, hb9⟩
      go_wp2_with fail
      go_ret
      exact ⟨rfl, HB.out.trans (hb9.mono HB.out.size)⟩
  · have ht : t = 0 ∨ t = 1 ∨ t = 2 := by omega
    clear ht0 ht1
    rcases ht with rfl | rfl | rfl
    · obtain ⟨D, hDD⟩ : ∃ D, doD (mS 3 0) Fc.zero 10 0 ((0 : Nat) : Int) B0 = D := ⟨_, rfl⟩
      have hDo : D.m.Ok := hDD ▸ doD_ok (mS_ok _ _) Fc.zero 10 0 _ B0 (fun _ h => absurd h (by decide))
      have hdo : ∀ W, Calls Tryd.prog 10 #[.agg M, .agg #[.int .i64 10, .int .i64 0, .slice none 0 0], .agg zeroF, .int .i64 1] W fun e w' => e = .returned D.res ∧ Below W.heap.size W w' := fun W => by
        rw [← HM.out, zeroF_eq, ← hDD]
        exact do_c W (mS 3 0) (mS_ok _ _) 10 0 none 0 0 (by decide) Fc.zero rfl 1 B0 (fun _ h => absurd h (by decide)) (fun _ h => absurd h (by decide))
      have hld : (sldM (.pointer (some ⟨mb, 0, none⟩))).run Tryd.prog W5 = .ok (.agg M) W5 := by
        have q := HX.out.tl.hd
        rw [← HM.out] at q ⊢
        exact run_sldM (Mt.cells_len (mS_ok _ _)) q.whole
      have hlq : (sldQ (.pointer (some ⟨qb, 0, none⟩))).run Tryd.prog W5 = .ok (.agg #[.int .i64 10, .int .i64 0, .slice none 0 0]) W5 := run_sldQ rfl (Blk.whole (l := [.int .i64 10, .int .i64 0, .slice none 0 0]) HX.out.hd)
      have he : D.e = 1 := by rw [← hDD]; kernel_rfl
      have hrr : D.m.rright = true := by rw [← hDD]; kernel_rfl
      have hnm : D.m = mS 3 0 := by rw [← hDD]; kernel_rfl
      obtain ⟨dm, de, dn, dg⟩ := D
      simp only at hDo he hrr hnm
      obtain rfl : de = 1 := he
      have HDO := Lib.hid (show ∀ W, Calls Tryd.prog 10 #[.agg M, .agg #[.int .i64 10, .int .i64 0, .slice none 0 0], .agg zeroF, .int .i64 1] W fun e w' => e = .returned (.tuple #[.agg dm.cells.toArray, .agg #[.int .i64 1, .int .i64 dn, .int .i64 dg]]) ∧ Below W.heap.size W w' from hdo)
      clear hdo hDD
      go_wp2_with fail
      refine (HDO.out _).mono ?_
      rintro e w3 ⟨rfl, hb3⟩
      have hX3 := HX.out.later hb3
      have hlt3 := hX3.hd.lt
      have hlt4 := hX3.tl.hd.lt
      have hN1 := hX3.new rfl 27 Tryd.zeroCells27
      have hN2 := hN1.new (g := w3.heap.size + 1) (by simp) 36 #[.int .i64 0, .int .i64 0, .int .i64 0]
      have hst1 := storeM hDo hN2.tl.hd zeroM_size
      obtain ⟨N, hN⟩ : ∃ N, dm.cells.toArray = N := ⟨_, rfl⟩
      rw [hN] at hst1
      have hP1 := hN2.swap.put N (by have := hX3.bel.size; omega) (by intro x hx; simp only [List.mem_cons, List.not_mem_nil, or_false] at hx; rcases hx with hx | hx | hx <;> (rw [hx]; simp <;> omega))
      have hst2 := run_sstR 1 dn dg hP1.tl.hd zeroR_size
      have hP2 := hP1.swap.put #[.int .i64 1, .int .i64 dn, .int .i64 dg] (by have := hX3.bel.size; omega) (by intro x hx; simp only [List.mem_cons, List.not_mem_nil, or_false] at hx; rcases hx with hx | hx | hx <;> (rw [hx]; simp <;> omega))
      have HP := Lib.hid hP2
      have HN := Lib.hid hN
      clear hb3 hX3 hN1 hN2 hP1 hP2 hld hlq HX hlt3 hlt4 hN
      obtain ⟨nb, hnb⟩ : ∃ nb, w3.heap.size = nb := ⟨_, rfl⟩
      rw [hnb] at hst1 hst2 HP
      rw [HN.out]
      go_upto_region 18 with fail
      have hP := HP.out
      clear HP hst1 hst2 hnb HDO
      generalize World.setRow _ (nb + 1) _ = W7 at hP ⊢
      have hl1 : (sldM (.pointer (some ⟨nb, 0, none⟩))).run Tryd.prog W7 = .ok (.agg N) W7 := by
        have q := hP.tl.hd
        rw [← HN.out] at q ⊢
        exact run_sldM (Mt.cells_len hDo) q.whole
      have kr : W7.cell? ⟨nb + 1, 0, none⟩ = some (.int .i64 1) := hP.hd.cell 0
      have hrm : ∀ W, Calls Tryd.prog 16 #[.agg N] W fun e w' => e = .returned (.bool true) ∧ Below W.heap.size W w' := fun W => by rw [← HN.out, ← hrr]; exact rright_c W dm hDo
      have hMN : M = N := by rw [← HM.out, ← HN.out, hnm]
      have hl2 : (sldM (.pointer (some ⟨mb, 0, none⟩))).run Tryd.prog W7 = .ok (.agg N) W7 := by
        have q := hP.tl.tl.tl.hd
        rw [hMN, ← HN.out] at q
        rw [← HN.out]
        exact run_sldM (Mt.cells_len hDo) q.whole
      have hee : ∀ W, (binOp .eql 27 (.agg N) (.agg N)).run Tryd.prog W = .ok (.bool true) W := fun W => by rw [← HN.out]; exact eqlM dm hDo W
      clear hMN hnm
      have HB := Lib.hid hP.bel
      have HRM := Lib.hid hrm
      clear hP hrr hrm
      go_wp2_with fail
      refine (HRM.out _).mono ?_
      rintro e w9 ⟨rfl, hb9⟩
      go_wp2_with fail
      go_ret
      exact ⟨rfl, HB.out.trans (hb9.mono HB.out.size)⟩
    · obtain ⟨D, hDD⟩ : ∃ D, doD (mS 3 1) Fc.zero 10 0 ((0 : Nat) : Int) B0 = D := ⟨_, rfl⟩
      have hDo : D.m.Ok := hDD ▸ doD_ok (mS_ok _ _) Fc.zero 10 0 _ B0 (fun _ h => absurd h (by decide))
      have hdo : ∀ W, Calls Tryd.prog 10 #[.agg M, .agg #[.int .i64 10, .int .i64 0, .slice none 0 0], .agg zeroF, .int .i64 1] W fun e w' => e = .returned D.res ∧ Below W.heap.size W w' := fun W => by
        rw [← HM.out, zeroF_eq, ← hDD]
        exact do_c W (mS 3 1) (mS_ok _ _) 10 0 none 0 0 (by decide) Fc.zero rfl 1 B0 (fun _ h => absurd h (by decide)) (fun _ h => absurd h (by decide))
      have hld : (sldM (.pointer (some ⟨mb, 0, none⟩))).run Tryd.prog W5 = .ok (.agg M) W5 := by
        have q := HX.out.tl.hd
        rw [← HM.out] at q ⊢
        exact run_sldM (Mt.cells_len (mS_ok _ _)) q.whole
      have hlq : (sldQ (.pointer (some ⟨qb, 0, none⟩))).run Tryd.prog W5 = .ok (.agg #[.int .i64 10, .int .i64 0, .slice none 0 0]) W5 := run_sldQ rfl (Blk.whole (l := [.int .i64 10, .int .i64 0, .slice none 0 0]) HX.out.hd)
      have he : D.e = 1 := by rw [← hDD]; kernel_rfl
      have hrr : D.m.rright = true := by rw [← hDD]; kernel_rfl
      have hnm : D.m = mS 3 1 := by rw [← hDD]; kernel_rfl
      obtain ⟨dm, de, dn, dg⟩ := D
      simp only at hDo he hrr hnm
      obtain rfl : de = 1 := he
      have HDO := Lib.hid (show ∀ W, Calls Tryd.prog 10 #[.agg M, .agg #[.int .i64 10, .int .i64 0, .slice none 0 0], .agg zeroF, .int .i64 1] W fun e w' => e = .returned (.tuple #[.agg dm.cells.toArray, .agg #[.int .i64 1, .int .i64 dn, .int .i64 dg]]) ∧ Below W.heap.size W w' from hdo)
      clear hdo hDD
      go_wp2_with fail
      refine (HDO.out _).mono ?_
      rintro e w3 ⟨rfl, hb3⟩
      have hX3 := HX.out.later hb3
      have hlt3 := hX3.hd.lt
      have hlt4 := hX3.tl.hd.lt
      have hN1 := hX3.new rfl 27 Tryd.zeroCells27
      have hN2 := hN1.new (g := w3.heap.size + 1) (by simp) 36 #[.int .i64 0, .int .i64 0, .int .i64 0]
      have hst1 := storeM hDo hN2.tl.hd zeroM_size
      obtain ⟨N, hN⟩ : ∃ N, dm.cells.toArray = N := ⟨_, rfl⟩
      rw [hN] at hst1
      have hP1 := hN2.swap.put N (by have := hX3.bel.size; omega) (by intro x hx; simp only [List.mem_cons, List.not_mem_nil, or_false] at hx; rcases hx with hx | hx | hx <;> (rw [hx]; simp <;> omega))
      have hst2 := run_sstR 1 dn dg hP1.tl.hd zeroR_size
      have hP2 := hP1.swap.put #[.int .i64 1, .int .i64 dn, .int .i64 dg] (by have := hX3.bel.size; omega) (by intro x hx; simp only [List.mem_cons, List.not_mem_nil, or_false] at hx; rcases hx with hx | hx | hx <;> (rw [hx]; simp <;> omega))
      have HP := Lib.hid hP2
      have HN := Lib.hid hN
      clear hb3 hX3 hN1 hN2 hP1 hP2 hld hlq HX hlt3 hlt4 hN
      obtain ⟨nb, hnb⟩ : ∃ nb, w3.heap.size = nb := ⟨_, rfl⟩
      rw [hnb] at hst1 hst2 HP
      rw [HN.out]
      go_upto_region 18 with fail
      have hP := HP.out
      clear HP hst1 hst2 hnb HDO
      generalize World.setRow _ (nb + 1) _ = W7 at hP ⊢
      have hl1 : (sldM (.pointer (some ⟨nb, 0, none⟩))).run Tryd.prog W7 = .ok (.agg N) W7 := by
        have q := hP.tl.hd
        rw [← HN.out] at q ⊢
        exact run_sldM (Mt.cells_len hDo) q.whole
      have kr : W7.cell? ⟨nb + 1, 0, none⟩ = some (.int .i64 1) := hP.hd.cell 0
      have hrm : ∀ W, Calls Tryd.prog 16 #[.agg N] W fun e w' => e = .returned (.bool true) ∧ Below W.heap.size W w' := fun W => by rw [← HN.out, ← hrr]; exact rright_c W dm hDo
      have hMN : M = N := by rw [← HM.out, ← HN.out, hnm]
      have hl2 : (sldM (.pointer (some ⟨mb, 0, none⟩))).run Tryd.prog W7 = .ok (.agg N) W7 := by
        have q := hP.tl.tl.tl.hd
        rw [hMN, ← HN.out] at q
        rw [← HN.out]
        exact run_sldM (Mt.cells_len hDo) q.whole
      have hee : ∀ W, (binOp .eql 27 (.agg N) (.agg N)).run Tryd.prog W = .ok (.bool true) W := fun W => by rw [← HN.out]; exact eqlM dm hDo W
      clear hMN hnm
      have HB := Lib.hid hP.bel
      have HRM := Lib.hid hrm
      clear hP hrr hrm
      go_wp2_with fail
      refine (HRM.out _).mono ?_
      rintro e w9 ⟨rfl, hb9⟩
      go_wp2_with fail
      go_ret
      exact ⟨rfl, HB.out.trans (hb9.mono HB.out.size)⟩
    · obtain ⟨D, hDD⟩ : ∃ D, doD (mS 3 2) Fc.zero 10 0 ((0 : Nat) : Int) B0 = D := ⟨_, rfl⟩
      have hDo : D.m.Ok := hDD ▸ doD_ok (mS_ok _ _) Fc.zero 10 0 _ B0 (fun _ h => absurd h (by decide))
      have hdo : ∀ W, Calls Tryd.prog 10 #[.agg M, .agg #[.int .i64 10, .int .i64 0, .slice none 0 0], .agg zeroF, .int .i64 1] W fun e w' => e = .returned D.res ∧ Below W.heap.size W w' := fun W => by
        rw [← HM.out, zeroF_eq, ← hDD]
        exact do_c W (mS 3 2) (mS_ok _ _) 10 0 none 0 0 (by decide) Fc.zero rfl 1 B0 (fun _ h => absurd h (by decide)) (fun _ h => absurd h (by decide))
      have hld : (sldM (.pointer (some ⟨mb, 0, none⟩))).run Tryd.prog W5 = .ok (.agg M) W5 := by
        have q := HX.out.tl.hd
        rw [← HM.out] at q ⊢
        exact run_sldM (Mt.cells_len (mS_ok _ _)) q.whole
      have hlq : (sldQ (.pointer (some ⟨qb, 0, none⟩))).run Tryd.prog W5 = .ok (.agg #[.int .i64 10, .int .i64 0, .slice none 0 0]) W5 := run_sldQ rfl (Blk.whole (l := [.int .i64 10, .int .i64 0, .slice none 0 0]) HX.out.hd)
      have he : D.e = 1 := by rw [← hDD]; kernel_rfl
      have hrr : D.m.rright = true := by rw [← hDD]; kernel_rfl
      have hnm : D.m = mS 3 2 := by rw [← hDD]; kernel_rfl
      obtain ⟨dm, de, dn, dg⟩ := D
      simp only at hDo he hrr hnm
      obtain rfl : de = 1 := he
      have HDO := Lib.hid (show ∀ W, Calls Tryd.prog 10 #[.agg M, .agg #[.int .i64 10, .int .i64 0, .slice none 0 0], .agg zeroF, .int .i64 1] W fun e w' => e = .returned (.tuple #[.agg dm.cells.toArray, .agg #[.int .i64 1, .int .i64 dn, .int .i64 dg]]) ∧ Below W.heap.size W w' from hdo)
      clear hdo hDD
      go_wp2_with fail
      refine (HDO.out _).mono ?_
      rintro e w3 ⟨rfl, hb3⟩
      have hX3 := HX.out.later hb3
      have hlt3 := hX3.hd.lt
      have hlt4 := hX3.tl.hd.lt
      have hN1 := hX3.new rfl 27 Tryd.zeroCells27
      have hN2 := hN1.new (g := w3.heap.size + 1) (by simp) 36 #[.int .i64 0, .int .i64 0, .int .i64 0]
      have hst1 := storeM hDo hN2.tl.hd zeroM_size
      obtain ⟨N, hN⟩ : ∃ N, dm.cells.toArray = N := ⟨_, rfl⟩
      rw [hN] at hst1
      have hP1 := hN2.swap.put N (by have := hX3.bel.size; omega) (by intro x hx; simp only [List.mem_cons, List.not_mem_nil, or_false] at hx; rcases hx with hx | hx | hx <;> (rw [hx]; simp <;> omega))
      have hst2 := run_sstR 1 dn dg hP1.tl.hd zeroR_size
      have hP2 := hP1.swap.put #[.int .i64 1, .int .i64 dn, .int .i64 dg] (by have := hX3.bel.size; omega) (by intro x hx; simp only [List.mem_cons, List.not_mem_nil, or_false] at hx; rcases hx with hx | hx | hx <;> (rw [hx]; simp <;> omega))
      have HP := Lib.hid hP2
      have HN := Lib.hid hN
      clear hb3 hX3 hN1 hN2 hP1 hP2 hld hlq HX hlt3 hlt4 hN
      obtain ⟨nb, hnb⟩ : ∃ nb, w3.heap.size = nb := ⟨_, rfl⟩
      rw [hnb] at hst1 hst2 HP
      rw [HN.out]
      go_upto_region 18 with fail
      have hP := HP.out
      clear HP hst1 hst2 hnb HDO
      generalize World.setRow _ (nb + 1) _ = W7 at hP ⊢
      have hl1 : (sldM (.pointer (some ⟨nb, 0, none⟩))).run Tryd.prog W7 = .ok (.agg N) W7 := by
        have q := hP.tl.hd
        rw [← HN.out] at q ⊢
        exact run_sldM (Mt.cells_len hDo) q.whole
      have kr : W7.cell? ⟨nb + 1, 0, none⟩ = some (.int .i64 1) := hP.hd.cell 0
      have hrm : ∀ W, Calls Tryd.prog 16 #[.agg N] W fun e w' => e = .returned (.bool true) ∧ Below W.heap.size W w' := fun W => by rw [← HN.out, ← hrr]; exact rright_c W dm hDo
      have hMN : M = N := by rw [← HM.out, ← HN.out, hnm]
      have hl2 : (sldM (.pointer (some ⟨mb, 0, none⟩))).run Tryd.prog W7 = .ok (.agg N) W7 := by
        have q := hP.tl.tl.tl.hd
        rw [hMN, ← HN.out] at q
        rw [← HN.out]
        exact run_sldM (Mt.cells_len hDo) q.whole
      have hee : ∀ W, (binOp .eql 27 (.agg N) (.agg N)).run Tryd.prog W = .ok (.bool true) W := fun W => by rw [← HN.out]; exact eqlM dm hDo W
      clear hMN hnm
      have HB := Lib.hid hP.bel
      have HRM := Lib.hid hrm
      clear hP hrr hrm
      go_wp2_with fail
      refine (HRM.out _).mono ?_
      rintro e w9 ⟨rfl, hb9⟩
      go_wp2_with fail
      go_ret
      exact ⟨rfl, HB.out.trans (hb9.mono HB.out.size)⟩
end Go.Proofs.YtpbdglocfjbbfaaDoor
