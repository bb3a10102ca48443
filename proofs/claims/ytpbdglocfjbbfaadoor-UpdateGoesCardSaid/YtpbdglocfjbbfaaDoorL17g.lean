/- waterlinelaw17.UpdateGoes: an image that is allowed, comes chunk by chunk, and is what was said, is tried and confirmed. -/
import Derived.Test.YtpbdglocfjbbfaaDoorGoP
import Derived.Test.YtpbdglocfjbbfaaDoorRcf
import Derived.Test.YtpbdglocfjbbfaaDoorL17a
import Derived.Deep.RegionHeld3
import Derived.Deep.DrawnRows
namespace Go.Proofs.YtpbdglocfjbbfaaDoor
open Go Go.RowKit
set_option linter.unusedVariables false
set_option linter.unusedSimpArgs false
noncomputable def sstF (x v : Value) : Sem Unit := Instr.storeAt 32 x v
theorem sstF_seal (x v : Value) : Instr.storeAt 32 x v = sstF x v := rfl
theorem run_sstF {W : World} {g : Nat} {old : Array Value} (cs : List Value) (h : Blk W g 32 old) (ho : old.size = cs.length) (hs : (Tryd.prog.info? 32).map (·.size) = some cs.length) (h1 : ∀ u ∈ cs, u.oneCell' = true) :
    (sstF (.pointer (some ⟨g, 0, none⟩)) (.agg cs.toArray)).run Tryd.prog W = .ok () (W.setRow g cs.toArray) := by
  unfold sstF
  simp only [Instr.storeAt, Instr.sureAddr, Sem.run_bind, Sem.run_pure, Result.andThen_ok, run_storeVar_row (P := Tryd.prog) W g 32 32 old cs.toArray h (by simpa using hs) (by simpa using ho) (by simpa using h1)]
noncomputable def sstQ (x v : Value) : Sem Unit := Instr.storeAt 30 x v
theorem sstQ_seal (x v : Value) : Instr.storeAt 30 x v = sstQ x v := rfl
theorem run_sstQ {W : World} {g : Nat} {old : Array Value} (k n : Int) (A : Option Addr) (sl sc : Nat) (h : Blk W g 30 old) (ho : old.size = 3) :
    (sstQ (.pointer (some ⟨g, 0, none⟩)) (.agg #[.int .i64 k, .int .i64 n, .slice A sl sc])).run Tryd.prog W = .ok () (W.setRow g #[.int .i64 k, .int .i64 n, .slice A sl sc]) := by
  unfold sstQ
  simp only [Instr.storeAt, Instr.sureAddr, Sem.run_bind, Sem.run_pure, Result.andThen_ok, run_storeVar_row (P := Tryd.prog) W g 30 30 old #[.int .i64 k, .int .i64 n, .slice A sl sc] h info_sQ ho (by simp [Value.oneCell'])]
theorem Fr.setQ {w0 W : World} {bm bq bf ba bb : Nat} {tq : TypeId} {m : Mt} {QA FA RA RB : Array Value} (h : Fr w0 W bm bq bf ba bb tq m QA FA RA RB) {g o : Nat} {v : Value} (a : w0.heap.size ≤ g ∧ bm ≠ g ∧ bq ≠ g ∧ bf ≠ g ∧ ba ≠ g ∧ bb ≠ g) : Fr w0 (W.setCell ⟨g, o, none⟩ v) bm bq bf ba bb tq m QA FA RA RB :=
  ⟨h.m.far a.2.1 v, h.q.far a.2.2.1 v, h.f.far a.2.2.2.1 v, h.a.far a.2.2.2.2.1 v, h.b.far a.2.2.2.2.2 v, h.bel.setCell a.1 _, h.dm, h.da, h.db⟩
noncomputable def sbF (parts : Array (Nat × Value)) : Sem Value := Instr.build 32 parts
theorem sbF_seal (parts : Array (Nat × Value)) : Instr.build 32 parts = sbF parts := rfl
theorem run_sbF (x : Img) (hx : x.d.length = 32) (w : World) : (sbF #[(0, .bool true), (1, .bool true), (2, .agg (x.d.map u8v).toArray)]).run Tryd.prog w = .ok (.agg (gF x).cells.toArray) w := by
  refine run_build w _ _ _ ?_
  have h : Tryd.prog.built 32 [(0, .bool true), (1, .bool true), (2, .agg (x.d.map u8v).toArray)] = Instr.fill (#[(0, 1), (1, 1), (2, 32), (34, 1)][·]?) Fc.zero.cells.toArray [(0, .bool true), (1, .bool true), (2, .agg (x.d.map u8v).toArray)] := by kernel_rfl
  rw [h]
  have h2 : Instr.fill (#[(0, 1), (1, 1), (2, 32), (34, 1)][·]?) Fc.zero.cells.toArray [(0, .bool true), (1, .bool true), (2, .agg (x.d.map u8v).toArray)] = Instr.fill (#[(0, 1), (1, 1), (2, 32), (34, 1)][·]?) (⟨true, true, List.replicate 32 0, false⟩ : Fc).cells.toArray [(2, .agg (x.d.map u8v).toArray)] := rfl
  rw [h2, fill_one _ _ (x.d.map u8v) 2 2 [] (by rw [List.length_map, hx]; rfl) (by rw [List.length_map, hx]; decide)]
  rw [List.length_map, hx]
  rfl
theorem run_sbNx (nm : ByteArray) (x : Img) (hx : x.d.length = 32) (w : World) : (sbN #[(0, .string nm), (1, .agg x.cells.toArray)]).run Tryd.prog w = .ok (.agg (manC nm x).toArray) w := by
  refine run_build w _ _ _ ?_
  have h : Tryd.prog.built 52 [(0, .string nm), (1, .agg x.cells.toArray)] = Instr.fill (#[(0, 1), (1, 34)][·]?) litN [(0, .string nm), (1, .agg x.cells.toArray)] := by kernel_rfl
  rw [h, zeroN_eq]
  have h2 : Instr.fill (#[(0, 1), (1, 34)][·]?) zeroN.toArray [(0, .string nm), (1, .agg x.cells.toArray)] = Instr.fill (#[(0, 1), (1, 34)][·]?) (manC nm Img.zero).toArray [(1, .agg x.cells.toArray)] := rfl
  rw [h2, fill_one _ _ x.cells 1 1 [] (by rw [Img.cells_len hx]; rfl) (by rw [Img.cells_len hx, show (manC nm Img.zero).length = 35 from rfl]; decide)]
  rw [Img.cells_len hx, List.drop_of_length_le (by rw [show (manC nm Img.zero).length = 35 from rfl]; decide), List.append_nil]
  rfl
theorem Fr.putM {w0 W : World} {bm bq bf ba bb : Nat} {tq : TypeId} {m m' : Mt} {QA FA RA RB : Array Value} (h : Fr w0 W bm bq bf ba bb tq m QA FA RA RB) : Fr w0 (W.setRow bm m'.cells.toArray) bm bq bf ba bb tq m' QA FA RA RB :=
  ⟨h.m.setRow_m _, h.q.setRow_mf _ (Ne.symm h.dm.2.1), h.f.setRow_mf _ (Ne.symm h.dm.2.2.1), h.a.setRow_mf _ (Ne.symm h.dm.2.2.2.1), h.b.setRow_mf _ (Ne.symm h.dm.2.2.2.2), below_setRow_m h.bel h.dm.1 _, h.dm, h.da, h.db⟩
theorem Fr.putN {w0 W : World} {bm bq bf ba bb : Nat} {tq : TypeId} {m : Mt} {QA FA RA RB : Array Value} (h : Fr w0 W bm bq bf ba bb tq m QA FA RA RB) (g : Nat) (cs : Array Value) (hg : w0.heap.size ≤ g) (h1 : bm ≠ g) (h2 : bq ≠ g) (h3 : bf ≠ g) (h4 : ba ≠ g) (h5 : bb ≠ g) : Fr w0 (W.setRow g cs) bm bq bf ba bb tq m QA FA RA RB :=
  ⟨h.m.setRow_mf _ h1, h.q.setRow_mf _ h2, h.f.setRow_mf _ h3, h.a.setRow_mf _ h4, h.b.setRow_mf _ h5, below_setRow_m h.bel hg _, h.dm, h.da, h.db⟩
theorem Fr.away {w0 W : World} {bm bq bf ba bb : Nat} {tq : TypeId} {m : Mt} {QA FA RA RB : Array Value} (h : Fr w0 W bm bq bf ba bb tq m QA FA RA RB) : w0.heap.size ≤ W.heap.size ∧ bm ≠ W.heap.size ∧ bq ≠ W.heap.size ∧ bf ≠ W.heap.size ∧ ba ≠ W.heap.size ∧ bb ≠ W.heap.size :=
  ⟨h.bel.size, Nat.ne_of_lt h.m.lt, Nat.ne_of_lt h.q.lt, Nat.ne_of_lt h.f.lt, Nat.ne_of_lt h.a.lt, Nat.ne_of_lt h.b.lt⟩
theorem Fr.putW {w0 W : World} {bm bq bf ba bb : Nat} {tq : TypeId} {m : Mt} {QA FA RA RB : Array Value} (h : Fr w0 W bm bq bf ba bb tq m QA FA RA RB) (g : Nat) (cs : Array Value) (a : w0.heap.size ≤ g ∧ bm ≠ g ∧ bq ≠ g ∧ bf ≠ g ∧ ba ≠ g ∧ bb ≠ g) : Fr w0 (W.setRow g cs) bm bq bf ba bb tq m QA FA RA RB :=
  h.putN g cs a.1 a.2.1 a.2.2.1 a.2.2.2.1 a.2.2.2.2.1 a.2.2.2.2.2
theorem BlkNewAt {w0 W : World} {bm bq bf ba bb : Nat} {tq : TypeId} {m : Mt} {QA FA RA RB : Array Value} (h : Fr w0 W bm bq bf ba bb tq m QA FA RA RB) (t : TypeId) (cs : Array Value) : Blk (W.alloc (.cells cs t)) W.heap.size t cs := Blk.new W t cs
theorem mk_reads (W : World) (n : Nat) : Reads (W.alloc (.cells (List.replicate n (u8v 0)).toArray 5)) (some ⟨W.heap.size, 0, none⟩) n ((List.replicate n (0 : UInt8)).map u8v) := by
  have h := alloc_readsV W (List.replicate n (u8v 0)) 5
  rw [List.length_replicate] at h
  rw [List.map_replicate]
  exact h
theorem goDo (m' : Mt) (ok : m'.Ok) (x : Img) (hxd : x.d.length = 32) (k n : Int) (A : Option Addr) (sl sc : Nat) (l : List UInt8) (hs : sl ≤ 1000) (D : Mt) (e nn : Int) (hD : doA m' (gF x) k n l 6 = ⟨D, e, nn, 0⟩) (W : World) (hr : Reads W A sl (l.map u8v)) :
    Calls Tryd.prog 10 #[.agg m'.cells.toArray, .agg #[.int .i64 k, .int .i64 n, .slice A sl sc], .agg (gF x).cells.toArray, .int .i64 6] W fun e' w' => e' = .returned (.tuple #[.agg D.cells.toArray, .agg #[.int .i64 e, .int .i64 nn, .int .i64 0]]) ∧ Below W.heap.size W w' := by
  refine (doA_c W m' ok k n A sl sc l hr hs (gF x) hxd 6).mono ?_
  rintro e' w' ⟨rfl, hb⟩
  rw [hD]
  exact ⟨rfl, hb⟩
theorem layF {w0 W : World} {bm bq bf ba bb : Nat} {tq : TypeId} {m : Mt} {QA FA RA RB : Array Value} (h : Fr w0 W bm bq bf ba bb tq m QA FA RA RB) (D : Mt) (hD : D.Ok) (E N G : Int) :
    let W1 := (W.alloc (.cells Tryd.zeroCells27 27)).alloc (.cells #[.int .i64 0, .int .i64 0, .int .i64 0] 36)
    let W2 := (W1.setRow W.heap.size D.cells.toArray).setRow (W.heap.size + 1) #[.int .i64 E, .int .i64 N, .int .i64 G]
    (sstM (.pointer (some ⟨W.heap.size, 0, none⟩)) (.agg D.cells.toArray)).run Tryd.prog W1 = .ok () (W1.setRow W.heap.size D.cells.toArray) ∧
    (sstR (.pointer (some ⟨W.heap.size + 1, 0, none⟩)) (.agg #[.int .i64 E, .int .i64 N, .int .i64 G])).run Tryd.prog (W1.setRow W.heap.size D.cells.toArray) = .ok () W2 ∧
    Fr w0 W2 bm bq bf ba bb tq m QA FA RA RB ∧ Blk W2 W.heap.size 27 D.cells.toArray ∧ Blk W2 (W.heap.size + 1) 36 #[.int .i64 E, .int .i64 N, .int .i64 G] ∧ Below W.heap.size W W2 := by
  intro W1 W2
  have hsz := h.bel.size
  have l1 := h.m.lt
  have l2 := h.q.lt
  have l3 := h.f.lt
  have l4 := h.a.lt
  have l5 := h.b.lt
  have hN : Blk W1 W.heap.size 27 Tryd.zeroCells27 := (Blk.new W 27 Tryd.zeroCells27).alloc _
  have hR : Blk W1 (W.heap.size + 1) 36 #[.int .i64 0, .int .i64 0, .int .i64 0] := by
    have q := Blk.new (W.alloc (.cells Tryd.zeroCells27 27)) 36 #[.int .i64 0, .int .i64 0, .int .i64 0]
    rw [show (W.alloc (.cells Tryd.zeroCells27 27)).heap.size = W.heap.size + 1 from by simp] at q
    exact q
  have hf := (h.alloc (.cells Tryd.zeroCells27 27)).alloc (.cells #[.int .i64 0, .int .i64 0, .int .i64 0] 36)
  have hf2 := (hf.putN W.heap.size D.cells.toArray hsz (by omega) (by omega) (by omega) (by omega) (by omega)).putN (W.heap.size + 1) #[.int .i64 E, .int .i64 N, .int .i64 G] (by omega) (by omega) (by omega) (by omega) (by omega) (by omega)
  have hR2 := hR.setRow_mf D.cells.toArray (show W.heap.size + 1 ≠ W.heap.size by omega)
  have hb : Below W.heap.size W W1 := ((Below.refl _ _).alloc (Nat.le_refl _) _).alloc (by simp) _
  exact ⟨storeM hD hN zeroM_size, run_sstR E N G hR2 zeroR_size, hf2, (hN.setRow_m _).setRow_mf _ (show W.heap.size ≠ W.heap.size + 1 by omega), hR2.setRow_m _, below_setRow_m (below_setRow_m hb (Nat.le_refl _) _) (by omega) _⟩
attribute [local go_sem ↓] sldI_seal sldM_seal sstM_seal sstI_seal sldF_seal sldQ_seal sldR_seal sstR_seal sldD_seal sbN_seal sldN_seal sstN_seal sstF_seal sbF_seal sstQ_seal
set_option maxRecDepth 100000 in
set_option maxHeartbeats 8000000 in
theorem updGoes_c (w : World) (m : Mt) (h : m.Ok) (nm : ByteArray) (hnm : nm.size ≤ maxLen) (x : Img) (hxd : x.d.length = 32) (boots : Int) (cf : Bool) :
    Calls Tryd.prog 6 #[.agg m.cells.toArray, .string nm, .agg x.cells.toArray, .int .i64 boots, .bool cf] w fun e w' => e = .returned (.bool true) ∧ Below w.heap.size w w' := by
  have kc := fun (w : World) (C : Array Value) (n c : Nat) => Lib.run_convert_bytes_const (P := Tryd.prog) w 28 5 C n c Tryd.underlying28 Tryd.underlying5
  have kc2 : ∀ (w : World) (o : Obj) (C : Array Value) (n c : Nat), (convert 28 28 (.slice (some ⟨w.heap.size + 1, 0, none⟩) n c)).run Tryd.prog ((w.alloc o).alloc (.cells C 5)) = .ok (.slice (some ⟨w.heap.size + 1, 0, none⟩) n c) ((w.alloc o).alloc (.cells C 5 (C.size, C.size + 1))) := fun w o C n c => by
    have q := kc (w.alloc o) C n c
    rw [show (w.alloc o).heap.size = w.heap.size + 1 from by simp] at q
    exact q
  have hX0 := ((Bxs.nil w).new rfl 27 m.cells.toArray).new (by simp) 24 x.cells.toArray (g := w.heap.size + 1)
  obtain ⟨RT, hRT⟩ : ∃ RT, m.rright = RT := ⟨_, rfl⟩
  obtain ⟨VN, hVN⟩ : ∃ VN, validN nm = VN := ⟨_, rfl⟩
  have hrm : ∀ W, Calls Tryd.prog 16 #[.agg m.cells.toArray] W fun e w' => e = .returned (.bool RT) ∧ Below W.heap.size W w' := fun W => hRT ▸ rrmeta_c W m h
  have hrc := fun (W : World) (KA FA : Option Addr) (kc fc : Nat) => rconfig_c W nm (by unfold maxLen at hnm; omega) KA FA kc fc
  simp only [hVN] at hrc
  have hS : ∀ W, Bxs w W [(w.heap.size + 1, 24, x.cells.toArray), (w.heap.size, 27, m.cells.toArray)] →
      (sldM (.pointer (some ⟨w.heap.size, 0, none⟩))).run Tryd.prog W = .ok (.agg m.cells.toArray) W ∧ W.cell? ⟨w.heap.size, 69, none⟩ = some (.int .i64 m.mn) ∧ W.cell? ⟨w.heap.size, 70, none⟩ = some (.int .i64 m.ph) ∧ W.cell? ⟨w.heap.size + 1, 0, none⟩ = some (.int .i64 x.v) ∧ W.cell? ⟨w.heap.size + 1, 1, none⟩ = some (.int .i64 x.s) ∧ (sldI (.pointer (some ⟨w.heap.size + 1, 0, none⟩))).run Tryd.prog W = .ok (.agg x.cells.toArray) W ∧ (sldD (.pointer (some ⟨w.heap.size + 1, 2, none⟩))).run Tryd.prog W = .ok (.agg (x.d.map u8v).toArray) W := fun W hX =>
    ⟨run_sldM (Mt.cells_len h) hX.tl.hd.whole, by rw [hX.tl.hd.cell, List.getElem?_toArray, Mt.c69 h], by rw [hX.tl.hd.cell, List.getElem?_toArray, Mt.c70 h], hX.hd.cell 0, hX.hd.cell 1, run_sldI (Img.cells_len hxd) hX.hd.whole, run_sldD (by rw [List.length_map, hxd]) (by have r := hX.hd.range 2 32 (by rw [Img.cells_len hxd]; omega); rw [show (x.cells.drop 2).take 32 = x.d.map u8v from by show (x.d.map u8v).take 32 = _; rw [List.take_of_length_le (by rw [List.length_map, hxd]; omega)]] at r; exact r)⟩
  have HX := Lib.hid hX0
  have HS := Lib.hid hS
  have HRM := Lib.hid hrm
  have HRC := Lib.hid hrc
  have HRT := Lib.hid hRT
  have HVN := Lib.hid hVN
  clear hX0 hS hrm hrc hRT hVN
  go_enter Tryd.func6, Tryd.ntmps6
  go_wp2_with fail
  generalize (w.alloc (.cells m.cells.toArray 27)).alloc (.cells x.cells.toArray 24) = W3 at HX ⊢
  refine (alive17_c W3).mono ?_
  rintro e w1 ⟨rfl, hb1⟩
  have HX := Lib.hid (HX.out.later hb1)
  clear hb1
  obtain ⟨hld, _, _, _, _, _, _⟩ := HS.out _ HX.out
  go_wp2_with fail
  refine (HRM.out _).mono ?_
  rintro e w2 ⟨rfl, hb2⟩
  have HX := Lib.hid (HX.out.later hb2)
  clear hb2 hld
  obtain ⟨hld, c69, c70, x0, x1, hldx, hldd⟩ := HS.out _ HX.out
  cases RT
  · go_wp2_with fail
    go_ret
    exact ⟨rfl, HX.out.bel⟩
  by_cases p0 : m.ph = 0
  rotate_left
  · go_wp2_with fail
    go_ret
    exact ⟨rfl, HX.out.bel⟩
  by_cases v0 : x.v < 1
  · go_wp2_with fail
    go_ret
    exact ⟨rfl, HX.out.bel⟩
  by_cases v1 : 1073741824 < x.v
  · go_wp2_with fail
    go_ret
    exact ⟨rfl, HX.out.bel⟩
  by_cases v2 : x.v < m.mn
  · go_wp2_with fail
    go_ret
    exact ⟨rfl, HX.out.bel⟩
  by_cases s0 : x.s < 1
  · go_wp2_with fail
    go_ret
    exact ⟨rfl, HX.out.bel⟩
  by_cases s1 : 1920 < x.s
  · go_wp2_with fail
    go_ret
    exact ⟨rfl, HX.out.bel⟩
  by_cases b0 : boots < 1
  · go_wp2_with fail
    go_ret
    exact ⟨rfl, HX.out.bel⟩
  by_cases b1 : 5 < boots
  · go_wp2_with fail
    go_ret
    exact ⟨rfl, HX.out.bel⟩
  go_wp2_with fail
  have hba : Below w2.heap.size w2 ((w2.alloc (.cells #[.int .u8 107] 5 (1, 2))).alloc (.cells #[.int .u8 120] 5 (1, 2))) := ((Below.refl _ _).alloc (Nat.le_refl _) _).alloc (by simp) _
  have HX := Lib.hid (HX.out.later hba)
  clear hba hld c69 c70 x0 x1 hldx hldd
  refine (HRC.out _ _ _ _ _).mono ?_
  rintro e w4 ⟨rfl, hb4⟩
  have HX := Lib.hid (HX.out.later hb4)
  clear hb4
  cases VN
  · go_wp2_with fail
    go_ret
    exact ⟨rfl, HX.out.bel⟩
  have hri : m.right = true := by rw [← Mt.rright_eq]; exact HRT.out
  have P := (right_iff m).1 hri
  have I : GoIn m x := ⟨P, h, p0, hxd, ⟨by omega, by omega⟩, by omega, ⟨by omega, by omega⟩⟩
  have HI := Lib.hid I
  have HB := Lib.hid (show 1 ≤ boots ∧ boots ≤ 5 from ⟨by omega, by omega⟩)
  clear hri P I
  obtain ⟨hld, _, _, _, _, hldx, hldd⟩ := HS.out _ HX.out
  have h1 := HX.out.new rfl 27 Tryd.zeroCells27
  have hst := storeM h h1.hd zeroM_size
  have HX2 := Lib.hid (h1.put m.cells.toArray HX.out.bel.size (fun y hy e => by have := (HX.out.all y hy).lt; omega))
  have HW1 := Lib.hid (show w.heap.size + 1 < w4.heap.size from HX.out.hd.lt)
  clear h1 HX hldx hldd
  go_upto_region 5 with fail
  clear hst hld p0 v0 v1 v2 s0 s1 b0 b1
  generalize World.setRow _ _ _ = W5 at HX2 ⊢
  obtain ⟨wb, hwb⟩ : ∃ wb, w4.heap.size = wb := ⟨_, rfl⟩
  rw [hwb] at HX2 HW1 ⊢
  clear hwb
  obtain ⟨_, _, _, _, _, hldx, _⟩ := HS.out _ (HX2.out.tl.alloc (.cells #[.int .u8 107] 5 (1, 2)))
  have hbn := run_sbNx nm x hxd
  have hrk := rowReads W5 [107] 5 (1, 2)
  have hnv := (validN_len nm HVN.out).1
  have hby := fun (W : World) (b : Nat) (c : Nat) (hr : Reads W (some ⟨b, 0, none⟩) 1 (([107] : List UInt8).map u8v)) => rmbytes_c W (some ⟨b, 0, none⟩) 1 c [107] hr (by omega) nm x hxd (by omega)
  have HBY := Lib.hid hby
  have HRK := Lib.hid hrk
  clear hby hrk hnv
  go_wp2_with fail
  have hba : Below W5.heap.size W5 (W5.alloc (.cells #[.int .u8 107] 5 (1, 2))) := (Below.refl _ _).alloc (Nat.le_refl _) _
  refine (HBY.out _ _ _ HRK.out).mono ?_
  rintro e w6 ⟨A6, c6, rfl, ho6, hb6⟩
  have HX := Lib.hid ((HX2.out.later hba).later hb6)
  have HR := Lib.hid (Reads.of_own ho6)
  have hcap := own_cap ho6
  have HCAP := Lib.hid hcap
  clear hba hb6 ho6 HX2 hldx hbn HBY HRK hcap
  obtain ⟨_, _, _, _, _, _, hldd⟩ := HS.out _ HX.out.tl
  have hbf := run_sbF x hxd
  have hfl : (gF x).cells.length = 35 := Fc.cells_len (f := gF x) hxd
  have hf1 : ∀ u ∈ (gF x).cells, u.oneCell' = true := by
    intro u hu
    unfold Fc.cells gF at hu
    simp only [List.mem_cons, List.mem_append, List.mem_map, List.not_mem_nil, or_false] at hu
    rcases hu with rfl | rfl | ⟨b, _, rfl⟩ | rfl <;> rfl
  have h1 := HX.out.new rfl 32 zeroF
  have hst := run_sstF (gF x).cells h1.hd (by rw [hfl]; rfl) (by rw [hfl]; exact info_sF) hf1
  have hX7 := h1.put (gF x).cells.toArray HX.out.bel.size (fun y hy e => by have := (HX.out.all y hy).lt; omega)
  have hbz : Below w6.heap.size w6 ((w6.alloc (.cells zeroF 32)).setRow w6.heap.size (gF x).cells.toArray) := below_setRow_m ((Below.refl _ _).alloc (Nat.le_refl _) _) (Nat.le_refl _) _
  have HR := Lib.hid (HR.out.below hbz)
  have HX2 := Lib.hid hX7
  have HF1 := Lib.hid hfl
  have HW2 := Lib.hid (show wb < w6.heap.size from HX.out.hd.lt)
  clear h1 hX7 hbz HX hfl hf1
  go_upto_region 7 with fail
  clear hst hldd hbf
  generalize World.setRow _ _ _ = W7 at HX2 HR ⊢
  obtain ⟨fb, hfb⟩ : ∃ fb, w6.heap.size = fb := ⟨_, rfl⟩
  rw [hfb] at HX2 HW2 ⊢
  clear hfb
  have hldF : ∀ W, Blk W fb 32 (gF x).cells.toArray → (sldF (.pointer (some ⟨fb, 0, none⟩))).run Tryd.prog W = .ok (.agg (gF x).cells.toArray) W := fun W hB => run_sldF HF1.out hB.whole
  have HLF := Lib.hid hldF
  have hld := (HS.out _ HX2.out.tl.tl).1
  have hlf := hldF _ HX2.out.hd
  have hdo := goDo m h x hxd 1 0 A6 92 c6 (bytesB [107] nm x) (by omega) (gT m x 0) 0 0 (g1 HI.out nm HVN.out [107]) W7 HR.out
  have HDO := Lib.hid hdo
  clear hldF hdo
  go_wp2_with fail
  refine HDO.out.mono ?_
  rintro e w8 ⟨rfl, hb8⟩
  have hX8 := HX2.out.later hb8
  have hX9 := hX8.new rfl 36 #[.int .i64 0, .int .i64 0, .int .i64 0]
  have hrl : fb < w8.heap.size := hX8.hd.lt
  have a1 := HW1.out
  have a2 := HW2.out
  have hFr : Fr w _ w.heap.size (w.heap.size + 1) fb wb w8.heap.size 24 m x.cells.toArray (gF x).cells.toArray m.cells.toArray #[.int .i64 0, .int .i64 0, .int .i64 0] :=
    ⟨hX9.tl.tl.tl.tl.hd, hX9.tl.tl.tl.hd, hX9.tl.hd, hX9.tl.tl.hd, hX9.hd, hX9.bel, ⟨Nat.le_refl _, by omega, by omega, by omega, by omega⟩, ⟨by omega, by omega, by omega, by omega⟩, ⟨by omega, by omega, by omega⟩⟩
  have hst := storeM (gT_ok HI.out 0) hFr.m (by rw [List.size_toArray, Mt.cells_len h])
  have hF2 := hFr.putM (m' := gT m x 0)
  have hst2 := run_sstR 0 0 0 hF2.b zeroR_size
  have HX := Lib.hid (hF2.putB #[.int .i64 0, .int .i64 0, .int .i64 0])
  clear hX8 hX9 hrl a1 a2 hFr hF2 hb8 HX2 hld hlf HDO HR HCAP
  go_upto_region 8 with fail
  clear hst hst2
  generalize World.setRow _ _ _ = W9 at HX ⊢
  obtain ⟨rb, hrb⟩ : ∃ rb, w8.heap.size = rb := ⟨_, rfl⟩
  rw [hrb] at HX ⊢
  clear hrb
  have hr0 : W9.cell? ⟨rb, 0, none⟩ = some (.int .i64 0) := HX.out.b.cell 0
  have hxs : W9.cell? ⟨w.heap.size + 1, 1, none⟩ = some (.int .i64 x.s) := HX.out.q.cell 1
  obtain ⟨kn, hkn⟩ : ∃ kn : Nat, chunksZ x.s = kn := ⟨(chunksZ x.s).toNat, by have := gK HI.out; omega⟩
  have hch : ∀ W, Calls Tryd.prog 13 #[.int .i64 x.s] W fun e w' => e = .returned (.int .i64 (kn : Int)) ∧ W = w' := fun W => hkn ▸ rchunks12_c x.s (by have := HI.out.s; omega) W
  have HKN := Lib.hid hkn
  have HCH := Lib.hid hch
  clear hkn hch
  go_wp2_with fail
  refine (HCH.out _).mono ?_
  rintro e w10 ⟨rfl, rfl⟩
  clear hr0 hxs HCH
  go_wp2_with fail
  go_loopw [17] (fun i wr => ∃ j : Nat, j ≤ kn ∧ i = .int .i64 j ∧ Fr w wr w.heap.size (w.heap.size + 1) fb wb rb 24 (gT m x (j : Int)) x.cells.toArray (gF x).cells.toArray m.cells.toArray #[.int .i64 0, .int .i64 0, .int .i64 0]) (fun i _ => kn - (intOf i).toNat)
  case atStart => exact ⟨0, Nat.zero_le _, rfl, HX.out⟩
  case round =>
    clear HX
    obtain ⟨j, hj, rfl, hX⟩ := hrel
    have HX := Lib.hid hX
    clear hX
    have hk6 : kn ≤ 6 := by have h1 := gK HI.out; have h2 := HKN.out; omega
    by_cases hlt : j < kn
    · obtain ⟨ln, hln⟩ : ∃ ln : Nat, lenZ x.s (j : Int) = ln := ⟨(lenZ x.s (j : Int)).toNat, by
        have hc : 0 ≤ lenZ x.s (j : Int) := by
          have h1 := HKN.out
          have h2 := HI.out.s
          unfold lenZ
          rw [if_neg (by omega)]
          unfold chunksZ at h1
          split at h1 <;> omega
        omega⟩
      have hlb : ln ≤ 320 := by
        have h1 := hln
        unfold lenZ at h1
        split at h1 <;> omega
      have hlen : ∀ W, Calls Tryd.prog 15 #[.int .i64 x.s, .int .i64 (j : Int)] W fun e w' => e = .returned (.int .i64 (ln : Int)) ∧ W = w' := fun W => hln ▸ rlen12_c x.s j (by have := HI.out.s; omega) W
      have hg2 := g2 HI.out (j : Int) (by omega) (by have := HKN.out; omega)
      rw [hln, Int.toNat_natCast] at hg2
      have hdo := fun (W : World) (A : Option Addr) (hr : Reads W A ln ((List.replicate ln (0 : UInt8)).map u8v)) => goDo (gT m x (j : Int)) (gT_ok HI.out _) x hxd 2 (j : Int) A ln ln (List.replicate ln (0 : UInt8)) (by omega) (gT m x ((j : Int) + 1)) 0 0 hg2 W hr
      have hmk := fun W => make_bytes ln (by omega) W
      have hrs := fun (W : World) (_ : Fr w W w.heap.size (w.heap.size + 1) fb wb rb 24 (gT m x (j : Int)) x.cells.toArray (gF x).cells.toArray m.cells.toArray #[.int .i64 0, .int .i64 0, .int .i64 0]) => mk_reads W ln
      obtain ⟨ZL, hZL⟩ : ∃ ZL, (List.replicate ln (u8v 0)).toArray = ZL := ⟨_, rfl⟩
      simp only [hZL] at hmk hrs
      obtain ⟨RL, hRL⟩ : ∃ RL, (List.replicate ln (0 : UInt8)).map u8v = RL := ⟨_, rfl⟩
      simp only [hRL] at hrs hdo
      have hS3 : ∀ W, Fr w W w.heap.size (w.heap.size + 1) fb wb rb 24 (gT m x (j : Int)) x.cells.toArray (gF x).cells.toArray m.cells.toArray #[.int .i64 0, .int .i64 0, .int .i64 0] → (sldM (.pointer (some ⟨w.heap.size, 0, none⟩))).run Tryd.prog W = .ok (.agg (gT m x (j : Int)).cells.toArray) W ∧ W.cell? ⟨w.heap.size + 1, 1, none⟩ = some (.int .i64 x.s) ∧ (sldF (.pointer (some ⟨fb, 0, none⟩))).run Tryd.prog W = .ok (.agg (gF x).cells.toArray) W := fun W hX =>
        ⟨run_sldM (Mt.cells_len (gT_ok HI.out _)) hX.m.whole, hX.q.cell 1, HLF.out _ hX.f⟩
      have HS3 := Lib.hid hS3
      have HDO := Lib.hid hdo
      have HLN := Lib.hid hlen
      have HRS0 := Lib.hid hrs
      have HLN0 := Lib.hid hln
      clear hln hlb hlen hg2 hdo hrs hZL hRL hS3
      go_upto_region 14 with fail
      go_cut [18, 19] from 111 to 132 (fun va vb wx => ∃ nb rb2, va = .pointer (some ⟨nb, 0, none⟩) ∧ vb = .pointer (some ⟨rb2, 0, none⟩) ∧ Fr w wx w.heap.size (w.heap.size + 1) fb wb rb 24 (gT m x (j : Int)) x.cells.toArray (gF x).cells.toArray m.cells.toArray #[.int .i64 0, .int .i64 0, .int .i64 0] ∧ Blk wx nb 27 (gT m x ((j : Int) + 1)).cells.toArray ∧ Blk wx rb2 36 #[.int .i64 0, .int .i64 0, .int .i64 0])
      case first =>
        have HX := Lib.hid HX.out.drew
        have hs0 := HS3.out _ HX.out
        refine wp_region_held_drew (S := (fun W => (sldM (.pointer (some ⟨w.heap.size, 0, none⟩))).run Tryd.prog W = .ok (.agg (gT m x (j : Int)).cells.toArray) W ∧ W.cell? ⟨w.heap.size + 1, 1, none⟩ = some (.int .i64 x.s) ∧ (sldF (.pointer (some ⟨fb, 0, none⟩))).run Tryd.prog W = .ok (.agg (gF x).cells.toArray) W)) (by kernel_rfl) ?_ (fun hHeld => ?_)
        · exact hs0
        generalize wr.drew = Wd at HX hs0 hHeld ⊢
        refine wpAnyH_take (i := 0) (v := ?_) rfl (by kernel_rfl) (by kernel_rfl) (by kernel_rfl) (fun _ _ _ h => h) (Or.inl ⟨by rfl, ?_⟩) (by assumption) ?_
        rotate_left
        · intro w hSw
          (try dsimp only at hSw)
          go_simp
          all_goals with_reducible rfl
        try simp only [Act.put, List.getElem_toArray, List.getElem_cons_succ, List.getElem_cons_zero, List.setIfInBounds_toArray, List.set_cons_zero, List.set_cons_succ]
        refine wpAnyH_take (i := 1) (v := ?_) rfl (by kernel_rfl) (by kernel_rfl) (by kernel_rfl) (fun _ _ _ h => h) (Or.inl ⟨by rfl, ?_⟩) (by assumption) ?_
        rotate_left
        · intro w hSw
          (try dsimp only at hSw)
          go_simp
          all_goals with_reducible rfl
        try simp only [Act.put, List.getElem_toArray, List.getElem_cons_succ, List.getElem_cons_zero, List.setIfInBounds_toArray, List.set_cons_zero, List.set_cons_succ]
        refine wpAnyH_take (i := 2) (v := ?_) rfl (by kernel_rfl) (by kernel_rfl) (by kernel_rfl) (fun _ _ _ h => h) (Or.inl ⟨by rfl, ?_⟩) (by assumption) ?_
        rotate_left
        · intro w hSw
          (try dsimp only at hSw)
          go_simp
          all_goals with_reducible rfl
        try simp only [Act.put, List.getElem_toArray, List.getElem_cons_succ, List.getElem_cons_zero, List.setIfInBounds_toArray, List.set_cons_zero, List.set_cons_succ]
        refine wpAnyH_take (i := 3) (v := ?_) rfl (by kernel_rfl) (by kernel_rfl) (by kernel_rfl) (fun _ _ _ h => h) (Or.inl ⟨by rfl, ?_⟩) (by assumption) ?_
        rotate_left
        · intro w hSw
          (try dsimp only at hSw)
          go_simp
          all_goals with_reducible rfl
        try simp only [Act.put, List.getElem_toArray, List.getElem_cons_succ, List.getElem_cons_zero, List.setIfInBounds_toArray, List.set_cons_zero, List.set_cons_succ]
        refine wpAnyH_take (i := 4) (v := ?_) rfl (by kernel_rfl) (by kernel_rfl) (by kernel_rfl) (fun _ _ _ h => h) (Or.inl ⟨by rfl, ?_⟩) (by assumption) ?_
        rotate_left
        · intro w hSw
          (try dsimp only at hSw)
          go_simp
          all_goals with_reducible rfl
        try simp only [Act.put, List.getElem_toArray, List.getElem_cons_succ, List.getElem_cons_zero, List.setIfInBounds_toArray, List.set_cons_zero, List.set_cons_succ]
        refine wpAnyH_take (i := 8) (v := ?_) rfl (by kernel_rfl) (by kernel_rfl) (by kernel_rfl) (fun _ _ _ h => h) (Or.inl ⟨by rfl, ?_⟩) (by assumption) ?_
        rotate_left
        · intro w hSw
          (try dsimp only at hSw)
          go_simp
          all_goals with_reducible rfl
        try simp only [Act.put, List.getElem_toArray, List.getElem_cons_succ, List.getElem_cons_zero, List.setIfInBounds_toArray, List.set_cons_zero, List.set_cons_succ]
        refine wpAnyH_ready (rs := [5, 13, 14]) (by kernel_rfl) (by simp) ?_
        refine AllReadyH.cons rfl (fun K hK => ?_) ?_
        · go_simp
          refine (HLN.out _).mono ?_; rintro e wl ⟨rfl, rfl⟩
          go_wp2_with fail
          refine hK.out _ _ ?_ (fun hHeld => ?_)
          · (try dsimp only)
            exact HS3.out _ HX.out
          clear hK K
          try simp only [Act.put, List.getElem_toArray, List.getElem_cons_succ, List.getElem_cons_zero, List.setIfInBounds_toArray, List.set_cons_zero, List.set_cons_succ]
          refine wpAnyH_ready (rs := [6, 13, 14]) (by kernel_rfl) (by simp) ?_
          refine AllReadyH.cons rfl (fun K hK => ?_) ?_
          · go_simp
            have HRs := Lib.hid (HRS0.out _ HX.out)
            have HX := Lib.hid (HX.out.alloc (.cells ZL 5))
            generalize World.alloc _ (.cells ZL 5) = Ws at HX HRs  ⊢
            refine hK.out _ _ ?_ (fun hHeld => ?_)
            · (try dsimp only)
              exact HS3.out _ HX.out
            clear hK K
            try simp only [Act.put, List.getElem_toArray, List.getElem_cons_succ, List.getElem_cons_zero, List.setIfInBounds_toArray, List.set_cons_zero, List.set_cons_succ]
            refine wpAnyH_take (i := 7) (v := ?_) rfl (by kernel_rfl) (by kernel_rfl) (by kernel_rfl) (fun _ _ _ h => h) (Or.inl ⟨by rfl, ?_⟩) (by assumption) ?_
            rotate_left
            · intro w hSw
              (try dsimp only at hSw)
              go_simp
              all_goals with_reducible rfl
            try simp only [Act.put, List.getElem_toArray, List.getElem_cons_succ, List.getElem_cons_zero, List.setIfInBounds_toArray, List.set_cons_zero, List.set_cons_succ]
            refine wpAnyH_ready (rs := [9, 13, 14]) (by kernel_rfl) (by simp) ?_
            refine AllReadyH.cons rfl (fun K hK => ?_) ?_
            · go_simp
              refine (HDO.out _ _ HRs.out).mono ?_; rintro e w' ⟨rfl, hb⟩; have HX := Lib.hid (HX.out.later hb); clear hb
              go_wp2_with fail
              refine hK.out _ _ ?_ (fun hHeld => ?_)
              · (try dsimp only)
                exact HS3.out _ HX.out
              clear hK K
              try simp only [Act.put, List.getElem_toArray, List.getElem_cons_succ, List.getElem_cons_zero, List.setIfInBounds_toArray, List.set_cons_zero, List.set_cons_succ]
              refine wpAnyH_take (i := 10) (v := ?_) rfl (by kernel_rfl) (by kernel_rfl) (by kernel_rfl) (fun _ _ _ h => h) (Or.inl ⟨by rfl, ?_⟩) (by assumption) ?_
              rotate_left
              · intro w hSw
                (try dsimp only at hSw)
                go_simp
                all_goals with_reducible rfl
              try simp only [Act.put, List.getElem_toArray, List.getElem_cons_succ, List.getElem_cons_zero, List.setIfInBounds_toArray, List.set_cons_zero, List.set_cons_succ]
              refine wpAnyH_take (i := 11) (v := ?_) rfl (by kernel_rfl) (by kernel_rfl) (by kernel_rfl) (fun _ _ _ h => h) (Or.inl ⟨by rfl, ?_⟩) (by assumption) ?_
              rotate_left
              · intro w hSw
                (try dsimp only at hSw)
                go_simp
                all_goals with_reducible rfl
              try simp only [Act.put, List.getElem_toArray, List.getElem_cons_succ, List.getElem_cons_zero, List.setIfInBounds_toArray, List.set_cons_zero, List.set_cons_succ]
              refine wpAnyH_take (i := 12) (v := ?_) rfl (by kernel_rfl) (by kernel_rfl) (by kernel_rfl) (fun _ _ _ h => h) (Or.inl ⟨by rfl, ?_⟩) (by assumption) ?_
              rotate_left
              · intro w hSw
                (try dsimp only at hSw)
                go_simp
                all_goals with_reducible rfl
              try simp only [Act.put, List.getElem_toArray, List.getElem_cons_succ, List.getElem_cons_zero, List.setIfInBounds_toArray, List.set_cons_zero, List.set_cons_succ]
              refine wpAnyH_ready (rs := [13, 14]) (by kernel_rfl) (by simp) ?_
              refine AllReadyH.cons rfl (fun K hK => ?_) ?_
              · go_simp
                have HNL := Lib.hid HX.out.away
                have HNb := Lib.hid (BlkNewAt HX.out 27 Tryd.zeroCells27)
                have HX := Lib.hid (HX.out.alloc (.cells Tryd.zeroCells27 27)); have HRs := Lib.hid (HRs.out.alloc (.cells Tryd.zeroCells27 27))
                generalize World.alloc _ (.cells Tryd.zeroCells27 27) = Wa at HX HNb HRs ⊢
                refine hK.out _ _ ?_ (fun hHeld => ?_)
                · (try dsimp only)
                  exact HS3.out _ HX.out
                clear hK K
                try simp only [Act.put, List.getElem_toArray, List.getElem_cons_succ, List.getElem_cons_zero, List.setIfInBounds_toArray, List.set_cons_zero, List.set_cons_succ]
                refine wpAnyH_ready (rs := [14]) (by kernel_rfl) (by simp) ?_
                refine AllReadyH.cons rfl (fun K hK => ?_) ?_
                · go_simp
                  have HRL := Lib.hid HX.out.away
                  have HRb := Lib.hid (BlkNewAt HX.out 36 #[.int .i64 0, .int .i64 0, .int .i64 0])
                  have HX := Lib.hid (HX.out.alloc (.cells #[.int .i64 0, .int .i64 0, .int .i64 0] 36)); have HRs := Lib.hid (HRs.out.alloc (.cells #[.int .i64 0, .int .i64 0, .int .i64 0] 36)); have HNb := Lib.hid (HNb.out.alloc (.cells #[.int .i64 0, .int .i64 0, .int .i64 0] 36))
                  generalize World.alloc _ (.cells #[.int .i64 0, .int .i64 0, .int .i64 0] 36) = Wb at HX HRb HRs HNb ⊢
                  refine hK.out _ _ ?_ (fun hHeld => ?_)
                  · (try dsimp only)
                    exact HS3.out _ HX.out
                  clear hK K
                  try simp only [Act.put, List.getElem_toArray, List.getElem_cons_succ, List.getElem_cons_zero, List.setIfInBounds_toArray, List.set_cons_zero, List.set_cons_succ]
                  have hst := storeM (gT_ok HI.out ((j : Int) + 1)) HNb.out zeroM_size
                  refine wpAnyH_ready (rs := [15]) (by kernel_rfl) (by simp) ?_
                  refine AllReadyH.cons rfl (fun K hK => ?_) AllReadyH.nil
                  go_simp
                  have hne := Blk.ne_ HNb.out HRb.out (by decide)
                  have HRb := Lib.hid (HRb.out.setRow_mf (gT m x ((j : Int) + 1)).cells.toArray (Ne.symm hne))
                  have HX := Lib.hid (HX.out.putW _ (gT m x ((j : Int) + 1)).cells.toArray HNL.out)
                  have HNb := Lib.hid (HNb.out.setRow_m (gT m x ((j : Int) + 1)).cells.toArray)
                  clear hst
                  refine hK.out _ _ ?_ (fun hHeld => ?_)
                  · (try dsimp only)
                    exact HS3.out _ HX.out
                  clear hK K
                  try simp only [Act.put, List.getElem_toArray, List.getElem_cons_succ, List.getElem_cons_zero, List.setIfInBounds_toArray, List.set_cons_zero, List.set_cons_succ]
                  have hst := run_sstR 0 0 0 HRb.out rfl
                  refine wpAnyH_ready (rs := [16]) (by kernel_rfl) (by simp) ?_
                  refine AllReadyH.cons rfl (fun K hK => ?_) AllReadyH.nil
                  go_simp
                  have HNb := Lib.hid (HNb.out.setRow_mf #[.int .i64 0, .int .i64 0, .int .i64 0] hne)
                  have HX := Lib.hid (HX.out.putW _ #[.int .i64 0, .int .i64 0, .int .i64 0] HRL.out)
                  have HRb := Lib.hid (HRb.out.setRow_m #[.int .i64 0, .int .i64 0, .int .i64 0])
                  clear hst
                  refine hK.out _ _ ?_ (fun hHeld => ?_)
                  · (try dsimp only)
                    exact HS3.out _ HX.out
                  clear hK K
                  try simp only [Act.put, List.getElem_toArray, List.getElem_cons_succ, List.getElem_cons_zero, List.setIfInBounds_toArray, List.set_cons_zero, List.set_cons_succ]
                  refine wpAnyH_done (by kernel_rfl) ?_ _
                  try simp only [Act.put, List.getElem_toArray, List.getElem_cons_succ, List.getElem_cons_zero, List.setIfInBounds_toArray, List.set_cons_zero, List.set_cons_succ]
                  go_wp2_with fail
                  go_meet
                  exact ⟨_, _, rfl, rfl, HX.out, HNb.out, HRb.out⟩
                exact AllReadyH.nil
              refine AllReadyH.cons rfl (fun K hK => ?_) ?_
              · go_simp
                have HRL := Lib.hid HX.out.away
                have HRb := Lib.hid (BlkNewAt HX.out 36 #[.int .i64 0, .int .i64 0, .int .i64 0])
                have HX := Lib.hid (HX.out.alloc (.cells #[.int .i64 0, .int .i64 0, .int .i64 0] 36)); have HRs := Lib.hid (HRs.out.alloc (.cells #[.int .i64 0, .int .i64 0, .int .i64 0] 36))
                generalize World.alloc _ (.cells #[.int .i64 0, .int .i64 0, .int .i64 0] 36) = Wb at HX HRb HRs ⊢
                refine hK.out _ _ ?_ (fun hHeld => ?_)
                · (try dsimp only)
                  exact HS3.out _ HX.out
                clear hK K
                try simp only [Act.put, List.getElem_toArray, List.getElem_cons_succ, List.getElem_cons_zero, List.setIfInBounds_toArray, List.set_cons_zero, List.set_cons_succ]
                refine wpAnyH_ready (rs := [13]) (by kernel_rfl) (by simp) ?_
                refine AllReadyH.cons rfl (fun K hK => ?_) ?_
                · go_simp
                  have HNL := Lib.hid HX.out.away
                  have HNb := Lib.hid (BlkNewAt HX.out 27 Tryd.zeroCells27)
                  have HX := Lib.hid (HX.out.alloc (.cells Tryd.zeroCells27 27)); have HRs := Lib.hid (HRs.out.alloc (.cells Tryd.zeroCells27 27)); have HRb := Lib.hid (HRb.out.alloc (.cells Tryd.zeroCells27 27))
                  generalize World.alloc _ (.cells Tryd.zeroCells27 27) = Wa at HX HNb HRs HRb ⊢
                  refine hK.out _ _ ?_ (fun hHeld => ?_)
                  · (try dsimp only)
                    exact HS3.out _ HX.out
                  clear hK K
                  try simp only [Act.put, List.getElem_toArray, List.getElem_cons_succ, List.getElem_cons_zero, List.setIfInBounds_toArray, List.set_cons_zero, List.set_cons_succ]
                  have hst := storeM (gT_ok HI.out ((j : Int) + 1)) HNb.out zeroM_size
                  refine wpAnyH_ready (rs := [15]) (by kernel_rfl) (by simp) ?_
                  refine AllReadyH.cons rfl (fun K hK => ?_) AllReadyH.nil
                  go_simp
                  have hne := Blk.ne_ HNb.out HRb.out (by decide)
                  have HRb := Lib.hid (HRb.out.setRow_mf (gT m x ((j : Int) + 1)).cells.toArray (Ne.symm hne))
                  have HX := Lib.hid (HX.out.putW _ (gT m x ((j : Int) + 1)).cells.toArray HNL.out)
                  have HNb := Lib.hid (HNb.out.setRow_m (gT m x ((j : Int) + 1)).cells.toArray)
                  clear hst
                  refine hK.out _ _ ?_ (fun hHeld => ?_)
                  · (try dsimp only)
                    exact HS3.out _ HX.out
                  clear hK K
                  try simp only [Act.put, List.getElem_toArray, List.getElem_cons_succ, List.getElem_cons_zero, List.setIfInBounds_toArray, List.set_cons_zero, List.set_cons_succ]
                  have hst := run_sstR 0 0 0 HRb.out rfl
                  refine wpAnyH_ready (rs := [16]) (by kernel_rfl) (by simp) ?_
                  refine AllReadyH.cons rfl (fun K hK => ?_) AllReadyH.nil
                  go_simp
                  have HNb := Lib.hid (HNb.out.setRow_mf #[.int .i64 0, .int .i64 0, .int .i64 0] hne)
                  have HX := Lib.hid (HX.out.putW _ #[.int .i64 0, .int .i64 0, .int .i64 0] HRL.out)
                  have HRb := Lib.hid (HRb.out.setRow_m #[.int .i64 0, .int .i64 0, .int .i64 0])
                  clear hst
                  refine hK.out _ _ ?_ (fun hHeld => ?_)
                  · (try dsimp only)
                    exact HS3.out _ HX.out
                  clear hK K
                  try simp only [Act.put, List.getElem_toArray, List.getElem_cons_succ, List.getElem_cons_zero, List.setIfInBounds_toArray, List.set_cons_zero, List.set_cons_succ]
                  refine wpAnyH_done (by kernel_rfl) ?_ _
                  try simp only [Act.put, List.getElem_toArray, List.getElem_cons_succ, List.getElem_cons_zero, List.setIfInBounds_toArray, List.set_cons_zero, List.set_cons_succ]
                  go_wp2_with fail
                  go_meet
                  exact ⟨_, _, rfl, rfl, HX.out, HNb.out, HRb.out⟩
                exact AllReadyH.nil
              exact AllReadyH.nil
            refine AllReadyH.cons rfl (fun K hK => ?_) ?_
            · go_simp
              have HNL := Lib.hid HX.out.away
              have HNb := Lib.hid (BlkNewAt HX.out 27 Tryd.zeroCells27)
              have HX := Lib.hid (HX.out.alloc (.cells Tryd.zeroCells27 27)); have HRs := Lib.hid (HRs.out.alloc (.cells Tryd.zeroCells27 27))
              generalize World.alloc _ (.cells Tryd.zeroCells27 27) = Wa at HX HNb HRs ⊢
              refine hK.out _ _ ?_ (fun hHeld => ?_)
              · (try dsimp only)
                exact HS3.out _ HX.out
              clear hK K
              try simp only [Act.put, List.getElem_toArray, List.getElem_cons_succ, List.getElem_cons_zero, List.setIfInBounds_toArray, List.set_cons_zero, List.set_cons_succ]
              refine wpAnyH_ready (rs := [9, 14]) (by kernel_rfl) (by simp) ?_
              refine AllReadyH.cons rfl (fun K hK => ?_) ?_
              · go_simp
                refine (HDO.out _ _ HRs.out).mono ?_; rintro e w' ⟨rfl, hb⟩; have HX := Lib.hid (HX.out.later hb); have HNb := Lib.hid (HNb.out.below hb HNb.out.lt); clear hb
                go_wp2_with fail
                refine hK.out _ _ ?_ (fun hHeld => ?_)
                · (try dsimp only)
                  exact HS3.out _ HX.out
                clear hK K
                try simp only [Act.put, List.getElem_toArray, List.getElem_cons_succ, List.getElem_cons_zero, List.setIfInBounds_toArray, List.set_cons_zero, List.set_cons_succ]
                refine wpAnyH_take (i := 10) (v := ?_) rfl (by kernel_rfl) (by kernel_rfl) (by kernel_rfl) (fun _ _ _ h => h) (Or.inl ⟨by rfl, ?_⟩) (by assumption) ?_
                rotate_left
                · intro w hSw
                  (try dsimp only at hSw)
                  go_simp
                  all_goals with_reducible rfl
                try simp only [Act.put, List.getElem_toArray, List.getElem_cons_succ, List.getElem_cons_zero, List.setIfInBounds_toArray, List.set_cons_zero, List.set_cons_succ]
                refine wpAnyH_take (i := 11) (v := ?_) rfl (by kernel_rfl) (by kernel_rfl) (by kernel_rfl) (fun _ _ _ h => h) (Or.inl ⟨by rfl, ?_⟩) (by assumption) ?_
                rotate_left
                · intro w hSw
                  (try dsimp only at hSw)
                  go_simp
                  all_goals with_reducible rfl
                try simp only [Act.put, List.getElem_toArray, List.getElem_cons_succ, List.getElem_cons_zero, List.setIfInBounds_toArray, List.set_cons_zero, List.set_cons_succ]
                refine wpAnyH_take (i := 12) (v := ?_) rfl (by kernel_rfl) (by kernel_rfl) (by kernel_rfl) (fun _ _ _ h => h) (Or.inl ⟨by rfl, ?_⟩) (by assumption) ?_
                rotate_left
                · intro w hSw
                  (try dsimp only at hSw)
                  go_simp
                  all_goals with_reducible rfl
                try simp only [Act.put, List.getElem_toArray, List.getElem_cons_succ, List.getElem_cons_zero, List.setIfInBounds_toArray, List.set_cons_zero, List.set_cons_succ]
                refine wpAnyH_ready (rs := [14]) (by kernel_rfl) (by simp) ?_
                refine AllReadyH.cons rfl (fun K hK => ?_) ?_
                · go_simp
                  have HRL := Lib.hid HX.out.away
                  have HRb := Lib.hid (BlkNewAt HX.out 36 #[.int .i64 0, .int .i64 0, .int .i64 0])
                  have HX := Lib.hid (HX.out.alloc (.cells #[.int .i64 0, .int .i64 0, .int .i64 0] 36)); have HRs := Lib.hid (HRs.out.alloc (.cells #[.int .i64 0, .int .i64 0, .int .i64 0] 36)); have HNb := Lib.hid (HNb.out.alloc (.cells #[.int .i64 0, .int .i64 0, .int .i64 0] 36))
                  generalize World.alloc _ (.cells #[.int .i64 0, .int .i64 0, .int .i64 0] 36) = Wb at HX HRb HRs HNb ⊢
                  refine hK.out _ _ ?_ (fun hHeld => ?_)
                  · (try dsimp only)
                    exact HS3.out _ HX.out
                  clear hK K
                  try simp only [Act.put, List.getElem_toArray, List.getElem_cons_succ, List.getElem_cons_zero, List.setIfInBounds_toArray, List.set_cons_zero, List.set_cons_succ]
                  have hst := storeM (gT_ok HI.out ((j : Int) + 1)) HNb.out zeroM_size
                  refine wpAnyH_ready (rs := [15]) (by kernel_rfl) (by simp) ?_
                  refine AllReadyH.cons rfl (fun K hK => ?_) AllReadyH.nil
                  go_simp
                  have hne := Blk.ne_ HNb.out HRb.out (by decide)
                  have HRb := Lib.hid (HRb.out.setRow_mf (gT m x ((j : Int) + 1)).cells.toArray (Ne.symm hne))
                  have HX := Lib.hid (HX.out.putW _ (gT m x ((j : Int) + 1)).cells.toArray HNL.out)
                  have HNb := Lib.hid (HNb.out.setRow_m (gT m x ((j : Int) + 1)).cells.toArray)
                  clear hst
                  refine hK.out _ _ ?_ (fun hHeld => ?_)
                  · (try dsimp only)
                    exact HS3.out _ HX.out
                  clear hK K
                  try simp only [Act.put, List.getElem_toArray, List.getElem_cons_succ, List.getElem_cons_zero, List.setIfInBounds_toArray, List.set_cons_zero, List.set_cons_succ]
                  have hst := run_sstR 0 0 0 HRb.out rfl
                  refine wpAnyH_ready (rs := [16]) (by kernel_rfl) (by simp) ?_
                  refine AllReadyH.cons rfl (fun K hK => ?_) AllReadyH.nil
                  go_simp
                  have HNb := Lib.hid (HNb.out.setRow_mf #[.int .i64 0, .int .i64 0, .int .i64 0] hne)
                  have HX := Lib.hid (HX.out.putW _ #[.int .i64 0, .int .i64 0, .int .i64 0] HRL.out)
                  have HRb := Lib.hid (HRb.out.setRow_m #[.int .i64 0, .int .i64 0, .int .i64 0])
                  clear hst
                  refine hK.out _ _ ?_ (fun hHeld => ?_)
                  · (try dsimp only)
                    exact HS3.out _ HX.out
                  clear hK K
                  try simp only [Act.put, List.getElem_toArray, List.getElem_cons_succ, List.getElem_cons_zero, List.setIfInBounds_toArray, List.set_cons_zero, List.set_cons_succ]
                  refine wpAnyH_done (by kernel_rfl) ?_ _
                  try simp only [Act.put, List.getElem_toArray, List.getElem_cons_succ, List.getElem_cons_zero, List.setIfInBounds_toArray, List.set_cons_zero, List.set_cons_succ]
                  go_wp2_with fail
                  go_meet
                  exact ⟨_, _, rfl, rfl, HX.out, HNb.out, HRb.out⟩
                exact AllReadyH.nil
              refine AllReadyH.cons rfl (fun K hK => ?_) ?_
              · go_simp
                have HRL := Lib.hid HX.out.away
                have HRb := Lib.hid (BlkNewAt HX.out 36 #[.int .i64 0, .int .i64 0, .int .i64 0])
                have HX := Lib.hid (HX.out.alloc (.cells #[.int .i64 0, .int .i64 0, .int .i64 0] 36)); have HRs := Lib.hid (HRs.out.alloc (.cells #[.int .i64 0, .int .i64 0, .int .i64 0] 36)); have HNb := Lib.hid (HNb.out.alloc (.cells #[.int .i64 0, .int .i64 0, .int .i64 0] 36))
                generalize World.alloc _ (.cells #[.int .i64 0, .int .i64 0, .int .i64 0] 36) = Wb at HX HRb HRs HNb ⊢
                refine hK.out _ _ ?_ (fun hHeld => ?_)
                · (try dsimp only)
                  exact HS3.out _ HX.out
                clear hK K
                try simp only [Act.put, List.getElem_toArray, List.getElem_cons_succ, List.getElem_cons_zero, List.setIfInBounds_toArray, List.set_cons_zero, List.set_cons_succ]
                refine wpAnyH_ready (rs := [9]) (by kernel_rfl) (by simp) ?_
                refine AllReadyH.cons rfl (fun K hK => ?_) ?_
                · go_simp
                  refine (HDO.out _ _ HRs.out).mono ?_; rintro e w' ⟨rfl, hb⟩; have HX := Lib.hid (HX.out.later hb); have HNb := Lib.hid (HNb.out.below hb HNb.out.lt); have HRb := Lib.hid (HRb.out.below hb HRb.out.lt); clear hb
                  go_wp2_with fail
                  refine hK.out _ _ ?_ (fun hHeld => ?_)
                  · (try dsimp only)
                    exact HS3.out _ HX.out
                  clear hK K
                  try simp only [Act.put, List.getElem_toArray, List.getElem_cons_succ, List.getElem_cons_zero, List.setIfInBounds_toArray, List.set_cons_zero, List.set_cons_succ]
                  refine wpAnyH_take (i := 10) (v := ?_) rfl (by kernel_rfl) (by kernel_rfl) (by kernel_rfl) (fun _ _ _ h => h) (Or.inl ⟨by rfl, ?_⟩) (by assumption) ?_
                  rotate_left
                  · intro w hSw
                    (try dsimp only at hSw)
                    go_simp
                    all_goals with_reducible rfl
                  try simp only [Act.put, List.getElem_toArray, List.getElem_cons_succ, List.getElem_cons_zero, List.setIfInBounds_toArray, List.set_cons_zero, List.set_cons_succ]
                  refine wpAnyH_take (i := 11) (v := ?_) rfl (by kernel_rfl) (by kernel_rfl) (by kernel_rfl) (fun _ _ _ h => h) (Or.inl ⟨by rfl, ?_⟩) (by assumption) ?_
                  rotate_left
                  · intro w hSw
                    (try dsimp only at hSw)
                    go_simp
                    all_goals with_reducible rfl
                  try simp only [Act.put, List.getElem_toArray, List.getElem_cons_succ, List.getElem_cons_zero, List.setIfInBounds_toArray, List.set_cons_zero, List.set_cons_succ]
                  refine wpAnyH_take (i := 12) (v := ?_) rfl (by kernel_rfl) (by kernel_rfl) (by kernel_rfl) (fun _ _ _ h => h) (Or.inl ⟨by rfl, ?_⟩) (by assumption) ?_
                  rotate_left
                  · intro w hSw
                    (try dsimp only at hSw)
                    go_simp
                    all_goals with_reducible rfl
                  try simp only [Act.put, List.getElem_toArray, List.getElem_cons_succ, List.getElem_cons_zero, List.setIfInBounds_toArray, List.set_cons_zero, List.set_cons_succ]
                  have hst := storeM (gT_ok HI.out ((j : Int) + 1)) HNb.out zeroM_size
                  refine wpAnyH_ready (rs := [15]) (by kernel_rfl) (by simp) ?_
                  refine AllReadyH.cons rfl (fun K hK => ?_) AllReadyH.nil
                  go_simp
                  have hne := Blk.ne_ HNb.out HRb.out (by decide)
                  have HRb := Lib.hid (HRb.out.setRow_mf (gT m x ((j : Int) + 1)).cells.toArray (Ne.symm hne))
                  have HX := Lib.hid (HX.out.putW _ (gT m x ((j : Int) + 1)).cells.toArray HNL.out)
                  have HNb := Lib.hid (HNb.out.setRow_m (gT m x ((j : Int) + 1)).cells.toArray)
                  clear hst
                  refine hK.out _ _ ?_ (fun hHeld => ?_)
                  · (try dsimp only)
                    exact HS3.out _ HX.out
                  clear hK K
                  try simp only [Act.put, List.getElem_toArray, List.getElem_cons_succ, List.getElem_cons_zero, List.setIfInBounds_toArray, List.set_cons_zero, List.set_cons_succ]
                  have hst := run_sstR 0 0 0 HRb.out rfl
                  refine wpAnyH_ready (rs := [16]) (by kernel_rfl) (by simp) ?_
                  refine AllReadyH.cons rfl (fun K hK => ?_) AllReadyH.nil
                  go_simp
                  have HNb := Lib.hid (HNb.out.setRow_mf #[.int .i64 0, .int .i64 0, .int .i64 0] hne)
                  have HX := Lib.hid (HX.out.putW _ #[.int .i64 0, .int .i64 0, .int .i64 0] HRL.out)
                  have HRb := Lib.hid (HRb.out.setRow_m #[.int .i64 0, .int .i64 0, .int .i64 0])
                  clear hst
                  refine hK.out _ _ ?_ (fun hHeld => ?_)
                  · (try dsimp only)
                    exact HS3.out _ HX.out
                  clear hK K
                  try simp only [Act.put, List.getElem_toArray, List.getElem_cons_succ, List.getElem_cons_zero, List.setIfInBounds_toArray, List.set_cons_zero, List.set_cons_succ]
                  refine wpAnyH_done (by kernel_rfl) ?_ _
                  try simp only [Act.put, List.getElem_toArray, List.getElem_cons_succ, List.getElem_cons_zero, List.setIfInBounds_toArray, List.set_cons_zero, List.set_cons_succ]
                  go_wp2_with fail
                  go_meet
                  exact ⟨_, _, rfl, rfl, HX.out, HNb.out, HRb.out⟩
                exact AllReadyH.nil
              exact AllReadyH.nil
            refine AllReadyH.cons rfl (fun K hK => ?_) ?_
            · go_simp
              have HRL := Lib.hid HX.out.away
              have HRb := Lib.hid (BlkNewAt HX.out 36 #[.int .i64 0, .int .i64 0, .int .i64 0])
              have HX := Lib.hid (HX.out.alloc (.cells #[.int .i64 0, .int .i64 0, .int .i64 0] 36)); have HRs := Lib.hid (HRs.out.alloc (.cells #[.int .i64 0, .int .i64 0, .int .i64 0] 36))
              generalize World.alloc _ (.cells #[.int .i64 0, .int .i64 0, .int .i64 0] 36) = Wb at HX HRb HRs ⊢
              refine hK.out _ _ ?_ (fun hHeld => ?_)
              · (try dsimp only)
                exact HS3.out _ HX.out
              clear hK K
              try simp only [Act.put, List.getElem_toArray, List.getElem_cons_succ, List.getElem_cons_zero, List.setIfInBounds_toArray, List.set_cons_zero, List.set_cons_succ]
              refine wpAnyH_ready (rs := [9, 13]) (by kernel_rfl) (by simp) ?_
              refine AllReadyH.cons rfl (fun K hK => ?_) ?_
              · go_simp
                refine (HDO.out _ _ HRs.out).mono ?_; rintro e w' ⟨rfl, hb⟩; have HX := Lib.hid (HX.out.later hb); have HRb := Lib.hid (HRb.out.below hb HRb.out.lt); clear hb
                go_wp2_with fail
                refine hK.out _ _ ?_ (fun hHeld => ?_)
                · (try dsimp only)
                  exact HS3.out _ HX.out
                clear hK K
                try simp only [Act.put, List.getElem_toArray, List.getElem_cons_succ, List.getElem_cons_zero, List.setIfInBounds_toArray, List.set_cons_zero, List.set_cons_succ]
                refine wpAnyH_take (i := 10) (v := ?_) rfl (by kernel_rfl) (by kernel_rfl) (by kernel_rfl) (fun _ _ _ h => h) (Or.inl ⟨by rfl, ?_⟩) (by assumption) ?_
                rotate_left
                · intro w hSw
                  (try dsimp only at hSw)
                  go_simp
                  all_goals with_reducible rfl
                try simp only [Act.put, List.getElem_toArray, List.getElem_cons_succ, List.getElem_cons_zero, List.setIfInBounds_toArray, List.set_cons_zero, List.set_cons_succ]
                refine wpAnyH_take (i := 11) (v := ?_) rfl (by kernel_rfl) (by kernel_rfl) (by kernel_rfl) (fun _ _ _ h => h) (Or.inl ⟨by rfl, ?_⟩) (by assumption) ?_
                rotate_left
                · intro w hSw
                  (try dsimp only at hSw)
                  go_simp
                  all_goals with_reducible rfl
                try simp only [Act.put, List.getElem_toArray, List.getElem_cons_succ, List.getElem_cons_zero, List.setIfInBounds_toArray, List.set_cons_zero, List.set_cons_succ]
                refine wpAnyH_take (i := 12) (v := ?_) rfl (by kernel_rfl) (by kernel_rfl) (by kernel_rfl) (fun _ _ _ h => h) (Or.inl ⟨by rfl, ?_⟩) (by assumption) ?_
                rotate_left
                · intro w hSw
                  (try dsimp only at hSw)
                  go_simp
                  all_goals with_reducible rfl
                try simp only [Act.put, List.getElem_toArray, List.getElem_cons_succ, List.getElem_cons_zero, List.setIfInBounds_toArray, List.set_cons_zero, List.set_cons_succ]
                refine wpAnyH_ready (rs := [13]) (by kernel_rfl) (by simp) ?_
                refine AllReadyH.cons rfl (fun K hK => ?_) ?_
                · go_simp
                  have HNL := Lib.hid HX.out.away
                  have HNb := Lib.hid (BlkNewAt HX.out 27 Tryd.zeroCells27)
                  have HX := Lib.hid (HX.out.alloc (.cells Tryd.zeroCells27 27)); have HRs := Lib.hid (HRs.out.alloc (.cells Tryd.zeroCells27 27)); have HRb := Lib.hid (HRb.out.alloc (.cells Tryd.zeroCells27 27))
                  generalize World.alloc _ (.cells Tryd.zeroCells27 27) = Wa at HX HNb HRs HRb ⊢
                  refine hK.out _ _ ?_ (fun hHeld => ?_)
                  · (try dsimp only)
                    exact HS3.out _ HX.out
                  clear hK K
                  try simp only [Act.put, List.getElem_toArray, List.getElem_cons_succ, List.getElem_cons_zero, List.setIfInBounds_toArray, List.set_cons_zero, List.set_cons_succ]
                  have hst := storeM (gT_ok HI.out ((j : Int) + 1)) HNb.out zeroM_size
                  refine wpAnyH_ready (rs := [15]) (by kernel_rfl) (by simp) ?_
                  refine AllReadyH.cons rfl (fun K hK => ?_) AllReadyH.nil
                  go_simp
                  have hne := Blk.ne_ HNb.out HRb.out (by decide)
                  have HRb := Lib.hid (HRb.out.setRow_mf (gT m x ((j : Int) + 1)).cells.toArray (Ne.symm hne))
                  have HX := Lib.hid (HX.out.putW _ (gT m x ((j : Int) + 1)).cells.toArray HNL.out)
                  have HNb := Lib.hid (HNb.out.setRow_m (gT m x ((j : Int) + 1)).cells.toArray)
                  clear hst
                  refine hK.out _ _ ?_ (fun hHeld => ?_)
                  · (try dsimp only)
                    exact HS3.out _ HX.out
                  clear hK K
                  try simp only [Act.put, List.getElem_toArray, List.getElem_cons_succ, List.getElem_cons_zero, List.setIfInBounds_toArray, List.set_cons_zero, List.set_cons_succ]
                  have hst := run_sstR 0 0 0 HRb.out rfl
                  refine wpAnyH_ready (rs := [16]) (by kernel_rfl) (by simp) ?_
                  refine AllReadyH.cons rfl (fun K hK => ?_) AllReadyH.nil
                  go_simp
                  have HNb := Lib.hid (HNb.out.setRow_mf #[.int .i64 0, .int .i64 0, .int .i64 0] hne)
                  have HX := Lib.hid (HX.out.putW _ #[.int .i64 0, .int .i64 0, .int .i64 0] HRL.out)
                  have HRb := Lib.hid (HRb.out.setRow_m #[.int .i64 0, .int .i64 0, .int .i64 0])
                  clear hst
                  refine hK.out _ _ ?_ (fun hHeld => ?_)
                  · (try dsimp only)
                    exact HS3.out _ HX.out
                  clear hK K
                  try simp only [Act.put, List.getElem_toArray, List.getElem_cons_succ, List.getElem_cons_zero, List.setIfInBounds_toArray, List.set_cons_zero, List.set_cons_succ]
                  refine wpAnyH_done (by kernel_rfl) ?_ _
                  try simp only [Act.put, List.getElem_toArray, List.getElem_cons_succ, List.getElem_cons_zero, List.setIfInBounds_toArray, List.set_cons_zero, List.set_cons_succ]
                  go_wp2_with fail
                  go_meet
                  exact ⟨_, _, rfl, rfl, HX.out, HNb.out, HRb.out⟩
                exact AllReadyH.nil
              refine AllReadyH.cons rfl (fun K hK => ?_) ?_
              · go_simp
                have HNL := Lib.hid HX.out.away
                have HNb := Lib.hid (BlkNewAt HX.out 27 Tryd.zeroCells27)
                have HX := Lib.hid (HX.out.alloc (.cells Tryd.zeroCells27 27)); have HRs := Lib.hid (HRs.out.alloc (.cells Tryd.zeroCells27 27)); have HRb := Lib.hid (HRb.out.alloc (.cells Tryd.zeroCells27 27))
                generalize World.alloc _ (.cells Tryd.zeroCells27 27) = Wa at HX HNb HRs HRb ⊢
                refine hK.out _ _ ?_ (fun hHeld => ?_)
                · (try dsimp only)
                  exact HS3.out _ HX.out
                clear hK K
                try simp only [Act.put, List.getElem_toArray, List.getElem_cons_succ, List.getElem_cons_zero, List.setIfInBounds_toArray, List.set_cons_zero, List.set_cons_succ]
                refine wpAnyH_ready (rs := [9]) (by kernel_rfl) (by simp) ?_
                refine AllReadyH.cons rfl (fun K hK => ?_) ?_
                · go_simp
                  refine (HDO.out _ _ HRs.out).mono ?_; rintro e w' ⟨rfl, hb⟩; have HX := Lib.hid (HX.out.later hb); have HNb := Lib.hid (HNb.out.below hb HNb.out.lt); have HRb := Lib.hid (HRb.out.below hb HRb.out.lt); clear hb
                  go_wp2_with fail
                  refine hK.out _ _ ?_ (fun hHeld => ?_)
                  · (try dsimp only)
                    exact HS3.out _ HX.out
                  clear hK K
                  try simp only [Act.put, List.getElem_toArray, List.getElem_cons_succ, List.getElem_cons_zero, List.setIfInBounds_toArray, List.set_cons_zero, List.set_cons_succ]
                  refine wpAnyH_take (i := 10) (v := ?_) rfl (by kernel_rfl) (by kernel_rfl) (by kernel_rfl) (fun _ _ _ h => h) (Or.inl ⟨by rfl, ?_⟩) (by assumption) ?_
                  rotate_left
                  · intro w hSw
                    (try dsimp only at hSw)
                    go_simp
                    all_goals with_reducible rfl
                  try simp only [Act.put, List.getElem_toArray, List.getElem_cons_succ, List.getElem_cons_zero, List.setIfInBounds_toArray, List.set_cons_zero, List.set_cons_succ]
                  refine wpAnyH_take (i := 11) (v := ?_) rfl (by kernel_rfl) (by kernel_rfl) (by kernel_rfl) (fun _ _ _ h => h) (Or.inl ⟨by rfl, ?_⟩) (by assumption) ?_
                  rotate_left
                  · intro w hSw
                    (try dsimp only at hSw)
                    go_simp
                    all_goals with_reducible rfl
                  try simp only [Act.put, List.getElem_toArray, List.getElem_cons_succ, List.getElem_cons_zero, List.setIfInBounds_toArray, List.set_cons_zero, List.set_cons_succ]
                  refine wpAnyH_take (i := 12) (v := ?_) rfl (by kernel_rfl) (by kernel_rfl) (by kernel_rfl) (fun _ _ _ h => h) (Or.inl ⟨by rfl, ?_⟩) (by assumption) ?_
                  rotate_left
                  · intro w hSw
                    (try dsimp only at hSw)
                    go_simp
                    all_goals with_reducible rfl
                  try simp only [Act.put, List.getElem_toArray, List.getElem_cons_succ, List.getElem_cons_zero, List.setIfInBounds_toArray, List.set_cons_zero, List.set_cons_succ]
                  have hst := storeM (gT_ok HI.out ((j : Int) + 1)) HNb.out zeroM_size
                  refine wpAnyH_ready (rs := [15]) (by kernel_rfl) (by simp) ?_
                  refine AllReadyH.cons rfl (fun K hK => ?_) AllReadyH.nil
                  go_simp
                  have hne := Blk.ne_ HNb.out HRb.out (by decide)
                  have HRb := Lib.hid (HRb.out.setRow_mf (gT m x ((j : Int) + 1)).cells.toArray (Ne.symm hne))
                  have HX := Lib.hid (HX.out.putW _ (gT m x ((j : Int) + 1)).cells.toArray HNL.out)
                  have HNb := Lib.hid (HNb.out.setRow_m (gT m x ((j : Int) + 1)).cells.toArray)
                  clear hst
                  refine hK.out _ _ ?_ (fun hHeld => ?_)
                  · (try dsimp only)
                    exact HS3.out _ HX.out
                  clear hK K
                  try simp only [Act.put, List.getElem_toArray, List.getElem_cons_succ, List.getElem_cons_zero, List.setIfInBounds_toArray, List.set_cons_zero, List.set_cons_succ]
                  have hst := run_sstR 0 0 0 HRb.out rfl
                  refine wpAnyH_ready (rs := [16]) (by kernel_rfl) (by simp) ?_
                  refine AllReadyH.cons rfl (fun K hK => ?_) AllReadyH.nil
                  go_simp
                  have HNb := Lib.hid (HNb.out.setRow_mf #[.int .i64 0, .int .i64 0, .int .i64 0] hne)
                  have HX := Lib.hid (HX.out.putW _ #[.int .i64 0, .int .i64 0, .int .i64 0] HRL.out)
                  have HRb := Lib.hid (HRb.out.setRow_m #[.int .i64 0, .int .i64 0, .int .i64 0])
                  clear hst
                  refine hK.out _ _ ?_ (fun hHeld => ?_)
                  · (try dsimp only)
                    exact HS3.out _ HX.out
                  clear hK K
                  try simp only [Act.put, List.getElem_toArray, List.getElem_cons_succ, List.getElem_cons_zero, List.setIfInBounds_toArray, List.set_cons_zero, List.set_cons_succ]
                  refine wpAnyH_done (by kernel_rfl) ?_ _
                  try simp only [Act.put, List.getElem_toArray, List.getElem_cons_succ, List.getElem_cons_zero, List.setIfInBounds_toArray, List.set_cons_zero, List.set_cons_succ]
                  go_wp2_with fail
                  go_meet
                  exact ⟨_, _, rfl, rfl, HX.out, HNb.out, HRb.out⟩
                exact AllReadyH.nil
              exact AllReadyH.nil
            exact AllReadyH.nil
          refine AllReadyH.cons rfl (fun K hK => ?_) ?_
          · go_simp
            have HNL := Lib.hid HX.out.away
            have HNb := Lib.hid (BlkNewAt HX.out 27 Tryd.zeroCells27)
            have HX := Lib.hid (HX.out.alloc (.cells Tryd.zeroCells27 27))
            generalize World.alloc _ (.cells Tryd.zeroCells27 27) = Wa at HX HNb  ⊢
            refine hK.out _ _ ?_ (fun hHeld => ?_)
            · (try dsimp only)
              exact HS3.out _ HX.out
            clear hK K
            try simp only [Act.put, List.getElem_toArray, List.getElem_cons_succ, List.getElem_cons_zero, List.setIfInBounds_toArray, List.set_cons_zero, List.set_cons_succ]
            refine wpAnyH_ready (rs := [6, 14]) (by kernel_rfl) (by simp) ?_
            refine AllReadyH.cons rfl (fun K hK => ?_) ?_
            · go_simp
              have HRs := Lib.hid (HRS0.out _ HX.out)
              have HX := Lib.hid (HX.out.alloc (.cells ZL 5)); have HNb := Lib.hid (HNb.out.alloc (.cells ZL 5))
              generalize World.alloc _ (.cells ZL 5) = Ws at HX HRs HNb ⊢
              refine hK.out _ _ ?_ (fun hHeld => ?_)
              · (try dsimp only)
                exact HS3.out _ HX.out
              clear hK K
              try simp only [Act.put, List.getElem_toArray, List.getElem_cons_succ, List.getElem_cons_zero, List.setIfInBounds_toArray, List.set_cons_zero, List.set_cons_succ]
              refine wpAnyH_take (i := 7) (v := ?_) rfl (by kernel_rfl) (by kernel_rfl) (by kernel_rfl) (fun _ _ _ h => h) (Or.inl ⟨by rfl, ?_⟩) (by assumption) ?_
              rotate_left
              · intro w hSw
                (try dsimp only at hSw)
                go_simp
                all_goals with_reducible rfl
              try simp only [Act.put, List.getElem_toArray, List.getElem_cons_succ, List.getElem_cons_zero, List.setIfInBounds_toArray, List.set_cons_zero, List.set_cons_succ]
              refine wpAnyH_ready (rs := [9, 14]) (by kernel_rfl) (by simp) ?_
              refine AllReadyH.cons rfl (fun K hK => ?_) ?_
              · go_simp
                refine (HDO.out _ _ HRs.out).mono ?_; rintro e w' ⟨rfl, hb⟩; have HX := Lib.hid (HX.out.later hb); have HNb := Lib.hid (HNb.out.below hb HNb.out.lt); clear hb
                go_wp2_with fail
                refine hK.out _ _ ?_ (fun hHeld => ?_)
                · (try dsimp only)
                  exact HS3.out _ HX.out
                clear hK K
                try simp only [Act.put, List.getElem_toArray, List.getElem_cons_succ, List.getElem_cons_zero, List.setIfInBounds_toArray, List.set_cons_zero, List.set_cons_succ]
                refine wpAnyH_take (i := 10) (v := ?_) rfl (by kernel_rfl) (by kernel_rfl) (by kernel_rfl) (fun _ _ _ h => h) (Or.inl ⟨by rfl, ?_⟩) (by assumption) ?_
                rotate_left
                · intro w hSw
                  (try dsimp only at hSw)
                  go_simp
                  all_goals with_reducible rfl
                try simp only [Act.put, List.getElem_toArray, List.getElem_cons_succ, List.getElem_cons_zero, List.setIfInBounds_toArray, List.set_cons_zero, List.set_cons_succ]
                refine wpAnyH_take (i := 11) (v := ?_) rfl (by kernel_rfl) (by kernel_rfl) (by kernel_rfl) (fun _ _ _ h => h) (Or.inl ⟨by rfl, ?_⟩) (by assumption) ?_
                rotate_left
                · intro w hSw
                  (try dsimp only at hSw)
                  go_simp
                  all_goals with_reducible rfl
                try simp only [Act.put, List.getElem_toArray, List.getElem_cons_succ, List.getElem_cons_zero, List.setIfInBounds_toArray, List.set_cons_zero, List.set_cons_succ]
                refine wpAnyH_take (i := 12) (v := ?_) rfl (by kernel_rfl) (by kernel_rfl) (by kernel_rfl) (fun _ _ _ h => h) (Or.inl ⟨by rfl, ?_⟩) (by assumption) ?_
                rotate_left
                · intro w hSw
                  (try dsimp only at hSw)
                  go_simp
                  all_goals with_reducible rfl
                try simp only [Act.put, List.getElem_toArray, List.getElem_cons_succ, List.getElem_cons_zero, List.setIfInBounds_toArray, List.set_cons_zero, List.set_cons_succ]
                refine wpAnyH_ready (rs := [14]) (by kernel_rfl) (by simp) ?_
                refine AllReadyH.cons rfl (fun K hK => ?_) ?_
                · go_simp
                  have HRL := Lib.hid HX.out.away
                  have HRb := Lib.hid (BlkNewAt HX.out 36 #[.int .i64 0, .int .i64 0, .int .i64 0])
                  have HX := Lib.hid (HX.out.alloc (.cells #[.int .i64 0, .int .i64 0, .int .i64 0] 36)); have HRs := Lib.hid (HRs.out.alloc (.cells #[.int .i64 0, .int .i64 0, .int .i64 0] 36)); have HNb := Lib.hid (HNb.out.alloc (.cells #[.int .i64 0, .int .i64 0, .int .i64 0] 36))
                  generalize World.alloc _ (.cells #[.int .i64 0, .int .i64 0, .int .i64 0] 36) = Wb at HX HRb HRs HNb ⊢
                  refine hK.out _ _ ?_ (fun hHeld => ?_)
                  · (try dsimp only)
                    exact HS3.out _ HX.out
                  clear hK K
                  try simp only [Act.put, List.getElem_toArray, List.getElem_cons_succ, List.getElem_cons_zero, List.setIfInBounds_toArray, List.set_cons_zero, List.set_cons_succ]
                  have hst := storeM (gT_ok HI.out ((j : Int) + 1)) HNb.out zeroM_size
                  refine wpAnyH_ready (rs := [15]) (by kernel_rfl) (by simp) ?_
                  refine AllReadyH.cons rfl (fun K hK => ?_) AllReadyH.nil
                  go_simp
                  have hne := Blk.ne_ HNb.out HRb.out (by decide)
                  have HRb := Lib.hid (HRb.out.setRow_mf (gT m x ((j : Int) + 1)).cells.toArray (Ne.symm hne))
                  have HX := Lib.hid (HX.out.putW _ (gT m x ((j : Int) + 1)).cells.toArray HNL.out)
                  have HNb := Lib.hid (HNb.out.setRow_m (gT m x ((j : Int) + 1)).cells.toArray)
                  clear hst
                  refine hK.out _ _ ?_ (fun hHeld => ?_)
                  · (try dsimp only)
                    exact HS3.out _ HX.out
                  clear hK K
                  try simp only [Act.put, List.getElem_toArray, List.getElem_cons_succ, List.getElem_cons_zero, List.setIfInBounds_toArray, List.set_cons_zero, List.set_cons_succ]
                  have hst := run_sstR 0 0 0 HRb.out rfl
                  refine wpAnyH_ready (rs := [16]) (by kernel_rfl) (by simp) ?_
                  refine AllReadyH.cons rfl (fun K hK => ?_) AllReadyH.nil
                  go_simp
                  have HNb := Lib.hid (HNb.out.setRow_mf #[.int .i64 0, .int .i64 0, .int .i64 0] hne)
                  have HX := Lib.hid (HX.out.putW _ #[.int .i64 0, .int .i64 0, .int .i64 0] HRL.out)
                  have HRb := Lib.hid (HRb.out.setRow_m #[.int .i64 0, .int .i64 0, .int .i64 0])
                  clear hst
                  refine hK.out _ _ ?_ (fun hHeld => ?_)
                  · (try dsimp only)
                    exact HS3.out _ HX.out
                  clear hK K
                  try simp only [Act.put, List.getElem_toArray, List.getElem_cons_succ, List.getElem_cons_zero, List.setIfInBounds_toArray, List.set_cons_zero, List.set_cons_succ]
                  refine wpAnyH_done (by kernel_rfl) ?_ _
                  try simp only [Act.put, List.getElem_toArray, List.getElem_cons_succ, List.getElem_cons_zero, List.setIfInBounds_toArray, List.set_cons_zero, List.set_cons_succ]
                  go_wp2_with fail
                  go_meet
                  exact ⟨_, _, rfl, rfl, HX.out, HNb.out, HRb.out⟩
                exact AllReadyH.nil
              refine AllReadyH.cons rfl (fun K hK => ?_) ?_
              · go_simp
                have HRL := Lib.hid HX.out.away
                have HRb := Lib.hid (BlkNewAt HX.out 36 #[.int .i64 0, .int .i64 0, .int .i64 0])
                have HX := Lib.hid (HX.out.alloc (.cells #[.int .i64 0, .int .i64 0, .int .i64 0] 36)); have HRs := Lib.hid (HRs.out.alloc (.cells #[.int .i64 0, .int .i64 0, .int .i64 0] 36)); have HNb := Lib.hid (HNb.out.alloc (.cells #[.int .i64 0, .int .i64 0, .int .i64 0] 36))
                generalize World.alloc _ (.cells #[.int .i64 0, .int .i64 0, .int .i64 0] 36) = Wb at HX HRb HRs HNb ⊢
                refine hK.out _ _ ?_ (fun hHeld => ?_)
                · (try dsimp only)
                  exact HS3.out _ HX.out
                clear hK K
                try simp only [Act.put, List.getElem_toArray, List.getElem_cons_succ, List.getElem_cons_zero, List.setIfInBounds_toArray, List.set_cons_zero, List.set_cons_succ]
                refine wpAnyH_ready (rs := [9]) (by kernel_rfl) (by simp) ?_
                refine AllReadyH.cons rfl (fun K hK => ?_) ?_
                · go_simp
                  refine (HDO.out _ _ HRs.out).mono ?_; rintro e w' ⟨rfl, hb⟩; have HX := Lib.hid (HX.out.later hb); have HNb := Lib.hid (HNb.out.below hb HNb.out.lt); have HRb := Lib.hid (HRb.out.below hb HRb.out.lt); clear hb
                  go_wp2_with fail
                  refine hK.out _ _ ?_ (fun hHeld => ?_)
                  · (try dsimp only)
                    exact HS3.out _ HX.out
                  clear hK K
                  try simp only [Act.put, List.getElem_toArray, List.getElem_cons_succ, List.getElem_cons_zero, List.setIfInBounds_toArray, List.set_cons_zero, List.set_cons_succ]
                  refine wpAnyH_take (i := 10) (v := ?_) rfl (by kernel_rfl) (by kernel_rfl) (by kernel_rfl) (fun _ _ _ h => h) (Or.inl ⟨by rfl, ?_⟩) (by assumption) ?_
                  rotate_left
                  · intro w hSw
                    (try dsimp only at hSw)
                    go_simp
                    all_goals with_reducible rfl
                  try simp only [Act.put, List.getElem_toArray, List.getElem_cons_succ, List.getElem_cons_zero, List.setIfInBounds_toArray, List.set_cons_zero, List.set_cons_succ]
                  refine wpAnyH_take (i := 11) (v := ?_) rfl (by kernel_rfl) (by kernel_rfl) (by kernel_rfl) (fun _ _ _ h => h) (Or.inl ⟨by rfl, ?_⟩) (by assumption) ?_
                  rotate_left
                  · intro w hSw
                    (try dsimp only at hSw)
                    go_simp
                    all_goals with_reducible rfl
                  try simp only [Act.put, List.getElem_toArray, List.getElem_cons_succ, List.getElem_cons_zero, List.setIfInBounds_toArray, List.set_cons_zero, List.set_cons_succ]
                  refine wpAnyH_take (i := 12) (v := ?_) rfl (by kernel_rfl) (by kernel_rfl) (by kernel_rfl) (fun _ _ _ h => h) (Or.inl ⟨by rfl, ?_⟩) (by assumption) ?_
                  rotate_left
                  · intro w hSw
                    (try dsimp only at hSw)
                    go_simp
                    all_goals with_reducible rfl
                  try simp only [Act.put, List.getElem_toArray, List.getElem_cons_succ, List.getElem_cons_zero, List.setIfInBounds_toArray, List.set_cons_zero, List.set_cons_succ]
                  have hst := storeM (gT_ok HI.out ((j : Int) + 1)) HNb.out zeroM_size
                  refine wpAnyH_ready (rs := [15]) (by kernel_rfl) (by simp) ?_
                  refine AllReadyH.cons rfl (fun K hK => ?_) AllReadyH.nil
                  go_simp
                  have hne := Blk.ne_ HNb.out HRb.out (by decide)
                  have HRb := Lib.hid (HRb.out.setRow_mf (gT m x ((j : Int) + 1)).cells.toArray (Ne.symm hne))
                  have HX := Lib.hid (HX.out.putW _ (gT m x ((j : Int) + 1)).cells.toArray HNL.out)
                  have HNb := Lib.hid (HNb.out.setRow_m (gT m x ((j : Int) + 1)).cells.toArray)
                  clear hst
                  refine hK.out _ _ ?_ (fun hHeld => ?_)
                  · (try dsimp only)
                    exact HS3.out _ HX.out
                  clear hK K
                  try simp only [Act.put, List.getElem_toArray, List.getElem_cons_succ, List.getElem_cons_zero, List.setIfInBounds_toArray, List.set_cons_zero, List.set_cons_succ]
                  have hst := run_sstR 0 0 0 HRb.out rfl
                  refine wpAnyH_ready (rs := [16]) (by kernel_rfl) (by simp) ?_
                  refine AllReadyH.cons rfl (fun K hK => ?_) AllReadyH.nil
                  go_simp
                  have HNb := Lib.hid (HNb.out.setRow_mf #[.int .i64 0, .int .i64 0, .int .i64 0] hne)
                  have HX := Lib.hid (HX.out.putW _ #[.int .i64 0, .int .i64 0, .int .i64 0] HRL.out)
                  have HRb := Lib.hid (HRb.out.setRow_m #[.int .i64 0, .int .i64 0, .int .i64 0])
                  clear hst
                  refine hK.out _ _ ?_ (fun hHeld => ?_)
                  · (try dsimp only)
                    exact HS3.out _ HX.out
                  clear hK K
                  try simp only [Act.put, List.getElem_toArray, List.getElem_cons_succ, List.getElem_cons_zero, List.setIfInBounds_toArray, List.set_cons_zero, List.set_cons_succ]
                  refine wpAnyH_done (by kernel_rfl) ?_ _
                  try simp only [Act.put, List.getElem_toArray, List.getElem_cons_succ, List.getElem_cons_zero, List.setIfInBounds_toArray, List.set_cons_zero, List.set_cons_succ]
                  go_wp2_with fail
                  go_meet
                  exact ⟨_, _, rfl, rfl, HX.out, HNb.out, HRb.out⟩
                exact AllReadyH.nil
              exact AllReadyH.nil
            refine AllReadyH.cons rfl (fun K hK => ?_) ?_
            · go_simp
              have HRL := Lib.hid HX.out.away
              have HRb := Lib.hid (BlkNewAt HX.out 36 #[.int .i64 0, .int .i64 0, .int .i64 0])
              have HX := Lib.hid (HX.out.alloc (.cells #[.int .i64 0, .int .i64 0, .int .i64 0] 36)); have HNb := Lib.hid (HNb.out.alloc (.cells #[.int .i64 0, .int .i64 0, .int .i64 0] 36))
              generalize World.alloc _ (.cells #[.int .i64 0, .int .i64 0, .int .i64 0] 36) = Wb at HX HRb HNb ⊢
              refine hK.out _ _ ?_ (fun hHeld => ?_)
              · (try dsimp only)
                exact HS3.out _ HX.out
              clear hK K
              try simp only [Act.put, List.getElem_toArray, List.getElem_cons_succ, List.getElem_cons_zero, List.setIfInBounds_toArray, List.set_cons_zero, List.set_cons_succ]
              refine wpAnyH_ready (rs := [6]) (by kernel_rfl) (by simp) ?_
              refine AllReadyH.cons rfl (fun K hK => ?_) ?_
              · go_simp
                have HRs := Lib.hid (HRS0.out _ HX.out)
                have HX := Lib.hid (HX.out.alloc (.cells ZL 5)); have HNb := Lib.hid (HNb.out.alloc (.cells ZL 5)); have HRb := Lib.hid (HRb.out.alloc (.cells ZL 5))
                generalize World.alloc _ (.cells ZL 5) = Ws at HX HRs HNb HRb ⊢
                refine hK.out _ _ ?_ (fun hHeld => ?_)
                · (try dsimp only)
                  exact HS3.out _ HX.out
                clear hK K
                try simp only [Act.put, List.getElem_toArray, List.getElem_cons_succ, List.getElem_cons_zero, List.setIfInBounds_toArray, List.set_cons_zero, List.set_cons_succ]
                refine wpAnyH_take (i := 7) (v := ?_) rfl (by kernel_rfl) (by kernel_rfl) (by kernel_rfl) (fun _ _ _ h => h) (Or.inl ⟨by rfl, ?_⟩) (by assumption) ?_
                rotate_left
                · intro w hSw
                  (try dsimp only at hSw)
                  go_simp
                  all_goals with_reducible rfl
                try simp only [Act.put, List.getElem_toArray, List.getElem_cons_succ, List.getElem_cons_zero, List.setIfInBounds_toArray, List.set_cons_zero, List.set_cons_succ]
                refine wpAnyH_ready (rs := [9]) (by kernel_rfl) (by simp) ?_
                refine AllReadyH.cons rfl (fun K hK => ?_) ?_
                · go_simp
                  refine (HDO.out _ _ HRs.out).mono ?_; rintro e w' ⟨rfl, hb⟩; have HX := Lib.hid (HX.out.later hb); have HNb := Lib.hid (HNb.out.below hb HNb.out.lt); have HRb := Lib.hid (HRb.out.below hb HRb.out.lt); clear hb
                  go_wp2_with fail
                  refine hK.out _ _ ?_ (fun hHeld => ?_)
                  · (try dsimp only)
                    exact HS3.out _ HX.out
                  clear hK K
                  try simp only [Act.put, List.getElem_toArray, List.getElem_cons_succ, List.getElem_cons_zero, List.setIfInBounds_toArray, List.set_cons_zero, List.set_cons_succ]
                  refine wpAnyH_take (i := 10) (v := ?_) rfl (by kernel_rfl) (by kernel_rfl) (by kernel_rfl) (fun _ _ _ h => h) (Or.inl ⟨by rfl, ?_⟩) (by assumption) ?_
                  rotate_left
                  · intro w hSw
                    (try dsimp only at hSw)
                    go_simp
                    all_goals with_reducible rfl
                  try simp only [Act.put, List.getElem_toArray, List.getElem_cons_succ, List.getElem_cons_zero, List.setIfInBounds_toArray, List.set_cons_zero, List.set_cons_succ]
                  refine wpAnyH_take (i := 11) (v := ?_) rfl (by kernel_rfl) (by kernel_rfl) (by kernel_rfl) (fun _ _ _ h => h) (Or.inl ⟨by rfl, ?_⟩) (by assumption) ?_
                  rotate_left
                  · intro w hSw
                    (try dsimp only at hSw)
                    go_simp
                    all_goals with_reducible rfl
                  try simp only [Act.put, List.getElem_toArray, List.getElem_cons_succ, List.getElem_cons_zero, List.setIfInBounds_toArray, List.set_cons_zero, List.set_cons_succ]
                  refine wpAnyH_take (i := 12) (v := ?_) rfl (by kernel_rfl) (by kernel_rfl) (by kernel_rfl) (fun _ _ _ h => h) (Or.inl ⟨by rfl, ?_⟩) (by assumption) ?_
                  rotate_left
                  · intro w hSw
                    (try dsimp only at hSw)
                    go_simp
                    all_goals with_reducible rfl
                  try simp only [Act.put, List.getElem_toArray, List.getElem_cons_succ, List.getElem_cons_zero, List.setIfInBounds_toArray, List.set_cons_zero, List.set_cons_succ]
                  have hst := storeM (gT_ok HI.out ((j : Int) + 1)) HNb.out zeroM_size
                  refine wpAnyH_ready (rs := [15]) (by kernel_rfl) (by simp) ?_
                  refine AllReadyH.cons rfl (fun K hK => ?_) AllReadyH.nil
                  go_simp
                  have hne := Blk.ne_ HNb.out HRb.out (by decide)
                  have HRb := Lib.hid (HRb.out.setRow_mf (gT m x ((j : Int) + 1)).cells.toArray (Ne.symm hne))
                  have HX := Lib.hid (HX.out.putW _ (gT m x ((j : Int) + 1)).cells.toArray HNL.out)
                  have HNb := Lib.hid (HNb.out.setRow_m (gT m x ((j : Int) + 1)).cells.toArray)
                  clear hst
                  refine hK.out _ _ ?_ (fun hHeld => ?_)
                  · (try dsimp only)
                    exact HS3.out _ HX.out
                  clear hK K
                  try simp only [Act.put, List.getElem_toArray, List.getElem_cons_succ, List.getElem_cons_zero, List.setIfInBounds_toArray, List.set_cons_zero, List.set_cons_succ]
                  have hst := run_sstR 0 0 0 HRb.out rfl
                  refine wpAnyH_ready (rs := [16]) (by kernel_rfl) (by simp) ?_
                  refine AllReadyH.cons rfl (fun K hK => ?_) AllReadyH.nil
                  go_simp
                  have HNb := Lib.hid (HNb.out.setRow_mf #[.int .i64 0, .int .i64 0, .int .i64 0] hne)
                  have HX := Lib.hid (HX.out.putW _ #[.int .i64 0, .int .i64 0, .int .i64 0] HRL.out)
                  have HRb := Lib.hid (HRb.out.setRow_m #[.int .i64 0, .int .i64 0, .int .i64 0])
                  clear hst
                  refine hK.out _ _ ?_ (fun hHeld => ?_)
                  · (try dsimp only)
                    exact HS3.out _ HX.out
                  clear hK K
                  try simp only [Act.put, List.getElem_toArray, List.getElem_cons_succ, List.getElem_cons_zero, List.setIfInBounds_toArray, List.set_cons_zero, List.set_cons_succ]
                  refine wpAnyH_done (by kernel_rfl) ?_ _
                  try simp only [Act.put, List.getElem_toArray, List.getElem_cons_succ, List.getElem_cons_zero, List.setIfInBounds_toArray, List.set_cons_zero, List.set_cons_succ]
                  go_wp2_with fail
                  go_meet
                  exact ⟨_, _, rfl, rfl, HX.out, HNb.out, HRb.out⟩
                exact AllReadyH.nil
              exact AllReadyH.nil
            exact AllReadyH.nil
          refine AllReadyH.cons rfl (fun K hK => ?_) ?_
          · go_simp
            have HRL := Lib.hid HX.out.away
            have HRb := Lib.hid (BlkNewAt HX.out 36 #[.int .i64 0, .int .i64 0, .int .i64 0])
            have HX := Lib.hid (HX.out.alloc (.cells #[.int .i64 0, .int .i64 0, .int .i64 0] 36))
            generalize World.alloc _ (.cells #[.int .i64 0, .int .i64 0, .int .i64 0] 36) = Wb at HX HRb  ⊢
            refine hK.out _ _ ?_ (fun hHeld => ?_)
            · (try dsimp only)
              exact HS3.out _ HX.out
            clear hK K
            try simp only [Act.put, List.getElem_toArray, List.getElem_cons_succ, List.getElem_cons_zero, List.setIfInBounds_toArray, List.set_cons_zero, List.set_cons_succ]
            refine wpAnyH_ready (rs := [6, 13]) (by kernel_rfl) (by simp) ?_
            refine AllReadyH.cons rfl (fun K hK => ?_) ?_
            · go_simp
              have HRs := Lib.hid (HRS0.out _ HX.out)
              have HX := Lib.hid (HX.out.alloc (.cells ZL 5)); have HRb := Lib.hid (HRb.out.alloc (.cells ZL 5))
              generalize World.alloc _ (.cells ZL 5) = Ws at HX HRs HRb ⊢
              refine hK.out _ _ ?_ (fun hHeld => ?_)
              · (try dsimp only)
                exact HS3.out _ HX.out
              clear hK K
              try simp only [Act.put, List.getElem_toArray, List.getElem_cons_succ, List.getElem_cons_zero, List.setIfInBounds_toArray, List.set_cons_zero, List.set_cons_succ]
              refine wpAnyH_take (i := 7) (v := ?_) rfl (by kernel_rfl) (by kernel_rfl) (by kernel_rfl) (fun _ _ _ h => h) (Or.inl ⟨by rfl, ?_⟩) (by assumption) ?_
              rotate_left
              · intro w hSw
                (try dsimp only at hSw)
                go_simp
                all_goals with_reducible rfl
              try simp only [Act.put, List.getElem_toArray, List.getElem_cons_succ, List.getElem_cons_zero, List.setIfInBounds_toArray, List.set_cons_zero, List.set_cons_succ]
              refine wpAnyH_ready (rs := [9, 13]) (by kernel_rfl) (by simp) ?_
              refine AllReadyH.cons rfl (fun K hK => ?_) ?_
              · go_simp
                refine (HDO.out _ _ HRs.out).mono ?_; rintro e w' ⟨rfl, hb⟩; have HX := Lib.hid (HX.out.later hb); have HRb := Lib.hid (HRb.out.below hb HRb.out.lt); clear hb
                go_wp2_with fail
                refine hK.out _ _ ?_ (fun hHeld => ?_)
                · (try dsimp only)
                  exact HS3.out _ HX.out
                clear hK K
                try simp only [Act.put, List.getElem_toArray, List.getElem_cons_succ, List.getElem_cons_zero, List.setIfInBounds_toArray, List.set_cons_zero, List.set_cons_succ]
                refine wpAnyH_take (i := 10) (v := ?_) rfl (by kernel_rfl) (by kernel_rfl) (by kernel_rfl) (fun _ _ _ h => h) (Or.inl ⟨by rfl, ?_⟩) (by assumption) ?_
                rotate_left
                · intro w hSw
                  (try dsimp only at hSw)
                  go_simp
                  all_goals with_reducible rfl
                try simp only [Act.put, List.getElem_toArray, List.getElem_cons_succ, List.getElem_cons_zero, List.setIfInBounds_toArray, List.set_cons_zero, List.set_cons_succ]
                refine wpAnyH_take (i := 11) (v := ?_) rfl (by kernel_rfl) (by kernel_rfl) (by kernel_rfl) (fun _ _ _ h => h) (Or.inl ⟨by rfl, ?_⟩) (by assumption) ?_
                rotate_left
                · intro w hSw
                  (try dsimp only at hSw)
                  go_simp
                  all_goals with_reducible rfl
                try simp only [Act.put, List.getElem_toArray, List.getElem_cons_succ, List.getElem_cons_zero, List.setIfInBounds_toArray, List.set_cons_zero, List.set_cons_succ]
                refine wpAnyH_take (i := 12) (v := ?_) rfl (by kernel_rfl) (by kernel_rfl) (by kernel_rfl) (fun _ _ _ h => h) (Or.inl ⟨by rfl, ?_⟩) (by assumption) ?_
                rotate_left
                · intro w hSw
                  (try dsimp only at hSw)
                  go_simp
                  all_goals with_reducible rfl
                try simp only [Act.put, List.getElem_toArray, List.getElem_cons_succ, List.getElem_cons_zero, List.setIfInBounds_toArray, List.set_cons_zero, List.set_cons_succ]
                refine wpAnyH_ready (rs := [13]) (by kernel_rfl) (by simp) ?_
                refine AllReadyH.cons rfl (fun K hK => ?_) ?_
                · go_simp
                  have HNL := Lib.hid HX.out.away
                  have HNb := Lib.hid (BlkNewAt HX.out 27 Tryd.zeroCells27)
                  have HX := Lib.hid (HX.out.alloc (.cells Tryd.zeroCells27 27)); have HRs := Lib.hid (HRs.out.alloc (.cells Tryd.zeroCells27 27)); have HRb := Lib.hid (HRb.out.alloc (.cells Tryd.zeroCells27 27))
                  generalize World.alloc _ (.cells Tryd.zeroCells27 27) = Wa at HX HNb HRs HRb ⊢
                  refine hK.out _ _ ?_ (fun hHeld => ?_)
                  · (try dsimp only)
                    exact HS3.out _ HX.out
                  clear hK K
                  try simp only [Act.put, List.getElem_toArray, List.getElem_cons_succ, List.getElem_cons_zero, List.setIfInBounds_toArray, List.set_cons_zero, List.set_cons_succ]
                  have hst := storeM (gT_ok HI.out ((j : Int) + 1)) HNb.out zeroM_size
                  refine wpAnyH_ready (rs := [15]) (by kernel_rfl) (by simp) ?_
                  refine AllReadyH.cons rfl (fun K hK => ?_) AllReadyH.nil
                  go_simp
                  have hne := Blk.ne_ HNb.out HRb.out (by decide)
                  have HRb := Lib.hid (HRb.out.setRow_mf (gT m x ((j : Int) + 1)).cells.toArray (Ne.symm hne))
                  have HX := Lib.hid (HX.out.putW _ (gT m x ((j : Int) + 1)).cells.toArray HNL.out)
                  have HNb := Lib.hid (HNb.out.setRow_m (gT m x ((j : Int) + 1)).cells.toArray)
                  clear hst
                  refine hK.out _ _ ?_ (fun hHeld => ?_)
                  · (try dsimp only)
                    exact HS3.out _ HX.out
                  clear hK K
                  try simp only [Act.put, List.getElem_toArray, List.getElem_cons_succ, List.getElem_cons_zero, List.setIfInBounds_toArray, List.set_cons_zero, List.set_cons_succ]
                  have hst := run_sstR 0 0 0 HRb.out rfl
                  refine wpAnyH_ready (rs := [16]) (by kernel_rfl) (by simp) ?_
                  refine AllReadyH.cons rfl (fun K hK => ?_) AllReadyH.nil
                  go_simp
                  have HNb := Lib.hid (HNb.out.setRow_mf #[.int .i64 0, .int .i64 0, .int .i64 0] hne)
                  have HX := Lib.hid (HX.out.putW _ #[.int .i64 0, .int .i64 0, .int .i64 0] HRL.out)
                  have HRb := Lib.hid (HRb.out.setRow_m #[.int .i64 0, .int .i64 0, .int .i64 0])
                  clear hst
                  refine hK.out _ _ ?_ (fun hHeld => ?_)
                  · (try dsimp only)
                    exact HS3.out _ HX.out
                  clear hK K
                  try simp only [Act.put, List.getElem_toArray, List.getElem_cons_succ, List.getElem_cons_zero, List.setIfInBounds_toArray, List.set_cons_zero, List.set_cons_succ]
                  refine wpAnyH_done (by kernel_rfl) ?_ _
                  try simp only [Act.put, List.getElem_toArray, List.getElem_cons_succ, List.getElem_cons_zero, List.setIfInBounds_toArray, List.set_cons_zero, List.set_cons_succ]
                  go_wp2_with fail
                  go_meet
                  exact ⟨_, _, rfl, rfl, HX.out, HNb.out, HRb.out⟩
                exact AllReadyH.nil
              refine AllReadyH.cons rfl (fun K hK => ?_) ?_
              · go_simp
                have HNL := Lib.hid HX.out.away
                have HNb := Lib.hid (BlkNewAt HX.out 27 Tryd.zeroCells27)
                have HX := Lib.hid (HX.out.alloc (.cells Tryd.zeroCells27 27)); have HRs := Lib.hid (HRs.out.alloc (.cells Tryd.zeroCells27 27)); have HRb := Lib.hid (HRb.out.alloc (.cells Tryd.zeroCells27 27))
                generalize World.alloc _ (.cells Tryd.zeroCells27 27) = Wa at HX HNb HRs HRb ⊢
                refine hK.out _ _ ?_ (fun hHeld => ?_)
                · (try dsimp only)
                  exact HS3.out _ HX.out
                clear hK K
                try simp only [Act.put, List.getElem_toArray, List.getElem_cons_succ, List.getElem_cons_zero, List.setIfInBounds_toArray, List.set_cons_zero, List.set_cons_succ]
                refine wpAnyH_ready (rs := [9]) (by kernel_rfl) (by simp) ?_
                refine AllReadyH.cons rfl (fun K hK => ?_) ?_
                · go_simp
                  refine (HDO.out _ _ HRs.out).mono ?_; rintro e w' ⟨rfl, hb⟩; have HX := Lib.hid (HX.out.later hb); have HNb := Lib.hid (HNb.out.below hb HNb.out.lt); have HRb := Lib.hid (HRb.out.below hb HRb.out.lt); clear hb
                  go_wp2_with fail
                  refine hK.out _ _ ?_ (fun hHeld => ?_)
                  · (try dsimp only)
                    exact HS3.out _ HX.out
                  clear hK K
                  try simp only [Act.put, List.getElem_toArray, List.getElem_cons_succ, List.getElem_cons_zero, List.setIfInBounds_toArray, List.set_cons_zero, List.set_cons_succ]
                  refine wpAnyH_take (i := 10) (v := ?_) rfl (by kernel_rfl) (by kernel_rfl) (by kernel_rfl) (fun _ _ _ h => h) (Or.inl ⟨by rfl, ?_⟩) (by assumption) ?_
                  rotate_left
                  · intro w hSw
                    (try dsimp only at hSw)
                    go_simp
                    all_goals with_reducible rfl
                  try simp only [Act.put, List.getElem_toArray, List.getElem_cons_succ, List.getElem_cons_zero, List.setIfInBounds_toArray, List.set_cons_zero, List.set_cons_succ]
                  refine wpAnyH_take (i := 11) (v := ?_) rfl (by kernel_rfl) (by kernel_rfl) (by kernel_rfl) (fun _ _ _ h => h) (Or.inl ⟨by rfl, ?_⟩) (by assumption) ?_
                  rotate_left
                  · intro w hSw
                    (try dsimp only at hSw)
                    go_simp
                    all_goals with_reducible rfl
                  try simp only [Act.put, List.getElem_toArray, List.getElem_cons_succ, List.getElem_cons_zero, List.setIfInBounds_toArray, List.set_cons_zero, List.set_cons_succ]
                  refine wpAnyH_take (i := 12) (v := ?_) rfl (by kernel_rfl) (by kernel_rfl) (by kernel_rfl) (fun _ _ _ h => h) (Or.inl ⟨by rfl, ?_⟩) (by assumption) ?_
                  rotate_left
                  · intro w hSw
                    (try dsimp only at hSw)
                    go_simp
                    all_goals with_reducible rfl
                  try simp only [Act.put, List.getElem_toArray, List.getElem_cons_succ, List.getElem_cons_zero, List.setIfInBounds_toArray, List.set_cons_zero, List.set_cons_succ]
                  have hst := storeM (gT_ok HI.out ((j : Int) + 1)) HNb.out zeroM_size
                  refine wpAnyH_ready (rs := [15]) (by kernel_rfl) (by simp) ?_
                  refine AllReadyH.cons rfl (fun K hK => ?_) AllReadyH.nil
                  go_simp
                  have hne := Blk.ne_ HNb.out HRb.out (by decide)
                  have HRb := Lib.hid (HRb.out.setRow_mf (gT m x ((j : Int) + 1)).cells.toArray (Ne.symm hne))
                  have HX := Lib.hid (HX.out.putW _ (gT m x ((j : Int) + 1)).cells.toArray HNL.out)
                  have HNb := Lib.hid (HNb.out.setRow_m (gT m x ((j : Int) + 1)).cells.toArray)
                  clear hst
                  refine hK.out _ _ ?_ (fun hHeld => ?_)
                  · (try dsimp only)
                    exact HS3.out _ HX.out
                  clear hK K
                  try simp only [Act.put, List.getElem_toArray, List.getElem_cons_succ, List.getElem_cons_zero, List.setIfInBounds_toArray, List.set_cons_zero, List.set_cons_succ]
                  have hst := run_sstR 0 0 0 HRb.out rfl
                  refine wpAnyH_ready (rs := [16]) (by kernel_rfl) (by simp) ?_
                  refine AllReadyH.cons rfl (fun K hK => ?_) AllReadyH.nil
                  go_simp
                  have HNb := Lib.hid (HNb.out.setRow_mf #[.int .i64 0, .int .i64 0, .int .i64 0] hne)
                  have HX := Lib.hid (HX.out.putW _ #[.int .i64 0, .int .i64 0, .int .i64 0] HRL.out)
                  have HRb := Lib.hid (HRb.out.setRow_m #[.int .i64 0, .int .i64 0, .int .i64 0])
                  clear hst
                  refine hK.out _ _ ?_ (fun hHeld => ?_)
                  · (try dsimp only)
                    exact HS3.out _ HX.out
                  clear hK K
                  try simp only [Act.put, List.getElem_toArray, List.getElem_cons_succ, List.getElem_cons_zero, List.setIfInBounds_toArray, List.set_cons_zero, List.set_cons_succ]
                  refine wpAnyH_done (by kernel_rfl) ?_ _
                  try simp only [Act.put, List.getElem_toArray, List.getElem_cons_succ, List.getElem_cons_zero, List.setIfInBounds_toArray, List.set_cons_zero, List.set_cons_succ]
                  go_wp2_with fail
                  go_meet
                  exact ⟨_, _, rfl, rfl, HX.out, HNb.out, HRb.out⟩
                exact AllReadyH.nil
              exact AllReadyH.nil
            refine AllReadyH.cons rfl (fun K hK => ?_) ?_
            · go_simp
              have HNL := Lib.hid HX.out.away
              have HNb := Lib.hid (BlkNewAt HX.out 27 Tryd.zeroCells27)
              have HX := Lib.hid (HX.out.alloc (.cells Tryd.zeroCells27 27)); have HRb := Lib.hid (HRb.out.alloc (.cells Tryd.zeroCells27 27))
              generalize World.alloc _ (.cells Tryd.zeroCells27 27) = Wa at HX HNb HRb ⊢
              refine hK.out _ _ ?_ (fun hHeld => ?_)
              · (try dsimp only)
                exact HS3.out _ HX.out
              clear hK K
              try simp only [Act.put, List.getElem_toArray, List.getElem_cons_succ, List.getElem_cons_zero, List.setIfInBounds_toArray, List.set_cons_zero, List.set_cons_succ]
              refine wpAnyH_ready (rs := [6]) (by kernel_rfl) (by simp) ?_
              refine AllReadyH.cons rfl (fun K hK => ?_) ?_
              · go_simp
                have HRs := Lib.hid (HRS0.out _ HX.out)
                have HX := Lib.hid (HX.out.alloc (.cells ZL 5)); have HNb := Lib.hid (HNb.out.alloc (.cells ZL 5)); have HRb := Lib.hid (HRb.out.alloc (.cells ZL 5))
                generalize World.alloc _ (.cells ZL 5) = Ws at HX HRs HNb HRb ⊢
                refine hK.out _ _ ?_ (fun hHeld => ?_)
                · (try dsimp only)
                  exact HS3.out _ HX.out
                clear hK K
                try simp only [Act.put, List.getElem_toArray, List.getElem_cons_succ, List.getElem_cons_zero, List.setIfInBounds_toArray, List.set_cons_zero, List.set_cons_succ]
                refine wpAnyH_take (i := 7) (v := ?_) rfl (by kernel_rfl) (by kernel_rfl) (by kernel_rfl) (fun _ _ _ h => h) (Or.inl ⟨by rfl, ?_⟩) (by assumption) ?_
                rotate_left
                · intro w hSw
                  (try dsimp only at hSw)
                  go_simp
                  all_goals with_reducible rfl
                try simp only [Act.put, List.getElem_toArray, List.getElem_cons_succ, List.getElem_cons_zero, List.setIfInBounds_toArray, List.set_cons_zero, List.set_cons_succ]
                refine wpAnyH_ready (rs := [9]) (by kernel_rfl) (by simp) ?_
                refine AllReadyH.cons rfl (fun K hK => ?_) ?_
                · go_simp
                  refine (HDO.out _ _ HRs.out).mono ?_; rintro e w' ⟨rfl, hb⟩; have HX := Lib.hid (HX.out.later hb); have HNb := Lib.hid (HNb.out.below hb HNb.out.lt); have HRb := Lib.hid (HRb.out.below hb HRb.out.lt); clear hb
                  go_wp2_with fail
                  refine hK.out _ _ ?_ (fun hHeld => ?_)
                  · (try dsimp only)
                    exact HS3.out _ HX.out
                  clear hK K
                  try simp only [Act.put, List.getElem_toArray, List.getElem_cons_succ, List.getElem_cons_zero, List.setIfInBounds_toArray, List.set_cons_zero, List.set_cons_succ]
                  refine wpAnyH_take (i := 10) (v := ?_) rfl (by kernel_rfl) (by kernel_rfl) (by kernel_rfl) (fun _ _ _ h => h) (Or.inl ⟨by rfl, ?_⟩) (by assumption) ?_
                  rotate_left
                  · intro w hSw
                    (try dsimp only at hSw)
                    go_simp
                    all_goals with_reducible rfl
                  try simp only [Act.put, List.getElem_toArray, List.getElem_cons_succ, List.getElem_cons_zero, List.setIfInBounds_toArray, List.set_cons_zero, List.set_cons_succ]
                  refine wpAnyH_take (i := 11) (v := ?_) rfl (by kernel_rfl) (by kernel_rfl) (by kernel_rfl) (fun _ _ _ h => h) (Or.inl ⟨by rfl, ?_⟩) (by assumption) ?_
                  rotate_left
                  · intro w hSw
                    (try dsimp only at hSw)
                    go_simp
                    all_goals with_reducible rfl
                  try simp only [Act.put, List.getElem_toArray, List.getElem_cons_succ, List.getElem_cons_zero, List.setIfInBounds_toArray, List.set_cons_zero, List.set_cons_succ]
                  refine wpAnyH_take (i := 12) (v := ?_) rfl (by kernel_rfl) (by kernel_rfl) (by kernel_rfl) (fun _ _ _ h => h) (Or.inl ⟨by rfl, ?_⟩) (by assumption) ?_
                  rotate_left
                  · intro w hSw
                    (try dsimp only at hSw)
                    go_simp
                    all_goals with_reducible rfl
                  try simp only [Act.put, List.getElem_toArray, List.getElem_cons_succ, List.getElem_cons_zero, List.setIfInBounds_toArray, List.set_cons_zero, List.set_cons_succ]
                  have hst := storeM (gT_ok HI.out ((j : Int) + 1)) HNb.out zeroM_size
                  refine wpAnyH_ready (rs := [15]) (by kernel_rfl) (by simp) ?_
                  refine AllReadyH.cons rfl (fun K hK => ?_) AllReadyH.nil
                  go_simp
                  have hne := Blk.ne_ HNb.out HRb.out (by decide)
                  have HRb := Lib.hid (HRb.out.setRow_mf (gT m x ((j : Int) + 1)).cells.toArray (Ne.symm hne))
                  have HX := Lib.hid (HX.out.putW _ (gT m x ((j : Int) + 1)).cells.toArray HNL.out)
                  have HNb := Lib.hid (HNb.out.setRow_m (gT m x ((j : Int) + 1)).cells.toArray)
                  clear hst
                  refine hK.out _ _ ?_ (fun hHeld => ?_)
                  · (try dsimp only)
                    exact HS3.out _ HX.out
                  clear hK K
                  try simp only [Act.put, List.getElem_toArray, List.getElem_cons_succ, List.getElem_cons_zero, List.setIfInBounds_toArray, List.set_cons_zero, List.set_cons_succ]
                  have hst := run_sstR 0 0 0 HRb.out rfl
                  refine wpAnyH_ready (rs := [16]) (by kernel_rfl) (by simp) ?_
                  refine AllReadyH.cons rfl (fun K hK => ?_) AllReadyH.nil
                  go_simp
                  have HNb := Lib.hid (HNb.out.setRow_mf #[.int .i64 0, .int .i64 0, .int .i64 0] hne)
                  have HX := Lib.hid (HX.out.putW _ #[.int .i64 0, .int .i64 0, .int .i64 0] HRL.out)
                  have HRb := Lib.hid (HRb.out.setRow_m #[.int .i64 0, .int .i64 0, .int .i64 0])
                  clear hst
                  refine hK.out _ _ ?_ (fun hHeld => ?_)
                  · (try dsimp only)
                    exact HS3.out _ HX.out
                  clear hK K
                  try simp only [Act.put, List.getElem_toArray, List.getElem_cons_succ, List.getElem_cons_zero, List.setIfInBounds_toArray, List.set_cons_zero, List.set_cons_succ]
                  refine wpAnyH_done (by kernel_rfl) ?_ _
                  try simp only [Act.put, List.getElem_toArray, List.getElem_cons_succ, List.getElem_cons_zero, List.setIfInBounds_toArray, List.set_cons_zero, List.set_cons_succ]
                  go_wp2_with fail
                  go_meet
                  exact ⟨_, _, rfl, rfl, HX.out, HNb.out, HRb.out⟩
                exact AllReadyH.nil
              exact AllReadyH.nil
            exact AllReadyH.nil
          exact AllReadyH.nil
        refine AllReadyH.cons rfl (fun K hK => ?_) ?_
        · go_simp
          have HNL := Lib.hid HX.out.away
          have HNb := Lib.hid (BlkNewAt HX.out 27 Tryd.zeroCells27)
          have HX := Lib.hid (HX.out.alloc (.cells Tryd.zeroCells27 27))
          generalize World.alloc _ (.cells Tryd.zeroCells27 27) = Wa at HX HNb  ⊢
          refine hK.out _ _ ?_ (fun hHeld => ?_)
          · (try dsimp only)
            exact HS3.out _ HX.out
          clear hK K
          try simp only [Act.put, List.getElem_toArray, List.getElem_cons_succ, List.getElem_cons_zero, List.setIfInBounds_toArray, List.set_cons_zero, List.set_cons_succ]
          refine wpAnyH_ready (rs := [5, 14]) (by kernel_rfl) (by simp) ?_
          refine AllReadyH.cons rfl (fun K hK => ?_) ?_
          · go_simp
            refine (HLN.out _).mono ?_; rintro e wl ⟨rfl, rfl⟩
            go_wp2_with fail
            refine hK.out _ _ ?_ (fun hHeld => ?_)
            · (try dsimp only)
              exact HS3.out _ HX.out
            clear hK K
            try simp only [Act.put, List.getElem_toArray, List.getElem_cons_succ, List.getElem_cons_zero, List.setIfInBounds_toArray, List.set_cons_zero, List.set_cons_succ]
            refine wpAnyH_ready (rs := [6, 14]) (by kernel_rfl) (by simp) ?_
            refine AllReadyH.cons rfl (fun K hK => ?_) ?_
            · go_simp
              have HRs := Lib.hid (HRS0.out _ HX.out)
              have HX := Lib.hid (HX.out.alloc (.cells ZL 5)); have HNb := Lib.hid (HNb.out.alloc (.cells ZL 5))
              generalize World.alloc _ (.cells ZL 5) = Ws at HX HRs HNb ⊢
              refine hK.out _ _ ?_ (fun hHeld => ?_)
              · (try dsimp only)
                exact HS3.out _ HX.out
              clear hK K
              try simp only [Act.put, List.getElem_toArray, List.getElem_cons_succ, List.getElem_cons_zero, List.setIfInBounds_toArray, List.set_cons_zero, List.set_cons_succ]
              refine wpAnyH_take (i := 7) (v := ?_) rfl (by kernel_rfl) (by kernel_rfl) (by kernel_rfl) (fun _ _ _ h => h) (Or.inl ⟨by rfl, ?_⟩) (by assumption) ?_
              rotate_left
              · intro w hSw
                (try dsimp only at hSw)
                go_simp
                all_goals with_reducible rfl
              try simp only [Act.put, List.getElem_toArray, List.getElem_cons_succ, List.getElem_cons_zero, List.setIfInBounds_toArray, List.set_cons_zero, List.set_cons_succ]
              refine wpAnyH_ready (rs := [9, 14]) (by kernel_rfl) (by simp) ?_
              refine AllReadyH.cons rfl (fun K hK => ?_) ?_
              · go_simp
                refine (HDO.out _ _ HRs.out).mono ?_; rintro e w' ⟨rfl, hb⟩; have HX := Lib.hid (HX.out.later hb); have HNb := Lib.hid (HNb.out.below hb HNb.out.lt); clear hb
                go_wp2_with fail
                refine hK.out _ _ ?_ (fun hHeld => ?_)
                · (try dsimp only)
                  exact HS3.out _ HX.out
                clear hK K
                try simp only [Act.put, List.getElem_toArray, List.getElem_cons_succ, List.getElem_cons_zero, List.setIfInBounds_toArray, List.set_cons_zero, List.set_cons_succ]
                refine wpAnyH_take (i := 10) (v := ?_) rfl (by kernel_rfl) (by kernel_rfl) (by kernel_rfl) (fun _ _ _ h => h) (Or.inl ⟨by rfl, ?_⟩) (by assumption) ?_
                rotate_left
                · intro w hSw
                  (try dsimp only at hSw)
                  go_simp
                  all_goals with_reducible rfl
                try simp only [Act.put, List.getElem_toArray, List.getElem_cons_succ, List.getElem_cons_zero, List.setIfInBounds_toArray, List.set_cons_zero, List.set_cons_succ]
                refine wpAnyH_take (i := 11) (v := ?_) rfl (by kernel_rfl) (by kernel_rfl) (by kernel_rfl) (fun _ _ _ h => h) (Or.inl ⟨by rfl, ?_⟩) (by assumption) ?_
                rotate_left
                · intro w hSw
                  (try dsimp only at hSw)
                  go_simp
                  all_goals with_reducible rfl
                try simp only [Act.put, List.getElem_toArray, List.getElem_cons_succ, List.getElem_cons_zero, List.setIfInBounds_toArray, List.set_cons_zero, List.set_cons_succ]
                refine wpAnyH_take (i := 12) (v := ?_) rfl (by kernel_rfl) (by kernel_rfl) (by kernel_rfl) (fun _ _ _ h => h) (Or.inl ⟨by rfl, ?_⟩) (by assumption) ?_
                rotate_left
                · intro w hSw
                  (try dsimp only at hSw)
                  go_simp
                  all_goals with_reducible rfl
                try simp only [Act.put, List.getElem_toArray, List.getElem_cons_succ, List.getElem_cons_zero, List.setIfInBounds_toArray, List.set_cons_zero, List.set_cons_succ]
                refine wpAnyH_ready (rs := [14]) (by kernel_rfl) (by simp) ?_
                refine AllReadyH.cons rfl (fun K hK => ?_) ?_
                · go_simp
                  have HRL := Lib.hid HX.out.away
                  have HRb := Lib.hid (BlkNewAt HX.out 36 #[.int .i64 0, .int .i64 0, .int .i64 0])
                  have HX := Lib.hid (HX.out.alloc (.cells #[.int .i64 0, .int .i64 0, .int .i64 0] 36)); have HRs := Lib.hid (HRs.out.alloc (.cells #[.int .i64 0, .int .i64 0, .int .i64 0] 36)); have HNb := Lib.hid (HNb.out.alloc (.cells #[.int .i64 0, .int .i64 0, .int .i64 0] 36))
                  generalize World.alloc _ (.cells #[.int .i64 0, .int .i64 0, .int .i64 0] 36) = Wb at HX HRb HRs HNb ⊢
                  refine hK.out _ _ ?_ (fun hHeld => ?_)
                  · (try dsimp only)
                    exact HS3.out _ HX.out
                  clear hK K
                  try simp only [Act.put, List.getElem_toArray, List.getElem_cons_succ, List.getElem_cons_zero, List.setIfInBounds_toArray, List.set_cons_zero, List.set_cons_succ]
                  have hst := storeM (gT_ok HI.out ((j : Int) + 1)) HNb.out zeroM_size
                  refine wpAnyH_ready (rs := [15]) (by kernel_rfl) (by simp) ?_
                  refine AllReadyH.cons rfl (fun K hK => ?_) AllReadyH.nil
                  go_simp
                  have hne := Blk.ne_ HNb.out HRb.out (by decide)
                  have HRb := Lib.hid (HRb.out.setRow_mf (gT m x ((j : Int) + 1)).cells.toArray (Ne.symm hne))
                  have HX := Lib.hid (HX.out.putW _ (gT m x ((j : Int) + 1)).cells.toArray HNL.out)
                  have HNb := Lib.hid (HNb.out.setRow_m (gT m x ((j : Int) + 1)).cells.toArray)
                  clear hst
                  refine hK.out _ _ ?_ (fun hHeld => ?_)
                  · (try dsimp only)
                    exact HS3.out _ HX.out
                  clear hK K
                  try simp only [Act.put, List.getElem_toArray, List.getElem_cons_succ, List.getElem_cons_zero, List.setIfInBounds_toArray, List.set_cons_zero, List.set_cons_succ]
                  have hst := run_sstR 0 0 0 HRb.out rfl
                  refine wpAnyH_ready (rs := [16]) (by kernel_rfl) (by simp) ?_
                  refine AllReadyH.cons rfl (fun K hK => ?_) AllReadyH.nil
                  go_simp
                  have HNb := Lib.hid (HNb.out.setRow_mf #[.int .i64 0, .int .i64 0, .int .i64 0] hne)
                  have HX := Lib.hid (HX.out.putW _ #[.int .i64 0, .int .i64 0, .int .i64 0] HRL.out)
                  have HRb := Lib.hid (HRb.out.setRow_m #[.int .i64 0, .int .i64 0, .int .i64 0])
                  clear hst
                  refine hK.out _ _ ?_ (fun hHeld => ?_)
                  · (try dsimp only)
                    exact HS3.out _ HX.out
                  clear hK K
                  try simp only [Act.put, List.getElem_toArray, List.getElem_cons_succ, List.getElem_cons_zero, List.setIfInBounds_toArray, List.set_cons_zero, List.set_cons_succ]
                  refine wpAnyH_done (by kernel_rfl) ?_ _
                  try simp only [Act.put, List.getElem_toArray, List.getElem_cons_succ, List.getElem_cons_zero, List.setIfInBounds_toArray, List.set_cons_zero, List.set_cons_succ]
                  go_wp2_with fail
                  go_meet
                  exact ⟨_, _, rfl, rfl, HX.out, HNb.out, HRb.out⟩
                exact AllReadyH.nil
              refine AllReadyH.cons rfl (fun K hK => ?_) ?_
              · go_simp
                have HRL := Lib.hid HX.out.away
                have HRb := Lib.hid (BlkNewAt HX.out 36 #[.int .i64 0, .int .i64 0, .int .i64 0])
                have HX := Lib.hid (HX.out.alloc (.cells #[.int .i64 0, .int .i64 0, .int .i64 0] 36)); have HRs := Lib.hid (HRs.out.alloc (.cells #[.int .i64 0, .int .i64 0, .int .i64 0] 36)); have HNb := Lib.hid (HNb.out.alloc (.cells #[.int .i64 0, .int .i64 0, .int .i64 0] 36))
                generalize World.alloc _ (.cells #[.int .i64 0, .int .i64 0, .int .i64 0] 36) = Wb at HX HRb HRs HNb ⊢
                refine hK.out _ _ ?_ (fun hHeld => ?_)
                · (try dsimp only)
                  exact HS3.out _ HX.out
                clear hK K
                try simp only [Act.put, List.getElem_toArray, List.getElem_cons_succ, List.getElem_cons_zero, List.setIfInBounds_toArray, List.set_cons_zero, List.set_cons_succ]
                refine wpAnyH_ready (rs := [9]) (by kernel_rfl) (by simp) ?_
                refine AllReadyH.cons rfl (fun K hK => ?_) ?_
                · go_simp
                  refine (HDO.out _ _ HRs.out).mono ?_; rintro e w' ⟨rfl, hb⟩; have HX := Lib.hid (HX.out.later hb); have HNb := Lib.hid (HNb.out.below hb HNb.out.lt); have HRb := Lib.hid (HRb.out.below hb HRb.out.lt); clear hb
                  go_wp2_with fail
                  refine hK.out _ _ ?_ (fun hHeld => ?_)
                  · (try dsimp only)
                    exact HS3.out _ HX.out
                  clear hK K
                  try simp only [Act.put, List.getElem_toArray, List.getElem_cons_succ, List.getElem_cons_zero, List.setIfInBounds_toArray, List.set_cons_zero, List.set_cons_succ]
                  refine wpAnyH_take (i := 10) (v := ?_) rfl (by kernel_rfl) (by kernel_rfl) (by kernel_rfl) (fun _ _ _ h => h) (Or.inl ⟨by rfl, ?_⟩) (by assumption) ?_
                  rotate_left
                  · intro w hSw
                    (try dsimp only at hSw)
                    go_simp
                    all_goals with_reducible rfl
                  try simp only [Act.put, List.getElem_toArray, List.getElem_cons_succ, List.getElem_cons_zero, List.setIfInBounds_toArray, List.set_cons_zero, List.set_cons_succ]
                  refine wpAnyH_take (i := 11) (v := ?_) rfl (by kernel_rfl) (by kernel_rfl) (by kernel_rfl) (fun _ _ _ h => h) (Or.inl ⟨by rfl, ?_⟩) (by assumption) ?_
                  rotate_left
                  · intro w hSw
                    (try dsimp only at hSw)
                    go_simp
                    all_goals with_reducible rfl
                  try simp only [Act.put, List.getElem_toArray, List.getElem_cons_succ, List.getElem_cons_zero, List.setIfInBounds_toArray, List.set_cons_zero, List.set_cons_succ]
                  refine wpAnyH_take (i := 12) (v := ?_) rfl (by kernel_rfl) (by kernel_rfl) (by kernel_rfl) (fun _ _ _ h => h) (Or.inl ⟨by rfl, ?_⟩) (by assumption) ?_
                  rotate_left
                  · intro w hSw
                    (try dsimp only at hSw)
                    go_simp
                    all_goals with_reducible rfl
                  try simp only [Act.put, List.getElem_toArray, List.getElem_cons_succ, List.getElem_cons_zero, List.setIfInBounds_toArray, List.set_cons_zero, List.set_cons_succ]
                  have hst := storeM (gT_ok HI.out ((j : Int) + 1)) HNb.out zeroM_size
                  refine wpAnyH_ready (rs := [15]) (by kernel_rfl) (by simp) ?_
                  refine AllReadyH.cons rfl (fun K hK => ?_) AllReadyH.nil
                  go_simp
                  have hne := Blk.ne_ HNb.out HRb.out (by decide)
                  have HRb := Lib.hid (HRb.out.setRow_mf (gT m x ((j : Int) + 1)).cells.toArray (Ne.symm hne))
                  have HX := Lib.hid (HX.out.putW _ (gT m x ((j : Int) + 1)).cells.toArray HNL.out)
                  have HNb := Lib.hid (HNb.out.setRow_m (gT m x ((j : Int) + 1)).cells.toArray)
                  clear hst
                  refine hK.out _ _ ?_ (fun hHeld => ?_)
                  · (try dsimp only)
                    exact HS3.out _ HX.out
                  clear hK K
                  try simp only [Act.put, List.getElem_toArray, List.getElem_cons_succ, List.getElem_cons_zero, List.setIfInBounds_toArray, List.set_cons_zero, List.set_cons_succ]
                  have hst := run_sstR 0 0 0 HRb.out rfl
                  refine wpAnyH_ready (rs := [16]) (by kernel_rfl) (by simp) ?_
                  refine AllReadyH.cons rfl (fun K hK => ?_) AllReadyH.nil
                  go_simp
                  have HNb := Lib.hid (HNb.out.setRow_mf #[.int .i64 0, .int .i64 0, .int .i64 0] hne)
                  have HX := Lib.hid (HX.out.putW _ #[.int .i64 0, .int .i64 0, .int .i64 0] HRL.out)
                  have HRb := Lib.hid (HRb.out.setRow_m #[.int .i64 0, .int .i64 0, .int .i64 0])
                  clear hst
                  refine hK.out _ _ ?_ (fun hHeld => ?_)
                  · (try dsimp only)
                    exact HS3.out _ HX.out
                  clear hK K
                  try simp only [Act.put, List.getElem_toArray, List.getElem_cons_succ, List.getElem_cons_zero, List.setIfInBounds_toArray, List.set_cons_zero, List.set_cons_succ]
                  refine wpAnyH_done (by kernel_rfl) ?_ _
                  try simp only [Act.put, List.getElem_toArray, List.getElem_cons_succ, List.getElem_cons_zero, List.setIfInBounds_toArray, List.set_cons_zero, List.set_cons_succ]
                  go_wp2_with fail
                  go_meet
                  exact ⟨_, _, rfl, rfl, HX.out, HNb.out, HRb.out⟩
                exact AllReadyH.nil
              exact AllReadyH.nil
            refine AllReadyH.cons rfl (fun K hK => ?_) ?_
            · go_simp
              have HRL := Lib.hid HX.out.away
              have HRb := Lib.hid (BlkNewAt HX.out 36 #[.int .i64 0, .int .i64 0, .int .i64 0])
              have HX := Lib.hid (HX.out.alloc (.cells #[.int .i64 0, .int .i64 0, .int .i64 0] 36)); have HNb := Lib.hid (HNb.out.alloc (.cells #[.int .i64 0, .int .i64 0, .int .i64 0] 36))
              generalize World.alloc _ (.cells #[.int .i64 0, .int .i64 0, .int .i64 0] 36) = Wb at HX HRb HNb ⊢
              refine hK.out _ _ ?_ (fun hHeld => ?_)
              · (try dsimp only)
                exact HS3.out _ HX.out
              clear hK K
              try simp only [Act.put, List.getElem_toArray, List.getElem_cons_succ, List.getElem_cons_zero, List.setIfInBounds_toArray, List.set_cons_zero, List.set_cons_succ]
              refine wpAnyH_ready (rs := [6]) (by kernel_rfl) (by simp) ?_
              refine AllReadyH.cons rfl (fun K hK => ?_) ?_
              · go_simp
                have HRs := Lib.hid (HRS0.out _ HX.out)
                have HX := Lib.hid (HX.out.alloc (.cells ZL 5)); have HNb := Lib.hid (HNb.out.alloc (.cells ZL 5)); have HRb := Lib.hid (HRb.out.alloc (.cells ZL 5))
                generalize World.alloc _ (.cells ZL 5) = Ws at HX HRs HNb HRb ⊢
                refine hK.out _ _ ?_ (fun hHeld => ?_)
                · (try dsimp only)
                  exact HS3.out _ HX.out
                clear hK K
                try simp only [Act.put, List.getElem_toArray, List.getElem_cons_succ, List.getElem_cons_zero, List.setIfInBounds_toArray, List.set_cons_zero, List.set_cons_succ]
                refine wpAnyH_take (i := 7) (v := ?_) rfl (by kernel_rfl) (by kernel_rfl) (by kernel_rfl) (fun _ _ _ h => h) (Or.inl ⟨by rfl, ?_⟩) (by assumption) ?_
                rotate_left
                · intro w hSw
                  (try dsimp only at hSw)
                  go_simp
                  all_goals with_reducible rfl
                try simp only [Act.put, List.getElem_toArray, List.getElem_cons_succ, List.getElem_cons_zero, List.setIfInBounds_toArray, List.set_cons_zero, List.set_cons_succ]
                refine wpAnyH_ready (rs := [9]) (by kernel_rfl) (by simp) ?_
                refine AllReadyH.cons rfl (fun K hK => ?_) ?_
                · go_simp
                  refine (HDO.out _ _ HRs.out).mono ?_; rintro e w' ⟨rfl, hb⟩; have HX := Lib.hid (HX.out.later hb); have HNb := Lib.hid (HNb.out.below hb HNb.out.lt); have HRb := Lib.hid (HRb.out.below hb HRb.out.lt); clear hb
                  go_wp2_with fail
                  refine hK.out _ _ ?_ (fun hHeld => ?_)
                  · (try dsimp only)
                    exact HS3.out _ HX.out
                  clear hK K
                  try simp only [Act.put, List.getElem_toArray, List.getElem_cons_succ, List.getElem_cons_zero, List.setIfInBounds_toArray, List.set_cons_zero, List.set_cons_succ]
                  refine wpAnyH_take (i := 10) (v := ?_) rfl (by kernel_rfl) (by kernel_rfl) (by kernel_rfl) (fun _ _ _ h => h) (Or.inl ⟨by rfl, ?_⟩) (by assumption) ?_
                  rotate_left
                  · intro w hSw
                    (try dsimp only at hSw)
                    go_simp
                    all_goals with_reducible rfl
                  try simp only [Act.put, List.getElem_toArray, List.getElem_cons_succ, List.getElem_cons_zero, List.setIfInBounds_toArray, List.set_cons_zero, List.set_cons_succ]
                  refine wpAnyH_take (i := 11) (v := ?_) rfl (by kernel_rfl) (by kernel_rfl) (by kernel_rfl) (fun _ _ _ h => h) (Or.inl ⟨by rfl, ?_⟩) (by assumption) ?_
                  rotate_left
                  · intro w hSw
                    (try dsimp only at hSw)
                    go_simp
                    all_goals with_reducible rfl
                  try simp only [Act.put, List.getElem_toArray, List.getElem_cons_succ, List.getElem_cons_zero, List.setIfInBounds_toArray, List.set_cons_zero, List.set_cons_succ]
                  refine wpAnyH_take (i := 12) (v := ?_) rfl (by kernel_rfl) (by kernel_rfl) (by kernel_rfl) (fun _ _ _ h => h) (Or.inl ⟨by rfl, ?_⟩) (by assumption) ?_
                  rotate_left
                  · intro w hSw
                    (try dsimp only at hSw)
                    go_simp
                    all_goals with_reducible rfl
                  try simp only [Act.put, List.getElem_toArray, List.getElem_cons_succ, List.getElem_cons_zero, List.setIfInBounds_toArray, List.set_cons_zero, List.set_cons_succ]
                  have hst := storeM (gT_ok HI.out ((j : Int) + 1)) HNb.out zeroM_size
                  refine wpAnyH_ready (rs := [15]) (by kernel_rfl) (by simp) ?_
                  refine AllReadyH.cons rfl (fun K hK => ?_) AllReadyH.nil
                  go_simp
                  have hne := Blk.ne_ HNb.out HRb.out (by decide)
                  have HRb := Lib.hid (HRb.out.setRow_mf (gT m x ((j : Int) + 1)).cells.toArray (Ne.symm hne))
                  have HX := Lib.hid (HX.out.putW _ (gT m x ((j : Int) + 1)).cells.toArray HNL.out)
                  have HNb := Lib.hid (HNb.out.setRow_m (gT m x ((j : Int) + 1)).cells.toArray)
                  clear hst
                  refine hK.out _ _ ?_ (fun hHeld => ?_)
                  · (try dsimp only)
                    exact HS3.out _ HX.out
                  clear hK K
                  try simp only [Act.put, List.getElem_toArray, List.getElem_cons_succ, List.getElem_cons_zero, List.setIfInBounds_toArray, List.set_cons_zero, List.set_cons_succ]
                  have hst := run_sstR 0 0 0 HRb.out rfl
                  refine wpAnyH_ready (rs := [16]) (by kernel_rfl) (by simp) ?_
                  refine AllReadyH.cons rfl (fun K hK => ?_) AllReadyH.nil
                  go_simp
                  have HNb := Lib.hid (HNb.out.setRow_mf #[.int .i64 0, .int .i64 0, .int .i64 0] hne)
                  have HX := Lib.hid (HX.out.putW _ #[.int .i64 0, .int .i64 0, .int .i64 0] HRL.out)
                  have HRb := Lib.hid (HRb.out.setRow_m #[.int .i64 0, .int .i64 0, .int .i64 0])
                  clear hst
                  refine hK.out _ _ ?_ (fun hHeld => ?_)
                  · (try dsimp only)
                    exact HS3.out _ HX.out
                  clear hK K
                  try simp only [Act.put, List.getElem_toArray, List.getElem_cons_succ, List.getElem_cons_zero, List.setIfInBounds_toArray, List.set_cons_zero, List.set_cons_succ]
                  refine wpAnyH_done (by kernel_rfl) ?_ _
                  try simp only [Act.put, List.getElem_toArray, List.getElem_cons_succ, List.getElem_cons_zero, List.setIfInBounds_toArray, List.set_cons_zero, List.set_cons_succ]
                  go_wp2_with fail
                  go_meet
                  exact ⟨_, _, rfl, rfl, HX.out, HNb.out, HRb.out⟩
                exact AllReadyH.nil
              exact AllReadyH.nil
            exact AllReadyH.nil
          refine AllReadyH.cons rfl (fun K hK => ?_) ?_
          · go_simp
            have HRL := Lib.hid HX.out.away
            have HRb := Lib.hid (BlkNewAt HX.out 36 #[.int .i64 0, .int .i64 0, .int .i64 0])
            have HX := Lib.hid (HX.out.alloc (.cells #[.int .i64 0, .int .i64 0, .int .i64 0] 36)); have HNb := Lib.hid (HNb.out.alloc (.cells #[.int .i64 0, .int .i64 0, .int .i64 0] 36))
            generalize World.alloc _ (.cells #[.int .i64 0, .int .i64 0, .int .i64 0] 36) = Wb at HX HRb HNb ⊢
            refine hK.out _ _ ?_ (fun hHeld => ?_)
            · (try dsimp only)
              exact HS3.out _ HX.out
            clear hK K
            try simp only [Act.put, List.getElem_toArray, List.getElem_cons_succ, List.getElem_cons_zero, List.setIfInBounds_toArray, List.set_cons_zero, List.set_cons_succ]
            refine wpAnyH_ready (rs := [5]) (by kernel_rfl) (by simp) ?_
            refine AllReadyH.cons rfl (fun K hK => ?_) ?_
            · go_simp
              refine (HLN.out _).mono ?_; rintro e wl ⟨rfl, rfl⟩
              go_wp2_with fail
              refine hK.out _ _ ?_ (fun hHeld => ?_)
              · (try dsimp only)
                exact HS3.out _ HX.out
              clear hK K
              try simp only [Act.put, List.getElem_toArray, List.getElem_cons_succ, List.getElem_cons_zero, List.setIfInBounds_toArray, List.set_cons_zero, List.set_cons_succ]
              refine wpAnyH_ready (rs := [6]) (by kernel_rfl) (by simp) ?_
              refine AllReadyH.cons rfl (fun K hK => ?_) ?_
              · go_simp
                have HRs := Lib.hid (HRS0.out _ HX.out)
                have HX := Lib.hid (HX.out.alloc (.cells ZL 5)); have HNb := Lib.hid (HNb.out.alloc (.cells ZL 5)); have HRb := Lib.hid (HRb.out.alloc (.cells ZL 5))
                generalize World.alloc _ (.cells ZL 5) = Ws at HX HRs HNb HRb ⊢
                refine hK.out _ _ ?_ (fun hHeld => ?_)
                · (try dsimp only)
                  exact HS3.out _ HX.out
                clear hK K
                try simp only [Act.put, List.getElem_toArray, List.getElem_cons_succ, List.getElem_cons_zero, List.setIfInBounds_toArray, List.set_cons_zero, List.set_cons_succ]
                refine wpAnyH_take (i := 7) (v := ?_) rfl (by kernel_rfl) (by kernel_rfl) (by kernel_rfl) (fun _ _ _ h => h) (Or.inl ⟨by rfl, ?_⟩) (by assumption) ?_
                rotate_left
                · intro w hSw
                  (try dsimp only at hSw)
                  go_simp
                  all_goals with_reducible rfl
                try simp only [Act.put, List.getElem_toArray, List.getElem_cons_succ, List.getElem_cons_zero, List.setIfInBounds_toArray, List.set_cons_zero, List.set_cons_succ]
                refine wpAnyH_ready (rs := [9]) (by kernel_rfl) (by simp) ?_
                refine AllReadyH.cons rfl (fun K hK => ?_) ?_
                · go_simp
                  refine (HDO.out _ _ HRs.out).mono ?_; rintro e w' ⟨rfl, hb⟩; have HX := Lib.hid (HX.out.later hb); have HNb := Lib.hid (HNb.out.below hb HNb.out.lt); have HRb := Lib.hid (HRb.out.below hb HRb.out.lt); clear hb
                  go_wp2_with fail
                  refine hK.out _ _ ?_ (fun hHeld => ?_)
                  · (try dsimp only)
                    exact HS3.out _ HX.out
                  clear hK K
                  try simp only [Act.put, List.getElem_toArray, List.getElem_cons_succ, List.getElem_cons_zero, List.setIfInBounds_toArray, List.set_cons_zero, List.set_cons_succ]
                  refine wpAnyH_take (i := 10) (v := ?_) rfl (by kernel_rfl) (by kernel_rfl) (by kernel_rfl) (fun _ _ _ h => h) (Or.inl ⟨by rfl, ?_⟩) (by assumption) ?_
                  rotate_left
                  · intro w hSw
                    (try dsimp only at hSw)
                    go_simp
                    all_goals with_reducible rfl
                  try simp only [Act.put, List.getElem_toArray, List.getElem_cons_succ, List.getElem_cons_zero, List.setIfInBounds_toArray, List.set_cons_zero, List.set_cons_succ]
                  refine wpAnyH_take (i := 11) (v := ?_) rfl (by kernel_rfl) (by kernel_rfl) (by kernel_rfl) (fun _ _ _ h => h) (Or.inl ⟨by rfl, ?_⟩) (by assumption) ?_
                  rotate_left
                  · intro w hSw
                    (try dsimp only at hSw)
                    go_simp
                    all_goals with_reducible rfl
                  try simp only [Act.put, List.getElem_toArray, List.getElem_cons_succ, List.getElem_cons_zero, List.setIfInBounds_toArray, List.set_cons_zero, List.set_cons_succ]
                  refine wpAnyH_take (i := 12) (v := ?_) rfl (by kernel_rfl) (by kernel_rfl) (by kernel_rfl) (fun _ _ _ h => h) (Or.inl ⟨by rfl, ?_⟩) (by assumption) ?_
                  rotate_left
                  · intro w hSw
                    (try dsimp only at hSw)
                    go_simp
                    all_goals with_reducible rfl
                  try simp only [Act.put, List.getElem_toArray, List.getElem_cons_succ, List.getElem_cons_zero, List.setIfInBounds_toArray, List.set_cons_zero, List.set_cons_succ]
                  have hst := storeM (gT_ok HI.out ((j : Int) + 1)) HNb.out zeroM_size
                  refine wpAnyH_ready (rs := [15]) (by kernel_rfl) (by simp) ?_
                  refine AllReadyH.cons rfl (fun K hK => ?_) AllReadyH.nil
                  go_simp
                  have hne := Blk.ne_ HNb.out HRb.out (by decide)
                  have HRb := Lib.hid (HRb.out.setRow_mf (gT m x ((j : Int) + 1)).cells.toArray (Ne.symm hne))
                  have HX := Lib.hid (HX.out.putW _ (gT m x ((j : Int) + 1)).cells.toArray HNL.out)
                  have HNb := Lib.hid (HNb.out.setRow_m (gT m x ((j : Int) + 1)).cells.toArray)
                  clear hst
                  refine hK.out _ _ ?_ (fun hHeld => ?_)
                  · (try dsimp only)
                    exact HS3.out _ HX.out
                  clear hK K
                  try simp only [Act.put, List.getElem_toArray, List.getElem_cons_succ, List.getElem_cons_zero, List.setIfInBounds_toArray, List.set_cons_zero, List.set_cons_succ]
                  have hst := run_sstR 0 0 0 HRb.out rfl
                  refine wpAnyH_ready (rs := [16]) (by kernel_rfl) (by simp) ?_
                  refine AllReadyH.cons rfl (fun K hK => ?_) AllReadyH.nil
                  go_simp
                  have HNb := Lib.hid (HNb.out.setRow_mf #[.int .i64 0, .int .i64 0, .int .i64 0] hne)
                  have HX := Lib.hid (HX.out.putW _ #[.int .i64 0, .int .i64 0, .int .i64 0] HRL.out)
                  have HRb := Lib.hid (HRb.out.setRow_m #[.int .i64 0, .int .i64 0, .int .i64 0])
                  clear hst
                  refine hK.out _ _ ?_ (fun hHeld => ?_)
                  · (try dsimp only)
                    exact HS3.out _ HX.out
                  clear hK K
                  try simp only [Act.put, List.getElem_toArray, List.getElem_cons_succ, List.getElem_cons_zero, List.setIfInBounds_toArray, List.set_cons_zero, List.set_cons_succ]
                  refine wpAnyH_done (by kernel_rfl) ?_ _
                  try simp only [Act.put, List.getElem_toArray, List.getElem_cons_succ, List.getElem_cons_zero, List.setIfInBounds_toArray, List.set_cons_zero, List.set_cons_succ]
                  go_wp2_with fail
                  go_meet
                  exact ⟨_, _, rfl, rfl, HX.out, HNb.out, HRb.out⟩
                exact AllReadyH.nil
              exact AllReadyH.nil
            exact AllReadyH.nil
          exact AllReadyH.nil
        refine AllReadyH.cons rfl (fun K hK => ?_) ?_
        · go_simp
          have HRL := Lib.hid HX.out.away
          have HRb := Lib.hid (BlkNewAt HX.out 36 #[.int .i64 0, .int .i64 0, .int .i64 0])
          have HX := Lib.hid (HX.out.alloc (.cells #[.int .i64 0, .int .i64 0, .int .i64 0] 36))
          generalize World.alloc _ (.cells #[.int .i64 0, .int .i64 0, .int .i64 0] 36) = Wb at HX HRb  ⊢
          refine hK.out _ _ ?_ (fun hHeld => ?_)
          · (try dsimp only)
            exact HS3.out _ HX.out
          clear hK K
          try simp only [Act.put, List.getElem_toArray, List.getElem_cons_succ, List.getElem_cons_zero, List.setIfInBounds_toArray, List.set_cons_zero, List.set_cons_succ]
          refine wpAnyH_ready (rs := [5, 13]) (by kernel_rfl) (by simp) ?_
          refine AllReadyH.cons rfl (fun K hK => ?_) ?_
          · go_simp
            refine (HLN.out _).mono ?_; rintro e wl ⟨rfl, rfl⟩
            go_wp2_with fail
            refine hK.out _ _ ?_ (fun hHeld => ?_)
            · (try dsimp only)
              exact HS3.out _ HX.out
            clear hK K
            try simp only [Act.put, List.getElem_toArray, List.getElem_cons_succ, List.getElem_cons_zero, List.setIfInBounds_toArray, List.set_cons_zero, List.set_cons_succ]
            refine wpAnyH_ready (rs := [6, 13]) (by kernel_rfl) (by simp) ?_
            refine AllReadyH.cons rfl (fun K hK => ?_) ?_
            · go_simp
              have HRs := Lib.hid (HRS0.out _ HX.out)
              have HX := Lib.hid (HX.out.alloc (.cells ZL 5)); have HRb := Lib.hid (HRb.out.alloc (.cells ZL 5))
              generalize World.alloc _ (.cells ZL 5) = Ws at HX HRs HRb ⊢
              refine hK.out _ _ ?_ (fun hHeld => ?_)
              · (try dsimp only)
                exact HS3.out _ HX.out
              clear hK K
              try simp only [Act.put, List.getElem_toArray, List.getElem_cons_succ, List.getElem_cons_zero, List.setIfInBounds_toArray, List.set_cons_zero, List.set_cons_succ]
              refine wpAnyH_take (i := 7) (v := ?_) rfl (by kernel_rfl) (by kernel_rfl) (by kernel_rfl) (fun _ _ _ h => h) (Or.inl ⟨by rfl, ?_⟩) (by assumption) ?_
              rotate_left
              · intro w hSw
                (try dsimp only at hSw)
                go_simp
                all_goals with_reducible rfl
              try simp only [Act.put, List.getElem_toArray, List.getElem_cons_succ, List.getElem_cons_zero, List.setIfInBounds_toArray, List.set_cons_zero, List.set_cons_succ]
              refine wpAnyH_ready (rs := [9, 13]) (by kernel_rfl) (by simp) ?_
              refine AllReadyH.cons rfl (fun K hK => ?_) ?_
              · go_simp
                refine (HDO.out _ _ HRs.out).mono ?_; rintro e w' ⟨rfl, hb⟩; have HX := Lib.hid (HX.out.later hb); have HRb := Lib.hid (HRb.out.below hb HRb.out.lt); clear hb
                go_wp2_with fail
                refine hK.out _ _ ?_ (fun hHeld => ?_)
                · (try dsimp only)
                  exact HS3.out _ HX.out
                clear hK K
                try simp only [Act.put, List.getElem_toArray, List.getElem_cons_succ, List.getElem_cons_zero, List.setIfInBounds_toArray, List.set_cons_zero, List.set_cons_succ]
                refine wpAnyH_take (i := 10) (v := ?_) rfl (by kernel_rfl) (by kernel_rfl) (by kernel_rfl) (fun _ _ _ h => h) (Or.inl ⟨by rfl, ?_⟩) (by assumption) ?_
                rotate_left
                · intro w hSw
                  (try dsimp only at hSw)
                  go_simp
                  all_goals with_reducible rfl
                try simp only [Act.put, List.getElem_toArray, List.getElem_cons_succ, List.getElem_cons_zero, List.setIfInBounds_toArray, List.set_cons_zero, List.set_cons_succ]
                refine wpAnyH_take (i := 11) (v := ?_) rfl (by kernel_rfl) (by kernel_rfl) (by kernel_rfl) (fun _ _ _ h => h) (Or.inl ⟨by rfl, ?_⟩) (by assumption) ?_
                rotate_left
                · intro w hSw
                  (try dsimp only at hSw)
                  go_simp
                  all_goals with_reducible rfl
                try simp only [Act.put, List.getElem_toArray, List.getElem_cons_succ, List.getElem_cons_zero, List.setIfInBounds_toArray, List.set_cons_zero, List.set_cons_succ]
                refine wpAnyH_take (i := 12) (v := ?_) rfl (by kernel_rfl) (by kernel_rfl) (by kernel_rfl) (fun _ _ _ h => h) (Or.inl ⟨by rfl, ?_⟩) (by assumption) ?_
                rotate_left
                · intro w hSw
                  (try dsimp only at hSw)
                  go_simp
                  all_goals with_reducible rfl
                try simp only [Act.put, List.getElem_toArray, List.getElem_cons_succ, List.getElem_cons_zero, List.setIfInBounds_toArray, List.set_cons_zero, List.set_cons_succ]
                refine wpAnyH_ready (rs := [13]) (by kernel_rfl) (by simp) ?_
                refine AllReadyH.cons rfl (fun K hK => ?_) ?_
                · go_simp
                  have HNL := Lib.hid HX.out.away
                  have HNb := Lib.hid (BlkNewAt HX.out 27 Tryd.zeroCells27)
                  have HX := Lib.hid (HX.out.alloc (.cells Tryd.zeroCells27 27)); have HRs := Lib.hid (HRs.out.alloc (.cells Tryd.zeroCells27 27)); have HRb := Lib.hid (HRb.out.alloc (.cells Tryd.zeroCells27 27))
                  generalize World.alloc _ (.cells Tryd.zeroCells27 27) = Wa at HX HNb HRs HRb ⊢
                  refine hK.out _ _ ?_ (fun hHeld => ?_)
                  · (try dsimp only)
                    exact HS3.out _ HX.out
                  clear hK K
                  try simp only [Act.put, List.getElem_toArray, List.getElem_cons_succ, List.getElem_cons_zero, List.setIfInBounds_toArray, List.set_cons_zero, List.set_cons_succ]
                  have hst := storeM (gT_ok HI.out ((j : Int) + 1)) HNb.out zeroM_size
                  refine wpAnyH_ready (rs := [15]) (by kernel_rfl) (by simp) ?_
                  refine AllReadyH.cons rfl (fun K hK => ?_) AllReadyH.nil
                  go_simp
                  have hne := Blk.ne_ HNb.out HRb.out (by decide)
                  have HRb := Lib.hid (HRb.out.setRow_mf (gT m x ((j : Int) + 1)).cells.toArray (Ne.symm hne))
                  have HX := Lib.hid (HX.out.putW _ (gT m x ((j : Int) + 1)).cells.toArray HNL.out)
                  have HNb := Lib.hid (HNb.out.setRow_m (gT m x ((j : Int) + 1)).cells.toArray)
                  clear hst
                  refine hK.out _ _ ?_ (fun hHeld => ?_)
                  · (try dsimp only)
                    exact HS3.out _ HX.out
                  clear hK K
                  try simp only [Act.put, List.getElem_toArray, List.getElem_cons_succ, List.getElem_cons_zero, List.setIfInBounds_toArray, List.set_cons_zero, List.set_cons_succ]
                  have hst := run_sstR 0 0 0 HRb.out rfl
                  refine wpAnyH_ready (rs := [16]) (by kernel_rfl) (by simp) ?_
                  refine AllReadyH.cons rfl (fun K hK => ?_) AllReadyH.nil
                  go_simp
                  have HNb := Lib.hid (HNb.out.setRow_mf #[.int .i64 0, .int .i64 0, .int .i64 0] hne)
                  have HX := Lib.hid (HX.out.putW _ #[.int .i64 0, .int .i64 0, .int .i64 0] HRL.out)
                  have HRb := Lib.hid (HRb.out.setRow_m #[.int .i64 0, .int .i64 0, .int .i64 0])
                  clear hst
                  refine hK.out _ _ ?_ (fun hHeld => ?_)
                  · (try dsimp only)
                    exact HS3.out _ HX.out
                  clear hK K
                  try simp only [Act.put, List.getElem_toArray, List.getElem_cons_succ, List.getElem_cons_zero, List.setIfInBounds_toArray, List.set_cons_zero, List.set_cons_succ]
                  refine wpAnyH_done (by kernel_rfl) ?_ _
                  try simp only [Act.put, List.getElem_toArray, List.getElem_cons_succ, List.getElem_cons_zero, List.setIfInBounds_toArray, List.set_cons_zero, List.set_cons_succ]
                  go_wp2_with fail
                  go_meet
                  exact ⟨_, _, rfl, rfl, HX.out, HNb.out, HRb.out⟩
                exact AllReadyH.nil
              refine AllReadyH.cons rfl (fun K hK => ?_) ?_
              · go_simp
                have HNL := Lib.hid HX.out.away
                have HNb := Lib.hid (BlkNewAt HX.out 27 Tryd.zeroCells27)
                have HX := Lib.hid (HX.out.alloc (.cells Tryd.zeroCells27 27)); have HRs := Lib.hid (HRs.out.alloc (.cells Tryd.zeroCells27 27)); have HRb := Lib.hid (HRb.out.alloc (.cells Tryd.zeroCells27 27))
                generalize World.alloc _ (.cells Tryd.zeroCells27 27) = Wa at HX HNb HRs HRb ⊢
                refine hK.out _ _ ?_ (fun hHeld => ?_)
                · (try dsimp only)
                  exact HS3.out _ HX.out
                clear hK K
                try simp only [Act.put, List.getElem_toArray, List.getElem_cons_succ, List.getElem_cons_zero, List.setIfInBounds_toArray, List.set_cons_zero, List.set_cons_succ]
                refine wpAnyH_ready (rs := [9]) (by kernel_rfl) (by simp) ?_
                refine AllReadyH.cons rfl (fun K hK => ?_) ?_
                · go_simp
                  refine (HDO.out _ _ HRs.out).mono ?_; rintro e w' ⟨rfl, hb⟩; have HX := Lib.hid (HX.out.later hb); have HNb := Lib.hid (HNb.out.below hb HNb.out.lt); have HRb := Lib.hid (HRb.out.below hb HRb.out.lt); clear hb
                  go_wp2_with fail
                  refine hK.out _ _ ?_ (fun hHeld => ?_)
                  · (try dsimp only)
                    exact HS3.out _ HX.out
                  clear hK K
                  try simp only [Act.put, List.getElem_toArray, List.getElem_cons_succ, List.getElem_cons_zero, List.setIfInBounds_toArray, List.set_cons_zero, List.set_cons_succ]
                  refine wpAnyH_take (i := 10) (v := ?_) rfl (by kernel_rfl) (by kernel_rfl) (by kernel_rfl) (fun _ _ _ h => h) (Or.inl ⟨by rfl, ?_⟩) (by assumption) ?_
                  rotate_left
                  · intro w hSw
                    (try dsimp only at hSw)
                    go_simp
                    all_goals with_reducible rfl
                  try simp only [Act.put, List.getElem_toArray, List.getElem_cons_succ, List.getElem_cons_zero, List.setIfInBounds_toArray, List.set_cons_zero, List.set_cons_succ]
                  refine wpAnyH_take (i := 11) (v := ?_) rfl (by kernel_rfl) (by kernel_rfl) (by kernel_rfl) (fun _ _ _ h => h) (Or.inl ⟨by rfl, ?_⟩) (by assumption) ?_
                  rotate_left
                  · intro w hSw
                    (try dsimp only at hSw)
                    go_simp
                    all_goals with_reducible rfl
                  try simp only [Act.put, List.getElem_toArray, List.getElem_cons_succ, List.getElem_cons_zero, List.setIfInBounds_toArray, List.set_cons_zero, List.set_cons_succ]
                  refine wpAnyH_take (i := 12) (v := ?_) rfl (by kernel_rfl) (by kernel_rfl) (by kernel_rfl) (fun _ _ _ h => h) (Or.inl ⟨by rfl, ?_⟩) (by assumption) ?_
                  rotate_left
                  · intro w hSw
                    (try dsimp only at hSw)
                    go_simp
                    all_goals with_reducible rfl
                  try simp only [Act.put, List.getElem_toArray, List.getElem_cons_succ, List.getElem_cons_zero, List.setIfInBounds_toArray, List.set_cons_zero, List.set_cons_succ]
                  have hst := storeM (gT_ok HI.out ((j : Int) + 1)) HNb.out zeroM_size
                  refine wpAnyH_ready (rs := [15]) (by kernel_rfl) (by simp) ?_
                  refine AllReadyH.cons rfl (fun K hK => ?_) AllReadyH.nil
                  go_simp
                  have hne := Blk.ne_ HNb.out HRb.out (by decide)
                  have HRb := Lib.hid (HRb.out.setRow_mf (gT m x ((j : Int) + 1)).cells.toArray (Ne.symm hne))
                  have HX := Lib.hid (HX.out.putW _ (gT m x ((j : Int) + 1)).cells.toArray HNL.out)
                  have HNb := Lib.hid (HNb.out.setRow_m (gT m x ((j : Int) + 1)).cells.toArray)
                  clear hst
                  refine hK.out _ _ ?_ (fun hHeld => ?_)
                  · (try dsimp only)
                    exact HS3.out _ HX.out
                  clear hK K
                  try simp only [Act.put, List.getElem_toArray, List.getElem_cons_succ, List.getElem_cons_zero, List.setIfInBounds_toArray, List.set_cons_zero, List.set_cons_succ]
                  have hst := run_sstR 0 0 0 HRb.out rfl
                  refine wpAnyH_ready (rs := [16]) (by kernel_rfl) (by simp) ?_
                  refine AllReadyH.cons rfl (fun K hK => ?_) AllReadyH.nil
                  go_simp
                  have HNb := Lib.hid (HNb.out.setRow_mf #[.int .i64 0, .int .i64 0, .int .i64 0] hne)
                  have HX := Lib.hid (HX.out.putW _ #[.int .i64 0, .int .i64 0, .int .i64 0] HRL.out)
                  have HRb := Lib.hid (HRb.out.setRow_m #[.int .i64 0, .int .i64 0, .int .i64 0])
                  clear hst
                  refine hK.out _ _ ?_ (fun hHeld => ?_)
                  · (try dsimp only)
                    exact HS3.out _ HX.out
                  clear hK K
                  try simp only [Act.put, List.getElem_toArray, List.getElem_cons_succ, List.getElem_cons_zero, List.setIfInBounds_toArray, List.set_cons_zero, List.set_cons_succ]
                  refine wpAnyH_done (by kernel_rfl) ?_ _
                  try simp only [Act.put, List.getElem_toArray, List.getElem_cons_succ, List.getElem_cons_zero, List.setIfInBounds_toArray, List.set_cons_zero, List.set_cons_succ]
                  go_wp2_with fail
                  go_meet
                  exact ⟨_, _, rfl, rfl, HX.out, HNb.out, HRb.out⟩
                exact AllReadyH.nil
              exact AllReadyH.nil
            refine AllReadyH.cons rfl (fun K hK => ?_) ?_
            · go_simp
              have HNL := Lib.hid HX.out.away
              have HNb := Lib.hid (BlkNewAt HX.out 27 Tryd.zeroCells27)
              have HX := Lib.hid (HX.out.alloc (.cells Tryd.zeroCells27 27)); have HRb := Lib.hid (HRb.out.alloc (.cells Tryd.zeroCells27 27))
              generalize World.alloc _ (.cells Tryd.zeroCells27 27) = Wa at HX HNb HRb ⊢
              refine hK.out _ _ ?_ (fun hHeld => ?_)
              · (try dsimp only)
                exact HS3.out _ HX.out
              clear hK K
              try simp only [Act.put, List.getElem_toArray, List.getElem_cons_succ, List.getElem_cons_zero, List.setIfInBounds_toArray, List.set_cons_zero, List.set_cons_succ]
              refine wpAnyH_ready (rs := [6]) (by kernel_rfl) (by simp) ?_
              refine AllReadyH.cons rfl (fun K hK => ?_) ?_
              · go_simp
                have HRs := Lib.hid (HRS0.out _ HX.out)
                have HX := Lib.hid (HX.out.alloc (.cells ZL 5)); have HNb := Lib.hid (HNb.out.alloc (.cells ZL 5)); have HRb := Lib.hid (HRb.out.alloc (.cells ZL 5))
                generalize World.alloc _ (.cells ZL 5) = Ws at HX HRs HNb HRb ⊢
                refine hK.out _ _ ?_ (fun hHeld => ?_)
                · (try dsimp only)
                  exact HS3.out _ HX.out
                clear hK K
                try simp only [Act.put, List.getElem_toArray, List.getElem_cons_succ, List.getElem_cons_zero, List.setIfInBounds_toArray, List.set_cons_zero, List.set_cons_succ]
                refine wpAnyH_take (i := 7) (v := ?_) rfl (by kernel_rfl) (by kernel_rfl) (by kernel_rfl) (fun _ _ _ h => h) (Or.inl ⟨by rfl, ?_⟩) (by assumption) ?_
                rotate_left
                · intro w hSw
                  (try dsimp only at hSw)
                  go_simp
                  all_goals with_reducible rfl
                try simp only [Act.put, List.getElem_toArray, List.getElem_cons_succ, List.getElem_cons_zero, List.setIfInBounds_toArray, List.set_cons_zero, List.set_cons_succ]
                refine wpAnyH_ready (rs := [9]) (by kernel_rfl) (by simp) ?_
                refine AllReadyH.cons rfl (fun K hK => ?_) ?_
                · go_simp
                  refine (HDO.out _ _ HRs.out).mono ?_; rintro e w' ⟨rfl, hb⟩; have HX := Lib.hid (HX.out.later hb); have HNb := Lib.hid (HNb.out.below hb HNb.out.lt); have HRb := Lib.hid (HRb.out.below hb HRb.out.lt); clear hb
                  go_wp2_with fail
                  refine hK.out _ _ ?_ (fun hHeld => ?_)
                  · (try dsimp only)
                    exact HS3.out _ HX.out
                  clear hK K
                  try simp only [Act.put, List.getElem_toArray, List.getElem_cons_succ, List.getElem_cons_zero, List.setIfInBounds_toArray, List.set_cons_zero, List.set_cons_succ]
                  refine wpAnyH_take (i := 10) (v := ?_) rfl (by kernel_rfl) (by kernel_rfl) (by kernel_rfl) (fun _ _ _ h => h) (Or.inl ⟨by rfl, ?_⟩) (by assumption) ?_
                  rotate_left
                  · intro w hSw
                    (try dsimp only at hSw)
                    go_simp
                    all_goals with_reducible rfl
                  try simp only [Act.put, List.getElem_toArray, List.getElem_cons_succ, List.getElem_cons_zero, List.setIfInBounds_toArray, List.set_cons_zero, List.set_cons_succ]
                  refine wpAnyH_take (i := 11) (v := ?_) rfl (by kernel_rfl) (by kernel_rfl) (by kernel_rfl) (fun _ _ _ h => h) (Or.inl ⟨by rfl, ?_⟩) (by assumption) ?_
                  rotate_left
                  · intro w hSw
                    (try dsimp only at hSw)
                    go_simp
                    all_goals with_reducible rfl
                  try simp only [Act.put, List.getElem_toArray, List.getElem_cons_succ, List.getElem_cons_zero, List.setIfInBounds_toArray, List.set_cons_zero, List.set_cons_succ]
                  refine wpAnyH_take (i := 12) (v := ?_) rfl (by kernel_rfl) (by kernel_rfl) (by kernel_rfl) (fun _ _ _ h => h) (Or.inl ⟨by rfl, ?_⟩) (by assumption) ?_
                  rotate_left
                  · intro w hSw
                    (try dsimp only at hSw)
                    go_simp
                    all_goals with_reducible rfl
                  try simp only [Act.put, List.getElem_toArray, List.getElem_cons_succ, List.getElem_cons_zero, List.setIfInBounds_toArray, List.set_cons_zero, List.set_cons_succ]
                  have hst := storeM (gT_ok HI.out ((j : Int) + 1)) HNb.out zeroM_size
                  refine wpAnyH_ready (rs := [15]) (by kernel_rfl) (by simp) ?_
                  refine AllReadyH.cons rfl (fun K hK => ?_) AllReadyH.nil
                  go_simp
                  have hne := Blk.ne_ HNb.out HRb.out (by decide)
                  have HRb := Lib.hid (HRb.out.setRow_mf (gT m x ((j : Int) + 1)).cells.toArray (Ne.symm hne))
                  have HX := Lib.hid (HX.out.putW _ (gT m x ((j : Int) + 1)).cells.toArray HNL.out)
                  have HNb := Lib.hid (HNb.out.setRow_m (gT m x ((j : Int) + 1)).cells.toArray)
                  clear hst
                  refine hK.out _ _ ?_ (fun hHeld => ?_)
                  · (try dsimp only)
                    exact HS3.out _ HX.out
                  clear hK K
                  try simp only [Act.put, List.getElem_toArray, List.getElem_cons_succ, List.getElem_cons_zero, List.setIfInBounds_toArray, List.set_cons_zero, List.set_cons_succ]
                  have hst := run_sstR 0 0 0 HRb.out rfl
                  refine wpAnyH_ready (rs := [16]) (by kernel_rfl) (by simp) ?_
                  refine AllReadyH.cons rfl (fun K hK => ?_) AllReadyH.nil
                  go_simp
                  have HNb := Lib.hid (HNb.out.setRow_mf #[.int .i64 0, .int .i64 0, .int .i64 0] hne)
                  have HX := Lib.hid (HX.out.putW _ #[.int .i64 0, .int .i64 0, .int .i64 0] HRL.out)
                  have HRb := Lib.hid (HRb.out.setRow_m #[.int .i64 0, .int .i64 0, .int .i64 0])
                  clear hst
                  refine hK.out _ _ ?_ (fun hHeld => ?_)
                  · (try dsimp only)
                    exact HS3.out _ HX.out
                  clear hK K
                  try simp only [Act.put, List.getElem_toArray, List.getElem_cons_succ, List.getElem_cons_zero, List.setIfInBounds_toArray, List.set_cons_zero, List.set_cons_succ]
                  refine wpAnyH_done (by kernel_rfl) ?_ _
                  try simp only [Act.put, List.getElem_toArray, List.getElem_cons_succ, List.getElem_cons_zero, List.setIfInBounds_toArray, List.set_cons_zero, List.set_cons_succ]
                  go_wp2_with fail
                  go_meet
                  exact ⟨_, _, rfl, rfl, HX.out, HNb.out, HRb.out⟩
                exact AllReadyH.nil
              exact AllReadyH.nil
            exact AllReadyH.nil
          refine AllReadyH.cons rfl (fun K hK => ?_) ?_
          · go_simp
            have HNL := Lib.hid HX.out.away
            have HNb := Lib.hid (BlkNewAt HX.out 27 Tryd.zeroCells27)
            have HX := Lib.hid (HX.out.alloc (.cells Tryd.zeroCells27 27)); have HRb := Lib.hid (HRb.out.alloc (.cells Tryd.zeroCells27 27))
            generalize World.alloc _ (.cells Tryd.zeroCells27 27) = Wa at HX HNb HRb ⊢
            refine hK.out _ _ ?_ (fun hHeld => ?_)
            · (try dsimp only)
              exact HS3.out _ HX.out
            clear hK K
            try simp only [Act.put, List.getElem_toArray, List.getElem_cons_succ, List.getElem_cons_zero, List.setIfInBounds_toArray, List.set_cons_zero, List.set_cons_succ]
            refine wpAnyH_ready (rs := [5]) (by kernel_rfl) (by simp) ?_
            refine AllReadyH.cons rfl (fun K hK => ?_) ?_
            · go_simp
              refine (HLN.out _).mono ?_; rintro e wl ⟨rfl, rfl⟩
              go_wp2_with fail
              refine hK.out _ _ ?_ (fun hHeld => ?_)
              · (try dsimp only)
                exact HS3.out _ HX.out
              clear hK K
              try simp only [Act.put, List.getElem_toArray, List.getElem_cons_succ, List.getElem_cons_zero, List.setIfInBounds_toArray, List.set_cons_zero, List.set_cons_succ]
              refine wpAnyH_ready (rs := [6]) (by kernel_rfl) (by simp) ?_
              refine AllReadyH.cons rfl (fun K hK => ?_) ?_
              · go_simp
                have HRs := Lib.hid (HRS0.out _ HX.out)
                have HX := Lib.hid (HX.out.alloc (.cells ZL 5)); have HNb := Lib.hid (HNb.out.alloc (.cells ZL 5)); have HRb := Lib.hid (HRb.out.alloc (.cells ZL 5))
                generalize World.alloc _ (.cells ZL 5) = Ws at HX HRs HNb HRb ⊢
                refine hK.out _ _ ?_ (fun hHeld => ?_)
                · (try dsimp only)
                  exact HS3.out _ HX.out
                clear hK K
                try simp only [Act.put, List.getElem_toArray, List.getElem_cons_succ, List.getElem_cons_zero, List.setIfInBounds_toArray, List.set_cons_zero, List.set_cons_succ]
                refine wpAnyH_take (i := 7) (v := ?_) rfl (by kernel_rfl) (by kernel_rfl) (by kernel_rfl) (fun _ _ _ h => h) (Or.inl ⟨by rfl, ?_⟩) (by assumption) ?_
                rotate_left
                · intro w hSw
                  (try dsimp only at hSw)
                  go_simp
                  all_goals with_reducible rfl
                try simp only [Act.put, List.getElem_toArray, List.getElem_cons_succ, List.getElem_cons_zero, List.setIfInBounds_toArray, List.set_cons_zero, List.set_cons_succ]
                refine wpAnyH_ready (rs := [9]) (by kernel_rfl) (by simp) ?_
                refine AllReadyH.cons rfl (fun K hK => ?_) ?_
                · go_simp
                  refine (HDO.out _ _ HRs.out).mono ?_; rintro e w' ⟨rfl, hb⟩; have HX := Lib.hid (HX.out.later hb); have HNb := Lib.hid (HNb.out.below hb HNb.out.lt); have HRb := Lib.hid (HRb.out.below hb HRb.out.lt); clear hb
                  go_wp2_with fail
                  refine hK.out _ _ ?_ (fun hHeld => ?_)
                  · (try dsimp only)
                    exact HS3.out _ HX.out
                  clear hK K
                  try simp only [Act.put, List.getElem_toArray, List.getElem_cons_succ, List.getElem_cons_zero, List.setIfInBounds_toArray, List.set_cons_zero, List.set_cons_succ]
                  refine wpAnyH_take (i := 10) (v := ?_) rfl (by kernel_rfl) (by kernel_rfl) (by kernel_rfl) (fun _ _ _ h => h) (Or.inl ⟨by rfl, ?_⟩) (by assumption) ?_
                  rotate_left
                  · intro w hSw
                    (try dsimp only at hSw)
                    go_simp
                    all_goals with_reducible rfl
                  try simp only [Act.put, List.getElem_toArray, List.getElem_cons_succ, List.getElem_cons_zero, List.setIfInBounds_toArray, List.set_cons_zero, List.set_cons_succ]
                  refine wpAnyH_take (i := 11) (v := ?_) rfl (by kernel_rfl) (by kernel_rfl) (by kernel_rfl) (fun _ _ _ h => h) (Or.inl ⟨by rfl, ?_⟩) (by assumption) ?_
                  rotate_left
                  · intro w hSw
                    (try dsimp only at hSw)
                    go_simp
                    all_goals with_reducible rfl
                  try simp only [Act.put, List.getElem_toArray, List.getElem_cons_succ, List.getElem_cons_zero, List.setIfInBounds_toArray, List.set_cons_zero, List.set_cons_succ]
                  refine wpAnyH_take (i := 12) (v := ?_) rfl (by kernel_rfl) (by kernel_rfl) (by kernel_rfl) (fun _ _ _ h => h) (Or.inl ⟨by rfl, ?_⟩) (by assumption) ?_
                  rotate_left
                  · intro w hSw
                    (try dsimp only at hSw)
                    go_simp
                    all_goals with_reducible rfl
                  try simp only [Act.put, List.getElem_toArray, List.getElem_cons_succ, List.getElem_cons_zero, List.setIfInBounds_toArray, List.set_cons_zero, List.set_cons_succ]
                  have hst := storeM (gT_ok HI.out ((j : Int) + 1)) HNb.out zeroM_size
                  refine wpAnyH_ready (rs := [15]) (by kernel_rfl) (by simp) ?_
                  refine AllReadyH.cons rfl (fun K hK => ?_) AllReadyH.nil
                  go_simp
                  have hne := Blk.ne_ HNb.out HRb.out (by decide)
                  have HRb := Lib.hid (HRb.out.setRow_mf (gT m x ((j : Int) + 1)).cells.toArray (Ne.symm hne))
                  have HX := Lib.hid (HX.out.putW _ (gT m x ((j : Int) + 1)).cells.toArray HNL.out)
                  have HNb := Lib.hid (HNb.out.setRow_m (gT m x ((j : Int) + 1)).cells.toArray)
                  clear hst
                  refine hK.out _ _ ?_ (fun hHeld => ?_)
                  · (try dsimp only)
                    exact HS3.out _ HX.out
                  clear hK K
                  try simp only [Act.put, List.getElem_toArray, List.getElem_cons_succ, List.getElem_cons_zero, List.setIfInBounds_toArray, List.set_cons_zero, List.set_cons_succ]
                  have hst := run_sstR 0 0 0 HRb.out rfl
                  refine wpAnyH_ready (rs := [16]) (by kernel_rfl) (by simp) ?_
                  refine AllReadyH.cons rfl (fun K hK => ?_) AllReadyH.nil
                  go_simp
                  have HNb := Lib.hid (HNb.out.setRow_mf #[.int .i64 0, .int .i64 0, .int .i64 0] hne)
                  have HX := Lib.hid (HX.out.putW _ #[.int .i64 0, .int .i64 0, .int .i64 0] HRL.out)
                  have HRb := Lib.hid (HRb.out.setRow_m #[.int .i64 0, .int .i64 0, .int .i64 0])
                  clear hst
                  refine hK.out _ _ ?_ (fun hHeld => ?_)
                  · (try dsimp only)
                    exact HS3.out _ HX.out
                  clear hK K
                  try simp only [Act.put, List.getElem_toArray, List.getElem_cons_succ, List.getElem_cons_zero, List.setIfInBounds_toArray, List.set_cons_zero, List.set_cons_succ]
                  refine wpAnyH_done (by kernel_rfl) ?_ _
                  try simp only [Act.put, List.getElem_toArray, List.getElem_cons_succ, List.getElem_cons_zero, List.setIfInBounds_toArray, List.set_cons_zero, List.set_cons_succ]
                  go_wp2_with fail
                  go_meet
                  exact ⟨_, _, rfl, rfl, HX.out, HNb.out, HRb.out⟩
                exact AllReadyH.nil
              exact AllReadyH.nil
            exact AllReadyH.nil
          exact AllReadyH.nil
        exact AllReadyH.nil
      case rest =>
        obtain ⟨nb, rb2, rfl, rfl, hX9, hNb, hRb⟩ := hcut
        have hr0 : wc.cell? ⟨rb2, 0, none⟩ = some (.int .i64 0) := hRb.cell 0
        have hld := run_sldM (Mt.cells_len (gT_ok HI.out _)) hNb.whole
        have hst := storeM (gT_ok HI.out ((j : Int) + 1)) hX9.m (by rw [List.size_toArray, Mt.cells_len (gT_ok HI.out _)])
        have HX9 := Lib.hid (hX9.putM (m' := gT m x ((j : Int) + 1)))
        have hkb : IntKind.i64.wrap ((j : Int) + 1) = (j : Int) + 1 := IntWalk.i64_in _ (by omega)
        clear hX9 hNb hRb HX
        go_wp2_with fail
        go_roundw
        case rel => exact ⟨j + 1, by omega, by go_num, HX9.out⟩
        case measure => simp [intOf]; omega
    · have hjk : j = kn := by omega
      subst hjk
      have hld := run_sldM (Mt.cells_len (gT_ok HI.out _)) HX.out.m.whole
      have hlf := HLF.out _ HX.out.f
      have hg := g3 HI.out
      rw [HKN.out] at hg
      have hdo := goDo (gT m x (j : Int)) (gT_ok HI.out _) x hxd 3 0 none 0 0 [] (by decide) (gV m x) 0 0 hg wr (Reads.none_ wr)
      have HDO := Lib.hid hdo
      clear hdo hg
      go_wp2_with fail
      refine HDO.out.mono ?_
      rintro e w11 ⟨rfl, hb11⟩
      have hF := HX.out.later hb11
      have hst := storeM (gV_ok HI.out) hF.m (by rw [List.size_toArray, Mt.cells_len (gT_ok HI.out _)])
      have hF2 := hF.putM (m' := gV m x)
      have hst2 := run_sstR 0 0 0 hF2.b rfl
      have HX2 := Lib.hid (hF2.putB #[.int .i64 0, .int .i64 0, .int .i64 0])
      clear HX hF hF2 hb11 hld hlf HDO
      go_upto_region 19 with fail
      clear hst hst2
      generalize World.setRow _ _ _ = W19 at HX2 ⊢
      have hld := run_sldM (Mt.cells_len (gV_ok HI.out)) HX2.out.m.whole
      have hlf := HLF.out _ HX2.out.f
      have hokC := gB_ok HI.out 0
      have HOC := Lib.hid (show (gC m x 2).Ok from hokC)
      have hdo := goDo (gV m x) (gV_ok HI.out) x hxd 4 0 none 0 0 [] (by decide) (gC m x 2) 0 0 (g4 HI.out) W19 (Reads.none_ W19)
      have HDO := Lib.hid hdo
      clear hdo hokC
      go_wp2_with fail
      refine HDO.out.mono ?_
      rintro e w20 ⟨rfl, hb20⟩
      obtain ⟨hst, hst2, hF, hNb, hSb, _⟩ := layF (HX2.out.later hb20) (gC m x 2) HOC.out 0 0 0
      have HX := Lib.hid hF
      have HNb := Lib.hid hNb
      have HSb := Lib.hid hSb
      clear HX2 hb20 hF hNb hSb HDO hld hlf
      go_upto_region 20 with fail
      clear hst hst2
      generalize World.setRow _ _ _ = W20 at HX HNb HSb ⊢
      obtain ⟨nb, hnb⟩ : ∃ nb, w20.heap.size = nb := ⟨_, rfl⟩
      rw [hnb] at HNb HSb ⊢
      have hld := run_sldM (Mt.cells_len HOC.out) HNb.out.whole
      have hlf := HLF.out _ HX.out.f
      have hdo := goDo (gC m x 2) HOC.out x hxd 6 0 none 0 0 [] (by decide) (gC m x 2) 11 0 (g5 HI.out) W20 (Reads.none_ W20)
      have HDO := Lib.hid hdo
      clear hdo hnb
      go_wp2_with fail
      refine HDO.out.mono ?_
      rintro e w21 ⟨rfl, hb21⟩
      obtain ⟨hst, hst2, hF, hNb2, hSb2, hbel⟩ := layF (HX.out.later hb21) (gC m x 2) HOC.out 11 0 0
      have hNb := (HNb.out.below hb21 HNb.out.lt)
      have hSb := (HSb.out.below hb21 HSb.out.lt)
      have HX2 := Lib.hid hF
      have HNb2 := Lib.hid hNb2
      have HSb2 := Lib.hid hSb2
      have HNb3 := Lib.hid (hNb.below hbel hNb.lt)
      have HSb3 := Lib.hid (hSb.below hbel hSb.lt)
      clear HX hb21 hF hNb2 hSb2 hNb hSb hbel HDO hld hlf HNb HSb
      go_upto_region 21 with fail
      clear hst hst2
      generalize World.setRow _ _ _ = W21 at HX2 HNb2 HSb2 HNb3 HSb3 ⊢
      obtain ⟨nb2, hnb2⟩ : ∃ nb2, w21.heap.size = nb2 := ⟨_, rfl⟩
      rw [hnb2] at HNb2 HSb2 ⊢
      clear hnb2
      have e1 : W21.cell? ⟨rb, 0, none⟩ = some (.int .i64 0) := HX2.out.b.cell 0
      have e2 : W21.cell? ⟨nb + 1, 0, none⟩ = some (.int .i64 0) := HSb3.out.cell 0
      have e3 : W21.cell? ⟨nb2 + 1, 0, none⟩ = some (.int .i64 11) := HSb2.out.cell 0
      have hl1 := run_sldM (Mt.cells_len HOC.out) HNb2.out.whole
      have hl2 := run_sldM (Mt.cells_len HOC.out) HNb3.out.whole
      have hneq := neqM (gC m x 2) HOC.out
      have hst := storeM HOC.out HX2.out.m (by rw [List.size_toArray, Mt.cells_len (gV_ok HI.out)])
      have HX := Lib.hid (HX2.out.putM (m' := gC m x 2))
      clear HX2 HNb2 HSb2 HNb3 HSb3
      go_upto_region 24 with fail
      clear hst e1 e2 e3 hl1 hl2 hneq
      generalize World.setRow _ _ _ = W24 at HX ⊢
      go_wp2_with fail
      go_loopw [24] (fun i wr => ∃ j : Nat, (j : Int) ≤ boots ∧ i = .int .i64 j ∧ Fr w wr w.heap.size (w.heap.size + 1) fb wb rb 24 (gB m x (j : Int)) x.cells.toArray (gF x).cells.toArray m.cells.toArray #[.int .i64 0, .int .i64 0, .int .i64 0]) (fun i _ => boots.toNat - (intOf i).toNat)
      case atStart => exact ⟨0, by have := HB.out; omega, rfl, HX.out⟩
      case round =>
        clear HX
        obtain ⟨j2, hj2, rfl, hX⟩ := hrel
        have HX := Lib.hid hX
        clear hX
        by_cases hlt2 : (j2 : Int) < boots
        · have hld := run_sldM (Mt.cells_len (gB_ok HI.out _)) HX.out.m.whole
          have hlf := HLF.out _ HX.out.f
          have hdo := goDo (gB m x (j2 : Int)) (gB_ok HI.out _) x hxd 5 0 none 0 0 [] (by decide) (gB m x ((j2 : Int) + 1)) 0 (if (j2 : Int) < 2 then 1 - m.act else m.act) (g6 HI.out (j2 : Int) (by omega)) wr (Reads.none_ wr)
          obtain ⟨NV, hNV⟩ : ∃ NV, (if (j2 : Int) < 2 then 1 - m.act else m.act) = NV := ⟨_, rfl⟩
          rw [hNV] at hdo
          have HDO := Lib.hid hdo
          have HNV := Lib.hid hNV
          clear hdo hNV
          go_wp2_with fail
          refine HDO.out.mono ?_
          rintro e w27 ⟨rfl, hb27⟩
          obtain ⟨hst, hst2, hF, hNb, hSb, _⟩ := layF (HX.out.later hb27) (gB m x ((j2 : Int) + 1)) (gB_ok HI.out _) 0 NV 0
          have HX2 := Lib.hid hF
          have HNb := Lib.hid hNb
          have HSb := Lib.hid hSb
          clear HX hb27 hF hNb hSb HDO hld hlf
          go_upto_region 28 with fail
          clear hst hst2
          generalize World.setRow _ _ _ = W28 at HX2 HNb HSb ⊢
          obtain ⟨nb, hnb⟩ : ∃ nb, w27.heap.size = nb := ⟨_, rfl⟩
          rw [hnb] at HNb HSb ⊢
          clear hnb
          have sN : W28.cell? ⟨nb + 1, 1, none⟩ = some (.int .i64 NV) := HSb.out.cell 1
          have sA : W28.cell? ⟨wb, 0, none⟩ = some (.int .i64 m.act) := HX2.out.a.cell 0
          have hld := run_sldM (Mt.cells_len (gB_ok HI.out ((j2 : Int) + 1))) HNb.out.whole
          have hst := storeM (gB_ok HI.out ((j2 : Int) + 1)) HX2.out.m (by rw [List.size_toArray, Mt.cells_len (gB_ok HI.out _)])
          have HX := Lib.hid (HX2.out.putM (m' := gB m x ((j2 : Int) + 1)))
          have hkb : IntKind.i64.wrap ((j2 : Int) + 1) = (j2 : Int) + 1 := IntWalk.i64_in _ (by have := HB.out; omega)
          have hac := HI.out.P.act
          have h1a : IntKind.i64.wrap (1 - m.act) = 1 - m.act := IntWalk.i64_in _ (by omega)
          have hac2 : ¬ m.act = 1 - m.act := by omega
          generalize m.act = ac at sA h1a hac2 HNV
          clear HX2 HNb HSb hac
          by_cases q : (j2 : Int) < 2
          · have hnv : NV = 1 - ac := by rw [← HNV.out, if_pos q]
            subst hnv
            clear hac2
            go_wp2_with fail
            go_roundw
            case rel => exact ⟨j2 + 1, by omega, by go_num, HX.out⟩
            case measure => simp [intOf]; omega
          · have hnv : NV = ac := by rw [← HNV.out, if_neg q]
            subst hnv
            have hb : (NV == 1 - NV) = false := by simpa using hac2
            go_wp2_with fail
            go_roundw
            case rel => exact ⟨j2 + 1, by omega, by go_num, HX.out⟩
            case measure => simp [intOf]; omega
        · have hjb : boots = (j2 : Int) := by omega
          by_cases hb2 : 2 < (j2 : Int)
          · have hga := gB_ge (m := m) (x := x) (j2 : Int) (by omega)
            have hX := HX.out
            rw [hga] at hX
            clear HX
            have HX := Lib.hid hX
            obtain ⟨z1, z2, z3, z4, z5⟩ := gA_end HI.out
            have okA := Mt.alone_ok h
            have hb3 : 2 < boots := by omega
            have hact := HI.out.P.act
            clear hX hga hjb
            rcases hact with ha | ha
            · rw [ha] at z2 z3 z4
              have y1 : m.alone.h0 = m.h0 := z3
              have y2 : m.alone.h1 = Img.zero := z4
              have hS : ∀ W, Fr w W w.heap.size (w.heap.size + 1) fb wb rb 24 (m.alone) x.cells.toArray (gF x).cells.toArray m.cells.toArray #[.int .i64 0, .int .i64 0, .int .i64 0] → (fun W => W.cell? ⟨w.heap.size, 70, none⟩ = some (.int .i64 0) ∧ W.cell? ⟨w.heap.size, 0, none⟩ = some (.int .i64 0) ∧ W.cell? ⟨wb, 0, none⟩ = some (.int .i64 0) ∧ (sldI (.pointer (some ⟨w.heap.size, 1, none⟩))).run Tryd.prog W = .ok (.agg m.h0.cells.toArray) W ∧ (sldI (.pointer (some ⟨wb, 1, none⟩))).run Tryd.prog W = .ok (.agg m.h0.cells.toArray) W ∧ (sldI (.pointer (some ⟨w.heap.size, 35, none⟩))).run Tryd.prog W = .ok (.agg zeroI) W ∧ W.cell? ⟨w.heap.size, 69, none⟩ = some (.int .i64 m.mn) ∧ W.cell? ⟨wb, 69, none⟩ = some (.int .i64 m.mn)) W := fun W hX => by
                obtain ⟨k0, k69, k70, _, _, s0, s1, _⟩ := mall okA hX.m 0 m.mn 0 _ _ z2 z5 z1 rfl rfl
                obtain ⟨j0, j69, _, _, _, t0, t1, _⟩ := mall h hX.a 0 m.mn _ _ _ ha rfl rfl rfl rfl
                rw [y1] at s0
                rw [y2, ← zeroI_eq] at s1
                exact ⟨k70, k0, j0, s0, t0, s1, k69, j69⟩
              have HSE := Lib.hid hS
              clear hS y1 y2 z1 z2 z3 z4 z5 ha
              go_upto_region 32 with fail
              have heq1 := fun W => eqlI m.h0 m.h0 h.d0 h.d0 W
              simp only [Img.same_refl] at heq1
              have heq2 := fun W => eqlI Img.zero Img.zero rfl rfl W
              simp only [Img.same_refl] at heq2
              rw [← zeroI_eq] at heq2
              have hw1 : IntKind.i64.wrap 1 = 1 := by decide
              have hw0 : IntKind.i64.wrap 0 = 0 := by decide
              have hqs := fun q => HSE.out _ (HX.out.later (below_drewR (Below.refl _ _) q))
              dsimp only at hqs
              go_quiet (fail)
              go_wp2_with fail
              go_ret
              exact ⟨rfl, below_drewR HX.out.bel _⟩
            · rw [ha] at z2 z3 z4
              have y1 : m.alone.h1 = m.h1 := z3
              have y2 : m.alone.h0 = Img.zero := z4
              have hS : ∀ W, Fr w W w.heap.size (w.heap.size + 1) fb wb rb 24 (m.alone) x.cells.toArray (gF x).cells.toArray m.cells.toArray #[.int .i64 0, .int .i64 0, .int .i64 0] → (fun W => W.cell? ⟨w.heap.size, 70, none⟩ = some (.int .i64 0) ∧ W.cell? ⟨w.heap.size, 0, none⟩ = some (.int .i64 1) ∧ W.cell? ⟨wb, 0, none⟩ = some (.int .i64 1) ∧ (sldI (.pointer (some ⟨w.heap.size, 35, none⟩))).run Tryd.prog W = .ok (.agg m.h1.cells.toArray) W ∧ (sldI (.pointer (some ⟨wb, 35, none⟩))).run Tryd.prog W = .ok (.agg m.h1.cells.toArray) W ∧ (sldI (.pointer (some ⟨w.heap.size, 1, none⟩))).run Tryd.prog W = .ok (.agg zeroI) W ∧ W.cell? ⟨w.heap.size, 69, none⟩ = some (.int .i64 m.mn) ∧ W.cell? ⟨wb, 69, none⟩ = some (.int .i64 m.mn)) W := fun W hX => by
                obtain ⟨k0, k69, k70, _, _, s0, s1, _⟩ := mall okA hX.m 1 m.mn 0 _ _ z2 z5 z1 rfl rfl
                obtain ⟨j0, j69, _, _, _, t0, t1, _⟩ := mall h hX.a 1 m.mn _ _ _ ha rfl rfl rfl rfl
                rw [y1] at s1
                rw [y2, ← zeroI_eq] at s0
                exact ⟨k70, k0, j0, s1, t1, s0, k69, j69⟩
              have HSE := Lib.hid hS
              clear hS y1 y2 z1 z2 z3 z4 z5 ha
              go_upto_region 32 with fail
              have heq1 := fun W => eqlI m.h1 m.h1 h.d1 h.d1 W
              simp only [Img.same_refl] at heq1
              have heq2 := fun W => eqlI Img.zero Img.zero rfl rfl W
              simp only [Img.same_refl] at heq2
              rw [← zeroI_eq] at heq2
              have hw1 : IntKind.i64.wrap 1 = 1 := by decide
              have hw0 : IntKind.i64.wrap 0 = 0 := by decide
              have hqs := fun q => HSE.out _ (HX.out.later (below_drewR (Below.refl _ _) q))
              dsimp only at hqs
              go_quiet (fail)
              go_wp2_with fail
              go_ret
              exact ⟨rfl, below_drewR HX.out.bel _⟩
          · have hb3 : ¬ 2 < boots := by omega
            have hj12 : (j2 : Int) = 1 ∨ (j2 : Int) = 2 := by have := HB.out; omega
            have hNq := Blk.new wr 30 #[.int .i64 0, .int .i64 0, .slice none 0 0]
            have hst := run_sstQ 7 0 none 0 0 hNq rfl
            have hX3 := (HX.out.alloc (.cells #[.int .i64 0, .int .i64 0, .slice none 0 0] 30)).putW wr.heap.size #[.int .i64 7, .int .i64 0, .slice none 0 0] HX.out.away
            have hqn := HX.out.away
            have hq := hNq.setRow_m #[.int .i64 7, .int .i64 0, .slice none 0 0]
            have HX2 := Lib.hid hX3
            have HQB := Lib.hid hq
            have HQN := Lib.hid hqn
            clear hNq hX3 hqn hq HX
            go_upto_region 34 with fail
            clear hst
            generalize World.setRow _ _ _ = W33 at HX2 HQB ⊢
            have HX := HX2
            clear HX2
            obtain ⟨qb, hqb⟩ : ∃ qb, wr.heap.size = qb := ⟨_, rfl⟩
            rw [hqb] at HQB HQN ⊢
            clear hqb
            cases cf
            · have HX2 := HX
              have HQ := HQB
              clear HX HQB
              have hld := run_sldM (Mt.cells_len (gB_ok HI.out _)) HX2.out.m.whole
              have hlf := HLF.out _ HX2.out.f
              have hlq := run_sldQ rfl (Blk.whole (l := [.int .i64 7, .int .i64 0, .slice none 0 0]) HQ.out)
              have hdo := goDo (gB m x (j2 : Int)) (gB_ok HI.out _) x hxd 7 0 none 0 0 [] (by decide) (m.alone) 0 0 (g7 HI.out (j2 : Int) (by omega)) W33 (Reads.none_ W33)
              have HDO := Lib.hid hdo
              clear hdo
              go_wp2_with fail
              refine HDO.out.mono ?_
              rintro e w37 ⟨rfl, hb37⟩
              have hF := HX2.out.later hb37
              have hst := storeM (Mt.alone_ok h) hF.m (by rw [List.size_toArray, Mt.cells_len (gB_ok HI.out _)])
              have hF2 := hF.putM (m' := m.alone)
              have hst2 := run_sstR 0 0 0 hF2.b rfl
              have HX := Lib.hid (hF2.putB #[.int .i64 0, .int .i64 0, .int .i64 0])
              clear HX2 hF hF2 hb37 hld hlf hlq HDO HQ
              go_upto_region 37 with fail
              clear hst hst2
              generalize World.setRow _ _ _ = W37 at HX ⊢
              have hact := HI.out.P.act
              rcases hact with ha | ha
              · obtain ⟨z1, z2, z3, z4, z5⟩ := gA_end HI.out
                rw [ha] at z2 z3 z4
                have y2 : m.alone.h1 = Img.zero := z4
                have hS : ∀ W, Fr w W w.heap.size (w.heap.size + 1) fb wb rb 24 (m.alone) x.cells.toArray (gF x).cells.toArray m.cells.toArray #[.int .i64 0, .int .i64 0, .int .i64 0] → (fun W => W.cell? ⟨w.heap.size, 70, none⟩ = some (.int .i64 0) ∧ W.cell? ⟨w.heap.size, 0, none⟩ = some (.int .i64 0) ∧ W.cell? ⟨wb, 0, none⟩ = some (.int .i64 0) ∧ (sldI (.pointer (some ⟨w.heap.size, 35, none⟩))).run Tryd.prog W = .ok (.agg zeroI) W ∧ W.cell? ⟨w.heap.size, 69, none⟩ = some (.int .i64 m.mn) ∧ W.cell? ⟨wb, 69, none⟩ = some (.int .i64 m.mn) ∧ W.cell? ⟨rb, 0, none⟩ = some (.int .i64 0)) W := fun W hX => by
                  obtain ⟨k0, k69, k70, _, _, s0, s1, _⟩ := mall (Mt.alone_ok h) hX.m 0 m.mn 0 _ _ z2 z5 z1 rfl rfl
                  obtain ⟨j0, j69, _, _, _, t0, t1, _⟩ := mall h hX.a 0 m.mn _ _ _ ha rfl rfl rfl rfl
                  rw [y2, ← zeroI_eq] at s1
                  exact ⟨k70, k0, j0, s1, k69, j69, hX.b.cell 0⟩
                have HSE := Lib.hid hS
                have hs1 := hS _ HX.out
                clear hS z1 z2 z3 z4 z5 ha y2
                dsimp only at hs1
                obtain ⟨w1, w2, w3, w4, w5, w6, w7⟩ := hs1
                have heq2 := fun W => eqlI Img.zero Img.zero rfl rfl W
                simp only [Img.same_refl] at heq2
                rw [← zeroI_eq] at heq2
                go_wp2_with fail
                go_ret
                exact ⟨rfl, HX.out.bel⟩
              · obtain ⟨z1, z2, z3, z4, z5⟩ := gA_end HI.out
                rw [ha] at z2 z3 z4
                have y2 : m.alone.h0 = Img.zero := z4
                have hS : ∀ W, Fr w W w.heap.size (w.heap.size + 1) fb wb rb 24 (m.alone) x.cells.toArray (gF x).cells.toArray m.cells.toArray #[.int .i64 0, .int .i64 0, .int .i64 0] → (fun W => W.cell? ⟨w.heap.size, 70, none⟩ = some (.int .i64 0) ∧ W.cell? ⟨w.heap.size, 0, none⟩ = some (.int .i64 1) ∧ W.cell? ⟨wb, 0, none⟩ = some (.int .i64 1) ∧ (sldI (.pointer (some ⟨w.heap.size, 1, none⟩))).run Tryd.prog W = .ok (.agg zeroI) W ∧ W.cell? ⟨w.heap.size, 69, none⟩ = some (.int .i64 m.mn) ∧ W.cell? ⟨wb, 69, none⟩ = some (.int .i64 m.mn) ∧ W.cell? ⟨rb, 0, none⟩ = some (.int .i64 0)) W := fun W hX => by
                  obtain ⟨k0, k69, k70, _, _, s0, s1, _⟩ := mall (Mt.alone_ok h) hX.m 1 m.mn 0 _ _ z2 z5 z1 rfl rfl
                  obtain ⟨j0, j69, _, _, _, t0, t1, _⟩ := mall h hX.a 1 m.mn _ _ _ ha rfl rfl rfl rfl
                  rw [y2, ← zeroI_eq] at s0
                  exact ⟨k70, k0, j0, s0, k69, j69, hX.b.cell 0⟩
                have HSE := Lib.hid hS
                have hs1 := hS _ HX.out
                clear hS z1 z2 z3 z4 z5 ha y2
                dsimp only at hs1
                obtain ⟨w1, w2, w3, w4, w5, w6, w7⟩ := hs1
                have heq2 := fun W => eqlI Img.zero Img.zero rfl rfl W
                simp only [Img.same_refl] at heq2
                rw [← zeroI_eq] at heq2
                go_wp2_with fail
                go_ret
                exact ⟨rfl, HX.out.bel⟩
            · have hq0 : W33.cell? ⟨qb, 0, none⟩ = some (.int .i64 7) := HQB.out.cell 0
              have hqf := HQB.out.frozen 0
              have hq2 := HQB.out.set_ 0 (.int .i64 6)
              have hX3 := HX.out.setQ (g := qb) (o := 0) (v := .int .i64 6) HQN.out
              have HQ := Lib.hid (show Blk _ qb 30 #[.int .i64 6, .int .i64 0, .slice none 0 0] from hq2)
              have HX2 := Lib.hid hX3
              clear hq2 hX3 HX HQB
              go_upto_region 36 with fail
              clear hq0 hqf
              generalize World.setCell _ _ _ = W36 at HX2 HQ ⊢
              have hld := run_sldM (Mt.cells_len (gB_ok HI.out _)) HX2.out.m.whole
              have hlf := HLF.out _ HX2.out.f
              have hlq := run_sldQ rfl (Blk.whole (l := [.int .i64 6, .int .i64 0, .slice none 0 0]) HQ.out)
              have hdo := goDo (gB m x (j2 : Int)) (gB_ok HI.out _) x hxd 6 0 none 0 0 [] (by decide) (gN m x) 0 0 (g8 HI.out (j2 : Int) (by omega)) W36 (Reads.none_ W36)
              have HDO := Lib.hid hdo
              clear hdo
              go_wp2_with fail
              refine HDO.out.mono ?_
              rintro e w37 ⟨rfl, hb37⟩
              have hF := HX2.out.later hb37
              have hst := storeM (gN_ok HI.out) hF.m (by rw [List.size_toArray, Mt.cells_len (gB_ok HI.out _)])
              have hF2 := hF.putM (m' := gN m x)
              have hst2 := run_sstR 0 0 0 hF2.b rfl
              have HX := Lib.hid (hF2.putB #[.int .i64 0, .int .i64 0, .int .i64 0])
              clear HX2 hF hF2 hb37 hld hlf hlq HDO HQ
              go_upto_region 37 with fail
              clear hst hst2
              generalize World.setRow _ _ _ = W37 at HX ⊢
              have hact := HI.out.P.act
              rcases hact with ha | ha
              · obtain ⟨z1, z2, z3, z4, z5⟩ := gN_end HI.out
                rw [ha] at z2 z3 z5
                have y1 : (gN m x).h1 = x := z3
                have y2 : (gN m x).h0 = m.h0 := z5
                have hS : ∀ W, Fr w W w.heap.size (w.heap.size + 1) fb wb rb 24 (gN m x) x.cells.toArray (gF x).cells.toArray m.cells.toArray #[.int .i64 0, .int .i64 0, .int .i64 0] → (fun W => W.cell? ⟨w.heap.size, 70, none⟩ = some (.int .i64 0) ∧ W.cell? ⟨w.heap.size, 0, none⟩ = some (.int .i64 1) ∧ W.cell? ⟨wb, 0, none⟩ = some (.int .i64 0) ∧ (sldI (.pointer (some ⟨w.heap.size, 35, none⟩))).run Tryd.prog W = .ok (.agg x.cells.toArray) W ∧ (sldI (.pointer (some ⟨w.heap.size + 1, 0, none⟩))).run Tryd.prog W = .ok (.agg x.cells.toArray) W ∧ W.cell? ⟨w.heap.size, 69, none⟩ = some (.int .i64 x.v) ∧ W.cell? ⟨w.heap.size + 1, 0, none⟩ = some (.int .i64 x.v) ∧ (sldI (.pointer (some ⟨w.heap.size, 1, none⟩))).run Tryd.prog W = .ok (.agg m.h0.cells.toArray) W ∧ (sldI (.pointer (some ⟨wb, 1, none⟩))).run Tryd.prog W = .ok (.agg m.h0.cells.toArray) W ∧ W.cell? ⟨rb, 0, none⟩ = some (.int .i64 0)) W := fun W hX => by
                  obtain ⟨k0, k69, k70, _, _, s0, s1, _⟩ := mall (gN_ok HI.out) hX.m (1 - 0) x.v 0 _ _ z2 z4 z1 rfl rfl
                  obtain ⟨j0, j69, _, _, _, t0, t1, _⟩ := mall h hX.a 0 m.mn _ _ _ ha rfl rfl rfl rfl
                  rw [y1] at s1
                  rw [y2] at s0
                  exact ⟨k70, k0, j0, s1, run_sldI (Img.cells_len hxd) hX.q.whole, k69, hX.q.cell 0, s0, t0, hX.b.cell 0⟩
                have HSE := Lib.hid hS
                have hs1 := hS _ HX.out
                clear hS z1 z2 z3 z4 z5 ha y2
                clear y1
                dsimp only at hs1
                obtain ⟨w1, w2, w3, w4, w5, w6, w7, w8, w9, w10⟩ := hs1
                go_upto_region 40 with fail
                clear w1 w2 w3 w4 w5 w6 w7 w8 w9 w10
                have heq1 := fun W => eqlI m.h0 m.h0 h.d0 h.d0 W
                simp only [Img.same_refl] at heq1
                have heq3 := fun W => eqlI x x hxd hxd W
                simp only [Img.same_refl] at heq3
                have hw1 : IntKind.i64.wrap 1 = 1 := by decide
                have hw0 : IntKind.i64.wrap 0 = 0 := by decide
                have hqs := fun q => HSE.out _ (HX.out.later (below_drewR (Below.refl _ _) q))
                dsimp only at hqs
                go_quiet (fail)
                go_wp2_with fail
                go_ret
                exact ⟨rfl, below_drewR HX.out.bel _⟩
              · obtain ⟨z1, z2, z3, z4, z5⟩ := gN_end HI.out
                rw [ha] at z2 z3 z5
                have y1 : (gN m x).h0 = x := z3
                have y2 : (gN m x).h1 = m.h1 := z5
                have hS : ∀ W, Fr w W w.heap.size (w.heap.size + 1) fb wb rb 24 (gN m x) x.cells.toArray (gF x).cells.toArray m.cells.toArray #[.int .i64 0, .int .i64 0, .int .i64 0] → (fun W => W.cell? ⟨w.heap.size, 70, none⟩ = some (.int .i64 0) ∧ W.cell? ⟨w.heap.size, 0, none⟩ = some (.int .i64 0) ∧ W.cell? ⟨wb, 0, none⟩ = some (.int .i64 1) ∧ (sldI (.pointer (some ⟨w.heap.size, 1, none⟩))).run Tryd.prog W = .ok (.agg x.cells.toArray) W ∧ (sldI (.pointer (some ⟨w.heap.size + 1, 0, none⟩))).run Tryd.prog W = .ok (.agg x.cells.toArray) W ∧ W.cell? ⟨w.heap.size, 69, none⟩ = some (.int .i64 x.v) ∧ W.cell? ⟨w.heap.size + 1, 0, none⟩ = some (.int .i64 x.v) ∧ (sldI (.pointer (some ⟨w.heap.size, 35, none⟩))).run Tryd.prog W = .ok (.agg m.h1.cells.toArray) W ∧ (sldI (.pointer (some ⟨wb, 35, none⟩))).run Tryd.prog W = .ok (.agg m.h1.cells.toArray) W ∧ W.cell? ⟨rb, 0, none⟩ = some (.int .i64 0)) W := fun W hX => by
                  obtain ⟨k0, k69, k70, _, _, s0, s1, _⟩ := mall (gN_ok HI.out) hX.m (1 - 1) x.v 0 _ _ z2 z4 z1 rfl rfl
                  obtain ⟨j0, j69, _, _, _, t0, t1, _⟩ := mall h hX.a 1 m.mn _ _ _ ha rfl rfl rfl rfl
                  rw [y1] at s0
                  rw [y2] at s1
                  exact ⟨k70, k0, j0, s0, run_sldI (Img.cells_len hxd) hX.q.whole, k69, hX.q.cell 0, s1, t1, hX.b.cell 0⟩
                have HSE := Lib.hid hS
                have hs1 := hS _ HX.out
                clear hS z1 z2 z3 z4 z5 ha y2
                clear y1
                dsimp only at hs1
                obtain ⟨w1, w2, w3, w4, w5, w6, w7, w8, w9, w10⟩ := hs1
                go_upto_region 40 with fail
                clear w1 w2 w3 w4 w5 w6 w7 w8 w9 w10
                have heq1 := fun W => eqlI m.h1 m.h1 h.d1 h.d1 W
                simp only [Img.same_refl] at heq1
                have heq3 := fun W => eqlI x x hxd hxd W
                simp only [Img.same_refl] at heq3
                have hw1 : IntKind.i64.wrap 1 = 1 := by decide
                have hw0 : IntKind.i64.wrap 0 = 0 := by decide
                have hqs := fun q => HSE.out _ (HX.out.later (below_drewR (Below.refl _ _) q))
                dsimp only at hqs
                go_quiet (fail)
                go_wp2_with fail
                go_ret
                exact ⟨rfl, below_drewR HX.out.bel _⟩
end Go.Proofs.YtpbdglocfjbbfaaDoor
