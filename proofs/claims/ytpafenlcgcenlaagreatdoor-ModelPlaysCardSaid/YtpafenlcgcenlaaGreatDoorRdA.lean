/- The reference's Len, MayVersion, Confirm, err; the frame of its functions over a boxed Meta. · The reference's boot. · The reference's late: QConfirm, QRollback, QAbort. · The reference's early: QWrite, QVerify, QCommit. -/
import Derived.Test.YtpafenlcgcenlaaGreatDoorHeldTk
import Derived.Test.YtpafenlcgcenlaaGreatDoorRdP
import Derived.Deep.RegionHeld3
import Derived.Deep.DrawnRows
namespace Go.Proofs.YtpafenlcgcenlaaGreatDoor
open Go Go.RowKit
set_option linter.unusedVariables false
set_option linter.unusedSimpArgs false
attribute [local go_sem ↓] sldI_seal sldM_seal sstM_seal sstI_seal sldF_seal sldQ_seal sldR_seal sstR_seal sldD_seal
theorem below_drewR {B : Nat} {a w : World} (h : Below B a w) (n : Nat) : Below B a (w.drewN n) := ⟨h.os, h.tape, h.output, h.size, h.block⟩
theorem rvmay_c (w : World) (m : Mt) (h : m.Ok) (v : Int) : Calls Tryz.prog 127 #[.agg m.cells.toArray, .int .i64 v] w fun e w' => e = .returned (.bool (m.vmay v)) ∧ Below w.heap.size w w' := by
 have hB := Blk.new w 44 m.cells.toArray
 obtain ⟨x, hx⟩ : ∃ x, m.mn = x := ⟨_, rfl⟩
 obtain ⟨_, k1, _⟩ := mall h hB _ x _ _ _ rfl hx rfl rfl rfl
 unfold Mt.vmay
 rw [hx]
 clear hB hx
 by_cases h1 : 1 ≤ v
 ·
  by_cases h2 : v ≤ 1073741824
  ·
   by_cases h3 : x ≤ v
   ·
    go_enter Tryz.func127, Tryz.ntmps127
    go_wp2_with fail
    go_ret
    exact ⟨by simp [h1, h2, h3] <;> omega, (Below.refl _ _).alloc (Nat.le_refl _) _⟩
   ·
    go_enter Tryz.func127, Tryz.ntmps127
    go_wp2_with fail
    go_ret
    exact ⟨by simp [h1, h2, h3] <;> omega, (Below.refl _ _).alloc (Nat.le_refl _) _⟩
  ·
   go_enter Tryz.func127, Tryz.ntmps127
   go_wp2_with fail
   go_ret
   exact ⟨by simp [h1, h2] <;> omega, (Below.refl _ _).alloc (Nat.le_refl _) _⟩
 ·
  go_enter Tryz.func127, Tryz.ntmps127
  go_wp2_with fail
  go_ret
  exact ⟨by simp [h1] <;> omega, (Below.refl _ _).alloc (Nat.le_refl _) _⟩
theorem rconf_c (w : World) (m : Mt) (h : m.Ok) (hact : m.act = 0 ∨ m.act = 1) : Calls Tryz.prog 128 #[.agg m.cells.toArray] w fun e w' => e = .returned (.int .i64 m.vconf) ∧ Below w.heap.size w w' := by
 have hB := Blk.new w 44 m.cells.toArray
 obtain ⟨x, hx⟩ : ∃ x, m.mn = x := ⟨_, rfl⟩
 obtain ⟨y, hy⟩ : ∃ y, m.oth.v = y := ⟨_, rfl⟩
 have k35 := Mt.c_v1 h hB
 have k1 := Mt.c_v0 hB
 unfold Mt.vconf
 rw [hx, hy]
 rcases hact with ha | ha
 ·
  obtain ⟨k0, k69, _⟩ := mall h hB 0 x _ _ _ ha hx rfl rfl rfl
  rw [← Mt.oth0 ha, hy] at k35
  clear hB hx hy k1
  by_cases hv : x < y
  ·
   by_cases hv2 : 0 < y
   ·
    go_enter Tryz.func128, Tryz.ntmps128
    go_upto_region 4 with fail
    go_quiet (fail)
    go_wp2_with fail
    all_goals (go_ret; exact ⟨int_ret5 (by omega), below_drewR ((Below.refl _ _).alloc (Nat.le_refl _) _) _⟩)
   ·
    go_enter Tryz.func128, Tryz.ntmps128
    go_upto_region 4 with fail
    go_quiet (fail)
    go_wp2_with fail
    all_goals (go_ret; exact ⟨int_ret5 (by omega), below_drewR ((Below.refl _ _).alloc (Nat.le_refl _) _) _⟩)
  ·
   go_enter Tryz.func128, Tryz.ntmps128
   go_upto_region 4 with fail
   go_quiet (fail)
   go_wp2_with fail
   all_goals (go_ret; exact ⟨int_ret5 (by omega), below_drewR ((Below.refl _ _).alloc (Nat.le_refl _) _) _⟩)
 ·
  obtain ⟨k0, k69, _⟩ := mall h hB 1 x _ _ _ ha hx rfl rfl rfl
  rw [← Mt.oth1 ha, hy] at k1
  clear hB hx hy k35
  by_cases hv : x < y
  ·
   by_cases hv2 : 0 < y
   ·
    go_enter Tryz.func128, Tryz.ntmps128
    go_upto_region 4 with fail
    go_quiet (fail)
    go_wp2_with fail
    all_goals (go_ret; exact ⟨int_ret5 (by omega), below_drewR ((Below.refl _ _).alloc (Nat.le_refl _) _) _⟩)
   ·
    go_enter Tryz.func128, Tryz.ntmps128
    go_upto_region 4 with fail
    go_quiet (fail)
    go_wp2_with fail
    all_goals (go_ret; exact ⟨int_ret5 (by omega), below_drewR ((Below.refl _ _).alloc (Nat.le_refl _) _) _⟩)
  ·
   go_enter Tryz.func128, Tryz.ntmps128
   go_upto_region 4 with fail
   go_quiet (fail)
   go_wp2_with fail
   all_goals (go_ret; exact ⟨int_ret5 (by omega), below_drewR ((Below.refl _ _).alloc (Nat.le_refl _) _) _⟩)
theorem rerr_c (n : Int) (w : World) : Calls Tryz.prog 49 #[.int .i64 n] w fun e w' => e = .returned (.agg #[.int .i64 n, .int .i64 0, .int .i64 0]) ∧ Below w.heap.size w w' := by
 have hN := Blk.new w 37 #[.int .i64 0, .int .i64 0, .int .i64 0]
 have hst := run_sstR n 0 0 hN zeroR_size
 have hb : Below w.heap.size w ((w.alloc (.cells #[.int .i64 0, .int .i64 0, .int .i64 0] 37)).setRow w.heap.size #[.int .i64 n, .int .i64 0, .int .i64 0]) := below_setRow_m ((Below.refl _ _).alloc (Nat.le_refl _) _) (Nat.le_refl _) _
 have HB := Lib.hid (hN.setRow_m #[.int .i64 n, .int .i64 0, .int .i64 0])
 have HL := Lib.hid hb
 clear hN hb
 go_enter Tryz.func49, Tryz.ntmps49
 go_wp2_with fail
 refine bodyPost_ret (results_cell_row rfl _ _ w.heap.size 37 #[.int .i64 n, .int .i64 0, .int .i64 0] (0, 0) _ rfl HB.out Tryz.underlying37 rfl info_sR) rfl ?_
 exact ⟨rfl, HL.out⟩
/-- The boxes of such a function: a Meta, a Req (or none), a Fact, both results. -/
structure Fr (w0 W : World) (bm bq bf ba bb : Nat) (tq : TypeId) (m : Mt) (QA FA RA RB : Array Value) : Prop where
 m : Blk W bm 44 m.cells.toArray
 q : Blk W bq tq QA
 f : Blk W bf 78 FA
 a : Blk W ba 44 RA
 b : Blk W bb 37 RB
 bel : Below w0.heap.size w0 W
 dm : w0.heap.size ≤ bm ∧ bm ≠ bq ∧ bm ≠ bf ∧ bm ≠ ba ∧ bm ≠ bb
 da : w0.heap.size ≤ ba ∧ ba ≠ bq ∧ ba ≠ bf ∧ ba ≠ bb
 db : w0.heap.size ≤ bb ∧ bb ≠ bq ∧ bb ≠ bf
section
variable {w0 W W' : World} {bm bq bf ba bb : Nat} {tq : TypeId} {m m' : Mt} {QA FA RA RB : Array Value}
theorem Fr.later (h : Fr w0 W bm bq bf ba bb tq m QA FA RA RB) (hb : Below W.heap.size W W') : Fr w0 W' bm bq bf ba bb tq m QA FA RA RB :=
 ⟨h.m.below hb h.m.lt, h.q.below hb h.q.lt, h.f.below hb h.f.lt, h.a.below hb h.a.lt, h.b.below hb h.b.lt, h.bel.trans (hb.mono h.bel.size), h.dm, h.da, h.db⟩
theorem Fr.drew (h : Fr w0 W bm bq bf ba bb tq m QA FA RA RB) : Fr w0 W.drew bm bq bf ba bb tq m QA FA RA RB := h.later (Below.refl W.heap.size W).drew
theorem Fr.alloc (h : Fr w0 W bm bq bf ba bb tq m QA FA RA RB) (o : Obj) : Fr w0 (W.alloc o) bm bq bf ba bb tq m QA FA RA RB := h.later ((Below.refl _ _).alloc (Nat.le_refl _) _)
theorem Fr.set (h : Fr w0 W bm bq bf ba bb tq m QA FA RA RB) {o : Nat} {v : Value} (hB : Blk (W.setCell ⟨bm, o, none⟩ v) bm 44 m'.cells.toArray) : Fr w0 (W.setCell ⟨bm, o, none⟩ v) bm bq bf ba bb tq m' QA FA RA RB :=
 ⟨hB, h.q.far (fun e => h.dm.2.1 e.symm) v, h.f.far (fun e => h.dm.2.2.1 e.symm) v, h.a.far (fun e => h.dm.2.2.2.1 e.symm) v, h.b.far (fun e => h.dm.2.2.2.2 e.symm) v, h.bel.setCell h.dm.1 _, h.dm, h.da, h.db⟩
theorem Fr.sets (h : Fr w0 W bm bq bf ba bb tq m QA FA RA RB) {o : Nat} {vs : List Value} (hB : Blk (W.setCells bm o vs) bm 44 m'.cells.toArray) : Fr w0 (W.setCells bm o vs) bm bq bf ba bb tq m' QA FA RA RB :=
 ⟨hB, Blk.setCells_far h.dm.2.1 _ _ _ h.q, Blk.setCells_far h.dm.2.2.1 _ _ _ h.f, Blk.setCells_far h.dm.2.2.2.1 _ _ _ h.a, Blk.setCells_far h.dm.2.2.2.2 _ _ _ h.b, below_setCells h.dm.1 _ _ _ h.bel, h.dm, h.da, h.db⟩
theorem Fr.putA (h : Fr w0 W bm bq bf ba bb tq m QA FA RA RB) (A : Array Value) : Fr w0 (W.setRow ba A) bm bq bf ba bb tq m QA FA A RB :=
 ⟨h.m.setRow_mf _ h.dm.2.2.2.1, h.q.setRow_mf _ (Ne.symm h.da.2.1), h.f.setRow_mf _ (Ne.symm h.da.2.2.1), h.a.setRow_m _, h.b.setRow_mf _ (Ne.symm h.da.2.2.2), below_setRow_m h.bel h.da.1 _, h.dm, h.da, h.db⟩
theorem Fr.putB (h : Fr w0 W bm bq bf ba bb tq m QA FA RA RB) (A : Array Value) : Fr w0 (W.setRow bb A) bm bq bf ba bb tq m QA FA RA A :=
 ⟨h.m.setRow_mf _ h.dm.2.2.2.2, h.q.setRow_mf _ (Ne.symm h.db.2.1), h.f.setRow_mf _ (Ne.symm h.db.2.2), h.a.setRow_mf _ h.da.2.2.2, h.b.setRow_m _, below_setRow_m h.bel h.db.1 _, h.dm, h.da, h.db⟩
end
theorem fr5 (w : World) (m : Mt) (Q FA : Array Value) :
  Fr w (((((w.alloc (.cells m.cells.toArray 44)).alloc (.cells Q 34)).alloc (.cells FA 78)).alloc (.cells Tryz.zeroCells44 44)).alloc (.cells #[.int .i64 0, .int .i64 0, .int .i64 0] 37)) w.heap.size (w.heap.size + 1) (w.heap.size + 2) (w.heap.size + 3) (w.heap.size + 4) 34 m Q FA Tryz.zeroCells44 #[.int .i64 0, .int .i64 0, .int .i64 0] := by
 have h := box5 w m.cells.toArray Q FA _ rfl
 exact ⟨h.tl.tl.tl.tl.hd, h.tl.tl.tl.hd, h.tl.tl.hd, h.tl.hd, h.hd, h.bel, ⟨Nat.le_refl _, by omega, by omega, by omega, by omega⟩, ⟨by omega, by omega, by omega, by omega⟩, ⟨by omega, by omega, by omega⟩⟩
theorem fr4 (w : World) (m : Mt) (FA : Array Value) :
  Fr w ((((w.alloc (.cells m.cells.toArray 44)).alloc (.cells FA 78)).alloc (.cells Tryz.zeroCells44 44)).alloc (.cells #[.int .i64 0, .int .i64 0, .int .i64 0] 37)) w.heap.size (w.heap.size + 1) (w.heap.size + 1) (w.heap.size + 2) (w.heap.size + 3) 78 m FA FA Tryz.zeroCells44 #[.int .i64 0, .int .i64 0, .int .i64 0] := by
 have h : Bxs w _ [(w.heap.size + 3, 37, #[.int .i64 0, .int .i64 0, .int .i64 0]), (w.heap.size + 2, 44, Tryz.zeroCells44), (w.heap.size + 1, 78, FA), (w.heap.size, 44, m.cells.toArray)] := ((((Bxs.nil w).new rfl _ _).new (by simp) _ _).new (by simp) _ _).new (by simp) _ _
 exact ⟨h.tl.tl.tl.hd, h.tl.tl.hd, h.tl.tl.hd, h.tl.hd, h.hd, h.bel, ⟨Nat.le_refl _, by omega, by omega, by omega, by omega⟩, ⟨by omega, by omega, by omega, by omega⟩, ⟨by omega, by omega, by omega⟩⟩
/-- The other slot's image becomes none. -/
theorem Blk.alone {W : World} {g : Nat} {t : TypeId} {m : Mt} (B : Blk W g t m.cells.toArray) (o : m.Ok) (h : m.act = 0 ∨ m.act = 1) : Blk (W.setCells g (if m.act = 0 then 35 else 1) Img.zero.cells) g t m.alone.cells.toArray := by
 unfold Mt.alone
 rcases h with h | h
 ·
  rw [if_pos h, if_pos h]; exact B.putH1 o Img.zero rfl
 ·
  rw [if_neg (by omega), if_neg (by omega)]; exact B.putH0 o Img.zero rfl
end Go.Proofs.YtpafenlcgcenlaaGreatDoor
namespace Go.Proofs.YtpafenlcgcenlaaGreatDoor
open Go Go.RowKit
set_option linter.unusedVariables false
set_option linter.unusedSimpArgs false
attribute [local go_sem ↓] sldI_seal sldM_seal sstM_seal sstI_seal sldF_seal sldQ_seal sldR_seal sstR_seal sldD_seal
def rbootD (m : Mt) (wn : Bool) : Ch :=
 if m.ph = 3 ∧ wn = false then (if m.tr = 0 then ⟨({ m with ph := 0 } : Mt).alone, 0, m.act, 0⟩ else ⟨{ m with tr := m.tr - 1 }, 0, 1 - m.act, 0⟩) else ⟨m, 0, m.act, 0⟩
set_option maxRecDepth 100000 in
set_option maxHeartbeats 4000000 in
theorem rboot_c (w : World) (m : Mt) (h : m.Ok) (hact : m.act = 0 ∨ m.act = 1) (htr : 0 ≤ m.tr ∧ m.tr ≤ 2) (f : Fc) (hf : f.d.length = 32) :
  Calls Tryz.prog 77 #[.agg m.cells.toArray, .agg f.cells.toArray] w fun e w' => e = .returned (rbootD m f.wn).res ∧ Below w.heap.size w w' := by
 have hX0 := fr4 w m f.cells.toArray
 have hfc : ∀ (W : World) (g : Nat), Blk W g 78 f.cells.toArray → W.cell? ⟨g, 34, none⟩ = Option.some (.bool f.wn) := fun W g hB => by rw [hB.cell, List.getElem?_toArray, Fc.c34 hf]
 obtain ⟨FA, hFA⟩ : ∃ FA, f.cells.toArray = FA := ⟨_, rfl⟩
 simp only [hFA] at hX0 hfc ⊢
 obtain ⟨x, hx⟩ : ∃ x, m.ph = x := ⟨_, rfl⟩
 obtain ⟨a, ha⟩ : ∃ a, m.act = a := ⟨_, rfl⟩
 obtain ⟨t, ht⟩ : ∃ t, m.tr = t := ⟨_, rfl⟩
 obtain ⟨wn, hwn⟩ : ∃ wn, f.wn = wn := ⟨_, rfl⟩
 rw [hwn] at hfc ⊢
 have hS : ∀ W RA RB, Fr w W w.heap.size (w.heap.size + 1) (w.heap.size + 1) (w.heap.size + 2) (w.heap.size + 3) 78 m FA FA RA RB →
   (sldM (.pointer (some ⟨w.heap.size, 0, none⟩))).run Tryz.prog W = .ok (.agg m.cells.toArray) W ∧ W.cell? ⟨w.heap.size, 0, none⟩ = some (.int .i64 a) ∧ W.cell? ⟨w.heap.size, 70, none⟩ = some (.int .i64 x) ∧ W.cell? ⟨w.heap.size, 106, none⟩ = some (.int .i64 t) ∧ W.cell? ⟨w.heap.size + 1, 34, none⟩ = some (.bool wn) := fun W RA RB hX => by
  obtain ⟨k0, _, k70, _, k106, _⟩ := mall h hX.m a _ x _ t ha rfl hx rfl ht
  exact ⟨run_sldM (Mt.cells_len h) hX.m.whole, k0, k70, k106, hfc _ _ hX.f⟩
 have HS := Lib.hid hS
 have HFC := Lib.hid hfc
 have h1a : IntKind.i64.wrap (1 - a) = 1 - a := IntWalk.i64_in _ (by omega)
 have HA := Lib.hid ha
 have HT := Lib.hid ht
 have HXX := Lib.hid hx
 have HACT := Lib.hid hact
 have htb : 0 ≤ t ∧ t ≤ 2 := ht ▸ htr
 have HTB := Lib.hid htb
 clear hS hfc hFA ha ht hx hwn hact htr htb
 go_enter Tryz.func77, Tryz.ntmps77
 go_upto_region 1 with fail
 generalize (((w.alloc (.cells m.cells.toArray 44)).alloc (.cells FA 78)).alloc (.cells Tryz.zeroCells44 44)).alloc (.cells #[.int .i64 0, .int .i64 0, .int .i64 0] 37) = W1 at hX0 ⊢
 have HX := Lib.hid hX0
 have hs0 := HS.out _ _ _ HX.out
 clear hX0
 obtain ⟨hs1, hs2, hs3, hs4, hs5⟩ := hs0
 by_cases x3 : x = 3
 ·
  cases wn
  ·
   by_cases t0 : t = 0
   ·
    have hR : rbootD m false = ⟨({ m with ph := 0 } : Mt).alone, 0, a, 0⟩ := by
     unfold rbootD; rw [if_pos ⟨by rw [HXX.out]; exact x3, rfl⟩, if_pos (by rw [HT.out]; exact t0), HA.out]
    have HR := Lib.hid hR
    clear hR
    have o1 : ({ m with ph := 0 } : Mt).Ok := ⟨h.d0, h.d1, h.d2, h.act⟩
    have o2 := Mt.alone_ok o1
    subst t0
    go_upto_region 6 with fail
    obtain ⟨u, hu⟩ := HX.out.m.some h 70 (by omega)
    have hfz := HX.out.m.frozen 70
    have hX2 := HX.out.set (HX.out.m.setPhase h 0)
    have HX2 := Lib.hid hX2
    clear HX hX2
    go_upto_region 7 with fail
    have hX2 := HX2.out
    clear HX2 hu hfz hs1 hs2 hs3 hs4 hs5
    generalize World.setCell _ _ _ = W2 at hX2 ⊢
    have hal : ({ m with ph := 0 } : Mt).act = 0 ∨ ({ m with ph := 0 } : Mt).act = 1 := HACT.out
    have ha1 : ({ m with ph := 0 } : Mt).act = a := HA.out
    have hcc := hX2.sets (hX2.m.alone o1 hal)
    have hk0 := (mall o1 hX2.m a _ _ _ _ ha1 rfl rfl rfl rfl).1
    have hact2 : a = 0 ∨ a = 1 := HA.out ▸ HACT.out
    have ha2 : (({ m with ph := 0 } : Mt).alone).act = a := by unfold Mt.alone; split <;> exact HA.out
    rcases hact2 with q | q
    ·
     subst q
     have hst := run_sstI hX2.m 35 (by rw [List.size_toArray, Mt.cells_len o1]; omega) Img.zero rfl
     rw [← zeroI_eq] at hst
     rw [show (if ({ m with ph := 0 } : Mt).act = 0 then 35 else 1) = 35 from by rw [ha1]<;> rfl] at hcc
     obtain ⟨m2, hm2⟩ : ∃ m2 : Mt, ({ m with ph := 0 } : Mt).alone = m2 := ⟨_, rfl⟩
     rw [hm2] at hcc o2 ha2
     generalize Img.zero.cells = ZC at *
     have HX2 := Lib.hid hcc
     have HM2 := Lib.hid hm2
     clear hcc hX2 hal ha1 hm2
     go_upto_region 8 with fail
     have hX2 := HX2.out
     clear HX2 hst hk0
     generalize World.setCells _ _ _ _ = W3 at hX2 ⊢
     have HX := Lib.hid hX2
     clear hX2 HS
     have hS2 : ∀ W RA RB, Fr w W w.heap.size (w.heap.size + 1) (w.heap.size + 1) (w.heap.size + 2) (w.heap.size + 3) 78 m2 FA FA RA RB → (sldM (.pointer (some ⟨w.heap.size, 0, none⟩))).run Tryz.prog W = .ok (.agg m2.cells.toArray) W ∧ W.cell? ⟨w.heap.size, 0, none⟩ = some (.int .i64 0) := fun W RA RB hX =>
      ⟨run_sldM (Mt.cells_len o2) hX.m.whole, (mall o2 hX.m 0 _ _ _ _ ha2 rfl rfl rfl rfl).1⟩
     have HS := Lib.hid hS2
     clear hS2
     have HX := Lib.hid HX.out.drew
     have hs0 := HS.out _ _ _ HX.out
     refine wp_region_held_drew (S := (fun W => (sldM (.pointer (some ⟨w.heap.size, 0, none⟩))).run Tryz.prog W = .ok (.agg m2.cells.toArray) W ∧ W.cell? ⟨w.heap.size, 0, none⟩ = some (.int .i64 0))) (by kernel_rfl) ?_ (fun hHeld => ?_)
     ·
      exact hs0
     refine tk 0 (h := ?_)
     refine tk 1 (h := ?_)
     refine tk 2 (h := ?_)
     refine tk 3 (h := ?_)
     have hst := storeM o2 HX.out.a zeroM_size
     have HX := Lib.hid (HX.out.putA m2.cells.toArray)
     refine rd 4 (h := fun K hK => ?_)
     go_simp
     clear hst
     refine so hK (by (try dsimp only); (exact HS.out _ _ _ HX.out)) (h := fun hHeld => ?_)
     clear hK K
     have hst := run_sstR 0 0 0 HX.out.b zeroR_size
     have HX := Lib.hid (HX.out.putB #[.int .i64 0, .int .i64 0, .int .i64 0])
     refine rd 5 (h := fun K hK => ?_)
     go_simp
     clear hst
     refine so hK (by (try dsimp only); (exact HS.out _ _ _ HX.out)) (h := fun hHeld => ?_)
     clear hK K
     refine wpAnyH_done (by kernel_rfl) ?_ _
     try simp only [Act.put, List.getElem_toArray, List.getElem_cons_succ, List.getElem_cons_zero, List.setIfInBounds_toArray, List.set_cons_zero, List.set_cons_succ]
     go_wp2_with fail
     refine bodyPost_ret (results_cell_row2 rfl _ _ (w.heap.size + 2) (w.heap.size + 3) 44 37 m2.cells.toArray #[.int .i64 0, .int .i64 0, .int .i64 0] (0, 0) (0, 0) _ _ rfl HX.out.a Tryz.underlying44 rfl (by rw [List.size_toArray, Mt.cells_len o2]; exact info_sM107) rfl HX.out.b Tryz.underlying37 rfl info_sR) rfl ?_
     exact ⟨by rw [HR.out, HM2.out]; rfl, HX.out.bel⟩
    ·
     subst q
     have hst := run_sstI hX2.m 1 (by rw [List.size_toArray, Mt.cells_len o1]; omega) Img.zero rfl
     rw [← zeroI_eq] at hst
     rw [show (if ({ m with ph := 0 } : Mt).act = 0 then 35 else 1) = 1 from by rw [ha1]<;> rfl] at hcc
     obtain ⟨m2, hm2⟩ : ∃ m2 : Mt, ({ m with ph := 0 } : Mt).alone = m2 := ⟨_, rfl⟩
     rw [hm2] at hcc o2 ha2
     generalize Img.zero.cells = ZC at *
     have HX2 := Lib.hid hcc
     have HM2 := Lib.hid hm2
     clear hcc hX2 hal ha1 hm2
     go_upto_region 8 with fail
     have hX2 := HX2.out
     clear HX2 hst hk0
     generalize World.setCells _ _ _ _ = W3 at hX2 ⊢
     have HX := Lib.hid hX2
     clear hX2 HS
     have hS2 : ∀ W RA RB, Fr w W w.heap.size (w.heap.size + 1) (w.heap.size + 1) (w.heap.size + 2) (w.heap.size + 3) 78 m2 FA FA RA RB → (sldM (.pointer (some ⟨w.heap.size, 0, none⟩))).run Tryz.prog W = .ok (.agg m2.cells.toArray) W ∧ W.cell? ⟨w.heap.size, 0, none⟩ = some (.int .i64 1) := fun W RA RB hX =>
      ⟨run_sldM (Mt.cells_len o2) hX.m.whole, (mall o2 hX.m 1 _ _ _ _ ha2 rfl rfl rfl rfl).1⟩
     have HS := Lib.hid hS2
     clear hS2
     have HX := Lib.hid HX.out.drew
     have hs0 := HS.out _ _ _ HX.out
     refine wp_region_held_drew (S := (fun W => (sldM (.pointer (some ⟨w.heap.size, 0, none⟩))).run Tryz.prog W = .ok (.agg m2.cells.toArray) W ∧ W.cell? ⟨w.heap.size, 0, none⟩ = some (.int .i64 1))) (by kernel_rfl) ?_ (fun hHeld => ?_)
     ·
      exact hs0
     refine tk 0 (h := ?_)
     refine tk 1 (h := ?_)
     refine tk 2 (h := ?_)
     refine tk 3 (h := ?_)
     have hst := storeM o2 HX.out.a zeroM_size
     have HX := Lib.hid (HX.out.putA m2.cells.toArray)
     refine rd 4 (h := fun K hK => ?_)
     go_simp
     clear hst
     refine so hK (by (try dsimp only); (exact HS.out _ _ _ HX.out)) (h := fun hHeld => ?_)
     clear hK K
     have hst := run_sstR 0 1 0 HX.out.b zeroR_size
     have HX := Lib.hid (HX.out.putB #[.int .i64 0, .int .i64 1, .int .i64 0])
     refine rd 5 (h := fun K hK => ?_)
     go_simp
     clear hst
     refine so hK (by (try dsimp only); (exact HS.out _ _ _ HX.out)) (h := fun hHeld => ?_)
     clear hK K
     refine wpAnyH_done (by kernel_rfl) ?_ _
     try simp only [Act.put, List.getElem_toArray, List.getElem_cons_succ, List.getElem_cons_zero, List.setIfInBounds_toArray, List.set_cons_zero, List.set_cons_succ]
     go_wp2_with fail
     refine bodyPost_ret (results_cell_row2 rfl _ _ (w.heap.size + 2) (w.heap.size + 3) 44 37 m2.cells.toArray #[.int .i64 0, .int .i64 1, .int .i64 0] (0, 0) (0, 0) _ _ rfl HX.out.a Tryz.underlying44 rfl (by rw [List.size_toArray, Mt.cells_len o2]; exact info_sM107) rfl HX.out.b Tryz.underlying37 rfl info_sR) rfl ?_
     exact ⟨by rw [HR.out, HM2.out]; rfl, HX.out.bel⟩
   ·
    have hR : rbootD m false = ⟨{ m with tr := m.tr - 1 }, 0, 1 - a, 0⟩ := by
     unfold rbootD; rw [if_pos ⟨by rw [HXX.out]; exact x3, rfl⟩, if_neg (by rw [HT.out]; exact t0), HA.out]
    have HR := Lib.hid hR
    clear hR
    have o1 : ({ m with tr := m.tr - 1 } : Mt).Ok := ⟨h.d0, h.d1, h.d2, h.act⟩
    have ht1 : IntKind.i64.wrap (t - 1) = t - 1 := IntWalk.i64_in _ (by have := HTB.out; omega)
    have hgt : 0 < t := by have := HTB.out; omega
    go_upto_region 4 with fail
    obtain ⟨u, hu⟩ := HX.out.m.some h 106 (by omega)
    have hfz := HX.out.m.frozen 106
    have hX2 := HX.out.set (HX.out.m.setTrials h (m.tr - 1))
    rw [show i64v (m.tr - 1) = Value.int .i64 (t - 1) from by rw [HT.out]] at hX2
    have HX2 := Lib.hid hX2
    clear HX hX2
    go_upto_region 5 with fail
    have hX2 := HX2.out
    clear HX2 hu hfz hs1 hs2 hs3 hs4 hs5
    generalize World.setCell _ _ _ = W2 at hX2 ⊢
    obtain ⟨m2, hm2⟩ : ∃ m2 : Mt, { m with tr := m.tr - 1 } = m2 := ⟨_, rfl⟩
    have ha2 : m2.act = a := by rw [← hm2]; exact HA.out
    rw [hm2] at hX2 o1
    have HX := Lib.hid hX2
    have HM2 := Lib.hid hm2
    clear hX2 hm2 HS
    have hS2 : ∀ W RA RB, Fr w W w.heap.size (w.heap.size + 1) (w.heap.size + 1) (w.heap.size + 2) (w.heap.size + 3) 78 m2 FA FA RA RB → (sldM (.pointer (some ⟨w.heap.size, 0, none⟩))).run Tryz.prog W = .ok (.agg m2.cells.toArray) W ∧ W.cell? ⟨w.heap.size, 0, none⟩ = some (.int .i64 a) := fun W RA RB hX =>
     ⟨run_sldM (Mt.cells_len o1) hX.m.whole, (mall o1 hX.m a _ _ _ _ ha2 rfl rfl rfl rfl).1⟩
    have HS := Lib.hid hS2
    clear hS2
    have HX := Lib.hid HX.out.drew
    have hs0 := HS.out _ _ _ HX.out
    refine wp_region_held_drew (S := (fun W => (sldM (.pointer (some ⟨w.heap.size, 0, none⟩))).run Tryz.prog W = .ok (.agg m2.cells.toArray) W ∧ W.cell? ⟨w.heap.size, 0, none⟩ = some (.int .i64 a))) (by kernel_rfl) ?_ (fun hHeld => ?_)
    ·
     exact hs0
    refine tk 0 (h := ?_)
    refine tk 1 (h := ?_)
    refine tk 2 (h := ?_)
    refine tk 3 (h := ?_)
    refine tk 4 (h := ?_)
    have hst := storeM o1 HX.out.a zeroM_size
    have HX := Lib.hid (HX.out.putA m2.cells.toArray)
    refine rd 5 (h := fun K hK => ?_)
    go_simp
    clear hst
    refine so hK (by (try dsimp only); (exact HS.out _ _ _ HX.out)) (h := fun hHeld => ?_)
    clear hK K
    have hst := run_sstR 0 (1 - a) 0 HX.out.b zeroR_size
    have HX := Lib.hid (HX.out.putB #[.int .i64 0, .int .i64 (1 - a), .int .i64 0])
    refine rd 6 (h := fun K hK => ?_)
    go_simp
    clear hst
    refine so hK (by (try dsimp only); (exact HS.out _ _ _ HX.out)) (h := fun hHeld => ?_)
    clear hK K
    refine wpAnyH_done (by kernel_rfl) ?_ _
    try simp only [Act.put, List.getElem_toArray, List.getElem_cons_succ, List.getElem_cons_zero, List.setIfInBounds_toArray, List.set_cons_zero, List.set_cons_succ]
    go_wp2_with fail
    refine bodyPost_ret (results_cell_row2 rfl _ _ (w.heap.size + 2) (w.heap.size + 3) 44 37 m2.cells.toArray #[.int .i64 0, .int .i64 (1 - a), .int .i64 0] (0, 0) (0, 0) _ _ rfl HX.out.a Tryz.underlying44 rfl (by rw [List.size_toArray, Mt.cells_len o1]; exact info_sM107) rfl HX.out.b Tryz.underlying37 rfl info_sR) rfl ?_
    exact ⟨by rw [HR.out, HM2.out]; rfl, HX.out.bel⟩
  ·
   have hR : rbootD m true = ⟨m, 0, a, 0⟩ := by
    unfold rbootD; rw [if_neg (by simp), HA.out]
   have HR := Lib.hid hR
   clear hR
   go_upto_region 2 with fail
   clear hs1 hs2 hs3 hs4 hs5
   have HX := Lib.hid HX.out.drew
   have hs0 := HS.out _ _ _ HX.out
   refine wp_region_held_drew (S := (fun W => (sldM (.pointer (some ⟨w.heap.size, 0, none⟩))).run Tryz.prog W = .ok (.agg m.cells.toArray) W ∧ W.cell? ⟨w.heap.size, 0, none⟩ = some (.int .i64 a) ∧ W.cell? ⟨w.heap.size, 70, none⟩ = some (.int .i64 x) ∧ W.cell? ⟨w.heap.size, 106, none⟩ = some (.int .i64 t) ∧ W.cell? ⟨w.heap.size + 1, 34, none⟩ = some (.bool true))) (by kernel_rfl) ?_ (fun hHeld => ?_)
   ·
    exact hs0
   refine tk 0 (h := ?_)
   refine tk 1 (h := ?_)
   refine tk 2 (h := ?_)
   refine tk 3 (h := ?_)
   have hst := storeM h HX.out.a zeroM_size
   have HX := Lib.hid (HX.out.putA m.cells.toArray)
   refine rd 4 (h := fun K hK => ?_)
   go_simp
   clear hst
   refine so hK (by (try dsimp only); (exact HS.out _ _ _ HX.out)) (h := fun hHeld => ?_)
   clear hK K
   have hst := run_sstR 0 a 0 HX.out.b zeroR_size
   have HX := Lib.hid (HX.out.putB #[.int .i64 0, .int .i64 a, .int .i64 0])
   refine rd 5 (h := fun K hK => ?_)
   go_simp
   clear hst
   refine so hK (by (try dsimp only); (exact HS.out _ _ _ HX.out)) (h := fun hHeld => ?_)
   clear hK K
   refine wpAnyH_done (by kernel_rfl) ?_ _
   try simp only [Act.put, List.getElem_toArray, List.getElem_cons_succ, List.getElem_cons_zero, List.setIfInBounds_toArray, List.set_cons_zero, List.set_cons_succ]
   go_wp2_with fail
   refine bodyPost_ret (results_cell_row2 rfl _ _ (w.heap.size + 2) (w.heap.size + 3) 44 37 m.cells.toArray #[.int .i64 0, .int .i64 a, .int .i64 0] (0, 0) (0, 0) _ _ rfl HX.out.a Tryz.underlying44 rfl (by rw [List.size_toArray, Mt.cells_len h]; exact info_sM107) rfl HX.out.b Tryz.underlying37 rfl info_sR) rfl ?_
   exact ⟨by rw [HR.out]; rfl, HX.out.bel⟩
 ·
  have hR : rbootD m wn = ⟨m, 0, a, 0⟩ := by
   unfold rbootD; rw [if_neg (by rw [HXX.out]; exact fun q => x3 q.1), HA.out]
  have HR := Lib.hid hR
  clear hR
  go_upto_region 2 with fail
  clear hs1 hs2 hs3 hs4 hs5
  have HX := Lib.hid HX.out.drew
  have hs0 := HS.out _ _ _ HX.out
  refine wp_region_held_drew (S := (fun W => (sldM (.pointer (some ⟨w.heap.size, 0, none⟩))).run Tryz.prog W = .ok (.agg m.cells.toArray) W ∧ W.cell? ⟨w.heap.size, 0, none⟩ = some (.int .i64 a) ∧ W.cell? ⟨w.heap.size, 70, none⟩ = some (.int .i64 x) ∧ W.cell? ⟨w.heap.size, 106, none⟩ = some (.int .i64 t) ∧ W.cell? ⟨w.heap.size + 1, 34, none⟩ = some (.bool wn))) (by kernel_rfl) ?_ (fun hHeld => ?_)
  ·
   exact hs0
  refine tk 0 (h := ?_)
  refine tk 1 (h := ?_)
  refine tk 2 (h := ?_)
  refine tk 3 (h := ?_)
  have hst := storeM h HX.out.a zeroM_size
  have HX := Lib.hid (HX.out.putA m.cells.toArray)
  refine rd 4 (h := fun K hK => ?_)
  go_simp
  clear hst
  refine so hK (by (try dsimp only); (exact HS.out _ _ _ HX.out)) (h := fun hHeld => ?_)
  clear hK K
  have hst := run_sstR 0 a 0 HX.out.b zeroR_size
  have HX := Lib.hid (HX.out.putB #[.int .i64 0, .int .i64 a, .int .i64 0])
  refine rd 5 (h := fun K hK => ?_)
  go_simp
  clear hst
  refine so hK (by (try dsimp only); (exact HS.out _ _ _ HX.out)) (h := fun hHeld => ?_)
  clear hK K
  refine wpAnyH_done (by kernel_rfl) ?_ _
  try simp only [Act.put, List.getElem_toArray, List.getElem_cons_succ, List.getElem_cons_zero, List.setIfInBounds_toArray, List.set_cons_zero, List.set_cons_succ]
  go_wp2_with fail
  refine bodyPost_ret (results_cell_row2 rfl _ _ (w.heap.size + 2) (w.heap.size + 3) 44 37 m.cells.toArray #[.int .i64 0, .int .i64 a, .int .i64 0] (0, 0) (0, 0) _ _ rfl HX.out.a Tryz.underlying44 rfl (by rw [List.size_toArray, Mt.cells_len h]; exact info_sM107) rfl HX.out.b Tryz.underlying37 rfl info_sR) rfl ?_
  exact ⟨by rw [HR.out]; rfl, HX.out.bel⟩
end Go.Proofs.YtpafenlcgcenlaaGreatDoor
namespace Go.Proofs.YtpafenlcgcenlaaGreatDoor
open Go Go.RowKit
set_option linter.unusedVariables false
set_option linter.unusedSimpArgs false
attribute [local go_sem ↓] sldI_seal sldM_seal sstM_seal sstI_seal sldF_seal sldQ_seal sldR_seal sstR_seal sldD_seal
def rlateD (m : Mt) (wn : Bool) (k : Int) : Ch :=
 if (k = 8 ∧ (m.ph = 3 ∨ m.ph = 0)) ∨ (k ≠ 8 ∧ m.ph ≠ 3) ∨ (k = 6 ∧ m.tr = 2) then ⟨m, 11, 0, 0⟩
 else if wn = true then ⟨m, 5, 0, 0⟩
 else ⟨if k = 6 then ({ m with mn := m.vconf, act := 1 - m.act } : Mt).idle else if k = 7 then m.alone.idle else m.idle, 0, 0, 0⟩
set_option maxRecDepth 100000 in
set_option maxHeartbeats 8000000 in
theorem rlate_c (w : World) (m : Mt) (h : m.Ok) (hact : m.act = 0 ∨ m.act = 1) (qk qn : Int) (hk : qk = 6 ∨ qk = 7 ∨ qk = 8) (SB : Option Addr) (sl sc : Nat) (f : Fc) (hf : f.d.length = 32) :
  Calls Tryz.prog 78 #[.agg m.cells.toArray, .agg #[.int .i64 qk, .int .i64 qn, .slice SB sl sc], .agg f.cells.toArray] w fun e w' => e = .returned (rlateD m f.wn qk).res ∧ Below w.heap.size w w' := by
 have hX0 := fr5 w m #[.int .i64 qk, .int .i64 qn, .slice SB sl sc] f.cells.toArray
 have hfc : ∀ (W : World) (g : Nat), Blk W g 78 f.cells.toArray → W.cell? ⟨g, 0, none⟩ = Option.some (.bool f.nm) ∧ W.cell? ⟨g, 1, none⟩ = Option.some (.bool f.tg) ∧ W.cell? ⟨g, 34, none⟩ = Option.some (.bool f.wn) ∧ (sldD (.pointer (some ⟨g, 2, none⟩))).run Tryz.prog W = .ok (.agg (f.d.map u8v).toArray) W := fun W g hB =>
  ⟨by rw [hB.cell, List.getElem?_toArray, Fc.c0], by rw [hB.cell, List.getElem?_toArray, Fc.c1], by rw [hB.cell, List.getElem?_toArray, Fc.c34 hf], run_sldD (by rw [List.length_map, hf]) (by have r := hB.range 2 32 (by rw [Fc.cells_len hf]; omega); rw [Fc.c_d hf] at r; exact r)⟩
 have hfl : ∀ (W : World) (g : Nat), Blk W g 78 f.cells.toArray → (sldF (.pointer (some ⟨g, 0, none⟩))).run Tryz.prog W = .ok (.agg f.cells.toArray) W := fun W g hB => run_sldF (Fc.cells_len hf) hB.whole
 obtain ⟨FA, hFA⟩ : ∃ FA, f.cells.toArray = FA := ⟨_, rfl⟩
 simp only [hFA] at hX0 hfc hfl ⊢
 obtain ⟨x, hx⟩ : ∃ x, m.ph = x := ⟨_, rfl⟩
 obtain ⟨a, ha⟩ : ∃ a, m.act = a := ⟨_, rfl⟩
 obtain ⟨g, hg⟩ : ∃ g, m.got = g := ⟨_, rfl⟩
 obtain ⟨t, ht⟩ : ∃ t, m.tr = t := ⟨_, rfl⟩
 obtain ⟨s, hs⟩ : ∃ s, m.cm.s = s := ⟨_, rfl⟩
 obtain ⟨wn, hwn⟩ : ∃ wn, f.wn = wn := ⟨_, rfl⟩
 obtain ⟨nm, hnm⟩ : ∃ nm, f.nm = nm := ⟨_, rfl⟩
 obtain ⟨tg, htg⟩ : ∃ tg, f.tg = tg := ⟨_, rfl⟩
 rw [hwn] at hfc
 rw [hnm, htg] at hfc
 have hS : ∀ W RA RB, Fr w W w.heap.size (w.heap.size + 1) (w.heap.size + 2) (w.heap.size + 3) (w.heap.size + 4) 34 m #[.int .i64 qk, .int .i64 qn, .slice SB sl sc] FA RA RB →
   (sldM (.pointer (some ⟨w.heap.size, 0, none⟩))).run Tryz.prog W = .ok (.agg m.cells.toArray) W := fun W RA RB hX => run_sldM (Mt.cells_len h) hX.m.whole
 have hC : ∀ W RA RB, Fr w W w.heap.size (w.heap.size + 1) (w.heap.size + 2) (w.heap.size + 3) (w.heap.size + 4) 34 m #[.int .i64 qk, .int .i64 qn, .slice SB sl sc] FA RA RB →
   (W.cell? ⟨w.heap.size, 0, none⟩ = some (.int .i64 a) ∧ W.cell? ⟨w.heap.size, 70, none⟩ = some (.int .i64 x) ∧ W.cell? ⟨w.heap.size, 105, none⟩ = some (.int .i64 g) ∧ W.cell? ⟨w.heap.size, 106, none⟩ = some (.int .i64 t) ∧ W.cell? ⟨w.heap.size, 72, none⟩ = some (.int .i64 s)) ∧
   (W.cell? ⟨w.heap.size + 1, 0, none⟩ = some (.int .i64 qk) ∧ W.cell? ⟨w.heap.size + 1, 1, none⟩ = some (.int .i64 qn) ∧ W.cell? ⟨w.heap.size + 1, 2, none⟩ = some (.slice SB sl sc)) ∧
   W.cell? ⟨w.heap.size + 2, 0, none⟩ = some (.bool nm) ∧ W.cell? ⟨w.heap.size + 2, 1, none⟩ = some (.bool tg) ∧ W.cell? ⟨w.heap.size + 2, 34, none⟩ = some (.bool wn) ∧ (sldD (.pointer (some ⟨w.heap.size + 2, 2, none⟩))).run Tryz.prog W = .ok (.agg (f.d.map u8v).toArray) W := fun W RA RB hX => by
  obtain ⟨k0, _, k70, k105, k106, _⟩ := mall h hX.m a _ x g t ha rfl hx hg ht
  exact ⟨⟨k0, k70, k105, k106, by rw [hX.m.cell, List.getElem?_toArray, Mt.c72 h, hs]⟩, ⟨hX.q.cell 0, hX.q.cell 1, hX.q.cell 2⟩, hfc _ _ hX.f⟩
 have HS := Lib.hid hS
 have HC := Lib.hid hC
 have HFL := Lib.hid hfl
 have h1a : IntKind.i64.wrap (1 - a) = 1 - a := IntWalk.i64_in _ (by omega)
 have hcf : ∀ W, Calls Tryz.prog 128 #[.agg m.cells.toArray] W fun e w' => e = .returned (.int .i64 m.vconf) ∧ Below W.heap.size W w' := fun W => rconf_c W m h hact
 obtain ⟨V, hV⟩ : ∃ V, m.vconf = V := ⟨_, rfl⟩
 rw [hV] at hcf
 have HCF := Lib.hid hcf
 have HV := Lib.hid hV
 have HA1 := Lib.hid h1a
 have HA := Lib.hid ha
 have HG := Lib.hid hg
 have HT := Lib.hid ht
 have HXX := Lib.hid hx
 have HSS := Lib.hid hs
 have HWN := Lib.hid hwn
 have HNM := Lib.hid hnm
 have HTG := Lib.hid htg
 have HACT := Lib.hid hact
 have HFA := Lib.hid hFA
 clear hS hC hfc hfl hFA ha hg ht hx hs hwn hnm htg hact hcf hV h1a
 go_enter Tryz.func78, Tryz.ntmps78
 go_upto_region 1 with fail
 generalize ((((w.alloc (.cells m.cells.toArray 44)).alloc (.cells #[.int .i64 qk, .int .i64 qn, .slice SB sl sc] 34)).alloc (.cells FA 78)).alloc (.cells Tryz.zeroCells44 44)).alloc (.cells #[.int .i64 0, .int .i64 0, .int .i64 0] 37) = W1 at hX0 ⊢
 have HX := Lib.hid hX0
 clear hX0
 obtain ⟨⟨c0, c70, c105, c106, c72⟩, ⟨q0, q1, q2⟩, f0, f1, f34, fd⟩ := HC.out _ _ _ HX.out
 rcases hk with hk | hk | hk
 ·
  subst hk
  by_cases x3 : x = 3
  ·
   by_cases t2 : t = 2
   ·
    have hR : rlateD m f.wn 6 = ⟨m, 11, 0, 0⟩ := by
     unfold rlateD; rw [HXX.out, HT.out, HWN.out]; rw [if_pos (by omega)]
    have HR := Lib.hid hR
    clear hR
    go_upto_region 3 with fail
    clear c0 c70 c105 c106 c72 q0 q1 q2 f0 f1 f34 fd
    have HX := Lib.hid HX.out.drew
    have hs0 := HS.out _ _ _ HX.out
    refine wp_region_held_drew (S := (fun W => (sldM (.pointer (some ⟨w.heap.size, 0, none⟩))).run Tryz.prog W = .ok (.agg m.cells.toArray) W)) (by kernel_rfl) ?_ (fun hHeld => ?_)
    ·
     exact hs0
    refine tk 0 (h := ?_)
    refine rd 1 (h := fun K hK => ?_)
    go_simp
    refine (rerr_c 11 _).mono ?_; rintro e w9 ⟨rfl, hb9⟩; have HX := Lib.hid (HX.out.later hb9); clear hb9
    go_wp2_with fail
    refine so hK (by (try dsimp only); (exact HS.out _ _ _ HX.out)) (h := fun hHeld => ?_)
    clear hK K
    have hst := storeM h HX.out.a zeroM_size
    have HX := Lib.hid (HX.out.putA m.cells.toArray)
    refine rd 2 (h := fun K hK => ?_)
    go_simp
    clear hst
    refine so hK (by (try dsimp only); (exact HS.out _ _ _ HX.out)) (h := fun hHeld => ?_)
    clear hK K
    have hst := run_sstR 11 0 0 HX.out.b zeroR_size
    have HX := Lib.hid (HX.out.putB #[.int .i64 11, .int .i64 0, .int .i64 0])
    refine rd 3 (h := fun K hK => ?_)
    go_simp
    clear hst
    refine so hK (by (try dsimp only); (exact HS.out _ _ _ HX.out)) (h := fun hHeld => ?_)
    clear hK K
    refine wpAnyH_done (by kernel_rfl) ?_ _
    try simp only [Act.put, List.getElem_toArray, List.getElem_cons_succ, List.getElem_cons_zero, List.setIfInBounds_toArray, List.set_cons_zero, List.set_cons_succ]
    go_wp2_with fail
    refine bodyPost_ret (results_cell_row2 rfl _ _ (w.heap.size + 3) (w.heap.size + 4) 44 37 m.cells.toArray #[.int .i64 11, .int .i64 0, .int .i64 0] (0, 0) (0, 0) _ _ rfl HX.out.a Tryz.underlying44 rfl (by rw [List.size_toArray, Mt.cells_len h]; exact info_sM107) rfl HX.out.b Tryz.underlying37 rfl info_sR) rfl ?_
    exact ⟨by rw [HR.out]; rfl, HX.out.bel⟩
   ·
    cases wn
    ·
     have hR : rlateD m f.wn 6 = ⟨({ m with mn := V, act := 1 - a } : Mt).idle, 0, 0, 0⟩ := by
      unfold rlateD; rw [HXX.out, HT.out, HWN.out]; rw [if_neg (by omega), if_neg (by simp), if_pos rfl, HV.out, HA.out]
     have HR := Lib.hid hR
     clear hR
     go_upto_region 8 with fail
     clear c0 c70 c105 c106 c72 q0 q1 q2 f0 f1 f34 fd
     have hld := HS.out _ _ _ HX.out
     go_wp2_with fail
     refine (HCF.out _).mono ?_
     rintro e w3 ⟨rfl, hb3⟩
     have HX := Lib.hid (HX.out.later hb3)
     clear hb3 hld
     have o0 : ({ m with mn := V } : Mt).Ok := ⟨h.d0, h.d1, h.d2, h.act⟩
     obtain ⟨u, hu⟩ := HX.out.m.some h 69 (by omega)
     have hfz := HX.out.m.frozen 69
     have HX2 := Lib.hid (HX.out.set (HX.out.m.setMin h V))
     clear HX
     go_upto_region 9 with fail
     have hX2 := HX2.out
     clear HX2 hu hfz
     generalize World.setCell _ _ _ = W4 at hX2 ⊢
     have c0 := (mall o0 hX2.m a _ _ _ _ HA.out rfl rfl rfl rfl).1
     have hfz := hX2.m.frozen 0
     have hX3 := hX2.set (hX2.m.setAct (1 - a))
     have h1a := HA1.out
     have HX2 := Lib.hid hX3
     clear hX2 hX3
     go_upto_region 12 with fail
     have hX2 := HX2.out
     clear HX2 c0 hfz h1a
     generalize World.setCell _ _ _ = W5 at hX2 ⊢
     have ha01 : a = 0 ∨ a = 1 := HA.out ▸ HACT.out
     have om : ({ m with mn := V, act := 1 - a } : Mt).Ok := ⟨h.d0, h.d1, h.d2, by constructor <;> dsimp only <;> omega⟩
     have hX3 : Fr w _ w.heap.size (w.heap.size + 1) (w.heap.size + 2) (w.heap.size + 3) (w.heap.size + 4) 34 ({ m with mn := V, act := 1 - a } : Mt) _ _ _ _ := hX2
     obtain ⟨m2, hm2⟩ : ∃ m2 : Mt, { m with mn := V, act := 1 - a } = m2 := ⟨_, rfl⟩
     rw [hm2] at hX3 om
     have HX := Lib.hid hX3
     have HM2 := Lib.hid hm2
     clear hX2 hX3 hm2
     have o1 : ({ m2 with ph := 0 } : Mt).Ok := ⟨om.d0, om.d1, om.d2, om.act⟩
     have o2 : ({ m2 with ph := 0, cm := Img.zero } : Mt).Ok := ⟨om.d0, om.d1, rfl, om.act⟩
     have o3 : ({ m2 with ph := 0, cm := Img.zero, got := 0 } : Mt).Ok := ⟨om.d0, om.d1, rfl, om.act⟩
     have B1 := HX.out.set (HX.out.m.setPhase om 0)
     have hst := run_sstI B1.m 71 (by rw [List.size_toArray, Mt.cells_len o1]; omega) Img.zero rfl
     rw [← zeroI_eq] at hst
     have B2 := B1.sets (B1.m.putCm o1 Img.zero rfl)
     have B3 := B2.set (B2.m.setGot o2 0)
     have B4 := B3.set (B3.m.setTrials o3 0)
     obtain ⟨u1, k1⟩ := HX.out.m.some om 70 (by omega)
     obtain ⟨u2, k2⟩ := B2.m.some o2 105 (by omega)
     obtain ⟨u3, k3⟩ := B3.m.some o3 106 (by omega)
     have z1 := HX.out.m.frozen 70
     have z2 := B2.m.frozen 105
     have z3 := B3.m.frozen 106
     have oi : m2.idle.Ok := Mt.idle_ok om
     have B5 : Fr w _ w.heap.size (w.heap.size + 1) (w.heap.size + 2) (w.heap.size + 3) (w.heap.size + 4) 34 m2.idle _ _ _ _ := B4
     obtain ⟨m4, hm4⟩ : ∃ m4, m2.idle = m4 := ⟨_, rfl⟩
     rw [hm4] at B5 oi
     generalize Img.zero.cells = ZC at *
     have HX5 := Lib.hid B5
     have HM4 := Lib.hid hm4
     clear B1 B2 B3 B4 B5 hm4 HX
     go_upto_region 16 with fail
     have hX5 := HX5.out
     clear HX5 hst k1 k2 k3 z1 z2 z3
     generalize World.setCell _ _ _ = W6 at hX5 ⊢
     have HX := Lib.hid hX5
     clear hX5
     have hld := run_sldM (Mt.cells_len oi) HX.out.m.whole
     have hst := storeM oi HX.out.a zeroM_size
     have hX5 := HX.out.putA m4.cells.toArray
     have hst2 := run_sstR 0 0 0 hX5.b zeroR_size
     have HX := Lib.hid (hX5.putB #[.int .i64 0, .int .i64 0, .int .i64 0])
     clear hX5
     go_wp2_with fail
     refine bodyPost_ret (results_cell_row2 rfl _ _ (w.heap.size + 3) (w.heap.size + 4) 44 37 m4.cells.toArray #[.int .i64 0, .int .i64 0, .int .i64 0] (0, 0) (0, 0) _ _ rfl HX.out.a Tryz.underlying44 rfl (by rw [List.size_toArray, Mt.cells_len oi]; exact info_sM107) rfl HX.out.b Tryz.underlying37 rfl info_sR) rfl ?_
     exact ⟨by rw [HR.out, HM2.out, HM4.out]; rfl, HX.out.bel⟩
    ·
     have hR : rlateD m f.wn 6 = ⟨m, 5, 0, 0⟩ := by
      unfold rlateD; rw [HXX.out, HT.out, HWN.out]; rw [if_neg (by omega), if_pos rfl]
     have HR := Lib.hid hR
     clear hR
     go_upto_region 5 with fail
     clear c0 c70 c105 c106 c72 q0 q1 q2 f0 f1 f34 fd
     have HX := Lib.hid HX.out.drew
     have hs0 := HS.out _ _ _ HX.out
     refine wp_region_held_drew (S := (fun W => (sldM (.pointer (some ⟨w.heap.size, 0, none⟩))).run Tryz.prog W = .ok (.agg m.cells.toArray) W)) (by kernel_rfl) ?_ (fun hHeld => ?_)
     ·
      exact hs0
     refine tk 0 (h := ?_)
     refine rd 1 (h := fun K hK => ?_)
     go_simp
     refine (rerr_c 5 _).mono ?_; rintro e w9 ⟨rfl, hb9⟩; have HX := Lib.hid (HX.out.later hb9); clear hb9
     go_wp2_with fail
     refine so hK (by (try dsimp only); (exact HS.out _ _ _ HX.out)) (h := fun hHeld => ?_)
     clear hK K
     have hst := storeM h HX.out.a zeroM_size
     have HX := Lib.hid (HX.out.putA m.cells.toArray)
     refine rd 2 (h := fun K hK => ?_)
     go_simp
     clear hst
     refine so hK (by (try dsimp only); (exact HS.out _ _ _ HX.out)) (h := fun hHeld => ?_)
     clear hK K
     have hst := run_sstR 5 0 0 HX.out.b zeroR_size
     have HX := Lib.hid (HX.out.putB #[.int .i64 5, .int .i64 0, .int .i64 0])
     refine rd 3 (h := fun K hK => ?_)
     go_simp
     clear hst
     refine so hK (by (try dsimp only); (exact HS.out _ _ _ HX.out)) (h := fun hHeld => ?_)
     clear hK K
     refine wpAnyH_done (by kernel_rfl) ?_ _
     try simp only [Act.put, List.getElem_toArray, List.getElem_cons_succ, List.getElem_cons_zero, List.setIfInBounds_toArray, List.set_cons_zero, List.set_cons_succ]
     go_wp2_with fail
     refine bodyPost_ret (results_cell_row2 rfl _ _ (w.heap.size + 3) (w.heap.size + 4) 44 37 m.cells.toArray #[.int .i64 5, .int .i64 0, .int .i64 0] (0, 0) (0, 0) _ _ rfl HX.out.a Tryz.underlying44 rfl (by rw [List.size_toArray, Mt.cells_len h]; exact info_sM107) rfl HX.out.b Tryz.underlying37 rfl info_sR) rfl ?_
     exact ⟨by rw [HR.out]; rfl, HX.out.bel⟩
  ·
   have hR : rlateD m f.wn 6 = ⟨m, 11, 0, 0⟩ := by
    unfold rlateD; rw [HXX.out, HT.out, HWN.out]; rw [if_pos (by omega)]
   have HR := Lib.hid hR
   clear hR
   go_upto_region 3 with fail
   clear c0 c70 c105 c106 c72 q0 q1 q2 f0 f1 f34 fd
   have HX := Lib.hid HX.out.drew
   have hs0 := HS.out _ _ _ HX.out
   refine wp_region_held_drew (S := (fun W => (sldM (.pointer (some ⟨w.heap.size, 0, none⟩))).run Tryz.prog W = .ok (.agg m.cells.toArray) W)) (by kernel_rfl) ?_ (fun hHeld => ?_)
   ·
    exact hs0
   refine tk 0 (h := ?_)
   refine rd 1 (h := fun K hK => ?_)
   go_simp
   refine (rerr_c 11 _).mono ?_; rintro e w9 ⟨rfl, hb9⟩; have HX := Lib.hid (HX.out.later hb9); clear hb9
   go_wp2_with fail
   refine so hK (by (try dsimp only); (exact HS.out _ _ _ HX.out)) (h := fun hHeld => ?_)
   clear hK K
   have hst := storeM h HX.out.a zeroM_size
   have HX := Lib.hid (HX.out.putA m.cells.toArray)
   refine rd 2 (h := fun K hK => ?_)
   go_simp
   clear hst
   refine so hK (by (try dsimp only); (exact HS.out _ _ _ HX.out)) (h := fun hHeld => ?_)
   clear hK K
   have hst := run_sstR 11 0 0 HX.out.b zeroR_size
   have HX := Lib.hid (HX.out.putB #[.int .i64 11, .int .i64 0, .int .i64 0])
   refine rd 3 (h := fun K hK => ?_)
   go_simp
   clear hst
   refine so hK (by (try dsimp only); (exact HS.out _ _ _ HX.out)) (h := fun hHeld => ?_)
   clear hK K
   refine wpAnyH_done (by kernel_rfl) ?_ _
   try simp only [Act.put, List.getElem_toArray, List.getElem_cons_succ, List.getElem_cons_zero, List.setIfInBounds_toArray, List.set_cons_zero, List.set_cons_succ]
   go_wp2_with fail
   refine bodyPost_ret (results_cell_row2 rfl _ _ (w.heap.size + 3) (w.heap.size + 4) 44 37 m.cells.toArray #[.int .i64 11, .int .i64 0, .int .i64 0] (0, 0) (0, 0) _ _ rfl HX.out.a Tryz.underlying44 rfl (by rw [List.size_toArray, Mt.cells_len h]; exact info_sM107) rfl HX.out.b Tryz.underlying37 rfl info_sR) rfl ?_
   exact ⟨by rw [HR.out]; rfl, HX.out.bel⟩
 ·
  subst hk
  by_cases x3 : x = 3
  ·
   cases wn
   ·
    have hR : rlateD m f.wn 7 = ⟨m.alone.idle, 0, 0, 0⟩ := by
     unfold rlateD; rw [HXX.out, HT.out, HWN.out]; rw [if_neg (by omega), if_neg (by simp), if_neg (by omega), if_pos rfl]
    have HR := Lib.hid hR
    clear hR
    go_upto_region 11 with fail
    have hact := HACT.out
    have hcc := HX.out.sets (HX.out.m.alone h hact)
    have ha01 : a = 0 ∨ a = 1 := HA.out ▸ hact
    have oal := Mt.alone_ok h
    clear c70 c105 c106 c72 q0 q1 q2 f0 f1 f34 fd
    rcases ha01 with q | q
    ·
     subst q
     have hst := run_sstI HX.out.m 35 (by rw [List.size_toArray, Mt.cells_len h]; omega) Img.zero rfl
     rw [← zeroI_eq] at hst
     rw [show (if m.act = 0 then 35 else 1) = 35 from by rw [HA.out] <;> rfl] at hcc
     obtain ⟨m2, hm2⟩ : ∃ m2 : Mt, m.alone = m2 := ⟨_, rfl⟩
     rw [hm2] at hcc oal
     generalize Img.zero.cells = ZC at *
     have HX2 := Lib.hid hcc
     have HM2 := Lib.hid hm2
     clear hcc hact hm2 HX
     go_upto_region 12 with fail
     have hX2 := HX2.out
     clear HX2 hst c0
     generalize World.setCells _ _ _ _ = W3 at hX2 ⊢
     have HX := Lib.hid hX2
     clear hX2
     have o1 : ({ m2 with ph := 0 } : Mt).Ok := ⟨oal.d0, oal.d1, oal.d2, oal.act⟩
     have o2 : ({ m2 with ph := 0, cm := Img.zero } : Mt).Ok := ⟨oal.d0, oal.d1, rfl, oal.act⟩
     have o3 : ({ m2 with ph := 0, cm := Img.zero, got := 0 } : Mt).Ok := ⟨oal.d0, oal.d1, rfl, oal.act⟩
     have B1 := HX.out.set (HX.out.m.setPhase oal 0)
     have hst := run_sstI B1.m 71 (by rw [List.size_toArray, Mt.cells_len o1]; omega) Img.zero rfl
     rw [← zeroI_eq] at hst
     have B2 := B1.sets (B1.m.putCm o1 Img.zero rfl)
     have B3 := B2.set (B2.m.setGot o2 0)
     have B4 := B3.set (B3.m.setTrials o3 0)
     obtain ⟨u1, k1⟩ := HX.out.m.some oal 70 (by omega)
     obtain ⟨u2, k2⟩ := B2.m.some o2 105 (by omega)
     obtain ⟨u3, k3⟩ := B3.m.some o3 106 (by omega)
     have z1 := HX.out.m.frozen 70
     have z2 := B2.m.frozen 105
     have z3 := B3.m.frozen 106
     have oi : m2.idle.Ok := Mt.idle_ok oal
     have B5 : Fr w _ w.heap.size (w.heap.size + 1) (w.heap.size + 2) (w.heap.size + 3) (w.heap.size + 4) 34 m2.idle _ _ _ _ := B4
     obtain ⟨m4, hm4⟩ : ∃ m4, m2.idle = m4 := ⟨_, rfl⟩
     rw [hm4] at B5 oi
     generalize Img.zero.cells = ZC at *
     have HX5 := Lib.hid B5
     have HM4 := Lib.hid hm4
     clear B1 B2 B3 B4 B5 hm4 HX
     go_upto_region 16 with fail
     have hX5 := HX5.out
     clear HX5 hst k1 k2 k3 z1 z2 z3
     generalize World.setCell _ _ _ = W6 at hX5 ⊢
     have HX := Lib.hid hX5
     clear hX5
     have hld := run_sldM (Mt.cells_len oi) HX.out.m.whole
     have hst := storeM oi HX.out.a zeroM_size
     have hX5 := HX.out.putA m4.cells.toArray
     have hst2 := run_sstR 0 0 0 hX5.b zeroR_size
     have HX := Lib.hid (hX5.putB #[.int .i64 0, .int .i64 0, .int .i64 0])
     clear hX5
     go_wp2_with fail
     refine bodyPost_ret (results_cell_row2 rfl _ _ (w.heap.size + 3) (w.heap.size + 4) 44 37 m4.cells.toArray #[.int .i64 0, .int .i64 0, .int .i64 0] (0, 0) (0, 0) _ _ rfl HX.out.a Tryz.underlying44 rfl (by rw [List.size_toArray, Mt.cells_len oi]; exact info_sM107) rfl HX.out.b Tryz.underlying37 rfl info_sR) rfl ?_
     exact ⟨by rw [HR.out, HM2.out, HM4.out]; rfl, HX.out.bel⟩
    ·
     subst q
     have hst := run_sstI HX.out.m 1 (by rw [List.size_toArray, Mt.cells_len h]; omega) Img.zero rfl
     rw [← zeroI_eq] at hst
     rw [show (if m.act = 0 then 35 else 1) = 1 from by rw [HA.out] <;> rfl] at hcc
     obtain ⟨m2, hm2⟩ : ∃ m2 : Mt, m.alone = m2 := ⟨_, rfl⟩
     rw [hm2] at hcc oal
     generalize Img.zero.cells = ZC at *
     have HX2 := Lib.hid hcc
     have HM2 := Lib.hid hm2
     clear hcc hact hm2 HX
     go_upto_region 12 with fail
     have hX2 := HX2.out
     clear HX2 hst c0
     generalize World.setCells _ _ _ _ = W3 at hX2 ⊢
     have HX := Lib.hid hX2
     clear hX2
     have o1 : ({ m2 with ph := 0 } : Mt).Ok := ⟨oal.d0, oal.d1, oal.d2, oal.act⟩
     have o2 : ({ m2 with ph := 0, cm := Img.zero } : Mt).Ok := ⟨oal.d0, oal.d1, rfl, oal.act⟩
     have o3 : ({ m2 with ph := 0, cm := Img.zero, got := 0 } : Mt).Ok := ⟨oal.d0, oal.d1, rfl, oal.act⟩
     have B1 := HX.out.set (HX.out.m.setPhase oal 0)
     have hst := run_sstI B1.m 71 (by rw [List.size_toArray, Mt.cells_len o1]; omega) Img.zero rfl
     rw [← zeroI_eq] at hst
     have B2 := B1.sets (B1.m.putCm o1 Img.zero rfl)
     have B3 := B2.set (B2.m.setGot o2 0)
     have B4 := B3.set (B3.m.setTrials o3 0)
     obtain ⟨u1, k1⟩ := HX.out.m.some oal 70 (by omega)
     obtain ⟨u2, k2⟩ := B2.m.some o2 105 (by omega)
     obtain ⟨u3, k3⟩ := B3.m.some o3 106 (by omega)
     have z1 := HX.out.m.frozen 70
     have z2 := B2.m.frozen 105
     have z3 := B3.m.frozen 106
     have oi : m2.idle.Ok := Mt.idle_ok oal
     have B5 : Fr w _ w.heap.size (w.heap.size + 1) (w.heap.size + 2) (w.heap.size + 3) (w.heap.size + 4) 34 m2.idle _ _ _ _ := B4
     obtain ⟨m4, hm4⟩ : ∃ m4, m2.idle = m4 := ⟨_, rfl⟩
     rw [hm4] at B5 oi
     generalize Img.zero.cells = ZC at *
     have HX5 := Lib.hid B5
     have HM4 := Lib.hid hm4
     clear B1 B2 B3 B4 B5 hm4 HX
     go_upto_region 16 with fail
     have hX5 := HX5.out
     clear HX5 hst k1 k2 k3 z1 z2 z3
     generalize World.setCell _ _ _ = W6 at hX5 ⊢
     have HX := Lib.hid hX5
     clear hX5
     have hld := run_sldM (Mt.cells_len oi) HX.out.m.whole
     have hst := storeM oi HX.out.a zeroM_size
     have hX5 := HX.out.putA m4.cells.toArray
     have hst2 := run_sstR 0 0 0 hX5.b zeroR_size
     have HX := Lib.hid (hX5.putB #[.int .i64 0, .int .i64 0, .int .i64 0])
     clear hX5
     go_wp2_with fail
     refine bodyPost_ret (results_cell_row2 rfl _ _ (w.heap.size + 3) (w.heap.size + 4) 44 37 m4.cells.toArray #[.int .i64 0, .int .i64 0, .int .i64 0] (0, 0) (0, 0) _ _ rfl HX.out.a Tryz.underlying44 rfl (by rw [List.size_toArray, Mt.cells_len oi]; exact info_sM107) rfl HX.out.b Tryz.underlying37 rfl info_sR) rfl ?_
     exact ⟨by rw [HR.out, HM2.out, HM4.out]; rfl, HX.out.bel⟩
   ·
    have hR : rlateD m f.wn 7 = ⟨m, 5, 0, 0⟩ := by
     unfold rlateD; rw [HXX.out, HT.out, HWN.out]; rw [if_neg (by omega), if_pos rfl]
    have HR := Lib.hid hR
    clear hR
    go_upto_region 5 with fail
    clear c0 c70 c105 c106 c72 q0 q1 q2 f0 f1 f34 fd
    have HX := Lib.hid HX.out.drew
    have hs0 := HS.out _ _ _ HX.out
    refine wp_region_held_drew (S := (fun W => (sldM (.pointer (some ⟨w.heap.size, 0, none⟩))).run Tryz.prog W = .ok (.agg m.cells.toArray) W)) (by kernel_rfl) ?_ (fun hHeld => ?_)
    ·
     exact hs0
    refine tk 0 (h := ?_)
    refine rd 1 (h := fun K hK => ?_)
    go_simp
    refine (rerr_c 5 _).mono ?_; rintro e w9 ⟨rfl, hb9⟩; have HX := Lib.hid (HX.out.later hb9); clear hb9
    go_wp2_with fail
    refine so hK (by (try dsimp only); (exact HS.out _ _ _ HX.out)) (h := fun hHeld => ?_)
    clear hK K
    have hst := storeM h HX.out.a zeroM_size
    have HX := Lib.hid (HX.out.putA m.cells.toArray)
    refine rd 2 (h := fun K hK => ?_)
    go_simp
    clear hst
    refine so hK (by (try dsimp only); (exact HS.out _ _ _ HX.out)) (h := fun hHeld => ?_)
    clear hK K
    have hst := run_sstR 5 0 0 HX.out.b zeroR_size
    have HX := Lib.hid (HX.out.putB #[.int .i64 5, .int .i64 0, .int .i64 0])
    refine rd 3 (h := fun K hK => ?_)
    go_simp
    clear hst
    refine so hK (by (try dsimp only); (exact HS.out _ _ _ HX.out)) (h := fun hHeld => ?_)
    clear hK K
    refine wpAnyH_done (by kernel_rfl) ?_ _
    try simp only [Act.put, List.getElem_toArray, List.getElem_cons_succ, List.getElem_cons_zero, List.setIfInBounds_toArray, List.set_cons_zero, List.set_cons_succ]
    go_wp2_with fail
    refine bodyPost_ret (results_cell_row2 rfl _ _ (w.heap.size + 3) (w.heap.size + 4) 44 37 m.cells.toArray #[.int .i64 5, .int .i64 0, .int .i64 0] (0, 0) (0, 0) _ _ rfl HX.out.a Tryz.underlying44 rfl (by rw [List.size_toArray, Mt.cells_len h]; exact info_sM107) rfl HX.out.b Tryz.underlying37 rfl info_sR) rfl ?_
    exact ⟨by rw [HR.out]; rfl, HX.out.bel⟩
  ·
   have hR : rlateD m f.wn 7 = ⟨m, 11, 0, 0⟩ := by
    unfold rlateD; rw [HXX.out, HT.out, HWN.out]; rw [if_pos (by omega)]
   have HR := Lib.hid hR
   clear hR
   go_upto_region 3 with fail
   clear c0 c70 c105 c106 c72 q0 q1 q2 f0 f1 f34 fd
   have HX := Lib.hid HX.out.drew
   have hs0 := HS.out _ _ _ HX.out
   refine wp_region_held_drew (S := (fun W => (sldM (.pointer (some ⟨w.heap.size, 0, none⟩))).run Tryz.prog W = .ok (.agg m.cells.toArray) W)) (by kernel_rfl) ?_ (fun hHeld => ?_)
   ·
    exact hs0
   refine tk 0 (h := ?_)
   refine rd 1 (h := fun K hK => ?_)
   go_simp
   refine (rerr_c 11 _).mono ?_; rintro e w9 ⟨rfl, hb9⟩; have HX := Lib.hid (HX.out.later hb9); clear hb9
   go_wp2_with fail
   refine so hK (by (try dsimp only); (exact HS.out _ _ _ HX.out)) (h := fun hHeld => ?_)
   clear hK K
   have hst := storeM h HX.out.a zeroM_size
   have HX := Lib.hid (HX.out.putA m.cells.toArray)
   refine rd 2 (h := fun K hK => ?_)
   go_simp
   clear hst
   refine so hK (by (try dsimp only); (exact HS.out _ _ _ HX.out)) (h := fun hHeld => ?_)
   clear hK K
   have hst := run_sstR 11 0 0 HX.out.b zeroR_size
   have HX := Lib.hid (HX.out.putB #[.int .i64 11, .int .i64 0, .int .i64 0])
   refine rd 3 (h := fun K hK => ?_)
   go_simp
   clear hst
   refine so hK (by (try dsimp only); (exact HS.out _ _ _ HX.out)) (h := fun hHeld => ?_)
   clear hK K
   refine wpAnyH_done (by kernel_rfl) ?_ _
   try simp only [Act.put, List.getElem_toArray, List.getElem_cons_succ, List.getElem_cons_zero, List.setIfInBounds_toArray, List.set_cons_zero, List.set_cons_succ]
   go_wp2_with fail
   refine bodyPost_ret (results_cell_row2 rfl _ _ (w.heap.size + 3) (w.heap.size + 4) 44 37 m.cells.toArray #[.int .i64 11, .int .i64 0, .int .i64 0] (0, 0) (0, 0) _ _ rfl HX.out.a Tryz.underlying44 rfl (by rw [List.size_toArray, Mt.cells_len h]; exact info_sM107) rfl HX.out.b Tryz.underlying37 rfl info_sR) rfl ?_
   exact ⟨by rw [HR.out]; rfl, HX.out.bel⟩
 ·
  subst hk
  by_cases x3 : x = 3
  ·
   have hR : rlateD m f.wn 8 = ⟨m, 11, 0, 0⟩ := by
    unfold rlateD; rw [HXX.out, HT.out, HWN.out]; rw [if_pos (by omega)]
   have HR := Lib.hid hR
   clear hR
   go_upto_region 3 with fail
   clear c0 c70 c105 c106 c72 q0 q1 q2 f0 f1 f34 fd
   have HX := Lib.hid HX.out.drew
   have hs0 := HS.out _ _ _ HX.out
   refine wp_region_held_drew (S := (fun W => (sldM (.pointer (some ⟨w.heap.size, 0, none⟩))).run Tryz.prog W = .ok (.agg m.cells.toArray) W)) (by kernel_rfl) ?_ (fun hHeld => ?_)
   ·
    exact hs0
   refine tk 0 (h := ?_)
   refine rd 1 (h := fun K hK => ?_)
   go_simp
   refine (rerr_c 11 _).mono ?_; rintro e w9 ⟨rfl, hb9⟩; have HX := Lib.hid (HX.out.later hb9); clear hb9
   go_wp2_with fail
   refine so hK (by (try dsimp only); (exact HS.out _ _ _ HX.out)) (h := fun hHeld => ?_)
   clear hK K
   have hst := storeM h HX.out.a zeroM_size
   have HX := Lib.hid (HX.out.putA m.cells.toArray)
   refine rd 2 (h := fun K hK => ?_)
   go_simp
   clear hst
   refine so hK (by (try dsimp only); (exact HS.out _ _ _ HX.out)) (h := fun hHeld => ?_)
   clear hK K
   have hst := run_sstR 11 0 0 HX.out.b zeroR_size
   have HX := Lib.hid (HX.out.putB #[.int .i64 11, .int .i64 0, .int .i64 0])
   refine rd 3 (h := fun K hK => ?_)
   go_simp
   clear hst
   refine so hK (by (try dsimp only); (exact HS.out _ _ _ HX.out)) (h := fun hHeld => ?_)
   clear hK K
   refine wpAnyH_done (by kernel_rfl) ?_ _
   try simp only [Act.put, List.getElem_toArray, List.getElem_cons_succ, List.getElem_cons_zero, List.setIfInBounds_toArray, List.set_cons_zero, List.set_cons_succ]
   go_wp2_with fail
   refine bodyPost_ret (results_cell_row2 rfl _ _ (w.heap.size + 3) (w.heap.size + 4) 44 37 m.cells.toArray #[.int .i64 11, .int .i64 0, .int .i64 0] (0, 0) (0, 0) _ _ rfl HX.out.a Tryz.underlying44 rfl (by rw [List.size_toArray, Mt.cells_len h]; exact info_sM107) rfl HX.out.b Tryz.underlying37 rfl info_sR) rfl ?_
   exact ⟨by rw [HR.out]; rfl, HX.out.bel⟩
  ·
   by_cases x0 : x = 0
   ·
    have hR : rlateD m f.wn 8 = ⟨m, 11, 0, 0⟩ := by
     unfold rlateD; rw [HXX.out, HT.out, HWN.out]; rw [if_pos (by omega)]
    have HR := Lib.hid hR
    clear hR
    go_upto_region 3 with fail
    clear c0 c70 c105 c106 c72 q0 q1 q2 f0 f1 f34 fd
    have HX := Lib.hid HX.out.drew
    have hs0 := HS.out _ _ _ HX.out
    refine wp_region_held_drew (S := (fun W => (sldM (.pointer (some ⟨w.heap.size, 0, none⟩))).run Tryz.prog W = .ok (.agg m.cells.toArray) W)) (by kernel_rfl) ?_ (fun hHeld => ?_)
    ·
     exact hs0
    refine tk 0 (h := ?_)
    refine rd 1 (h := fun K hK => ?_)
    go_simp
    refine (rerr_c 11 _).mono ?_; rintro e w9 ⟨rfl, hb9⟩; have HX := Lib.hid (HX.out.later hb9); clear hb9
    go_wp2_with fail
    refine so hK (by (try dsimp only); (exact HS.out _ _ _ HX.out)) (h := fun hHeld => ?_)
    clear hK K
    have hst := storeM h HX.out.a zeroM_size
    have HX := Lib.hid (HX.out.putA m.cells.toArray)
    refine rd 2 (h := fun K hK => ?_)
    go_simp
    clear hst
    refine so hK (by (try dsimp only); (exact HS.out _ _ _ HX.out)) (h := fun hHeld => ?_)
    clear hK K
    have hst := run_sstR 11 0 0 HX.out.b zeroR_size
    have HX := Lib.hid (HX.out.putB #[.int .i64 11, .int .i64 0, .int .i64 0])
    refine rd 3 (h := fun K hK => ?_)
    go_simp
    clear hst
    refine so hK (by (try dsimp only); (exact HS.out _ _ _ HX.out)) (h := fun hHeld => ?_)
    clear hK K
    refine wpAnyH_done (by kernel_rfl) ?_ _
    try simp only [Act.put, List.getElem_toArray, List.getElem_cons_succ, List.getElem_cons_zero, List.setIfInBounds_toArray, List.set_cons_zero, List.set_cons_succ]
    go_wp2_with fail
    refine bodyPost_ret (results_cell_row2 rfl _ _ (w.heap.size + 3) (w.heap.size + 4) 44 37 m.cells.toArray #[.int .i64 11, .int .i64 0, .int .i64 0] (0, 0) (0, 0) _ _ rfl HX.out.a Tryz.underlying44 rfl (by rw [List.size_toArray, Mt.cells_len h]; exact info_sM107) rfl HX.out.b Tryz.underlying37 rfl info_sR) rfl ?_
    exact ⟨by rw [HR.out]; rfl, HX.out.bel⟩
   ·
    have b3 : (x == 3) = false := by simpa using x3
    have b0 : (x == 0) = false := by simpa using x0
    cases wn
    ·
     have hR : rlateD m f.wn 8 = ⟨m.idle, 0, 0, 0⟩ := by
      unfold rlateD; rw [HXX.out, HT.out, HWN.out]; rw [if_neg (by omega), if_neg (by simp), if_neg (by omega), if_neg (by omega)]
     have HR := Lib.hid hR
     clear hR
     go_upto_region 12 with fail
     clear c0 c70 c105 c106 c72 q0 q1 q2 f0 f1 f34 fd
     have o1 : ({ m with ph := 0 } : Mt).Ok := ⟨h.d0, h.d1, h.d2, h.act⟩
     have o2 : ({ m with ph := 0, cm := Img.zero } : Mt).Ok := ⟨h.d0, h.d1, rfl, h.act⟩
     have o3 : ({ m with ph := 0, cm := Img.zero, got := 0 } : Mt).Ok := ⟨h.d0, h.d1, rfl, h.act⟩
     have B1 := HX.out.set (HX.out.m.setPhase h 0)
     have hst := run_sstI B1.m 71 (by rw [List.size_toArray, Mt.cells_len o1]; omega) Img.zero rfl
     rw [← zeroI_eq] at hst
     have B2 := B1.sets (B1.m.putCm o1 Img.zero rfl)
     have B3 := B2.set (B2.m.setGot o2 0)
     have B4 := B3.set (B3.m.setTrials o3 0)
     obtain ⟨u1, k1⟩ := HX.out.m.some h 70 (by omega)
     obtain ⟨u2, k2⟩ := B2.m.some o2 105 (by omega)
     obtain ⟨u3, k3⟩ := B3.m.some o3 106 (by omega)
     have z1 := HX.out.m.frozen 70
     have z2 := B2.m.frozen 105
     have z3 := B3.m.frozen 106
     have oi : m.idle.Ok := Mt.idle_ok h
     have B5 : Fr w _ w.heap.size (w.heap.size + 1) (w.heap.size + 2) (w.heap.size + 3) (w.heap.size + 4) 34 m.idle _ _ _ _ := B4
     obtain ⟨m4, hm4⟩ : ∃ m4, m.idle = m4 := ⟨_, rfl⟩
     rw [hm4] at B5 oi
     generalize Img.zero.cells = ZC at *
     have HX5 := Lib.hid B5
     have HM4 := Lib.hid hm4
     clear B1 B2 B3 B4 B5 hm4 HX
     go_upto_region 16 with fail
     have hX5 := HX5.out
     clear HX5 hst k1 k2 k3 z1 z2 z3
     generalize World.setCell _ _ _ = W6 at hX5 ⊢
     have HX := Lib.hid hX5
     clear hX5
     have hld := run_sldM (Mt.cells_len oi) HX.out.m.whole
     have hst := storeM oi HX.out.a zeroM_size
     have hX5 := HX.out.putA m4.cells.toArray
     have hst2 := run_sstR 0 0 0 hX5.b zeroR_size
     have HX := Lib.hid (hX5.putB #[.int .i64 0, .int .i64 0, .int .i64 0])
     clear hX5
     go_wp2_with fail
     refine bodyPost_ret (results_cell_row2 rfl _ _ (w.heap.size + 3) (w.heap.size + 4) 44 37 m4.cells.toArray #[.int .i64 0, .int .i64 0, .int .i64 0] (0, 0) (0, 0) _ _ rfl HX.out.a Tryz.underlying44 rfl (by rw [List.size_toArray, Mt.cells_len oi]; exact info_sM107) rfl HX.out.b Tryz.underlying37 rfl info_sR) rfl ?_
     exact ⟨by rw [HR.out, HM4.out]; rfl, HX.out.bel⟩
    ·
     have hR : rlateD m f.wn 8 = ⟨m, 5, 0, 0⟩ := by
      unfold rlateD; rw [HXX.out, HT.out, HWN.out]; rw [if_neg (by omega), if_pos rfl]
     have HR := Lib.hid hR
     clear hR
     go_upto_region 5 with fail
     clear c0 c70 c105 c106 c72 q0 q1 q2 f0 f1 f34 fd
     have HX := Lib.hid HX.out.drew
     have hs0 := HS.out _ _ _ HX.out
     refine wp_region_held_drew (S := (fun W => (sldM (.pointer (some ⟨w.heap.size, 0, none⟩))).run Tryz.prog W = .ok (.agg m.cells.toArray) W)) (by kernel_rfl) ?_ (fun hHeld => ?_)
     ·
      exact hs0
     refine tk 0 (h := ?_)
     refine rd 1 (h := fun K hK => ?_)
     go_simp
     refine (rerr_c 5 _).mono ?_; rintro e w9 ⟨rfl, hb9⟩; have HX := Lib.hid (HX.out.later hb9); clear hb9
     go_wp2_with fail
     refine so hK (by (try dsimp only); (exact HS.out _ _ _ HX.out)) (h := fun hHeld => ?_)
     clear hK K
     have hst := storeM h HX.out.a zeroM_size
     have HX := Lib.hid (HX.out.putA m.cells.toArray)
     refine rd 2 (h := fun K hK => ?_)
     go_simp
     clear hst
     refine so hK (by (try dsimp only); (exact HS.out _ _ _ HX.out)) (h := fun hHeld => ?_)
     clear hK K
     have hst := run_sstR 5 0 0 HX.out.b zeroR_size
     have HX := Lib.hid (HX.out.putB #[.int .i64 5, .int .i64 0, .int .i64 0])
     refine rd 3 (h := fun K hK => ?_)
     go_simp
     clear hst
     refine so hK (by (try dsimp only); (exact HS.out _ _ _ HX.out)) (h := fun hHeld => ?_)
     clear hK K
     refine wpAnyH_done (by kernel_rfl) ?_ _
     try simp only [Act.put, List.getElem_toArray, List.getElem_cons_succ, List.getElem_cons_zero, List.setIfInBounds_toArray, List.set_cons_zero, List.set_cons_succ]
     go_wp2_with fail
     refine bodyPost_ret (results_cell_row2 rfl _ _ (w.heap.size + 3) (w.heap.size + 4) 44 37 m.cells.toArray #[.int .i64 5, .int .i64 0, .int .i64 0] (0, 0) (0, 0) _ _ rfl HX.out.a Tryz.underlying44 rfl (by rw [List.size_toArray, Mt.cells_len h]; exact info_sM107) rfl HX.out.b Tryz.underlying37 rfl info_sR) rfl ?_
     exact ⟨by rw [HR.out]; rfl, HX.out.bel⟩
end Go.Proofs.YtpafenlcgcenlaaGreatDoor
namespace Go.Proofs.YtpafenlcgcenlaaGreatDoor
open Go Go.RowKit
set_option linter.unusedVariables false
set_option linter.unusedSimpArgs false
attribute [local go_sem ↓] sldI_seal sldM_seal sstM_seal sstI_seal sldF_seal sldQ_seal sldR_seal sstR_seal sldD_seal
def rcommT (m : Mt) : Mt := if m.act = 0 then { m with ph := 3, h1 := m.cm, cm := Img.zero, got := 0, tr := 2 } else { m with ph := 3, h0 := m.cm, cm := Img.zero, got := 0, tr := 2 }
def rearlyD (m : Mt) (f : Fc) (k n sl : Int) : Ch :=
 if (k = 4 ∧ m.ph ≠ 2) ∨ (k ≠ 4 ∧ m.ph ≠ 1) then ⟨m, 11, 0, 0⟩
 else if (k = 2 ∧ (n ≠ m.got ∨ m.got = chunksZ m.cm.s)) ∨ (k = 3 ∧ m.got ≠ chunksZ m.cm.s) then ⟨m, 12, 0, 0⟩
 else if k = 2 ∧ sl ≠ lenZ m.cm.s n then ⟨m, 6, 0, 0⟩
 else if k = 3 ∧ (f.d == m.cm.d) = false then ⟨m, 13, 0, 0⟩
 else if f.wn = true then ⟨m, 5, 0, 0⟩
 else ⟨if k = 2 then { m with got := m.got + 1 } else if k = 3 then { m with ph := 2 } else rcommT m, 0, 0, 0⟩
set_option maxRecDepth 100000 in
set_option maxHeartbeats 8000000 in
theorem rearly_c (w : World) (m : Mt) (h : m.Ok) (hact : m.act = 0 ∨ m.act = 1) (hsz : 0 ≤ m.cm.s ∧ m.cm.s ≤ 1920) (hgb : 0 ≤ m.got ∧ m.got ≤ 6) (qk qn : Int) (hk : qk = 2 ∨ qk = 3 ∨ qk = 4) (SB : Option Addr) (sl sc : Nat) (hsl : sl ≤ maxLen) (f : Fc) (hf : f.d.length = 32) :
  Calls Tryz.prog 76 #[.agg m.cells.toArray, .agg #[.int .i64 qk, .int .i64 qn, .slice SB sl sc], .agg f.cells.toArray] w fun e w' => e = .returned (rearlyD m f qk qn (sl : Int)).res ∧ Below w.heap.size w w' := by
 have hX0 := fr5 w m #[.int .i64 qk, .int .i64 qn, .slice SB sl sc] f.cells.toArray
 have hfc : ∀ (W : World) (g : Nat), Blk W g 78 f.cells.toArray → W.cell? ⟨g, 0, none⟩ = Option.some (.bool f.nm) ∧ W.cell? ⟨g, 1, none⟩ = Option.some (.bool f.tg) ∧ W.cell? ⟨g, 34, none⟩ = Option.some (.bool f.wn) ∧ (sldD (.pointer (some ⟨g, 2, none⟩))).run Tryz.prog W = .ok (.agg (f.d.map u8v).toArray) W := fun W g hB =>
  ⟨by rw [hB.cell, List.getElem?_toArray, Fc.c0], by rw [hB.cell, List.getElem?_toArray, Fc.c1], by rw [hB.cell, List.getElem?_toArray, Fc.c34 hf], run_sldD (by rw [List.length_map, hf]) (by have r := hB.range 2 32 (by rw [Fc.cells_len hf]; omega); rw [Fc.c_d hf] at r; exact r)⟩
 have hfl : ∀ (W : World) (g : Nat), Blk W g 78 f.cells.toArray → (sldF (.pointer (some ⟨g, 0, none⟩))).run Tryz.prog W = .ok (.agg f.cells.toArray) W := fun W g hB => run_sldF (Fc.cells_len hf) hB.whole
 obtain ⟨FA, hFA⟩ : ∃ FA, f.cells.toArray = FA := ⟨_, rfl⟩
 simp only [hFA] at hX0 hfc hfl ⊢
 obtain ⟨x, hx⟩ : ∃ x, m.ph = x := ⟨_, rfl⟩
 obtain ⟨a, ha⟩ : ∃ a, m.act = a := ⟨_, rfl⟩
 obtain ⟨g, hg⟩ : ∃ g, m.got = g := ⟨_, rfl⟩
 obtain ⟨t, ht⟩ : ∃ t, m.tr = t := ⟨_, rfl⟩
 obtain ⟨s, hs⟩ : ∃ s, m.cm.s = s := ⟨_, rfl⟩
 obtain ⟨wn, hwn⟩ : ∃ wn, f.wn = wn := ⟨_, rfl⟩
 obtain ⟨nm, hnm⟩ : ∃ nm, f.nm = nm := ⟨_, rfl⟩
 obtain ⟨tg, htg⟩ : ∃ tg, f.tg = tg := ⟨_, rfl⟩
 rw [hwn] at hfc
 rw [hnm, htg] at hfc
 have hS : ∀ W RA RB, Fr w W w.heap.size (w.heap.size + 1) (w.heap.size + 2) (w.heap.size + 3) (w.heap.size + 4) 34 m #[.int .i64 qk, .int .i64 qn, .slice SB sl sc] FA RA RB →
   (sldM (.pointer (some ⟨w.heap.size, 0, none⟩))).run Tryz.prog W = .ok (.agg m.cells.toArray) W := fun W RA RB hX => run_sldM (Mt.cells_len h) hX.m.whole
 have hC : ∀ W RA RB, Fr w W w.heap.size (w.heap.size + 1) (w.heap.size + 2) (w.heap.size + 3) (w.heap.size + 4) 34 m #[.int .i64 qk, .int .i64 qn, .slice SB sl sc] FA RA RB →
   (W.cell? ⟨w.heap.size, 0, none⟩ = some (.int .i64 a) ∧ W.cell? ⟨w.heap.size, 70, none⟩ = some (.int .i64 x) ∧ W.cell? ⟨w.heap.size, 105, none⟩ = some (.int .i64 g) ∧ W.cell? ⟨w.heap.size, 106, none⟩ = some (.int .i64 t) ∧ W.cell? ⟨w.heap.size, 72, none⟩ = some (.int .i64 s)) ∧
   (W.cell? ⟨w.heap.size + 1, 0, none⟩ = some (.int .i64 qk) ∧ W.cell? ⟨w.heap.size + 1, 1, none⟩ = some (.int .i64 qn) ∧ W.cell? ⟨w.heap.size + 1, 2, none⟩ = some (.slice SB sl sc)) ∧
   W.cell? ⟨w.heap.size + 2, 0, none⟩ = some (.bool nm) ∧ W.cell? ⟨w.heap.size + 2, 1, none⟩ = some (.bool tg) ∧ W.cell? ⟨w.heap.size + 2, 34, none⟩ = some (.bool wn) ∧ (sldD (.pointer (some ⟨w.heap.size + 2, 2, none⟩))).run Tryz.prog W = .ok (.agg (f.d.map u8v).toArray) W := fun W RA RB hX => by
  obtain ⟨k0, _, k70, k105, k106, _⟩ := mall h hX.m a _ x g t ha rfl hx hg ht
  exact ⟨⟨k0, k70, k105, k106, by rw [hX.m.cell, List.getElem?_toArray, Mt.c72 h, hs]⟩, ⟨hX.q.cell 0, hX.q.cell 1, hX.q.cell 2⟩, hfc _ _ hX.f⟩
 have HS := Lib.hid hS
 have HFL := Lib.hid hfl
 obtain ⟨K, hK⟩ : ∃ K, chunksZ s = K := ⟨_, rfl⟩
 obtain ⟨L, hL⟩ : ∃ L, lenZ s qn = L := ⟨_, rfl⟩
 obtain ⟨df, hdf⟩ : ∃ df, (!(f.d == m.cm.d)) = df := ⟨_, rfl⟩
 rw [hs] at hsz
 rw [hg] at hgb
 have hch : ∀ W, Calls Tryz.prog 42 #[.int .i64 s] W fun e w' => e = .returned (.int .i64 K) ∧ W = w' := fun W => hK ▸ rchunks12_c s (by omega) W
 have hln : ∀ W, Calls Tryz.prog 44 #[.int .i64 s, .int .i64 qn] W fun e w' => e = .returned (.int .i64 L) ∧ W = w' := fun W => hL ▸ rlen12_c s qn (by omega) W
 have hne : ∀ W, (binOp .neq 39 (.agg (f.d.map u8v).toArray) (.agg (m.cm.d.map u8v).toArray)).run Tryz.prog W = .ok (.bool df) W := fun W => hdf ▸ neqD f.d m.cm.d hf h.d2 W
 have hcd : ∀ W RA RB, Fr w W w.heap.size (w.heap.size + 1) (w.heap.size + 2) (w.heap.size + 3) (w.heap.size + 4) 34 m #[.int .i64 qk, .int .i64 qn, .slice SB sl sc] FA RA RB → (sldD (.pointer (some ⟨w.heap.size, 73, none⟩))).run Tryz.prog W = .ok (.agg (m.cm.d.map u8v).toArray) W := fun W RA RB hX =>
  run_sldD (by rw [List.length_map, h.d2]) (by have r := hX.m.range 73 32 (by rw [Mt.cells_len h]; omega); rw [Mt.c_cmd h] at r; exact r)
 have hci : ∀ W RA RB, Fr w W w.heap.size (w.heap.size + 1) (w.heap.size + 2) (w.heap.size + 3) (w.heap.size + 4) 34 m #[.int .i64 qk, .int .i64 qn, .slice SB sl sc] FA RA RB → (sldI (.pointer (some ⟨w.heap.size, 71, none⟩))).run Tryz.prog W = .ok (.agg m.cm.cells.toArray) W := fun W RA RB hX =>
  run_sldI (Img.cells_len h.d2) (by have r := hX.m.range 71 34 (by rw [Mt.cells_len h]; omega); rw [Mt.c_cm h] at r; exact r)
 have hS6 : ∀ W RA RB, Fr w W w.heap.size (w.heap.size + 1) (w.heap.size + 2) (w.heap.size + 3) (w.heap.size + 4) 34 m #[.int .i64 qk, .int .i64 qn, .slice SB sl sc] FA RA RB → W.cell? ⟨w.heap.size, 72, none⟩ = some (.int .i64 s) ∧ W.cell? ⟨w.heap.size + 1, 0, none⟩ = some (.int .i64 qk) ∧ W.cell? ⟨w.heap.size + 1, 1, none⟩ = some (.int .i64 qn) ∧ W.cell? ⟨w.heap.size + 1, 2, none⟩ = some (.slice SB sl sc) := fun W RA RB hX =>
  ⟨by rw [hX.m.cell, List.getElem?_toArray, Mt.c72 h, hs], hX.q.cell 0, hX.q.cell 1, hX.q.cell 2⟩
 obtain ⟨FD, hFD⟩ : ∃ FD, (f.d.map u8v).toArray = FD := ⟨_, rfl⟩
 obtain ⟨CD, hCD⟩ : ∃ CD, (m.cm.d.map u8v).toArray = CD := ⟨_, rfl⟩
 rw [hFD] at hC hne
 rw [hCD] at hne hcd
 have HC := Lib.hid hC
 have HCD := Lib.hid hcd
 have HCI := Lib.hid hci
 have HNE := Lib.hid hne
 have HCH := Lib.hid hch
 have HLN := Lib.hid hln
 have HK := Lib.hid hK
 have HLL := Lib.hid hL
 have HDF := Lib.hid hdf
 have HGB := Lib.hid hgb
 have HS6 := Lib.hid hS6
 have HA := Lib.hid ha
 have HG := Lib.hid hg
 have HT := Lib.hid ht
 have HXX := Lib.hid hx
 have HSS := Lib.hid hs
 have HWN := Lib.hid hwn
 have HNM := Lib.hid hnm
 have HTG := Lib.hid htg
 have HACT := Lib.hid hact
 have HFA := Lib.hid hFA
 clear hS hC hfc hfl hFA ha hg ht hx hs hwn hnm htg hact hK hL hdf hch hln hne hcd hci hFD hCD hgb hS6
 go_enter Tryz.func76, Tryz.ntmps76
 go_upto_region 1 with fail
 generalize ((((w.alloc (.cells m.cells.toArray 44)).alloc (.cells #[.int .i64 qk, .int .i64 qn, .slice SB sl sc] 34)).alloc (.cells FA 78)).alloc (.cells Tryz.zeroCells44 44)).alloc (.cells #[.int .i64 0, .int .i64 0, .int .i64 0] 37) = W1 at hX0 ⊢
 have HX := Lib.hid hX0
 clear hX0
 obtain ⟨⟨c0, c70, c105, c106, c72⟩, ⟨q0, q1, q2⟩, f0, f1, f34, fd⟩ := HC.out _ _ _ HX.out
 go_wp2_with fail
 refine (HCH.out _).mono ?_
 rintro e w9 ⟨rfl, rfl⟩
 rcases hk with hk | hk | hk
 ·
  subst hk
  by_cases x1 : x = 1
  ·
   by_cases qg : qn = g
   ·
    by_cases gK : g = K
    ·
     have bn : (qn != g) = false := by simpa using qg
     have bk : (g == K) = true := by simpa using gK
     have hR : rearlyD m f 2 qn (sl : Int) = ⟨m, 12, 0, 0⟩ := by
      unfold rearlyD; rw [HXX.out, HG.out, HSS.out, HK.out, HLL.out, HWN.out]; rw [if_neg (by omega), if_pos (by omega)]
     have HR := Lib.hid hR
     clear hR
     go_upto_region 5 with fail
     clear c0 c70 c105 c106 c72 q0 q1 q2 f0 f1 f34 fd
     have HX := Lib.hid HX.out.drew
     have hs0 := HS.out _ _ _ HX.out
     refine wp_region_held_drew (S := (fun W => (sldM (.pointer (some ⟨w.heap.size, 0, none⟩))).run Tryz.prog W = .ok (.agg m.cells.toArray) W)) (by kernel_rfl) ?_ (fun hHeld => ?_)
     ·
      exact hs0
     refine tk 0 (h := ?_)
     refine rd 1 (h := fun K hK => ?_)
     go_simp
     refine (rerr_c 12 _).mono ?_; rintro e w9 ⟨rfl, hb9⟩; have HX := Lib.hid (HX.out.later hb9); clear hb9
     go_wp2_with fail
     refine so hK (by (try dsimp only); (exact HS.out _ _ _ HX.out)) (h := fun hHeld => ?_)
     clear hK K
     have hst := storeM h HX.out.a zeroM_size
     have HX := Lib.hid (HX.out.putA m.cells.toArray)
     refine rd 2 (h := fun K hK => ?_)
     go_simp
     clear hst
     refine so hK (by (try dsimp only); (exact HS.out _ _ _ HX.out)) (h := fun hHeld => ?_)
     clear hK K
     have hst := run_sstR 12 0 0 HX.out.b zeroR_size
     have HX := Lib.hid (HX.out.putB #[.int .i64 12, .int .i64 0, .int .i64 0])
     refine rd 3 (h := fun K hK => ?_)
     go_simp
     clear hst
     refine so hK (by (try dsimp only); (exact HS.out _ _ _ HX.out)) (h := fun hHeld => ?_)
     clear hK K
     refine wpAnyH_done (by kernel_rfl) ?_ _
     try simp only [Act.put, List.getElem_toArray, List.getElem_cons_succ, List.getElem_cons_zero, List.setIfInBounds_toArray, List.set_cons_zero, List.set_cons_succ]
     go_wp2_with fail
     refine bodyPost_ret (results_cell_row2 rfl _ _ (w.heap.size + 3) (w.heap.size + 4) 44 37 m.cells.toArray #[.int .i64 12, .int .i64 0, .int .i64 0] (0, 0) (0, 0) _ _ rfl HX.out.a Tryz.underlying44 rfl (by rw [List.size_toArray, Mt.cells_len h]; exact info_sM107) rfl HX.out.b Tryz.underlying37 rfl info_sR) rfl ?_
     exact ⟨by rw [HR.out]; rfl, HX.out.bel⟩
    ·
     have bk : (g == K) = false := by simpa using gK
     have bn : (qn != g) = false := by simpa using qg
     have QG := Lib.hid qg
     clear qg
     go_upto_region 6 with fail
     clear c0 c70 c105 c106 c72 q0 q1 q2 f0 f1 f34 fd
     have HX := Lib.hid HX.out.drew
     have hs6 := HS6.out _ _ _ HX.out
     refine wp_region_held_drew (S := (fun W => W.cell? ⟨w.heap.size, 72, none⟩ = some (.int .i64 s) ∧ W.cell? ⟨w.heap.size + 1, 0, none⟩ = some (.int .i64 2) ∧ W.cell? ⟨w.heap.size + 1, 1, none⟩ = some (.int .i64 qn) ∧ W.cell? ⟨w.heap.size + 1, 2, none⟩ = some (.slice SB sl sc))) (by kernel_rfl) ?_ (fun hHeld => ?_)
     ·
      exact hs6
     generalize W1.drew = Wd at HX hHeld hs6 ⊢
     refine tk 0 (h := ?_)
     refine tk 1 (h := ?_)
     refine tk 2 (h := ?_)
     refine tk 3 (h := ?_)
     refine tk 4 (h := ?_)
     refine tk 5 (h := ?_)
     refine tk 6 (h := ?_)
     refine tk 7 (h := ?_)
     refine tk 8 (h := ?_)
     refine tk 9 (h := ?_)
     refine tk 10 (h := ?_)
     refine tk 11 (h := ?_)
     refine rd 12 (h := fun K hK => ?_)
     go_simp
     refine (HLN.out _).mono ?_; rintro e w9 ⟨rfl, rfl⟩
     go_wp2_with fail
     refine so hK (by (try dsimp only); (exact HS6.out _ _ _ HX.out)) (h := fun hHeld => ?_)
     clear hK K
     refine tk 13 (h := ?_)
     refine tk 14 (h := ?_)
     refine tk 15 (h := ?_)
     refine wpAnyH_done (by kernel_rfl) ?_ _
     try simp only [Act.put, List.getElem_toArray, List.getElem_cons_succ, List.getElem_cons_zero, List.setIfInBounds_toArray, List.set_cons_zero, List.set_cons_succ]
     clear hHeld hs6
     obtain ⟨⟨c0, c70, c105, c106, c72⟩, ⟨q0, q1, q2⟩, f0, f1, f34, fd⟩ := HC.out _ _ _ HX.out
     by_cases sL : (sl : Int) = L
     ·
      have bs : ((sl : Int) != L) = false := by simpa using sL
      cases wn
      ·
       have hR : rearlyD m f 2 qn (sl : Int) = ⟨{ m with got := g + 1 }, 0, 0, 0⟩ := by
        unfold rearlyD; rw [HXX.out, HG.out, HSS.out, HK.out, HLL.out, HWN.out]; rw [if_neg (by have := QG.out; omega), if_neg (by have := QG.out; omega), if_neg (by have := QG.out; omega), if_neg (by rintro ⟨q, _⟩; omega), if_neg (by simp), if_pos rfl]
       have HR := Lib.hid hR
       clear hR
       have hg1 : IntKind.i64.wrap (g + 1) = g + 1 := IntWalk.i64_in _ (by have := HGB.out; omega)
       go_upto_region 14 with fail
       clear c0 c70 c106 c72 q0 q1 q2 f0 f1 f34 fd
       obtain ⟨u, hu⟩ := HX.out.m.some h 105 (by have := QG.out; omega)
       have hfz := HX.out.m.frozen 105
       have HX2 := Lib.hid (HX.out.set (HX.out.m.setGot h (g + 1)))
       clear HX
       go_upto_region 23 with fail
       have hX2 := HX2.out
       clear HX2 hu hfz hg1 c105
       generalize World.setCell _ _ _ = W5 at hX2 ⊢
       obtain ⟨m2, hm2⟩ : ∃ m2 : Mt, { m with got := g + 1 } = m2 := ⟨_, rfl⟩
       have om : ({ m with got := g + 1 } : Mt).Ok := ⟨h.d0, h.d1, h.d2, h.act⟩
       have hX3 : Fr w _ w.heap.size (w.heap.size + 1) (w.heap.size + 2) (w.heap.size + 3) (w.heap.size + 4) 34 ({ m with got := g + 1 } : Mt) _ _ _ _ := hX2
       rw [hm2] at hX3 om
       have HX := Lib.hid hX3
       have HM2 := Lib.hid hm2
       clear hX2 hX3 hm2
       have hld := run_sldM (Mt.cells_len om) HX.out.m.whole
       have hst := storeM om HX.out.a zeroM_size
       have hX5 := HX.out.putA m2.cells.toArray
       have hst2 := run_sstR 0 0 0 hX5.b zeroR_size
       have HX := Lib.hid (hX5.putB #[.int .i64 0, .int .i64 0, .int .i64 0])
       clear hX5
       go_wp2_with fail
       refine bodyPost_ret (results_cell_row2 rfl _ _ (w.heap.size + 3) (w.heap.size + 4) 44 37 m2.cells.toArray #[.int .i64 0, .int .i64 0, .int .i64 0] (0, 0) (0, 0) _ _ rfl HX.out.a Tryz.underlying44 rfl (by rw [List.size_toArray, Mt.cells_len om]; exact info_sM107) rfl HX.out.b Tryz.underlying37 rfl info_sR) rfl ?_
       exact ⟨by rw [HR.out, HM2.out]; rfl, HX.out.bel⟩
      ·
       have hR : rearlyD m f 2 qn (sl : Int) = ⟨m, 5, 0, 0⟩ := by
        unfold rearlyD; rw [HXX.out, HG.out, HSS.out, HK.out, HLL.out, HWN.out]; rw [if_neg (by have := QG.out; omega), if_neg (by have := QG.out; omega), if_neg (by have := QG.out; omega), if_neg (by rintro ⟨q, _⟩; omega), if_pos rfl]
       have HR := Lib.hid hR
       clear hR
       go_upto_region 11 with fail
       clear c0 c70 c105 c106 c72 q0 q1 q2 f0 f1 f34 fd
       have HX := Lib.hid HX.out.drew
       have hs0 := HS.out _ _ _ HX.out
       refine wp_region_held_drew (S := (fun W => (sldM (.pointer (some ⟨w.heap.size, 0, none⟩))).run Tryz.prog W = .ok (.agg m.cells.toArray) W)) (by kernel_rfl) ?_ (fun hHeld => ?_)
       ·
        exact hs0
       refine tk 0 (h := ?_)
       refine rd 1 (h := fun K hK => ?_)
       go_simp
       refine (rerr_c 5 _).mono ?_; rintro e w9 ⟨rfl, hb9⟩; have HX := Lib.hid (HX.out.later hb9); clear hb9
       go_wp2_with fail
       refine so hK (by (try dsimp only); (exact HS.out _ _ _ HX.out)) (h := fun hHeld => ?_)
       clear hK K
       have hst := storeM h HX.out.a zeroM_size
       have HX := Lib.hid (HX.out.putA m.cells.toArray)
       refine rd 2 (h := fun K hK => ?_)
       go_simp
       clear hst
       refine so hK (by (try dsimp only); (exact HS.out _ _ _ HX.out)) (h := fun hHeld => ?_)
       clear hK K
       have hst := run_sstR 5 0 0 HX.out.b zeroR_size
       have HX := Lib.hid (HX.out.putB #[.int .i64 5, .int .i64 0, .int .i64 0])
       refine rd 3 (h := fun K hK => ?_)
       go_simp
       clear hst
       refine so hK (by (try dsimp only); (exact HS.out _ _ _ HX.out)) (h := fun hHeld => ?_)
       clear hK K
       refine wpAnyH_done (by kernel_rfl) ?_ _
       try simp only [Act.put, List.getElem_toArray, List.getElem_cons_succ, List.getElem_cons_zero, List.setIfInBounds_toArray, List.set_cons_zero, List.set_cons_succ]
       go_wp2_with fail
       refine bodyPost_ret (results_cell_row2 rfl _ _ (w.heap.size + 3) (w.heap.size + 4) 44 37 m.cells.toArray #[.int .i64 5, .int .i64 0, .int .i64 0] (0, 0) (0, 0) _ _ rfl HX.out.a Tryz.underlying44 rfl (by rw [List.size_toArray, Mt.cells_len h]; exact info_sM107) rfl HX.out.b Tryz.underlying37 rfl info_sR) rfl ?_
       exact ⟨by rw [HR.out]; rfl, HX.out.bel⟩
     ·
      have bs : ((sl : Int) != L) = true := by simpa using sL
      have hR : rearlyD m f 2 qn (sl : Int) = ⟨m, 6, 0, 0⟩ := by
       unfold rearlyD; rw [HXX.out, HG.out, HSS.out, HK.out, HLL.out, HWN.out]; rw [if_neg (by have := QG.out; omega), if_neg (by have := QG.out; omega), if_pos (by have := QG.out; omega)]
      have HR := Lib.hid hR
      clear hR
      go_upto_region 7 with fail
      clear c0 c70 c105 c106 c72 q0 q1 q2 f0 f1 f34 fd
      have HX := Lib.hid HX.out.drew
      have hs0 := HS.out _ _ _ HX.out
      refine wp_region_held_drew (S := (fun W => (sldM (.pointer (some ⟨w.heap.size, 0, none⟩))).run Tryz.prog W = .ok (.agg m.cells.toArray) W)) (by kernel_rfl) ?_ (fun hHeld => ?_)
      ·
       exact hs0
      refine tk 0 (h := ?_)
      refine rd 1 (h := fun K hK => ?_)
      go_simp
      refine (rerr_c 6 _).mono ?_; rintro e w9 ⟨rfl, hb9⟩; have HX := Lib.hid (HX.out.later hb9); clear hb9
      go_wp2_with fail
      refine so hK (by (try dsimp only); (exact HS.out _ _ _ HX.out)) (h := fun hHeld => ?_)
      clear hK K
      have hst := storeM h HX.out.a zeroM_size
      have HX := Lib.hid (HX.out.putA m.cells.toArray)
      refine rd 2 (h := fun K hK => ?_)
      go_simp
      clear hst
      refine so hK (by (try dsimp only); (exact HS.out _ _ _ HX.out)) (h := fun hHeld => ?_)
      clear hK K
      have hst := run_sstR 6 0 0 HX.out.b zeroR_size
      have HX := Lib.hid (HX.out.putB #[.int .i64 6, .int .i64 0, .int .i64 0])
      refine rd 3 (h := fun K hK => ?_)
      go_simp
      clear hst
      refine so hK (by (try dsimp only); (exact HS.out _ _ _ HX.out)) (h := fun hHeld => ?_)
      clear hK K
      refine wpAnyH_done (by kernel_rfl) ?_ _
      try simp only [Act.put, List.getElem_toArray, List.getElem_cons_succ, List.getElem_cons_zero, List.setIfInBounds_toArray, List.set_cons_zero, List.set_cons_succ]
      go_wp2_with fail
      refine bodyPost_ret (results_cell_row2 rfl _ _ (w.heap.size + 3) (w.heap.size + 4) 44 37 m.cells.toArray #[.int .i64 6, .int .i64 0, .int .i64 0] (0, 0) (0, 0) _ _ rfl HX.out.a Tryz.underlying44 rfl (by rw [List.size_toArray, Mt.cells_len h]; exact info_sM107) rfl HX.out.b Tryz.underlying37 rfl info_sR) rfl ?_
      exact ⟨by rw [HR.out]; rfl, HX.out.bel⟩
   ·
    have bn : (qn != g) = true := by simpa using qg
    have hR : rearlyD m f 2 qn (sl : Int) = ⟨m, 12, 0, 0⟩ := by
     unfold rearlyD; rw [HXX.out, HG.out, HSS.out, HK.out, HLL.out, HWN.out]; rw [if_neg (by omega), if_pos (by omega)]
    have HR := Lib.hid hR
    clear hR
    go_upto_region 5 with fail
    clear c0 c70 c105 c106 c72 q0 q1 q2 f0 f1 f34 fd
    have HX := Lib.hid HX.out.drew
    have hs0 := HS.out _ _ _ HX.out
    refine wp_region_held_drew (S := (fun W => (sldM (.pointer (some ⟨w.heap.size, 0, none⟩))).run Tryz.prog W = .ok (.agg m.cells.toArray) W)) (by kernel_rfl) ?_ (fun hHeld => ?_)
    ·
     exact hs0
    refine tk 0 (h := ?_)
    refine rd 1 (h := fun K hK => ?_)
    go_simp
    refine (rerr_c 12 _).mono ?_; rintro e w9 ⟨rfl, hb9⟩; have HX := Lib.hid (HX.out.later hb9); clear hb9
    go_wp2_with fail
    refine so hK (by (try dsimp only); (exact HS.out _ _ _ HX.out)) (h := fun hHeld => ?_)
    clear hK K
    have hst := storeM h HX.out.a zeroM_size
    have HX := Lib.hid (HX.out.putA m.cells.toArray)
    refine rd 2 (h := fun K hK => ?_)
    go_simp
    clear hst
    refine so hK (by (try dsimp only); (exact HS.out _ _ _ HX.out)) (h := fun hHeld => ?_)
    clear hK K
    have hst := run_sstR 12 0 0 HX.out.b zeroR_size
    have HX := Lib.hid (HX.out.putB #[.int .i64 12, .int .i64 0, .int .i64 0])
    refine rd 3 (h := fun K hK => ?_)
    go_simp
    clear hst
    refine so hK (by (try dsimp only); (exact HS.out _ _ _ HX.out)) (h := fun hHeld => ?_)
    clear hK K
    refine wpAnyH_done (by kernel_rfl) ?_ _
    try simp only [Act.put, List.getElem_toArray, List.getElem_cons_succ, List.getElem_cons_zero, List.setIfInBounds_toArray, List.set_cons_zero, List.set_cons_succ]
    go_wp2_with fail
    refine bodyPost_ret (results_cell_row2 rfl _ _ (w.heap.size + 3) (w.heap.size + 4) 44 37 m.cells.toArray #[.int .i64 12, .int .i64 0, .int .i64 0] (0, 0) (0, 0) _ _ rfl HX.out.a Tryz.underlying44 rfl (by rw [List.size_toArray, Mt.cells_len h]; exact info_sM107) rfl HX.out.b Tryz.underlying37 rfl info_sR) rfl ?_
    exact ⟨by rw [HR.out]; rfl, HX.out.bel⟩
  ·
   have hR : rearlyD m f 2 qn (sl : Int) = ⟨m, 11, 0, 0⟩ := by
    unfold rearlyD; rw [HXX.out, HG.out, HSS.out, HK.out, HLL.out, HWN.out]; rw [if_pos (by omega)]
   have HR := Lib.hid hR
   clear hR
   go_upto_region 3 with fail
   clear c0 c70 c105 c106 c72 q0 q1 q2 f0 f1 f34 fd
   have HX := Lib.hid HX.out.drew
   have hs0 := HS.out _ _ _ HX.out
   refine wp_region_held_drew (S := (fun W => (sldM (.pointer (some ⟨w.heap.size, 0, none⟩))).run Tryz.prog W = .ok (.agg m.cells.toArray) W)) (by kernel_rfl) ?_ (fun hHeld => ?_)
   ·
    exact hs0
   refine tk 0 (h := ?_)
   refine rd 1 (h := fun K hK => ?_)
   go_simp
   refine (rerr_c 11 _).mono ?_; rintro e w9 ⟨rfl, hb9⟩; have HX := Lib.hid (HX.out.later hb9); clear hb9
   go_wp2_with fail
   refine so hK (by (try dsimp only); (exact HS.out _ _ _ HX.out)) (h := fun hHeld => ?_)
   clear hK K
   have hst := storeM h HX.out.a zeroM_size
   have HX := Lib.hid (HX.out.putA m.cells.toArray)
   refine rd 2 (h := fun K hK => ?_)
   go_simp
   clear hst
   refine so hK (by (try dsimp only); (exact HS.out _ _ _ HX.out)) (h := fun hHeld => ?_)
   clear hK K
   have hst := run_sstR 11 0 0 HX.out.b zeroR_size
   have HX := Lib.hid (HX.out.putB #[.int .i64 11, .int .i64 0, .int .i64 0])
   refine rd 3 (h := fun K hK => ?_)
   go_simp
   clear hst
   refine so hK (by (try dsimp only); (exact HS.out _ _ _ HX.out)) (h := fun hHeld => ?_)
   clear hK K
   refine wpAnyH_done (by kernel_rfl) ?_ _
   try simp only [Act.put, List.getElem_toArray, List.getElem_cons_succ, List.getElem_cons_zero, List.setIfInBounds_toArray, List.set_cons_zero, List.set_cons_succ]
   go_wp2_with fail
   refine bodyPost_ret (results_cell_row2 rfl _ _ (w.heap.size + 3) (w.heap.size + 4) 44 37 m.cells.toArray #[.int .i64 11, .int .i64 0, .int .i64 0] (0, 0) (0, 0) _ _ rfl HX.out.a Tryz.underlying44 rfl (by rw [List.size_toArray, Mt.cells_len h]; exact info_sM107) rfl HX.out.b Tryz.underlying37 rfl info_sR) rfl ?_
   exact ⟨by rw [HR.out]; rfl, HX.out.bel⟩
 ·
  subst hk
  by_cases x1 : x = 1
  ·
   by_cases gK : g = K
   ·
    have bk : (g != K) = false := by simpa using gK
    go_upto_region 6 with fail
    clear c0 c70 c105 c106 c72 q0 q1 q2 f0 f1 f34 fd
    have HX := Lib.hid HX.out.drew
    have hs6 := HS6.out _ _ _ HX.out
    refine wp_region_held_drew (S := (fun W => W.cell? ⟨w.heap.size, 72, none⟩ = some (.int .i64 s) ∧ W.cell? ⟨w.heap.size + 1, 0, none⟩ = some (.int .i64 3) ∧ W.cell? ⟨w.heap.size + 1, 1, none⟩ = some (.int .i64 qn) ∧ W.cell? ⟨w.heap.size + 1, 2, none⟩ = some (.slice SB sl sc))) (by kernel_rfl) ?_ (fun hHeld => ?_)
    ·
     exact hs6
    generalize W1.drew = Wd at HX hHeld hs6 ⊢
    refine tk 0 (h := ?_)
    refine tk 1 (h := ?_)
    refine tk 2 (h := ?_)
    refine tk 3 (h := ?_)
    refine sk 4 (h := ?_)
    refine sk 5 (h := ?_)
    refine sk 6 (h := ?_)
    refine sk 7 (h := ?_)
    refine sk 8 (h := ?_)
    refine sk 9 (h := ?_)
    refine sk 10 (h := ?_)
    refine sk 11 (h := ?_)
    refine sk 12 (h := ?_)
    refine sk 13 (h := ?_)
    refine tk 14 (h := ?_)
    refine tk 15 (h := ?_)
    refine wpAnyH_done (by kernel_rfl) ?_ _
    try simp only [Act.put, List.getElem_toArray, List.getElem_cons_succ, List.getElem_cons_zero, List.setIfInBounds_toArray, List.set_cons_zero, List.set_cons_succ]
    clear hHeld hs6
    obtain ⟨⟨c0, c70, c105, c106, c72⟩, ⟨q0, q1, q2⟩, f0, f1, f34, fd⟩ := HC.out _ _ _ HX.out
    have hcd := HCD.out _ _ _ HX.out
    have hne := HNE.out
    cases df
    ·
     have hdq : (f.d == m.cm.d) = true := by have q := HDF.out; revert q; cases (f.d == m.cm.d) <;> simp
     cases wn
     ·
      have hR : rearlyD m f 3 qn (sl : Int) = ⟨{ m with ph := 2 }, 0, 0, 0⟩ := by
       unfold rearlyD; rw [HXX.out, HG.out, HSS.out, HK.out, HLL.out, HWN.out]; rw [if_neg (by omega), if_neg (by omega), if_neg (by omega), if_neg (by rintro ⟨_, q⟩; rw [hdq] at q; cases q), if_neg (by simp), if_neg (by omega), if_pos rfl]
      have HR := Lib.hid hR
      clear hR
      go_upto_region 16 with fail
      clear c0 c70 c105 c106 c72 q0 q1 q2 f0 f1 f34 fd
      clear hcd hne
      obtain ⟨u, hu⟩ := HX.out.m.some h 70 (by omega)
      have hfz := HX.out.m.frozen 70
      have HX2 := Lib.hid (HX.out.set (HX.out.m.setPhase h 2))
      clear HX
      go_upto_region 23 with fail
      have hX2 := HX2.out
      clear HX2 hu hfz 
      generalize World.setCell _ _ _ = W5 at hX2 ⊢
      obtain ⟨m2, hm2⟩ : ∃ m2 : Mt, { m with ph := 2 } = m2 := ⟨_, rfl⟩
      have om : ({ m with ph := 2 } : Mt).Ok := ⟨h.d0, h.d1, h.d2, h.act⟩
      have hX3 : Fr w _ w.heap.size (w.heap.size + 1) (w.heap.size + 2) (w.heap.size + 3) (w.heap.size + 4) 34 ({ m with ph := 2 } : Mt) _ _ _ _ := hX2
      rw [hm2] at hX3 om
      have HX := Lib.hid hX3
      have HM2 := Lib.hid hm2
      clear hX2 hX3 hm2
      have hld := run_sldM (Mt.cells_len om) HX.out.m.whole
      have hst := storeM om HX.out.a zeroM_size
      have hX5 := HX.out.putA m2.cells.toArray
      have hst2 := run_sstR 0 0 0 hX5.b zeroR_size
      have HX := Lib.hid (hX5.putB #[.int .i64 0, .int .i64 0, .int .i64 0])
      clear hX5
      go_wp2_with fail
      refine bodyPost_ret (results_cell_row2 rfl _ _ (w.heap.size + 3) (w.heap.size + 4) 44 37 m2.cells.toArray #[.int .i64 0, .int .i64 0, .int .i64 0] (0, 0) (0, 0) _ _ rfl HX.out.a Tryz.underlying44 rfl (by rw [List.size_toArray, Mt.cells_len om]; exact info_sM107) rfl HX.out.b Tryz.underlying37 rfl info_sR) rfl ?_
      exact ⟨by rw [HR.out, HM2.out]; rfl, HX.out.bel⟩
     ·
      have hR : rearlyD m f 3 qn (sl : Int) = ⟨m, 5, 0, 0⟩ := by
       unfold rearlyD; rw [HXX.out, HG.out, HSS.out, HK.out, HLL.out, HWN.out]; rw [if_neg (by omega), if_neg (by omega), if_neg (by omega), if_neg (by rintro ⟨_, q⟩; rw [hdq] at q; cases q), if_pos rfl]
      have HR := Lib.hid hR
      clear hR
      go_upto_region 11 with fail
      clear c0 c70 c105 c106 c72 q0 q1 q2 f0 f1 f34 fd
      have HX := Lib.hid HX.out.drew
      have hs0 := HS.out _ _ _ HX.out
      refine wp_region_held_drew (S := (fun W => (sldM (.pointer (some ⟨w.heap.size, 0, none⟩))).run Tryz.prog W = .ok (.agg m.cells.toArray) W)) (by kernel_rfl) ?_ (fun hHeld => ?_)
      ·
       exact hs0
      refine tk 0 (h := ?_)
      refine rd 1 (h := fun K hK => ?_)
      go_simp
      refine (rerr_c 5 _).mono ?_; rintro e w9 ⟨rfl, hb9⟩; have HX := Lib.hid (HX.out.later hb9); clear hb9
      go_wp2_with fail
      refine so hK (by (try dsimp only); (exact HS.out _ _ _ HX.out)) (h := fun hHeld => ?_)
      clear hK K
      have hst := storeM h HX.out.a zeroM_size
      have HX := Lib.hid (HX.out.putA m.cells.toArray)
      refine rd 2 (h := fun K hK => ?_)
      go_simp
      clear hst
      refine so hK (by (try dsimp only); (exact HS.out _ _ _ HX.out)) (h := fun hHeld => ?_)
      clear hK K
      have hst := run_sstR 5 0 0 HX.out.b zeroR_size
      have HX := Lib.hid (HX.out.putB #[.int .i64 5, .int .i64 0, .int .i64 0])
      refine rd 3 (h := fun K hK => ?_)
      go_simp
      clear hst
      refine so hK (by (try dsimp only); (exact HS.out _ _ _ HX.out)) (h := fun hHeld => ?_)
      clear hK K
      refine wpAnyH_done (by kernel_rfl) ?_ _
      try simp only [Act.put, List.getElem_toArray, List.getElem_cons_succ, List.getElem_cons_zero, List.setIfInBounds_toArray, List.set_cons_zero, List.set_cons_succ]
      go_wp2_with fail
      refine bodyPost_ret (results_cell_row2 rfl _ _ (w.heap.size + 3) (w.heap.size + 4) 44 37 m.cells.toArray #[.int .i64 5, .int .i64 0, .int .i64 0] (0, 0) (0, 0) _ _ rfl HX.out.a Tryz.underlying44 rfl (by rw [List.size_toArray, Mt.cells_len h]; exact info_sM107) rfl HX.out.b Tryz.underlying37 rfl info_sR) rfl ?_
      exact ⟨by rw [HR.out]; rfl, HX.out.bel⟩
    ·
     have hdq : (f.d == m.cm.d) = false := by have q := HDF.out; revert q; cases (f.d == m.cm.d) <;> simp
     have hR : rearlyD m f 3 qn (sl : Int) = ⟨m, 13, 0, 0⟩ := by
      unfold rearlyD; rw [HXX.out, HG.out, HSS.out, HK.out, HLL.out, HWN.out]; rw [if_neg (by omega), if_neg (by omega), if_neg (by omega), if_pos ⟨rfl, hdq⟩]
     have HR := Lib.hid hR
     clear hR
     go_upto_region 9 with fail
     clear c0 c70 c105 c106 c72 q0 q1 q2 f0 f1 f34 fd
     have HX := Lib.hid HX.out.drew
     have hs0 := HS.out _ _ _ HX.out
     refine wp_region_held_drew (S := (fun W => (sldM (.pointer (some ⟨w.heap.size, 0, none⟩))).run Tryz.prog W = .ok (.agg m.cells.toArray) W)) (by kernel_rfl) ?_ (fun hHeld => ?_)
     ·
      exact hs0
     refine tk 0 (h := ?_)
     refine rd 1 (h := fun K hK => ?_)
     go_simp
     refine (rerr_c 13 _).mono ?_; rintro e w9 ⟨rfl, hb9⟩; have HX := Lib.hid (HX.out.later hb9); clear hb9
     go_wp2_with fail
     refine so hK (by (try dsimp only); (exact HS.out _ _ _ HX.out)) (h := fun hHeld => ?_)
     clear hK K
     have hst := storeM h HX.out.a zeroM_size
     have HX := Lib.hid (HX.out.putA m.cells.toArray)
     refine rd 2 (h := fun K hK => ?_)
     go_simp
     clear hst
     refine so hK (by (try dsimp only); (exact HS.out _ _ _ HX.out)) (h := fun hHeld => ?_)
     clear hK K
     have hst := run_sstR 13 0 0 HX.out.b zeroR_size
     have HX := Lib.hid (HX.out.putB #[.int .i64 13, .int .i64 0, .int .i64 0])
     refine rd 3 (h := fun K hK => ?_)
     go_simp
     clear hst
     refine so hK (by (try dsimp only); (exact HS.out _ _ _ HX.out)) (h := fun hHeld => ?_)
     clear hK K
     refine wpAnyH_done (by kernel_rfl) ?_ _
     try simp only [Act.put, List.getElem_toArray, List.getElem_cons_succ, List.getElem_cons_zero, List.setIfInBounds_toArray, List.set_cons_zero, List.set_cons_succ]
     go_wp2_with fail
     refine bodyPost_ret (results_cell_row2 rfl _ _ (w.heap.size + 3) (w.heap.size + 4) 44 37 m.cells.toArray #[.int .i64 13, .int .i64 0, .int .i64 0] (0, 0) (0, 0) _ _ rfl HX.out.a Tryz.underlying44 rfl (by rw [List.size_toArray, Mt.cells_len h]; exact info_sM107) rfl HX.out.b Tryz.underlying37 rfl info_sR) rfl ?_
     exact ⟨by rw [HR.out]; rfl, HX.out.bel⟩
   ·
    have bk : (g != K) = true := by simpa using gK
    have hR : rearlyD m f 3 qn (sl : Int) = ⟨m, 12, 0, 0⟩ := by
     unfold rearlyD; rw [HXX.out, HG.out, HSS.out, HK.out, HLL.out, HWN.out]; rw [if_neg (by omega), if_pos (by omega)]
    have HR := Lib.hid hR
    clear hR
    go_upto_region 5 with fail
    clear c0 c70 c105 c106 c72 q0 q1 q2 f0 f1 f34 fd
    have HX := Lib.hid HX.out.drew
    have hs0 := HS.out _ _ _ HX.out
    refine wp_region_held_drew (S := (fun W => (sldM (.pointer (some ⟨w.heap.size, 0, none⟩))).run Tryz.prog W = .ok (.agg m.cells.toArray) W)) (by kernel_rfl) ?_ (fun hHeld => ?_)
    ·
     exact hs0
    refine tk 0 (h := ?_)
    refine rd 1 (h := fun K hK => ?_)
    go_simp
    refine (rerr_c 12 _).mono ?_; rintro e w9 ⟨rfl, hb9⟩; have HX := Lib.hid (HX.out.later hb9); clear hb9
    go_wp2_with fail
    refine so hK (by (try dsimp only); (exact HS.out _ _ _ HX.out)) (h := fun hHeld => ?_)
    clear hK K
    have hst := storeM h HX.out.a zeroM_size
    have HX := Lib.hid (HX.out.putA m.cells.toArray)
    refine rd 2 (h := fun K hK => ?_)
    go_simp
    clear hst
    refine so hK (by (try dsimp only); (exact HS.out _ _ _ HX.out)) (h := fun hHeld => ?_)
    clear hK K
    have hst := run_sstR 12 0 0 HX.out.b zeroR_size
    have HX := Lib.hid (HX.out.putB #[.int .i64 12, .int .i64 0, .int .i64 0])
    refine rd 3 (h := fun K hK => ?_)
    go_simp
    clear hst
    refine so hK (by (try dsimp only); (exact HS.out _ _ _ HX.out)) (h := fun hHeld => ?_)
    clear hK K
    refine wpAnyH_done (by kernel_rfl) ?_ _
    try simp only [Act.put, List.getElem_toArray, List.getElem_cons_succ, List.getElem_cons_zero, List.setIfInBounds_toArray, List.set_cons_zero, List.set_cons_succ]
    go_wp2_with fail
    refine bodyPost_ret (results_cell_row2 rfl _ _ (w.heap.size + 3) (w.heap.size + 4) 44 37 m.cells.toArray #[.int .i64 12, .int .i64 0, .int .i64 0] (0, 0) (0, 0) _ _ rfl HX.out.a Tryz.underlying44 rfl (by rw [List.size_toArray, Mt.cells_len h]; exact info_sM107) rfl HX.out.b Tryz.underlying37 rfl info_sR) rfl ?_
    exact ⟨by rw [HR.out]; rfl, HX.out.bel⟩
  ·
   have hR : rearlyD m f 3 qn (sl : Int) = ⟨m, 11, 0, 0⟩ := by
    unfold rearlyD; rw [HXX.out, HG.out, HSS.out, HK.out, HLL.out, HWN.out]; rw [if_pos (by omega)]
   have HR := Lib.hid hR
   clear hR
   go_upto_region 3 with fail
   clear c0 c70 c105 c106 c72 q0 q1 q2 f0 f1 f34 fd
   have HX := Lib.hid HX.out.drew
   have hs0 := HS.out _ _ _ HX.out
   refine wp_region_held_drew (S := (fun W => (sldM (.pointer (some ⟨w.heap.size, 0, none⟩))).run Tryz.prog W = .ok (.agg m.cells.toArray) W)) (by kernel_rfl) ?_ (fun hHeld => ?_)
   ·
    exact hs0
   refine tk 0 (h := ?_)
   refine rd 1 (h := fun K hK => ?_)
   go_simp
   refine (rerr_c 11 _).mono ?_; rintro e w9 ⟨rfl, hb9⟩; have HX := Lib.hid (HX.out.later hb9); clear hb9
   go_wp2_with fail
   refine so hK (by (try dsimp only); (exact HS.out _ _ _ HX.out)) (h := fun hHeld => ?_)
   clear hK K
   have hst := storeM h HX.out.a zeroM_size
   have HX := Lib.hid (HX.out.putA m.cells.toArray)
   refine rd 2 (h := fun K hK => ?_)
   go_simp
   clear hst
   refine so hK (by (try dsimp only); (exact HS.out _ _ _ HX.out)) (h := fun hHeld => ?_)
   clear hK K
   have hst := run_sstR 11 0 0 HX.out.b zeroR_size
   have HX := Lib.hid (HX.out.putB #[.int .i64 11, .int .i64 0, .int .i64 0])
   refine rd 3 (h := fun K hK => ?_)
   go_simp
   clear hst
   refine so hK (by (try dsimp only); (exact HS.out _ _ _ HX.out)) (h := fun hHeld => ?_)
   clear hK K
   refine wpAnyH_done (by kernel_rfl) ?_ _
   try simp only [Act.put, List.getElem_toArray, List.getElem_cons_succ, List.getElem_cons_zero, List.setIfInBounds_toArray, List.set_cons_zero, List.set_cons_succ]
   go_wp2_with fail
   refine bodyPost_ret (results_cell_row2 rfl _ _ (w.heap.size + 3) (w.heap.size + 4) 44 37 m.cells.toArray #[.int .i64 11, .int .i64 0, .int .i64 0] (0, 0) (0, 0) _ _ rfl HX.out.a Tryz.underlying44 rfl (by rw [List.size_toArray, Mt.cells_len h]; exact info_sM107) rfl HX.out.b Tryz.underlying37 rfl info_sR) rfl ?_
   exact ⟨by rw [HR.out]; rfl, HX.out.bel⟩
 ·
  subst hk
  by_cases x2 : x = 2
  ·
   go_upto_region 6 with fail
   clear c0 c70 c105 c106 c72 q0 q1 q2 f0 f1 f34 fd
   have HX := Lib.hid HX.out.drew
   have hs6 := HS6.out _ _ _ HX.out
   refine wp_region_held_drew (S := (fun W => W.cell? ⟨w.heap.size, 72, none⟩ = some (.int .i64 s) ∧ W.cell? ⟨w.heap.size + 1, 0, none⟩ = some (.int .i64 4) ∧ W.cell? ⟨w.heap.size + 1, 1, none⟩ = some (.int .i64 qn) ∧ W.cell? ⟨w.heap.size + 1, 2, none⟩ = some (.slice SB sl sc))) (by kernel_rfl) ?_ (fun hHeld => ?_)
   ·
    exact hs6
   generalize W1.drew = Wd at HX hHeld hs6 ⊢
   refine tk 0 (h := ?_)
   refine tk 1 (h := ?_)
   refine tk 2 (h := ?_)
   refine tk 3 (h := ?_)
   refine sk 4 (h := ?_)
   refine sk 5 (h := ?_)
   refine sk 6 (h := ?_)
   refine sk 7 (h := ?_)
   refine sk 8 (h := ?_)
   refine sk 9 (h := ?_)
   refine sk 10 (h := ?_)
   refine sk 11 (h := ?_)
   refine sk 12 (h := ?_)
   refine sk 13 (h := ?_)
   refine tk 14 (h := ?_)
   refine tk 15 (h := ?_)
   refine wpAnyH_done (by kernel_rfl) ?_ _
   try simp only [Act.put, List.getElem_toArray, List.getElem_cons_succ, List.getElem_cons_zero, List.setIfInBounds_toArray, List.set_cons_zero, List.set_cons_succ]
   clear hHeld hs6
   obtain ⟨⟨c0, c70, c105, c106, c72⟩, ⟨q0, q1, q2⟩, f0, f1, f34, fd⟩ := HC.out _ _ _ HX.out
   cases wn
   ·
    have hR : rearlyD m f 4 qn (sl : Int) = ⟨rcommT m, 0, 0, 0⟩ := by
     unfold rearlyD; rw [HXX.out, HG.out, HSS.out, HK.out, HLL.out, HWN.out]; rw [if_neg (by omega), if_neg (by omega), if_neg (by omega), if_neg (by rintro ⟨q, _⟩; omega), if_neg (by simp), if_neg (by omega), if_neg (by omega)]
    have HR := Lib.hid hR
    clear hR
    go_upto_region 18 with fail
    clear c0 c70 c105 c106 c72 q0 q1 q2 f0 f1 f34 fd
    obtain ⟨u, hu⟩ := HX.out.m.some h 70 (by omega)
    have hfz := HX.out.m.frozen 70
    have HX2 := Lib.hid (HX.out.set (HX.out.m.setPhase h 3))
    clear HX
    go_upto_region 19 with fail
    have hX2 := HX2.out
    clear HX2 hu hfz 
    generalize World.setCell _ _ _ = W5 at hX2 ⊢
    have o1 : ({ m with ph := 3 } : Mt).Ok := ⟨h.d0, h.d1, h.d2, h.act⟩
    have ha01 : a = 0 ∨ a = 1 := HA.out ▸ HACT.out
    have c0 := (mall o1 hX2.m a _ _ _ _ HA.out rfl rfl rfl rfl).1
    have hci : (sldI (.pointer (some ⟨w.heap.size, 71, none⟩))).run Tryz.prog W5 = .ok (.agg m.cm.cells.toArray) W5 := run_sldI (Img.cells_len h.d2) (by have r := hX2.m.range 71 34 (by rw [Mt.cells_len o1]; omega); rw [Mt.c_cm o1] at r; exact r)
    rcases ha01 with q | q
    ·
     subst q
     have o2 : ({ m with ph := 3, h1 := m.cm } : Mt).Ok := ⟨h.d0, h.d2, h.d2, h.act⟩
     have o3 : ({ m with ph := 3, h1 := m.cm, cm := Img.zero } : Mt).Ok := ⟨h.d0, h.d2, rfl, h.act⟩
     have o4 : ({ m with ph := 3, h1 := m.cm, cm := Img.zero, got := 0 } : Mt).Ok := ⟨h.d0, h.d2, rfl, h.act⟩
     have hst := run_sstI hX2.m 35 (by rw [List.size_toArray, Mt.cells_len o1]; omega) m.cm h.d2
     have B2 := hX2.sets (hX2.m.putH1 o1 m.cm h.d2)
     obtain ⟨MI, hMI⟩ : ∃ MI, m.cm.cells = MI := ⟨_, rfl⟩
     rw [hMI] at hst hci B2
     have HX2 := Lib.hid B2
     clear hX2 B2
     go_upto_region 20 with fail
     have hX2 := HX2.out
     clear HX2 hst hci c0 hMI
     generalize World.setCells _ _ _ _ = W6 at hX2 ⊢
     have hst := run_sstI hX2.m 71 (by rw [List.size_toArray, Mt.cells_len o2]; omega) Img.zero rfl
     rw [← zeroI_eq] at hst
     have B3 := hX2.sets (hX2.m.putCm o2 Img.zero rfl)
     have B4 := B3.set (B3.m.setGot o3 0)
     have B5 := B4.set (B4.m.setTrials o4 2)
     obtain ⟨u2, k2⟩ := B3.m.some o3 105 (by omega)
     obtain ⟨u3, k3⟩ := B4.m.some o4 106 (by omega)
     have z2 := B3.m.frozen 105
     have z3 := B4.m.frozen 106
     have om : ({ m with ph := 3, h1 := m.cm, cm := Img.zero, got := 0, tr := 2 } : Mt).Ok := ⟨h.d0, h.d2, rfl, h.act⟩
     have B6 : Fr w _ w.heap.size (w.heap.size + 1) (w.heap.size + 2) (w.heap.size + 3) (w.heap.size + 4) 34 ({ m with ph := 3, h1 := m.cm, cm := Img.zero, got := 0, tr := 2 } : Mt) _ _ _ _ := B5
     have hrc : rcommT m = { m with ph := 3, h1 := m.cm, cm := Img.zero, got := 0, tr := 2 } := by unfold rcommT; rw [if_pos HA.out]
     obtain ⟨m2, hm2⟩ : ∃ m2 : Mt, { m with ph := 3, h1 := m.cm, cm := Img.zero, got := 0, tr := 2 } = m2 := ⟨_, rfl⟩
     rw [hm2] at B6 om hrc
     generalize Img.zero.cells = ZC at *
     have HX5 := Lib.hid B6
     have HM2 := Lib.hid hrc
     clear B3 B4 B5 B6 hm2 hrc hX2
     go_upto_region 23 with fail
     have hX5 := HX5.out
     clear HX5 hst k2 k3 z2 z3
     generalize World.setCell _ _ _ = W7 at hX5 ⊢
     have HX := Lib.hid hX5
     clear hX5
     have hld := run_sldM (Mt.cells_len om) HX.out.m.whole
     have hst := storeM om HX.out.a zeroM_size
     have hX5 := HX.out.putA m2.cells.toArray
     have hst2 := run_sstR 0 0 0 hX5.b zeroR_size
     have HX := Lib.hid (hX5.putB #[.int .i64 0, .int .i64 0, .int .i64 0])
     clear hX5
     go_wp2_with fail
     refine bodyPost_ret (results_cell_row2 rfl _ _ (w.heap.size + 3) (w.heap.size + 4) 44 37 m2.cells.toArray #[.int .i64 0, .int .i64 0, .int .i64 0] (0, 0) (0, 0) _ _ rfl HX.out.a Tryz.underlying44 rfl (by rw [List.size_toArray, Mt.cells_len om]; exact info_sM107) rfl HX.out.b Tryz.underlying37 rfl info_sR) rfl ?_
     exact ⟨by rw [HR.out, HM2.out]; rfl, HX.out.bel⟩
    ·
     subst q
     have o2 : ({ m with ph := 3, h0 := m.cm } : Mt).Ok := ⟨h.d2, h.d1, h.d2, h.act⟩
     have o3 : ({ m with ph := 3, h0 := m.cm, cm := Img.zero } : Mt).Ok := ⟨h.d2, h.d1, rfl, h.act⟩
     have o4 : ({ m with ph := 3, h0 := m.cm, cm := Img.zero, got := 0 } : Mt).Ok := ⟨h.d2, h.d1, rfl, h.act⟩
     have hst := run_sstI hX2.m 1 (by rw [List.size_toArray, Mt.cells_len o1]; omega) m.cm h.d2
     have B2 := hX2.sets (hX2.m.putH0 o1 m.cm h.d2)
     obtain ⟨MI, hMI⟩ : ∃ MI, m.cm.cells = MI := ⟨_, rfl⟩
     rw [hMI] at hst hci B2
     have HX2 := Lib.hid B2
     clear hX2 B2
     go_upto_region 20 with fail
     have hX2 := HX2.out
     clear HX2 hst hci c0 hMI
     generalize World.setCells _ _ _ _ = W6 at hX2 ⊢
     have hst := run_sstI hX2.m 71 (by rw [List.size_toArray, Mt.cells_len o2]; omega) Img.zero rfl
     rw [← zeroI_eq] at hst
     have B3 := hX2.sets (hX2.m.putCm o2 Img.zero rfl)
     have B4 := B3.set (B3.m.setGot o3 0)
     have B5 := B4.set (B4.m.setTrials o4 2)
     obtain ⟨u2, k2⟩ := B3.m.some o3 105 (by omega)
     obtain ⟨u3, k3⟩ := B4.m.some o4 106 (by omega)
     have z2 := B3.m.frozen 105
     have z3 := B4.m.frozen 106
     have om : ({ m with ph := 3, h0 := m.cm, cm := Img.zero, got := 0, tr := 2 } : Mt).Ok := ⟨h.d2, h.d1, rfl, h.act⟩
     have B6 : Fr w _ w.heap.size (w.heap.size + 1) (w.heap.size + 2) (w.heap.size + 3) (w.heap.size + 4) 34 ({ m with ph := 3, h0 := m.cm, cm := Img.zero, got := 0, tr := 2 } : Mt) _ _ _ _ := B5
     have hrc : rcommT m = { m with ph := 3, h0 := m.cm, cm := Img.zero, got := 0, tr := 2 } := by unfold rcommT; rw [if_neg (by rw [HA.out]; omega)]
     obtain ⟨m2, hm2⟩ : ∃ m2 : Mt, { m with ph := 3, h0 := m.cm, cm := Img.zero, got := 0, tr := 2 } = m2 := ⟨_, rfl⟩
     rw [hm2] at B6 om hrc
     generalize Img.zero.cells = ZC at *
     have HX5 := Lib.hid B6
     have HM2 := Lib.hid hrc
     clear B3 B4 B5 B6 hm2 hrc hX2
     go_upto_region 23 with fail
     have hX5 := HX5.out
     clear HX5 hst k2 k3 z2 z3
     generalize World.setCell _ _ _ = W7 at hX5 ⊢
     have HX := Lib.hid hX5
     clear hX5
     have hld := run_sldM (Mt.cells_len om) HX.out.m.whole
     have hst := storeM om HX.out.a zeroM_size
     have hX5 := HX.out.putA m2.cells.toArray
     have hst2 := run_sstR 0 0 0 hX5.b zeroR_size
     have HX := Lib.hid (hX5.putB #[.int .i64 0, .int .i64 0, .int .i64 0])
     clear hX5
     go_wp2_with fail
     refine bodyPost_ret (results_cell_row2 rfl _ _ (w.heap.size + 3) (w.heap.size + 4) 44 37 m2.cells.toArray #[.int .i64 0, .int .i64 0, .int .i64 0] (0, 0) (0, 0) _ _ rfl HX.out.a Tryz.underlying44 rfl (by rw [List.size_toArray, Mt.cells_len om]; exact info_sM107) rfl HX.out.b Tryz.underlying37 rfl info_sR) rfl ?_
     exact ⟨by rw [HR.out, HM2.out]; rfl, HX.out.bel⟩
   ·
    have hR : rearlyD m f 4 qn (sl : Int) = ⟨m, 5, 0, 0⟩ := by
     unfold rearlyD; rw [HXX.out, HG.out, HSS.out, HK.out, HLL.out, HWN.out]; rw [if_neg (by omega), if_neg (by omega), if_neg (by omega), if_neg (by rintro ⟨q, _⟩; omega), if_pos rfl]
    have HR := Lib.hid hR
    clear hR
    go_upto_region 11 with fail
    clear c0 c70 c105 c106 c72 q0 q1 q2 f0 f1 f34 fd
    have HX := Lib.hid HX.out.drew
    have hs0 := HS.out _ _ _ HX.out
    refine wp_region_held_drew (S := (fun W => (sldM (.pointer (some ⟨w.heap.size, 0, none⟩))).run Tryz.prog W = .ok (.agg m.cells.toArray) W)) (by kernel_rfl) ?_ (fun hHeld => ?_)
    ·
     exact hs0
    refine tk 0 (h := ?_)
    refine rd 1 (h := fun K hK => ?_)
    go_simp
    refine (rerr_c 5 _).mono ?_; rintro e w9 ⟨rfl, hb9⟩; have HX := Lib.hid (HX.out.later hb9); clear hb9
    go_wp2_with fail
    refine so hK (by (try dsimp only); (exact HS.out _ _ _ HX.out)) (h := fun hHeld => ?_)
    clear hK K
    have hst := storeM h HX.out.a zeroM_size
    have HX := Lib.hid (HX.out.putA m.cells.toArray)
    refine rd 2 (h := fun K hK => ?_)
    go_simp
    clear hst
    refine so hK (by (try dsimp only); (exact HS.out _ _ _ HX.out)) (h := fun hHeld => ?_)
    clear hK K
    have hst := run_sstR 5 0 0 HX.out.b zeroR_size
    have HX := Lib.hid (HX.out.putB #[.int .i64 5, .int .i64 0, .int .i64 0])
    refine rd 3 (h := fun K hK => ?_)
    go_simp
    clear hst
    refine so hK (by (try dsimp only); (exact HS.out _ _ _ HX.out)) (h := fun hHeld => ?_)
    clear hK K
    refine wpAnyH_done (by kernel_rfl) ?_ _
    try simp only [Act.put, List.getElem_toArray, List.getElem_cons_succ, List.getElem_cons_zero, List.setIfInBounds_toArray, List.set_cons_zero, List.set_cons_succ]
    go_wp2_with fail
    refine bodyPost_ret (results_cell_row2 rfl _ _ (w.heap.size + 3) (w.heap.size + 4) 44 37 m.cells.toArray #[.int .i64 5, .int .i64 0, .int .i64 0] (0, 0) (0, 0) _ _ rfl HX.out.a Tryz.underlying44 rfl (by rw [List.size_toArray, Mt.cells_len h]; exact info_sM107) rfl HX.out.b Tryz.underlying37 rfl info_sR) rfl ?_
    exact ⟨by rw [HR.out]; rfl, HX.out.bel⟩
  ·
   have hR : rearlyD m f 4 qn (sl : Int) = ⟨m, 11, 0, 0⟩ := by
    unfold rearlyD; rw [HXX.out, HG.out, HSS.out, HK.out, HLL.out, HWN.out]; rw [if_pos (by omega)]
   have HR := Lib.hid hR
   clear hR
   go_upto_region 3 with fail
   clear c0 c70 c105 c106 c72 q0 q1 q2 f0 f1 f34 fd
   have HX := Lib.hid HX.out.drew
   have hs0 := HS.out _ _ _ HX.out
   refine wp_region_held_drew (S := (fun W => (sldM (.pointer (some ⟨w.heap.size, 0, none⟩))).run Tryz.prog W = .ok (.agg m.cells.toArray) W)) (by kernel_rfl) ?_ (fun hHeld => ?_)
   ·
    exact hs0
   refine tk 0 (h := ?_)
   refine rd 1 (h := fun K hK => ?_)
   go_simp
   refine (rerr_c 11 _).mono ?_; rintro e w9 ⟨rfl, hb9⟩; have HX := Lib.hid (HX.out.later hb9); clear hb9
   go_wp2_with fail
   refine so hK (by (try dsimp only); (exact HS.out _ _ _ HX.out)) (h := fun hHeld => ?_)
   clear hK K
   have hst := storeM h HX.out.a zeroM_size
   have HX := Lib.hid (HX.out.putA m.cells.toArray)
   refine rd 2 (h := fun K hK => ?_)
   go_simp
   clear hst
   refine so hK (by (try dsimp only); (exact HS.out _ _ _ HX.out)) (h := fun hHeld => ?_)
   clear hK K
   have hst := run_sstR 11 0 0 HX.out.b zeroR_size
   have HX := Lib.hid (HX.out.putB #[.int .i64 11, .int .i64 0, .int .i64 0])
   refine rd 3 (h := fun K hK => ?_)
   go_simp
   clear hst
   refine so hK (by (try dsimp only); (exact HS.out _ _ _ HX.out)) (h := fun hHeld => ?_)
   clear hK K
   refine wpAnyH_done (by kernel_rfl) ?_ _
   try simp only [Act.put, List.getElem_toArray, List.getElem_cons_succ, List.getElem_cons_zero, List.setIfInBounds_toArray, List.set_cons_zero, List.set_cons_succ]
   go_wp2_with fail
   refine bodyPost_ret (results_cell_row2 rfl _ _ (w.heap.size + 3) (w.heap.size + 4) 44 37 m.cells.toArray #[.int .i64 11, .int .i64 0, .int .i64 0] (0, 0) (0, 0) _ _ rfl HX.out.a Tryz.underlying44 rfl (by rw [List.size_toArray, Mt.cells_len h]; exact info_sM107) rfl HX.out.b Tryz.underlying37 rfl info_sR) rfl ?_
   exact ⟨by rw [HR.out]; rfl, HX.out.bel⟩
end Go.Proofs.YtpafenlcgcenlaaGreatDoor
