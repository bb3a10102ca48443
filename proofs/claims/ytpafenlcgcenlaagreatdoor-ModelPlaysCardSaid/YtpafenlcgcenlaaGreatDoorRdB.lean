/- The reference's begin: QBegin. · The reference's Do. · The reference's Do and update.Do do the same (plain). -/
import Derived.Test.YtpafenlcgcenlaaGreatDoorHeldTk
import Derived.Test.YtpafenlcgcenlaaGreatDoorRmW
import Derived.Test.YtpafenlcgcenlaaGreatDoorRdA
import Derived.Test.YtpafenlcgcenlaaGreatDoorRmnA
import Derived.Deep.RegionHeld3
import Derived.Deep.DrawnRows
import Derived.Test.YtpafenlcgcenlaaGreatDoorUpP
namespace Go.Proofs.YtpafenlcgcenlaaGreatDoor
open Go Go.RowKit
set_option linter.unusedVariables false
set_option linter.unusedSimpArgs false
attribute [local go_sem ↓] sldI_seal sldM_seal sstM_seal sstI_seal sldF_seal sldQ_seal sldR_seal sstR_seal sldD_seal sbN_seal sldN_seal sstN_seal
theorem storeB_ (w : World) (cs : List Value) (hl : cs.length = 35) (h1 : ∀ u ∈ cs, u.oneCell' = true) : (sstN (.pointer (some ⟨w.heap.size, 0, none⟩)) (.agg cs.toArray)).run Tryz.prog (w.alloc (.cells litN 82)) = .ok () ((w.alloc (.cells litN 82)).setRow w.heap.size cs.toArray) := by
 have hN := Blk.new w 82 zeroN.toArray
 have hst := run_sstN cs hN (by rw [List.size_toArray]; rfl) hl h1
 rw [← zeroN_eq] at hst
 exact hst
theorem below_storeB (w : World) (o : Obj) (cs : Array Value) : Below w.heap.size w ((w.alloc o).setRow w.heap.size cs) := below_setRow_m ((Below.refl _ _).alloc (Nat.le_refl _) _) (Nat.le_refl _) _
def rbegT (m : Mt) (l : List UInt8) : Mt := ({ m with ph := 1, cm := mX l, got := 0 } : Mt).alone
def rbeginD (m : Mt) (f : Fc) (l : List UInt8) (qu : Int) : Ch :=
 if m.ph ≠ 0 then ⟨m, 11, 0, 0⟩ else if mE l ≠ 0 then ⟨m, mE l, 0, 0⟩ else if f.nm = false then ⟨m, 7, 0, 0⟩ else if f.tg = false then ⟨m, 8, 0, 0⟩
 else if m.vmay (mX l).v = false then ⟨m, 9, 0, 0⟩ else if qu < chunksZ (mX l).s ∨ 6 < chunksZ (mX l).s then ⟨m, 10, 0, 0⟩ else if f.wn = true then ⟨m, 5, 0, 0⟩ else ⟨rbegT m l, 0, 0, 0⟩
set_option maxRecDepth 100000 in
set_option maxHeartbeats 8000000 in
theorem rbegin_c (w : World) (m : Mt) (h : m.Ok) (hact : m.act = 0 ∨ m.act = 1) (qk qn : Int) (SB : Option Addr) (sl sc : Nat) (l : List UInt8) (hr : Reads w SB sl (l.map u8v)) (hsl : sl ≤ 1000) (hsc : sl ≤ sc ∧ sc ≤ maxLen) (f : Fc) (hf : f.d.length = 32) (qu : Int) :
  Calls Tryz.prog 75 #[.agg m.cells.toArray, .agg #[.int .i64 qk, .int .i64 qn, .slice SB sl sc], .agg f.cells.toArray, .int .i64 qu] w fun e w' => e = .returned (rbeginD m f l qu).res ∧ Below w.heap.size w w' := by
 have hX0 := fr5 w m #[.int .i64 qk, .int .i64 qn, .slice SB sl sc] f.cells.toArray
 have hfc : ∀ (W : World) (g : Nat), Blk W g 78 f.cells.toArray → W.cell? ⟨g, 0, none⟩ = Option.some (.bool f.nm) ∧ W.cell? ⟨g, 1, none⟩ = Option.some (.bool f.tg) ∧ W.cell? ⟨g, 34, none⟩ = Option.some (.bool f.wn) ∧ (sldD (.pointer (some ⟨g, 2, none⟩))).run Tryz.prog W = .ok (.agg (f.d.map u8v).toArray) W := fun W g hB =>
  ⟨by rw [hB.cell, List.getElem?_toArray, Fc.c0], by rw [hB.cell, List.getElem?_toArray, Fc.c1], by rw [hB.cell, List.getElem?_toArray, Fc.c34 hf], run_sldD (by rw [List.length_map, hf]) (by have r := hB.range 2 32 (by rw [Fc.cells_len hf]; omega); rw [Fc.c_d hf] at r; exact r)⟩
 have hfl : ∀ (W : World) (g : Nat), Blk W g 78 f.cells.toArray → (sldF (.pointer (some ⟨g, 0, none⟩))).run Tryz.prog W = .ok (.agg f.cells.toArray) W := fun W g hB => run_sldF (Fc.cells_len hf) hB.whole
 obtain ⟨FA, hFA⟩ : ∃ FA, f.cells.toArray = FA := ⟨_, rfl⟩
 simp only [hFA] at hX0 hfc hfl ⊢
 obtain ⟨x, hx⟩ : ∃ x, m.ph = x := ⟨_, rfl⟩
 obtain ⟨a, ha⟩ : ∃ a, m.act = a := ⟨_, rfl⟩
 obtain ⟨g, hg⟩ : ∃ g, m.got = g := ⟨_, rfl⟩
 obtain ⟨t, ht⟩ : ∃ t, m.tr = t := ⟨_, rfl⟩
 obtain ⟨s, hs⟩ : ∃ s, m.cm.s = s := ⟨_, rfl⟩
 obtain ⟨wn, hwn⟩ : ∃ wn, f.wn = wn := ⟨_, rfl⟩
 obtain ⟨nm, hnm⟩ : ∃ nm, f.nm = nm := ⟨_, rfl⟩
 obtain ⟨tg, htg⟩ : ∃ tg, f.tg = tg := ⟨_, rfl⟩
 rw [hwn] at hfc
 rw [hnm, htg] at hfc
 have hS : ∀ W RA RB, Fr w W w.heap.size (w.heap.size + 1) (w.heap.size + 2) (w.heap.size + 3) (w.heap.size + 4) 34 m #[.int .i64 qk, .int .i64 qn, .slice SB sl sc] FA RA RB →
   (sldM (.pointer (some ⟨w.heap.size, 0, none⟩))).run Tryz.prog W = .ok (.agg m.cells.toArray) W := fun W RA RB hX => run_sldM (Mt.cells_len h) hX.m.whole
 have hC : ∀ W RA RB, Fr w W w.heap.size (w.heap.size + 1) (w.heap.size + 2) (w.heap.size + 3) (w.heap.size + 4) 34 m #[.int .i64 qk, .int .i64 qn, .slice SB sl sc] FA RA RB →
   (W.cell? ⟨w.heap.size, 0, none⟩ = some (.int .i64 a) ∧ W.cell? ⟨w.heap.size, 70, none⟩ = some (.int .i64 x) ∧ W.cell? ⟨w.heap.size, 105, none⟩ = some (.int .i64 g) ∧ W.cell? ⟨w.heap.size, 106, none⟩ = some (.int .i64 t) ∧ W.cell? ⟨w.heap.size, 72, none⟩ = some (.int .i64 s)) ∧
   (W.cell? ⟨w.heap.size + 1, 0, none⟩ = some (.int .i64 qk) ∧ W.cell? ⟨w.heap.size + 1, 1, none⟩ = some (.int .i64 qn) ∧ W.cell? ⟨w.heap.size + 1, 2, none⟩ = some (.slice SB sl sc)) ∧
   W.cell? ⟨w.heap.size + 2, 0, none⟩ = some (.bool nm) ∧ W.cell? ⟨w.heap.size + 2, 1, none⟩ = some (.bool tg) ∧ W.cell? ⟨w.heap.size + 2, 34, none⟩ = some (.bool wn) ∧ (sldD (.pointer (some ⟨w.heap.size + 2, 2, none⟩))).run Tryz.prog W = .ok (.agg (f.d.map u8v).toArray) W := fun W RA RB hX => by
  obtain ⟨k0, _, k70, k105, k106, _⟩ := mall h hX.m a _ x g t ha rfl hx hg ht
  exact ⟨⟨k0, k70, k105, k106, by rw [hX.m.cell, List.getElem?_toArray, Mt.c72 h, hs]⟩, ⟨hX.q.cell 0, hX.q.cell 1, hX.q.cell 2⟩, hfc _ _ hX.f⟩
 have HS := Lib.hid hS
 have HC := Lib.hid hC
 have HFL := Lib.hid hfl
 obtain ⟨X, hX⟩ : ∃ X, mX l = X := ⟨_, rfl⟩
 obtain ⟨e2, he2⟩ : ∃ e2, mE l = e2 := ⟨_, rfl⟩
 obtain ⟨hd32, hs0, hs1⟩ := mX_b l
 have hany := fun e w' => ManRet.any (l := l) (e := e) (w' := w')
 rw [hX, he2] at hany
 rw [hX] at hd32 hs0 hs1
 obtain ⟨v, hv⟩ : ∃ v, X.v = v := ⟨_, rfl⟩
 obtain ⟨z, hz⟩ : ∃ z, X.s = z := ⟨_, rfl⟩
 rw [hz] at hs0 hs1
 obtain ⟨VM, hVM⟩ : ∃ VM, m.vmay v = VM := ⟨_, rfl⟩
 obtain ⟨K, hK⟩ : ∃ K, chunksZ z = K := ⟨_, rfl⟩
 have hvm : ∀ W, Calls Tryz.prog 127 #[.agg m.cells.toArray, .int .i64 v] W fun e w' => e = .returned (.bool VM) ∧ Below W.heap.size W w' := fun W => hVM ▸ rvmay_c W m h v
 have hck : ∀ W, Calls Tryz.prog 42 #[.int .i64 z] W fun e w' => e = .returned (.int .i64 K) ∧ W = w' := fun W => hK ▸ rchunks12_c z (by omega) W
 have hxc : ∀ W nmm xb, Blk W xb 82 (manC nmm X).toArray → (sldI (.pointer (some ⟨xb, 1, none⟩))).run Tryz.prog W = .ok (.agg X.cells.toArray) W ∧ W.cell? ⟨xb, 1, none⟩ = some (.int .i64 v) ∧ W.cell? ⟨xb, 2, none⟩ = some (.int .i64 z) := fun W nmm xb hB =>
  ⟨run_sldI (Img.cells_len hd32) (by have r := hB.range 1 34 (by rw [manC_len hd32]; omega); rw [show ((manC nmm X).drop 1).take 34 = X.cells by (show X.cells.take 34 = X.cells; rw [List.take_of_length_le (by rw [Img.cells_len hd32]; omega)])] at r; exact r), by rw [hB.cell, ← hv]; rfl, by rw [hB.cell, ← hz]; rfl⟩
 have hstx := fun W nmm => storeB_ W (manC nmm X) (manC_len hd32 _) (manC_one _ _)
 have hbase : Below w.heap.size w (((((w.alloc (.cells m.cells.toArray 44)).alloc (.cells #[.int .i64 qk, .int .i64 qn, .slice SB sl sc] 34)).alloc (.cells FA 78)).alloc (.cells Tryz.zeroCells44 44)).alloc (.cells #[.int .i64 0, .int .i64 0, .int .i64 0] 37)) := hX0.bel
 have hr0 := hr.below hbase
 have HX_ := Lib.hid hX
 have HE2 := Lib.hid he2
 have HV := Lib.hid hv
 have HZ := Lib.hid hz
 have HVMM := Lib.hid hVM
 have HK := Lib.hid hK
 have HANY := Lib.hid hany
 have HVM := Lib.hid hvm
 have HCK := Lib.hid hck
 have HXC := Lib.hid hxc
 have HST := Lib.hid hstx
 have HR0 := Lib.hid hr0
 have HD32 := Lib.hid hd32
 have HA := Lib.hid ha
 have HG := Lib.hid hg
 have HT := Lib.hid ht
 have HXX := Lib.hid hx
 have HSS := Lib.hid hs
 have HWN := Lib.hid hwn
 have HNM := Lib.hid hnm
 have HTG := Lib.hid htg
 have HACT := Lib.hid hact
 have HFA := Lib.hid hFA
 clear hS hC hfc hfl hFA ha hg ht hx hs hwn hnm htg hact hX he2 hv hz hVM hK hany hvm hck hxc hstx hr0 hd32 hbase hs0 hs1 hr
 go_enter Tryz.func75, Tryz.ntmps75
 go_upto_region 1 with fail
 generalize ((((w.alloc (.cells m.cells.toArray 44)).alloc (.cells #[.int .i64 qk, .int .i64 qn, .slice SB sl sc] 34)).alloc (.cells FA 78)).alloc (.cells Tryz.zeroCells44 44)).alloc (.cells #[.int .i64 0, .int .i64 0, .int .i64 0] 37) = W1 at hX0 HR0 ⊢
 have HX := Lib.hid hX0
 clear hX0
 obtain ⟨⟨c0, c70, c105, c106, c72⟩, ⟨q0, q1, q2⟩, f0, f1, f34, fd⟩ := HC.out _ _ _ HX.out
 go_wp2_with fail
 refine (rmread_c W1 SB sl sc l HR0.out (by omega) hsc).mono ?_
 rintro e w3 ⟨hret, hb3⟩
 obtain ⟨NM, A3, n3, c3, rfl⟩ := HANY.out _ _ hret
 have hst := HST.out w3 NM
 have hbx := below_storeB w3 (.cells litN 82) (manC NM X).toArray
 have HX3 := Lib.hid (HX.out.later hb3)
 have hne : w.heap.size ≠ w3.heap.size := by have := HX3.out.m.lt; omega
 have HX := Lib.hid (HX3.out.later hbx)
 have hxm := (Blk.new w3 82 litN).setRow_m (manC NM X).toArray
 obtain ⟨MN, hMN⟩ : ∃ MN, (manC NM X).toArray = MN := ⟨_, rfl⟩
 rw [hMN] at hst ⊢
 have HXM := Lib.hid hxm
 have HMN := Lib.hid hMN
 clear hret hb3 hbx HX3 hxm hMN
 clear c0 c70 c105 c106 c72 q0 q1 q2 f0 f1 f34 fd
 rw [HMN.out] at HX HXM
 go_upto_region 2 with fail
 clear hst
 obtain ⟨xb, hxb⟩ : ∃ xb, w3.heap.size = xb := ⟨_, rfl⟩
 generalize (w3.alloc (.cells litN 82)).setRow w3.heap.size MN = W4 at HX HXM ⊢
 rw [hxb] at HXM hne ⊢
 rw [← HMN.out] at HXM
 have HNE := Lib.hid hne
 clear hxb hne
 obtain ⟨⟨c0, c70, c105, c106, c72⟩, ⟨q0, q1, q2⟩, f0, f1, f34, fd⟩ := HC.out _ _ _ HX.out
 by_cases x0 : x = 0
 ·
  by_cases e0 : e2 = 0
  ·
   cases nm
   ·
    have hR : rbeginD m f l qu = ⟨m, 7, 0, 0⟩ := by
     unfold rbeginD; rw [HXX.out, HX_.out, HE2.out, HV.out, HZ.out, HK.out, HVMM.out, HWN.out, HNM.out, HTG.out]; rw [if_neg (by omega), if_neg (by omega), if_pos (rfl)]
    have HR := Lib.hid hR
    clear hR
    go_upto_region 7 with fail
    clear c0 c70 c105 c106 c72 q0 q1 q2 f0 f1 f34 fd
    have HX := Lib.hid HX.out.drew
    have hs0 := HS.out _ _ _ HX.out
    refine wp_region_held_drew (S := (fun W => (sldM (.pointer (some ⟨w.heap.size, 0, none⟩))).run Tryz.prog W = .ok (.agg m.cells.toArray) W)) (by kernel_rfl) ?_ (fun hHeld => ?_)
    ·
     exact hs0
    refine tk 0 (h := ?_)
    refine rd 1 (h := fun K hK => ?_)
    go_simp
    refine (rerr_c 7 _).mono ?_; rintro e w9 ⟨rfl, hb9⟩; have HX := Lib.hid (HX.out.later hb9); clear hb9
    go_wp2_with fail
    refine so hK (by (try dsimp only); (exact HS.out _ _ _ HX.out)) (h := fun hHeld => ?_)
    clear hK K
    have hst := storeM h HX.out.a zeroM_size
    have HX := Lib.hid (HX.out.putA m.cells.toArray)
    refine rd 2 (h := fun K hK => ?_)
    go_simp
    clear hst
    refine so hK (by (try dsimp only); (exact HS.out _ _ _ HX.out)) (h := fun hHeld => ?_)
    clear hK K
    have hst := run_sstR 7 0 0 HX.out.b zeroR_size
    have HX := Lib.hid (HX.out.putB #[.int .i64 7, .int .i64 0, .int .i64 0])
    refine rd 3 (h := fun K hK => ?_)
    go_simp
    clear hst
    refine so hK (by (try dsimp only); (exact HS.out _ _ _ HX.out)) (h := fun hHeld => ?_)
    clear hK K
    refine wpAnyH_done (by kernel_rfl) ?_ _
    try simp only [Act.put, List.getElem_toArray, List.getElem_cons_succ, List.getElem_cons_zero, List.setIfInBounds_toArray, List.set_cons_zero, List.set_cons_succ]
    go_wp2_with fail
    refine bodyPost_ret (results_cell_row2 rfl _ _ (w.heap.size + 3) (w.heap.size + 4) 44 37 m.cells.toArray #[.int .i64 7, .int .i64 0, .int .i64 0] (0, 0) (0, 0) _ _ rfl HX.out.a Tryz.underlying44 rfl (by rw [List.size_toArray, Mt.cells_len h]; exact info_sM107) rfl HX.out.b Tryz.underlying37 rfl info_sR) rfl ?_
    exact ⟨by rw [HR.out]; rfl, HX.out.bel⟩
   ·
    cases tg
    ·
     have hR : rbeginD m f l qu = ⟨m, 8, 0, 0⟩ := by
      unfold rbeginD; rw [HXX.out, HX_.out, HE2.out, HV.out, HZ.out, HK.out, HVMM.out, HWN.out, HNM.out, HTG.out]; rw [if_neg (by omega), if_neg (by omega), if_neg (by simp), if_pos (rfl)]
     have HR := Lib.hid hR
     clear hR
     go_upto_region 9 with fail
     clear c0 c70 c105 c106 c72 q0 q1 q2 f0 f1 f34 fd
     have HX := Lib.hid HX.out.drew
     have hs0 := HS.out _ _ _ HX.out
     refine wp_region_held_drew (S := (fun W => (sldM (.pointer (some ⟨w.heap.size, 0, none⟩))).run Tryz.prog W = .ok (.agg m.cells.toArray) W)) (by kernel_rfl) ?_ (fun hHeld => ?_)
     ·
      exact hs0
     refine tk 0 (h := ?_)
     refine rd 1 (h := fun K hK => ?_)
     go_simp
     refine (rerr_c 8 _).mono ?_; rintro e w9 ⟨rfl, hb9⟩; have HX := Lib.hid (HX.out.later hb9); clear hb9
     go_wp2_with fail
     refine so hK (by (try dsimp only); (exact HS.out _ _ _ HX.out)) (h := fun hHeld => ?_)
     clear hK K
     have hst := storeM h HX.out.a zeroM_size
     have HX := Lib.hid (HX.out.putA m.cells.toArray)
     refine rd 2 (h := fun K hK => ?_)
     go_simp
     clear hst
     refine so hK (by (try dsimp only); (exact HS.out _ _ _ HX.out)) (h := fun hHeld => ?_)
     clear hK K
     have hst := run_sstR 8 0 0 HX.out.b zeroR_size
     have HX := Lib.hid (HX.out.putB #[.int .i64 8, .int .i64 0, .int .i64 0])
     refine rd 3 (h := fun K hK => ?_)
     go_simp
     clear hst
     refine so hK (by (try dsimp only); (exact HS.out _ _ _ HX.out)) (h := fun hHeld => ?_)
     clear hK K
     refine wpAnyH_done (by kernel_rfl) ?_ _
     try simp only [Act.put, List.getElem_toArray, List.getElem_cons_succ, List.getElem_cons_zero, List.setIfInBounds_toArray, List.set_cons_zero, List.set_cons_succ]
     go_wp2_with fail
     refine bodyPost_ret (results_cell_row2 rfl _ _ (w.heap.size + 3) (w.heap.size + 4) 44 37 m.cells.toArray #[.int .i64 8, .int .i64 0, .int .i64 0] (0, 0) (0, 0) _ _ rfl HX.out.a Tryz.underlying44 rfl (by rw [List.size_toArray, Mt.cells_len h]; exact info_sM107) rfl HX.out.b Tryz.underlying37 rfl info_sR) rfl ?_
     exact ⟨by rw [HR.out]; rfl, HX.out.bel⟩
    ·
     have hld := HS.out _ _ _ HX.out
     obtain ⟨hxi, hx1, hx2⟩ := HXC.out _ _ _ HXM.out
     go_wp2_with fail
     refine (HVM.out _).mono ?_
     rintro e w5 ⟨rfl, hb5⟩
     have HX := Lib.hid (HX.out.later hb5)
     have HXM := Lib.hid (HXM.out.below hb5 HXM.out.lt)
     clear hb5 hld hxi hx1 hx2 c0 c70 c105 c106 c72 q0 q1 q2 f0 f1 f34 fd
     obtain ⟨⟨c0, c70, c105, c106, c72⟩, ⟨q0, q1, q2⟩, f0, f1, f34, fd⟩ := HC.out _ _ _ HX.out
     cases VM
     ·
      have hR : rbeginD m f l qu = ⟨m, 9, 0, 0⟩ := by
       unfold rbeginD; rw [HXX.out, HX_.out, HE2.out, HV.out, HZ.out, HK.out, HVMM.out, HWN.out, HNM.out, HTG.out]; rw [if_neg (by omega), if_neg (by omega), if_neg (by simp), if_neg (by simp), if_pos (rfl)]
      have HR := Lib.hid hR
      clear hR
      go_upto_region 11 with fail
      clear c0 c70 c105 c106 c72 q0 q1 q2 f0 f1 f34 fd
      have HX := Lib.hid HX.out.drew
      have hs0 := HS.out _ _ _ HX.out
      refine wp_region_held_drew (S := (fun W => (sldM (.pointer (some ⟨w.heap.size, 0, none⟩))).run Tryz.prog W = .ok (.agg m.cells.toArray) W)) (by kernel_rfl) ?_ (fun hHeld => ?_)
      ·
       exact hs0
      refine tk 0 (h := ?_)
      refine rd 1 (h := fun K hK => ?_)
      go_simp
      refine (rerr_c 9 _).mono ?_; rintro e w9 ⟨rfl, hb9⟩; have HX := Lib.hid (HX.out.later hb9); clear hb9
      go_wp2_with fail
      refine so hK (by (try dsimp only); (exact HS.out _ _ _ HX.out)) (h := fun hHeld => ?_)
      clear hK K
      have hst := storeM h HX.out.a zeroM_size
      have HX := Lib.hid (HX.out.putA m.cells.toArray)
      refine rd 2 (h := fun K hK => ?_)
      go_simp
      clear hst
      refine so hK (by (try dsimp only); (exact HS.out _ _ _ HX.out)) (h := fun hHeld => ?_)
      clear hK K
      have hst := run_sstR 9 0 0 HX.out.b zeroR_size
      have HX := Lib.hid (HX.out.putB #[.int .i64 9, .int .i64 0, .int .i64 0])
      refine rd 3 (h := fun K hK => ?_)
      go_simp
      clear hst
      refine so hK (by (try dsimp only); (exact HS.out _ _ _ HX.out)) (h := fun hHeld => ?_)
      clear hK K
      refine wpAnyH_done (by kernel_rfl) ?_ _
      try simp only [Act.put, List.getElem_toArray, List.getElem_cons_succ, List.getElem_cons_zero, List.setIfInBounds_toArray, List.set_cons_zero, List.set_cons_succ]
      go_wp2_with fail
      refine bodyPost_ret (results_cell_row2 rfl _ _ (w.heap.size + 3) (w.heap.size + 4) 44 37 m.cells.toArray #[.int .i64 9, .int .i64 0, .int .i64 0] (0, 0) (0, 0) _ _ rfl HX.out.a Tryz.underlying44 rfl (by rw [List.size_toArray, Mt.cells_len h]; exact info_sM107) rfl HX.out.b Tryz.underlying37 rfl info_sR) rfl ?_
      exact ⟨by rw [HR.out]; rfl, HX.out.bel⟩
     ·
      obtain ⟨hxi, hx1, hx2⟩ := HXC.out _ _ _ HXM.out
      clear hxi
      go_wp2_with fail
      refine (HCK.out _).mono ?_
      rintro e w6 ⟨rfl, rfl⟩
      by_cases qK : qu < K
      ·
       have hR : rbeginD m f l qu = ⟨m, 10, 0, 0⟩ := by
        unfold rbeginD; rw [HXX.out, HX_.out, HE2.out, HV.out, HZ.out, HK.out, HVMM.out, HWN.out, HNM.out, HTG.out]; rw [if_neg (by omega), if_neg (by omega), if_neg (by simp), if_neg (by simp), if_neg (by simp), if_pos (by omega)]
       have HR := Lib.hid hR
       clear hR
       go_upto_region 13 with fail
       clear c0 c70 c105 c106 c72 q0 q1 q2 f0 f1 f34 fd
       have HX := Lib.hid HX.out.drew
       have hs0 := HS.out _ _ _ HX.out
       refine wp_region_held_drew (S := (fun W => (sldM (.pointer (some ⟨w.heap.size, 0, none⟩))).run Tryz.prog W = .ok (.agg m.cells.toArray) W)) (by kernel_rfl) ?_ (fun hHeld => ?_)
       ·
        exact hs0
       refine tk 0 (h := ?_)
       refine rd 1 (h := fun K hK => ?_)
       go_simp
       refine (rerr_c 10 _).mono ?_; rintro e w9 ⟨rfl, hb9⟩; have HX := Lib.hid (HX.out.later hb9); clear hb9
       go_wp2_with fail
       refine so hK (by (try dsimp only); (exact HS.out _ _ _ HX.out)) (h := fun hHeld => ?_)
       clear hK K
       have hst := storeM h HX.out.a zeroM_size
       have HX := Lib.hid (HX.out.putA m.cells.toArray)
       refine rd 2 (h := fun K hK => ?_)
       go_simp
       clear hst
       refine so hK (by (try dsimp only); (exact HS.out _ _ _ HX.out)) (h := fun hHeld => ?_)
       clear hK K
       have hst := run_sstR 10 0 0 HX.out.b zeroR_size
       have HX := Lib.hid (HX.out.putB #[.int .i64 10, .int .i64 0, .int .i64 0])
       refine rd 3 (h := fun K hK => ?_)
       go_simp
       clear hst
       refine so hK (by (try dsimp only); (exact HS.out _ _ _ HX.out)) (h := fun hHeld => ?_)
       clear hK K
       refine wpAnyH_done (by kernel_rfl) ?_ _
       try simp only [Act.put, List.getElem_toArray, List.getElem_cons_succ, List.getElem_cons_zero, List.setIfInBounds_toArray, List.set_cons_zero, List.set_cons_succ]
       go_wp2_with fail
       refine bodyPost_ret (results_cell_row2 rfl _ _ (w.heap.size + 3) (w.heap.size + 4) 44 37 m.cells.toArray #[.int .i64 10, .int .i64 0, .int .i64 0] (0, 0) (0, 0) _ _ rfl HX.out.a Tryz.underlying44 rfl (by rw [List.size_toArray, Mt.cells_len h]; exact info_sM107) rfl HX.out.b Tryz.underlying37 rfl info_sR) rfl ?_
       exact ⟨by rw [HR.out]; rfl, HX.out.bel⟩
      ·
       go_wp2_with fail
       refine (HCK.out _).mono ?_
       rintro e w7 ⟨rfl, rfl⟩
       by_cases K6 : 6 < K
       ·
        have hR : rbeginD m f l qu = ⟨m, 10, 0, 0⟩ := by
         unfold rbeginD; rw [HXX.out, HX_.out, HE2.out, HV.out, HZ.out, HK.out, HVMM.out, HWN.out, HNM.out, HTG.out]; rw [if_neg (by omega), if_neg (by omega), if_neg (by simp), if_neg (by simp), if_neg (by simp), if_pos (by omega)]
        have HR := Lib.hid hR
        clear hR
        go_upto_region 13 with fail
        clear c0 c70 c105 c106 c72 q0 q1 q2 f0 f1 f34 fd
        have HX := Lib.hid HX.out.drew
        have hs0 := HS.out _ _ _ HX.out
        refine wp_region_held_drew (S := (fun W => (sldM (.pointer (some ⟨w.heap.size, 0, none⟩))).run Tryz.prog W = .ok (.agg m.cells.toArray) W)) (by kernel_rfl) ?_ (fun hHeld => ?_)
        ·
         exact hs0
        refine tk 0 (h := ?_)
        refine rd 1 (h := fun K hK => ?_)
        go_simp
        refine (rerr_c 10 _).mono ?_; rintro e w9 ⟨rfl, hb9⟩; have HX := Lib.hid (HX.out.later hb9); clear hb9
        go_wp2_with fail
        refine so hK (by (try dsimp only); (exact HS.out _ _ _ HX.out)) (h := fun hHeld => ?_)
        clear hK K
        have hst := storeM h HX.out.a zeroM_size
        have HX := Lib.hid (HX.out.putA m.cells.toArray)
        refine rd 2 (h := fun K hK => ?_)
        go_simp
        clear hst
        refine so hK (by (try dsimp only); (exact HS.out _ _ _ HX.out)) (h := fun hHeld => ?_)
        clear hK K
        have hst := run_sstR 10 0 0 HX.out.b zeroR_size
        have HX := Lib.hid (HX.out.putB #[.int .i64 10, .int .i64 0, .int .i64 0])
        refine rd 3 (h := fun K hK => ?_)
        go_simp
        clear hst
        refine so hK (by (try dsimp only); (exact HS.out _ _ _ HX.out)) (h := fun hHeld => ?_)
        clear hK K
        refine wpAnyH_done (by kernel_rfl) ?_ _
        try simp only [Act.put, List.getElem_toArray, List.getElem_cons_succ, List.getElem_cons_zero, List.setIfInBounds_toArray, List.set_cons_zero, List.set_cons_succ]
        go_wp2_with fail
        refine bodyPost_ret (results_cell_row2 rfl _ _ (w.heap.size + 3) (w.heap.size + 4) 44 37 m.cells.toArray #[.int .i64 10, .int .i64 0, .int .i64 0] (0, 0) (0, 0) _ _ rfl HX.out.a Tryz.underlying44 rfl (by rw [List.size_toArray, Mt.cells_len h]; exact info_sM107) rfl HX.out.b Tryz.underlying37 rfl info_sR) rfl ?_
        exact ⟨by rw [HR.out]; rfl, HX.out.bel⟩
       ·
        cases wn
        ·
         have hR : rbeginD m f l qu = ⟨rbegT m l, 0, 0, 0⟩ := by
          unfold rbeginD; rw [HXX.out, HX_.out, HE2.out, HV.out, HZ.out, HK.out, HVMM.out, HWN.out, HNM.out, HTG.out]; rw [if_neg (by omega), if_neg (by omega), if_neg (by simp), if_neg (by simp), if_neg (by simp), if_neg (by omega), if_neg (by simp)]
         have HR := Lib.hid hR
         clear hR
         go_upto_region 16 with fail
         clear c0 c70 c105 c106 c72 q0 q1 q2 f0 f1 f34 fd
         have o1 : ({ m with ph := 1 } : Mt).Ok := ⟨h.d0, h.d1, h.d2, h.act⟩
         have o2 : ({ m with ph := 1, cm := X } : Mt).Ok := ⟨h.d0, h.d1, HD32.out, h.act⟩
         have B1 := HX.out.set (HX.out.m.setPhase h 1)
         obtain ⟨hld, _, _⟩ := HXC.out _ _ _ (HXM.out.far (p := ⟨w.heap.size, 70, none⟩) (Ne.symm HNE.out) (i64v 1))
         have hst := run_sstI B1.m 71 (by rw [List.size_toArray, Mt.cells_len o1]; omega) X HD32.out
         have B2 := B1.sets (B1.m.putCm o1 X HD32.out)
         have B3 := B2.set (B2.m.setGot o2 0)
         obtain ⟨u1, k1⟩ := HX.out.m.some h 70 (by omega)
         obtain ⟨u2, k2⟩ := B2.m.some o2 105 (by omega)
         have z1 := HX.out.m.frozen 70
         have z2 := B2.m.frozen 105
         have o3 : ({ m with ph := 1, cm := X, got := 0 } : Mt).Ok := ⟨h.d0, h.d1, HD32.out, h.act⟩
         have B4 : Fr w _ w.heap.size (w.heap.size + 1) (w.heap.size + 2) (w.heap.size + 3) (w.heap.size + 4) 34 ({ m with ph := 1, cm := X, got := 0 } : Mt) _ _ _ _ := B3
         have hxa : ({ m with ph := 1, cm := X, got := 0 } : Mt).act = a := HA.out
         have hrt : rbegT m l = ({ m with ph := 1, cm := X, got := 0 } : Mt).alone := by unfold rbegT; rw [HX_.out]
         obtain ⟨m2, hm2⟩ : ∃ m2 : Mt, { m with ph := 1, cm := X, got := 0 } = m2 := ⟨_, rfl⟩
         rw [hm2] at B4 o3 hxa hrt
         generalize X.cells = XC at *
         have HX5 := Lib.hid B4
         have HM2 := Lib.hid hrt
         clear B1 B2 B3 B4 hm2 hrt HX HXC HST
         go_upto_region 19 with fail
         have hX2 := HX5.out
         clear HX5 hst hld k1 k2 z1 z2
         generalize World.setCell _ _ _ = W7 at hX2 ⊢
         have hact2 : m2.act = 0 ∨ m2.act = 1 := by rw [hxa, ← HA.out]; exact HACT.out
         have c0 := (mall o3 hX2.m a _ _ _ _ hxa rfl rfl rfl rfl).1
         have hcc := hX2.sets (hX2.m.alone o3 hact2)
         have oal := Mt.alone_ok o3
         have ha01 : a = 0 ∨ a = 1 := HA.out ▸ HACT.out
         rcases ha01 with q | q
         ·
          subst q
          have hst := run_sstI hX2.m 35 (by rw [List.size_toArray, Mt.cells_len o3]; omega) Img.zero rfl
          rw [← zeroI_eq] at hst
          rw [show (if m2.act = 0 then 35 else 1) = 35 from by rw [hxa] <;> rfl] at hcc
          obtain ⟨m3, hm3⟩ : ∃ m3 : Mt, m2.alone = m3 := ⟨_, rfl⟩
          rw [hm3] at hcc oal
          generalize Img.zero.cells = ZC at *
          have HX2 := Lib.hid hcc
          have HM3 := Lib.hid hm3
          clear hcc hX2 hact2 hxa hm3
          go_upto_region 20 with fail
          have hX2 := HX2.out
          clear HX2 hst c0
          generalize World.setCells _ _ _ _ = W8 at hX2 ⊢
          have HX := Lib.hid hX2
          clear hX2
          have hld := run_sldM (Mt.cells_len oal) HX.out.m.whole
          have hst := storeM oal HX.out.a zeroM_size
          have hX5 := HX.out.putA m3.cells.toArray
          have hst2 := run_sstR 0 0 0 hX5.b zeroR_size
          have HX := Lib.hid (hX5.putB #[.int .i64 0, .int .i64 0, .int .i64 0])
          clear hX5
          go_wp2_with fail
          refine bodyPost_ret (results_cell_row2 rfl _ _ (w.heap.size + 3) (w.heap.size + 4) 44 37 m3.cells.toArray #[.int .i64 0, .int .i64 0, .int .i64 0] (0, 0) (0, 0) _ _ rfl HX.out.a Tryz.underlying44 rfl (by rw [List.size_toArray, Mt.cells_len oal]; exact info_sM107) rfl HX.out.b Tryz.underlying37 rfl info_sR) rfl ?_
          exact ⟨by rw [HR.out, HM2.out, HM3.out]; rfl, HX.out.bel⟩
         ·
          subst q
          have hst := run_sstI hX2.m 1 (by rw [List.size_toArray, Mt.cells_len o3]; omega) Img.zero rfl
          rw [← zeroI_eq] at hst
          rw [show (if m2.act = 0 then 35 else 1) = 1 from by rw [hxa] <;> rfl] at hcc
          obtain ⟨m3, hm3⟩ : ∃ m3 : Mt, m2.alone = m3 := ⟨_, rfl⟩
          rw [hm3] at hcc oal
          generalize Img.zero.cells = ZC at *
          have HX2 := Lib.hid hcc
          have HM3 := Lib.hid hm3
          clear hcc hX2 hact2 hxa hm3
          go_upto_region 20 with fail
          have hX2 := HX2.out
          clear HX2 hst c0
          generalize World.setCells _ _ _ _ = W8 at hX2 ⊢
          have HX := Lib.hid hX2
          clear hX2
          have hld := run_sldM (Mt.cells_len oal) HX.out.m.whole
          have hst := storeM oal HX.out.a zeroM_size
          have hX5 := HX.out.putA m3.cells.toArray
          have hst2 := run_sstR 0 0 0 hX5.b zeroR_size
          have HX := Lib.hid (hX5.putB #[.int .i64 0, .int .i64 0, .int .i64 0])
          clear hX5
          go_wp2_with fail
          refine bodyPost_ret (results_cell_row2 rfl _ _ (w.heap.size + 3) (w.heap.size + 4) 44 37 m3.cells.toArray #[.int .i64 0, .int .i64 0, .int .i64 0] (0, 0) (0, 0) _ _ rfl HX.out.a Tryz.underlying44 rfl (by rw [List.size_toArray, Mt.cells_len oal]; exact info_sM107) rfl HX.out.b Tryz.underlying37 rfl info_sR) rfl ?_
          exact ⟨by rw [HR.out, HM2.out, HM3.out]; rfl, HX.out.bel⟩
        ·
         have hR : rbeginD m f l qu = ⟨m, 5, 0, 0⟩ := by
          unfold rbeginD; rw [HXX.out, HX_.out, HE2.out, HV.out, HZ.out, HK.out, HVMM.out, HWN.out, HNM.out, HTG.out]; rw [if_neg (by omega), if_neg (by omega), if_neg (by simp), if_neg (by simp), if_neg (by simp), if_neg (by omega), if_pos (rfl)]
         have HR := Lib.hid hR
         clear hR
         go_upto_region 15 with fail
         clear c0 c70 c105 c106 c72 q0 q1 q2 f0 f1 f34 fd
         have HX := Lib.hid HX.out.drew
         have hs0 := HS.out _ _ _ HX.out
         refine wp_region_held_drew (S := (fun W => (sldM (.pointer (some ⟨w.heap.size, 0, none⟩))).run Tryz.prog W = .ok (.agg m.cells.toArray) W)) (by kernel_rfl) ?_ (fun hHeld => ?_)
         ·
          exact hs0
         refine tk 0 (h := ?_)
         refine rd 1 (h := fun K hK => ?_)
         go_simp
         refine (rerr_c 5 _).mono ?_; rintro e w9 ⟨rfl, hb9⟩; have HX := Lib.hid (HX.out.later hb9); clear hb9
         go_wp2_with fail
         refine so hK (by (try dsimp only); (exact HS.out _ _ _ HX.out)) (h := fun hHeld => ?_)
         clear hK K
         have hst := storeM h HX.out.a zeroM_size
         have HX := Lib.hid (HX.out.putA m.cells.toArray)
         refine rd 2 (h := fun K hK => ?_)
         go_simp
         clear hst
         refine so hK (by (try dsimp only); (exact HS.out _ _ _ HX.out)) (h := fun hHeld => ?_)
         clear hK K
         have hst := run_sstR 5 0 0 HX.out.b zeroR_size
         have HX := Lib.hid (HX.out.putB #[.int .i64 5, .int .i64 0, .int .i64 0])
         refine rd 3 (h := fun K hK => ?_)
         go_simp
         clear hst
         refine so hK (by (try dsimp only); (exact HS.out _ _ _ HX.out)) (h := fun hHeld => ?_)
         clear hK K
         refine wpAnyH_done (by kernel_rfl) ?_ _
         try simp only [Act.put, List.getElem_toArray, List.getElem_cons_succ, List.getElem_cons_zero, List.setIfInBounds_toArray, List.set_cons_zero, List.set_cons_succ]
         go_wp2_with fail
         refine bodyPost_ret (results_cell_row2 rfl _ _ (w.heap.size + 3) (w.heap.size + 4) 44 37 m.cells.toArray #[.int .i64 5, .int .i64 0, .int .i64 0] (0, 0) (0, 0) _ _ rfl HX.out.a Tryz.underlying44 rfl (by rw [List.size_toArray, Mt.cells_len h]; exact info_sM107) rfl HX.out.b Tryz.underlying37 rfl info_sR) rfl ?_
         exact ⟨by rw [HR.out]; rfl, HX.out.bel⟩
  ·
   have hR : rbeginD m f l qu = ⟨m, e2, 0, 0⟩ := by
    unfold rbeginD; rw [HXX.out, HX_.out, HE2.out, HV.out, HZ.out, HK.out, HVMM.out, HWN.out, HNM.out, HTG.out]; rw [if_neg (by omega), if_pos (by omega)]
   have HR := Lib.hid hR
   clear hR
   go_upto_region 5 with fail
   clear c0 c70 c105 c106 c72 q0 q1 q2 f0 f1 f34 fd
   have HX := Lib.hid HX.out.drew
   have hs0 := HS.out _ _ _ HX.out
   refine wp_region_held_drew (S := (fun W => (sldM (.pointer (some ⟨w.heap.size, 0, none⟩))).run Tryz.prog W = .ok (.agg m.cells.toArray) W)) (by kernel_rfl) ?_ (fun hHeld => ?_)
   ·
    exact hs0
   refine tk 0 (h := ?_)
   refine tk 1 (h := ?_)
   refine rd 2 (h := fun K hK => ?_)
   go_simp
   refine (rerr_c e2 _).mono ?_; rintro e w9 ⟨rfl, hb9⟩; have HX := Lib.hid (HX.out.later hb9); clear hb9
   go_wp2_with fail
   refine so hK (by (try dsimp only); (exact HS.out _ _ _ HX.out)) (h := fun hHeld => ?_)
   clear hK K
   have hst := storeM h HX.out.a zeroM_size
   have HX := Lib.hid (HX.out.putA m.cells.toArray)
   refine rd 3 (h := fun K hK => ?_)
   go_simp
   clear hst
   refine so hK (by (try dsimp only); (exact HS.out _ _ _ HX.out)) (h := fun hHeld => ?_)
   clear hK K
   have hst := run_sstR e2 0 0 HX.out.b zeroR_size
   have HX := Lib.hid (HX.out.putB #[.int .i64 e2, .int .i64 0, .int .i64 0])
   refine rd 4 (h := fun K hK => ?_)
   go_simp
   clear hst
   refine so hK (by (try dsimp only); (exact HS.out _ _ _ HX.out)) (h := fun hHeld => ?_)
   clear hK K
   refine wpAnyH_done (by kernel_rfl) ?_ _
   try simp only [Act.put, List.getElem_toArray, List.getElem_cons_succ, List.getElem_cons_zero, List.setIfInBounds_toArray, List.set_cons_zero, List.set_cons_succ]
   go_wp2_with fail
   refine bodyPost_ret (results_cell_row2 rfl _ _ (w.heap.size + 3) (w.heap.size + 4) 44 37 m.cells.toArray #[.int .i64 e2, .int .i64 0, .int .i64 0] (0, 0) (0, 0) _ _ rfl HX.out.a Tryz.underlying44 rfl (by rw [List.size_toArray, Mt.cells_len h]; exact info_sM107) rfl HX.out.b Tryz.underlying37 rfl info_sR) rfl ?_
   exact ⟨by rw [HR.out]; rfl, HX.out.bel⟩
 ·
  have hR : rbeginD m f l qu = ⟨m, 11, 0, 0⟩ := by
   unfold rbeginD; rw [HXX.out, HX_.out, HE2.out, HV.out, HZ.out, HK.out, HVMM.out, HWN.out, HNM.out, HTG.out]; rw [if_pos (by omega)]
  have HR := Lib.hid hR
  clear hR
  go_upto_region 3 with fail
  clear c0 c70 c105 c106 c72 q0 q1 q2 f0 f1 f34 fd
  have HX := Lib.hid HX.out.drew
  have hs0 := HS.out _ _ _ HX.out
  refine wp_region_held_drew (S := (fun W => (sldM (.pointer (some ⟨w.heap.size, 0, none⟩))).run Tryz.prog W = .ok (.agg m.cells.toArray) W)) (by kernel_rfl) ?_ (fun hHeld => ?_)
  ·
   exact hs0
  refine tk 0 (h := ?_)
  refine rd 1 (h := fun K hK => ?_)
  go_simp
  refine (rerr_c 11 _).mono ?_; rintro e w9 ⟨rfl, hb9⟩; have HX := Lib.hid (HX.out.later hb9); clear hb9
  go_wp2_with fail
  refine so hK (by (try dsimp only); (exact HS.out _ _ _ HX.out)) (h := fun hHeld => ?_)
  clear hK K
  have hst := storeM h HX.out.a zeroM_size
  have HX := Lib.hid (HX.out.putA m.cells.toArray)
  refine rd 2 (h := fun K hK => ?_)
  go_simp
  clear hst
  refine so hK (by (try dsimp only); (exact HS.out _ _ _ HX.out)) (h := fun hHeld => ?_)
  clear hK K
  have hst := run_sstR 11 0 0 HX.out.b zeroR_size
  have HX := Lib.hid (HX.out.putB #[.int .i64 11, .int .i64 0, .int .i64 0])
  refine rd 3 (h := fun K hK => ?_)
  go_simp
  clear hst
  refine so hK (by (try dsimp only); (exact HS.out _ _ _ HX.out)) (h := fun hHeld => ?_)
  clear hK K
  refine wpAnyH_done (by kernel_rfl) ?_ _
  try simp only [Act.put, List.getElem_toArray, List.getElem_cons_succ, List.getElem_cons_zero, List.setIfInBounds_toArray, List.set_cons_zero, List.set_cons_succ]
  go_wp2_with fail
  refine bodyPost_ret (results_cell_row2 rfl _ _ (w.heap.size + 3) (w.heap.size + 4) 44 37 m.cells.toArray #[.int .i64 11, .int .i64 0, .int .i64 0] (0, 0) (0, 0) _ _ rfl HX.out.a Tryz.underlying44 rfl (by rw [List.size_toArray, Mt.cells_len h]; exact info_sM107) rfl HX.out.b Tryz.underlying37 rfl info_sR) rfl ?_
  exact ⟨by rw [HR.out]; rfl, HX.out.bel⟩
end Go.Proofs.YtpafenlcgcenlaaGreatDoor
namespace Go.Proofs.YtpafenlcgcenlaaGreatDoor
open Go Go.RowKit
set_option linter.unusedVariables false
set_option linter.unusedSimpArgs false
attribute [local go_sem ↓] sldI_seal sldM_seal sstM_seal sstI_seal sldF_seal sldQ_seal sldR_seal sstR_seal sldD_seal
theorem rbeginD_ok {m : Mt} (h : m.Ok) (f : Fc) (l : List UInt8) (qu : Int) : (rbeginD m f l qu).m.Ok := by
 unfold rbeginD
 repeat' split
 all_goals first | exact h | exact Mt.alone_ok ⟨h.d0, h.d1, (mX_b l).1, h.act⟩
theorem rcommT_ok {m : Mt} (h : m.Ok) : (rcommT m).Ok := by
 unfold rcommT
 split
 ·
  exact ⟨h.d0, h.d2, rfl, h.act⟩
 ·
  exact ⟨h.d2, h.d1, rfl, h.act⟩
theorem rearlyD_ok {m : Mt} (h : m.Ok) (f : Fc) (k n sl : Int) : (rearlyD m f k n sl).m.Ok := by
 unfold rearlyD
 repeat' split
 all_goals first | exact h | exact ⟨h.d0, h.d1, h.d2, h.act⟩ | exact rcommT_ok h
theorem rbootD_ok {m : Mt} (h : m.Ok) (wn : Bool) : (rbootD m wn).m.Ok := by
 unfold rbootD
 split
 ·
  split
  ·
   exact Mt.alone_ok ⟨h.d0, h.d1, h.d2, h.act⟩
  ·
   exact ⟨h.d0, h.d1, h.d2, h.act⟩
 ·
  exact h
theorem rlateD_ok {m : Mt} (h : m.Ok) (hact : m.act = 0 ∨ m.act = 1) (wn : Bool) (k : Int) : (rlateD m wn k).m.Ok := by
 unfold rlateD
 repeat' split
 all_goals first | exact h | exact Mt.idle_ok h | exact Mt.idle_ok (Mt.alone_ok h) | exact Mt.idle_ok ⟨h.d0, h.d1, h.d2, by constructor <;> dsimp only <;> omega⟩
/-- What the reference's Do does. -/
def rdoD (m : Mt) (f : Fc) (k n : Int) (l : List UInt8) (qu : Int) : Ch :=
 if m.rright = false then ⟨m, 1, 0, 0⟩ else if k = 1 then rbeginD m f l qu else if k = 2 ∨ k = 3 ∨ k = 4 then rearlyD m f k n (l.length : Int)
 else if k = 5 then rbootD m f.wn else if k = 6 ∨ k = 7 ∨ k = 8 then rlateD m f.wn k else if k = 9 then ⟨m, 0, m.ph, m.got⟩ else ⟨m, 1, 0, 0⟩
set_option maxRecDepth 100000 in
set_option maxHeartbeats 8000000 in
theorem rdo_c (w : World) (m : Mt) (h : m.Ok) (qk qn : Int) (SB : Option Addr) (sl sc : Nat) (l : List UInt8) (hr : Reads w SB sl (l.map u8v)) (hsl : sl ≤ 1000) (hsc : sl ≤ sc ∧ sc ≤ maxLen) (f : Fc) (hf : f.d.length = 32) (qu : Int) :
  Calls Tryz.prog 36 #[.agg m.cells.toArray, .agg #[.int .i64 qk, .int .i64 qn, .slice SB sl sc], .agg f.cells.toArray, .int .i64 qu] w fun e w' => e = .returned (rdoD m f qk qn l qu).res ∧ Below w.heap.size w w' := by
 have hll : l.length = sl := by simpa using hr.len
 have hX0 := fr5 w m #[.int .i64 qk, .int .i64 qn, .slice SB sl sc] f.cells.toArray
 have hfc : ∀ (W : World) (g : Nat), Blk W g 78 f.cells.toArray → W.cell? ⟨g, 0, none⟩ = Option.some (.bool f.nm) ∧ W.cell? ⟨g, 1, none⟩ = Option.some (.bool f.tg) ∧ W.cell? ⟨g, 34, none⟩ = Option.some (.bool f.wn) ∧ (sldD (.pointer (some ⟨g, 2, none⟩))).run Tryz.prog W = .ok (.agg (f.d.map u8v).toArray) W := fun W g hB =>
  ⟨by rw [hB.cell, List.getElem?_toArray, Fc.c0], by rw [hB.cell, List.getElem?_toArray, Fc.c1], by rw [hB.cell, List.getElem?_toArray, Fc.c34 hf], run_sldD (by rw [List.length_map, hf]) (by have r := hB.range 2 32 (by rw [Fc.cells_len hf]; omega); rw [Fc.c_d hf] at r; exact r)⟩
 have hfl : ∀ (W : World) (g : Nat), Blk W g 78 f.cells.toArray → (sldF (.pointer (some ⟨g, 0, none⟩))).run Tryz.prog W = .ok (.agg f.cells.toArray) W := fun W g hB => run_sldF (Fc.cells_len hf) hB.whole
 obtain ⟨FA, hFA⟩ : ∃ FA, f.cells.toArray = FA := ⟨_, rfl⟩
 simp only [hFA] at hX0 hfc hfl ⊢
 obtain ⟨x, hx⟩ : ∃ x, m.ph = x := ⟨_, rfl⟩
 obtain ⟨a, ha⟩ : ∃ a, m.act = a := ⟨_, rfl⟩
 obtain ⟨g, hg⟩ : ∃ g, m.got = g := ⟨_, rfl⟩
 obtain ⟨t, ht⟩ : ∃ t, m.tr = t := ⟨_, rfl⟩
 obtain ⟨s, hs⟩ : ∃ s, m.cm.s = s := ⟨_, rfl⟩
 obtain ⟨wn, hwn⟩ : ∃ wn, f.wn = wn := ⟨_, rfl⟩
 obtain ⟨nm, hnm⟩ : ∃ nm, f.nm = nm := ⟨_, rfl⟩
 obtain ⟨tg, htg⟩ : ∃ tg, f.tg = tg := ⟨_, rfl⟩
 rw [hwn] at hfc
 rw [hnm, htg] at hfc
 have hS : ∀ W RA RB, Fr w W w.heap.size (w.heap.size + 1) (w.heap.size + 2) (w.heap.size + 3) (w.heap.size + 4) 34 m #[.int .i64 qk, .int .i64 qn, .slice SB sl sc] FA RA RB →
   (sldM (.pointer (some ⟨w.heap.size, 0, none⟩))).run Tryz.prog W = .ok (.agg m.cells.toArray) W := fun W RA RB hX => run_sldM (Mt.cells_len h) hX.m.whole
 have hC : ∀ W RA RB, Fr w W w.heap.size (w.heap.size + 1) (w.heap.size + 2) (w.heap.size + 3) (w.heap.size + 4) 34 m #[.int .i64 qk, .int .i64 qn, .slice SB sl sc] FA RA RB →
   (W.cell? ⟨w.heap.size, 0, none⟩ = some (.int .i64 a) ∧ W.cell? ⟨w.heap.size, 70, none⟩ = some (.int .i64 x) ∧ W.cell? ⟨w.heap.size, 105, none⟩ = some (.int .i64 g) ∧ W.cell? ⟨w.heap.size, 106, none⟩ = some (.int .i64 t) ∧ W.cell? ⟨w.heap.size, 72, none⟩ = some (.int .i64 s)) ∧
   (W.cell? ⟨w.heap.size + 1, 0, none⟩ = some (.int .i64 qk) ∧ W.cell? ⟨w.heap.size + 1, 1, none⟩ = some (.int .i64 qn) ∧ W.cell? ⟨w.heap.size + 1, 2, none⟩ = some (.slice SB sl sc)) ∧
   W.cell? ⟨w.heap.size + 2, 0, none⟩ = some (.bool nm) ∧ W.cell? ⟨w.heap.size + 2, 1, none⟩ = some (.bool tg) ∧ W.cell? ⟨w.heap.size + 2, 34, none⟩ = some (.bool wn) ∧ (sldD (.pointer (some ⟨w.heap.size + 2, 2, none⟩))).run Tryz.prog W = .ok (.agg (f.d.map u8v).toArray) W := fun W RA RB hX => by
  obtain ⟨k0, _, k70, k105, k106, _⟩ := mall h hX.m a _ x g t ha rfl hx hg ht
  exact ⟨⟨k0, k70, k105, k106, by rw [hX.m.cell, List.getElem?_toArray, Mt.c72 h, hs]⟩, ⟨hX.q.cell 0, hX.q.cell 1, hX.q.cell 2⟩, hfc _ _ hX.f⟩
 have HS := Lib.hid hS
 have HC := Lib.hid hC
 have HFL := Lib.hid hfl
 have hact := True.intro
 obtain ⟨RT, hRT⟩ : ∃ RT, m.rright = RT := ⟨_, rfl⟩
 have hrr : ∀ W, Calls Tryz.prog 74 #[.agg m.cells.toArray] W fun e w' => e = .returned (.bool RT) ∧ Below W.heap.size W w' := fun W => hRT ▸ rrmeta_c W m h
 have hbd : RT = true → (m.act = 0 ∨ m.act = 1) ∧ (0 ≤ m.cm.s ∧ m.cm.s ≤ 1920) ∧ (0 ≤ m.got ∧ m.got ≤ 6) ∧ (0 ≤ m.tr ∧ m.tr ≤ 2) := fun q => Mt.right_b (by rw [← Mt.rright_eq, hRT]; exact q)
 have hbg : RT = true → ∀ W, Below w.heap.size w W → Calls Tryz.prog 75 #[.agg m.cells.toArray, .agg #[.int .i64 qk, .int .i64 qn, .slice SB sl sc], .agg f.cells.toArray, .int .i64 qu] W fun e w' => e = .returned (rbeginD m f l qu).res ∧ Below W.heap.size W w' := fun q W hW => rbegin_c W m h (hbd q).1 qk qn SB sl sc l (hr.below hW) hsl hsc f hf qu
 have hel : RT = true → (qk = 2 ∨ qk = 3 ∨ qk = 4) → ∀ W, Calls Tryz.prog 76 #[.agg m.cells.toArray, .agg #[.int .i64 qk, .int .i64 qn, .slice SB sl sc], .agg f.cells.toArray] W fun e w' => e = .returned (rearlyD m f qk qn (sl : Int)).res ∧ Below W.heap.size W w' := fun q hq W => rearly_c W m h (hbd q).1 (hbd q).2.1 (hbd q).2.2.1 qk qn hq SB sl sc (by unfold maxLen; omega) f hf
 have hbo : RT = true → ∀ W, Calls Tryz.prog 77 #[.agg m.cells.toArray, .agg f.cells.toArray] W fun e w' => e = .returned (rbootD m f.wn).res ∧ Below W.heap.size W w' := fun q W => rboot_c W m h (hbd q).1 (hbd q).2.2.2 f hf
 have hla : RT = true → (qk = 6 ∨ qk = 7 ∨ qk = 8) → ∀ W, Calls Tryz.prog 78 #[.agg m.cells.toArray, .agg #[.int .i64 qk, .int .i64 qn, .slice SB sl sc], .agg f.cells.toArray] W fun e w' => e = .returned (rlateD m f.wn qk).res ∧ Below W.heap.size W w' := fun q hq W => rlate_c W m h (hbd q).1 qk qn hq SB sl sc f hf
 have oeb := rbeginD_ok h f l qu
 have oee := rearlyD_ok h f qk qn (sl : Int)
 have oeo := rbootD_ok h f.wn
 have oel : RT = true → (rlateD m f.wn qk).m.Ok := fun q => rlateD_ok h (hbd q).1 f.wn qk
 have hspec : (rdoD m f qk qn l qu) = if RT = false then ⟨m, 1, 0, 0⟩ else if qk = 1 then rbeginD m f l qu else if qk = 2 ∨ qk = 3 ∨ qk = 4 then rearlyD m f qk qn (sl : Int) else if qk = 5 then rbootD m f.wn else if qk = 6 ∨ qk = 7 ∨ qk = 8 then rlateD m f.wn qk else if qk = 9 then ⟨m, 0, m.ph, m.got⟩ else ⟨m, 1, 0, 0⟩ := by unfold rdoD; rw [hRT, hll]
 rw [hspec]
 obtain ⟨DB, hDB⟩ : ∃ D, rbeginD m f l qu = D := ⟨_, rfl⟩
 obtain ⟨DE, hDE⟩ : ∃ D, rearlyD m f qk qn (sl : Int) = D := ⟨_, rfl⟩
 obtain ⟨DO, hDO⟩ : ∃ D, rbootD m f.wn = D := ⟨_, rfl⟩
 obtain ⟨DL, hDL⟩ : ∃ D, rlateD m f.wn qk = D := ⟨_, rfl⟩
 simp only [hDB] at hbg oeb ⊢
 simp only [hDE] at hel oee ⊢
 simp only [hDO] at hbo oeo ⊢
 simp only [hDL] at hla oel ⊢
 simp only [hFA] at hbg hel hbo hla
 rw [hx, hg]
 obtain ⟨D0, hD0⟩ : ∃ D0 : Ch, (if RT = false then (⟨m, 1, 0, 0⟩ : Ch) else if qk = 1 then DB else if qk = 2 ∨ qk = 3 ∨ qk = 4 then DE else if qk = 5 then DO else if qk = 6 ∨ qk = 7 ∨ qk = 8 then DL else if qk = 9 then ⟨m, 0, x, g⟩ else ⟨m, 1, 0, 0⟩) = D0 := ⟨_, rfl⟩
 rw [hD0]
 have HD0 := Lib.hid hD0
 have HRR := Lib.hid hrr
 have HBG := Lib.hid hbg
 have HEL := Lib.hid hel
 have HBO := Lib.hid hbo
 have HLA := Lib.hid hla
 have OEB := Lib.hid oeb
 have OEE := Lib.hid oee
 have OEO := Lib.hid oeo
 have OEL := Lib.hid oel
 have HA := Lib.hid ha
 have HG := Lib.hid hg
 have HT := Lib.hid ht
 have HXX := Lib.hid hx
 have HSS := Lib.hid hs
 have HWN := Lib.hid hwn
 have HNM := Lib.hid hnm
 have HTG := Lib.hid htg
 have HACT := Lib.hid hact
 have HFA := Lib.hid hFA
 clear hS hC hfc hfl hFA ha hg ht hx hs hwn hnm htg hact hRT hrr hbd hbg hel hbo hla oeb oee oeo oel hspec hDB hDE hDO hDL hD0 hr hll
 go_enter Tryz.func36, Tryz.ntmps36
 go_upto_region 1 with fail
 generalize ((((w.alloc (.cells m.cells.toArray 44)).alloc (.cells #[.int .i64 qk, .int .i64 qn, .slice SB sl sc] 34)).alloc (.cells FA 78)).alloc (.cells Tryz.zeroCells44 44)).alloc (.cells #[.int .i64 0, .int .i64 0, .int .i64 0] 37) = W1 at hX0 ⊢
 have HX := Lib.hid hX0
 clear hX0
 have hldM := HS.out _ _ _ HX.out
 go_wp2_with fail
 refine (HRR.out _).mono ?_
 rintro e w2 ⟨rfl, hb2⟩
 have HX := Lib.hid (HX.out.later hb2)
 clear hb2 hldM
 obtain ⟨⟨c0, c70, c105, c106, c72⟩, ⟨q0, q1, q2⟩, f0, f1, f34, fd⟩ := HC.out _ _ _ HX.out
 cases RT
 ·
  have hR : D0 = ⟨m, 1, 0, 0⟩ := by rw [← HD0.out, if_pos rfl]
  have HR := Lib.hid hR
  clear hR
  go_upto_region 2 with fail
  clear c0 c70 c105 c106 c72 q0 q1 q2 f0 f1 f34 fd
  have HX := Lib.hid HX.out.drew
  have hs0 := HS.out _ _ _ HX.out
  refine wp_region_held_drew (S := (fun W => (sldM (.pointer (some ⟨w.heap.size, 0, none⟩))).run Tryz.prog W = .ok (.agg m.cells.toArray) W)) (by kernel_rfl) ?_ (fun hHeld => ?_)
  ·
   exact hs0
  refine tk 0 (h := ?_)
  refine rd 1 (h := fun K hK => ?_)
  go_simp
  refine (rerr_c 1 _).mono ?_; rintro e w9 ⟨rfl, hb9⟩; have HX := Lib.hid (HX.out.later hb9); clear hb9
  go_wp2_with fail
  refine so hK (by (try dsimp only); (exact HS.out _ _ _ HX.out)) (h := fun hHeld => ?_)
  clear hK K
  have hst := storeM h HX.out.a zeroM_size
  have HX := Lib.hid (HX.out.putA m.cells.toArray)
  refine rd 2 (h := fun K hK => ?_)
  go_simp
  clear hst
  refine so hK (by (try dsimp only); (exact HS.out _ _ _ HX.out)) (h := fun hHeld => ?_)
  clear hK K
  have hst := run_sstR 1 0 0 HX.out.b zeroR_size
  have HX := Lib.hid (HX.out.putB #[.int .i64 1, .int .i64 0, .int .i64 0])
  refine rd 3 (h := fun K hK => ?_)
  go_simp
  clear hst
  refine so hK (by (try dsimp only); (exact HS.out _ _ _ HX.out)) (h := fun hHeld => ?_)
  clear hK K
  refine wpAnyH_done (by kernel_rfl) ?_ _
  try simp only [Act.put, List.getElem_toArray, List.getElem_cons_succ, List.getElem_cons_zero, List.setIfInBounds_toArray, List.set_cons_zero, List.set_cons_succ]
  go_wp2_with fail
  refine bodyPost_ret (results_cell_row2 rfl _ _ (w.heap.size + 3) (w.heap.size + 4) 44 37 m.cells.toArray #[.int .i64 1, .int .i64 0, .int .i64 0] (0, 0) (0, 0) _ _ rfl HX.out.a Tryz.underlying44 rfl (by rw [List.size_toArray, Mt.cells_len h]; exact info_sM107) rfl HX.out.b Tryz.underlying37 rfl info_sR) rfl ?_
  exact ⟨by rw [HR.out]; rfl, HX.out.bel⟩
 ·
  by_cases k1 : qk = 1
  ·
   have hR : D0 = DB := by rw [← HD0.out, if_neg (by simp), if_pos k1]
   have HR := Lib.hid hR
   clear hR
   have HCL := Lib.hid (HBG.out rfl)
   have hok := OEB.out
   have HOK := Lib.hid hok
   clear hok HBG HEL HBO HLA OEB OEE OEO OEL HD0
   subst k1
   have hldM := HS.out _ _ _ HX.out
   have hldQ := run_sldQ rfl (Blk.whole (l := [.int .i64 1, .int .i64 qn, .slice SB sl sc]) HX.out.q)
   have hldF := HFL.out _ _ HX.out.f
   go_wp2_with fail
   refine (HCL.out _ HX.out.bel).mono ?_
   rintro e w3 ⟨rfl, hb3⟩
   have HX := Lib.hid (HX.out.later hb3)
   have hok := HOK.out
   obtain ⟨DM, EE, NN, GG⟩ := DB
   simp only [Ch.res]
   have hst := storeM hok HX.out.a zeroM_size
   have hX5 := HX.out.putA DM.cells.toArray
   have hst2 := run_sstR EE NN GG hX5.b zeroR_size
   have HX := Lib.hid (hX5.putB #[.int .i64 EE, .int .i64 NN, .int .i64 GG])
   clear hX5 hb3 hok hldM hldQ hldF c0 c70 c105 c106 c72 q0 q1 q2 f0 f1 f34 fd
   go_wp2_with fail
   refine bodyPost_ret (results_cell_row2 rfl _ _ (w.heap.size + 3) (w.heap.size + 4) 44 37 DM.cells.toArray #[.int .i64 EE, .int .i64 NN, .int .i64 GG] (0, 0) (0, 0) _ _ rfl HX.out.a Tryz.underlying44 rfl (by rw [List.size_toArray, Mt.cells_len HOK.out]; exact info_sM107) rfl HX.out.b Tryz.underlying37 rfl info_sR) rfl ?_
   exact ⟨by rw [HR.out]; rfl, HX.out.bel⟩
  ·
   by_cases k2 : qk = 2
   ·
    have hR : D0 = DE := by rw [← HD0.out, if_neg (by simp), if_neg k1, if_pos (show qk = 2 ∨ qk = 3 ∨ qk = 4 by omega)]
    have HR := Lib.hid hR
    clear hR
    have HCL := Lib.hid (HEL.out rfl (by omega))
    have hok := OEE.out
    have HOK := Lib.hid hok
    clear hok HBG HEL HBO HLA OEB OEE OEO OEL HD0
    subst k2
    have hldM := HS.out _ _ _ HX.out
    have hldQ := run_sldQ rfl (Blk.whole (l := [.int .i64 2, .int .i64 qn, .slice SB sl sc]) HX.out.q)
    have hldF := HFL.out _ _ HX.out.f
    go_wp2_with fail
    refine (HCL.out _).mono ?_
    rintro e w3 ⟨rfl, hb3⟩
    have HX := Lib.hid (HX.out.later hb3)
    have hok := HOK.out
    obtain ⟨DM, EE, NN, GG⟩ := DE
    simp only [Ch.res]
    have hst := storeM hok HX.out.a zeroM_size
    have hX5 := HX.out.putA DM.cells.toArray
    have hst2 := run_sstR EE NN GG hX5.b zeroR_size
    have HX := Lib.hid (hX5.putB #[.int .i64 EE, .int .i64 NN, .int .i64 GG])
    clear hX5 hb3 hok hldM hldQ hldF c0 c70 c105 c106 c72 q0 q1 q2 f0 f1 f34 fd
    go_wp2_with fail
    refine bodyPost_ret (results_cell_row2 rfl _ _ (w.heap.size + 3) (w.heap.size + 4) 44 37 DM.cells.toArray #[.int .i64 EE, .int .i64 NN, .int .i64 GG] (0, 0) (0, 0) _ _ rfl HX.out.a Tryz.underlying44 rfl (by rw [List.size_toArray, Mt.cells_len HOK.out]; exact info_sM107) rfl HX.out.b Tryz.underlying37 rfl info_sR) rfl ?_
    exact ⟨by rw [HR.out]; rfl, HX.out.bel⟩
   ·
    by_cases k3 : qk = 3
    ·
     have hR : D0 = DE := by rw [← HD0.out, if_neg (by simp), if_neg k1, if_pos (show qk = 2 ∨ qk = 3 ∨ qk = 4 by omega)]
     have HR := Lib.hid hR
     clear hR
     have HCL := Lib.hid (HEL.out rfl (by omega))
     have hok := OEE.out
     have HOK := Lib.hid hok
     clear hok HBG HEL HBO HLA OEB OEE OEO OEL HD0
     subst k3
     have hldM := HS.out _ _ _ HX.out
     have hldQ := run_sldQ rfl (Blk.whole (l := [.int .i64 3, .int .i64 qn, .slice SB sl sc]) HX.out.q)
     have hldF := HFL.out _ _ HX.out.f
     go_wp2_with fail
     refine (HCL.out _).mono ?_
     rintro e w3 ⟨rfl, hb3⟩
     have HX := Lib.hid (HX.out.later hb3)
     have hok := HOK.out
     obtain ⟨DM, EE, NN, GG⟩ := DE
     simp only [Ch.res]
     have hst := storeM hok HX.out.a zeroM_size
     have hX5 := HX.out.putA DM.cells.toArray
     have hst2 := run_sstR EE NN GG hX5.b zeroR_size
     have HX := Lib.hid (hX5.putB #[.int .i64 EE, .int .i64 NN, .int .i64 GG])
     clear hX5 hb3 hok hldM hldQ hldF c0 c70 c105 c106 c72 q0 q1 q2 f0 f1 f34 fd
     go_wp2_with fail
     refine bodyPost_ret (results_cell_row2 rfl _ _ (w.heap.size + 3) (w.heap.size + 4) 44 37 DM.cells.toArray #[.int .i64 EE, .int .i64 NN, .int .i64 GG] (0, 0) (0, 0) _ _ rfl HX.out.a Tryz.underlying44 rfl (by rw [List.size_toArray, Mt.cells_len HOK.out]; exact info_sM107) rfl HX.out.b Tryz.underlying37 rfl info_sR) rfl ?_
     exact ⟨by rw [HR.out]; rfl, HX.out.bel⟩
    ·
     by_cases k4 : qk = 4
     ·
      have hR : D0 = DE := by rw [← HD0.out, if_neg (by simp), if_neg k1, if_pos (show qk = 2 ∨ qk = 3 ∨ qk = 4 by omega)]
      have HR := Lib.hid hR
      clear hR
      have HCL := Lib.hid (HEL.out rfl (by omega))
      have hok := OEE.out
      have HOK := Lib.hid hok
      clear hok HBG HEL HBO HLA OEB OEE OEO OEL HD0
      subst k4
      have hldM := HS.out _ _ _ HX.out
      have hldQ := run_sldQ rfl (Blk.whole (l := [.int .i64 4, .int .i64 qn, .slice SB sl sc]) HX.out.q)
      have hldF := HFL.out _ _ HX.out.f
      go_wp2_with fail
      refine (HCL.out _).mono ?_
      rintro e w3 ⟨rfl, hb3⟩
      have HX := Lib.hid (HX.out.later hb3)
      have hok := HOK.out
      obtain ⟨DM, EE, NN, GG⟩ := DE
      simp only [Ch.res]
      have hst := storeM hok HX.out.a zeroM_size
      have hX5 := HX.out.putA DM.cells.toArray
      have hst2 := run_sstR EE NN GG hX5.b zeroR_size
      have HX := Lib.hid (hX5.putB #[.int .i64 EE, .int .i64 NN, .int .i64 GG])
      clear hX5 hb3 hok hldM hldQ hldF c0 c70 c105 c106 c72 q0 q1 q2 f0 f1 f34 fd
      go_wp2_with fail
      refine bodyPost_ret (results_cell_row2 rfl _ _ (w.heap.size + 3) (w.heap.size + 4) 44 37 DM.cells.toArray #[.int .i64 EE, .int .i64 NN, .int .i64 GG] (0, 0) (0, 0) _ _ rfl HX.out.a Tryz.underlying44 rfl (by rw [List.size_toArray, Mt.cells_len HOK.out]; exact info_sM107) rfl HX.out.b Tryz.underlying37 rfl info_sR) rfl ?_
      exact ⟨by rw [HR.out]; rfl, HX.out.bel⟩
     ·
      have kE : ¬ (qk = 2 ∨ qk = 3 ∨ qk = 4) := by omega
      by_cases k5 : qk = 5
      ·
       have hR : D0 = DO := by rw [← HD0.out, if_neg (by simp), if_neg k1, if_neg kE, if_pos k5]
       have HR := Lib.hid hR
       clear hR
       have HCL := Lib.hid (HBO.out rfl)
       have hok := OEO.out
       have HOK := Lib.hid hok
       clear hok HBG HEL HBO HLA OEB OEE OEO OEL HD0
       subst k5
       have hldM := HS.out _ _ _ HX.out
       have hldQ := run_sldQ rfl (Blk.whole (l := [.int .i64 5, .int .i64 qn, .slice SB sl sc]) HX.out.q)
       have hldF := HFL.out _ _ HX.out.f
       go_wp2_with fail
       refine (HCL.out _).mono ?_
       rintro e w3 ⟨rfl, hb3⟩
       have HX := Lib.hid (HX.out.later hb3)
       have hok := HOK.out
       obtain ⟨DM, EE, NN, GG⟩ := DO
       simp only [Ch.res]
       have hst := storeM hok HX.out.a zeroM_size
       have hX5 := HX.out.putA DM.cells.toArray
       have hst2 := run_sstR EE NN GG hX5.b zeroR_size
       have HX := Lib.hid (hX5.putB #[.int .i64 EE, .int .i64 NN, .int .i64 GG])
       clear hX5 hb3 hok hldM hldQ hldF c0 c70 c105 c106 c72 q0 q1 q2 f0 f1 f34 fd
       go_wp2_with fail
       refine bodyPost_ret (results_cell_row2 rfl _ _ (w.heap.size + 3) (w.heap.size + 4) 44 37 DM.cells.toArray #[.int .i64 EE, .int .i64 NN, .int .i64 GG] (0, 0) (0, 0) _ _ rfl HX.out.a Tryz.underlying44 rfl (by rw [List.size_toArray, Mt.cells_len HOK.out]; exact info_sM107) rfl HX.out.b Tryz.underlying37 rfl info_sR) rfl ?_
       exact ⟨by rw [HR.out]; rfl, HX.out.bel⟩
      ·
       by_cases k6 : qk = 6
       ·
        have hR : D0 = DL := by rw [← HD0.out, if_neg (by simp), if_neg k1, if_neg kE, if_neg k5, if_pos (show qk = 6 ∨ qk = 7 ∨ qk = 8 by omega)]
        have HR := Lib.hid hR
        clear hR
        have HCL := Lib.hid (HLA.out rfl (by omega))
        have hok := OEL.out rfl
        have HOK := Lib.hid hok
        clear hok HBG HEL HBO HLA OEB OEE OEO OEL HD0
        subst k6
        have hldM := HS.out _ _ _ HX.out
        have hldQ := run_sldQ rfl (Blk.whole (l := [.int .i64 6, .int .i64 qn, .slice SB sl sc]) HX.out.q)
        have hldF := HFL.out _ _ HX.out.f
        go_wp2_with fail
        refine (HCL.out _).mono ?_
        rintro e w3 ⟨rfl, hb3⟩
        have HX := Lib.hid (HX.out.later hb3)
        have hok := HOK.out
        obtain ⟨DM, EE, NN, GG⟩ := DL
        simp only [Ch.res]
        have hst := storeM hok HX.out.a zeroM_size
        have hX5 := HX.out.putA DM.cells.toArray
        have hst2 := run_sstR EE NN GG hX5.b zeroR_size
        have HX := Lib.hid (hX5.putB #[.int .i64 EE, .int .i64 NN, .int .i64 GG])
        clear hX5 hb3 hok hldM hldQ hldF c0 c70 c105 c106 c72 q0 q1 q2 f0 f1 f34 fd
        go_wp2_with fail
        refine bodyPost_ret (results_cell_row2 rfl _ _ (w.heap.size + 3) (w.heap.size + 4) 44 37 DM.cells.toArray #[.int .i64 EE, .int .i64 NN, .int .i64 GG] (0, 0) (0, 0) _ _ rfl HX.out.a Tryz.underlying44 rfl (by rw [List.size_toArray, Mt.cells_len HOK.out]; exact info_sM107) rfl HX.out.b Tryz.underlying37 rfl info_sR) rfl ?_
        exact ⟨by rw [HR.out]; rfl, HX.out.bel⟩
       ·
        by_cases k7 : qk = 7
        ·
         have hR : D0 = DL := by rw [← HD0.out, if_neg (by simp), if_neg k1, if_neg kE, if_neg k5, if_pos (show qk = 6 ∨ qk = 7 ∨ qk = 8 by omega)]
         have HR := Lib.hid hR
         clear hR
         have HCL := Lib.hid (HLA.out rfl (by omega))
         have hok := OEL.out rfl
         have HOK := Lib.hid hok
         clear hok HBG HEL HBO HLA OEB OEE OEO OEL HD0
         subst k7
         have hldM := HS.out _ _ _ HX.out
         have hldQ := run_sldQ rfl (Blk.whole (l := [.int .i64 7, .int .i64 qn, .slice SB sl sc]) HX.out.q)
         have hldF := HFL.out _ _ HX.out.f
         go_wp2_with fail
         refine (HCL.out _).mono ?_
         rintro e w3 ⟨rfl, hb3⟩
         have HX := Lib.hid (HX.out.later hb3)
         have hok := HOK.out
         obtain ⟨DM, EE, NN, GG⟩ := DL
         simp only [Ch.res]
         have hst := storeM hok HX.out.a zeroM_size
         have hX5 := HX.out.putA DM.cells.toArray
         have hst2 := run_sstR EE NN GG hX5.b zeroR_size
         have HX := Lib.hid (hX5.putB #[.int .i64 EE, .int .i64 NN, .int .i64 GG])
         clear hX5 hb3 hok hldM hldQ hldF c0 c70 c105 c106 c72 q0 q1 q2 f0 f1 f34 fd
         go_wp2_with fail
         refine bodyPost_ret (results_cell_row2 rfl _ _ (w.heap.size + 3) (w.heap.size + 4) 44 37 DM.cells.toArray #[.int .i64 EE, .int .i64 NN, .int .i64 GG] (0, 0) (0, 0) _ _ rfl HX.out.a Tryz.underlying44 rfl (by rw [List.size_toArray, Mt.cells_len HOK.out]; exact info_sM107) rfl HX.out.b Tryz.underlying37 rfl info_sR) rfl ?_
         exact ⟨by rw [HR.out]; rfl, HX.out.bel⟩
        ·
         by_cases k8 : qk = 8
         ·
          have hR : D0 = DL := by rw [← HD0.out, if_neg (by simp), if_neg k1, if_neg kE, if_neg k5, if_pos (show qk = 6 ∨ qk = 7 ∨ qk = 8 by omega)]
          have HR := Lib.hid hR
          clear hR
          have HCL := Lib.hid (HLA.out rfl (by omega))
          have hok := OEL.out rfl
          have HOK := Lib.hid hok
          clear hok HBG HEL HBO HLA OEB OEE OEO OEL HD0
          subst k8
          have hldM := HS.out _ _ _ HX.out
          have hldQ := run_sldQ rfl (Blk.whole (l := [.int .i64 8, .int .i64 qn, .slice SB sl sc]) HX.out.q)
          have hldF := HFL.out _ _ HX.out.f
          go_wp2_with fail
          refine (HCL.out _).mono ?_
          rintro e w3 ⟨rfl, hb3⟩
          have HX := Lib.hid (HX.out.later hb3)
          have hok := HOK.out
          obtain ⟨DM, EE, NN, GG⟩ := DL
          simp only [Ch.res]
          have hst := storeM hok HX.out.a zeroM_size
          have hX5 := HX.out.putA DM.cells.toArray
          have hst2 := run_sstR EE NN GG hX5.b zeroR_size
          have HX := Lib.hid (hX5.putB #[.int .i64 EE, .int .i64 NN, .int .i64 GG])
          clear hX5 hb3 hok hldM hldQ hldF c0 c70 c105 c106 c72 q0 q1 q2 f0 f1 f34 fd
          go_wp2_with fail
          refine bodyPost_ret (results_cell_row2 rfl _ _ (w.heap.size + 3) (w.heap.size + 4) 44 37 DM.cells.toArray #[.int .i64 EE, .int .i64 NN, .int .i64 GG] (0, 0) (0, 0) _ _ rfl HX.out.a Tryz.underlying44 rfl (by rw [List.size_toArray, Mt.cells_len HOK.out]; exact info_sM107) rfl HX.out.b Tryz.underlying37 rfl info_sR) rfl ?_
          exact ⟨by rw [HR.out]; rfl, HX.out.bel⟩
         ·
          have kL : ¬ (qk = 6 ∨ qk = 7 ∨ qk = 8) := by omega
          by_cases k9 : qk = 9
          ·
           have hR : D0 = ⟨m, 0, x, g⟩ := by rw [← HD0.out, if_neg (by simp), if_neg k1, if_neg kE, if_neg k5, if_neg kL, if_pos k9]
           have HR := Lib.hid hR
           clear hR
           clear HBG HEL HBO HLA OEB OEE OEO OEL HD0
           subst k9
           go_upto_region 17 with fail
           clear c0 c70 c105 c106 c72 q0 q1 q2 f0 f1 f34 fd
           have hS9 : ∀ W RA RB, Fr w W w.heap.size (w.heap.size + 1) (w.heap.size + 2) (w.heap.size + 3) (w.heap.size + 4) 34 m #[.int .i64 9, .int .i64 qn, .slice SB sl sc] FA RA RB → (sldM (.pointer (some ⟨w.heap.size, 0, none⟩))).run Tryz.prog W = .ok (.agg m.cells.toArray) W ∧ W.cell? ⟨w.heap.size, 70, none⟩ = some (.int .i64 x) ∧ W.cell? ⟨w.heap.size, 105, none⟩ = some (.int .i64 g) := fun W RA RB hX => ⟨HS.out _ _ _ hX, (HC.out _ _ _ hX).1.2.1, (HC.out _ _ _ hX).1.2.2.1⟩
           clear HS
           have HS := Lib.hid hS9
           clear hS9
           have HX := Lib.hid HX.out.drew
           have hs0 := HS.out _ _ _ HX.out
           refine wp_region_held_drew (S := (fun W => (sldM (.pointer (some ⟨w.heap.size, 0, none⟩))).run Tryz.prog W = .ok (.agg m.cells.toArray) W ∧ W.cell? ⟨w.heap.size, 70, none⟩ = some (.int .i64 x) ∧ W.cell? ⟨w.heap.size, 105, none⟩ = some (.int .i64 g))) (by kernel_rfl) ?_ (fun hHeld => ?_)
           ·
            exact hs0
           refine tk 0 (h := ?_)
           refine tk 1 (h := ?_)
           refine tk 2 (h := ?_)
           refine tk 3 (h := ?_)
           refine tk 4 (h := ?_)
           refine tk 5 (h := ?_)
           have hst := storeM h HX.out.a zeroM_size
           have HX := Lib.hid (HX.out.putA m.cells.toArray)
           refine rd 6 (h := fun K hK => ?_)
           go_simp
           clear hst
           refine so hK (by (try dsimp only); (exact HS.out _ _ _ HX.out)) (h := fun hHeld => ?_)
           clear hK K
           have hst := run_sstR 0 x g HX.out.b zeroR_size
           have HX := Lib.hid (HX.out.putB #[.int .i64 0, .int .i64 x, .int .i64 g])
           refine rd 7 (h := fun K hK => ?_)
           go_simp
           clear hst
           refine so hK (by (try dsimp only); (exact HS.out _ _ _ HX.out)) (h := fun hHeld => ?_)
           clear hK K
           refine wpAnyH_done (by kernel_rfl) ?_ _
           try simp only [Act.put, List.getElem_toArray, List.getElem_cons_succ, List.getElem_cons_zero, List.setIfInBounds_toArray, List.set_cons_zero, List.set_cons_succ]
           go_wp2_with fail
           refine bodyPost_ret (results_cell_row2 rfl _ _ (w.heap.size + 3) (w.heap.size + 4) 44 37 m.cells.toArray #[.int .i64 0, .int .i64 x, .int .i64 g] (0, 0) (0, 0) _ _ rfl HX.out.a Tryz.underlying44 rfl (by rw [List.size_toArray, Mt.cells_len h]; exact info_sM107) rfl HX.out.b Tryz.underlying37 rfl info_sR) rfl ?_
           exact ⟨by rw [HR.out]; rfl, HX.out.bel⟩
          ·
           have hR : D0 = ⟨m, 1, 0, 0⟩ := by rw [← HD0.out, if_neg (by simp), if_neg k1, if_neg kE, if_neg k5, if_neg kL, if_neg k9]
           have HR := Lib.hid hR
           clear hR
           go_upto_region 18 with fail
           clear c0 c70 c105 c106 c72 q0 q1 q2 f0 f1 f34 fd
           have HX := Lib.hid HX.out.drew
           have hs0 := HS.out _ _ _ HX.out
           refine wp_region_held_drew (S := (fun W => (sldM (.pointer (some ⟨w.heap.size, 0, none⟩))).run Tryz.prog W = .ok (.agg m.cells.toArray) W)) (by kernel_rfl) ?_ (fun hHeld => ?_)
           ·
            exact hs0
           refine tk 0 (h := ?_)
           refine rd 1 (h := fun K hK => ?_)
           go_simp
           refine (rerr_c 1 _).mono ?_; rintro e w9 ⟨rfl, hb9⟩; have HX := Lib.hid (HX.out.later hb9); clear hb9
           go_wp2_with fail
           refine so hK (by (try dsimp only); (exact HS.out _ _ _ HX.out)) (h := fun hHeld => ?_)
           clear hK K
           have hst := storeM h HX.out.a zeroM_size
           have HX := Lib.hid (HX.out.putA m.cells.toArray)
           refine rd 2 (h := fun K hK => ?_)
           go_simp
           clear hst
           refine so hK (by (try dsimp only); (exact HS.out _ _ _ HX.out)) (h := fun hHeld => ?_)
           clear hK K
           have hst := run_sstR 1 0 0 HX.out.b zeroR_size
           have HX := Lib.hid (HX.out.putB #[.int .i64 1, .int .i64 0, .int .i64 0])
           refine rd 3 (h := fun K hK => ?_)
           go_simp
           clear hst
           refine so hK (by (try dsimp only); (exact HS.out _ _ _ HX.out)) (h := fun hHeld => ?_)
           clear hK K
           refine wpAnyH_done (by kernel_rfl) ?_ _
           try simp only [Act.put, List.getElem_toArray, List.getElem_cons_succ, List.getElem_cons_zero, List.setIfInBounds_toArray, List.set_cons_zero, List.set_cons_succ]
           go_wp2_with fail
           refine bodyPost_ret (results_cell_row2 rfl _ _ (w.heap.size + 3) (w.heap.size + 4) 44 37 m.cells.toArray #[.int .i64 1, .int .i64 0, .int .i64 0] (0, 0) (0, 0) _ _ rfl HX.out.a Tryz.underlying44 rfl (by rw [List.size_toArray, Mt.cells_len h]; exact info_sM107) rfl HX.out.b Tryz.underlying37 rfl info_sR) rfl ?_
           exact ⟨by rw [HR.out]; rfl, HX.out.bel⟩
end Go.Proofs.YtpafenlcgcenlaaGreatDoor
namespace Go.Proofs.YtpafenlcgcenlaaGreatDoor
open Go Go.RowKit
set_option linter.unusedVariables false
set_option linter.unusedSimpArgs false
theorem firstE_n {e : Int} {l : List Int} (h : e ≠ 0) : firstE (e :: l) = e := by
 show (if e = 0 then firstE l else e) = e
 rw [if_neg h]
theorem rmut {m T : Mt} {e : Int} (he : e ≠ 0) : (⟨m, e, 0, 0⟩ : Ch) = if e = 0 then ⟨T, 0, 0, 0⟩ else ⟨m, e, 0, 0⟩ := (if_neg he).symm
theorem rend {m T T' : Mt} (h : T' = T) : (⟨T', 0, 0, 0⟩ : Ch) = if (0 : Int) = 0 then ⟨T, 0, 0, 0⟩ else ⟨m, 0, 0, 0⟩ := by rw [if_pos rfl, h]
theorem ph3_all {m : Mt} (P : RightP m) (h : m.ph = 3) : m.cm = Img.zero ∧ m.got = 0 := by
 have q := P.ph
 rw [phase3 h] at q
 simp only [Bool.and_eq_true, beq_iff_eq] at q
 exact ⟨none_zero q.1, q.2.1⟩
theorem ph12_all {m : Mt} (P : RightP m) (h : m.ph = 1 ∨ m.ph = 2) : m.tr = 0 ∧ m.got ≤ chunksZ m.cm.s ∧ (m.ph = 2 → m.got = chunksZ m.cm.s) := by
 have q := P.ph
 have hb := Img.may_b P.cm
 have hc := chk_chunks m.cm.s hb.2.1
 rcases h with h | h
 ·
  rw [phase1 h] at q
  simp only [Bool.and_eq_true, Bool.or_eq_true, beq_iff_eq, decide_eq_true_eq, Img.chk, hc] at q
  exact ⟨q.2.2.1, by omega, fun h2 => by omega⟩
 ·
  rw [phase2 h] at q
  simp only [Bool.and_eq_true, beq_iff_eq, Img.chk, hc] at q
  exact ⟨q.2.2.1, by omega, fun _ => q.2.2.2⟩
theorem rbegin_eq {m : Mt} (P : RightP m) (f : Fc) (l : List UInt8) (qu : Int) (D : Ch) (hD : (if (beginD m f l qu).e = 0 then beginD m f l qu else (⟨m, (beginD m f l qu).e, (beginD m f l qu).n, (beginD m f l qu).g⟩ : Ch)) = D) : rbeginD m f l qu = D := by
 subst hD
 unfold beginD
 rw [fin_one]
 unfold rbeginD
 by_cases p0 : m.ph = 0
 ·
  rw [if_neg (fun q => q p0), firstE_f (by simp [p0])]
  by_cases e0 : mE l = 0
  ·
   rw [if_neg (fun q => q e0), firstE_z e0]
   cases hn : f.nm with
   | false => rw [if_pos rfl, firstE_t (show (!false) = true from rfl) (by decide)]; exact rmut (by decide)
   | true =>
    rw [if_neg (by decide), firstE_f (show (!true) = false from rfl)]
    cases ht : f.tg with
    | false => rw [if_pos rfl, firstE_t (show (!false) = true from rfl) (by decide)]; exact rmut (by decide)
    | true =>
     rw [if_neg (by decide), firstE_f (show (!true) = false from rfl)]
     cases hv : m.vmay (mX l).v with
     | false => rw [if_pos rfl, firstE_t (show (!false) = true from rfl) (by decide)]; exact rmut (by decide)
     | true =>
      rw [if_neg (by decide), firstE_f (show (!true) = false from rfl)]
      by_cases hq : qu < chunksZ (mX l).s ∨ 6 < chunksZ (mX l).s
      ·
       rw [if_pos hq, firstE_t (by rw [decide_eq_true_eq]; omega) (by decide)]; exact rmut (by decide)
      ·
       rw [if_neg hq, firstE_f (by rw [decide_eq_false_iff_not]; omega)]
       cases hw : f.wn with
       | true => rw [if_pos rfl, firstE_t rfl (by decide)]; exact rmut (by decide)
       | false =>
        rw [if_neg (by decide), firstE_f rfl, firstE_nil]
        refine rend ?_
        obtain ⟨_, hg, _⟩ := ph0_all P p0
        unfold rbegT Mt.beginT Mt.alone
        by_cases ha : m.act = 0
        ·
         rw [if_pos ha, if_pos ha]; simp [hg]
        ·
         rw [if_neg ha, if_neg ha]; simp [hg]
  ·
   rw [if_pos e0, firstE_n e0]; exact rmut e0
 ·
  rw [if_pos p0, firstE_t (by simp [p0]) (by decide)]; exact rmut (by decide)
theorem rdo_eq (m : Mt) (f : Fc) (k n : Int) (l : List UInt8) (qu : Int) : rdoD m f k n l qu = doA m f k n l qu := by
 unfold rdoD doA doD
 rw [Mt.rright_eq]
 by_cases hr : m.right = false
 ·
  rw [if_pos hr, if_pos hr]
 rw [if_neg hr, if_neg hr]
 have P := (right_iff m).1 (by simpa using hr)
 have htb := P.tr
 have hgb := P.got
 by_cases k1 : k = 1
 ·
  rw [if_pos k1]
  have hd : doesD m f k n (l.length : Int) (beginD m f l qu) = beginD m f l qu := by unfold doesD; rw [if_pos k1]
  rw [hd]
  exact rbegin_eq P f l qu _ rfl
 rw [if_neg k1]
 by_cases k2 : k = 2
 ·
  rw [if_pos (by omega)]
  have hd : doesD m f k n (l.length : Int) (beginD m f l qu) = oneD { m with got := m.got + 1 } [wh (m.ph != 1) 11, wh (n != m.got || decide (chunksZ m.cm.s ≤ m.got)) 12, wh ((l.length : Int) != lenZ m.cm.s m.got) 6, wh f.wn 5] := by unfold doesD; rw [if_neg k1, if_pos k2]
  rw [hd, fin_one]
  unfold rearlyD
  by_cases p1 : m.ph = 1
  ·
   obtain ⟨_, hle, _⟩ := ph12_all P (Or.inl p1)
   rw [if_neg (by omega), firstE_f (by simp [p1])]
   by_cases c2 : n ≠ m.got ∨ m.got = chunksZ m.cm.s
   ·
    rw [if_pos (Or.inl ⟨k2, c2⟩), firstE_t (by rw [Bool.or_eq_true, bne_iff_ne, decide_eq_true_eq]; omega) (by decide)]; exact rmut (by decide)
   ·
    have hn : n = m.got := by omega
    rw [if_neg (by omega), firstE_f (by rw [Bool.or_eq_false_iff, bne_eq_false_iff_eq, decide_eq_false_iff_not]; omega), hn]
    by_cases c3 : (l.length : Int) = lenZ m.cm.s m.got
    ·
     rw [if_neg (by omega), firstE_f (by rw [bne_eq_false_iff_eq]; exact c3), if_neg (by omega)]
     cases hw : f.wn with
     | true => rw [if_pos rfl, firstE_t rfl (by decide)]; exact rmut (by decide)
     | false => rw [if_neg (by decide), firstE_f rfl, firstE_nil, if_pos k2]; exact rend rfl
    ·
     rw [if_pos (by omega), firstE_t (by rw [bne_iff_ne]; exact c3) (by decide)]; exact rmut (by decide)
  ·
   rw [if_pos (by omega), firstE_t (by simp [p1]) (by decide)]; exact rmut (by decide)
 by_cases k3 : k = 3
 ·
  rw [if_pos (by omega)]
  have hd : doesD m f k n (l.length : Int) (beginD m f l qu) = oneD { m with ph := 2 } [wh (m.ph != 1) 11, wh (decide (m.got < chunksZ m.cm.s)) 12, wh (!(f.d == m.cm.d)) 13, wh f.wn 5] := by unfold doesD; rw [if_neg k1, if_neg k2, if_pos k3]
  rw [hd, fin_one]
  unfold rearlyD
  by_cases p1 : m.ph = 1
  ·
   obtain ⟨_, hle, _⟩ := ph12_all P (Or.inl p1)
   rw [if_neg (by omega), firstE_f (by simp [p1])]
   by_cases c2 : m.got = chunksZ m.cm.s
   ·
    rw [if_neg (by omega), firstE_f (by rw [decide_eq_false_iff_not]; omega), if_neg (by omega)]
    cases hx : (f.d == m.cm.d) with
    | false => rw [if_pos ⟨k3, rfl⟩, firstE_t (show (!false) = true from rfl) (by decide)]; exact rmut (by decide)
    | true =>
     rw [if_neg (fun q => by cases q.2), firstE_f (show (!true) = false from rfl)]
     cases hw : f.wn with
     | true => rw [if_pos rfl, firstE_t rfl (by decide)]; exact rmut (by decide)
     | false => rw [if_neg (by decide), firstE_f rfl, firstE_nil, if_neg k2, if_pos k3]; exact rend rfl
   ·
    rw [if_pos (by omega), firstE_t (by rw [decide_eq_true_eq]; omega) (by decide)]; exact rmut (by decide)
  ·
   rw [if_pos (by omega), firstE_t (by simp [p1]) (by decide)]; exact rmut (by decide)
 by_cases k4 : k = 4
 ·
  rw [if_pos (by omega)]
  have hd : doesD m f k n (l.length : Int) (beginD m f l qu) = oneD m.commitT [wh (m.ph != 2) 11, wh f.wn 5] := by unfold doesD; rw [if_neg k1, if_neg k2, if_neg k3, if_pos k4]
  rw [hd, fin_one]
  unfold rearlyD
  by_cases p2 : m.ph = 2
  ·
   rw [if_neg (by omega), firstE_f (by simp [p2]), if_neg (by omega), if_neg (by omega), if_neg (fun q => k3 q.1)]
   cases hw : f.wn with
   | true => rw [if_pos rfl, firstE_t rfl (by decide)]; exact rmut (by decide)
   | false =>
    rw [if_neg (by decide), firstE_f rfl, firstE_nil, if_neg k2, if_neg k3]
    refine rend ?_
    unfold rcommT Mt.commitT Mt.idle
    by_cases ha : m.act = 0
    ·
     rw [if_pos ha]
    ·
     rw [if_neg ha]
  ·
   rw [if_pos (by omega), firstE_t (by simp [p2]) (by decide)]; exact rmut (by decide)
 rw [if_neg (by omega)]
 by_cases k5 : k = 5
 ·
  rw [if_pos k5]
  have hd : doesD m f k n (l.length : Int) (beginD m f l qu) = m.bootD f.wn := by unfold doesD; rw [if_neg k1, if_neg k2, if_neg k3, if_neg k4, if_pos k5]
  have he : (m.bootD f.wn).e = 0 := by
   unfold Mt.bootD
   split
   ·
    split <;> rfl
   ·
    rfl
  rw [hd, if_pos he]
  unfold rbootD Mt.bootD
  by_cases c : m.ph = 3 ∧ f.wn = false
  ·
   rw [if_pos c, if_pos c]
   by_cases t0 : m.tr = 0
   ·
    rw [if_pos t0, if_pos t0]
    obtain ⟨hc, hg⟩ := ph3_all P c.1
    congr 1
    unfold Mt.alone Mt.idle
    by_cases ha : m.act = 0
    ·
     rw [if_pos ha, if_pos ha]; simp [hc, hg, t0]
    ·
     rw [if_neg ha, if_neg ha]; simp [hc, hg, t0]
   ·
    rw [if_neg t0, if_neg t0]
  ·
   rw [if_neg c, if_neg c]
 rw [if_neg k5]
 by_cases k6 : k = 6
 ·
  rw [if_pos (by omega)]
  have hd : doesD m f k n (l.length : Int) (beginD m f l qu) = oneD m.confT [wh (m.ph != 3 || m.tr == 2) 11, wh f.wn 5] := by unfold doesD; rw [if_neg k1, if_neg k2, if_neg k3, if_neg k4, if_neg k5, if_pos k6]
  rw [hd, fin_one]
  unfold rlateD
  by_cases c : m.ph ≠ 3 ∨ m.tr = 2
  ·
   rw [if_pos (by omega), firstE_t (by rw [Bool.or_eq_true, bne_iff_ne, beq_iff_eq]; exact c) (by decide)]; exact rmut (by decide)
  ·
   rw [if_neg (by omega), firstE_f (by rw [Bool.or_eq_false_iff, bne_eq_false_iff_eq, beq_eq_false_iff_ne]; omega)]
   cases hw : f.wn with
   | true => rw [if_pos rfl, firstE_t rfl (by decide)]; exact rmut (by decide)
   | false => rw [if_neg (by decide), firstE_f rfl, firstE_nil, if_pos k6]; exact rend rfl
 by_cases k7 : k = 7
 ·
  rw [if_pos (by omega)]
  have hd : doesD m f k n (l.length : Int) (beginD m f l qu) = oneD m.idle.alone [wh (m.ph != 3) 11, wh f.wn 5] := by unfold doesD; rw [if_neg k1, if_neg k2, if_neg k3, if_neg k4, if_neg k5, if_neg k6, if_pos k7]
  rw [hd, fin_one]
  unfold rlateD
  by_cases c : m.ph = 3
  ·
   rw [if_neg (by omega), firstE_f (by rw [bne_eq_false_iff_eq]; exact c)]
   cases hw : f.wn with
   | true => rw [if_pos rfl, firstE_t rfl (by decide)]; exact rmut (by decide)
   | false =>
    rw [if_neg (by decide), firstE_f rfl, firstE_nil, if_neg k6, if_pos k7]
    refine rend ?_
    unfold Mt.alone Mt.idle
    by_cases ha : m.act = 0
    ·
     rw [if_pos ha, if_pos ha]
    ·
     rw [if_neg ha, if_neg ha]
  ·
   rw [if_pos (by omega), firstE_t (by rw [bne_iff_ne]; exact c) (by decide)]; exact rmut (by decide)
 by_cases k8 : k = 8
 ·
  rw [if_pos (by omega)]
  have hd : doesD m f k n (l.length : Int) (beginD m f l qu) = oneD m.idle [wh (m.ph == 0 || m.ph == 3) 11, wh f.wn 5] := by unfold doesD; rw [if_neg k1, if_neg k2, if_neg k3, if_neg k4, if_neg k5, if_neg k6, if_neg k7, if_pos k8]
  rw [hd, fin_one]
  unfold rlateD
  by_cases c : m.ph = 0 ∨ m.ph = 3
  ·
   rw [if_pos (by omega), firstE_t (by rw [Bool.or_eq_true, beq_iff_eq, beq_iff_eq]; exact c) (by decide)]; exact rmut (by decide)
  ·
   rw [if_neg (by omega), firstE_f (by rw [Bool.or_eq_false_iff, beq_eq_false_iff_ne, beq_eq_false_iff_ne]; omega)]
   cases hw : f.wn with
   | true => rw [if_pos rfl, firstE_t rfl (by decide)]; exact rmut (by decide)
   | false => rw [if_neg (by decide), firstE_f rfl, firstE_nil, if_neg k6, if_neg k7]; exact rend rfl
 rw [if_neg (by omega)]
 by_cases k9 : k = 9
 ·
  have hd : doesD m f k n (l.length : Int) (beginD m f l qu) = ⟨m, 0, m.ph, m.got⟩ := by unfold doesD; rw [if_neg k1, if_neg k2, if_neg k3, if_neg k4, if_neg k5, if_neg k6, if_neg k7, if_neg k8, if_pos k9]
  rw [hd, if_pos k9, if_pos rfl]
 ·
  have hd : doesD m f k n (l.length : Int) (beginD m f l qu) = ⟨Mt.zero, 1, 0, 0⟩ := by unfold doesD; rw [if_neg k1, if_neg k2, if_neg k3, if_neg k4, if_neg k5, if_neg k6, if_neg k7, if_neg k8, if_neg k9]
  rw [hd, if_neg k9]
  rfl
end Go.Proofs.YtpafenlcgcenlaaGreatDoor
