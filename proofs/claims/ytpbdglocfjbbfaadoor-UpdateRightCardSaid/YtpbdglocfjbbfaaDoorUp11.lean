/- update.boot. -/
import Derived.Test.YtpbdglocfjbbfaaDoorUp8
import Derived.Deep.RegionHeld3
import Derived.Deep.DrawnRows
namespace Go.Proofs.YtpbdglocfjbbfaaDoor
open Go Go.RowKit
set_option linter.unusedVariables false
set_option linter.unusedSimpArgs false
attribute [local go_sem ↓] sldI_seal sldM_seal sstM_seal sstI_seal sldC_seal sldF_seal sstC_seal sbC_seal
theorem chg_get {m : Mt} (k : Nat) (e n g : Int) (hk : k < 107) (h : m.Ok) : (chg m e n g)[k]? = m.cells[k]? := by
  unfold chg
  rw [List.getElem?_append_left (by rw [Mt.cells_len h]; exact hk)]
theorem chg_set {m m2 : Mt} (k : Nat) (v : Value) (e n g : Int) (hk : k < 107) (h : m.Ok) (h2 : m.cells.set k v = m2.cells) : (chg m e n g).set k v = chg m2 e n g := by
  unfold chg
  rw [List.set_append_left _ _ (by rw [Mt.cells_len h]; exact hk), h2]
theorem chg_setN {m : Mt} (e n g v : Int) (h : m.Ok) : (chg m e n g).set 108 (i64v v) = chg m e v g := by
  unfold chg
  rw [List.set_append_right _ _ (by rw [Mt.cells_len h]; omega), Mt.cells_len h]
  rfl
theorem chg_put {m m2 : Mt} (e n g : Int) (h : m.Ok) (h2 : m2.Ok) : (chg m e n g).take 0 ++ (m2.cells ++ (chg m e n g).drop (0 + m2.cells.length)) = chg m2 e n g := by
  unfold chg
  rw [List.take_zero, List.nil_append, Mt.cells_len h2, List.drop_append, Mt.cells_len h, List.drop_of_length_le (by rw [Mt.cells_len h]; exact Nat.le_refl _)]
  rfl
theorem Blk.chgSet {W : World} {g0 : Nat} {t : TypeId} {m m2 : Mt} {e n g : Int} (B : Blk W g0 t (chg m e n g).toArray) (k : Nat) (v : Value) (hk : k < 107) (h : m.Ok) (h2 : m.cells.set k v = m2.cells) : Blk (W.setCell ⟨g0, k, none⟩ v) g0 t (chg m2 e n g).toArray := by
  have q := B.set_ k v
  rw [List.setIfInBounds_toArray, chg_set k v e n g hk h h2] at q
  exact q
theorem Blk.chgN {W : World} {g0 : Nat} {t : TypeId} {m : Mt} {e n g : Int} (B : Blk W g0 t (chg m e n g).toArray) (v : Int) (h : m.Ok) : Blk (W.setCell ⟨g0, 108, none⟩ (i64v v)) g0 t (chg m e v g).toArray := by
  have q := B.set_ 108 (i64v v)
  rw [List.setIfInBounds_toArray, chg_setN e n g v h] at q
  exact q
theorem Blk.chgM {W : World} {g0 : Nat} {t : TypeId} {m m2 : Mt} {e n g : Int} (B : Blk W g0 t (chg m e n g).toArray) (h : m.Ok) (h2 : m2.Ok) : Blk (W.setCells g0 0 m2.cells) g0 t (chg m2 e n g).toArray := by
  have q := Blk.setCells m2.cells 0 W _ B (by rw [chg_len h, Mt.cells_len h2]; omega)
  rw [chg_put e n g h h2] at q
  exact q
theorem Blk.chgSome {W : World} {g0 : Nat} {t : TypeId} {m : Mt} {e n g : Int} (B : Blk W g0 t (chg m e n g).toArray) (o : m.Ok) (k : Nat) (hk : k < 110) : ∃ u, W.cell? ⟨g0, k, none⟩ = Option.some u := by
  rw [B.cell]
  exact ⟨_, Array.getElem?_eq_getElem (by rw [List.size_toArray, chg_len o]; exact hk)⟩
theorem neX {tb B : Nat} {t0 t2 t3 : TypeId} {c0 c2 c3 : Array Value} (h : B + 2 < tb) : ∀ x ∈ [(tb, t0, c0), (B + 1, t2, c2), (B, t3, c3)], x.1 ≠ B + 2 := by
  intro x hx
  simp only [List.mem_cons, List.not_mem_nil, or_false] at hx
  rcases hx with hx | hx | hx <;> (rw [hx]; simp <;> omega)
/-- A Meta stored whole at the beginning of a bigger variable. -/
theorem run_sstM_mid {W : World} {g : Nat} {t : TypeId} {cs : Array Value} (B : Blk W g t cs) (ho : 107 ≤ cs.size) (m : Mt) (h : m.Ok) :
    (sstM (.pointer (some ⟨g, 0, none⟩)) (.agg m.cells.toArray)).run Tryd.prog W = .ok () (W.setCells g 0 m.cells) := by
  have hl := Mt.cells_len h
  refine run_storeAt_mid (P := Tryd.prog) W g 0 27 m.cells.toArray ?_ (by rw [List.size_toArray, hl]; kernel_rfl) (by simpa using Mt.one m)
  intro j hj
  rw [List.size_toArray, hl] at hj
  refine ⟨?_, B.frozen _⟩
  rw [B.cell, Array.getElem?_eq_getElem (by omega)]
  rfl
def Mt.bootC (m : Mt) (wn : Bool) : List Value :=
  if m.ph = 3 ∧ wn = false then (if m.tr = 0 then chg m.idle.alone 0 m.act 0 else chg { m with tr := m.tr - 1 } 0 (1 - m.act) 0) else chg m 0 m.act 0
set_option maxRecDepth 100000 in
set_option maxHeartbeats 4000000 in
theorem boot_c (w : World) (m : Mt) (h : m.Ok) (hact : m.act = 0 ∨ m.act = 1) (htr : 0 ≤ m.tr ∧ m.tr ≤ 2) (f : Fc) (hf : f.d.length = 32) :
    Calls Tryd.prog 37 #[.agg m.cells.toArray, .agg f.cells.toArray] w fun e w' => e = .returned (.agg (m.bootC f.wn).toArray) ∧ Below w.heap.size w w' := by
  have hX0 := box3 w m.cells.toArray f.cells.toArray _ rfl
  have hidle := fun W => idle_c W m h
  have halone := fun W => alone_c W m.idle (Mt.idle_ok h) hact
  have hoth := fun W => other_c W m h (by omega)
  have hl := chg_len h 0 m.act 0
  have hbd := fun W => run_sbC2 m h 0 m.act 0 W
  obtain ⟨x, hx⟩ : ∃ x, m.ph = x := ⟨_, rfl⟩
  obtain ⟨y, hy⟩ : ∃ y, m.tr = y := ⟨_, rfl⟩
  obtain ⟨a, ha⟩ : ∃ a, m.act = a := ⟨_, rfl⟩
  obtain ⟨wn, hwn⟩ : ∃ wn, f.wn = wn := ⟨_, rfl⟩
  have hS : ∀ W, Bxs w W [(w.heap.size + 1, 32, f.cells.toArray), (w.heap.size, 27, m.cells.toArray)] →
      (sldM (.pointer (some ⟨w.heap.size, 0, none⟩))).run Tryd.prog W = .ok (.agg m.cells.toArray) W ∧ W.cell? ⟨w.heap.size, 70, none⟩ = some (.int .i64 x) ∧ W.cell? ⟨w.heap.size + 1, 34, none⟩ = some (.bool wn) ∧ W.cell? ⟨w.heap.size, 106, none⟩ = some (.int .i64 y) ∧ W.cell? ⟨w.heap.size, 0, none⟩ = some (.int .i64 a) := fun W hX =>
    ⟨run_sldM (Mt.cells_len h) hX.tl.hd.whole, by rw [hX.tl.hd.cell, List.getElem?_toArray, Mt.c70 h, hx], by rw [hX.hd.cell, List.getElem?_toArray, Fc.c34 hf, hwn], by rw [hX.tl.hd.cell, List.getElem?_toArray, Mt.c106 h, hy], by rw [hX.tl.hd.cell, List.getElem?_toArray, Mt.c0, ha]⟩
  obtain ⟨RES, hRES⟩ : ∃ RES, m.bootC f.wn = RES := ⟨_, rfl⟩
  rw [hRES]
  have HPH := Lib.hid hx
  have HWN := Lib.hid hwn
  have HACT := Lib.hid ha
  have HRES := Lib.hid hRES
  clear hRES
  rw [hy] at htr
  rw [ha] at hoth hl hbd
  obtain ⟨M, hM⟩ : ∃ M, m.cells.toArray = M := ⟨_, rfl⟩
  obtain ⟨FA, hFA⟩ : ∃ FA, f.cells.toArray = FA := ⟨_, rfl⟩
  obtain ⟨MI, hMI⟩ : ∃ MI, m.idle.cells.toArray = MI := ⟨_, rfl⟩
  rw [hM] at hidle hoth hbd
  rw [hMI] at hidle halone
  rw [hM, hFA] at hX0 hS ⊢
  obtain ⟨C0, hC0⟩ : ∃ C0, (chg m 0 a 0).toArray = C0 := ⟨_, rfl⟩
  rw [hC0] at hbd
  have hC1 : ∀ (W : World) (old : Array Value) (xb : Nat), Blk W xb 57 old → old.size = 110 → (sstC (.pointer (some ⟨xb, 0, none⟩)) (.agg C0)).run Tryd.prog W = .ok () (W.setRow xb C0) := fun W old xb hB ho => hC0 ▸ endC hB ho hl (chg_one _ _ _ _)
  have HX := Lib.hid hX0
  have HS := Lib.hid hS
  have HID := Lib.hid hidle
  have HAL := Lib.hid halone
  have HO := Lib.hid hoth
  have HC0 := Lib.hid hC0
  have HC1 := Lib.hid hC1
  have HY := Lib.hid hy
  have HTR := Lib.hid htr
  have oi := Mt.idle_ok h
  have oa := Mt.alone_ok oi
  clear hM hFA hMI hx hy ha hwn hX0 hS hidle halone hoth hC0 hC1 htr
  go_enter Tryd.func37, Tryd.ntmps37
  go_upto_region 1 with fail
  have hX0 := HX.out
  clear HX
  generalize ((w.alloc (.cells M 27)).alloc (.cells FA 32)).alloc (.cells Tryd.zeroCells57 57) = W3 at hX0 ⊢
  obtain ⟨hld, k70, k34, k106, k0⟩ := HS.out _ hX0.tl
  have htb := hX0.hd.lt
  have hN := hX0.new rfl 57 Tryd.zeroCells57
  have hst := HC1.out _ _ _ hN.hd zeroC_size
  have hP := hN.put C0 (by omega) (ne3 htb)
  clear hX0 hN
  obtain ⟨tb, htb2⟩ : ∃ tb, W3.heap.size = tb := ⟨_, rfl⟩
  rw [htb2] at hst hP htb
  have HP := Lib.hid hP
  clear hP
  go_upto_region 2 with fail
  have hP := HP.out
  clear HP hld k70 k34 k106 k0 hst htb2 hbd
  generalize (W3.alloc (.cells Tryd.zeroCells57 57)).setRow tb C0 = W5 at hP ⊢
  have hn3 := ne3 (t1 := 57) (t2 := 32) (t3 := 27) (c1 := Tryd.zeroCells57) (c2 := FA) (c3 := M) htb
  have hg3 : w.heap.size ≤ tb := by omega
  obtain ⟨hld, k70, k34, k106, k0⟩ := HS.out _ hP.tl.tl
  have hldC : (sldC (.pointer (some ⟨tb, 0, none⟩))).run Tryd.prog W5 = .ok (.agg C0) W5 := by have q := hP.hd; rw [← HC0.out] at q ⊢; exact run_sldC hl q.whole
  have hst := HC1.out _ _ _ hP.tl.hd zeroC_size
  have HX := Lib.hid hP
  have HTB := Lib.hid htb
  clear hP
  by_cases h3 : x = 3
  · subst h3
    cases wn
    · clear hst hldC
      by_cases h0 : y = 0
      · subst h0
        go_wp2_with fail
        refine (HID.out _).mono ?_
        rintro e w1 ⟨rfl, hb1⟩
        have HX1 := Lib.hid (HX.out.later hb1)
        clear hb1
        go_wp2_with fail
        refine (HAL.out _).mono ?_
        rintro e w2 ⟨rfl, hb2⟩
        have hX2 := HX1.out.later hb2
        have hst := run_sstM_mid hX2.hd (by rw [← HC0.out, List.size_toArray, hl]; omega) m.idle.alone oa
        have hB3 : Blk (w2.setCells tb 0 m.idle.alone.cells) tb 57 (chg m.idle.alone 0 a 0).toArray := by have q := hX2.hd; rw [← HC0.out] at q; exact q.chgM h oa
        have HX3 := Lib.hid (hX2.sets hB3 hg3 hn3)
        clear hb2 hX2 hB3 HX HX1 hld k70 k34 k106 k0
        generalize hALC : m.idle.alone.cells = ALC at *
        go_upto_region 6 with fail
        have hX3 := HX3.out
        clear HX3 hst
        generalize World.setCells w2 tb 0 ALC = W6 at hX3 ⊢
        have hl6 := chg_len oa 0 a 0
        have hld := run_sldC hl6 hX3.hd.whole
        have hst := endC hX3.tl.hd zeroC_size hl6 (chg_one _ _ _ _)
        have HX6 := Lib.hid (hX3.swap.put (chg m.idle.alone 0 a 0).toArray (by omega) (neX htb))
        clear hX3
        go_wp2_with fail
        refine bodyPost_ret (results_cell_row rfl _ _ (w.heap.size + 2) 57 (chg m.idle.alone 0 a 0).toArray (0, 0) _ rfl HX6.out.hd Tryd.underlying57 rfl (by rw [List.size_toArray, hl6]; exact info_sC)) rfl ?_
        exact ⟨by rw [← HRES.out]; unfold Mt.bootC; rw [if_pos ⟨HPH.out, HWN.out⟩, if_pos HY.out, HACT.out], HX6.out.bel⟩
      · have h1 : (y == 0) = false := beq_eq_false_iff_ne.2 h0
        have hwr : IntKind.i64.wrap (y - 1) = y - 1 := IntWalk.i64_in _ (by have := HTR.out; omega)
        have o2 : ({ m with tr := y - 1 } : Mt).Ok := ⟨h.d0, h.d1, h.d2, h.act⟩
        have hB1 : Blk W5 tb 57 (chg m 0 a 0).toArray := HC0.out ▸ HX.out.hd
        have k6 : W5.cell? ⟨tb, 106, none⟩ = some (.int .i64 y) := by rw [hB1.cell, List.getElem?_toArray, chg_get 106 0 a 0 (by omega) h, Mt.c106 h, HY.out]
        have f6 := hB1.frozen 106
        have hB2 : Blk (W5.setCell ⟨tb, 106, none⟩ (i64v (y - 1))) tb 57 (chg { m with tr := y - 1 } 0 a 0).toArray := hB1.chgSet 106 (i64v (y - 1)) (by omega) h (Mt.set106 h (y - 1))
        have HX2 := Lib.hid (HX.out.set hB2 hg3 hn3)
        clear hB1 hB2 hld k0
        go_upto_region 8 with fail
        have hX2 := HX2.out
        clear HX2 HX k6 f6 k70 k34 k106
        generalize World.setCell W5 (⟨tb, 106, none⟩ : Addr) (i64v (y - 1)) = W6 at hX2 ⊢
        obtain ⟨hld, _⟩ := HS.out _ hX2.tl.tl
        have HX := Lib.hid hX2
        clear hX2
        go_wp2_with fail
        refine (HO.out _).mono ?_
        rintro e w1 ⟨rfl, hb1⟩
        have hX1 := HX.out.later hb1
        obtain ⟨u8, k8⟩ := hX1.hd.chgSome o2 108 (by omega)
        have f8 := hX1.hd.frozen 108
        have HX2 := Lib.hid (hX1.set (hX1.hd.chgN (1 - a) o2) hg3 hn3)
        clear hb1 hX1 HX hld
        go_upto_region 9 with fail
        have hX2 := HX2.out
        clear HX2 k8 f8
        generalize World.setCell w1 (⟨tb, 108, none⟩ : Addr) (i64v (1 - a)) = W7 at hX2 ⊢
        have hl6 := chg_len o2 0 (1 - a) 0
        have hld := run_sldC hl6 hX2.hd.whole
        have hst := endC hX2.tl.hd zeroC_size hl6 (chg_one _ _ _ _)
        have HX6 := Lib.hid (hX2.swap.put (chg { m with tr := y - 1 } 0 (1 - a) 0).toArray (by omega) (neX htb))
        clear hX2
        go_wp2_with fail
        refine bodyPost_ret (results_cell_row rfl _ _ (w.heap.size + 2) 57 (chg { m with tr := y - 1 } 0 (1 - a) 0).toArray (0, 0) _ rfl HX6.out.hd Tryd.underlying57 rfl (by rw [List.size_toArray, hl6]; exact info_sC)) rfl ?_
        exact ⟨by rw [← HRES.out]; unfold Mt.bootC; rw [if_pos ⟨HPH.out, HWN.out⟩, if_neg (fun e => h0 (HY.out.symm.trans e)), HY.out, HACT.out], HX6.out.bel⟩
    · have HX6 := Lib.hid (HX.out.swap.put C0 (by omega) (neX htb))
      clear HX
      go_wp2_with fail
      refine bodyPost_ret (results_cell_row rfl _ _ (w.heap.size + 2) 57 C0 (0, 0) _ rfl HX6.out.hd Tryd.underlying57 rfl (by rw [← HC0.out, List.size_toArray, hl]; exact info_sC)) rfl ?_
      exact ⟨by rw [← HRES.out]; unfold Mt.bootC; rw [if_neg (fun e => by have e2 := e.2; rw [HWN.out] at e2; cases e2), HACT.out, HC0.out], HX6.out.bel⟩
  · have h1 : (x != 3) = true := by rw [bne_iff_ne]; exact h3
    have HX6 := Lib.hid (HX.out.swap.put C0 (by omega) (neX htb))
    clear HX
    go_wp2_with fail
    refine bodyPost_ret (results_cell_row rfl _ _ (w.heap.size + 2) 57 C0 (0, 0) _ rfl HX6.out.hd Tryd.underlying57 rfl (by rw [← HC0.out, List.size_toArray, hl]; exact info_sC)) rfl ?_
    exact ⟨by rw [← HRES.out]; unfold Mt.bootC; rw [if_neg (fun e => h3 (HPH.out.symm.trans e.1)), HACT.out, HC0.out], HX6.out.bel⟩
end Go.Proofs.YtpbdglocfjbbfaaDoor
