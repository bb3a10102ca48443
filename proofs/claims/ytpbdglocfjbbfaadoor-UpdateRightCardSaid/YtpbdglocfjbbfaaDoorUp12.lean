/- update.does: what a request does, as data. -/
import Derived.Test.YtpbdglocfjbbfaaDoorUp10
import Derived.Test.YtpbdglocfjbbfaaDoorUp11
import Derived.Deep.RegionHeld3
import Derived.Deep.DrawnRows
namespace Go.Proofs.YtpbdglocfjbbfaaDoor
open Go Go.RowKit
set_option linter.unusedVariables false
set_option linter.unusedSimpArgs false
attribute [local go_sem ↓] sldI_seal sldM_seal sstM_seal sstI_seal sldC_seal sldF_seal sstC_seal sbC_seal
structure Ch where
  m : Mt
  e : Int
  n : Int
  g : Int
def Ch.cells (c : Ch) : List Value := chg c.m c.e c.n c.g
def oneD (m : Mt) (l : List Int) : Ch := if firstE l = 0 then ⟨m, 0, 0, 0⟩ else ⟨Mt.zero, firstE l, 0, 0⟩
theorem oneM_D (m : Mt) (l : List Int) : oneM m l = (oneD m l).cells := by
  unfold oneM oneD Ch.cells
  split <;> rfl
def Mt.bootD (m : Mt) (wn : Bool) : Ch :=
  if m.ph = 3 ∧ wn = false then (if m.tr = 0 then ⟨m.idle.alone, 0, m.act, 0⟩ else ⟨{ m with tr := m.tr - 1 }, 0, 1 - m.act, 0⟩) else ⟨m, 0, m.act, 0⟩
theorem bootC_D (m : Mt) (wn : Bool) : m.bootC wn = (m.bootD wn).cells := by
  unfold Mt.bootC Mt.bootD Ch.cells
  split
  · split <;> rfl
  · rfl
theorem Ch.len {c : Ch} (h : c.m.Ok) : c.cells.length = 110 := chg_len h _ _ _
theorem Ch.one (c : Ch) : ∀ u ∈ c.cells, u.oneCell' = true := chg_one _ _ _ _
theorem oneD_ok {m : Mt} (h : m.Ok) (l : List Int) : (oneD m l).m.Ok := by
  unfold oneD
  split
  · exact h
  · exact Mt.zero_ok
theorem bootD_ok {m : Mt} (h : m.Ok) (wn : Bool) : (m.bootD wn).m.Ok := by
  unfold Mt.bootD
  split
  · split
    · exact Mt.alone_ok (Mt.idle_ok h)
    · exact ⟨h.d0, h.d1, h.d2, h.act⟩
  · exact h
/-- What a request does, and answers: B is what QBegin does. -/
def doesD (m : Mt) (f : Fc) (k n sl : Int) (B : Ch) : Ch :=
  if k = 1 then B
  else if k = 2 then oneD { m with got := m.got + 1 } [wh (m.ph != 1) 11, wh (n != m.got || decide (chunksZ m.cm.s ≤ m.got)) 12, wh (sl != lenZ m.cm.s m.got) 6, wh f.wn 5]
  else if k = 3 then oneD { m with ph := 2 } [wh (m.ph != 1) 11, wh (decide (m.got < chunksZ m.cm.s)) 12, wh (!(f.d == m.cm.d)) 13, wh f.wn 5]
  else if k = 4 then oneD m.commitT [wh (m.ph != 2) 11, wh f.wn 5]
  else if k = 5 then m.bootD f.wn
  else if k = 6 then oneD m.confT [wh (m.ph != 3 || m.tr == 2) 11, wh f.wn 5]
  else if k = 7 then oneD m.idle.alone [wh (m.ph != 3) 11, wh f.wn 5]
  else if k = 8 then oneD m.idle [wh (m.ph == 0 || m.ph == 3) 11, wh f.wn 5]
  else if k = 9 then ⟨m, 0, m.ph, m.got⟩
  else ⟨Mt.zero, 1, 0, 0⟩
theorem Mt.right_b {m : Mt} (h : m.right = true) : (m.act = 0 ∨ m.act = 1) ∧ (0 ≤ m.cm.s ∧ m.cm.s ≤ 1920) ∧ (0 ≤ m.got ∧ m.got ≤ 6) ∧ (0 ≤ m.tr ∧ m.tr ≤ 2) := by
  unfold Mt.right at h
  simp only [Bool.and_eq_true, decide_eq_true_eq] at h
  obtain ⟨h1, h2, _, _, h5, _, _, _, h9, h10, h11, h12, _⟩ := h
  have := (Img.may_b h5).2
  refine ⟨by omega, this, ⟨h9, h10⟩, h11, h12⟩
theorem doesD_ok {m : Mt} (h : m.Ok) (hr : m.right = true) (f : Fc) (k n sl : Int) (B : Ch) (hB : k = 1 → B.m.Ok) : (doesD m f k n sl B).m.Ok := by
  have hb := Mt.right_b hr
  unfold doesD
  repeat' split
  · exact hB (by assumption)
  · exact oneD_ok (by exact ⟨h.d0, h.d1, h.d2, h.act⟩) _
  · exact oneD_ok (by exact ⟨h.d0, h.d1, h.d2, h.act⟩) _
  · exact oneD_ok (Mt.commitT_ok h) _
  · exact bootD_ok h _
  · exact oneD_ok (Mt.confT_ok h hb.1) _
  · exact oneD_ok (Mt.alone_ok (Mt.idle_ok h)) _
  · exact oneD_ok (Mt.idle_ok h) _
  · exact h
  · exact Mt.zero_ok
theorem neY (B : Nat) {t1 t2 t3 : TypeId} {c1 c2 c3 : Array Value} : ∀ x ∈ [(B + 2, t1, c1), (B + 1, t2, c2), (B, t3, c3)], x.1 ≠ B + 3 := by
  intro x hx
  simp only [List.mem_cons, List.not_mem_nil, or_false] at hx
  rcases hx with hx | hx | hx <;> (rw [hx]; simp <;> omega)
noncomputable def sldQ (x : Value) : Sem Value := Instr.loadAt 30 x
theorem sldQ_seal (x : Value) : Instr.loadAt 30 x = sldQ x := rfl
theorem info_sQ : (Tryd.prog.info? 30).map (·.size) = some 3 := by kernel_rfl
theorem run_sldQ {W : World} {g o : Nat} {cs : List Value} (hs : cs.length = 3) (h : W.rangeAt g o cs) : (sldQ (.pointer (some ⟨g, o, none⟩))).run Tryd.prog W = .ok (.agg cs.toArray) W :=
  run_loadAt_mid (P := Tryd.prog) W g o 30 cs _ h Tryd.underlying30 rfl (by rw [hs]; exact info_sQ)
attribute [local go_sem ↓] sldQ_seal
set_option maxRecDepth 100000 in
set_option maxHeartbeats 8000000 in
theorem does_c (w : World) (m : Mt) (h : m.Ok) (hr : m.right = true) (qk qn : Int) (SB : Option Addr) (sl sc : Nat) (hsl : sl ≤ maxLen) (f : Fc) (hf : f.d.length = 32) (qu : Int) (B : Ch) (hBo : qk = 1 → B.m.Ok)
    (hbeg : qk = 1 → ∀ W, Below w.heap.size w W → Calls Tryd.prog 33 #[.agg m.cells.toArray, .agg #[.int .i64 qk, .int .i64 qn, .slice SB sl sc], .agg f.cells.toArray, .int .i64 qu] W fun e w' => e = .returned (.agg B.cells.toArray) ∧ Below W.heap.size W w') :
    Calls Tryd.prog 20 #[.agg m.cells.toArray, .agg #[.int .i64 qk, .int .i64 qn, .slice SB sl sc], .agg f.cells.toArray, .int .i64 qu] w fun e w' => e = .returned (.agg (doesD m f qk qn sl B).cells.toArray) ∧ Below w.heap.size w w' := by
  have hb := Mt.right_b hr
  have hX0 := box4 w m.cells.toArray #[.int .i64 qk, .int .i64 qn, .slice SB sl sc] f.cells.toArray _ rfl
  have hrl := Ch.len (doesD_ok h hr f qk qn sl B hBo)
  have hr1 := Ch.one (doesD m f qk qn sl B)
  obtain ⟨R, hR⟩ : ∃ R, (doesD m f qk qn sl B).cells = R := ⟨_, rfl⟩
  rw [hR] at hrl hr1 ⊢
  have hS : ∀ W, Bxs w W [(w.heap.size + 3, 57, Tryd.zeroCells57), (w.heap.size + 2, 32, f.cells.toArray), (w.heap.size + 1, 30, #[.int .i64 qk, .int .i64 qn, .slice SB sl sc]), (w.heap.size, 27, m.cells.toArray)] →
      (sldM (.pointer (some ⟨w.heap.size, 0, none⟩))).run Tryd.prog W = .ok (.agg m.cells.toArray) W ∧ (sldF (.pointer (some ⟨w.heap.size + 2, 0, none⟩))).run Tryd.prog W = .ok (.agg f.cells.toArray) W ∧ (sldQ (.pointer (some ⟨w.heap.size + 1, 0, none⟩))).run Tryd.prog W = .ok (.agg #[.int .i64 qk, .int .i64 qn, .slice SB sl sc]) W ∧
      W.cell? ⟨w.heap.size + 1, 0, none⟩ = some (.int .i64 qk) := fun W hX =>
    ⟨run_sldM (Mt.cells_len h) hX.tl.tl.tl.hd.whole, run_sldF (Fc.cells_len hf) hX.tl.hd.whole, run_sldQ rfl (Blk.whole (l := [.int .i64 qk, .int .i64 qn, .slice SB sl sc]) hX.tl.tl.hd), hX.tl.tl.hd.cell 0⟩
  obtain ⟨M, hM⟩ : ∃ M, m.cells.toArray = M := ⟨_, rfl⟩
  obtain ⟨FA, hFA⟩ : ∃ FA, f.cells.toArray = FA := ⟨_, rfl⟩
  rw [hM, hFA] at hX0 hS ⊢
  have HX := Lib.hid hX0
  have HS := Lib.hid hS
  have HR := Lib.hid hR
  have HM := Lib.hid hM
  have HFA := Lib.hid hFA
  have HRL := Lib.hid hrl
  have HR1 := Lib.hid hr1
  have HBG := Lib.hid hbeg
  clear hX0 hS hR hM hFA hrl hr1 hbeg hBo
  by_cases k1 : qk = 1
  · subst k1
    go_enter Tryd.func20, Tryd.ntmps20
    go_upto_region 1 with fail
    have hX0 := HX.out
    clear HX
    generalize (((w.alloc (.cells M 27)).alloc (.cells #[.int .i64 1, .int .i64 qn, .slice SB sl sc] 30)).alloc (.cells FA 32)).alloc (.cells Tryd.zeroCells57 57) = W3 at hX0 ⊢
    obtain ⟨hldM, hldF, hldQ, hk0⟩ := HS.out _ hX0
    have HX := Lib.hid hX0
    clear hX0
    have hcl : ∀ W, Below w.heap.size w W → Calls Tryd.prog 33 #[.agg M, .agg #[.int .i64 1, .int .i64 qn, .slice SB sl sc], .agg FA, .int .i64 qu] W fun e w' => e = .returned (.agg R.toArray) ∧ Below W.heap.size W w' := fun W hW => by
      refine (HM.out ▸ HFA.out ▸ HBG.out rfl W hW).mono fun e w' hh => ⟨by rw [hh.1, ← HR.out]; rfl, hh.2⟩
    have HCL := Lib.hid hcl
    clear hcl
    go_wp2_with fail
    refine (HCL.out _ HX.out.bel).mono ?_
    rintro e w4 ⟨rfl, hb4⟩
    have hX4 := HX.out.later hb4
    have hst := endC hX4.hd zeroC_size HRL.out HR1.out
    have HX4 := Lib.hid (hX4.put R.toArray (by omega) (neY w.heap.size))
    clear hb4 hX4
    go_wp2_with fail
    refine bodyPost_ret (results_cell_row rfl _ _ (w.heap.size + 3) 57 R.toArray (0, 0) _ rfl HX4.out.hd Tryd.underlying57 rfl (by rw [List.size_toArray, HRL.out]; exact info_sC)) rfl ?_
    exact ⟨rfl, HX4.out.bel⟩
  by_cases k2 : qk = 2
  · subst k2
    go_enter Tryd.func20, Tryd.ntmps20
    go_upto_region 1 with fail
    have hX0 := HX.out
    clear HX
    generalize (((w.alloc (.cells M 27)).alloc (.cells #[.int .i64 2, .int .i64 qn, .slice SB sl sc] 30)).alloc (.cells FA 32)).alloc (.cells Tryd.zeroCells57 57) = W3 at hX0 ⊢
    obtain ⟨hldM, hldF, hldQ, hk0⟩ := HS.out _ hX0
    have HX := Lib.hid hX0
    clear hX0
    have hcl : ∀ W, Below w.heap.size w W → Calls Tryd.prog 34 #[.agg M, .agg #[.int .i64 2, .int .i64 qn, .slice SB sl sc], .agg FA] W fun e w' => e = .returned (.agg R.toArray) ∧ Below W.heap.size W w' := fun W hW => by
      refine (HM.out ▸ HFA.out ▸ write_c W m h hb.2.1 hb.2.2.1 2 qn SB sl sc hsl f hf).mono fun e w' hh => ⟨by rw [hh.1, ← HR.out]; rw [oneM_D]; rfl, hh.2⟩
    have HCL := Lib.hid hcl
    clear hcl
    go_wp2_with fail
    refine (HCL.out _ HX.out.bel).mono ?_
    rintro e w4 ⟨rfl, hb4⟩
    have hX4 := HX.out.later hb4
    have hst := endC hX4.hd zeroC_size HRL.out HR1.out
    have HX4 := Lib.hid (hX4.put R.toArray (by omega) (neY w.heap.size))
    clear hb4 hX4
    go_wp2_with fail
    refine bodyPost_ret (results_cell_row rfl _ _ (w.heap.size + 3) 57 R.toArray (0, 0) _ rfl HX4.out.hd Tryd.underlying57 rfl (by rw [List.size_toArray, HRL.out]; exact info_sC)) rfl ?_
    exact ⟨rfl, HX4.out.bel⟩
  by_cases k3 : qk = 3
  · subst k3
    go_enter Tryd.func20, Tryd.ntmps20
    go_upto_region 1 with fail
    have hX0 := HX.out
    clear HX
    generalize (((w.alloc (.cells M 27)).alloc (.cells #[.int .i64 3, .int .i64 qn, .slice SB sl sc] 30)).alloc (.cells FA 32)).alloc (.cells Tryd.zeroCells57 57) = W3 at hX0 ⊢
    obtain ⟨hldM, hldF, hldQ, hk0⟩ := HS.out _ hX0
    have HX := Lib.hid hX0
    clear hX0
    have hcl : ∀ W, Below w.heap.size w W → Calls Tryd.prog 35 #[.agg M, .agg FA] W fun e w' => e = .returned (.agg R.toArray) ∧ Below W.heap.size W w' := fun W hW => by
      refine (HM.out ▸ HFA.out ▸ verify_c W m h hb.2.1 f hf).mono fun e w' hh => ⟨by rw [hh.1, ← HR.out]; rw [oneM_D]; rfl, hh.2⟩
    have HCL := Lib.hid hcl
    clear hcl
    go_wp2_with fail
    refine (HCL.out _ HX.out.bel).mono ?_
    rintro e w4 ⟨rfl, hb4⟩
    have hX4 := HX.out.later hb4
    have hst := endC hX4.hd zeroC_size HRL.out HR1.out
    have HX4 := Lib.hid (hX4.put R.toArray (by omega) (neY w.heap.size))
    clear hb4 hX4
    go_wp2_with fail
    refine bodyPost_ret (results_cell_row rfl _ _ (w.heap.size + 3) 57 R.toArray (0, 0) _ rfl HX4.out.hd Tryd.underlying57 rfl (by rw [List.size_toArray, HRL.out]; exact info_sC)) rfl ?_
    exact ⟨rfl, HX4.out.bel⟩
  by_cases k4 : qk = 4
  · subst k4
    go_enter Tryd.func20, Tryd.ntmps20
    go_upto_region 1 with fail
    have hX0 := HX.out
    clear HX
    generalize (((w.alloc (.cells M 27)).alloc (.cells #[.int .i64 4, .int .i64 qn, .slice SB sl sc] 30)).alloc (.cells FA 32)).alloc (.cells Tryd.zeroCells57 57) = W3 at hX0 ⊢
    obtain ⟨hldM, hldF, hldQ, hk0⟩ := HS.out _ hX0
    have HX := Lib.hid hX0
    clear hX0
    have hcl : ∀ W, Below w.heap.size w W → Calls Tryd.prog 36 #[.agg M, .agg FA] W fun e w' => e = .returned (.agg R.toArray) ∧ Below W.heap.size W w' := fun W hW => by
      refine (HM.out ▸ HFA.out ▸ commit_c W m h hb.1 f hf).mono fun e w' hh => ⟨by rw [hh.1, ← HR.out]; rw [oneM_D]; rfl, hh.2⟩
    have HCL := Lib.hid hcl
    clear hcl
    go_wp2_with fail
    refine (HCL.out _ HX.out.bel).mono ?_
    rintro e w4 ⟨rfl, hb4⟩
    have hX4 := HX.out.later hb4
    have hst := endC hX4.hd zeroC_size HRL.out HR1.out
    have HX4 := Lib.hid (hX4.put R.toArray (by omega) (neY w.heap.size))
    clear hb4 hX4
    go_wp2_with fail
    refine bodyPost_ret (results_cell_row rfl _ _ (w.heap.size + 3) 57 R.toArray (0, 0) _ rfl HX4.out.hd Tryd.underlying57 rfl (by rw [List.size_toArray, HRL.out]; exact info_sC)) rfl ?_
    exact ⟨rfl, HX4.out.bel⟩
  by_cases k5 : qk = 5
  · subst k5
    go_enter Tryd.func20, Tryd.ntmps20
    go_upto_region 1 with fail
    have hX0 := HX.out
    clear HX
    generalize (((w.alloc (.cells M 27)).alloc (.cells #[.int .i64 5, .int .i64 qn, .slice SB sl sc] 30)).alloc (.cells FA 32)).alloc (.cells Tryd.zeroCells57 57) = W3 at hX0 ⊢
    obtain ⟨hldM, hldF, hldQ, hk0⟩ := HS.out _ hX0
    have HX := Lib.hid hX0
    clear hX0
    have hcl : ∀ W, Below w.heap.size w W → Calls Tryd.prog 37 #[.agg M, .agg FA] W fun e w' => e = .returned (.agg R.toArray) ∧ Below W.heap.size W w' := fun W hW => by
      refine (HM.out ▸ HFA.out ▸ boot_c W m h hb.1 hb.2.2.2 f hf).mono fun e w' hh => ⟨by rw [hh.1, ← HR.out]; rw [bootC_D]; rfl, hh.2⟩
    have HCL := Lib.hid hcl
    clear hcl
    go_wp2_with fail
    refine (HCL.out _ HX.out.bel).mono ?_
    rintro e w4 ⟨rfl, hb4⟩
    have hX4 := HX.out.later hb4
    have hst := endC hX4.hd zeroC_size HRL.out HR1.out
    have HX4 := Lib.hid (hX4.put R.toArray (by omega) (neY w.heap.size))
    clear hb4 hX4
    go_wp2_with fail
    refine bodyPost_ret (results_cell_row rfl _ _ (w.heap.size + 3) 57 R.toArray (0, 0) _ rfl HX4.out.hd Tryd.underlying57 rfl (by rw [List.size_toArray, HRL.out]; exact info_sC)) rfl ?_
    exact ⟨rfl, HX4.out.bel⟩
  by_cases k6 : qk = 6
  · subst k6
    go_enter Tryd.func20, Tryd.ntmps20
    go_upto_region 1 with fail
    have hX0 := HX.out
    clear HX
    generalize (((w.alloc (.cells M 27)).alloc (.cells #[.int .i64 6, .int .i64 qn, .slice SB sl sc] 30)).alloc (.cells FA 32)).alloc (.cells Tryd.zeroCells57 57) = W3 at hX0 ⊢
    obtain ⟨hldM, hldF, hldQ, hk0⟩ := HS.out _ hX0
    have HX := Lib.hid hX0
    clear hX0
    have hcl : ∀ W, Below w.heap.size w W → Calls Tryd.prog 38 #[.agg M, .agg FA] W fun e w' => e = .returned (.agg R.toArray) ∧ Below W.heap.size W w' := fun W hW => by
      refine (HM.out ▸ HFA.out ▸ confirm_c W m h hb.1 f hf).mono fun e w' hh => ⟨by rw [hh.1, ← HR.out]; rw [oneM_D]; rfl, hh.2⟩
    have HCL := Lib.hid hcl
    clear hcl
    go_wp2_with fail
    refine (HCL.out _ HX.out.bel).mono ?_
    rintro e w4 ⟨rfl, hb4⟩
    have hX4 := HX.out.later hb4
    have hst := endC hX4.hd zeroC_size HRL.out HR1.out
    have HX4 := Lib.hid (hX4.put R.toArray (by omega) (neY w.heap.size))
    clear hb4 hX4
    go_wp2_with fail
    refine bodyPost_ret (results_cell_row rfl _ _ (w.heap.size + 3) 57 R.toArray (0, 0) _ rfl HX4.out.hd Tryd.underlying57 rfl (by rw [List.size_toArray, HRL.out]; exact info_sC)) rfl ?_
    exact ⟨rfl, HX4.out.bel⟩
  by_cases k7 : qk = 7
  · subst k7
    go_enter Tryd.func20, Tryd.ntmps20
    go_upto_region 1 with fail
    have hX0 := HX.out
    clear HX
    generalize (((w.alloc (.cells M 27)).alloc (.cells #[.int .i64 7, .int .i64 qn, .slice SB sl sc] 30)).alloc (.cells FA 32)).alloc (.cells Tryd.zeroCells57 57) = W3 at hX0 ⊢
    obtain ⟨hldM, hldF, hldQ, hk0⟩ := HS.out _ hX0
    have HX := Lib.hid hX0
    clear hX0
    have hcl : ∀ W, Below w.heap.size w W → Calls Tryd.prog 39 #[.agg M, .agg FA] W fun e w' => e = .returned (.agg R.toArray) ∧ Below W.heap.size W w' := fun W hW => by
      refine (HM.out ▸ HFA.out ▸ rollback_c W m h hb.1 f hf).mono fun e w' hh => ⟨by rw [hh.1, ← HR.out]; rw [oneM_D]; rfl, hh.2⟩
    have HCL := Lib.hid hcl
    clear hcl
    go_wp2_with fail
    refine (HCL.out _ HX.out.bel).mono ?_
    rintro e w4 ⟨rfl, hb4⟩
    have hX4 := HX.out.later hb4
    have hst := endC hX4.hd zeroC_size HRL.out HR1.out
    have HX4 := Lib.hid (hX4.put R.toArray (by omega) (neY w.heap.size))
    clear hb4 hX4
    go_wp2_with fail
    refine bodyPost_ret (results_cell_row rfl _ _ (w.heap.size + 3) 57 R.toArray (0, 0) _ rfl HX4.out.hd Tryd.underlying57 rfl (by rw [List.size_toArray, HRL.out]; exact info_sC)) rfl ?_
    exact ⟨rfl, HX4.out.bel⟩
  by_cases k8 : qk = 8
  · subst k8
    go_enter Tryd.func20, Tryd.ntmps20
    go_upto_region 1 with fail
    have hX0 := HX.out
    clear HX
    generalize (((w.alloc (.cells M 27)).alloc (.cells #[.int .i64 8, .int .i64 qn, .slice SB sl sc] 30)).alloc (.cells FA 32)).alloc (.cells Tryd.zeroCells57 57) = W3 at hX0 ⊢
    obtain ⟨hldM, hldF, hldQ, hk0⟩ := HS.out _ hX0
    have HX := Lib.hid hX0
    clear hX0
    have hcl : ∀ W, Below w.heap.size w W → Calls Tryd.prog 40 #[.agg M, .agg FA] W fun e w' => e = .returned (.agg R.toArray) ∧ Below W.heap.size W w' := fun W hW => by
      refine (HM.out ▸ HFA.out ▸ abort_c W m h hb.1 f hf).mono fun e w' hh => ⟨by rw [hh.1, ← HR.out]; rw [oneM_D]; rfl, hh.2⟩
    have HCL := Lib.hid hcl
    clear hcl
    go_wp2_with fail
    refine (HCL.out _ HX.out.bel).mono ?_
    rintro e w4 ⟨rfl, hb4⟩
    have hX4 := HX.out.later hb4
    have hst := endC hX4.hd zeroC_size HRL.out HR1.out
    have HX4 := Lib.hid (hX4.put R.toArray (by omega) (neY w.heap.size))
    clear hb4 hX4
    go_wp2_with fail
    refine bodyPost_ret (results_cell_row rfl _ _ (w.heap.size + 3) 57 R.toArray (0, 0) _ rfl HX4.out.hd Tryd.underlying57 rfl (by rw [List.size_toArray, HRL.out]; exact info_sC)) rfl ?_
    exact ⟨rfl, HX4.out.bel⟩
  by_cases k9 : qk = 9
  · subst k9
    obtain ⟨x, hx⟩ : ∃ x, m.ph = x := ⟨_, rfl⟩
    obtain ⟨g, hg⟩ : ∃ g, m.got = g := ⟨_, rfl⟩
    have hbd := fun W => run_sbC2 m h 0 x g W
    have hres : R = chg m 0 x g := by rw [← HR.out, ← hx, ← hg]; rfl
    rw [HM.out] at hbd
    rw [← hres] at hbd
    have hcl : ∀ W, Blk W w.heap.size 27 M → W.cell? ⟨w.heap.size, 70, none⟩ = some (.int .i64 x) ∧ W.cell? ⟨w.heap.size, 105, none⟩ = some (.int .i64 g) := fun W hB => by
      rw [← HM.out] at hB
      exact ⟨by rw [hB.cell, List.getElem?_toArray, Mt.c70 h, hx], by rw [hB.cell, List.getElem?_toArray, Mt.c105 h, hg]⟩
    have HCL := Lib.hid hcl
    clear hcl hres hx hg
    go_enter Tryd.func20, Tryd.ntmps20
    go_upto_region 1 with fail
    have hX0 := HX.out
    clear HX
    generalize (((w.alloc (.cells M 27)).alloc (.cells #[.int .i64 9, .int .i64 qn, .slice SB sl sc] 30)).alloc (.cells FA 32)).alloc (.cells Tryd.zeroCells57 57) = W3 at hX0 ⊢
    obtain ⟨hldM, hldF, hldQ, hk0⟩ := HS.out _ hX0
    have HX := Lib.hid hX0
    clear hX0
    obtain ⟨hc70, hc105⟩ := HCL.out _ HX.out.tl.tl.tl.hd
    have hst := endC HX.out.hd zeroC_size HRL.out HR1.out
    have HX4 := Lib.hid (HX.out.put R.toArray (by omega) (neY w.heap.size))
    go_wp2_with fail
    refine bodyPost_ret (results_cell_row rfl _ _ (w.heap.size + 3) 57 R.toArray (0, 0) _ rfl HX4.out.hd Tryd.underlying57 rfl (by rw [List.size_toArray, HRL.out]; exact info_sC)) rfl ?_
    exact ⟨rfl, HX4.out.bel⟩
  have b1 : (qk == 1) = false := beq_eq_false_iff_ne.2 k1
  have b2 : (qk == 2) = false := beq_eq_false_iff_ne.2 k2
  have b3 : (qk == 3) = false := beq_eq_false_iff_ne.2 k3
  have b4 : (qk == 4) = false := beq_eq_false_iff_ne.2 k4
  have b5 : (qk == 5) = false := beq_eq_false_iff_ne.2 k5
  have b6 : (qk == 6) = false := beq_eq_false_iff_ne.2 k6
  have b7 : (qk == 7) = false := beq_eq_false_iff_ne.2 k7
  have b8 : (qk == 8) = false := beq_eq_false_iff_ne.2 k8
  have b9 : (qk == 9) = false := beq_eq_false_iff_ne.2 k9
  have hfl := fun W => fails_c 1 W
  have hres : R = chg Mt.zero 1 0 0 := by rw [← HR.out]; unfold doesD; rw [if_neg k1, if_neg k2, if_neg k3, if_neg k4, if_neg k5, if_neg k6, if_neg k7, if_neg k8, if_neg k9]; rfl
  rw [← hres] at hfl
  have HFL := Lib.hid hfl
  clear hfl hres k1 k2 k3 k4 k5 k6 k7 k8 k9
  go_enter Tryd.func20, Tryd.ntmps20
  go_upto_region 1 with fail
  have hX0 := HX.out
  clear HX
  generalize (((w.alloc (.cells M 27)).alloc (.cells #[.int .i64 qk, .int .i64 qn, .slice SB sl sc] 30)).alloc (.cells FA 32)).alloc (.cells Tryd.zeroCells57 57) = W3 at hX0 ⊢
  obtain ⟨hldM, hldF, hldQ, hk0⟩ := HS.out _ hX0
  have HX := Lib.hid hX0
  clear hX0
  go_wp2_with fail
  refine (HFL.out _).mono ?_
  rintro e w4 ⟨rfl, hb4⟩
  have hX4 := HX.out.later hb4
  have hst := endC hX4.hd zeroC_size HRL.out HR1.out
  have HX4 := Lib.hid (hX4.put R.toArray (by omega) (neY w.heap.size))
  clear hb4 hX4
  go_wp2_with fail
  refine bodyPost_ret (results_cell_row rfl _ _ (w.heap.size + 3) 57 R.toArray (0, 0) _ rfl HX4.out.hd Tryd.underlying57 rfl (by rw [List.size_toArray, HRL.out]; exact info_sC)) rfl ?_
  exact ⟨rfl, HX4.out.bel⟩
end Go.Proofs.YtpbdglocfjbbfaaDoor
