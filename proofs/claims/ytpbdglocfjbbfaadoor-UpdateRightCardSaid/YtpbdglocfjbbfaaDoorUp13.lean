/- update.Do. -/
import Derived.Test.YtpbdglocfjbbfaaDoorUp12
import Derived.Deep.RegionHeld3
import Derived.Deep.DrawnRows
namespace Go.Proofs.YtpbdglocfjbbfaaDoor
open Go Go.RowKit
set_option linter.unusedVariables false
set_option linter.unusedSimpArgs false
attribute [local go_sem ↓] sldI_seal sldM_seal sstM_seal sstI_seal sldC_seal sldF_seal sstC_seal sbC_seal sldQ_seal
/-- The results, two whole variables. -/
theorem results_cell_row2 {P : Program} {fn : Func} {p q : Tmp} {ty1 ty2 : TypeId} (h : fn.results = #[.cell p ty1, .cell q ty2]) (tmps : Array Value) (w : World) (g1 g2 : Nat) (t1 t2 : TypeId) (cs1 cs2 : Array Value) (fr1 fr2 : Nat × Nat) (d1 d2 : TypeDesc)
    (hp : tmps.getD p undef = .pointer (some ⟨g1, 0, none⟩)) (hg1 : w.heap[g1]? = some (.cells cs1 t1 fr1))
    (hu1 : P.underlying ty1 = some d1) (hd1 : (match d1 with | .struct _ | .array _ _ => true | _ => false) = true) (hi1 : (P.info? ty1).map (·.size) = some cs1.size)
    (hq : tmps.getD q undef = .pointer (some ⟨g2, 0, none⟩)) (hg2 : w.heap[g2]? = some (.cells cs2 t2 fr2))
    (hu2 : P.underlying ty2 = some d2) (hd2 : (match d2 with | .struct _ | .array _ _ => true | _ => false) = true) (hi2 : (P.info? ty2).map (·.size) = some cs2.size) :
    (results fn tmps).run P w = .ok (.tuple #[.agg cs1, .agg cs2]) w := by
  have hp' : tmps[p]?.getD undef = .pointer (some ⟨g1, 0, none⟩) := by simpa using hp
  have hq' : tmps[q]?.getD undef = .pointer (some ⟨g2, 0, none⟩) := by simpa using hq
  simp [results, h, hp', hq', asAddr, run_loadVar_row w g1 t1 ty1 cs1 fr1 d1 hg1 hu1 hd1 hi1, run_loadVar_row w g2 t2 ty2 cs2 fr2 d2 hg2 hu2 hd2 hi2]
theorem Bxs.sub {w0 W : World} {l l' : List (Nat × TypeId × Array Value)} (h : Bxs w0 W l) (hs : ∀ x ∈ l', x ∈ l) : Bxs w0 W l' := ⟨fun x hx => h.all x (hs x hx), h.bel⟩
noncomputable def sldR (x : Value) : Sem Value := Instr.loadAt 36 x
theorem sldR_seal (x : Value) : Instr.loadAt 36 x = sldR x := rfl
theorem info_sR : (Tryd.prog.info? 36).map (·.size) = some 3 := by kernel_rfl
theorem run_sldR {W : World} {g o : Nat} {cs : List Value} (hs : cs.length = 3) (h : W.rangeAt g o cs) : (sldR (.pointer (some ⟨g, o, none⟩))).run Tryd.prog W = .ok (.agg cs.toArray) W :=
  run_loadAt_mid (P := Tryd.prog) W g o 36 cs _ h Tryd.underlying36 rfl (by rw [hs]; exact info_sR)
noncomputable def sstR (x v : Value) : Sem Unit := Instr.storeAt 36 x v
theorem sstR_seal (x v : Value) : Instr.storeAt 36 x v = sstR x v := rfl
theorem run_sstR {W : World} {g : Nat} {old : Array Value} (e n k : Int) (h : Blk W g 36 old) (ho : old.size = 3) :
    (sstR (.pointer (some ⟨g, 0, none⟩)) (.agg #[.int .i64 e, .int .i64 n, .int .i64 k])).run Tryd.prog W = .ok () (W.setRow g #[.int .i64 e, .int .i64 n, .int .i64 k]) := by
  unfold sstR
  simp only [Instr.storeAt, Instr.sureAddr, Sem.run_bind, Sem.run_pure, Result.andThen_ok, run_storeVar_row (P := Tryd.prog) W g 36 36 old #[.int .i64 e, .int .i64 n, .int .i64 k] h info_sR ho (by simp [Value.oneCell'])]
attribute [local go_sem ↓] sldR_seal sstR_seal
theorem box5 (w : World) (M Q FA : Array Value) (B : Nat) (hB : w.heap.size = B) :
    Bxs w (((((w.alloc (.cells M 27)).alloc (.cells Q 30)).alloc (.cells FA 32)).alloc (.cells Tryd.zeroCells27 27)).alloc (.cells #[.int .i64 0, .int .i64 0, .int .i64 0] 36)) [(B + 4, 36, #[.int .i64 0, .int .i64 0, .int .i64 0]), (B + 3, 27, Tryd.zeroCells27), (B + 2, 32, FA), (B + 1, 30, Q), (B, 27, M)] :=
  (((((Bxs.nil w).new hB _ _).new (by simp [hB]) _ _).new (by simp [hB]) _ _).new (by simp [hB]) _ _).new (by simp [hB]) _ _
theorem zeroR_size : #[Value.int .i64 0, Value.int .i64 0, Value.int .i64 0].size = 3 := by rfl
theorem info_sM107 : (Tryd.prog.info? 27).map (·.size) = some 107 := info_sM
/-- What Do answers: what is kept then, and the answer's three numbers. -/
def doD (m : Mt) (f : Fc) (k n sl : Int) (B : Ch) : Ch :=
  if m.right = false then ⟨m, 1, 0, 0⟩
  else if (doesD m f k n sl B).e = 0 then doesD m f k n sl B
  else ⟨m, (doesD m f k n sl B).e, (doesD m f k n sl B).n, (doesD m f k n sl B).g⟩
theorem doD_ok {m : Mt} (h : m.Ok) (f : Fc) (k n sl : Int) (B : Ch) (hB : m.right = true → k = 1 → B.m.Ok) : (doD m f k n sl B).m.Ok := by
  unfold doD
  split
  · exact h
  · rename_i hr
    split
    · exact doesD_ok h (by simpa using hr) f k n sl B (hB (by simpa using hr))
    · exact h
def Ch.res (c : Ch) : Value := .tuple #[.agg c.m.cells.toArray, .agg #[.int .i64 c.e, .int .i64 c.n, .int .i64 c.g]]
theorem chg_r {m : Mt} (h : m.Ok) (e n g : Int) : ((chg m e n g).drop 107).take 3 = [i64v e, i64v n, i64v g] := by
  unfold chg
  rw [List.drop_append, Mt.cells_len h, List.drop_of_length_le (by rw [Mt.cells_len h]; exact Nat.le_refl _)]
  rfl
theorem chg_m {m : Mt} (h : m.Ok) (e n g : Int) : ((chg m e n g).drop 0).take 107 = m.cells := by
  unfold chg
  rw [List.drop_zero, List.take_append_of_le_length (by rw [Mt.cells_len h]; exact Nat.le_refl _), List.take_of_length_le (by rw [Mt.cells_len h]; exact Nat.le_refl _)]
theorem chg_e {m : Mt} (h : m.Ok) (e n g : Int) : (chg m e n g)[107]? = some (i64v e) := by
  unfold chg
  rw [List.getElem?_append_right (by rw [Mt.cells_len h]; exact Nat.le_refl _), Mt.cells_len h]
  rfl
theorem neV (B : Nat) {t1 t2 t3 t4 : TypeId} {c1 c2 c3 c4 : Array Value} : ∀ x ∈ [(B + 4, t1, c1), (B + 2, t2, c2), (B + 1, t3, c3), (B, t4, c4)], x.1 ≠ B + 3 := by
  intro x hx
  simp only [List.mem_cons, List.not_mem_nil, or_false] at hx
  rcases hx with hx | hx | hx | hx <;> (rw [hx]; simp <;> omega)
theorem neU (B : Nat) {t1 t2 t3 t4 : TypeId} {c1 c2 c3 c4 : Array Value} : ∀ x ∈ [(B + 3, t1, c1), (B + 2, t2, c2), (B + 1, t3, c3), (B, t4, c4)], x.1 ≠ B + 4 := by
  intro x hx
  simp only [List.mem_cons, List.not_mem_nil, or_false] at hx
  rcases hx with hx | hx | hx | hx <;> (rw [hx]; simp <;> omega)
theorem neT {B tb : Nat} (h : B + 4 < tb) {t0 t1 t2 t3 t4 : TypeId} {c0 c1 c2 c3 c4 : Array Value} : ∀ x ∈ [(B + 4, t0, c0), (B + 3, t1, c1), (B + 2, t2, c2), (B + 1, t3, c3), (B, t4, c4)], x.1 ≠ tb := by
  intro x hx
  simp only [List.mem_cons, List.not_mem_nil, or_false] at hx
  rcases hx with hx | hx | hx | hx | hx <;> (rw [hx]; simp <;> omega)
set_option maxRecDepth 100000 in
set_option maxHeartbeats 8000000 in
theorem do_c (w : World) (m : Mt) (h : m.Ok) (qk qn : Int) (SB : Option Addr) (sl sc : Nat) (hsl : sl ≤ maxLen) (f : Fc) (hf : f.d.length = 32) (qu : Int) (B : Ch) (hBo : m.right = true → qk = 1 → B.m.Ok)
    (hbeg : m.right = true → qk = 1 → ∀ W, Below w.heap.size w W → Calls Tryd.prog 33 #[.agg m.cells.toArray, .agg #[.int .i64 qk, .int .i64 qn, .slice SB sl sc], .agg f.cells.toArray, .int .i64 qu] W fun e w' => e = .returned (.agg B.cells.toArray) ∧ Below W.heap.size W w') :
    Calls Tryd.prog 10 #[.agg m.cells.toArray, .agg #[.int .i64 qk, .int .i64 qn, .slice SB sl sc], .agg f.cells.toArray, .int .i64 qu] w fun e w' => e = .returned (doD m f qk qn sl B).res ∧ Below w.heap.size w w' := by
  have hX0 := box5 w m.cells.toArray #[.int .i64 qk, .int .i64 qn, .slice SB sl sc] f.cells.toArray _ rfl
  obtain ⟨RES, hRES⟩ : ∃ RES, (doD m f qk qn sl B).res = RES := ⟨_, rfl⟩
  rw [hRES]
  have hright := fun W => right_c W m h
  obtain ⟨rt, hrt⟩ : ∃ rt, m.right = rt := ⟨_, rfl⟩
  rw [hrt] at hright
  have hS : ∀ W, Bxs w W [(w.heap.size + 2, 32, f.cells.toArray), (w.heap.size + 1, 30, #[.int .i64 qk, .int .i64 qn, .slice SB sl sc]), (w.heap.size, 27, m.cells.toArray)] →
      (sldM (.pointer (some ⟨w.heap.size, 0, none⟩))).run Tryd.prog W = .ok (.agg m.cells.toArray) W ∧ (sldF (.pointer (some ⟨w.heap.size + 2, 0, none⟩))).run Tryd.prog W = .ok (.agg f.cells.toArray) W ∧ (sldQ (.pointer (some ⟨w.heap.size + 1, 0, none⟩))).run Tryd.prog W = .ok (.agg #[.int .i64 qk, .int .i64 qn, .slice SB sl sc]) W := fun W hX =>
    ⟨run_sldM (Mt.cells_len h) hX.tl.tl.hd.whole, run_sldF (Fc.cells_len hf) hX.hd.whole, run_sldQ rfl (Blk.whole (l := [.int .i64 qk, .int .i64 qn, .slice SB sl sc]) hX.tl.hd)⟩
  have hdoes : rt = true → ∀ W, Below w.heap.size w W → Calls Tryd.prog 20 #[.agg m.cells.toArray, .agg #[.int .i64 qk, .int .i64 qn, .slice SB sl sc], .agg f.cells.toArray, .int .i64 qu] W fun e w' => e = .returned (.agg (doesD m f qk qn sl B).cells.toArray) ∧ Below W.heap.size W w' := fun hr W hW =>
    does_c W m h (hrt.trans hr) qk qn SB sl sc hsl f hf qu B (hBo (hrt.trans hr)) (fun hk W2 hW2 => hbeg (hrt.trans hr) hk W2 (hW.trans (hW2.mono hW.size)))
  have hstM : ∀ (W : World) (g : Nat) (old : Array Value), Blk W g 27 old → old.size = 107 → (sstM (.pointer (some ⟨g, 0, none⟩)) (.agg m.cells.toArray)).run Tryd.prog W = .ok () (W.setRow g m.cells.toArray) := fun W g old hB ho => storeM h hB ho
  have hML : m.cells.toArray.size = 107 := by rw [List.size_toArray, Mt.cells_len h]
  have hDok : rt = true → (doesD m f qk qn sl B).m.Ok := fun hr => doesD_ok h (hrt.trans hr) f qk qn sl B (hBo (hrt.trans hr))
  obtain ⟨D, hD⟩ : ∃ D, doesD m f qk qn sl B = D := ⟨_, rfl⟩
  have hRES1 : rt = false → RES = .tuple #[.agg m.cells.toArray, .agg #[.int .i64 1, .int .i64 0, .int .i64 0]] := fun hr => by rw [← hRES]; unfold doD Ch.res; rw [if_pos (hrt.trans hr)]
  have hRES2 : rt = true → D.e = 0 → RES = .tuple #[.agg D.m.cells.toArray, .agg #[.int .i64 D.e, .int .i64 D.n, .int .i64 D.g]] := fun hr he => by rw [← hRES]; unfold doD Ch.res; rw [if_neg (by rw [hrt, hr]; decide), hD, if_pos he]
  have hRES3 : rt = true → D.e ≠ 0 → RES = .tuple #[.agg m.cells.toArray, .agg #[.int .i64 D.e, .int .i64 D.n, .int .i64 D.g]] := fun hr he => by rw [← hRES]; unfold doD Ch.res; rw [if_neg (by rw [hrt, hr]; decide), hD, if_neg he]
  rw [hD] at hdoes hDok
  obtain ⟨M, hM⟩ : ∃ M, m.cells.toArray = M := ⟨_, rfl⟩
  obtain ⟨FA, hFA⟩ : ∃ FA, f.cells.toArray = FA := ⟨_, rfl⟩
  rw [hM] at hright hRES1 hRES3 hstM hML
  rw [hM, hFA] at hX0 hS hdoes ⊢
  have HX := Lib.hid hX0
  have HS := Lib.hid hS
  have HRI := Lib.hid hright
  have HST := Lib.hid hstM
  have HML := Lib.hid hML
  have HR1 := Lib.hid hRES1
  have HR2 := Lib.hid hRES2
  have HR3 := Lib.hid hRES3
  have HDO := Lib.hid hdoes
  have HOK := Lib.hid hDok
  clear hX0 hS hright hstM hML hRES1 hRES2 hRES3 hdoes hDok hRES hM hFA hD hbeg hBo hrt
  go_enter Tryd.func10, Tryd.ntmps10
  go_upto_region 1 with fail
  have hX0 := HX.out
  clear HX
  generalize ((((w.alloc (.cells M 27)).alloc (.cells #[.int .i64 qk, .int .i64 qn, .slice SB sl sc] 30)).alloc (.cells FA 32)).alloc (.cells Tryd.zeroCells27 27)).alloc (.cells #[.int .i64 0, .int .i64 0, .int .i64 0] 36) = W3 at hX0 ⊢
  obtain ⟨hldM, hldF, hldQ⟩ := HS.out _ hX0.tl.tl
  have HX := Lib.hid hX0
  clear hX0
  go_wp2_with fail
  refine (HRI.out _).mono ?_
  rintro e w4 ⟨rfl, hb4⟩
  have hX4 := HX.out.later hb4
  clear hb4 HX hldM hldF hldQ
  obtain ⟨hldM, hldF, hldQ⟩ := HS.out _ hX4.tl.tl
  have HX := Lib.hid hX4
  clear hX4
  cases rt
  · have hst := HST.out _ _ _ HX.out.tl.hd zeroM_size
    have hX5 := HX.out.swap.put M (by omega) (neV w.heap.size)
    have hst2 := run_sstR 1 0 0 hX5.tl.hd zeroR_size
    have HX6 := Lib.hid (hX5.swap.put #[.int .i64 1, .int .i64 0, .int .i64 0] (by omega) (neU w.heap.size))
    clear hX5 HX
    go_wp2_with fail
    refine bodyPost_ret (results_cell_row2 rfl _ _ (w.heap.size + 3) (w.heap.size + 4) 27 36 M #[.int .i64 1, .int .i64 0, .int .i64 0] (0, 0) (0, 0) _ _ rfl HX6.out.tl.hd Tryd.underlying27 rfl (by rw [HML.out]; exact info_sM107) rfl HX6.out.hd Tryd.underlying36 rfl info_sR) rfl ?_
    exact ⟨by rw [HR1.out (by simp)], HX6.out.bel⟩
  · obtain ⟨DM, e, n, g⟩ := D
    have ho := HOK.out rfl
    have hlC := chg_len ho e n g
    have hC1 := chg_one DM e n g
    have hcl := HDO.out rfl
    simp only [Ch.cells] at ho hcl
    have hldX : ∀ W xb, Blk W xb 57 (chg DM e n g).toArray → (sldM (.pointer (some ⟨xb, 0, none⟩))).run Tryd.prog W = .ok (.agg DM.cells.toArray) W ∧ (sldR (.pointer (some ⟨xb, 107, none⟩))).run Tryd.prog W = .ok (.agg #[.int .i64 e, .int .i64 n, .int .i64 g]) W ∧ W.cell? ⟨xb, 107, none⟩ = some (.int .i64 e) := fun W xb hB =>
      ⟨run_sldM (Mt.cells_len ho) (by have r := hB.range 0 107 (by rw [hlC]; omega); rw [chg_m ho] at r; exact r), run_sldR rfl (by have r := hB.range 107 3 (by rw [hlC]; omega); rw [chg_r ho] at r; exact r), by rw [hB.cell, List.getElem?_toArray, chg_e ho]⟩
    have hstX : ∀ (W : World) (g0 : Nat) (old : Array Value), Blk W g0 57 old → old.size = 110 → (sstC (.pointer (some ⟨g0, 0, none⟩)) (.agg (chg DM e n g).toArray)).run Tryd.prog W = .ok () (W.setRow g0 (chg DM e n g).toArray) := fun W g0 old hB hs => endC hB hs hlC hC1
    have hstD : ∀ (W : World) (g0 : Nat) (old : Array Value), Blk W g0 27 old → old.size = 107 → (sstM (.pointer (some ⟨g0, 0, none⟩)) (.agg DM.cells.toArray)).run Tryd.prog W = .ok () (W.setRow g0 DM.cells.toArray) := fun W g0 old hB hs => storeM ho hB hs
    have hDL : DM.cells.toArray.size = 107 := by rw [List.size_toArray, Mt.cells_len ho]
    have hr2 := HR2.out rfl
    have hr3 := HR3.out rfl
    simp only at hr2 hr3
    generalize (chg DM e n g).toArray = CC at *
    generalize DM.cells.toArray = DC at *
    have HCL := Lib.hid hcl
    have HLX := Lib.hid hldX
    have HSX := Lib.hid hstX
    have HSD := Lib.hid hstD
    have HDL := Lib.hid hDL
    have HR2' := Lib.hid hr2
    have HR3' := Lib.hid hr3
    clear hcl hldX hstX hstD hDL hr2 hr3 HOK HR1 HR2 HR3 HDO hC1 hlC
    go_wp2_with fail
    refine (HCL.out _ HX.out.bel).mono ?_
    rintro e5 w5 ⟨rfl, hb5⟩
    have hX5 := HX.out.later hb5
    have htb := hX5.hd.lt
    have hN := hX5.new rfl 57 Tryd.zeroCells57
    have hst := HSX.out _ _ _ hN.hd zeroC_size
    have hP := hN.put CC (by omega) (neT htb)
    clear hX5 hN hb5 HX hldM hldF hldQ
    obtain ⟨xb, hxb⟩ : ∃ xb, w5.heap.size = xb := ⟨_, rfl⟩
    rw [hxb] at hst hP htb
    have HP := Lib.hid hP
    clear hP
    go_upto_region 4 with fail
    have hP := HP.out
    clear HP hst hxb
    generalize (w5.alloc (.cells Tryd.zeroCells57 57)).setRow xb CC = W6 at hP ⊢
    have he0 := (HLX.out _ _ hP.hd).2.2
    have HX := Lib.hid hP
    have HTB := Lib.hid htb
    clear hP htb
    by_cases h0 : e = 0
    · subst h0
      go_upto_region 6 with fail
      clear he0
      have HX := Lib.hid HX.out.drew
      have hS2 : ∀ W c9 c8, Bxs w W [(xb, 57, CC), (w.heap.size + 4, 36, c9), (w.heap.size + 3, 27, c8), (w.heap.size + 2, 32, FA), (w.heap.size + 1, 30, #[.int .i64 qk, .int .i64 qn, .slice SB sl sc]), (w.heap.size, 27, M)] → (sldM (.pointer (some ⟨xb, 0, none⟩))).run Tryd.prog W = .ok (.agg DC) W ∧ (sldR (.pointer (some ⟨xb, 107, none⟩))).run Tryd.prog W = .ok (.agg #[.int .i64 0, .int .i64 n, .int .i64 g]) W := fun W c9 c8 hX =>
        ⟨(HLX.out _ _ hX.hd).1, (HLX.out _ _ hX.hd).2.1⟩
      have HS2 := Lib.hid hS2
      clear hS2
      have hs0 := HS2.out _ _ _ HX.out
      refine wp_region_held_drew (S := (fun W => (sldM (.pointer (some ⟨xb, 0, none⟩))).run Tryd.prog W = .ok (.agg DC) W ∧ (sldR (.pointer (some ⟨xb, 107, none⟩))).run Tryd.prog W = .ok (.agg #[.int .i64 0, .int .i64 n, .int .i64 g]) W)) (by kernel_rfl) ?_ (fun hHeld => ?_)
      · exact hs0
      refine wpAnyH_take (i := 0) (v := ?_) rfl (by kernel_rfl) (by kernel_rfl) (by kernel_rfl) (fun _ _ _ h => h) (Or.inl ⟨by rfl, ?_⟩) (by assumption) ?_
      rotate_left
      · intro w hSw
        (try dsimp only at hSw)
        go_simp
        all_goals with_reducible rfl
      try simp only [Act.put, List.getElem_toArray, List.getElem_cons_succ, List.getElem_cons_zero, List.setIfInBounds_toArray, List.set_cons_zero, List.set_cons_succ]
      refine wpAnyH_take (i := 1) (v := ?_) rfl (by kernel_rfl) (by kernel_rfl) (by kernel_rfl) (fun _ _ _ h => h) (Or.inl ⟨by rfl, ?_⟩) (by assumption) ?_
      rotate_left
      · intro w hSw
        (try dsimp only at hSw)
        go_simp
        all_goals with_reducible rfl
      try simp only [Act.put, List.getElem_toArray, List.getElem_cons_succ, List.getElem_cons_zero, List.setIfInBounds_toArray, List.set_cons_zero, List.set_cons_succ]
      refine wpAnyH_take (i := 2) (v := ?_) rfl (by kernel_rfl) (by kernel_rfl) (by kernel_rfl) (fun _ _ _ h => h) (Or.inl ⟨by rfl, ?_⟩) (by assumption) ?_
      rotate_left
      · intro w hSw
        (try dsimp only at hSw)
        go_simp
        all_goals with_reducible rfl
      try simp only [Act.put, List.getElem_toArray, List.getElem_cons_succ, List.getElem_cons_zero, List.setIfInBounds_toArray, List.set_cons_zero, List.set_cons_succ]
      refine wpAnyH_take (i := 3) (v := ?_) rfl (by kernel_rfl) (by kernel_rfl) (by kernel_rfl) (fun _ _ _ h => h) (Or.inl ⟨by rfl, ?_⟩) (by assumption) ?_
      rotate_left
      · intro w hSw
        (try dsimp only at hSw)
        go_simp
        all_goals with_reducible rfl
      try simp only [Act.put, List.getElem_toArray, List.getElem_cons_succ, List.getElem_cons_zero, List.setIfInBounds_toArray, List.set_cons_zero, List.set_cons_succ]
      have hst := HSD.out _ _ _ HX.out.tl.tl.hd zeroM_size
      have HX := Lib.hid ((((HX.out.sub (l' := [(w.heap.size + 3, 27, Tryd.zeroCells27), (xb, 57, CC), (w.heap.size + 4, 36, #[.int .i64 0, .int .i64 0, .int .i64 0]), (w.heap.size + 2, 32, FA), (w.heap.size + 1, 30, #[.int .i64 qk, .int .i64 qn, .slice SB sl sc]), (w.heap.size, 27, M)]) (by intro x hx; simp only [List.mem_cons, List.not_mem_nil, or_false] at hx ⊢; rcases hx with h | h | h | h | h | h <;> simp [h])).put DC (by omega) (by have := HTB.out; intro x hx; simp only [List.mem_cons, List.not_mem_nil, or_false] at hx; rcases hx with hx | hx | hx | hx | hx <;> (rw [hx]; simp <;> omega))).sub (l' := [(xb, 57, CC), (w.heap.size + 4, 36, #[.int .i64 0, .int .i64 0, .int .i64 0]), (w.heap.size + 3, 27, DC), (w.heap.size + 2, 32, FA), (w.heap.size + 1, 30, #[.int .i64 qk, .int .i64 qn, .slice SB sl sc]), (w.heap.size, 27, M)]) (by intro x hx; simp only [List.mem_cons, List.not_mem_nil, or_false] at hx ⊢; rcases hx with h | h | h | h | h | h <;> simp [h])))
      refine wpAnyH_ready (rs := [4]) (by kernel_rfl) (by simp) ?_
      refine AllReadyH.cons rfl (fun K hK => ?_) AllReadyH.nil
      go_simp
      clear hst
      refine hK.out _ _ ?_ (fun hHeld => ?_)
      · (try dsimp only)
        exact HS2.out _ _ _ HX.out
      clear hK K
      try simp only [Act.put, List.getElem_toArray, List.getElem_cons_succ, List.getElem_cons_zero, List.setIfInBounds_toArray, List.set_cons_zero, List.set_cons_succ]
      have hst := run_sstR 0 n g HX.out.tl.hd zeroR_size
      have HX := Lib.hid ((((HX.out.sub (l' := [(w.heap.size + 4, 36, #[.int .i64 0, .int .i64 0, .int .i64 0]), (xb, 57, CC), (w.heap.size + 3, 27, DC), (w.heap.size + 2, 32, FA), (w.heap.size + 1, 30, #[.int .i64 qk, .int .i64 qn, .slice SB sl sc]), (w.heap.size, 27, M)]) (by intro x hx; simp only [List.mem_cons, List.not_mem_nil, or_false] at hx ⊢; rcases hx with h | h | h | h | h | h <;> simp [h])).put #[.int .i64 0, .int .i64 n, .int .i64 g] (by omega) (by have := HTB.out; intro x hx; simp only [List.mem_cons, List.not_mem_nil, or_false] at hx; rcases hx with hx | hx | hx | hx | hx <;> (rw [hx]; simp <;> omega))).sub (l' := [(xb, 57, CC), (w.heap.size + 4, 36, #[.int .i64 0, .int .i64 n, .int .i64 g]), (w.heap.size + 3, 27, DC), (w.heap.size + 2, 32, FA), (w.heap.size + 1, 30, #[.int .i64 qk, .int .i64 qn, .slice SB sl sc]), (w.heap.size, 27, M)]) (by intro x hx; simp only [List.mem_cons, List.not_mem_nil, or_false] at hx ⊢; rcases hx with h | h | h | h | h | h <;> simp [h])))
      refine wpAnyH_ready (rs := [5]) (by kernel_rfl) (by simp) ?_
      refine AllReadyH.cons rfl (fun K hK => ?_) AllReadyH.nil
      go_simp
      clear hst
      refine hK.out _ _ ?_ (fun hHeld => ?_)
      · (try dsimp only)
        exact HS2.out _ _ _ HX.out
      clear hK K
      try simp only [Act.put, List.getElem_toArray, List.getElem_cons_succ, List.getElem_cons_zero, List.setIfInBounds_toArray, List.set_cons_zero, List.set_cons_succ]
      refine wpAnyH_done (by kernel_rfl) ?_ _
      try simp only [Act.put, List.getElem_toArray, List.getElem_cons_succ, List.getElem_cons_zero, List.setIfInBounds_toArray, List.set_cons_zero, List.set_cons_succ]
      go_wp2_with fail
      refine bodyPost_ret (results_cell_row2 rfl _ _ (w.heap.size + 3) (w.heap.size + 4) 27 36 DC #[.int .i64 0, .int .i64 n, .int .i64 g] (0, 0) (0, 0) _ _ rfl HX.out.tl.tl.hd Tryd.underlying27 rfl (by rw [HDL.out]; exact info_sM107) rfl HX.out.tl.hd Tryd.underlying36 rfl info_sR) rfl ?_
      exact ⟨by rw [HR2'.out (by simp)], HX.out.bel⟩
    · have h1 : (e != 0) = true := by rw [bne_iff_ne]; exact h0
      go_upto_region 5 with fail
      clear he0
      have HX := Lib.hid HX.out.drew
      have hS2 : ∀ W c9 c8, Bxs w W [(xb, 57, CC), (w.heap.size + 4, 36, c9), (w.heap.size + 3, 27, c8), (w.heap.size + 2, 32, FA), (w.heap.size + 1, 30, #[.int .i64 qk, .int .i64 qn, .slice SB sl sc]), (w.heap.size, 27, M)] → (sldM (.pointer (some ⟨w.heap.size, 0, none⟩))).run Tryd.prog W = .ok (.agg M) W ∧ (sldR (.pointer (some ⟨xb, 107, none⟩))).run Tryd.prog W = .ok (.agg #[.int .i64 e, .int .i64 n, .int .i64 g]) W := fun W c9 c8 hX =>
        ⟨(HS.out _ hX.tl.tl.tl).1, (HLX.out _ _ hX.hd).2.1⟩
      have HS2 := Lib.hid hS2
      clear hS2
      have hs0 := HS2.out _ _ _ HX.out
      refine wp_region_held_drew (S := (fun W => (sldM (.pointer (some ⟨w.heap.size, 0, none⟩))).run Tryd.prog W = .ok (.agg M) W ∧ (sldR (.pointer (some ⟨xb, 107, none⟩))).run Tryd.prog W = .ok (.agg #[.int .i64 e, .int .i64 n, .int .i64 g]) W)) (by kernel_rfl) ?_ (fun hHeld => ?_)
      · exact hs0
      refine wpAnyH_take (i := 0) (v := ?_) rfl (by kernel_rfl) (by kernel_rfl) (by kernel_rfl) (fun _ _ _ h => h) (Or.inl ⟨by rfl, ?_⟩) (by assumption) ?_
      rotate_left
      · intro w hSw
        (try dsimp only at hSw)
        go_simp
        all_goals with_reducible rfl
      try simp only [Act.put, List.getElem_toArray, List.getElem_cons_succ, List.getElem_cons_zero, List.setIfInBounds_toArray, List.set_cons_zero, List.set_cons_succ]
      refine wpAnyH_take (i := 1) (v := ?_) rfl (by kernel_rfl) (by kernel_rfl) (by kernel_rfl) (fun _ _ _ h => h) (Or.inl ⟨by rfl, ?_⟩) (by assumption) ?_
      rotate_left
      · intro w hSw
        (try dsimp only at hSw)
        go_simp
        all_goals with_reducible rfl
      try simp only [Act.put, List.getElem_toArray, List.getElem_cons_succ, List.getElem_cons_zero, List.setIfInBounds_toArray, List.set_cons_zero, List.set_cons_succ]
      refine wpAnyH_take (i := 2) (v := ?_) rfl (by kernel_rfl) (by kernel_rfl) (by kernel_rfl) (fun _ _ _ h => h) (Or.inl ⟨by rfl, ?_⟩) (by assumption) ?_
      rotate_left
      · intro w hSw
        (try dsimp only at hSw)
        go_simp
        all_goals with_reducible rfl
      try simp only [Act.put, List.getElem_toArray, List.getElem_cons_succ, List.getElem_cons_zero, List.setIfInBounds_toArray, List.set_cons_zero, List.set_cons_succ]
      have hst := HST.out _ _ _ HX.out.tl.tl.hd zeroM_size
      have HX := Lib.hid ((((HX.out.sub (l' := [(w.heap.size + 3, 27, Tryd.zeroCells27), (xb, 57, CC), (w.heap.size + 4, 36, #[.int .i64 0, .int .i64 0, .int .i64 0]), (w.heap.size + 2, 32, FA), (w.heap.size + 1, 30, #[.int .i64 qk, .int .i64 qn, .slice SB sl sc]), (w.heap.size, 27, M)]) (by intro x hx; simp only [List.mem_cons, List.not_mem_nil, or_false] at hx ⊢; rcases hx with h | h | h | h | h | h <;> simp [h])).put M (by omega) (by have := HTB.out; intro x hx; simp only [List.mem_cons, List.not_mem_nil, or_false] at hx; rcases hx with hx | hx | hx | hx | hx <;> (rw [hx]; simp <;> omega))).sub (l' := [(xb, 57, CC), (w.heap.size + 4, 36, #[.int .i64 0, .int .i64 0, .int .i64 0]), (w.heap.size + 3, 27, M), (w.heap.size + 2, 32, FA), (w.heap.size + 1, 30, #[.int .i64 qk, .int .i64 qn, .slice SB sl sc]), (w.heap.size, 27, M)]) (by intro x hx; simp only [List.mem_cons, List.not_mem_nil, or_false] at hx ⊢; rcases hx with h | h | h | h | h | h <;> simp [h])))
      refine wpAnyH_ready (rs := [3]) (by kernel_rfl) (by simp) ?_
      refine AllReadyH.cons rfl (fun K hK => ?_) AllReadyH.nil
      go_simp
      clear hst
      refine hK.out _ _ ?_ (fun hHeld => ?_)
      · (try dsimp only)
        exact HS2.out _ _ _ HX.out
      clear hK K
      try simp only [Act.put, List.getElem_toArray, List.getElem_cons_succ, List.getElem_cons_zero, List.setIfInBounds_toArray, List.set_cons_zero, List.set_cons_succ]
      have hst := run_sstR e n g HX.out.tl.hd zeroR_size
      have HX := Lib.hid ((((HX.out.sub (l' := [(w.heap.size + 4, 36, #[.int .i64 0, .int .i64 0, .int .i64 0]), (xb, 57, CC), (w.heap.size + 3, 27, M), (w.heap.size + 2, 32, FA), (w.heap.size + 1, 30, #[.int .i64 qk, .int .i64 qn, .slice SB sl sc]), (w.heap.size, 27, M)]) (by intro x hx; simp only [List.mem_cons, List.not_mem_nil, or_false] at hx ⊢; rcases hx with h | h | h | h | h | h <;> simp [h])).put #[.int .i64 e, .int .i64 n, .int .i64 g] (by omega) (by have := HTB.out; intro x hx; simp only [List.mem_cons, List.not_mem_nil, or_false] at hx; rcases hx with hx | hx | hx | hx | hx <;> (rw [hx]; simp <;> omega))).sub (l' := [(xb, 57, CC), (w.heap.size + 4, 36, #[.int .i64 e, .int .i64 n, .int .i64 g]), (w.heap.size + 3, 27, M), (w.heap.size + 2, 32, FA), (w.heap.size + 1, 30, #[.int .i64 qk, .int .i64 qn, .slice SB sl sc]), (w.heap.size, 27, M)]) (by intro x hx; simp only [List.mem_cons, List.not_mem_nil, or_false] at hx ⊢; rcases hx with h | h | h | h | h | h <;> simp [h])))
      refine wpAnyH_ready (rs := [4]) (by kernel_rfl) (by simp) ?_
      refine AllReadyH.cons rfl (fun K hK => ?_) AllReadyH.nil
      go_simp
      clear hst
      refine hK.out _ _ ?_ (fun hHeld => ?_)
      · (try dsimp only)
        exact HS2.out _ _ _ HX.out
      clear hK K
      try simp only [Act.put, List.getElem_toArray, List.getElem_cons_succ, List.getElem_cons_zero, List.setIfInBounds_toArray, List.set_cons_zero, List.set_cons_succ]
      refine wpAnyH_done (by kernel_rfl) ?_ _
      try simp only [Act.put, List.getElem_toArray, List.getElem_cons_succ, List.getElem_cons_zero, List.setIfInBounds_toArray, List.set_cons_zero, List.set_cons_succ]
      go_wp2_with fail
      refine bodyPost_ret (results_cell_row2 rfl _ _ (w.heap.size + 3) (w.heap.size + 4) 27 36 M #[.int .i64 e, .int .i64 n, .int .i64 g] (0, 0) (0, 0) _ _ rfl HX.out.tl.tl.hd Tryd.underlying27 rfl (by rw [HML.out]; exact info_sM107) rfl HX.out.tl.hd Tryd.underlying36 rfl info_sR) rfl ?_
      exact ⟨by rw [HR3'.out h0], HX.out.bel⟩
end Go.Proofs.YtpbdglocfjbbfaaDoor
