/- update.begin. -/
import Derived.Test.YtpafenlcgcenlaaGreatDoorHeldTk
import Derived.Test.YtpafenlcgcenlaaGreatDoorUpC
import Derived.Test.YtpafenlcgcenlaaGreatDoorMn3
import Derived.Deep.RegionHeld3
import Derived.Deep.DrawnRows
namespace Go.Proofs.YtpafenlcgcenlaaGreatDoor
open Go Go.RowKit
set_option linter.unusedVariables false
set_option linter.unusedSimpArgs false
attribute [local go_sem ↓] sldI_seal sldM_seal sstM_seal sstI_seal sldC_seal sldF_seal sstC_seal sbC_seal sbN_seal sldN_seal sstN_seal
theorem mread_c (w : World) (A : Option Addr) (n c : Nat) (l : List UInt8) (hr : Reads w A n (l.map u8v)) (hl : l.length = n) (hn : n ≤ 100000) :
  Calls Tryz.prog 65 #[.slice A n c] w fun e w' => ManRet l e w' ∧ Below w.heap.size w w' := by
 by_cases h : n = 92
 ·
  subst h
  exact mread_full w A c l hr hl
 ·
  exact mread_short w A n c l hr hl hn h
def mX (l : List UInt8) : Img := if l.length = 92 ∧ mOk l = true then mImg l else Img.zero
def mE (l : List UInt8) : Int := if l.length = 92 ∧ mOk l = true then 0 else 6
theorem ManRet.any {l : List UInt8} {e : Ending} {w' : World} (h : ManRet l e w') : ∃ nm A n c, e = .returned (.tuple #[.agg (manC nm (mX l)).toArray, .slice A n c, .int .i64 (mE l)]) := by
 rcases h with ⟨h1, h2⟩ | ⟨h1, h2, A, c, h3, _⟩
 ·
  have hx : ¬ (l.length = 92 ∧ mOk l = true) := by
   rintro ⟨a, b⟩
   rcases h1 with h1 | h1
   ·
    exact h1 a
   ·
    rw [h1] at b; cases b
  exact ⟨⟨#[]⟩, none, 0, 0, by rw [h2]; unfold mX mE; rw [if_neg hx, if_neg hx]; rfl⟩
 ·
  exact ⟨⟨(mName l).toArray⟩, A, 32, c, by rw [h3]; unfold mX mE; rw [if_pos ⟨h1, h2⟩, if_pos ⟨h1, h2⟩]⟩
theorem mX_b (l : List UInt8) : (mX l).d.length = 32 ∧ 0 ≤ (mX l).s ∧ (mX l).s ≤ 1073741824 := by
 unfold mX
 split
 ·
  rename_i h
  have h2 := h.2
  unfold mOk mNum at h2
  simp only [Bool.and_eq_true, decide_eq_true_eq] at h2
  refine ⟨?_, by omega, by omega⟩
  show ((l.drop 28).take 32).length = 32
  rw [List.length_take, List.length_drop, h.1]
  rfl
 ·
  exact ⟨rfl, by decide, by decide⟩
def Mt.beginT (m : Mt) (l : List UInt8) : Mt := { m.alone with ph := 1, cm := mX l }
theorem Mt.beginT_ok {m : Mt} (h : m.Ok) (l : List UInt8) : (m.beginT l).Ok := ⟨(Mt.alone_ok h).d0, (Mt.alone_ok h).d1, (mX_b l).1, (Mt.alone_ok h).act⟩
def beginD (m : Mt) (f : Fc) (l : List UInt8) (qu : Int) : Ch :=
 oneD (m.beginT l) [wh (m.ph != 0) 11, mE l, wh (!f.nm) 7, wh (!f.tg) 8, wh (!(m.vmay (mX l).v)) 9, wh (decide (min qu 6 < chunksZ (mX l).s)) 10, wh f.wn 5]
theorem ne6 {tb xb B : Nat} {t0 t1 t2 t3 t4 : TypeId} {c0 c1 c2 c3 c4 : Array Value} (h : B + 4 ≤ xb) (h2 : xb < tb) : ∀ x ∈ [(xb, t0, c0), (B + 3, t1, c1), (B + 2, t2, c2), (B + 1, t3, c3), (B, t4, c4)], x.1 ≠ tb := by
 intro x hx
 simp only [List.mem_cons, List.not_mem_nil, or_false] at hx
 rcases hx with hx | hx | hx | hx | hx <;> (rw [hx]; simp <;> omega)
set_option maxRecDepth 100000 in
set_option maxHeartbeats 8000000 in
theorem begin_c (w : World) (m : Mt) (h : m.Ok) (hact : m.act = 0 ∨ m.act = 1) (qk qn : Int) (SB : Option Addr) (sl sc : Nat) (l : List UInt8) (hr : Reads w SB sl (l.map u8v)) (hsl : sl ≤ 1000) (f : Fc) (hf : f.d.length = 32) (qu : Int) :
  Calls Tryz.prog 110 #[.agg m.cells.toArray, .agg #[.int .i64 qk, .int .i64 qn, .slice SB sl sc], .agg f.cells.toArray, .int .i64 qu] w fun e w' => e = .returned (.agg (beginD m f l qu).cells.toArray) ∧ Below w.heap.size w w' := by
 have hlen : l.length = sl := by simpa using hr.len
 have hX0 := box4 w m.cells.toArray #[.int .i64 qk, .int .i64 qn, .slice SB sl sc] f.cells.toArray _ rfl
 have hr0 := hr.below (hX0.bel)
 obtain ⟨T, hT⟩ : ∃ T, m.beginT l = T := ⟨_, rfl⟩
 have hTo : T.Ok := hT ▸ Mt.beginT_ok h l
 obtain ⟨hd32, hs0, hs1⟩ := mX_b l
 have hread := fun (W : World) (hW : Reads W SB sl (l.map u8v)) => mread_c W SB sl sc l hW hlen (by omega)
 have hany := fun e w' => ManRet.any (l := l) (e := e) (w' := w')
 have hsp : beginD m f l qu = oneD T [wh (m.ph != 0) 11, mE l, wh (!f.nm) 7, wh (!f.tg) 8, wh (!(m.vmay (mX l).v)) 9, wh (decide (min qu 6 < chunksZ (mX l).s)) 10, wh f.wn 5] := by unfold beginD; rw [hT]
 rw [hsp]
 have hTx : ({ m.alone with ph := 1, cm := mX l } : Mt) = T := hT
 obtain ⟨X, hX⟩ : ∃ X, mX l = X := ⟨_, rfl⟩
 obtain ⟨e2, he2⟩ : ∃ e2, mE l = e2 := ⟨_, rfl⟩
 rw [hX, he2] at hany
 rw [hX] at hd32 hs0 hs1 hTx
 rw [hX, he2, ← oneM_D]
 obtain ⟨x, hx⟩ : ∃ x, m.ph = x := ⟨_, rfl⟩
 obtain ⟨nm, hnm⟩ : ∃ nm, f.nm = nm := ⟨_, rfl⟩
 obtain ⟨tg, htg⟩ : ∃ tg, f.tg = tg := ⟨_, rfl⟩
 obtain ⟨wn, hwn⟩ : ∃ wn, f.wn = wn := ⟨_, rfl⟩
 obtain ⟨v, hv⟩ : ∃ v, X.v = v := ⟨_, rfl⟩
 obtain ⟨s, hs⟩ : ∃ s, X.s = s := ⟨_, rfl⟩
 obtain ⟨VM, hVM⟩ : ∃ VM, m.vmay v = VM := ⟨_, rfl⟩
 obtain ⟨K, hK⟩ : ∃ K, chunksZ s = K := ⟨_, rfl⟩
 have hvm : ∀ W, Calls Tryz.prog 150 #[.agg m.cells.toArray, .int .i64 v] W fun e w' => e = .returned (.bool VM) ∧ Below W.heap.size W w' := fun W => hVM ▸ vmay_c W m h v
 have hch : ∀ W, Calls Tryz.prog 151 #[.int .i64 s] W fun e w' => e = .returned (.int .i64 K) ∧ W = w' := fun W => hK ▸ uchunks_c s (by omega) W
 rw [hx, hnm, htg, hwn, hv, hs, hVM, hK]
 obtain ⟨Q, hQ⟩ : ∃ Q, min qu 6 = Q := ⟨_, rfl⟩
 rw [hQ]
 obtain ⟨e1, he1⟩ : ∃ e1, wh (x != 0) 11 = e1 := ⟨_, rfl⟩
 obtain ⟨e3, he3⟩ : ∃ e3, wh (!nm) 7 = e3 := ⟨_, rfl⟩
 obtain ⟨e4, he4⟩ : ∃ e4, wh (!tg) 8 = e4 := ⟨_, rfl⟩
 obtain ⟨e5, he5⟩ : ∃ e5, wh (!VM) 9 = e5 := ⟨_, rfl⟩
 obtain ⟨e6, he6⟩ : ∃ e6, wh (decide (Q < K)) 10 = e6 := ⟨_, rfl⟩
 obtain ⟨e7, he7⟩ : ∃ e7, wh wn 5 = e7 := ⟨_, rfl⟩
 rw [he1, he3, he4, he5, he6, he7]
 have hw1 : ∀ W, Calls Tryz.prog 149 #[.bool (x != 0), .int .i64 11] W fun en w' => en = .returned (.int .i64 e1) ∧ W = w' := fun W => he1 ▸ when_c _ _ W
 have hw3 : ∀ W, Calls Tryz.prog 149 #[.bool (!nm), .int .i64 7] W fun en w' => en = .returned (.int .i64 e3) ∧ W = w' := fun W => he3 ▸ when_c _ _ W
 have hw4 : ∀ W, Calls Tryz.prog 149 #[.bool (!tg), .int .i64 8] W fun en w' => en = .returned (.int .i64 e4) ∧ W = w' := fun W => he4 ▸ when_c _ _ W
 have hw5 : ∀ W, Calls Tryz.prog 149 #[.bool (!VM), .int .i64 9] W fun en w' => en = .returned (.int .i64 e5) ∧ W = w' := fun W => he5 ▸ when_c _ _ W
 have hw6 : ∀ W, Calls Tryz.prog 149 #[.bool (decide (Q < K)), .int .i64 10] W fun en w' => en = .returned (.int .i64 e6) ∧ W = w' := fun W => he6 ▸ when_c _ _ W
 have hw7 : ∀ W, Calls Tryz.prog 149 #[.bool wn, .int .i64 5] W fun en w' => en = .returned (.int .i64 e7) ∧ W = w' := fun W => he7 ▸ when_c _ _ W
 have hone := fun (W : World) (b c : Nat) (hr : Reads W (some ⟨b, 0, none⟩) 7 [i64v e1, i64v e2, i64v e3, i64v e4, i64v e5, i64v e6, i64v e7]) => one_c W (T) (hTo) b 0 7 c [e1, e2, e3, e4, e5, e6, e7] hr (by omega)
 have hrl := oneM_len hTo [e1, e2, e3, e4, e5, e6, e7]
 have hr1 := oneM_one T [e1, e2, e3, e4, e5, e6, e7]
 obtain ⟨R, hR⟩ : ∃ R, oneM T [e1, e2, e3, e4, e5, e6, e7] = R := ⟨_, rfl⟩
 rw [hR] at hrl hr1 hone ⊢
 have halone := fun W => alone_c W m h hact
 have hS2 : ∀ W, Bxs w W [(w.heap.size + 1, 34, #[.int .i64 qk, .int .i64 qn, .slice SB sl sc]), (w.heap.size, 44, m.cells.toArray)] → (sldM (.pointer (some ⟨w.heap.size, 0, none⟩))).run Tryz.prog W = .ok (.agg m.cells.toArray) W ∧ W.cell? ⟨w.heap.size + 1, 2, none⟩ = some (.slice SB sl sc) := fun W hX =>
  ⟨run_sldM (Mt.cells_len h) hX.tl.hd.whole, hX.hd.cell 2⟩
 have hS3 : ∀ W nmm xb, Blk W xb 82 (manC nmm X).toArray → (sldI (.pointer (some ⟨xb, 1, none⟩))).run Tryz.prog W = .ok (.agg X.cells.toArray) W ∧ W.cell? ⟨xb, 1, none⟩ = some (.int .i64 v) ∧ W.cell? ⟨xb, 2, none⟩ = some (.int .i64 s) := fun W nmm xb hB =>
  ⟨run_sldI (Img.cells_len hd32) (by have r := hB.range 1 34 (by rw [manC_len hd32]; omega); rw [show ((manC nmm X).drop 1).take 34 = X.cells by (show X.cells.take 34 = X.cells; rw [List.take_of_length_le (by rw [Img.cells_len hd32]; omega)])] at r; exact r), by rw [hB.cell, ← hv]; rfl, by rw [hB.cell, ← hs]; rfl⟩
 have hS4 : ∀ tb xb nmm W, Bxs w W [(tb, 44, T.cells.toArray), (xb, 82, (manC nmm X).toArray), (w.heap.size + 2, 78, f.cells.toArray), (w.heap.size + 1, 34, #[.int .i64 qk, .int .i64 qn, .slice SB sl sc]), (w.heap.size, 44, m.cells.toArray)] →
   (sldM (.pointer (some ⟨tb, 0, none⟩))).run Tryz.prog W = .ok (.agg T.cells.toArray) W ∧ (sldM (.pointer (some ⟨w.heap.size, 0, none⟩))).run Tryz.prog W = .ok (.agg m.cells.toArray) W ∧ W.cell? ⟨w.heap.size, 70, none⟩ = some (.int .i64 x) ∧ W.cell? ⟨w.heap.size + 2, 0, none⟩ = some (.bool nm) ∧ W.cell? ⟨w.heap.size + 2, 1, none⟩ = some (.bool tg) ∧ W.cell? ⟨w.heap.size + 2, 34, none⟩ = some (.bool wn) ∧ W.cell? ⟨xb, 1, none⟩ = some (.int .i64 v) ∧ W.cell? ⟨xb, 2, none⟩ = some (.int .i64 s) := fun tb xb nmm W hX =>
  ⟨run_sldM (Mt.cells_len hTo) hX.hd.whole, run_sldM (Mt.cells_len h) hX.tl.tl.tl.tl.hd.whole, by rw [hX.tl.tl.tl.tl.hd.cell, List.getElem?_toArray, Mt.c70 h, hx], by rw [hX.tl.tl.hd.cell, List.getElem?_toArray, Fc.c0, hnm], by rw [hX.tl.tl.hd.cell, List.getElem?_toArray, Fc.c1, htg], by rw [hX.tl.tl.hd.cell, List.getElem?_toArray, Fc.c34 hf, hwn], (hS3 W nmm xb hX.tl.hd).2.1, (hS3 W nmm xb hX.tl.hd).2.2⟩
 obtain ⟨M, hM⟩ : ∃ M, m.cells.toArray = M := ⟨_, rfl⟩
 obtain ⟨FA, hFA⟩ : ∃ FA, f.cells.toArray = FA := ⟨_, rfl⟩
 obtain ⟨A, hA⟩ : ∃ A, T.cells.toArray = A := ⟨_, rfl⟩
 obtain ⟨MA, hMA⟩ : ∃ MA, m.alone.cells.toArray = MA := ⟨_, rfl⟩
 obtain ⟨XC, hXC⟩ : ∃ XC, X.cells = XC := ⟨_, rfl⟩
 rw [hM, hMA] at halone
 rw [hM] at hvm
 rw [hA] at hone
 rw [hM, hFA] at hX0 hS4 ⊢
 rw [hM] at hS2
 rw [hXC] at hS3
 rw [hA] at hS4
 have HONE := Lib.hid hone
 have HAL := Lib.hid halone
 have HVM := Lib.hid hvm
 have HCH := Lib.hid hch
 have HRD := Lib.hid hread
 have HANY := Lib.hid hany
 have HW1 := Lib.hid hw1
 have HW3 := Lib.hid hw3
 have HW4 := Lib.hid hw4
 have HW5 := Lib.hid hw5
 have HW6 := Lib.hid hw6
 have HW7 := Lib.hid hw7
 have HS2 := Lib.hid hS2
 have HS3 := Lib.hid hS3
 have HS4 := Lib.hid hS4
 have HRL := Lib.hid hrl
 have HR1 := Lib.hid hr1
 have HMA := Lib.hid hMA
 have HXC := Lib.hid hXC
 have HA := Lib.hid hA
 have HTX := Lib.hid hTx
 have HQ := Lib.hid hQ
 have HR0 := Lib.hid hr
 have HD32 := Lib.hid hd32
 clear hR hM hFA hA hMA hXC hTx hQ hlen hT he1 he2 he3 he4 he5 he6 he7 hx hnm htg hwn hv hs hVM hK hX hs0 hs1 hsp hr hr0 hone halone hvm hch hread hany hw1 hw3 hw4 hw5 hw6 hw7 hS2 hS3 hS4 hrl hr1 hd32
 go_enter Tryz.func110, Tryz.ntmps110
 go_upto_region 1 with fail
 generalize (((w.alloc (.cells M 44)).alloc (.cells #[.int .i64 qk, .int .i64 qn, .slice SB sl sc] 34)).alloc (.cells FA 78)).alloc (.cells Tryz.zeroCells119 119) = W3 at hX0 ⊢
 obtain ⟨hld, hq2⟩ := HS2.out _ hX0.tl.tl
 have HX := Lib.hid hX0
 clear hX0 hld
 go_wp2_with fail
 refine (HRD.out _ (HR0.out.below HX.out.bel)).mono ?_
 rintro e w4 ⟨hret, hb4⟩
 obtain ⟨nmm, A4, n4, c4, rfl⟩ := HANY.out _ _ hret
 have hX4 := HX.out.later hb4
 have hxb := hX4.hd.lt
 have hl35 := manC_len HD32.out nmm
 have hN := hX4.new rfl 82 zeroN.toArray
 have hst := run_sstN (manC nmm X) hN.hd (by rw [List.size_toArray]; rfl) hl35 (manC_one _ _)
 have hP := hN.put (manC nmm X).toArray (by omega) (ne4 hxb)
 rw [← zeroN_eq] at hst hP
 obtain ⟨xb, hxb2⟩ : ∃ xb, w4.heap.size = xb := ⟨_, rfl⟩
 rw [hxb2] at hst hP hxb
 obtain ⟨MN, hMN⟩ : ∃ MN, (manC nmm X).toArray = MN := ⟨_, rfl⟩
 rw [hMN] at hst hP
 have HP := Lib.hid hP
 rw [hMN]
 clear hret hb4 hX4 hN hP HX hq2 hl35
 go_upto_region 2 with fail
 have hP := HP.out
 clear HP hst hxb2
 generalize World.setRow _ xb MN = W5 at hP ⊢
 obtain ⟨hld, _⟩ := HS2.out _ hP.tl.tl.tl
 have HX := Lib.hid hP
 clear hP
 go_wp2_with fail
 refine (HAL.out _).mono ?_
 rintro e w6 ⟨rfl, hb6⟩
 have hX6 := HX.out.later hb6
 have htb := hX6.hd.lt
 have oa := Mt.alone_ok h
 have hN := hX6.new rfl 44 Tryz.zeroCells44
 have hst := storeM oa hN.hd zeroM_size
 have hP := hN.put m.alone.cells.toArray (by omega) (ne6 hxb htb)
 rw [HMA.out] at hst
 clear hb6 hX6 hN HX hld
 obtain ⟨tb, htb2⟩ : ∃ tb, w6.heap.size = tb := ⟨_, rfl⟩
 rw [htb2] at hst hP htb
 have HP := Lib.hid hP
 clear hP
 go_upto_region 3 with fail
 have hP := HP.out
 clear HP hst htb2
 rw [HMA.out] at hP
 generalize World.setRow _ tb MA = W7 at hP ⊢
 rw [← HMA.out] at hP
 have hn6 := ne6 (t0 := 82) (t1 := 119) (t2 := 78) (t3 := 34) (t4 := 44) (c0 := MN) (c1 := Tryz.zeroCells119) (c2 := FA) (c3 := #[.int .i64 qk, .int .i64 qn, .slice SB sl sc]) (c4 := M) hxb htb
 have hg3 : w.heap.size ≤ tb := by omega
 have HX := Lib.hid hP.drew
 have HXB := Lib.hid hxb
 have HTB2 := Lib.hid htb
 have HMN := Lib.hid hMN
 have hs0 := (HS3.out _ nmm xb (HMN.out ▸ HX.out.tl.hd)).1
 have o1 : ({ m.alone with ph := 1 } : Mt).Ok := ⟨oa.d0, oa.d1, oa.d2, oa.act⟩
 clear hP hxb htb hMN
 refine wp_region_held_drew (S := (fun W => (sldI (.pointer (some ⟨xb, 1, none⟩))).run Tryz.prog W = .ok (.agg XC.toArray) W)) (by kernel_rfl) ?_ (fun hHeld => ?_)
 ·
  exact hs0
 generalize W7.drew = W7d at HX hs0 hHeld ⊢
 refine tk 0 (h := ?_)
 refine tk 1 (h := ?_)
 refine tk 2 (h := ?_)
 obtain ⟨u1, k1⟩ := HX.out.hd.some oa 70 (by omega)
 have f1 := HX.out.hd.frozen 70
 have HX := Lib.hid (HX.out.set (HX.out.hd.setPhase oa 1) hg3 hn6)
 refine rd 3 (h := fun K hK => ?_)
 go_simp
 clear k1 f1
 refine so hK (by (try dsimp only); (exact (HS3.out _ nmm xb (HMN.out ▸ HX.out.tl.hd)).1)) (h := fun hHeld => ?_)
 clear hK K
 refine tk 4 (h := ?_)
 have hst := run_sstI HX.out.hd 71 (by rw [List.size_toArray, Mt.cells_len o1]; omega) X HD32.out
 rw [HXC.out] at hst
 have HX := Lib.hid (HX.out.sets (HX.out.hd.putCm o1 X HD32.out) hg3 hn6)
 refine rd 5 (h := fun K hK => ?_)
 go_simp
 have HX := Lib.hid (HXC.out ▸ HX.out)
 clear hst
 refine so hK (by (try dsimp only); (exact (HS3.out _ nmm xb (HMN.out ▸ HX.out.tl.hd)).1)) (h := fun hHeld => ?_)
 clear hK K
 refine wpAnyH_done (by kernel_rfl) ?_ _
 try simp only [Act.put, List.getElem_toArray, List.getElem_cons_succ, List.getElem_cons_zero, List.setIfInBounds_toArray, List.set_cons_zero, List.set_cons_succ]
 go_upto_region 4 with fail
 have hX8 := HX.out
 clear hs0 HX
 generalize World.setCells _ tb 71 XC = W8 at hX8 ⊢
 rw [HTX.out, HA.out] at hX8
 have HX := Lib.hid (hX8.drew.sub (l' := [(w.heap.size + 3, 119, Tryz.zeroCells119), (tb, 44, A), (xb, 82, MN), (w.heap.size + 2, 78, FA), (w.heap.size + 1, 34, #[.int .i64 qk, .int .i64 qn, .slice SB sl sc]), (w.heap.size, 44, M)]) (by intro x hx; simp only [List.mem_cons, List.not_mem_nil, or_false] at hx ⊢; rcases hx with h | h | h | h | h | h <;> simp [h]))
 have hs0 := HS4.out _ xb nmm _ (HMN.out ▸ HX.out.tl)
 clear hX8
 by_cases h6 : qu ≤ 6
 ·
  have hq6 : Q = qu := by rw [← HQ.out]; omega
  subst hq6
  refine wp_region_held_drew (S := (fun W => (sldM (.pointer (some ⟨tb, 0, none⟩))).run Tryz.prog W = .ok (.agg A) W ∧ (sldM (.pointer (some ⟨w.heap.size, 0, none⟩))).run Tryz.prog W = .ok (.agg M) W ∧ W.cell? ⟨w.heap.size, 70, none⟩ = some (.int .i64 x) ∧ W.cell? ⟨w.heap.size + 2, 0, none⟩ = some (.bool nm) ∧ W.cell? ⟨w.heap.size + 2, 1, none⟩ = some (.bool tg) ∧ W.cell? ⟨w.heap.size + 2, 34, none⟩ = some (.bool wn) ∧ W.cell? ⟨xb, 1, none⟩ = some (.int .i64 v) ∧ W.cell? ⟨xb, 2, none⟩ = some (.int .i64 s))) (by kernel_rfl) ?_ (fun hHeld => ?_)
  ·
   exact hs0
  refine tk 0 (h := ?_)
  refine tk 1 (h := ?_)
  refine tk 2 (h := ?_)
  refine tk 3 (h := ?_)
  refine tk 5 (h := ?_)
  refine tk 6 (h := ?_)
  refine tk 7 (h := ?_)
  refine tk 8 (h := ?_)
  refine tk 10 (h := ?_)
  refine tk 11 (h := ?_)
  refine tk 12 (h := ?_)
  refine tk 14 (h := ?_)
  refine tk 15 (h := ?_)
  refine tk 16 (h := ?_)
  refine tk 17 (h := ?_)
  refine tk 21 (h := ?_)
  refine tk 22 (h := ?_)
  refine tk 23 (h := ?_)
  refine tk 25 (h := ?_)
  refine tk 26 (h := ?_)
  refine tk 29 (h := ?_)
  refine tk 30 (h := ?_)
  refine rd 4 (h := fun K hK => ?_)
  go_simp
  refine (HW1.out _).mono ?_; rintro e w' ⟨rfl, rfl⟩
  go_wp2_with fail
  refine so hK (by (try dsimp only); (exact HS4.out _ xb nmm _ (HMN.out ▸ HX.out.tl))) (h := fun hHeld => ?_)
  clear hK K
  refine rd 9 (h := fun K hK => ?_)
  go_simp
  refine (HW3.out _).mono ?_; rintro e w' ⟨rfl, rfl⟩
  go_wp2_with fail
  refine so hK (by (try dsimp only); (exact HS4.out _ xb nmm _ (HMN.out ▸ HX.out.tl))) (h := fun hHeld => ?_)
  clear hK K
  refine rd 13 (h := fun K hK => ?_)
  go_simp
  refine (HW4.out _).mono ?_; rintro e w' ⟨rfl, rfl⟩
  go_wp2_with fail
  refine so hK (by (try dsimp only); (exact HS4.out _ xb nmm _ (HMN.out ▸ HX.out.tl))) (h := fun hHeld => ?_)
  clear hK K
  refine rd 18 (h := fun K hK => ?_)
  go_simp
  refine (HVM.out _).mono ?_; rintro e w' ⟨rfl, hb⟩; have HX := Lib.hid (HX.out.later hb); clear hb
  go_wp2_with fail
  refine so hK (by (try dsimp only); (exact HS4.out _ xb nmm _ (HMN.out ▸ HX.out.tl))) (h := fun hHeld => ?_)
  clear hK K
  refine tk 19 (h := ?_)
  refine rd 20 (h := fun K hK => ?_)
  go_simp
  refine (HW5.out _).mono ?_; rintro e w' ⟨rfl, rfl⟩
  go_wp2_with fail
  refine so hK (by (try dsimp only); (exact HS4.out _ xb nmm _ (HMN.out ▸ HX.out.tl))) (h := fun hHeld => ?_)
  clear hK K
  refine rd 24 (h := fun K hK => ?_)
  go_simp
  refine (HCH.out _).mono ?_; rintro e w' ⟨rfl, rfl⟩
  go_wp2_with fail
  refine so hK (by (try dsimp only); (exact HS4.out _ xb nmm _ (HMN.out ▸ HX.out.tl))) (h := fun hHeld => ?_)
  clear hK K
  refine tk 27 (h := ?_)
  refine rd 28 (h := fun K hK => ?_)
  go_simp
  refine (HW6.out _).mono ?_; rintro e w' ⟨rfl, rfl⟩
  go_wp2_with fail
  refine so hK (by (try dsimp only); (exact HS4.out _ xb nmm _ (HMN.out ▸ HX.out.tl))) (h := fun hHeld => ?_)
  clear hK K
  refine rd 31 (h := fun K hK => ?_)
  go_simp
  refine (HW7.out _).mono ?_; rintro e w' ⟨rfl, rfl⟩
  go_wp2_with fail
  refine so hK (by (try dsimp only); (exact HS4.out _ xb nmm _ (HMN.out ▸ HX.out.tl))) (h := fun hHeld => ?_)
  clear hK K
  refine rd 32 (h := fun K hK => ?_)
  go_simp
  have HB2 := HX.out.build [i64v e1, i64v e2, i64v e3, i64v e4, i64v e5, i64v e6, i64v e7] 35
  have HRDD := Lib.hid HB2.1
  have HX := Lib.hid HB2.2
  clear HB2
  refine so hK (by (try dsimp only); (exact HS4.out _ xb nmm _ (HMN.out ▸ HX.out.tl))) (h := fun hHeld => ?_)
  clear hK K
  refine rd 33 (h := fun K hK => ?_)
  go_simp
  refine (HONE.out _ _ _ HRDD.out).mono ?_; rintro e w' ⟨rfl, hb⟩; have HX := Lib.hid (HX.out.later hb); clear hb HRDD; have hst := endC HX.out.hd zeroC_size HRL.out HR1.out
  go_wp2_with fail
  refine so hK (by (try dsimp only); (exact HS4.out _ xb nmm _ (HMN.out ▸ HX.out.tl))) (h := fun hHeld => ?_)
  clear hK K
  refine rd 34 (h := fun K hK => ?_)
  go_simp
  have HX := Lib.hid (HX.out.put R.toArray (by omega) (by have := HTB2.out; have := HXB.out; intro x hx; simp only [List.mem_cons, List.not_mem_nil, or_false] at hx; rcases hx with hx | hx | hx | hx | hx <;> (rw [hx]; simp <;> omega)))
  clear hst
  refine so hK (by (try dsimp only); (exact HS4.out _ xb nmm _ (HMN.out ▸ HX.out.tl))) (h := fun hHeld => ?_)
  clear hK K
  refine wpAnyH_done (by kernel_rfl) ?_ _
  try simp only [Act.put, List.getElem_toArray, List.getElem_cons_succ, List.getElem_cons_zero, List.setIfInBounds_toArray, List.set_cons_zero, List.set_cons_succ]
  go_wp2_with fail
  refine bodyPost_ret (results_cell_row rfl _ _ (w.heap.size + 3) 119 R.toArray (0, 0) _ rfl HX.out.hd Tryz.underlying119 rfl (by rw [List.size_toArray, HRL.out]; exact info_sC)) rfl ?_
  exact ⟨rfl, HX.out.bel⟩
 ·
  have hq6 : Q = 6 := by rw [← HQ.out]; omega
  subst hq6
  refine wp_region_held_drew (S := (fun W => (sldM (.pointer (some ⟨tb, 0, none⟩))).run Tryz.prog W = .ok (.agg A) W ∧ (sldM (.pointer (some ⟨w.heap.size, 0, none⟩))).run Tryz.prog W = .ok (.agg M) W ∧ W.cell? ⟨w.heap.size, 70, none⟩ = some (.int .i64 x) ∧ W.cell? ⟨w.heap.size + 2, 0, none⟩ = some (.bool nm) ∧ W.cell? ⟨w.heap.size + 2, 1, none⟩ = some (.bool tg) ∧ W.cell? ⟨w.heap.size + 2, 34, none⟩ = some (.bool wn) ∧ W.cell? ⟨xb, 1, none⟩ = some (.int .i64 v) ∧ W.cell? ⟨xb, 2, none⟩ = some (.int .i64 s))) (by kernel_rfl) ?_ (fun hHeld => ?_)
  ·
   exact hs0
  refine tk 0 (h := ?_)
  refine tk 1 (h := ?_)
  refine tk 2 (h := ?_)
  refine tk 3 (h := ?_)
  refine tk 5 (h := ?_)
  refine tk 6 (h := ?_)
  refine tk 7 (h := ?_)
  refine tk 8 (h := ?_)
  refine tk 10 (h := ?_)
  refine tk 11 (h := ?_)
  refine tk 12 (h := ?_)
  refine tk 14 (h := ?_)
  refine tk 15 (h := ?_)
  refine tk 16 (h := ?_)
  refine tk 17 (h := ?_)
  refine tk 21 (h := ?_)
  refine tk 22 (h := ?_)
  refine tk 23 (h := ?_)
  refine tk 25 (h := ?_)
  refine tk 26 (h := ?_)
  refine tk 29 (h := ?_)
  refine tk 30 (h := ?_)
  refine rd 4 (h := fun K hK => ?_)
  go_simp
  refine (HW1.out _).mono ?_; rintro e w' ⟨rfl, rfl⟩
  go_wp2_with fail
  refine so hK (by (try dsimp only); (exact HS4.out _ xb nmm _ (HMN.out ▸ HX.out.tl))) (h := fun hHeld => ?_)
  clear hK K
  refine rd 9 (h := fun K hK => ?_)
  go_simp
  refine (HW3.out _).mono ?_; rintro e w' ⟨rfl, rfl⟩
  go_wp2_with fail
  refine so hK (by (try dsimp only); (exact HS4.out _ xb nmm _ (HMN.out ▸ HX.out.tl))) (h := fun hHeld => ?_)
  clear hK K
  refine rd 13 (h := fun K hK => ?_)
  go_simp
  refine (HW4.out _).mono ?_; rintro e w' ⟨rfl, rfl⟩
  go_wp2_with fail
  refine so hK (by (try dsimp only); (exact HS4.out _ xb nmm _ (HMN.out ▸ HX.out.tl))) (h := fun hHeld => ?_)
  clear hK K
  refine rd 18 (h := fun K hK => ?_)
  go_simp
  refine (HVM.out _).mono ?_; rintro e w' ⟨rfl, hb⟩; have HX := Lib.hid (HX.out.later hb); clear hb
  go_wp2_with fail
  refine so hK (by (try dsimp only); (exact HS4.out _ xb nmm _ (HMN.out ▸ HX.out.tl))) (h := fun hHeld => ?_)
  clear hK K
  refine tk 19 (h := ?_)
  refine rd 20 (h := fun K hK => ?_)
  go_simp
  refine (HW5.out _).mono ?_; rintro e w' ⟨rfl, rfl⟩
  go_wp2_with fail
  refine so hK (by (try dsimp only); (exact HS4.out _ xb nmm _ (HMN.out ▸ HX.out.tl))) (h := fun hHeld => ?_)
  clear hK K
  refine rd 24 (h := fun K hK => ?_)
  go_simp
  refine (HCH.out _).mono ?_; rintro e w' ⟨rfl, rfl⟩
  go_wp2_with fail
  refine so hK (by (try dsimp only); (exact HS4.out _ xb nmm _ (HMN.out ▸ HX.out.tl))) (h := fun hHeld => ?_)
  clear hK K
  refine tk 27 (h := ?_)
  refine rd 28 (h := fun K hK => ?_)
  go_simp
  refine (HW6.out _).mono ?_; rintro e w' ⟨rfl, rfl⟩
  go_wp2_with fail
  refine so hK (by (try dsimp only); (exact HS4.out _ xb nmm _ (HMN.out ▸ HX.out.tl))) (h := fun hHeld => ?_)
  clear hK K
  refine rd 31 (h := fun K hK => ?_)
  go_simp
  refine (HW7.out _).mono ?_; rintro e w' ⟨rfl, rfl⟩
  go_wp2_with fail
  refine so hK (by (try dsimp only); (exact HS4.out _ xb nmm _ (HMN.out ▸ HX.out.tl))) (h := fun hHeld => ?_)
  clear hK K
  refine rd 32 (h := fun K hK => ?_)
  go_simp
  have HB2 := HX.out.build [i64v e1, i64v e2, i64v e3, i64v e4, i64v e5, i64v e6, i64v e7] 35
  have HRDD := Lib.hid HB2.1
  have HX := Lib.hid HB2.2
  clear HB2
  refine so hK (by (try dsimp only); (exact HS4.out _ xb nmm _ (HMN.out ▸ HX.out.tl))) (h := fun hHeld => ?_)
  clear hK K
  refine rd 33 (h := fun K hK => ?_)
  go_simp
  refine (HONE.out _ _ _ HRDD.out).mono ?_; rintro e w' ⟨rfl, hb⟩; have HX := Lib.hid (HX.out.later hb); clear hb HRDD; have hst := endC HX.out.hd zeroC_size HRL.out HR1.out
  go_wp2_with fail
  refine so hK (by (try dsimp only); (exact HS4.out _ xb nmm _ (HMN.out ▸ HX.out.tl))) (h := fun hHeld => ?_)
  clear hK K
  refine rd 34 (h := fun K hK => ?_)
  go_simp
  have HX := Lib.hid (HX.out.put R.toArray (by omega) (by have := HTB2.out; have := HXB.out; intro x hx; simp only [List.mem_cons, List.not_mem_nil, or_false] at hx; rcases hx with hx | hx | hx | hx | hx <;> (rw [hx]; simp <;> omega)))
  clear hst
  refine so hK (by (try dsimp only); (exact HS4.out _ xb nmm _ (HMN.out ▸ HX.out.tl))) (h := fun hHeld => ?_)
  clear hK K
  refine wpAnyH_done (by kernel_rfl) ?_ _
  try simp only [Act.put, List.getElem_toArray, List.getElem_cons_succ, List.getElem_cons_zero, List.setIfInBounds_toArray, List.set_cons_zero, List.set_cons_succ]
  go_wp2_with fail
  refine bodyPost_ret (results_cell_row rfl _ _ (w.heap.size + 3) 119 R.toArray (0, 0) _ rfl HX.out.hd Tryz.underlying119 rfl (by rw [List.size_toArray, HRL.out]; exact info_sC)) rfl ?_
  exact ⟨rfl, HX.out.bel⟩
end Go.Proofs.YtpafenlcgcenlaaGreatDoor
