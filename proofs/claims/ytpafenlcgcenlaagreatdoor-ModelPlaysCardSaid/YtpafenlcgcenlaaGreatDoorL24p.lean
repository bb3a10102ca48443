/- waterlinelaw24.ModelPlays: what any row of requests is answered, what is kept, and which image is active. -/
import Derived.Test.YtpafenlcgcenlaaGreatDoorHeldTk
import Derived.Test.YtpafenlcgcenlaaGreatDoorL24a
import Derived.Test.YtpafenlcgcenlaaGreatDoorRmdC
import Derived.Test.YtpafenlcgcenlaaGreatDoorFew
import Derived.Test.YtpafenlcgcenlaaGreatDoorArgA
namespace Go.Proofs.YtpafenlcgcenlaaGreatDoor
open Go Go.RowKit
set_option linter.unusedVariables false
set_option linter.unusedSimpArgs false
noncomputable def sbM9 (parts : Array (Nat × Value)) : Sem Value := Instr.build 44 parts
theorem sbM9_seal (parts : Array (Nat × Value)) : Instr.build 44 parts = sbM9 parts := rfl
theorem run_sbM9 (w : World) : (sbM9 #[]).run Tryz.prog w = .ok (.agg Mt.zero.cells.toArray) w := by
 refine run_build w _ _ _ ?_
 have h : Tryz.prog.built 44 [] = Instr.fill (#[(0, 1), (1, 68), (69, 1), (70, 1), (71, 34), (105, 1), (106, 1)][·]?) Tryz.zeroCells44 [] := by kernel_rfl
 rw [h, zeroC_M]
 rfl
theorem neqR (a b c : Int) (w : World) : (binOp .neq 37 (.agg #[.int .i64 a, .int .i64 b, .int .i64 c]) (.agg #[.int .i64 a, .int .i64 b, .int .i64 c])).run Tryz.prog w = .ok (.bool false) w := by
 rw [run_neq_struct, eqR_run 9998 a b c a b c w]
 simp
attribute [local go_sem ↓] sldM_seal sstM_seal sbM9_seal
set_option maxRecDepth 100000 in
set_option maxHeartbeats 2000000 in
theorem mmeta_nil (w : World) : Calls Tryz.prog 12 #[.pointer none] w fun e w' => e = .returned (.agg Mt.zero.cells.toArray) ∧ Below w.heap.size w w' := by
 have hn := Blk.new w 44 Tryz.zeroCells44
 have hst := storeM Mt.zero_ok hn zeroM_size
 have hb0 : Below w.heap.size w (w.alloc (.cells Tryz.zeroCells44 44)) := (Below.refl _ _).alloc (Nat.le_refl _) _
 have hbd := run_sbM9
 have HF := Lib.hid (hn.setRow_m Mt.zero.cells.toArray)
 have HB := Lib.hid (below_setRow_m hb0 (Nat.le_refl _) Mt.zero.cells.toArray)
 clear hn hb0
 obtain ⟨M, hM⟩ : ∃ M, Mt.zero.cells.toArray = M := ⟨_, rfl⟩
 have hs : M.size = 107 := by rw [← hM]; rfl
 rw [hM] at hst hbd HF HB ⊢
 have HS := Lib.hid hs
 clear hM hs
 go_enter Tryz.func12, Tryz.ntmps12
 go_wp2_with fail
 refine bodyPost_ret (results_cell_row rfl _ _ w.heap.size 44 M (0, 0) _ rfl HF.out Tryz.underlying44 rfl (by rw [HS.out]; exact info_sM107)) rfl ?_
 exact ⟨rfl, HB.out⟩
end Go.Proofs.YtpafenlcgcenlaaGreatDoor
namespace Go.Proofs.YtpafenlcgcenlaaGreatDoor
open Go Go.RowKit
set_option linter.unusedVariables false
set_option linter.unusedSimpArgs false
theorem Only.of_belowN {w w' : World} {B : Nat} (h : Below B w w') : Only (win B w.heap.size) w w' :=
 ⟨h.os, h.tape, h.output, h.size, fun k hk hn => h.block k (by
  rcases Nat.lt_or_ge k B with q | q
  ·
   exact q
  ·
   exact absurd (mem_win.2 ⟨q, hk⟩) hn)⟩
attribute [local go_sem ↓] sldK_seal sldQ_seal sldM_seal sbM9_seal
set_option maxRecDepth 100000 in
set_option maxHeartbeats 32000000 in
theorem mdPlays_c (w : World) (c : Cf) (K : Option Addr) (kc : Nat) (F : Option Addr) (fc : Nat) (hK : Reads w K c.key.length (c.key.map u8v)) (hF : Reads w F c.first.length (c.first.map u8v)) (LA : Option Addr) (ln lc : Nat) (hlc : ln ≤ lc ∧ lc ≤ maxLen) (hL : ReqsAt w LA ln) :
  Calls Tryz.prog 3 #[.agg #[.string c.nm, .slice K c.key.length kc, .int .i64 c.slot, .int .i64 c.budget, .int .i64 c.quota, .int .i64 c.rights, .slice F c.first.length fc], .slice LA ln lc] w fun e w' => e = .returned (.bool true) ∧ Below w.heap.size w w' := by
 have hB0 := Blk.new w 24 #[.string c.nm, .slice K c.key.length kc, .int .i64 c.slot, .int .i64 c.budget, .int .i64 c.quota, .int .i64 c.rights, .slice F c.first.length fc]
 have hb0 : Below w.heap.size w (w.alloc (.cells #[.string c.nm, .slice K c.key.length kc, .int .i64 c.slot, .int .i64 c.budget, .int .i64 c.quota, .int .i64 c.rights, .slice F c.first.length fc] 24)) := (Below.refl _ _).alloc (Nat.le_refl _) _
 have hldc : ∀ W, Blk W w.heap.size 24 #[.string c.nm, .slice K c.key.length kc, .int .i64 c.slot, .int .i64 c.budget, .int .i64 c.quota, .int .i64 c.rights, .slice F c.first.length fc] → (sldK (.pointer (some ⟨w.heap.size, 0, none⟩))).run Tryz.prog W = .ok (.agg #[.string c.nm, .slice K c.key.length kc, .int .i64 c.slot, .int .i64 c.budget, .int .i64 c.quota, .int .i64 c.rights, .slice F c.first.length fc]) W := fun W h => run_sldK (cs := c.cells K kc F fc) rfl (Blk.whole (l := c.cells K kc F fc) h)
 have HB := Lib.hid hB0
 have HL0 := Lib.hid hb0
 have HLDC := Lib.hid hldc
 have HK := Lib.hid hK
 have HF := Lib.hid hF
 have HLC := Lib.hid hlc
 have HL := Lib.hid hL
 clear hB0 hb0 hldc hK hF hlc hL
 go_enter Tryz.func3, Tryz.ntmps3
 go_wp2_with fail
 generalize w.alloc (.cells #[.string c.nm, .slice K c.key.length kc, .int .i64 c.slot, .int .i64 c.budget, .int .i64 c.quota, .int .i64 c.rights, .slice F c.first.length fc] 24) = W1 at HB HL0 ⊢
 refine (alive24_c W1).mono ?_
 rintro e W2 ⟨rfl, hb2⟩
 have HB := Lib.hid (HB.out.below hb2 HB.out.lt)
 have HL0 := Lib.hid (HL0.out.trans (hb2.mono HL0.out.size))
 have hld := HLDC.out _ HB.out
 clear hb2
 obtain ⟨R, hR⟩ : ∃ R : Bool, R = true ↔ (∀ x ∈ [(⟨c, K, kc, F, fc⟩ : Cfa)], x.c.few) ∧ 1 ≤ 10 := by
  by_cases hf : c.few
  ·
   exact ⟨true, fun _ => ⟨fun x hx => by rw [List.mem_singleton.1 hx]; exact hf, by decide⟩, fun _ => rfl⟩
  ·
   exact ⟨false, fun h => (by cases h), fun h => absurd (h.1 _ (List.mem_singleton.2 rfl)) hf⟩
 have hfew := few_c (W2.alloc (.cells #[.string c.nm, .slice K c.key.length kc, .int .i64 c.slot, .int .i64 c.budget, .int .i64 c.quota, .int .i64 c.rights, .slice F c.first.length fc] 24)) (some ⟨W2.heap.size, 0, none⟩) 1 [(⟨c, K, kc, F, fc⟩ : Cfa)] 1 rfl (alloc_readsV W2 (cfC [(⟨c, K, kc, F, fc⟩ : Cfa)]) 24) (by decide) R hR
 have HFEW := Lib.hid hfew
 have HR := Lib.hid hR
 clear hfew hR
 go_wp2_with fail
 refine HFEW.out.mono ?_
 rintro e W3 ⟨rfl, rfl⟩
 have hb3 : Below W2.heap.size W2 (W2.alloc (.cells #[.string c.nm, .slice K c.key.length kc, .int .i64 c.slot, .int .i64 c.budget, .int .i64 c.quota, .int .i64 c.rights, .slice F c.first.length fc] 24)) := (Below.refl _ _).alloc (Nat.le_refl _) _
 have HB := Lib.hid (HB.out.below hb3 HB.out.lt)
 have HL0 := Lib.hid (HL0.out.trans (hb3.mono HL0.out.size))
 clear hb3 hld HFEW
 generalize W2.alloc (.cells #[.string c.nm, .slice K c.key.length kc, .int .i64 c.slot, .int .i64 c.budget, .int .i64 c.quota, .int .i64 c.rights, .slice F c.first.length fc] 24) = W3 at HB HL0 ⊢
 cases R
 ·
  go_wp2_with fail
  go_ret
  exact ⟨rfl, HL0.out⟩
 have hfw : c.few := (HR.out.1 rfl).1 _ (List.mem_singleton.2 rfl)
 have HFW := Lib.hid hfw
 clear hfw HR
 by_cases h60 : (60 : Int) < (ln : Int)
 ·
  go_wp2_with fail
  go_ret
  exact ⟨rfl, HL0.out⟩
 have HLN := Lib.hid (show ln ≤ 60 from by omega)
 have hld := HLDC.out _ HB.out
 cases hri : c.right
 ·
  have hn1 := fun W => mnew_no W c K kc F fc (by have := HFW.out.1; omega) hri
  have hn2 := fun W => rmnew_no W c K kc F fc (by have := HFW.out.1; omega) hri
  have HN1 := Lib.hid hn1
  have HN2 := Lib.hid hn2
  clear hn1 hn2 hri
  go_wp2_with fail
  refine (HN1.out _).mono ?_
  rintro e W4 ⟨rfl, hb4⟩
  have HB := Lib.hid (HB.out.below hb4 HB.out.lt)
  have HL0 := Lib.hid (HL0.out.trans (hb4.mono HL0.out.size))
  have hld := HLDC.out _ HB.out
  clear hb4
  go_wp2_with fail
  refine (HN2.out _).mono ?_
  rintro e W5 ⟨rfl, hb5⟩
  have HL0 := Lib.hid (HL0.out.trans (hb5.mono HL0.out.size))
  clear hb5 hld HB HLDC HN1 HN2
  go_wp2_with fail
  go_loopw [8] (fun i wr => ∃ (k : Nat), i = .int .i64 (k : Int) ∧ k ≤ ln ∧ Below w.heap.size w wr) (fun i _ => ln - (intOf i).toNat)
  case atStart => exact ⟨0, rfl, Nat.zero_le _, HL0.out⟩
  case round =>
   obtain ⟨k, rfl, hk, hb⟩ := hrel
   have HK9 := Lib.hid hk
   have HBE := Lib.hid hb
   clear hk hb HL0
   by_cases hlt : k < ln
   ·
    obtain ⟨g, ob, qk, qn, SB, sl, sc, l, rfl, hg, hra, hrs, hz⟩ := HL.out k hlt
    have HRA := Lib.hid hra
    have HG := Lib.hid hg
    clear hra hrs hz hg
    have cq : wr.cell? ⟨g, ob + k * 3 + 2, none⟩ = some (.slice SB sl sc) := by
     rw [HBE.out.cell (p := ⟨g, ob + k * 3 + 2, none⟩) HG.out]
     exact HRA.out 2 _ rfl
    by_cases hs1 : (1000 : Int) < (sl : Int)
    ·
     go_wp2_with fail
     go_ret
     exact ⟨rfl, HBE.out⟩
    go_upto_region 11 with fail
    clear cq
    have hrq : ∀ W, Below w.heap.size w W → (sldQ (.pointer (some ⟨g, ob + k * 3, none⟩))).run Tryz.prog W = .ok (.agg #[.int .i64 qk, .int .i64 qn, .slice SB sl sc]) W := fun W hW => run_sldQ rfl (fun j u hu => (hW.cell (p := ⟨g, ob + k * 3 + j, none⟩) HG.out).trans (HRA.out j u hu))
    have HRQ := Lib.hid hrq
    have hs0 := hrq wr.drew (HBE.out.drew)
    clear hrq
    refine wp_region_held_drew (S := (fun W => (sldQ (.pointer (some ⟨g, ob + k * 3, none⟩))).run Tryz.prog W = .ok (.agg #[.int .i64 qk, .int .i64 qn, .slice SB sl sc]) W)) (by kernel_rfl) ?_ (fun hHeld => ?_)
    ·
     exact hs0
    generalize hwd : wr.drew = Wd at hs0 hHeld ⊢
    have hbe := HBE.out.drew
    rw [hwd] at hbe
    clear HBE hwd
    have HBE := Lib.hid hbe
    clear hbe
    refine tk 0 (h := ?_)
    refine tk 1 (h := ?_)
    refine tk 2 (h := ?_)
    refine tk 3 (h := ?_)
    refine tk 4 (h := ?_)
    refine tk 6 (h := ?_)
    refine tk 7 (h := ?_)
    refine tk 8 (h := ?_)
    refine tk 9 (h := ?_)
    refine tk 10 (h := ?_)
    refine rd 5 (h := fun K hK => ?_)
    go_simp
    refine (mdo_nil _ qk qn SB sl sc).mono ?_
    rintro e w6 ⟨rfl, hb6⟩
    have hbe := HBE.out.trans (hb6.mono HBE.out.size)
    clear HBE
    have HBE := Lib.hid hbe
    clear hbe hb6
    go_wp2_with fail
    refine so hK (by (try dsimp only); (exact HRQ.out _ HBE.out)) (h := fun hHeld => ?_)
    clear hK K
    refine rd 11 (h := fun K hK => ?_)
    go_simp
    refine (rmdo_nil _ qk qn SB sl sc).mono ?_
    rintro e w7 ⟨rfl, hb7⟩
    have hbe := HBE.out.trans (hb7.mono HBE.out.size)
    clear HBE
    have HBE := Lib.hid hbe
    have hneq := neqR 1 0 0
    clear hbe hb7
    go_wp2_with fail
    refine so hK (by (try dsimp only); (exact HRQ.out _ HBE.out)) (h := fun hHeld => ?_)
    clear hK K
    refine tk 12 (h := ?_)
    refine wpAnyH_done (by kernel_rfl) ?_ _
    try simp only [Act.put, List.getElem_toArray, List.getElem_cons_succ, List.getElem_cons_zero, List.setIfInBounds_toArray, List.set_cons_zero, List.set_cons_succ]
    have hk1 : IntKind.i64.wrap ((k : Int) + 1) = (k : Int) + 1 := IntWalk.i64_in _ (by have := HLN.out; omega)
    have hbd := run_sbM9
    have hnm := fun W => neqM Mt.zero Mt.zero_ok W
    obtain ⟨Z, hZ⟩ : ∃ Z, Mt.zero.cells.toArray = Z := ⟨_, rfl⟩
    have hme := fun W => mmeta_nil W
    rw [hZ] at hbd
    simp only [hZ] at hnm hme
    have HME := Lib.hid hme
    clear hme hZ hHeld hs0
    go_wp2_with fail
    refine (HME.out _).mono ?_
    rintro e w8 ⟨rfl, hb8⟩
    have HBE := Lib.hid (HBE.out.trans (hb8.mono HBE.out.size))
    clear hb8
    go_wp2_with fail
    refine (mactive_nil _).mono ?_
    rintro e w9 ⟨rfl, rfl⟩
    go_wp2_with fail
    go_roundw
    case rel => exact ⟨k + 1, by go_num, by omega, HBE.out⟩
    case measure => simp [intOf]; omega
   ·
    go_wp2_with fail
    go_ret
    exact ⟨rfl, HBE.out⟩
 ·
  have hn1 := mnewB W3 c K kc F fc (by have := HFW.out.1; omega) (HK.out.below HL0.out) (HF.out.below HL0.out) hri
  have hn2 := fun (W : World) (hW : Below w.heap.size w W) => rmnewB W w.heap.size c K kc F fc (by have := HFW.out.1; omega) (HK.out.below hW) (fun a e => by
   obtain ⟨b9, o9, e9, h9, _⟩ := HK.out.2 (Cf.key_b hri).1
   rw [e] at e9
   injection e9 with e9
   rw [e9]
   exact h9) hW.size (HF.out.below hW) hri
  have HN1 := Lib.hid hn1
  have HN2 := Lib.hid hn2
  have HRI := Lib.hid hri
  have HBS := Lib.hid HL0.out.size
  clear hn1 hn2 hri
  go_wp2_with fail
  refine HN1.out.mono ?_
  rintro e W4 ⟨b1, rfl, hmd, hb4⟩
  have HB := Lib.hid (HB.out.below hb4 HB.out.lt)
  have HL0 := Lib.hid (HL0.out.trans (hb4.mono HL0.out.size))
  have hld := HLDC.out _ HB.out
  have HN2 := Lib.hid (HN2.out W4 HL0.out)
  have hw4 := HL0.out.size
  have HMD := Lib.hid hmd
  have HCB := Lib.hid HB.out.lt
  clear hb4 hmd HN1
  generalize W3.heap.size = BB at HMD HBS
  go_wp2_with fail
  refine HN2.out.mono ?_
  rintro e W5 ⟨b2, rfl, hrm, hb5⟩
  have HL0 := Lib.hid (HL0.out.trans (hb5.mono HL0.out.size))
  have HMD := Lib.hid (HMD.out.later hb5)
  have HRM := Lib.hid hrm
  have HB2 := Lib.hid hb5.size
  have HWN := Lib.hid hw4
  clear hb5 hrm hld HB HLDC HN2 HCB
  clear hw4
  generalize W4.heap.size = NN at HMD HRM HB2 HWN
  go_wp2_with fail
  go_loopw [8] (fun i wr => ∃ (k : Nat) (s t : MSt), i = .int .i64 (k : Int) ∧ k ≤ ln ∧ MdB wr BB NN b1 c s ∧ RmC wr w.heap.size NN b2 c t ∧ Rel s t ∧ MInv c s ∧ RLen t ∧ Below w.heap.size w wr ∧ NN ≤ wr.heap.size) (fun i _ => ln - (intOf i).toNat)
  case atStart => exact ⟨0, st0 c, rt0 c, rfl, Nat.zero_le _, HMD.out, HRM.out, Rel.start c, st0_inv HRI.out, rt0_len HRI.out, HL0.out, HB2.out⟩
  case round =>
   obtain ⟨k, s, t, rfl, hk, hmd, hrm, hrel2, hinv, hlen, hb, hnn⟩ := hrel
   have HK9 := Lib.hid hk
   have HBE := Lib.hid hb
   have HMD := Lib.hid hmd
   have HRM := Lib.hid hrm
   have HNN := Lib.hid hnn
   clear hk hb hmd hrm hnn HL0 HB2
   by_cases hlt : k < ln
   ·
    obtain ⟨g, ob, qk, qn, SB, sl, sc, l, rfl, hg, hra, hrs, hz⟩ := HL.out k hlt
    have HRA := Lib.hid hra
    have HG := Lib.hid hg
    have HRS := Lib.hid hrs
    have HZ := Lib.hid hz
    have HREL := Lib.hid hrel2
    have HINV := Lib.hid hinv
    have HLEN := Lib.hid hlen
    clear hra hrs hz hg hrel2 hinv hlen
    have cq : wr.cell? ⟨g, ob + k * 3 + 2, none⟩ = some (.slice SB sl sc) := by
     rw [HBE.out.cell (p := ⟨g, ob + k * 3 + 2, none⟩) HG.out]
     exact HRA.out 2 _ rfl
    by_cases hs1 : (1000 : Int) < (sl : Int)
    ·
     go_wp2_with fail
     go_ret
     exact ⟨rfl, HBE.out⟩
    go_upto_region 11 with fail
    clear cq
    have hrq : ∀ W, Below w.heap.size w W → (sldQ (.pointer (some ⟨g, ob + k * 3, none⟩))).run Tryz.prog W = .ok (.agg #[.int .i64 qk, .int .i64 qn, .slice SB sl sc]) W := fun W hW => run_sldQ rfl (fun j u hu => (hW.cell (p := ⟨g, ob + k * 3 + j, none⟩) HG.out).trans (HRA.out j u hu))
    obtain ⟨st2, st3⟩ := HREL.out.step HRI.out HINV.out qk qn l
    have hi2 := HINV.out.step HRI.out qk qn l
    have hl2 := RLen.step HRI.out HINV.out HREL.out HLEN.out qk qn l
    have hdoA := fun (W : World) (hW : MdB W BB NN b1 c s) (hR : Reads W SB sl (l.map u8v)) => mdoB W BB NN b1 c s HRI.out HINV.out hW qk qn SB sl sc l hR (by omega) HZ.out
    have hdoB := fun (W : World) (hW : RmC W w.heap.size NN b2 c t) (hN : NN ≤ W.heap.size) (hR : Reads W SB sl (l.map u8v)) => rmdoB W w.heap.size NN b2 c s t HRI.out HINV.out HREL.out HLEN.out hW hN qk qn SB sl sc l hR (by omega) HZ.out
    rw [st2] at hdoB
    obtain ⟨s2, hs2⟩ : ∃ s2, (stepM c s qk qn l).1 = s2 := ⟨_, rfl⟩
    obtain ⟨t2, ht2⟩ : ∃ t2, (stepR c t qk qn l).1 = t2 := ⟨_, rfl⟩
    obtain ⟨E0, hE0⟩ : ∃ E0, (stepM c s qk qn l).2.1 = E0 := ⟨_, rfl⟩
    obtain ⟨E1, hE1⟩ : ∃ E1, (stepM c s qk qn l).2.2.1 = E1 := ⟨_, rfl⟩
    obtain ⟨E2, hE2⟩ : ∃ E2, (stepM c s qk qn l).2.2.2 = E2 := ⟨_, rfl⟩
    rw [hs2, hE0, hE1, hE2] at hdoA
    rw [ht2, hE0, hE1, hE2] at hdoB
    rw [hs2, ht2] at st3
    rw [hs2] at hi2
    rw [ht2] at hl2
    have HRQ := Lib.hid hrq
    have HDA := Lib.hid hdoA
    have HDB := Lib.hid hdoB
    have HREL2 := Lib.hid st3
    have HINV2 := Lib.hid hi2
    have HLEN2 := Lib.hid hl2
    have hneq := neqR E0 E1 E2
    have hs0 := hrq wr.drew (HBE.out.drew)
    clear hrq hdoA hdoB st2 st3 hi2 hl2 hs2 ht2 hE0 hE1 hE2
    refine wp_region_held_drew (S := (fun W => (sldQ (.pointer (some ⟨g, ob + k * 3, none⟩))).run Tryz.prog W = .ok (.agg #[.int .i64 qk, .int .i64 qn, .slice SB sl sc]) W)) (by kernel_rfl) ?_ (fun hHeld => ?_)
    ·
     exact hs0
    generalize hwd : wr.drew = Wd at hs0 hHeld ⊢
    have hbe := HBE.out.drew
    have hmd := HMD.out.later (Below.refl wr.heap.size wr).drew
    have hrm := HRM.out.later (Below.refl wr.heap.size wr).drew
    have hnn : NN ≤ wr.drew.heap.size := HNN.out
    rw [hwd] at hbe hmd hrm hnn
    clear HBE HMD HRM HNN hwd
    have HBE := Lib.hid hbe
    have HMD := Lib.hid hmd
    have HRM := Lib.hid hrm
    have HNN := Lib.hid hnn
    clear hbe hmd hrm hnn
    refine tk 0 (h := ?_)
    refine tk 1 (h := ?_)
    refine tk 2 (h := ?_)
    refine tk 3 (h := ?_)
    refine tk 4 (h := ?_)
    refine tk 6 (h := ?_)
    refine tk 7 (h := ?_)
    refine tk 8 (h := ?_)
    refine tk 9 (h := ?_)
    refine tk 10 (h := ?_)
    refine rd 5 (h := fun K hK => ?_)
    go_simp
    refine (HDA.out _ HMD.out (HRS.out.below HBE.out)).mono ?_
    rintro e w6 ⟨rfl, hmd6, ho6⟩
    have hbe := ho6.below HBE.out HBE.out.size (fun j hj => by have := (mem_win.1 hj).1; have := HBS.out; omega)
    have hrm := HRM.out.only ho6 (fun j hj => by have := mem_win.1 hj; have := HBS.out; omega)
    have hnn := Nat.le_trans HNN.out ho6.size
    clear HBE HMD HRM HNN
    have HBE := Lib.hid hbe
    have HMD := Lib.hid hmd6
    have HRM := Lib.hid hrm
    have HNN := Lib.hid hnn
    clear hbe hmd6 ho6 hrm hnn
    go_wp2_with fail
    refine so hK (by (try dsimp only); (exact HRQ.out _ HBE.out)) (h := fun hHeld => ?_)
    clear hK K
    refine rd 11 (h := fun K hK => ?_)
    go_simp
    refine (HDB.out _ HRM.out HNN.out (HRS.out.below HBE.out)).mono ?_
    rintro e w7 ⟨rfl, hrm7, hb7⟩
    have hon := Only.of_belowN hb7
    have hbe := hon.below HBE.out HBE.out.size (fun j hj => by have := (mem_win.1 hj).1; have := HWN.out; omega)
    have hmd := HMD.out.only hon (fun j hj => by have := mem_win.1 hj; omega)
    have hnn := Nat.le_trans HNN.out hb7.size
    clear HBE HMD HRM HNN
    have HBE := Lib.hid hbe
    have HMD := Lib.hid hmd
    have HRM := Lib.hid hrm7
    have HNN := Lib.hid hnn
    clear hbe hmd hb7 hrm7 hnn hon
    go_wp2_with fail
    refine so hK (by (try dsimp only); (exact HRQ.out _ HBE.out)) (h := fun hHeld => ?_)
    clear hK K
    refine tk 12 (h := ?_)
    refine wpAnyH_done (by kernel_rfl) ?_ _
    try simp only [Act.put, List.getElem_toArray, List.getElem_cons_succ, List.getElem_cons_zero, List.setIfInBounds_toArray, List.set_cons_zero, List.set_cons_succ]
    have hk1 : IntKind.i64.wrap ((k : Int) + 1) = (k : Int) + 1 := IntWalk.i64_in _ (by have := HLN.out; omega)
    clear hHeld hs0 hneq
    go_upto_region 16 with fail
    have hok : s2.m.Ok := by obtain ⟨_, _, _, _, _, _, _, _, hm, _⟩ := HMD.out; exact hm.ok
    have hmeta := fun (W : World) (hW : MdB W BB NN b1 c s2) => mmetaB W BB NN b1 c s2 hW
    have hactA := fun (W : World) (hW : MdB W BB NN b1 c s2) => mactB W BB NN b1 c s2 HRI.out HINV2.out hW
    have hactB := fun (W : World) (hW : RmC W w.heap.size NN b2 c t2) => ractB W w.heap.size NN b2 c t2 (by rw [HREL2.out.m]; exact ((right_iff _).1 HINV2.out.right).act) HLEN2.out hW
    rw [← HREL2.out.r.act] at hactA
    have hneq := fun W => neqM s2.m hok W
    have hldm : ∀ W, RmC W w.heap.size NN b2 c t2 → (sldM (.pointer (some ⟨b2, 7, none⟩))).run Tryz.prog W = .ok (.agg s2.m.cells.toArray) W := fun W hW => by
     obtain ⟨_, _, _, _, _, _, _, _, hm, _⟩ := hW
     rw [← HREL2.out.m]
     exact run_sldM (Mt.cells_len hm.ok) hm.range
    obtain ⟨M, hM⟩ : ∃ M, s2.m.cells.toArray = M := ⟨_, rfl⟩
    obtain ⟨AB, hAB⟩ : ∃ AB, t2.run = AB := ⟨_, rfl⟩
    obtain ⟨D, hD⟩ : ∃ D : ByteArray, (⟨AB.toArray⟩ : ByteArray) = D := ⟨_, rfl⟩
    simp only [hM] at hmeta hneq hldm
    rw [hAB] at hactA hactB
    have hdd : (D.toList != D.toList) = false := by simp
    have hstr := fun (W : World) (A : Option Addr) (cc : Nat) (hW : Reads W A AB.length (AB.map u8v)) => strAny W A AB.length cc AB hW
    rw [hD] at hstr
    have HMETA := Lib.hid hmeta
    have HAA := Lib.hid hactA
    have HAB := Lib.hid hactB
    have HLDM := Lib.hid hldm
    have HSTR := Lib.hid hstr
    have hs1 := hldm _ (HRM.out.later (Below.refl w7.heap.size w7).drew)
    clear hmeta hactA hactB hldm hM hAB hD hok hstr
    refine wp_region_held_drew (S := (fun W => (sldM (.pointer (some ⟨b2, 7, none⟩))).run Tryz.prog W = .ok (.agg M) W)) (by kernel_rfl) ?_ (fun hHeld => ?_)
    ·
     exact hs1
    generalize hwd : w7.drew = We at hs1 hHeld ⊢
    have hbe := HBE.out.drew
    have hmd := HMD.out.later (Below.refl w7.heap.size w7).drew
    have hrm := HRM.out.later (Below.refl w7.heap.size w7).drew
    have hnn : NN ≤ w7.drew.heap.size := HNN.out
    rw [hwd] at hbe hmd hrm hnn
    clear HBE HMD HRM HNN hwd
    have HBE := Lib.hid hbe
    have HMD := Lib.hid hmd
    have HRM := Lib.hid hrm
    have HNN := Lib.hid hnn
    clear hbe hmd hrm hnn
    refine tk 0 (h := ?_)
    refine tk 2 (h := ?_)
    refine tk 3 (h := ?_)
    refine tk 4 (h := ?_)
    refine tk 5 (h := ?_)
    refine rd 1 (h := fun K hK => ?_)
    go_simp
    refine (HMETA.out _ HMD.out).mono ?_
    rintro e w8 ⟨rfl, hb8⟩
    have hbe := HBE.out.trans (hb8.mono HBE.out.size)
    have hmd := HMD.out.later hb8
    have hrm := HRM.out.later hb8
    have hnn := Nat.le_trans HNN.out hb8.size
    clear HBE HMD HRM HNN
    have HBE := Lib.hid hbe
    have HMD := Lib.hid hmd
    have HRM := Lib.hid hrm
    have HNN := Lib.hid hnn
    clear hbe hmd hrm hnn
    clear hb8
    go_wp2_with fail
    refine so hK (by (try dsimp only); (exact HLDM.out _ HRM.out)) (h := fun hHeld => ?_)
    clear hK K
    refine tk 6 (h := ?_)
    refine tk 7 (h := ?_)
    refine tk 8 (h := ?_)
    refine tk 11 (h := ?_)
    refine rd 9 (h := fun K hK => ?_)
    go_simp
    refine (HAA.out _ HMD.out).mono ?_
    rintro e w9 ⟨A9, c9, rfl, ho9, hb9⟩
    have HR9 := Lib.hid (Reads.of_own ho9)
    have hbe := HBE.out.trans (hb9.mono HBE.out.size)
    have hmd := HMD.out.later hb9
    have hrm := HRM.out.later hb9
    have hnn := Nat.le_trans HNN.out hb9.size
    clear HBE HMD HRM HNN
    have HBE := Lib.hid hbe
    have HMD := Lib.hid hmd
    have HRM := Lib.hid hrm
    have HNN := Lib.hid hnn
    clear hbe hmd hrm hnn
    clear hb9 ho9
    go_wp2_with fail
    refine so hK (by (try dsimp only); (exact HLDM.out _ HRM.out)) (h := fun hHeld => ?_)
    clear hK K
    refine wpAnyH_more (S' := (fun W => (sldM (.pointer (some ⟨b2, 7, none⟩))).run Tryz.prog W = .ok (.agg M) W ∧ (convert 22 9 (.slice A9 AB.length c9)).run Tryz.prog W = .ok (.string D) W)) (fun _ hh => hh.1) _ _ _ _ ?_
    replace hHeld := And.intro hHeld (HSTR.out _ A9 c9 HR9.out)
    refine tk 10 (h := ?_)
    refine rd 12 (h := fun K hK => ?_)
    go_simp
    refine (HAB.out _ HRM.out).mono ?_
    rintro e w10 ⟨A10, c10, rfl, ho10, hb10⟩
    have hr9 := HR9.out.below hb10
    clear HR9
    have HR9 := Lib.hid hr9
    have HR10 := Lib.hid (Reads.of_own ho10)
    have hbe := HBE.out.trans (hb10.mono HBE.out.size)
    have hmd := HMD.out.later hb10
    have hrm := HRM.out.later hb10
    have hnn := Nat.le_trans HNN.out hb10.size
    clear HBE HMD HRM HNN
    have HBE := Lib.hid hbe
    have HMD := Lib.hid hmd
    have HRM := Lib.hid hrm
    have HNN := Lib.hid hnn
    clear hbe hmd hrm hnn
    clear hb10 ho10 hr9
    go_wp2_with fail
    refine so hK (by (try dsimp only); (exact ⟨HLDM.out _ HRM.out, HSTR.out _ A9 c9 HR9.out⟩)) (h := fun hHeld => ?_)
    clear hK K
    refine wpAnyH_more (S' := (fun W => (sldM (.pointer (some ⟨b2, 7, none⟩))).run Tryz.prog W = .ok (.agg M) W ∧ (convert 22 9 (.slice A9 AB.length c9)).run Tryz.prog W = .ok (.string D) W ∧ (convert 22 9 (.slice A10 AB.length c10)).run Tryz.prog W = .ok (.string D) W)) (fun _ hh => ⟨hh.1, hh.2.1⟩) _ _ _ _ ?_
    replace hHeld := And.intro hHeld.1 (And.intro hHeld.2 (HSTR.out _ A10 c10 HR10.out))
    refine tk 13 (h := ?_)
    refine tk 14 (h := ?_)
    refine tk 15 (h := ?_)
    refine wpAnyH_done (by kernel_rfl) ?_ _
    try simp only [Act.put, List.getElem_toArray, List.getElem_cons_succ, List.getElem_cons_zero, List.setIfInBounds_toArray, List.set_cons_zero, List.set_cons_succ]
    go_wp2_with fail
    go_roundw
    case rel => exact ⟨k + 1, s2, t2, by go_num, by omega, HMD.out, HRM.out, HREL2.out, HINV2.out, HLEN2.out, HBE.out, HNN.out⟩
    case measure => simp [intOf]; omega
   ·
    go_wp2_with fail
    go_ret
    exact ⟨rfl, HBE.out⟩
end Go.Proofs.YtpafenlcgcenlaaGreatDoor
