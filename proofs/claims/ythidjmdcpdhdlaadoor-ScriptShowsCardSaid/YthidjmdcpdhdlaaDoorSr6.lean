/- The reference's SameSteps, of one list read twice; ScriptReads. -/
import Derived.Test.YthidjmdcpdhdlaaDoorSr5
namespace Go.Proofs.YthidjmdcpdhdlaaDoor
open Go Go.RowKit
set_option linter.unusedVariables false
set_option linter.unusedSimpArgs false
attribute [local go_sem ↓] sbS_seal sldS_seal sstS_seal
theorem StepC.one {w : World} {x : Sp} {cs : List Value} (h : StepC w x cs) : ∀ u ∈ cs, u.oneCell' = true := by
  obtain ⟨A, c, B, d, h1, _⟩ := h; rw [h1]; exact stC_one _ _ _ _ _ _ _ _ _ _ _
set_option maxRecDepth 100000 in
set_option maxHeartbeats 4000000 in
theorem rsame_c (A B : Option Addr) (n c d : Nat) (l : List Sp) (w : World) (ha : ReadsS w A n l) (hb : ReadsS w B n l) (hn : n ≤ 1000000) : Calls Tryd.prog 9 #[.slice A n c, .slice B n d] w fun e w' => e = .returned (.bool true) ∧ Below w.heap.size w w' := by
  have hlen := ha.1
  have HA := Lib.hid ha
  have HB := Lib.hid hb
  have HLN := Lib.hid hlen
  clear ha hb hlen
  go_enter Tryd.func9, Tryd.ntmps9
  go_wp2_with fail
  go_loopw [5] (fun i wr => ∃ (k : Nat), i = .int .i64 k ∧ k ≤ n ∧ Below w.heap.size w wr) (fun i wr => (match i with | .int _ x => (n : Int) - x | _ => 0).toNat)
  case atStart => exact ⟨0, rfl, Nat.zero_le _, Below.refl _ w⟩
  case round =>
    obtain ⟨k, rfl, hkn, hbel⟩ := hrel
    have HBL := Lib.hid hbel
    clear hbel
    by_cases hk : k < n
    · obtain ⟨x, hx⟩ : ∃ x, l[k]? = Option.some x := ⟨l[k]'(by rw [HLN.out]; exact hk), List.getElem?_eq_getElem _⟩
      obtain ⟨ba, oa, eA, _, hca⟩ := (HA.out.below HBL.out).2 (by omega)
      obtain ⟨cs, hcl, hsc, hrg⟩ := hca k x hx
      have hlda := run_sldS hcl hrg
      have hsta := run_sstS cs (Blk.new wr 36 litS) rfl hcl hsc.one
      have hx1 : Blk ((wr.alloc (.cells litS 36)).setRow wr.heap.size cs.toArray) wr.heap.size 36 cs.toArray := (Blk.new wr 36 litS).setRow_s _
      have hb1 : Below wr.heap.size wr ((wr.alloc (.cells litS 36)).setRow wr.heap.size cs.toArray) := below_setRow_s ((Below.refl _ wr).alloc (Nat.le_refl _) _) (Nat.le_refl _) _
      have HX1 := Lib.hid hx1
      have HB1 := Lib.hid hb1
      have HSC := Lib.hid hsc
      have HCL := Lib.hid hcl
      clear hx1 hb1 hsc hrg hca hcl
      go_upto_region 7 with fail
      have hx1 := HX1.out
      have hb1 := HB1.out
      generalize (wr.alloc (.cells litS 36)).setRow wr.heap.size cs.toArray = w1 at hx1 hb1 ⊢
      clear HX1 HB1 hlda hsta
      have hbw := HBL.out.trans (hb1.mono HBL.out.size)
      obtain ⟨bb, ob, eB, _, hcb⟩ := (HB.out.below hbw).2 (by omega)
      obtain ⟨ds, hdl, hsd, hrd⟩ := hcb k x hx
      have hldb := run_sldS hdl hrd
      have hstb := run_sstS ds (Blk.new w1 36 litS) rfl hdl hsd.one
      have hx2 : Blk ((w1.alloc (.cells litS 36)).setRow w1.heap.size ds.toArray) w1.heap.size 36 ds.toArray := (Blk.new w1 36 litS).setRow_s _
      have hb2 : Below w1.heap.size w1 ((w1.alloc (.cells litS 36)).setRow w1.heap.size ds.toArray) := below_setRow_s ((Below.refl _ w1).alloc (Nat.le_refl _) _) (Nat.le_refl _) _
      have HX1 := Lib.hid hx1
      have HX2 := Lib.hid hx2
      have HB2 := Lib.hid hb2
      have HSD := Lib.hid hsd
      have HC1 := Lib.hid (HSC.out.below hb1)
      have HBW := Lib.hid hbw
      have HDL := Lib.hid hdl
      clear hx1 hx2 hb1 hb2 hsd hrd hcb hbw hx hdl
      go_upto_region 8 with fail
      have hx2 := HX2.out
      have hb2 := HB2.out
      generalize (w1.alloc (.cells litS 36)).setRow w1.heap.size ds.toArray = w2 at hx2 hb2 ⊢
      clear HX2 HB2 hldb hstb HSC
      have hx1 := HX1.out.below hb2 HX1.out.lt
      have hc1 := HC1.out.below hb2
      have hd1 := HSD.out.below hb2
      have hbw := HBW.out.trans (hb2.mono HBW.out.size)
      obtain ⟨A1, c1, B1, d1, e1, ra1, rb1, -, -⟩ := hc1
      obtain ⟨A2, c2, B2, d2, e2, ra2, rb2, -, -⟩ := hd1
      subst e1 e2
      have p0 := hx1.cell 0
      have p1 := hx1.cell 1
      have p2 := hx1.cell 2
      have p3 := hx1.cell 3
      have p4 := hx1.cell 4
      have p5 := hx1.cell 5
      have p6 := hx1.cell 6
      have q0 := hx2.cell 0
      have q1 := hx2.cell 1
      have q2 := hx2.cell 2
      have q3 := hx2.cell 3
      have q4 := hx2.cell 4
      have q5 := hx2.cell 5
      have q6 := hx2.cell 6
      simp only [stC, List.getElem?_toArray, List.getElem?_cons_zero, List.getElem?_cons_succ] at p0 p1 p2 p3 p4 p5 p6 q0 q1 q2 q3 q4 q5 q6
      have v1 := strAny w2 A1 _ c1 _ ra1
      have v2 := strAny w2 B1 _ d1 _ rb1
      have v3 := strAny w2 A2 _ c2 _ ra2
      have v4 := strAny w2 B2 _ d2 _ rb2
      have HBW2 := Lib.hid hbw
      clear hx1 hx2 hb2 ra1 rb1 ra2 rb2 hbw HX1 HC1 HSD HBW
      try rw [← eA]
      try rw [← eB]
      clear eA eB
      go_wp2_with fail
      go_roundw
      case rel => exact ⟨k + 1, rfl, hk, HBW2.out⟩
      case measure =>
        dsimp only
        omega
    · go_wp2_with fail
      go_ret
      exact ⟨rfl, HBL.out⟩
end Go.Proofs.YthidjmdcpdhdlaaDoor
