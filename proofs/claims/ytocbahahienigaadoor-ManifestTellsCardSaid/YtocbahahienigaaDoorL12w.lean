/- waterlinelaw12.ManifestTells: which bytes any manifest is, under any key, and which manifest any bytes are. -/
import Derived.Test.YtocbahahienigaaDoorL12a
import Derived.Test.YtocbahahienigaaDoorMn6
import Derived.Test.YtocbahahienigaaDoorRmnA
import Derived.Test.YtocbahahienigaaDoorHeldMore
namespace Go.Proofs.YtocbahahienigaaDoor
open Go Go.RowKit
set_option linter.unusedVariables false
set_option linter.unusedSimpArgs false
attribute [local go_sem ↓] sbN_seal sldN_seal sstN_seal sbsN_seal sstDg_seal
theorem storeT_ (w : World) (cs : List Value) (hl : cs.length = 35) (h1 : ∀ u ∈ cs, u.oneCell' = true) : (sstN (.pointer (some ⟨w.heap.size, 0, none⟩)) (.agg cs.toArray)).run Tryd.prog (w.alloc (.cells litN 27)) = .ok () ((w.alloc (.cells litN 27)).setRow w.heap.size cs.toArray) := by
  have hN := Blk.new w 27 zeroN.toArray
  have hst := run_sstN cs hN (by rw [List.size_toArray]; rfl) hl h1
  rw [← zeroN_eq] at hst
  exact hst
theorem below_storeT (w : World) (o : Obj) (cs : Array Value) : Below w.heap.size w ((w.alloc o).setRow w.heap.size cs) := below_setRow_m ((Below.refl _ _).alloc (Nat.le_refl _) _) (Nat.le_refl _) _
theorem mread_any (w : World) (A : Option Addr) (n c : Nat) (l : List UInt8) (hr : Reads w A n (l.map u8v)) (hn : n ≤ 100000) :
    Calls Tryd.prog 8 #[.slice A n c] w fun e w' => ManRet l e w' ∧ Below w.heap.size w w' := by
  have hl : l.length = n := by simpa using hr.len
  by_cases h : n = 92
  · subst h
    exact mread_full w A c l hr hl
  · exact mread_short w A n c l hr hl hn h
/-- Both readers answer one manifest, one tag and one number. -/
theorem man_out (l : List UInt8) : ∃ (nm : ByteArray) (i : Img) (T : List UInt8) (E : Int), i.d.length = 32 ∧ T.length ≤ 32 ∧ ∀ (e : Ending) (w' : World), ManRet l e w' → ∃ A c, e = .returned (.tuple #[.agg (manC nm i).toArray, .slice A T.length c, .int .i64 E]) ∧ Reads w' A T.length (T.map u8v) := by
  by_cases h : l.length ≠ 92 ∨ mOk l = false
  · refine ⟨⟨#[]⟩, Img.zero, [], 6, by rfl, by simp, ?_⟩
    rintro e w' (⟨_, rfl⟩ | ⟨h1, h2, _⟩)
    · exact ⟨none, 0, rfl, Reads.none_ _⟩
    · rcases h with h | h
      · exact absurd h1 h
      · rw [h2] at h; cases h
  · have h1 : l.length = 92 := by
      by_cases q : l.length = 92
      · exact q
      · exact absurd (.inl q) h
    refine ⟨⟨(mName l).toArray⟩, mImg l, (l.drop 60).take 32, 0, by simp [mImg, h1], by rw [List.length_take]; omega, ?_⟩
    have hT : ((l.drop 60).take 32).length = 32 := by simp [h1]
    rintro e w' (⟨hh, _⟩ | ⟨_, _, A, c, he, hr⟩)
    · exact absurd hh h
    · refine ⟨A, c, ?_, ?_⟩
      · rw [hT]; exact he
      · rw [hT]; exact hr
set_option maxRecDepth 100000 in
set_option maxHeartbeats 2000000 in
theorem manifestTells_c (w : World) (KA : Option Addr) (kn kc : Nat) (key : List UInt8) (hk : Reads w KA kn (key.map u8v)) (nm : ByteArray) (hnm : nm.size ≤ maxLen) (i : Img) (hi : i.d.length = 32) (BA : Option Addr) (bn bc : Nat) (b : List UInt8) (hr : Reads w BA bn (b.map u8v)) (hz : bn ≤ bc ∧ bc ≤ maxLen) :
    Calls Tryd.prog 3 #[.slice KA kn kc, .agg (manC nm i).toArray, .slice BA bn bc] w fun e w' => e = .returned (.bool true) ∧ Below w.heap.size w w' := by
  obtain ⟨i0, hi8, hz0, hz1, hz2⟩ := info_parts info_u8
  have hB0 := Blk.new w 27 (manC nm i).toArray
  have hb0 : Below w.heap.size w (w.alloc (.cells (manC nm i).toArray 27)) := (Below.refl _ _).alloc (Nat.le_refl _) _
  have hld := fun (W : World) (g : Nat) (h : Blk W g 27 (manC nm i).toArray) => run_sldN (manC_len hi nm) h.whole
  have hc0 := fun (W : World) (h : Blk W w.heap.size 27 (manC nm i).toArray) => (show W.cell? ⟨w.heap.size, 0, none⟩ = Option.some (.string nm) from h.cell 0)
  have hby := fun (W : World) (h : Reads W KA kn (key.map u8v)) (hkn : kn ≤ 200) (hn : nm.size ≤ 100) => mbytes_c W KA kn kc key h (by omega) nm i hi (by omega)
  have hrby := fun (W : World) (h : Reads W KA kn (key.map u8v)) (hkn : kn ≤ 200) (hn : nm.size ≤ 100) => rmbytes_c W KA kn kc key h (by omega) nm i hi (by omega)
  have hbo := fun (W : World) (hn : nm.size ≤ 100) => body_c W nm i hi (by omega)
  have hrbo := fun (W : World) (hn : nm.size ≤ 100) => rbody_c W nm i hi (by omega)
  obtain ⟨MC, hMC⟩ : ∃ MC, (manC nm i).toArray = MC := ⟨_, rfl⟩
  simp only [hMC] at hB0 hb0 hld hc0 hby hrby hbo hrbo ⊢
  obtain ⟨nm2, i2, T, E, hi2, hTl, hman⟩ := man_out b
  have hst := fun W => storeT_ W (manC nm2 i2) (manC_len hi2 _) (manC_one _ _)
  have hnew := fun (W : World) => (Blk.new W 27 litN).setRow_m (manC nm2 i2).toArray
  have hld2 := fun (W : World) (g : Nat) (h : Blk W g 27 (manC nm2 i2).toArray) => run_sldN (manC_len hi2 nm2) h.whole
  have heq := eqlN nm2 i2 hi2
  obtain ⟨NC, hNC⟩ : ∃ NC, (manC nm2 i2).toArray = NC := ⟨_, rfl⟩
  simp only [hNC] at hst hnew hld2 heq hman
  have HK := Lib.hid (hk.below hb0)
  have HR := Lib.hid (hr.below hb0)
  have HLD := Lib.hid hld
  have HC0 := Lib.hid hc0
  have HBY := Lib.hid hby
  have HRBY := Lib.hid hrby
  have HBO := Lib.hid hbo
  have HRBO := Lib.hid hrbo
  have HST := Lib.hid hst
  have HNEW := Lib.hid hnew
  have HLD2 := Lib.hid hld2
  have HEQ := Lib.hid heq
  have HMAN := Lib.hid hman
  have HTL := Lib.hid hTl
  have HB := Lib.hid hB0
  have HL := Lib.hid hb0
  have HI := Lib.hid hi8
  have HZ0 := Lib.hid hz0
  have HZ1 := Lib.hid hz1
  have HZ2 := Lib.hid hz2
  have HZ := Lib.hid hz
  clear hk hr hB0 hb0 hld hc0 hby hrby hbo hrbo hst hnew hld2 heq hman hTl hMC hNC hi hi2 hi8 hz0 hz1 hz2 hz
  go_enter Tryd.func3, Tryd.ntmps3
  go_wp2_with fail
  generalize w.alloc (.cells MC 27) = W1 at HK HR HB HL ⊢
  refine (alive12_c W1).mono ?_
  rintro e w2 ⟨rfl, hb2⟩
  have HK := Lib.hid (HK.out.below hb2)
  have HR := Lib.hid (HR.out.below hb2)
  have HB := Lib.hid (HB.out.below hb2 HB.out.lt)
  have HL := Lib.hid (HL.out.trans (hb2.mono HL.out.size))
  clear hb2
  have hs0 := HC0.out _ HB.out
  by_cases h1 : (200 : Int) < (kn : Int)
  · go_wp2_with fail
    go_ret
    exact ⟨rfl, HL.out⟩
  by_cases h2 : (100 : Int) < (nm.size : Int)
  · go_wp2_with fail
    go_ret
    exact ⟨rfl, HL.out⟩
  by_cases h3 : (300 : Int) < (bn : Int)
  · go_wp2_with fail
    go_ret
    exact ⟨rfl, HL.out⟩
  have hown0 := World.ownsRow_nil w2 w2.heap.size 5 1
  go_wp2_with (at_builtin; first
    | (refine wpList_append_any _ rfl (.const (.slice none 0 0)) (.tmp 35) _ rfl w2.heap.size 5 i0 (.int .u8 0) 1 Tryd.underlying22 HI.out HZ0.out HZ1.out HZ2.out rfl _ 0 [] rfl hown0 BA bn bc (b.map u8v) rfl HR.out (u8v_one _) (by unfold maxLen; omega) (by omega) (Nat.le_refl _) ?_; intro A6 c6 w6 hown6 hgrow6 hat; simp only [Nat.zero_add, List.nil_append] at hown6 ⊢; have HB6 := Lib.hid ((Below.refl w2.heap.size w2).grown hgrow6 (Nat.le_refl _) (by intro k hk; cases hk)); have HO6 := Lib.hid hown6; clear hown6 hgrow6 hat))
  refine (mread_any w6 A6 bn c6 b (Reads.of_own HO6.out) (by omega)).mono ?_
  rintro e w7 ⟨hret, hb7⟩
  obtain ⟨A7, c7, rfl, hr7⟩ := HMAN.out _ _ hret
  have hst := HST.out w7
  have hb8 := below_storeT w7 (.cells litN 27) NC
  have HK := Lib.hid (((HK.out.below HB6.out).below hb7).below hb8)
  have HR := Lib.hid (((HR.out.below HB6.out).below hb7).below hb8)
  have hB6 := HB.out.below HB6.out HB.out.lt
  have hB7 := hB6.below hb7 hB6.lt
  have HB := Lib.hid (hB7.below hb8 hB7.lt)
  have hL7 := (HL.out.trans (HB6.out.mono HL.out.size)).trans (hb7.mono (Nat.le_trans HL.out.size HB6.out.size))
  have HL := Lib.hid (hL7.trans (hb8.mono hL7.size))
  have HT := Lib.hid (hr7.below hb8)
  have HM := Lib.hid (HNEW.out w7)
  clear hb7 hb8 hr7 hret hown0 hB6 hB7 hL7 hs0
  go_upto_region 5 with fail
  obtain ⟨mb, hmb⟩ : ∃ mb, w7.heap.size = mb := ⟨_, rfl⟩
  generalize (w7.alloc (.cells litN 27)).setRow w7.heap.size NC = W8 at HK HR HB HL HT HM ⊢
  rw [hmb] at HM ⊢
  clear hst hmb HO6 HB6
  go_wp2_with fail
  refine (rmread_c W8 BA bn bc b HR.out (by omega) HZ.out).mono ?_
  rintro e w9 ⟨hret, hb9⟩
  obtain ⟨A9, c9, rfl, hr9⟩ := HMAN.out _ _ hret
  have hst := HST.out w9
  have hb10 := below_storeT w9 (.cells litN 27) NC
  have HK := Lib.hid ((HK.out.below hb9).below hb10)
  have HR := Lib.hid ((HR.out.below hb9).below hb10)
  have HB := Lib.hid ((HB.out.below hb9 HB.out.lt).below hb10 (HB.out.below hb9 HB.out.lt).lt)
  have HM := Lib.hid ((HM.out.below hb9 HM.out.lt).below hb10 (HM.out.below hb9 HM.out.lt).lt)
  have HL := Lib.hid ((HL.out.trans (hb9.mono HL.out.size)).trans (hb10.mono (Nat.le_trans HL.out.size hb9.size)))
  have HT := Lib.hid ((HT.out.below hb9).below hb10)
  have HU := Lib.hid (hr9.below hb10)
  have HV := Lib.hid (HNEW.out w9)
  clear hb9 hb10 hr9 hret
  go_upto_region 6 with fail
  obtain ⟨vb, hvb⟩ : ∃ vb, w9.heap.size = vb := ⟨_, rfl⟩
  generalize (w9.alloc (.cells litN 27)).setRow w9.heap.size NC = W9 at HK HR HB HL HT HU HM HV ⊢
  rw [hvb] at HV ⊢
  clear hst hvb HST HNEW HMAN HC0
  obtain ⟨TS, hTS⟩ : ∃ TS, (⟨T.toArray⟩ : ByteArray) = TS := ⟨_, rfl⟩
  obtain ⟨SB, hSB⟩ : ∃ SB, (⟨(bodyB nm i).toArray⟩ : ByteArray) = SB := ⟨_, rfl⟩
  obtain ⟨SW, hSW⟩ : ∃ SW, (⟨(bytesB key nm i).toArray⟩ : ByteArray) = SW := ⟨_, rfl⟩
  have HSB := Lib.hid hSB
  have HSW := Lib.hid hSW
  have hS : ∀ W, Below W9.heap.size W9 W → (fun W => (sldN (.pointer (some ⟨w.heap.size, 0, none⟩))).run Tryd.prog W = .ok (.agg MC) W ∧ (sldN (.pointer (some ⟨mb, 0, none⟩))).run Tryd.prog W = .ok (.agg NC) W ∧ (sldN (.pointer (some ⟨vb, 0, none⟩))).run Tryd.prog W = .ok (.agg NC) W ∧ (convert 22 9 (.slice A7 T.length c7)).run Tryd.prog W = .ok (.string TS) W ∧ (convert 22 9 (.slice A9 T.length c9)).run Tryd.prog W = .ok (.string TS) W) W := fun W hb => ⟨HLD.out _ _ (HB.out.below hb HB.out.lt), HLD2.out _ _ (HM.out.below hb HM.out.lt), HLD2.out _ _ (HV.out.below hb HV.out.lt), hTS ▸ strAny W A7 _ c7 T (HT.out.below hb), hTS ▸ strAny W A9 _ c9 T (HU.out.below hb)⟩
  have HS := Lib.hid hS
  have hHeld := hS _ (Below.refl _ _).drew
  obtain ⟨SG, hSG⟩ : ∃ SG, signedB key b = SG := ⟨_, rfl⟩
  have hsig := fun (W : World) (h1 : Reads W KA kn (key.map u8v)) (h2 : Reads W BA bn (b.map u8v)) => msigned_c W KA kn kc key h1 (by omega) BA bn bc b h2 (by omega) HZ.out
  have hrsig := fun (W : World) (h1 : Reads W KA kn (key.map u8v)) (h2 : Reads W BA bn (b.map u8v)) => rmsigned_c W KA kn kc key h1 (by omega) BA bn bc b h2 (by omega) HZ.out
  simp only [hSG] at hsig hrsig
  have HSIG := Lib.hid hsig
  have HRSIG := Lib.hid hrsig
  have heq := HEQ.out
  have HBEL := Lib.hid ((Below.refl W9.heap.size W9).drew)
  have HK := Lib.hid HK.out.drew
  have HR := Lib.hid HR.out.drew
  have HL := Lib.hid HL.out.drew
  clear hS hTS hSB hSW hSG hsig hrsig HLD HLD2 HEQ
  refine wp_region_held_drew (S := (fun W => (sldN (.pointer (some ⟨w.heap.size, 0, none⟩))).run Tryd.prog W = .ok (.agg MC) W ∧ (sldN (.pointer (some ⟨mb, 0, none⟩))).run Tryd.prog W = .ok (.agg NC) W ∧ (sldN (.pointer (some ⟨vb, 0, none⟩))).run Tryd.prog W = .ok (.agg NC) W ∧ (convert 22 9 (.slice A7 T.length c7)).run Tryd.prog W = .ok (.string TS) W ∧ (convert 22 9 (.slice A9 T.length c9)).run Tryd.prog W = .ok (.string TS) W)) (by kernel_rfl) ?_ (fun hHeld => ?_)
  · exact hHeld
  refine wpAnyH_take (i := 0) (v := ?_) rfl (by kernel_rfl) (by kernel_rfl) (by kernel_rfl) (fun _ _ _ h => h) (Or.inl ⟨by rfl, ?_⟩) (by assumption) ?_
  rotate_left
  · intro w hSw
    (try dsimp only at hSw)
    go_simp
    all_goals with_reducible rfl
  try simp only [Act.put, List.getElem_toArray, List.getElem_cons_succ, List.getElem_cons_zero, List.setIfInBounds_toArray, List.set_cons_zero, List.set_cons_succ]
  refine wpAnyH_take (i := 3) (v := ?_) rfl (by kernel_rfl) (by kernel_rfl) (by kernel_rfl) (fun _ _ _ h => h) (Or.inl ⟨by rfl, ?_⟩) (by assumption) ?_
  rotate_left
  · intro w hSw
    (try dsimp only at hSw)
    go_simp
    all_goals with_reducible rfl
  try simp only [Act.put, List.getElem_toArray, List.getElem_cons_succ, List.getElem_cons_zero, List.setIfInBounds_toArray, List.set_cons_zero, List.set_cons_succ]
  refine wpAnyH_ready (rs := [1]) (by kernel_rfl) (by simp) ?_
  refine AllReadyH.cons rfl (fun K hK => ?_) AllReadyH.nil
  go_simp
  refine (HBO.out _ (by omega)).mono ?_; rintro e w1 ⟨A11, c11, rfl, ho1, hb1⟩; have HBEL := Lib.hid (HBEL.out.trans (hb1.mono HBEL.out.size)); have HL := Lib.hid (HL.out.trans (hb1.mono HL.out.size)); have HK := Lib.hid (HK.out.below hb1); have HR := Lib.hid (HR.out.below hb1)
  go_wp2_with fail
  refine hK.out _ _ ?_ (fun hHeld => ?_)
  · (try dsimp only)
    exact HS.out _ HBEL.out
  clear hK K
  try simp only [Act.put, List.getElem_toArray, List.getElem_cons_succ, List.getElem_cons_zero, List.setIfInBounds_toArray, List.set_cons_zero, List.set_cons_succ]
  have HS := Lib.hid (show ∀ W, Below w1.heap.size w1 W → (fun W => (convert 22 9 (.slice A11 60 c11)).run Tryd.prog W = .ok (.string SB) W ∧ (sldN (.pointer (some ⟨w.heap.size, 0, none⟩))).run Tryd.prog W = .ok (.agg MC) W ∧ (sldN (.pointer (some ⟨mb, 0, none⟩))).run Tryd.prog W = .ok (.agg NC) W ∧ (sldN (.pointer (some ⟨vb, 0, none⟩))).run Tryd.prog W = .ok (.agg NC) W ∧ (convert 22 9 (.slice A7 T.length c7)).run Tryd.prog W = .ok (.string TS) W ∧ (convert 22 9 (.slice A9 T.length c9)).run Tryd.prog W = .ok (.string TS) W) W from fun W hb => ⟨HSB.out ▸ strAny W A11 60 c11 _ ((Reads.of_own ho1).below hb), HS.out W (HBEL.out.trans (hb.mono HBEL.out.size))⟩)
  have HBEL := Lib.hid (Below.refl w1.heap.size w1)
  clear ho1 hb1
  refine wpAnyH_more (S' := (fun W => (convert 22 9 (.slice A11 60 c11)).run Tryd.prog W = .ok (.string SB) W ∧ (sldN (.pointer (some ⟨w.heap.size, 0, none⟩))).run Tryd.prog W = .ok (.agg MC) W ∧ (sldN (.pointer (some ⟨mb, 0, none⟩))).run Tryd.prog W = .ok (.agg NC) W ∧ (sldN (.pointer (some ⟨vb, 0, none⟩))).run Tryd.prog W = .ok (.agg NC) W ∧ (convert 22 9 (.slice A7 T.length c7)).run Tryd.prog W = .ok (.string TS) W ∧ (convert 22 9 (.slice A9 T.length c9)).run Tryd.prog W = .ok (.string TS) W)) (fun _ hh => hh.2) _ _ _ _ ?_
  replace hHeld := HS.out _ HBEL.out
  refine wpAnyH_take (i := 2) (v := ?_) rfl (by kernel_rfl) (by kernel_rfl) (by kernel_rfl) (fun _ _ _ h => h) (Or.inl ⟨by rfl, ?_⟩) (by assumption) ?_
  rotate_left
  · intro w hSw
    (try dsimp only at hSw)
    go_simp
    all_goals with_reducible rfl
  try simp only [Act.put, List.getElem_toArray, List.getElem_cons_succ, List.getElem_cons_zero, List.setIfInBounds_toArray, List.set_cons_zero, List.set_cons_succ]
  refine wpAnyH_ready (rs := [4]) (by kernel_rfl) (by simp) ?_
  refine AllReadyH.cons rfl (fun K hK => ?_) AllReadyH.nil
  go_simp
  refine (HRBO.out _ (by omega)).mono ?_; rintro e w4 ⟨A14, c14, rfl, ho4, hb4⟩; have HBEL := Lib.hid (HBEL.out.trans (hb4.mono HBEL.out.size)); have HL := Lib.hid (HL.out.trans (hb4.mono HL.out.size)); have HK := Lib.hid (HK.out.below hb4); have HR := Lib.hid (HR.out.below hb4)
  go_wp2_with fail
  refine hK.out _ _ ?_ (fun hHeld => ?_)
  · (try dsimp only)
    exact HS.out _ HBEL.out
  clear hK K
  try simp only [Act.put, List.getElem_toArray, List.getElem_cons_succ, List.getElem_cons_zero, List.setIfInBounds_toArray, List.set_cons_zero, List.set_cons_succ]
  have HS := Lib.hid (show ∀ W, Below w4.heap.size w4 W → (fun W => (convert 22 9 (.slice A14 60 c14)).run Tryd.prog W = .ok (.string SB) W ∧ (convert 22 9 (.slice A11 60 c11)).run Tryd.prog W = .ok (.string SB) W ∧ (sldN (.pointer (some ⟨w.heap.size, 0, none⟩))).run Tryd.prog W = .ok (.agg MC) W ∧ (sldN (.pointer (some ⟨mb, 0, none⟩))).run Tryd.prog W = .ok (.agg NC) W ∧ (sldN (.pointer (some ⟨vb, 0, none⟩))).run Tryd.prog W = .ok (.agg NC) W ∧ (convert 22 9 (.slice A7 T.length c7)).run Tryd.prog W = .ok (.string TS) W ∧ (convert 22 9 (.slice A9 T.length c9)).run Tryd.prog W = .ok (.string TS) W) W from fun W hb => ⟨HSB.out ▸ strAny W A14 60 c14 _ ((Reads.of_own ho4).below hb), HS.out W (HBEL.out.trans (hb.mono HBEL.out.size))⟩)
  have HBEL := Lib.hid (Below.refl w4.heap.size w4)
  clear ho4 hb4
  refine wpAnyH_more (S' := (fun W => (convert 22 9 (.slice A14 60 c14)).run Tryd.prog W = .ok (.string SB) W ∧ (convert 22 9 (.slice A11 60 c11)).run Tryd.prog W = .ok (.string SB) W ∧ (sldN (.pointer (some ⟨w.heap.size, 0, none⟩))).run Tryd.prog W = .ok (.agg MC) W ∧ (sldN (.pointer (some ⟨mb, 0, none⟩))).run Tryd.prog W = .ok (.agg NC) W ∧ (sldN (.pointer (some ⟨vb, 0, none⟩))).run Tryd.prog W = .ok (.agg NC) W ∧ (convert 22 9 (.slice A7 T.length c7)).run Tryd.prog W = .ok (.string TS) W ∧ (convert 22 9 (.slice A9 T.length c9)).run Tryd.prog W = .ok (.string TS) W)) (fun _ hh => hh.2) _ _ _ _ ?_
  replace hHeld := HS.out _ HBEL.out
  refine wpAnyH_take (i := 5) (v := ?_) rfl (by kernel_rfl) (by kernel_rfl) (by kernel_rfl) (fun _ _ _ h => h) (Or.inl ⟨by rfl, ?_⟩) (by assumption) ?_
  rotate_left
  · intro w hSw
    (try dsimp only at hSw)
    go_simp
    all_goals with_reducible rfl
  try simp only [Act.put, List.getElem_toArray, List.getElem_cons_succ, List.getElem_cons_zero, List.setIfInBounds_toArray, List.set_cons_zero, List.set_cons_succ]
  refine wpAnyH_take (i := 6) (v := ?_) rfl (by kernel_rfl) (by kernel_rfl) (by kernel_rfl) (fun _ _ _ h => h) (Or.inl ⟨by rfl, ?_⟩) (by assumption) ?_
  rotate_left
  · intro w hSw
    (try dsimp only at hSw)
    go_simp
    all_goals with_reducible rfl
  try simp only [Act.put, List.getElem_toArray, List.getElem_cons_succ, List.getElem_cons_zero, List.setIfInBounds_toArray, List.set_cons_zero, List.set_cons_succ]
  refine wpAnyH_take (i := 7) (v := ?_) rfl (by kernel_rfl) (by kernel_rfl) (by kernel_rfl) (fun _ _ _ h => h) (Or.inl ⟨by rfl, ?_⟩) (by assumption) ?_
  rotate_left
  · intro w hSw
    (try dsimp only at hSw)
    go_simp
    all_goals with_reducible rfl
  try simp only [Act.put, List.getElem_toArray, List.getElem_cons_succ, List.getElem_cons_zero, List.setIfInBounds_toArray, List.set_cons_zero, List.set_cons_succ]
  refine wpAnyH_take (i := 8) (v := ?_) rfl (by kernel_rfl) (by kernel_rfl) (by kernel_rfl) (fun _ _ _ h => h) (Or.inl ⟨by rfl, ?_⟩) (by assumption) ?_
  rotate_left
  · intro w hSw
    (try dsimp only at hSw)
    go_simp
    all_goals with_reducible rfl
  try simp only [Act.put, List.getElem_toArray, List.getElem_cons_succ, List.getElem_cons_zero, List.setIfInBounds_toArray, List.set_cons_zero, List.set_cons_succ]
  refine wpAnyH_take (i := 9) (v := ?_) rfl (by kernel_rfl) (by kernel_rfl) (by kernel_rfl) (fun _ _ _ h => h) (Or.inl ⟨by rfl, ?_⟩) (by assumption) ?_
  rotate_left
  · intro w hSw
    (try dsimp only at hSw)
    go_simp
    all_goals with_reducible rfl
  try simp only [Act.put, List.getElem_toArray, List.getElem_cons_succ, List.getElem_cons_zero, List.setIfInBounds_toArray, List.set_cons_zero, List.set_cons_succ]
  refine wpAnyH_take (i := 12) (v := ?_) rfl (by kernel_rfl) (by kernel_rfl) (by kernel_rfl) (fun _ _ _ h => h) (Or.inl ⟨by rfl, ?_⟩) (by assumption) ?_
  rotate_left
  · intro w hSw
    (try dsimp only at hSw)
    go_simp
    all_goals with_reducible rfl
  try simp only [Act.put, List.getElem_toArray, List.getElem_cons_succ, List.getElem_cons_zero, List.setIfInBounds_toArray, List.set_cons_zero, List.set_cons_succ]
  refine wpAnyH_take (i := 13) (v := ?_) rfl (by kernel_rfl) (by kernel_rfl) (by kernel_rfl) (fun _ _ _ h => h) (Or.inl ⟨by rfl, ?_⟩) (by assumption) ?_
  rotate_left
  · intro w hSw
    (try dsimp only at hSw)
    go_simp
    all_goals with_reducible rfl
  try simp only [Act.put, List.getElem_toArray, List.getElem_cons_succ, List.getElem_cons_zero, List.setIfInBounds_toArray, List.set_cons_zero, List.set_cons_succ]
  refine wpAnyH_ready (rs := [10]) (by kernel_rfl) (by simp) ?_
  refine AllReadyH.cons rfl (fun K hK => ?_) AllReadyH.nil
  go_simp
  refine (HBY.out _ HK.out (by omega) (by omega)).mono ?_; rintro e w10 ⟨A20, c20, rfl, ho10, hb10⟩; have HBEL := Lib.hid (HBEL.out.trans (hb10.mono HBEL.out.size)); have HL := Lib.hid (HL.out.trans (hb10.mono HL.out.size)); have HK := Lib.hid (HK.out.below hb10); have HR := Lib.hid (HR.out.below hb10)
  go_wp2_with fail
  refine hK.out _ _ ?_ (fun hHeld => ?_)
  · (try dsimp only)
    exact HS.out _ HBEL.out
  clear hK K
  try simp only [Act.put, List.getElem_toArray, List.getElem_cons_succ, List.getElem_cons_zero, List.setIfInBounds_toArray, List.set_cons_zero, List.set_cons_succ]
  have HS := Lib.hid (show ∀ W, Below w10.heap.size w10 W → (fun W => (convert 22 9 (.slice A20 92 c20)).run Tryd.prog W = .ok (.string SW) W ∧ (convert 22 9 (.slice A14 60 c14)).run Tryd.prog W = .ok (.string SB) W ∧ (convert 22 9 (.slice A11 60 c11)).run Tryd.prog W = .ok (.string SB) W ∧ (sldN (.pointer (some ⟨w.heap.size, 0, none⟩))).run Tryd.prog W = .ok (.agg MC) W ∧ (sldN (.pointer (some ⟨mb, 0, none⟩))).run Tryd.prog W = .ok (.agg NC) W ∧ (sldN (.pointer (some ⟨vb, 0, none⟩))).run Tryd.prog W = .ok (.agg NC) W ∧ (convert 22 9 (.slice A7 T.length c7)).run Tryd.prog W = .ok (.string TS) W ∧ (convert 22 9 (.slice A9 T.length c9)).run Tryd.prog W = .ok (.string TS) W) W from fun W hb => ⟨HSW.out ▸ strAny W A20 92 c20 _ ((Reads.of_own ho10).below hb), HS.out W (HBEL.out.trans (hb.mono HBEL.out.size))⟩)
  have HBEL := Lib.hid (Below.refl w10.heap.size w10)
  clear ho10 hb10
  refine wpAnyH_more (S' := (fun W => (convert 22 9 (.slice A20 92 c20)).run Tryd.prog W = .ok (.string SW) W ∧ (convert 22 9 (.slice A14 60 c14)).run Tryd.prog W = .ok (.string SB) W ∧ (convert 22 9 (.slice A11 60 c11)).run Tryd.prog W = .ok (.string SB) W ∧ (sldN (.pointer (some ⟨w.heap.size, 0, none⟩))).run Tryd.prog W = .ok (.agg MC) W ∧ (sldN (.pointer (some ⟨mb, 0, none⟩))).run Tryd.prog W = .ok (.agg NC) W ∧ (sldN (.pointer (some ⟨vb, 0, none⟩))).run Tryd.prog W = .ok (.agg NC) W ∧ (convert 22 9 (.slice A7 T.length c7)).run Tryd.prog W = .ok (.string TS) W ∧ (convert 22 9 (.slice A9 T.length c9)).run Tryd.prog W = .ok (.string TS) W)) (fun _ hh => hh.2) _ _ _ _ ?_
  replace hHeld := HS.out _ HBEL.out
  refine wpAnyH_take (i := 11) (v := ?_) rfl (by kernel_rfl) (by kernel_rfl) (by kernel_rfl) (fun _ _ _ h => h) (Or.inl ⟨by rfl, ?_⟩) (by assumption) ?_
  rotate_left
  · intro w hSw
    (try dsimp only at hSw)
    go_simp
    all_goals with_reducible rfl
  try simp only [Act.put, List.getElem_toArray, List.getElem_cons_succ, List.getElem_cons_zero, List.setIfInBounds_toArray, List.set_cons_zero, List.set_cons_succ]
  refine wpAnyH_ready (rs := [14]) (by kernel_rfl) (by simp) ?_
  refine AllReadyH.cons rfl (fun K hK => ?_) AllReadyH.nil
  go_simp
  refine (HRBY.out _ HK.out (by omega) (by omega)).mono ?_; rintro e w14 ⟨A24, c24, rfl, ho14, hb14⟩; have HBEL := Lib.hid (HBEL.out.trans (hb14.mono HBEL.out.size)); have HL := Lib.hid (HL.out.trans (hb14.mono HL.out.size)); have HK := Lib.hid (HK.out.below hb14); have HR := Lib.hid (HR.out.below hb14)
  go_wp2_with fail
  refine hK.out _ _ ?_ (fun hHeld => ?_)
  · (try dsimp only)
    exact HS.out _ HBEL.out
  clear hK K
  try simp only [Act.put, List.getElem_toArray, List.getElem_cons_succ, List.getElem_cons_zero, List.setIfInBounds_toArray, List.set_cons_zero, List.set_cons_succ]
  have HS := Lib.hid (show ∀ W, Below w14.heap.size w14 W → (fun W => (convert 22 9 (.slice A24 92 c24)).run Tryd.prog W = .ok (.string SW) W ∧ (convert 22 9 (.slice A20 92 c20)).run Tryd.prog W = .ok (.string SW) W ∧ (convert 22 9 (.slice A14 60 c14)).run Tryd.prog W = .ok (.string SB) W ∧ (convert 22 9 (.slice A11 60 c11)).run Tryd.prog W = .ok (.string SB) W ∧ (sldN (.pointer (some ⟨w.heap.size, 0, none⟩))).run Tryd.prog W = .ok (.agg MC) W ∧ (sldN (.pointer (some ⟨mb, 0, none⟩))).run Tryd.prog W = .ok (.agg NC) W ∧ (sldN (.pointer (some ⟨vb, 0, none⟩))).run Tryd.prog W = .ok (.agg NC) W ∧ (convert 22 9 (.slice A7 T.length c7)).run Tryd.prog W = .ok (.string TS) W ∧ (convert 22 9 (.slice A9 T.length c9)).run Tryd.prog W = .ok (.string TS) W) W from fun W hb => ⟨HSW.out ▸ strAny W A24 92 c24 _ ((Reads.of_own ho14).below hb), HS.out W (HBEL.out.trans (hb.mono HBEL.out.size))⟩)
  have HBEL := Lib.hid (Below.refl w14.heap.size w14)
  clear ho14 hb14
  refine wpAnyH_more (S' := (fun W => (convert 22 9 (.slice A24 92 c24)).run Tryd.prog W = .ok (.string SW) W ∧ (convert 22 9 (.slice A20 92 c20)).run Tryd.prog W = .ok (.string SW) W ∧ (convert 22 9 (.slice A14 60 c14)).run Tryd.prog W = .ok (.string SB) W ∧ (convert 22 9 (.slice A11 60 c11)).run Tryd.prog W = .ok (.string SB) W ∧ (sldN (.pointer (some ⟨w.heap.size, 0, none⟩))).run Tryd.prog W = .ok (.agg MC) W ∧ (sldN (.pointer (some ⟨mb, 0, none⟩))).run Tryd.prog W = .ok (.agg NC) W ∧ (sldN (.pointer (some ⟨vb, 0, none⟩))).run Tryd.prog W = .ok (.agg NC) W ∧ (convert 22 9 (.slice A7 T.length c7)).run Tryd.prog W = .ok (.string TS) W ∧ (convert 22 9 (.slice A9 T.length c9)).run Tryd.prog W = .ok (.string TS) W)) (fun _ hh => hh.2) _ _ _ _ ?_
  replace hHeld := HS.out _ HBEL.out
  refine wpAnyH_take (i := 15) (v := ?_) rfl (by kernel_rfl) (by kernel_rfl) (by kernel_rfl) (fun _ _ _ h => h) (Or.inl ⟨by rfl, ?_⟩) (by assumption) ?_
  rotate_left
  · intro w hSw
    (try dsimp only at hSw)
    go_simp
    all_goals with_reducible rfl
  try simp only [Act.put, List.getElem_toArray, List.getElem_cons_succ, List.getElem_cons_zero, List.setIfInBounds_toArray, List.set_cons_zero, List.set_cons_succ]
  refine wpAnyH_take (i := 16) (v := ?_) rfl (by kernel_rfl) (by kernel_rfl) (by kernel_rfl) (fun _ _ _ h => h) (Or.inl ⟨by rfl, ?_⟩) (by assumption) ?_
  rotate_left
  · intro w hSw
    (try dsimp only at hSw)
    go_simp
    all_goals with_reducible rfl
  try simp only [Act.put, List.getElem_toArray, List.getElem_cons_succ, List.getElem_cons_zero, List.setIfInBounds_toArray, List.set_cons_zero, List.set_cons_succ]
  refine wpAnyH_take (i := 17) (v := ?_) rfl (by kernel_rfl) (by kernel_rfl) (by kernel_rfl) (fun _ _ _ h => h) (Or.inl ⟨by rfl, ?_⟩) (by assumption) ?_
  rotate_left
  · intro w hSw
    (try dsimp only at hSw)
    go_simp
    all_goals with_reducible rfl
  try simp only [Act.put, List.getElem_toArray, List.getElem_cons_succ, List.getElem_cons_zero, List.setIfInBounds_toArray, List.set_cons_zero, List.set_cons_succ]
  refine wpAnyH_take (i := 18) (v := ?_) rfl (by kernel_rfl) (by kernel_rfl) (by kernel_rfl) (fun _ _ _ h => h) (Or.inl ⟨by rfl, ?_⟩) (by assumption) ?_
  rotate_left
  · intro w hSw
    (try dsimp only at hSw)
    go_simp
    all_goals with_reducible rfl
  try simp only [Act.put, List.getElem_toArray, List.getElem_cons_succ, List.getElem_cons_zero, List.setIfInBounds_toArray, List.set_cons_zero, List.set_cons_succ]
  refine wpAnyH_take (i := 19) (v := ?_) rfl (by kernel_rfl) (by kernel_rfl) (by kernel_rfl) (fun _ _ _ h => h) (Or.inl ⟨by rfl, ?_⟩) (by assumption) ?_
  rotate_left
  · intro w hSw
    (try dsimp only at hSw)
    go_simp
    all_goals with_reducible rfl
  try simp only [Act.put, List.getElem_toArray, List.getElem_cons_succ, List.getElem_cons_zero, List.setIfInBounds_toArray, List.set_cons_zero, List.set_cons_succ]
  refine wpAnyH_take (i := 20) (v := ?_) rfl (by kernel_rfl) (by kernel_rfl) (by kernel_rfl) (fun _ _ _ h => h) (Or.inl ⟨by rfl, ?_⟩) (by assumption) ?_
  rotate_left
  · intro w hSw
    (try dsimp only at hSw)
    go_simp
    all_goals with_reducible rfl
  try simp only [Act.put, List.getElem_toArray, List.getElem_cons_succ, List.getElem_cons_zero, List.setIfInBounds_toArray, List.set_cons_zero, List.set_cons_succ]
  refine wpAnyH_take (i := 21) (v := ?_) rfl (by kernel_rfl) (by kernel_rfl) (by kernel_rfl) (fun _ _ _ h => h) (Or.inl ⟨by rfl, ?_⟩) (by assumption) ?_
  rotate_left
  · intro w hSw
    (try dsimp only at hSw)
    go_simp
    all_goals with_reducible rfl
  try simp only [Act.put, List.getElem_toArray, List.getElem_cons_succ, List.getElem_cons_zero, List.setIfInBounds_toArray, List.set_cons_zero, List.set_cons_succ]
  refine wpAnyH_take (i := 22) (v := ?_) rfl (by kernel_rfl) (by kernel_rfl) (by kernel_rfl) (fun _ _ _ h => h) (Or.inl ⟨by rfl, ?_⟩) (by assumption) ?_
  rotate_left
  · intro w hSw
    (try dsimp only at hSw)
    go_simp
    all_goals with_reducible rfl
  try simp only [Act.put, List.getElem_toArray, List.getElem_cons_succ, List.getElem_cons_zero, List.setIfInBounds_toArray, List.set_cons_zero, List.set_cons_succ]
  refine wpAnyH_take (i := 23) (v := ?_) rfl (by kernel_rfl) (by kernel_rfl) (by kernel_rfl) (fun _ _ _ h => h) (Or.inl ⟨by rfl, ?_⟩) (by assumption) ?_
  rotate_left
  · intro w hSw
    (try dsimp only at hSw)
    go_simp
    all_goals with_reducible rfl
  try simp only [Act.put, List.getElem_toArray, List.getElem_cons_succ, List.getElem_cons_zero, List.setIfInBounds_toArray, List.set_cons_zero, List.set_cons_succ]
  refine wpAnyH_take (i := 24) (v := ?_) rfl (by kernel_rfl) (by kernel_rfl) (by kernel_rfl) (fun _ _ _ h => h) (Or.inl ⟨by rfl, ?_⟩) (by assumption) ?_
  rotate_left
  · intro w hSw
    (try dsimp only at hSw)
    go_simp
    all_goals with_reducible rfl
  try simp only [Act.put, List.getElem_toArray, List.getElem_cons_succ, List.getElem_cons_zero, List.setIfInBounds_toArray, List.set_cons_zero, List.set_cons_succ]
  refine wpAnyH_take (i := 25) (v := ?_) rfl (by kernel_rfl) (by kernel_rfl) (by kernel_rfl) (fun _ _ _ h => h) (Or.inl ⟨by rfl, ?_⟩) (by assumption) ?_
  rotate_left
  · intro w hSw
    (try dsimp only at hSw)
    go_simp
    all_goals with_reducible rfl
  try simp only [Act.put, List.getElem_toArray, List.getElem_cons_succ, List.getElem_cons_zero, List.setIfInBounds_toArray, List.set_cons_zero, List.set_cons_succ]
  refine wpAnyH_take (i := 26) (v := ?_) rfl (by kernel_rfl) (by kernel_rfl) (by kernel_rfl) (fun _ _ _ h => h) (Or.inl ⟨by rfl, ?_⟩) (by assumption) ?_
  rotate_left
  · intro w hSw
    (try dsimp only at hSw)
    go_simp
    all_goals with_reducible rfl
  try simp only [Act.put, List.getElem_toArray, List.getElem_cons_succ, List.getElem_cons_zero, List.setIfInBounds_toArray, List.set_cons_zero, List.set_cons_succ]
  refine wpAnyH_take (i := 27) (v := ?_) rfl (by kernel_rfl) (by kernel_rfl) (by kernel_rfl) (fun _ _ _ h => h) (Or.inl ⟨by rfl, ?_⟩) (by assumption) ?_
  rotate_left
  · intro w hSw
    (try dsimp only at hSw)
    go_simp
    all_goals with_reducible rfl
  try simp only [Act.put, List.getElem_toArray, List.getElem_cons_succ, List.getElem_cons_zero, List.setIfInBounds_toArray, List.set_cons_zero, List.set_cons_succ]
  refine wpAnyH_take (i := 28) (v := ?_) rfl (by kernel_rfl) (by kernel_rfl) (by kernel_rfl) (fun _ _ _ h => h) (Or.inl ⟨by rfl, ?_⟩) (by assumption) ?_
  rotate_left
  · intro w hSw
    (try dsimp only at hSw)
    go_simp
    all_goals with_reducible rfl
  try simp only [Act.put, List.getElem_toArray, List.getElem_cons_succ, List.getElem_cons_zero, List.setIfInBounds_toArray, List.set_cons_zero, List.set_cons_succ]
  refine wpAnyH_take (i := 29) (v := ?_) rfl (by kernel_rfl) (by kernel_rfl) (by kernel_rfl) (fun _ _ _ h => h) (Or.inl ⟨by rfl, ?_⟩) (by assumption) ?_
  rotate_left
  · intro w hSw
    (try dsimp only at hSw)
    go_simp
    all_goals with_reducible rfl
  try simp only [Act.put, List.getElem_toArray, List.getElem_cons_succ, List.getElem_cons_zero, List.setIfInBounds_toArray, List.set_cons_zero, List.set_cons_succ]
  refine wpAnyH_take (i := 30) (v := ?_) rfl (by kernel_rfl) (by kernel_rfl) (by kernel_rfl) (fun _ _ _ h => h) (Or.inl ⟨by rfl, ?_⟩) (by assumption) ?_
  rotate_left
  · intro w hSw
    (try dsimp only at hSw)
    go_simp
    all_goals with_reducible rfl
  try simp only [Act.put, List.getElem_toArray, List.getElem_cons_succ, List.getElem_cons_zero, List.setIfInBounds_toArray, List.set_cons_zero, List.set_cons_succ]
  refine wpAnyH_take (i := 31) (v := ?_) rfl (by kernel_rfl) (by kernel_rfl) (by kernel_rfl) (fun _ _ _ h => h) (Or.inl ⟨by rfl, ?_⟩) (by assumption) ?_
  rotate_left
  · intro w hSw
    (try dsimp only at hSw)
    go_simp
    all_goals with_reducible rfl
  try simp only [Act.put, List.getElem_toArray, List.getElem_cons_succ, List.getElem_cons_zero, List.setIfInBounds_toArray, List.set_cons_zero, List.set_cons_succ]
  refine wpAnyH_take (i := 33) (v := ?_) rfl (by kernel_rfl) (by kernel_rfl) (by kernel_rfl) (fun _ _ _ h => h) (Or.inl ⟨by rfl, ?_⟩) (by assumption) ?_
  rotate_left
  · intro w hSw
    (try dsimp only at hSw)
    go_simp
    all_goals with_reducible rfl
  try simp only [Act.put, List.getElem_toArray, List.getElem_cons_succ, List.getElem_cons_zero, List.setIfInBounds_toArray, List.set_cons_zero, List.set_cons_succ]
  refine wpAnyH_ready (rs := [32]) (by kernel_rfl) (by simp) ?_
  refine AllReadyH.cons rfl (fun K hK => ?_) AllReadyH.nil
  go_simp
  refine (num12_c _ _).mono ?_; rintro e wx ⟨rfl, rfl⟩
  go_wp2_with fail
  refine hK.out _ _ ?_ (fun hHeld => ?_)
  · (try dsimp only)
    exact HS.out _ HBEL.out
  clear hK K
  try simp only [Act.put, List.getElem_toArray, List.getElem_cons_succ, List.getElem_cons_zero, List.setIfInBounds_toArray, List.set_cons_zero, List.set_cons_succ]
  refine wpAnyH_take (i := 34) (v := ?_) rfl (by kernel_rfl) (by kernel_rfl) (by kernel_rfl) (fun _ _ _ h => h) (Or.inl ⟨by rfl, ?_⟩) (by assumption) ?_
  rotate_left
  · intro w hSw
    (try dsimp only at hSw)
    go_simp
    all_goals with_reducible rfl
  try simp only [Act.put, List.getElem_toArray, List.getElem_cons_succ, List.getElem_cons_zero, List.setIfInBounds_toArray, List.set_cons_zero, List.set_cons_succ]
  refine wpAnyH_take (i := 35) (v := ?_) rfl (by kernel_rfl) (by kernel_rfl) (by kernel_rfl) (fun _ _ _ h => h) (Or.inl ⟨by rfl, ?_⟩) (by assumption) ?_
  rotate_left
  · intro w hSw
    (try dsimp only at hSw)
    go_simp
    all_goals with_reducible rfl
  try simp only [Act.put, List.getElem_toArray, List.getElem_cons_succ, List.getElem_cons_zero, List.setIfInBounds_toArray, List.set_cons_zero, List.set_cons_succ]
  refine wpAnyH_take (i := 36) (v := ?_) rfl (by kernel_rfl) (by kernel_rfl) (by kernel_rfl) (fun _ _ _ h => h) (Or.inl ⟨by rfl, ?_⟩) (by assumption) ?_
  rotate_left
  · intro w hSw
    (try dsimp only at hSw)
    go_simp
    all_goals with_reducible rfl
  try simp only [Act.put, List.getElem_toArray, List.getElem_cons_succ, List.getElem_cons_zero, List.setIfInBounds_toArray, List.set_cons_zero, List.set_cons_succ]
  refine wpAnyH_take (i := 37) (v := ?_) rfl (by kernel_rfl) (by kernel_rfl) (by kernel_rfl) (fun _ _ _ h => h) (Or.inl ⟨by rfl, ?_⟩) (by assumption) ?_
  rotate_left
  · intro w hSw
    (try dsimp only at hSw)
    go_simp
    all_goals with_reducible rfl
  try simp only [Act.put, List.getElem_toArray, List.getElem_cons_succ, List.getElem_cons_zero, List.setIfInBounds_toArray, List.set_cons_zero, List.set_cons_succ]
  refine wpAnyH_take (i := 38) (v := ?_) rfl (by kernel_rfl) (by kernel_rfl) (by kernel_rfl) (fun _ _ _ h => h) (Or.inl ⟨by rfl, ?_⟩) (by assumption) ?_
  rotate_left
  · intro w hSw
    (try dsimp only at hSw)
    go_simp
    all_goals with_reducible rfl
  try simp only [Act.put, List.getElem_toArray, List.getElem_cons_succ, List.getElem_cons_zero, List.setIfInBounds_toArray, List.set_cons_zero, List.set_cons_succ]
  refine wpAnyH_take (i := 40) (v := ?_) rfl (by kernel_rfl) (by kernel_rfl) (by kernel_rfl) (fun _ _ _ h => h) (Or.inl ⟨by rfl, ?_⟩) (by assumption) ?_
  rotate_left
  · intro w hSw
    (try dsimp only at hSw)
    go_simp
    all_goals with_reducible rfl
  try simp only [Act.put, List.getElem_toArray, List.getElem_cons_succ, List.getElem_cons_zero, List.setIfInBounds_toArray, List.set_cons_zero, List.set_cons_succ]
  refine wpAnyH_take (i := 41) (v := ?_) rfl (by kernel_rfl) (by kernel_rfl) (by kernel_rfl) (fun _ _ _ h => h) (Or.inl ⟨by rfl, ?_⟩) (by assumption) ?_
  rotate_left
  · intro w hSw
    (try dsimp only at hSw)
    go_simp
    all_goals with_reducible rfl
  try simp only [Act.put, List.getElem_toArray, List.getElem_cons_succ, List.getElem_cons_zero, List.setIfInBounds_toArray, List.set_cons_zero, List.set_cons_succ]
  refine wpAnyH_ready (rs := [39]) (by kernel_rfl) (by simp) ?_
  refine AllReadyH.cons rfl (fun K hK => ?_) AllReadyH.nil
  go_simp
  refine (HSIG.out _ HK.out HR.out).mono ?_; rintro e w39 ⟨rfl, hb39⟩; have HBEL := Lib.hid (HBEL.out.trans (hb39.mono HBEL.out.size)); have HL := Lib.hid (HL.out.trans (hb39.mono HL.out.size)); have HK := Lib.hid (HK.out.below hb39); have HR := Lib.hid (HR.out.below hb39)
  go_wp2_with fail
  refine hK.out _ _ ?_ (fun hHeld => ?_)
  · (try dsimp only)
    exact HS.out _ HBEL.out
  clear hK K
  try simp only [Act.put, List.getElem_toArray, List.getElem_cons_succ, List.getElem_cons_zero, List.setIfInBounds_toArray, List.set_cons_zero, List.set_cons_succ]
  refine wpAnyH_ready (rs := [42]) (by kernel_rfl) (by simp) ?_
  refine AllReadyH.cons rfl (fun K hK => ?_) AllReadyH.nil
  go_simp
  refine (HRSIG.out _ HK.out HR.out).mono ?_; rintro e w42 ⟨rfl, hb42⟩; have HBEL := Lib.hid (HBEL.out.trans (hb42.mono HBEL.out.size)); have HL := Lib.hid (HL.out.trans (hb42.mono HL.out.size)); have HK := Lib.hid (HK.out.below hb42); have HR := Lib.hid (HR.out.below hb42)
  go_wp2_with fail
  refine hK.out _ _ ?_ (fun hHeld => ?_)
  · (try dsimp only)
    exact HS.out _ HBEL.out
  clear hK K
  try simp only [Act.put, List.getElem_toArray, List.getElem_cons_succ, List.getElem_cons_zero, List.setIfInBounds_toArray, List.set_cons_zero, List.set_cons_succ]
  refine wpAnyH_take (i := 43) (v := ?_) rfl (by kernel_rfl) (by kernel_rfl) (by kernel_rfl) (fun _ _ _ h => h) (Or.inl ⟨by rfl, ?_⟩) (by assumption) ?_
  rotate_left
  · intro w hSw
    (try dsimp only at hSw)
    go_simp
    all_goals with_reducible rfl
  try simp only [Act.put, List.getElem_toArray, List.getElem_cons_succ, List.getElem_cons_zero, List.setIfInBounds_toArray, List.set_cons_zero, List.set_cons_succ]
  refine wpAnyH_take (i := 44) (v := ?_) rfl (by kernel_rfl) (by kernel_rfl) (by kernel_rfl) (fun _ _ _ h => h) (Or.inl ⟨by rfl, ?_⟩) (by assumption) ?_
  rotate_left
  · intro w hSw
    (try dsimp only at hSw)
    go_simp
    all_goals with_reducible rfl
  try simp only [Act.put, List.getElem_toArray, List.getElem_cons_succ, List.getElem_cons_zero, List.setIfInBounds_toArray, List.set_cons_zero, List.set_cons_succ]
  refine wpAnyH_take (i := 45) (v := ?_) rfl (by kernel_rfl) (by kernel_rfl) (by kernel_rfl) (fun _ _ _ h => h) (Or.inl ⟨by rfl, ?_⟩) (by assumption) ?_
  rotate_left
  · intro w hSw
    (try dsimp only at hSw)
    go_simp
    all_goals with_reducible rfl
  try simp only [Act.put, List.getElem_toArray, List.getElem_cons_succ, List.getElem_cons_zero, List.setIfInBounds_toArray, List.set_cons_zero, List.set_cons_succ]
  refine wpAnyH_done (by kernel_rfl) ?_ _
  try simp only [Act.put, List.getElem_toArray, List.getElem_cons_succ, List.getElem_cons_zero, List.setIfInBounds_toArray, List.set_cons_zero, List.set_cons_succ]
  go_wp2_with fail
  go_ret
  exact ⟨rfl, HL.out⟩
end Go.Proofs.YtocbahahienigaaDoor
