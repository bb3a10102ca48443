/- waterlinelaw12.ManifestBack: a manifest that may be is read as it was written, and is signed by its key. -/
import Derived.Test.YtocbahahienigaaDoorMn7
import Derived.Test.YtocbahahienigaaDoorRmn1
import Derived.Test.YtocbahahienigaaDoorHm8
import Derived.Deep.RegionHeld3
import Derived.Deep.DrawnRows
namespace Go.Proofs.YtocbahahienigaaDoor
open Go Go.RowKit
set_option linter.unusedVariables false
set_option linter.unusedSimpArgs false
attribute [local go_sem ↓] sbN_seal sldN_seal sstN_seal sbsN_seal sstDg_seal
theorem storeN_ (w : World) (cs : List Value) (hl : cs.length = 35) (h1 : ∀ u ∈ cs, u.oneCell' = true) : (sstN (.pointer (some ⟨w.heap.size, 0, none⟩)) (.agg cs.toArray)).run Tryd.prog (w.alloc (.cells litN 27)) = .ok () ((w.alloc (.cells litN 27)).setRow w.heap.size cs.toArray) := by
  have hN := Blk.new w 27 zeroN.toArray
  have hst := run_sstN cs hN (by rw [List.size_toArray]; rfl) hl h1
  rw [← zeroN_eq] at hst
  exact hst
theorem below_store (w : World) (o : Obj) (cs : Array Value) : Below w.heap.size w ((w.alloc o).setRow w.heap.size cs) := below_setRow_m ((Below.refl _ _).alloc (Nat.le_refl _) _) (Nat.le_refl _) _
/-- What manifest.Read answers of a manifest that may be. -/
theorem mread_back (w : World) (A : Option Addr) (c : Nat) (nm : ByteArray) (i : Img) (hx : Lim1 (nm, i) true) (key : List UInt8) (hr : Reads w A 92 ((bytesB key nm i).map u8v)) :
    Calls Tryd.prog 8 #[.slice A 92 c] w fun e w' => ∃ A' c', e = .returned (.tuple #[.agg (manC nm i).toArray, .slice A' 32 c', .int .i64 0]) ∧ Reads w' A' 32 ((tagL key (bodyB nm i)).map u8v) ∧ Below w.heap.size w w' := by
  have hl := bytesB_len key nm i
  refine (mread_full w A c _ hr hl).mono ?_
  rintro e w' ⟨hret, hb⟩
  obtain ⟨h1, h2, h3⟩ := mOk_app (bodyB nm i) (tagL key (bodyB nm i)) (bodyB_len _ _)
  obtain ⟨e1, e2⟩ := hx.back rfl
  unfold ManRet bytesB at hret
  rw [h1, h2, h3, hx.ok, e1, e2] at hret
  rcases hret with ⟨hh, _⟩ | ⟨_, _, A', c', he, hrd⟩
  · rcases hh with hh | hh
    · exact absurd hl hh
    · cases hh
  · refine ⟨A', c', he, ?_, hb⟩
    rw [List.drop_left' (bodyB_len _ _), List.take_of_length_le (by rw [tagL_len]; exact Nat.le_refl _)] at hrd
    exact hrd
theorem signed_back (key : List UInt8) (nm : ByteArray) (i : Img) (hx : Lim1 (nm, i) true) : signedB key (bytesB key nm i) = true := by
  obtain ⟨h1, h2, h3⟩ := mOk_app (bodyB nm i) (tagL key (bodyB nm i)) (bodyB_len _ _)
  have hl := bytesB_len key nm i
  unfold bytesB at hl
  unfold signedB bytesB
  rw [h1, hl, hx.ok, List.drop_left' (bodyB_len _ _), List.take_left' (bodyB_len _ _), List.take_of_length_le (by rw [tagL_len]; exact Nat.le_refl _)]
  simp
set_option maxRecDepth 100000 in
set_option maxHeartbeats 2000000 in
theorem manifestBack_c (w : World) (KA : Option Addr) (kn kc : Nat) (key : List UInt8) (hk : Reads w KA kn (key.map u8v)) (nm : ByteArray) (hnm : nm.size ≤ maxLen) (i : Img) (hi : i.d.length = 32) :
    Calls Tryd.prog 4 #[.slice KA kn kc, .agg (manC nm i).toArray] w fun e w' => e = .returned (.bool true) ∧ Below w.heap.size w w' := by
  have hB0 := Blk.new w 27 (manC nm i).toArray
  have hb0 : Below w.heap.size w (w.alloc (.cells (manC nm i).toArray 27)) := (Below.refl _ _).alloc (Nat.le_refl _) _
  have hld := fun (W : World) (h : Blk W w.heap.size 27 (manC nm i).toArray) => run_sldN (manC_len hi nm) h.whole
  have hc0 := fun (W : World) (h : Blk W w.heap.size 27 (manC nm i).toArray) => (show W.cell? ⟨w.heap.size, 0, none⟩ = some (.string nm) ∧ W.cell? ⟨w.heap.size, 1, none⟩ = some (.int .i64 i.v) ∧ W.cell? ⟨w.heap.size, 2, none⟩ = some (.int .i64 i.s) from ⟨h.cell 0, h.cell 1, h.cell 2⟩)
  have hby := fun (W : World) (h : Reads W KA kn (key.map u8v)) (hkn : kn ≤ 200) (hn : nm.size ≤ 16) => mbytes_c W KA kn kc key h (by omega) nm i hi (by omega)
  have hbo := fun (W : World) (hn : nm.size ≤ 16) => body_c W nm i hi (by omega)
  have hst := fun W => storeN_ W (manC nm i) (manC_len hi _) (manC_one _ _)
  have hnew := fun (W : World) => (Blk.new W 27 litN).setRow_m (manC nm i).toArray
  have hld2 := fun (W : World) (g : Nat) (h : Blk W g 27 (manC nm i).toArray) => run_sldN (manC_len hi nm) h.whole
  have heq := eqlN nm i hi
  have hrd := fun W A c (h : Lim1 (nm, i) true) => mread_back W A c nm i h key
  obtain ⟨MC, hMC⟩ : ∃ MC, (manC nm i).toArray = MC := ⟨_, rfl⟩
  simp only [hMC] at hB0 hb0 hld hc0 hby hbo hst hnew hld2 heq hrd ⊢
  have HK := Lib.hid (hk.below hb0)
  have HLD := Lib.hid hld
  have HC0 := Lib.hid hc0
  have HBY := Lib.hid hby
  have HBO := Lib.hid hbo
  have HST := Lib.hid hst
  have HNEW := Lib.hid hnew
  have HLD2 := Lib.hid hld2
  have HRD := Lib.hid hrd
  have HB := Lib.hid hB0
  have HL := Lib.hid hb0
  have HEQ := Lib.hid heq
  have hval := fun W => rvalid_c nm (by unfold maxLen at hnm; omega) W
  obtain ⟨VB, hVB⟩ : ∃ VB, validN nm = VB := ⟨_, rfl⟩
  simp only [hVB] at hval
  have HVAL := Lib.hid hval
  have HVB := Lib.hid hVB
  have HI := Lib.hid hi
  clear hk hB0 hb0 hld hc0 hby hbo hst hnew hld2 heq hrd hMC hVB hval hi
  go_enter Tryd.func4, Tryd.ntmps4
  go_wp2_with fail
  generalize w.alloc (.cells MC 27) = W1 at HK HB HL ⊢
  refine (alive12_c W1).mono ?_
  rintro e w2 ⟨rfl, hb2⟩
  have HK := Lib.hid (HK.out.below hb2)
  have HB := Lib.hid (HB.out.below hb2 HB.out.lt)
  have HL := Lib.hid (HL.out.trans (hb2.mono HL.out.size))
  clear hb2
  obtain ⟨hs0, hs1, hs2⟩ := HC0.out _ HB.out
  by_cases h1 : (200 : Int) < (kn : Int)
  · go_wp2_with fail
    go_ret
    exact ⟨rfl, HL.out⟩
  cases VB with
  | false =>
    go_wp2_with fail
    refine (HVAL.out _).mono ?_
    rintro e w3 ⟨rfl, hb3⟩
    have HL3 := Lib.hid (HL.out.trans (hb3.mono HL.out.size))
    clear hb3
    go_wp2_with fail
    go_ret
    exact ⟨rfl, HL3.out⟩
  | true =>
    go_upto_region 2 with fail
    go_wp2_with fail
    refine (HVAL.out _).mono ?_
    rintro e w3 ⟨rfl, hb3⟩
    have HK := Lib.hid (HK.out.below hb3)
    have HB := Lib.hid (HB.out.below hb3 HB.out.lt)
    have HL := Lib.hid (HL.out.trans (hb3.mono HL.out.size))
    clear hb3 hs0 hs1 hs2
    obtain ⟨hs0, hs1, hs2⟩ := HC0.out _ HB.out
    by_cases v1 : i.v < 1
    · go_wp2_with fail
      go_ret
      exact ⟨rfl, HL.out⟩
    by_cases v2 : 1073741824 < i.v
    · go_wp2_with fail
      go_ret
      exact ⟨rfl, HL.out⟩
    by_cases v3 : i.s < 1
    · go_wp2_with fail
      go_ret
      exact ⟨rfl, HL.out⟩
    by_cases v4 : 1073741824 < i.s
    · go_wp2_with fail
      go_ret
      exact ⟨rfl, HL.out⟩
    have hx := body_back nm i HI.out HVB.out ⟨by omega, by omega⟩ ⟨by omega, by omega⟩
    have HN16 := Lib.hid (validN_len nm HVB.out).1
    have hld := HLD.out _ HB.out
    have HX := Lib.hid hx
    clear hx
    go_wp2_with fail
    refine (HBY.out _ HK.out (by omega) HN16.out).mono ?_
    rintro e w4 ⟨A, c, rfl, ho4, hb4⟩
    have hcap := own_cap ho4
    have HR := Lib.hid (Reads.of_own ho4)
    have HK := Lib.hid (HK.out.below hb4)
    have HB := Lib.hid (HB.out.below hb4 HB.out.lt)
    have HL := Lib.hid (HL.out.trans (hb4.mono HL.out.size))
    clear ho4 hb4 hld hs0 hs1 hs2
    go_wp2_with fail
    refine (HRD.out _ A c HX.out HR.out).mono ?_
    rintro e w5 ⟨A5, c5, rfl, hr5, hb5⟩
    have hst := HST.out w5
    have hb6 := below_store w5 (.cells litN 27) MC
    have HK := Lib.hid ((HK.out.below hb5).below hb6)
    have HR := Lib.hid ((HR.out.below hb5).below hb6)
    have HB := Lib.hid ((HB.out.below hb5 HB.out.lt).below hb6 (HB.out.below hb5 HB.out.lt).lt)
    have HL := Lib.hid ((HL.out.trans (hb5.mono HL.out.size)).trans (hb6.mono (Nat.le_trans HL.out.size hb5.size)))
    have HT := Lib.hid (hr5.below hb6)
    have HM := Lib.hid (HNEW.out w5)
    clear hb5 hb6 hr5
    go_upto_region 6 with fail
    obtain ⟨mb, hmb⟩ : ∃ mb, w5.heap.size = mb := ⟨_, rfl⟩
    generalize (w5.alloc (.cells litN 27)).setRow w5.heap.size MC = W6 at HK HR HB HL HT HM ⊢
    rw [hmb] at HM ⊢
    clear hst hmb
    have hld := HLD.out _ HB.out
    go_wp2_with fail
    refine (HBO.out _ HN16.out).mono ?_
    rintro e w7 ⟨A7, c7, rfl, ho7, hb7⟩
    have HR7 := Lib.hid (Reads.of_own ho7)
    have HK := Lib.hid (HK.out.below hb7)
    have HR := Lib.hid (HR.out.below hb7)
    have HB := Lib.hid (HB.out.below hb7 HB.out.lt)
    have HM := Lib.hid (HM.out.below hb7 HM.out.lt)
    have HT := Lib.hid (HT.out.below hb7)
    have HL := Lib.hid (HL.out.trans (hb7.mono HL.out.size))
    clear ho7 hb7 hld
    go_wp2_with fail
    refine (rtag_c _ KA A7 kn kc 60 c7 key (bodyB nm i) HK.out HR7.out (by omega) (by omega)).mono ?_
    rintro e w8 ⟨rfl, hb8⟩
    obtain ⟨TG, hTG⟩ : ∃ TG, tagL key (bodyB nm i) = TG := ⟨_, rfl⟩
    have hTGl : TG.length = 32 := hTG ▸ tagL_len _ _
    have hT8 := HT.out.below hb8
    rw [hTG] at hT8 ⊢
    have hN := Blk.new w8 23 z32
    have hst := run_sstDg TG hTGl hN rfl
    have hb9 := below_store w8 (.cells z32 23) (TG.map u8v).toArray
    have hDG := hN.setRow_m (TG.map u8v).toArray
    have HK := Lib.hid ((HK.out.below hb8).below hb9)
    have HR := Lib.hid ((HR.out.below hb8).below hb9)
    have HB := Lib.hid ((HB.out.below hb8 HB.out.lt).below hb9 (HB.out.below hb8 HB.out.lt).lt)
    have HM := Lib.hid ((HM.out.below hb8 HM.out.lt).below hb9 (HM.out.below hb8 HM.out.lt).lt)
    have HT := Lib.hid (hT8.below hb9)
    have HDG := Lib.hid hDG
    have HL := Lib.hid ((HL.out.trans (hb8.mono HL.out.size)).trans (hb9.mono (Nat.le_trans HL.out.size hb8.size)))
    have HTGL := Lib.hid hTGl
    clear hb8 hb9 hT8 hN hDG HR7 hTGl hTG
    go_upto_region 7 with fail
    obtain ⟨db, hdb⟩ : ∃ db, w8.heap.size = db := ⟨_, rfl⟩
    generalize (w8.alloc (.cells z32 23)).setRow w8.heap.size (TG.map u8v).toArray = W9 at HK HR HB HM HT HDG HL ⊢
    rw [hdb] at HDG ⊢
    clear hst hdb
    obtain ⟨TS, hTS⟩ : ∃ TS, (⟨TG.toArray⟩ : ByteArray) = TS := ⟨_, rfl⟩
    have hS : ∀ W, Below W9.heap.size W9 W → (fun W => (sldN (.pointer (some ⟨mb, 0, none⟩))).run Tryd.prog W = .ok (.agg MC) W ∧ (sldN (.pointer (some ⟨w.heap.size, 0, none⟩))).run Tryd.prog W = .ok (.agg MC) W ∧ (convert 22 9 (.slice A5 32 c5)).run Tryd.prog W = .ok (.string TS) W ∧ (convert 22 9 (.slice (some ⟨db, 0, none⟩) 32 32)).run Tryd.prog W = .ok (.string TS) W) W := fun W hb => by
      have hDR : Reads W (some ⟨db, 0, none⟩) 32 (TG.map u8v) := by
        have q := (HDG.out.below hb HDG.out.lt).reads (n := 32) 0 (by simp [HTGL.out])
        rw [List.drop_zero, List.take_of_length_le (by simp [HTGL.out])] at q
        exact q
      exact ⟨HLD2.out _ _ (HM.out.below hb HM.out.lt), HLD.out _ (HB.out.below hb HB.out.lt), hTS ▸ strAny W A5 32 c5 TG (HT.out.below hb), hTS ▸ strAny W _ 32 32 TG hDR⟩
    have HS := Lib.hid hS
    have hHeld := hS _ (Below.refl _ _).drew
    have hsg := signed_back key nm i HX.out
    have hsig := fun (W : World) (h1 : Reads W KA kn (key.map u8v)) (h2 : Reads W A 92 ((bytesB key nm i).map u8v)) => msigned_c W KA kn kc key h1 (by omega) A 92 c _ h2 (by omega) hcap
    rw [hsg] at hsig
    have HSIG := Lib.hid hsig
    have heq := HEQ.out
    have HBEL := Lib.hid ((Below.refl W9.heap.size W9).drew)
    clear hS hTS hsg hsig HBY HBO HST HNEW HVAL HX
    refine wp_region_held_drew (S := (fun W => (sldN (.pointer (some ⟨mb, 0, none⟩))).run Tryd.prog W = .ok (.agg MC) W ∧ (sldN (.pointer (some ⟨w.heap.size, 0, none⟩))).run Tryd.prog W = .ok (.agg MC) W ∧ (convert 22 9 (.slice A5 32 c5)).run Tryd.prog W = .ok (.string TS) W ∧ (convert 22 9 (.slice (some ⟨db, 0, none⟩) 32 32)).run Tryd.prog W = .ok (.string TS) W)) (by kernel_rfl) ?_ (fun hHeld => ?_)
    · exact hHeld
    refine wpAnyH_take (i := 0) (v := ?_) rfl (by kernel_rfl) (by kernel_rfl) (by kernel_rfl) (fun _ _ _ h => h) (Or.inl ⟨by rfl, ?_⟩) (by assumption) ?_
    rotate_left
    · intro w hSw
      (try dsimp only at hSw)
      go_simp
      all_goals with_reducible rfl
    try simp only [Act.put, List.getElem_toArray, List.getElem_cons_succ, List.getElem_cons_zero, List.setIfInBounds_toArray, List.set_cons_zero, List.set_cons_succ]
    refine wpAnyH_ready (rs := [1]) (by kernel_rfl) (by simp) ?_
    refine AllReadyH.cons rfl (fun K hK => ?_) AllReadyH.nil
    go_simp
    refine (num12_c _ _).mono ?_; rintro e wx ⟨rfl, rfl⟩
    go_wp2_with fail
    refine hK.out _ _ ?_ (fun hHeld => ?_)
    · (try dsimp only)
      exact HS.out _ HBEL.out
    clear hK K
    try simp only [Act.put, List.getElem_toArray, List.getElem_cons_succ, List.getElem_cons_zero, List.setIfInBounds_toArray, List.set_cons_zero, List.set_cons_succ]
    refine wpAnyH_take (i := 2) (v := ?_) rfl (by kernel_rfl) (by kernel_rfl) (by kernel_rfl) (fun _ _ _ h => h) (Or.inl ⟨by rfl, ?_⟩) (by assumption) ?_
    rotate_left
    · intro w hSw
      (try dsimp only at hSw)
      go_simp
      all_goals with_reducible rfl
    try simp only [Act.put, List.getElem_toArray, List.getElem_cons_succ, List.getElem_cons_zero, List.setIfInBounds_toArray, List.set_cons_zero, List.set_cons_succ]
    refine wpAnyH_take (i := 3) (v := ?_) rfl (by kernel_rfl) (by kernel_rfl) (by kernel_rfl) (fun _ _ _ h => h) (Or.inl ⟨by rfl, ?_⟩) (by assumption) ?_
    rotate_left
    · intro w hSw
      (try dsimp only at hSw)
      go_simp
      all_goals with_reducible rfl
    try simp only [Act.put, List.getElem_toArray, List.getElem_cons_succ, List.getElem_cons_zero, List.setIfInBounds_toArray, List.set_cons_zero, List.set_cons_succ]
    refine wpAnyH_take (i := 4) (v := ?_) rfl (by kernel_rfl) (by kernel_rfl) (by kernel_rfl) (fun _ _ _ h => h) (Or.inl ⟨by rfl, ?_⟩) (by assumption) ?_
    rotate_left
    · intro w hSw
      (try dsimp only at hSw)
      go_simp
      all_goals with_reducible rfl
    try simp only [Act.put, List.getElem_toArray, List.getElem_cons_succ, List.getElem_cons_zero, List.setIfInBounds_toArray, List.set_cons_zero, List.set_cons_succ]
    refine wpAnyH_take (i := 5) (v := ?_) rfl (by kernel_rfl) (by kernel_rfl) (by kernel_rfl) (fun _ _ _ h => h) (Or.inl ⟨by rfl, ?_⟩) (by assumption) ?_
    rotate_left
    · intro w hSw
      (try dsimp only at hSw)
      go_simp
      all_goals with_reducible rfl
    try simp only [Act.put, List.getElem_toArray, List.getElem_cons_succ, List.getElem_cons_zero, List.setIfInBounds_toArray, List.set_cons_zero, List.set_cons_succ]
    refine wpAnyH_take (i := 6) (v := ?_) rfl (by kernel_rfl) (by kernel_rfl) (by kernel_rfl) (fun _ _ _ h => h) (Or.inl ⟨by rfl, ?_⟩) (by assumption) ?_
    rotate_left
    · intro w hSw
      (try dsimp only at hSw)
      go_simp
      all_goals with_reducible rfl
    try simp only [Act.put, List.getElem_toArray, List.getElem_cons_succ, List.getElem_cons_zero, List.setIfInBounds_toArray, List.set_cons_zero, List.set_cons_succ]
    refine wpAnyH_take (i := 7) (v := ?_) rfl (by kernel_rfl) (by kernel_rfl) (by kernel_rfl) (fun _ _ _ h => h) (Or.inl ⟨by rfl, ?_⟩) (by assumption) ?_
    rotate_left
    · intro w hSw
      (try dsimp only at hSw)
      go_simp
      all_goals with_reducible rfl
    try simp only [Act.put, List.getElem_toArray, List.getElem_cons_succ, List.getElem_cons_zero, List.setIfInBounds_toArray, List.set_cons_zero, List.set_cons_succ]
    refine wpAnyH_take (i := 8) (v := ?_) rfl (by kernel_rfl) (by kernel_rfl) (by kernel_rfl) (fun _ _ _ h => h) (Or.inl ⟨by rfl, ?_⟩) (by assumption) ?_
    rotate_left
    · intro w hSw
      (try dsimp only at hSw)
      go_simp
      all_goals with_reducible rfl
    try simp only [Act.put, List.getElem_toArray, List.getElem_cons_succ, List.getElem_cons_zero, List.setIfInBounds_toArray, List.set_cons_zero, List.set_cons_succ]
    refine wpAnyH_take (i := 9) (v := ?_) rfl (by kernel_rfl) (by kernel_rfl) (by kernel_rfl) (fun _ _ _ h => h) (Or.inl ⟨by rfl, ?_⟩) (by assumption) ?_
    rotate_left
    · intro w hSw
      (try dsimp only at hSw)
      go_simp
      all_goals with_reducible rfl
    try simp only [Act.put, List.getElem_toArray, List.getElem_cons_succ, List.getElem_cons_zero, List.setIfInBounds_toArray, List.set_cons_zero, List.set_cons_succ]
    refine wpAnyH_take (i := 10) (v := ?_) rfl (by kernel_rfl) (by kernel_rfl) (by kernel_rfl) (fun _ _ _ h => h) (Or.inl ⟨by rfl, ?_⟩) (by assumption) ?_
    rotate_left
    · intro w hSw
      (try dsimp only at hSw)
      go_simp
      all_goals with_reducible rfl
    try simp only [Act.put, List.getElem_toArray, List.getElem_cons_succ, List.getElem_cons_zero, List.setIfInBounds_toArray, List.set_cons_zero, List.set_cons_succ]
    refine wpAnyH_take (i := 11) (v := ?_) rfl (by kernel_rfl) (by kernel_rfl) (by kernel_rfl) (fun _ _ _ h => h) (Or.inl ⟨by rfl, ?_⟩) (by assumption) ?_
    rotate_left
    · intro w hSw
      (try dsimp only at hSw)
      go_simp
      all_goals with_reducible rfl
    try simp only [Act.put, List.getElem_toArray, List.getElem_cons_succ, List.getElem_cons_zero, List.setIfInBounds_toArray, List.set_cons_zero, List.set_cons_succ]
    refine wpAnyH_take (i := 12) (v := ?_) rfl (by kernel_rfl) (by kernel_rfl) (by kernel_rfl) (fun _ _ _ h => h) (Or.inl ⟨by rfl, ?_⟩) (by assumption) ?_
    rotate_left
    · intro w hSw
      (try dsimp only at hSw)
      go_simp
      all_goals with_reducible rfl
    try simp only [Act.put, List.getElem_toArray, List.getElem_cons_succ, List.getElem_cons_zero, List.setIfInBounds_toArray, List.set_cons_zero, List.set_cons_succ]
    refine wpAnyH_take (i := 13) (v := ?_) rfl (by kernel_rfl) (by kernel_rfl) (by kernel_rfl) (fun _ _ _ h => h) (Or.inl ⟨by rfl, ?_⟩) (by assumption) ?_
    rotate_left
    · intro w hSw
      (try dsimp only at hSw)
      go_simp
      all_goals with_reducible rfl
    try simp only [Act.put, List.getElem_toArray, List.getElem_cons_succ, List.getElem_cons_zero, List.setIfInBounds_toArray, List.set_cons_zero, List.set_cons_succ]
    refine wpAnyH_take (i := 14) (v := ?_) rfl (by kernel_rfl) (by kernel_rfl) (by kernel_rfl) (fun _ _ _ h => h) (Or.inl ⟨by rfl, ?_⟩) (by assumption) ?_
    rotate_left
    · intro w hSw
      (try dsimp only at hSw)
      go_simp
      all_goals with_reducible rfl
    try simp only [Act.put, List.getElem_toArray, List.getElem_cons_succ, List.getElem_cons_zero, List.setIfInBounds_toArray, List.set_cons_zero, List.set_cons_succ]
    refine wpAnyH_take (i := 15) (v := ?_) rfl (by kernel_rfl) (by kernel_rfl) (by kernel_rfl) (fun _ _ _ h => h) (Or.inl ⟨by rfl, ?_⟩) (by assumption) ?_
    rotate_left
    · intro w hSw
      (try dsimp only at hSw)
      go_simp
      all_goals with_reducible rfl
    try simp only [Act.put, List.getElem_toArray, List.getElem_cons_succ, List.getElem_cons_zero, List.setIfInBounds_toArray, List.set_cons_zero, List.set_cons_succ]
    refine wpAnyH_take (i := 16) (v := ?_) rfl (by kernel_rfl) (by kernel_rfl) (by kernel_rfl) (fun _ _ _ h => h) (Or.inl ⟨by rfl, ?_⟩) (by assumption) ?_
    rotate_left
    · intro w hSw
      (try dsimp only at hSw)
      go_simp
      all_goals with_reducible rfl
    try simp only [Act.put, List.getElem_toArray, List.getElem_cons_succ, List.getElem_cons_zero, List.setIfInBounds_toArray, List.set_cons_zero, List.set_cons_succ]
    refine wpAnyH_take (i := 17) (v := ?_) rfl (by kernel_rfl) (by kernel_rfl) (by kernel_rfl) (fun _ _ _ h => h) (Or.inl ⟨by rfl, ?_⟩) (by assumption) ?_
    rotate_left
    · intro w hSw
      (try dsimp only at hSw)
      go_simp
      all_goals with_reducible rfl
    try simp only [Act.put, List.getElem_toArray, List.getElem_cons_succ, List.getElem_cons_zero, List.setIfInBounds_toArray, List.set_cons_zero, List.set_cons_succ]
    refine wpAnyH_ready (rs := [18]) (by kernel_rfl) (by simp) ?_
    refine AllReadyH.cons rfl (fun K hK => ?_) AllReadyH.nil
    go_simp
    refine (HSIG.out _ (HK.out.drew) (HR.out.drew)).mono ?_; rintro e w10 ⟨rfl, hb10⟩; have HBEL := Lib.hid (HBEL.out.trans (hb10.mono HBEL.out.size))
    go_wp2_with fail
    refine hK.out _ _ ?_ (fun hHeld => ?_)
    · (try dsimp only)
      exact HS.out _ HBEL.out
    clear hK K
    try simp only [Act.put, List.getElem_toArray, List.getElem_cons_succ, List.getElem_cons_zero, List.setIfInBounds_toArray, List.set_cons_zero, List.set_cons_succ]
    refine wpAnyH_take (i := 19) (v := ?_) rfl (by kernel_rfl) (by kernel_rfl) (by kernel_rfl) (fun _ _ _ h => h) (Or.inl ⟨by rfl, ?_⟩) (by assumption) ?_
    rotate_left
    · intro w hSw
      (try dsimp only at hSw)
      go_simp
      all_goals with_reducible rfl
    try simp only [Act.put, List.getElem_toArray, List.getElem_cons_succ, List.getElem_cons_zero, List.setIfInBounds_toArray, List.set_cons_zero, List.set_cons_succ]
    refine wpAnyH_take (i := 20) (v := ?_) rfl (by kernel_rfl) (by kernel_rfl) (by kernel_rfl) (fun _ _ _ h => h) (Or.inl ⟨by rfl, ?_⟩) (by assumption) ?_
    rotate_left
    · intro w hSw
      (try dsimp only at hSw)
      go_simp
      all_goals with_reducible rfl
    try simp only [Act.put, List.getElem_toArray, List.getElem_cons_succ, List.getElem_cons_zero, List.setIfInBounds_toArray, List.set_cons_zero, List.set_cons_succ]
    refine wpAnyH_done (by kernel_rfl) ?_ _
    try simp only [Act.put, List.getElem_toArray, List.getElem_cons_succ, List.getElem_cons_zero, List.setIfInBounds_toArray, List.set_cons_zero, List.set_cons_succ]
    go_wp2_with fail
    go_ret
    exact ⟨rfl, HL.out.trans (HBEL.out.mono HL.out.size)⟩
end Go.Proofs.YtocbahahienigaaDoor
