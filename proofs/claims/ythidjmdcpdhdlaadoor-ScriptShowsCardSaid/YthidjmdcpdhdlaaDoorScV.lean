/- script.show: a step's line. -/
import Derived.Test.YthidjmdcpdhdlaaDoorScU
import Derived.Deep.RegionHeld3
namespace Go.Proofs.YthidjmdcpdhdlaaDoor
open Go Go.RowKit
set_option linter.unusedVariables false
set_option linter.unusedSimpArgs false
attribute [local go_sem ↓] sbS_seal sldS_seal sstS_seal
def showL (x : Sp) : List UInt8 :=
  if x.kind = 0 then sayS askL [x.tenant, x.rk, x.rn] [hexS x.bytes]
  else if x.kind = 1 then sayS tickL [] []
  else if x.kind = 2 then sayS cutL [x.n] [hexS x.mask]
  else if x.kind = 3 then sayS passL [x.n] []
  else []
set_option maxRecDepth 100000 in
set_option maxHeartbeats 1000000 in
theorem sshow_c (x : Sp) (cs : List Value) (w : World) (hx : StepC w x cs) (hb1 : x.bytes.length ≤ 10000) (hb2 : x.mask.length ≤ 10000) (ht : Tab w) : Calls Tryd.prog 21 #[.agg cs.toArray] w fun e w' => e = .returned (.string ⟨(showL x).toArray⟩) ∧ Below w.heap.size w w' := by
  obtain ⟨A, c, B, d, rfl, hA, hB, hA2, hB2⟩ := hx
  rw [show (stC x.kind x.tenant x.n x.rk x.rn (.slice A x.bytes.length c) (.slice B x.mask.length d)).toArray = #[.int .i64 x.kind, .int .i64 x.tenant, .int .i64 x.n, .int .i64 x.rk, .int .i64 x.rn, .slice A x.bytes.length c, .slice B x.mask.length d] from rfl]
  have hblk := Blk.new w 36 #[.int .i64 x.kind, .int .i64 x.tenant, .int .i64 x.n, .int .i64 x.rk, .int .i64 x.rn, .slice A x.bytes.length c, .slice B x.mask.length d]
  have k0 : (w.alloc (.cells #[.int .i64 x.kind, .int .i64 x.tenant, .int .i64 x.n, .int .i64 x.rk, .int .i64 x.rn, .slice A x.bytes.length c, .slice B x.mask.length d] 36)).cell? ⟨w.heap.size, 0, none⟩ = some (.int .i64 x.kind) := hblk.cell 0
  by_cases hk : x.kind = 0
  ·
    rw [hk] at hblk k0 ⊢
    have HK := Lib.hid hk
    clear hk
    go_enter Tryd.func21, Tryd.ntmps21
    go_upto_region 3 with fail
    have hS : ∀ W, Below (w.alloc (.cells #[.int .i64 0, .int .i64 x.tenant, .int .i64 x.n, .int .i64 x.rk, .int .i64 x.rn, .slice A x.bytes.length c, .slice B x.mask.length d] 36)).heap.size (w.alloc (.cells #[.int .i64 0, .int .i64 x.tenant, .int .i64 x.n, .int .i64 x.rk, .int .i64 x.rn, .slice A x.bytes.length c, .slice B x.mask.length d] 36)) W → W.cell? ⟨w.heap.size, 1, none⟩ = some (.int .i64 x.tenant) ∧ W.cell? ⟨w.heap.size, 3, none⟩ = some (.int .i64 x.rk) ∧ W.cell? ⟨w.heap.size, 4, none⟩ = some (.int .i64 x.rn) ∧ W.cell? ⟨w.heap.size, 5, none⟩ = some (.slice A x.bytes.length c) := fun W hb => by
      have h := hblk.below hb hblk.lt
      exact ⟨h.cell 1, h.cell 3, h.cell 4, h.cell 5⟩
    have HS := Lib.hid hS
    have HR := Lib.hid (hA.alloc (.cells #[.int .i64 0, .int .i64 x.tenant, .int .i64 x.n, .int .i64 x.rk, .int .i64 x.rn, .slice A x.bytes.length c, .slice B x.mask.length d] 36))
    have HT := Lib.hid (ht.below ((Below.refl _ w).alloc (Nat.le_refl _) (.cells #[.int .i64 0, .int .i64 x.tenant, .int .i64 x.n, .int .i64 x.rk, .int .i64 x.rn, .slice A x.bytes.length c, .slice B x.mask.length d] 36)))
    have HE := Lib.hid ((Below.refl w.heap.size w).alloc (Nat.le_refl _) (.cells #[.int .i64 0, .int .i64 x.tenant, .int .i64 x.n, .int .i64 x.rk, .int .i64 x.rn, .slice A x.bytes.length c, .slice B x.mask.length d] 36))
    have hq : ∀ z ∈ [hexS x.bytes], z.length ≤ 100000 := fun z hz => by
      simp only [List.mem_cons, List.not_mem_nil, or_false] at hz
      subst hz
      unfold hexS
      split
      · simp
      · rw [hexOf_len]; omega
    have HQ := Lib.hid hq
    clear hblk k0 hA hB hA2 hB2 ht hS hq
    generalize w.alloc (.cells #[.int .i64 0, .int .i64 x.tenant, .int .i64 x.n, .int .i64 x.rk, .int .i64 x.rn, .slice A x.bytes.length c, .slice B x.mask.length d] 36) = W0 at HS HR HT HE ⊢
    have hX : Below W0.heap.size W0 W0.drew := (Below.refl _ _).drew
    have hs0 := HS.out _ hX
    refine wp_region_held_drew (S := (fun W => W.cell? ⟨w.heap.size, 1, none⟩ = some (.int .i64 x.tenant) ∧ W.cell? ⟨w.heap.size, 3, none⟩ = some (.int .i64 x.rk) ∧ W.cell? ⟨w.heap.size, 4, none⟩ = some (.int .i64 x.rn) ∧ W.cell? ⟨w.heap.size, 5, none⟩ = some (.slice A x.bytes.length c))) (by kernel_rfl) ?_ (fun hHeld => ?_)
    · exact hs0
    generalize W0.drew = W at hX hHeld ⊢
    clear hs0
    have HX := Lib.hid hX
    clear hX
    refine wpAnyH_take (i := 0) (v := ?_) rfl (by kernel_rfl) (by kernel_rfl) (by kernel_rfl) (fun _ _ _ h => h) (Or.inl ⟨by rfl, ?_⟩) (by assumption) ?_
    rotate_left
    · intro w hSw
      (try dsimp only at hSw)
      go_simp
      all_goals with_reducible rfl
    try simp only [Act.put, List.getElem_toArray, List.getElem_cons_succ, List.getElem_cons_zero, List.setIfInBounds_toArray, List.set_cons_zero, List.set_cons_succ]
    refine wpAnyH_take (i := 1) (v := ?_) rfl (by kernel_rfl) (by kernel_rfl) (by kernel_rfl) (fun _ _ _ h => h) (Or.inl ⟨by rfl, ?_⟩) (by assumption) ?_
    rotate_left
    · intro w hSw
      (try dsimp only at hSw)
      go_simp
      all_goals with_reducible rfl
    try simp only [Act.put, List.getElem_toArray, List.getElem_cons_succ, List.getElem_cons_zero, List.setIfInBounds_toArray, List.set_cons_zero, List.set_cons_succ]
    refine wpAnyH_take (i := 2) (v := ?_) rfl (by kernel_rfl) (by kernel_rfl) (by kernel_rfl) (fun _ _ _ h => h) (Or.inl ⟨by rfl, ?_⟩) (by assumption) ?_
    rotate_left
    · intro w hSw
      (try dsimp only at hSw)
      go_simp
      all_goals with_reducible rfl
    try simp only [Act.put, List.getElem_toArray, List.getElem_cons_succ, List.getElem_cons_zero, List.setIfInBounds_toArray, List.set_cons_zero, List.set_cons_succ]
    refine wpAnyH_take (i := 3) (v := ?_) rfl (by kernel_rfl) (by kernel_rfl) (by kernel_rfl) (fun _ _ _ h => h) (Or.inl ⟨by rfl, ?_⟩) (by assumption) ?_
    rotate_left
    · intro w hSw
      (try dsimp only at hSw)
      go_simp
      all_goals with_reducible rfl
    try simp only [Act.put, List.getElem_toArray, List.getElem_cons_succ, List.getElem_cons_zero, List.setIfInBounds_toArray, List.set_cons_zero, List.set_cons_succ]
    refine wpAnyH_take (i := 4) (v := ?_) rfl (by kernel_rfl) (by kernel_rfl) (by kernel_rfl) (fun _ _ _ h => h) (Or.inl ⟨by rfl, ?_⟩) (by assumption) ?_
    rotate_left
    · intro w hSw
      (try dsimp only at hSw)
      go_simp
      all_goals with_reducible rfl
    try simp only [Act.put, List.getElem_toArray, List.getElem_cons_succ, List.getElem_cons_zero, List.setIfInBounds_toArray, List.set_cons_zero, List.set_cons_succ]
    refine wpAnyH_take (i := 5) (v := ?_) rfl (by kernel_rfl) (by kernel_rfl) (by kernel_rfl) (fun _ _ _ h => h) (Or.inl ⟨by rfl, ?_⟩) (by assumption) ?_
    rotate_left
    · intro w hSw
      (try dsimp only at hSw)
      go_simp
      all_goals with_reducible rfl
    try simp only [Act.put, List.getElem_toArray, List.getElem_cons_succ, List.getElem_cons_zero, List.setIfInBounds_toArray, List.set_cons_zero, List.set_cons_succ]
    refine wpAnyH_take (i := 6) (v := ?_) rfl (by kernel_rfl) (by kernel_rfl) (by kernel_rfl) (fun _ _ _ h => h) (Or.inl ⟨by rfl, ?_⟩) (by assumption) ?_
    rotate_left
    · intro w hSw
      (try dsimp only at hSw)
      go_simp
      all_goals with_reducible rfl
    try simp only [Act.put, List.getElem_toArray, List.getElem_cons_succ, List.getElem_cons_zero, List.setIfInBounds_toArray, List.set_cons_zero, List.set_cons_succ]
    refine wpAnyH_take (i := 7) (v := ?_) rfl (by kernel_rfl) (by kernel_rfl) (by kernel_rfl) (fun _ _ _ h => h) (Or.inl ⟨by rfl, ?_⟩) (by assumption) ?_
    rotate_left
    · intro w hSw
      (try dsimp only at hSw)
      go_simp
      all_goals with_reducible rfl
    try simp only [Act.put, List.getElem_toArray, List.getElem_cons_succ, List.getElem_cons_zero, List.setIfInBounds_toArray, List.set_cons_zero, List.set_cons_succ]
    refine wpAnyH_take (i := 9) (v := ?_) rfl (by kernel_rfl) (by kernel_rfl) (by kernel_rfl) (fun _ _ _ h => h) (Or.inl ⟨by rfl, ?_⟩) (by assumption) ?_
    rotate_left
    · intro w hSw
      (try dsimp only at hSw)
      go_simp
      all_goals with_reducible rfl
    try simp only [Act.put, List.getElem_toArray, List.getElem_cons_succ, List.getElem_cons_zero, List.setIfInBounds_toArray, List.set_cons_zero, List.set_cons_succ]
    refine wpAnyH_take (i := 10) (v := ?_) rfl (by kernel_rfl) (by kernel_rfl) (by kernel_rfl) (fun _ _ _ h => h) (Or.inl ⟨by rfl, ?_⟩) (by assumption) ?_
    rotate_left
    · intro w hSw
      (try dsimp only at hSw)
      go_simp
      all_goals with_reducible rfl
    try simp only [Act.put, List.getElem_toArray, List.getElem_cons_succ, List.getElem_cons_zero, List.setIfInBounds_toArray, List.set_cons_zero, List.set_cons_succ]
    refine wpAnyH_take (i := 11) (v := ?_) rfl (by kernel_rfl) (by kernel_rfl) (by kernel_rfl) (fun _ _ _ h => h) (Or.inl ⟨by rfl, ?_⟩) (by assumption) ?_
    rotate_left
    · intro w hSw
      (try dsimp only at hSw)
      go_simp
      all_goals with_reducible rfl
    try simp only [Act.put, List.getElem_toArray, List.getElem_cons_succ, List.getElem_cons_zero, List.setIfInBounds_toArray, List.set_cons_zero, List.set_cons_succ]
    refine wpAnyH_ready (rs := [8, 12]) (by kernel_rfl) (by simp) ?_
    refine AllReadyH.cons rfl (fun K hK => ?_) ?_
    · have hb := (Below.refl W.heap.size W).alloc (Nat.le_refl _) (.cells #[.int .i64 x.tenant, .int .i64 x.rk, .int .i64 x.rn] 3)
      have hnew : Reads (W.alloc (.cells #[.int .i64 x.tenant, .int .i64 x.rk, .int .i64 x.rn] 3)) (some ⟨W.heap.size, 0, none⟩) 3 ([x.tenant, x.rk, x.rn].map zv) := (Blk.new W 3 #[.int .i64 x.tenant, .int .i64 x.rk, .int .i64 x.rn]).reads 0 (by simp)
      go_simp
      have HX := Lib.hid (HX.out.trans (hb.mono HX.out.size))
      have HI := Lib.hid hnew
      clear hb hnew
      refine hK.out _ _ ?_ (fun hHeld => ?_)
      · (try dsimp only)
        exact HS.out _ HX.out
      clear hK K
      try simp only [Act.put, List.getElem_toArray, List.getElem_cons_succ, List.getElem_cons_zero, List.setIfInBounds_toArray, List.set_cons_zero, List.set_cons_succ]
      clear hHeld
      generalize W.alloc (.cells #[.int .i64 x.tenant, .int .i64 x.rk, .int .i64 x.rn] 3) = W1 at HX HI ⊢
      have hHeld := HS.out _ HX.out
      refine wpAnyH_ready (rs := [12]) (by kernel_rfl) (by simp) ?_
      refine AllReadyH.cons rfl (fun K hK => ?_) ?_
      · go_simp
        refine (sshown_c A _ _ x.bytes W1 (HR.out.below HX.out) hb1).mono ?_
        rintro e W2c ⟨rfl, hb0⟩
        have hb := hb0
        clear hb0
        have HX := Lib.hid (HX.out.trans (hb.mono HX.out.size))
        have HI := Lib.hid (HI.out.below hb)
        clear hb
        go_wp2_with fail
        refine hK.out _ _ ?_ (fun hHeld => ?_)
        · (try dsimp only)
          exact HS.out _ HX.out
        clear hK K
        try simp only [Act.put, List.getElem_toArray, List.getElem_cons_succ, List.getElem_cons_zero, List.setIfInBounds_toArray, List.set_cons_zero, List.set_cons_succ]
        clear hHeld
        generalize W2c = W2 at HX HI ⊢
        have hHeld := HS.out _ HX.out
        refine wpAnyH_ready (rs := [13]) (by kernel_rfl) (by simp) ?_
        refine AllReadyH.cons rfl (fun K hK => ?_) ?_
        · have hb := (Below.refl W2.heap.size W2).alloc (Nat.le_refl _) (.cells #[.string ⟨(hexS x.bytes).toArray⟩] 9)
          have hnew : Reads (W2.alloc (.cells #[.string ⟨(hexS x.bytes).toArray⟩] 9)) (some ⟨W2.heap.size, 0, none⟩) 1 ([hexS x.bytes].map strv) := (Blk.new W2 9 #[.string ⟨(hexS x.bytes).toArray⟩]).reads 0 (by simp)
          go_simp
          have HX := Lib.hid (HX.out.trans (hb.mono HX.out.size))
          have HI := Lib.hid (HI.out.below hb)
          have HJ := Lib.hid hnew
          clear hb hnew
          refine hK.out _ _ ?_ (fun hHeld => ?_)
          · (try dsimp only)
            exact HS.out _ HX.out
          clear hK K
          try simp only [Act.put, List.getElem_toArray, List.getElem_cons_succ, List.getElem_cons_zero, List.setIfInBounds_toArray, List.set_cons_zero, List.set_cons_succ]
          clear hHeld
          generalize W2.alloc (.cells #[.string ⟨(hexS x.bytes).toArray⟩] 9) = W3 at HX HJ HI ⊢
          have hHeld := HS.out _ HX.out
          refine wpAnyH_ready (rs := [14]) (by kernel_rfl) (by simp) ?_
          refine AllReadyH.cons rfl (fun K hK => ?_) AllReadyH.nil
          go_simp
          refine (ssay_c askL (by decide) _ 3 _ [x.tenant, x.rk, x.rn] _ 1 _ [hexS x.bytes] W3 HI.out (by omega) HJ.out (by omega) HQ.out (HT.out.below HX.out)).mono ?_
          rintro e W4c ⟨rfl, hb0⟩
          have hb := hb0
          clear hb0
          have HX := Lib.hid (HX.out.trans (hb.mono HX.out.size))
          clear hb HI HJ hHeld
          go_wp2_with fail
          refine hK.out _ _ ?_ (fun hHeld => ?_)
          · (try dsimp only)
            exact HS.out _ HX.out
          clear hK K
          try simp only [Act.put, List.getElem_toArray, List.getElem_cons_succ, List.getElem_cons_zero, List.setIfInBounds_toArray, List.set_cons_zero, List.set_cons_succ]
          clear hHeld
          generalize W4c = W4 at HX ⊢
          have hHeld := HS.out _ HX.out
          refine wpAnyH_take (i := 15) (v := ?_) rfl (by kernel_rfl) (by kernel_rfl) (by kernel_rfl) (fun _ _ _ h => h) (Or.inl ⟨by rfl, ?_⟩) (by assumption) ?_
          rotate_left
          · intro w hSw
            (try dsimp only at hSw)
            go_simp
            all_goals with_reducible rfl
          try simp only [Act.put, List.getElem_toArray, List.getElem_cons_succ, List.getElem_cons_zero, List.setIfInBounds_toArray, List.set_cons_zero, List.set_cons_succ]
          refine wpAnyH_done (by kernel_rfl) ?_ _
          try simp only [Act.put, List.getElem_toArray, List.getElem_cons_succ, List.getElem_cons_zero, List.setIfInBounds_toArray, List.set_cons_zero, List.set_cons_succ]
          go_wp2_with fail
          go_ret
          refine ⟨?_, HE.out.trans (HX.out.mono HE.out.size)⟩
          unfold showL
          rw [if_pos HK.out]
          rfl
        exact AllReadyH.nil
      exact AllReadyH.nil
    refine AllReadyH.cons rfl (fun K hK => ?_) ?_
    · go_simp
      refine (sshown_c A _ _ x.bytes W (HR.out.below HX.out) hb1).mono ?_
      rintro e W1c ⟨rfl, hb0⟩
      have hb := hb0
      clear hb0
      have HX := Lib.hid (HX.out.trans (hb.mono HX.out.size))
      clear hb
      go_wp2_with fail
      refine hK.out _ _ ?_ (fun hHeld => ?_)
      · (try dsimp only)
        exact HS.out _ HX.out
      clear hK K
      try simp only [Act.put, List.getElem_toArray, List.getElem_cons_succ, List.getElem_cons_zero, List.setIfInBounds_toArray, List.set_cons_zero, List.set_cons_succ]
      clear hHeld
      generalize W1c = W1 at HX ⊢
      have hHeld := HS.out _ HX.out
      refine wpAnyH_ready (rs := [8, 13]) (by kernel_rfl) (by simp) ?_
      refine AllReadyH.cons rfl (fun K hK => ?_) ?_
      · have hb := (Below.refl W1.heap.size W1).alloc (Nat.le_refl _) (.cells #[.int .i64 x.tenant, .int .i64 x.rk, .int .i64 x.rn] 3)
        have hnew : Reads (W1.alloc (.cells #[.int .i64 x.tenant, .int .i64 x.rk, .int .i64 x.rn] 3)) (some ⟨W1.heap.size, 0, none⟩) 3 ([x.tenant, x.rk, x.rn].map zv) := (Blk.new W1 3 #[.int .i64 x.tenant, .int .i64 x.rk, .int .i64 x.rn]).reads 0 (by simp)
        go_simp
        have HX := Lib.hid (HX.out.trans (hb.mono HX.out.size))
        have HI := Lib.hid hnew
        clear hb hnew
        refine hK.out _ _ ?_ (fun hHeld => ?_)
        · (try dsimp only)
          exact HS.out _ HX.out
        clear hK K
        try simp only [Act.put, List.getElem_toArray, List.getElem_cons_succ, List.getElem_cons_zero, List.setIfInBounds_toArray, List.set_cons_zero, List.set_cons_succ]
        clear hHeld
        generalize W1.alloc (.cells #[.int .i64 x.tenant, .int .i64 x.rk, .int .i64 x.rn] 3) = W2 at HX HI ⊢
        have hHeld := HS.out _ HX.out
        refine wpAnyH_ready (rs := [13]) (by kernel_rfl) (by simp) ?_
        refine AllReadyH.cons rfl (fun K hK => ?_) ?_
        · have hb := (Below.refl W2.heap.size W2).alloc (Nat.le_refl _) (.cells #[.string ⟨(hexS x.bytes).toArray⟩] 9)
          have hnew : Reads (W2.alloc (.cells #[.string ⟨(hexS x.bytes).toArray⟩] 9)) (some ⟨W2.heap.size, 0, none⟩) 1 ([hexS x.bytes].map strv) := (Blk.new W2 9 #[.string ⟨(hexS x.bytes).toArray⟩]).reads 0 (by simp)
          go_simp
          have HX := Lib.hid (HX.out.trans (hb.mono HX.out.size))
          have HI := Lib.hid (HI.out.below hb)
          have HJ := Lib.hid hnew
          clear hb hnew
          refine hK.out _ _ ?_ (fun hHeld => ?_)
          · (try dsimp only)
            exact HS.out _ HX.out
          clear hK K
          try simp only [Act.put, List.getElem_toArray, List.getElem_cons_succ, List.getElem_cons_zero, List.setIfInBounds_toArray, List.set_cons_zero, List.set_cons_succ]
          clear hHeld
          generalize W2.alloc (.cells #[.string ⟨(hexS x.bytes).toArray⟩] 9) = W3 at HX HJ HI ⊢
          have hHeld := HS.out _ HX.out
          refine wpAnyH_ready (rs := [14]) (by kernel_rfl) (by simp) ?_
          refine AllReadyH.cons rfl (fun K hK => ?_) AllReadyH.nil
          go_simp
          refine (ssay_c askL (by decide) _ 3 _ [x.tenant, x.rk, x.rn] _ 1 _ [hexS x.bytes] W3 HI.out (by omega) HJ.out (by omega) HQ.out (HT.out.below HX.out)).mono ?_
          rintro e W4c ⟨rfl, hb0⟩
          have hb := hb0
          clear hb0
          have HX := Lib.hid (HX.out.trans (hb.mono HX.out.size))
          clear hb HI HJ hHeld
          go_wp2_with fail
          refine hK.out _ _ ?_ (fun hHeld => ?_)
          · (try dsimp only)
            exact HS.out _ HX.out
          clear hK K
          try simp only [Act.put, List.getElem_toArray, List.getElem_cons_succ, List.getElem_cons_zero, List.setIfInBounds_toArray, List.set_cons_zero, List.set_cons_succ]
          clear hHeld
          generalize W4c = W4 at HX ⊢
          have hHeld := HS.out _ HX.out
          refine wpAnyH_take (i := 15) (v := ?_) rfl (by kernel_rfl) (by kernel_rfl) (by kernel_rfl) (fun _ _ _ h => h) (Or.inl ⟨by rfl, ?_⟩) (by assumption) ?_
          rotate_left
          · intro w hSw
            (try dsimp only at hSw)
            go_simp
            all_goals with_reducible rfl
          try simp only [Act.put, List.getElem_toArray, List.getElem_cons_succ, List.getElem_cons_zero, List.setIfInBounds_toArray, List.set_cons_zero, List.set_cons_succ]
          refine wpAnyH_done (by kernel_rfl) ?_ _
          try simp only [Act.put, List.getElem_toArray, List.getElem_cons_succ, List.getElem_cons_zero, List.setIfInBounds_toArray, List.set_cons_zero, List.set_cons_succ]
          go_wp2_with fail
          go_ret
          refine ⟨?_, HE.out.trans (HX.out.mono HE.out.size)⟩
          unfold showL
          rw [if_pos HK.out]
          rfl
        exact AllReadyH.nil
      refine AllReadyH.cons rfl (fun K hK => ?_) ?_
      · have hb := (Below.refl W1.heap.size W1).alloc (Nat.le_refl _) (.cells #[.string ⟨(hexS x.bytes).toArray⟩] 9)
        have hnew : Reads (W1.alloc (.cells #[.string ⟨(hexS x.bytes).toArray⟩] 9)) (some ⟨W1.heap.size, 0, none⟩) 1 ([hexS x.bytes].map strv) := (Blk.new W1 9 #[.string ⟨(hexS x.bytes).toArray⟩]).reads 0 (by simp)
        go_simp
        have HX := Lib.hid (HX.out.trans (hb.mono HX.out.size))
        have HJ := Lib.hid hnew
        clear hb hnew
        refine hK.out _ _ ?_ (fun hHeld => ?_)
        · (try dsimp only)
          exact HS.out _ HX.out
        clear hK K
        try simp only [Act.put, List.getElem_toArray, List.getElem_cons_succ, List.getElem_cons_zero, List.setIfInBounds_toArray, List.set_cons_zero, List.set_cons_succ]
        clear hHeld
        generalize W1.alloc (.cells #[.string ⟨(hexS x.bytes).toArray⟩] 9) = W2 at HX HJ ⊢
        have hHeld := HS.out _ HX.out
        refine wpAnyH_ready (rs := [8]) (by kernel_rfl) (by simp) ?_
        refine AllReadyH.cons rfl (fun K hK => ?_) ?_
        · have hb := (Below.refl W2.heap.size W2).alloc (Nat.le_refl _) (.cells #[.int .i64 x.tenant, .int .i64 x.rk, .int .i64 x.rn] 3)
          have hnew : Reads (W2.alloc (.cells #[.int .i64 x.tenant, .int .i64 x.rk, .int .i64 x.rn] 3)) (some ⟨W2.heap.size, 0, none⟩) 3 ([x.tenant, x.rk, x.rn].map zv) := (Blk.new W2 3 #[.int .i64 x.tenant, .int .i64 x.rk, .int .i64 x.rn]).reads 0 (by simp)
          go_simp
          have HX := Lib.hid (HX.out.trans (hb.mono HX.out.size))
          have HJ := Lib.hid (HJ.out.below hb)
          have HI := Lib.hid hnew
          clear hb hnew
          refine hK.out _ _ ?_ (fun hHeld => ?_)
          · (try dsimp only)
            exact HS.out _ HX.out
          clear hK K
          try simp only [Act.put, List.getElem_toArray, List.getElem_cons_succ, List.getElem_cons_zero, List.setIfInBounds_toArray, List.set_cons_zero, List.set_cons_succ]
          clear hHeld
          generalize W2.alloc (.cells #[.int .i64 x.tenant, .int .i64 x.rk, .int .i64 x.rn] 3) = W3 at HX HI HJ ⊢
          have hHeld := HS.out _ HX.out
          refine wpAnyH_ready (rs := [14]) (by kernel_rfl) (by simp) ?_
          refine AllReadyH.cons rfl (fun K hK => ?_) AllReadyH.nil
          go_simp
          refine (ssay_c askL (by decide) _ 3 _ [x.tenant, x.rk, x.rn] _ 1 _ [hexS x.bytes] W3 HI.out (by omega) HJ.out (by omega) HQ.out (HT.out.below HX.out)).mono ?_
          rintro e W4c ⟨rfl, hb0⟩
          have hb := hb0
          clear hb0
          have HX := Lib.hid (HX.out.trans (hb.mono HX.out.size))
          clear hb HI HJ hHeld
          go_wp2_with fail
          refine hK.out _ _ ?_ (fun hHeld => ?_)
          · (try dsimp only)
            exact HS.out _ HX.out
          clear hK K
          try simp only [Act.put, List.getElem_toArray, List.getElem_cons_succ, List.getElem_cons_zero, List.setIfInBounds_toArray, List.set_cons_zero, List.set_cons_succ]
          clear hHeld
          generalize W4c = W4 at HX ⊢
          have hHeld := HS.out _ HX.out
          refine wpAnyH_take (i := 15) (v := ?_) rfl (by kernel_rfl) (by kernel_rfl) (by kernel_rfl) (fun _ _ _ h => h) (Or.inl ⟨by rfl, ?_⟩) (by assumption) ?_
          rotate_left
          · intro w hSw
            (try dsimp only at hSw)
            go_simp
            all_goals with_reducible rfl
          try simp only [Act.put, List.getElem_toArray, List.getElem_cons_succ, List.getElem_cons_zero, List.setIfInBounds_toArray, List.set_cons_zero, List.set_cons_succ]
          refine wpAnyH_done (by kernel_rfl) ?_ _
          try simp only [Act.put, List.getElem_toArray, List.getElem_cons_succ, List.getElem_cons_zero, List.setIfInBounds_toArray, List.set_cons_zero, List.set_cons_succ]
          go_wp2_with fail
          go_ret
          refine ⟨?_, HE.out.trans (HX.out.mono HE.out.size)⟩
          unfold showL
          rw [if_pos HK.out]
          rfl
        exact AllReadyH.nil
      exact AllReadyH.nil
    exact AllReadyH.nil
  by_cases hk1 : x.kind = 1
  · rw [hk1] at hblk k0 ⊢
    have HK := Lib.hid hk1
    clear hk1
    go_enter Tryd.func21, Tryd.ntmps21
    have HE := Lib.hid ((Below.refl w.heap.size w).alloc (Nat.le_refl _) (.cells #[.int .i64 1, .int .i64 x.tenant, .int .i64 x.n, .int .i64 x.rk, .int .i64 x.rn, .slice A x.bytes.length c, .slice B x.mask.length d] 36))
    have HT := Lib.hid (ht.below ((Below.refl _ w).alloc (Nat.le_refl _) (.cells #[.int .i64 1, .int .i64 x.tenant, .int .i64 x.n, .int .i64 x.rk, .int .i64 x.rn, .slice A x.bytes.length c, .slice B x.mask.length d] 36)))
    clear hblk ht hA hB hA2 hB2
    go_upto_region 5 with fail
    generalize w.alloc (.cells #[.int .i64 1, .int .i64 x.tenant, .int .i64 x.n, .int .i64 x.rk, .int .i64 x.rn, .slice A x.bytes.length c, .slice B x.mask.length d] 36) = W0 at HE HT k0 ⊢
    go_wp2_with fail
    refine (ssay_c tickL (by decide) _ 0 _ [] _ 0 _ [] _ (Reads.none_ _) (by omega) (Reads.none_ _) (by omega) (by simp) HT.out).mono ?_
    rintro e w1 ⟨rfl, hb⟩
    have HX := Lib.hid (HE.out.trans (hb.mono HE.out.size))
    clear hb HE HT
    go_wp2_with fail
    go_ret
    refine ⟨?_, HX.out⟩
    unfold showL
    rw [if_neg hk, if_pos HK.out]
    rfl
  by_cases hk2 : x.kind = 2
  · clear hk
    have hk := hk2
    rw [hk] at hblk k0 ⊢
    have HK := Lib.hid hk
    clear hk
    go_enter Tryd.func21, Tryd.ntmps21
    go_upto_region 7 with fail
    have hS : ∀ W, Below (w.alloc (.cells #[.int .i64 2, .int .i64 x.tenant, .int .i64 x.n, .int .i64 x.rk, .int .i64 x.rn, .slice A x.bytes.length c, .slice B x.mask.length d] 36)).heap.size (w.alloc (.cells #[.int .i64 2, .int .i64 x.tenant, .int .i64 x.n, .int .i64 x.rk, .int .i64 x.rn, .slice A x.bytes.length c, .slice B x.mask.length d] 36)) W → W.cell? ⟨w.heap.size, 2, none⟩ = some (.int .i64 x.n) ∧ W.cell? ⟨w.heap.size, 6, none⟩ = some (.slice B x.mask.length d) := fun W hb => by
      have h := hblk.below hb hblk.lt
      exact ⟨h.cell 2, h.cell 6⟩
    have HS := Lib.hid hS
    have HR := Lib.hid (hB.alloc (.cells #[.int .i64 2, .int .i64 x.tenant, .int .i64 x.n, .int .i64 x.rk, .int .i64 x.rn, .slice A x.bytes.length c, .slice B x.mask.length d] 36))
    have HT := Lib.hid (ht.below ((Below.refl _ w).alloc (Nat.le_refl _) (.cells #[.int .i64 2, .int .i64 x.tenant, .int .i64 x.n, .int .i64 x.rk, .int .i64 x.rn, .slice A x.bytes.length c, .slice B x.mask.length d] 36)))
    have HE := Lib.hid ((Below.refl w.heap.size w).alloc (Nat.le_refl _) (.cells #[.int .i64 2, .int .i64 x.tenant, .int .i64 x.n, .int .i64 x.rk, .int .i64 x.rn, .slice A x.bytes.length c, .slice B x.mask.length d] 36))
    have hq : ∀ z ∈ [hexS x.mask], z.length ≤ 100000 := fun z hz => by
      simp only [List.mem_cons, List.not_mem_nil, or_false] at hz
      subst hz
      unfold hexS
      split
      · simp
      · rw [hexOf_len]; omega
    have HQ := Lib.hid hq
    clear hblk k0 hA hB hA2 hB2 ht hk1 hk2 hS hq
    generalize w.alloc (.cells #[.int .i64 2, .int .i64 x.tenant, .int .i64 x.n, .int .i64 x.rk, .int .i64 x.rn, .slice A x.bytes.length c, .slice B x.mask.length d] 36) = W0 at HS HR HT HE ⊢
    have hX : Below W0.heap.size W0 W0.drew := (Below.refl _ _).drew
    have hs0 := HS.out _ hX
    refine wp_region_held_drew (S := (fun W => W.cell? ⟨w.heap.size, 2, none⟩ = some (.int .i64 x.n) ∧ W.cell? ⟨w.heap.size, 6, none⟩ = some (.slice B x.mask.length d))) (by kernel_rfl) ?_ (fun hHeld => ?_)
    · exact hs0
    generalize W0.drew = W at hX hHeld ⊢
    clear hs0
    have HX := Lib.hid hX
    clear hX
    refine wpAnyH_take (i := 0) (v := ?_) rfl (by kernel_rfl) (by kernel_rfl) (by kernel_rfl) (fun _ _ _ h => h) (Or.inl ⟨by rfl, ?_⟩) (by assumption) ?_
    rotate_left
    · intro w hSw
      (try dsimp only at hSw)
      go_simp
      all_goals with_reducible rfl
    try simp only [Act.put, List.getElem_toArray, List.getElem_cons_succ, List.getElem_cons_zero, List.setIfInBounds_toArray, List.set_cons_zero, List.set_cons_succ]
    refine wpAnyH_take (i := 1) (v := ?_) rfl (by kernel_rfl) (by kernel_rfl) (by kernel_rfl) (fun _ _ _ h => h) (Or.inl ⟨by rfl, ?_⟩) (by assumption) ?_
    rotate_left
    · intro w hSw
      (try dsimp only at hSw)
      go_simp
      all_goals with_reducible rfl
    try simp only [Act.put, List.getElem_toArray, List.getElem_cons_succ, List.getElem_cons_zero, List.setIfInBounds_toArray, List.set_cons_zero, List.set_cons_succ]
    refine wpAnyH_take (i := 3) (v := ?_) rfl (by kernel_rfl) (by kernel_rfl) (by kernel_rfl) (fun _ _ _ h => h) (Or.inl ⟨by rfl, ?_⟩) (by assumption) ?_
    rotate_left
    · intro w hSw
      (try dsimp only at hSw)
      go_simp
      all_goals with_reducible rfl
    try simp only [Act.put, List.getElem_toArray, List.getElem_cons_succ, List.getElem_cons_zero, List.setIfInBounds_toArray, List.set_cons_zero, List.set_cons_succ]
    refine wpAnyH_take (i := 4) (v := ?_) rfl (by kernel_rfl) (by kernel_rfl) (by kernel_rfl) (fun _ _ _ h => h) (Or.inl ⟨by rfl, ?_⟩) (by assumption) ?_
    rotate_left
    · intro w hSw
      (try dsimp only at hSw)
      go_simp
      all_goals with_reducible rfl
    try simp only [Act.put, List.getElem_toArray, List.getElem_cons_succ, List.getElem_cons_zero, List.setIfInBounds_toArray, List.set_cons_zero, List.set_cons_succ]
    refine wpAnyH_ready (rs := [2, 5]) (by kernel_rfl) (by simp) ?_
    refine AllReadyH.cons rfl (fun K hK => ?_) ?_
    · have hb := (Below.refl W.heap.size W).alloc (Nat.le_refl _) (.cells #[.int .i64 x.n] 3)
      have hnew : Reads (W.alloc (.cells #[.int .i64 x.n] 3)) (some ⟨W.heap.size, 0, none⟩) 1 ([x.n].map zv) := (Blk.new W 3 #[.int .i64 x.n]).reads 0 (by simp)
      go_simp
      have HX := Lib.hid (HX.out.trans (hb.mono HX.out.size))
      have HI := Lib.hid hnew
      clear hb hnew
      refine hK.out _ _ ?_ (fun hHeld => ?_)
      · (try dsimp only)
        exact HS.out _ HX.out
      clear hK K
      try simp only [Act.put, List.getElem_toArray, List.getElem_cons_succ, List.getElem_cons_zero, List.setIfInBounds_toArray, List.set_cons_zero, List.set_cons_succ]
      clear hHeld
      generalize W.alloc (.cells #[.int .i64 x.n] 3) = W1 at HX HI ⊢
      have hHeld := HS.out _ HX.out
      refine wpAnyH_ready (rs := [5]) (by kernel_rfl) (by simp) ?_
      refine AllReadyH.cons rfl (fun K hK => ?_) ?_
      · go_simp
        refine (sshown_c B _ _ x.mask W1 (HR.out.below HX.out) hb2).mono ?_
        rintro e W2c ⟨rfl, hb0⟩
        have hb := hb0
        clear hb0
        have HX := Lib.hid (HX.out.trans (hb.mono HX.out.size))
        have HI := Lib.hid (HI.out.below hb)
        clear hb
        go_wp2_with fail
        refine hK.out _ _ ?_ (fun hHeld => ?_)
        · (try dsimp only)
          exact HS.out _ HX.out
        clear hK K
        try simp only [Act.put, List.getElem_toArray, List.getElem_cons_succ, List.getElem_cons_zero, List.setIfInBounds_toArray, List.set_cons_zero, List.set_cons_succ]
        clear hHeld
        generalize W2c = W2 at HX HI ⊢
        have hHeld := HS.out _ HX.out
        refine wpAnyH_ready (rs := [6]) (by kernel_rfl) (by simp) ?_
        refine AllReadyH.cons rfl (fun K hK => ?_) ?_
        · have hb := (Below.refl W2.heap.size W2).alloc (Nat.le_refl _) (.cells #[.string ⟨(hexS x.mask).toArray⟩] 9)
          have hnew : Reads (W2.alloc (.cells #[.string ⟨(hexS x.mask).toArray⟩] 9)) (some ⟨W2.heap.size, 0, none⟩) 1 ([hexS x.mask].map strv) := (Blk.new W2 9 #[.string ⟨(hexS x.mask).toArray⟩]).reads 0 (by simp)
          go_simp
          have HX := Lib.hid (HX.out.trans (hb.mono HX.out.size))
          have HI := Lib.hid (HI.out.below hb)
          have HJ := Lib.hid hnew
          clear hb hnew
          refine hK.out _ _ ?_ (fun hHeld => ?_)
          · (try dsimp only)
            exact HS.out _ HX.out
          clear hK K
          try simp only [Act.put, List.getElem_toArray, List.getElem_cons_succ, List.getElem_cons_zero, List.setIfInBounds_toArray, List.set_cons_zero, List.set_cons_succ]
          clear hHeld
          generalize W2.alloc (.cells #[.string ⟨(hexS x.mask).toArray⟩] 9) = W3 at HX HJ HI ⊢
          have hHeld := HS.out _ HX.out
          refine wpAnyH_ready (rs := [7]) (by kernel_rfl) (by simp) ?_
          refine AllReadyH.cons rfl (fun K hK => ?_) AllReadyH.nil
          go_simp
          refine (ssay_c cutL (by decide) _ 1 _ [x.n] _ 1 _ [hexS x.mask] W3 HI.out (by omega) HJ.out (by omega) HQ.out (HT.out.below HX.out)).mono ?_
          rintro e W4c ⟨rfl, hb0⟩
          have hb := hb0
          clear hb0
          have HX := Lib.hid (HX.out.trans (hb.mono HX.out.size))
          clear hb HI HJ hHeld
          go_wp2_with fail
          refine hK.out _ _ ?_ (fun hHeld => ?_)
          · (try dsimp only)
            exact HS.out _ HX.out
          clear hK K
          try simp only [Act.put, List.getElem_toArray, List.getElem_cons_succ, List.getElem_cons_zero, List.setIfInBounds_toArray, List.set_cons_zero, List.set_cons_succ]
          clear hHeld
          generalize W4c = W4 at HX ⊢
          have hHeld := HS.out _ HX.out
          refine wpAnyH_take (i := 8) (v := ?_) rfl (by kernel_rfl) (by kernel_rfl) (by kernel_rfl) (fun _ _ _ h => h) (Or.inl ⟨by rfl, ?_⟩) (by assumption) ?_
          rotate_left
          · intro w hSw
            (try dsimp only at hSw)
            go_simp
            all_goals with_reducible rfl
          try simp only [Act.put, List.getElem_toArray, List.getElem_cons_succ, List.getElem_cons_zero, List.setIfInBounds_toArray, List.set_cons_zero, List.set_cons_succ]
          refine wpAnyH_done (by kernel_rfl) ?_ _
          try simp only [Act.put, List.getElem_toArray, List.getElem_cons_succ, List.getElem_cons_zero, List.setIfInBounds_toArray, List.set_cons_zero, List.set_cons_succ]
          go_wp2_with fail
          go_ret
          refine ⟨?_, HE.out.trans (HX.out.mono HE.out.size)⟩
          unfold showL
          rw [if_neg (by rw [HK.out]; decide), if_neg (by rw [HK.out]; decide), if_pos HK.out]
          rfl
        exact AllReadyH.nil
      exact AllReadyH.nil
    refine AllReadyH.cons rfl (fun K hK => ?_) ?_
    · go_simp
      refine (sshown_c B _ _ x.mask W (HR.out.below HX.out) hb2).mono ?_
      rintro e W1c ⟨rfl, hb0⟩
      have hb := hb0
      clear hb0
      have HX := Lib.hid (HX.out.trans (hb.mono HX.out.size))
      clear hb
      go_wp2_with fail
      refine hK.out _ _ ?_ (fun hHeld => ?_)
      · (try dsimp only)
        exact HS.out _ HX.out
      clear hK K
      try simp only [Act.put, List.getElem_toArray, List.getElem_cons_succ, List.getElem_cons_zero, List.setIfInBounds_toArray, List.set_cons_zero, List.set_cons_succ]
      clear hHeld
      generalize W1c = W1 at HX ⊢
      have hHeld := HS.out _ HX.out
      refine wpAnyH_ready (rs := [2, 6]) (by kernel_rfl) (by simp) ?_
      refine AllReadyH.cons rfl (fun K hK => ?_) ?_
      · have hb := (Below.refl W1.heap.size W1).alloc (Nat.le_refl _) (.cells #[.int .i64 x.n] 3)
        have hnew : Reads (W1.alloc (.cells #[.int .i64 x.n] 3)) (some ⟨W1.heap.size, 0, none⟩) 1 ([x.n].map zv) := (Blk.new W1 3 #[.int .i64 x.n]).reads 0 (by simp)
        go_simp
        have HX := Lib.hid (HX.out.trans (hb.mono HX.out.size))
        have HI := Lib.hid hnew
        clear hb hnew
        refine hK.out _ _ ?_ (fun hHeld => ?_)
        · (try dsimp only)
          exact HS.out _ HX.out
        clear hK K
        try simp only [Act.put, List.getElem_toArray, List.getElem_cons_succ, List.getElem_cons_zero, List.setIfInBounds_toArray, List.set_cons_zero, List.set_cons_succ]
        clear hHeld
        generalize W1.alloc (.cells #[.int .i64 x.n] 3) = W2 at HX HI ⊢
        have hHeld := HS.out _ HX.out
        refine wpAnyH_ready (rs := [6]) (by kernel_rfl) (by simp) ?_
        refine AllReadyH.cons rfl (fun K hK => ?_) ?_
        · have hb := (Below.refl W2.heap.size W2).alloc (Nat.le_refl _) (.cells #[.string ⟨(hexS x.mask).toArray⟩] 9)
          have hnew : Reads (W2.alloc (.cells #[.string ⟨(hexS x.mask).toArray⟩] 9)) (some ⟨W2.heap.size, 0, none⟩) 1 ([hexS x.mask].map strv) := (Blk.new W2 9 #[.string ⟨(hexS x.mask).toArray⟩]).reads 0 (by simp)
          go_simp
          have HX := Lib.hid (HX.out.trans (hb.mono HX.out.size))
          have HI := Lib.hid (HI.out.below hb)
          have HJ := Lib.hid hnew
          clear hb hnew
          refine hK.out _ _ ?_ (fun hHeld => ?_)
          · (try dsimp only)
            exact HS.out _ HX.out
          clear hK K
          try simp only [Act.put, List.getElem_toArray, List.getElem_cons_succ, List.getElem_cons_zero, List.setIfInBounds_toArray, List.set_cons_zero, List.set_cons_succ]
          clear hHeld
          generalize W2.alloc (.cells #[.string ⟨(hexS x.mask).toArray⟩] 9) = W3 at HX HJ HI ⊢
          have hHeld := HS.out _ HX.out
          refine wpAnyH_ready (rs := [7]) (by kernel_rfl) (by simp) ?_
          refine AllReadyH.cons rfl (fun K hK => ?_) AllReadyH.nil
          go_simp
          refine (ssay_c cutL (by decide) _ 1 _ [x.n] _ 1 _ [hexS x.mask] W3 HI.out (by omega) HJ.out (by omega) HQ.out (HT.out.below HX.out)).mono ?_
          rintro e W4c ⟨rfl, hb0⟩
          have hb := hb0
          clear hb0
          have HX := Lib.hid (HX.out.trans (hb.mono HX.out.size))
          clear hb HI HJ hHeld
          go_wp2_with fail
          refine hK.out _ _ ?_ (fun hHeld => ?_)
          · (try dsimp only)
            exact HS.out _ HX.out
          clear hK K
          try simp only [Act.put, List.getElem_toArray, List.getElem_cons_succ, List.getElem_cons_zero, List.setIfInBounds_toArray, List.set_cons_zero, List.set_cons_succ]
          clear hHeld
          generalize W4c = W4 at HX ⊢
          have hHeld := HS.out _ HX.out
          refine wpAnyH_take (i := 8) (v := ?_) rfl (by kernel_rfl) (by kernel_rfl) (by kernel_rfl) (fun _ _ _ h => h) (Or.inl ⟨by rfl, ?_⟩) (by assumption) ?_
          rotate_left
          · intro w hSw
            (try dsimp only at hSw)
            go_simp
            all_goals with_reducible rfl
          try simp only [Act.put, List.getElem_toArray, List.getElem_cons_succ, List.getElem_cons_zero, List.setIfInBounds_toArray, List.set_cons_zero, List.set_cons_succ]
          refine wpAnyH_done (by kernel_rfl) ?_ _
          try simp only [Act.put, List.getElem_toArray, List.getElem_cons_succ, List.getElem_cons_zero, List.setIfInBounds_toArray, List.set_cons_zero, List.set_cons_succ]
          go_wp2_with fail
          go_ret
          refine ⟨?_, HE.out.trans (HX.out.mono HE.out.size)⟩
          unfold showL
          rw [if_neg (by rw [HK.out]; decide), if_neg (by rw [HK.out]; decide), if_pos HK.out]
          rfl
        exact AllReadyH.nil
      refine AllReadyH.cons rfl (fun K hK => ?_) ?_
      · have hb := (Below.refl W1.heap.size W1).alloc (Nat.le_refl _) (.cells #[.string ⟨(hexS x.mask).toArray⟩] 9)
        have hnew : Reads (W1.alloc (.cells #[.string ⟨(hexS x.mask).toArray⟩] 9)) (some ⟨W1.heap.size, 0, none⟩) 1 ([hexS x.mask].map strv) := (Blk.new W1 9 #[.string ⟨(hexS x.mask).toArray⟩]).reads 0 (by simp)
        go_simp
        have HX := Lib.hid (HX.out.trans (hb.mono HX.out.size))
        have HJ := Lib.hid hnew
        clear hb hnew
        refine hK.out _ _ ?_ (fun hHeld => ?_)
        · (try dsimp only)
          exact HS.out _ HX.out
        clear hK K
        try simp only [Act.put, List.getElem_toArray, List.getElem_cons_succ, List.getElem_cons_zero, List.setIfInBounds_toArray, List.set_cons_zero, List.set_cons_succ]
        clear hHeld
        generalize W1.alloc (.cells #[.string ⟨(hexS x.mask).toArray⟩] 9) = W2 at HX HJ ⊢
        have hHeld := HS.out _ HX.out
        refine wpAnyH_ready (rs := [2]) (by kernel_rfl) (by simp) ?_
        refine AllReadyH.cons rfl (fun K hK => ?_) ?_
        · have hb := (Below.refl W2.heap.size W2).alloc (Nat.le_refl _) (.cells #[.int .i64 x.n] 3)
          have hnew : Reads (W2.alloc (.cells #[.int .i64 x.n] 3)) (some ⟨W2.heap.size, 0, none⟩) 1 ([x.n].map zv) := (Blk.new W2 3 #[.int .i64 x.n]).reads 0 (by simp)
          go_simp
          have HX := Lib.hid (HX.out.trans (hb.mono HX.out.size))
          have HJ := Lib.hid (HJ.out.below hb)
          have HI := Lib.hid hnew
          clear hb hnew
          refine hK.out _ _ ?_ (fun hHeld => ?_)
          · (try dsimp only)
            exact HS.out _ HX.out
          clear hK K
          try simp only [Act.put, List.getElem_toArray, List.getElem_cons_succ, List.getElem_cons_zero, List.setIfInBounds_toArray, List.set_cons_zero, List.set_cons_succ]
          clear hHeld
          generalize W2.alloc (.cells #[.int .i64 x.n] 3) = W3 at HX HI HJ ⊢
          have hHeld := HS.out _ HX.out
          refine wpAnyH_ready (rs := [7]) (by kernel_rfl) (by simp) ?_
          refine AllReadyH.cons rfl (fun K hK => ?_) AllReadyH.nil
          go_simp
          refine (ssay_c cutL (by decide) _ 1 _ [x.n] _ 1 _ [hexS x.mask] W3 HI.out (by omega) HJ.out (by omega) HQ.out (HT.out.below HX.out)).mono ?_
          rintro e W4c ⟨rfl, hb0⟩
          have hb := hb0
          clear hb0
          have HX := Lib.hid (HX.out.trans (hb.mono HX.out.size))
          clear hb HI HJ hHeld
          go_wp2_with fail
          refine hK.out _ _ ?_ (fun hHeld => ?_)
          · (try dsimp only)
            exact HS.out _ HX.out
          clear hK K
          try simp only [Act.put, List.getElem_toArray, List.getElem_cons_succ, List.getElem_cons_zero, List.setIfInBounds_toArray, List.set_cons_zero, List.set_cons_succ]
          clear hHeld
          generalize W4c = W4 at HX ⊢
          have hHeld := HS.out _ HX.out
          refine wpAnyH_take (i := 8) (v := ?_) rfl (by kernel_rfl) (by kernel_rfl) (by kernel_rfl) (fun _ _ _ h => h) (Or.inl ⟨by rfl, ?_⟩) (by assumption) ?_
          rotate_left
          · intro w hSw
            (try dsimp only at hSw)
            go_simp
            all_goals with_reducible rfl
          try simp only [Act.put, List.getElem_toArray, List.getElem_cons_succ, List.getElem_cons_zero, List.setIfInBounds_toArray, List.set_cons_zero, List.set_cons_succ]
          refine wpAnyH_done (by kernel_rfl) ?_ _
          try simp only [Act.put, List.getElem_toArray, List.getElem_cons_succ, List.getElem_cons_zero, List.setIfInBounds_toArray, List.set_cons_zero, List.set_cons_succ]
          go_wp2_with fail
          go_ret
          refine ⟨?_, HE.out.trans (HX.out.mono HE.out.size)⟩
          unfold showL
          rw [if_neg (by rw [HK.out]; decide), if_neg (by rw [HK.out]; decide), if_pos HK.out]
          rfl
        exact AllReadyH.nil
      exact AllReadyH.nil
    exact AllReadyH.nil
  by_cases hk3 : x.kind = 3
  · rw [hk3] at hblk k0 ⊢
    have HK := Lib.hid hk3
    clear hk3
    have k2 : (w.alloc (.cells #[.int .i64 3, .int .i64 x.tenant, .int .i64 x.n, .int .i64 x.rk, .int .i64 x.rn, .slice A x.bytes.length c, .slice B x.mask.length d] 36)).cell? ⟨w.heap.size, 2, none⟩ = some (.int .i64 x.n) := hblk.cell 2
    go_enter Tryd.func21, Tryd.ntmps21
    have HE := Lib.hid ((Below.refl w.heap.size w).alloc (Nat.le_refl _) (.cells #[.int .i64 3, .int .i64 x.tenant, .int .i64 x.n, .int .i64 x.rk, .int .i64 x.rn, .slice A x.bytes.length c, .slice B x.mask.length d] 36))
    have HT := Lib.hid (ht.below ((Below.refl _ w).alloc (Nat.le_refl _) (.cells #[.int .i64 3, .int .i64 x.tenant, .int .i64 x.n, .int .i64 x.rk, .int .i64 x.rn, .slice A x.bytes.length c, .slice B x.mask.length d] 36)))
    clear hblk ht hA hB hA2 hB2
    go_upto_region 9 with fail
    generalize w.alloc (.cells #[.int .i64 3, .int .i64 x.tenant, .int .i64 x.n, .int .i64 x.rk, .int .i64 x.rn, .slice A x.bytes.length c, .slice B x.mask.length d] 36) = W0 at HE HT k0 k2 ⊢
    have hnew : Reads (W0.alloc (.cells #[.int .i64 x.n] 3)) (some ⟨W0.heap.size, 0, none⟩) 1 ([x.n].map zv) := (Blk.new W0 3 #[.int .i64 x.n]).reads 0 (by simp)
    have hb0 := (Below.refl W0.heap.size W0).alloc (Nat.le_refl _) (.cells #[.int .i64 x.n] 3)
    go_wp2_with fail
    refine (ssay_c passL (by decide) _ 1 _ [x.n] _ 0 _ [] _ hnew (by omega) (Reads.none_ _) (by omega) (by simp) (HT.out.below hb0)).mono ?_
    rintro e w1 ⟨rfl, hb⟩
    have h1 := hb0.trans (hb.mono hb0.size)
    have HX := Lib.hid (HE.out.trans (h1.mono HE.out.size))
    clear hb HE HT h1 hb0 hnew
    go_wp2_with fail
    go_ret
    refine ⟨?_, HX.out⟩
    unfold showL
    rw [if_neg hk, if_neg hk1, if_neg hk2, if_pos HK.out]
    rfl
  · go_enter Tryd.func21, Tryd.ntmps21
    have HE := Lib.hid ((Below.refl w.heap.size w).alloc (Nat.le_refl _) (.cells #[.int .i64 x.kind, .int .i64 x.tenant, .int .i64 x.n, .int .i64 x.rk, .int .i64 x.rn, .slice A x.bytes.length c, .slice B x.mask.length d] 36))
    clear hblk ht hA hB hA2 hB2
    go_wp2_with fail
    go_ret
    refine ⟨?_, HE.out⟩
    unfold showL
    rw [if_neg hk, if_neg hk1, if_neg hk2, if_neg hk3]
    rfl
end Go.Proofs.YthidjmdcpdhdlaaDoor
