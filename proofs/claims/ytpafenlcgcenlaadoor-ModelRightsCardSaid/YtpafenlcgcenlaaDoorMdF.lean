/- model.New of a config that may be. -/
import Derived.Test.YtpafenlcgcenlaaDoorMdG
import Derived.Deep.RegionHeld3
import Derived.Deep.DrawnRows
namespace Go.Proofs.YtpafenlcgcenlaaDoor
open Go Go.RowKit
set_option linter.unusedVariables false
set_option linter.unusedSimpArgs false
attribute [local go_sem ↓] sldK_seal sbMd_seal sldI_seal sldM_seal sbI_seal sstI_seal
/-- What stands while a Model is made: the Config's box, the Model, the first image. -/
structure NwAt (w0 W : World) (b : Nat) (c : Cf) (l0 l1 : List UInt8) (K : Option Addr) (kc : Nat) (F : Option Addr) (fc : Nat) (S0 : Option Addr) (c0 : Nat) (S1 : Option Addr) (c1 : Nat) : Prop where
  box : Blk W w0.heap.size 27 (c.cells K kc F fc).toArray
  md : MdAt W w0.heap.size b c Mt.zero l0 l1 K kc F fc S0 c0 S1 c1
  bel : Below w0.heap.size w0 W
theorem NwAt.later {w0 W W' : World} {b : Nat} {c : Cf} {l0 l1 : List UInt8} {K F S0 S1 : Option Addr} {kc fc c0 c1 : Nat} (h : NwAt w0 W b c l0 l1 K kc F fc S0 c0 S1 c1) (hb : Below W.heap.size W W') : NwAt w0 W' b c l0 l1 K kc F fc S0 c0 S1 c1 := ⟨h.box.below hb h.box.lt, h.md.below hb, h.bel.trans (hb.mono h.bel.size)⟩
theorem NwAt.set0 {w0 W : World} {b : Nat} {c : Cf} {l0 l1 : List UInt8} {K F S0 S1 : Option Addr} {kc fc c0 c1 : Nat} (h : NwAt w0 W b c l0 l1 K kc F fc S0 c0 S1 c1) {A : Option Addr} {n cc : Nat} {l : List UInt8} (hl : l.length = n) (ho : W.ownsRow w0.heap.size 5 1 (.slice A n cc) n (l.map u8v)) (hf : ∀ k, (Value.slice A n cc).ownBlock = some k → (Value.slice K c.key.length kc).ownBlock ≠ some k ∧ (Value.slice S1 l1.length c1).ownBlock ≠ some k) : NwAt w0 (W.setCell ⟨b, 114, none⟩ (.slice A n cc)) b c l l1 K kc F fc A cc S1 c1 :=
  ⟨h.box.only ((Only.refl [b] W).setCell (.inl (by simp)) _) (by have := Blk.ne_ h.box h.md.blk (by decide); simpa using this), h.md.setS0 hl ho hf, h.bel.setCell (p := ⟨b, 114, none⟩) h.md.ge _⟩
theorem NwAt.set1 {w0 W : World} {b : Nat} {c : Cf} {l0 l1 : List UInt8} {K F S0 S1 : Option Addr} {kc fc c0 c1 : Nat} (h : NwAt w0 W b c l0 l1 K kc F fc S0 c0 S1 c1) {A : Option Addr} {n cc : Nat} {l : List UInt8} (hl : l.length = n) (ho : W.ownsRow w0.heap.size 5 1 (.slice A n cc) n (l.map u8v)) (hf : ∀ k, (Value.slice A n cc).ownBlock = some k → (Value.slice K c.key.length kc).ownBlock ≠ some k ∧ (Value.slice S0 l0.length c0).ownBlock ≠ some k) : NwAt w0 (W.setCell ⟨b, 115, none⟩ (.slice A n cc)) b c l0 l K kc F fc S0 c0 A cc :=
  ⟨h.box.only ((Only.refl [b] W).setCell (.inl (by simp)) _) (by have := Blk.ne_ h.box h.md.blk (by decide); simpa using this), h.md.setS1 hl ho hf, h.bel.setCell (p := ⟨b, 115, none⟩) h.md.ge _⟩
theorem NwAt.copy0 {w0 W W' : World} {b g : Nat} {c : Cf} {l0 l1 l2 : List UInt8} {K F S0 S1 : Option Addr} {kc fc c0 c1 : Nat} {cur : Array Value} (h : NwAt w0 W b c l0 l1 K kc F fc S0 c0 S1 c1) (hb : Blk W g 5 cur) (hS : S0 = some ⟨g, 0, none⟩) (ho : Only [g] W W') (hge : w0.heap.size ≤ g) (hl : l2.length = l0.length) (hown : W'.ownsRow w0.heap.size 5 1 (.slice S0 l0.length c0) l0.length (l2.map u8v)) : NwAt w0 W' b c l2 l1 K kc F fc S0 c0 S1 c1 := by
  have hk : (Value.slice S0 l0.length c0).ownBlock = some g := by rw [hS]; rfl
  have n1 := Blk.ne_ h.box hb (by decide)
  have n2 := Blk.ne_ h.md.blk hb (by decide)
  have a0 := h.md.ap0 g hk
  refine ⟨h.box.only ho (by simpa using n1), ⟨by rw [hl]; exact h.md.blk.only ho (by simpa using n2), h.md.ok, own_only h.md.key ho ?_, by rw [hl]; exact hown, own_only h.md.s1 ho ?_, h.md.ge, ?_, h.md.ap1⟩, ho.below h.bel h.bel.size (by intro k hk; simp at hk; omega)⟩
  · intro k hk2; simp only [List.mem_cons, List.not_mem_nil, or_false]; rintro rfl; exact a0.1 hk2
  · intro k hk2; simp only [List.mem_cons, List.not_mem_nil, or_false]; rintro rfl; exact a0.2 hk2
  · intro k hk2
    exact h.md.ap0 k (by rw [hS] at hk2 ⊢; exact hk2)
theorem Cf.slot_b {c : Cf} (h : c.right = true) : 1 ≤ c.slot ∧ c.slot ≤ 6 := by
  unfold Cf.right at h
  simp only [Bool.and_eq_true, decide_eq_true_eq] at h
  omega
theorem Cf.first_b {c : Cf} (h : c.right = true) : 1 ≤ c.first.length ∧ (c.first.length : Int) ≤ c.slot * 320 := by
  unfold Cf.right at h
  simp only [Bool.and_eq_true, decide_eq_true_eq] at h
  omega
def repB (c : Cf) : List UInt8 := List.replicate (c.slot * 320).toNat 255
/-- A new Model's Meta, and its first slot. -/
def newM (c : Cf) : Mt := { Mt.zero with h0 := ⟨1, (c.first.length : Int), sha c.first⟩ }
def newS (c : Cf) : List UInt8 := c.first ++ (repB c).drop c.first.length
set_option maxRecDepth 100000 in
set_option maxHeartbeats 2000000 in
theorem mnew_yes (w : World) (c : Cf) (K : Option Addr) (kc : Nat) (F : Option Addr) (fc : Nat) (hs : c.nm.size ≤ 1000000) (hK : Reads w K c.key.length (c.key.map u8v)) (hkl : c.key.length ≤ 1000) (hF : Reads w F c.first.length (c.first.map u8v)) (hfl : c.first.length ≤ 100000) (hyes : c.right = true) : Calls Tryd.prog 5 #[.agg (c.cells K kc F fc).toArray] w fun e w' => ∃ (b : Nat) (K' : Option Addr) (kc' : Nat) (S0 : Option Addr) (c0 : Nat) (S1 : Option Addr) (c1 : Nat), e = .returned (.pointer (some ⟨b, 0, none⟩)) ∧ MdAt w' w.heap.size b c (newM c) (newS c) (repB c) K' kc' F fc S0 c0 S1 c1 ∧ Below w.heap.size w w' := by
  have hB0 := Blk.new w 27 (c.cells K kc F fc).toArray
  have hb0 : Below w.heap.size w (w.alloc (.cells (c.cells K kc F fc).toArray 27)) := (Below.refl _ _).alloc (Nat.le_refl _) _
  have hld := run_sldK (c.cells_len K kc F fc) (hB0.whole)
  have hri := fun W => cright_c W c K kc F fc hs
  rw [hyes] at hri
  have hsl := Cf.slot_b hyes
  have hfq := Cf.first_b hyes
  have HL := Lib.hid hb0
  have HB0 := Lib.hid hB0
  have HK := Lib.hid hK
  have HF := Lib.hid hF
  clear hB0 hb0 hyes hK hF
  go_enter Tryd.func5, Tryd.ntmps5
  go_wp2_with fail
  refine (hri _).mono ?_
  rintro e w1 ⟨rfl, hb1⟩
  have hB1 := HB0.out.below hb1 HB0.out.lt
  have hL1 := HL.out.trans (hb1.mono HL.out.size)
  have k1 : w1.cell? ⟨w.heap.size, 1, none⟩ = some (.slice K c.key.length kc) := hB1.cell 1
  have HB1 := Lib.hid hB1
  have HL1 := Lib.hid hL1
  clear hb1 hri hld HB0 HL hB1 hL1
  go_wp2_with fail
  refine (clone_c w1 K kc c.key (HK.out.below HL1.out) (by omega)).mono ?_
  rintro e w2 ⟨K2, kc2, rfl, ho2, hb2⟩
  have hB2 := HB1.out.below hb2 HB1.out.lt
  have k1 : w2.cell? ⟨w.heap.size, 1, none⟩ = some (.slice K c.key.length kc) := hB2.cell 1
  have f1 := hB2.frozen 1
  have hB3 : Blk (w2.setCell ⟨w.heap.size, 1, none⟩ (.slice K2 c.key.length kc2)) w.heap.size 27 (c.cells K2 kc2 F fc).toArray := hB2.set_ 1 (.slice K2 c.key.length kc2)
  have hL3 : Below w.heap.size w (w2.setCell ⟨w.heap.size, 1, none⟩ (.slice K2 c.key.length kc2)) := (HL1.out.trans (hb2.mono HL1.out.size)).setCell (Nat.le_refl _) _
  have ho3 := own_setM (own_base ho2 HL1.out.size) hB2 (by decide) (j := 1) (.slice K2 c.key.length kc2)
  have HB3 := Lib.hid hB3
  have HL3 := Lib.hid hL3
  have HO3 := Lib.hid ho3
  clear hB2 hB3 hL3 ho3 ho2 hb2 HB1 HL1
  go_upto_region 4 with fail
  have hB3 := HB3.out
  have hL3 := HL3.out
  have ho3 := HO3.out
  clear HB3 HL3 HO3 k1 f1
  generalize w2.setCell ⟨w.heap.size, 1, none⟩ (.slice K2 c.key.length kc2) = w3 at hB3 hL3 ho3 ⊢
  have hld := run_sldK (c.cells_len K2 kc2 F fc) (hB3.whole)
  have hbd := fun W => run_sbMd (c.cells K2 kc2 F fc) rfl W
  have hmd : NwAt w (w3.alloc (.cells (mdC (c.cells K2 kc2 F fc) Mt.zero (.slice none 0 0) (.slice none 0 0)).toArray 48)) w3.heap.size c [] [] K2 kc2 F fc none 0 none 0 :=
    ⟨hB3.alloc _, ⟨Blk.new w3 _ _, Mt.zero_ok, ho3.alloc _, own_noneM, own_noneM, hL3.size, fun k hk => absurd hk (by simp [Value.ownBlock]), fun k hk => absurd hk (by simp [Value.ownBlock])⟩, hL3.alloc hL3.size _⟩
  have HMD := Lib.hid hmd
  clear hB3 hL3 ho3 hmd
  go_upto_region 5 with fail
  have hmd := HMD.out
  generalize w3.alloc (.cells (mdC (c.cells K2 kc2 F fc) Mt.zero (.slice none 0 0) (.slice none 0 0)).toArray 48) = w4 at hmd ⊢
  generalize w3.heap.size = b at hmd ⊢
  clear HMD hld hbd
  have HMD := Lib.hid hmd
  clear hmd
  go_wp2_with fail
  have hn : (c.slot * 320).toNat ≤ 1920 := by omega
  have hni : IntKind.i64.wrap (c.slot * 320) = c.slot * 320 := IntWalk.i64_in _ (by omega)
  have hnn : (((c.slot * 320).toNat : Nat) : Int) = c.slot * 320 := by omega
  go_loopw [15] (fun i wr => ∃ (k : Nat) (S0 : Option Addr) (c0 : Nat) (S1 : Option Addr) (c1 : Nat), i = .int .i64 k ∧ k ≤ 2 ∧ NwAt w wr b c (if 1 ≤ k then repB c else []) (if 2 ≤ k then repB c else []) K2 kc2 F fc S0 c0 S1 c1) (fun i wr => (match i with | .int _ x => (2 : Int) - x | _ => 0).toNat)
  case atStart => exact ⟨0, none, 0, none, 0, rfl, Nat.zero_le _, HMD.out⟩
  case round =>
    obtain ⟨k, S0, c0, S1, c1, rfl, hk2, hst⟩ := hrel
    have HST := Lib.hid hst
    clear hst
    rcases (by omega : k = 0 ∨ k = 1 ∨ k = 2) with rfl | rfl | rfl
    · go_upto_region 8 with fail
      have hst : NwAt w wr.drew b c [] [] K2 kc2 F fc S0 c0 S1 c1 := HST.out.later ((Below.refl _ _).drew)
      have HS : ∀ W b2 l0 l1 S0 c0 S1 c1, NwAt w W b2 c l0 l1 K2 kc2 F fc S0 c0 S1 c1 → W.cell? ⟨w.heap.size, 2, none⟩ = some (.int .i64 c.slot) := fun W b2 l0 l1 S0 c0 S1 c1 h => h.box.cell 2
      have hs0 := HS _ _ _ _ _ _ _ _ (HST.out.later ((Below.refl _ wr).drew))
      have HSS := Lib.hid HS
      clear hst HS
      refine wp_region_held_drew (S := (fun W => W.cell? ⟨w.heap.size, 2, none⟩ = some (.int .i64 c.slot))) (by kernel_rfl) ?_ (fun hHeld => ?_)
      · exact hs0
      generalize hwd : wr.drew = Wd at hs0 hHeld ⊢
      have hst : NwAt w Wd b c [] [] K2 kc2 F fc S0 c0 S1 c1 := by rw [← hwd]; exact HST.out.later ((Below.refl _ _).drew)
      clear hwd HST
      have HST := Lib.hid hst
      clear hst
      refine wpAnyH_take (i := 0) (v := ?_) rfl (by kernel_rfl) (by kernel_rfl) (by kernel_rfl) (fun _ _ _ h => h) (Or.inl ⟨by rfl, ?_⟩) (by assumption) ?_
      rotate_left
      · intro w hSw
        (try dsimp only at hSw)
        go_simp
        all_goals with_reducible rfl
      try simp only [Act.put, List.getElem_toArray, List.getElem_cons_succ, List.getElem_cons_zero, List.setIfInBounds_toArray, List.set_cons_zero, List.set_cons_succ]
      refine wpAnyH_take (i := 1) (v := ?_) rfl (by kernel_rfl) (by kernel_rfl) (by kernel_rfl) (fun _ _ _ h => h) (Or.inl ⟨by rfl, ?_⟩) (by assumption) ?_
      rotate_left
      · intro w hSw
        (try dsimp only at hSw)
        go_simp
        all_goals with_reducible rfl
      try simp only [Act.put, List.getElem_toArray, List.getElem_cons_succ, List.getElem_cons_zero, List.setIfInBounds_toArray, List.set_cons_zero, List.set_cons_succ]
      refine wpAnyH_take (i := 3) (v := ?_) rfl (by kernel_rfl) (by kernel_rfl) (by kernel_rfl) (fun _ _ _ h => h) (Or.inl ⟨by rfl, ?_⟩) (by assumption) ?_
      rotate_left
      · intro w hSw
        (try dsimp only at hSw)
        go_simp
        all_goals with_reducible rfl
      try simp only [Act.put, List.getElem_toArray, List.getElem_cons_succ, List.getElem_cons_zero, List.setIfInBounds_toArray, List.set_cons_zero, List.set_cons_succ]
      refine wpAnyH_take (i := 4) (v := ?_) rfl (by kernel_rfl) (by kernel_rfl) (by kernel_rfl) (fun _ _ _ h => h) (Or.inl ⟨by rfl, ?_⟩) (by assumption) ?_
      rotate_left
      · intro w hSw
        (try dsimp only at hSw)
        go_simp
        all_goals with_reducible rfl
      try simp only [Act.put, List.getElem_toArray, List.getElem_cons_succ, List.getElem_cons_zero, List.setIfInBounds_toArray, List.set_cons_zero, List.set_cons_succ]
      refine wpAnyH_take (i := 5) (v := ?_) rfl (by kernel_rfl) (by kernel_rfl) (by kernel_rfl) (fun _ _ _ h => h) (Or.inl ⟨by rfl, ?_⟩) (by assumption) ?_
      rotate_left
      · intro w hSw
        (try dsimp only at hSw)
        go_simp
        all_goals with_reducible rfl
      try simp only [Act.put, List.getElem_toArray, List.getElem_cons_succ, List.getElem_cons_zero, List.setIfInBounds_toArray, List.set_cons_zero, List.set_cons_succ]
      refine wpAnyH_take (i := 7) (v := ?_) rfl (by kernel_rfl) (by kernel_rfl) (by kernel_rfl) (fun _ _ _ h => h) (Or.inl ⟨by rfl, ?_⟩) (by assumption) ?_
      rotate_left
      · intro w hSw
        (try dsimp only at hSw)
        go_simp
        all_goals with_reducible rfl
      try simp only [Act.put, List.getElem_toArray, List.getElem_cons_succ, List.getElem_cons_zero, List.setIfInBounds_toArray, List.set_cons_zero, List.set_cons_succ]
      refine wpAnyH_take (i := 8) (v := ?_) rfl (by kernel_rfl) (by kernel_rfl) (by kernel_rfl) (fun _ _ _ h => h) (Or.inl ⟨by rfl, ?_⟩) (by assumption) ?_
      rotate_left
      · intro w hSw
        (try dsimp only at hSw)
        go_simp
        all_goals with_reducible rfl
      try simp only [Act.put, List.getElem_toArray, List.getElem_cons_succ, List.getElem_cons_zero, List.setIfInBounds_toArray, List.set_cons_zero, List.set_cons_succ]
      have hnew := Blk.new Wd 5 #[.int .u8 255]
      have hst : NwAt w (Wd.alloc (.cells #[.int .u8 255] 5)) b c [] [] K2 kc2 F fc S0 c0 S1 c1 := HST.out.later ((Below.refl _ _).alloc (Nat.le_refl _) _)
      clear HST
      have HST := Lib.hid hst
      clear hst
      refine wpAnyH_ready (rs := [2]) (by kernel_rfl) (by simp) ?_
      refine AllReadyH.cons rfl (fun K hK => ?_) AllReadyH.nil
      go_simp
      refine hK.out _ _ ?_ (fun hHeld => ?_)
      · (try dsimp only)
        exact HSS.out _ _ _ _ _ _ _ _ HST.out
      clear hK K
      try simp only [Act.put, List.getElem_toArray, List.getElem_cons_succ, List.getElem_cons_zero, List.setIfInBounds_toArray, List.set_cons_zero, List.set_cons_succ]
      generalize Wd.alloc (.cells #[.int .u8 255] 5) = We at HST hnew hHeld ⊢
      have hcx : We.cell? ⟨Wd.heap.size, 0, none⟩ = some (u8v 255) := hnew.cell 0
      generalize Wd.heap.size = gx at hcx ⊢
      clear hnew
      have hrp := repeat_c We 255 gx 0 1 (c.slot * 320).toNat hcx (by omega)
      rw [hnn] at hrp
      refine wpAnyH_ready (rs := [6]) (by kernel_rfl) (by simp) ?_
      refine AllReadyH.cons rfl (fun K hK => ?_) AllReadyH.nil
      go_simp
      refine hrp.mono ?_
      rintro e w5 ⟨rfl, hrb, hb5⟩
      have hfr := HST.out.md.fresh We.heap.size (Nat.le_refl _)
      have HFR := Lib.hid hfr
      clear hfr
      have ho5 := own_rep hrb HST.out.bel.size (by unfold maxLen; omega)
      have hst := HST.out.later hb5
      clear HST
      have HST := Lib.hid hst
      have HO5 := Lib.hid ho5
      clear hst hrb hb5 ho5 hrp hcx
      go_wp2_with fail
      refine hK.out _ _ ?_ (fun hHeld => ?_)
      · (try dsimp only)
        exact HSS.out _ _ _ _ _ _ _ _ HST.out
      clear hK K
      try simp only [Act.put, List.getElem_toArray, List.getElem_cons_succ, List.getElem_cons_zero, List.setIfInBounds_toArray, List.set_cons_zero, List.set_cons_succ]
      refine wpAnyH_take (i := 9) (v := ?_) rfl (by kernel_rfl) (by kernel_rfl) (by kernel_rfl) (fun _ _ _ h => h) (Or.inl ⟨by rfl, ?_⟩) (by assumption) ?_
      rotate_left
      · intro w hSw
        (try dsimp only at hSw)
        go_simp
        all_goals with_reducible rfl
      try simp only [Act.put, List.getElem_toArray, List.getElem_cons_succ, List.getElem_cons_zero, List.setIfInBounds_toArray, List.set_cons_zero, List.set_cons_succ]
      have q0 := HST.out.md.cell0
      have fz := HST.out.md.blk.frozen 114
      have hst := HST.out.set0 (l := repB c) List.length_replicate HO5.out (fun k hk => (show We.heap.size = k by simpa [Value.ownBlock] using hk) ▸ ⟨HFR.out.1, HFR.out.2.2⟩)
      clear HST
      have HST := Lib.hid hst
      clear hst HO5
      refine wpAnyH_ready (rs := [10]) (by kernel_rfl) (by simp) ?_
      refine AllReadyH.cons rfl (fun K hK => ?_) AllReadyH.nil
      go_simp
      refine hK.out _ _ ?_ (fun hHeld => ?_)
      · (try dsimp only)
        exact HSS.out _ _ _ _ _ _ _ _ HST.out
      clear hK K
      try simp only [Act.put, List.getElem_toArray, List.getElem_cons_succ, List.getElem_cons_zero, List.setIfInBounds_toArray, List.set_cons_zero, List.set_cons_succ]
      refine wpAnyH_done (by kernel_rfl) ?_ _
      try simp only [Act.put, List.getElem_toArray, List.getElem_cons_succ, List.getElem_cons_zero, List.setIfInBounds_toArray, List.set_cons_zero, List.set_cons_succ]
      go_wp2_with fail
      go_roundw
      case rel => exact ⟨1, _, _, _, _, rfl, by omega, HST.out⟩
      case measure =>
        dsimp only
        omega
    · go_upto_region 8 with fail
      have hst : NwAt w wr.drew b c (repB c) [] K2 kc2 F fc S0 c0 S1 c1 := HST.out.later ((Below.refl _ _).drew)
      have HS : ∀ W b2 l0 l1 S0 c0 S1 c1, NwAt w W b2 c l0 l1 K2 kc2 F fc S0 c0 S1 c1 → W.cell? ⟨w.heap.size, 2, none⟩ = some (.int .i64 c.slot) := fun W b2 l0 l1 S0 c0 S1 c1 h => h.box.cell 2
      have hs0 := HS _ _ _ _ _ _ _ _ (HST.out.later ((Below.refl _ wr).drew))
      have HSS := Lib.hid HS
      clear hst HS
      refine wp_region_held_drew (S := (fun W => W.cell? ⟨w.heap.size, 2, none⟩ = some (.int .i64 c.slot))) (by kernel_rfl) ?_ (fun hHeld => ?_)
      · exact hs0
      generalize hwd : wr.drew = Wd at hs0 hHeld ⊢
      have hst : NwAt w Wd b c (repB c) [] K2 kc2 F fc S0 c0 S1 c1 := by rw [← hwd]; exact HST.out.later ((Below.refl _ _).drew)
      clear hwd HST
      have HST := Lib.hid hst
      clear hst
      refine wpAnyH_take (i := 0) (v := ?_) rfl (by kernel_rfl) (by kernel_rfl) (by kernel_rfl) (fun _ _ _ h => h) (Or.inl ⟨by rfl, ?_⟩) (by assumption) ?_
      rotate_left
      · intro w hSw
        (try dsimp only at hSw)
        go_simp
        all_goals with_reducible rfl
      try simp only [Act.put, List.getElem_toArray, List.getElem_cons_succ, List.getElem_cons_zero, List.setIfInBounds_toArray, List.set_cons_zero, List.set_cons_succ]
      refine wpAnyH_take (i := 1) (v := ?_) rfl (by kernel_rfl) (by kernel_rfl) (by kernel_rfl) (fun _ _ _ h => h) (Or.inl ⟨by rfl, ?_⟩) (by assumption) ?_
      rotate_left
      · intro w hSw
        (try dsimp only at hSw)
        go_simp
        all_goals with_reducible rfl
      try simp only [Act.put, List.getElem_toArray, List.getElem_cons_succ, List.getElem_cons_zero, List.setIfInBounds_toArray, List.set_cons_zero, List.set_cons_succ]
      refine wpAnyH_take (i := 3) (v := ?_) rfl (by kernel_rfl) (by kernel_rfl) (by kernel_rfl) (fun _ _ _ h => h) (Or.inl ⟨by rfl, ?_⟩) (by assumption) ?_
      rotate_left
      · intro w hSw
        (try dsimp only at hSw)
        go_simp
        all_goals with_reducible rfl
      try simp only [Act.put, List.getElem_toArray, List.getElem_cons_succ, List.getElem_cons_zero, List.setIfInBounds_toArray, List.set_cons_zero, List.set_cons_succ]
      refine wpAnyH_take (i := 4) (v := ?_) rfl (by kernel_rfl) (by kernel_rfl) (by kernel_rfl) (fun _ _ _ h => h) (Or.inl ⟨by rfl, ?_⟩) (by assumption) ?_
      rotate_left
      · intro w hSw
        (try dsimp only at hSw)
        go_simp
        all_goals with_reducible rfl
      try simp only [Act.put, List.getElem_toArray, List.getElem_cons_succ, List.getElem_cons_zero, List.setIfInBounds_toArray, List.set_cons_zero, List.set_cons_succ]
      refine wpAnyH_take (i := 5) (v := ?_) rfl (by kernel_rfl) (by kernel_rfl) (by kernel_rfl) (fun _ _ _ h => h) (Or.inl ⟨by rfl, ?_⟩) (by assumption) ?_
      rotate_left
      · intro w hSw
        (try dsimp only at hSw)
        go_simp
        all_goals with_reducible rfl
      try simp only [Act.put, List.getElem_toArray, List.getElem_cons_succ, List.getElem_cons_zero, List.setIfInBounds_toArray, List.set_cons_zero, List.set_cons_succ]
      refine wpAnyH_take (i := 7) (v := ?_) rfl (by kernel_rfl) (by kernel_rfl) (by kernel_rfl) (fun _ _ _ h => h) (Or.inl ⟨by rfl, ?_⟩) (by assumption) ?_
      rotate_left
      · intro w hSw
        (try dsimp only at hSw)
        go_simp
        all_goals with_reducible rfl
      try simp only [Act.put, List.getElem_toArray, List.getElem_cons_succ, List.getElem_cons_zero, List.setIfInBounds_toArray, List.set_cons_zero, List.set_cons_succ]
      refine wpAnyH_take (i := 8) (v := ?_) rfl (by kernel_rfl) (by kernel_rfl) (by kernel_rfl) (fun _ _ _ h => h) (Or.inl ⟨by rfl, ?_⟩) (by assumption) ?_
      rotate_left
      · intro w hSw
        (try dsimp only at hSw)
        go_simp
        all_goals with_reducible rfl
      try simp only [Act.put, List.getElem_toArray, List.getElem_cons_succ, List.getElem_cons_zero, List.setIfInBounds_toArray, List.set_cons_zero, List.set_cons_succ]
      have hnew := Blk.new Wd 5 #[.int .u8 255]
      have hst : NwAt w (Wd.alloc (.cells #[.int .u8 255] 5)) b c (repB c) [] K2 kc2 F fc S0 c0 S1 c1 := HST.out.later ((Below.refl _ _).alloc (Nat.le_refl _) _)
      clear HST
      have HST := Lib.hid hst
      clear hst
      refine wpAnyH_ready (rs := [2]) (by kernel_rfl) (by simp) ?_
      refine AllReadyH.cons rfl (fun K hK => ?_) AllReadyH.nil
      go_simp
      refine hK.out _ _ ?_ (fun hHeld => ?_)
      · (try dsimp only)
        exact HSS.out _ _ _ _ _ _ _ _ HST.out
      clear hK K
      try simp only [Act.put, List.getElem_toArray, List.getElem_cons_succ, List.getElem_cons_zero, List.setIfInBounds_toArray, List.set_cons_zero, List.set_cons_succ]
      generalize Wd.alloc (.cells #[.int .u8 255] 5) = We at HST hnew hHeld ⊢
      have hcx : We.cell? ⟨Wd.heap.size, 0, none⟩ = some (u8v 255) := hnew.cell 0
      generalize Wd.heap.size = gx at hcx ⊢
      clear hnew
      have hrp := repeat_c We 255 gx 0 1 (c.slot * 320).toNat hcx (by omega)
      rw [hnn] at hrp
      refine wpAnyH_ready (rs := [6]) (by kernel_rfl) (by simp) ?_
      refine AllReadyH.cons rfl (fun K hK => ?_) AllReadyH.nil
      go_simp
      refine hrp.mono ?_
      rintro e w5 ⟨rfl, hrb, hb5⟩
      have hfr := HST.out.md.fresh We.heap.size (Nat.le_refl _)
      have HFR := Lib.hid hfr
      clear hfr
      have ho5 := own_rep hrb HST.out.bel.size (by unfold maxLen; omega)
      have hst := HST.out.later hb5
      clear HST
      have HST := Lib.hid hst
      have HO5 := Lib.hid ho5
      clear hst hrb hb5 ho5 hrp hcx
      go_wp2_with fail
      refine hK.out _ _ ?_ (fun hHeld => ?_)
      · (try dsimp only)
        exact HSS.out _ _ _ _ _ _ _ _ HST.out
      clear hK K
      try simp only [Act.put, List.getElem_toArray, List.getElem_cons_succ, List.getElem_cons_zero, List.setIfInBounds_toArray, List.set_cons_zero, List.set_cons_succ]
      refine wpAnyH_take (i := 9) (v := ?_) rfl (by kernel_rfl) (by kernel_rfl) (by kernel_rfl) (fun _ _ _ h => h) (Or.inl ⟨by rfl, ?_⟩) (by assumption) ?_
      rotate_left
      · intro w hSw
        (try dsimp only at hSw)
        go_simp
        all_goals with_reducible rfl
      try simp only [Act.put, List.getElem_toArray, List.getElem_cons_succ, List.getElem_cons_zero, List.setIfInBounds_toArray, List.set_cons_zero, List.set_cons_succ]
      have q0 := HST.out.md.cell1
      have fz := HST.out.md.blk.frozen 115
      have hst := HST.out.set1 (l := repB c) List.length_replicate HO5.out (fun k hk => (show We.heap.size = k by simpa [Value.ownBlock] using hk) ▸ ⟨HFR.out.1, HFR.out.2.1⟩)
      clear HST
      have HST := Lib.hid hst
      clear hst HO5
      refine wpAnyH_ready (rs := [10]) (by kernel_rfl) (by simp) ?_
      refine AllReadyH.cons rfl (fun K hK => ?_) AllReadyH.nil
      go_simp
      refine hK.out _ _ ?_ (fun hHeld => ?_)
      · (try dsimp only)
        exact HSS.out _ _ _ _ _ _ _ _ HST.out
      clear hK K
      try simp only [Act.put, List.getElem_toArray, List.getElem_cons_succ, List.getElem_cons_zero, List.setIfInBounds_toArray, List.set_cons_zero, List.set_cons_succ]
      refine wpAnyH_done (by kernel_rfl) ?_ _
      try simp only [Act.put, List.getElem_toArray, List.getElem_cons_succ, List.getElem_cons_zero, List.setIfInBounds_toArray, List.set_cons_zero, List.set_cons_succ]
      go_wp2_with fail
      go_roundw
      case rel => exact ⟨2, _, _, _, _, rfl, by omega, HST.out⟩
      case measure =>
        dsimp only
        omega
    · rw [if_pos (by omega), if_pos (by omega)] at HST
      have hrl : (repB c).length = (c.slot * 320).toNat := List.length_replicate
      have HRL := Lib.hid hrl
      obtain ⟨g0, cap, cur, hv, hge, hcell, hncap, hcm, hcs, htk⟩ : ∃ g cap cur, Value.slice S0 (repB c).length c0 = .slice (some ⟨g, 0, none⟩) (repB c).length cap ∧ w.heap.size ≤ g ∧ wr.heap[g]? = some (.cells cur 5 (0, 0)) ∧ (repB c).length ≤ cap ∧ cap ≤ maxLen ∧ cur.size = cap * 1 ∧ cur.toList.take ((repB c).length * 1) = (repB c).map u8v := by
        rcases HST.out.md.s0.2 with ⟨_, h0⟩ | h
        · omega
        · exact h
      injection hv with e1 _ e2
      subst e1 e2
      clear hrl
      go_upto_region 10 with fail
      have hs0 : wr.drew.cell? ⟨b, 114, none⟩ = some (.slice (some ⟨g0, 0, none⟩) (repB c).length c0) ∧ wr.drew.cell? ⟨w.heap.size, 6, none⟩ = some (.slice F c.first.length fc) := ⟨HST.out.md.cell0, HST.out.box.cell 6⟩
      refine wp_region_held_drew (S := (fun W => W.cell? ⟨b, 114, none⟩ = some (.slice (some ⟨g0, 0, none⟩) (repB c).length c0) ∧ W.cell? ⟨w.heap.size, 6, none⟩ = some (.slice F c.first.length fc))) (by kernel_rfl) ?_ (fun hHeld => ?_)
      · exact hs0
      generalize hwd : wr.drew = Wd at hs0 hHeld ⊢
      have hst := HST.out.later ((Below.refl _ wr).drew)
      have hcd : wr.drew.heap[g0]? = some (.cells cur 5 (0, 0)) := hcell
      rw [hwd] at hst hcd
      clear HST hwd
      have HST := Lib.hid hst
      clear hst hcell
      refine wpAnyH_take (i := 0) (v := ?_) rfl (by kernel_rfl) (by kernel_rfl) (by kernel_rfl) (fun _ _ _ h => h) (Or.inl ⟨by rfl, ?_⟩) (by assumption) ?_
      rotate_left
      · intro w hSw
        (try dsimp only at hSw)
        go_simp
        all_goals with_reducible rfl
      try simp only [Act.put, List.getElem_toArray, List.getElem_cons_succ, List.getElem_cons_zero, List.setIfInBounds_toArray, List.set_cons_zero, List.set_cons_succ]
      refine wpAnyH_take (i := 1) (v := ?_) rfl (by kernel_rfl) (by kernel_rfl) (by kernel_rfl) (fun _ _ _ h => h) (Or.inl ⟨by rfl, ?_⟩) (by assumption) ?_
      rotate_left
      · intro w hSw
        (try dsimp only at hSw)
        go_simp
        all_goals with_reducible rfl
      try simp only [Act.put, List.getElem_toArray, List.getElem_cons_succ, List.getElem_cons_zero, List.setIfInBounds_toArray, List.set_cons_zero, List.set_cons_succ]
      refine wpAnyH_take (i := 2) (v := ?_) rfl (by kernel_rfl) (by kernel_rfl) (by kernel_rfl) (fun _ _ _ h => h) (Or.inl ⟨by rfl, ?_⟩) (by assumption) ?_
      rotate_left
      · intro w hSw
        (try dsimp only at hSw)
        go_simp
        all_goals with_reducible rfl
      try simp only [Act.put, List.getElem_toArray, List.getElem_cons_succ, List.getElem_cons_zero, List.setIfInBounds_toArray, List.set_cons_zero, List.set_cons_succ]
      refine wpAnyH_take (i := 3) (v := ?_) rfl (by kernel_rfl) (by kernel_rfl) (by kernel_rfl) (fun _ _ _ h => h) (Or.inl ⟨by rfl, ?_⟩) (by assumption) ?_
      rotate_left
      · intro w hSw
        (try dsimp only at hSw)
        go_simp
        all_goals with_reducible rfl
      try simp only [Act.put, List.getElem_toArray, List.getElem_cons_succ, List.getElem_cons_zero, List.setIfInBounds_toArray, List.set_cons_zero, List.set_cons_succ]
      refine wpAnyH_take (i := 4) (v := ?_) rfl (by kernel_rfl) (by kernel_rfl) (by kernel_rfl) (fun _ _ _ h => h) (Or.inl ⟨by rfl, ?_⟩) (by assumption) ?_
      rotate_left
      · intro w hSw
        (try dsimp only at hSw)
        go_simp
        all_goals with_reducible rfl
      try simp only [Act.put, List.getElem_toArray, List.getElem_cons_succ, List.getElem_cons_zero, List.setIfInBounds_toArray, List.set_cons_zero, List.set_cons_succ]
      refine wpAnyH_take (i := 5) (v := ?_) rfl (by kernel_rfl) (by kernel_rfl) (by kernel_rfl) (fun _ _ _ h => h) (Or.inl ⟨by rfl, ?_⟩) (by assumption) ?_
      rotate_left
      · intro w hSw
        (try dsimp only at hSw)
        go_simp
        all_goals with_reducible rfl
      try simp only [Act.put, List.getElem_toArray, List.getElem_cons_succ, List.getElem_cons_zero, List.setIfInBounds_toArray, List.set_cons_zero, List.set_cons_succ]
      refine wpAnyH_take (i := 6) (v := ?_) rfl (by kernel_rfl) (by kernel_rfl) (by kernel_rfl) (fun _ _ _ h => h) (Or.inl ⟨by rfl, ?_⟩) (by assumption) ?_
      rotate_left
      · intro w hSw
        (try dsimp only at hSw)
        go_simp
        all_goals with_reducible rfl
      try simp only [Act.put, List.getElem_toArray, List.getElem_cons_succ, List.getElem_cons_zero, List.setIfInBounds_toArray, List.set_cons_zero, List.set_cons_succ]
      refine wpAnyH_ready (rs := [7]) (by kernel_rfl) (by simp) ?_
      refine AllReadyH.cons rfl (fun K hK => ?_) AllReadyH.nil
      refine step_copy_only rfl (.tmp 33) (.tmp 35) 25 25 (by rfl) 5 Tryd.underlying25 info_s8n (some ⟨g0, 0, none⟩) F (repB c).length c0 c.first.length fc (by rfl) (by rfl) g0 0 cur.toList 5 (by rw [Array.toArray_toList]; exact hcd) (c.first.map u8v) (by rw [List.length_map]; exact (Nat.min_eq_left (by have := HRL.out; omega)).symm) (fun h => ⟨rfl, srcfN (HF.out.below HST.out.bel) h⟩) (by rw [List.length_map, Array.length_toList]; have := HRL.out; omega) (u8v_one _) ?_
      intro w6 hg6 ho6
      have how := own_splice HST.out.md.s0 (by rw [Array.toArray_toList]; exact hcd) (by have := HRL.out; omega) hg6
      rw [List.take_zero, List.nil_append, Nat.zero_add] at how
      have hst := HST.out.copy0 (cur := cur) hcd rfl ho6 hge (by rw [List.length_append, List.length_drop]; have := HRL.out; omega) how
      clear HST
      have HST := Lib.hid hst
      clear hst how
      refine hK.out _ _ ?_ (fun hHeld => ?_)
      · (try dsimp only)
        exact ⟨by first | exact HST.out.md.cell0 | (have q := HST.out.md.cell0; rw [List.length_append, List.length_drop, HRL.out, Nat.add_sub_cancel' (by omega)] at q; rw [HRL.out]; exact q), HST.out.box.cell 6⟩
      clear hK K
      try simp only [Act.put, List.getElem_toArray, List.getElem_cons_succ, List.getElem_cons_zero, List.setIfInBounds_toArray, List.set_cons_zero, List.set_cons_succ]
      refine wpAnyH_done (by kernel_rfl) ?_ _
      try simp only [Act.put, List.getElem_toArray, List.getElem_cons_succ, List.getElem_cons_zero, List.setIfInBounds_toArray, List.set_cons_zero, List.set_cons_succ]
      go_upto_region 11 with fail
      clear hs0
      have hs1 : w6.drew.cell? ⟨w.heap.size, 6, none⟩ = some (.slice F c.first.length fc) := HST.out.box.cell 6
      have hbd := fun W => run_sbI 1 (c.first.length : Int) (sha c.first) (sha_len c.first) W
      refine wp_region_held_drew (S := (fun W => W.cell? ⟨w.heap.size, 6, none⟩ = some (.slice F c.first.length fc))) (by kernel_rfl) ?_ (fun hHeld => ?_)
      · exact hs1
      generalize hwd : w6.drew = We at hs1 hHeld ⊢
      have hst := HST.out.later ((Below.refl _ w6).drew)
      rw [hwd] at hst
      clear HST hwd
      have HST := Lib.hid hst
      clear hst
      refine wpAnyH_take (i := 0) (v := ?_) rfl (by kernel_rfl) (by kernel_rfl) (by kernel_rfl) (fun _ _ _ h => h) (Or.inl ⟨by rfl, ?_⟩) (by assumption) ?_
      rotate_left
      · intro w hSw
        (try dsimp only at hSw)
        go_simp
        all_goals with_reducible rfl
      try simp only [Act.put, List.getElem_toArray, List.getElem_cons_succ, List.getElem_cons_zero, List.setIfInBounds_toArray, List.set_cons_zero, List.set_cons_succ]
      refine wpAnyH_take (i := 1) (v := ?_) rfl (by kernel_rfl) (by kernel_rfl) (by kernel_rfl) (fun _ _ _ h => h) (Or.inl ⟨by rfl, ?_⟩) (by assumption) ?_
      rotate_left
      · intro w hSw
        (try dsimp only at hSw)
        go_simp
        all_goals with_reducible rfl
      try simp only [Act.put, List.getElem_toArray, List.getElem_cons_succ, List.getElem_cons_zero, List.setIfInBounds_toArray, List.set_cons_zero, List.set_cons_succ]
      refine wpAnyH_take (i := 2) (v := ?_) rfl (by kernel_rfl) (by kernel_rfl) (by kernel_rfl) (fun _ _ _ h => h) (Or.inl ⟨by rfl, ?_⟩) (by assumption) ?_
      rotate_left
      · intro w hSw
        (try dsimp only at hSw)
        go_simp
        all_goals with_reducible rfl
      try simp only [Act.put, List.getElem_toArray, List.getElem_cons_succ, List.getElem_cons_zero, List.setIfInBounds_toArray, List.set_cons_zero, List.set_cons_succ]
      refine wpAnyH_take (i := 3) (v := ?_) rfl (by kernel_rfl) (by kernel_rfl) (by kernel_rfl) (fun _ _ _ h => h) (Or.inl ⟨by rfl, ?_⟩) (by assumption) ?_
      rotate_left
      · intro w hSw
        (try dsimp only at hSw)
        go_simp
        all_goals with_reducible rfl
      try simp only [Act.put, List.getElem_toArray, List.getElem_cons_succ, List.getElem_cons_zero, List.setIfInBounds_toArray, List.set_cons_zero, List.set_cons_succ]
      refine wpAnyH_take (i := 4) (v := ?_) rfl (by kernel_rfl) (by kernel_rfl) (by kernel_rfl) (fun _ _ _ h => h) (Or.inl ⟨by rfl, ?_⟩) (by assumption) ?_
      rotate_left
      · intro w hSw
        (try dsimp only at hSw)
        go_simp
        all_goals with_reducible rfl
      try simp only [Act.put, List.getElem_toArray, List.getElem_cons_succ, List.getElem_cons_zero, List.setIfInBounds_toArray, List.set_cons_zero, List.set_cons_succ]
      refine wpAnyH_take (i := 5) (v := ?_) rfl (by kernel_rfl) (by kernel_rfl) (by kernel_rfl) (fun _ _ _ h => h) (Or.inl ⟨by rfl, ?_⟩) (by assumption) ?_
      rotate_left
      · intro w hSw
        (try dsimp only at hSw)
        go_simp
        all_goals with_reducible rfl
      try simp only [Act.put, List.getElem_toArray, List.getElem_cons_succ, List.getElem_cons_zero, List.setIfInBounds_toArray, List.set_cons_zero, List.set_cons_succ]
      refine wpAnyH_take (i := 8) (v := ?_) rfl (by kernel_rfl) (by kernel_rfl) (by kernel_rfl) (fun _ _ _ h => h) (Or.inl ⟨by rfl, ?_⟩) (by assumption) ?_
      rotate_left
      · intro w hSw
        (try dsimp only at hSw)
        go_simp
        all_goals with_reducible rfl
      try simp only [Act.put, List.getElem_toArray, List.getElem_cons_succ, List.getElem_cons_zero, List.setIfInBounds_toArray, List.set_cons_zero, List.set_cons_succ]
      refine wpAnyH_take (i := 9) (v := ?_) rfl (by kernel_rfl) (by kernel_rfl) (by kernel_rfl) (fun _ _ _ h => h) (Or.inl ⟨by rfl, ?_⟩) (by assumption) ?_
      rotate_left
      · intro w hSw
        (try dsimp only at hSw)
        go_simp
        all_goals with_reducible rfl
      try simp only [Act.put, List.getElem_toArray, List.getElem_cons_succ, List.getElem_cons_zero, List.setIfInBounds_toArray, List.set_cons_zero, List.set_cons_succ]
      refine wpAnyH_take (i := 10) (v := ?_) rfl (by kernel_rfl) (by kernel_rfl) (by kernel_rfl) (fun _ _ _ h => h) (Or.inl ⟨by rfl, ?_⟩) (by assumption) ?_
      rotate_left
      · intro w hSw
        (try dsimp only at hSw)
        go_simp
        all_goals with_reducible rfl
      try simp only [Act.put, List.getElem_toArray, List.getElem_cons_succ, List.getElem_cons_zero, List.setIfInBounds_toArray, List.set_cons_zero, List.set_cons_succ]
      refine wpAnyH_ready (rs := [6]) (by kernel_rfl) (by simp) ?_
      refine AllReadyH.cons rfl (fun K hK => ?_) AllReadyH.nil
      go_simp
      refine (sum_c _ F fc c.first (HF.out.below HST.out.bel) (by omega)).mono ?_
      rintro e w7 ⟨rfl, hb7⟩
      have hst := HST.out.later hb7
      clear HST
      have HST := Lib.hid hst
      clear hst hb7
      go_wp2_with fail
      refine hK.out _ _ ?_ (fun hHeld => ?_)
      · (try dsimp only)
        first | exact HBX.out.cell 6 | exact HST.out.box.cell 6
      clear hK K
      try simp only [Act.put, List.getElem_toArray, List.getElem_cons_succ, List.getElem_cons_zero, List.setIfInBounds_toArray, List.set_cons_zero, List.set_cons_succ]
      refine wpAnyH_take (i := 7) (v := ?_) rfl (by kernel_rfl) (by kernel_rfl) (by kernel_rfl) (fun _ _ _ h => h) (Or.inl ⟨by rfl, ?_⟩) (by assumption) ?_
      rotate_left
      · intro w hSw
        (try dsimp only at hSw)
        go_simp
        all_goals with_reducible rfl
      try simp only [Act.put, List.getElem_toArray, List.getElem_cons_succ, List.getElem_cons_zero, List.setIfInBounds_toArray, List.set_cons_zero, List.set_cons_succ]
      refine wpAnyH_take (i := 11) (v := ?_) rfl (by kernel_rfl) (by kernel_rfl) (by kernel_rfl) (fun _ _ _ h => h) (Or.inl ⟨by rfl, ?_⟩) (by assumption) ?_
      rotate_left
      · intro w hSw
        (try dsimp only at hSw)
        go_simp
        all_goals with_reducible rfl
      try simp only [Act.put, List.getElem_toArray, List.getElem_cons_succ, List.getElem_cons_zero, List.setIfInBounds_toArray, List.set_cons_zero, List.set_cons_succ]
      have hsi := run_sstI HST.out.md.blk 8 (by rw [List.size_toArray, mdC_len (c.cells_len K2 kc2 F fc) Mt.zero_ok]; omega) ⟨1, (c.first.length : Int), sha c.first⟩ (sha_len c.first)
      have hbx := HST.out.box.only (only_setCells (Img.cells ⟨1, (c.first.length : Int), sha c.first⟩) 8 w7 (Only.refl [b] w7)) (by have := Blk.ne_ HST.out.box HST.out.md.blk (by decide); simpa using this)
      have hmd := HST.out.md.putH0 ⟨1, (c.first.length : Int), sha c.first⟩ (sha_len c.first)
      have hbe := below_setCells HST.out.md.ge (Img.cells ⟨1, (c.first.length : Int), sha c.first⟩) 8 w7 HST.out.bel
      have HBX := Lib.hid hbx
      have HMD2 := Lib.hid hmd
      have HBE := Lib.hid hbe
      clear hbx hmd hbe
      refine wpAnyH_ready (rs := [12]) (by kernel_rfl) (by simp) ?_
      refine AllReadyH.cons rfl (fun K hK => ?_) AllReadyH.nil
      go_simp
      refine hK.out _ _ ?_ (fun hHeld => ?_)
      · (try dsimp only)
        first | exact HBX.out.cell 6 | exact HST.out.box.cell 6
      clear hK K
      try simp only [Act.put, List.getElem_toArray, List.getElem_cons_succ, List.getElem_cons_zero, List.setIfInBounds_toArray, List.set_cons_zero, List.set_cons_succ]
      refine wpAnyH_done (by kernel_rfl) ?_ _
      try simp only [Act.put, List.getElem_toArray, List.getElem_cons_succ, List.getElem_cons_zero, List.setIfInBounds_toArray, List.set_cons_zero, List.set_cons_succ]
      go_wp2_with fail
      go_ret
      exact ⟨b, K2, kc2, _, _, _, _, rfl, HMD2.out, HBE.out⟩
end Go.Proofs.YtpafenlcgcenlaaDoor
