/- The reference: PutCell, PutRing. -/
import Derived.Test.YtlchlcjahndjgaaGreatRfM
import Derived.Test.YtlchlcjahndjgaaGreatRfL
namespace Go.Proofs.YtlchlcjahndjgaaGreat
open Go.RowKit
set_option linter.unusedVariables false
set_option linter.unusedSimpArgs false
set_option maxRecDepth 100000 in
theorem rputcell_c (w : World) (seq : Nat) (A : Option Addr) (n c : Nat) (b : List UInt8) (hr : Reads w A n (b.map u8v)) (h1 : 1 ≤ seq) (h2 : seq ≤ 2147483647) (hn : n ≤ 156) :
    Calls Tryz.prog 40 #[.int .i64 (seq : Int), .slice A n c] w fun e w' => ∃ A' c', e = .returned (.tuple #[.slice A' 320 c', .int .i64 0]) ∧ w'.ownsRow w.heap.size 5 1 (.slice A' 320 c') 320 ((cellP seq b).map u8v) ∧ Below w.heap.size w w' := by
  have HR := Lib.hid hr
  have hlt : 0 < n → ∀ a, A = some a → a.block < w.heap.size := fun h0 a ha => by
    obtain ⟨b', o', e, hb, _⟩ := hr.2 h0
    rw [ha] at e; cases e; exact hb
  have hu : IntKind.u64.wrap (seq : Int) = (seq : Int) := by simp [IntKind.wrap, IntKind.bits, IntKind.signed]; omega
  have HU := Lib.hid hu
  clear hr hu
  go_enter Tryz.func40, Tryz.ntmps40
  go_wp2_with fail
  have hw0 : WwAt w.heap.size (w.alloc (.cells #[.slice none 0 0] 103)) w.heap.size [] := ⟨none, 0, Blk.new w _ _, World.ownsRow_nil _ _ _ _⟩
  refine (rwnum_c w.heap.size _ w.heap.size [] (seq : Int) seq 4 HU.out (by omega) (by omega) (by omega) (Nat.le_refl _) (by simp) hw0).mono ?_
  rintro e w1 ⟨rfl, hw1, hb1⟩
  have hb01 : Below w.heap.size w w1 := ((Below.refl _ w).alloc (Nat.le_refl _) _).trans hb1
  go_wp2_with fail
  refine (rwraw_c w.heap.size w1 w.heap.size ([] ++ be seq 4) A n c b 156 (HR.out.below hb01) (by omega) (by omega) (Nat.le_refl _) (by simp [be_len]) hlt hw1).mono ?_
  rintro e w2 ⟨rfl, hw2, hb2⟩
  have hb02 := hb01.trans hb2
  obtain ⟨A3, c3, hblk, ho3⟩ := hw2
  have hlen : ([] ++ be seq 4 ++ padTo b 156).length = 160 := by simp [be_len, padTo_len]
  rw [hlen] at ho3 hblk
  have hc : w2.cell? ⟨w.heap.size, 0, none⟩ = some (.slice A3 160 c3) := by rw [hblk.cell]; rfl
  have hs2 := hb02.size
  go_wp2_with fail
  refine (rdual_c w2 A3 160 c3 _ (Reads.of_own ho3) (by omega)).mono ?_
  rintro e w4 ⟨A4, c4, rfl, ho4, hb4⟩
  go_wp2_with fail
  go_ret2
  exact ⟨A4, c4, rfl, own_base ho4 hs2, hb02.trans (hb4.mono hs2)⟩
section
variable {w0 w : World} {ab fb bb wb : Nat} {R : Ar} {G : RF}
theorem raerase_h (s : Int) (E : Int) (F' : Fl) (hE : R.eraseE G.fl s = E) (hF' : R.erase G.fl s = F') (h : RHasA w0 w ab fb bb wb R G) :
    Calls Tryz.prog 42 #[ptr ab, .int .i64 s] w fun e w' => e = .returned (.int .i64 E) ∧ ∃ G', G'.fl = F' ∧ RHasA w0 w' ab fb bb wb R G' ∧ Only [fb, bb, wb] w w' ∧ G'.mask = G.mask ∧ G'.far = G.far := by
  subst hE hF'
  obtain ⟨h1, h2, h3, h4⟩ := Ar.rerase_keep R G h.calm s
  exact (raerase_c w s h.flash h.calm h.area).mono fun e w' ⟨he, hf, ho⟩ => ⟨he, _, Ar.rerase_fl R G h.calm s, h.only h3 h4 hf ho, ho, h1, h2⟩
theorem raprogram_h (s a : Int) (A : Option Addr) (m c : Nat) (bs : List UInt8) (E : Int) (F' : Fl) (hE : R.programE G.fl s a bs = E) (hF' : R.program G.fl s a bs = F')
    (hr : Reads w A m (bs.map u8v)) (hap : 0 < m → Apart [fb, bb, wb] A) (h : RHasA w0 w ab fb bb wb R G) :
    Calls Tryz.prog 43 #[ptr ab, .int .i64 s, .int .i64 a, .slice A m c] w fun e w' => e = .returned (.int .i64 E) ∧ ∃ G', G'.fl = F' ∧ RHasA w0 w' ab fb bb wb R G' ∧ Only [fb, bb, wb] w w' ∧ G'.mask = G.mask ∧ G'.far = G.far := by
  subst hE hF'
  obtain ⟨h1, h2, h3, h4⟩ := Ar.rprogram_keep R G h.calm s a bs
  exact (raprogram_c w s a A m c bs hr hap h.flash h.calm h.area).mono fun e w' ⟨he, hf, ho⟩ => ⟨he, _, Ar.rprogram_fl R G h.calm s a bs, h.only (by rw [h3]) h4 hf ho, ho, h1, h2⟩
theorem rablank_h (s : Int) (B : Bool) (hB : R.blank G.fl s = B) (h : RHasA w0 w ab fb bb wb R G) :
    Calls Tryz.prog 41 #[ptr ab, .int .i64 s] w fun e w' => e = .returned (.bool B) ∧ RHasA w0 w' ab fb bb wb R G ∧ Below w.heap.size w w' :=
  (rablank_c w s h.flash h.area).mono fun e w' ⟨h1, n, h2⟩ => by
    subst h2
    exact ⟨by rw [h1, hB], h.drewN n, below_drewN (Below.refl _ _) n⟩
def RPut (w0 w : World) (ab fb bb wb : Nat) (R : Ar) (G : RF) (E : Int) (F' : Fl) (e : Ending) (w' : World) : Prop :=
  e = .returned (.int .i64 E) ∧ ∃ G', G'.fl = F' ∧ RHasA w0 w' ab fb bb wb R G' ∧ Only [fb, bb, wb] w w' ∧ G'.mask = G.mask ∧ G'.far = G.far
set_option maxRecDepth 100000 in
set_option maxHeartbeats 1000000 in
theorem rputring_h (A : Option Addr) (n c : Nat) (b : List UInt8) (hn : n ≤ 100000) (hr : Reads w A n (b.map u8v)) (h : RHasA w0 w ab fb bb wb R G) (E : Int) (F' : Fl) (hE : R.ringE G.fl b = E) (hF' : R.ringP G.fl b = F') :
    Calls Tryz.prog 11 #[ptr ab, .slice A n c] w (RPut w0 w ab fb bb wb R G E F') := by
  have hbl0 : b.length = n := by simpa using hr.len
  have HR := Lib.hid hr
  obtain ⟨F, hfl⟩ : ∃ F, G.fl = F := ⟨_, rfl⟩
  have hat := (R.ringF_at F).2
  obtain ⟨N, hN⟩ : ∃ N, R.ringN F = N := ⟨_, rfl⟩
  obtain ⟨M, hM⟩ : ∃ M, R.ringM F = M := ⟨_, rfl⟩
  have hnx : ∀ W, RHasA w0 W ab fb bb wb R G → Calls Tryz.prog 23 #[ptr ab] W fun e w' => e = .returned (.int .i64 (N : Int)) ∧ RHasA w0 w' ab fb bb wb R G ∧ Below W.heap.size W w' := fun W h => rnext_h h N (by rw [hfl]; exact hN)
  have hmy : ∀ W, RHasA w0 W ab fb bb wb R G → Calls Tryz.prog 25 #[ptr ab] W fun e w' => e = .returned (.bool M) ∧ RHasA w0 w' ab fb bb wb R G ∧ Below W.heap.size W w' := fun W h => rmay_hr h M (by rw [hfl]; exact hM)
  have hf : ∀ W, RHasA w0 W ab fb bb wb R G → Calls Tryz.prog 39 #[ptr ab] W (RFound w0 W ab fb bb wb R G (R.ringF F)) := fun W h => by
    have h2 := rlast_h h
    rw [hfl] at h2
    exact h2
  have hlen : ∀ W, RHasA w0 W ab fb bb wb R G → Calls Tryz.prog 38 #[ptr ab] W fun e w' => e = .returned (.int .i64 R.len) ∧ W = w' := fun W h => ralen_c W h.area
  rw [hfl] at hE hF'
  unfold Ar.ringE at hE
  unfold Ar.ringP at hF'
  rw [hM, hN] at hE hF'
  have hMm : M = true → (R.ringF F).seq + 1 ≤ 2147483647 ∧ R.mayC F N = true := fun ht => by
    rw [← hM] at ht
    unfold Ar.ringM at ht
    rw [hN] at ht
    simp at ht
    exact ⟨by have := ht.2.1; omega, ht.2.2⟩
  generalize R.ringF F = Z at hf hat hE hF' hMm
  obtain ⟨z1, q, z3, z4⟩ := Z
  have hq : q ≤ 2147483647 := hat
  have hMm2 : M = true → q + 1 ≤ 2147483647 ∧ R.mayC F N = true := hMm
  have e1 : IntKind.i64.wrap ((q : Int) + 1) = (q : Int) + 1 := IntWalk.i64_in _ (by omega)
  have HFL := Lib.hid hfl
  have H := Lib.hid h
  have hlt := h.area
  clear h hN hM hat hMm hr hfl
  by_cases h4 : R.len < 4
  · rw [if_pos h4] at hE hF'
    subst hE hF'
    have h4i : (R.len : Int) < 4 := by omega
    clear hf hnx hmy
    go_enter Tryz.func11, Tryz.ntmps11
    go_wp2_with (go_at_call 38; refine (hlen _ H.out).mono ?_; rintro e w' ⟨rfl, rfl⟩)
    go_ret
    exact ⟨rfl, G, HFL.out, H.out, Only.refl _ _, rfl, rfl⟩
  rw [if_neg h4] at hE hF'
  have h4i : ¬ (R.len : Int) < 4 := by omega
  by_cases hL : 156 < n
  · rw [if_pos (by omega)] at hE hF'
    subst hE hF'
    have hL2 : (156 : Int) < (n : Int) := by omega
    clear hf hnx hmy
    go_enter Tryz.func11, Tryz.ntmps11
    go_wp2_with (go_at_call 38; refine (hlen _ H.out).mono ?_; rintro e w' ⟨rfl, rfl⟩)
    go_ret
    exact ⟨rfl, G, HFL.out, H.out, Only.refl _ _, rfl, rfl⟩
  rw [if_neg (by omega)] at hE hF'
  have hL2 : ¬ (156 : Int) < (n : Int) := by omega
  cases M
  · rw [if_pos rfl] at hE hF'
    subst hE hF'
    clear hf hnx
    go_enter Tryz.func11, Tryz.ntmps11
    go_wp2_with (first | (go_at_call 38; refine (hlen _ H.out).mono ?_; rintro e w' ⟨rfl, rfl⟩) | (go_at_call 25; refine (hmy _ H.out).mono ?_; rintro e w3 ⟨rfl, h3, hb3⟩))
    go_ret
    exact ⟨rfl, G, HFL.out, h3, Only.of_below hb3, rfl, rfl⟩
  · rw [if_neg (by simp)] at hE hF'
    obtain ⟨hq1, hmc⟩ := hMm2 rfl
    obtain ⟨X, hX⟩ : ∃ X, cellP (q + 1) b = X := ⟨_, rfl⟩
    have hXl : X.length = 320 := by rw [← hX]; exact cellP_len _ _
    have hE2 : R.chunkE F N X = E := by rw [← hX]; exact hE
    have hF2 : R.chunk F N X = F' := by rw [← hX]; exact hF'
    have hput : ∀ W, Reads W A n (b.map u8v) → Calls Tryz.prog 40 #[.int .i64 ((q : Int) + 1), .slice A n c] W fun e w' => ∃ A' c', e = .returned (.tuple #[.slice A' 320 c', .int .i64 0]) ∧ w'.ownsRow W.heap.size 5 1 (.slice A' 320 c') 320 (X.map u8v) ∧ Below W.heap.size W w' := fun W hW => by
      rw [← hX]
      exact rputcell_c W (q + 1) A n c b hW (by omega) hq1 (by omega)
    have hn1 : ¬ ((N : Int) = -1 ∨ 320 < X.length) := by omega
    have hX0 : ¬ X.length = 0 := by omega
    clear hX hE hF' hMm2
    cases hB : R.blank F N
    · by_cases he : R.eraseE F N = 0
      · obtain ⟨F1, hF1⟩ : ∃ F1, R.erase F N = F1 := ⟨_, rfl⟩
        have k1 : R.chunkE F N X = R.programE F1 N 0 X := by unfold Ar.chunkE; rw [if_neg hn1, hmc, if_neg (by simp), hB, if_neg (by simp), if_pos he, if_neg hX0, hF1]
        have k2 : R.chunk F N X = R.program F1 N 0 X := by unfold Ar.chunk; rw [if_neg hn1, hmc, if_neg (by simp), hB, if_neg (by simp), if_pos he, if_neg hX0, hF1]
        rw [k1] at hE2
        rw [k2] at hF2
        have HE := Lib.hid hE2
        have HF := Lib.hid hF2
        have he' : R.eraseE G.fl N = 0 := by rw [HFL.out]; exact he
        have hF1' : R.erase G.fl N = F1 := by rw [HFL.out]; exact hF1
        have hB' : R.blank G.fl N = false := by rw [HFL.out]; exact hB
        have HE1 := Lib.hid he'
        have HF1 := Lib.hid hF1'
        have HBB := Lib.hid hB'
        clear hE2 hF2 k1 k2 hB hmc hn1 hX0 he he' hF1 hF1' hB'
        go_enter Tryz.func11, Tryz.ntmps11
        go_wp2_with (first | (go_at_call 38; refine (hlen _ H.out).mono ?_; rintro e w' ⟨rfl, rfl⟩) | (go_at_call 25; refine (hmy _ H.out).mono ?_; rintro e w1 ⟨rfl, h1, hb1⟩))
        have ho1' := Only.of_below (S := [fb, bb, wb]) hb1
        refine (hf _ h1).mono ?_
        rintro e w2 ⟨A2, c2, rfl, ho2, h2, hb2⟩
        have ho2' := ho1'.after hb2
        clear ho2
        go_wp2_with fail
        refine (hnx _ h2).mono ?_
        rintro e w3 ⟨rfl, h3, hb3⟩
        have ho3' := ho2'.after hb3
        have hs3 := ho3'.size
        go_wp2_with fail
        refine (hput _ (((HR.out.below hb1).below hb2).below hb3)).mono ?_
        rintro e w4 ⟨A4, c4, rfl, ho4, hb4⟩
        have h4 := h3.later hb4
        have ho4' := ho3'.after hb4
        go_wp2_with fail
        refine (rablank_h N _ HBB.out h4).mono ?_
        rintro e w6 ⟨rfl, h6, hb6⟩
        have H6 := Lib.hid h6
        have HO6 := Lib.hid (ho4'.after hb6)
        have HX6 := Lib.hid (own_only ho4 (Only.of_below (S := []) hb6) (by simp))
        have hap6 : Apart [fb, bb, wb] A4 := own_apart ho4 (by
          intro k hk
          obtain ⟨q1, q2, q3⟩ := h3.flash.lt
          simp at hk
          omega)
        have HAP6 := Lib.hid hap6
        clear h1 h2 h3 h4 h6 ho4 ho4' ho3' ho1' ho2' hb2 hb3 hb4 hb1 hb6 hap6
        go_wp2_with fail
        refine (raerase_h N 0 F1 HE1.out HF1.out H6.out).mono ?_
        rintro e w7 ⟨rfl, G1, hg1, h7, ho7, hm7, hr7⟩
        have HG1 := Lib.hid hg1
        clear hg1
        go_wp2_with fail
        refine (raprogram_h N 0 A4 320 c4 X E F' (by rw [HG1.out]; exact HE.out) (by rw [HG1.out]; exact HF.out) ((Reads.of_own HX6.out).only ho7 HAP6.out) (fun _ => HAP6.out) h7).mono ?_
        rintro e w8 ⟨rfl, G2, hg2, h8, ho8, hm8, hr8⟩
        go_wp2_with fail
        go_ret
        exact ⟨rfl, G2, hg2, h8, (HO6.out.trans ho7).trans ho8, hm8.trans hm7, hr8.trans hr7⟩
      · have k1 : R.chunkE F N X = R.eraseE F N := by unfold Ar.chunkE; rw [if_neg hn1, hmc, if_neg (by simp), hB, if_neg (by simp), if_neg he]
        have k2 : R.chunk F N X = R.erase F N := by unfold Ar.chunk; rw [if_neg hn1, hmc, if_neg (by simp), hB, if_neg (by simp), if_neg he]
        rw [k1] at hE2
        rw [k2] at hF2
        have hd3 : (E != 0) = true := by rw [bne_iff_ne, ← hE2]; exact he
        have hd4 : (E == 0) = false := by rw [beq_eq_false_iff_ne, ← hE2]; exact he
        have hE3 : R.eraseE G.fl N = E := by rw [HFL.out]; exact hE2
        have hF3 : R.erase G.fl N = F' := by rw [HFL.out]; exact hF2
        have hB' : R.blank G.fl N = false := by rw [HFL.out]; exact hB
        have HE := Lib.hid hE3
        have HF := Lib.hid hF3
        have HBB := Lib.hid hB'
        clear hE2 hF2 k1 k2 hB hmc hn1 hX0 hE3 hF3 hB' he
        go_enter Tryz.func11, Tryz.ntmps11
        go_wp2_with (first | (go_at_call 38; refine (hlen _ H.out).mono ?_; rintro e w' ⟨rfl, rfl⟩) | (go_at_call 25; refine (hmy _ H.out).mono ?_; rintro e w1 ⟨rfl, h1, hb1⟩))
        have ho1' := Only.of_below (S := [fb, bb, wb]) hb1
        refine (hf _ h1).mono ?_
        rintro e w2 ⟨A2, c2, rfl, ho2, h2, hb2⟩
        have ho2' := ho1'.after hb2
        clear ho2
        go_wp2_with fail
        refine (hnx _ h2).mono ?_
        rintro e w3 ⟨rfl, h3, hb3⟩
        have ho3' := ho2'.after hb3
        have hs3 := ho3'.size
        go_wp2_with fail
        refine (hput _ (((HR.out.below hb1).below hb2).below hb3)).mono ?_
        rintro e w4 ⟨A4, c4, rfl, ho4, hb4⟩
        have h4 := h3.later hb4
        have ho4' := ho3'.after hb4
        go_wp2_with fail
        refine (rablank_h N _ HBB.out h4).mono ?_
        rintro e w6 ⟨rfl, h6, hb6⟩
        have H6 := Lib.hid h6
        have HO6 := Lib.hid (ho4'.after hb6)
        have HX6 := Lib.hid (own_only ho4 (Only.of_below (S := []) hb6) (by simp))
        have hap6 : Apart [fb, bb, wb] A4 := own_apart ho4 (by
          intro k hk
          obtain ⟨q1, q2, q3⟩ := h3.flash.lt
          simp at hk
          omega)
        have HAP6 := Lib.hid hap6
        clear h1 h2 h3 h4 h6 ho4 ho4' ho3' ho1' ho2' hb2 hb3 hb4 hb1 hb6 hap6
        go_wp2_with fail
        refine (raerase_h N E F' HE.out HF.out H6.out).mono ?_
        rintro e w7 ⟨rfl, G1, hg1, h7, ho7, hm7, hr7⟩
        go_wp2_with fail
        go_ret
        exact ⟨rfl, G1, hg1, h7, HO6.out.trans ho7, hm7, hr7⟩
    · have k1 : R.chunkE F N X = R.programE F N 0 X := by unfold Ar.chunkE; rw [if_neg hn1, hmc, if_neg (by simp), hB, if_pos rfl, if_neg hX0]
      have k2 : R.chunk F N X = R.program F N 0 X := by unfold Ar.chunk; rw [if_neg hn1, hmc, if_neg (by simp), hB, if_pos rfl, if_neg hX0]
      rw [k1] at hE2
      rw [k2] at hF2
      have hE3 : R.programE G.fl N 0 X = E := by rw [HFL.out]; exact hE2
      have hF3 : R.program G.fl N 0 X = F' := by rw [HFL.out]; exact hF2
      have hB' : R.blank G.fl N = true := by rw [HFL.out]; exact hB
      have HE := Lib.hid hE3
      have HF := Lib.hid hF3
      have HBB := Lib.hid hB'
      clear hE2 hF2 k1 k2 hB hmc hn1 hX0 hE3 hF3 hB'
      go_enter Tryz.func11, Tryz.ntmps11
      go_wp2_with (first | (go_at_call 38; refine (hlen _ H.out).mono ?_; rintro e w' ⟨rfl, rfl⟩) | (go_at_call 25; refine (hmy _ H.out).mono ?_; rintro e w1 ⟨rfl, h1, hb1⟩))
      have ho1' := Only.of_below (S := [fb, bb, wb]) hb1
      refine (hf _ h1).mono ?_
      rintro e w2 ⟨A2, c2, rfl, ho2, h2, hb2⟩
      have ho2' := ho1'.after hb2
      clear ho2
      go_wp2_with fail
      refine (hnx _ h2).mono ?_
      rintro e w3 ⟨rfl, h3, hb3⟩
      have ho3' := ho2'.after hb3
      have hs3 := ho3'.size
      go_wp2_with fail
      refine (hput _ (((HR.out.below hb1).below hb2).below hb3)).mono ?_
      rintro e w4 ⟨A4, c4, rfl, ho4, hb4⟩
      have h4 := h3.later hb4
      have ho4' := ho3'.after hb4
      go_wp2_with fail
      refine (rablank_h N _ HBB.out h4).mono ?_
      rintro e w6 ⟨rfl, h6, hb6⟩
      have H6 := Lib.hid h6
      have HO6 := Lib.hid (ho4'.after hb6)
      have HX6 := Lib.hid (own_only ho4 (Only.of_below (S := []) hb6) (by simp))
      have hap6 : Apart [fb, bb, wb] A4 := own_apart ho4 (by
        intro k hk
        obtain ⟨q1, q2, q3⟩ := h3.flash.lt
        simp at hk
        omega)
      have HAP6 := Lib.hid hap6
      clear h1 h2 h3 h4 h6 ho4 ho4' ho3' ho1' ho2' hb2 hb3 hb4 hb1 hb6 hap6
      go_wp2_with fail
      refine (raprogram_h N 0 A4 320 c4 X E F' HE.out HF.out (Reads.of_own HX6.out) (fun _ => HAP6.out) H6.out).mono ?_
      rintro e w8 ⟨rfl, G2, hg2, h8, ho8, hm8, hr8⟩
      go_wp2_with fail
      go_ret
      exact ⟨rfl, G2, hg2, h8, HO6.out.trans ho8, hm8, hr8⟩
end
end Go.Proofs.YtlchlcjahndjgaaGreat
