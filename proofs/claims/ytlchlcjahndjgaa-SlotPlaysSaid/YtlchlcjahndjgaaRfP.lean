/- The reference's From, MaySlot, WriteSlot. -/
import Derived.Test.YtlchlcjahndjgaaSlA
import Derived.Test.YtlchlcjahndjgaaRfO
namespace Go.Proofs.Ytlchlcjahndjgaa
open Go Go.RowKit
set_option linter.unusedVariables false
set_option linter.unusedSimpArgs false
set_option maxRecDepth 100000 in
theorem rfrom_off (s k n : Int) (w : World) (hg : s < 0 ∨ 1 < s ∨ n < 1 ∨ 6 < n ∨ k < 0 ∨ n ≤ k) : Calls Try.prog 48 #[.int .i64 s, .int .i64 k, .int .i64 n] w fun e w' => e = .returned (.int .i64 (-1)) ∧ w = w' := by
  by_cases g0 : s < 0
  · clear hg
    go_enter Try.func48, Try.ntmps48
    go_wp2_with fail
    go_ret
    exact ⟨rfl, rfl⟩
  · by_cases g1 : 1 < s
    · clear hg
      go_enter Try.func48, Try.ntmps48
      go_wp2_with fail
      go_ret
      exact ⟨rfl, rfl⟩
    · by_cases g2 : n < 1
      · clear hg
        go_enter Try.func48, Try.ntmps48
        go_wp2_with fail
        go_ret
        exact ⟨rfl, rfl⟩
      · by_cases g3 : 6 < n
        · clear hg
          go_enter Try.func48, Try.ntmps48
          go_wp2_with fail
          go_ret
          exact ⟨rfl, rfl⟩
        · by_cases g4 : k < 0
          · clear hg
            go_enter Try.func48, Try.ntmps48
            go_wp2_with fail
            go_ret
            exact ⟨rfl, rfl⟩
          · have g5 : n ≤ k := by omega
            clear hg
            go_enter Try.func48, Try.ntmps48
            go_wp2_with fail
            go_ret
            exact ⟨rfl, rfl⟩
set_option maxRecDepth 100000 in
theorem rfrom_c (s k n : Int) (w : World) : Calls Try.prog 48 #[.int .i64 s, .int .i64 k, .int .i64 n] w fun e w' => e = .returned (.int .i64 (fromS s k n)) ∧ w = w' := by
  by_cases hg : s < 0 ∨ 1 < s ∨ n < 1 ∨ 6 < n ∨ k < 0 ∨ n ≤ k
  · rw [show fromS s k n = -1 from if_pos hg]
    exact rfrom_off s k n w hg
  · rw [show fromS s k n = 4 + s * n + k from if_neg hg]
    have g0 : ¬ s < 0 := by omega
    have g1 : ¬ 1 < s := by omega
    have g2 : ¬ n < 1 := by omega
    have g3 : ¬ 6 < n := by omega
    have g4 : ¬ k < 0 := by omega
    have g5 : ¬ n ≤ k := by omega
    clear hg
    have hs : s = 0 ∨ s = 1 := by omega
    rcases hs with rfl | rfl
    · go_enter Try.func48, Try.ntmps48
      go_wp2_with fail
      go_ret
      exact ⟨congrArg (fun x => Ending.returned (Value.int .i64 x)) (by omega), rfl⟩
    · go_enter Try.func48, Try.ntmps48
      go_wp2_with fail
      go_ret
      exact ⟨congrArg (fun x => Ending.returned (Value.int .i64 x)) (by omega), rfl⟩
theorem Ar.mayC_neg (R : Ar) (F : Fl) : R.mayC F (-1) = false := by
  unfold Ar.mayC Ar.blank Ar.left Ar.is
  simp
section
variable {w0 w : World} {ab fb bb wb : Nat} {R : Ar} {G : RF}
theorem raleft_h (s : Int) (E : Int) (hE : R.left G.fl s = E) (h : RHasA w0 w ab fb bb wb R G) :
    Calls Try.prog 78 #[ptr ab, .int .i64 s] w fun e w' => e = .returned (.int .i64 E) ∧ RHasA w0 w' ab fb bb wb R G ∧ Below w.heap.size w w' :=
  (raleft_c w s h.flash h.area).mono fun e w' ⟨h1, n, h2⟩ => by
    subst h2
    exact ⟨by rw [h1, hE], h.drewN n, below_drewN (Below.refl _ _) n⟩
set_option maxRecDepth 100000 in
theorem rmayslot_h (s k n : Int) (x : Int) (hx : fromS s k n = x) (M : Bool) (hM : R.mayC G.fl x = M) (h : RHasA w0 w ab fb bb wb R G) :
    Calls Try.prog 43 #[ptr ab, .int .i64 s, .int .i64 k, .int .i64 n] w fun e w' => e = .returned (.bool M) ∧ RHasA w0 w' ab fb bb wb R G ∧ Below w.heap.size w w' := by
  have hxb := fromS_b s k n
  have hfr : ∀ w, Calls Try.prog 48 #[.int .i64 s, .int .i64 k, .int .i64 n] w fun e w' => e = .returned (.int .i64 x) ∧ w = w' := fun w => hx ▸ rfrom_c s k n w
  rw [hx] at hxb
  subst hM
  have H := Lib.hid h
  clear h hx
  by_cases h1 : x = -1
  · subst h1
    rw [R.mayC_neg]
    go_enter Try.func43, Try.ntmps43
    go_wp2_with (go_at_call 48; refine (hfr _).mono ?_; rintro e w' ⟨rfl, rfl⟩)
    go_ret
    exact ⟨rfl, H.out, Below.refl _ _⟩
  · have hd : 0 ≤ x := by omega
    unfold Ar.mayC
    cases hb : R.blank G.fl x
    · have HBB := Lib.hid hb
      obtain ⟨V, hV⟩ : ∃ V, R.left G.fl x = V := ⟨_, rfl⟩
      have HV := Lib.hid hV
      rw [hV]
      clear hb hV
      by_cases hv : 0 < V
      · go_enter Try.func43, Try.ntmps43
        go_wp2_with (first | (go_at_call 48; refine (hfr _).mono ?_; rintro e w' ⟨rfl, rfl⟩) | (go_at_call 82; refine (rablank_h x _ HBB.out H.out).mono ?_; rintro e w2 ⟨rfl, h2', hb2⟩) | (go_at_call 78; refine (raleft_h x _ HV.out h2').mono ?_; rintro e w3 ⟨rfl, h3', hb3⟩))
        go_ret
        exact ⟨bool_ret (by simp [hv]), h3', hb2.trans (hb3.mono hb2.size)⟩
      · go_enter Try.func43, Try.ntmps43
        go_wp2_with (first | (go_at_call 48; refine (hfr _).mono ?_; rintro e w' ⟨rfl, rfl⟩) | (go_at_call 82; refine (rablank_h x _ HBB.out H.out).mono ?_; rintro e w2 ⟨rfl, h2', hb2⟩) | (go_at_call 78; refine (raleft_h x _ HV.out h2').mono ?_; rintro e w3 ⟨rfl, h3', hb3⟩))
        go_ret
        exact ⟨bool_ret (by simp [hv]), h3', hb2.trans (hb3.mono hb2.size)⟩
    · have HBB := Lib.hid hb
      clear hb
      go_enter Try.func43, Try.ntmps43
      go_wp2_with (first | (go_at_call 48; refine (hfr _).mono ?_; rintro e w' ⟨rfl, rfl⟩) | (go_at_call 82; refine (rablank_h x _ HBB.out H.out).mono ?_; rintro e w2 ⟨rfl, h2', hb2⟩))
      go_ret
      exact ⟨bool_ret (by simp), h2', hb2⟩
set_option maxRecDepth 100000 in
set_option maxHeartbeats 1000000 in
theorem rwriteslot_h (s k n : Int) (A : Option Addr) (m c : Nat) (bs : List UInt8) (hm : m = bs.length) (E : Int) (F' : Fl) (x : Int) (hx : fromS s k n = x) (hE : R.chunkE G.fl x bs = E) (hF' : R.chunk G.fl x bs = F')
    (hr : Reads w A m (bs.map u8v)) (hap : 0 < m → Apart [fb, bb, wb] A) (h : RHasA w0 w ab fb bb wb R G) :
    Calls Try.prog 46 #[ptr ab, .int .i64 s, .int .i64 k, .int .i64 n, .slice A m c] w (RPut w0 w ab fb bb wb R G E F') := by
  subst hE hF' hm
  have H := Lib.hid h
  have HR := Lib.hid hr
  have HAP := Lib.hid hap
  have hxb := fromS_b s k n
  have hfr : ∀ w, Calls Try.prog 48 #[.int .i64 s, .int .i64 k, .int .i64 n] w fun e w' => e = .returned (.int .i64 x) ∧ w = w' := fun w => hx ▸ rfrom_c s k n w
  have hmc : ∀ W, RHasA w0 W ab fb bb wb R G → Calls Try.prog 43 #[ptr ab, .int .i64 s, .int .i64 k, .int .i64 n] W fun e w' => e = .returned (.bool (R.mayC G.fl x)) ∧ RHasA w0 w' ab fb bb wb R G ∧ Below W.heap.size W w' := fun W h => rmayslot_h s k n x hx _ rfl h
  rw [hx] at hxb
  clear h hr hap hx
  by_cases h1 : x = -1
  · subst h1
    rw [show R.chunkE G.fl (-1) bs = 2 by simp [Ar.chunkE], show R.chunk G.fl (-1) bs = G.fl by simp [Ar.chunk]]
    clear hmc
    go_enter Try.func46, Try.ntmps46
    go_wp2_with (go_at_call 48; refine (hfr _).mono ?_; rintro e w' ⟨rfl, rfl⟩)
    go_ret
    exact ⟨rfl, G, rfl, H.out, Only.refl _ _, rfl, rfl⟩
  have hx0 : 0 ≤ x := by omega
  have hx1 : ¬ x < 0 := by omega
  by_cases h2 : 320 < bs.length
  · rw [show R.chunkE G.fl x bs = 2 by simp [Ar.chunkE, h2], show R.chunk G.fl x bs = G.fl by simp [Ar.chunk, h2]]
    have h2i : (320 : Int) < (bs.length : Int) := by omega
    clear hmc h2
    go_enter Try.func46, Try.ntmps46
    go_wp2_with (go_at_call 48; refine (hfr _).mono ?_; rintro e w' ⟨rfl, rfl⟩)
    go_ret
    exact ⟨rfl, G, rfl, H.out, Only.refl _ _, rfl, rfl⟩
  have h2i : ¬ (320 : Int) < (bs.length : Int) := by omega
  cases hq : R.mayC G.fl x
  · rw [show R.chunkE G.fl x bs = 5 by simp [Ar.chunkE, h1, h2, hq], show R.chunk G.fl x bs = G.fl by simp [Ar.chunk, h1, h2, hq]]
    rw [hq] at hmc
    have hmay := hmc
    clear hmc hq h2
    go_enter Try.func46, Try.ntmps46
    go_wp2_with (first | (go_at_call 48; refine (hfr _).mono ?_; rintro e w' ⟨rfl, rfl⟩) | (go_at_call 43; refine (hmay _ H.out).mono ?_; rintro e w1 ⟨rfl, h1', hb1⟩))
    go_ret
    exact ⟨rfl, G, rfl, h1', Only.of_below hb1, rfl, rfl⟩
  have hmay := hmc
  rw [hq] at hmay
  clear hmc
  cases hb : R.blank G.fl x
  · have HBB := Lib.hid hb
    obtain ⟨F1, hF1⟩ : ∃ F1, R.erase G.fl x = F1 := ⟨_, rfl⟩
    obtain ⟨E1, hE1⟩ : ∃ E1, R.eraseE G.fl x = E1 := ⟨_, rfl⟩
    have HF1 := Lib.hid hF1
    have HE1 := Lib.hid hE1
    by_cases he : E1 = 0
    · by_cases hz : bs.length = 0
      · have g3 : bs = [] := List.eq_nil_of_length_eq_zero (by omega)
        rw [show R.chunkE G.fl x bs = 0 by simp [Ar.chunkE, h1, h2, hq, hb, hE1, he, g3], show R.chunk G.fl x bs = F1 by simp [Ar.chunk, h1, h2, hq, hb, hE1, he, g3, hF1]]
        have hm0 : ((bs.length : Int) == 0) = true := by simp [hz]
        subst he
        clear hq hb h2 hE1 hF1
        go_enter Try.func46, Try.ntmps46
        go_wp2_with (first | (go_at_call 48; refine (hfr _).mono ?_; rintro e w' ⟨rfl, rfl⟩) | (go_at_call 43; refine (hmay _ H.out).mono ?_; rintro e w1 ⟨rfl, h1', hb1⟩) | (go_at_call 82; refine (rablank_h x _ HBB.out h1').mono ?_; rintro e w2 ⟨rfl, h2', hb2⟩) | (go_at_call 90; refine (raerase_h x _ _ HE1.out HF1.out h2').mono ?_; rintro e w3 ⟨rfl, G1, hg1, h3', ho3, hm3, hr3⟩))
        go_ret
        exact ⟨rfl, G1, hg1, h3', ((Only.of_below hb1).after hb2).trans ho3, hm3, hr3⟩
      · have g3 : ¬ bs = [] := by intro hh; subst hh; exact hz rfl
        rw [show R.chunkE G.fl x bs = R.programE F1 x 0 bs by simp [Ar.chunkE, h1, h2, hq, hb, hE1, he, g3, hF1], show R.chunk G.fl x bs = R.program F1 x 0 bs by simp [Ar.chunk, h1, h2, hq, hb, hE1, he, g3, hF1]]
        have hm0 : ((bs.length : Int) == 0) = false := by rw [beq_eq_false_iff_ne]; omega
        subst he
        have hmp : 0 < bs.length := by omega
        clear hq hb h2 hE1 hF1 g3
        go_enter Try.func46, Try.ntmps46
        go_wp2_with (first | (go_at_call 48; refine (hfr _).mono ?_; rintro e w' ⟨rfl, rfl⟩) | (go_at_call 43; refine (hmay _ H.out).mono ?_; rintro e w1 ⟨rfl, h1', hb1⟩) | (go_at_call 82; refine (rablank_h x _ HBB.out h1').mono ?_; rintro e w2 ⟨rfl, h2', hb2⟩) | (go_at_call 90; refine (raerase_h x _ _ HE1.out HF1.out h2').mono ?_; rintro e w3 ⟨rfl, G1, hg1, h3', ho3, hm3, hr3⟩) | (go_at_call 91; refine (raprogram_h x 0 A bs.length c bs _ _ (by rw [hg1]) (by rw [hg1]) (((HR.out.below hb1).below hb2).only ho3 (HAP.out (by omega))) HAP.out h3').mono ?_; rintro e w4 ⟨rfl, G2, hg2, h4', ho4, hm4, hr4⟩))
        go_ret
        exact ⟨rfl, G2, hg2, h4', (((Only.of_below hb1).after hb2).trans ho3).trans ho4, hm4.trans hm3, hr4.trans hr3⟩
    · rw [show R.chunkE G.fl x bs = E1 by simp [Ar.chunkE, h1, h2, hq, hb, hE1, he], show R.chunk G.fl x bs = F1 by simp [Ar.chunk, h1, h2, hq, hb, hE1, he, hF1]]
      have hd4 : (E1 == 0) = false := by rw [beq_eq_false_iff_ne]; exact he
      clear hq hb h2 hE1 hF1
      go_enter Try.func46, Try.ntmps46
      go_wp2_with (first | (go_at_call 48; refine (hfr _).mono ?_; rintro e w' ⟨rfl, rfl⟩) | (go_at_call 43; refine (hmay _ H.out).mono ?_; rintro e w1 ⟨rfl, h1', hb1⟩) | (go_at_call 82; refine (rablank_h x _ HBB.out h1').mono ?_; rintro e w2 ⟨rfl, h2', hb2⟩))
      refine (raerase_h x E1 F1 HE1.out HF1.out h2').mono ?_; rintro e w3 ⟨rfl, G1, hg1, h3', ho3, hm3, hr3⟩
      go_wp2_with fail
      go_ret
      exact ⟨rfl, G1, hg1, h3', ((Only.of_below hb1).after hb2).trans ho3, hm3, hr3⟩
  · have HBB := Lib.hid hb
    by_cases hz : bs.length = 0
    · have g3 : bs = [] := List.eq_nil_of_length_eq_zero (by omega)
      rw [show R.chunkE G.fl x bs = 0 by simp [Ar.chunkE, h1, h2, hq, hb, g3], show R.chunk G.fl x bs = G.fl by simp [Ar.chunk, h1, h2, hq, hb, g3]]
      have hm0 : ((bs.length : Int) == 0) = true := by simp [hz]
      clear hq hb h2
      go_enter Try.func46, Try.ntmps46
      go_wp2_with (first | (go_at_call 48; refine (hfr _).mono ?_; rintro e w' ⟨rfl, rfl⟩) | (go_at_call 43; refine (hmay _ H.out).mono ?_; rintro e w1 ⟨rfl, h1', hb1⟩) | (go_at_call 82; refine (rablank_h x _ HBB.out h1').mono ?_; rintro e w2 ⟨rfl, h2', hb2⟩))
      go_ret
      exact ⟨rfl, G, rfl, h2', (Only.of_below hb1).after hb2, rfl, rfl⟩
    · have g3 : ¬ bs = [] := by intro hh; subst hh; exact hz rfl
      rw [show R.chunkE G.fl x bs = R.programE G.fl x 0 bs by simp [Ar.chunkE, h1, h2, hq, hb, g3], show R.chunk G.fl x bs = R.program G.fl x 0 bs by simp [Ar.chunk, h1, h2, hq, hb, g3]]
      have hm0 : ((bs.length : Int) == 0) = false := by rw [beq_eq_false_iff_ne]; omega
      have hmp : 0 < bs.length := by omega
      clear hq hb h2 g3
      go_enter Try.func46, Try.ntmps46
      go_wp2_with (first | (go_at_call 48; refine (hfr _).mono ?_; rintro e w' ⟨rfl, rfl⟩) | (go_at_call 43; refine (hmay _ H.out).mono ?_; rintro e w1 ⟨rfl, h1', hb1⟩) | (go_at_call 82; refine (rablank_h x _ HBB.out h1').mono ?_; rintro e w2 ⟨rfl, h2', hb2⟩) | (go_at_call 91; refine (raprogram_h x 0 A bs.length c bs _ _ rfl rfl ((HR.out.below hb1).below hb2) HAP.out h2').mono ?_; rintro e w4 ⟨rfl, G2, hg2, h4', ho4, hm4, hr4⟩))
      go_ret
      exact ⟨rfl, G2, hg2, h4', ((Only.of_below hb1).after hb2).trans ho4, hm4, hr4⟩
end
end Go.Proofs.Ytlchlcjahndjgaa
