/- slot.May and slot.Write. -/
import Derived.Test.YtlchlcjahndjgaaSl1
namespace Go.Proofs.Ytlchlcjahndjgaa
open Go.RowKit
set_option linter.unusedVariables false
set_option linter.unusedSimpArgs false
namespace Ar
/-- May a chunk be written? -/
def mayC (R : Ar) (F : Fl) (x : Int) : Bool := R.blank F x || decide (0 < R.left F x)
/-- The answer of a write into sector x, and what the flash is then. -/
def chunkE (R : Ar) (F : Fl) (x : Int) (bs : List UInt8) : Int :=
  if x = -1 ∨ 320 < bs.length then 2 else if R.mayC F x = false then 5 else
    if R.blank F x = true then (if bs.length = 0 then 0 else R.programE F x 0 bs)
    else if R.eraseE F x = 0 then (if bs.length = 0 then 0 else R.programE (R.erase F x) x 0 bs) else R.eraseE F x
def chunk (R : Ar) (F : Fl) (x : Int) (bs : List UInt8) : Fl :=
  if x = -1 ∨ 320 < bs.length then F else if R.mayC F x = false then F else
    if R.blank F x = true then (if bs.length = 0 then F else R.program F x 0 bs)
    else if R.eraseE F x = 0 then (if bs.length = 0 then R.erase F x else R.program (R.erase F x) x 0 bs) else R.erase F x
end Ar
theorem fromS_b (s k n : Int) : -1 ≤ fromS s k n ∧ fromS s k n ≤ 16 := by
  unfold fromS
  split
  · omega
  · rename_i h
    have hs : s = 0 ∨ s = 1 := by omega
    rcases hs with rfl | rfl <;> omega
section
variable {w0 w : World} {ab fb bb wb : Nat} {R : Ar} {F : Fl}
theorem may_c (w : World) (s k n : Int) (hF : FlashAt w fb bb wb F) (h : AreaAt w ab fb R F.wear.length) :
    Calls Try.prog 42 #[ptr ab, .int .i64 s, .int .i64 k, .int .i64 n] w fun e w' => e = .returned (.bool (R.mayC F (fromS s k n))) ∧ ∃ n, w' = w.drewN n := by
  have H := Lib.hid h
  have HF := Lib.hid hF
  clear h hF
  have hfr := fun w => from_c s k n w
  generalize fromS s k n = x at hfr ⊢
  unfold Ar.mayC
  cases hb : R.blank F x
  · have hbl : ∀ W : World, FlashAt W fb bb wb F → AreaAt W ab fb R F.wear.length → Calls Try.prog 89 #[ptr ab, .int .i64 x] W fun e w' => e = .returned (.bool false) ∧ ∃ n, w' = W.drewN n := fun W h1 h2 => (ablank_c W x h1 h2).mono fun e w' hh => ⟨by rw [hh.1, hb], hh.2⟩
    go_enter Try.func42, Try.ntmps42
    go_wp2_with (first | (go_at_call 47; refine (hfr _).mono ?_; rintro e w' ⟨rfl, rfl⟩) | (go_at_call 89; refine (hbl _ HF.out H.out).mono ?_; rintro e w' ⟨rfl, n1, rfl⟩) | (go_at_call 76; refine (aleft_c _ _ (HF.out.drewN _) (H.out.drewN _)).mono ?_; rintro e w' ⟨rfl, n2, rfl⟩))
    go_ret
    exact ⟨bool_ret (by simp), n1 + n2, by unfold World.drewN; simp [Nat.add_assoc]⟩
  · have hbl : ∀ W : World, FlashAt W fb bb wb F → AreaAt W ab fb R F.wear.length → Calls Try.prog 89 #[ptr ab, .int .i64 x] W fun e w' => e = .returned (.bool true) ∧ ∃ n, w' = W.drewN n := fun W h1 h2 => (ablank_c W x h1 h2).mono fun e w' hh => ⟨by rw [hh.1, hb], hh.2⟩
    go_enter Try.func42, Try.ntmps42
    go_wp2_with (first | (go_at_call 47; refine (hfr _).mono ?_; rintro e w' ⟨rfl, rfl⟩) | (go_at_call 89; refine (hbl _ HF.out H.out).mono ?_; rintro e w' ⟨rfl, n1, rfl⟩))
    go_ret
    exact ⟨bool_ret (by simp), n1, rfl⟩
theorem swrite_h (s k n : Int) (A : Option Addr) (m c : Nat) (bs : List UInt8) (hm : m = bs.length) (E : Int) (F' : Fl) (x : Int) (hx : fromS s k n = x) (hE : R.chunkE F x bs = E) (hF' : R.chunk F x bs = F')
    (hr : Reads w A m (bs.map u8v)) (hap : Apart [fb, bb, wb] A) (h : HasA w0 w ab fb bb wb R F) :
    Calls Try.prog 45 #[ptr ab, .int .i64 s, .int .i64 k, .int .i64 n, .slice A m c] w fun e w' => e = .returned (.int .i64 E) ∧ HasA w0 w' ab fb bb wb R F' ∧ Only [fb, bb, wb] w w' := by
  subst hE hF' hm
  have H := Lib.hid h
  clear h
  have hfr : ∀ w, Calls Try.prog 47 #[.int .i64 s, .int .i64 k, .int .i64 n] w fun e w' => e = .returned (.int .i64 x) ∧ w = w' := fun w => hx ▸ from_c s k n w
  have hmc : ∀ W : World, FlashAt W fb bb wb F → AreaAt W ab fb R F.wear.length → Calls Try.prog 42 #[ptr ab, .int .i64 s, .int .i64 k, .int .i64 n] W fun e w' => e = .returned (.bool (R.mayC F x)) ∧ ∃ n, w' = W.drewN n := fun W h1 h2 => hx ▸ may_c W s k n h1 h2
  clear hx
  by_cases h1 : x = -1
  · subst h1
    have k1 : R.chunkE F (-1) bs = 2 := by simp [Ar.chunkE]
    have k2 : R.chunk F (-1) bs = F := by simp [Ar.chunk]
    rw [k1, k2]
    clear k1 k2
    go_enter Try.func45, Try.ntmps45
    go_wp2_with (first | (go_at_call 47; refine (hfr _).mono ?_; rintro e w' ⟨rfl, rfl⟩))
    go_ret
    exact ⟨rfl, H.out, Only.refl _ _⟩
  by_cases h2 : 320 < bs.length
  · have g2 : 320 < bs.length := by omega
    have hd1 : (x == -1) = false := by rw [beq_eq_false_iff_ne]; exact h1
    have hd2 : decide ((320 : Int) < (bs.length : Int)) = true := by rw [decide_eq_true_iff]; omega
    have k1 : R.chunkE F x bs = 2 := by simp [Ar.chunkE, g2]
    have k2 : R.chunk F x bs = F := by simp [Ar.chunk, g2]
    rw [k1, k2]
    clear k1 k2
    go_enter Try.func45, Try.ntmps45
    go_wp2_with (first | (go_at_call 47; refine (hfr _).mono ?_; rintro e w' ⟨rfl, rfl⟩))
    go_ret
    exact ⟨rfl, H.out, Only.refl _ _⟩
  have g2 : ¬ 320 < bs.length := by omega
  have hd1 : (x == -1) = false := by rw [beq_eq_false_iff_ne]; exact h1
  have hd2 : decide ((320 : Int) < (bs.length : Int)) = false := by rw [decide_eq_false_iff_not]; omega
  cases hq : R.mayC F x
  · have k1 : R.chunkE F x bs = 5 := by simp [Ar.chunkE, h1, g2, hq]
    have k2 : R.chunk F x bs = F := by simp [Ar.chunk, h1, g2, hq]
    rw [k1, k2]
    clear k1 k2
    have hmay : ∀ W : World, FlashAt W fb bb wb F → AreaAt W ab fb R F.wear.length → Calls Try.prog 42 #[ptr ab, .int .i64 s, .int .i64 k, .int .i64 n] W fun e w' => e = .returned (.bool false) ∧ ∃ n, w' = W.drewN n := fun W h1 h2 => hq ▸ hmc W h1 h2
    clear hmc hq
    go_enter Try.func45, Try.ntmps45
    go_wp2_with (first | (go_at_call 47; refine (hfr _).mono ?_; rintro e w' ⟨rfl, rfl⟩) | (go_at_call 42; refine (hmay _ H.out.has.flash H.out.area).mono ?_; rintro e w' ⟨rfl, n1, rfl⟩))
    go_ret
    exact ⟨rfl, H.out.drewN _, (Only.refl _ _).drewN _⟩
  have hmay : ∀ W : World, FlashAt W fb bb wb F → AreaAt W ab fb R F.wear.length → Calls Try.prog 42 #[ptr ab, .int .i64 s, .int .i64 k, .int .i64 n] W fun e w' => e = .returned (.bool true) ∧ ∃ n, w' = W.drewN n := fun W h1 h2 => hq ▸ hmc W h1 h2
  clear hmc
  cases hb : R.blank F x
  · have hbl : ∀ W : World, FlashAt W fb bb wb F → AreaAt W ab fb R F.wear.length → Calls Try.prog 89 #[ptr ab, .int .i64 x] W fun e w' => e = .returned (.bool false) ∧ ∃ n, w' = W.drewN n := fun W h1 h2 => (ablank_c W x h1 h2).mono fun e w' hh => ⟨by rw [hh.1, hb], hh.2⟩
    by_cases he : R.eraseE F x = 0
    · obtain ⟨F1, hF1⟩ : ∃ F1, R.erase F x = F1 := ⟨_, rfl⟩
      by_cases hz : bs.length = 0
      · have g3 : bs = [] := List.eq_nil_of_length_eq_zero (by omega)
        have k1 : R.chunkE F x bs = 0 := by simp [Ar.chunkE, h1, g2, hq, hb, he, g3, hF1]
        have k2 : R.chunk F x bs = F1 := by simp [Ar.chunk, h1, g2, hq, hb, he, g3, hF1]
        rw [k1, k2]
        clear k1 k2
        clear hq hb g3
        have hd3 : ((bs.length : Int) == 0) = true := by simp [hz]
        go_enter Try.func45, Try.ntmps45
        go_wp2_with (first | (go_at_call 47; refine (hfr _).mono ?_; rintro e w' ⟨rfl, rfl⟩) | (go_at_call 42; refine (hmay _ H.out.has.flash H.out.area).mono ?_; rintro e w' ⟨rfl, n1, rfl⟩) | (go_at_call 89; refine (hbl _ (H.out.drewN _).has.flash (H.out.drewN _).area).mono ?_; rintro e w' ⟨rfl, n2, rfl⟩) | (go_at_call 36; refine (aerase_h x 0 F1 he hF1 (H.out.drewN _)).mono ?_; rintro e w' ⟨rfl, h3, ho⟩))
        go_ret
        exact ⟨rfl, h3, ⟨ho.os, ho.tape, ho.output, ho.size, ho.block⟩⟩
      · have g3 : ¬ bs = [] := by intro hh; subst hh; exact hz rfl
        have k1 : R.chunkE F x bs = R.programE F1 x 0 bs := by simp [Ar.chunkE, h1, g2, hq, hb, he, g3, hF1]
        have k2 : R.chunk F x bs = R.program F1 x 0 bs := by simp [Ar.chunk, h1, g2, hq, hb, he, g3, hF1]
        rw [k1, k2]
        clear k1 k2
        clear hq hb g3
        have hd3 : ((bs.length : Int) == 0) = false := by simp [hz]
        go_enter Try.func45, Try.ntmps45
        go_wp2_with (first | (go_at_call 47; refine (hfr _).mono ?_; rintro e w' ⟨rfl, rfl⟩) | (go_at_call 42; refine (hmay _ H.out.has.flash H.out.area).mono ?_; rintro e w' ⟨rfl, n1, rfl⟩) | (go_at_call 89; refine (hbl _ (H.out.drewN _).has.flash (H.out.drewN _).area).mono ?_; rintro e w' ⟨rfl, n2, rfl⟩) | (go_at_call 36; refine (aerase_h x 0 F1 he hF1 (H.out.drewN _)).mono ?_; rintro e w' ⟨rfl, h3, ho⟩) | (go_at_call 35; refine (aprogram_h x 0 _ _ _ bs _ _ rfl rfl ((hr.drewN _).only ho hap) hap h3).mono ?_; rintro e w' ⟨rfl, h4, ho4⟩))
        go_ret
        exact ⟨rfl, h4, ⟨ho4.os.trans ho.os, ho4.tape.trans ho.tape, ho4.output.trans ho.output, Nat.le_trans ho.size ho4.size, fun k hk hs => (ho4.block k (Nat.lt_of_lt_of_le hk ho.size) hs).trans (ho.block k hk hs)⟩⟩
    · have k1 : R.chunkE F x bs = R.eraseE F x := by simp [Ar.chunkE, h1, g2, hq, hb, he]
      have k2 : R.chunk F x bs = R.erase F x := by simp [Ar.chunk, h1, g2, hq, hb, he]
      rw [k1, k2]
      clear k1 k2
      clear hq hb
      have hd3 : (R.eraseE F x == 0) = false := by rw [beq_eq_false_iff_ne]; exact he
      go_enter Try.func45, Try.ntmps45
      go_wp2_with (first | (go_at_call 47; refine (hfr _).mono ?_; rintro e w' ⟨rfl, rfl⟩) | (go_at_call 42; refine (hmay _ H.out.has.flash H.out.area).mono ?_; rintro e w' ⟨rfl, n1, rfl⟩) | (go_at_call 89; refine (hbl _ (H.out.drewN _).has.flash (H.out.drewN _).area).mono ?_; rintro e w' ⟨rfl, n2, rfl⟩) | (go_at_call 36; refine (aerase_h x _ _ rfl rfl (H.out.drewN _)).mono ?_; rintro e w' ⟨rfl, h3, ho⟩))
      go_ret
      exact ⟨rfl, h3, ⟨ho.os, ho.tape, ho.output, ho.size, ho.block⟩⟩
  · have hbl : ∀ W : World, FlashAt W fb bb wb F → AreaAt W ab fb R F.wear.length → Calls Try.prog 89 #[ptr ab, .int .i64 x] W fun e w' => e = .returned (.bool true) ∧ ∃ n, w' = W.drewN n := fun W h1 h2 => (ablank_c W x h1 h2).mono fun e w' hh => ⟨by rw [hh.1, hb], hh.2⟩
    by_cases hz : bs.length = 0
    · have g3 : bs = [] := List.eq_nil_of_length_eq_zero (by omega)
      have k1 : R.chunkE F x bs = 0 := by simp [Ar.chunkE, h1, g2, hq, hb, g3]
      have k2 : R.chunk F x bs = F := by simp [Ar.chunk, h1, g2, hq, hb, g3]
      rw [k1, k2]
      clear k1 k2
      clear hq hb g3
      have hd3 : ((bs.length : Int) == 0) = true := by simp [hz]
      go_enter Try.func45, Try.ntmps45
      go_wp2_with (first | (go_at_call 47; refine (hfr _).mono ?_; rintro e w' ⟨rfl, rfl⟩) | (go_at_call 42; refine (hmay _ H.out.has.flash H.out.area).mono ?_; rintro e w' ⟨rfl, n1, rfl⟩) | (go_at_call 89; refine (hbl _ (H.out.drewN _).has.flash (H.out.drewN _).area).mono ?_; rintro e w' ⟨rfl, n2, rfl⟩))
      go_ret
      exact ⟨rfl, H.out.drewN _, (Only.refl _ _).drewN _⟩
    · have g3 : ¬ bs = [] := by intro hh; subst hh; exact hz rfl
      have k1 : R.chunkE F x bs = R.programE F x 0 bs := by simp [Ar.chunkE, h1, g2, hq, hb, g3]
      have k2 : R.chunk F x bs = R.program F x 0 bs := by simp [Ar.chunk, h1, g2, hq, hb, g3]
      rw [k1, k2]
      clear k1 k2
      clear hq hb g3
      have hd3 : ((bs.length : Int) == 0) = false := by simp [hz]
      go_enter Try.func45, Try.ntmps45
      go_wp2_with (first | (go_at_call 47; refine (hfr _).mono ?_; rintro e w' ⟨rfl, rfl⟩) | (go_at_call 42; refine (hmay _ H.out.has.flash H.out.area).mono ?_; rintro e w' ⟨rfl, n1, rfl⟩) | (go_at_call 89; refine (hbl _ (H.out.drewN _).has.flash (H.out.drewN _).area).mono ?_; rintro e w' ⟨rfl, n2, rfl⟩) | (go_at_call 35; refine (aprogram_h x 0 _ _ _ bs _ _ rfl rfl (hr.drewN _) hap (H.out.drewN _)).mono ?_; rintro e w' ⟨rfl, h3, ho⟩))
      go_ret
      exact ⟨rfl, h3, ⟨ho.os, ho.tape, ho.output, ho.size, ho.block⟩⟩
end
end Go.Proofs.Ytlchlcjahndjgaa
