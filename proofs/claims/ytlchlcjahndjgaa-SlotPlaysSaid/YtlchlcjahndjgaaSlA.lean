/- slot.From; area.Blank. · slot.May and slot.Write. · slot.Image. · Chunks on a calm flash: plain. · The laws of chapter 19: alive, num. · Images written chunk by chunk: plain, and the reference's Chunks and Len. -/
import Derived.Test.YtlchlcjahndjgaaAreaE
import Derived.Test.YtlchlcjahndjgaaStr
namespace Go.Proofs.Ytlchlcjahndjgaa
open Go.RowKit
set_option linter.unusedVariables false
set_option linter.unusedSimpArgs false
/-- The sector of a chunk. -/
def fromS (s k n : Int) : Int := if s < 0 ∨ 1 < s ∨ n < 1 ∨ 6 < n ∨ k < 0 ∨ n ≤ k then -1 else 4 + s * n + k
set_option maxRecDepth 100000 in
theorem from_off (s k n : Int) (w : World) (hg : s < 0 ∨ 1 < s ∨ n < 1 ∨ 6 < n ∨ k < 0 ∨ n ≤ k) : Calls Try.prog 47 #[.int .i64 s, .int .i64 k, .int .i64 n] w fun e w' => e = .returned (.int .i64 (-1)) ∧ w = w' := by
  by_cases g0 : s < 0
  · clear hg
    go_enter Try.func47, Try.ntmps47
    go_wp2_with fail
    go_ret
    exact ⟨rfl, rfl⟩
  · by_cases g1 : 1 < s
    · clear hg
      go_enter Try.func47, Try.ntmps47
      go_wp2_with fail
      go_ret
      exact ⟨rfl, rfl⟩
    · by_cases g2 : n < 1
      · clear hg
        go_enter Try.func47, Try.ntmps47
        go_wp2_with fail
        go_ret
        exact ⟨rfl, rfl⟩
      · by_cases g3 : 6 < n
        · clear hg
          go_enter Try.func47, Try.ntmps47
          go_wp2_with fail
          go_ret
          exact ⟨rfl, rfl⟩
        · by_cases g4 : k < 0
          · clear hg
            go_enter Try.func47, Try.ntmps47
            go_wp2_with fail
            go_ret
            exact ⟨rfl, rfl⟩
          · have g5 : n ≤ k := by omega
            clear hg
            go_enter Try.func47, Try.ntmps47
            go_wp2_with fail
            go_ret
            exact ⟨rfl, rfl⟩
set_option maxRecDepth 100000 in
theorem from_c (s k n : Int) (w : World) : Calls Try.prog 47 #[.int .i64 s, .int .i64 k, .int .i64 n] w fun e w' => e = .returned (.int .i64 (fromS s k n)) ∧ w = w' := by
  by_cases hg : s < 0 ∨ 1 < s ∨ n < 1 ∨ 6 < n ∨ k < 0 ∨ n ≤ k
  · rw [show fromS s k n = -1 from if_pos hg]
    exact from_off s k n w hg
  · rw [show fromS s k n = 4 + s * n + k from if_neg hg]
    have g0 : ¬ s < 0 := by omega
    have g1 : ¬ 1 < s := by omega
    have g2 : ¬ n < 1 := by omega
    have g3 : ¬ 6 < n := by omega
    have g4 : ¬ k < 0 := by omega
    have g5 : ¬ n ≤ k := by omega
    clear hg
    have hs : s = 0 ∨ s = 1 := by omega
    rcases hs with rfl | rfl
    · go_enter Try.func47, Try.ntmps47
      go_wp2_with fail
      go_ret
      exact ⟨congrArg (fun x => Ending.returned (Value.int .i64 x)) (by omega), rfl⟩
    · go_enter Try.func47, Try.ntmps47
      go_wp2_with fail
      go_ret
      exact ⟨congrArg (fun x => Ending.returned (Value.int .i64 x)) (by omega), rfl⟩
section
variable {w : World} {ab fb bb wb : Nat} {R : Ar} {F : Fl}
theorem ablank_c (w : World) (s : Int) (hF : FlashAt w fb bb wb F) (h : AreaAt w ab fb R F.wear.length) :
    Calls Try.prog 89 #[ptr ab, .int .i64 s] w fun e w' => e = .returned (.bool (R.blank F s)) ∧ ∃ n, w' = w.drewN n := by
  have H := Lib.hid h
  have HF := Lib.hid hF
  have h0 := h.a0
  have h1 := h.a1
  have hfit := h.ok.fit
  have hmost := h.most
  clear h hF
  cases hw : R.is s
  · have hq : ∀ n : Nat, Calls Try.prog 85 #[ptr ab, .int .i64 s] (w.drewN n) fun e w' => e = .returned (.bool false) ∧ w' = w.drewN n := fun n => (ais_c _ s (H.out.drewN n)).mono fun _ _ hh => ⟨by rw [hh.1, hw], hh.2.symm⟩
    have hr : R.blank F s = false := by simp [Ar.blank, hw]
    rw [hr]
    clear hr
    go_enter Try.func89, Try.ntmps89
    go_wp2_with fail
    go_quiet ((go_at_call 85; exact Calls.quiet_of_same (hq _)))
    go_wp2
    go_ret
    exact ⟨rfl, nq, rfl⟩
  · have hq : ∀ n : Nat, Calls Try.prog 85 #[ptr ab, .int .i64 s] (w.drewN n) fun e w' => e = .returned (.bool true) ∧ w' = w.drewN n := fun n => (ais_c _ s (H.out.drewN n)).mono fun _ _ hh => ⟨by rw [hh.1, hw], hh.2.symm⟩
    have hr : R.blank F s = F.blank ((R.from_ : Int) + s) := by simp [Ar.blank, hw]
    rw [hr]
    clear hr
    obtain ⟨b1, b2⟩ := Ar.is_b hw
    have e1 : IntKind.i64.wrap ((R.from_ : Int) + s) = (R.from_ : Int) + s := IntWalk.i64_in _ (by omega)
    go_enter Try.func89, Try.ntmps89
    go_wp2_with fail
    go_quiet (first | (go_at_call 85; exact Calls.quiet_of_same (hq _)) | (go_at_call 113; exact Calls.quiet_of_same ((blank_c _ _ (HF.out.drewN _)).mono fun _ _ hh => ⟨hh.1, hh.2.symm⟩)))
    go_wp2
    go_ret
    exact ⟨rfl, nq, rfl⟩
end
end Go.Proofs.Ytlchlcjahndjgaa
namespace Go.Proofs.Ytlchlcjahndjgaa
open Go.RowKit
set_option linter.unusedVariables false
set_option linter.unusedSimpArgs false
namespace Ar
/-- May a chunk be written? -/
def mayC (R : Ar) (F : Fl) (x : Int) : Bool := R.blank F x || decide (0 < R.left F x)
/-- The answer of a write into sector x, and what the flash is then. -/
def chunkE (R : Ar) (F : Fl) (x : Int) (bs : List UInt8) : Int :=
  if x = -1 ∨ 320 < bs.length then 2 else if R.mayC F x = false then 5 else
    if R.blank F x = true then (if bs.length = 0 then 0 else R.programE F x 0 bs)
    else if R.eraseE F x = 0 then (if bs.length = 0 then 0 else R.programE (R.erase F x) x 0 bs) else R.eraseE F x
def chunk (R : Ar) (F : Fl) (x : Int) (bs : List UInt8) : Fl :=
  if x = -1 ∨ 320 < bs.length then F else if R.mayC F x = false then F else
    if R.blank F x = true then (if bs.length = 0 then F else R.program F x 0 bs)
    else if R.eraseE F x = 0 then (if bs.length = 0 then R.erase F x else R.program (R.erase F x) x 0 bs) else R.erase F x
end Ar
theorem fromS_b (s k n : Int) : -1 ≤ fromS s k n ∧ fromS s k n ≤ 16 := by
  unfold fromS
  split
  · omega
  · rename_i h
    have hs : s = 0 ∨ s = 1 := by omega
    rcases hs with rfl | rfl <;> omega
section
variable {w0 w : World} {ab fb bb wb : Nat} {R : Ar} {F : Fl}
theorem may_c (w : World) (s k n : Int) (hF : FlashAt w fb bb wb F) (h : AreaAt w ab fb R F.wear.length) :
    Calls Try.prog 42 #[ptr ab, .int .i64 s, .int .i64 k, .int .i64 n] w fun e w' => e = .returned (.bool (R.mayC F (fromS s k n))) ∧ ∃ n, w' = w.drewN n := by
  have H := Lib.hid h
  have HF := Lib.hid hF
  clear h hF
  have hfr := fun w => from_c s k n w
  generalize fromS s k n = x at hfr ⊢
  unfold Ar.mayC
  cases hb : R.blank F x
  · have hbl : ∀ W : World, FlashAt W fb bb wb F → AreaAt W ab fb R F.wear.length → Calls Try.prog 89 #[ptr ab, .int .i64 x] W fun e w' => e = .returned (.bool false) ∧ ∃ n, w' = W.drewN n := fun W h1 h2 => (ablank_c W x h1 h2).mono fun e w' hh => ⟨by rw [hh.1, hb], hh.2⟩
    go_enter Try.func42, Try.ntmps42
    go_wp2_with (first | (go_at_call 47; refine (hfr _).mono ?_; rintro e w' ⟨rfl, rfl⟩) | (go_at_call 89; refine (hbl _ HF.out H.out).mono ?_; rintro e w' ⟨rfl, n1, rfl⟩) | (go_at_call 76; refine (aleft_c _ _ (HF.out.drewN _) (H.out.drewN _)).mono ?_; rintro e w' ⟨rfl, n2, rfl⟩))
    go_ret
    exact ⟨bool_ret (by simp), n1 + n2, by unfold World.drewN; simp [Nat.add_assoc]⟩
  · have hbl : ∀ W : World, FlashAt W fb bb wb F → AreaAt W ab fb R F.wear.length → Calls Try.prog 89 #[ptr ab, .int .i64 x] W fun e w' => e = .returned (.bool true) ∧ ∃ n, w' = W.drewN n := fun W h1 h2 => (ablank_c W x h1 h2).mono fun e w' hh => ⟨by rw [hh.1, hb], hh.2⟩
    go_enter Try.func42, Try.ntmps42
    go_wp2_with (first | (go_at_call 47; refine (hfr _).mono ?_; rintro e w' ⟨rfl, rfl⟩) | (go_at_call 89; refine (hbl _ HF.out H.out).mono ?_; rintro e w' ⟨rfl, n1, rfl⟩))
    go_ret
    exact ⟨bool_ret (by simp), n1, rfl⟩
theorem swrite_h (s k n : Int) (A : Option Addr) (m c : Nat) (bs : List UInt8) (hm : m = bs.length) (E : Int) (F' : Fl) (x : Int) (hx : fromS s k n = x) (hE : R.chunkE F x bs = E) (hF' : R.chunk F x bs = F')
    (hr : Reads w A m (bs.map u8v)) (hap : Apart [fb, bb, wb] A) (h : HasA w0 w ab fb bb wb R F) :
    Calls Try.prog 45 #[ptr ab, .int .i64 s, .int .i64 k, .int .i64 n, .slice A m c] w fun e w' => e = .returned (.int .i64 E) ∧ HasA w0 w' ab fb bb wb R F' ∧ Only [fb, bb, wb] w w' := by
  subst hE hF' hm
  have H := Lib.hid h
  clear h
  have hfr : ∀ w, Calls Try.prog 47 #[.int .i64 s, .int .i64 k, .int .i64 n] w fun e w' => e = .returned (.int .i64 x) ∧ w = w' := fun w => hx ▸ from_c s k n w
  have hmc : ∀ W : World, FlashAt W fb bb wb F → AreaAt W ab fb R F.wear.length → Calls Try.prog 42 #[ptr ab, .int .i64 s, .int .i64 k, .int .i64 n] W fun e w' => e = .returned (.bool (R.mayC F x)) ∧ ∃ n, w' = W.drewN n := fun W h1 h2 => hx ▸ may_c W s k n h1 h2
  clear hx
  by_cases h1 : x = -1
  · subst h1
    have k1 : R.chunkE F (-1) bs = 2 := by simp [Ar.chunkE]
    have k2 : R.chunk F (-1) bs = F := by simp [Ar.chunk]
    rw [k1, k2]
    clear k1 k2
    go_enter Try.func45, Try.ntmps45
    go_wp2_with (first | (go_at_call 47; refine (hfr _).mono ?_; rintro e w' ⟨rfl, rfl⟩))
    go_ret
    exact ⟨rfl, H.out, Only.refl _ _⟩
  by_cases h2 : 320 < bs.length
  · have g2 : 320 < bs.length := by omega
    have hd1 : (x == -1) = false := by rw [beq_eq_false_iff_ne]; exact h1
    have hd2 : decide ((320 : Int) < (bs.length : Int)) = true := by rw [decide_eq_true_iff]; omega
    have k1 : R.chunkE F x bs = 2 := by simp [Ar.chunkE, g2]
    have k2 : R.chunk F x bs = F := by simp [Ar.chunk, g2]
    rw [k1, k2]
    clear k1 k2
    go_enter Try.func45, Try.ntmps45
    go_wp2_with (first | (go_at_call 47; refine (hfr _).mono ?_; rintro e w' ⟨rfl, rfl⟩))
    go_ret
    exact ⟨rfl, H.out, Only.refl _ _⟩
  have g2 : ¬ 320 < bs.length := by omega
  have hd1 : (x == -1) = false := by rw [beq_eq_false_iff_ne]; exact h1
  have hd2 : decide ((320 : Int) < (bs.length : Int)) = false := by rw [decide_eq_false_iff_not]; omega
  cases hq : R.mayC F x
  · have k1 : R.chunkE F x bs = 5 := by simp [Ar.chunkE, h1, g2, hq]
    have k2 : R.chunk F x bs = F := by simp [Ar.chunk, h1, g2, hq]
    rw [k1, k2]
    clear k1 k2
    have hmay : ∀ W : World, FlashAt W fb bb wb F → AreaAt W ab fb R F.wear.length → Calls Try.prog 42 #[ptr ab, .int .i64 s, .int .i64 k, .int .i64 n] W fun e w' => e = .returned (.bool false) ∧ ∃ n, w' = W.drewN n := fun W h1 h2 => hq ▸ hmc W h1 h2
    clear hmc hq
    go_enter Try.func45, Try.ntmps45
    go_wp2_with (first | (go_at_call 47; refine (hfr _).mono ?_; rintro e w' ⟨rfl, rfl⟩) | (go_at_call 42; refine (hmay _ H.out.has.flash H.out.area).mono ?_; rintro e w' ⟨rfl, n1, rfl⟩))
    go_ret
    exact ⟨rfl, H.out.drewN _, (Only.refl _ _).drewN _⟩
  have hmay : ∀ W : World, FlashAt W fb bb wb F → AreaAt W ab fb R F.wear.length → Calls Try.prog 42 #[ptr ab, .int .i64 s, .int .i64 k, .int .i64 n] W fun e w' => e = .returned (.bool true) ∧ ∃ n, w' = W.drewN n := fun W h1 h2 => hq ▸ hmc W h1 h2
  clear hmc
  cases hb : R.blank F x
  · have hbl : ∀ W : World, FlashAt W fb bb wb F → AreaAt W ab fb R F.wear.length → Calls Try.prog 89 #[ptr ab, .int .i64 x] W fun e w' => e = .returned (.bool false) ∧ ∃ n, w' = W.drewN n := fun W h1 h2 => (ablank_c W x h1 h2).mono fun e w' hh => ⟨by rw [hh.1, hb], hh.2⟩
    by_cases he : R.eraseE F x = 0
    · obtain ⟨F1, hF1⟩ : ∃ F1, R.erase F x = F1 := ⟨_, rfl⟩
      by_cases hz : bs.length = 0
      · have g3 : bs = [] := List.eq_nil_of_length_eq_zero (by omega)
        have k1 : R.chunkE F x bs = 0 := by simp [Ar.chunkE, h1, g2, hq, hb, he, g3, hF1]
        have k2 : R.chunk F x bs = F1 := by simp [Ar.chunk, h1, g2, hq, hb, he, g3, hF1]
        rw [k1, k2]
        clear k1 k2
        clear hq hb g3
        have hd3 : ((bs.length : Int) == 0) = true := by simp [hz]
        go_enter Try.func45, Try.ntmps45
        go_wp2_with (first | (go_at_call 47; refine (hfr _).mono ?_; rintro e w' ⟨rfl, rfl⟩) | (go_at_call 42; refine (hmay _ H.out.has.flash H.out.area).mono ?_; rintro e w' ⟨rfl, n1, rfl⟩) | (go_at_call 89; refine (hbl _ (H.out.drewN _).has.flash (H.out.drewN _).area).mono ?_; rintro e w' ⟨rfl, n2, rfl⟩) | (go_at_call 36; refine (aerase_h x 0 F1 he hF1 (H.out.drewN _)).mono ?_; rintro e w' ⟨rfl, h3, ho⟩))
        go_ret
        exact ⟨rfl, h3, ⟨ho.os, ho.tape, ho.output, ho.size, ho.block⟩⟩
      · have g3 : ¬ bs = [] := by intro hh; subst hh; exact hz rfl
        have k1 : R.chunkE F x bs = R.programE F1 x 0 bs := by simp [Ar.chunkE, h1, g2, hq, hb, he, g3, hF1]
        have k2 : R.chunk F x bs = R.program F1 x 0 bs := by simp [Ar.chunk, h1, g2, hq, hb, he, g3, hF1]
        rw [k1, k2]
        clear k1 k2
        clear hq hb g3
        have hd3 : ((bs.length : Int) == 0) = false := by simp [hz]
        go_enter Try.func45, Try.ntmps45
        go_wp2_with (first | (go_at_call 47; refine (hfr _).mono ?_; rintro e w' ⟨rfl, rfl⟩) | (go_at_call 42; refine (hmay _ H.out.has.flash H.out.area).mono ?_; rintro e w' ⟨rfl, n1, rfl⟩) | (go_at_call 89; refine (hbl _ (H.out.drewN _).has.flash (H.out.drewN _).area).mono ?_; rintro e w' ⟨rfl, n2, rfl⟩) | (go_at_call 36; refine (aerase_h x 0 F1 he hF1 (H.out.drewN _)).mono ?_; rintro e w' ⟨rfl, h3, ho⟩) | (go_at_call 35; refine (aprogram_h x 0 _ _ _ bs _ _ rfl rfl ((hr.drewN _).only ho hap) hap h3).mono ?_; rintro e w' ⟨rfl, h4, ho4⟩))
        go_ret
        exact ⟨rfl, h4, ⟨ho4.os.trans ho.os, ho4.tape.trans ho.tape, ho4.output.trans ho.output, Nat.le_trans ho.size ho4.size, fun k hk hs => (ho4.block k (Nat.lt_of_lt_of_le hk ho.size) hs).trans (ho.block k hk hs)⟩⟩
    · have k1 : R.chunkE F x bs = R.eraseE F x := by simp [Ar.chunkE, h1, g2, hq, hb, he]
      have k2 : R.chunk F x bs = R.erase F x := by simp [Ar.chunk, h1, g2, hq, hb, he]
      rw [k1, k2]
      clear k1 k2
      clear hq hb
      have hd3 : (R.eraseE F x == 0) = false := by rw [beq_eq_false_iff_ne]; exact he
      go_enter Try.func45, Try.ntmps45
      go_wp2_with (first | (go_at_call 47; refine (hfr _).mono ?_; rintro e w' ⟨rfl, rfl⟩) | (go_at_call 42; refine (hmay _ H.out.has.flash H.out.area).mono ?_; rintro e w' ⟨rfl, n1, rfl⟩) | (go_at_call 89; refine (hbl _ (H.out.drewN _).has.flash (H.out.drewN _).area).mono ?_; rintro e w' ⟨rfl, n2, rfl⟩) | (go_at_call 36; refine (aerase_h x _ _ rfl rfl (H.out.drewN _)).mono ?_; rintro e w' ⟨rfl, h3, ho⟩))
      go_ret
      exact ⟨rfl, h3, ⟨ho.os, ho.tape, ho.output, ho.size, ho.block⟩⟩
  · have hbl : ∀ W : World, FlashAt W fb bb wb F → AreaAt W ab fb R F.wear.length → Calls Try.prog 89 #[ptr ab, .int .i64 x] W fun e w' => e = .returned (.bool true) ∧ ∃ n, w' = W.drewN n := fun W h1 h2 => (ablank_c W x h1 h2).mono fun e w' hh => ⟨by rw [hh.1, hb], hh.2⟩
    by_cases hz : bs.length = 0
    · have g3 : bs = [] := List.eq_nil_of_length_eq_zero (by omega)
      have k1 : R.chunkE F x bs = 0 := by simp [Ar.chunkE, h1, g2, hq, hb, g3]
      have k2 : R.chunk F x bs = F := by simp [Ar.chunk, h1, g2, hq, hb, g3]
      rw [k1, k2]
      clear k1 k2
      clear hq hb g3
      have hd3 : ((bs.length : Int) == 0) = true := by simp [hz]
      go_enter Try.func45, Try.ntmps45
      go_wp2_with (first | (go_at_call 47; refine (hfr _).mono ?_; rintro e w' ⟨rfl, rfl⟩) | (go_at_call 42; refine (hmay _ H.out.has.flash H.out.area).mono ?_; rintro e w' ⟨rfl, n1, rfl⟩) | (go_at_call 89; refine (hbl _ (H.out.drewN _).has.flash (H.out.drewN _).area).mono ?_; rintro e w' ⟨rfl, n2, rfl⟩))
      go_ret
      exact ⟨rfl, H.out.drewN _, (Only.refl _ _).drewN _⟩
    · have g3 : ¬ bs = [] := by intro hh; subst hh; exact hz rfl
      have k1 : R.chunkE F x bs = R.programE F x 0 bs := by simp [Ar.chunkE, h1, g2, hq, hb, g3]
      have k2 : R.chunk F x bs = R.program F x 0 bs := by simp [Ar.chunk, h1, g2, hq, hb, g3]
      rw [k1, k2]
      clear k1 k2
      clear hq hb g3
      have hd3 : ((bs.length : Int) == 0) = false := by simp [hz]
      go_enter Try.func45, Try.ntmps45
      go_wp2_with (first | (go_at_call 47; refine (hfr _).mono ?_; rintro e w' ⟨rfl, rfl⟩) | (go_at_call 42; refine (hmay _ H.out.has.flash H.out.area).mono ?_; rintro e w' ⟨rfl, n1, rfl⟩) | (go_at_call 89; refine (hbl _ (H.out.drewN _).has.flash (H.out.drewN _).area).mono ?_; rintro e w' ⟨rfl, n2, rfl⟩) | (go_at_call 35; refine (aprogram_h x 0 _ _ _ bs _ _ rfl rfl (hr.drewN _) hap (H.out.drewN _)).mono ?_; rintro e w' ⟨rfl, h3, ho⟩))
      go_ret
      exact ⟨rfl, h3, ⟨ho.os, ho.tape, ho.output, ho.size, ho.block⟩⟩
end
end Go.Proofs.Ytlchlcjahndjgaa
namespace Go.Proofs.Ytlchlcjahndjgaa
open Go.RowKit
set_option linter.unusedVariables false
set_option linter.unusedSimpArgs false
namespace Ar
/-- The first bytes of a slot: chunk by chunk. -/
def imgGo (R : Ar) (F : Fl) (s n : Int) (size : Nat) : Nat → Nat → List UInt8 → List UInt8
  | 0, _, out => out
  | f + 1, k, out => if size ≤ out.length then out else if R.read F (fromS s k n) 0 (min 320 ((size : Int) - out.length)) = [] then [] else imgGo R F s n size f (k + 1) (out ++ R.read F (fromS s k n) 0 (min 320 ((size : Int) - out.length)))
def image (R : Ar) (F : Fl) (s n size : Int) : List UInt8 := if fromS s 0 n = -1 ∨ size < 1 ∨ n * 320 < size then [] else R.imgGo F s n size.toNat (size.toNat + 1) 0 []
theorem imgGo_lt (R : Ar) (F : Fl) (s n : Int) (z f k : Nat) (out b : List UInt8) (h : out.length < z) (hb : R.read F (fromS s k n) 0 (min 320 ((z : Int) - out.length)) = b) :
    R.imgGo F s n z (f + 1) k out = if b = [] then [] else R.imgGo F s n z f (k + 1) (out ++ b) := by
  subst hb
  show (if z ≤ out.length then out else _) = _
  rw [if_neg (by omega)]
theorem imgGo_ge (R : Ar) (F : Fl) (s n : Int) (z f k : Nat) (out : List UInt8) (h : z ≤ out.length) : R.imgGo F s n z (f + 1) k out = out := by
  show (if z ≤ out.length then out else _) = _
  rw [if_pos h]
theorem read_le (R : Ar) (F : Fl) (s a n : Int) : (R.read F s a n).length ≤ n.toNat := by
  unfold Ar.read Fl.read
  split
  · split
    · simp; omega
    · simp
  · simp
end Ar
theorem fromS_ok {s n : Int} (h : ¬ fromS s 0 n = -1) : 1 ≤ n ∧ n ≤ 6 := by
  unfold fromS at h
  split at h
  · exact absurd rfl h
  · omega
section
variable {w0 w : World} {ab fb bb wb : Nat} {R : Ar} {F : Fl}
set_option maxHeartbeats 1000000 in
theorem image_h (s n size : Int) (hsz : size ≤ 9223372036854775807) (L : List UInt8) (hL : R.image F s n size = L) (h : HasA w0 w ab fb bb wb R F) :
    Calls Try.prog 51 #[ptr ab, .int .i64 s, .int .i64 n, .int .i64 size] w fun e w' => ∃ A c, e = .returned (.slice A L.length c) ∧ w'.ownsRow w.heap.size 5 1 (.slice A L.length c) L.length (L.map u8v) ∧ HasA w0 w' ab fb bb wb R F ∧ Below w.heap.size w w' := by
  have H := Lib.hid h
  clear h
  by_cases h1 : fromS s 0 n = -1
  · have hfr : ∀ w, Calls Try.prog 47 #[.int .i64 s, .int .i64 0, .int .i64 n] w fun e w' => e = .returned (.int .i64 (-1)) ∧ w = w' := fun w => h1 ▸ from_c s 0 n w
    have k1 : R.image F s n size = [] := by unfold Ar.image; rw [if_pos (Or.inl h1)]
    obtain rfl := hL.symm.trans k1
    clear h1 k1 hL
    go_enter Try.func51, Try.ntmps51
    go_wp2_with (go_at_call 47; refine (hfr _).mono ?_; rintro e w' ⟨rfl, rfl⟩)
    go_ret
    exact ⟨none, 0, rfl, World.ownsRow_nil _ _ _ _, H.out, Below.refl _ _⟩
  · obtain ⟨n1, n2⟩ := fromS_ok h1
    obtain ⟨x0, hx0⟩ : ∃ x, fromS s 0 n = x := ⟨_, rfl⟩
    have hfr : ∀ w, Calls Try.prog 47 #[.int .i64 s, .int .i64 0, .int .i64 n] w fun e w' => e = .returned (.int .i64 x0) ∧ w = w' := fun w => hx0 ▸ from_c s 0 n w
    have hd0 : (x0 == -1) = false := by rw [beq_eq_false_iff_ne, ← hx0]; exact h1
    by_cases h2 : size < 1
    · have k1 : R.image F s n size = [] := by unfold Ar.image; rw [if_pos (Or.inr (Or.inl h2))]
      obtain rfl := hL.symm.trans k1
      clear h1 k1 hL hx0
      go_enter Try.func51, Try.ntmps51
      go_wp2_with (go_at_call 47; refine (hfr _).mono ?_; rintro e w' ⟨rfl, rfl⟩)
      go_ret
      exact ⟨none, 0, rfl, World.ownsRow_nil _ _ _ _, H.out, Below.refl _ _⟩
    · have e1 : IntKind.i64.wrap (n * 320) = n * 320 := IntWalk.i64_in _ (by omega)
      by_cases h3 : n * 320 < size
      · have k1 : R.image F s n size = [] := by unfold Ar.image; rw [if_pos (Or.inr (Or.inr h3))]
        obtain rfl := hL.symm.trans k1
        clear h1 k1 hL hx0
        go_enter Try.func51, Try.ntmps51
        go_wp2_with (go_at_call 47; refine (hfr _).mono ?_; rintro e w' ⟨rfl, rfl⟩)
        go_ret
        exact ⟨none, 0, rfl, World.ownsRow_nil _ _ _ _, H.out, Below.refl _ _⟩
      · have k1 : R.image F s n size = R.imgGo F s n size.toNat (size.toNat + 1) 0 [] := by unfold Ar.image; rw [if_neg (by omega)]
        have k2 := k1.symm.trans hL
        clear k1 hL h1 hx0
        obtain ⟨z, rfl⟩ : ∃ z : Nat, size = (z : Int) := ⟨size.toNat, by omega⟩
        have hz : z ≤ 1920 := by omega
        have k3 : R.imgGo F s n z (z + 1) 0 [] = L := k2
        clear k2
        have K3 := Lib.hid k3
        clear k3
        obtain ⟨i0, hi, hz0, hz1, hz2⟩ := info_parts info_u8
        have HI := Lib.hid hi
        have HZ0 := Lib.hid hz0
        have HZ1 := Lib.hid hz1
        have HZ2 := Lib.hid hz2
        clear hi hz0 hz1 hz2
        have hd1 : decide ((z : Int) < 1) = false := by rw [decide_eq_false_iff_not]; omega
        have hd2 : decide (n * 320 < (z : Int)) = false := by rw [decide_eq_false_iff_not]; omega
        have hd3 : ¬ (z : Int) < 1 := by omega
        have hd4 : ¬ n * 320 < (z : Int) := by omega
        clear h2 h3
        go_enter Try.func51, Try.ntmps51
        go_wp2_with (go_at_call 47; refine (hfr _).mono ?_; rintro e w' ⟨rfl, rfl⟩)
        go_loopw [9, 10] (fun v i wr => ∃ (k f : Nat) (out : List UInt8) (A' : Option Addr) (c' : Nat), k ≤ out.length ∧ out.length ≤ z ∧ z < f + out.length ∧ R.imgGo F s n z f k out = L ∧ v = .slice A' out.length c' ∧ i = .int .i64 k ∧ wr.ownsRow w.heap.size 5 1 (.slice A' out.length c') out.length (out.map u8v) ∧ Below w.heap.size w wr) (fun _ i _ => z - (intOf i).toNat)
        case atStart => exact ⟨0, z + 1, [], none, 0, Nat.zero_le _, Nat.zero_le _, by simp, K3.out, rfl, rfl, World.ownsRow_nil _ _ _ _, Below.refl _ _⟩
        case round =>
          clear K3 hfr
          obtain ⟨k, f, out, A', c', hk, hoz, hf, hgo, rfl, rfl, hown, hbel⟩ := hrel
          have HO := Lib.hid hown
          have HB := Lib.hid hbel
          have hbs := hbel.size
          clear hown hbel
          by_cases hlt : out.length < z
          · obtain ⟨f', rfl⟩ : ∃ f', f = f' + 1 := ⟨f - 1, by omega⟩
            obtain ⟨x, hx⟩ : ∃ x, fromS s k n = x := ⟨_, rfl⟩
            obtain ⟨M, hM⟩ : ∃ M : Int, (if (z : Int) - out.length < 320 then (z : Int) - out.length else 320) = M := ⟨_, rfl⟩
            have hM2 : min 320 ((z : Int) - out.length) = M := by rw [← hM]; split <;> omega
            obtain ⟨b, hb⟩ : ∃ b, R.read F x 0 M = b := ⟨_, rfl⟩
            have hgo2 : (if b = [] then [] else R.imgGo F s n z f' (k + 1) (out ++ b)) = L := by
              rw [← hgo, R.imgGo_lt F s n z f' k out b hlt (by rw [hx, hM2]; exact hb)]
            have hbl : b.length ≤ z - out.length := by
              have := R.read_le F x 0 M
              rw [hb] at this; omega
            have hfr : ∀ w, Calls Try.prog 47 #[.int .i64 s, .int .i64 k, .int .i64 n] w fun e w' => e = .returned (.int .i64 x) ∧ w = w' := fun w => hx ▸ from_c s k n w
            have HBV := Lib.hid hb
            have hM3 : M ≤ 320 := by omega
            clear hgo hx hb hM2
            have e2 : IntKind.i64.wrap ((z : Int) - (out.length : Int)) = (z : Int) - out.length := IntWalk.i64_in _ (by omega)
            by_cases hb0 : b.length = 0
            · have hb1 : b = [] := List.eq_nil_of_length_eq_zero hb0
              rw [if_pos hb1] at hgo2
              subst hgo2
              subst hb1
              go_wp2_with (first | (go_at_call 47; refine (hfr _).mono ?_; rintro e w' ⟨rfl, rfl⟩) | (go_at_call 86; refine (aread_h x 0 _ (by omega) [] HBV.out (H.out.later HB.out)).mono ?_; rintro e w5 ⟨A5, c5, rfl, hown5, h5, hb5⟩))
              go_ret
              exact ⟨none, 0, rfl, World.ownsRow_nil _ _ _ _, h5, HB.out.trans (hb5.mono hbs)⟩
            · have hb1 : ¬ b = [] := fun hh => hb0 (by rw [hh]; rfl)
              rw [if_neg hb1] at hgo2
              have hd5 : ((b.length : Int) == 0) = false := by rw [beq_eq_false_iff_ne]; omega
              go_wp2_with (first | (go_at_call 47; refine (hfr _).mono ?_; rintro e w' ⟨rfl, rfl⟩) | (go_at_call 86; refine (aread_h x 0 _ (by omega) b HBV.out (H.out.later HB.out)).mono ?_; rintro e w5 ⟨A5, c5, rfl, hown5, h5, hb5⟩; have hs5 := hb5.size; have hl1 := HO.out.lt; have HO5 := Lib.hid (own_only HO.out (Only.of_below (S := []) hb5) (by simp)); have HB5 := Lib.hid (HB.out.trans (hb5.mono hbs)); have HW5 := Lib.hid hown5; clear hown5 h5 hb5) | (at_builtin; refine wpList_append_any _ rfl (.tmp 46) (.tmp 47) _ rfl w.heap.size 5 i0 (.int .u8 0) 1 Try.underlying29 HI.out HZ0.out HZ1.out HZ2.out rfl _ out.length (out.map u8v) rfl HO5.out A5 b.length c5 (b.map u8v) rfl (Reads.of_own HW5.out) (u8v_one _) (by unfold maxLen; omega) (by omega) (by omega) ?_; intro A6 c6 w6 hown6 hgrow6 hat6; have HO6 := Lib.hid hown6; have HG6 := Lib.hid hgrow6; clear hown6 hgrow6 hat6))
              go_roundw
              case rel =>
                refine ⟨k + 1, f', out ++ b, A6, c6, by simp; omega, by simp; omega, by simp; omega, hgo2, by simp, by go_num, ?_, HB5.out.grown HG6.out (by omega) (fun g hg => (hl1 g hg).1)⟩
                rw [List.map_append, List.length_append]
                exact HO6.out
              case measure => simp [intOf]; omega
          · obtain ⟨f', rfl⟩ : ∃ f', f = f' + 1 := ⟨f - 1, by omega⟩
            rw [R.imgGo_ge F s n z f' k out (by omega)] at hgo
            subst hgo
            go_wp2_with fail
            go_ret
            exact ⟨A', c', rfl, HO.out, H.out.later HB.out, HB.out⟩
end
end Go.Proofs.Ytlchlcjahndjgaa
namespace Go.Proofs.Ytlchlcjahndjgaa
open Go.RowKit
set_option linter.unusedVariables false
set_option linter.unusedSimpArgs false
namespace Fl
theorem may_blank (F : Fl) (a : Nat) (bs : List UInt8) (h : ∀ i, i < bs.length → F.b.getD (a + i) 0 = 255) : F.may a bs = true := by
  unfold Fl.may
  rw [List.all_eq_true]
  intro i hi
  rw [List.mem_range] at hi
  rw [h i hi, and_not_255]
  rfl
theorem blank_getD {F : Fl} (hl : F.b.length = 320 * F.wear.length) (s : Nat) (hb : F.blank s = true) (i : Nat) (hi : i < 320) : F.b.getD (s * 320 + i) 0 = 255 := by
  unfold Fl.blank at hb
  rw [Bool.and_eq_true, List.all_eq_true] at hb
  have hs : s < F.wear.length := by have := hb.1; unfold Fl.is at this; simp at this; omega
  have hlt : s * 320 + i < F.b.length := by omega
  have := hb.2 (F.b[s * 320 + i]) (by
    rw [List.mem_iff_getElem]
    refine ⟨i, by simp; omega, ?_⟩
    simp)
  rw [List.getD_eq_getElem?_getD, List.getElem?_eq_getElem hlt, Option.getD_some]
  simpa using this
theorem blank_of {F : Fl} (hl : F.b.length = 320 * F.wear.length) (s : Nat) (hs : s < F.wear.length) (h : ∀ i, i < 320 → F.b.getD (s * 320 + i) 0 = 255) : F.blank s = true := by
  unfold Fl.blank
  rw [Bool.and_eq_true, List.all_eq_true]
  refine ⟨by unfold Fl.is; simp; omega, ?_⟩
  intro x hx
  obtain ⟨i, hi, rfl⟩ := List.mem_iff_getElem.1 hx
  simp at hi
  have := h i (by omega)
  rw [List.getD_eq_getElem?_getD, List.getElem?_eq_getElem (by omega), Option.getD_some] at this
  simp [this]
end Fl
/-- What a chunk that is written turns on a calm flash. -/
structure Wrote (F F' : Fl) (x : Nat) (bs : List UInt8) : Prop where
  calm : F'.Calm
  ok : F'.Ok
  len : F'.wear.length = F.wear.length
  mask : F'.mask = F.mask
  here : ∀ j, j < bs.length → F'.b.getD (x * 320 + j) 0 = bs.getD j 0
  rest : ∀ j, bs.length ≤ j → j < 320 → F'.b.getD (x * 320 + j) 0 = 255
  far : ∀ j, j < x * 320 ∨ x * 320 + 320 ≤ j → F'.b.getD j 0 = F.b.getD j 0
  wfar : ∀ s, s ≠ x → F'.wear.getD s 0 = F.wear.getD s 0
namespace Ar
theorem is_at {R : Ar} {n : Nat} (h : R.Ok n) (s : Nat) (hs : s < R.len) : R.is s = true := by unfold Ar.is; simp; omega
theorem within_at {R : Ar} (s a k : Nat) (hs : s < R.len) (hk : a + k ≤ 320) : R.within s a k = true := by unfold Ar.within Ar.is; simp; omega
theorem blank_at {R : Ar} {F : Fl} (s : Nat) (hs : s < R.len) : R.blank F s = F.blank ((R.from_ + s : Nat) : Int) := by
  unfold Ar.blank Ar.is
  simp [hs]
theorem left_at {R : Ar} {F : Fl} (s : Nat) (hs : s < R.len) : R.left F s = max 0 (R.budget - F.wearAt ((R.from_ + s : Nat) : Int)) := by
  unfold Ar.left Ar.is
  rw [if_pos (by simp; omega)]
  rw [show ((R.from_ : Int) + (s : Int)) = ((R.from_ + s : Nat) : Int) by omega]
theorem wear_at {F : Fl} (s : Nat) (hs : s < F.wear.length) : F.wearAt s = F.wear.getD s 0 := by
  unfold Fl.wearAt Fl.is
  rw [if_pos (by simp; omega)]
  simp
/-- A program of bytes at the beginning of a blank sector. -/
theorem prog_blank {R : Ar} {F : Fl} (hR : R.Ok F.wear.length) (hc : F.Calm) (ho : F.Ok) (s : Nat) (hs : s < R.len) (bs : List UInt8) (hb : bs.length ≤ 320)
    (hbl : F.blank ((R.from_ + s : Nat) : Int) = true) : R.programE F s 0 bs = 0 ∧ R.program F s 0 bs = F.put ((R.from_ + s) * 320) bs ∧ Wrote F (F.put ((R.from_ + s) * 320) bs) (R.from_ + s) bs := by
  have hl := ho.len
  have hfit := hR.fit
  have hw : R.within s 0 bs.length = true := R.within_at s 0 bs.length hs (by omega)
  have hx : (((R.from_ : Int) + (s : Int)) * 320 + 0) = (((R.from_ + s) * 320 : Nat) : Int) := by omega
  have hfw : F.within (((R.from_ + s) * 320 : Nat) : Int) bs.length = true := by unfold Fl.within; simp; omega
  have hm : F.may ((R.from_ + s) * 320) bs = true := Fl.may_blank F _ bs fun i hi => Fl.blank_getD hl _ hbl i (by omega)
  obtain ⟨p1, p2⟩ := hc.prog _ bs hfw
  rw [Int.toNat_natCast, hm] at p1 p2
  refine ⟨?_, ?_, hc.put _ _, Fl.put_ok ho _ _, rfl, rfl, ?_, ?_, ?_, fun _ _ => rfl⟩
  · unfold Ar.programE; rw [if_pos hw, hx]; exact p1
  · unfold Ar.program; rw [if_pos hw, hx]; exact p2
  · intro j hj
    show (Fl.over F.b _ bs).getD _ 0 = _
    rw [Fl.over_getD, if_pos (by omega)]
    congr 1; omega
  · intro j hj hj2
    show (Fl.over F.b _ bs).getD _ 0 = _
    rw [Fl.over_getD, if_neg (by omega)]
    exact Fl.blank_getD hl _ hbl j hj2
  · intro j hj
    show (Fl.over F.b _ bs).getD _ 0 = _
    rw [Fl.over_getD, if_neg (by omega)]
theorem chunk_blank {R : Ar} {F : Fl} (hR : R.Ok F.wear.length) (hc : F.Calm) (ho : F.Ok) (s : Nat) (hs : s < R.len) (bs : List UInt8) (hb : bs.length ≤ 320) (hb0 : bs ≠ [])
    (hbl : F.blank ((R.from_ + s : Nat) : Int) = true) : R.mayC F s = true ∧ R.chunkE F s bs = 0 ∧ R.chunk F s bs = F.put ((R.from_ + s) * 320) bs ∧ Wrote F (R.chunk F s bs) (R.from_ + s) bs := by
  have hbs : R.blank F s = true := by rw [R.blank_at s hs]; exact hbl
  have hm : R.mayC F s = true := by unfold Ar.mayC; rw [hbs]; rfl
  have h1 : ¬ ((s : Int) = -1 ∨ 320 < bs.length) := by omega
  have h2 : ¬ bs.length = 0 := fun h => hb0 (List.eq_nil_of_length_eq_zero h)
  obtain ⟨p1, p2, p3⟩ := prog_blank hR hc ho s hs bs hb hbl
  have e : R.chunk F s bs = F.put ((R.from_ + s) * 320) bs := by unfold Ar.chunk; rw [if_neg h1, hm, if_neg (by simp), if_pos hbs, if_neg h2]; exact p2
  refine ⟨hm, ?_, e, by rw [e]; exact p3⟩
  unfold Ar.chunkE; rw [if_neg h1, hm, if_neg (by simp), if_pos hbs, if_neg h2]; exact p1
theorem chunk_full {R : Ar} {F : Fl} (hR : R.Ok F.wear.length) (hc : F.Calm) (ho : F.Ok) (s : Nat) (hs : s < R.len) (bs : List UInt8) (hb : bs.length ≤ 320) (hb0 : bs ≠ [])
    (hbl : F.blank ((R.from_ + s : Nat) : Int) = false) (hw : F.wear.getD (R.from_ + s) 0 < R.budget) (hw2 : F.wear.getD (R.from_ + s) 0 ≤ 4611686018427387902) :
    R.mayC F s = true ∧ R.chunkE F s bs = 0 ∧ R.chunk F s bs = (F.ers (R.from_ + s)).put ((R.from_ + s) * 320) bs ∧ Wrote F (R.chunk F s bs) (R.from_ + s) bs := by
  have hfit := hR.fit
  have hbs : R.blank F s = false := by rw [R.blank_at s hs]; exact hbl
  have hl : R.left F s = R.budget - F.wear.getD (R.from_ + s) 0 := by rw [R.left_at s hs, wear_at _ (by omega)]; omega
  have hm : R.mayC F s = true := by unfold Ar.mayC; rw [hbs, hl, Bool.false_or, decide_eq_true_eq]; omega
  have h1 : ¬ ((s : Int) = -1 ∨ 320 < bs.length) := by omega
  have h2 : ¬ bs.length = 0 := fun h => hb0 (List.eq_nil_of_length_eq_zero h)
  have his : R.is s = true := R.is_at hR s hs
  have hfi : F.is ((R.from_ + s : Nat) : Int) = true := by unfold Fl.is; simp; omega
  have hx : ((R.from_ : Int) + (s : Int)) = ((R.from_ + s : Nat) : Int) := by omega
  obtain ⟨q1, q2⟩ := hc.erase _ hfi
  rw [Int.toNat_natCast] at q2
  have hz : (R.left F s == 0) = false := by rw [hl, beq_eq_false_iff_ne]; omega
  have e1 : R.eraseE F s = 0 := by unfold Ar.eraseE; rw [if_pos his, hz, if_neg (by simp), hx]; exact q1
  have e2 : R.erase F s = F.ers (R.from_ + s) := by unfold Ar.erase; rw [if_pos his, hz, if_neg (by simp), hx]; exact q2
  have hlen2 : (F.ers (R.from_ + s)).wear.length = F.wear.length := by rw [Fl.ers_wear, List.length_set]
  have hb2 := Fl.blank_ers F ho (R.from_ + s) (by omega)
  obtain ⟨p1, p2, p3⟩ := prog_blank (R := R) (F := F.ers (R.from_ + s)) (by rw [hlen2]; exact hR) (hc.ers _) (Fl.ers_ok ho _ (by omega)) s hs bs hb hb2
  have e : R.chunk F s bs = (F.ers (R.from_ + s)).put ((R.from_ + s) * 320) bs := by
    unfold Ar.chunk; rw [if_neg h1, hm, if_neg (by simp), hbs, if_neg (by simp), if_pos e1, if_neg h2, e2]; exact p2
  refine ⟨hm, ?_, e, ?_⟩
  · unfold Ar.chunkE; rw [if_neg h1, hm, if_neg (by simp), hbs, if_neg (by simp), if_pos e1, if_neg h2, e2]; exact p1
  · rw [e]
    refine ⟨p3.calm, p3.ok, p3.len.trans hlen2, p3.mask, p3.here, p3.rest, ?_, ?_⟩
    · intro j hj
      rw [p3.far j hj, Fl.ers_b, Fl.over_getD, if_neg (by rw [List.length_replicate]; omega)]
    · intro k hk
      rw [p3.wfar k hk, Fl.ers_wear, List.getD_eq_getElem?_getD, List.getElem?_set, if_neg (by omega), ← List.getD_eq_getElem?_getD]
theorem chunk_worn {R : Ar} {F : Fl} (hR : R.Ok F.wear.length) (s : Nat) (hs : s < R.len) (bs : List UInt8) (hb : bs.length ≤ 320)
    (hbl : F.blank ((R.from_ + s : Nat) : Int) = false) (hw : R.budget ≤ F.wear.getD (R.from_ + s) 0) : R.mayC F s = false ∧ R.chunkE F s bs = 5 ∧ R.chunk F s bs = F := by
  have hfit := hR.fit
  have hbs : R.blank F s = false := by rw [R.blank_at s hs]; exact hbl
  have hl : R.left F s = 0 := by rw [R.left_at s hs, wear_at _ (by omega)]; omega
  have hm : R.mayC F s = false := by unfold Ar.mayC; rw [hbs, hl]; rfl
  have h1 : ¬ ((s : Int) = -1 ∨ 320 < bs.length) := by omega
  refine ⟨hm, ?_, ?_⟩
  · unfold Ar.chunkE; rw [if_neg h1, if_pos hm]
  · unfold Ar.chunk; rw [if_neg h1, if_pos hm]
theorem read_at {R : Ar} {F : Fl} (hR : R.Ok F.wear.length) (ho : F.Ok) (s k : Nat) (hs : s < R.len) (hk : 1 ≤ k) (hk2 : k ≤ 320) : R.read F s 0 k = (F.b.drop ((R.from_ + s) * 320)).take k := by
  have hl := ho.len
  have hfit := hR.fit
  have hw : R.within s 0 k = true := R.within_at s 0 k hs (by omega)
  unfold Ar.read
  rw [if_pos hw, show (((R.from_ : Int) + (s : Int)) * 320 + 0) = (((R.from_ + s) * 320 : Nat) : Int) by omega]
  unfold Fl.read
  rw [if_pos ⟨by omega, by unfold Fl.within; simp; omega⟩, Int.toNat_natCast, Int.toNat_natCast]
theorem imgGo_flat {R : Ar} {F : Fl} (hR : R.Ok F.wear.length) (ho : F.Ok) (s n : Nat) (hs : s ≤ 1) (hn1 : n ≤ 6) (z : Nat) (hz : z ≤ n * 320) (hfit : 4 + s * n + n ≤ R.len) :
    ∀ (f k : Nat) (out : List UInt8), (out.length = z ∨ out.length = k * 320 ∧ k * 320 < z) → z < f + out.length → out = (F.b.drop ((R.from_ + 4 + s * n) * 320)).take out.length →
      R.imgGo F s n z f k out = (F.b.drop ((R.from_ + 4 + s * n) * 320)).take z := by
  have hl := ho.len
  have hfit2 := hR.fit
  intro f
  induction f with
  | zero =>
    intro k out h1 h2 h3
    omega
  | succ f ih =>
    intro k out h1 h2 h3
    by_cases hlt : out.length < z
    · obtain ⟨hk1, hk2⟩ : out.length = k * 320 ∧ k * 320 < z := by omega
      have hkn : k < n := by omega
      have hx : fromS s k n = ((4 + s * n + k : Nat) : Int) := by
        unfold fromS
        have hs' : s = 0 ∨ s = 1 := by omega
        rcases hs' with rfl | rfl
        · rw [if_neg (by omega)]; omega
        · rw [if_neg (by omega)]; omega
      have hs' : s * n = 0 ∨ s * n = n := by
        have hs' : s = 0 ∨ s = 1 := by omega
        rcases hs' with rfl | rfl <;> omega
      have hm : min 320 ((z : Int) - out.length) = ((min 320 (z - out.length) : Nat) : Int) := by omega
      have hr := read_at hR ho (4 + s * n + k) (min 320 (z - out.length)) (by omega) (by omega) (by omega)
      have hb : R.read F (fromS s k n) 0 (min 320 ((z : Int) - out.length)) = (F.b.drop ((R.from_ + (4 + s * n + k)) * 320)).take (min 320 (z - out.length)) := by rw [hx, hm]; exact hr
      have hbl : ((F.b.drop ((R.from_ + (4 + s * n + k)) * 320)).take (min 320 (z - out.length))).length = min 320 (z - out.length) := by
        rw [List.length_take, List.length_drop]; omega
      rw [R.imgGo_lt F s n z f k out _ hlt hb, if_neg (by intro h; rw [h] at hbl; simp at hbl; omega)]
      refine ih (k + 1) _ ?_ ?_ ?_
      · rw [List.length_append, hbl]; omega
      · rw [List.length_append, hbl]; omega
      · have e : (R.from_ + (4 + s * n + k)) * 320 = (R.from_ + 4 + s * n) * 320 + out.length := by rw [hk1]; omega
        rw [List.length_append, hbl, List.take_add, ← h3, List.drop_drop, e]
    · rw [R.imgGo_ge F s n z f k out (by omega)]
      rw [h3]
      congr 1
      omega
/-- The first bytes of a slot are the bytes of the flash from the slot's first sector on. -/
theorem image_flat {R : Ar} {F : Fl} (hR : R.Ok F.wear.length) (ho : F.Ok) (s n : Nat) (hs : s ≤ 1) (hn0 : 1 ≤ n) (hn1 : n ≤ 6) (z : Nat) (hz0 : 1 ≤ z) (hz : z ≤ n * 320) (hfit : 4 + s * n + n ≤ R.len) :
    R.image F s n z = (F.b.drop ((R.from_ + 4 + s * n) * 320)).take z := by
  have h1 : ¬ (fromS s 0 n = -1 ∨ (z : Int) < 1 ∨ (n : Int) * 320 < z) := by
    have h0 : ¬ fromS s 0 n = -1 := by
      unfold fromS
      rw [if_neg (by omega)]
      have hs' : s = 0 ∨ s = 1 := by omega
      rcases hs' with rfl | rfl <;> omega
    omega
  have h2 := imgGo_flat hR ho s n hs hn1 z hz hfit (z + 1) 0 [] (by simp; omega) (by simp) (by simp)
  have h3 : ((z : Int)).toNat = z := Int.toNat_natCast z
  unfold Ar.image
  rw [if_neg h1, h3]
  exact h2
theorem image_is {R : Ar} {F : Fl} (hR : R.Ok F.wear.length) (ho : F.Ok) (s n : Nat) (hs : s ≤ 1) (hn0 : 1 ≤ n) (hn1 : n ≤ 6) (L : List UInt8) (hz0 : 1 ≤ L.length) (hz : L.length ≤ n * 320) (hfit : 4 + s * n + n ≤ R.len)
    (h : ∀ j, j < L.length → F.b.getD ((R.from_ + 4 + s * n) * 320 + j) 0 = L.getD j 0) : R.image F s n L.length = L := by
  have hl := ho.len
  have hfit2 := hR.fit
  rw [image_flat hR ho s n hs hn0 hn1 L.length hz0 hz hfit]
  have hs' : s * n = 0 ∨ s * n = n := by
    have hs' : s = 0 ∨ s = 1 := by omega
    rcases hs' with rfl | rfl <;> omega
  apply List.ext_getElem
  · rw [List.length_take, List.length_drop]; omega
  · intro j h1 h2
    have := h j h2
    rw [List.getD_eq_getElem?_getD, List.getElem?_eq_getElem (by omega), List.getD_eq_getElem?_getD, List.getElem?_eq_getElem h2] at this
    simp at this ⊢
    exact this
end Ar
end Go.Proofs.Ytlchlcjahndjgaa
namespace Go.Proofs.Ytlchlcjahndjgaa
open Go.RowKit
set_option linter.unusedVariables false
set_option linter.unusedSimpArgs false

theorem num19_c (n : Int) (w : World) : Calls Try.prog 44 #[.int .i64 n] w fun e w' => e = .returned (.int .i64 n) ∧ w = w' := by
  go_enter Try.func44, Try.ntmps44
  go_wp2
  go_ret
  exact ⟨rfl, rfl⟩
theorem new_calm (n : Nat) (hn : n ≤ 400) (x : Nat) (hx : x < n) : (Fl.new n).blank x = true := by
  have h1 := Fl.new_b n hn
  refine Fl.blank_of (by rw [h1.1, h1.2]; simp; omega) x (by rw [h1.2]; simpa using hx) fun i hi => Fl.new_getD n hn _ (by omega)
theorem new_wlen (n : Nat) (hn : n ≤ 400) : (Fl.new n).wear.length = n := by rw [(Fl.new_b n hn).2]; simp
theorem al19 : ∃ F0 R F', Fl.new ((8 : Nat) : Int) = F0 ∧ F0.wear.length = 8 ∧ Ar.new 8 0 8 3 = R ∧ R.chunkE F0 4 [120] = 0 ∧ R.chunk F0 4 [120] = F' ∧ R.image F' 0 2 1 = [120] := by
  have hR : Ar.new 8 0 8 3 = ⟨0, 8, 3⟩ := by kernel_rfl
  have hok : (⟨0, 8, 3⟩ : Ar).Ok 8 := by rw [← hR]; exact Ar.new_ok 8 0 8 3
  have hl := new_wlen 8 (by omega)
  have hok2 : (⟨0, 8, 3⟩ : Ar).Ok (Fl.new ((8 : Nat) : Int)).wear.length := by rw [hl]; exact hok
  obtain ⟨-, p1, -, p2⟩ := Ar.chunk_blank hok2 (Fl.Calm.new _) (Fl.new_ok _) 4 (by decide) [120] (by simp) (by simp) (new_calm 8 (by omega) 4 (by omega))
  have h3 := Ar.image_is (R := ⟨0, 8, 3⟩) (by rw [p2.len]; exact hok2) p2.ok 0 2 (by omega) (by omega) (by omega) [120] (by simp) (by simp) (by simp) (fun j hj => p2.here j hj)
  exact ⟨_, _, _, rfl, hl, hR, p1, rfl, h3⟩
theorem al19_f : fromS 0 0 2 = 4 ∧ fromS 1 0 2 = 6 := ⟨rfl, rfl⟩
set_option maxRecDepth 100000 in
theorem alive19_c (w : World) : Calls Try.prog 40 #[] w fun e w' => e = .returned (.bool true) ∧ Below w.heap.size w w' := by
  obtain ⟨F0, R, F', f5, f6, f0, f1, f2, f4⟩ := al19
  have G5 := Lib.hid f5
  have G6 := Lib.hid f6
  have G0 := Lib.hid f0
  have G1 := Lib.hid f1
  have G2 := Lib.hid f2
  have G4 := Lib.hid f4
  clear f0 f1 f2 f4 f5 f6
  have hfr : ∀ w, Calls Try.prog 47 #[.int .i64 1, .int .i64 0, .int .i64 2] w fun e w' => e = .returned (.int .i64 6) ∧ w = w' := fun w => al19_f.2 ▸ from_c 1 0 2 w
  go_enter Try.func40, Try.ntmps40
  go_wp2_with fail
  refine (new_hf 8 (by omega) F0 G5.out (Below.refl w.heap.size w)).mono ?_
  rintro e w1 ⟨fb, bb, wb, rfl, h⟩
  go_wp2_with fail
  refine (anew_h 0 0 8 3 8 G6.out R G0.out h).mono ?_
  rintro e w2 ⟨ab, rfl, h2, -, -⟩
  have kc := Lib.run_convert_bytes_const (P := Try.prog) w2 29 5 #[.int .u8 120] 1 1 Try.underlying29 Try.underlying5
  go_wp2_with fail
  refine (swrite_h 0 0 2 _ 1 1 [120] rfl 0 F' 4 al19_f.1 G1.out G2.out (rowReads w2 [120] 5 (1, 2)) h2.has.apart (h2.alloc _)).mono ?_
  rintro e w3 ⟨rfl, h3, -⟩
  have H3 := Lib.hid h3
  clear h3 kc
  go_wp2_with (first
    | (go_at_call 44; refine (num19_c _ _).mono ?_; rintro e w' ⟨rfl, rfl⟩)
    | (go_at_call 47; refine (hfr _).mono ?_; rintro e w' ⟨rfl, rfl⟩)
    | (go_at_call 51; refine (image_h 0 2 1 (by omega) [120] G4.out H3.out).mono ?_; rintro e w4 ⟨A4, c4, rfl, hown4, h4, hb4⟩; have hst := strAny w4 A4 1 c4 [120] (Reads.of_own hown4)))
  go_ret
  exact ⟨rfl, h4.has.below⟩
end Go.Proofs.Ytlchlcjahndjgaa
namespace Go.Proofs.Ytlchlcjahndjgaa
open Go.RowKit
set_option linter.unusedVariables false
set_option linter.unusedSimpArgs false
/-- Any chunk of a calm flash with budget left is written. -/
theorem Ar.chunk_any {R : Ar} {F : Fl} (hR : R.Ok F.wear.length) (hc : F.Calm) (ho : F.Ok) (s : Nat) (hs : s < R.len) (bs : List UInt8) (hb : bs.length ≤ 320) (hb0 : bs ≠ [])
    (hw : F.wear.getD (R.from_ + s) 0 < R.budget) (hw2 : F.wear.getD (R.from_ + s) 0 ≤ 4611686018427387902) :
    R.chunkE F s bs = 0 ∧ Wrote F (R.chunk F s bs) (R.from_ + s) bs ∧ (R.chunk F s bs).wear.getD (R.from_ + s) 0 ≤ F.wear.getD (R.from_ + s) 0 + 1 := by
  have hfit := hR.fit
  by_cases hbl : F.blank ((R.from_ + s : Nat) : Int) = true
  · obtain ⟨-, p1, p2, p3⟩ := Ar.chunk_blank hR hc ho s hs bs hb hb0 hbl
    refine ⟨p1, p3, ?_⟩
    rw [p2]
    show F.wear.getD _ _ ≤ _
    omega
  · obtain ⟨-, p1, p2, p3⟩ := Ar.chunk_full hR hc ho s hs bs hb hb0 (by simpa using hbl) hw hw2
    refine ⟨p1, p3, ?_⟩
    rw [p2]
    show (F.wear.set _ _).getD _ _ ≤ _
    rw [List.getD_eq_getElem?_getD, List.getElem?_set, if_pos rfl, if_pos (by omega), Option.getD_some]
    omega
/-- A calm flash of twelve sectors, none erased more often than n. -/
structure Sk (F : Fl) (n : Nat) : Prop where
  calm : F.Calm
  ok : F.Ok
  len : F.wear.length = 12
  wear : ∀ s, s < 12 → F.wear.getD s 0 ≤ n
/-- The bytes c stand at the beginning of sector x. -/
def HoldsC (F : Fl) (x : Nat) (c : List UInt8) : Prop := ∀ t, t < c.length → F.b.getD (x * 320 + t) 0 = c.getD t 0
theorem sk_rok : (⟨0, 12, 100⟩ : Ar).Ok 12 := ⟨by simp, by simp, by simp⟩
theorem sk_new : Ar.new 12 0 12 100 = ⟨0, 12, 100⟩ := by kernel_rfl
theorem sk_start : Sk (Fl.new ((12 : Nat) : Int)) 0 := by
  refine ⟨Fl.Calm.new _, Fl.new_ok _, new_wlen 12 (by omega), fun s hs => ?_⟩
  rw [Fl.new_wearD 12 (by omega) s]
  exact Int.le_refl _
theorem sk_step {F : Fl} {n : Nat} (h : Sk F n) (hn : n < 100) (x : Nat) (hx : x < 12) (bs : List UInt8) (hb : bs.length ≤ 320) (hb0 : bs ≠ []) :
    (⟨0, 12, 100⟩ : Ar).chunkE F x bs = 0 ∧ Sk ((⟨0, 12, 100⟩ : Ar).chunk F x bs) (n + 1) ∧ HoldsC ((⟨0, 12, 100⟩ : Ar).chunk F x bs) x bs ∧
      ∀ y c, y ≠ x → c.length ≤ 320 → HoldsC F y c → HoldsC ((⟨0, 12, 100⟩ : Ar).chunk F x bs) y c := by
  have hw := h.wear x hx
  obtain ⟨p1, p2, p3⟩ := Ar.chunk_any (R := ⟨0, 12, 100⟩) (F := F) (by rw [h.len]; exact sk_rok) h.calm h.ok x hx bs hb hb0
    (by show F.wear.getD (0 + x) 0 < 100; rw [Nat.zero_add]; omega) (by show F.wear.getD (0 + x) 0 ≤ _; rw [Nat.zero_add]; omega)
  simp only [Nat.zero_add] at p2 p3
  refine ⟨p1, ⟨p2.calm, p2.ok, p2.len.trans h.len, fun s hs => ?_⟩, fun t ht => p2.here t ht, fun y c hy hc hh t ht => ?_⟩
  · by_cases hsx : s = x
    · subst hsx; omega
    · rw [p2.wfar s hsx]
      have := h.wear s hs
      omega
  · rw [p2.far _ (by omega)]
    exact hh t ht
/-- Chunk i of an image. -/
def chk (L : List UInt8) (i : Nat) : List UInt8 := (L.drop (i * 320)).take 320
theorem chk_len (L : List UInt8) (i : Nat) : (chk L i).length = min 320 (L.length - i * 320) := by unfold chk; rw [List.length_take, List.length_drop]
theorem chk_getD (L : List UInt8) (i t : Nat) (ht : t < 320) : (chk L i).getD t 0 = L.getD (i * 320 + t) 0 := by
  unfold chk
  rw [List.getD_eq_getElem?_getD, List.getElem?_take, if_pos ht, List.getElem?_drop, ← List.getD_eq_getElem?_getD]
theorem chk_take (L : List UInt8) (i m : Nat) (hm : m = min 320 (L.length - i * 320)) : (L.drop (i * 320)).take m = chk L i := by
  subst hm
  unfold chk
  rw [← List.length_drop, List.take_eq_take_iff]
  omega
theorem sk_image {F : Fl} {n : Nat} (h : Sk F n) (s : Nat) (hs : s ≤ 1) (L : List UInt8) (h1 : 1 ≤ L.length) (h2 : L.length ≤ 1280)
    (hall : ∀ j, j * 320 < L.length → HoldsC F (4 + s * 4 + j) (chk L j)) : (⟨0, 12, 100⟩ : Ar).image F s 4 L.length = L := by
  refine Ar.image_is (by rw [h.len]; exact sk_rok) h.ok s 4 hs (by omega) (by omega) L h1 (by omega) (by show 4 + s * 4 + 4 ≤ 12; omega) fun j hj => ?_
  have hq := hall (j / 320) (by omega) (j % 320) (by rw [chk_len]; omega)
  rw [chk_getD _ _ _ (by omega)] at hq
  rw [show (0 + 4 + s * 4) * 320 + j = (4 + s * 4 + j / 320) * 320 + j % 320 by omega, show j = j / 320 * 320 + j % 320 by omega]
  have e : j / 320 * 320 + j % 320 = j := by omega
  simp only [e] at hq ⊢
  exact hq
theorem chunks_c (n : Nat) (h1 : 1 ≤ n) (h2 : n ≤ 1000000) (w : World) : Calls Try.prog 92 #[.int .i64 (n : Int)] w fun e w' => e = .returned (.int .i64 (((n + 319) / 320 : Nat) : Int)) ∧ w = w' := by
  go_enter Try.func92, Try.ntmps92
  go_wp2
  go_ret
  refine ⟨?_, rfl⟩
  show Ending.returned (Value.int IntKind.i64 (((n : Int) - 1) / 320 + 1)) = _
  congr 2
  omega
theorem len_c (n i : Nat) (h1 : 1 ≤ n) (h2 : n ≤ 1000000) (hi : i * 320 < n) (w : World) : Calls Try.prog 94 #[.int .i64 (n : Int), .int .i64 (i : Int)] w fun e w' => e = .returned (.int .i64 ((min 320 (n - i * 320) : Nat) : Int)) ∧ w = w' := by
  obtain ⟨K, hK⟩ : ∃ K, (n + 319) / 320 = K := ⟨_, rfl⟩
  have hc : ∀ w, Calls Try.prog 92 #[.int .i64 (n : Int)] w fun e w' => e = .returned (.int .i64 (K : Int)) ∧ w = w' := fun w => hK ▸ chunks_c n h1 h2 w
  have hiK : i < K := by omega
  by_cases hl : i + 1 < K
  · have hm : min 320 (n - i * 320) = 320 := by omega
    rw [hm]
    clear hm
    have g1 : i < K - 1 := by omega
    go_enter Try.func94, Try.ntmps94
    go_wp2_with (go_at_call 92; refine (hc _).mono ?_; rintro e w' ⟨rfl, rfl⟩)
    go_ret
    exact ⟨rfl, rfl⟩
  · have hm : ((min 320 (n - i * 320) : Nat) : Int) = (n : Int) - i * 320 := by omega
    rw [hm]
    clear hm
    go_enter Try.func94, Try.ntmps94
    go_wp2_with (go_at_call 92; refine (hc _).mono ?_; rintro e w' ⟨rfl, rfl⟩)
    go_ret
    exact ⟨rfl, rfl⟩
end Go.Proofs.Ytlchlcjahndjgaa
