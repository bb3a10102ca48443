/- slot.From; area.Blank. -/
import Derived.Test.YtlchlcjahndjgaaAreaE
namespace Go.Proofs.Ytlchlcjahndjgaa
open Go.RowKit
set_option linter.unusedVariables false
set_option linter.unusedSimpArgs false
/-- The sector of a chunk. -/
def fromS (s k n : Int) : Int := if s < 0 ∨ 1 < s ∨ n < 1 ∨ 6 < n ∨ k < 0 ∨ n ≤ k then -1 else 4 + s * n + k
set_option maxRecDepth 100000 in
theorem from_off (s k n : Int) (w : World) (hg : s < 0 ∨ 1 < s ∨ n < 1 ∨ 6 < n ∨ k < 0 ∨ n ≤ k) : Calls Try.prog 47 #[.int .i64 s, .int .i64 k, .int .i64 n] w fun e w' => e = .returned (.int .i64 (-1)) ∧ w = w' := by
  by_cases g0 : s < 0
  · clear hg
    go_enter Try.func47, Try.ntmps47
    go_wp2_with fail
    go_ret
    exact ⟨rfl, rfl⟩
  · by_cases g1 : 1 < s
    · clear hg
      go_enter Try.func47, Try.ntmps47
      go_wp2_with fail
      go_ret
      exact ⟨rfl, rfl⟩
    · by_cases g2 : n < 1
      · clear hg
        go_enter Try.func47, Try.ntmps47
        go_wp2_with fail
        go_ret
        exact ⟨rfl, rfl⟩
      · by_cases g3 : 6 < n
        · clear hg
          go_enter Try.func47, Try.ntmps47
          go_wp2_with fail
          go_ret
          exact ⟨rfl, rfl⟩
        · by_cases g4 : k < 0
          · clear hg
            go_enter Try.func47, Try.ntmps47
            go_wp2_with fail
            go_ret
            exact ⟨rfl, rfl⟩
          · have g5 : n ≤ k := by omega
            clear hg
            go_enter Try.func47, Try.ntmps47
            go_wp2_with fail
            go_ret
            exact ⟨rfl, rfl⟩
set_option maxRecDepth 100000 in
theorem from_c (s k n : Int) (w : World) : Calls Try.prog 47 #[.int .i64 s, .int .i64 k, .int .i64 n] w fun e w' => e = .returned (.int .i64 (fromS s k n)) ∧ w = w' := by
  by_cases hg : s < 0 ∨ 1 < s ∨ n < 1 ∨ 6 < n ∨ k < 0 ∨ n ≤ k
  · rw [show fromS s k n = -1 from if_pos hg]
    exact from_off s k n w hg
  · rw [show fromS s k n = 4 + s * n + k from if_neg hg]
    have g0 : ¬ s < 0 := by omega
    have g1 : ¬ 1 < s := by omega
    have g2 : ¬ n < 1 := by omega
    have g3 : ¬ 6 < n := by omega
    have g4 : ¬ k < 0 := by omega
    have g5 : ¬ n ≤ k := by omega
    clear hg
    have hs : s = 0 ∨ s = 1 := by omega
    rcases hs with rfl | rfl
    · go_enter Try.func47, Try.ntmps47
      go_wp2_with fail
      go_ret
      exact ⟨congrArg (fun x => Ending.returned (Value.int .i64 x)) (by omega), rfl⟩
    · go_enter Try.func47, Try.ntmps47
      go_wp2_with fail
      go_ret
      exact ⟨congrArg (fun x => Ending.returned (Value.int .i64 x)) (by omega), rfl⟩
section
variable {w : World} {ab fb bb wb : Nat} {R : Ar} {F : Fl}
theorem ablank_c (w : World) (s : Int) (hF : FlashAt w fb bb wb F) (h : AreaAt w ab fb R F.wear.length) :
    Calls Try.prog 89 #[ptr ab, .int .i64 s] w fun e w' => e = .returned (.bool (R.blank F s)) ∧ ∃ n, w' = w.drewN n := by
  have H := Lib.hid h
  have HF := Lib.hid hF
  have h0 := h.a0
  have h1 := h.a1
  have hfit := h.ok.fit
  have hmost := h.most
  clear h hF
  cases hw : R.is s
  · have hq : ∀ n : Nat, Calls Try.prog 85 #[ptr ab, .int .i64 s] (w.drewN n) fun e w' => e = .returned (.bool false) ∧ w' = w.drewN n := fun n => (ais_c _ s (H.out.drewN n)).mono fun _ _ hh => ⟨by rw [hh.1, hw], hh.2.symm⟩
    have hr : R.blank F s = false := by simp [Ar.blank, hw]
    rw [hr]
    clear hr
    go_enter Try.func89, Try.ntmps89
    go_wp2_with fail
    go_quiet ((go_at_call 85; exact Calls.quiet_of_same (hq _)))
    go_wp2
    go_ret
    exact ⟨rfl, nq, rfl⟩
  · have hq : ∀ n : Nat, Calls Try.prog 85 #[ptr ab, .int .i64 s] (w.drewN n) fun e w' => e = .returned (.bool true) ∧ w' = w.drewN n := fun n => (ais_c _ s (H.out.drewN n)).mono fun _ _ hh => ⟨by rw [hh.1, hw], hh.2.symm⟩
    have hr : R.blank F s = F.blank ((R.from_ : Int) + s) := by simp [Ar.blank, hw]
    rw [hr]
    clear hr
    obtain ⟨b1, b2⟩ := Ar.is_b hw
    have e1 : IntKind.i64.wrap ((R.from_ : Int) + s) = (R.from_ : Int) + s := IntWalk.i64_in _ (by omega)
    go_enter Try.func89, Try.ntmps89
    go_wp2_with fail
    go_quiet (first | (go_at_call 85; exact Calls.quiet_of_same (hq _)) | (go_at_call 113; exact Calls.quiet_of_same ((blank_c _ _ (HF.out.drewN _)).mono fun _ _ hh => ⟨hh.1, hh.2.symm⟩)))
    go_wp2
    go_ret
    exact ⟨rfl, nq, rfl⟩
end
end Go.Proofs.Ytlchlcjahndjgaa
