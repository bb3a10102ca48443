/- Walks of package wear: Sum and Least, and what they answer as plain data. -/
import Derived.Test.YtlchlcjahndjgaaAreaE
namespace Go.Proofs.Ytlchlcjahndjgaa
open Go.RowKit
set_option linter.unusedVariables false
set_option linter.unusedSimpArgs false

namespace Ar
def sumLeft (R : Ar) (F : Fl) : Nat → Int
  | 0 => 0
  | k + 1 => R.sumLeft F k + R.left F k
theorem left_b (R : Ar) (F : Fl) (n : Nat) (h : R.Ok n) (hF : F.Ok) (s : Int) : 0 ≤ R.left F s ∧ R.left F s ≤ 1000 := by
  unfold left
  have := h.b1
  have := (Fl.wearAt_b hF ((R.from_ : Int) + s)).1
  split <;> omega
theorem sumLeft_b (R : Ar) (F : Fl) (n : Nat) (h : R.Ok n) (hF : F.Ok) (k : Nat) : 0 ≤ R.sumLeft F k ∧ R.sumLeft F k ≤ 1000 * k := by
  induction k with
  | zero => simp [sumLeft]
  | succ k ih => have := left_b R F n h hF k; simp only [sumLeft]; omega
def leastStep (R : Ar) (F : Fl) (x n : Int) (st : Int × Bool) (i : Nat) : Int × Bool :=
  if (i : Int) < x ∨ n < 1 ∨ n ≤ (i : Int) - x then st else if st.2 = false ∨ R.left F st.1 < R.left F i then ((i : Int), true) else st
def leastTo (R : Ar) (F : Fl) (x n : Int) : Nat → Int × Bool
  | 0 => (0, false)
  | k + 1 => R.leastStep F x n (R.leastTo F x n k) k
def least (R : Ar) (F : Fl) (x n : Int) : Int × Bool := R.leastTo F x n R.len
theorem leastTo_b (R : Ar) (F : Fl) (x n : Int) (k : Nat) : 0 ≤ (R.leastTo F x n k).1 ∧ (R.leastTo F x n k).1 ≤ k := by
  induction k with
  | zero => simp [leastTo]
  | succ k ih =>
    simp only [leastTo, leastStep]
    split
    · omega
    · split
      · simp only; omega
      · omega
end Ar
theorem drewN_two (w : World) (m n : Nat) : ∃ k, (w.drewN m).drewN n = w.drewN k := ⟨m + n, by simp [World.drewN, Nat.add_assoc]⟩

section
variable {ab fb bb wb : Nat} {R : Ar} {F : Fl} (w : World)
theorem wsum_nil : Calls Try.prog 30 #[.pointer none] w fun e w' => e = .returned (.int .i64 0) ∧ w = w' := by
  go_enter Try.func30, Try.ntmps30
  go_wp2_with fail
  refine (alen_nil _).mono ?_
  rintro e w' ⟨rfl, rfl⟩
  go_wp2_with fail
  go_loopw [3, 7] (fun v i wr => v = .int .i64 0 ∧ i = .int .i64 0 ∧ w = wr) (fun _ i _ => 0)
  case atStart => exact ⟨rfl, rfl, rfl⟩
  case round =>
    obtain ⟨rfl, rfl, rfl⟩ := hrel
    go_wp2_with fail
    go_ret
    exact ⟨rfl, rfl⟩
theorem wsum_c (hF : FlashAt w fb bb wb F) (h : AreaAt w ab fb R F.wear.length) :
    Calls Try.prog 30 #[ptr ab] w fun e w' => e = .returned (.int .i64 (R.sumLeft F R.len)) ∧ ∃ n, w' = w.drewN n := by
  have HF := Lib.hid hF
  have H := Lib.hid h
  have hfit := h.ok.fit
  have hmost := h.most
  clear hF h
  go_enter Try.func30, Try.ntmps30
  go_wp2_with fail
  refine (alen_c _ H.out).mono ?_
  rintro e w' ⟨rfl, rfl⟩
  go_wp2_with fail
  go_loopw [3, 7] (fun v i wr => ∃ k m : Nat, k ≤ R.len ∧ v = .int .i64 (R.sumLeft F k) ∧ i = .int .i64 k ∧ w.drewN m = wr) (fun _ i _ => R.len - (intOf i).toNat)
  case atStart => exact ⟨0, 0, Nat.zero_le _, rfl, rfl, rfl⟩
  case round =>
    obtain ⟨k, m, hk, rfl, rfl, rfl⟩ := hrel
    have hb := Ar.sumLeft_b R F _ H.out.ok HF.out.ok k
    have hb2 := Ar.left_b R F _ H.out.ok HF.out.ok k
    have hs : R.sumLeft F (k + 1) = R.sumLeft F k + R.left F k := rfl
    have HS := Lib.hid hs
    clear hs
    generalize hS : R.sumLeft F k = S at *
    have HSS := Lib.hid hS
    clear hS
    by_cases hlt : k < R.len
    · go_wp2_with fail
      refine (aleft_c _ k (HF.out.drewN m) (H.out.drewN m)).mono ?_
      rintro e w' ⟨rfl, q, rfl⟩
      generalize R.left F k = T at *
      go_wp2
      go_roundw
      case rel =>
        exact ⟨k + 1, m + q, by omega, by rw [HS.out], by go_num, rfl⟩
      case measure => simp [intOf]; omega
    · obtain rfl : k = R.len := by omega
      go_wp2_with fail
      go_ret
      exact ⟨int_ret HSS.out.symm, m, rfl⟩
set_option maxHeartbeats 1000000 in
theorem wleast_c (x n : Int) (hx0 : -9223372036854775808 ≤ x) (hx1 : x ≤ 9223372036854775807) (hn0 : -9223372036854775808 ≤ n) (hn1 : n ≤ 9223372036854775807) (hF : FlashAt w fb bb wb F) (h : AreaAt w ab fb R F.wear.length) :
    Calls Try.prog 28 #[ptr ab, .int .i64 x, .int .i64 n] w fun e w' => e = .returned (.tuple #[.int .i64 (R.least F x n).1, .bool (R.least F x n).2]) ∧ ∃ n, w' = w.drewN n := by
  have HF := Lib.hid hF
  have H := Lib.hid h
  have hfit := h.ok.fit
  have hmost := h.most
  clear hF h
  go_enter Try.func28, Try.ntmps28
  go_wp2_with fail
  refine (alen_c _ H.out).mono ?_
  rintro e w' ⟨rfl, rfl⟩
  go_wp2_with fail
  go_loopw [8, 9, 13] (fun v b i wr => ∃ k m : Nat, k ≤ R.len ∧ v = .int .i64 (R.leastTo F x n k).1 ∧ b = .bool (R.leastTo F x n k).2 ∧ i = .int .i64 k ∧ w.drewN m = wr) (fun _ _ i _ => R.len - (intOf i).toNat)
  case atStart => exact ⟨0, 0, Nat.zero_le _, rfl, rfl, rfl, rfl⟩
  case round =>
    obtain ⟨k, m, hk, rfl, rfl, rfl, rfl⟩ := hrel
    have hb := Ar.leastTo_b R F x n k
    have hs : R.leastTo F x n (k + 1) = R.leastStep F x n (R.leastTo F x n k) k := rfl
    generalize hS : R.leastTo F x n k = S at *
    obtain ⟨v, t⟩ := S
    simp only at hb
    have HS := Lib.hid hs
    have HSS := Lib.hid hS
    clear hs hS
    by_cases hlt : k < R.len
    · by_cases c1 : (k : Int) < x
      · have hst : R.leastTo F x n (k + 1) = (v, t) := by rw [HS.out]; unfold Ar.leastStep; rw [if_pos (Or.inl c1)]
        go_wp2_with fail
        go_roundw
        case rel => exact ⟨k + 1, m, by omega, by rw [hst], by rw [hst], by go_num, rfl⟩
        case measure => simp [intOf]; omega
      · by_cases c2 : n < 1
        · have hst : R.leastTo F x n (k + 1) = (v, t) := by rw [HS.out]; unfold Ar.leastStep; rw [if_pos (Or.inr (Or.inl c2))]
          go_wp2_with fail
          go_roundw
          case rel => exact ⟨k + 1, m, by omega, by rw [hst], by rw [hst], by go_num, rfl⟩
          case measure => simp [intOf]; omega
        · have hu : IntKind.u64.wrap ((k : Int) - IntKind.u64.wrap x) = (k : Int) - x := by
            have hw : IntKind.u64.wrap x = x % 18446744073709551616 := by simp [IntKind.wrap, IntKind.bits, IntKind.signed]
            rw [hw, show IntKind.u64.wrap ((k : Int) - x % 18446744073709551616) = ((k : Int) - x % 18446744073709551616) % 18446744073709551616 from by simp [IntKind.wrap, IntKind.bits, IntKind.signed]]
            omega
          by_cases c3 : n ≤ (k : Int) - x
          · have hst : R.leastTo F x n (k + 1) = (v, t) := by rw [HS.out]; unfold Ar.leastStep; rw [if_pos (Or.inr (Or.inr c3))]
            have hd : decide (n ≤ (k : Int) - x) = true := by simpa using c3
            have HST := Lib.hid hst
            clear hst
            go_wp2_with fail
            go_roundw
            case rel => exact ⟨k + 1, m, by omega, by rw [HST.out], by rw [HST.out], by go_num, rfl⟩
            case measure => simp [intOf]; omega
          · have hd : decide (n ≤ (k : Int) - x) = false := by simpa using c3
            have hno : ¬((k : Int) < x ∨ n < 1 ∨ n ≤ (k : Int) - x) := by omega
            cases t
            · have hst : R.leastTo F x n (k + 1) = ((k : Int), true) := by rw [HS.out]; unfold Ar.leastStep; rw [if_neg hno, if_pos (Or.inl rfl)]
              have HST := Lib.hid hst
              clear hst
              go_wp2_with fail
              go_roundw
              case rel => exact ⟨k + 1, m, by omega, by rw [HST.out], by rw [HST.out], by go_num, rfl⟩
              case measure => simp [intOf]; omega
            · by_cases c4 : R.left F v < R.left F k
              · have hst : R.leastTo F x n (k + 1) = ((k : Int), true) := by rw [HS.out]; unfold Ar.leastStep; rw [if_neg hno, if_pos (Or.inr c4)]
                have HST := Lib.hid hst
                have hd4 : decide (R.left F v < R.left F k) = true := by simpa using c4
                clear hst
                go_wp2_with fail
                refine (aleft_c _ k (HF.out.drewN m) (H.out.drewN m)).mono ?_
                rintro e w' ⟨rfl, q, rfl⟩
                go_wp2_with fail
                refine (aleft_c _ v (HF.out.drewN (m + q)) (H.out.drewN (m + q))).mono ?_
                rintro e w' ⟨rfl, q2, rfl⟩
                go_wp2_with fail
                go_roundw
                case rel => exact ⟨k + 1, m + q + q2, by omega, by rw [HST.out], by rw [HST.out], by go_num, by simp [World.drewN, Nat.add_assoc]⟩
                case measure => simp [intOf]; omega
              · have hst : R.leastTo F x n (k + 1) = (v, true) := by rw [HS.out]; unfold Ar.leastStep; rw [if_neg hno, if_neg (by intro h; rcases h with h | h; exact absurd h (by simp); exact c4 h)]
                have HST := Lib.hid hst
                have hd4 : decide (R.left F v < R.left F k) = false := by simpa using c4
                clear hst
                go_wp2_with fail
                refine (aleft_c _ k (HF.out.drewN m) (H.out.drewN m)).mono ?_
                rintro e w' ⟨rfl, q, rfl⟩
                go_wp2_with fail
                refine (aleft_c _ v (HF.out.drewN (m + q)) (H.out.drewN (m + q))).mono ?_
                rintro e w' ⟨rfl, q2, rfl⟩
                go_wp2_with fail
                go_roundw
                case rel => exact ⟨k + 1, m + q + q2, by omega, by rw [HST.out], by rw [HST.out], by go_num, by simp [World.drewN, Nat.add_assoc]⟩
                case measure => simp [intOf]; omega
    · obtain rfl : k = R.len := by omega
      go_wp2_with fail
      go_ret2
      have hl : R.least F x n = (v, t) := HSS.out
      exact ⟨by rw [hl]; rfl, m, rfl⟩
end
end Go.Proofs.Ytlchlcjahndjgaa
