/- caps.May. -/
import Derived.Test.YtpafenlcgcenlaaDoorCpA
namespace Go.Proofs.YtpafenlcgcenlaaDoor
open Go Go.RowKit
set_option linter.unusedVariables false
set_option linter.unusedSimpArgs false
/-- What rights allow. -/
def mayK (r : Nat) (k : Int) : Bool := decide (1 ≤ k) && (decide (k ≤ 9) && decide (r / 2 ^ k.toNat % 2 = 1))
theorem and1 : ∀ x : Fin 512, bits BinOp.and IntKind.i64 (x.val : Int) 1 = ((x.val % 2 : Nat) : Int) := of_decide_eq_true (by kernel_rfl)
set_option maxRecDepth 100000 in
set_option maxHeartbeats 2000000 in
theorem cmay_c (w : World) (r : Nat) (hr : r ≤ 1023) (a b k : Int) : Calls Tryd.prog 13 #[.agg #[.int .i64 (r : Int), .int .i64 a, .int .i64 b], .int .i64 k] w fun e w' => e = .returned (.bool (mayK r k)) ∧ Below w.heap.size w w' := by
  obtain ⟨R, hR⟩ : ∃ R, mayK r k = R := ⟨_, rfl⟩
  rw [hR]
  unfold mayK at hR
  have hB0 := Blk.new w 53 #[.int .i64 (r : Int), .int .i64 a, .int .i64 b]
  have hb0 : Below w.heap.size w (w.alloc (.cells #[.int .i64 (r : Int), .int .i64 a, .int .i64 b] 53)) := (Below.refl _ _).alloc (Nat.le_refl _) _
  have k0 : (w.alloc (.cells #[.int .i64 (r : Int), .int .i64 a, .int .i64 b] 53)).cell? ⟨w.heap.size, 0, none⟩ = some (.int .i64 (r : Int)) := hB0.cell 0
  have HL := Lib.hid hb0
  clear hB0 hb0
  by_cases h1 : 1 ≤ k
  rotate_left
  · have hr : R = false := by rw [← hR, decide_eq_false h1]; rfl
    subst hr
    clear hR
    have h1b : ¬ k ≥ 1 := h1
    have h1d : decide (1 ≤ k) = false := decide_eq_false h1
    go_enter Tryd.func13, Tryd.ntmps13
    go_wp2_with fail
    go_ret
    exact ⟨rfl, HL.out⟩
  by_cases h9 : k ≤ 9
  rotate_left
  · have hr : R = false := by rw [← hR, decide_eq_true h1, decide_eq_false h9]; rfl
    subst hr
    clear hR
    have h9d : decide (k ≤ 9) = false := decide_eq_false h9
    go_enter Tryd.func13, Tryd.ntmps13
    go_wp2_with fail
    go_ret
    exact ⟨rfl, HL.out⟩
  have h10 : k = 1 ∨ k = 2 ∨ k = 3 ∨ k = 4 ∨ k = 5 ∨ k = 6 ∨ k = 7 ∨ k = 8 ∨ k = 9 := by omega
  clear h1 h9
  rcases h10 with rfl | rfl | rfl | rfl | rfl | rfl | rfl | rfl | rfl
  · have hx : r / 2 < 512 := by omega
    have hand := and1 ⟨r / 2, hx⟩
    dsimp only at hand
    have e1 : ((r / 2 : Nat) : Int) = (r : Int) / 2 := by omega
    have e2 : ((r / 2 % 2 : Nat) : Int) = (r : Int) / 2 % 2 := by omega
    rw [e1, e2] at hand
    by_cases h : r / 2 % 2 = 1
    · have hr : R = true := by rw [← hR]; exact decide_eq_true (p := r / 2 % 2 = 1) h
      subst hr
      have hi : (r : Int) / 2 % 2 = 1 := by omega
      clear hR e1 e2
      go_enter Tryd.func13, Tryd.ntmps13
      go_wp2_with fail
      go_ret
      exact ⟨rfl, HL.out⟩
    · have hr : R = false := by rw [← hR]; exact decide_eq_false (p := r / 2 % 2 = 1) h
      subst hr
      have hi : (r : Int) / 2 % 2 = 0 := by omega
      clear hR e1 e2
      go_enter Tryd.func13, Tryd.ntmps13
      go_wp2_with fail
      go_ret
      exact ⟨rfl, HL.out⟩
  · have hx : r / 4 < 512 := by omega
    have hand := and1 ⟨r / 4, hx⟩
    dsimp only at hand
    have e1 : ((r / 4 : Nat) : Int) = (r : Int) / 4 := by omega
    have e2 : ((r / 4 % 2 : Nat) : Int) = (r : Int) / 4 % 2 := by omega
    rw [e1, e2] at hand
    by_cases h : r / 4 % 2 = 1
    · have hr : R = true := by rw [← hR]; exact decide_eq_true (p := r / 4 % 2 = 1) h
      subst hr
      have hi : (r : Int) / 4 % 2 = 1 := by omega
      clear hR e1 e2
      go_enter Tryd.func13, Tryd.ntmps13
      go_wp2_with fail
      go_ret
      exact ⟨rfl, HL.out⟩
    · have hr : R = false := by rw [← hR]; exact decide_eq_false (p := r / 4 % 2 = 1) h
      subst hr
      have hi : (r : Int) / 4 % 2 = 0 := by omega
      clear hR e1 e2
      go_enter Tryd.func13, Tryd.ntmps13
      go_wp2_with fail
      go_ret
      exact ⟨rfl, HL.out⟩
  · have hx : r / 8 < 512 := by omega
    have hand := and1 ⟨r / 8, hx⟩
    dsimp only at hand
    have e1 : ((r / 8 : Nat) : Int) = (r : Int) / 8 := by omega
    have e2 : ((r / 8 % 2 : Nat) : Int) = (r : Int) / 8 % 2 := by omega
    rw [e1, e2] at hand
    by_cases h : r / 8 % 2 = 1
    · have hr : R = true := by rw [← hR]; exact decide_eq_true (p := r / 8 % 2 = 1) h
      subst hr
      have hi : (r : Int) / 8 % 2 = 1 := by omega
      clear hR e1 e2
      go_enter Tryd.func13, Tryd.ntmps13
      go_wp2_with fail
      go_ret
      exact ⟨rfl, HL.out⟩
    · have hr : R = false := by rw [← hR]; exact decide_eq_false (p := r / 8 % 2 = 1) h
      subst hr
      have hi : (r : Int) / 8 % 2 = 0 := by omega
      clear hR e1 e2
      go_enter Tryd.func13, Tryd.ntmps13
      go_wp2_with fail
      go_ret
      exact ⟨rfl, HL.out⟩
  · have hx : r / 16 < 512 := by omega
    have hand := and1 ⟨r / 16, hx⟩
    dsimp only at hand
    have e1 : ((r / 16 : Nat) : Int) = (r : Int) / 16 := by omega
    have e2 : ((r / 16 % 2 : Nat) : Int) = (r : Int) / 16 % 2 := by omega
    rw [e1, e2] at hand
    by_cases h : r / 16 % 2 = 1
    · have hr : R = true := by rw [← hR]; exact decide_eq_true (p := r / 16 % 2 = 1) h
      subst hr
      have hi : (r : Int) / 16 % 2 = 1 := by omega
      clear hR e1 e2
      go_enter Tryd.func13, Tryd.ntmps13
      go_wp2_with fail
      go_ret
      exact ⟨rfl, HL.out⟩
    · have hr : R = false := by rw [← hR]; exact decide_eq_false (p := r / 16 % 2 = 1) h
      subst hr
      have hi : (r : Int) / 16 % 2 = 0 := by omega
      clear hR e1 e2
      go_enter Tryd.func13, Tryd.ntmps13
      go_wp2_with fail
      go_ret
      exact ⟨rfl, HL.out⟩
  · have hx : r / 32 < 512 := by omega
    have hand := and1 ⟨r / 32, hx⟩
    dsimp only at hand
    have e1 : ((r / 32 : Nat) : Int) = (r : Int) / 32 := by omega
    have e2 : ((r / 32 % 2 : Nat) : Int) = (r : Int) / 32 % 2 := by omega
    rw [e1, e2] at hand
    by_cases h : r / 32 % 2 = 1
    · have hr : R = true := by rw [← hR]; exact decide_eq_true (p := r / 32 % 2 = 1) h
      subst hr
      have hi : (r : Int) / 32 % 2 = 1 := by omega
      clear hR e1 e2
      go_enter Tryd.func13, Tryd.ntmps13
      go_wp2_with fail
      go_ret
      exact ⟨rfl, HL.out⟩
    · have hr : R = false := by rw [← hR]; exact decide_eq_false (p := r / 32 % 2 = 1) h
      subst hr
      have hi : (r : Int) / 32 % 2 = 0 := by omega
      clear hR e1 e2
      go_enter Tryd.func13, Tryd.ntmps13
      go_wp2_with fail
      go_ret
      exact ⟨rfl, HL.out⟩
  · have hx : r / 64 < 512 := by omega
    have hand := and1 ⟨r / 64, hx⟩
    dsimp only at hand
    have e1 : ((r / 64 : Nat) : Int) = (r : Int) / 64 := by omega
    have e2 : ((r / 64 % 2 : Nat) : Int) = (r : Int) / 64 % 2 := by omega
    rw [e1, e2] at hand
    by_cases h : r / 64 % 2 = 1
    · have hr : R = true := by rw [← hR]; exact decide_eq_true (p := r / 64 % 2 = 1) h
      subst hr
      have hi : (r : Int) / 64 % 2 = 1 := by omega
      clear hR e1 e2
      go_enter Tryd.func13, Tryd.ntmps13
      go_wp2_with fail
      go_ret
      exact ⟨rfl, HL.out⟩
    · have hr : R = false := by rw [← hR]; exact decide_eq_false (p := r / 64 % 2 = 1) h
      subst hr
      have hi : (r : Int) / 64 % 2 = 0 := by omega
      clear hR e1 e2
      go_enter Tryd.func13, Tryd.ntmps13
      go_wp2_with fail
      go_ret
      exact ⟨rfl, HL.out⟩
  · have hx : r / 128 < 512 := by omega
    have hand := and1 ⟨r / 128, hx⟩
    dsimp only at hand
    have e1 : ((r / 128 : Nat) : Int) = (r : Int) / 128 := by omega
    have e2 : ((r / 128 % 2 : Nat) : Int) = (r : Int) / 128 % 2 := by omega
    rw [e1, e2] at hand
    by_cases h : r / 128 % 2 = 1
    · have hr : R = true := by rw [← hR]; exact decide_eq_true (p := r / 128 % 2 = 1) h
      subst hr
      have hi : (r : Int) / 128 % 2 = 1 := by omega
      clear hR e1 e2
      go_enter Tryd.func13, Tryd.ntmps13
      go_wp2_with fail
      go_ret
      exact ⟨rfl, HL.out⟩
    · have hr : R = false := by rw [← hR]; exact decide_eq_false (p := r / 128 % 2 = 1) h
      subst hr
      have hi : (r : Int) / 128 % 2 = 0 := by omega
      clear hR e1 e2
      go_enter Tryd.func13, Tryd.ntmps13
      go_wp2_with fail
      go_ret
      exact ⟨rfl, HL.out⟩
  · have hx : r / 256 < 512 := by omega
    have hand := and1 ⟨r / 256, hx⟩
    dsimp only at hand
    have e1 : ((r / 256 : Nat) : Int) = (r : Int) / 256 := by omega
    have e2 : ((r / 256 % 2 : Nat) : Int) = (r : Int) / 256 % 2 := by omega
    rw [e1, e2] at hand
    by_cases h : r / 256 % 2 = 1
    · have hr : R = true := by rw [← hR]; exact decide_eq_true (p := r / 256 % 2 = 1) h
      subst hr
      have hi : (r : Int) / 256 % 2 = 1 := by omega
      clear hR e1 e2
      go_enter Tryd.func13, Tryd.ntmps13
      go_wp2_with fail
      go_ret
      exact ⟨rfl, HL.out⟩
    · have hr : R = false := by rw [← hR]; exact decide_eq_false (p := r / 256 % 2 = 1) h
      subst hr
      have hi : (r : Int) / 256 % 2 = 0 := by omega
      clear hR e1 e2
      go_enter Tryd.func13, Tryd.ntmps13
      go_wp2_with fail
      go_ret
      exact ⟨rfl, HL.out⟩
  · have hx : r / 512 < 512 := by omega
    have hand := and1 ⟨r / 512, hx⟩
    dsimp only at hand
    have e1 : ((r / 512 : Nat) : Int) = (r : Int) / 512 := by omega
    have e2 : ((r / 512 % 2 : Nat) : Int) = (r : Int) / 512 % 2 := by omega
    rw [e1, e2] at hand
    by_cases h : r / 512 % 2 = 1
    · have hr : R = true := by rw [← hR]; exact decide_eq_true (p := r / 512 % 2 = 1) h
      subst hr
      have hi : (r : Int) / 512 % 2 = 1 := by omega
      clear hR e1 e2
      go_enter Tryd.func13, Tryd.ntmps13
      go_wp2_with fail
      go_ret
      exact ⟨rfl, HL.out⟩
    · have hr : R = false := by rw [← hR]; exact decide_eq_false (p := r / 512 % 2 = 1) h
      subst hr
      have hi : (r : Int) / 512 % 2 = 0 := by omega
      clear hR e1 e2
      go_enter Tryd.func13, Tryd.ntmps13
      go_wp2_with fail
      go_ret
      exact ⟨rfl, HL.out⟩
end Go.Proofs.YtpafenlcgcenlaaDoor
