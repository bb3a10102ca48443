/- A Config as data; caps.Right, caps.May. · caps.May. -/
import Derived.Test.YtpafenlcgcenlaaGreatDoorMnA
namespace Go.Proofs.YtpafenlcgcenlaaGreatDoor
open Go Go.RowKit
set_option linter.unusedVariables false
set_option linter.unusedSimpArgs false
structure Cf where
 nm : ByteArray
 key : List UInt8
 slot : Int
 budget : Int
 quota : Int
 rights : Int
 first : List UInt8
/-- A Config's seven cells. -/
def Cf.cells (c : Cf) (K : Option Addr) (kc : Nat) (F : Option Addr) (fc : Nat) : List Value := [.string c.nm, .slice K c.key.length kc, .int .i64 c.slot, .int .i64 c.budget, .int .i64 c.quota, .int .i64 c.rights, .slice F c.first.length fc]
def Cf.right (c : Cf) : Bool := validN c.nm && (decide ((c.key.length : Int) ≥ 1) && (decide ((c.key.length : Int) ≤ 64) && (decide (c.slot ≥ 1) && (decide (c.slot ≤ 6) && (decide (c.budget ≥ 0) && (decide (c.budget ≤ 1000) && (decide (c.quota ≥ 1) && (decide (c.quota ≤ c.slot) && (decide (c.rights ≥ 0) && (decide (c.rights ≤ 1023) && (decide ((c.first.length : Int) ≥ 1) && (decide ((c.first.length : Int) ≤ c.quota * 320)))))))))))))
set_option maxRecDepth 100000 in
set_option maxHeartbeats 8000000 in
theorem cright_c (w : World) (c : Cf) (K : Option Addr) (kc : Nat) (F : Option Addr) (fc : Nat) (hs : c.nm.size ≤ 1000000) : Calls Tryz.prog 24 #[.agg (c.cells K kc F fc).toArray] w fun e w' => e = .returned (.bool c.right) ∧ Below w.heap.size w w' := by
 have hB0 := Blk.new w 24 (c.cells K kc F fc).toArray
 have hb0 : Below w.heap.size w (w.alloc (.cells (c.cells K kc F fc).toArray 24)) := (Below.refl _ _).alloc (Nat.le_refl _) _
 have hval := fun W => nvalid_c c.nm hs W
 obtain ⟨R, hR⟩ : ∃ R, c.right = R := ⟨_, rfl⟩
 rw [hR]
 unfold Cf.right at hR
 obtain ⟨V, hV⟩ : ∃ V, validN c.nm = V := ⟨_, rfl⟩
 simp only [hV] at hval
 rw [hV] at hR
 have k0 : (w.alloc (.cells (c.cells K kc F fc).toArray 24)).cell? ⟨w.heap.size, 0, none⟩ = some (.string c.nm) := hB0.cell 0
 have HB := Lib.hid hB0
 have HL := Lib.hid hb0
 have HV := Lib.hid hval
 clear hB0 hb0 hval hV
 go_enter Tryz.func24, Tryz.ntmps24
 go_wp2_with fail
 refine (HV.out _).mono ?_
 rintro e w1 ⟨rfl, hb1⟩
 have hB := HB.out.below hb1 HB.out.lt
 have HL := Lib.hid (HL.out.trans (hb1.mono HL.out.size))
 have k1 : w1.cell? ⟨w.heap.size, 1, none⟩ = some (.slice K c.key.length kc) := hB.cell 1
 have k2 : w1.cell? ⟨w.heap.size, 2, none⟩ = some (.int .i64 c.slot) := hB.cell 2
 have k3 : w1.cell? ⟨w.heap.size, 3, none⟩ = some (.int .i64 c.budget) := hB.cell 3
 have k4 : w1.cell? ⟨w.heap.size, 4, none⟩ = some (.int .i64 c.quota) := hB.cell 4
 have k5 : w1.cell? ⟨w.heap.size, 5, none⟩ = some (.int .i64 c.rights) := hB.cell 5
 have k6 : w1.cell? ⟨w.heap.size, 6, none⟩ = some (.slice F c.first.length fc) := hB.cell 6
 clear hb1 hB HB HV k0
 cases V
 ·
  have hr : R = false := by rw [← hR]; rfl
  subst hr
  clear hR
  go_wp2_with fail
  go_ret
  exact ⟨rfl, HL.out⟩
 by_cases h0 : (c.key.length : Int) ≥ 1
 rotate_left
 ·
  have hr : R = false := by rw [← hR]; simp only [decide_eq_false h0, Bool.true_and, Bool.false_and, Bool.and_false, Bool.and_true]
  subst hr
  clear hR
  go_wp2_with fail
  go_ret
  exact ⟨rfl, HL.out⟩
 by_cases h1 : (c.key.length : Int) ≤ 64
 rotate_left
 ·
  have hr : R = false := by rw [← hR]; simp only [decide_eq_true h0, decide_eq_false h1, Bool.true_and, Bool.false_and, Bool.and_false, Bool.and_true]
  subst hr
  clear hR
  go_wp2_with fail
  go_ret
  exact ⟨rfl, HL.out⟩
 by_cases h2 : c.slot ≥ 1
 rotate_left
 ·
  have hr : R = false := by rw [← hR]; simp only [decide_eq_true h0, decide_eq_true h1, decide_eq_false h2, Bool.true_and, Bool.false_and, Bool.and_false, Bool.and_true]
  subst hr
  clear hR
  go_wp2_with fail
  go_ret
  exact ⟨rfl, HL.out⟩
 by_cases h3 : c.slot ≤ 6
 rotate_left
 ·
  have hr : R = false := by rw [← hR]; simp only [decide_eq_true h0, decide_eq_true h1, decide_eq_true h2, decide_eq_false h3, Bool.true_and, Bool.false_and, Bool.and_false, Bool.and_true]
  subst hr
  clear hR
  go_wp2_with fail
  go_ret
  exact ⟨rfl, HL.out⟩
 by_cases h4 : c.budget ≥ 0
 rotate_left
 ·
  have hr : R = false := by rw [← hR]; simp only [decide_eq_true h0, decide_eq_true h1, decide_eq_true h2, decide_eq_true h3, decide_eq_false h4, Bool.true_and, Bool.false_and, Bool.and_false, Bool.and_true]
  subst hr
  clear hR
  go_wp2_with fail
  go_ret
  exact ⟨rfl, HL.out⟩
 by_cases h5 : c.budget ≤ 1000
 rotate_left
 ·
  have hr : R = false := by rw [← hR]; simp only [decide_eq_true h0, decide_eq_true h1, decide_eq_true h2, decide_eq_true h3, decide_eq_true h4, decide_eq_false h5, Bool.true_and, Bool.false_and, Bool.and_false, Bool.and_true]
  subst hr
  clear hR
  go_wp2_with fail
  go_ret
  exact ⟨rfl, HL.out⟩
 by_cases h6 : c.quota ≥ 1
 rotate_left
 ·
  have hr : R = false := by rw [← hR]; simp only [decide_eq_true h0, decide_eq_true h1, decide_eq_true h2, decide_eq_true h3, decide_eq_true h4, decide_eq_true h5, decide_eq_false h6, Bool.true_and, Bool.false_and, Bool.and_false, Bool.and_true]
  subst hr
  clear hR
  go_wp2_with fail
  go_ret
  exact ⟨rfl, HL.out⟩
 by_cases h7 : c.quota ≤ c.slot
 rotate_left
 ·
  have hr : R = false := by rw [← hR]; simp only [decide_eq_true h0, decide_eq_true h1, decide_eq_true h2, decide_eq_true h3, decide_eq_true h4, decide_eq_true h5, decide_eq_true h6, decide_eq_false h7, Bool.true_and, Bool.false_and, Bool.and_false, Bool.and_true]
  subst hr
  clear hR
  go_wp2_with fail
  go_ret
  exact ⟨rfl, HL.out⟩
 by_cases h8 : c.rights ≥ 0
 rotate_left
 ·
  have hr : R = false := by rw [← hR]; simp only [decide_eq_true h0, decide_eq_true h1, decide_eq_true h2, decide_eq_true h3, decide_eq_true h4, decide_eq_true h5, decide_eq_true h6, decide_eq_true h7, decide_eq_false h8, Bool.true_and, Bool.false_and, Bool.and_false, Bool.and_true]
  subst hr
  clear hR
  go_wp2_with fail
  go_ret
  exact ⟨rfl, HL.out⟩
 by_cases h9 : c.rights ≤ 1023
 rotate_left
 ·
  have hr : R = false := by rw [← hR]; simp only [decide_eq_true h0, decide_eq_true h1, decide_eq_true h2, decide_eq_true h3, decide_eq_true h4, decide_eq_true h5, decide_eq_true h6, decide_eq_true h7, decide_eq_true h8, decide_eq_false h9, Bool.true_and, Bool.false_and, Bool.and_false, Bool.and_true]
  subst hr
  clear hR
  go_wp2_with fail
  go_ret
  exact ⟨rfl, HL.out⟩
 by_cases h10 : (c.first.length : Int) ≥ 1
 rotate_left
 ·
  have hr : R = false := by rw [← hR]; simp only [decide_eq_true h0, decide_eq_true h1, decide_eq_true h2, decide_eq_true h3, decide_eq_true h4, decide_eq_true h5, decide_eq_true h6, decide_eq_true h7, decide_eq_true h8, decide_eq_true h9, decide_eq_false h10, Bool.true_and, Bool.false_and, Bool.and_false, Bool.and_true]
  subst hr
  clear hR
  go_wp2_with fail
  go_ret
  exact ⟨rfl, HL.out⟩
 by_cases h11 : (c.first.length : Int) ≤ c.quota * 320
 rotate_left
 ·
  have hr : R = false := by rw [← hR]; simp only [decide_eq_true h0, decide_eq_true h1, decide_eq_true h2, decide_eq_true h3, decide_eq_true h4, decide_eq_true h5, decide_eq_true h6, decide_eq_true h7, decide_eq_true h8, decide_eq_true h9, decide_eq_true h10, decide_eq_false h11, Bool.true_and, Bool.false_and, Bool.and_false, Bool.and_true]
  subst hr
  clear hR
  have hd : decide ((c.first.length : Int) ≤ c.quota * 320) = false := decide_eq_false h11
  have hw : IntKind.i64.wrap (c.quota * 320) = c.quota * 320 := IntWalk.i64_in _ (by omega)
  go_wp2_with fail
  go_ret
  exact ⟨rfl, HL.out⟩
 have hr : R = true := by rw [← hR]; simp only [decide_eq_true h0, decide_eq_true h1, decide_eq_true h2, decide_eq_true h3, decide_eq_true h4, decide_eq_true h5, decide_eq_true h6, decide_eq_true h7, decide_eq_true h8, decide_eq_true h9, decide_eq_true h10, decide_eq_true h11, Bool.true_and, Bool.and_true]
 subst hr
 clear hR
 have hw : IntKind.i64.wrap (c.quota * 320) = c.quota * 320 := IntWalk.i64_in _ (by omega)
 go_wp2_with fail
 go_ret
 exact ⟨rfl, HL.out⟩
end Go.Proofs.YtpafenlcgcenlaaGreatDoor
namespace Go.Proofs.YtpafenlcgcenlaaGreatDoor
open Go Go.RowKit
set_option linter.unusedVariables false
set_option linter.unusedSimpArgs false
/-- What rights allow. -/
def mayK (r : Nat) (k : Int) : Bool := decide (1 ≤ k) && (decide (k ≤ 9) && decide (r / 2 ^ k.toNat % 2 = 1))
theorem and1 : ∀ x : Fin 512, bits BinOp.and IntKind.i64 (x.val : Int) 1 = ((x.val % 2 : Nat) : Int) := of_decide_eq_true (by kernel_rfl)
set_option maxRecDepth 100000 in
set_option maxHeartbeats 2000000 in
theorem cmay_c (w : World) (r : Nat) (hr : r ≤ 1023) (a b k : Int) : Calls Tryz.prog 29 #[.agg #[.int .i64 (r : Int), .int .i64 a, .int .i64 b], .int .i64 k] w fun e w' => e = .returned (.bool (mayK r k)) ∧ Below w.heap.size w w' := by
 obtain ⟨R, hR⟩ : ∃ R, mayK r k = R := ⟨_, rfl⟩
 rw [hR]
 unfold mayK at hR
 have hB0 := Blk.new w 56 #[.int .i64 (r : Int), .int .i64 a, .int .i64 b]
 have hb0 : Below w.heap.size w (w.alloc (.cells #[.int .i64 (r : Int), .int .i64 a, .int .i64 b] 56)) := (Below.refl _ _).alloc (Nat.le_refl _) _
 have k0 : (w.alloc (.cells #[.int .i64 (r : Int), .int .i64 a, .int .i64 b] 56)).cell? ⟨w.heap.size, 0, none⟩ = some (.int .i64 (r : Int)) := hB0.cell 0
 have HL := Lib.hid hb0
 clear hB0 hb0
 by_cases h1 : 1 ≤ k
 rotate_left
 ·
  have hr : R = false := by rw [← hR, decide_eq_false h1]; rfl
  subst hr
  clear hR
  have h1b : ¬ k ≥ 1 := h1
  have h1d : decide (1 ≤ k) = false := decide_eq_false h1
  go_enter Tryz.func29, Tryz.ntmps29
  go_wp2_with fail
  go_ret
  exact ⟨rfl, HL.out⟩
 by_cases h9 : k ≤ 9
 rotate_left
 ·
  have hr : R = false := by rw [← hR, decide_eq_true h1, decide_eq_false h9]; rfl
  subst hr
  clear hR
  have h9d : decide (k ≤ 9) = false := decide_eq_false h9
  go_enter Tryz.func29, Tryz.ntmps29
  go_wp2_with fail
  go_ret
  exact ⟨rfl, HL.out⟩
 have h10 : k = 1 ∨ k = 2 ∨ k = 3 ∨ k = 4 ∨ k = 5 ∨ k = 6 ∨ k = 7 ∨ k = 8 ∨ k = 9 := by omega
 clear h1 h9
 rcases h10 with rfl | rfl | rfl | rfl | rfl | rfl | rfl | rfl | rfl
 ·
  have hx : r / 2 < 512 := by omega
  have hand := and1 ⟨r / 2, hx⟩
  dsimp only at hand
  have e1 : ((r / 2 : Nat) : Int) = (r : Int) / 2 := by omega
  have e2 : ((r / 2 % 2 : Nat) : Int) = (r : Int) / 2 % 2 := by omega
  rw [e1, e2] at hand
  by_cases h : r / 2 % 2 = 1
  ·
   have hr : R = true := by rw [← hR]; exact decide_eq_true (p := r / 2 % 2 = 1) h
   subst hr
   have hi : (r : Int) / 2 % 2 = 1 := by omega
   clear hR e1 e2
   go_enter Tryz.func29, Tryz.ntmps29
   go_wp2_with fail
   go_ret
   exact ⟨rfl, HL.out⟩
  ·
   have hr : R = false := by rw [← hR]; exact decide_eq_false (p := r / 2 % 2 = 1) h
   subst hr
   have hi : (r : Int) / 2 % 2 = 0 := by omega
   clear hR e1 e2
   go_enter Tryz.func29, Tryz.ntmps29
   go_wp2_with fail
   go_ret
   exact ⟨rfl, HL.out⟩
 ·
  have hx : r / 4 < 512 := by omega
  have hand := and1 ⟨r / 4, hx⟩
  dsimp only at hand
  have e1 : ((r / 4 : Nat) : Int) = (r : Int) / 4 := by omega
  have e2 : ((r / 4 % 2 : Nat) : Int) = (r : Int) / 4 % 2 := by omega
  rw [e1, e2] at hand
  by_cases h : r / 4 % 2 = 1
  ·
   have hr : R = true := by rw [← hR]; exact decide_eq_true (p := r / 4 % 2 = 1) h
   subst hr
   have hi : (r : Int) / 4 % 2 = 1 := by omega
   clear hR e1 e2
   go_enter Tryz.func29, Tryz.ntmps29
   go_wp2_with fail
   go_ret
   exact ⟨rfl, HL.out⟩
  ·
   have hr : R = false := by rw [← hR]; exact decide_eq_false (p := r / 4 % 2 = 1) h
   subst hr
   have hi : (r : Int) / 4 % 2 = 0 := by omega
   clear hR e1 e2
   go_enter Tryz.func29, Tryz.ntmps29
   go_wp2_with fail
   go_ret
   exact ⟨rfl, HL.out⟩
 ·
  have hx : r / 8 < 512 := by omega
  have hand := and1 ⟨r / 8, hx⟩
  dsimp only at hand
  have e1 : ((r / 8 : Nat) : Int) = (r : Int) / 8 := by omega
  have e2 : ((r / 8 % 2 : Nat) : Int) = (r : Int) / 8 % 2 := by omega
  rw [e1, e2] at hand
  by_cases h : r / 8 % 2 = 1
  ·
   have hr : R = true := by rw [← hR]; exact decide_eq_true (p := r / 8 % 2 = 1) h
   subst hr
   have hi : (r : Int) / 8 % 2 = 1 := by omega
   clear hR e1 e2
   go_enter Tryz.func29, Tryz.ntmps29
   go_wp2_with fail
   go_ret
   exact ⟨rfl, HL.out⟩
  ·
   have hr : R = false := by rw [← hR]; exact decide_eq_false (p := r / 8 % 2 = 1) h
   subst hr
   have hi : (r : Int) / 8 % 2 = 0 := by omega
   clear hR e1 e2
   go_enter Tryz.func29, Tryz.ntmps29
   go_wp2_with fail
   go_ret
   exact ⟨rfl, HL.out⟩
 ·
  have hx : r / 16 < 512 := by omega
  have hand := and1 ⟨r / 16, hx⟩
  dsimp only at hand
  have e1 : ((r / 16 : Nat) : Int) = (r : Int) / 16 := by omega
  have e2 : ((r / 16 % 2 : Nat) : Int) = (r : Int) / 16 % 2 := by omega
  rw [e1, e2] at hand
  by_cases h : r / 16 % 2 = 1
  ·
   have hr : R = true := by rw [← hR]; exact decide_eq_true (p := r / 16 % 2 = 1) h
   subst hr
   have hi : (r : Int) / 16 % 2 = 1 := by omega
   clear hR e1 e2
   go_enter Tryz.func29, Tryz.ntmps29
   go_wp2_with fail
   go_ret
   exact ⟨rfl, HL.out⟩
  ·
   have hr : R = false := by rw [← hR]; exact decide_eq_false (p := r / 16 % 2 = 1) h
   subst hr
   have hi : (r : Int) / 16 % 2 = 0 := by omega
   clear hR e1 e2
   go_enter Tryz.func29, Tryz.ntmps29
   go_wp2_with fail
   go_ret
   exact ⟨rfl, HL.out⟩
 ·
  have hx : r / 32 < 512 := by omega
  have hand := and1 ⟨r / 32, hx⟩
  dsimp only at hand
  have e1 : ((r / 32 : Nat) : Int) = (r : Int) / 32 := by omega
  have e2 : ((r / 32 % 2 : Nat) : Int) = (r : Int) / 32 % 2 := by omega
  rw [e1, e2] at hand
  by_cases h : r / 32 % 2 = 1
  ·
   have hr : R = true := by rw [← hR]; exact decide_eq_true (p := r / 32 % 2 = 1) h
   subst hr
   have hi : (r : Int) / 32 % 2 = 1 := by omega
   clear hR e1 e2
   go_enter Tryz.func29, Tryz.ntmps29
   go_wp2_with fail
   go_ret
   exact ⟨rfl, HL.out⟩
  ·
   have hr : R = false := by rw [← hR]; exact decide_eq_false (p := r / 32 % 2 = 1) h
   subst hr
   have hi : (r : Int) / 32 % 2 = 0 := by omega
   clear hR e1 e2
   go_enter Tryz.func29, Tryz.ntmps29
   go_wp2_with fail
   go_ret
   exact ⟨rfl, HL.out⟩
 ·
  have hx : r / 64 < 512 := by omega
  have hand := and1 ⟨r / 64, hx⟩
  dsimp only at hand
  have e1 : ((r / 64 : Nat) : Int) = (r : Int) / 64 := by omega
  have e2 : ((r / 64 % 2 : Nat) : Int) = (r : Int) / 64 % 2 := by omega
  rw [e1, e2] at hand
  by_cases h : r / 64 % 2 = 1
  ·
   have hr : R = true := by rw [← hR]; exact decide_eq_true (p := r / 64 % 2 = 1) h
   subst hr
   have hi : (r : Int) / 64 % 2 = 1 := by omega
   clear hR e1 e2
   go_enter Tryz.func29, Tryz.ntmps29
   go_wp2_with fail
   go_ret
   exact ⟨rfl, HL.out⟩
  ·
   have hr : R = false := by rw [← hR]; exact decide_eq_false (p := r / 64 % 2 = 1) h
   subst hr
   have hi : (r : Int) / 64 % 2 = 0 := by omega
   clear hR e1 e2
   go_enter Tryz.func29, Tryz.ntmps29
   go_wp2_with fail
   go_ret
   exact ⟨rfl, HL.out⟩
 ·
  have hx : r / 128 < 512 := by omega
  have hand := and1 ⟨r / 128, hx⟩
  dsimp only at hand
  have e1 : ((r / 128 : Nat) : Int) = (r : Int) / 128 := by omega
  have e2 : ((r / 128 % 2 : Nat) : Int) = (r : Int) / 128 % 2 := by omega
  rw [e1, e2] at hand
  by_cases h : r / 128 % 2 = 1
  ·
   have hr : R = true := by rw [← hR]; exact decide_eq_true (p := r / 128 % 2 = 1) h
   subst hr
   have hi : (r : Int) / 128 % 2 = 1 := by omega
   clear hR e1 e2
   go_enter Tryz.func29, Tryz.ntmps29
   go_wp2_with fail
   go_ret
   exact ⟨rfl, HL.out⟩
  ·
   have hr : R = false := by rw [← hR]; exact decide_eq_false (p := r / 128 % 2 = 1) h
   subst hr
   have hi : (r : Int) / 128 % 2 = 0 := by omega
   clear hR e1 e2
   go_enter Tryz.func29, Tryz.ntmps29
   go_wp2_with fail
   go_ret
   exact ⟨rfl, HL.out⟩
 ·
  have hx : r / 256 < 512 := by omega
  have hand := and1 ⟨r / 256, hx⟩
  dsimp only at hand
  have e1 : ((r / 256 : Nat) : Int) = (r : Int) / 256 := by omega
  have e2 : ((r / 256 % 2 : Nat) : Int) = (r : Int) / 256 % 2 := by omega
  rw [e1, e2] at hand
  by_cases h : r / 256 % 2 = 1
  ·
   have hr : R = true := by rw [← hR]; exact decide_eq_true (p := r / 256 % 2 = 1) h
   subst hr
   have hi : (r : Int) / 256 % 2 = 1 := by omega
   clear hR e1 e2
   go_enter Tryz.func29, Tryz.ntmps29
   go_wp2_with fail
   go_ret
   exact ⟨rfl, HL.out⟩
  ·
   have hr : R = false := by rw [← hR]; exact decide_eq_false (p := r / 256 % 2 = 1) h
   subst hr
   have hi : (r : Int) / 256 % 2 = 0 := by omega
   clear hR e1 e2
   go_enter Tryz.func29, Tryz.ntmps29
   go_wp2_with fail
   go_ret
   exact ⟨rfl, HL.out⟩
 ·
  have hx : r / 512 < 512 := by omega
  have hand := and1 ⟨r / 512, hx⟩
  dsimp only at hand
  have e1 : ((r / 512 : Nat) : Int) = (r : Int) / 512 := by omega
  have e2 : ((r / 512 % 2 : Nat) : Int) = (r : Int) / 512 % 2 := by omega
  rw [e1, e2] at hand
  by_cases h : r / 512 % 2 = 1
  ·
   have hr : R = true := by rw [← hR]; exact decide_eq_true (p := r / 512 % 2 = 1) h
   subst hr
   have hi : (r : Int) / 512 % 2 = 1 := by omega
   clear hR e1 e2
   go_enter Tryz.func29, Tryz.ntmps29
   go_wp2_with fail
   go_ret
   exact ⟨rfl, HL.out⟩
  ·
   have hr : R = false := by rw [← hR]; exact decide_eq_false (p := r / 512 % 2 = 1) h
   subst hr
   have hi : (r : Int) / 512 % 2 = 0 := by omega
   clear hR e1 e2
   go_enter Tryz.func29, Tryz.ntmps29
   go_wp2_with fail
   go_ret
   exact ⟨rfl, HL.out⟩
end Go.Proofs.YtpafenlcgcenlaaGreatDoor
