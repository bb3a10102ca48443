/- A Config as data; caps.Right, caps.May. -/
import Derived.Test.YtpafenlcgcenlaaDoorMn1
namespace Go.Proofs.YtpafenlcgcenlaaDoor
open Go Go.RowKit
set_option linter.unusedVariables false
set_option linter.unusedSimpArgs false
structure Cf where
  nm : ByteArray
  key : List UInt8
  slot : Int
  budget : Int
  quota : Int
  rights : Int
  first : List UInt8
/-- A Config's seven cells. -/
def Cf.cells (c : Cf) (K : Option Addr) (kc : Nat) (F : Option Addr) (fc : Nat) : List Value := [.string c.nm, .slice K c.key.length kc, .int .i64 c.slot, .int .i64 c.budget, .int .i64 c.quota, .int .i64 c.rights, .slice F c.first.length fc]
def Cf.right (c : Cf) : Bool := validN c.nm && (decide ((c.key.length : Int) ≥ 1) && (decide ((c.key.length : Int) ≤ 64) && (decide (c.slot ≥ 1) && (decide (c.slot ≤ 6) && (decide (c.budget ≥ 0) && (decide (c.budget ≤ 1000) && (decide (c.quota ≥ 1) && (decide (c.quota ≤ c.slot) && (decide (c.rights ≥ 0) && (decide (c.rights ≤ 1023) && (decide ((c.first.length : Int) ≥ 1) && (decide ((c.first.length : Int) ≤ c.quota * 320)))))))))))))
set_option maxRecDepth 100000 in
set_option maxHeartbeats 8000000 in
theorem cright_c (w : World) (c : Cf) (K : Option Addr) (kc : Nat) (F : Option Addr) (fc : Nat) (hs : c.nm.size ≤ 1000000) : Calls Tryd.prog 9 #[.agg (c.cells K kc F fc).toArray] w fun e w' => e = .returned (.bool c.right) ∧ Below w.heap.size w w' := by
  have hB0 := Blk.new w 27 (c.cells K kc F fc).toArray
  have hb0 : Below w.heap.size w (w.alloc (.cells (c.cells K kc F fc).toArray 27)) := (Below.refl _ _).alloc (Nat.le_refl _) _
  have hval := fun W => nvalid_c c.nm hs W
  obtain ⟨R, hR⟩ : ∃ R, c.right = R := ⟨_, rfl⟩
  rw [hR]
  unfold Cf.right at hR
  obtain ⟨V, hV⟩ : ∃ V, validN c.nm = V := ⟨_, rfl⟩
  simp only [hV] at hval
  rw [hV] at hR
  have k0 : (w.alloc (.cells (c.cells K kc F fc).toArray 27)).cell? ⟨w.heap.size, 0, none⟩ = some (.string c.nm) := hB0.cell 0
  have HB := Lib.hid hB0
  have HL := Lib.hid hb0
  have HV := Lib.hid hval
  clear hB0 hb0 hval hV
  go_enter Tryd.func9, Tryd.ntmps9
  go_wp2_with fail
  refine (HV.out _).mono ?_
  rintro e w1 ⟨rfl, hb1⟩
  have hB := HB.out.below hb1 HB.out.lt
  have HL := Lib.hid (HL.out.trans (hb1.mono HL.out.size))
  have k1 : w1.cell? ⟨w.heap.size, 1, none⟩ = some (.slice K c.key.length kc) := hB.cell 1
  have k2 : w1.cell? ⟨w.heap.size, 2, none⟩ = some (.int .i64 c.slot) := hB.cell 2
  have k3 : w1.cell? ⟨w.heap.size, 3, none⟩ = some (.int .i64 c.budget) := hB.cell 3
  have k4 : w1.cell? ⟨w.heap.size, 4, none⟩ = some (.int .i64 c.quota) := hB.cell 4
  have k5 : w1.cell? ⟨w.heap.size, 5, none⟩ = some (.int .i64 c.rights) := hB.cell 5
  have k6 : w1.cell? ⟨w.heap.size, 6, none⟩ = some (.slice F c.first.length fc) := hB.cell 6
  clear hb1 hB HB HV k0
  cases V
  · have hr : R = false := by rw [← hR]; rfl
    subst hr
    clear hR
    go_wp2_with fail
    go_ret
    exact ⟨rfl, HL.out⟩
  by_cases h0 : (c.key.length : Int) ≥ 1
  rotate_left
  · have hr : R = false := by rw [← hR]; simp only [decide_eq_false h0, Bool.true_and, Bool.false_and, Bool.and_false, Bool.and_true]
    subst hr
    clear hR
    go_wp2_with fail
    go_ret
    exact ⟨rfl, HL.out⟩
  by_cases h1 : (c.key.length : Int) ≤ 64
  rotate_left
  · have hr : R = false := by rw [← hR]; simp only [decide_eq_true h0, decide_eq_false h1, Bool.true_and, Bool.false_and, Bool.and_false, Bool.and_true]
    subst hr
    clear hR
    go_wp2_with fail
    go_ret
    exact ⟨rfl, HL.out⟩
  by_cases h2 : c.slot ≥ 1
  rotate_left
  · have hr : R = false := by rw [← hR]; simp only [decide_eq_true h0, decide_eq_true h1, decide_eq_false h2, Bool.true_and, Bool.false_and, Bool.and_false, Bool.and_true]
    subst hr
    clear hR
    go_wp2_with fail
    go_ret
    exact ⟨rfl, HL.out⟩
  by_cases h3 : c.slot ≤ 6
  rotate_left
  · have hr : R = false := by rw [← hR]; simp only [decide_eq_true h0, decide_eq_true h1, decide_eq_true h2, decide_eq_false h3, Bool.true_and, Bool.false_and, Bool.and_false, Bool.and_true]
    subst hr
    clear hR
    go_wp2_with fail
    go_ret
    exact ⟨rfl, HL.out⟩
  by_cases h4 : c.budget ≥ 0
  rotate_left
  · have hr : R = false := by rw [← hR]; simp only [decide_eq_true h0, decide_eq_true h1, decide_eq_true h2, decide_eq_true h3, decide_eq_false h4, Bool.true_and, Bool.false_and, Bool.and_false, Bool.and_true]
    subst hr
    clear hR
    go_wp2_with fail
    go_ret
    exact ⟨rfl, HL.out⟩
  by_cases h5 : c.budget ≤ 1000
  rotate_left
  · have hr : R = false := by rw [← hR]; simp only [decide_eq_true h0, decide_eq_true h1, decide_eq_true h2, decide_eq_true h3, decide_eq_true h4, decide_eq_false h5, Bool.true_and, Bool.false_and, Bool.and_false, Bool.and_true]
    subst hr
    clear hR
    go_wp2_with fail
    go_ret
    exact ⟨rfl, HL.out⟩
  by_cases h6 : c.quota ≥ 1
  rotate_left
  · have hr : R = false := by rw [← hR]; simp only [decide_eq_true h0, decide_eq_true h1, decide_eq_true h2, decide_eq_true h3, decide_eq_true h4, decide_eq_true h5, decide_eq_false h6, Bool.true_and, Bool.false_and, Bool.and_false, Bool.and_true]
    subst hr
    clear hR
    go_wp2_with fail
    go_ret
    exact ⟨rfl, HL.out⟩
  by_cases h7 : c.quota ≤ c.slot
  rotate_left
  · have hr : R = false := by rw [← hR]; simp only [decide_eq_true h0, decide_eq_true h1, decide_eq_true h2, decide_eq_true h3, decide_eq_true h4, decide_eq_true h5, decide_eq_true h6, decide_eq_false h7, Bool.true_and, Bool.false_and, Bool.and_false, Bool.and_true]
    subst hr
    clear hR
    go_wp2_with fail
    go_ret
    exact ⟨rfl, HL.out⟩
  by_cases h8 : c.rights ≥ 0
  rotate_left
  · have hr : R = false := by rw [← hR]; simp only [decide_eq_true h0, decide_eq_true h1, decide_eq_true h2, decide_eq_true h3, decide_eq_true h4, decide_eq_true h5, decide_eq_true h6, decide_eq_true h7, decide_eq_false h8, Bool.true_and, Bool.false_and, Bool.and_false, Bool.and_true]
    subst hr
    clear hR
    go_wp2_with fail
    go_ret
    exact ⟨rfl, HL.out⟩
  by_cases h9 : c.rights ≤ 1023
  rotate_left
  · have hr : R = false := by rw [← hR]; simp only [decide_eq_true h0, decide_eq_true h1, decide_eq_true h2, decide_eq_true h3, decide_eq_true h4, decide_eq_true h5, decide_eq_true h6, decide_eq_true h7, decide_eq_true h8, decide_eq_false h9, Bool.true_and, Bool.false_and, Bool.and_false, Bool.and_true]
    subst hr
    clear hR
    go_wp2_with fail
    go_ret
    exact ⟨rfl, HL.out⟩
  by_cases h10 : (c.first.length : Int) ≥ 1
  rotate_left
  · have hr : R = false := by rw [← hR]; simp only [decide_eq_true h0, decide_eq_true h1, decide_eq_true h2, decide_eq_true h3, decide_eq_true h4, decide_eq_true h5, decide_eq_true h6, decide_eq_true h7, decide_eq_true h8, decide_eq_true h9, decide_eq_false h10, Bool.true_and, Bool.false_and, Bool.and_false, Bool.and_true]
    subst hr
    clear hR
    go_wp2_with fail
    go_ret
    exact ⟨rfl, HL.out⟩
  by_cases h11 : (c.first.length : Int) ≤ c.quota * 320
  rotate_left
  · have hr : R = false := by rw [← hR]; simp only [decide_eq_true h0, decide_eq_true h1, decide_eq_true h2, decide_eq_true h3, decide_eq_true h4, decide_eq_true h5, decide_eq_true h6, decide_eq_true h7, decide_eq_true h8, decide_eq_true h9, decide_eq_true h10, decide_eq_false h11, Bool.true_and, Bool.false_and, Bool.and_false, Bool.and_true]
    subst hr
    clear hR
    have hd : decide ((c.first.length : Int) ≤ c.quota * 320) = false := decide_eq_false h11
    have hw : IntKind.i64.wrap (c.quota * 320) = c.quota * 320 := IntWalk.i64_in _ (by omega)
    go_wp2_with fail
    go_ret
    exact ⟨rfl, HL.out⟩
  have hr : R = true := by rw [← hR]; simp only [decide_eq_true h0, decide_eq_true h1, decide_eq_true h2, decide_eq_true h3, decide_eq_true h4, decide_eq_true h5, decide_eq_true h6, decide_eq_true h7, decide_eq_true h8, decide_eq_true h9, decide_eq_true h10, decide_eq_true h11, Bool.true_and, Bool.and_true]
  subst hr
  clear hR
  have hw : IntKind.i64.wrap (c.quota * 320) = c.quota * 320 := IntWalk.i64_in _ (by omega)
  go_wp2_with fail
  go_ret
  exact ⟨rfl, HL.out⟩
end Go.Proofs.YtpafenlcgcenlaaDoor
