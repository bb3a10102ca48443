/- Walks of package wear: Sum and Least, and what they answer as plain data. -/
import Derived.Test.YtlchlcjahndjgaaGreatAreaE
namespace Go.Proofs.YtlchlcjahndjgaaGreat
open Go.RowKit
set_option linter.unusedVariables false
set_option linter.unusedSimpArgs false

namespace Ar
def sumLeft (R : Ar) (F : Fl) : Nat → Int
  | 0 => 0
  | k + 1 => R.sumLeft F k + R.left F k
theorem left_b (R : Ar) (F : Fl) (n : Nat) (h : R.Ok n) (hF : F.Ok) (s : Int) : 0 ≤ R.left F s ∧ R.left F s ≤ 1000 := by
  unfold left
  have := h.b1
  have := (Fl.wearAt_b hF ((R.from_ : Int) + s)).1
  split <;> omega
theorem sumLeft_b (R : Ar) (F : Fl) (n : Nat) (h : R.Ok n) (hF : F.Ok) (k : Nat) : 0 ≤ R.sumLeft F k ∧ R.sumLeft F k ≤ 1000 * k := by
  induction k with
  | zero => simp [sumLeft]
  | succ k ih => have := left_b R F n h hF k; simp only [sumLeft]; omega
def leastStep (R : Ar) (F : Fl) (x n : Int) (st : Int × Bool) (i : Nat) : Int × Bool :=
  if (i : Int) < x ∨ n < 1 ∨ n ≤ (i : Int) - x then st else if st.2 = false ∨ R.left F st.1 < R.left F i then ((i : Int), true) else st
def leastTo (R : Ar) (F : Fl) (x n : Int) : Nat → Int × Bool
  | 0 => (0, false)
  | k + 1 => R.leastStep F x n (R.leastTo F x n k) k
def least (R : Ar) (F : Fl) (x n : Int) : Int × Bool := R.leastTo F x n R.len
theorem leastTo_b (R : Ar) (F : Fl) (x n : Int) (k : Nat) : 0 ≤ (R.leastTo F x n k).1 ∧ (R.leastTo F x n k).1 ≤ k := by
  induction k with
  | zero => simp [leastTo]
  | succ k ih =>
    simp only [leastTo, leastStep]
    split
    · omega
    · split
      · simp only; omega
      · omega
end Ar
theorem drewN_two (w : World) (m n : Nat) : ∃ k, (w.drewN m).drewN n = w.drewN k := ⟨m + n, by simp [World.drewN, Nat.add_assoc]⟩

section
variable {ab fb bb wb : Nat} {R : Ar} {F : Fl} (w : World)
end
end Go.Proofs.YtlchlcjahndjgaaGreat
