/- Masks of an int. -/
import Derived.Test.YtlchlcjahndjgaaMem
import Derived.IntWalk
namespace Go.Proofs.Ytlchlcjahndjgaa
open Go.RowKit
set_option linter.unusedVariables false
theorem i64_mask (x : Int) (m : Nat) (hm : m < 4611686018427387904) : ∃ j : Nat, j ≤ m ∧ bits .and .i64 x (m : Int) = (j : Int) := by
  refine ⟨(BitVec.ofInt 64 x &&& BitVec.ofInt 64 (m : Int)).toNat, ?_, ?_⟩
  · rw [BitVec.toNat_and]
    have : (BitVec.ofInt 64 (m : Int)).toNat = m := by rw [BitVec.ofInt_natCast, BitVec.toNat_ofNat]; omega
    rw [this]
    exact Nat.and_le_right
  · show IntKind.i64.wrap ((BitVec.ofInt 64 x &&& BitVec.ofInt 64 (m : Int)).toNat : Int) = _
    have h1 : (BitVec.ofInt 64 x &&& BitVec.ofInt 64 (m : Int)).toNat ≤ m := by
      rw [BitVec.toNat_and]
      have : (BitVec.ofInt 64 (m : Int)).toNat = m := by rw [BitVec.ofInt_natCast, BitVec.toNat_ofNat]; omega
      rw [this]
      exact Nat.and_le_right
    exact IntWalk.i64_in _ (by omega)
/-- A masked int, reduced by a positive number: a natural number below it. -/
theorem i64_mask_rem (x : Int) (m K : Nat) (hm : m < 4611686018427387904) (hK : 1 ≤ K) : ∃ q : Nat, q < K ∧ Int.tmod (bits .and .i64 x (m : Int)) (K : Int) = (q : Int) := by
  obtain ⟨j, -, hj⟩ := i64_mask x m hm
  refine ⟨j % K, Nat.mod_lt _ (by omega), ?_⟩
  rw [hj]
  rfl
end Go.Proofs.Ytlchlcjahndjgaa
