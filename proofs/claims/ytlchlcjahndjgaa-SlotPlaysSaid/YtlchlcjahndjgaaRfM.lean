/- The reference: Writer's Num and Raw, Dual, PutCell. -/
import Derived.Test.YtlchlcjahndjgaaRfJ
import Derived.Laws.Bits64b
namespace Go.Proofs.Ytlchlcjahndjgaa
open Go.RowKit
set_option linter.unusedVariables false
set_option linter.unusedSimpArgs false
theorem rbe_val (N j : Nat) (hN : N < 18446744073709551616) : bits .and .u64 ((N : Int) / 2 ^ (8 * j)) 255 % 256 = (((UInt8.ofNat (N / 256 ^ j)).toNat : Nat) : Int) := by
  have e : ((N : Int) / 2 ^ (8 * j)) = ((N / 256 ^ j : Nat) : Int) := by
    rw [Int.natCast_ediv, Int.pow_mul]
    norm_cast
  have hlt : N / 256 ^ j < 18446744073709551616 := Nat.lt_of_le_of_lt (Nat.div_le_self _ _) hN
  have h := bits_and_u64_nat (N / 256 ^ j) 255 hlt (by omega)
  rw [e, show (255 : Int) = ((255 : Nat) : Int) from rfl, h, UInt8.toNat_ofNat', show (255 : Nat) = 2 ^ 8 - 1 from rfl, Nat.and_two_pow_sub_one_eq_mod]
  omega
theorem padTo_step (b : List UInt8) (size k : Nat) (hk : k < size) : (padTo b size).take (k + 1) = (padTo b size).take k ++ [b.getD k 0] := by
  rw [List.take_add_one]
  congr 1
  unfold padTo
  rw [List.getElem?_append]
  by_cases h : k < b.length
  · rw [if_pos (by rw [List.length_take]; omega), List.getElem?_take, if_pos hk, List.getD_eq_getElem?_getD, List.getElem?_eq_getElem h]
    rfl
  · rw [if_neg (by rw [List.length_take]; omega), List.getElem?_replicate, List.length_take, if_pos (by omega), List.getD_eq_getElem?_getD, List.getElem?_eq_none (by omega)]
    rfl
end Go.Proofs.Ytlchlcjahndjgaa
