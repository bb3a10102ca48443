/- What was saved of a stream tells its words again: plain. -/
import Derived.Test.YtlchlcjahndjgaaSv1
import Derived.Laws.BitsAllLaws
namespace Go.Proofs.Ytlchlcjahndjgaa
open Go Go.RowKit
set_option linter.unusedVariables false
set_option linter.unusedSimpArgs false
attribute [local go_sem ↓] Go.wp_at_zero Go.wp_at_succ
theorem big_step (x : UInt32) (c : UInt8) (h : x.toNat < 16777216) : (x <<< 8 ||| c.toUInt32).toNat = x.toNat * 256 + c.toNat := by
  have hc := c.toNat_lt
  rw [UInt32.toNat_or, UInt32.toNat_shiftLeft, UInt8.toNat_toUInt32, show ((8 : UInt32).toNat % 32) = 8 from rfl, Nat.shiftLeft_eq, Nat.mod_eq_of_lt (by omega), ← Nat.shiftLeft_eq, ← Nat.shiftLeft_add_eq_or_of_lt (by omega), Nat.shiftLeft_eq]
theorem big_four (a b c d : UInt8) (t : List UInt8) : (big (a :: b :: c :: d :: t)).toNat = ((a.toNat * 256 + b.toNat) * 256 + c.toNat) * 256 + d.toNat := by
  have ha := a.toNat_lt
  have hb := b.toNat_lt
  have hc := c.toNat_lt
  have hd := d.toNat_lt
  show ((((((0 : UInt32) <<< 8 ||| a.toUInt32) <<< 8 ||| b.toUInt32) <<< 8 ||| c.toUInt32) <<< 8 ||| d.toUInt32)).toNat = _
  have h1 := big_step 0 a (by decide)
  rw [show (0 : UInt32).toNat = 0 from rfl] at h1
  have h2 := big_step ((0 : UInt32) <<< 8 ||| a.toUInt32) b (by omega)
  rw [h1] at h2
  have h3 := big_step _ c (show (((0 : UInt32) <<< 8 ||| a.toUInt32) <<< 8 ||| b.toUInt32).toNat < 16777216 by omega)
  have h4 := big_step _ d (show ((((0 : UInt32) <<< 8 ||| a.toUInt32) <<< 8 ||| b.toUInt32) <<< 8 ||| c.toUInt32).toNat < 16777216 by omega)
  rw [h4, h3, h2, Nat.zero_mul, Nat.zero_add]
theorem big_bytes4 (x : UInt32) (t : List UInt8) : big (bytes4 x ++ t) = x := by
  have hx := x.toNat_lt
  apply UInt32.toNat_inj.1
  show (big ((x >>> 24).toUInt8 :: (x >>> 16).toUInt8 :: (x >>> 8).toUInt8 :: x.toUInt8 :: t)).toNat = _
  rw [big_four]
  simp only [UInt32.toNat_toUInt8, UInt32.toNat_shiftRight, show ((24 : UInt32).toNat % 32) = 24 from rfl, show ((16 : UInt32).toNat % 32) = 16 from rfl, show ((8 : UInt32).toNat % 32) = 8 from rfl, Nat.shiftRight_eq_div_pow]
  omega
theorem saved_word (s : St) (n : UInt64) (rest : List UInt8) (k : Nat) (hk : k < 8) : big ((saved s n rest).drop (k * 4)) = s.words.getD k 0 := by
  obtain ⟨a, b, c, d, e, f, g, h⟩ := s
  have h9 : k = 0 ∨ k = 1 ∨ k = 2 ∨ k = 3 ∨ k = 4 ∨ k = 5 ∨ k = 6 ∨ k = 7 := by omega
  rcases h9 with rfl | rfl | rfl | rfl | rfl | rfl | rfl | rfl <;> exact big_bytes4 _ _
theorem saved_hi (s : St) (n : UInt64) (rest : List UInt8) : big ((saved s n rest).drop 32) = (n >>> 32).toUInt32 := big_bytes4 _ _
theorem saved_lo (s : St) (n : UInt64) (rest : List UInt8) : big ((saved s n rest).drop 36) = n.toUInt32 := big_bytes4 _ _
theorem saved_rest (s : St) (n : UInt64) (rest : List UInt8) : (saved s n rest).drop 40 = rest := rfl
theorem join64 (n : UInt64) : bits .or .u64 ((((n >>> 32).toUInt32.toNat : Int) * 4294967296) % 18446744073709551616) ((n.toUInt32).toNat : Int) = (n.toNat : Int) := by
  have hn := n.toNat_lt
  have h1 : (n >>> 32).toUInt32.toNat = n.toNat / 4294967296 := by
    rw [UInt64.toNat_toUInt32, UInt64.toNat_shiftRight, show ((32 : UInt64).toNat % 64) = 32 from rfl, Nat.shiftRight_eq_div_pow]
    omega
  have h2 : n.toUInt32.toNat = n.toNat % 4294967296 := by rw [UInt64.toNat_toUInt32]
  rw [h1, h2]
  have h3 : ((((n.toNat / 4294967296 : Nat) : Int) * 4294967296) % 18446744073709551616) = ((n.toNat / 4294967296 * 4294967296 : Nat) : Int) := by omega
  rw [h3, u64_or_nat _ _ (by omega) (by omega)]
  have h4 : n.toNat / 4294967296 * 4294967296 = (n.toNat / 4294967296) <<< 32 := by rw [Nat.shiftLeft_eq]
  rw [h4, ← Nat.shiftLeft_add_eq_or_of_lt (show n.toNat % 4294967296 < 2 ^ 32 by omega), Nat.shiftLeft_eq]
  rw [Nat.mul_comm, Nat.div_add_mod]
/-- The cells of a stream of which the first k words are there. -/
def stUp (s : St) (k : Nat) (v : Value) : Array Value := ((s.words.take k ++ List.replicate (8 - k) 0).map u32v ++ [u64v 0, v]).toArray
theorem stUp_size (s : St) (k : Nat) (v : Value) (hk : k ≤ 8) : (stUp s k v).size = 10 := by
  have : s.words.length = 8 := rfl
  simp [stUp, this]; omega
theorem stUp_zero (s : St) (v : Value) : stUp s 0 v = #[.int .u32 0, .int .u32 0, .int .u32 0, .int .u32 0, .int .u32 0, .int .u32 0, .int .u32 0, .int .u32 0, .int .u64 0, v] := rfl
theorem stUp_full (s : St) (v : Value) : stUp s 8 v = strm s 0 v := rfl
theorem stUp_set (s : St) (k : Nat) (v : Value) (hk : k < 8) : (stUp s k v).setIfInBounds k (u32v (s.words.getD k 0)) = stUp s (k + 1) v := by
  obtain ⟨a, b, c, d, e, f, g, h⟩ := s
  have h9 : k = 0 ∨ k = 1 ∨ k = 2 ∨ k = 3 ∨ k = 4 ∨ k = 5 ∨ k = 6 ∨ k = 7 := by omega
  rcases h9 with rfl | rfl | rfl | rfl | rfl | rfl | rfl | rfl <;> rfl
end Go.Proofs.Ytlchlcjahndjgaa
