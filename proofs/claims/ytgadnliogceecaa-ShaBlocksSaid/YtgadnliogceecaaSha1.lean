/- Words of 32 bits: what the model's numbers are as UInt32; turn.Right. -/
import Derived.Test.YtgadnliogceecaaLib
namespace Go.Proofs.Ytgadnliogceecaa
open Go.RowKit
set_option linter.unusedVariables false
set_option linter.unusedSimpArgs false

theorem byte_at {w : World} {A : Option Addr} {n k : Nat} {bs : List UInt8} (hr : Reads w A n (bs.map u8v)) (hk : k < bs.length) : ∃ b o, A = some ⟨b, o, none⟩ ∧ b < w.heap.size ∧ w.cell? ⟨b, o + k, none⟩ = some (u8v bs[k]) := by
  obtain ⟨b, o, u, hA, hb, hu, hc⟩ := hr.at_ (k := k) (by have := hr.len; simp at this; omega)
  rw [List.getElem?_map, List.getElem?_eq_getElem hk] at hu
  simp only [Option.map_some, Option.some.injEq] at hu
  subst hu
  exact ⟨b, o, hA, hb, hc⟩
abbrev u32v (c : UInt32) : Value := .int .u32 (c.toNat : Int)
theorem u32v_one (l : List UInt32) : ∀ u ∈ l.map u32v, u.oneCell' = true := by
  intro u hu; simp only [List.mem_map] at hu; obtain ⟨c, _, rfl⟩ := hu; rfl
theorem u32_b (c : UInt32) : 0 ≤ (c.toNat : Int) ∧ (c.toNat : Int) < 4294967296 := by have := c.toNat_lt; omega
theorem w32_add (a b : UInt32) : IntKind.u32.wrap ((a.toNat : Int) + (b.toNat : Int)) = ((a + b).toNat : Int) := by
  rw [IntKind.wrap_u32', UInt32.toNat_add]; omega
theorem w32_xor (a b : UInt32) : bits .xor .u32 (a.toNat : Int) (b.toNat : Int) = ((a ^^^ b).toNat : Int) := by
  rw [u32_xor_nat _ _ a.toNat_lt b.toNat_lt, UInt32.toNat_xor]
theorem w32_and (a b : UInt32) : bits .and .u32 (a.toNat : Int) (b.toNat : Int) = ((a &&& b).toNat : Int) := by
  rw [u32_and_nat _ _ a.toNat_lt b.toNat_lt, UInt32.toNat_and]
theorem w32_or (a b : UInt32) : bits .or .u32 (a.toNat : Int) (b.toNat : Int) = ((a ||| b).toNat : Int) := by
  rw [u32_or_nat _ _ a.toNat_lt b.toNat_lt, UInt32.toNat_or]
theorem w32_shr (a : UInt32) (n : Nat) (h : n < 32) : (a.toNat : Int) / (2 ^ n : Int) = ((a >>> UInt32.ofNat n).toNat : Int) := by
  rw [UInt32.toNat_shiftRight]
  have : (UInt32.ofNat n).toNat % 32 = n := by rw [UInt32.toNat_ofNat']; omega
  rw [this, Nat.shiftRight_eq_div_pow, Int.natCast_ediv, Int.natCast_pow]
  rfl
theorem w32_shl (a : UInt32) (n : Nat) (h : n < 32) : ((a.toNat : Int) * (2 ^ n : Int)) % 4294967296 = ((a <<< UInt32.ofNat n).toNat : Int) := by
  rw [UInt32.toNat_shiftLeft]
  have : (UInt32.ofNat n).toNat % 32 = n := by rw [UInt32.toNat_ofNat']; omega
  rw [this, Nat.shiftLeft_eq, Int.natCast_emod, Int.natCast_mul, Int.natCast_pow]
  rfl
theorem w32_not (a : UInt32) : bits .xor .u32 (a.toNat : Int) 4294967295 = ((~~~a).toNat : Int) := by
  have h : a ^^^ 4294967295 = ~~~a := by
    rw [← UInt32.toBitVec_inj]
    simp only [UInt32.toBitVec_xor, UInt32.toBitVec_not]
    apply BitVec.eq_of_getLsbD_eq
    intro i hi
    have h0 : ∀ j : Fin 32, ((4294967295 : UInt32).toBitVec).getLsbD j = true := by decide
    have h1 := h0 ⟨i, hi⟩
    simp only at h1
    rw [BitVec.getLsbD_xor, BitVec.getLsbD_not, h1]
    simp only [hi, decide_true, Bool.true_and, Bool.xor_true]
  rw [← h]
  have := u32_xor_nat a.toNat 4294967295 a.toNat_lt (by omega)
  rw [UInt32.toNat_xor]
  exact this

theorem u32_ret {a b : Int} (h : a = b) : Ending.returned (Value.int .u32 a) = Ending.returned (Value.int .u32 b) := by rw [h]
/-- A word turned round to the right. -/
def rotr (x : UInt32) (n : Nat) : UInt32 := x <<< UInt32.ofNat (32 - n) ||| x >>> UInt32.ofNat n

theorem rotl_c (x : UInt32) (n : Nat) (h1 : 1 ≤ n) (h2 : n ≤ 31) (w : World) : Calls Try.prog 78 #[u32v x, .int .i64 (-(n : Int))] w fun e w' => e = .returned (u32v (rotr x n)) ∧ w = w' := by
  have hx := u32_b x
  obtain ⟨m, hm⟩ : ∃ m : Nat, m = 32 - n := ⟨_, rfl⟩
  have hs : bits .and .u64 (IntKind.u64.wrap (-(n : Int))) 31 = (m : Int) := by
    have hw : IntKind.u64.wrap (-(n : Int)) = 18446744073709551616 - (n : Int) := by
      rw [show IntKind.u64.wrap (-(n : Int)) = (-(n : Int)) % 18446744073709551616 from by simp [IntKind.wrap, IntKind.bits, IntKind.signed]]; omega
    rw [hw, u64_and _ 31 (by omega) (by omega) (by omega) (by omega), show ((31 : Int).toNat) = 2 ^ 5 - 1 from rfl, Nat.and_two_pow_sub_one_eq_mod]
    omega
  have HM := Lib.hid hm
  have m1 : 1 ≤ m := by omega
  have m2 : m ≤ 31 := by omega
  have m3 : (32 : Int) - (m : Int) = (n : Int) := by omega
  clear hm
  go_enter Try.func78, Try.ntmps78
  go_wp2
  go_ret
  have hv : bits .or .u32 ((x.toNat : Int) * 2 ^ m % 4294967296) ((x.toNat : Int) / 2 ^ n) = ((rotr x n).toNat : Int) := by
    rw [w32_shl x m (by omega), w32_shr x n (by omega), w32_or, HM.out]
    rfl
  exact ⟨u32_ret hv, rfl⟩
theorem right_c (x : UInt32) (n : Nat) (h1 : 1 ≤ n) (h2 : n ≤ 31) (w : World) : Calls Try.prog 74 #[u32v x, .int .i64 (n : Int)] w fun e w' => e = .returned (u32v (rotr x n)) ∧ w = w' := by
  go_enter Try.func74, Try.ntmps74
  go_wp2_with (go_at_call 78; refine (rotl_c x n h1 h2 _).mono ?_; rintro e w' ⟨rfl, rfl⟩)
  go_ret
  exact ⟨rfl, rfl⟩
theorem right_i (x : UInt32) (n : Int) (h1 : 1 ≤ n) (h2 : n ≤ 31) (w : World) : Calls Try.prog 74 #[u32v x, .int .i64 n] w fun e w' => e = .returned (u32v (rotr x n.toNat)) ∧ w = w' := by
  obtain ⟨m, rfl⟩ := Int.eq_ofNat_of_zero_le (show 0 ≤ n by omega)
  exact right_c x m (by omega) (by omega) w
theorem right_q (x : UInt32) (n : Int) (h1 : 1 ≤ n) (h2 : n ≤ 31) (w : World) : Calls Try.prog 74 #[u32v x, .int .i64 n] w fun e w' => e = .returned (u32v (rotr x n.toNat)) ∧ w' = w :=
  (right_i x n h1 h2 w).mono fun _ _ h => ⟨h.1, h.2.symm⟩
theorem w32_addm (a b : UInt32) : ((a.toNat : Int) + (b.toNat : Int)) % 4294967296 = ((a + b).toNat : Int) := by
  rw [UInt32.toNat_add]; omega
end Go.Proofs.Ytgadnliogceecaa
