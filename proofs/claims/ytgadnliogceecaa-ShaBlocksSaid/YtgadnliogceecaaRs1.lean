/- The reference's words: Right, Big, Bytes4, first. -/
import Derived.Test.YtgadnliogceecaaSha16
namespace Go.Proofs.Ytgadnliogceecaa
open Go Go.RowKit
set_option linter.unusedVariables false
set_option linter.unusedSimpArgs false
theorem u64_31 (n : Nat) (h : n ≤ 31) : bits .and .u64 (n : Int) 31 = (n : Int) := by
  rw [u64_and _ 31 (by omega) (by omega) (by omega) (by omega), show ((31 : Int).toNat) = 2 ^ 5 - 1 from rfl, Nat.and_two_pow_sub_one_eq_mod]
  omega
theorem rright_c (x : UInt32) (n : Nat) (h1 : 1 ≤ n) (h2 : n ≤ 31) (w : World) : Calls Try.prog 67 #[u32v x, .int .i64 (n : Int)] w fun e w' => e = .returned (u32v (rotr x n)) ∧ w = w' := by
  have hx := u32_b x
  have hs := u64_31 n h2
  have h3 : (32 - n : Nat) ≤ 31 := by omega
  obtain ⟨m, hm⟩ : ∃ m : Nat, m = 32 - n := ⟨_, rfl⟩
  have hmi : (32 : Int) - (n : Int) = (m : Int) := by omega
  have m1 : 1 ≤ m := by omega
  have m2 : m ≤ 31 := by omega
  have HM := Lib.hid hm
  have hn0 : ¬ ((n : Int) = 0) := by omega
  clear hm h3
  go_enter Try.func67, Try.ntmps67
  go_wp2_with fail
  go_ret
  have hv : bits .or .u32 ((x.toNat : Int) / 2 ^ n) ((x.toNat : Int) * 2 ^ m % 4294967296) = ((rotr x n).toNat : Int) := by
    rw [w32_shl x m (by omega), w32_shr x n (by omega), w32_or, HM.out, UInt32.or_comm]
    rfl
  exact ⟨u32_ret hv, rfl⟩
theorem rright_q (x : UInt32) (n : Int) (h1 : 1 ≤ n) (h2 : n ≤ 31) (w : World) : Calls Try.prog 67 #[u32v x, .int .i64 n] w fun e w' => e = .returned (u32v (rotr x n.toNat)) ∧ w' = w := by
  obtain ⟨m, rfl⟩ := Int.eq_ofNat_of_zero_le (show 0 ≤ n by omega)
  exact (rright_c x m (by omega) (by omega) w).mono fun _ _ h => ⟨h.1, h.2.symm⟩
theorem rbig_c (A : Option Addr) (n c : Nat) (l : List UInt8) (w : World) (hn : (n : Int) ≤ 9223372036854775807) (r : Reads w A n (l.map u8v)) :
    Calls Try.prog 66 #[.slice A n c] w fun e w' => e = .returned (u32v (big l)) ∧ w = w' := by
  have hl : l.length = n := by simpa using r.len
  subst hl
  have R := Lib.hid r
  clear r
  go_enter Try.func66, Try.ntmps66
  go_wp2_with fail
  go_loopw [3, 4] (fun v i wr => ∃ k : Nat, k ≤ 4 ∧ v = u32v (bigTo l k) ∧ i = .int .i64 k ∧ w = wr) (fun _ i _ => 4 - (intOf i).toNat)
  case atStart => exact ⟨0, by omega, rfl, rfl, rfl⟩
  case round =>
    obtain ⟨k, hk, rfl, rfl, rfl⟩ := hrel
    have hs : bigTo l (k + 1) = bigTo l k <<< 8 ||| (l.getD k 0).toUInt32 := rfl
    generalize hx : bigTo l k = x at *
    have HX := Lib.hid hx
    have HS := Lib.hid hs
    have hxb := u32_b x
    clear hx hs
    by_cases hlt : k < 4
    · by_cases hlen : k < l.length
      · obtain ⟨g, o, hA, hg, hcell⟩ := byte_at R.out hlen
        have hc : l.getD k 0 = l[k] := by rw [List.getD_eq_getElem?_getD, List.getElem?_eq_getElem hlen]; rfl
        generalize l[k] = y at hcell hc
        have HC := Lib.hid hc
        clear hc
        subst hA
        go_wp2_with fail
        go_roundw
        case rel =>
          refine ⟨k + 1, by omega, ?_, by go_num, trivial⟩
          rw [HS.out, HC.out]
          exact u32v_eq (by rw [w32_shl8, show ((y.toNat : Int) % 4294967296) = (y.toNat : Int) from by have := y.toNat_lt; omega, or_u8])
        case measure => simp [intOf]; omega
      · go_wp2_with fail
        go_roundw
        case rel =>
          refine ⟨k + 1, by omega, ?_, by go_num, trivial⟩
          rw [HS.out, List.getD_eq_getElem?_getD, List.getElem?_eq_none (by omega), Option.getD_none, or_zero32]
          exact u32v_eq (w32_shl8 x)
        case measure => simp [intOf]; omega
    · obtain rfl : k = 4 := by omega
      go_wp2_with fail
      go_ret
      exact ⟨by rw [big, HX.out]; rfl, rfl⟩
theorem and255 (x : UInt32) : bits .and .u32 (x.toNat : Int) 255 % 256 = ((x.toUInt8).toNat : Int) := by
  have h := u32_and_nat x.toNat 255 x.toNat_lt (by omega)
  rw [show ((255 : Nat) : Int) = 255 from rfl] at h
  rw [h, show (255 : Nat) = 2 ^ 8 - 1 from rfl, Nat.and_two_pow_sub_one_eq_mod, UInt32.toNat_toUInt8]
  omega
theorem rbytes_c (x : UInt32) (w : World) : Calls Try.prog 45 #[u32v x] w fun e w' => e = .returned (.slice (some ⟨w.heap.size, 0, none⟩) 4 4) ∧ Blk w' w.heap.size 5 ((bytes4 x).map u8v).toArray ∧ Below w.heap.size w w' := by
  have hx := u32_b x
  go_enter Try.func45, Try.ntmps45
  go_wp2_with fail
  go_ret
  have v3 : (x.toNat : Int) / (16777216 : Int) = (((x >>> 24).toUInt8).toNat : Int) := by
    have h := w32_byte x 24 (by omega)
    rw [show ((2 : Int) ^ 24) = 16777216 from rfl] at h
    rw [show (x >>> 24) = x >>> UInt32.ofNat 24 from rfl, ← h]; omega
  have v2 : bits .and .u32 ((x.toNat : Int) / (65536 : Int)) 255 % (256 : Int) = (((x >>> 16).toUInt8).toNat : Int) := by
    have h := w32_shr x 16 (by omega)
    rw [show ((2 : Int) ^ 16) = 65536 from rfl] at h
    rw [h]; exact and255 _
  have v1 : bits .and .u32 ((x.toNat : Int) / (256 : Int)) 255 % (256 : Int) = (((x >>> 8).toUInt8).toNat : Int) := by
    have h := w32_shr x 8 (by omega)
    rw [show ((2 : Int) ^ 8) = 256 from rfl] at h
    rw [h]; exact and255 _
  have v0 := and255 x
  trace_state
  rw [v3, v2, v1, v0]
  exact ⟨rfl, Blk.new w _ _, (Below.refl _ _).alloc (Nat.le_refl _) _⟩
theorem rfirst_c (w : World) : Calls Try.prog 43 #[] w fun e w' => e = .returned (.agg St.first.vals) ∧ Below w.heap.size w w' := by
  go_enter Try.func43, Try.ntmps43
  go_wp2_with fail
  refine bodyPost_ret (results_cell_row rfl _ _ w.heap.size 62 _ (0, 0) _ rfl (Blk.new w _ _) Try.underlying62 rfl info_8) rfl ?_
  exact ⟨rfl, (Below.refl _ _).alloc (Nat.le_refl _) _⟩
end Go.Proofs.Ytgadnliogceecaa
