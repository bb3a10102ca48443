/- turn.Big, turn.Bytes; the first state. -/
import Derived.Test.YtgadnliogceecaaSha2
namespace Go.Proofs.Ytgadnliogceecaa
open Go.RowKit
set_option linter.unusedVariables false
set_option linter.unusedSimpArgs false

def bigTo (l : List UInt8) : Nat → UInt32
  | 0 => 0
  | k + 1 => bigTo l k <<< 8 ||| (l.getD k 0).toUInt32
def big (l : List UInt8) : UInt32 := bigTo l 4
theorem w32_shl8 (a : UInt32) : (a.toNat : Int) * (256 : Int) % (4294967296 : Int) = ((a <<< 8).toNat : Int) := w32_shl a 8 (by omega)
theorem u32v_eq {a : Int} {b : UInt32} (h : a = (b.toNat : Int)) : Value.int .u32 a = u32v b := by rw [h]
theorem or_u8 (x : UInt32) (c : UInt8) : bits .or .u32 (x.toNat : Int) (c.toNat : Int) = ((x ||| c.toUInt32).toNat : Int) := by
  have h : (c.toNat : Int) = (c.toUInt32.toNat : Int) := by rw [UInt8.toNat_toUInt32]
  rw [h, w32_or]
theorem or_zero32 (x : UInt32) : x ||| (0 : UInt8).toUInt32 = x := by
  have : (0 : UInt8).toUInt32 = 0 := by decide
  rw [this, UInt32.or_zero]

theorem big_c (A : Option Addr) (n c : Nat) (l : List UInt8) (w : World) (hn : (n : Int) ≤ 9223372036854775807) (r : Reads w A n (l.map u8v)) :
    Calls Try.prog 47 #[.slice A n c] w fun e w' => e = .returned (u32v (big l)) ∧ w = w' := by
  have hl : l.length = n := by simpa using r.len
  subst hl
  have R := Lib.hid r
  clear r
  go_enter Try.func47, Try.ntmps47
  go_wp2_with fail
  go_loopw [3, 5] (fun v i wr => ∃ k : Nat, k ≤ 4 ∧ v = u32v (bigTo l k) ∧ i = .int .i64 k ∧ w = wr) (fun _ i _ => 4 - (intOf i).toNat)
  case atStart => exact ⟨0, by omega, rfl, rfl, rfl⟩
  case round =>
    obtain ⟨k, hk, rfl, rfl, rfl⟩ := hrel
    have hs : bigTo l (k + 1) = bigTo l k <<< 8 ||| (l.getD k 0).toUInt32 := rfl
    generalize hx : bigTo l k = x at *
    have HX := Lib.hid hx
    have HS := Lib.hid hs
    have hxb := u32_b x
    clear hx hs
    by_cases hlt : k < 4
    · by_cases hlen : k < l.length
      · obtain ⟨g, o, hA, hg, hcell⟩ := byte_at R.out hlen
        have hc : l.getD k 0 = l[k] := by rw [List.getD_eq_getElem?_getD, List.getElem?_eq_getElem hlen]; rfl
        generalize l[k] = y at hcell hc
        have HC := Lib.hid hc
        clear hc
        subst hA
        go_wp2_with fail
        go_roundw
        case rel =>
          refine ⟨k + 1, by omega, ?_, by go_num, trivial⟩
          rw [HS.out, HC.out]
          exact u32v_eq (by rw [w32_shl8, show ((y.toNat : Int) % 4294967296) = (y.toNat : Int) from by have := y.toNat_lt; omega, or_u8])
        case measure => simp [intOf]; omega
      · go_wp2_with fail
        go_roundw
        case rel =>
          refine ⟨k + 1, by omega, ?_, by go_num, trivial⟩
          rw [HS.out, List.getD_eq_getElem?_getD, List.getElem?_eq_none (by omega), Option.getD_none, or_zero32]
          exact u32v_eq (w32_shl8 x)
        case measure => simp [intOf]; omega
    · obtain rfl : k = 4 := by omega
      go_wp2_with fail
      go_ret
      exact ⟨by rw [big, HX.out]; rfl, rfl⟩
def bytes4 (x : UInt32) : List UInt8 := [(x >>> 24).toUInt8, (x >>> 16).toUInt8, (x >>> 8).toUInt8, x.toUInt8]
theorem bytes4_len (x : UInt32) : (bytes4 x).length = 4 := rfl
theorem w32_byte (x : UInt32) (n : Nat) (h : n < 32) : ((x.toNat : Int) / (2 ^ n : Int)) % 256 = (((x >>> UInt32.ofNat n).toUInt8).toNat : Int) := by
  rw [w32_shr x n h, UInt32.toNat_toUInt8]; omega
theorem bytes_c (x : UInt32) (w : World) : Calls Try.prog 59 #[u32v x] w fun e w' => e = .returned (.slice (some ⟨w.heap.size, 0, none⟩) 4 4) ∧ Blk w' w.heap.size 5 ((bytes4 x).map u8v).toArray ∧ Below w.heap.size w w' := by
  have hx := u32_b x
  go_enter Try.func59, Try.ntmps59
  go_wp2_with fail
  go_ret
  have v3 : (x.toNat : Int) / (16777216 : Int) = (((x >>> 24).toUInt8).toNat : Int) := by
    have h := w32_byte x 24 (by omega)
    rw [show ((2 : Int) ^ 24) = 16777216 from rfl] at h
    rw [show (x >>> 24) = x >>> UInt32.ofNat 24 from rfl, ← h]; omega
  have v2 : (x.toNat : Int) / (65536 : Int) % (256 : Int) = (((x >>> 16).toUInt8).toNat : Int) := w32_byte x 16 (by omega)
  have v1 : (x.toNat : Int) / (256 : Int) % (256 : Int) = (((x >>> 8).toUInt8).toNat : Int) := w32_byte x 8 (by omega)
  have v0 : (x.toNat : Int) % (256 : Int) = ((x.toUInt8).toNat : Int) := by rw [UInt32.toNat_toUInt8]; omega
  rw [v3, v2, v1, v0]
  exact ⟨rfl, Blk.new w _ _, (Below.refl _ _).alloc (Nat.le_refl _) _⟩
theorem first_c (w : World) : Calls Try.prog 37 #[] w fun e w' => e = .returned (.agg St.first.vals) ∧ Below w.heap.size w w' := by
  go_enter Try.func37, Try.ntmps37
  go_wp2_with fail
  refine bodyPost_ret (results_cell_row rfl _ _ w.heap.size 62 _ (0, 0) _ rfl (Blk.new w _ _) Try.underlying62 rfl info_8) rfl ?_
  exact ⟨rfl, (Below.refl _ _).alloc (Nat.le_refl _) _⟩
end Go.Proofs.Ytgadnliogceecaa
