/- sha.long, sha.told: numbers and states as bytes. -/
import Derived.Test.YtgadnliogceecaaSha6
import Derived.Test.YtgadnliogceecaaCat2
namespace Go.Proofs.Ytgadnliogceecaa
open Go.RowKit
set_option linter.unusedVariables false
set_option linter.unusedSimpArgs false

/-- A number in eight bytes, the highest first. -/
def long8 (n : UInt64) : List UInt8 := bytes4 (n >>> 32).toUInt32 ++ bytes4 n.toUInt32
abbrev u64v (c : UInt64) : Value := .int .u64 (c.toNat : Int)
theorem Reads.of_blk {w : World} {g : Nat} {t : TypeId} {l : List UInt8} (hB : Blk w g t (l.map u8v).toArray) : Reads w (some ⟨g, 0, none⟩) l.length (l.map u8v) := by
  have := hB.row
  rw [List.length_map] at this
  exact this
theorem long_c (n : UInt64) (w : World) : Calls Try.prog 41 #[u64v n] w (MadeBytes w (long8 n)) := by
  have hn : (n.toNat : Int) < 18446744073709551616 := by have := n.toNat_lt; omega
  have v1 : (n.toNat : Int) / (4294967296 : Int) = (((n >>> 32).toUInt32).toNat : Int) := by
    rw [UInt64.toNat_toUInt32, UInt64.toNat_shiftRight, show ((32 : UInt64).toNat % 64) = 32 from rfl, Nat.shiftRight_eq_div_pow]
    omega
  have v2 : (n.toNat : Int) % (4294967296 : Int) = ((n.toUInt32).toNat : Int) := by rw [UInt64.toNat_toUInt32]; omega
  have V1 := Lib.hid v1
  have V2 := Lib.hid v2
  clear v1 v2
  go_enter Try.func41, Try.ntmps41
  go_wp2_with fail
  rw [V1.out]
  refine (bytes_c _ w).mono ?_
  rintro e w1 ⟨rfl, hB1, hb1⟩
  go_wp2_with fail
  rw [V2.out]
  refine (bytes_c _ w1).mono ?_
  rintro e w2 ⟨rfl, hB2, hb2⟩
  have r1 := Reads.of_blk (hB1.below hb2 hB1.lt)
  have r2 := Reads.of_blk hB2
  have H1 := Lib.hid r1
  have H2 := Lib.hid r2
  have HB1 := Lib.hid hb1
  have HB2 := Lib.hid hb2
  clear r1 r2 hB1 hB2 hb1 hb2
  go_wp2_with fail
  have hB3 := Blk.new w2 22 #[.slice (some ⟨w.heap.size, 0, none⟩) 4 4, .slice (some ⟨w1.heap.size, 0, none⟩) 4 4]
  refine (concat_c w2.heap.size 2 _ _ 4 4 4 4 (bytes4 (n >>> 32).toUInt32) (bytes4 n.toUInt32) _ (by rw [hB3.cell]; rfl) (by rw [hB3.cell]; rfl) hB3.lt (H1.out.alloc _) (H2.out.alloc _) (by omega) (by omega)).mono ?_
  rintro e w3 ⟨A, c, rfl, hown, hb⟩
  have HO := Lib.hid hown
  have HB := Lib.hid hb
  clear hown hb hB3
  go_wp2_with fail
  go_ret
  have s1 := HB1.out.size
  have s2 := HB2.out.size
  have hb3 : Below w.heap.size w w3 := (HB1.out.trans ((HB2.out.mono s1).alloc (by omega) _)).trans (HB.out.mono (by simp; omega))
  exact ⟨A, c, rfl, own_base HO.out (by simp; omega), hb3⟩
end Go.Proofs.Ytgadnliogceecaa
