/- The reference's eight. -/
import Derived.Test.YtgadnliogceecaaRs4
namespace Go.Proofs.Ytgadnliogceecaa
open Go Go.RowKit
set_option linter.unusedVariables false
set_option linter.unusedSimpArgs false
theorem u64_mask32n (n : UInt64) : bits .and .u64 (n.toNat : Int) 4294967295 % 4294967296 = ((n.toUInt32).toNat : Int) := by
  have hn := n.toNat_lt
  rw [u64_and _ 4294967295 (by omega) (by omega) (by omega) (by omega), show ((4294967295 : Int).toNat) = 2 ^ 32 - 1 from rfl, Int.toNat_natCast, Nat.and_two_pow_sub_one_eq_mod, UInt64.toNat_toUInt32]
  omega
theorem reight_c (n : UInt64) (w : World) : Calls Try.prog 46 #[u64v n] w (MadeBytes w (long8 n)) := by
  obtain ⟨i0, hi, hz0, hz1, hz2⟩ := info_parts info_u8
  have HI := Lib.hid hi
  have HZ0 := Lib.hid hz0
  have HZ1 := Lib.hid hz1
  have HZ2 := Lib.hid hz2
  clear hi hz0 hz1 hz2
  have hn : (n.toNat : Int) < 18446744073709551616 := by have := n.toNat_lt; omega
  have v1 : (n.toNat : Int) / (4294967296 : Int) = (((n >>> 32).toUInt32).toNat : Int) := by
    rw [UInt64.toNat_toUInt32, UInt64.toNat_shiftRight, show ((32 : UInt64).toNat % 64) = 32 from rfl, Nat.shiftRight_eq_div_pow]
    omega
  have v2 := u64_mask32n n
  have V1 := Lib.hid v1
  have V2 := Lib.hid v2
  clear v1 v2
  go_enter Try.func46, Try.ntmps46
  go_wp2_with fail
  rw [V1.out]
  refine (rbytes_c _ w).mono ?_
  rintro e w1 ⟨rfl, hB1, hb1⟩
  go_wp2_with fail
  rw [V2.out]
  refine (rbytes_c _ w1).mono ?_
  rintro e w2 ⟨rfl, hB2, hb2⟩
  have s1 := hb1.size
  have hB1' := hB1.below hb2 hB1.lt
  have hown := hB1'.own (base := w.heap.size) (Nat.le_refl _) (by simp [bytes4]; unfold maxLen; omega)
  have hown2 : w2.ownsRow w.heap.size 5 1 (.slice (some ⟨w.heap.size, 0, none⟩) 4 4) 4 ((bytes4 (n >>> 32).toUInt32).map u8v) := hown
  have HO := Lib.hid hown2
  have HR := Lib.hid (hB2.bytes (n := 4) rfl)
  have hbs := Lib.hid (hb1.trans (hb2.mono s1))
  have hsz := hbs.out.size
  clear hown hown2 hB1 hB2 hB1' hb1 hb2
  go_wp2_with (at_builtin; refine wpList_append_any _ rfl (.tmp 6) (.tmp 10) _ rfl w.heap.size 5 i0 (.int .u8 0) 1 Try.underlying22 HI.out HZ0.out HZ1.out HZ2.out rfl _ 4 ((bytes4 (n >>> 32).toUInt32).map u8v) rfl HO.out (some ⟨w1.heap.size, 0, none⟩) 4 4 ((bytes4 n.toUInt32).map u8v) rfl HR.out (u8v_one _) (by unfold maxLen; omega) (by omega) hsz ?_; intro A3 c3 w3 hown3 hgrow3 hat3; have HO3 := Lib.hid hown3; have HG3 := Lib.hid hgrow3; clear hown3 hgrow3 hat3)
  go_ret
  refine ⟨A3, c3, rfl, ?_, hbs.out.grown HG3.out hsz (fun g hg => (HO.out.lt g hg).1)⟩
  have h := HO3.out
  simp only [← List.map_append] at h
  exact h
end Go.Proofs.Ytgadnliogceecaa
