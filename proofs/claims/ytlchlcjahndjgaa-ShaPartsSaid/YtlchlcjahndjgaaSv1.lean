/- A stream of bytes: Save. -/
import Derived.Test.YtlchlcjahndjgaaShaC
import Derived.Test.YtlchlcjahndjgaaCat3
import Derived.Deep.RegionHeld3
import Derived.Deep.DrawnRows
namespace Go.Proofs.Ytlchlcjahndjgaa
open Go Go.RowKit
set_option linter.unusedVariables false
set_option linter.unusedSimpArgs false
attribute [local go_sem ↓] Go.wp_at_zero Go.wp_at_succ
/-- All of a stream. -/
def saved (s : St) (n : UInt64) (rest : List UInt8) : List UInt8 := told s ++ long8 n ++ rest
theorem saved_len (s : St) (n : UInt64) (rest : List UInt8) : (saved s n rest).length = 40 + rest.length := by
  unfold saved
  have : (long8 n).length = 8 := rfl
  rw [List.length_append, List.length_append, told_len, this]
theorem strm_all {w : World} {sb : Nat} {t : TypeId} {s : St} {n : UInt64} {A : Option Addr} {rest : List UInt8} {c2 : Nat} (h : Blk w sb t (strm s n (.slice A rest.length c2))) : w.cell? ⟨sb, 0, none⟩ = some (u32v s.a) ∧ w.cell? ⟨sb, 1, none⟩ = some (u32v s.b) ∧ w.cell? ⟨sb, 2, none⟩ = some (u32v s.c) ∧ w.cell? ⟨sb, 3, none⟩ = some (u32v s.d) ∧ w.cell? ⟨sb, 4, none⟩ = some (u32v s.e) ∧ w.cell? ⟨sb, 5, none⟩ = some (u32v s.f) ∧ w.cell? ⟨sb, 6, none⟩ = some (u32v s.g) ∧ w.cell? ⟨sb, 7, none⟩ = some (u32v s.h) ∧ w.cell? ⟨sb, 8, none⟩ = some (u64v n) ∧ w.cell? ⟨sb, 9, none⟩ = some (.slice A rest.length c2) :=
  ⟨strm_c0 h, strm_c1 h, strm_c2 h, strm_c3 h, strm_c4 h, strm_c5 h, strm_c6 h, strm_c7 h, strm_c8 h, strm_c9 h⟩
set_option maxRecDepth 100000 in
set_option maxHeartbeats 4000000 in
theorem save_c (w : World) (sb : Nat) (s : St) (n : UInt64) (rest : List UInt8) (h : StreamAt w sb s n rest) (hr : rest.length ≤ 64) :
    Calls Try.prog 12 #[.pointer (some ⟨sb, 0, none⟩)] w (MadeBytes w (saved s n rest)) := by
  obtain ⟨A, c2, hB0, hR, hap⟩ := h.obj
  have hB : Blk w sb 86 (strm s n (.slice A rest.length c2)) := hB0
  have HBc := Lib.hid (hB.drew)
  have HRc := Lib.hid (hR.drew)
  have HLc := Lib.hid (show Below w.heap.size w w.drew from (Below.refl _ _).drew)
  have HSc := Lib.hid (strm_all hB.drew)
  have hslt : sb < w.drew.heap.size := hB.lt
  have hlen8 : (long8 n).length = 8 := rfl
  clear h hB hR hap hB0
  go_enter Try.func12, Try.ntmps12
  go_upto_region 3 with fail
  go_region_held3 (fun w' => w'.cell? ⟨sb, 0, none⟩ = some (u32v s.a) ∧ w'.cell? ⟨sb, 1, none⟩ = some (u32v s.b) ∧ w'.cell? ⟨sb, 2, none⟩ = some (u32v s.c) ∧ w'.cell? ⟨sb, 3, none⟩ = some (u32v s.d) ∧ w'.cell? ⟨sb, 4, none⟩ = some (u32v s.e) ∧ w'.cell? ⟨sb, 5, none⟩ = some (u32v s.f) ∧ w'.cell? ⟨sb, 6, none⟩ = some (u32v s.g) ∧ w'.cell? ⟨sb, 7, none⟩ = some (u32v s.h) ∧ w'.cell? ⟨sb, 8, none⟩ = some (u64v n) ∧ w'.cell? ⟨sb, 9, none⟩ = some (.slice A rest.length c2)) (first | exact HSc.out | exact HSa.out _) (first
    | (go_simp; go_at_call 60; refine (told_c s _).mono ?_; rintro e w5 ⟨A5, c5, rfl, hown5, hbl5⟩; (rw [told_len] at hown5 ⊢); have HT := Lib.hid (Reads.of_own hown5); have hslt := Nat.lt_of_lt_of_le hslt hbl5.size; have HLc := Lib.hid (HLc.out.trans (hbl5.mono HLc.out.size)); have HRc := Lib.hid (HRc.out.below hbl5); have HBc := Lib.hid (HBc.out.below hbl5 HBc.out.lt); have HSc := Lib.hid (strm_all HBc.out); clear hown5 hbl5)
    | (go_simp; go_at_call 61; refine (long_c n _).mono ?_; rintro e w6 ⟨A6, c6, rfl, hown6, hbl6⟩; (rw [hlen8] at hown6 ⊢); have HT := Lib.hid (HT.out.below hbl6); have HU := Lib.hid (Reads.of_own hown6); have hslt := Nat.lt_of_lt_of_le hslt hbl6.size; have HLc := Lib.hid (HLc.out.trans (hbl6.mono HLc.out.size)); have HRc := Lib.hid (HRc.out.below hbl6); have HBc := Lib.hid (HBc.out.below hbl6 HBc.out.lt); have HSc := Lib.hid (strm_all HBc.out); have HSa := Lib.hid (fun o => strm_all (HBc.out.alloc o)); clear hown6 hbl6)
    | (go_simp; go_at_call 56; refine (concat3_c _ 3 _ _ _ _ _ _ _ _ _ (told s) (long8 n) rest _ (by rw [(Blk.new _ _ _).cell]; rfl) (by rw [(Blk.new _ _ _).cell]; rfl) (by rw [(Blk.new _ _ _).cell]; rfl) (Blk.new _ _ _).lt (HT.out.alloc _) (HU.out.alloc _) (HRc.out.alloc _) (by omega) (by omega) (by omega)).mono ?_; rintro e w8 ⟨A8, c8, rfl, hown8, hbl8⟩; have HZ := Lib.hid hown8; have HLz := Lib.hid ((HLc.out.alloc HLc.out.size _).trans (hbl8.mono (by have := HLc.out.size; simp; omega))); have HSc := Lib.hid (strm_all ((HBc.out.alloc _).below hbl8 (HBc.out.alloc _).lt)); clear hown8 hbl8))
  go_wp2_with fail
  go_ret
  have e : (saved s n rest).length = (told s).length + (8 + rest.length) := by rw [saved_len, told_len]; omega
  refine ⟨A8, c8, by rw [e]; rfl, own_base HZ.out (by have := HLc.out.size; simp; omega), HLz.out⟩
end Go.Proofs.Ytlchlcjahndjgaa
