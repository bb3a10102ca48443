/- The reference's Show; what a shown text reads as (plain). -/
import Derived.Test.YthidjmdcpdhdlaaDoorSr9
namespace Go.Proofs.YthidjmdcpdhdlaaDoor
open Go Go.RowKit
set_option linter.unusedVariables false
set_option linter.unusedSimpArgs false
attribute [local go_sem ↓] sbS_seal sldS_seal sstS_seal
set_option maxRecDepth 100000 in
set_option maxHeartbeats 1000000 in
theorem rshow_c (A : Option Addr) (n c : Nat) (l : List Sp) (w : World) (hr : ReadsS w A n l) (hn : n ≤ 900) (hl : ∀ x ∈ l, x.bytes.length ≤ 10000 ∧ x.mask.length ≤ 10000) : Calls Tryd.prog 13 #[.slice A n c] w fun e w' => e = .returned (.string ⟨(showA l).toArray⟩) ∧ Below w.heap.size w w' := by
  have hlen := hr.1
  have HR := Lib.hid hr
  have HLL := Lib.hid hl
  have HLN := Lib.hid hlen
  clear hr hl hlen
  go_enter Tryd.func13, Tryd.ntmps13
  go_wp2_with fail
  go_loopw [3, 4] (fun z i wr => ∃ (k : Nat), z = .string ⟨(showA (l.take k)).toArray⟩ ∧ i = .int .i64 k ∧ k ≤ n ∧ Below w.heap.size w wr) (fun _ i wr => (match i with | .int _ x => (n : Int) - x | _ => 0).toNat)
  case atStart => exact ⟨0, by rw [List.take_zero]; rfl, rfl, Nat.zero_le _, Below.refl _ w⟩
  case round =>
    obtain ⟨k, rfl, rfl, hkn, hb⟩ := hrel
    have HB := Lib.hid hb
    clear hb
    by_cases hk : k < n
    · obtain ⟨bk, o, eA, hbk, hcs⟩ := (HR.out.below HB.out).2 (by omega)
      obtain ⟨x, hx⟩ : ∃ x, l[k]? = Option.some x := ⟨l[k]'(by rw [HLN.out]; exact hk), List.getElem?_eq_getElem _⟩
      obtain ⟨cs, hcl, hsc, hrg⟩ := hcs k x hx
      have htk : l.take (k + 1) = l.take k ++ [x] := by rw [List.take_add_one, hx]; rfl
      have hxl := HLL.out x (List.mem_of_getElem? hx)
      have hld := run_sldS hcl hrg
      have hln := rline_c x cs wr hsc hxl.1 hxl.2
      have hsl := showL_len x hxl.1 hxl.2
      have hsa := showA_len (l.take k) (fun y hy => HLL.out y (List.mem_of_mem_take hy))
      have htl : (l.take k).length ≤ 900 := by rw [List.length_take]; omega
      have h2 : (l.take k).length * 100000 ≤ 900 * 100000 := Nat.mul_le_mul_right _ htl
      obtain ⟨S, eS, qS⟩ := cat_ex (showA (l.take k)) (showL x) _ _ rfl rfl (by omega)
      rw [← showA_snoc, ← htk] at eS
      have HES := Lib.hid eS
      have HLN2 := Lib.hid hln
      clear htk hxl hx hcs hrg hsc hcl hsl hsa htl h2 eS hln
      go_wp2_with fail
      refine HLN2.out.mono ?_
      rintro e w1 ⟨rfl, hb1⟩
      have HB1 := Lib.hid (HB.out.trans (hb1.mono HB.out.size))
      clear hb1 HLN2 hld
      try rw [← eA]
      clear eA
      go_wp2_with fail
      go_roundw
      case rel => exact ⟨k + 1, by rw [HES.out], rfl, hk, HB1.out⟩
      case measure =>
        dsimp only
        omega
    · have hkn2 : k = n := by omega
      have hall : l.take k = l := List.take_of_length_le (by rw [HLN.out]; omega)
      rw [hall]
      go_wp2_with fail
      go_ret
      exact ⟨rfl, HB.out⟩
/-- A step that a line says, as the line says it. -/
def canon (x : Sp) : Option Sp :=
  if x.kind = 0 then (if okN x.tenant && okN x.rk && okN x.rn then Option.some ⟨0, x.tenant, 0, x.rk, x.rn, x.bytes, []⟩ else Option.none)
  else if x.kind = 1 then Option.some ⟨1, 0, 0, 0, 0, [], []⟩
  else if x.kind = 2 then (if okN x.n then Option.some ⟨2, 0, x.n, 0, 0, [], x.mask⟩ else Option.none)
  else if x.kind = 3 then (if okN x.n then Option.some ⟨3, 0, x.n, 0, 0, [], []⟩ else Option.none)
  else Option.none
end Go.Proofs.YthidjmdcpdhdlaaDoor
