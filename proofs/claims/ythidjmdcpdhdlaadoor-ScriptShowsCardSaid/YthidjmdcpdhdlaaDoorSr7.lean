/- The reference's hex. -/
import Derived.Test.YthidjmdcpdhdlaaDoorL26r
namespace Go.Proofs.YthidjmdcpdhdlaaDoor
open Go Go.RowKit
set_option linter.unusedVariables false
set_option linter.unusedSimpArgs false
theorem hexX_at : ∀ k : Fin 16, (⟨#[48, 49, 50, 51, 52, 53, 54, 55, 56, 57, 97, 98, 99, 100, 101, 102]⟩ : ByteArray).extract k.val (k.val + 1) = ⟨#[dig k.val]⟩ := by decide
theorem arr_add (l : List UInt8) (b : ByteArray) : (⟨l.toArray⟩ : ByteArray) ++ b = ⟨(l ++ b.data.toList).toArray⟩ := by
  apply ByteArray.ext
  try simp [ByteArray.data_append]
theorem drewN_two (w : World) (a b : Nat) : (w.drewN a).drewN b = w.drewN (a + b) := by
  simp [World.drewN, Nat.add_assoc]
set_option maxRecDepth 100000 in
set_option maxHeartbeats 2000000 in
theorem rhex_c (A : Option Addr) (n c : Nat) (bs : List UInt8) (w : World) (hr : Reads w A n (bs.map u8v)) (hn : n ≤ 10000) : Calls Tryd.prog 19 #[.slice A n c] w fun e w' => e = .returned (.string ⟨(hexS bs).toArray⟩) ∧ ∃ k, w' = w.drewN k := by
  have hbl : bs.length = n := by have := hr.len; rwa [List.length_map] at this
  by_cases h0 : n = 0
  · have hb : bs = [] := List.eq_nil_of_length_eq_zero (by omega)
    subst hb h0
    clear hr hbl
    go_enter Tryd.func19, Tryd.ntmps19
    go_wp2_with fail
    go_ret
    exact ⟨rfl, 0, rfl⟩
  have hne : bs ≠ [] := fun e => h0 (by rw [← hbl, e]; rfl)
  have hv : hexS bs = hexOf bs := by unfold hexS; rw [if_neg hne]
  rw [hv]
  obtain ⟨bk, o, rfl, hbk, hcs⟩ := hr.2 (by omega)
  have HCS := Lib.hid hcs
  have HBL := Lib.hid hbl
  clear hr hbl hne hv hcs hbk
  have hn0 : ((n : Int) == 0) = false := by rw [beq_eq_false_iff_ne]; omega
  have hn1 : ¬ (n : Int) = 0 := by omega
  go_enter Tryd.func19, Tryd.ntmps19
  go_wp2_with fail
  go_loopw [4, 5] (fun z i wr => ∃ (k : Nat), z = .string ⟨(hexOf (bs.take k)).toArray⟩ ∧ i = .int .i64 k ∧ k ≤ n ∧ ∃ q, wr = w.drewN q) (fun _ i wr => (match i with | .int _ x => (n : Int) - x | _ => 0).toNat)
  case atStart =>
    exact ⟨0, by rw [List.take_zero]; rfl, rfl, Nat.zero_le _, 0, rfl⟩
  case round =>
    obtain ⟨k, rfl, rfl, hkn, q, rfl⟩ := hrel
    by_cases hk : k < n
    · obtain ⟨x, hx⟩ : ∃ x, bs[k]? = Option.some x := ⟨bs[k]'(by rw [HBL.out]; exact hk), List.getElem?_eq_getElem _⟩
      have hcell : ∀ p, (w.drewN p).cell? ⟨bk, o + k, none⟩ = some (.int .u8 (x.toNat : Int)) := fun p => HCS.out k _ (by rw [List.getElem?_map, hx]; rfl)
      have htk : bs.take (k + 1) = bs.take k ++ [x] := by rw [List.take_add_one, hx]; rfl
      have HTK := Lib.hid htk
      have hx256 : x.toNat < 256 := x.toNat_lt
      have hlen : (hexOf (bs.take k)).length ≤ 20000 := by rw [hexOf_len, List.length_take]; omega
      have e1 := hexX_at ⟨x.toNat / 16, by omega⟩
      have e2 := hexX_at ⟨x.toNat % 16, by omega⟩
      dsimp only at e1 e2
      have hand := and15 ⟨x.toNat, hx256⟩
      dsimp only at hand
      have hw1 : IntKind.u8.wrap ((x.toNat : Int) / 16 + 1) = (x.toNat : Int) / 16 + 1 := IntWalk.u8_in _ (by omega)
      have hw2 : IntKind.u8.wrap ((x.toNat : Int) % 16 + 1) = (x.toNat : Int) % 16 + 1 := IntWalk.u8_in _ (by omega)
      have z1 : (⟨(hexOf (bs.take k)).toArray⟩ : ByteArray).size = (hexOf (bs.take k)).length := List.size_toArray
      have s1 : (⟨(hexOf (bs.take k)).toArray⟩ : ByteArray).size + ((⟨#[48, 49, 50, 51, 52, 53, 54, 55, 56, 57, 97, 98, 99, 100, 101, 102]⟩ : ByteArray).extract (x.toNat / 16) (x.toNat / 16 + 1)).size ≤ 9223372036854775807 := by rw [e1, z1]; show _ + 1 ≤ _; omega
      have a1 := fun W => run_string_add_sum (P := Tryd.prog) W _ _ s1
      have s2 : ((⟨(hexOf (bs.take k)).toArray⟩ : ByteArray) ++ ((⟨#[48, 49, 50, 51, 52, 53, 54, 55, 56, 57, 97, 98, 99, 100, 101, 102]⟩ : ByteArray).extract (x.toNat / 16) (x.toNat / 16 + 1))).size + ((⟨#[48, 49, 50, 51, 52, 53, 54, 55, 56, 57, 97, 98, 99, 100, 101, 102]⟩ : ByteArray).extract (x.toNat % 16) (x.toNat % 16 + 1)).size ≤ 9223372036854775807 := by rw [ByteArray.size_append, e1, e2, z1]; show _ + 1 + 1 ≤ _; omega
      have a2 := fun W => run_string_add_sum (P := Tryd.prog) W _ _ s2
      have HE1 := Lib.hid e1
      have HE2 := Lib.hid e2
      clear hx htk e1 e2 z1 s1 s2
      go_upto_region 8 with fail
      go_quiet (fail)
      have hfin : Value.string ((⟨(hexOf (bs.take k)).toArray⟩ : ByteArray) ++ ((⟨#[48, 49, 50, 51, 52, 53, 54, 55, 56, 57, 97, 98, 99, 100, 101, 102]⟩ : ByteArray).extract (x.toNat / 16) (x.toNat / 16 + 1)) ++ ((⟨#[48, 49, 50, 51, 52, 53, 54, 55, 56, 57, 97, 98, 99, 100, 101, 102]⟩ : ByteArray).extract (x.toNat % 16) (x.toNat % 16 + 1))) = .string ⟨(hexOf (bs.take (k + 1))).toArray⟩ := by
        rw [HE1.out, HE2.out, arr_add, arr_add, HTK.out, hexOf_snoc, List.append_assoc]
        rfl
      have HF := Lib.hid hfin
      clear hfin a1 a2
      go_wp2_with fail
      go_roundw
      case rel => exact ⟨k + 1, HF.out, rfl, hk, q + nq, rfl⟩
      case measure =>
        dsimp only
        omega
    · have hkn2 : k = n := by omega
      have hall : bs.take k = bs := List.take_of_length_le (by rw [HBL.out]; omega)
      rw [hall]
      go_wp2_with fail
      go_ret
      exact ⟨rfl, q, rfl⟩
end Go.Proofs.YthidjmdcpdhdlaaDoor
