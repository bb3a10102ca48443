/- script.shown: bytes as a word. -/
import Derived.Test.YthidjmdcpdhdlaaDoorScS
namespace Go.Proofs.YthidjmdcpdhdlaaDoor
open Go Go.RowKit
set_option linter.unusedVariables false
set_option linter.unusedSimpArgs false
theorem hexOf_snoc (x : UInt8) : ∀ l : List UInt8, hexOf (l ++ [x]) = hexOf l ++ [dig (x.toNat / 16), dig (x.toNat % 16)]
  | [] => rfl
  | b :: l => by
    show dig (b.toNat / 16) :: dig (b.toNat % 16) :: hexOf (l ++ [x]) = _
    rw [hexOf_snoc x l]; rfl
theorem hexT_at : ∀ k : Fin 16, (⟨#[48, 49, 50, 51, 52, 53, 54, 55, 56, 57, 97, 98, 99, 100, 101, 102]⟩ : ByteArray)[k.val]'k.isLt = dig k.val := by decide
theorem hexT (i : Nat) (h : i < (⟨#[48, 49, 50, 51, 52, 53, 54, 55, 56, 57, 97, 98, 99, 100, 101, 102]⟩ : ByteArray).size) : (⟨#[48, 49, 50, 51, 52, 53, 54, 55, 56, 57, 97, 98, 99, 100, 101, 102]⟩ : ByteArray)[i]'h = dig i := hexT_at ⟨i, h⟩
theorem and15 : ∀ x : Fin 256, bits BinOp.and IntKind.u8 (x.val : Int) 15 = ((x.val % 16 : Nat) : Int) := of_decide_eq_true (by kernel_rfl)
set_option maxRecDepth 100000 in
set_option maxHeartbeats 2000000 in
theorem sshown_c (A : Option Addr) (n c : Nat) (bs : List UInt8) (w : World) (hr : Reads w A n (bs.map u8v)) (hn : n ≤ 10000) : Calls Tryd.prog 33 #[.slice A n c] w fun e w' => e = .returned (.string ⟨(hexS bs).toArray⟩) ∧ Below w.heap.size w w' := by
  have hbl : bs.length = n := by have := hr.len; rwa [List.length_map] at this
  by_cases h0 : n = 0
  · have hb : bs = [] := List.eq_nil_of_length_eq_zero (by omega)
    subst hb h0
    clear hr hbl
    go_enter Tryd.func33, Tryd.ntmps33
    go_wp2_with fail
    go_ret
    exact ⟨rfl, Below.refl _ _⟩
  have hne : bs ≠ [] := fun e => h0 (by rw [← hbl, e]; rfl)
  have hv : hexS bs = hexOf bs := by unfold hexS; rw [if_neg hne]
  rw [hv]
  obtain ⟨bk, o, rfl, hbk, hcs⟩ := hr.2 (by omega)
  have HR := Lib.hid hr
  have HCS := Lib.hid hcs
  have HBK := Lib.hid hbk
  have HBL := Lib.hid hbl
  clear hr hbl hne hv hcs hbk
  have hn0 : ((n : Int) == 0) = false := by rw [beq_eq_false_iff_ne]; omega
  have hn1 : ¬ (n : Int) = 0 := by omega
  go_enter Tryd.func33, Tryd.ntmps33
  go_wp2_with fail
  go_loopw [11] (fun i wr => ∃ (k : Nat), i = .int .i64 k ∧ k ≤ n ∧ BldAt wr w.heap.size w.heap.size (hexOf (bs.take k)) ∧ Below w.heap.size w wr) (fun i wr => (match i with | .int _ x => (n : Int) - x | _ => 0).toNat)
  case atStart =>
    refine ⟨0, rfl, Nat.zero_le _, ?_, (Below.refl _ w).alloc (Nat.le_refl _) _⟩
    rw [List.take_zero]; exact bld_new w
  case round =>
    obtain ⟨k, rfl, hkn, hbd, hb⟩ := hrel
    have HBD := Lib.hid hbd
    have HB := Lib.hid hb
    clear hbd hb
    by_cases hk : k < n
    · obtain ⟨x, hx⟩ : ∃ x, bs[k]? = Option.some x := ⟨bs[k]'(by rw [HBL.out]; exact hk), List.getElem?_eq_getElem _⟩
      have hcell2 : wr.cell? ⟨bk, o + k, none⟩ = some (.int .u8 (x.toNat : Int)) := by
        refine Eq.trans (?_ : _ = w.cell? ⟨bk, o + k, none⟩) (HCS.out k _ (by rw [List.getElem?_map, hx]; rfl))
        simp only [World.cell?, HB.out.block bk HBK.out]
      have htk : bs.take (k + 1) = bs.take k ++ [x] := by rw [List.take_add_one, hx]; rfl
      have HTK := Lib.hid htk
      have hx256 : x.toNat < 256 := x.toNat_lt
      clear hx htk
      have hsz := HB.out.size
      have hlen : (hexOf (bs.take k)).length ≤ 20000 := by rw [hexOf_len, List.length_take]; omega
      have hand := and15 ⟨x.toNat, hx256⟩
      dsimp only at hand
      have h16 : x.toNat % 16 < 16 := by omega
      go_wp2_with fail
      rw [hexT]
      refine (bwbyte_c _ _ (hexOf (bs.take k)) (dig (x.toNat / 16)) _ HBD.out (by omega) hsz).mono ?_
      rintro e w1 ⟨rfl, hbd1, hb1⟩
      have HBD1 := Lib.hid hbd1
      have HB1 := Lib.hid (HB.out.trans hb1)
      have hsz1 := HB1.out.size
      clear hbd1 hb1
      go_wp2_with fail
      rw [hexT]
      refine (bwbyte_c _ _ (hexOf (bs.take k) ++ [dig (x.toNat / 16)]) (dig (x.toNat % 16)) _ HBD1.out (by simp; omega) hsz1).mono ?_
      rintro e w2 ⟨rfl, hbd2, hb2⟩
      rw [List.append_assoc] at hbd2
      have HBD2 := Lib.hid hbd2
      have HB2 := Lib.hid (HB1.out.trans hb2)
      clear hbd2 hb2
      go_wp2_with fail
      go_roundw
      case rel =>
        exact ⟨k + 1, rfl, hk, by rw [HTK.out, hexOf_snoc]; exact HBD2.out, HB2.out⟩
      case measure =>
        dsimp only
        omega
    · have hkn2 : k = n := by omega
      have hall : bs.take k = bs := List.take_of_length_le (by rw [HBL.out]; omega)
      rw [hall] at HBD
      have hsz := HB.out.size
      clear hall
      go_wp2_with fail
      refine (bstr_c _ _ (hexOf bs) _ HBD.out hsz).mono ?_
      rintro e w2 ⟨rfl, hb2⟩
      have HB2 := Lib.hid (HB.out.trans hb2)
      clear hb2
      go_wp2_with fail
      go_ret
      exact ⟨rfl, HB2.out⟩
end Go.Proofs.YthidjmdcpdhdlaaDoor
