/- manifest.Body. -/
import Derived.Test.YtocbahahienigaaDoorMn3
import Derived.Test.YtocbahahienigaaDoorFldW
import Derived.Laws.IdiomStrings
import Derived.Lib.SlBytesConst
namespace Go.Proofs.YtocbahahienigaaDoor
open Go Go.RowKit
set_option linter.unusedVariables false
set_option linter.unusedSimpArgs false
attribute [local go_sem ↓] sbN_seal sldN_seal sstN_seal
def uN (n : Int) : Nat := (IntKind.u64.wrap n).toNat
theorem uN_eq (n : Int) : IntKind.u64.wrap n = ((uN n : Nat) : Int) := by
  have h : 0 ≤ IntKind.u64.wrap n := by
    unfold IntKind.wrap
    simp [IntKind.signed, IntKind.bits]
    omega
  unfold uN
  omega
/-- A manifest as bytes, without its tag. -/
def bodyB (nm : ByteArray) (i : Img) : List UInt8 := ((((([] ++ padTo [87, 76, 77, 49] 4) ++ padTo nm.data.toList 16) ++ be (uN i.v) 4) ++ be (uN i.s) 4) ++ padTo i.d 32)
theorem bodyB_len (nm : ByteArray) (i : Img) : (bodyB nm i).length = 60 := by
  unfold bodyB
  simp only [List.length_append, padTo_len, be_len]
  rfl
theorem str_bytes (w : World) (s : ByteArray) : ∃ W c, (convert 9 22 (.string s)).run Tryd.prog w = .ok (.slice (some ⟨w.heap.size, 0, none⟩) s.size c) W ∧ Reads W (some ⟨w.heap.size, 0, none⟩) s.size (s.data.toList.map u8v) ∧ Below w.heap.size w W := by
  refine ⟨_, _, run_bytes_of_string w 9 22 5 s Tryd.underlying9 Tryd.underlying22 Tryd.underlying5, ?_, (Below.refl w.heap.size w).drew.alloc (Nat.le_refl _) _⟩
  refine ⟨by rw [List.length_map, Array.length_toList]; rfl, fun _ => ⟨w.heap.size, 0, rfl, ?_, fun j u hu => ?_⟩⟩
  · show w.heap.size < (w.heap.push _).size
    simp
  · have hj : j < s.data.size := by
      rcases Nat.lt_or_ge j s.data.size with h | h
      · exact h
      · rw [List.getElem?_eq_none (by rw [List.length_map, Array.length_toList]; exact h)] at hu; cases hu
    rw [cell_of_row _ w.heap.size (0 + j) (bytesRow s (grownCap w s.size 0 5)) 5 ((bytesRow s (grownCap w s.size 0 5)).size, (bytesRow s (grownCap w s.size 0 5)).size + 1) (by show (w.heap.push _)[w.heap.size]? = _; simp), Nat.zero_add, bytesRow_at s _ j hj]
    rw [List.getElem?_map, Array.getElem?_toList, Array.getElem?_eq_getElem hj] at hu
    exact hu
set_option maxRecDepth 100000 in
set_option maxHeartbeats 4000000 in
theorem body_c (w : World) (nm : ByteArray) (i : Img) (hi : i.d.length = 32) (hn : nm.size ≤ 100000) :
    Calls Tryd.prog 10 #[.agg (manC nm i).toArray] w fun e w' => ∃ A c, e = .returned (.slice A 60 c) ∧ w'.ownsRow w.heap.size 5 1 (.slice A 60 c) 60 ((bodyB nm i).map u8v) ∧ Below w.heap.size w w' := by
  have kc := fun (w : World) (C : Array Value) (n c : Nat) => Lib.run_convert_bytes_const (P := Tryd.prog) w 22 5 C n c Tryd.underlying22 Tryd.underlying5
  have hB0 := Blk.new w 27 (manC nm i).toArray
  have hb0 : Below w.heap.size w (w.alloc (.cells (manC nm i).toArray 27)) := (Below.refl _ _).alloc (Nat.le_refl _) _
  have hs0 : (w.alloc (.cells (manC nm i).toArray 27)).heap.size = w.heap.size + 1 := by simp
  obtain ⟨MC, hMC⟩ : ∃ MC, (manC nm i).toArray = MC := ⟨_, rfl⟩
  rw [hMC] at hB0 hb0 hs0 ⊢
  have hB1 := hB0.alloc (.cells #[.slice none 0 0] 56)
  have hW1 := Blk.new (w.alloc (.cells MC 27)) 56 #[.slice none 0 0]
  have hb1 := hb0.alloc (by rw [hs0]; omega) (.cells #[.slice none 0 0] 56)
  have hs1 : ((w.alloc (.cells MC 27)).alloc (.cells #[.slice none 0 0] 56)).heap.size = w.heap.size + 2 := by simp
  rw [hs0] at hW1
  have HMC := Lib.hid hMC
  clear hMC hB0 hb0 hs0
  go_enter Tryd.func10, Tryd.ntmps10
  go_upto_region 2 with fail
  generalize (w.alloc (.cells MC 27)).alloc (.cells #[.slice none 0 0] 56) = W1 at hB1 hW1 hb1 hs1 ⊢
  obtain ⟨pb, hpb⟩ : ∃ pb, w.heap.size + 1 = pb := ⟨_, rfl⟩
  rw [hpb] at hW1 ⊢
  have hwr : WrAt pb W1 pb [] := ⟨none, 0, hW1, World.ownsRow_nil _ _ _ _⟩
  have HPB := Lib.hid hpb
  have HB := Lib.hid hB1
  have HW := Lib.hid hwr
  have HL := Lib.hid hb1
  have HI := Lib.hid hi
  have HN := Lib.hid hn
  have HS := Lib.hid hs1
  clear hpb hB1 hW1 hwr hb1 hi hs1 hn
  go_wp2_with fail
  have hb2 : Below W1.heap.size W1 (W1.alloc (.cells #[.int .u8 87, .int .u8 76, .int .u8 77, .int .u8 49] 5 (4, 5))) := (Below.refl _ _).alloc (Nat.le_refl _) _
  refine (wraw_c pb _ pb [] (some ⟨W1.heap.size, 0, none⟩) 4 4 [87, 76, 77, 49] 4 (rowReads W1 [87, 76, 77, 49] 5 (4, 5)) (by omega) (by omega) (by omega) (Nat.le_refl _) (Nat.zero_le _) (HW.out.below hb2)).mono ?_
  rintro e w2 ⟨rfl, hw2, hb3⟩
  have HW := Lib.hid hw2
  have hB2 := (HB.out.below hb2 HB.out.lt).below hb3 (by have := HPB.out; omega)
  have HL := Lib.hid ((HL.out.trans (hb2.mono HL.out.size)).trans (hb3.mono (by have := HPB.out; omega)))
  have hnm : w2.cell? ⟨w.heap.size, 0, none⟩ = some (.string nm) := by rw [hB2.cell, ← HMC.out]; rfl
  have HB := Lib.hid hB2
  obtain ⟨W3, c3, hcv, hrd, hb4⟩ := str_bytes w2 nm
  have HRD := Lib.hid hrd
  have HB4 := Lib.hid hb4
  clear hw2 hb2 hb3 kc hB2 hrd hb4
  go_wp2_with fail
  refine (wraw_c pb W3 pb _ (some ⟨w2.heap.size, 0, none⟩) nm.size c3 nm.data.toList 16 HRD.out HN.out (by omega) (by omega) (Nat.le_refl _) (by simp [padTo_len]) (HW.out.below HB4.out)).mono ?_
  rintro e w4 ⟨rfl, hw4, hb5⟩
  have HW := Lib.hid hw4
  have hB4 := (HB.out.below HB4.out HB.out.lt).below hb5 (by have := HPB.out; omega)
  have HL := Lib.hid ((HL.out.trans (HB4.out.mono HL.out.size)).trans (hb5.mono (by have := HPB.out; omega)))
  have hv : w4.cell? ⟨w.heap.size, 1, none⟩ = some (.int .i64 i.v) := by rw [hB4.cell, ← HMC.out]; rfl
  have HB := Lib.hid hB4
  clear hw4 hb5 hB4 hcv hnm
  go_wp2_with fail
  refine (wnum_c pb w4 pb _ i.v (uN i.v) 4 (uN_eq _) (by omega) (by omega) (Nat.le_refl _) (by simp [padTo_len]) HW.out).mono ?_
  rintro e w5 ⟨rfl, hw5, hb6⟩
  have HW := Lib.hid hw5
  have hB5 := HB.out.below hb6 (by have := HPB.out; omega)
  have HL := Lib.hid (HL.out.trans (hb6.mono (by have := HPB.out; omega)))
  have hv2 : w5.cell? ⟨w.heap.size, 2, none⟩ = some (.int .i64 i.s) := by rw [hB5.cell, ← HMC.out]; rfl
  have HB := Lib.hid hB5
  clear hw5 hb6 hB5 hv
  go_wp2_with fail
  refine (wnum_c pb w5 pb _ i.s (uN i.s) 4 (uN_eq _) (by omega) (by omega) (Nat.le_refl _) (by simp [padTo_len, be_len]) HW.out).mono ?_
  rintro e w6 ⟨rfl, hw6, hb7⟩
  have HW := Lib.hid hw6
  have hB6 := HB.out.below hb7 (by have := HPB.out; omega)
  have HL := Lib.hid (HL.out.trans (hb7.mono (by have := HPB.out; omega)))
  have hrd6 : Reads w6 (some ⟨w.heap.size, 3, none⟩) 32 (i.d.map u8v) := by
    have q := hB6
    rw [← HMC.out] at q
    have r := q.range 3 32 (by rw [manC_len HI.out]; omega)
    rw [show ((manC nm i).drop 3).take 32 = i.d.map u8v by (show (i.d.map u8v).take 32 = _; rw [List.take_of_length_le (by rw [List.length_map, HI.out]; omega)])] at r
    exact ⟨by rw [List.length_map, HI.out], fun _ => ⟨w.heap.size, 3, rfl, q.lt, r⟩⟩
  have HB := Lib.hid hB6
  have HRD := Lib.hid hrd6
  clear hw6 hb7 hB6 hrd6 hv2
  go_wp2_with fail
  refine (wraw_c pb w6 pb _ (some ⟨w.heap.size, 3, none⟩) 32 32 i.d 32 HRD.out (by omega) (by omega) (by omega) (Nat.le_refl _) (by simp [padTo_len, be_len]) HW.out).mono ?_
  rintro e w7 ⟨rfl, hw7, hb8⟩
  have HW := Lib.hid (show WrAt pb w7 pb (bodyB nm i) from hw7)
  have HL := Lib.hid (HL.out.trans (hb8.mono (by have := HPB.out; omega)))
  clear hw7 hb8
  go_wp2_with fail
  refine (wbytes_c pb w7 pb (bodyB nm i) (by rw [bodyB_len]; omega) HW.out).mono ?_
  rintro e w8 ⟨A, c, rfl, ho, hb9⟩
  rw [bodyB_len] at ho ⊢
  have HO := Lib.hid ho
  have HB9 := Lib.hid hb9
  clear ho hb9
  go_wp2_with fail
  go_ret
  exact ⟨A, c, rfl, own_base HO.out HL.out.size, HL.out.trans (HB9.out.mono HL.out.size)⟩
end Go.Proofs.YtocbahahienigaaDoor
