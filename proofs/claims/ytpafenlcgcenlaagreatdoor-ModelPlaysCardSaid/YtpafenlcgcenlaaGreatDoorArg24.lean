/- A Config that came in. -/
import Derived.Test.YtpafenlcgcenlaaGreatDoorCp
import Derived.Test.YtpafenlcgcenlaaGreatDoorArgA
namespace Go.Proofs.YtpafenlcgcenlaaGreatDoor
open Go Go.ChangeShapes Go.WideShapes Go.ChangeAt Go.RowKit
set_option linter.unusedVariables false
set_option linter.unusedSimpArgs false
theorem fieldsK : Tryz.prog.underlying 24 = some (.struct (Tryz.prog.fieldsOf 24)) := by kernel_rfl
theorem fieldsK_is : ∃ f0 f1 f2 f3 f4 f5 f6 : Field, (Tryz.prog.fieldsOf 24).toList = [f0, f1, f2, f3, f4, f5, f6] ∧ (f0.type = 9 ∧ f0.offset = 0) ∧ (f1.type = 22 ∧ f1.offset = 1) ∧ (f2.type = 3 ∧ f2.offset = 2) ∧ (f3.type = 3 ∧ f3.offset = 3) ∧ (f4.type = 3 ∧ f4.offset = 4) ∧ (f5.type = 3 ∧ f5.offset = 5) ∧ (f6.type = 22 ∧ f6.offset = 6) :=
  ⟨{ name := "Name", type := 9, offset := 0, embedded := false, tag := "", pkgPath := "", byteOffset := 0 }, { name := "Key", type := 22, offset := 1, embedded := false, tag := "", pkgPath := "", byteOffset := 16 }, { name := "Slot", type := 3, offset := 2, embedded := false, tag := "", pkgPath := "", byteOffset := 40 }, { name := "Budget", type := 3, offset := 3, embedded := false, tag := "", pkgPath := "", byteOffset := 48 }, { name := "Quota", type := 3, offset := 4, embedded := false, tag := "", pkgPath := "", byteOffset := 56 }, { name := "Rights", type := 3, offset := 5, embedded := false, tag := "", pkgPath := "", byteOffset := 64 }, { name := "First", type := 22, offset := 6, embedded := false, tag := "", pkgPath := "", byteOffset := 72 },
    by kernel_rfl, ⟨rfl, rfl⟩, ⟨rfl, rfl⟩, ⟨rfl, rfl⟩, ⟨rfl, rfl⟩, ⟨rfl, rfl⟩, ⟨rfl, rfl⟩, ⟨rfl, rfl⟩⟩
theorem cfg_of {H : Type} {enc : TypeId × Value → H} {W : World} {sp : Nat → Bool} {held : Bool} {fuel : Nat} {cs : List Value} {y : DataW H × List MemPlace} (h : DataW.trod enc Tryz.prog W 0 sp held fuel 24 cs = some y) :
    ∃ (c : Cf) (K : Option Addr) (kc : Nat) (F : Option Addr) (fc : Nat), cs = c.cells K kc F fc ∧ Reads W K c.key.length (c.key.map u8v) ∧ Reads W F c.first.length (c.first.map u8v) ∧ c.nm.size ≤ maxLen ∧ (c.key.length ≤ kc ∧ kc ≤ maxLen) ∧ (c.first.length ≤ fc ∧ fc ≤ maxLen) := by
  obtain ⟨xs, n, _, _, hlen, hxl, hf⟩ := DataW.trod_struct fieldsK h
  obtain ⟨f0, f1, f2, f3, f4, f5, f6, hfs, ⟨t0, o0⟩, ⟨t1, o1⟩, ⟨t2, o2⟩, ⟨t3, o3⟩, ⟨t4, o4⟩, ⟨t5, o5⟩, t6, o6⟩ := fieldsK_is
  have c7 : Tryz.prog.cellsOf 24 = 7 := by kernel_rfl
  have ci : Tryz.prog.cellsOf 3 = 1 := by kernel_rfl
  have cl : Tryz.prog.cellsOf 22 = 1 := by kernel_rfl
  have cs1 : Tryz.prog.cellsOf 9 = 1 := by kernel_rfl
  have hs : (Tryz.prog.fieldsOf 24).size = 7 := by rw [← Array.length_toList, hfs]; rfl
  rw [hs] at hxl
  rw [c7] at hlen
  have g0 := hf 0 f0 (field_at hfs 0 f0 rfl)
  have g1 := hf 1 f1 (field_at hfs 1 f1 rfl)
  have g2 := hf 2 f2 (field_at hfs 2 f2 rfl)
  have g3 := hf 3 f3 (field_at hfs 3 f3 rfl)
  have g4 := hf 4 f4 (field_at hfs 4 f4 rfl)
  have g5 := hf 5 f5 (field_at hfs 5 f5 rfl)
  have g6 := hf 6 f6 (field_at hfs 6 f6 rfl)
  rw [t0, o0, cs1, List.getElem?_eq_getElem (by omega)] at g0
  rw [t1, o1, cl, List.getElem?_eq_getElem (by omega)] at g1
  rw [t2, o2, ci, List.getElem?_eq_getElem (by omega)] at g2
  rw [t3, o3, ci, List.getElem?_eq_getElem (by omega)] at g3
  rw [t4, o4, ci, List.getElem?_eq_getElem (by omega)] at g4
  rw [t5, o5, ci, List.getElem?_eq_getElem (by omega)] at g5
  rw [t6, o6, cl, List.getElem?_eq_getElem (by omega)] at g6
  obtain ⟨nm, e0, hnm⟩ : ∃ nm : ByteArray, (cs.drop 0).take 1 = [.string nm] ∧ nm.size ≤ maxLen := by
    obtain ⟨t, e, _, ht⟩ := DataW.trod_string Tryz.underlying9 g0
    exact ⟨t, e, ht⟩
  obtain ⟨KA, kn, kc, e1, kl, hk, hkb⟩ := u8s_of g1
  obtain ⟨a2, e2, _⟩ := int_of g2
  obtain ⟨a3, e3, _⟩ := int_of g3
  obtain ⟨a4, e4, _⟩ := int_of g4
  obtain ⟨a5, e5, _⟩ := int_of g5
  obtain ⟨FA, fn, fc, e6, fl, hfi, hfb⟩ := u8s_of g6
  have hkn : kl.length = kn := by simpa using hk.len
  have hfn : fl.length = fn := by simpa using hfi.len
  subst hkn hfn
  refine ⟨⟨nm, kl, a2, a3, a4, a5, fl⟩, KA, kc, FA, fc, ?_, hk, hfi, hnm, hkb, hfb⟩
  have q0 := split2 cs 0 1
  have q1 := split2 cs 1 1
  have q2 := split2 cs 2 1
  have q3 := split2 cs 3 1
  have q4 := split2 cs 4 1
  have q5 := split2 cs 5 1
  have q6 := split2 cs 6 1
  rw [List.drop_of_length_le (show cs.length ≤ 6 + 1 by omega), e6] at q6
  rw [e5, q6] at q5
  rw [e4, q5] at q4
  rw [e3, q4] at q3
  rw [e2, q3] at q2
  rw [e1, q2] at q1
  rw [e0, q1] at q0
  simpa [Cf.cells] using q0
end Go.Proofs.YtpafenlcgcenlaaGreatDoor
