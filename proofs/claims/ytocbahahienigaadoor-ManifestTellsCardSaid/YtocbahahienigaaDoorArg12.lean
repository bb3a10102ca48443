/- Manifests that came in: what they read as. -/
import Derived.Test.YtocbahahienigaaDoorArgI
import Derived.Test.YtocbahahienigaaDoorMn3
import Derived.ChangeMaps
namespace Go.Proofs.YtocbahahienigaaDoor
open Go Go.ChangeShapes Go.WideShapes Go.ChangeAt Go.RowKit
set_option linter.unusedVariables false
set_option linter.unusedSimpArgs false
theorem fieldsN : Tryd.prog.underlying 27 = some (.struct (Tryd.prog.fieldsOf 27)) := by kernel_rfl
theorem fieldsN_is : ∃ f0 f1 : Field, (Tryd.prog.fieldsOf 27).toList = [f0, f1] ∧ (f0.type = 9 ∧ f0.offset = 0) ∧ (f1.type = 25 ∧ f1.offset = 1) :=
  ⟨{ name := "Name", type := 9, offset := 0, embedded := false, tag := "", pkgPath := "", byteOffset := 0 }, { name := "Image", type := 25, offset := 1, embedded := false, tag := "", pkgPath := "", byteOffset := 16 }, by kernel_rfl, ⟨rfl, rfl⟩, ⟨rfl, rfl⟩⟩
theorem man_of {H : Type} {enc : TypeId × Value → H} {W : World} {sp : Nat → Bool} {held : Bool} {base : Nat} {fuel : Nat} {cs : List Value} {y : DataW H × List MemPlace} (h : DataW.trod enc Tryd.prog W base sp held fuel 27 cs = some y) :
    ∃ (nm : ByteArray) (i : Img), cs = manC nm i ∧ i.d.length = 32 ∧ nm.size ≤ maxLen ∧ (-9223372036854775808 ≤ i.v ∧ i.v ≤ 9223372036854775807) ∧ (-9223372036854775808 ≤ i.s ∧ i.s ≤ 9223372036854775807) := by
  obtain ⟨xs, n, _, _, hlen, hxl, hf⟩ := DataW.trod_struct fieldsN h
  obtain ⟨f0, f1, hfs, ⟨t0, o0⟩, t1, o1⟩ := fieldsN_is
  have c35 : Tryd.prog.cellsOf 27 = 35 := by kernel_rfl
  have c34 : Tryd.prog.cellsOf 25 = 34 := by kernel_rfl
  have cs1 : Tryd.prog.cellsOf 9 = 1 := by kernel_rfl
  have hs : (Tryd.prog.fieldsOf 27).size = 2 := by rw [← Array.length_toList, hfs]; rfl
  rw [hs] at hxl
  rw [c35] at hlen
  have g0 := hf 0 f0 (field_at hfs 0 f0 rfl)
  have g1 := hf 1 f1 (field_at hfs 1 f1 rfl)
  rw [t0, o0, cs1, List.getElem?_eq_getElem (by omega)] at g0
  rw [t1, o1, c34, List.getElem?_eq_getElem (by omega)] at g1
  obtain ⟨nm, e0, hnm⟩ : ∃ nm : ByteArray, (cs.drop 0).take 1 = [.string nm] ∧ nm.size ≤ maxLen := by
    obtain ⟨t, e, _, ht⟩ := DataW.trod_string Tryd.underlying9 g0
    exact ⟨t, e, ht⟩
  obtain ⟨i, e1, hd, hv, hs1⟩ := img_of g1
  refine ⟨nm, i, ?_, hd, hnm, hv, hs1⟩
  have q0 := split2 cs 0 1
  have q1 := split2 cs 1 34
  rw [List.drop_of_length_le (show cs.length ≤ 1 + 34 by omega), e1] at q1
  rw [e0, q1] at q0
  simpa [manC] using q0
end Go.Proofs.YtocbahahienigaaDoor
