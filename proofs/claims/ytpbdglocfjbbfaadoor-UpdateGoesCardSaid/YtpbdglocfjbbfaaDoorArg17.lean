/- Arguments that are structs: what they read as. -/
import Derived.Test.YtpbdglocfjbbfaaDoorArgI
import Derived.Test.YtpbdglocfjbbfaaDoorUpC
import Derived.ChangeArms
import Derived.OpenShut
namespace Go.Proofs.YtpbdglocfjbbfaaDoor
open Go Go.ChangeShapes Go.WideShapes Go.ChangeAt Go.RowKit
set_option linter.unusedVariables false
set_option linter.unusedSimpArgs false
section
variable {H : Type} {enc : TypeId × Value → H} {W : World} {sp : Nat → Bool} {held : Bool} {base : Nat}
theorem meta_of {fuel : Nat} {cs : List Value} {y : DataW H × List MemPlace} (h : DataW.trod enc Tryd.prog W base sp held fuel 27 cs = some y) : ∃ m : Mt, cs = m.cells ∧ m.Ok := by
  obtain ⟨xs, n, _, _, hlen, hxl, hf⟩ := DataW.trod_struct fieldsM h
  obtain ⟨f0, f1, f2, f3, f4, f5, f6, hfs, ⟨_, t0, o0⟩, ⟨_, t1, o1⟩, ⟨_, t2, o2⟩, ⟨_, t3, o3⟩, ⟨_, t4, o4⟩, ⟨_, t5, o5⟩, _, t6, o6⟩ := fieldsM_is
  have c107 : Tryd.prog.cellsOf 27 = 107 := by kernel_rfl
  have c34 : Tryd.prog.cellsOf 24 = 34 := by kernel_rfl
  have ci : Tryd.prog.cellsOf 3 = 1 := by kernel_rfl
  have c68 : Tryd.prog.cellsOf 25 = 68 := by kernel_rfl
  have hs : (Tryd.prog.fieldsOf 27).size = 7 := by rw [← Array.length_toList, hfs]; rfl
  rw [hs] at hxl
  rw [c107] at hlen
  have g0 := hf 0 f0 (field_at hfs 0 f0 rfl)
  have g1 := hf 1 f1 (field_at hfs 1 f1 rfl)
  have g2 := hf 2 f2 (field_at hfs 2 f2 rfl)
  have g3 := hf 3 f3 (field_at hfs 3 f3 rfl)
  have g4 := hf 4 f4 (field_at hfs 4 f4 rfl)
  have g5 := hf 5 f5 (field_at hfs 5 f5 rfl)
  have g6 := hf 6 f6 (field_at hfs 6 f6 rfl)
  rw [t0, o0, ci, List.getElem?_eq_getElem (by omega)] at g0
  rw [t1, o1, c68, List.getElem?_eq_getElem (by omega)] at g1
  rw [t2, o2, ci, List.getElem?_eq_getElem (by omega)] at g2
  rw [t3, o3, ci, List.getElem?_eq_getElem (by omega)] at g3
  rw [t4, o4, c34, List.getElem?_eq_getElem (by omega)] at g4
  rw [t5, o5, ci, List.getElem?_eq_getElem (by omega)] at g5
  rw [t6, o6, ci, List.getElem?_eq_getElem (by omega)] at g6
  obtain ⟨act, e0, hact⟩ := int_of g0
  obtain ⟨mn, e2, _⟩ := int_of g2
  obtain ⟨ph, e3, _⟩ := int_of g3
  obtain ⟨cm, e4, hcm, _⟩ := img_of g4
  obtain ⟨got, e5, _⟩ := int_of g5
  obtain ⟨tr, e6, _⟩ := int_of g6
  obtain ⟨ys, k, _, _, hlen2, hyl, hel⟩ := DataW.trod_array Tryd.underlying25 g1
  rw [c34] at hel
  rw [c68] at hlen2
  have a0 := hel 0 (by omega)
  have a1 := hel 1 (by omega)
  rw [List.getElem?_eq_getElem (by omega)] at a0 a1
  obtain ⟨h0, i0, hh0, _⟩ := img_of a0
  obtain ⟨h1, i1, hh1, _⟩ := img_of a1
  have e1 : (cs.drop 1).take 68 = h0.cells ++ h1.cells := by
    have q0 := split2 ((cs.drop 1).take 68) 0 34
    have q1 := split2 ((cs.drop 1).take 68) 34 34
    rw [Nat.one_mul] at i1
    rw [Nat.zero_mul] at i0
    rw [List.drop_of_length_le (show ((cs.drop 1).take 68).length ≤ 34 + 34 by omega), i1, List.append_nil] at q1
    rw [i0, q1] at q0
    simpa using q0
  refine ⟨⟨act, h0, h1, mn, ph, cm, got, tr⟩, ?_, hh0, hh1, hcm, hact⟩
  have q0 := split2 cs 0 1
  have q1 := split2 cs 1 68
  have q2 := split2 cs 69 1
  have q3 := split2 cs 70 1
  have q4 := split2 cs 71 34
  have q5 := split2 cs 105 1
  have q6 := split2 cs 106 1
  rw [List.drop_of_length_le (show cs.length ≤ 106 + 1 by omega), e6] at q6
  rw [e5, q6] at q5
  rw [e4, q5] at q4
  rw [e3, q4] at q3
  rw [e2, q3] at q2
  rw [e1, q2] at q1
  rw [e0, q1] at q0
  simpa [Mt.cells] using q0
theorem fieldsF : Tryd.prog.underlying 32 = some (.struct (Tryd.prog.fieldsOf 32)) := by kernel_rfl
theorem fieldsF_is : ∃ f0 f1 f2 f3 : Field, (Tryd.prog.fieldsOf 32).toList = [f0, f1, f2, f3] ∧ (f0.type = 4 ∧ f0.offset = 0) ∧ (f1.type = 4 ∧ f1.offset = 1) ∧ (f2.type = 22 ∧ f2.offset = 2) ∧ (f3.type = 4 ∧ f3.offset = 34) :=
  ⟨{ name := "Name", type := 4, offset := 0, embedded := false, tag := "", pkgPath := "", byteOffset := 0 }, { name := "Tag", type := 4, offset := 1, embedded := false, tag := "", pkgPath := "", byteOffset := 1 }, { name := "Digest", type := 22, offset := 2, embedded := false, tag := "", pkgPath := "", byteOffset := 2 }, { name := "Worn", type := 4, offset := 34, embedded := false, tag := "", pkgPath := "", byteOffset := 34 },
    by kernel_rfl, ⟨rfl, rfl⟩, ⟨rfl, rfl⟩, ⟨rfl, rfl⟩, ⟨rfl, rfl⟩⟩
theorem bool_of {fuel : Nat} {cs : List Value} {y : DataW H × List MemPlace} (h : DataW.trod enc Tryd.prog W base sp held fuel 4 cs = some y) : ∃ b : Bool, cs = [.bool b] := by
  obtain ⟨b, e, _⟩ := DataW.trod_bool Tryd.underlying4 h
  exact ⟨b, e⟩
theorem fact_of {fuel : Nat} {cs : List Value} {y : DataW H × List MemPlace} (h : DataW.trod enc Tryd.prog W base sp held fuel 32 cs = some y) : ∃ f : Fc, cs = f.cells ∧ f.d.length = 32 := by
  obtain ⟨xs, n, _, _, hlen, hxl, hf⟩ := DataW.trod_struct fieldsF h
  obtain ⟨f0, f1, f2, f3, hfs, ⟨t0, o0⟩, ⟨t1, o1⟩, ⟨t2, o2⟩, t3, o3⟩ := fieldsF_is
  have c35 : Tryd.prog.cellsOf 32 = 35 := by kernel_rfl
  have cb : Tryd.prog.cellsOf 4 = 1 := by kernel_rfl
  have c32 : Tryd.prog.cellsOf 22 = 32 := by kernel_rfl
  have hs : (Tryd.prog.fieldsOf 32).size = 4 := by rw [← Array.length_toList, hfs]; rfl
  rw [hs] at hxl
  rw [c35] at hlen
  have g0 := hf 0 f0 (field_at hfs 0 f0 rfl)
  have g1 := hf 1 f1 (field_at hfs 1 f1 rfl)
  have g2 := hf 2 f2 (field_at hfs 2 f2 rfl)
  have g3 := hf 3 f3 (field_at hfs 3 f3 rfl)
  rw [t0, o0, cb, List.getElem?_eq_getElem (by omega)] at g0
  rw [t1, o1, cb, List.getElem?_eq_getElem (by omega)] at g1
  rw [t2, o2, c32, List.getElem?_eq_getElem (by omega)] at g2
  rw [t3, o3, cb, List.getElem?_eq_getElem (by omega)] at g3
  obtain ⟨a, e0⟩ := bool_of g0
  obtain ⟨b, e1⟩ := bool_of g1
  obtain ⟨d, hd, e2⟩ := bytes32_of g2
  obtain ⟨c, e3⟩ := bool_of g3
  refine ⟨⟨a, b, d, c⟩, ?_, hd⟩
  have q0 := split2 cs 0 1
  have q1 := split2 cs 1 1
  have q2 := split2 cs 2 32
  have q3 := split2 cs 34 1
  rw [List.drop_of_length_le (show cs.length ≤ 34 + 1 by omega), e3] at q3
  rw [e2, q3] at q2
  rw [e1, q2] at q1
  rw [e0, q1] at q0
  simpa [Fc.cells] using q0
theorem fieldsQ : Tryd.prog.underlying 30 = some (.struct (Tryd.prog.fieldsOf 30)) := by kernel_rfl
theorem fieldsQ_is : ∃ f0 f1 f2 : Field, (Tryd.prog.fieldsOf 30).toList = [f0, f1, f2] ∧ (f0.type = 3 ∧ f0.offset = 0) ∧ (f1.type = 3 ∧ f1.offset = 1) ∧ (f2.type = 28 ∧ f2.offset = 2) :=
  ⟨{ name := "Kind", type := 3, offset := 0, embedded := false, tag := "", pkgPath := "", byteOffset := 0 }, { name := "N", type := 3, offset := 1, embedded := false, tag := "", pkgPath := "", byteOffset := 8 }, { name := "Bytes", type := 28, offset := 2, embedded := false, tag := "", pkgPath := "", byteOffset := 16 },
    by kernel_rfl, ⟨rfl, rfl⟩, ⟨rfl, rfl⟩, ⟨rfl, rfl⟩⟩
theorem req_of {fuel : Nat} {cs : List Value} {y : DataW H × List MemPlace} (h : DataW.trod enc Tryd.prog W 0 sp held fuel 30 cs = some y) : ∃ (k n : Int) (A : Option Addr) (sl sc : Nat) (l : List UInt8), cs = [i64v k, i64v n, .slice A sl sc] ∧ Reads W A sl (l.map u8v) ∧ (sl ≤ sc ∧ sc ≤ maxLen) := by
  obtain ⟨xs, n, _, _, hlen, hxl, hf⟩ := DataW.trod_struct fieldsQ h
  obtain ⟨f0, f1, f2, hfs, ⟨t0, o0⟩, ⟨t1, o1⟩, t2, o2⟩ := fieldsQ_is
  have c3 : Tryd.prog.cellsOf 30 = 3 := by kernel_rfl
  have ci : Tryd.prog.cellsOf 3 = 1 := by kernel_rfl
  have cl : Tryd.prog.cellsOf 28 = 1 := by kernel_rfl
  have hs : (Tryd.prog.fieldsOf 30).size = 3 := by rw [← Array.length_toList, hfs]; rfl
  rw [hs] at hxl
  rw [c3] at hlen
  have g0 := hf 0 f0 (field_at hfs 0 f0 rfl)
  have g1 := hf 1 f1 (field_at hfs 1 f1 rfl)
  have g2 := hf 2 f2 (field_at hfs 2 f2 rfl)
  rw [t0, o0, ci, List.getElem?_eq_getElem (by omega)] at g0
  rw [t1, o1, ci, List.getElem?_eq_getElem (by omega)] at g1
  rw [t2, o2, cl, List.getElem?_eq_getElem (by omega)] at g2
  obtain ⟨a, e0, _⟩ := int_of g0
  obtain ⟨b, e1, _⟩ := int_of g1
  obtain ⟨A, sl, sc, e2, l, hr, hb⟩ := u8s_of g2
  refine ⟨a, b, A, sl, sc, l, ?_, hr, hb⟩
  have q0 := split2 cs 0 1
  have q1 := split2 cs 1 1
  have q2 := split2 cs 2 1
  rw [List.drop_of_length_le (show cs.length ≤ 2 + 1 by omega), e2] at q2
  rw [e1, q2] at q1
  rw [e0, q1] at q0
  simpa using q0
end
end Go.Proofs.YtpbdglocfjbbfaaDoor
