/- Arguments that are structs: integers, bytes, images. -/
import Derived.Test.YtpbdglocfjbbfaaDoorRowKit
import Derived.Test.YtpbdglocfjbbfaaDoorUpA
import Derived.ChangeArms
import Derived.OpenShut
namespace Go.Proofs.YtpbdglocfjbbfaaDoor
open Go Go.ChangeShapes Go.WideShapes Go.ChangeAt Go.RowKit
set_option linter.unusedVariables false
set_option linter.unusedSimpArgs false
theorem split2 (cs : List Value) (a b : Nat) : cs.drop a = (cs.drop a).take b ++ cs.drop (a + b) := by
  rw [← List.drop_drop, List.take_append_drop]
theorem agg_of {v : Value} {cs : List Value} (h : v.cells.toList = cs) (hl : cs.length ≠ 1) : v = .agg cs.toArray := by
  cases v <;> first | (simp [Value.cells] at h; subst h; simp at hl; done) | (simp [Value.cells] at h; rw [← h])
section
variable {H : Type} {enc : TypeId × Value → H} {W : World} {sp : Nat → Bool} {held : Bool} {base : Nat}
theorem int_of {fuel : Nat} {cs : List Value} {y : DataW H × List MemPlace} (h : DataW.trod enc Tryd.prog W base sp held fuel 3 cs = some y) : ∃ z : Int, cs = [i64v z] ∧ (-9223372036854775808 ≤ z ∧ z ≤ 9223372036854775807) := by
  obtain ⟨z, e, _, wz⟩ := DataW.trod_int Tryd.underlying3 h
  exact ⟨z, e, bounds_i64 wz⟩
theorem bytes32_of {fuel : Nat} {cs : List Value} {y : DataW H × List MemPlace} (h : DataW.trod enc Tryd.prog W base sp held fuel 22 cs = some y) : ∃ l : List UInt8, l.length = 32 ∧ cs = l.map u8v := by
  obtain ⟨xs, m, _, _, hlen, hxl, hel⟩ := DataW.trod_array Tryd.underlying22 h
  have c1 : Tryd.prog.cellsOf 5 = 1 := by kernel_rfl
  have c32 : Tryd.prog.cellsOf 22 = 32 := by kernel_rfl
  rw [c32] at hlen
  rw [c1] at hel
  have hat : ∀ i (hi : i < 32), ∃ z : Int, cs[i]? = some (.int .u8 z) ∧ (0 ≤ z ∧ z ≤ 255) := fun i hi => by
    have q := hel i hi
    rw [List.getElem?_eq_getElem (by rw [hxl]; exact hi)] at q
    obtain ⟨z, e, _, wz⟩ := DataW.trod_int Tryd.underlying5 q
    refine ⟨z, ?_, bounds_u8 wz⟩
    have e2 : ((cs.drop (i * 1)).take 1)[0]? = some (.int .u8 z) := by rw [e]; rfl
    rw [List.getElem?_take, if_pos (by omega), List.getElem?_drop] at e2
    simpa using e2
  refine ⟨cs.map (fun v => match v with | .int _ z => UInt8.ofNat z.toNat | _ => 0), by rw [List.length_map, hlen], ?_⟩
  refine List.ext_getElem? fun i => ?_
  rw [List.map_map, List.getElem?_map]
  by_cases hi : i < 32
  · obtain ⟨z, e, hz⟩ := hat i hi
    rw [e]
    show some (Value.int .u8 z) = some (u8v (UInt8.ofNat z.toNat))
    have : ((UInt8.ofNat z.toNat).toNat : Int) = z := by
      have h3 : (UInt8.ofNat z.toNat).toNat = z.toNat % 256 := by first | rfl | simp
      rw [h3]
      omega
    unfold u8v
    rw [this]
  · rw [List.getElem?_eq_none (by omega)]
    rfl
theorem field_at {fs : Array Field} {l : List Field} (h : fs.toList = l) (i : Nat) (f : Field) (hi : l[i]? = some f) : fs[i]? = some f := by
  rw [← h, Array.getElem?_toList] at hi
  exact hi
theorem img_of {fuel : Nat} {cs : List Value} {y : DataW H × List MemPlace} (h : DataW.trod enc Tryd.prog W base sp held fuel 24 cs = some y) : ∃ i : Img, cs = i.cells ∧ i.d.length = 32 ∧ (-9223372036854775808 ≤ i.v ∧ i.v ≤ 9223372036854775807) ∧ (-9223372036854775808 ≤ i.s ∧ i.s ≤ 9223372036854775807) := by
  obtain ⟨xs, n, _, _, hlen, hxl, hf⟩ := DataW.trod_struct fieldsI h
  obtain ⟨f0, f1, f2, hfs, ⟨_, t0, o0⟩, ⟨_, t1, o1⟩, _, t2, o2⟩ := fieldsI_is
  have c34 : Tryd.prog.cellsOf 24 = 34 := by kernel_rfl
  have ci : Tryd.prog.cellsOf 3 = 1 := by kernel_rfl
  have c32 : Tryd.prog.cellsOf 22 = 32 := by kernel_rfl
  have hs : (Tryd.prog.fieldsOf 24).size = 3 := by rw [← Array.length_toList, hfs]; rfl
  rw [hs] at hxl
  rw [c34] at hlen
  have g0 := hf 0 f0 (field_at hfs 0 f0 rfl)
  have g1 := hf 1 f1 (field_at hfs 1 f1 rfl)
  have g2 := hf 2 f2 (field_at hfs 2 f2 rfl)
  rw [t0, o0, ci, List.getElem?_eq_getElem (by omega)] at g0
  rw [t1, o1, ci, List.getElem?_eq_getElem (by omega)] at g1
  rw [t2, o2, c32, List.getElem?_eq_getElem (by omega)] at g2
  obtain ⟨v, e0, hv⟩ := int_of g0
  obtain ⟨s, e1, hs1⟩ := int_of g1
  obtain ⟨d, hd, e2⟩ := bytes32_of g2
  refine ⟨⟨v, s, d⟩, ?_, hd, hv, hs1⟩
  have q0 := split2 cs 0 1
  have q1 := split2 cs 1 1
  have q2 := split2 cs 2 32
  rw [List.drop_of_length_le (show cs.length ≤ 2 + 32 by omega), e2] at q2
  rw [e1, q2] at q1
  rw [e0, q1] at q0
  simpa [Img.cells] using q0
theorem u8s_of {fuel : Nat} {cs : List Value} {y : DataW H × List MemPlace} (h : DataW.trod enc Tryd.prog W 0 sp held fuel 28 cs = some y) : ∃ A n c, cs = [.slice A n c] ∧ ∃ l : List UInt8, Reads W A n (l.map u8v) ∧ (n ≤ c ∧ c ≤ maxLen) := by
  rcases open_ints Tryd.underlying28 Tryd.underlying5 (by kernel_rfl) h with ⟨hcs, _⟩ | ⟨x, l, c, zs, hcs, _, hl, hm, hz, _, hcell, hwz⟩
  · exact ⟨none, 0, 0, hcs, [], Reads.none_ _, Nat.le_refl _, Nat.zero_le _⟩
  · refine ⟨some x, l, c, hcs, ?_⟩
    have hz2 : l ≤ zs.length := by rw [hz]; split <;> omega
    refine ⟨(zs.take l).map (fun z => UInt8.ofNat z.toNat), ?_, hl, hm⟩
    rw [u8_map (fun z hz' => hwz z (List.mem_of_mem_take hz'))]
    exact reads_of_cells hz2 rfl hcell
end
end Go.Proofs.YtpbdglocfjbbfaaDoor
