/- Arguments that are structs: integers, bytes, images. · Arguments that are structs: what they read as. · Rows of requests and of facts that came in: what they read as. -/
import Derived.Test.YtpafenlcgcenlaaGreatDoorRowKit
import Derived.Test.YtpafenlcgcenlaaGreatDoorUpA
import Derived.ChangeArms
import Derived.OpenShut
import Derived.Test.YtpafenlcgcenlaaGreatDoorUpC
import Derived.Deep.Slices
namespace Go.Proofs.YtpafenlcgcenlaaGreatDoor
open Go Go.ChangeShapes Go.WideShapes Go.ChangeAt Go.RowKit
set_option linter.unusedVariables false
set_option linter.unusedSimpArgs false
theorem split2 (cs : List Value) (a b : Nat) : cs.drop a = (cs.drop a).take b ++ cs.drop (a + b) := by
  rw [← List.drop_drop, List.take_append_drop]
theorem agg_of {v : Value} {cs : List Value} (h : v.cells.toList = cs) (hl : cs.length ≠ 1) : v = .agg cs.toArray := by
  cases v <;> first | (simp [Value.cells] at h; subst h; simp at hl; done) | (simp [Value.cells] at h; rw [← h])
section
variable {H : Type} {enc : TypeId × Value → H} {W : World} {sp : Nat → Bool} {held : Bool} {base : Nat}
theorem int_of {fuel : Nat} {cs : List Value} {y : DataW H × List MemPlace} (h : DataW.trod enc Tryz.prog W base sp held fuel 3 cs = some y) : ∃ z : Int, cs = [i64v z] ∧ (-9223372036854775808 ≤ z ∧ z ≤ 9223372036854775807) := by
  obtain ⟨z, e, _, wz⟩ := DataW.trod_int Tryz.underlying3 h
  exact ⟨z, e, bounds_i64 wz⟩
theorem bytes32_of {fuel : Nat} {cs : List Value} {y : DataW H × List MemPlace} (h : DataW.trod enc Tryz.prog W base sp held fuel 39 cs = some y) : ∃ l : List UInt8, l.length = 32 ∧ cs = l.map u8v := by
  obtain ⟨xs, m, _, _, hlen, hxl, hel⟩ := DataW.trod_array Tryz.underlying39 h
  have c1 : Tryz.prog.cellsOf 5 = 1 := by kernel_rfl
  have c32 : Tryz.prog.cellsOf 39 = 32 := by kernel_rfl
  rw [c32] at hlen
  rw [c1] at hel
  have hat : ∀ i (hi : i < 32), ∃ z : Int, cs[i]? = some (.int .u8 z) ∧ (0 ≤ z ∧ z ≤ 255) := fun i hi => by
    have q := hel i hi
    rw [List.getElem?_eq_getElem (by rw [hxl]; exact hi)] at q
    obtain ⟨z, e, _, wz⟩ := DataW.trod_int Tryz.underlying5 q
    refine ⟨z, ?_, bounds_u8 wz⟩
    have e2 : ((cs.drop (i * 1)).take 1)[0]? = some (.int .u8 z) := by rw [e]; rfl
    rw [List.getElem?_take, if_pos (by omega), List.getElem?_drop] at e2
    simpa using e2
  refine ⟨cs.map (fun v => match v with | .int _ z => UInt8.ofNat z.toNat | _ => 0), by rw [List.length_map, hlen], ?_⟩
  refine List.ext_getElem? fun i => ?_
  rw [List.map_map, List.getElem?_map]
  by_cases hi : i < 32
  · obtain ⟨z, e, hz⟩ := hat i hi
    rw [e]
    show some (Value.int .u8 z) = some (u8v (UInt8.ofNat z.toNat))
    have : ((UInt8.ofNat z.toNat).toNat : Int) = z := by
      have h3 : (UInt8.ofNat z.toNat).toNat = z.toNat % 256 := by first | rfl | simp
      rw [h3]
      omega
    unfold u8v
    rw [this]
  · rw [List.getElem?_eq_none (by omega)]
    rfl
theorem field_at {fs : Array Field} {l : List Field} (h : fs.toList = l) (i : Nat) (f : Field) (hi : l[i]? = some f) : fs[i]? = some f := by
  rw [← h, Array.getElem?_toList] at hi
  exact hi
theorem img_of {fuel : Nat} {cs : List Value} {y : DataW H × List MemPlace} (h : DataW.trod enc Tryz.prog W base sp held fuel 41 cs = some y) : ∃ i : Img, cs = i.cells ∧ i.d.length = 32 ∧ (-9223372036854775808 ≤ i.v ∧ i.v ≤ 9223372036854775807) ∧ (-9223372036854775808 ≤ i.s ∧ i.s ≤ 9223372036854775807) := by
  obtain ⟨xs, n, _, _, hlen, hxl, hf⟩ := DataW.trod_struct fieldsI h
  obtain ⟨f0, f1, f2, hfs, ⟨_, t0, o0⟩, ⟨_, t1, o1⟩, _, t2, o2⟩ := fieldsI_is
  have c34 : Tryz.prog.cellsOf 41 = 34 := by kernel_rfl
  have ci : Tryz.prog.cellsOf 3 = 1 := by kernel_rfl
  have c32 : Tryz.prog.cellsOf 39 = 32 := by kernel_rfl
  have hs : (Tryz.prog.fieldsOf 41).size = 3 := by rw [← Array.length_toList, hfs]; rfl
  rw [hs] at hxl
  rw [c34] at hlen
  have g0 := hf 0 f0 (field_at hfs 0 f0 rfl)
  have g1 := hf 1 f1 (field_at hfs 1 f1 rfl)
  have g2 := hf 2 f2 (field_at hfs 2 f2 rfl)
  rw [t0, o0, ci, List.getElem?_eq_getElem (by omega)] at g0
  rw [t1, o1, ci, List.getElem?_eq_getElem (by omega)] at g1
  rw [t2, o2, c32, List.getElem?_eq_getElem (by omega)] at g2
  obtain ⟨v, e0, hv⟩ := int_of g0
  obtain ⟨s, e1, hs1⟩ := int_of g1
  obtain ⟨d, hd, e2⟩ := bytes32_of g2
  refine ⟨⟨v, s, d⟩, ?_, hd, hv, hs1⟩
  have q0 := split2 cs 0 1
  have q1 := split2 cs 1 1
  have q2 := split2 cs 2 32
  rw [List.drop_of_length_le (show cs.length ≤ 2 + 32 by omega), e2] at q2
  rw [e1, q2] at q1
  rw [e0, q1] at q0
  simpa [Img.cells] using q0
theorem u8s_of {fuel : Nat} {cs : List Value} {y : DataW H × List MemPlace} (h : DataW.trod enc Tryz.prog W 0 sp held fuel 22 cs = some y) : ∃ A n c, cs = [.slice A n c] ∧ ∃ l : List UInt8, Reads W A n (l.map u8v) ∧ (n ≤ c ∧ c ≤ maxLen) := by
  rcases open_ints Tryz.underlying22 Tryz.underlying5 (by kernel_rfl) h with ⟨hcs, _⟩ | ⟨x, l, c, zs, hcs, _, hl, hm, hz, _, hcell, hwz⟩
  · exact ⟨none, 0, 0, hcs, [], Reads.none_ _, Nat.le_refl _, Nat.zero_le _⟩
  · refine ⟨some x, l, c, hcs, ?_⟩
    have hz2 : l ≤ zs.length := by rw [hz]; split <;> omega
    refine ⟨(zs.take l).map (fun z => UInt8.ofNat z.toNat), ?_, hl, hm⟩
    rw [u8_map (fun z hz' => hwz z (List.mem_of_mem_take hz'))]
    exact reads_of_cells hz2 rfl hcell
end
end Go.Proofs.YtpafenlcgcenlaaGreatDoor
namespace Go.Proofs.YtpafenlcgcenlaaGreatDoor
open Go Go.ChangeShapes Go.WideShapes Go.ChangeAt Go.RowKit
set_option linter.unusedVariables false
set_option linter.unusedSimpArgs false
section
variable {H : Type} {enc : TypeId × Value → H} {W : World} {sp : Nat → Bool} {held : Bool} {base : Nat}
theorem meta_of {fuel : Nat} {cs : List Value} {y : DataW H × List MemPlace} (h : DataW.trod enc Tryz.prog W base sp held fuel 44 cs = some y) : ∃ m : Mt, cs = m.cells ∧ m.Ok := by
  obtain ⟨xs, n, _, _, hlen, hxl, hf⟩ := DataW.trod_struct fieldsM h
  obtain ⟨f0, f1, f2, f3, f4, f5, f6, hfs, ⟨_, t0, o0⟩, ⟨_, t1, o1⟩, ⟨_, t2, o2⟩, ⟨_, t3, o3⟩, ⟨_, t4, o4⟩, ⟨_, t5, o5⟩, _, t6, o6⟩ := fieldsM_is
  have c107 : Tryz.prog.cellsOf 44 = 107 := by kernel_rfl
  have c34 : Tryz.prog.cellsOf 41 = 34 := by kernel_rfl
  have ci : Tryz.prog.cellsOf 3 = 1 := by kernel_rfl
  have c68 : Tryz.prog.cellsOf 42 = 68 := by kernel_rfl
  have hs : (Tryz.prog.fieldsOf 44).size = 7 := by rw [← Array.length_toList, hfs]; rfl
  rw [hs] at hxl
  rw [c107] at hlen
  have g0 := hf 0 f0 (field_at hfs 0 f0 rfl)
  have g1 := hf 1 f1 (field_at hfs 1 f1 rfl)
  have g2 := hf 2 f2 (field_at hfs 2 f2 rfl)
  have g3 := hf 3 f3 (field_at hfs 3 f3 rfl)
  have g4 := hf 4 f4 (field_at hfs 4 f4 rfl)
  have g5 := hf 5 f5 (field_at hfs 5 f5 rfl)
  have g6 := hf 6 f6 (field_at hfs 6 f6 rfl)
  rw [t0, o0, ci, List.getElem?_eq_getElem (by omega)] at g0
  rw [t1, o1, c68, List.getElem?_eq_getElem (by omega)] at g1
  rw [t2, o2, ci, List.getElem?_eq_getElem (by omega)] at g2
  rw [t3, o3, ci, List.getElem?_eq_getElem (by omega)] at g3
  rw [t4, o4, c34, List.getElem?_eq_getElem (by omega)] at g4
  rw [t5, o5, ci, List.getElem?_eq_getElem (by omega)] at g5
  rw [t6, o6, ci, List.getElem?_eq_getElem (by omega)] at g6
  obtain ⟨act, e0, hact⟩ := int_of g0
  obtain ⟨mn, e2, _⟩ := int_of g2
  obtain ⟨ph, e3, _⟩ := int_of g3
  obtain ⟨cm, e4, hcm, _⟩ := img_of g4
  obtain ⟨got, e5, _⟩ := int_of g5
  obtain ⟨tr, e6, _⟩ := int_of g6
  obtain ⟨ys, k, _, _, hlen2, hyl, hel⟩ := DataW.trod_array Tryz.underlying42 g1
  rw [c34] at hel
  rw [c68] at hlen2
  have a0 := hel 0 (by omega)
  have a1 := hel 1 (by omega)
  rw [List.getElem?_eq_getElem (by omega)] at a0 a1
  obtain ⟨h0, i0, hh0, _⟩ := img_of a0
  obtain ⟨h1, i1, hh1, _⟩ := img_of a1
  have e1 : (cs.drop 1).take 68 = h0.cells ++ h1.cells := by
    have q0 := split2 ((cs.drop 1).take 68) 0 34
    have q1 := split2 ((cs.drop 1).take 68) 34 34
    rw [Nat.one_mul] at i1
    rw [Nat.zero_mul] at i0
    rw [List.drop_of_length_le (show ((cs.drop 1).take 68).length ≤ 34 + 34 by omega), i1, List.append_nil] at q1
    rw [i0, q1] at q0
    simpa using q0
  refine ⟨⟨act, h0, h1, mn, ph, cm, got, tr⟩, ?_, hh0, hh1, hcm, hact⟩
  have q0 := split2 cs 0 1
  have q1 := split2 cs 1 68
  have q2 := split2 cs 69 1
  have q3 := split2 cs 70 1
  have q4 := split2 cs 71 34
  have q5 := split2 cs 105 1
  have q6 := split2 cs 106 1
  rw [List.drop_of_length_le (show cs.length ≤ 106 + 1 by omega), e6] at q6
  rw [e5, q6] at q5
  rw [e4, q5] at q4
  rw [e3, q4] at q3
  rw [e2, q3] at q2
  rw [e1, q2] at q1
  rw [e0, q1] at q0
  simpa [Mt.cells] using q0
theorem fieldsF : Tryz.prog.underlying 78 = some (.struct (Tryz.prog.fieldsOf 78)) := by kernel_rfl
theorem fieldsF_is : ∃ f0 f1 f2 f3 : Field, (Tryz.prog.fieldsOf 78).toList = [f0, f1, f2, f3] ∧ (f0.type = 4 ∧ f0.offset = 0) ∧ (f1.type = 4 ∧ f1.offset = 1) ∧ (f2.type = 39 ∧ f2.offset = 2) ∧ (f3.type = 4 ∧ f3.offset = 34) :=
  ⟨{ name := "Name", type := 4, offset := 0, embedded := false, tag := "", pkgPath := "", byteOffset := 0 }, { name := "Tag", type := 4, offset := 1, embedded := false, tag := "", pkgPath := "", byteOffset := 1 }, { name := "Digest", type := 39, offset := 2, embedded := false, tag := "", pkgPath := "", byteOffset := 2 }, { name := "Worn", type := 4, offset := 34, embedded := false, tag := "", pkgPath := "", byteOffset := 34 },
    by kernel_rfl, ⟨rfl, rfl⟩, ⟨rfl, rfl⟩, ⟨rfl, rfl⟩, ⟨rfl, rfl⟩⟩
theorem bool_of {fuel : Nat} {cs : List Value} {y : DataW H × List MemPlace} (h : DataW.trod enc Tryz.prog W base sp held fuel 4 cs = some y) : ∃ b : Bool, cs = [.bool b] := by
  obtain ⟨b, e, _⟩ := DataW.trod_bool Tryz.underlying4 h
  exact ⟨b, e⟩
theorem fact_of {fuel : Nat} {cs : List Value} {y : DataW H × List MemPlace} (h : DataW.trod enc Tryz.prog W base sp held fuel 78 cs = some y) : ∃ f : Fc, cs = f.cells ∧ f.d.length = 32 := by
  obtain ⟨xs, n, _, _, hlen, hxl, hf⟩ := DataW.trod_struct fieldsF h
  obtain ⟨f0, f1, f2, f3, hfs, ⟨t0, o0⟩, ⟨t1, o1⟩, ⟨t2, o2⟩, t3, o3⟩ := fieldsF_is
  have c35 : Tryz.prog.cellsOf 78 = 35 := by kernel_rfl
  have cb : Tryz.prog.cellsOf 4 = 1 := by kernel_rfl
  have c32 : Tryz.prog.cellsOf 39 = 32 := by kernel_rfl
  have hs : (Tryz.prog.fieldsOf 78).size = 4 := by rw [← Array.length_toList, hfs]; rfl
  rw [hs] at hxl
  rw [c35] at hlen
  have g0 := hf 0 f0 (field_at hfs 0 f0 rfl)
  have g1 := hf 1 f1 (field_at hfs 1 f1 rfl)
  have g2 := hf 2 f2 (field_at hfs 2 f2 rfl)
  have g3 := hf 3 f3 (field_at hfs 3 f3 rfl)
  rw [t0, o0, cb, List.getElem?_eq_getElem (by omega)] at g0
  rw [t1, o1, cb, List.getElem?_eq_getElem (by omega)] at g1
  rw [t2, o2, c32, List.getElem?_eq_getElem (by omega)] at g2
  rw [t3, o3, cb, List.getElem?_eq_getElem (by omega)] at g3
  obtain ⟨a, e0⟩ := bool_of g0
  obtain ⟨b, e1⟩ := bool_of g1
  obtain ⟨d, hd, e2⟩ := bytes32_of g2
  obtain ⟨c, e3⟩ := bool_of g3
  refine ⟨⟨a, b, d, c⟩, ?_, hd⟩
  have q0 := split2 cs 0 1
  have q1 := split2 cs 1 1
  have q2 := split2 cs 2 32
  have q3 := split2 cs 34 1
  rw [List.drop_of_length_le (show cs.length ≤ 34 + 1 by omega), e3] at q3
  rw [e2, q3] at q2
  rw [e1, q2] at q1
  rw [e0, q1] at q0
  simpa [Fc.cells] using q0
theorem fieldsQ : Tryz.prog.underlying 34 = some (.struct (Tryz.prog.fieldsOf 34)) := by kernel_rfl
theorem fieldsQ_is : ∃ f0 f1 f2 : Field, (Tryz.prog.fieldsOf 34).toList = [f0, f1, f2] ∧ (f0.type = 3 ∧ f0.offset = 0) ∧ (f1.type = 3 ∧ f1.offset = 1) ∧ (f2.type = 22 ∧ f2.offset = 2) :=
  ⟨{ name := "Kind", type := 3, offset := 0, embedded := false, tag := "", pkgPath := "", byteOffset := 0 }, { name := "N", type := 3, offset := 1, embedded := false, tag := "", pkgPath := "", byteOffset := 8 }, { name := "Bytes", type := 22, offset := 2, embedded := false, tag := "", pkgPath := "", byteOffset := 16 },
    by kernel_rfl, ⟨rfl, rfl⟩, ⟨rfl, rfl⟩, ⟨rfl, rfl⟩⟩
theorem req_of {fuel : Nat} {cs : List Value} {y : DataW H × List MemPlace} (h : DataW.trod enc Tryz.prog W 0 sp held fuel 34 cs = some y) : ∃ (k n : Int) (A : Option Addr) (sl sc : Nat) (l : List UInt8), cs = [i64v k, i64v n, .slice A sl sc] ∧ Reads W A sl (l.map u8v) ∧ (sl ≤ sc ∧ sc ≤ maxLen) := by
  obtain ⟨xs, n, _, _, hlen, hxl, hf⟩ := DataW.trod_struct fieldsQ h
  obtain ⟨f0, f1, f2, hfs, ⟨t0, o0⟩, ⟨t1, o1⟩, t2, o2⟩ := fieldsQ_is
  have c3 : Tryz.prog.cellsOf 34 = 3 := by kernel_rfl
  have ci : Tryz.prog.cellsOf 3 = 1 := by kernel_rfl
  have cl : Tryz.prog.cellsOf 22 = 1 := by kernel_rfl
  have hs : (Tryz.prog.fieldsOf 34).size = 3 := by rw [← Array.length_toList, hfs]; rfl
  rw [hs] at hxl
  rw [c3] at hlen
  have g0 := hf 0 f0 (field_at hfs 0 f0 rfl)
  have g1 := hf 1 f1 (field_at hfs 1 f1 rfl)
  have g2 := hf 2 f2 (field_at hfs 2 f2 rfl)
  rw [t0, o0, ci, List.getElem?_eq_getElem (by omega)] at g0
  rw [t1, o1, ci, List.getElem?_eq_getElem (by omega)] at g1
  rw [t2, o2, cl, List.getElem?_eq_getElem (by omega)] at g2
  obtain ⟨a, e0, _⟩ := int_of g0
  obtain ⟨b, e1, _⟩ := int_of g1
  obtain ⟨A, sl, sc, e2, l, hr, hb⟩ := u8s_of g2
  refine ⟨a, b, A, sl, sc, l, ?_, hr, hb⟩
  have q0 := split2 cs 0 1
  have q1 := split2 cs 1 1
  have q2 := split2 cs 2 1
  rw [List.drop_of_length_le (show cs.length ≤ 2 + 1 by omega), e2] at q2
  rw [e1, q2] at q1
  rw [e0, q1] at q0
  simpa using q0
end
end Go.Proofs.YtpafenlcgcenlaaGreatDoor
namespace Go.Proofs.YtpafenlcgcenlaaGreatDoor
open Go Go.ChangeShapes Go.WideShapes Go.ChangeAt Go.RowKit
set_option linter.unusedVariables false
set_option linter.unusedSimpArgs false
def ReqsAt (w : World) (A : Option Addr) (n : Nat) : Prop :=
  ∀ k, k < n → ∃ (g o : Nat) (qk qn : Int) (SB : Option Addr) (sl sc : Nat) (l : List UInt8), A = some ⟨g, o, none⟩ ∧ g < w.heap.size ∧ w.rangeAt g (o + k * 3) [i64v qk, i64v qn, .slice SB sl sc] ∧ Reads w SB sl (l.map u8v) ∧ (sl ≤ sc ∧ sc ≤ maxLen)
def FactsAt (w : World) (A : Option Addr) (n : Nat) : Prop :=
  ∀ k, k < n → ∃ (g o : Nat) (f : Fc), A = some ⟨g, o, none⟩ ∧ g < w.heap.size ∧ w.rangeAt g (o + k * 35) f.cells ∧ f.d.length = 32
section
variable {H : Type} {enc : TypeId × Value → H} {W : World} {held : Bool}
theorem reqs_of {fuel : Nat} {cs : List Value} {y : DataW H × List MemPlace} (h : DataW.trod enc Tryz.prog W 0 (fun _ => true) held fuel 25 cs = some y) :
    cs = [.slice none 0 0] ∨ ∃ a len cap, cs = [.slice (some a) len cap] ∧ len ≤ cap ∧ cap ≤ maxLen ∧ ReqsAt W (some a) len := by
  rcases Go.Deep.open_slice Tryz.underlying25 h with ⟨h0, _⟩ | ⟨a, len, cap, m, n, D, Pl, hcs, hb, hl, hm, hmm, hx, hi⟩
  · exact .inl h0
  · refine .inr ⟨a, len, cap, hcs, hl, hm, fun k hk => ?_⟩
    have hmk : k < m := by rw [hmm]; simp only [if_true]; omega
    have hC : Tryz.prog.cellsOf 34 = 3 := by kernel_rfl
    rw [hC] at hi
    obtain ⟨ds, hc, ht⟩ := hi k hmk
    obtain ⟨_, hlen, hat⟩ := World.cells?_some hc
    obtain ⟨qk, qn, SB, sl, sc, l, rfl, hr, hz⟩ := req_of ht
    have hsp : a.spot = none := by
      obtain ⟨ds', hc', -⟩ := hi 0 (Nat.lt_of_le_of_lt (Nat.zero_le _) hmk)
      obtain ⟨-, hlen', hat'⟩ := World.cells?_some hc'
      have h0 := hat' 0 (Nat.zero_lt_succ _)
      rw [List.getElem?_eq_getElem (by omega), Nat.zero_mul] at h0
      have h1 := World.cell?_spot h0
      simpa [Addr.add] using h1
    obtain ⟨g, o, spot⟩ := a
    have hspot : spot = none := hsp
    subst hspot
    have hcell : ∀ j, j < 3 → W.cell? ⟨g, o + k * 3 + j, none⟩ = [i64v qk, i64v qn, .slice SB sl sc][j]? := fun j hj => by
      have q := hat j hj
      rw [add_off, add_off] at q
      exact q
    have hlt := World.block_lt_of_cell? W _ (hcell 0 (by omega))
    refine ⟨g, o, qk, qn, SB, sl, sc, l, rfl, hlt, fun j u hu => ?_, hr, hz⟩
    have hj : j < 3 := by
      rcases Nat.lt_or_ge j 3 with h1 | h1
      · exact h1
      · rw [List.getElem?_eq_none (by simpa using h1)] at hu; cases hu
    rw [hcell j hj]
    exact hu
end
end Go.Proofs.YtpafenlcgcenlaaGreatDoor
