/- What a tenant keeps, as data: its cells; whole structs loaded, stored and compared. · Package meta: what may be kept. · meta.Right: may a Meta be? · update: Chunks, Len, when, fails, one. · A Meta's cells behind a store of one field; update.Len. · Whole images stored within a Meta; update.idle. -/
import Derived.Test.YtocbahahienigaaDoorMem
import Derived.Test.YtocbahahienigaaDoorLib
import Derived.Deep.MidRow
import Derived.Laws.Tables
import Derived.Stop.BytesEq
namespace Go.Proofs.YtocbahahienigaaDoor
open Go Go.RowKit
set_option linter.unusedVariables false
set_option linter.unusedSimpArgs false
structure Img where
  v : Int
  s : Int
  d : List UInt8
structure Mt where
  act : Int
  h0 : Img
  h1 : Img
  mn : Int
  ph : Int
  cm : Img
  got : Int
  tr : Int
def Img.cells (i : Img) : List Value := i64v i.v :: i64v i.s :: i.d.map u8v
def Mt.cells (m : Mt) : List Value := i64v m.act :: (m.h0.cells ++ (m.h1.cells ++ (i64v m.mn :: i64v m.ph :: (m.cm.cells ++ [i64v m.got, i64v m.tr]))))
structure Mt.Ok (m : Mt) : Prop where
  d0 : m.h0.d.length = 32
  d1 : m.h1.d.length = 32
  d2 : m.cm.d.length = 32
  act : -9223372036854775808 ≤ m.act ∧ m.act ≤ 9223372036854775807
def Img.zero : Img := ⟨0, 0, List.replicate 32 0⟩
def Mt.zero : Mt := ⟨0, Img.zero, Img.zero, 0, 0, Img.zero, 0, 0⟩
theorem Img.cells_len {i : Img} (h : i.d.length = 32) : i.cells.length = 34 := by simp [Img.cells, h]
theorem Mt.cells_len {m : Mt} (h : m.Ok) : m.cells.length = 107 := by simp [Mt.cells, Img.cells_len h.d0, Img.cells_len h.d1, Img.cells_len h.d2]
@[reducible] def zeroI : Array Value := #[.int .i64 0, .int .i64 0, .int .u8 0, .int .u8 0, .int .u8 0, .int .u8 0, .int .u8 0, .int .u8 0, .int .u8 0, .int .u8 0, .int .u8 0, .int .u8 0, .int .u8 0, .int .u8 0, .int .u8 0, .int .u8 0, .int .u8 0, .int .u8 0, .int .u8 0, .int .u8 0, .int .u8 0, .int .u8 0, .int .u8 0, .int .u8 0, .int .u8 0, .int .u8 0, .int .u8 0, .int .u8 0, .int .u8 0, .int .u8 0, .int .u8 0, .int .u8 0, .int .u8 0, .int .u8 0]
@[reducible] def zeroM : Array Value := #[.int .i64 0, .int .i64 0, .int .i64 0, .int .u8 0, .int .u8 0, .int .u8 0, .int .u8 0, .int .u8 0, .int .u8 0, .int .u8 0, .int .u8 0, .int .u8 0, .int .u8 0, .int .u8 0, .int .u8 0, .int .u8 0, .int .u8 0, .int .u8 0, .int .u8 0, .int .u8 0, .int .u8 0, .int .u8 0, .int .u8 0, .int .u8 0, .int .u8 0, .int .u8 0, .int .u8 0, .int .u8 0, .int .u8 0, .int .u8 0, .int .u8 0, .int .u8 0, .int .u8 0, .int .u8 0, .int .u8 0, .int .i64 0, .int .i64 0, .int .u8 0, .int .u8 0, .int .u8 0, .int .u8 0, .int .u8 0, .int .u8 0, .int .u8 0, .int .u8 0, .int .u8 0, .int .u8 0, .int .u8 0, .int .u8 0, .int .u8 0, .int .u8 0, .int .u8 0, .int .u8 0, .int .u8 0, .int .u8 0, .int .u8 0, .int .u8 0, .int .u8 0, .int .u8 0, .int .u8 0, .int .u8 0, .int .u8 0, .int .u8 0, .int .u8 0, .int .u8 0, .int .u8 0, .int .u8 0, .int .u8 0, .int .u8 0, .int .i64 0, .int .i64 0, .int .i64 0, .int .i64 0, .int .u8 0, .int .u8 0, .int .u8 0, .int .u8 0, .int .u8 0, .int .u8 0, .int .u8 0, .int .u8 0, .int .u8 0, .int .u8 0, .int .u8 0, .int .u8 0, .int .u8 0, .int .u8 0, .int .u8 0, .int .u8 0, .int .u8 0, .int .u8 0, .int .u8 0, .int .u8 0, .int .u8 0, .int .u8 0, .int .u8 0, .int .u8 0, .int .u8 0, .int .u8 0, .int .u8 0, .int .u8 0, .int .u8 0, .int .u8 0, .int .u8 0, .int .u8 0, .int .i64 0, .int .i64 0]
@[reducible] def zeroC : Array Value := #[.int .i64 0, .int .i64 0, .int .i64 0, .int .u8 0, .int .u8 0, .int .u8 0, .int .u8 0, .int .u8 0, .int .u8 0, .int .u8 0, .int .u8 0, .int .u8 0, .int .u8 0, .int .u8 0, .int .u8 0, .int .u8 0, .int .u8 0, .int .u8 0, .int .u8 0, .int .u8 0, .int .u8 0, .int .u8 0, .int .u8 0, .int .u8 0, .int .u8 0, .int .u8 0, .int .u8 0, .int .u8 0, .int .u8 0, .int .u8 0, .int .u8 0, .int .u8 0, .int .u8 0, .int .u8 0, .int .u8 0, .int .i64 0, .int .i64 0, .int .u8 0, .int .u8 0, .int .u8 0, .int .u8 0, .int .u8 0, .int .u8 0, .int .u8 0, .int .u8 0, .int .u8 0, .int .u8 0, .int .u8 0, .int .u8 0, .int .u8 0, .int .u8 0, .int .u8 0, .int .u8 0, .int .u8 0, .int .u8 0, .int .u8 0, .int .u8 0, .int .u8 0, .int .u8 0, .int .u8 0, .int .u8 0, .int .u8 0, .int .u8 0, .int .u8 0, .int .u8 0, .int .u8 0, .int .u8 0, .int .u8 0, .int .u8 0, .int .i64 0, .int .i64 0, .int .i64 0, .int .i64 0, .int .u8 0, .int .u8 0, .int .u8 0, .int .u8 0, .int .u8 0, .int .u8 0, .int .u8 0, .int .u8 0, .int .u8 0, .int .u8 0, .int .u8 0, .int .u8 0, .int .u8 0, .int .u8 0, .int .u8 0, .int .u8 0, .int .u8 0, .int .u8 0, .int .u8 0, .int .u8 0, .int .u8 0, .int .u8 0, .int .u8 0, .int .u8 0, .int .u8 0, .int .u8 0, .int .u8 0, .int .u8 0, .int .u8 0, .int .u8 0, .int .u8 0, .int .u8 0, .int .i64 0, .int .i64 0, .int .i64 0, .int .i64 0, .int .i64 0]
theorem zeroI_eq : zeroI = Img.zero.cells.toArray := by kernel_rfl
theorem zeroM_eq : zeroM = Mt.zero.cells.toArray := by kernel_rfl
theorem zeroC_eq : zeroC = (Mt.zero.cells ++ [i64v 0, i64v 0, i64v 0]).toArray := by kernel_rfl
theorem Mt.zero_ok : Mt.zero.Ok := ⟨rfl, rfl, rfl, by decide, by decide⟩
theorem Img.one (i : Img) : ∀ u ∈ i.cells, u.oneCell' = true := by
  intro u hu
  simp only [Img.cells, List.mem_cons] at hu
  rcases hu with rfl | rfl | hu
  · rfl
  · rfl
  · exact u8v_one _ u hu
theorem Mt.one (m : Mt) : ∀ u ∈ m.cells, u.oneCell' = true := by
  intro u hu
  simp only [Mt.cells, List.mem_cons, List.mem_append, List.not_mem_nil, or_false] at hu
  rcases hu with rfl | hu | hu | rfl | rfl | hu | rfl | rfl
  · rfl
  · exact Img.one _ u hu
  · exact Img.one _ u hu
  · rfl
  · rfl
  · exact Img.one _ u hu
  · rfl
  · rfl
/-! ### where the cells lie -/
section
variable {m : Mt}
theorem Mt.c0 : m.cells[0]? = some (i64v m.act) := rfl
theorem Mt.c_h0 (h : m.Ok) : (m.cells.drop 1).take 34 = m.h0.cells := by
  simp only [Mt.cells, List.drop_succ_cons, List.drop_zero]
  rw [List.take_append_of_le_length (by rw [Img.cells_len h.d0]; omega), List.take_of_length_le (by rw [Img.cells_len h.d0]; omega)]
theorem Mt.c_h1 (h : m.Ok) : (m.cells.drop 35).take 34 = m.h1.cells := by
  simp only [Mt.cells, List.drop_succ_cons]
  rw [List.drop_append, Img.cells_len h.d0, List.drop_of_length_le (by rw [Img.cells_len h.d0]; omega), List.nil_append, Nat.sub_self, List.drop_zero, List.take_append_of_le_length (by rw [Img.cells_len h.d1]; omega), List.take_of_length_le (by rw [Img.cells_len h.d1]; omega)]
theorem Mt.drop69 (h : m.Ok) : m.cells.drop 69 = i64v m.mn :: i64v m.ph :: (m.cm.cells ++ [i64v m.got, i64v m.tr]) := by
  simp only [Mt.cells, List.drop_succ_cons]
  rw [List.drop_append, Img.cells_len h.d0, List.drop_of_length_le (by rw [Img.cells_len h.d0]; omega), List.nil_append, List.drop_append, Img.cells_len h.d1, List.drop_of_length_le (by rw [Img.cells_len h.d1]; omega), List.nil_append]
  rfl
theorem Mt.c_cm (h : m.Ok) : (m.cells.drop 71).take 34 = m.cm.cells := by
  have e : m.cells.drop 71 = (m.cells.drop 69).drop 2 := by rw [List.drop_drop]
  rw [e, Mt.drop69 h]
  simp only [List.drop_succ_cons, List.drop_zero]
  rw [List.take_append_of_le_length (by rw [Img.cells_len h.d2]; omega), List.take_of_length_le (by rw [Img.cells_len h.d2]; omega)]
theorem Mt.c69 (h : m.Ok) : m.cells[69]? = some (i64v m.mn) := by
  have e : m.cells[69]? = (m.cells.drop 69)[0]? := by rw [List.getElem?_drop]
  rw [e, Mt.drop69 h]; rfl
theorem Mt.c70 (h : m.Ok) : m.cells[70]? = some (i64v m.ph) := by
  have e : m.cells[70]? = (m.cells.drop 69)[1]? := by rw [List.getElem?_drop]
  rw [e, Mt.drop69 h]; rfl
theorem Mt.c_tail (h : m.Ok) (i : Nat) (hi : i < 2) : m.cells[105 + i]? = [i64v m.got, i64v m.tr][i]? := by
  have e : m.cells[105 + i]? = (m.cells.drop 69)[36 + i]? := by rw [List.getElem?_drop]; congr 1; omega
  rw [e, Mt.drop69 h, show 36 + i = (34 + i) + 1 + 1 from by omega]
  simp only [List.getElem?_cons_succ]
  rw [List.getElem?_append_right (by rw [Img.cells_len h.d2]; omega), Img.cells_len h.d2]
  congr 1
  omega
theorem Mt.c105 (h : m.Ok) : m.cells[105]? = some (i64v m.got) := Mt.c_tail h 0 (by omega)
theorem Mt.c106 (h : m.Ok) : m.cells[106]? = some (i64v m.tr) := Mt.c_tail h 1 (by omega)
theorem Mt.sub (k j : Nat) (l : List Value) (e : (m.cells.drop k).take 34 = l) (hj : j < 34) : m.cells[k + j]? = l[j]? := by
  rw [← e, List.getElem?_take, if_pos hj, List.getElem?_drop]
theorem Mt.c1 (h : m.Ok) : m.cells[1]? = some (i64v m.h0.v) := Mt.sub 1 0 _ (Mt.c_h0 h) (by omega)
theorem Mt.c2 (h : m.Ok) : m.cells[2]? = some (i64v m.h0.s) := Mt.sub 1 1 _ (Mt.c_h0 h) (by omega)
theorem Mt.c35 (h : m.Ok) : m.cells[35]? = some (i64v m.h1.v) := Mt.sub 35 0 _ (Mt.c_h1 h) (by omega)
theorem Mt.c36 (h : m.Ok) : m.cells[36]? = some (i64v m.h1.s) := Mt.sub 35 1 _ (Mt.c_h1 h) (by omega)
theorem Mt.c71 (h : m.Ok) : m.cells[71]? = some (i64v m.cm.v) := Mt.sub 71 0 _ (Mt.c_cm h) (by omega)
theorem Mt.c72 (h : m.Ok) : m.cells[72]? = some (i64v m.cm.s) := Mt.sub 71 1 _ (Mt.c_cm h) (by omega)
end
/-- A block that holds these cells. -/
theorem Blk.range {w : World} {g : Nat} {t : TypeId} {l : List Value} (h : Blk w g t l.toArray) (o n : Nat) (hn : o + n ≤ l.length) : w.rangeAt g o ((l.drop o).take n) := by
  intro j u hu
  have hj : j < n := by
    rcases Nat.lt_or_ge j n with h1 | h1
    · exact h1
    · rw [List.getElem?_eq_none (by rw [List.length_take]; omega)] at hu; cases hu
  rw [List.getElem?_take, if_pos hj, List.getElem?_drop] at hu
  rw [h.cell]
  simpa using hu
theorem Blk.whole {w : World} {g : Nat} {t : TypeId} {l : List Value} (h : Blk w g t l.toArray) : w.rangeAt g 0 l := by
  have := h.range 0 l.length (by omega)
  simpa using this
/-- A load and a store of a whole api.Image, sealed. -/
noncomputable def sldI (x : Value) : Sem Value := Instr.loadAt 25 x
theorem sldI_seal (x : Value) : Instr.loadAt 25 x = sldI x := rfl
theorem info_sI : (Tryd.prog.info? 25).map (·.size) = some 34 := by kernel_rfl
theorem run_sldI {W : World} {g o : Nat} {cs : List Value} (hs : cs.length = 34) (h : W.rangeAt g o cs) : (sldI (.pointer (some ⟨g, o, none⟩))).run Tryd.prog W = .ok (.agg cs.toArray) W :=
  run_loadAt_mid (P := Tryd.prog) W g o 25 cs _ h Tryd.underlying25 rfl (by rw [hs]; exact info_sI)
attribute [local go_sem ↓] sldI_seal
/-! ### comparisons -/
def Img.same (a b : Img) : Bool := a.v == b.v && (a.s == b.s && a.d == b.d)
theorem sizeOf_u8m (w : World) : (sizeOf 5).run Tryd.prog w = .ok 1 w := by
  obtain ⟨i0, hi, hz0, hz1, hz2⟩ := info_parts info_u8
  simp [sizeOf, typeInfo, hi, hz1]
section
variable {P : Program}
theorem eqF_cons (w : World) (d : Nat) (xs ys : Array Value) (f : Field) (fs : List Field) (hn : f.name ≠ "_") (a b : Value) (r : Bool) (ha : (part f.type xs f.offset).run P w = .ok a w) (hb : (part f.type ys f.offset).run P w = .ok b w)
    (hr : (Op.equalIn d f.type a b).run P w = .ok r w) : (Op.eqFields d xs ys (f :: fs)).run P w = if r = true then (Op.eqFields d xs ys fs).run P w else .ok false w := by
  rw [Op.eqFields, if_pos hn]
  simp only [Sem.run_bind, ha, hb, hr, Result.andThen_ok]
  cases r <;> simp
theorem part_one (w : World) (t : TypeId) (k : IntKind) (ht : P.underlying t = some (.int k)) (cs : List Value) (o : Nat) (v : Value) (hv : cs[o]? = some v) : (part t cs.toArray o).run P w = .ok v w := by
  simp [part, isAgg, run_underlying ht, hv]
theorem size_of (w : World) (t : TypeId) (n : Nat) (hs : (P.info? t).map (·.size) = some n) : (sizeOf t).run P w = .ok n w := by
  cases hq : P.info? t with
  | none => rw [hq] at hs; cases hs
  | some i =>
    rw [hq] at hs
    have h2 : i.size = n := by simpa using hs
    simp [sizeOf, typeInfo, hq, h2]
theorem part_agg (w : World) (t : TypeId) (D : TypeDesc) (ht : P.underlying t = some D) (hD : D.isRow = true) (n : Nat) (hs : (P.info? t).map (·.size) = some n) (cs l : List Value) (o : Nat) (hl : (cs.drop o).take n = l) : (part t cs.toArray o).run P w = .ok (.agg l.toArray) w := by
  have h2 := size_of (P := P) w t n hs
  have h3 : (isAgg t).run P w = .ok true w := by
    unfold isAgg
    rw [Sem.run_bind, run_underlying ht w]
    cases D <;> simp_all
  unfold part
  simp [h2, h3]
  rw [← hl]
end
theorem mbool_ret {a b : Bool} (h : a = b) : Ending.returned (.bool a) = .returned (.bool b) := by rw [h]
theorem info_sD : (Tryd.prog.info? 23).map (·.size) = some 32 := by kernel_rfl
theorem fieldsI : Tryd.prog.underlying 25 = some (.struct (Tryd.prog.fieldsOf 25)) := by kernel_rfl
theorem heldI : Tryd.prog.stoodInHeld 25 = false := by kernel_rfl
theorem fieldsI_is : ∃ f0 f1 f2 : Field, (Tryd.prog.fieldsOf 25).toList = [f0, f1, f2] ∧ (f0.name ≠ "_" ∧ f0.type = 3 ∧ f0.offset = 0) ∧ (f1.name ≠ "_" ∧ f1.type = 3 ∧ f1.offset = 1) ∧ (f2.name ≠ "_" ∧ f2.type = 23 ∧ f2.offset = 2) :=
  ⟨{ name := "Version", type := 3, offset := 0, embedded := false, tag := "", pkgPath := "", byteOffset := 0 }, { name := "Size", type := 3, offset := 1, embedded := false, tag := "", pkgPath := "", byteOffset := 8 }, { name := "Digest", type := 23, offset := 2, embedded := false, tag := "", pkgPath := "", byteOffset := 16 },
    by kernel_rfl, ⟨by decide, rfl, rfl⟩, ⟨by decide, rfl, rfl⟩, ⟨by decide, rfl, rfl⟩⟩
theorem eqI_run (d : Nat) (a b : Img) (ha : a.d.length = 32) (hb : b.d.length = 32) (w : World) :
    (Op.equalIn (d + 3) 25 (.agg a.cells.toArray) (.agg b.cells.toArray)).run Tryd.prog w = .ok (a.same b) w := by
  rw [run_equalIn_struct w (d + 2) 25 _ _ fieldsI heldI]
  obtain ⟨f0, f1, f2, hf, ⟨n0, t0, o0⟩, ⟨n1, t1, o1⟩, n2, t2, o2⟩ := fieldsI_is
  have pD : ∀ c : Img, c.d.length = 32 → (part 23 c.cells.toArray 2).run Tryd.prog w = .ok (.agg (c.d.map u8v).toArray) w := fun c hc =>
    part_agg w 23 _ Tryd.underlying23 rfl 32 info_sD c.cells _ 2 (by simp only [Img.cells, List.drop_succ_cons, List.drop_zero]; rw [List.take_of_length_le (by simp [hc])])
  rw [hf, eqF_cons w (d + 2) _ _ f0 _ n0 (i64v a.v) (i64v b.v) (a.v == b.v) (by rw [t0, o0]; exact part_one w _ _ Tryd.underlying3 _ _ _ rfl) (by rw [t0, o0]; exact part_one w _ _ Tryd.underlying3 _ _ _ rfl) (by rw [t0]; exact run_equalIn_int w (d + 1) _ .i64 .i64 _ _ Tryd.underlying3),
    eqF_cons w (d + 2) _ _ f1 _ n1 (i64v a.s) (i64v b.s) (a.s == b.s) (by rw [t1, o1]; exact part_one w _ _ Tryd.underlying3 _ _ _ rfl) (by rw [t1, o1]; exact part_one w _ _ Tryd.underlying3 _ _ _ rfl) (by rw [t1]; exact run_equalIn_int w (d + 1) _ .i64 .i64 _ _ Tryd.underlying3),
    eqF_cons w (d + 2) _ _ f2 _ n2 (.agg (a.d.map u8v).toArray) (.agg (b.d.map u8v).toArray) (a.d == b.d) (by rw [t2, o2]; exact pD a ha) (by rw [t2, o2]; exact pD b hb) (by rw [t2]; exact run_equalIn_bytes w d _ 5 32 Tryd.underlying23 Tryd.underlying5 sizeOf_u8m a.d b.d ha hb)]
  unfold Img.same
  cases a.v == b.v <;> cases a.s == b.s <;> cases a.d == b.d <;> simp [Op.eqFields]
theorem eqlI (a b : Img) (ha : a.d.length = 32) (hb : b.d.length = 32) (w : World) : (binOp .eql 25 (.agg a.cells.toArray) (.agg b.cells.toArray)).run Tryd.prog w = .ok (.bool (a.same b)) w := by
  rw [run_eql_struct, eqI_run 9997 a b ha hb w]
  rfl
theorem Img.same_refl (a : Img) : a.same a = true := by unfold Img.same; simp
theorem Img.same_iff (a b : Img) : a.same b = true ↔ a = b := by
  unfold Img.same
  rcases a with ⟨a1, a2, a3⟩
  rcases b with ⟨b1, b2, b3⟩
  simp
end Go.Proofs.YtocbahahienigaaDoor
namespace Go.Proofs.YtocbahahienigaaDoor
open Go Go.RowKit
set_option linter.unusedVariables false
set_option linter.unusedSimpArgs false
attribute [local go_sem ↓] sldI_seal
/-- May an image be? -/
def Img.none (i : Img) : Bool := i.same Img.zero
def Img.may (i : Img) : Bool := if i.v = 0 then i.none else if i.s = 0 then i.none else decide (0 < i.v) && (decide (i.v ≤ 1073741824) && (decide (0 < i.s) && decide (i.s ≤ 1920)))
theorem Img.may_b {i : Img} (h : i.may = true) : (0 ≤ i.v ∧ i.v ≤ 1073741824) ∧ 0 ≤ i.s ∧ i.s ≤ 1920 := by
  have hz : i.none = true → i = Img.zero := fun h => (Img.same_iff _ _).1 h
  unfold Img.may at h
  split at h
  · rw [hz h]; decide
  · split at h
    · rw [hz h]; decide
    · simp at h; omega
def Mt.have_ (m : Mt) (x : Int) : Img := if x = 0 then m.h0 else m.h1
def Mt.oth (m : Mt) : Img := m.have_ (1 - m.act)
def Img.chk (i : Img) : Int := (i.s + 319) / 320
theorem Mt.oth0 {m : Mt} (h : m.act = 0) : m.oth = m.h1 := by unfold Mt.oth Mt.have_; rw [h]; rfl
theorem Mt.oth1 {m : Mt} (h : m.act = 1) : m.oth = m.h0 := by unfold Mt.oth Mt.have_; rw [h]; rfl
def Mt.phaseB (m : Mt) : Bool :=
  if m.ph = 0 then m.cm.none && (m.got == 0 && m.tr == 0)
  else if m.ph = 1 ∨ m.ph = 2 then !m.cm.none && (m.oth.none && (m.tr == 0 && (m.got == m.cm.chk || (m.ph == 1 && decide (m.got < m.cm.chk)))))
  else if m.ph = 3 then m.cm.none && (m.got == 0 && !m.oth.none)
  else false
end Go.Proofs.YtocbahahienigaaDoor
namespace Go.Proofs.YtocbahahienigaaDoor
open Go Go.RowKit
set_option linter.unusedVariables false
set_option linter.unusedSimpArgs false
attribute [local go_sem ↓] sldI_seal
def Mt.right (m : Mt) : Bool :=
  decide (0 ≤ m.act) && (decide (m.act ≤ 1) && (m.h0.may && (m.h1.may && (m.cm.may && (!(m.have_ m.act).none && (decide (0 ≤ m.mn) && (decide (m.mn ≤ 1073741824) && (decide (0 ≤ m.got) && (decide (m.got ≤ 6) && (decide (0 ≤ m.tr) && (decide (m.tr ≤ 2) && m.phaseB)))))))))))
end Go.Proofs.YtocbahahienigaaDoor
namespace Go.Proofs.YtocbahahienigaaDoor
open Go Go.RowKit
set_option linter.unusedVariables false
set_option linter.unusedSimpArgs false
theorem Blk.setRow_m {w : World} {g : Nat} {t : TypeId} {old : Array Value} (h : Blk w g t old) (cs : Array Value) : Blk (w.setRow g cs) g t cs := setRow_heap w g old cs t _ h
theorem Blk.setRow_mf {w : World} {g k : Nat} {t : TypeId} {old : Array Value} (h : Blk w k t old) (cs : Array Value) (hk : k ≠ g) : Blk (w.setRow g cs) k t old := (setRow_other w g k cs hk).trans h
theorem below_setRow_m {B g : Nat} {w0 w : World} (hb : Below B w0 w) (hBg : B ≤ g) (cs : Array Value) : Below B w0 (w.setRow g cs) :=
  ⟨hb.os, hb.tape, hb.output, by simpa [World.setRow] using hb.size, fun k hk => (setRow_other w g k cs (by omega)).trans (hb.block k hk)⟩
attribute [local go_sem ↓] sldI_seal
def chunksZ (n : Int) : Int := if n < 1 then 0 else (n - 1) / 320 + 1
/-- What a request does: the cells. -/
def chg (m : Mt) (e n g : Int) : List Value := m.cells ++ [i64v e, i64v n, i64v g]
theorem chg_len {m : Mt} (h : m.Ok) (e n g : Int) : (chg m e n g).length = 110 := by unfold chg; rw [List.length_append, Mt.cells_len h]; rfl
theorem chg_one (m : Mt) (e n g : Int) : ∀ u ∈ chg m e n g, u.oneCell' = true := by
  intro u hu
  simp only [chg, List.mem_append, List.mem_cons, List.not_mem_nil, or_false] at hu
  rcases hu with hu | rfl | rfl | rfl
  · exact Mt.one m u hu
  · rfl
  · rfl
  · rfl
theorem foldSet (cs : List Value) : ∀ (k off : Nat) (z : List Value), off + k + cs.length ≤ z.length →
    (cs.zipIdx k).foldl (fun (a : Array Value) (x : Value × Nat) => a.setIfInBounds (off + x.2) x.1) z.toArray = (z.take (off + k) ++ cs ++ z.drop (off + k + cs.length)).toArray := by
  induction cs with
  | nil => intro k off z h; simp
  | cons c cs ih =>
    intro k off z h
    simp only [List.length_cons] at h
    rw [List.zipIdx_cons, List.foldl_cons, List.setIfInBounds_toArray, ih (k + 1) off (z.set (off + k) c) (by rw [List.length_set]; omega)]
    congr 1
    rw [show off + (k + 1) = off + k + 1 from by omega]
    rw [List.take_succ_eq_append_getElem (by rw [List.length_set]; omega), List.getElem_set_self, List.take_set_of_le (Nat.le_refl _), List.drop_set_of_lt (by omega)]
    simp only [List.length_cons, List.append_assoc, List.singleton_append, List.cons_append, List.nil_append]
    rw [show off + k + 1 + cs.length = off + k + (cs.length + 1) from by omega]
theorem fill_one (place : Nat → Option (Nat × Nat)) (z cs : List Value) (i off : Nat) (rest : List (Nat × Value)) (hp : place i = some (off, cs.length)) (hz : off + cs.length ≤ z.length) :
    Instr.fill place z.toArray ((i, .agg cs.toArray) :: rest) = Instr.fill place (z.take off ++ cs ++ z.drop (off + cs.length)).toArray rest := by
  have hf := foldSet cs 0 off z (by omega)
  rw [Instr.fill, hp]
  simp only [Value.cells, List.size_toArray, ne_eq, not_true_eq_false, decide_false, Bool.false_or]
  rw [if_neg (by simp; omega)]
  rw [← Array.foldl_toList, Array.toList_zipIdx]
  simp only [Nat.add_zero] at hf
  rw [hf]
-- (no rule here)
/-- The first error of some. -/
def firstE : List Int → Int
  | [] => 0
  | e :: l => if e = 0 then firstE l else e
def oneM (m : Mt) (l : List Int) : List Value := if firstE l = 0 then chg m 0 0 0 else chg Mt.zero (firstE l) 0 0
end Go.Proofs.YtocbahahienigaaDoor
namespace Go.Proofs.YtocbahahienigaaDoor
open Go Go.RowKit
set_option linter.unusedVariables false
set_option linter.unusedSimpArgs false
theorem set_mid (A B : List Value) (x u : Value) (k : Nat) (hk : A.length = k) : (A ++ x :: B).set k u = A ++ u :: B := by
  subst hk
  rw [List.set_append_right _ _ (Nat.le_refl _), Nat.sub_self, List.set_cons_zero]
section
variable {m : Mt}
theorem Mt.set0 (v : Int) : m.cells.set 0 (i64v v) = ({ m with act := v } : Mt).cells := rfl
theorem Mt.set69 (h : m.Ok) (v : Int) : m.cells.set 69 (i64v v) = ({ m with mn := v } : Mt).cells := by
  have e : m.cells = (i64v m.act :: (m.h0.cells ++ m.h1.cells)) ++ (i64v m.mn :: (i64v m.ph :: (m.cm.cells ++ [i64v m.got, i64v m.tr]))) := by simp [Mt.cells]
  rw [e, set_mid _ _ _ _ 69 (by simp [Img.cells_len h.d0, Img.cells_len h.d1])]
  simp [Mt.cells]
theorem Mt.set70 (h : m.Ok) (v : Int) : m.cells.set 70 (i64v v) = ({ m with ph := v } : Mt).cells := by
  have e : m.cells = (i64v m.act :: (m.h0.cells ++ (m.h1.cells ++ [i64v m.mn]))) ++ (i64v m.ph :: (m.cm.cells ++ [i64v m.got, i64v m.tr])) := by simp [Mt.cells]
  rw [e, set_mid _ _ _ _ 70 (by simp [Img.cells_len h.d0, Img.cells_len h.d1])]
  simp [Mt.cells]
theorem Mt.set105 (h : m.Ok) (v : Int) : m.cells.set 105 (i64v v) = ({ m with got := v } : Mt).cells := by
  have e : m.cells = (i64v m.act :: (m.h0.cells ++ (m.h1.cells ++ (i64v m.mn :: i64v m.ph :: m.cm.cells)))) ++ (i64v m.got :: [i64v m.tr]) := by simp [Mt.cells]
  rw [e, set_mid _ _ _ _ 105 (by simp [Img.cells_len h.d0, Img.cells_len h.d1, Img.cells_len h.d2])]
  simp [Mt.cells]
theorem Mt.set106 (h : m.Ok) (v : Int) : m.cells.set 106 (i64v v) = ({ m with tr := v } : Mt).cells := by
  have e : m.cells = (i64v m.act :: (m.h0.cells ++ (m.h1.cells ++ (i64v m.mn :: i64v m.ph :: (m.cm.cells ++ [i64v m.got]))))) ++ (i64v m.tr :: []) := by simp [Mt.cells]
  rw [e, set_mid _ _ _ _ 106 (by simp [Img.cells_len h.d0, Img.cells_len h.d1, Img.cells_len h.d2])]
  simp [Mt.cells]
theorem Mt.put1 (h : m.Ok) (i : Img) : m.cells.take 1 ++ (i.cells ++ m.cells.drop 35) = ({ m with h0 := i } : Mt).cells := by
  have e : m.cells.drop 35 = m.h1.cells ++ (i64v m.mn :: i64v m.ph :: (m.cm.cells ++ [i64v m.got, i64v m.tr])) := by
    simp only [Mt.cells, List.drop_succ_cons]
    rw [List.drop_append, Img.cells_len h.d0, List.drop_of_length_le (by rw [Img.cells_len h.d0]; omega), List.nil_append, Nat.sub_self, List.drop_zero]
  rw [e]
  rfl
theorem Mt.put35 (h : m.Ok) (i : Img) : m.cells.take 35 ++ (i.cells ++ m.cells.drop 69) = ({ m with h1 := i } : Mt).cells := by
  have e : m.cells.take 35 = i64v m.act :: m.h0.cells := by
    simp only [Mt.cells, List.take_succ_cons]
    rw [List.take_append_of_le_length (by rw [Img.cells_len h.d0]; omega), List.take_of_length_le (by rw [Img.cells_len h.d0]; omega)]
  rw [e, Mt.drop69 h]
  rfl
theorem Mt.put71 (h : m.Ok) (i : Img) : m.cells.take 71 ++ (i.cells ++ m.cells.drop 105) = ({ m with cm := i } : Mt).cells := by
  have e : m.cells = (i64v m.act :: (m.h0.cells ++ (m.h1.cells ++ [i64v m.mn, i64v m.ph]))) ++ (m.cm.cells ++ [i64v m.got, i64v m.tr]) := by simp [Mt.cells]
  have l1 : (i64v m.act :: (m.h0.cells ++ (m.h1.cells ++ [i64v m.mn, i64v m.ph]))).length = 71 := by simp [Img.cells_len h.d0, Img.cells_len h.d1]
  rw [e, List.take_append_of_le_length (by omega), List.take_of_length_le (by omega), List.drop_append, List.drop_of_length_le (by omega), List.nil_append, l1, List.drop_append, List.drop_of_length_le (by rw [Img.cells_len h.d2]; omega), List.nil_append, Img.cells_len h.d2]
  simp [Mt.cells]
end
section
variable {W : World} {g : Nat} {t : TypeId} {m : Mt}
theorem Blk.setAct (B : Blk W g t m.cells.toArray) (v : Int) : Blk (W.setCell ⟨g, 0, none⟩ (i64v v)) g t ({ m with act := v } : Mt).cells.toArray := by
  have h := B.set_ 0 (i64v v)
  rw [List.setIfInBounds_toArray, Mt.set0] at h
  exact h
theorem Blk.setMin (B : Blk W g t m.cells.toArray) (o : m.Ok) (v : Int) : Blk (W.setCell ⟨g, 69, none⟩ (i64v v)) g t ({ m with mn := v } : Mt).cells.toArray := by
  have h := B.set_ 69 (i64v v)
  rw [List.setIfInBounds_toArray, Mt.set69 o] at h
  exact h
theorem Blk.setPhase (B : Blk W g t m.cells.toArray) (o : m.Ok) (v : Int) : Blk (W.setCell ⟨g, 70, none⟩ (i64v v)) g t ({ m with ph := v } : Mt).cells.toArray := by
  have h := B.set_ 70 (i64v v)
  rw [List.setIfInBounds_toArray, Mt.set70 o] at h
  exact h
theorem Blk.setGot (B : Blk W g t m.cells.toArray) (o : m.Ok) (v : Int) : Blk (W.setCell ⟨g, 105, none⟩ (i64v v)) g t ({ m with got := v } : Mt).cells.toArray := by
  have h := B.set_ 105 (i64v v)
  rw [List.setIfInBounds_toArray, Mt.set105 o] at h
  exact h
theorem Blk.setTrials (B : Blk W g t m.cells.toArray) (o : m.Ok) (v : Int) : Blk (W.setCell ⟨g, 106, none⟩ (i64v v)) g t ({ m with tr := v } : Mt).cells.toArray := by
  have h := B.set_ 106 (i64v v)
  rw [List.setIfInBounds_toArray, Mt.set106 o] at h
  exact h
end
theorem Blk.setCells {g : Nat} {t : TypeId} : ∀ (l : List Value) (o : Nat) (W : World) (cs : List Value), Blk W g t cs.toArray → o + l.length ≤ cs.length → Blk (W.setCells g o l) g t (cs.take o ++ (l ++ cs.drop (o + l.length))).toArray
  | [], o, W, cs, B, h => by
    rw [List.nil_append, List.length_nil, Nat.add_zero, List.take_append_drop]
    exact B
  | v :: r, o, W, cs, B, h => by
    have B1 := B.set_ o v
    rw [List.setIfInBounds_toArray] at B1
    rw [List.length_cons] at h
    have ih := Blk.setCells r (o + 1) _ (cs.set o v) B1 (by rw [List.length_set]; omega)
    have q : cs.set o v = (cs.take o ++ [v]) ++ cs.drop (o + 1) := by
      rw [List.set_eq_take_append_cons_drop, if_pos (by omega), List.append_assoc]
      rfl
    have ql : (cs.take o ++ [v]).length = o + 1 := by rw [List.length_append, List.length_take, List.length_singleton]; omega
    rw [q, List.take_append_of_le_length (by omega), List.take_of_length_le (by omega), List.drop_append, List.drop_of_length_le (by omega), List.nil_append, ql, List.drop_drop, show o + 1 + (o + 1 + r.length - (o + 1)) = o + (r.length + 1) by omega, List.append_assoc] at ih
    exact ih
/-- How long a chunk is. -/
def lenZ (size n : Int) : Int := if n < 0 ∨ chunksZ size ≤ n then 0 else min 320 (size - n * 320)
end Go.Proofs.YtocbahahienigaaDoor
namespace Go.Proofs.YtocbahahienigaaDoor
open Go Go.RowKit
set_option linter.unusedVariables false
set_option linter.unusedSimpArgs false
noncomputable def sstI (x v : Value) : Sem Unit := Instr.storeAt 25 x v
theorem sstI_seal (x v : Value) : Instr.storeAt 25 x v = sstI x v := rfl
theorem info_sI3 : (Tryd.prog.info? 25).map (·.size) = some 34 := by kernel_rfl
theorem run_sstI {W : World} {g : Nat} {t : TypeId} {cs : Array Value} (B : Blk W g t cs) (o : Nat) (ho : o + 34 ≤ cs.size) (i : Img) (hi : i.d.length = 32) :
    (sstI (.pointer (some ⟨g, o, none⟩)) (.agg i.cells.toArray)).run Tryd.prog W = .ok () (W.setCells g o i.cells) := by
  have hl := Img.cells_len hi
  refine run_storeAt_mid (P := Tryd.prog) W g o 25 i.cells.toArray ?_ (by rw [List.size_toArray, hl]; exact info_sI3) (by simpa using Img.one i)
  intro j hj
  rw [List.size_toArray, hl] at hj
  refine ⟨?_, B.frozen _⟩
  rw [B.cell, Array.getElem?_eq_getElem (by omega)]
  rfl
section
variable {W : World} {g : Nat} {t : TypeId} {m : Mt}
theorem Blk.putH0 (B : Blk W g t m.cells.toArray) (o : m.Ok) (i : Img) (hi : i.d.length = 32) : Blk (W.setCells g 1 i.cells) g t ({ m with h0 := i } : Mt).cells.toArray := by
  have h := Blk.setCells i.cells 1 W m.cells B (by rw [Mt.cells_len o, Img.cells_len hi]; omega)
  rw [Img.cells_len hi, Mt.put1 o] at h
  exact h
theorem Blk.putH1 (B : Blk W g t m.cells.toArray) (o : m.Ok) (i : Img) (hi : i.d.length = 32) : Blk (W.setCells g 35 i.cells) g t ({ m with h1 := i } : Mt).cells.toArray := by
  have h := Blk.setCells i.cells 35 W m.cells B (by rw [Mt.cells_len o, Img.cells_len hi]; omega)
  rw [Img.cells_len hi, Mt.put35 o] at h
  exact h
theorem Blk.putCm (B : Blk W g t m.cells.toArray) (o : m.Ok) (i : Img) (hi : i.d.length = 32) : Blk (W.setCells g 71 i.cells) g t ({ m with cm := i } : Mt).cells.toArray := by
  have h := Blk.setCells i.cells 71 W m.cells B (by rw [Mt.cells_len o, Img.cells_len hi]; omega)
  rw [Img.cells_len hi, Mt.put71 o] at h
  exact h
end
theorem below_setCells {B g : Nat} {w0 : World} (hBg : B ≤ g) : ∀ (l : List Value) (o : Nat) (w : World), Below B w0 w → Below B w0 (w.setCells g o l)
  | [], _, _, h => h
  | v :: r, o, w, h => below_setCells hBg r (o + 1) _ (h.setCell (by exact hBg) v)
end Go.Proofs.YtocbahahienigaaDoor
