/- What a tenant keeps, as data: its cells; whole structs loaded, stored and compared. · Package meta: what may be kept. · meta.Right: may a Meta be? · update: Chunks, Len, when, fails, one. · A Meta's cells behind a store of one field; update.Len. · Whole images stored within a Meta; update.idle. -/
import Derived.Test.YtpafenlcgcenlaaGreatDoorBase
import Derived.Deep.MidRow
import Derived.Laws.Tables
import Derived.Stop.BytesEq
namespace Go.Proofs.YtpafenlcgcenlaaGreatDoor
open Go Go.RowKit
set_option linter.unusedVariables false
set_option linter.unusedSimpArgs false
structure Img where
 v : Int
 s : Int
 d : List UInt8
structure Mt where
 act : Int
 h0 : Img
 h1 : Img
 mn : Int
 ph : Int
 cm : Img
 got : Int
 tr : Int
def Img.cells (i : Img) : List Value := i64v i.v :: i64v i.s :: i.d.map u8v
def Mt.cells (m : Mt) : List Value := i64v m.act :: (m.h0.cells ++ (m.h1.cells ++ (i64v m.mn :: i64v m.ph :: (m.cm.cells ++ [i64v m.got, i64v m.tr]))))
structure Mt.Ok (m : Mt) : Prop where
 d0 : m.h0.d.length = 32
 d1 : m.h1.d.length = 32
 d2 : m.cm.d.length = 32
 act : -9223372036854775808 ≤ m.act ∧ m.act ≤ 9223372036854775807
def Img.zero : Img := ⟨0, 0, List.replicate 32 0⟩
def Mt.zero : Mt := ⟨0, Img.zero, Img.zero, 0, 0, Img.zero, 0, 0⟩
theorem Img.cells_len {i : Img} (h : i.d.length = 32) : i.cells.length = 34 := by simp [Img.cells, h]
theorem Mt.cells_len {m : Mt} (h : m.Ok) : m.cells.length = 107 := by simp [Mt.cells, Img.cells_len h.d0, Img.cells_len h.d1, Img.cells_len h.d2]
@[reducible] def zeroI : Array Value := #[.int .i64 0, .int .i64 0, .int .u8 0, .int .u8 0, .int .u8 0, .int .u8 0, .int .u8 0, .int .u8 0, .int .u8 0, .int .u8 0, .int .u8 0, .int .u8 0, .int .u8 0, .int .u8 0, .int .u8 0, .int .u8 0, .int .u8 0, .int .u8 0, .int .u8 0, .int .u8 0, .int .u8 0, .int .u8 0, .int .u8 0, .int .u8 0, .int .u8 0, .int .u8 0, .int .u8 0, .int .u8 0, .int .u8 0, .int .u8 0, .int .u8 0, .int .u8 0, .int .u8 0, .int .u8 0]
@[reducible] def zeroM : Array Value := #[.int .i64 0, .int .i64 0, .int .i64 0, .int .u8 0, .int .u8 0, .int .u8 0, .int .u8 0, .int .u8 0, .int .u8 0, .int .u8 0, .int .u8 0, .int .u8 0, .int .u8 0, .int .u8 0, .int .u8 0, .int .u8 0, .int .u8 0, .int .u8 0, .int .u8 0, .int .u8 0, .int .u8 0, .int .u8 0, .int .u8 0, .int .u8 0, .int .u8 0, .int .u8 0, .int .u8 0, .int .u8 0, .int .u8 0, .int .u8 0, .int .u8 0, .int .u8 0, .int .u8 0, .int .u8 0, .int .u8 0, .int .i64 0, .int .i64 0, .int .u8 0, .int .u8 0, .int .u8 0, .int .u8 0, .int .u8 0, .int .u8 0, .int .u8 0, .int .u8 0, .int .u8 0, .int .u8 0, .int .u8 0, .int .u8 0, .int .u8 0, .int .u8 0, .int .u8 0, .int .u8 0, .int .u8 0, .int .u8 0, .int .u8 0, .int .u8 0, .int .u8 0, .int .u8 0, .int .u8 0, .int .u8 0, .int .u8 0, .int .u8 0, .int .u8 0, .int .u8 0, .int .u8 0, .int .u8 0, .int .u8 0, .int .u8 0, .int .i64 0, .int .i64 0, .int .i64 0, .int .i64 0, .int .u8 0, .int .u8 0, .int .u8 0, .int .u8 0, .int .u8 0, .int .u8 0, .int .u8 0, .int .u8 0, .int .u8 0, .int .u8 0, .int .u8 0, .int .u8 0, .int .u8 0, .int .u8 0, .int .u8 0, .int .u8 0, .int .u8 0, .int .u8 0, .int .u8 0, .int .u8 0, .int .u8 0, .int .u8 0, .int .u8 0, .int .u8 0, .int .u8 0, .int .u8 0, .int .u8 0, .int .u8 0, .int .u8 0, .int .u8 0, .int .u8 0, .int .u8 0, .int .i64 0, .int .i64 0]
@[reducible] def zeroC : Array Value := #[.int .i64 0, .int .i64 0, .int .i64 0, .int .u8 0, .int .u8 0, .int .u8 0, .int .u8 0, .int .u8 0, .int .u8 0, .int .u8 0, .int .u8 0, .int .u8 0, .int .u8 0, .int .u8 0, .int .u8 0, .int .u8 0, .int .u8 0, .int .u8 0, .int .u8 0, .int .u8 0, .int .u8 0, .int .u8 0, .int .u8 0, .int .u8 0, .int .u8 0, .int .u8 0, .int .u8 0, .int .u8 0, .int .u8 0, .int .u8 0, .int .u8 0, .int .u8 0, .int .u8 0, .int .u8 0, .int .u8 0, .int .i64 0, .int .i64 0, .int .u8 0, .int .u8 0, .int .u8 0, .int .u8 0, .int .u8 0, .int .u8 0, .int .u8 0, .int .u8 0, .int .u8 0, .int .u8 0, .int .u8 0, .int .u8 0, .int .u8 0, .int .u8 0, .int .u8 0, .int .u8 0, .int .u8 0, .int .u8 0, .int .u8 0, .int .u8 0, .int .u8 0, .int .u8 0, .int .u8 0, .int .u8 0, .int .u8 0, .int .u8 0, .int .u8 0, .int .u8 0, .int .u8 0, .int .u8 0, .int .u8 0, .int .u8 0, .int .i64 0, .int .i64 0, .int .i64 0, .int .i64 0, .int .u8 0, .int .u8 0, .int .u8 0, .int .u8 0, .int .u8 0, .int .u8 0, .int .u8 0, .int .u8 0, .int .u8 0, .int .u8 0, .int .u8 0, .int .u8 0, .int .u8 0, .int .u8 0, .int .u8 0, .int .u8 0, .int .u8 0, .int .u8 0, .int .u8 0, .int .u8 0, .int .u8 0, .int .u8 0, .int .u8 0, .int .u8 0, .int .u8 0, .int .u8 0, .int .u8 0, .int .u8 0, .int .u8 0, .int .u8 0, .int .u8 0, .int .u8 0, .int .i64 0, .int .i64 0, .int .i64 0, .int .i64 0, .int .i64 0]
theorem zeroI_eq : zeroI = Img.zero.cells.toArray := by kernel_rfl
theorem Mt.zero_ok : Mt.zero.Ok := ⟨rfl, rfl, rfl, by decide, by decide⟩
theorem Img.one (i : Img) : ∀ u ∈ i.cells, u.oneCell' = true := by
 intro u hu
 simp only [Img.cells, List.mem_cons] at hu
 rcases hu with rfl | rfl | hu
 ·
  rfl
 ·
  rfl
 ·
  exact u8v_one _ u hu
theorem Mt.one (m : Mt) : ∀ u ∈ m.cells, u.oneCell' = true := by
 intro u hu
 simp only [Mt.cells, List.mem_cons, List.mem_append, List.not_mem_nil, or_false] at hu
 rcases hu with rfl | hu | hu | rfl | rfl | hu | rfl | rfl
 ·
  rfl
 ·
  exact Img.one _ u hu
 ·
  exact Img.one _ u hu
 ·
  rfl
 ·
  rfl
 ·
  exact Img.one _ u hu
 ·
  rfl
 ·
  rfl
/-! ### where the cells lie -/
section
variable {m : Mt}
theorem Mt.c0 : m.cells[0]? = some (i64v m.act) := rfl
theorem Mt.c_h0 (h : m.Ok) : (m.cells.drop 1).take 34 = m.h0.cells := by
 simp only [Mt.cells, List.drop_succ_cons, List.drop_zero]
 rw [List.take_append_of_le_length (by rw [Img.cells_len h.d0]; omega), List.take_of_length_le (by rw [Img.cells_len h.d0]; omega)]
theorem Mt.c_h1 (h : m.Ok) : (m.cells.drop 35).take 34 = m.h1.cells := by
 simp only [Mt.cells, List.drop_succ_cons]
 rw [List.drop_append, Img.cells_len h.d0, List.drop_of_length_le (by rw [Img.cells_len h.d0]; omega), List.nil_append, Nat.sub_self, List.drop_zero, List.take_append_of_le_length (by rw [Img.cells_len h.d1]; omega), List.take_of_length_le (by rw [Img.cells_len h.d1]; omega)]
theorem Mt.drop69 (h : m.Ok) : m.cells.drop 69 = i64v m.mn :: i64v m.ph :: (m.cm.cells ++ [i64v m.got, i64v m.tr]) := by
 simp only [Mt.cells, List.drop_succ_cons]
 rw [List.drop_append, Img.cells_len h.d0, List.drop_of_length_le (by rw [Img.cells_len h.d0]; omega), List.nil_append, List.drop_append, Img.cells_len h.d1, List.drop_of_length_le (by rw [Img.cells_len h.d1]; omega), List.nil_append]
 rfl
theorem Mt.c_cm (h : m.Ok) : (m.cells.drop 71).take 34 = m.cm.cells := by
 have e : m.cells.drop 71 = (m.cells.drop 69).drop 2 := by rw [List.drop_drop]
 rw [e, Mt.drop69 h]
 simp only [List.drop_succ_cons, List.drop_zero]
 rw [List.take_append_of_le_length (by rw [Img.cells_len h.d2]; omega), List.take_of_length_le (by rw [Img.cells_len h.d2]; omega)]
theorem Mt.c69 (h : m.Ok) : m.cells[69]? = some (i64v m.mn) := by
 have e : m.cells[69]? = (m.cells.drop 69)[0]? := by rw [List.getElem?_drop]
 rw [e, Mt.drop69 h]; rfl
theorem Mt.c70 (h : m.Ok) : m.cells[70]? = some (i64v m.ph) := by
 have e : m.cells[70]? = (m.cells.drop 69)[1]? := by rw [List.getElem?_drop]
 rw [e, Mt.drop69 h]; rfl
theorem Mt.c_tail (h : m.Ok) (i : Nat) (hi : i < 2) : m.cells[105 + i]? = [i64v m.got, i64v m.tr][i]? := by
 have e : m.cells[105 + i]? = (m.cells.drop 69)[36 + i]? := by rw [List.getElem?_drop]; congr 1; omega
 rw [e, Mt.drop69 h, show 36 + i = (34 + i) + 1 + 1 from by omega]
 simp only [List.getElem?_cons_succ]
 rw [List.getElem?_append_right (by rw [Img.cells_len h.d2]; omega), Img.cells_len h.d2]
 congr 1
 omega
theorem Mt.c105 (h : m.Ok) : m.cells[105]? = some (i64v m.got) := Mt.c_tail h 0 (by omega)
theorem Mt.c106 (h : m.Ok) : m.cells[106]? = some (i64v m.tr) := Mt.c_tail h 1 (by omega)
theorem Mt.sub (k j : Nat) (l : List Value) (e : (m.cells.drop k).take 34 = l) (hj : j < 34) : m.cells[k + j]? = l[j]? := by
 rw [← e, List.getElem?_take, if_pos hj, List.getElem?_drop]
theorem Mt.c1 (h : m.Ok) : m.cells[1]? = some (i64v m.h0.v) := Mt.sub 1 0 _ (Mt.c_h0 h) (by omega)
theorem Mt.c2 (h : m.Ok) : m.cells[2]? = some (i64v m.h0.s) := Mt.sub 1 1 _ (Mt.c_h0 h) (by omega)
theorem Mt.c35 (h : m.Ok) : m.cells[35]? = some (i64v m.h1.v) := Mt.sub 35 0 _ (Mt.c_h1 h) (by omega)
theorem Mt.c71 (h : m.Ok) : m.cells[71]? = some (i64v m.cm.v) := Mt.sub 71 0 _ (Mt.c_cm h) (by omega)
theorem Mt.c72 (h : m.Ok) : m.cells[72]? = some (i64v m.cm.s) := Mt.sub 71 1 _ (Mt.c_cm h) (by omega)
end
/-- A block that holds these cells. -/
theorem Blk.range {w : World} {g : Nat} {t : TypeId} {l : List Value} (h : Blk w g t l.toArray) (o n : Nat) (hn : o + n ≤ l.length) : w.rangeAt g o ((l.drop o).take n) := by
 intro j u hu
 have hj : j < n := by
  rcases Nat.lt_or_ge j n with h1 | h1
  ·
   exact h1
  ·
   rw [List.getElem?_eq_none (by rw [List.length_take]; omega)] at hu; cases hu
 rw [List.getElem?_take, if_pos hj, List.getElem?_drop] at hu
 rw [h.cell]
 simpa using hu
theorem Blk.whole {w : World} {g : Nat} {t : TypeId} {l : List Value} (h : Blk w g t l.toArray) : w.rangeAt g 0 l := by
 have := h.range 0 l.length (by omega)
 simpa using this
/-- A load and a store of a whole api.Image, sealed. -/
noncomputable def sldI (x : Value) : Sem Value := Instr.loadAt 41 x
theorem sldI_seal (x : Value) : Instr.loadAt 41 x = sldI x := rfl
theorem info_sI : (Tryz.prog.info? 41).map (·.size) = some 34 := by kernel_rfl
theorem run_sldI {W : World} {g o : Nat} {cs : List Value} (hs : cs.length = 34) (h : W.rangeAt g o cs) : (sldI (.pointer (some ⟨g, o, none⟩))).run Tryz.prog W = .ok (.agg cs.toArray) W :=
 run_loadAt_mid (P := Tryz.prog) W g o 41 cs _ h Tryz.underlying41 rfl (by rw [hs]; exact info_sI)
/-- A load and a store of a whole api.Meta, sealed. -/
noncomputable def sldM (x : Value) : Sem Value := Instr.loadAt 44 x
theorem sldM_seal (x : Value) : Instr.loadAt 44 x = sldM x := rfl
theorem info_sM : (Tryz.prog.info? 44).map (·.size) = some 107 := by kernel_rfl
theorem run_sldM {W : World} {g o : Nat} {cs : List Value} (hs : cs.length = 107) (h : W.rangeAt g o cs) : (sldM (.pointer (some ⟨g, o, none⟩))).run Tryz.prog W = .ok (.agg cs.toArray) W :=
 run_loadAt_mid (P := Tryz.prog) W g o 44 cs _ h Tryz.underlying44 rfl (by rw [hs]; exact info_sM)
attribute [local go_sem ↓] sldI_seal sldM_seal
/-! ### comparisons -/
def Img.same (a b : Img) : Bool := a.v == b.v && (a.s == b.s && a.d == b.d)
theorem sizeOf_u8m (w : World) : (sizeOf 5).run Tryz.prog w = .ok 1 w := by
 obtain ⟨i0, hi, hz0, hz1, hz2⟩ := info_parts info_u8
 simp [sizeOf, typeInfo, hi, hz1]
section
variable {P : Program}
theorem eqF_cons (w : World) (d : Nat) (xs ys : Array Value) (f : Field) (fs : List Field) (hn : f.name ≠ "_") (a b : Value) (r : Bool) (ha : (part f.type xs f.offset).run P w = .ok a w) (hb : (part f.type ys f.offset).run P w = .ok b w)
  (hr : (Op.equalIn d f.type a b).run P w = .ok r w) : (Op.eqFields d xs ys (f :: fs)).run P w = if r = true then (Op.eqFields d xs ys fs).run P w else .ok false w := by
 rw [Op.eqFields, if_pos hn]
 simp only [Sem.run_bind, ha, hb, hr, Result.andThen_ok]
 cases r <;> simp
theorem part_one (w : World) (t : TypeId) (k : IntKind) (ht : P.underlying t = some (.int k)) (cs : List Value) (o : Nat) (v : Value) (hv : cs[o]? = some v) : (part t cs.toArray o).run P w = .ok v w := by
 simp [part, isAgg, run_underlying ht, hv]
theorem size_of (w : World) (t : TypeId) (n : Nat) (hs : (P.info? t).map (·.size) = some n) : (sizeOf t).run P w = .ok n w := by
 cases hq : P.info? t with
 | none => rw [hq] at hs; cases hs
 | some i =>
  rw [hq] at hs
  have h2 : i.size = n := by simpa using hs
  simp [sizeOf, typeInfo, hq, h2]
theorem part_agg (w : World) (t : TypeId) (D : TypeDesc) (ht : P.underlying t = some D) (hD : D.isRow = true) (n : Nat) (hs : (P.info? t).map (·.size) = some n) (cs l : List Value) (o : Nat) (hl : (cs.drop o).take n = l) : (part t cs.toArray o).run P w = .ok (.agg l.toArray) w := by
 have h2 := size_of (P := P) w t n hs
 have h3 : (isAgg t).run P w = .ok true w := by
  unfold isAgg
  rw [Sem.run_bind, run_underlying ht w]
  cases D <;> simp_all
 unfold part
 simp [h2, h3]
 rw [← hl]
end
theorem mbool_ret {a b : Bool} (h : a = b) : Ending.returned (.bool a) = .returned (.bool b) := by rw [h]
theorem info_sD : (Tryz.prog.info? 39).map (·.size) = some 32 := by kernel_rfl
theorem fieldsI : Tryz.prog.underlying 41 = some (.struct (Tryz.prog.fieldsOf 41)) := by kernel_rfl
theorem heldI : Tryz.prog.stoodInHeld 41 = false := by kernel_rfl
theorem fieldsI_is : ∃ f0 f1 f2 : Field, (Tryz.prog.fieldsOf 41).toList = [f0, f1, f2] ∧ (f0.name ≠ "_" ∧ f0.type = 3 ∧ f0.offset = 0) ∧ (f1.name ≠ "_" ∧ f1.type = 3 ∧ f1.offset = 1) ∧ (f2.name ≠ "_" ∧ f2.type = 39 ∧ f2.offset = 2) :=
 ⟨{ name := "Version", type := 3, offset := 0, embedded := false, tag := "", pkgPath := "", byteOffset := 0 }, { name := "Size", type := 3, offset := 1, embedded := false, tag := "", pkgPath := "", byteOffset := 8 }, { name := "Digest", type := 39, offset := 2, embedded := false, tag := "", pkgPath := "", byteOffset := 16 },
  by kernel_rfl, ⟨by decide, rfl, rfl⟩, ⟨by decide, rfl, rfl⟩, ⟨by decide, rfl, rfl⟩⟩
theorem eqI_run (d : Nat) (a b : Img) (ha : a.d.length = 32) (hb : b.d.length = 32) (w : World) :
  (Op.equalIn (d + 3) 41 (.agg a.cells.toArray) (.agg b.cells.toArray)).run Tryz.prog w = .ok (a.same b) w := by
 rw [run_equalIn_struct w (d + 2) 41 _ _ fieldsI heldI]
 obtain ⟨f0, f1, f2, hf, ⟨n0, t0, o0⟩, ⟨n1, t1, o1⟩, n2, t2, o2⟩ := fieldsI_is
 have pD : ∀ c : Img, c.d.length = 32 → (part 39 c.cells.toArray 2).run Tryz.prog w = .ok (.agg (c.d.map u8v).toArray) w := fun c hc =>
  part_agg w 39 _ Tryz.underlying39 rfl 32 info_sD c.cells _ 2 (by simp only [Img.cells, List.drop_succ_cons, List.drop_zero]; rw [List.take_of_length_le (by simp [hc])])
 rw [hf, eqF_cons w (d + 2) _ _ f0 _ n0 (i64v a.v) (i64v b.v) (a.v == b.v) (by rw [t0, o0]; exact part_one w _ _ Tryz.underlying3 _ _ _ rfl) (by rw [t0, o0]; exact part_one w _ _ Tryz.underlying3 _ _ _ rfl) (by rw [t0]; exact run_equalIn_int w (d + 1) _ .i64 .i64 _ _ Tryz.underlying3),
  eqF_cons w (d + 2) _ _ f1 _ n1 (i64v a.s) (i64v b.s) (a.s == b.s) (by rw [t1, o1]; exact part_one w _ _ Tryz.underlying3 _ _ _ rfl) (by rw [t1, o1]; exact part_one w _ _ Tryz.underlying3 _ _ _ rfl) (by rw [t1]; exact run_equalIn_int w (d + 1) _ .i64 .i64 _ _ Tryz.underlying3),
  eqF_cons w (d + 2) _ _ f2 _ n2 (.agg (a.d.map u8v).toArray) (.agg (b.d.map u8v).toArray) (a.d == b.d) (by rw [t2, o2]; exact pD a ha) (by rw [t2, o2]; exact pD b hb) (by rw [t2]; exact run_equalIn_bytes w d _ 5 32 Tryz.underlying39 Tryz.underlying5 sizeOf_u8m a.d b.d ha hb)]
 unfold Img.same
 cases a.v == b.v <;> cases a.s == b.s <;> cases a.d == b.d <;> simp [Op.eqFields]
theorem eqlI (a b : Img) (ha : a.d.length = 32) (hb : b.d.length = 32) (w : World) : (binOp .eql 41 (.agg a.cells.toArray) (.agg b.cells.toArray)).run Tryz.prog w = .ok (.bool (a.same b)) w := by
 rw [run_eql_struct, eqI_run 9997 a b ha hb w]
 rfl
theorem Img.same_refl (a : Img) : a.same a = true := by unfold Img.same; simp
theorem Img.same_iff (a b : Img) : a.same b = true ↔ a = b := by
 unfold Img.same
 rcases a with ⟨a1, a2, a3⟩
 rcases b with ⟨b1, b2, b3⟩
 simp
end Go.Proofs.YtpafenlcgcenlaaGreatDoor
namespace Go.Proofs.YtpafenlcgcenlaaGreatDoor
open Go Go.RowKit
set_option linter.unusedVariables false
set_option linter.unusedSimpArgs false
attribute [local go_sem ↓] sldI_seal sldM_seal
theorem eqA_refl (d : Nat) (a b : Img) (ha : a.d.length = 32) (hb : b.d.length = 32) (w : World) :
  (Op.equalIn (d + 4) 42 (.agg (a.cells ++ b.cells).toArray) (.agg (a.cells ++ b.cells).toArray)).run Tryz.prog w = .ok true w := by
 have hs := size_of (P := Tryz.prog) w 41 34 info_sI
 have p0 : (part 41 (a.cells ++ b.cells).toArray (0 * 34)).run Tryz.prog w = .ok (.agg a.cells.toArray) w :=
  part_agg w 41 _ Tryz.underlying41 rfl 34 info_sI _ _ _ (by rw [Nat.zero_mul, List.drop_zero, List.take_append_of_le_length (by rw [Img.cells_len ha]; omega), List.take_of_length_le (by rw [Img.cells_len ha]; omega)])
 have p1 : (part 41 (a.cells ++ b.cells).toArray (1 * 34)).run Tryz.prog w = .ok (.agg b.cells.toArray) w :=
  part_agg w 41 _ Tryz.underlying41 rfl 34 info_sI _ _ _ (by rw [Nat.one_mul, List.drop_append, Img.cells_len ha, List.drop_of_length_le (by rw [Img.cells_len ha]; omega), List.nil_append, Nat.sub_self, List.drop_zero, List.take_of_length_le (by rw [Img.cells_len hb]; omega)])
 have q0 := eqI_run d a a ha ha w
 have q1 := eqI_run d b b hb hb w
 rw [Img.same_refl] at q0 q1
 rw [Op.equalIn]
 simp only [Sem.run_bind, run_underlying Tryz.underlying42, Result.andThen_ok, hs, Std.Legacy.Range.forIn_eq_forIn_range', Std.Legacy.Range.size, Nat.sub_zero, Nat.add_sub_cancel, Nat.div_one]
 simp [List.range', p0, p1, q0, q1]
theorem fieldsM : Tryz.prog.underlying 44 = some (.struct (Tryz.prog.fieldsOf 44)) := by kernel_rfl
theorem heldM : Tryz.prog.stoodInHeld 44 = false := by kernel_rfl
theorem other_c (w : World) (m : Mt) (h : m.Ok) (ha : 0 ≤ m.act ∧ m.act ≤ 1) : Calls Tryz.prog 32 #[.agg m.cells.toArray] w fun e w' => e = .returned (.int .i64 (1 - m.act)) ∧ Below w.heap.size w w' := by
 have hB := Blk.new w 44 m.cells.toArray
 have c0 : (w.alloc (.cells m.cells.toArray 44)).cell? ⟨w.heap.size, 0, none⟩ = some (.int .i64 m.act) := by rw [hB.cell]; rfl
 clear hB
 obtain ⟨x, hx⟩ : ∃ x, m.act = x := ⟨_, rfl⟩
 rw [hx] at ha c0 ⊢
 clear hx
 go_enter Tryz.func32, Tryz.ntmps32
 go_wp2_with fail
 go_ret
 exact ⟨rfl, (Below.refl _ _).alloc (Nat.le_refl _) _⟩
theorem none_c (w : World) (i : Img) (h : i.d.length = 32) : Calls Tryz.prog 108 #[.agg i.cells.toArray] w fun e w' => e = .returned (.bool (i.same Img.zero)) ∧ Below w.heap.size w w' := by
 have hB := Blk.new w 41 i.cells.toArray
 have hl := run_sldI (Img.cells_len h) hB.whole
 have he : ∀ W : World, (binOp .eql 41 (.agg i.cells.toArray) (.agg zeroI)).run Tryz.prog W = .ok (.bool (i.same Img.zero)) W := fun W => by rw [zeroI_eq]; exact eqlI i Img.zero h rfl W
 clear hB
 go_enter Tryz.func108, Tryz.ntmps108
 go_wp2_with fail
 go_ret
 exact ⟨rfl, (Below.refl _ _).alloc (Nat.le_refl _) _⟩
/-- May an image be? -/
def Img.none (i : Img) : Bool := i.same Img.zero
def Img.may (i : Img) : Bool := if i.v = 0 then i.none else if i.s = 0 then i.none else decide (0 < i.v) && (decide (i.v ≤ 1073741824) && (decide (0 < i.s) && decide (i.s ≤ 1920)))
theorem Img.may_b {i : Img} (h : i.may = true) : (0 ≤ i.v ∧ i.v ≤ 1073741824) ∧ 0 ≤ i.s ∧ i.s ≤ 1920 := by
 have hz : i.none = true → i = Img.zero := fun h => (Img.same_iff _ _).1 h
 unfold Img.may at h
 split at h
 ·
  rw [hz h]; decide
 ·
  split at h
  ·
   rw [hz h]; decide
  ·
   simp at h; omega
set_option maxHeartbeats 1000000 in
theorem image_c (w : World) (i : Img) (h : i.d.length = 32) : Calls Tryz.prog 107 #[.agg i.cells.toArray] w fun e w' => e = .returned (.bool i.may) ∧ Below w.heap.size w w' := by
 have hB := Blk.new w 41 i.cells.toArray
 have hl := run_sldI (Img.cells_len h) hB.whole
 have c0 : (w.alloc (.cells i.cells.toArray 41)).cell? ⟨w.heap.size, 0, none⟩ = some (.int .i64 i.v) := by rw [hB.cell]; rfl
 have c1 : (w.alloc (.cells i.cells.toArray 41)).cell? ⟨w.heap.size, 1, none⟩ = some (.int .i64 i.s) := by rw [hB.cell]; rfl
 have hn : ∀ W, Calls Tryz.prog 108 #[.agg i.cells.toArray] W fun e w' => e = .returned (.bool i.none) ∧ Below W.heap.size W w' := fun W => none_c W i h
 have hbel : Below w.heap.size w (w.alloc (.cells i.cells.toArray 41)) := (Below.refl _ _).alloc (Nat.le_refl _) _
 have hm : ∀ b, i.may = b → i.may = b := fun _ h => h
 unfold Img.may
 generalize i.cells = cs at hB hl c0 c1 hn hbel ⊢
 generalize i.none = N at hn ⊢
 generalize i.v = v at c0 ⊢
 generalize i.s = s at c1 ⊢
 clear hB hm
 by_cases h1 : v = 0
 ·
  subst h1
  rw [if_pos rfl]
  go_enter Tryz.func107, Tryz.ntmps107
  go_wp2_with fail
  refine (hn _).mono ?_
  rintro e w2 ⟨rfl, hb2⟩
  go_wp2_with fail
  go_ret
  exact ⟨rfl, hbel.trans (hb2.mono hbel.size)⟩
 have b1 : (v == 0) = false := beq_eq_false_iff_ne.2 h1
 rw [if_neg h1]
 by_cases h2 : s = 0
 ·
  subst h2
  rw [if_pos rfl]
  go_enter Tryz.func107, Tryz.ntmps107
  go_wp2_with fail
  refine (hn _).mono ?_
  rintro e w2 ⟨rfl, hb2⟩
  go_wp2_with fail
  go_ret
  exact ⟨rfl, hbel.trans (hb2.mono hbel.size)⟩
 have b2 : (s == 0) = false := beq_eq_false_iff_ne.2 h2
 rw [if_neg h2]
 clear hn h1 h2
 by_cases h3 : 0 < v
 ·
  by_cases h4 : v ≤ 1073741824
  ·
   by_cases h5 : 0 < s
   ·
    by_cases h6 : s ≤ 1920
    ·
     go_enter Tryz.func107, Tryz.ntmps107
     go_wp2_with fail
     go_ret
     exact ⟨mbool_ret (by first | (simp [h3, h4, h5, h6]; done) | (simp; omega)), hbel⟩
    ·
     go_enter Tryz.func107, Tryz.ntmps107
     go_wp2_with fail
     go_ret
     exact ⟨mbool_ret (by first | (simp [h3, h4, h5, h6]; done) | (simp; omega)), hbel⟩
   ·
    go_enter Tryz.func107, Tryz.ntmps107
    go_wp2_with fail
    go_ret
    exact ⟨mbool_ret (by first | (simp [h3, h4, h5]; done) | (simp; omega)), hbel⟩
  ·
   go_enter Tryz.func107, Tryz.ntmps107
   go_wp2_with fail
   go_ret
   exact ⟨mbool_ret (by first | (simp [h3, h4]; done) | (simp; omega)), hbel⟩
 ·
  go_enter Tryz.func107, Tryz.ntmps107
  go_wp2_with fail
  go_ret
  exact ⟨mbool_ret (by first | (simp [h3]; done) | (simp; omega)), hbel⟩
theorem mchunks_c (w : World) (i : Img) (h : i.d.length = 32) (hb : 0 ≤ i.s ∧ i.s ≤ 1920) : Calls Tryz.prog 146 #[.agg i.cells.toArray] w fun e w' => e = .returned (.int .i64 ((i.s + 319) / 320)) ∧ Below w.heap.size w w' := by
 have hB := Blk.new w 41 i.cells.toArray
 have c1 : (w.alloc (.cells i.cells.toArray 41)).cell? ⟨w.heap.size, 1, none⟩ = some (.int .i64 i.s) := by rw [hB.cell]; rfl
 have hbel : Below w.heap.size w (w.alloc (.cells i.cells.toArray 41)) := (Below.refl _ _).alloc (Nat.le_refl _) _
 generalize i.cells = cs at hB c1 hbel ⊢
 generalize i.s = s at hb c1 ⊢
 have e1 : s + 320 - 1 = s + 319 := by omega
 clear hB
 go_enter Tryz.func146, Tryz.ntmps146
 go_wp2_with fail
 go_ret
 refine ⟨?_, hbel⟩
 first | rfl | (congr 2; omega)
def Mt.have_ (m : Mt) (x : Int) : Img := if x = 0 then m.h0 else m.h1
def Mt.oth (m : Mt) : Img := m.have_ (1 - m.act)
def Img.chk (i : Img) : Int := (i.s + 319) / 320
theorem Mt.oth0 {m : Mt} (h : m.act = 0) : m.oth = m.h1 := by unfold Mt.oth Mt.have_; rw [h]; rfl
theorem Mt.oth1 {m : Mt} (h : m.act = 1) : m.oth = m.h0 := by unfold Mt.oth Mt.have_; rw [h]; rfl
theorem mall {W : World} {g : Nat} {m : Mt} (h : m.Ok) (B : Blk W g 44 m.cells.toArray) (act mn ph got tr : Int) (e0 : m.act = act) (e1 : m.mn = mn) (e2 : m.ph = ph) (e3 : m.got = got) (e4 : m.tr = tr) :
  W.cell? ⟨g, 0, none⟩ = some (.int .i64 act) ∧ W.cell? ⟨g, 69, none⟩ = some (.int .i64 mn) ∧ W.cell? ⟨g, 70, none⟩ = some (.int .i64 ph) ∧ W.cell? ⟨g, 105, none⟩ = some (.int .i64 got) ∧ W.cell? ⟨g, 106, none⟩ = some (.int .i64 tr) ∧
  (sldI (.pointer (some ⟨g, 1, none⟩))).run Tryz.prog W = .ok (.agg m.h0.cells.toArray) W ∧ (sldI (.pointer (some ⟨g, 35, none⟩))).run Tryz.prog W = .ok (.agg m.h1.cells.toArray) W ∧ (sldI (.pointer (some ⟨g, 71, none⟩))).run Tryz.prog W = .ok (.agg m.cm.cells.toArray) W ∧
  (sldM (.pointer (some ⟨g, 0, none⟩))).run Tryz.prog W = .ok (.agg m.cells.toArray) W := by
 have hl := Mt.cells_len h
 have r1 := B.range 1 34 (by omega)
 have r2 := B.range 35 34 (by omega)
 have r3 := B.range 71 34 (by omega)
 rw [Mt.c_h0 h] at r1
 rw [Mt.c_h1 h] at r2
 rw [Mt.c_cm h] at r3
 subst e0 e1 e2 e3 e4
 refine ⟨?_, ?_, ?_, ?_, ?_, run_sldI (Img.cells_len h.d0) r1, run_sldI (Img.cells_len h.d1) r2, run_sldI (Img.cells_len h.d2) r3, run_sldM hl B.whole⟩
 ·
  rw [B.cell, List.getElem?_toArray]; exact Mt.c0
 ·
  rw [B.cell, List.getElem?_toArray]; exact Mt.c69 h
 ·
  rw [B.cell, List.getElem?_toArray]; exact Mt.c70 h
 ·
  rw [B.cell, List.getElem?_toArray]; exact Mt.c105 h
 ·
  rw [B.cell, List.getElem?_toArray]; exact Mt.c106 h
def Mt.phaseB (m : Mt) : Bool :=
 if m.ph = 0 then m.cm.none && (m.got == 0 && m.tr == 0)
 else if m.ph = 1 ∨ m.ph = 2 then !m.cm.none && (m.oth.none && (m.tr == 0 && (m.got == m.cm.chk || (m.ph == 1 && decide (m.got < m.cm.chk)))))
 else if m.ph = 3 then m.cm.none && (m.got == 0 && !m.oth.none)
 else false
set_option maxRecDepth 100000 in
set_option maxHeartbeats 20000000 in
theorem phase_c (w : World) (m : Mt) (h : m.Ok) (ha : m.act = 0 ∨ m.act = 1) (hcm : 0 ≤ m.cm.s ∧ m.cm.s ≤ 1920) : Calls Tryz.prog 109 #[.agg m.cells.toArray] w fun e w' => e = .returned (.bool m.phaseB) ∧ Below w.heap.size w w' := by
 have hB := Lib.hid (Blk.new w 44 m.cells.toArray)
 have hbel : Below w.heap.size w (w.alloc (.cells m.cells.toArray 44)) := (Below.refl _ _).alloc (Nat.le_refl _) _
 have HBEL := Lib.hid hbel
 obtain ⟨act, e0⟩ : ∃ x, m.act = x := ⟨_, rfl⟩
 obtain ⟨mn, e1⟩ : ∃ x, m.mn = x := ⟨_, rfl⟩
 obtain ⟨ph, e2⟩ : ∃ x, m.ph = x := ⟨_, rfl⟩
 obtain ⟨got, e3⟩ : ∃ x, m.got = x := ⟨_, rfl⟩
 obtain ⟨tr, e4⟩ : ∃ x, m.tr = x := ⟨_, rfl⟩
 obtain ⟨C, eC⟩ : ∃ x, m.cm.none = x := ⟨_, rfl⟩
 obtain ⟨O, eO⟩ : ∃ x, m.oth.none = x := ⟨_, rfl⟩
 obtain ⟨K, eK⟩ : ∃ x, m.cm.chk = x := ⟨_, rfl⟩
 have hcmn : ∀ W, Calls Tryz.prog 108 #[.agg m.cm.cells.toArray] W fun e w' => e = .returned (.bool C) ∧ Below W.heap.size W w' := fun W => eC ▸ none_c W m.cm h.d2
 have hchk : ∀ W, Calls Tryz.prog 146 #[.agg m.cm.cells.toArray] W fun e w' => e = .returned (.int .i64 K) ∧ Below W.heap.size W w' := fun W => eK ▸ mchunks_c W m.cm h.d2 hcm
 have hoc : ∀ W, Calls Tryz.prog 32 #[.agg m.cells.toArray] W fun e w' => e = .returned (.int .i64 (1 - act)) ∧ Below W.heap.size W w' := fun W => e0 ▸ other_c W m h (by omega)
 have hph : m.phaseB = (if ph = 0 then C && (got == 0 && tr == 0) else if ph = 1 ∨ ph = 2 then !C && (O && (tr == 0 && (got == K || (ph == 1 && decide (got < K))))) else if ph = 3 then C && (got == 0 && !O) else false) := by
  unfold Mt.phaseB
  rw [e2, e3, e4, eC, eO, eK]
 rw [hph]
 rw [e0] at ha
 have hall : ∀ W, Below (w.heap.size + 1) (w.alloc (.cells m.cells.toArray 44)) W → _ := fun W hb => mall h (hB.out.below hb (by omega)) act mn ph got tr e0 e1 e2 e3 e4
 have hz : (w.alloc (.cells m.cells.toArray 44)).heap.size = w.heap.size + 1 := by simp
 have h00 := hall _ (Below.refl _ _)
 have HALL := Lib.hid hall
 have HZ := Lib.hid hz
 have HE := Lib.hid eO
 have HE0 := Lib.hid e0
 have HD := Lib.hid h
 clear hph hall hz e1 e2 e3 e4 eC eO eK e0 hcm h hB hbel
 have HB0 := Lib.hid (Below.refl (w.heap.size + 1) (w.alloc (.cells m.cells.toArray 44)))
 obtain ⟨c0, c69, c70, c105, c106, l1, l35, l71, lM⟩ := h00
 rcases ha with rfl | rfl
 ·
  have hon : ∀ W, Calls Tryz.prog 108 #[.agg m.h1.cells.toArray] W fun e w' => e = .returned (.bool O) ∧ Below W.heap.size W w' := fun W => HE.out ▸ (Mt.oth0 HE0.out).symm ▸ none_c W m.h1 HD.out.d1
  by_cases p0 : ph = 0
  ·
   subst p0
   rw [if_pos rfl]
   cases C
   ·
    go_enter Tryz.func109, Tryz.ntmps109
    go_wp2_with fail
    refine (hcmn _).mono ?_
    rintro e v1 ⟨rfl, hb⟩
    have HB1 := Lib.hid (HB0.out.trans (hb.mono (by have := HB0.out.size; have := HZ.out; omega)))
    clear c0 c69 c70 c105 c106 l1 l35 l71 lM hb
    obtain ⟨c0, c69, c70, c105, c106, l1, l35, l71, lM⟩ := HALL.out _ HB1.out
    go_wp2_with fail
    go_ret
    exact ⟨mbool_ret (by first | rfl | (simp; done) | (simp [*]; done) | (simp; omega)), HBEL.out.trans (HB1.out.mono (Nat.le_succ _))⟩
   ·
    by_cases hg : got = 0
    ·
     subst hg
     by_cases ht : tr = 0
     ·
      subst ht
      go_enter Tryz.func109, Tryz.ntmps109
      go_wp2_with fail
      refine (hcmn _).mono ?_
      rintro e v1 ⟨rfl, hb⟩
      have HB1 := Lib.hid (HB0.out.trans (hb.mono (by have := HB0.out.size; have := HZ.out; omega)))
      clear c0 c69 c70 c105 c106 l1 l35 l71 lM hb
      obtain ⟨c0, c69, c70, c105, c106, l1, l35, l71, lM⟩ := HALL.out _ HB1.out
      go_wp2_with fail
      go_ret
      exact ⟨mbool_ret (by first | rfl | (simp; done) | (simp [*]; done) | (simp; omega)), HBEL.out.trans (HB1.out.mono (Nat.le_succ _))⟩
     ·
      have bt : (tr == 0) = false := beq_eq_false_iff_ne.2 ht
      go_enter Tryz.func109, Tryz.ntmps109
      go_wp2_with fail
      refine (hcmn _).mono ?_
      rintro e v1 ⟨rfl, hb⟩
      have HB1 := Lib.hid (HB0.out.trans (hb.mono (by have := HB0.out.size; have := HZ.out; omega)))
      clear c0 c69 c70 c105 c106 l1 l35 l71 lM hb
      obtain ⟨c0, c69, c70, c105, c106, l1, l35, l71, lM⟩ := HALL.out _ HB1.out
      go_wp2_with fail
      go_ret
      exact ⟨mbool_ret (by first | rfl | (simp; done) | (simp [*]; done) | (simp; omega)), HBEL.out.trans (HB1.out.mono (Nat.le_succ _))⟩
    ·
     have bg : (got == 0) = false := beq_eq_false_iff_ne.2 hg
     go_enter Tryz.func109, Tryz.ntmps109
     go_wp2_with fail
     refine (hcmn _).mono ?_
     rintro e v1 ⟨rfl, hb⟩
     have HB1 := Lib.hid (HB0.out.trans (hb.mono (by have := HB0.out.size; have := HZ.out; omega)))
     clear c0 c69 c70 c105 c106 l1 l35 l71 lM hb
     obtain ⟨c0, c69, c70, c105, c106, l1, l35, l71, lM⟩ := HALL.out _ HB1.out
     go_wp2_with fail
     go_ret
     exact ⟨mbool_ret (by first | rfl | (simp; done) | (simp [*]; done) | (simp; omega)), HBEL.out.trans (HB1.out.mono (Nat.le_succ _))⟩
  rw [if_neg p0]
  have q0 : (ph == 0) = false := beq_eq_false_iff_ne.2 p0
  by_cases p1 : ph = 1
  ·
   subst p1
   rw [if_pos (Or.inl rfl)]
   cases C
   ·
    cases O
    ·
     go_enter Tryz.func109, Tryz.ntmps109
     go_wp2_with fail
     refine (hchk _).mono ?_
     rintro e v1 ⟨rfl, hb⟩
     have HB1 := Lib.hid (HB0.out.trans (hb.mono (by have := HB0.out.size; have := HZ.out; omega)))
     clear c0 c69 c70 c105 c106 l1 l35 l71 lM hb
     obtain ⟨c0, c69, c70, c105, c106, l1, l35, l71, lM⟩ := HALL.out _ HB1.out
     go_wp2_with fail
     refine (hcmn _).mono ?_
     rintro e v2 ⟨rfl, hb⟩
     have HB2 := Lib.hid (HB1.out.trans (hb.mono (by have := HB1.out.size; have := HZ.out; omega)))
     clear c0 c69 c70 c105 c106 l1 l35 l71 lM hb
     obtain ⟨c0, c69, c70, c105, c106, l1, l35, l71, lM⟩ := HALL.out _ HB2.out
     go_wp2_with fail
     refine (hoc _).mono ?_
     rintro e v3 ⟨rfl, hb⟩
     have HB3 := Lib.hid (HB2.out.trans (hb.mono (by have := HB2.out.size; have := HZ.out; omega)))
     clear c0 c69 c70 c105 c106 l1 l35 l71 lM hb
     obtain ⟨c0, c69, c70, c105, c106, l1, l35, l71, lM⟩ := HALL.out _ HB3.out
     go_wp2_with fail
     refine (hon _).mono ?_
     rintro e v4 ⟨rfl, hb⟩
     have HB4 := Lib.hid (HB3.out.trans (hb.mono (by have := HB3.out.size; have := HZ.out; omega)))
     clear c0 c69 c70 c105 c106 l1 l35 l71 lM hb
     obtain ⟨c0, c69, c70, c105, c106, l1, l35, l71, lM⟩ := HALL.out _ HB4.out
     go_wp2_with fail
     go_ret
     exact ⟨mbool_ret (by first | rfl | (simp; done) | (simp [*]; done) | (simp; omega)), HBEL.out.trans (HB4.out.mono (Nat.le_succ _))⟩
    ·
     by_cases ht : tr = 0
     ·
      subst ht
      by_cases hg : got = K
      ·
       subst hg
       go_enter Tryz.func109, Tryz.ntmps109
       go_wp2_with fail
       refine (hchk _).mono ?_
       rintro e v1 ⟨rfl, hb⟩
       have HB1 := Lib.hid (HB0.out.trans (hb.mono (by have := HB0.out.size; have := HZ.out; omega)))
       clear c0 c69 c70 c105 c106 l1 l35 l71 lM hb
       obtain ⟨c0, c69, c70, c105, c106, l1, l35, l71, lM⟩ := HALL.out _ HB1.out
       go_wp2_with fail
       refine (hcmn _).mono ?_
       rintro e v2 ⟨rfl, hb⟩
       have HB2 := Lib.hid (HB1.out.trans (hb.mono (by have := HB1.out.size; have := HZ.out; omega)))
       clear c0 c69 c70 c105 c106 l1 l35 l71 lM hb
       obtain ⟨c0, c69, c70, c105, c106, l1, l35, l71, lM⟩ := HALL.out _ HB2.out
       go_wp2_with fail
       refine (hoc _).mono ?_
       rintro e v3 ⟨rfl, hb⟩
       have HB3 := Lib.hid (HB2.out.trans (hb.mono (by have := HB2.out.size; have := HZ.out; omega)))
       clear c0 c69 c70 c105 c106 l1 l35 l71 lM hb
       obtain ⟨c0, c69, c70, c105, c106, l1, l35, l71, lM⟩ := HALL.out _ HB3.out
       go_wp2_with fail
       refine (hon _).mono ?_
       rintro e v4 ⟨rfl, hb⟩
       have HB4 := Lib.hid (HB3.out.trans (hb.mono (by have := HB3.out.size; have := HZ.out; omega)))
       clear c0 c69 c70 c105 c106 l1 l35 l71 lM hb
       obtain ⟨c0, c69, c70, c105, c106, l1, l35, l71, lM⟩ := HALL.out _ HB4.out
       go_wp2_with fail
       go_ret
       exact ⟨mbool_ret (by first | rfl | (simp; done) | (simp [*]; done) | (simp; omega)), HBEL.out.trans (HB4.out.mono (Nat.le_succ _))⟩
      ·
       have bg : (got == K) = false := beq_eq_false_iff_ne.2 hg
       by_cases hl : got < K
       ·
        go_enter Tryz.func109, Tryz.ntmps109
        go_wp2_with fail
        refine (hchk _).mono ?_
        rintro e v1 ⟨rfl, hb⟩
        have HB1 := Lib.hid (HB0.out.trans (hb.mono (by have := HB0.out.size; have := HZ.out; omega)))
        clear c0 c69 c70 c105 c106 l1 l35 l71 lM hb
        obtain ⟨c0, c69, c70, c105, c106, l1, l35, l71, lM⟩ := HALL.out _ HB1.out
        go_wp2_with fail
        refine (hcmn _).mono ?_
        rintro e v2 ⟨rfl, hb⟩
        have HB2 := Lib.hid (HB1.out.trans (hb.mono (by have := HB1.out.size; have := HZ.out; omega)))
        clear c0 c69 c70 c105 c106 l1 l35 l71 lM hb
        obtain ⟨c0, c69, c70, c105, c106, l1, l35, l71, lM⟩ := HALL.out _ HB2.out
        go_wp2_with fail
        refine (hoc _).mono ?_
        rintro e v3 ⟨rfl, hb⟩
        have HB3 := Lib.hid (HB2.out.trans (hb.mono (by have := HB2.out.size; have := HZ.out; omega)))
        clear c0 c69 c70 c105 c106 l1 l35 l71 lM hb
        obtain ⟨c0, c69, c70, c105, c106, l1, l35, l71, lM⟩ := HALL.out _ HB3.out
        go_wp2_with fail
        refine (hon _).mono ?_
        rintro e v4 ⟨rfl, hb⟩
        have HB4 := Lib.hid (HB3.out.trans (hb.mono (by have := HB3.out.size; have := HZ.out; omega)))
        clear c0 c69 c70 c105 c106 l1 l35 l71 lM hb
        obtain ⟨c0, c69, c70, c105, c106, l1, l35, l71, lM⟩ := HALL.out _ HB4.out
        go_wp2_with fail
        go_ret
        exact ⟨mbool_ret (by first | rfl | (simp; done) | (simp [*]; done) | (simp; omega)), HBEL.out.trans (HB4.out.mono (Nat.le_succ _))⟩
       ·
        go_enter Tryz.func109, Tryz.ntmps109
        go_wp2_with fail
        refine (hchk _).mono ?_
        rintro e v1 ⟨rfl, hb⟩
        have HB1 := Lib.hid (HB0.out.trans (hb.mono (by have := HB0.out.size; have := HZ.out; omega)))
        clear c0 c69 c70 c105 c106 l1 l35 l71 lM hb
        obtain ⟨c0, c69, c70, c105, c106, l1, l35, l71, lM⟩ := HALL.out _ HB1.out
        go_wp2_with fail
        refine (hcmn _).mono ?_
        rintro e v2 ⟨rfl, hb⟩
        have HB2 := Lib.hid (HB1.out.trans (hb.mono (by have := HB1.out.size; have := HZ.out; omega)))
        clear c0 c69 c70 c105 c106 l1 l35 l71 lM hb
        obtain ⟨c0, c69, c70, c105, c106, l1, l35, l71, lM⟩ := HALL.out _ HB2.out
        go_wp2_with fail
        refine (hoc _).mono ?_
        rintro e v3 ⟨rfl, hb⟩
        have HB3 := Lib.hid (HB2.out.trans (hb.mono (by have := HB2.out.size; have := HZ.out; omega)))
        clear c0 c69 c70 c105 c106 l1 l35 l71 lM hb
        obtain ⟨c0, c69, c70, c105, c106, l1, l35, l71, lM⟩ := HALL.out _ HB3.out
        go_wp2_with fail
        refine (hon _).mono ?_
        rintro e v4 ⟨rfl, hb⟩
        have HB4 := Lib.hid (HB3.out.trans (hb.mono (by have := HB3.out.size; have := HZ.out; omega)))
        clear c0 c69 c70 c105 c106 l1 l35 l71 lM hb
        obtain ⟨c0, c69, c70, c105, c106, l1, l35, l71, lM⟩ := HALL.out _ HB4.out
        go_wp2_with fail
        go_ret
        exact ⟨mbool_ret (by first | rfl | (simp; done) | (simp [*]; done) | (simp; omega)), HBEL.out.trans (HB4.out.mono (Nat.le_succ _))⟩
     ·
      have bt : (tr == 0) = false := beq_eq_false_iff_ne.2 ht
      go_enter Tryz.func109, Tryz.ntmps109
      go_wp2_with fail
      refine (hchk _).mono ?_
      rintro e v1 ⟨rfl, hb⟩
      have HB1 := Lib.hid (HB0.out.trans (hb.mono (by have := HB0.out.size; have := HZ.out; omega)))
      clear c0 c69 c70 c105 c106 l1 l35 l71 lM hb
      obtain ⟨c0, c69, c70, c105, c106, l1, l35, l71, lM⟩ := HALL.out _ HB1.out
      go_wp2_with fail
      refine (hcmn _).mono ?_
      rintro e v2 ⟨rfl, hb⟩
      have HB2 := Lib.hid (HB1.out.trans (hb.mono (by have := HB1.out.size; have := HZ.out; omega)))
      clear c0 c69 c70 c105 c106 l1 l35 l71 lM hb
      obtain ⟨c0, c69, c70, c105, c106, l1, l35, l71, lM⟩ := HALL.out _ HB2.out
      go_wp2_with fail
      refine (hoc _).mono ?_
      rintro e v3 ⟨rfl, hb⟩
      have HB3 := Lib.hid (HB2.out.trans (hb.mono (by have := HB2.out.size; have := HZ.out; omega)))
      clear c0 c69 c70 c105 c106 l1 l35 l71 lM hb
      obtain ⟨c0, c69, c70, c105, c106, l1, l35, l71, lM⟩ := HALL.out _ HB3.out
      go_wp2_with fail
      refine (hon _).mono ?_
      rintro e v4 ⟨rfl, hb⟩
      have HB4 := Lib.hid (HB3.out.trans (hb.mono (by have := HB3.out.size; have := HZ.out; omega)))
      clear c0 c69 c70 c105 c106 l1 l35 l71 lM hb
      obtain ⟨c0, c69, c70, c105, c106, l1, l35, l71, lM⟩ := HALL.out _ HB4.out
      go_wp2_with fail
      go_ret
      exact ⟨mbool_ret (by first | rfl | (simp; done) | (simp [*]; done) | (simp; omega)), HBEL.out.trans (HB4.out.mono (Nat.le_succ _))⟩
   ·
    go_enter Tryz.func109, Tryz.ntmps109
    go_wp2_with fail
    refine (hchk _).mono ?_
    rintro e v1 ⟨rfl, hb⟩
    have HB1 := Lib.hid (HB0.out.trans (hb.mono (by have := HB0.out.size; have := HZ.out; omega)))
    clear c0 c69 c70 c105 c106 l1 l35 l71 lM hb
    obtain ⟨c0, c69, c70, c105, c106, l1, l35, l71, lM⟩ := HALL.out _ HB1.out
    go_wp2_with fail
    refine (hcmn _).mono ?_
    rintro e v2 ⟨rfl, hb⟩
    have HB2 := Lib.hid (HB1.out.trans (hb.mono (by have := HB1.out.size; have := HZ.out; omega)))
    clear c0 c69 c70 c105 c106 l1 l35 l71 lM hb
    obtain ⟨c0, c69, c70, c105, c106, l1, l35, l71, lM⟩ := HALL.out _ HB2.out
    go_wp2_with fail
    go_ret
    exact ⟨mbool_ret (by first | rfl | (simp; done) | (simp [*]; done) | (simp; omega)), HBEL.out.trans (HB2.out.mono (Nat.le_succ _))⟩
  have q1 : (ph == 1) = false := beq_eq_false_iff_ne.2 p1
  by_cases p2 : ph = 2
  ·
   subst p2
   rw [if_pos (Or.inr rfl)]
   cases C
   ·
    cases O
    ·
     go_enter Tryz.func109, Tryz.ntmps109
     go_wp2_with fail
     refine (hchk _).mono ?_
     rintro e v1 ⟨rfl, hb⟩
     have HB1 := Lib.hid (HB0.out.trans (hb.mono (by have := HB0.out.size; have := HZ.out; omega)))
     clear c0 c69 c70 c105 c106 l1 l35 l71 lM hb
     obtain ⟨c0, c69, c70, c105, c106, l1, l35, l71, lM⟩ := HALL.out _ HB1.out
     go_wp2_with fail
     refine (hcmn _).mono ?_
     rintro e v2 ⟨rfl, hb⟩
     have HB2 := Lib.hid (HB1.out.trans (hb.mono (by have := HB1.out.size; have := HZ.out; omega)))
     clear c0 c69 c70 c105 c106 l1 l35 l71 lM hb
     obtain ⟨c0, c69, c70, c105, c106, l1, l35, l71, lM⟩ := HALL.out _ HB2.out
     go_wp2_with fail
     refine (hoc _).mono ?_
     rintro e v3 ⟨rfl, hb⟩
     have HB3 := Lib.hid (HB2.out.trans (hb.mono (by have := HB2.out.size; have := HZ.out; omega)))
     clear c0 c69 c70 c105 c106 l1 l35 l71 lM hb
     obtain ⟨c0, c69, c70, c105, c106, l1, l35, l71, lM⟩ := HALL.out _ HB3.out
     go_wp2_with fail
     refine (hon _).mono ?_
     rintro e v4 ⟨rfl, hb⟩
     have HB4 := Lib.hid (HB3.out.trans (hb.mono (by have := HB3.out.size; have := HZ.out; omega)))
     clear c0 c69 c70 c105 c106 l1 l35 l71 lM hb
     obtain ⟨c0, c69, c70, c105, c106, l1, l35, l71, lM⟩ := HALL.out _ HB4.out
     go_wp2_with fail
     go_ret
     exact ⟨mbool_ret (by first | rfl | (simp; done) | (simp [*]; done) | (simp; omega)), HBEL.out.trans (HB4.out.mono (Nat.le_succ _))⟩
    ·
     by_cases ht : tr = 0
     ·
      subst ht
      by_cases hg : got = K
      ·
       subst hg
       go_enter Tryz.func109, Tryz.ntmps109
       go_wp2_with fail
       refine (hchk _).mono ?_
       rintro e v1 ⟨rfl, hb⟩
       have HB1 := Lib.hid (HB0.out.trans (hb.mono (by have := HB0.out.size; have := HZ.out; omega)))
       clear c0 c69 c70 c105 c106 l1 l35 l71 lM hb
       obtain ⟨c0, c69, c70, c105, c106, l1, l35, l71, lM⟩ := HALL.out _ HB1.out
       go_wp2_with fail
       refine (hcmn _).mono ?_
       rintro e v2 ⟨rfl, hb⟩
       have HB2 := Lib.hid (HB1.out.trans (hb.mono (by have := HB1.out.size; have := HZ.out; omega)))
       clear c0 c69 c70 c105 c106 l1 l35 l71 lM hb
       obtain ⟨c0, c69, c70, c105, c106, l1, l35, l71, lM⟩ := HALL.out _ HB2.out
       go_wp2_with fail
       refine (hoc _).mono ?_
       rintro e v3 ⟨rfl, hb⟩
       have HB3 := Lib.hid (HB2.out.trans (hb.mono (by have := HB2.out.size; have := HZ.out; omega)))
       clear c0 c69 c70 c105 c106 l1 l35 l71 lM hb
       obtain ⟨c0, c69, c70, c105, c106, l1, l35, l71, lM⟩ := HALL.out _ HB3.out
       go_wp2_with fail
       refine (hon _).mono ?_
       rintro e v4 ⟨rfl, hb⟩
       have HB4 := Lib.hid (HB3.out.trans (hb.mono (by have := HB3.out.size; have := HZ.out; omega)))
       clear c0 c69 c70 c105 c106 l1 l35 l71 lM hb
       obtain ⟨c0, c69, c70, c105, c106, l1, l35, l71, lM⟩ := HALL.out _ HB4.out
       go_wp2_with fail
       go_ret
       exact ⟨mbool_ret (by first | rfl | (simp; done) | (simp [*]; done) | (simp; omega)), HBEL.out.trans (HB4.out.mono (Nat.le_succ _))⟩
      ·
       have bg : (got == K) = false := beq_eq_false_iff_ne.2 hg
       go_enter Tryz.func109, Tryz.ntmps109
       go_wp2_with fail
       refine (hchk _).mono ?_
       rintro e v1 ⟨rfl, hb⟩
       have HB1 := Lib.hid (HB0.out.trans (hb.mono (by have := HB0.out.size; have := HZ.out; omega)))
       clear c0 c69 c70 c105 c106 l1 l35 l71 lM hb
       obtain ⟨c0, c69, c70, c105, c106, l1, l35, l71, lM⟩ := HALL.out _ HB1.out
       go_wp2_with fail
       refine (hcmn _).mono ?_
       rintro e v2 ⟨rfl, hb⟩
       have HB2 := Lib.hid (HB1.out.trans (hb.mono (by have := HB1.out.size; have := HZ.out; omega)))
       clear c0 c69 c70 c105 c106 l1 l35 l71 lM hb
       obtain ⟨c0, c69, c70, c105, c106, l1, l35, l71, lM⟩ := HALL.out _ HB2.out
       go_wp2_with fail
       refine (hoc _).mono ?_
       rintro e v3 ⟨rfl, hb⟩
       have HB3 := Lib.hid (HB2.out.trans (hb.mono (by have := HB2.out.size; have := HZ.out; omega)))
       clear c0 c69 c70 c105 c106 l1 l35 l71 lM hb
       obtain ⟨c0, c69, c70, c105, c106, l1, l35, l71, lM⟩ := HALL.out _ HB3.out
       go_wp2_with fail
       refine (hon _).mono ?_
       rintro e v4 ⟨rfl, hb⟩
       have HB4 := Lib.hid (HB3.out.trans (hb.mono (by have := HB3.out.size; have := HZ.out; omega)))
       clear c0 c69 c70 c105 c106 l1 l35 l71 lM hb
       obtain ⟨c0, c69, c70, c105, c106, l1, l35, l71, lM⟩ := HALL.out _ HB4.out
       go_wp2_with fail
       go_ret
       exact ⟨mbool_ret (by first | rfl | (simp; done) | (simp [*]; done) | (simp; omega)), HBEL.out.trans (HB4.out.mono (Nat.le_succ _))⟩
     ·
      have bt : (tr == 0) = false := beq_eq_false_iff_ne.2 ht
      go_enter Tryz.func109, Tryz.ntmps109
      go_wp2_with fail
      refine (hchk _).mono ?_
      rintro e v1 ⟨rfl, hb⟩
      have HB1 := Lib.hid (HB0.out.trans (hb.mono (by have := HB0.out.size; have := HZ.out; omega)))
      clear c0 c69 c70 c105 c106 l1 l35 l71 lM hb
      obtain ⟨c0, c69, c70, c105, c106, l1, l35, l71, lM⟩ := HALL.out _ HB1.out
      go_wp2_with fail
      refine (hcmn _).mono ?_
      rintro e v2 ⟨rfl, hb⟩
      have HB2 := Lib.hid (HB1.out.trans (hb.mono (by have := HB1.out.size; have := HZ.out; omega)))
      clear c0 c69 c70 c105 c106 l1 l35 l71 lM hb
      obtain ⟨c0, c69, c70, c105, c106, l1, l35, l71, lM⟩ := HALL.out _ HB2.out
      go_wp2_with fail
      refine (hoc _).mono ?_
      rintro e v3 ⟨rfl, hb⟩
      have HB3 := Lib.hid (HB2.out.trans (hb.mono (by have := HB2.out.size; have := HZ.out; omega)))
      clear c0 c69 c70 c105 c106 l1 l35 l71 lM hb
      obtain ⟨c0, c69, c70, c105, c106, l1, l35, l71, lM⟩ := HALL.out _ HB3.out
      go_wp2_with fail
      refine (hon _).mono ?_
      rintro e v4 ⟨rfl, hb⟩
      have HB4 := Lib.hid (HB3.out.trans (hb.mono (by have := HB3.out.size; have := HZ.out; omega)))
      clear c0 c69 c70 c105 c106 l1 l35 l71 lM hb
      obtain ⟨c0, c69, c70, c105, c106, l1, l35, l71, lM⟩ := HALL.out _ HB4.out
      go_wp2_with fail
      go_ret
      exact ⟨mbool_ret (by first | rfl | (simp; done) | (simp [*]; done) | (simp; omega)), HBEL.out.trans (HB4.out.mono (Nat.le_succ _))⟩
   ·
    go_enter Tryz.func109, Tryz.ntmps109
    go_wp2_with fail
    refine (hchk _).mono ?_
    rintro e v1 ⟨rfl, hb⟩
    have HB1 := Lib.hid (HB0.out.trans (hb.mono (by have := HB0.out.size; have := HZ.out; omega)))
    clear c0 c69 c70 c105 c106 l1 l35 l71 lM hb
    obtain ⟨c0, c69, c70, c105, c106, l1, l35, l71, lM⟩ := HALL.out _ HB1.out
    go_wp2_with fail
    refine (hcmn _).mono ?_
    rintro e v2 ⟨rfl, hb⟩
    have HB2 := Lib.hid (HB1.out.trans (hb.mono (by have := HB1.out.size; have := HZ.out; omega)))
    clear c0 c69 c70 c105 c106 l1 l35 l71 lM hb
    obtain ⟨c0, c69, c70, c105, c106, l1, l35, l71, lM⟩ := HALL.out _ HB2.out
    go_wp2_with fail
    go_ret
    exact ⟨mbool_ret (by first | rfl | (simp; done) | (simp [*]; done) | (simp; omega)), HBEL.out.trans (HB2.out.mono (Nat.le_succ _))⟩
  rw [if_neg (by omega)]
  have q2 : (ph == 2) = false := beq_eq_false_iff_ne.2 p2
  by_cases p3 : ph = 3
  ·
   subst p3
   rw [if_pos rfl]
   cases C
   ·
    go_enter Tryz.func109, Tryz.ntmps109
    go_wp2_with fail
    refine (hcmn _).mono ?_
    rintro e v1 ⟨rfl, hb⟩
    have HB1 := Lib.hid (HB0.out.trans (hb.mono (by have := HB0.out.size; have := HZ.out; omega)))
    clear c0 c69 c70 c105 c106 l1 l35 l71 lM hb
    obtain ⟨c0, c69, c70, c105, c106, l1, l35, l71, lM⟩ := HALL.out _ HB1.out
    go_wp2_with fail
    go_ret
    exact ⟨mbool_ret (by first | rfl | (simp; done) | (simp [*]; done) | (simp; omega)), HBEL.out.trans (HB1.out.mono (Nat.le_succ _))⟩
   ·
    by_cases hg : got = 0
    ·
     subst hg
     cases O
     ·
      go_enter Tryz.func109, Tryz.ntmps109
      go_wp2_with fail
      refine (hcmn _).mono ?_
      rintro e v1 ⟨rfl, hb⟩
      have HB1 := Lib.hid (HB0.out.trans (hb.mono (by have := HB0.out.size; have := HZ.out; omega)))
      clear c0 c69 c70 c105 c106 l1 l35 l71 lM hb
      obtain ⟨c0, c69, c70, c105, c106, l1, l35, l71, lM⟩ := HALL.out _ HB1.out
      go_wp2_with fail
      refine (hoc _).mono ?_
      rintro e v2 ⟨rfl, hb⟩
      have HB2 := Lib.hid (HB1.out.trans (hb.mono (by have := HB1.out.size; have := HZ.out; omega)))
      clear c0 c69 c70 c105 c106 l1 l35 l71 lM hb
      obtain ⟨c0, c69, c70, c105, c106, l1, l35, l71, lM⟩ := HALL.out _ HB2.out
      go_wp2_with fail
      refine (hon _).mono ?_
      rintro e v3 ⟨rfl, hb⟩
      have HB3 := Lib.hid (HB2.out.trans (hb.mono (by have := HB2.out.size; have := HZ.out; omega)))
      clear c0 c69 c70 c105 c106 l1 l35 l71 lM hb
      obtain ⟨c0, c69, c70, c105, c106, l1, l35, l71, lM⟩ := HALL.out _ HB3.out
      go_wp2_with fail
      go_ret
      exact ⟨mbool_ret (by first | rfl | (simp; done) | (simp [*]; done) | (simp; omega)), HBEL.out.trans (HB3.out.mono (Nat.le_succ _))⟩
     ·
      go_enter Tryz.func109, Tryz.ntmps109
      go_wp2_with fail
      refine (hcmn _).mono ?_
      rintro e v1 ⟨rfl, hb⟩
      have HB1 := Lib.hid (HB0.out.trans (hb.mono (by have := HB0.out.size; have := HZ.out; omega)))
      clear c0 c69 c70 c105 c106 l1 l35 l71 lM hb
      obtain ⟨c0, c69, c70, c105, c106, l1, l35, l71, lM⟩ := HALL.out _ HB1.out
      go_wp2_with fail
      refine (hoc _).mono ?_
      rintro e v2 ⟨rfl, hb⟩
      have HB2 := Lib.hid (HB1.out.trans (hb.mono (by have := HB1.out.size; have := HZ.out; omega)))
      clear c0 c69 c70 c105 c106 l1 l35 l71 lM hb
      obtain ⟨c0, c69, c70, c105, c106, l1, l35, l71, lM⟩ := HALL.out _ HB2.out
      go_wp2_with fail
      refine (hon _).mono ?_
      rintro e v3 ⟨rfl, hb⟩
      have HB3 := Lib.hid (HB2.out.trans (hb.mono (by have := HB2.out.size; have := HZ.out; omega)))
      clear c0 c69 c70 c105 c106 l1 l35 l71 lM hb
      obtain ⟨c0, c69, c70, c105, c106, l1, l35, l71, lM⟩ := HALL.out _ HB3.out
      go_wp2_with fail
      go_ret
      exact ⟨mbool_ret (by first | rfl | (simp; done) | (simp [*]; done) | (simp; omega)), HBEL.out.trans (HB3.out.mono (Nat.le_succ _))⟩
    ·
     have bg : (got == 0) = false := beq_eq_false_iff_ne.2 hg
     go_enter Tryz.func109, Tryz.ntmps109
     go_wp2_with fail
     refine (hcmn _).mono ?_
     rintro e v1 ⟨rfl, hb⟩
     have HB1 := Lib.hid (HB0.out.trans (hb.mono (by have := HB0.out.size; have := HZ.out; omega)))
     clear c0 c69 c70 c105 c106 l1 l35 l71 lM hb
     obtain ⟨c0, c69, c70, c105, c106, l1, l35, l71, lM⟩ := HALL.out _ HB1.out
     go_wp2_with fail
     go_ret
     exact ⟨mbool_ret (by first | rfl | (simp; done) | (simp [*]; done) | (simp; omega)), HBEL.out.trans (HB1.out.mono (Nat.le_succ _))⟩
  rw [if_neg p3]
  have q3 : (ph == 3) = false := beq_eq_false_iff_ne.2 p3
  go_enter Tryz.func109, Tryz.ntmps109
  go_wp2_with fail
  go_ret
  exact ⟨mbool_ret (by first | rfl | (simp; done) | (simp [*]; done) | (simp; omega)), HBEL.out.trans (HB0.out.mono (Nat.le_succ _))⟩
 ·
  have hon : ∀ W, Calls Tryz.prog 108 #[.agg m.h0.cells.toArray] W fun e w' => e = .returned (.bool O) ∧ Below W.heap.size W w' := fun W => HE.out ▸ (Mt.oth1 HE0.out).symm ▸ none_c W m.h0 HD.out.d0
  by_cases p0 : ph = 0
  ·
   subst p0
   rw [if_pos rfl]
   cases C
   ·
    go_enter Tryz.func109, Tryz.ntmps109
    go_wp2_with fail
    refine (hcmn _).mono ?_
    rintro e v1 ⟨rfl, hb⟩
    have HB1 := Lib.hid (HB0.out.trans (hb.mono (by have := HB0.out.size; have := HZ.out; omega)))
    clear c0 c69 c70 c105 c106 l1 l35 l71 lM hb
    obtain ⟨c0, c69, c70, c105, c106, l1, l35, l71, lM⟩ := HALL.out _ HB1.out
    go_wp2_with fail
    go_ret
    exact ⟨mbool_ret (by first | rfl | (simp; done) | (simp [*]; done) | (simp; omega)), HBEL.out.trans (HB1.out.mono (Nat.le_succ _))⟩
   ·
    by_cases hg : got = 0
    ·
     subst hg
     by_cases ht : tr = 0
     ·
      subst ht
      go_enter Tryz.func109, Tryz.ntmps109
      go_wp2_with fail
      refine (hcmn _).mono ?_
      rintro e v1 ⟨rfl, hb⟩
      have HB1 := Lib.hid (HB0.out.trans (hb.mono (by have := HB0.out.size; have := HZ.out; omega)))
      clear c0 c69 c70 c105 c106 l1 l35 l71 lM hb
      obtain ⟨c0, c69, c70, c105, c106, l1, l35, l71, lM⟩ := HALL.out _ HB1.out
      go_wp2_with fail
      go_ret
      exact ⟨mbool_ret (by first | rfl | (simp; done) | (simp [*]; done) | (simp; omega)), HBEL.out.trans (HB1.out.mono (Nat.le_succ _))⟩
     ·
      have bt : (tr == 0) = false := beq_eq_false_iff_ne.2 ht
      go_enter Tryz.func109, Tryz.ntmps109
      go_wp2_with fail
      refine (hcmn _).mono ?_
      rintro e v1 ⟨rfl, hb⟩
      have HB1 := Lib.hid (HB0.out.trans (hb.mono (by have := HB0.out.size; have := HZ.out; omega)))
      clear c0 c69 c70 c105 c106 l1 l35 l71 lM hb
      obtain ⟨c0, c69, c70, c105, c106, l1, l35, l71, lM⟩ := HALL.out _ HB1.out
      go_wp2_with fail
      go_ret
      exact ⟨mbool_ret (by first | rfl | (simp; done) | (simp [*]; done) | (simp; omega)), HBEL.out.trans (HB1.out.mono (Nat.le_succ _))⟩
    ·
     have bg : (got == 0) = false := beq_eq_false_iff_ne.2 hg
     go_enter Tryz.func109, Tryz.ntmps109
     go_wp2_with fail
     refine (hcmn _).mono ?_
     rintro e v1 ⟨rfl, hb⟩
     have HB1 := Lib.hid (HB0.out.trans (hb.mono (by have := HB0.out.size; have := HZ.out; omega)))
     clear c0 c69 c70 c105 c106 l1 l35 l71 lM hb
     obtain ⟨c0, c69, c70, c105, c106, l1, l35, l71, lM⟩ := HALL.out _ HB1.out
     go_wp2_with fail
     go_ret
     exact ⟨mbool_ret (by first | rfl | (simp; done) | (simp [*]; done) | (simp; omega)), HBEL.out.trans (HB1.out.mono (Nat.le_succ _))⟩
  rw [if_neg p0]
  have q0 : (ph == 0) = false := beq_eq_false_iff_ne.2 p0
  by_cases p1 : ph = 1
  ·
   subst p1
   rw [if_pos (Or.inl rfl)]
   cases C
   ·
    cases O
    ·
     go_enter Tryz.func109, Tryz.ntmps109
     go_wp2_with fail
     refine (hchk _).mono ?_
     rintro e v1 ⟨rfl, hb⟩
     have HB1 := Lib.hid (HB0.out.trans (hb.mono (by have := HB0.out.size; have := HZ.out; omega)))
     clear c0 c69 c70 c105 c106 l1 l35 l71 lM hb
     obtain ⟨c0, c69, c70, c105, c106, l1, l35, l71, lM⟩ := HALL.out _ HB1.out
     go_wp2_with fail
     refine (hcmn _).mono ?_
     rintro e v2 ⟨rfl, hb⟩
     have HB2 := Lib.hid (HB1.out.trans (hb.mono (by have := HB1.out.size; have := HZ.out; omega)))
     clear c0 c69 c70 c105 c106 l1 l35 l71 lM hb
     obtain ⟨c0, c69, c70, c105, c106, l1, l35, l71, lM⟩ := HALL.out _ HB2.out
     go_wp2_with fail
     refine (hoc _).mono ?_
     rintro e v3 ⟨rfl, hb⟩
     have HB3 := Lib.hid (HB2.out.trans (hb.mono (by have := HB2.out.size; have := HZ.out; omega)))
     clear c0 c69 c70 c105 c106 l1 l35 l71 lM hb
     obtain ⟨c0, c69, c70, c105, c106, l1, l35, l71, lM⟩ := HALL.out _ HB3.out
     go_wp2_with fail
     refine (hon _).mono ?_
     rintro e v4 ⟨rfl, hb⟩
     have HB4 := Lib.hid (HB3.out.trans (hb.mono (by have := HB3.out.size; have := HZ.out; omega)))
     clear c0 c69 c70 c105 c106 l1 l35 l71 lM hb
     obtain ⟨c0, c69, c70, c105, c106, l1, l35, l71, lM⟩ := HALL.out _ HB4.out
     go_wp2_with fail
     go_ret
     exact ⟨mbool_ret (by first | rfl | (simp; done) | (simp [*]; done) | (simp; omega)), HBEL.out.trans (HB4.out.mono (Nat.le_succ _))⟩
    ·
     by_cases ht : tr = 0
     ·
      subst ht
      by_cases hg : got = K
      ·
       subst hg
       go_enter Tryz.func109, Tryz.ntmps109
       go_wp2_with fail
       refine (hchk _).mono ?_
       rintro e v1 ⟨rfl, hb⟩
       have HB1 := Lib.hid (HB0.out.trans (hb.mono (by have := HB0.out.size; have := HZ.out; omega)))
       clear c0 c69 c70 c105 c106 l1 l35 l71 lM hb
       obtain ⟨c0, c69, c70, c105, c106, l1, l35, l71, lM⟩ := HALL.out _ HB1.out
       go_wp2_with fail
       refine (hcmn _).mono ?_
       rintro e v2 ⟨rfl, hb⟩
       have HB2 := Lib.hid (HB1.out.trans (hb.mono (by have := HB1.out.size; have := HZ.out; omega)))
       clear c0 c69 c70 c105 c106 l1 l35 l71 lM hb
       obtain ⟨c0, c69, c70, c105, c106, l1, l35, l71, lM⟩ := HALL.out _ HB2.out
       go_wp2_with fail
       refine (hoc _).mono ?_
       rintro e v3 ⟨rfl, hb⟩
       have HB3 := Lib.hid (HB2.out.trans (hb.mono (by have := HB2.out.size; have := HZ.out; omega)))
       clear c0 c69 c70 c105 c106 l1 l35 l71 lM hb
       obtain ⟨c0, c69, c70, c105, c106, l1, l35, l71, lM⟩ := HALL.out _ HB3.out
       go_wp2_with fail
       refine (hon _).mono ?_
       rintro e v4 ⟨rfl, hb⟩
       have HB4 := Lib.hid (HB3.out.trans (hb.mono (by have := HB3.out.size; have := HZ.out; omega)))
       clear c0 c69 c70 c105 c106 l1 l35 l71 lM hb
       obtain ⟨c0, c69, c70, c105, c106, l1, l35, l71, lM⟩ := HALL.out _ HB4.out
       go_wp2_with fail
       go_ret
       exact ⟨mbool_ret (by first | rfl | (simp; done) | (simp [*]; done) | (simp; omega)), HBEL.out.trans (HB4.out.mono (Nat.le_succ _))⟩
      ·
       have bg : (got == K) = false := beq_eq_false_iff_ne.2 hg
       by_cases hl : got < K
       ·
        go_enter Tryz.func109, Tryz.ntmps109
        go_wp2_with fail
        refine (hchk _).mono ?_
        rintro e v1 ⟨rfl, hb⟩
        have HB1 := Lib.hid (HB0.out.trans (hb.mono (by have := HB0.out.size; have := HZ.out; omega)))
        clear c0 c69 c70 c105 c106 l1 l35 l71 lM hb
        obtain ⟨c0, c69, c70, c105, c106, l1, l35, l71, lM⟩ := HALL.out _ HB1.out
        go_wp2_with fail
        refine (hcmn _).mono ?_
        rintro e v2 ⟨rfl, hb⟩
        have HB2 := Lib.hid (HB1.out.trans (hb.mono (by have := HB1.out.size; have := HZ.out; omega)))
        clear c0 c69 c70 c105 c106 l1 l35 l71 lM hb
        obtain ⟨c0, c69, c70, c105, c106, l1, l35, l71, lM⟩ := HALL.out _ HB2.out
        go_wp2_with fail
        refine (hoc _).mono ?_
        rintro e v3 ⟨rfl, hb⟩
        have HB3 := Lib.hid (HB2.out.trans (hb.mono (by have := HB2.out.size; have := HZ.out; omega)))
        clear c0 c69 c70 c105 c106 l1 l35 l71 lM hb
        obtain ⟨c0, c69, c70, c105, c106, l1, l35, l71, lM⟩ := HALL.out _ HB3.out
        go_wp2_with fail
        refine (hon _).mono ?_
        rintro e v4 ⟨rfl, hb⟩
        have HB4 := Lib.hid (HB3.out.trans (hb.mono (by have := HB3.out.size; have := HZ.out; omega)))
        clear c0 c69 c70 c105 c106 l1 l35 l71 lM hb
        obtain ⟨c0, c69, c70, c105, c106, l1, l35, l71, lM⟩ := HALL.out _ HB4.out
        go_wp2_with fail
        go_ret
        exact ⟨mbool_ret (by first | rfl | (simp; done) | (simp [*]; done) | (simp; omega)), HBEL.out.trans (HB4.out.mono (Nat.le_succ _))⟩
       ·
        go_enter Tryz.func109, Tryz.ntmps109
        go_wp2_with fail
        refine (hchk _).mono ?_
        rintro e v1 ⟨rfl, hb⟩
        have HB1 := Lib.hid (HB0.out.trans (hb.mono (by have := HB0.out.size; have := HZ.out; omega)))
        clear c0 c69 c70 c105 c106 l1 l35 l71 lM hb
        obtain ⟨c0, c69, c70, c105, c106, l1, l35, l71, lM⟩ := HALL.out _ HB1.out
        go_wp2_with fail
        refine (hcmn _).mono ?_
        rintro e v2 ⟨rfl, hb⟩
        have HB2 := Lib.hid (HB1.out.trans (hb.mono (by have := HB1.out.size; have := HZ.out; omega)))
        clear c0 c69 c70 c105 c106 l1 l35 l71 lM hb
        obtain ⟨c0, c69, c70, c105, c106, l1, l35, l71, lM⟩ := HALL.out _ HB2.out
        go_wp2_with fail
        refine (hoc _).mono ?_
        rintro e v3 ⟨rfl, hb⟩
        have HB3 := Lib.hid (HB2.out.trans (hb.mono (by have := HB2.out.size; have := HZ.out; omega)))
        clear c0 c69 c70 c105 c106 l1 l35 l71 lM hb
        obtain ⟨c0, c69, c70, c105, c106, l1, l35, l71, lM⟩ := HALL.out _ HB3.out
        go_wp2_with fail
        refine (hon _).mono ?_
        rintro e v4 ⟨rfl, hb⟩
        have HB4 := Lib.hid (HB3.out.trans (hb.mono (by have := HB3.out.size; have := HZ.out; omega)))
        clear c0 c69 c70 c105 c106 l1 l35 l71 lM hb
        obtain ⟨c0, c69, c70, c105, c106, l1, l35, l71, lM⟩ := HALL.out _ HB4.out
        go_wp2_with fail
        go_ret
        exact ⟨mbool_ret (by first | rfl | (simp; done) | (simp [*]; done) | (simp; omega)), HBEL.out.trans (HB4.out.mono (Nat.le_succ _))⟩
     ·
      have bt : (tr == 0) = false := beq_eq_false_iff_ne.2 ht
      go_enter Tryz.func109, Tryz.ntmps109
      go_wp2_with fail
      refine (hchk _).mono ?_
      rintro e v1 ⟨rfl, hb⟩
      have HB1 := Lib.hid (HB0.out.trans (hb.mono (by have := HB0.out.size; have := HZ.out; omega)))
      clear c0 c69 c70 c105 c106 l1 l35 l71 lM hb
      obtain ⟨c0, c69, c70, c105, c106, l1, l35, l71, lM⟩ := HALL.out _ HB1.out
      go_wp2_with fail
      refine (hcmn _).mono ?_
      rintro e v2 ⟨rfl, hb⟩
      have HB2 := Lib.hid (HB1.out.trans (hb.mono (by have := HB1.out.size; have := HZ.out; omega)))
      clear c0 c69 c70 c105 c106 l1 l35 l71 lM hb
      obtain ⟨c0, c69, c70, c105, c106, l1, l35, l71, lM⟩ := HALL.out _ HB2.out
      go_wp2_with fail
      refine (hoc _).mono ?_
      rintro e v3 ⟨rfl, hb⟩
      have HB3 := Lib.hid (HB2.out.trans (hb.mono (by have := HB2.out.size; have := HZ.out; omega)))
      clear c0 c69 c70 c105 c106 l1 l35 l71 lM hb
      obtain ⟨c0, c69, c70, c105, c106, l1, l35, l71, lM⟩ := HALL.out _ HB3.out
      go_wp2_with fail
      refine (hon _).mono ?_
      rintro e v4 ⟨rfl, hb⟩
      have HB4 := Lib.hid (HB3.out.trans (hb.mono (by have := HB3.out.size; have := HZ.out; omega)))
      clear c0 c69 c70 c105 c106 l1 l35 l71 lM hb
      obtain ⟨c0, c69, c70, c105, c106, l1, l35, l71, lM⟩ := HALL.out _ HB4.out
      go_wp2_with fail
      go_ret
      exact ⟨mbool_ret (by first | rfl | (simp; done) | (simp [*]; done) | (simp; omega)), HBEL.out.trans (HB4.out.mono (Nat.le_succ _))⟩
   ·
    go_enter Tryz.func109, Tryz.ntmps109
    go_wp2_with fail
    refine (hchk _).mono ?_
    rintro e v1 ⟨rfl, hb⟩
    have HB1 := Lib.hid (HB0.out.trans (hb.mono (by have := HB0.out.size; have := HZ.out; omega)))
    clear c0 c69 c70 c105 c106 l1 l35 l71 lM hb
    obtain ⟨c0, c69, c70, c105, c106, l1, l35, l71, lM⟩ := HALL.out _ HB1.out
    go_wp2_with fail
    refine (hcmn _).mono ?_
    rintro e v2 ⟨rfl, hb⟩
    have HB2 := Lib.hid (HB1.out.trans (hb.mono (by have := HB1.out.size; have := HZ.out; omega)))
    clear c0 c69 c70 c105 c106 l1 l35 l71 lM hb
    obtain ⟨c0, c69, c70, c105, c106, l1, l35, l71, lM⟩ := HALL.out _ HB2.out
    go_wp2_with fail
    go_ret
    exact ⟨mbool_ret (by first | rfl | (simp; done) | (simp [*]; done) | (simp; omega)), HBEL.out.trans (HB2.out.mono (Nat.le_succ _))⟩
  have q1 : (ph == 1) = false := beq_eq_false_iff_ne.2 p1
  by_cases p2 : ph = 2
  ·
   subst p2
   rw [if_pos (Or.inr rfl)]
   cases C
   ·
    cases O
    ·
     go_enter Tryz.func109, Tryz.ntmps109
     go_wp2_with fail
     refine (hchk _).mono ?_
     rintro e v1 ⟨rfl, hb⟩
     have HB1 := Lib.hid (HB0.out.trans (hb.mono (by have := HB0.out.size; have := HZ.out; omega)))
     clear c0 c69 c70 c105 c106 l1 l35 l71 lM hb
     obtain ⟨c0, c69, c70, c105, c106, l1, l35, l71, lM⟩ := HALL.out _ HB1.out
     go_wp2_with fail
     refine (hcmn _).mono ?_
     rintro e v2 ⟨rfl, hb⟩
     have HB2 := Lib.hid (HB1.out.trans (hb.mono (by have := HB1.out.size; have := HZ.out; omega)))
     clear c0 c69 c70 c105 c106 l1 l35 l71 lM hb
     obtain ⟨c0, c69, c70, c105, c106, l1, l35, l71, lM⟩ := HALL.out _ HB2.out
     go_wp2_with fail
     refine (hoc _).mono ?_
     rintro e v3 ⟨rfl, hb⟩
     have HB3 := Lib.hid (HB2.out.trans (hb.mono (by have := HB2.out.size; have := HZ.out; omega)))
     clear c0 c69 c70 c105 c106 l1 l35 l71 lM hb
     obtain ⟨c0, c69, c70, c105, c106, l1, l35, l71, lM⟩ := HALL.out _ HB3.out
     go_wp2_with fail
     refine (hon _).mono ?_
     rintro e v4 ⟨rfl, hb⟩
     have HB4 := Lib.hid (HB3.out.trans (hb.mono (by have := HB3.out.size; have := HZ.out; omega)))
     clear c0 c69 c70 c105 c106 l1 l35 l71 lM hb
     obtain ⟨c0, c69, c70, c105, c106, l1, l35, l71, lM⟩ := HALL.out _ HB4.out
     go_wp2_with fail
     go_ret
     exact ⟨mbool_ret (by first | rfl | (simp; done) | (simp [*]; done) | (simp; omega)), HBEL.out.trans (HB4.out.mono (Nat.le_succ _))⟩
    ·
     by_cases ht : tr = 0
     ·
      subst ht
      by_cases hg : got = K
      ·
       subst hg
       go_enter Tryz.func109, Tryz.ntmps109
       go_wp2_with fail
       refine (hchk _).mono ?_
       rintro e v1 ⟨rfl, hb⟩
       have HB1 := Lib.hid (HB0.out.trans (hb.mono (by have := HB0.out.size; have := HZ.out; omega)))
       clear c0 c69 c70 c105 c106 l1 l35 l71 lM hb
       obtain ⟨c0, c69, c70, c105, c106, l1, l35, l71, lM⟩ := HALL.out _ HB1.out
       go_wp2_with fail
       refine (hcmn _).mono ?_
       rintro e v2 ⟨rfl, hb⟩
       have HB2 := Lib.hid (HB1.out.trans (hb.mono (by have := HB1.out.size; have := HZ.out; omega)))
       clear c0 c69 c70 c105 c106 l1 l35 l71 lM hb
       obtain ⟨c0, c69, c70, c105, c106, l1, l35, l71, lM⟩ := HALL.out _ HB2.out
       go_wp2_with fail
       refine (hoc _).mono ?_
       rintro e v3 ⟨rfl, hb⟩
       have HB3 := Lib.hid (HB2.out.trans (hb.mono (by have := HB2.out.size; have := HZ.out; omega)))
       clear c0 c69 c70 c105 c106 l1 l35 l71 lM hb
       obtain ⟨c0, c69, c70, c105, c106, l1, l35, l71, lM⟩ := HALL.out _ HB3.out
       go_wp2_with fail
       refine (hon _).mono ?_
       rintro e v4 ⟨rfl, hb⟩
       have HB4 := Lib.hid (HB3.out.trans (hb.mono (by have := HB3.out.size; have := HZ.out; omega)))
       clear c0 c69 c70 c105 c106 l1 l35 l71 lM hb
       obtain ⟨c0, c69, c70, c105, c106, l1, l35, l71, lM⟩ := HALL.out _ HB4.out
       go_wp2_with fail
       go_ret
       exact ⟨mbool_ret (by first | rfl | (simp; done) | (simp [*]; done) | (simp; omega)), HBEL.out.trans (HB4.out.mono (Nat.le_succ _))⟩
      ·
       have bg : (got == K) = false := beq_eq_false_iff_ne.2 hg
       go_enter Tryz.func109, Tryz.ntmps109
       go_wp2_with fail
       refine (hchk _).mono ?_
       rintro e v1 ⟨rfl, hb⟩
       have HB1 := Lib.hid (HB0.out.trans (hb.mono (by have := HB0.out.size; have := HZ.out; omega)))
       clear c0 c69 c70 c105 c106 l1 l35 l71 lM hb
       obtain ⟨c0, c69, c70, c105, c106, l1, l35, l71, lM⟩ := HALL.out _ HB1.out
       go_wp2_with fail
       refine (hcmn _).mono ?_
       rintro e v2 ⟨rfl, hb⟩
       have HB2 := Lib.hid (HB1.out.trans (hb.mono (by have := HB1.out.size; have := HZ.out; omega)))
       clear c0 c69 c70 c105 c106 l1 l35 l71 lM hb
       obtain ⟨c0, c69, c70, c105, c106, l1, l35, l71, lM⟩ := HALL.out _ HB2.out
       go_wp2_with fail
       refine (hoc _).mono ?_
       rintro e v3 ⟨rfl, hb⟩
       have HB3 := Lib.hid (HB2.out.trans (hb.mono (by have := HB2.out.size; have := HZ.out; omega)))
       clear c0 c69 c70 c105 c106 l1 l35 l71 lM hb
       obtain ⟨c0, c69, c70, c105, c106, l1, l35, l71, lM⟩ := HALL.out _ HB3.out
       go_wp2_with fail
       refine (hon _).mono ?_
       rintro e v4 ⟨rfl, hb⟩
       have HB4 := Lib.hid (HB3.out.trans (hb.mono (by have := HB3.out.size; have := HZ.out; omega)))
       clear c0 c69 c70 c105 c106 l1 l35 l71 lM hb
       obtain ⟨c0, c69, c70, c105, c106, l1, l35, l71, lM⟩ := HALL.out _ HB4.out
       go_wp2_with fail
       go_ret
       exact ⟨mbool_ret (by first | rfl | (simp; done) | (simp [*]; done) | (simp; omega)), HBEL.out.trans (HB4.out.mono (Nat.le_succ _))⟩
     ·
      have bt : (tr == 0) = false := beq_eq_false_iff_ne.2 ht
      go_enter Tryz.func109, Tryz.ntmps109
      go_wp2_with fail
      refine (hchk _).mono ?_
      rintro e v1 ⟨rfl, hb⟩
      have HB1 := Lib.hid (HB0.out.trans (hb.mono (by have := HB0.out.size; have := HZ.out; omega)))
      clear c0 c69 c70 c105 c106 l1 l35 l71 lM hb
      obtain ⟨c0, c69, c70, c105, c106, l1, l35, l71, lM⟩ := HALL.out _ HB1.out
      go_wp2_with fail
      refine (hcmn _).mono ?_
      rintro e v2 ⟨rfl, hb⟩
      have HB2 := Lib.hid (HB1.out.trans (hb.mono (by have := HB1.out.size; have := HZ.out; omega)))
      clear c0 c69 c70 c105 c106 l1 l35 l71 lM hb
      obtain ⟨c0, c69, c70, c105, c106, l1, l35, l71, lM⟩ := HALL.out _ HB2.out
      go_wp2_with fail
      refine (hoc _).mono ?_
      rintro e v3 ⟨rfl, hb⟩
      have HB3 := Lib.hid (HB2.out.trans (hb.mono (by have := HB2.out.size; have := HZ.out; omega)))
      clear c0 c69 c70 c105 c106 l1 l35 l71 lM hb
      obtain ⟨c0, c69, c70, c105, c106, l1, l35, l71, lM⟩ := HALL.out _ HB3.out
      go_wp2_with fail
      refine (hon _).mono ?_
      rintro e v4 ⟨rfl, hb⟩
      have HB4 := Lib.hid (HB3.out.trans (hb.mono (by have := HB3.out.size; have := HZ.out; omega)))
      clear c0 c69 c70 c105 c106 l1 l35 l71 lM hb
      obtain ⟨c0, c69, c70, c105, c106, l1, l35, l71, lM⟩ := HALL.out _ HB4.out
      go_wp2_with fail
      go_ret
      exact ⟨mbool_ret (by first | rfl | (simp; done) | (simp [*]; done) | (simp; omega)), HBEL.out.trans (HB4.out.mono (Nat.le_succ _))⟩
   ·
    go_enter Tryz.func109, Tryz.ntmps109
    go_wp2_with fail
    refine (hchk _).mono ?_
    rintro e v1 ⟨rfl, hb⟩
    have HB1 := Lib.hid (HB0.out.trans (hb.mono (by have := HB0.out.size; have := HZ.out; omega)))
    clear c0 c69 c70 c105 c106 l1 l35 l71 lM hb
    obtain ⟨c0, c69, c70, c105, c106, l1, l35, l71, lM⟩ := HALL.out _ HB1.out
    go_wp2_with fail
    refine (hcmn _).mono ?_
    rintro e v2 ⟨rfl, hb⟩
    have HB2 := Lib.hid (HB1.out.trans (hb.mono (by have := HB1.out.size; have := HZ.out; omega)))
    clear c0 c69 c70 c105 c106 l1 l35 l71 lM hb
    obtain ⟨c0, c69, c70, c105, c106, l1, l35, l71, lM⟩ := HALL.out _ HB2.out
    go_wp2_with fail
    go_ret
    exact ⟨mbool_ret (by first | rfl | (simp; done) | (simp [*]; done) | (simp; omega)), HBEL.out.trans (HB2.out.mono (Nat.le_succ _))⟩
  rw [if_neg (by omega)]
  have q2 : (ph == 2) = false := beq_eq_false_iff_ne.2 p2
  by_cases p3 : ph = 3
  ·
   subst p3
   rw [if_pos rfl]
   cases C
   ·
    go_enter Tryz.func109, Tryz.ntmps109
    go_wp2_with fail
    refine (hcmn _).mono ?_
    rintro e v1 ⟨rfl, hb⟩
    have HB1 := Lib.hid (HB0.out.trans (hb.mono (by have := HB0.out.size; have := HZ.out; omega)))
    clear c0 c69 c70 c105 c106 l1 l35 l71 lM hb
    obtain ⟨c0, c69, c70, c105, c106, l1, l35, l71, lM⟩ := HALL.out _ HB1.out
    go_wp2_with fail
    go_ret
    exact ⟨mbool_ret (by first | rfl | (simp; done) | (simp [*]; done) | (simp; omega)), HBEL.out.trans (HB1.out.mono (Nat.le_succ _))⟩
   ·
    by_cases hg : got = 0
    ·
     subst hg
     cases O
     ·
      go_enter Tryz.func109, Tryz.ntmps109
      go_wp2_with fail
      refine (hcmn _).mono ?_
      rintro e v1 ⟨rfl, hb⟩
      have HB1 := Lib.hid (HB0.out.trans (hb.mono (by have := HB0.out.size; have := HZ.out; omega)))
      clear c0 c69 c70 c105 c106 l1 l35 l71 lM hb
      obtain ⟨c0, c69, c70, c105, c106, l1, l35, l71, lM⟩ := HALL.out _ HB1.out
      go_wp2_with fail
      refine (hoc _).mono ?_
      rintro e v2 ⟨rfl, hb⟩
      have HB2 := Lib.hid (HB1.out.trans (hb.mono (by have := HB1.out.size; have := HZ.out; omega)))
      clear c0 c69 c70 c105 c106 l1 l35 l71 lM hb
      obtain ⟨c0, c69, c70, c105, c106, l1, l35, l71, lM⟩ := HALL.out _ HB2.out
      go_wp2_with fail
      refine (hon _).mono ?_
      rintro e v3 ⟨rfl, hb⟩
      have HB3 := Lib.hid (HB2.out.trans (hb.mono (by have := HB2.out.size; have := HZ.out; omega)))
      clear c0 c69 c70 c105 c106 l1 l35 l71 lM hb
      obtain ⟨c0, c69, c70, c105, c106, l1, l35, l71, lM⟩ := HALL.out _ HB3.out
      go_wp2_with fail
      go_ret
      exact ⟨mbool_ret (by first | rfl | (simp; done) | (simp [*]; done) | (simp; omega)), HBEL.out.trans (HB3.out.mono (Nat.le_succ _))⟩
     ·
      go_enter Tryz.func109, Tryz.ntmps109
      go_wp2_with fail
      refine (hcmn _).mono ?_
      rintro e v1 ⟨rfl, hb⟩
      have HB1 := Lib.hid (HB0.out.trans (hb.mono (by have := HB0.out.size; have := HZ.out; omega)))
      clear c0 c69 c70 c105 c106 l1 l35 l71 lM hb
      obtain ⟨c0, c69, c70, c105, c106, l1, l35, l71, lM⟩ := HALL.out _ HB1.out
      go_wp2_with fail
      refine (hoc _).mono ?_
      rintro e v2 ⟨rfl, hb⟩
      have HB2 := Lib.hid (HB1.out.trans (hb.mono (by have := HB1.out.size; have := HZ.out; omega)))
      clear c0 c69 c70 c105 c106 l1 l35 l71 lM hb
      obtain ⟨c0, c69, c70, c105, c106, l1, l35, l71, lM⟩ := HALL.out _ HB2.out
      go_wp2_with fail
      refine (hon _).mono ?_
      rintro e v3 ⟨rfl, hb⟩
      have HB3 := Lib.hid (HB2.out.trans (hb.mono (by have := HB2.out.size; have := HZ.out; omega)))
      clear c0 c69 c70 c105 c106 l1 l35 l71 lM hb
      obtain ⟨c0, c69, c70, c105, c106, l1, l35, l71, lM⟩ := HALL.out _ HB3.out
      go_wp2_with fail
      go_ret
      exact ⟨mbool_ret (by first | rfl | (simp; done) | (simp [*]; done) | (simp; omega)), HBEL.out.trans (HB3.out.mono (Nat.le_succ _))⟩
    ·
     have bg : (got == 0) = false := beq_eq_false_iff_ne.2 hg
     go_enter Tryz.func109, Tryz.ntmps109
     go_wp2_with fail
     refine (hcmn _).mono ?_
     rintro e v1 ⟨rfl, hb⟩
     have HB1 := Lib.hid (HB0.out.trans (hb.mono (by have := HB0.out.size; have := HZ.out; omega)))
     clear c0 c69 c70 c105 c106 l1 l35 l71 lM hb
     obtain ⟨c0, c69, c70, c105, c106, l1, l35, l71, lM⟩ := HALL.out _ HB1.out
     go_wp2_with fail
     go_ret
     exact ⟨mbool_ret (by first | rfl | (simp; done) | (simp [*]; done) | (simp; omega)), HBEL.out.trans (HB1.out.mono (Nat.le_succ _))⟩
  rw [if_neg p3]
  have q3 : (ph == 3) = false := beq_eq_false_iff_ne.2 p3
  go_enter Tryz.func109, Tryz.ntmps109
  go_wp2_with fail
  go_ret
  exact ⟨mbool_ret (by first | rfl | (simp; done) | (simp [*]; done) | (simp; omega)), HBEL.out.trans (HB0.out.mono (Nat.le_succ _))⟩
end Go.Proofs.YtpafenlcgcenlaaGreatDoor
namespace Go.Proofs.YtpafenlcgcenlaaGreatDoor
open Go Go.RowKit
set_option linter.unusedVariables false
set_option linter.unusedSimpArgs false
attribute [local go_sem ↓] sldI_seal sldM_seal
def Mt.right (m : Mt) : Bool :=
 decide (0 ≤ m.act) && (decide (m.act ≤ 1) && (m.h0.may && (m.h1.may && (m.cm.may && (!(m.have_ m.act).none && (decide (0 ≤ m.mn) && (decide (m.mn ≤ 1073741824) && (decide (0 ≤ m.got) && (decide (m.got ≤ 6) && (decide (0 ≤ m.tr) && (decide (m.tr ≤ 2) && m.phaseB)))))))))))
set_option maxRecDepth 100000 in
set_option maxHeartbeats 20000000 in
theorem right_c (w : World) (m : Mt) (h : m.Ok) : Calls Tryz.prog 63 #[.agg m.cells.toArray] w fun e w' => e = .returned (.bool m.right) ∧ Below w.heap.size w w' := by
 have hB := Lib.hid (Blk.new w 44 m.cells.toArray)
 have hbel : Below w.heap.size w (w.alloc (.cells m.cells.toArray 44)) := (Below.refl _ _).alloc (Nat.le_refl _) _
 have HBEL := Lib.hid hbel
 obtain ⟨act, e0⟩ : ∃ x, m.act = x := ⟨_, rfl⟩
 obtain ⟨mn, e1⟩ : ∃ x, m.mn = x := ⟨_, rfl⟩
 obtain ⟨ph, e2⟩ : ∃ x, m.ph = x := ⟨_, rfl⟩
 obtain ⟨got, e3⟩ : ∃ x, m.got = x := ⟨_, rfl⟩
 obtain ⟨tr, e4⟩ : ∃ x, m.tr = x := ⟨_, rfl⟩
 obtain ⟨H0, eH0⟩ : ∃ x, m.h0.may = x := ⟨_, rfl⟩
 obtain ⟨H1, eH1⟩ : ∃ x, m.h1.may = x := ⟨_, rfl⟩
 obtain ⟨A, eA⟩ : ∃ x, (m.have_ act).none = x := ⟨_, rfl⟩
 obtain ⟨PB, eP⟩ : ∃ x, m.phaseB = x := ⟨_, rfl⟩
 have him0 : ∀ W, Calls Tryz.prog 107 #[.agg m.h0.cells.toArray] W fun e w' => e = .returned (.bool H0) ∧ Below W.heap.size W w' := fun W => eH0 ▸ image_c W m.h0 h.d0
 have him1 : ∀ W, Calls Tryz.prog 107 #[.agg m.h1.cells.toArray] W fun e w' => e = .returned (.bool H1) ∧ Below W.heap.size W w' := fun W => eH1 ▸ image_c W m.h1 h.d1
 have him2 : ∀ W, Calls Tryz.prog 107 #[.agg m.cm.cells.toArray] W fun e w' => e = .returned (.bool m.cm.may) ∧ Below W.heap.size W w' := fun W => image_c W m.cm h.d2
 have hphz0 : (m.act = 0 ∨ m.act = 1) → m.cm.may = true → ∀ W, Calls Tryz.prog 109 #[.agg m.cells.toArray] W fun e w' => e = .returned (.bool PB) ∧ Below W.heap.size W w' := fun ha hc W => eP ▸ phase_c W m h ha (Img.may_b hc).2
 have hR : m.right = (decide (0 ≤ act) && (decide (act ≤ 1) && (H0 && (H1 && (m.cm.may && (!A && (decide (0 ≤ mn) && (decide (mn ≤ 1073741824) && (decide (0 ≤ got) && (decide (got ≤ 6) && (decide (0 ≤ tr) && (decide (tr ≤ 2) && PB)))))))))))) := by
  unfold Mt.right
  rw [e0, e1, e3, e4, eH0, eH1, eA, eP]
 rw [hR]
 have hall : ∀ W, Below (w.heap.size + 1) (w.alloc (.cells m.cells.toArray 44)) W → _ := fun W hb => mall h (hB.out.below hb (by omega)) act mn ph got tr e0 e1 e2 e3 e4
 have hz : (w.alloc (.cells m.cells.toArray 44)).heap.size = w.heap.size + 1 := by simp
 have h00 := hall _ (Below.refl _ _)
 rw [e0] at hphz0
 have HALL := Lib.hid hall
 have HZ := Lib.hid hz
 have HA := Lib.hid eA
 have HD := Lib.hid h
 have HPZ := Lib.hid hphz0
 clear hR hall hz e0 e1 e2 e3 e4 eH0 eH1 eA eP h hB hbel hphz0
 have HB0 := Lib.hid (Below.refl (w.heap.size + 1) (w.alloc (.cells m.cells.toArray 44)))
 obtain ⟨c0, c69, c70, c105, c106, l1, l35, l71, lM⟩ := h00
 by_cases s1 : act < 0
 ·
  go_enter Tryz.func63, Tryz.ntmps63
  go_wp2_with fail
  go_ret
  exact ⟨mbool_ret (by first | rfl | (simp; done) | (simp [*]; done) | (simp; omega)), HBEL.out.trans (HB0.out.mono (Nat.le_succ _))⟩
 by_cases s2 : 1 < act
 ·
  go_enter Tryz.func63, Tryz.ntmps63
  go_wp2_with fail
  go_ret
  exact ⟨mbool_ret (by first | rfl | (simp; done) | (simp [*]; done) | (simp; omega)), HBEL.out.trans (HB0.out.mono (Nat.le_succ _))⟩
 have s3 : act = 0 ∨ act = 1 := by omega
 clear s1 s2
 rcases s3 with rfl | rfl
 ·
  have hphz := HPZ.out (by omega)
  have hna : ∀ W, Calls Tryz.prog 108 #[.agg m.h0.cells.toArray] W fun e w' => e = .returned (.bool A) ∧ Below W.heap.size W w' := fun W => HA.out ▸ none_c W m.h0 HD.out.d0
  cases H0
  ·
   go_enter Tryz.func63, Tryz.ntmps63
   go_wp2_with fail
   refine (him0 _).mono ?_
   rintro e v1 ⟨rfl, hb⟩
   have HB1 := Lib.hid (HB0.out.trans (hb.mono (by have := HB0.out.size; have := HZ.out; omega)))
   clear c0 c69 c70 c105 c106 l1 l35 l71 lM hb
   obtain ⟨c0, c69, c70, c105, c106, l1, l35, l71, lM⟩ := HALL.out _ HB1.out
   go_wp2_with fail
   go_ret
   exact ⟨mbool_ret (by first | rfl | (simp; done) | (simp [*]; done) | (simp; omega)), HBEL.out.trans (HB1.out.mono (Nat.le_succ _))⟩
  ·
   cases H1
   ·
    go_enter Tryz.func63, Tryz.ntmps63
    go_wp2_with fail
    refine (him0 _).mono ?_
    rintro e v1 ⟨rfl, hb⟩
    have HB1 := Lib.hid (HB0.out.trans (hb.mono (by have := HB0.out.size; have := HZ.out; omega)))
    clear c0 c69 c70 c105 c106 l1 l35 l71 lM hb
    obtain ⟨c0, c69, c70, c105, c106, l1, l35, l71, lM⟩ := HALL.out _ HB1.out
    go_wp2_with fail
    refine (him1 _).mono ?_
    rintro e v2 ⟨rfl, hb⟩
    have HB2 := Lib.hid (HB1.out.trans (hb.mono (by have := HB1.out.size; have := HZ.out; omega)))
    clear c0 c69 c70 c105 c106 l1 l35 l71 lM hb
    obtain ⟨c0, c69, c70, c105, c106, l1, l35, l71, lM⟩ := HALL.out _ HB2.out
    go_wp2_with fail
    go_ret
    exact ⟨mbool_ret (by first | rfl | (simp; done) | (simp [*]; done) | (simp; omega)), HBEL.out.trans (HB2.out.mono (Nat.le_succ _))⟩
   ·
    cases hCM : m.cm.may
    ·
     have him2 := fun W => hCM ▸ him2 W
     go_enter Tryz.func63, Tryz.ntmps63
     go_wp2_with fail
     refine (him0 _).mono ?_
     rintro e v1 ⟨rfl, hb⟩
     have HB1 := Lib.hid (HB0.out.trans (hb.mono (by have := HB0.out.size; have := HZ.out; omega)))
     clear c0 c69 c70 c105 c106 l1 l35 l71 lM hb
     obtain ⟨c0, c69, c70, c105, c106, l1, l35, l71, lM⟩ := HALL.out _ HB1.out
     go_wp2_with fail
     refine (him1 _).mono ?_
     rintro e v2 ⟨rfl, hb⟩
     have HB2 := Lib.hid (HB1.out.trans (hb.mono (by have := HB1.out.size; have := HZ.out; omega)))
     clear c0 c69 c70 c105 c106 l1 l35 l71 lM hb
     obtain ⟨c0, c69, c70, c105, c106, l1, l35, l71, lM⟩ := HALL.out _ HB2.out
     go_wp2_with fail
     refine (him2 _).mono ?_
     rintro e v3 ⟨rfl, hb⟩
     have HB3 := Lib.hid (HB2.out.trans (hb.mono (by have := HB2.out.size; have := HZ.out; omega)))
     clear c0 c69 c70 c105 c106 l1 l35 l71 lM hb
     obtain ⟨c0, c69, c70, c105, c106, l1, l35, l71, lM⟩ := HALL.out _ HB3.out
     go_wp2_with fail
     go_ret
     exact ⟨mbool_ret (by first | rfl | (simp; done) | (simp [*]; done) | (simp; omega)), HBEL.out.trans (HB3.out.mono (Nat.le_succ _))⟩
    ·
     have him2 := fun W => hCM ▸ him2 W
     have hph := fun W => hphz hCM W
     clear hCM
     cases A
     ·
      by_cases t1 : mn < 0
      ·
       go_enter Tryz.func63, Tryz.ntmps63
       go_wp2_with fail
       refine (him0 _).mono ?_
       rintro e v1 ⟨rfl, hb⟩
       have HB1 := Lib.hid (HB0.out.trans (hb.mono (by have := HB0.out.size; have := HZ.out; omega)))
       clear c0 c69 c70 c105 c106 l1 l35 l71 lM hb
       obtain ⟨c0, c69, c70, c105, c106, l1, l35, l71, lM⟩ := HALL.out _ HB1.out
       go_wp2_with fail
       refine (him1 _).mono ?_
       rintro e v2 ⟨rfl, hb⟩
       have HB2 := Lib.hid (HB1.out.trans (hb.mono (by have := HB1.out.size; have := HZ.out; omega)))
       clear c0 c69 c70 c105 c106 l1 l35 l71 lM hb
       obtain ⟨c0, c69, c70, c105, c106, l1, l35, l71, lM⟩ := HALL.out _ HB2.out
       go_wp2_with fail
       refine (him2 _).mono ?_
       rintro e v3 ⟨rfl, hb⟩
       have HB3 := Lib.hid (HB2.out.trans (hb.mono (by have := HB2.out.size; have := HZ.out; omega)))
       clear c0 c69 c70 c105 c106 l1 l35 l71 lM hb
       obtain ⟨c0, c69, c70, c105, c106, l1, l35, l71, lM⟩ := HALL.out _ HB3.out
       go_wp2_with fail
       refine (hna _).mono ?_
       rintro e v4 ⟨rfl, hb⟩
       have HB4 := Lib.hid (HB3.out.trans (hb.mono (by have := HB3.out.size; have := HZ.out; omega)))
       clear c0 c69 c70 c105 c106 l1 l35 l71 lM hb
       obtain ⟨c0, c69, c70, c105, c106, l1, l35, l71, lM⟩ := HALL.out _ HB4.out
       go_wp2_with fail
       go_ret
       exact ⟨mbool_ret (by first | rfl | (simp; done) | (simp [*]; done) | (simp; omega)), HBEL.out.trans (HB4.out.mono (Nat.le_succ _))⟩
      ·
       by_cases t2 : 1073741824 < mn
       ·
        go_enter Tryz.func63, Tryz.ntmps63
        go_wp2_with fail
        refine (him0 _).mono ?_
        rintro e v1 ⟨rfl, hb⟩
        have HB1 := Lib.hid (HB0.out.trans (hb.mono (by have := HB0.out.size; have := HZ.out; omega)))
        clear c0 c69 c70 c105 c106 l1 l35 l71 lM hb
        obtain ⟨c0, c69, c70, c105, c106, l1, l35, l71, lM⟩ := HALL.out _ HB1.out
        go_wp2_with fail
        refine (him1 _).mono ?_
        rintro e v2 ⟨rfl, hb⟩
        have HB2 := Lib.hid (HB1.out.trans (hb.mono (by have := HB1.out.size; have := HZ.out; omega)))
        clear c0 c69 c70 c105 c106 l1 l35 l71 lM hb
        obtain ⟨c0, c69, c70, c105, c106, l1, l35, l71, lM⟩ := HALL.out _ HB2.out
        go_wp2_with fail
        refine (him2 _).mono ?_
        rintro e v3 ⟨rfl, hb⟩
        have HB3 := Lib.hid (HB2.out.trans (hb.mono (by have := HB2.out.size; have := HZ.out; omega)))
        clear c0 c69 c70 c105 c106 l1 l35 l71 lM hb
        obtain ⟨c0, c69, c70, c105, c106, l1, l35, l71, lM⟩ := HALL.out _ HB3.out
        go_wp2_with fail
        refine (hna _).mono ?_
        rintro e v4 ⟨rfl, hb⟩
        have HB4 := Lib.hid (HB3.out.trans (hb.mono (by have := HB3.out.size; have := HZ.out; omega)))
        clear c0 c69 c70 c105 c106 l1 l35 l71 lM hb
        obtain ⟨c0, c69, c70, c105, c106, l1, l35, l71, lM⟩ := HALL.out _ HB4.out
        go_wp2_with fail
        go_ret
        exact ⟨mbool_ret (by first | rfl | (simp; done) | (simp [*]; done) | (simp; omega)), HBEL.out.trans (HB4.out.mono (Nat.le_succ _))⟩
       ·
        by_cases t3 : got < 0
        ·
         go_enter Tryz.func63, Tryz.ntmps63
         go_wp2_with fail
         refine (him0 _).mono ?_
         rintro e v1 ⟨rfl, hb⟩
         have HB1 := Lib.hid (HB0.out.trans (hb.mono (by have := HB0.out.size; have := HZ.out; omega)))
         clear c0 c69 c70 c105 c106 l1 l35 l71 lM hb
         obtain ⟨c0, c69, c70, c105, c106, l1, l35, l71, lM⟩ := HALL.out _ HB1.out
         go_wp2_with fail
         refine (him1 _).mono ?_
         rintro e v2 ⟨rfl, hb⟩
         have HB2 := Lib.hid (HB1.out.trans (hb.mono (by have := HB1.out.size; have := HZ.out; omega)))
         clear c0 c69 c70 c105 c106 l1 l35 l71 lM hb
         obtain ⟨c0, c69, c70, c105, c106, l1, l35, l71, lM⟩ := HALL.out _ HB2.out
         go_wp2_with fail
         refine (him2 _).mono ?_
         rintro e v3 ⟨rfl, hb⟩
         have HB3 := Lib.hid (HB2.out.trans (hb.mono (by have := HB2.out.size; have := HZ.out; omega)))
         clear c0 c69 c70 c105 c106 l1 l35 l71 lM hb
         obtain ⟨c0, c69, c70, c105, c106, l1, l35, l71, lM⟩ := HALL.out _ HB3.out
         go_wp2_with fail
         refine (hna _).mono ?_
         rintro e v4 ⟨rfl, hb⟩
         have HB4 := Lib.hid (HB3.out.trans (hb.mono (by have := HB3.out.size; have := HZ.out; omega)))
         clear c0 c69 c70 c105 c106 l1 l35 l71 lM hb
         obtain ⟨c0, c69, c70, c105, c106, l1, l35, l71, lM⟩ := HALL.out _ HB4.out
         go_wp2_with fail
         go_ret
         exact ⟨mbool_ret (by first | rfl | (simp; done) | (simp [*]; done) | (simp; omega)), HBEL.out.trans (HB4.out.mono (Nat.le_succ _))⟩
        ·
         by_cases t4 : 6 < got
         ·
          go_enter Tryz.func63, Tryz.ntmps63
          go_wp2_with fail
          refine (him0 _).mono ?_
          rintro e v1 ⟨rfl, hb⟩
          have HB1 := Lib.hid (HB0.out.trans (hb.mono (by have := HB0.out.size; have := HZ.out; omega)))
          clear c0 c69 c70 c105 c106 l1 l35 l71 lM hb
          obtain ⟨c0, c69, c70, c105, c106, l1, l35, l71, lM⟩ := HALL.out _ HB1.out
          go_wp2_with fail
          refine (him1 _).mono ?_
          rintro e v2 ⟨rfl, hb⟩
          have HB2 := Lib.hid (HB1.out.trans (hb.mono (by have := HB1.out.size; have := HZ.out; omega)))
          clear c0 c69 c70 c105 c106 l1 l35 l71 lM hb
          obtain ⟨c0, c69, c70, c105, c106, l1, l35, l71, lM⟩ := HALL.out _ HB2.out
          go_wp2_with fail
          refine (him2 _).mono ?_
          rintro e v3 ⟨rfl, hb⟩
          have HB3 := Lib.hid (HB2.out.trans (hb.mono (by have := HB2.out.size; have := HZ.out; omega)))
          clear c0 c69 c70 c105 c106 l1 l35 l71 lM hb
          obtain ⟨c0, c69, c70, c105, c106, l1, l35, l71, lM⟩ := HALL.out _ HB3.out
          go_wp2_with fail
          refine (hna _).mono ?_
          rintro e v4 ⟨rfl, hb⟩
          have HB4 := Lib.hid (HB3.out.trans (hb.mono (by have := HB3.out.size; have := HZ.out; omega)))
          clear c0 c69 c70 c105 c106 l1 l35 l71 lM hb
          obtain ⟨c0, c69, c70, c105, c106, l1, l35, l71, lM⟩ := HALL.out _ HB4.out
          go_wp2_with fail
          go_ret
          exact ⟨mbool_ret (by first | rfl | (simp; done) | (simp [*]; done) | (simp; omega)), HBEL.out.trans (HB4.out.mono (Nat.le_succ _))⟩
         ·
          by_cases t5 : tr < 0
          ·
           go_enter Tryz.func63, Tryz.ntmps63
           go_wp2_with fail
           refine (him0 _).mono ?_
           rintro e v1 ⟨rfl, hb⟩
           have HB1 := Lib.hid (HB0.out.trans (hb.mono (by have := HB0.out.size; have := HZ.out; omega)))
           clear c0 c69 c70 c105 c106 l1 l35 l71 lM hb
           obtain ⟨c0, c69, c70, c105, c106, l1, l35, l71, lM⟩ := HALL.out _ HB1.out
           go_wp2_with fail
           refine (him1 _).mono ?_
           rintro e v2 ⟨rfl, hb⟩
           have HB2 := Lib.hid (HB1.out.trans (hb.mono (by have := HB1.out.size; have := HZ.out; omega)))
           clear c0 c69 c70 c105 c106 l1 l35 l71 lM hb
           obtain ⟨c0, c69, c70, c105, c106, l1, l35, l71, lM⟩ := HALL.out _ HB2.out
           go_wp2_with fail
           refine (him2 _).mono ?_
           rintro e v3 ⟨rfl, hb⟩
           have HB3 := Lib.hid (HB2.out.trans (hb.mono (by have := HB2.out.size; have := HZ.out; omega)))
           clear c0 c69 c70 c105 c106 l1 l35 l71 lM hb
           obtain ⟨c0, c69, c70, c105, c106, l1, l35, l71, lM⟩ := HALL.out _ HB3.out
           go_wp2_with fail
           refine (hna _).mono ?_
           rintro e v4 ⟨rfl, hb⟩
           have HB4 := Lib.hid (HB3.out.trans (hb.mono (by have := HB3.out.size; have := HZ.out; omega)))
           clear c0 c69 c70 c105 c106 l1 l35 l71 lM hb
           obtain ⟨c0, c69, c70, c105, c106, l1, l35, l71, lM⟩ := HALL.out _ HB4.out
           go_wp2_with fail
           go_ret
           exact ⟨mbool_ret (by first | rfl | (simp; done) | (simp [*]; done) | (simp; omega)), HBEL.out.trans (HB4.out.mono (Nat.le_succ _))⟩
          ·
           by_cases t6 : 2 < tr
           ·
            go_enter Tryz.func63, Tryz.ntmps63
            go_wp2_with fail
            refine (him0 _).mono ?_
            rintro e v1 ⟨rfl, hb⟩
            have HB1 := Lib.hid (HB0.out.trans (hb.mono (by have := HB0.out.size; have := HZ.out; omega)))
            clear c0 c69 c70 c105 c106 l1 l35 l71 lM hb
            obtain ⟨c0, c69, c70, c105, c106, l1, l35, l71, lM⟩ := HALL.out _ HB1.out
            go_wp2_with fail
            refine (him1 _).mono ?_
            rintro e v2 ⟨rfl, hb⟩
            have HB2 := Lib.hid (HB1.out.trans (hb.mono (by have := HB1.out.size; have := HZ.out; omega)))
            clear c0 c69 c70 c105 c106 l1 l35 l71 lM hb
            obtain ⟨c0, c69, c70, c105, c106, l1, l35, l71, lM⟩ := HALL.out _ HB2.out
            go_wp2_with fail
            refine (him2 _).mono ?_
            rintro e v3 ⟨rfl, hb⟩
            have HB3 := Lib.hid (HB2.out.trans (hb.mono (by have := HB2.out.size; have := HZ.out; omega)))
            clear c0 c69 c70 c105 c106 l1 l35 l71 lM hb
            obtain ⟨c0, c69, c70, c105, c106, l1, l35, l71, lM⟩ := HALL.out _ HB3.out
            go_wp2_with fail
            refine (hna _).mono ?_
            rintro e v4 ⟨rfl, hb⟩
            have HB4 := Lib.hid (HB3.out.trans (hb.mono (by have := HB3.out.size; have := HZ.out; omega)))
            clear c0 c69 c70 c105 c106 l1 l35 l71 lM hb
            obtain ⟨c0, c69, c70, c105, c106, l1, l35, l71, lM⟩ := HALL.out _ HB4.out
            go_wp2_with fail
            go_ret
            exact ⟨mbool_ret (by first | rfl | (simp; done) | (simp [*]; done) | (simp; omega)), HBEL.out.trans (HB4.out.mono (Nat.le_succ _))⟩
           ·
            go_enter Tryz.func63, Tryz.ntmps63
            go_wp2_with fail
            refine (him0 _).mono ?_
            rintro e v1 ⟨rfl, hb⟩
            have HB1 := Lib.hid (HB0.out.trans (hb.mono (by have := HB0.out.size; have := HZ.out; omega)))
            clear c0 c69 c70 c105 c106 l1 l35 l71 lM hb
            obtain ⟨c0, c69, c70, c105, c106, l1, l35, l71, lM⟩ := HALL.out _ HB1.out
            go_wp2_with fail
            refine (him1 _).mono ?_
            rintro e v2 ⟨rfl, hb⟩
            have HB2 := Lib.hid (HB1.out.trans (hb.mono (by have := HB1.out.size; have := HZ.out; omega)))
            clear c0 c69 c70 c105 c106 l1 l35 l71 lM hb
            obtain ⟨c0, c69, c70, c105, c106, l1, l35, l71, lM⟩ := HALL.out _ HB2.out
            go_wp2_with fail
            refine (him2 _).mono ?_
            rintro e v3 ⟨rfl, hb⟩
            have HB3 := Lib.hid (HB2.out.trans (hb.mono (by have := HB2.out.size; have := HZ.out; omega)))
            clear c0 c69 c70 c105 c106 l1 l35 l71 lM hb
            obtain ⟨c0, c69, c70, c105, c106, l1, l35, l71, lM⟩ := HALL.out _ HB3.out
            go_wp2_with fail
            refine (hna _).mono ?_
            rintro e v4 ⟨rfl, hb⟩
            have HB4 := Lib.hid (HB3.out.trans (hb.mono (by have := HB3.out.size; have := HZ.out; omega)))
            clear c0 c69 c70 c105 c106 l1 l35 l71 lM hb
            obtain ⟨c0, c69, c70, c105, c106, l1, l35, l71, lM⟩ := HALL.out _ HB4.out
            go_wp2_with fail
            refine (hph _).mono ?_
            rintro e v5 ⟨rfl, hb⟩
            have HB5 := Lib.hid (HB4.out.trans (hb.mono (by have := HB4.out.size; have := HZ.out; omega)))
            clear c0 c69 c70 c105 c106 l1 l35 l71 lM hb
            obtain ⟨c0, c69, c70, c105, c106, l1, l35, l71, lM⟩ := HALL.out _ HB5.out
            go_wp2_with fail
            go_ret
            exact ⟨mbool_ret (by first | rfl | (simp; done) | (simp [*]; done) | (simp; omega)), HBEL.out.trans (HB5.out.mono (Nat.le_succ _))⟩
     ·
      go_enter Tryz.func63, Tryz.ntmps63
      go_wp2_with fail
      refine (him0 _).mono ?_
      rintro e v1 ⟨rfl, hb⟩
      have HB1 := Lib.hid (HB0.out.trans (hb.mono (by have := HB0.out.size; have := HZ.out; omega)))
      clear c0 c69 c70 c105 c106 l1 l35 l71 lM hb
      obtain ⟨c0, c69, c70, c105, c106, l1, l35, l71, lM⟩ := HALL.out _ HB1.out
      go_wp2_with fail
      refine (him1 _).mono ?_
      rintro e v2 ⟨rfl, hb⟩
      have HB2 := Lib.hid (HB1.out.trans (hb.mono (by have := HB1.out.size; have := HZ.out; omega)))
      clear c0 c69 c70 c105 c106 l1 l35 l71 lM hb
      obtain ⟨c0, c69, c70, c105, c106, l1, l35, l71, lM⟩ := HALL.out _ HB2.out
      go_wp2_with fail
      refine (him2 _).mono ?_
      rintro e v3 ⟨rfl, hb⟩
      have HB3 := Lib.hid (HB2.out.trans (hb.mono (by have := HB2.out.size; have := HZ.out; omega)))
      clear c0 c69 c70 c105 c106 l1 l35 l71 lM hb
      obtain ⟨c0, c69, c70, c105, c106, l1, l35, l71, lM⟩ := HALL.out _ HB3.out
      go_wp2_with fail
      refine (hna _).mono ?_
      rintro e v4 ⟨rfl, hb⟩
      have HB4 := Lib.hid (HB3.out.trans (hb.mono (by have := HB3.out.size; have := HZ.out; omega)))
      clear c0 c69 c70 c105 c106 l1 l35 l71 lM hb
      obtain ⟨c0, c69, c70, c105, c106, l1, l35, l71, lM⟩ := HALL.out _ HB4.out
      go_wp2_with fail
      go_ret
      exact ⟨mbool_ret (by first | rfl | (simp; done) | (simp [*]; done) | (simp; omega)), HBEL.out.trans (HB4.out.mono (Nat.le_succ _))⟩
 ·
  have hphz := HPZ.out (by omega)
  have hna : ∀ W, Calls Tryz.prog 108 #[.agg m.h1.cells.toArray] W fun e w' => e = .returned (.bool A) ∧ Below W.heap.size W w' := fun W => HA.out ▸ none_c W m.h1 HD.out.d1
  cases H0
  ·
   go_enter Tryz.func63, Tryz.ntmps63
   go_wp2_with fail
   refine (him0 _).mono ?_
   rintro e v1 ⟨rfl, hb⟩
   have HB1 := Lib.hid (HB0.out.trans (hb.mono (by have := HB0.out.size; have := HZ.out; omega)))
   clear c0 c69 c70 c105 c106 l1 l35 l71 lM hb
   obtain ⟨c0, c69, c70, c105, c106, l1, l35, l71, lM⟩ := HALL.out _ HB1.out
   go_wp2_with fail
   go_ret
   exact ⟨mbool_ret (by first | rfl | (simp; done) | (simp [*]; done) | (simp; omega)), HBEL.out.trans (HB1.out.mono (Nat.le_succ _))⟩
  ·
   cases H1
   ·
    go_enter Tryz.func63, Tryz.ntmps63
    go_wp2_with fail
    refine (him0 _).mono ?_
    rintro e v1 ⟨rfl, hb⟩
    have HB1 := Lib.hid (HB0.out.trans (hb.mono (by have := HB0.out.size; have := HZ.out; omega)))
    clear c0 c69 c70 c105 c106 l1 l35 l71 lM hb
    obtain ⟨c0, c69, c70, c105, c106, l1, l35, l71, lM⟩ := HALL.out _ HB1.out
    go_wp2_with fail
    refine (him1 _).mono ?_
    rintro e v2 ⟨rfl, hb⟩
    have HB2 := Lib.hid (HB1.out.trans (hb.mono (by have := HB1.out.size; have := HZ.out; omega)))
    clear c0 c69 c70 c105 c106 l1 l35 l71 lM hb
    obtain ⟨c0, c69, c70, c105, c106, l1, l35, l71, lM⟩ := HALL.out _ HB2.out
    go_wp2_with fail
    go_ret
    exact ⟨mbool_ret (by first | rfl | (simp; done) | (simp [*]; done) | (simp; omega)), HBEL.out.trans (HB2.out.mono (Nat.le_succ _))⟩
   ·
    cases hCM : m.cm.may
    ·
     have him2 := fun W => hCM ▸ him2 W
     go_enter Tryz.func63, Tryz.ntmps63
     go_wp2_with fail
     refine (him0 _).mono ?_
     rintro e v1 ⟨rfl, hb⟩
     have HB1 := Lib.hid (HB0.out.trans (hb.mono (by have := HB0.out.size; have := HZ.out; omega)))
     clear c0 c69 c70 c105 c106 l1 l35 l71 lM hb
     obtain ⟨c0, c69, c70, c105, c106, l1, l35, l71, lM⟩ := HALL.out _ HB1.out
     go_wp2_with fail
     refine (him1 _).mono ?_
     rintro e v2 ⟨rfl, hb⟩
     have HB2 := Lib.hid (HB1.out.trans (hb.mono (by have := HB1.out.size; have := HZ.out; omega)))
     clear c0 c69 c70 c105 c106 l1 l35 l71 lM hb
     obtain ⟨c0, c69, c70, c105, c106, l1, l35, l71, lM⟩ := HALL.out _ HB2.out
     go_wp2_with fail
     refine (him2 _).mono ?_
     rintro e v3 ⟨rfl, hb⟩
     have HB3 := Lib.hid (HB2.out.trans (hb.mono (by have := HB2.out.size; have := HZ.out; omega)))
     clear c0 c69 c70 c105 c106 l1 l35 l71 lM hb
     obtain ⟨c0, c69, c70, c105, c106, l1, l35, l71, lM⟩ := HALL.out _ HB3.out
     go_wp2_with fail
     go_ret
     exact ⟨mbool_ret (by first | rfl | (simp; done) | (simp [*]; done) | (simp; omega)), HBEL.out.trans (HB3.out.mono (Nat.le_succ _))⟩
    ·
     have him2 := fun W => hCM ▸ him2 W
     have hph := fun W => hphz hCM W
     clear hCM
     cases A
     ·
      by_cases t1 : mn < 0
      ·
       go_enter Tryz.func63, Tryz.ntmps63
       go_wp2_with fail
       refine (him0 _).mono ?_
       rintro e v1 ⟨rfl, hb⟩
       have HB1 := Lib.hid (HB0.out.trans (hb.mono (by have := HB0.out.size; have := HZ.out; omega)))
       clear c0 c69 c70 c105 c106 l1 l35 l71 lM hb
       obtain ⟨c0, c69, c70, c105, c106, l1, l35, l71, lM⟩ := HALL.out _ HB1.out
       go_wp2_with fail
       refine (him1 _).mono ?_
       rintro e v2 ⟨rfl, hb⟩
       have HB2 := Lib.hid (HB1.out.trans (hb.mono (by have := HB1.out.size; have := HZ.out; omega)))
       clear c0 c69 c70 c105 c106 l1 l35 l71 lM hb
       obtain ⟨c0, c69, c70, c105, c106, l1, l35, l71, lM⟩ := HALL.out _ HB2.out
       go_wp2_with fail
       refine (him2 _).mono ?_
       rintro e v3 ⟨rfl, hb⟩
       have HB3 := Lib.hid (HB2.out.trans (hb.mono (by have := HB2.out.size; have := HZ.out; omega)))
       clear c0 c69 c70 c105 c106 l1 l35 l71 lM hb
       obtain ⟨c0, c69, c70, c105, c106, l1, l35, l71, lM⟩ := HALL.out _ HB3.out
       go_wp2_with fail
       refine (hna _).mono ?_
       rintro e v4 ⟨rfl, hb⟩
       have HB4 := Lib.hid (HB3.out.trans (hb.mono (by have := HB3.out.size; have := HZ.out; omega)))
       clear c0 c69 c70 c105 c106 l1 l35 l71 lM hb
       obtain ⟨c0, c69, c70, c105, c106, l1, l35, l71, lM⟩ := HALL.out _ HB4.out
       go_wp2_with fail
       go_ret
       exact ⟨mbool_ret (by first | rfl | (simp; done) | (simp [*]; done) | (simp; omega)), HBEL.out.trans (HB4.out.mono (Nat.le_succ _))⟩
      ·
       by_cases t2 : 1073741824 < mn
       ·
        go_enter Tryz.func63, Tryz.ntmps63
        go_wp2_with fail
        refine (him0 _).mono ?_
        rintro e v1 ⟨rfl, hb⟩
        have HB1 := Lib.hid (HB0.out.trans (hb.mono (by have := HB0.out.size; have := HZ.out; omega)))
        clear c0 c69 c70 c105 c106 l1 l35 l71 lM hb
        obtain ⟨c0, c69, c70, c105, c106, l1, l35, l71, lM⟩ := HALL.out _ HB1.out
        go_wp2_with fail
        refine (him1 _).mono ?_
        rintro e v2 ⟨rfl, hb⟩
        have HB2 := Lib.hid (HB1.out.trans (hb.mono (by have := HB1.out.size; have := HZ.out; omega)))
        clear c0 c69 c70 c105 c106 l1 l35 l71 lM hb
        obtain ⟨c0, c69, c70, c105, c106, l1, l35, l71, lM⟩ := HALL.out _ HB2.out
        go_wp2_with fail
        refine (him2 _).mono ?_
        rintro e v3 ⟨rfl, hb⟩
        have HB3 := Lib.hid (HB2.out.trans (hb.mono (by have := HB2.out.size; have := HZ.out; omega)))
        clear c0 c69 c70 c105 c106 l1 l35 l71 lM hb
        obtain ⟨c0, c69, c70, c105, c106, l1, l35, l71, lM⟩ := HALL.out _ HB3.out
        go_wp2_with fail
        refine (hna _).mono ?_
        rintro e v4 ⟨rfl, hb⟩
        have HB4 := Lib.hid (HB3.out.trans (hb.mono (by have := HB3.out.size; have := HZ.out; omega)))
        clear c0 c69 c70 c105 c106 l1 l35 l71 lM hb
        obtain ⟨c0, c69, c70, c105, c106, l1, l35, l71, lM⟩ := HALL.out _ HB4.out
        go_wp2_with fail
        go_ret
        exact ⟨mbool_ret (by first | rfl | (simp; done) | (simp [*]; done) | (simp; omega)), HBEL.out.trans (HB4.out.mono (Nat.le_succ _))⟩
       ·
        by_cases t3 : got < 0
        ·
         go_enter Tryz.func63, Tryz.ntmps63
         go_wp2_with fail
         refine (him0 _).mono ?_
         rintro e v1 ⟨rfl, hb⟩
         have HB1 := Lib.hid (HB0.out.trans (hb.mono (by have := HB0.out.size; have := HZ.out; omega)))
         clear c0 c69 c70 c105 c106 l1 l35 l71 lM hb
         obtain ⟨c0, c69, c70, c105, c106, l1, l35, l71, lM⟩ := HALL.out _ HB1.out
         go_wp2_with fail
         refine (him1 _).mono ?_
         rintro e v2 ⟨rfl, hb⟩
         have HB2 := Lib.hid (HB1.out.trans (hb.mono (by have := HB1.out.size; have := HZ.out; omega)))
         clear c0 c69 c70 c105 c106 l1 l35 l71 lM hb
         obtain ⟨c0, c69, c70, c105, c106, l1, l35, l71, lM⟩ := HALL.out _ HB2.out
         go_wp2_with fail
         refine (him2 _).mono ?_
         rintro e v3 ⟨rfl, hb⟩
         have HB3 := Lib.hid (HB2.out.trans (hb.mono (by have := HB2.out.size; have := HZ.out; omega)))
         clear c0 c69 c70 c105 c106 l1 l35 l71 lM hb
         obtain ⟨c0, c69, c70, c105, c106, l1, l35, l71, lM⟩ := HALL.out _ HB3.out
         go_wp2_with fail
         refine (hna _).mono ?_
         rintro e v4 ⟨rfl, hb⟩
         have HB4 := Lib.hid (HB3.out.trans (hb.mono (by have := HB3.out.size; have := HZ.out; omega)))
         clear c0 c69 c70 c105 c106 l1 l35 l71 lM hb
         obtain ⟨c0, c69, c70, c105, c106, l1, l35, l71, lM⟩ := HALL.out _ HB4.out
         go_wp2_with fail
         go_ret
         exact ⟨mbool_ret (by first | rfl | (simp; done) | (simp [*]; done) | (simp; omega)), HBEL.out.trans (HB4.out.mono (Nat.le_succ _))⟩
        ·
         by_cases t4 : 6 < got
         ·
          go_enter Tryz.func63, Tryz.ntmps63
          go_wp2_with fail
          refine (him0 _).mono ?_
          rintro e v1 ⟨rfl, hb⟩
          have HB1 := Lib.hid (HB0.out.trans (hb.mono (by have := HB0.out.size; have := HZ.out; omega)))
          clear c0 c69 c70 c105 c106 l1 l35 l71 lM hb
          obtain ⟨c0, c69, c70, c105, c106, l1, l35, l71, lM⟩ := HALL.out _ HB1.out
          go_wp2_with fail
          refine (him1 _).mono ?_
          rintro e v2 ⟨rfl, hb⟩
          have HB2 := Lib.hid (HB1.out.trans (hb.mono (by have := HB1.out.size; have := HZ.out; omega)))
          clear c0 c69 c70 c105 c106 l1 l35 l71 lM hb
          obtain ⟨c0, c69, c70, c105, c106, l1, l35, l71, lM⟩ := HALL.out _ HB2.out
          go_wp2_with fail
          refine (him2 _).mono ?_
          rintro e v3 ⟨rfl, hb⟩
          have HB3 := Lib.hid (HB2.out.trans (hb.mono (by have := HB2.out.size; have := HZ.out; omega)))
          clear c0 c69 c70 c105 c106 l1 l35 l71 lM hb
          obtain ⟨c0, c69, c70, c105, c106, l1, l35, l71, lM⟩ := HALL.out _ HB3.out
          go_wp2_with fail
          refine (hna _).mono ?_
          rintro e v4 ⟨rfl, hb⟩
          have HB4 := Lib.hid (HB3.out.trans (hb.mono (by have := HB3.out.size; have := HZ.out; omega)))
          clear c0 c69 c70 c105 c106 l1 l35 l71 lM hb
          obtain ⟨c0, c69, c70, c105, c106, l1, l35, l71, lM⟩ := HALL.out _ HB4.out
          go_wp2_with fail
          go_ret
          exact ⟨mbool_ret (by first | rfl | (simp; done) | (simp [*]; done) | (simp; omega)), HBEL.out.trans (HB4.out.mono (Nat.le_succ _))⟩
         ·
          by_cases t5 : tr < 0
          ·
           go_enter Tryz.func63, Tryz.ntmps63
           go_wp2_with fail
           refine (him0 _).mono ?_
           rintro e v1 ⟨rfl, hb⟩
           have HB1 := Lib.hid (HB0.out.trans (hb.mono (by have := HB0.out.size; have := HZ.out; omega)))
           clear c0 c69 c70 c105 c106 l1 l35 l71 lM hb
           obtain ⟨c0, c69, c70, c105, c106, l1, l35, l71, lM⟩ := HALL.out _ HB1.out
           go_wp2_with fail
           refine (him1 _).mono ?_
           rintro e v2 ⟨rfl, hb⟩
           have HB2 := Lib.hid (HB1.out.trans (hb.mono (by have := HB1.out.size; have := HZ.out; omega)))
           clear c0 c69 c70 c105 c106 l1 l35 l71 lM hb
           obtain ⟨c0, c69, c70, c105, c106, l1, l35, l71, lM⟩ := HALL.out _ HB2.out
           go_wp2_with fail
           refine (him2 _).mono ?_
           rintro e v3 ⟨rfl, hb⟩
           have HB3 := Lib.hid (HB2.out.trans (hb.mono (by have := HB2.out.size; have := HZ.out; omega)))
           clear c0 c69 c70 c105 c106 l1 l35 l71 lM hb
           obtain ⟨c0, c69, c70, c105, c106, l1, l35, l71, lM⟩ := HALL.out _ HB3.out
           go_wp2_with fail
           refine (hna _).mono ?_
           rintro e v4 ⟨rfl, hb⟩
           have HB4 := Lib.hid (HB3.out.trans (hb.mono (by have := HB3.out.size; have := HZ.out; omega)))
           clear c0 c69 c70 c105 c106 l1 l35 l71 lM hb
           obtain ⟨c0, c69, c70, c105, c106, l1, l35, l71, lM⟩ := HALL.out _ HB4.out
           go_wp2_with fail
           go_ret
           exact ⟨mbool_ret (by first | rfl | (simp; done) | (simp [*]; done) | (simp; omega)), HBEL.out.trans (HB4.out.mono (Nat.le_succ _))⟩
          ·
           by_cases t6 : 2 < tr
           ·
            go_enter Tryz.func63, Tryz.ntmps63
            go_wp2_with fail
            refine (him0 _).mono ?_
            rintro e v1 ⟨rfl, hb⟩
            have HB1 := Lib.hid (HB0.out.trans (hb.mono (by have := HB0.out.size; have := HZ.out; omega)))
            clear c0 c69 c70 c105 c106 l1 l35 l71 lM hb
            obtain ⟨c0, c69, c70, c105, c106, l1, l35, l71, lM⟩ := HALL.out _ HB1.out
            go_wp2_with fail
            refine (him1 _).mono ?_
            rintro e v2 ⟨rfl, hb⟩
            have HB2 := Lib.hid (HB1.out.trans (hb.mono (by have := HB1.out.size; have := HZ.out; omega)))
            clear c0 c69 c70 c105 c106 l1 l35 l71 lM hb
            obtain ⟨c0, c69, c70, c105, c106, l1, l35, l71, lM⟩ := HALL.out _ HB2.out
            go_wp2_with fail
            refine (him2 _).mono ?_
            rintro e v3 ⟨rfl, hb⟩
            have HB3 := Lib.hid (HB2.out.trans (hb.mono (by have := HB2.out.size; have := HZ.out; omega)))
            clear c0 c69 c70 c105 c106 l1 l35 l71 lM hb
            obtain ⟨c0, c69, c70, c105, c106, l1, l35, l71, lM⟩ := HALL.out _ HB3.out
            go_wp2_with fail
            refine (hna _).mono ?_
            rintro e v4 ⟨rfl, hb⟩
            have HB4 := Lib.hid (HB3.out.trans (hb.mono (by have := HB3.out.size; have := HZ.out; omega)))
            clear c0 c69 c70 c105 c106 l1 l35 l71 lM hb
            obtain ⟨c0, c69, c70, c105, c106, l1, l35, l71, lM⟩ := HALL.out _ HB4.out
            go_wp2_with fail
            go_ret
            exact ⟨mbool_ret (by first | rfl | (simp; done) | (simp [*]; done) | (simp; omega)), HBEL.out.trans (HB4.out.mono (Nat.le_succ _))⟩
           ·
            go_enter Tryz.func63, Tryz.ntmps63
            go_wp2_with fail
            refine (him0 _).mono ?_
            rintro e v1 ⟨rfl, hb⟩
            have HB1 := Lib.hid (HB0.out.trans (hb.mono (by have := HB0.out.size; have := HZ.out; omega)))
            clear c0 c69 c70 c105 c106 l1 l35 l71 lM hb
            obtain ⟨c0, c69, c70, c105, c106, l1, l35, l71, lM⟩ := HALL.out _ HB1.out
            go_wp2_with fail
            refine (him1 _).mono ?_
            rintro e v2 ⟨rfl, hb⟩
            have HB2 := Lib.hid (HB1.out.trans (hb.mono (by have := HB1.out.size; have := HZ.out; omega)))
            clear c0 c69 c70 c105 c106 l1 l35 l71 lM hb
            obtain ⟨c0, c69, c70, c105, c106, l1, l35, l71, lM⟩ := HALL.out _ HB2.out
            go_wp2_with fail
            refine (him2 _).mono ?_
            rintro e v3 ⟨rfl, hb⟩
            have HB3 := Lib.hid (HB2.out.trans (hb.mono (by have := HB2.out.size; have := HZ.out; omega)))
            clear c0 c69 c70 c105 c106 l1 l35 l71 lM hb
            obtain ⟨c0, c69, c70, c105, c106, l1, l35, l71, lM⟩ := HALL.out _ HB3.out
            go_wp2_with fail
            refine (hna _).mono ?_
            rintro e v4 ⟨rfl, hb⟩
            have HB4 := Lib.hid (HB3.out.trans (hb.mono (by have := HB3.out.size; have := HZ.out; omega)))
            clear c0 c69 c70 c105 c106 l1 l35 l71 lM hb
            obtain ⟨c0, c69, c70, c105, c106, l1, l35, l71, lM⟩ := HALL.out _ HB4.out
            go_wp2_with fail
            refine (hph _).mono ?_
            rintro e v5 ⟨rfl, hb⟩
            have HB5 := Lib.hid (HB4.out.trans (hb.mono (by have := HB4.out.size; have := HZ.out; omega)))
            clear c0 c69 c70 c105 c106 l1 l35 l71 lM hb
            obtain ⟨c0, c69, c70, c105, c106, l1, l35, l71, lM⟩ := HALL.out _ HB5.out
            go_wp2_with fail
            go_ret
            exact ⟨mbool_ret (by first | rfl | (simp; done) | (simp [*]; done) | (simp; omega)), HBEL.out.trans (HB5.out.mono (Nat.le_succ _))⟩
     ·
      go_enter Tryz.func63, Tryz.ntmps63
      go_wp2_with fail
      refine (him0 _).mono ?_
      rintro e v1 ⟨rfl, hb⟩
      have HB1 := Lib.hid (HB0.out.trans (hb.mono (by have := HB0.out.size; have := HZ.out; omega)))
      clear c0 c69 c70 c105 c106 l1 l35 l71 lM hb
      obtain ⟨c0, c69, c70, c105, c106, l1, l35, l71, lM⟩ := HALL.out _ HB1.out
      go_wp2_with fail
      refine (him1 _).mono ?_
      rintro e v2 ⟨rfl, hb⟩
      have HB2 := Lib.hid (HB1.out.trans (hb.mono (by have := HB1.out.size; have := HZ.out; omega)))
      clear c0 c69 c70 c105 c106 l1 l35 l71 lM hb
      obtain ⟨c0, c69, c70, c105, c106, l1, l35, l71, lM⟩ := HALL.out _ HB2.out
      go_wp2_with fail
      refine (him2 _).mono ?_
      rintro e v3 ⟨rfl, hb⟩
      have HB3 := Lib.hid (HB2.out.trans (hb.mono (by have := HB2.out.size; have := HZ.out; omega)))
      clear c0 c69 c70 c105 c106 l1 l35 l71 lM hb
      obtain ⟨c0, c69, c70, c105, c106, l1, l35, l71, lM⟩ := HALL.out _ HB3.out
      go_wp2_with fail
      refine (hna _).mono ?_
      rintro e v4 ⟨rfl, hb⟩
      have HB4 := Lib.hid (HB3.out.trans (hb.mono (by have := HB3.out.size; have := HZ.out; omega)))
      clear c0 c69 c70 c105 c106 l1 l35 l71 lM hb
      obtain ⟨c0, c69, c70, c105, c106, l1, l35, l71, lM⟩ := HALL.out _ HB4.out
      go_wp2_with fail
      go_ret
      exact ⟨mbool_ret (by first | rfl | (simp; done) | (simp [*]; done) | (simp; omega)), HBEL.out.trans (HB4.out.mono (Nat.le_succ _))⟩
end Go.Proofs.YtpafenlcgcenlaaGreatDoor
namespace Go.Proofs.YtpafenlcgcenlaaGreatDoor
open Go Go.RowKit
set_option linter.unusedVariables false
set_option linter.unusedSimpArgs false
noncomputable def sldC (x : Value) : Sem Value := Instr.loadAt 119 x
theorem sldC_seal (x : Value) : Instr.loadAt 119 x = sldC x := rfl
theorem info_sC : (Tryz.prog.info? 119).map (·.size) = some 110 := by kernel_rfl
theorem run_sldC {W : World} {g o : Nat} {cs : List Value} (hs : cs.length = 110) (h : W.rangeAt g o cs) : (sldC (.pointer (some ⟨g, o, none⟩))).run Tryz.prog W = .ok (.agg cs.toArray) W :=
 run_loadAt_mid (P := Tryz.prog) W g o 119 cs _ h Tryz.underlying119 rfl (by rw [hs]; exact info_sC)
noncomputable def sldF (x : Value) : Sem Value := Instr.loadAt 78 x
theorem sldF_seal (x : Value) : Instr.loadAt 78 x = sldF x := rfl
theorem info_sF : (Tryz.prog.info? 78).map (·.size) = some 35 := by kernel_rfl
theorem run_sldF {W : World} {g o : Nat} {cs : List Value} (hs : cs.length = 35) (h : W.rangeAt g o cs) : (sldF (.pointer (some ⟨g, o, none⟩))).run Tryz.prog W = .ok (.agg cs.toArray) W :=
 run_loadAt_mid (P := Tryz.prog) W g o 78 cs _ h Tryz.underlying78 rfl (by rw [hs]; exact info_sF)
noncomputable def sstC (x v : Value) : Sem Unit := Instr.storeAt 119 x v
theorem sstC_seal (x v : Value) : Instr.storeAt 119 x v = sstC x v := rfl
theorem run_sstC {W : World} {g : Nat} {old : Array Value} (cs : List Value) (h : Blk W g 119 old) (ho : old.size = cs.length) (hs : (Tryz.prog.info? 119).map (·.size) = some cs.length) (h1 : ∀ u ∈ cs, u.oneCell' = true) :
  (sstC (.pointer (some ⟨g, 0, none⟩)) (.agg cs.toArray)).run Tryz.prog W = .ok () (W.setRow g cs.toArray) := by
 unfold sstC
 simp only [Instr.storeAt, Instr.sureAddr, Sem.run_bind, Sem.run_pure, Result.andThen_ok, run_storeVar_row (P := Tryz.prog) W g 119 119 old cs.toArray h (by simpa using hs) (by simpa using ho) (by simpa using h1)]
noncomputable def sstM (x v : Value) : Sem Unit := Instr.storeAt 44 x v
theorem sstM_seal (x v : Value) : Instr.storeAt 44 x v = sstM x v := rfl
theorem run_sstM {W : World} {g : Nat} {old : Array Value} (cs : List Value) (h : Blk W g 44 old) (ho : old.size = cs.length) (hs : (Tryz.prog.info? 44).map (·.size) = some cs.length) (h1 : ∀ u ∈ cs, u.oneCell' = true) :
  (sstM (.pointer (some ⟨g, 0, none⟩)) (.agg cs.toArray)).run Tryz.prog W = .ok () (W.setRow g cs.toArray) := by
 unfold sstM
 simp only [Instr.storeAt, Instr.sureAddr, Sem.run_bind, Sem.run_pure, Result.andThen_ok, run_storeVar_row (P := Tryz.prog) W g 44 44 old cs.toArray h (by simpa using hs) (by simpa using ho) (by simpa using h1)]
theorem Blk.setRow_m {w : World} {g : Nat} {t : TypeId} {old : Array Value} (h : Blk w g t old) (cs : Array Value) : Blk (w.setRow g cs) g t cs := setRow_heap w g old cs t _ h
theorem Blk.setRow_mf {w : World} {g k : Nat} {t : TypeId} {old : Array Value} (h : Blk w k t old) (cs : Array Value) (hk : k ≠ g) : Blk (w.setRow g cs) k t old := (setRow_other w g k cs hk).trans h
theorem below_setRow_m {B g : Nat} {w0 w : World} (hb : Below B w0 w) (hBg : B ≤ g) (cs : Array Value) : Below B w0 (w.setRow g cs) :=
 ⟨hb.os, hb.tape, hb.output, by simpa [World.setRow] using hb.size, fun k hk => (setRow_other w g k cs (by omega)).trans (hb.block k hk)⟩
attribute [local go_sem ↓] sldI_seal sldM_seal sldC_seal sldF_seal sstC_seal sstM_seal
def chunksZ (n : Int) : Int := if n < 1 then 0 else (n - 1) / 320 + 1
theorem uchunks_c (n : Int) (hn : -9223372036854775808 ≤ n ∧ n ≤ 9223372036854775807) (w : World) : Calls Tryz.prog 151 #[.int .i64 n] w fun e w' => e = .returned (.int .i64 (chunksZ n)) ∧ w = w' := by
 unfold chunksZ
 by_cases h : n < 1
 ·
  rw [if_pos h]
  go_enter Tryz.func151, Tryz.ntmps151
  go_wp2_with fail
  go_ret
  exact ⟨rfl, rfl⟩
 ·
  rw [if_neg h]
  go_enter Tryz.func151, Tryz.ntmps151
  go_wp2_with fail
  go_ret
  exact ⟨rfl, rfl⟩
theorem when_c (b : Bool) (e : Int) (w : World) : Calls Tryz.prog 149 #[.bool b, .int .i64 e] w fun en w' => en = .returned (.int .i64 (if b = true then e else 0)) ∧ w = w' := by
 cases b
 ·
  go_enter Tryz.func149, Tryz.ntmps149
  go_wp2_with fail
  go_ret
  exact ⟨rfl, rfl⟩
 ·
  go_enter Tryz.func149, Tryz.ntmps149
  go_wp2_with fail
  go_ret
  exact ⟨rfl, rfl⟩
/-- What a request does: the cells. -/
def chg (m : Mt) (e n g : Int) : List Value := m.cells ++ [i64v e, i64v n, i64v g]
theorem chg_len {m : Mt} (h : m.Ok) (e n g : Int) : (chg m e n g).length = 110 := by unfold chg; rw [List.length_append, Mt.cells_len h]; rfl
theorem chg_one (m : Mt) (e n g : Int) : ∀ u ∈ chg m e n g, u.oneCell' = true := by
 intro u hu
 simp only [chg, List.mem_append, List.mem_cons, List.not_mem_nil, or_false] at hu
 rcases hu with hu | rfl | rfl | rfl
 ·
  exact Mt.one m u hu
 ·
  rfl
 ·
  rfl
 ·
  rfl
theorem zeroC_chg : Tryz.zeroCells119 = (chg Mt.zero 0 0 0).toArray := by kernel_rfl
theorem foldSet (cs : List Value) : ∀ (k off : Nat) (z : List Value), off + k + cs.length ≤ z.length →
  (cs.zipIdx k).foldl (fun (a : Array Value) (x : Value × Nat) => a.setIfInBounds (off + x.2) x.1) z.toArray = (z.take (off + k) ++ cs ++ z.drop (off + k + cs.length)).toArray := by
 induction cs with
 | nil => intro k off z h; simp
 | cons c cs ih =>
  intro k off z h
  simp only [List.length_cons] at h
  rw [List.zipIdx_cons, List.foldl_cons, List.setIfInBounds_toArray, ih (k + 1) off (z.set (off + k) c) (by rw [List.length_set]; omega)]
  congr 1
  rw [show off + (k + 1) = off + k + 1 from by omega]
  rw [List.take_succ_eq_append_getElem (by rw [List.length_set]; omega), List.getElem_set_self, List.take_set_of_le (Nat.le_refl _), List.drop_set_of_lt (by omega)]
  simp only [List.length_cons, List.append_assoc, List.singleton_append, List.cons_append, List.nil_append]
  rw [show off + k + 1 + cs.length = off + k + (cs.length + 1) from by omega]
theorem built57 (parts : List (Nat × Value)) : Tryz.prog.built 119 parts = Instr.fill (#[(0, 107), (107, 3)][·]?) Tryz.zeroCells119 parts := by kernel_rfl
theorem fill_one (place : Nat → Option (Nat × Nat)) (z cs : List Value) (i off : Nat) (rest : List (Nat × Value)) (hp : place i = some (off, cs.length)) (hz : off + cs.length ≤ z.length) :
  Instr.fill place z.toArray ((i, .agg cs.toArray) :: rest) = Instr.fill place (z.take off ++ cs ++ z.drop (off + cs.length)).toArray rest := by
 have hf := foldSet cs 0 off z (by omega)
 rw [Instr.fill, hp]
 simp only [Value.cells, List.size_toArray, ne_eq, not_true_eq_false, decide_false, Bool.false_or]
 rw [if_neg (by simp; omega)]
 rw [← Array.foldl_toList, Array.toList_zipIdx]
 simp only [Nat.add_zero] at hf
 rw [hf]
theorem buildC (m : Mt) (h : m.Ok) (w : World) : (Instr.build 119 #[(0, .agg m.cells.toArray)]).run Tryz.prog w = .ok (.agg (chg m 0 0 0).toArray) w := by
 refine run_build w _ _ _ ?_
 rw [built57, zeroC_chg, fill_one _ _ m.cells 0 0 [] (by rw [Mt.cells_len h]; rfl) (by rw [Mt.cells_len h]; decide)]
 rw [Mt.cells_len h]
 rfl
theorem buildC2 (m : Mt) (h : m.Ok) (e n g : Int) (w : World) : (Instr.build 119 #[(0, .agg m.cells.toArray), (1, .agg #[.int .i64 e, .int .i64 n, .int .i64 g])]).run Tryz.prog w = .ok (.agg (chg m e n g).toArray) w := by
 refine run_build w _ _ _ ?_
 rw [built57, zeroC_chg, fill_one _ _ m.cells 0 0 _ (by rw [Mt.cells_len h]; rfl) (by rw [Mt.cells_len h]; decide)]
 rw [Mt.cells_len h]
 have hz : (List.take 0 (chg Mt.zero 0 0 0) ++ m.cells ++ List.drop (0 + 107) (chg Mt.zero 0 0 0)) = m.cells ++ [i64v 0, i64v 0, i64v 0] := by
  rw [List.take_zero, List.nil_append]; rfl
 rw [hz]
 have h2 := fill_one (#[(0, 107), (107, 3)][·]?) (m.cells ++ [i64v 0, i64v 0, i64v 0]) [i64v e, i64v n, i64v g] 1 107 [] rfl (by rw [List.length_append, Mt.cells_len h]; exact Nat.le_refl _)
 refine Eq.trans h2 ?_
 rw [List.take_append_of_le_length (by rw [Mt.cells_len h]; omega), List.take_of_length_le (by rw [Mt.cells_len h]; omega), List.drop_of_length_le (by rw [List.length_append, Mt.cells_len h]; exact Nat.le_refl _), List.append_nil]
 rfl
theorem buildC1 (e : Int) (w : World) : (Instr.build 119 #[(1, .agg #[.int .i64 e, .int .i64 0, .int .i64 0])]).run Tryz.prog w = .ok (.agg (chg Mt.zero e 0 0).toArray) w := by
 refine run_build w _ _ _ ?_
 rw [built57, zeroC_chg]
 exact fill_one (#[(0, 107), (107, 3)][·]?) (chg Mt.zero 0 0 0) [i64v e, i64v 0, i64v 0] 1 107 [] rfl (Nat.le_refl _)
/-- A change built, sealed. -/
noncomputable def sbC (parts : Array (Nat × Value)) : Sem Value := Instr.build 119 parts
theorem sbC_seal (parts : Array (Nat × Value)) : Instr.build 119 parts = sbC parts := rfl
theorem run_sbC (m : Mt) (h : m.Ok) (w : World) : (sbC #[(0, .agg m.cells.toArray)]).run Tryz.prog w = .ok (.agg (chg m 0 0 0).toArray) w := buildC m h w
theorem run_sbC1 (e : Int) (w : World) : (sbC #[(1, .agg #[.int .i64 e, .int .i64 0, .int .i64 0])]).run Tryz.prog w = .ok (.agg (chg Mt.zero e 0 0).toArray) w := buildC1 e w
theorem run_sbC2 (m : Mt) (h : m.Ok) (e n g : Int) (w : World) : (sbC #[(0, .agg m.cells.toArray), (1, .agg #[.int .i64 e, .int .i64 n, .int .i64 g])]).run Tryz.prog w = .ok (.agg (chg m e n g).toArray) w := buildC2 m h e n g w
attribute [local go_sem ↓] sbC_seal
set_option maxRecDepth 100000 in
theorem fails_c (e : Int) (w : World) : Calls Tryz.prog 118 #[.int .i64 e] w fun en w' => en = .returned (.agg (chg Mt.zero e 0 0).toArray) ∧ Below w.heap.size w w' := by
 have hB := Blk.new w 119 Tryz.zeroCells119
 have hl := chg_len Mt.zero_ok e 0 0
 have hst := run_sstC (chg Mt.zero e 0 0) hB (by rw [zeroC_chg, List.size_toArray, chg_len Mt.zero_ok, hl]) (by rw [hl]; exact info_sC) (chg_one _ _ _ _)
 have HB := Lib.hid hB
 have hbd := fun W => run_sbC1 e W
 clear hB
 go_enter Tryz.func118, Tryz.ntmps118
 go_wp2_with fail
 go_wp2_with fail
 refine bodyPost_ret (results_cell_row rfl _ _ w.heap.size 119 (chg Mt.zero e 0 0).toArray (0, 0) _ rfl (HB.out.setRow_m _) Tryz.underlying119 rfl (by rw [List.size_toArray, hl]; exact info_sC)) rfl ?_
 exact ⟨rfl, below_setRow_m ((Below.refl _ _).alloc (Nat.le_refl _) _) (Nat.le_refl _) _⟩
/-- The first error of some. -/
def firstE : List Int → Int
 | [] => 0
 | e :: l => if e = 0 then firstE l else e
def oneM (m : Mt) (l : List Int) : List Value := if firstE l = 0 then chg m 0 0 0 else chg Mt.zero (firstE l) 0 0
set_option maxRecDepth 100000 in
theorem one_c (w : World) (m : Mt) (h : m.Ok) (b o n c : Nat) (l : List Int) (hr : Reads w (some ⟨b, o, none⟩) n (l.map i64v)) (hn : n ≤ 100) :
  Calls Tryz.prog 148 #[.agg m.cells.toArray, .slice (some ⟨b, o, none⟩) n c] w fun en w' => en = .returned (.agg (oneM m l).toArray) ∧ Below w.heap.size w w' := by
 have hl : l.length = n := by simpa using hr.len
 have HR := Lib.hid hr
 have HL := Lib.hid hl
 have HD := Lib.hid h
 have hB1 : Blk ((w.alloc (.cells m.cells.toArray 44)).alloc (.cells Tryz.zeroCells119 119)) (w.heap.size + 1) 119 Tryz.zeroCells119 := by
  have h := Blk.new (w.alloc (.cells m.cells.toArray 44)) 119 Tryz.zeroCells119
  simpa using h
 have hB0 : Blk ((w.alloc (.cells m.cells.toArray 44)).alloc (.cells Tryz.zeroCells119 119)) w.heap.size 44 m.cells.toArray := (Blk.new w _ _).alloc _
 have hbel : Below w.heap.size w ((w.alloc (.cells m.cells.toArray 44)).alloc (.cells Tryz.zeroCells119 119)) := ((Below.refl _ _).alloc (Nat.le_refl _) _).alloc (by simp) _
 have hlM := run_sldM (Mt.cells_len h) hB0.whole
 have HB1 := Lib.hid hB1
 have HB0 := Lib.hid hB0
 have HBL := Lib.hid hbel
 clear hB1 hB0 hbel hr hl h
 go_enter Tryz.func148, Tryz.ntmps148
 go_wp2_with fail
 generalize (w.alloc (.cells m.cells.toArray 44)).alloc (.cells Tryz.zeroCells119 119) = W0 at hlM HB1 HB0 HBL ⊢
 have hg1 := HB1.out.lt
 go_loopw [9] (fun i wr => ∃ k : Nat, k ≤ n ∧ i = .int .i64 k ∧ W0 = wr ∧ firstE l = firstE (l.drop k)) (fun i _ => n - (intOf i).toNat)
 case atStart => exact ⟨0, Nat.zero_le _, rfl, rfl, rfl⟩
 case round =>
  obtain ⟨k, hk, rfl, rfl, hfe⟩ := hrel
  have HF := Lib.hid hfe
  clear hfe
  by_cases hlt : k < n
  ·
   obtain ⟨b', o', u, ea, -, hu, hcell⟩ := (HR.out.below HBL.out).at_ hlt
   cases ea
   have hkl : k < l.length := by rw [HL.out]; exact hlt
   rw [List.getElem?_map, List.getElem?_eq_getElem hkl] at hu
   obtain rfl : i64v l[k] = u := by simpa using hu
   have hdr : l.drop k = l[k] :: l.drop (k + 1) := List.drop_eq_getElem_cons hkl
   obtain ⟨x, hx⟩ : ∃ x, l[k] = x := ⟨_, rfl⟩
   rw [hx] at hcell hdr
   have HDR := Lib.hid hdr
   clear hx hdr hu
   by_cases hx0 : x = 0
   ·
    subst hx0
    go_wp2_with fail
    go_roundw
    case rel => exact ⟨k + 1, by omega, by go_num, trivial, by rw [HF.out, HDR.out]; simp [firstE]⟩
    case measure => simp [intOf]; omega
   ·
    have hx1 : (x != 0) = true := by rw [bne_iff_ne]; exact hx0
    have hx2 : (x == 0) = false := beq_eq_false_iff_ne.2 hx0
    have hfl : firstE l = x := by rw [HF.out, HDR.out]; unfold firstE; rw [if_neg hx0]
    have HFL := Lib.hid hfl
    clear hfl hlM
    go_wp2_with fail
    refine (fails_c x _).mono ?_
    rintro e w2 ⟨rfl, hb2⟩
    have hB2 := HB1.out.below hb2 HB1.out.lt
    have hl2 := chg_len Mt.zero_ok x 0 0
    have hst := run_sstC (chg Mt.zero x 0 0) hB2 (by rw [zeroC_chg, List.size_toArray, chg_len Mt.zero_ok, hl2]) (by rw [hl2]; exact info_sC) (chg_one _ _ _ _)
    have HB2 := Lib.hid hB2
    have HBL2 := Lib.hid (HBL.out.trans (hb2.mono HBL.out.size))
    clear hB2 hb2
    go_wp2_with fail
    refine bodyPost_ret (results_cell_row rfl _ _ (w.heap.size + 1) 119 (chg Mt.zero x 0 0).toArray (0, 0) _ rfl (HB2.out.setRow_m _) Tryz.underlying119 rfl (by rw [List.size_toArray, hl2]; exact info_sC)) rfl ?_
    refine ⟨?_, below_setRow_m HBL2.out (Nat.le_succ _) _⟩
    unfold oneM
    rw [HFL.out, if_neg hx0]
  ·
   obtain rfl : k = n := by omega
   have hz : firstE l = 0 := by rw [HF.out, List.drop_of_length_le (by rw [HL.out]; exact Nat.le_refl _)]; rfl
   have hl2 := chg_len HD.out 0 0 0
   have hst := run_sstC (chg m 0 0 0) HB1.out (by rw [zeroC_chg, List.size_toArray, chg_len Mt.zero_ok, hl2]) (by rw [hl2]; exact info_sC) (chg_one _ _ _ _)
   have HZ := Lib.hid hz
   have hbd := fun W => run_sbC m HD.out W
   clear hz
   go_wp2_with fail
   refine bodyPost_ret (results_cell_row rfl _ _ (w.heap.size + 1) 119 (chg m 0 0 0).toArray (0, 0) _ rfl (HB1.out.setRow_m _) Tryz.underlying119 rfl (by rw [List.size_toArray, hl2]; exact info_sC)) rfl ?_
   refine ⟨?_, below_setRow_m HBL.out (Nat.le_succ _) _⟩
   unfold oneM
   rw [HZ.out, if_pos rfl]
end Go.Proofs.YtpafenlcgcenlaaGreatDoor
namespace Go.Proofs.YtpafenlcgcenlaaGreatDoor
open Go Go.RowKit
set_option linter.unusedVariables false
set_option linter.unusedSimpArgs false
theorem set_mid (A B : List Value) (x u : Value) (k : Nat) (hk : A.length = k) : (A ++ x :: B).set k u = A ++ u :: B := by
 subst hk
 rw [List.set_append_right _ _ (Nat.le_refl _), Nat.sub_self, List.set_cons_zero]
section
variable {m : Mt}
theorem Mt.set0 (v : Int) : m.cells.set 0 (i64v v) = ({ m with act := v } : Mt).cells := rfl
theorem Mt.set69 (h : m.Ok) (v : Int) : m.cells.set 69 (i64v v) = ({ m with mn := v } : Mt).cells := by
 have e : m.cells = (i64v m.act :: (m.h0.cells ++ m.h1.cells)) ++ (i64v m.mn :: (i64v m.ph :: (m.cm.cells ++ [i64v m.got, i64v m.tr]))) := by simp [Mt.cells]
 rw [e, set_mid _ _ _ _ 69 (by simp [Img.cells_len h.d0, Img.cells_len h.d1])]
 simp [Mt.cells]
theorem Mt.set70 (h : m.Ok) (v : Int) : m.cells.set 70 (i64v v) = ({ m with ph := v } : Mt).cells := by
 have e : m.cells = (i64v m.act :: (m.h0.cells ++ (m.h1.cells ++ [i64v m.mn]))) ++ (i64v m.ph :: (m.cm.cells ++ [i64v m.got, i64v m.tr])) := by simp [Mt.cells]
 rw [e, set_mid _ _ _ _ 70 (by simp [Img.cells_len h.d0, Img.cells_len h.d1])]
 simp [Mt.cells]
theorem Mt.set105 (h : m.Ok) (v : Int) : m.cells.set 105 (i64v v) = ({ m with got := v } : Mt).cells := by
 have e : m.cells = (i64v m.act :: (m.h0.cells ++ (m.h1.cells ++ (i64v m.mn :: i64v m.ph :: m.cm.cells)))) ++ (i64v m.got :: [i64v m.tr]) := by simp [Mt.cells]
 rw [e, set_mid _ _ _ _ 105 (by simp [Img.cells_len h.d0, Img.cells_len h.d1, Img.cells_len h.d2])]
 simp [Mt.cells]
theorem Mt.set106 (h : m.Ok) (v : Int) : m.cells.set 106 (i64v v) = ({ m with tr := v } : Mt).cells := by
 have e : m.cells = (i64v m.act :: (m.h0.cells ++ (m.h1.cells ++ (i64v m.mn :: i64v m.ph :: (m.cm.cells ++ [i64v m.got]))))) ++ (i64v m.tr :: []) := by simp [Mt.cells]
 rw [e, set_mid _ _ _ _ 106 (by simp [Img.cells_len h.d0, Img.cells_len h.d1, Img.cells_len h.d2])]
 simp [Mt.cells]
theorem Mt.put1 (h : m.Ok) (i : Img) : m.cells.take 1 ++ (i.cells ++ m.cells.drop 35) = ({ m with h0 := i } : Mt).cells := by
 have e : m.cells.drop 35 = m.h1.cells ++ (i64v m.mn :: i64v m.ph :: (m.cm.cells ++ [i64v m.got, i64v m.tr])) := by
  simp only [Mt.cells, List.drop_succ_cons]
  rw [List.drop_append, Img.cells_len h.d0, List.drop_of_length_le (by rw [Img.cells_len h.d0]; omega), List.nil_append, Nat.sub_self, List.drop_zero]
 rw [e]
 rfl
theorem Mt.put35 (h : m.Ok) (i : Img) : m.cells.take 35 ++ (i.cells ++ m.cells.drop 69) = ({ m with h1 := i } : Mt).cells := by
 have e : m.cells.take 35 = i64v m.act :: m.h0.cells := by
  simp only [Mt.cells, List.take_succ_cons]
  rw [List.take_append_of_le_length (by rw [Img.cells_len h.d0]; omega), List.take_of_length_le (by rw [Img.cells_len h.d0]; omega)]
 rw [e, Mt.drop69 h]
 rfl
theorem Mt.put71 (h : m.Ok) (i : Img) : m.cells.take 71 ++ (i.cells ++ m.cells.drop 105) = ({ m with cm := i } : Mt).cells := by
 have e : m.cells = (i64v m.act :: (m.h0.cells ++ (m.h1.cells ++ [i64v m.mn, i64v m.ph]))) ++ (m.cm.cells ++ [i64v m.got, i64v m.tr]) := by simp [Mt.cells]
 have l1 : (i64v m.act :: (m.h0.cells ++ (m.h1.cells ++ [i64v m.mn, i64v m.ph]))).length = 71 := by simp [Img.cells_len h.d0, Img.cells_len h.d1]
 rw [e, List.take_append_of_le_length (by omega), List.take_of_length_le (by omega), List.drop_append, List.drop_of_length_le (by omega), List.nil_append, l1, List.drop_append, List.drop_of_length_le (by rw [Img.cells_len h.d2]; omega), List.nil_append, Img.cells_len h.d2]
 simp [Mt.cells]
end
section
variable {W : World} {g : Nat} {t : TypeId} {m : Mt}
theorem Blk.setAct (B : Blk W g t m.cells.toArray) (v : Int) : Blk (W.setCell ⟨g, 0, none⟩ (i64v v)) g t ({ m with act := v } : Mt).cells.toArray := by
 have h := B.set_ 0 (i64v v)
 rw [List.setIfInBounds_toArray, Mt.set0] at h
 exact h
theorem Blk.setMin (B : Blk W g t m.cells.toArray) (o : m.Ok) (v : Int) : Blk (W.setCell ⟨g, 69, none⟩ (i64v v)) g t ({ m with mn := v } : Mt).cells.toArray := by
 have h := B.set_ 69 (i64v v)
 rw [List.setIfInBounds_toArray, Mt.set69 o] at h
 exact h
theorem Blk.setPhase (B : Blk W g t m.cells.toArray) (o : m.Ok) (v : Int) : Blk (W.setCell ⟨g, 70, none⟩ (i64v v)) g t ({ m with ph := v } : Mt).cells.toArray := by
 have h := B.set_ 70 (i64v v)
 rw [List.setIfInBounds_toArray, Mt.set70 o] at h
 exact h
theorem Blk.setGot (B : Blk W g t m.cells.toArray) (o : m.Ok) (v : Int) : Blk (W.setCell ⟨g, 105, none⟩ (i64v v)) g t ({ m with got := v } : Mt).cells.toArray := by
 have h := B.set_ 105 (i64v v)
 rw [List.setIfInBounds_toArray, Mt.set105 o] at h
 exact h
theorem Blk.setTrials (B : Blk W g t m.cells.toArray) (o : m.Ok) (v : Int) : Blk (W.setCell ⟨g, 106, none⟩ (i64v v)) g t ({ m with tr := v } : Mt).cells.toArray := by
 have h := B.set_ 106 (i64v v)
 rw [List.setIfInBounds_toArray, Mt.set106 o] at h
 exact h
end
theorem Blk.setCells {g : Nat} {t : TypeId} : ∀ (l : List Value) (o : Nat) (W : World) (cs : List Value), Blk W g t cs.toArray → o + l.length ≤ cs.length → Blk (W.setCells g o l) g t (cs.take o ++ (l ++ cs.drop (o + l.length))).toArray
 | [], o, W, cs, B, h => by
  rw [List.nil_append, List.length_nil, Nat.add_zero, List.take_append_drop]
  exact B
 | v :: r, o, W, cs, B, h => by
  have B1 := B.set_ o v
  rw [List.setIfInBounds_toArray] at B1
  rw [List.length_cons] at h
  have ih := Blk.setCells r (o + 1) _ (cs.set o v) B1 (by rw [List.length_set]; omega)
  have q : cs.set o v = (cs.take o ++ [v]) ++ cs.drop (o + 1) := by
   rw [List.set_eq_take_append_cons_drop, if_pos (by omega), List.append_assoc]
   rfl
  have ql : (cs.take o ++ [v]).length = o + 1 := by rw [List.length_append, List.length_take, List.length_singleton]; omega
  rw [q, List.take_append_of_le_length (by omega), List.take_of_length_le (by omega), List.drop_append, List.drop_of_length_le (by omega), List.nil_append, ql, List.drop_drop, show o + 1 + (o + 1 + r.length - (o + 1)) = o + (r.length + 1) by omega, List.append_assoc] at ih
  exact ih
/-- How long a chunk is. -/
def lenZ (size n : Int) : Int := if n < 0 ∨ chunksZ size ≤ n then 0 else min 320 (size - n * 320)
end Go.Proofs.YtpafenlcgcenlaaGreatDoor
namespace Go.Proofs.YtpafenlcgcenlaaGreatDoor
open Go Go.RowKit
set_option linter.unusedVariables false
set_option linter.unusedSimpArgs false
noncomputable def sstI (x v : Value) : Sem Unit := Instr.storeAt 41 x v
theorem sstI_seal (x v : Value) : Instr.storeAt 41 x v = sstI x v := rfl
theorem info_sI3 : (Tryz.prog.info? 41).map (·.size) = some 34 := by kernel_rfl
theorem zeroC_M : Tryz.zeroCells44 = Mt.zero.cells.toArray := by kernel_rfl
theorem run_sstI {W : World} {g : Nat} {t : TypeId} {cs : Array Value} (B : Blk W g t cs) (o : Nat) (ho : o + 34 ≤ cs.size) (i : Img) (hi : i.d.length = 32) :
  (sstI (.pointer (some ⟨g, o, none⟩)) (.agg i.cells.toArray)).run Tryz.prog W = .ok () (W.setCells g o i.cells) := by
 have hl := Img.cells_len hi
 refine run_storeAt_mid (P := Tryz.prog) W g o 41 i.cells.toArray ?_ (by rw [List.size_toArray, hl]; exact info_sI3) (by simpa using Img.one i)
 intro j hj
 rw [List.size_toArray, hl] at hj
 refine ⟨?_, B.frozen _⟩
 rw [B.cell, Array.getElem?_eq_getElem (by omega)]
 rfl
section
variable {W : World} {g : Nat} {t : TypeId} {m : Mt}
theorem Blk.putH0 (B : Blk W g t m.cells.toArray) (o : m.Ok) (i : Img) (hi : i.d.length = 32) : Blk (W.setCells g 1 i.cells) g t ({ m with h0 := i } : Mt).cells.toArray := by
 have h := Blk.setCells i.cells 1 W m.cells B (by rw [Mt.cells_len o, Img.cells_len hi]; omega)
 rw [Img.cells_len hi, Mt.put1 o] at h
 exact h
theorem Blk.putH1 (B : Blk W g t m.cells.toArray) (o : m.Ok) (i : Img) (hi : i.d.length = 32) : Blk (W.setCells g 35 i.cells) g t ({ m with h1 := i } : Mt).cells.toArray := by
 have h := Blk.setCells i.cells 35 W m.cells B (by rw [Mt.cells_len o, Img.cells_len hi]; omega)
 rw [Img.cells_len hi, Mt.put35 o] at h
 exact h
theorem Blk.putCm (B : Blk W g t m.cells.toArray) (o : m.Ok) (i : Img) (hi : i.d.length = 32) : Blk (W.setCells g 71 i.cells) g t ({ m with cm := i } : Mt).cells.toArray := by
 have h := Blk.setCells i.cells 71 W m.cells B (by rw [Mt.cells_len o, Img.cells_len hi]; omega)
 rw [Img.cells_len hi, Mt.put71 o] at h
 exact h
end
theorem below_setCells {B g : Nat} {w0 : World} (hBg : B ≤ g) : ∀ (l : List Value) (o : Nat) (w : World), Below B w0 w → Below B w0 (w.setCells g o l)
 | [], _, _, h => h
 | v :: r, o, w, h => below_setCells hBg r (o + 1) _ (h.setCell (by exact hBg) v)
end Go.Proofs.YtpafenlcgcenlaaGreatDoor
