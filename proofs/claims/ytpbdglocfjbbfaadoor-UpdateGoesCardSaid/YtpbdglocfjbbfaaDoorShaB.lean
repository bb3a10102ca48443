/- A region that draws its order, by an invariant over what has been done so far. · A block mixed into a state: sha.mix. · slices.Grow from nothing, slices.Concat of a row of rows. · slices.Concat of two rows. · sha.long, sha.told: numbers and states as bytes. · sha.told: the words of a state as bytes. · A stream of bytes: sha.New. · A stream of bytes: Write. · A stream of bytes: its ten cells. -/
import Derived.Orders
import Derived.Laws.Tables
import Derived.Laws.Rows
import Derived.Test.YtpbdglocfjbbfaaDoorShaA
import Derived.Test.YtpbdglocfjbbfaaDoorLib
namespace Go.Proofs.YtpbdglocfjbbfaaDoor
open Go
set_option linter.unusedVariables false

section
variable {P : Program} {ops : Array Oper} {Q : Exit → Act → World → Prop}

theorem unlisted_lt {listed : Array Bool} {i : Nat} (h : listed.getD i true = false) : ∃ hi : i < listed.size, listed[i] = false := by
  by_cases hi : i < listed.size
  · refine ⟨hi, ?_⟩
    rw [Array.getD_eq_getD_getElem?, Array.getElem?_eq_getElem hi] at h
    exact h
  · rw [Array.getD_eq_getD_getElem?, Array.getElem?_eq_none (by omega)] at h
    cases h

theorem wpAny_inv (I : Array Bool → Act → World → Prop)
    (hstep : ∀ listed a w i, I listed a w → i ∈ Region.ready .any ops listed → wpOp P ops Q i (fun a' w' => I (listed.setIfInBounds i true) a' w') a w)
    (hend : ∀ listed a w, I listed a w → Region.ready .any ops listed = [] → Q .normal a w) :
    ∀ (fuel : Nat) (listed : Array Bool) (a : Act) (w : World), listed.toList.countP (fun b => !b) ≤ fuel → I listed a w → wpAny P .any ops Q fuel listed a w
  | 0, listed, a, w, hU, hI => by
    have hr : Region.ready .any ops listed = [] := by
      apply List.eq_nil_iff_forall_not_mem.2
      intro j hj
      obtain ⟨hj', hjf⟩ := unlisted_lt (mem_ready.1 hj).1
      have h0 : listed.toList.countP (fun b => !b) = 0 := by omega
      rw [List.countP_eq_zero] at h0
      have := h0 listed[j] (by simp)
      rw [hjf] at this
      simp at this
    exact ⟨hr, hend _ _ _ hI hr⟩
  | fuel + 1, listed, a, w, hU, hI => by
    refine ⟨hend _ _ _ hI, fun i hi => ?_⟩
    refine wpOp_mono (fun a' w' h' => wpAny_inv I hstep hend fuel _ a' w' ?_ h') (hstep listed a w i hI hi)
    obtain ⟨hj', hjf⟩ := unlisted_lt (mem_ready.1 hi).1
    rw [Array.toList_setIfInBounds, List.countP_set (by simpa using hj')]
    have hpos : 0 < listed.toList.countP (fun b => !b) := List.countP_pos_iff.2 ⟨false, by rw [← hjf]; simp, rfl⟩
    simp only [Array.getElem_toList, hjf, Bool.not_false, Bool.not_true, if_true, Bool.false_eq_true, if_false]
    omega

theorem wp_region_inv {id : Nat} {a : Act} {w : World} (hm : P.follows .mixedOrders = true) (I : Array Bool → Act → World → Prop)
    (h0 : I (Array.replicate ops.size false) a { w with drawn := w.drawn + 1 })
    (hstep : ∀ listed a w i, I listed a w → i ∈ Region.ready .any ops listed → wpOp P ops Q i (fun a' w' => I (listed.setIfInBounds i true) a' w') a w)
    (hend : ∀ listed a w, I listed a w → Region.ready .any ops listed = [] → Q .normal a w) : (Code.region id ops true).wp P Q a w :=
  wp_region_any hm (wpAny_inv I hstep hend _ _ _ _ (by
    have := List.countP_le_length (p := fun b : Bool => !b) (l := (Array.replicate ops.size false).toList)
    simpa using this) h0)

theorem wpOp_plain {i : Nat} {o : Oper} {K : Act → World → Prop} {a : Act} {w : World} (ho : ops[i]? = some o) (hg : o.guard = none) (h : o.wp P a w K Q) : wpOp P ops Q i K a w := by
  unfold wpOp
  rw [ho]
  have hw : Region.wanted o (yielded ops a.tmps) = true := by simp [Region.wanted, hg]
  simp only [hw, if_true]
  exact .inl h
end
end Go.Proofs.YtpbdglocfjbbfaaDoor
namespace Go.Proofs.YtpbdglocfjbbfaaDoor
open Go.RowKit
set_option linter.unusedVariables false
set_option linter.unusedSimpArgs false

def roundsTo (s : St) (l : List UInt8) : Nat → St
  | 0 => s
  | k + 1 => (roundsTo s l k).round (kList.getD k 0 + (spread l).getD k 0)
/-- A block mixed into a state. -/
def mixS (s : St) (l : List UInt8) : St := s.plus (roundsTo s l 64)
theorem kList_len : kList.length = 64 := by kernel_rfl
theorem Blk.set8 {w : World} {g : Nat} {t : TypeId} {a0 a1 a2 a3 a4 a5 a6 a7 v0 v1 v2 v3 v4 v5 v6 v7 : Value} (h : Blk w g t #[a0, a1, a2, a3, a4, a5, a6, a7]) : Blk ((((((((w.setCell ⟨g, 0, none⟩ v0).setCell ⟨g, 1, none⟩ v1).setCell ⟨g, 2, none⟩ v2).setCell ⟨g, 3, none⟩ v3).setCell ⟨g, 4, none⟩ v4).setCell ⟨g, 5, none⟩ v5).setCell ⟨g, 6, none⟩ v6).setCell ⟨g, 7, none⟩ v7) g t #[v0, v1, v2, v3, v4, v5, v6, v7] :=
by
  have e : (((((((#[a0, a1, a2, a3, a4, a5, a6, a7].setIfInBounds 0 v0).setIfInBounds 1 v1).setIfInBounds 2 v2).setIfInBounds 3 v3).setIfInBounds 4 v4).setIfInBounds 5 v5).setIfInBounds 6 v6).setIfInBounds 7 v7 = #[v0, v1, v2, v3, v4, v5, v6, v7] := by kernel_rfl
  rw [← e]
  exact (((((((h.set_ 0 v0).set_ 1 v1).set_ 2 v2).set_ 3 v3).set_ 4 v4).set_ 5 v5).set_ 6 v6).set_ 7 v7
theorem Blk.far8 {w : World} {g k : Nat} {t : TypeId} {cs : Array Value} {v0 v1 v2 v3 v4 v5 v6 v7 : Value} (h : Blk w k t cs) (hk : k ≠ g) : Blk ((((((((w.setCell ⟨g, 0, none⟩ v0).setCell ⟨g, 1, none⟩ v1).setCell ⟨g, 2, none⟩ v2).setCell ⟨g, 3, none⟩ v3).setCell ⟨g, 4, none⟩ v4).setCell ⟨g, 5, none⟩ v5).setCell ⟨g, 6, none⟩ v6).setCell ⟨g, 7, none⟩ v7) k t cs :=
  (((((((h.far (p := ⟨g, 0, none⟩) hk v0).far (p := ⟨g, 1, none⟩) hk v1).far (p := ⟨g, 2, none⟩) hk v2).far (p := ⟨g, 3, none⟩) hk v3).far (p := ⟨g, 4, none⟩) hk v4).far (p := ⟨g, 5, none⟩) hk v5).far (p := ⟨g, 6, none⟩) hk v6).far (p := ⟨g, 7, none⟩) hk v7
theorem below_set8 {w a : World} {B g : Nat} {v0 v1 v2 v3 v4 v5 v6 v7 : Value} (h : Below B a w) (hg : B ≤ g) : Below B a ((((((((w.setCell ⟨g, 0, none⟩ v0).setCell ⟨g, 1, none⟩ v1).setCell ⟨g, 2, none⟩ v2).setCell ⟨g, 3, none⟩ v3).setCell ⟨g, 4, none⟩ v4).setCell ⟨g, 5, none⟩ v5).setCell ⟨g, 6, none⟩ v6).setCell ⟨g, 7, none⟩ v7) :=
  (((((((h.setCell (p := ⟨g, 0, none⟩) hg v0).setCell (p := ⟨g, 1, none⟩) hg v1).setCell (p := ⟨g, 2, none⟩) hg v2).setCell (p := ⟨g, 3, none⟩) hg v3).setCell (p := ⟨g, 4, none⟩) hg v4).setCell (p := ⟨g, 5, none⟩) hg v5).setCell (p := ⟨g, 6, none⟩) hg v6).setCell (p := ⟨g, 7, none⟩) hg v7
def plusTo (s t : St) : Nat → List UInt32
  | 0 => s.words
  | k + 1 => (plusTo s t k).set k ((plusTo s t k).getD k 0 + t.words.getD k 0)
theorem plusTo_len (s t : St) (k : Nat) : (plusTo s t k).length = 8 := by
  induction k with
  | zero => rfl
  | succ k ih => simp only [plusTo, List.length_set, ih]
theorem plusTo_all (s t : St) : plusTo s t 8 = (s.plus t).words := rfl
theorem words_vals (s : St) : (s.words.map u32v).toArray = s.vals := rfl
def zero64 : Array Value := Array.replicate 64 (Value.int .u32 0)
def zero8 : Array Value := #[.int .u32 0, .int .u32 0, .int .u32 0, .int .u32 0, .int .u32 0, .int .u32 0, .int .u32 0, .int .u32 0]
def mixFr (h : Array Value) (A : Option Addr) (c B : Nat) (v5 v6 v7 v10 v11 v12 v13 : Value) : Act :=
  ⟨#[.agg h, .slice A 64 c, .pointer (some ⟨B, 0, none⟩), undef, .pointer (some ⟨B + 1, 0, none⟩), v5, v6, v7, undef, undef, v10, v11, v12, v13,
    undef, undef, undef, undef, undef, undef, undef, undef, undef, undef, undef, undef, undef, undef, undef, undef, undef, undef, undef, undef, undef, undef, undef, undef, undef, undef], []⟩
def HasB (wx : World) (B : Nat) (v : Value) (t : TypeId) (C : Array Value) : Prop := ∃ g, v = .pointer (some ⟨g, 0, none⟩) ∧ B ≤ g ∧ Blk wx g t C
theorem HasB.mono {wx wy : World} {B : Nat} {v : Value} {t : TypeId} {C : Array Value} (h : HasB wx B v t C) (hk : ∀ k, k < wx.heap.size → wy.heap[k]? = wx.heap[k]?) : HasB wy B v t C := by
  obtain ⟨g, h1, h2, h3⟩ := h
  exact ⟨g, h1, h2, (hk g h3.lt).trans h3⟩
/-- What the region of mix that makes its three variables has brought about, whatever came first. -/
structure MixI (w0 : World) (B : Nat) (h : Array Value) (A : Option Addr) (c : Nat) (W : Array Value) (listed : Array Bool) (a : Act) (wx : World) : Prop where
  size : listed.size = 10
  all : ∃ v5 v6 v7 v10 v11 v12 v13, a = mixFr h A c B v5 v6 v7 v10 v11 v12 v13 ∧ Below (B + 2) w0 wx ∧
    (listed.getD 0 false = true → v10 = .slice A 64 c) ∧ (listed.getD 1 false = true → v11 = .agg W) ∧ (listed.getD 2 false = true → v12 = .agg kVals) ∧ (listed.getD 3 false = true → v13 = .agg h) ∧
    (listed.getD 4 false = true → HasB wx (B + 2) v5 124 (if listed.getD 7 false = true then W else zero64)) ∧
    (listed.getD 5 false = true → HasB wx (B + 2) v6 124 (if listed.getD 8 false = true then kVals else zero64)) ∧
    (listed.getD 6 false = true → HasB wx (B + 2) v7 105 (if listed.getD 9 false = true then h else zero8)) ∧
    (listed.getD 4 false = true → listed.getD 5 false = true → v5 ≠ v6) ∧ (listed.getD 7 false = true → listed.getD 4 false = true) ∧ (listed.getD 8 false = true → listed.getD 5 false = true) ∧ (listed.getD 9 false = true → listed.getD 6 false = true)
theorem unl {listed : Array Bool} {i : Nat} (h : listed.getD i true = false) : listed.getD i false = false := by
  obtain ⟨h1, h2⟩ := unlisted_lt h
  rw [Array.getD_eq_getD_getElem?, Array.getElem?_eq_getElem h1]
  exact h2
theorem HasB.far {wx : World} {B : Nat} {v : Value} {t : TypeId} {C : Array Value} (h : HasB wx B v t C) {g : Nat} (hne : v ≠ .pointer (some ⟨g, 0, none⟩)) (cs : Array Value) : HasB (wx.setRow g cs) B v t C := by
  obtain ⟨k, h1, h2, h3⟩ := h
  exact ⟨k, h1, h2, h3.setRow_far cs (fun e => hne (by rw [h1, e]))⟩
theorem vals_one (s : St) : s.vals.all (·.oneCell') = true := by
  refine Array.all_eq_true_iff_forall_mem.2 (fun v hv => ?_)
  simp only [St.vals, List.mem_toArray, List.mem_cons, List.not_mem_nil, or_false] at hv
  rcases hv with rfl | rfl | rfl | rfl | rfl | rfl | rfl | rfl <;> rfl
theorem all_done {ops : Array Oper} {listed : Array Bool} (hr : Region.ready .any ops listed = []) (i : Nat) (o : Oper) (ho : ops[i]? = some o) (hi : i < listed.size)
    (hall : ∀ e ∈ o.after, Region.binds .any e = true → listed.getD e.on false = true) : listed.getD i false = true := by
  by_cases h : listed.getD i true = false
  · have := mem_ready.2 ⟨h, o, ho, hall⟩
    rw [hr] at this; cases this
  · rw [Array.getD_eq_getD_getElem?, Array.getElem?_eq_getElem hi] at h ⊢
    simpa using h
theorem kVals_size : kVals.size = 64 := by kernel_rfl
theorem zero64_one : zero64.size = 64 := by kernel_rfl
theorem zero8_one : zero8.size = 8 := by kernel_rfl
theorem flag (listed : Array Bool) (hs : listed.size = 10) (i j : Nat) (hi : i < 10) : (listed.setIfInBounds i true).getD j false = if i = j then true else listed.getD j false := by
  rw [Array.getD_eq_getD_getElem?, Array.getElem?_setIfInBounds]
  by_cases h : i = j
  · subst h
    rw [if_pos rfl, if_pos (by omega), if_pos rfl]; rfl
  · rw [if_neg h, if_neg h, Array.getD_eq_getD_getElem?]
end Go.Proofs.YtpbdglocfjbbfaaDoor
namespace Go.Proofs.YtpbdglocfjbbfaaDoor
open Go.RowKit
set_option linter.unusedVariables false
set_option linter.unusedSimpArgs false

theorem run_append_zeros {P : Program} (w : World) (t u ty e : TypeId) (i : TypeInfo) (z : Value) (ht : P.underlying t = some (.slice e)) (hu : P.underlying u = some (.int .i64)) (hi : P.info? e = some i) (hz : i.zero = some z) (hs : i.size = 1) (hb : i.bytes = 1)
    (n : Nat) (h0 : 0 < n) (hn : n ≤ 1099511627776) :
    (Builtin.append_ #[t, u] ty #[.slice none 0 0, .int .i64 (n : Int)]).run P w =
      .ok (.slice (some ⟨w.heap.size, 0, none⟩) n (grownCap w n 0 e)) (w.drew.alloc (.cells (Builtin.zeroCells z.cells n ++ Builtin.zeroCells z.cells (grownCap w n 0 e - n)) e)) := by
  have hw : IntKind.i64.wrap (n : Int) = (n : Int) := IntWalk.i64_in _ (by omega)
  have hl : ¬ ((n : Int) < 0) := by omega
  have hl2 : ¬ (281474976710656 < (n : Int)) := by omega
  have hn0 : n ≠ 0 := by omega
  have h63' : ¬ (9223372036854775807 < (n : Int)) := by omega
  have h48' : ¬ (281474976710656 < Builtin.nextslicecap n 0) := by
    have := nextslicecap_zero h0
    rw [this]; omega
  simp [Builtin.append_, run_underlying ht, run_underlying hu, sizeOf, typeInfo, zeroValue, hi, hz, hs, hb, Builtin.lenOf, Builtin.firstCells, hw, hl, hl2, hn0, h63', h48', Question.forced, newRow, grownCap, asInt, asIntOf]
theorem wpList_append_run {P : Program} {w w' : World} {ops : Array Oper} {rest : List Oper} {o : Oper} {a : Act} {Q : Exit → Act → World → Prop} (hgd : o.guard = none) (s x : Operand) (t u : TypeId)
    (ho : o.op = .call { callee := .builtin .append, args := #[s, x], argTypes := #[t, u] }) (vs vx v : Value) (hs : a.eval s = vs) (hx : a.eval x = vx)
    (hrun : (Builtin.append_ #[t, u] o.type #[vs, vx]).run P w = .ok v w') (h : wpList P ops Q rest (a.put o.dst v) w') : wpList P ops Q (o :: rest) a w :=
  wpList_plain hgd fun K hK => by
    unfold Oper.wp execOp
    simp only [ho, resolve, invoke, builtin, Sem.run_bind, Sem.run_pure, Result.andThen_ok, List.map_toArray, List.map_cons, List.map_nil, hs, hx, hrun]
    exact hK _ _ h
end Go.Proofs.YtpbdglocfjbbfaaDoor
namespace Go.Proofs.YtpbdglocfjbbfaaDoor
open Go.RowKit
set_option linter.unusedVariables false
set_option linter.unusedSimpArgs false

def catTo (l0 l1 : List UInt8) (k : Nat) : List UInt8 := if k = 0 then [] else if k = 1 then l0 else l0 ++ l1
end Go.Proofs.YtpbdglocfjbbfaaDoor
namespace Go.Proofs.YtpbdglocfjbbfaaDoor
open Go.RowKit
set_option linter.unusedVariables false
set_option linter.unusedSimpArgs false

/-- A number in eight bytes, the highest first. -/
def long8 (n : UInt64) : List UInt8 := bytes4 (n >>> 32).toUInt32 ++ bytes4 n.toUInt32
abbrev u64v (c : UInt64) : Value := .int .u64 (c.toNat : Int)
theorem Reads.of_blk {w : World} {g : Nat} {t : TypeId} {l : List UInt8} (hB : Blk w g t (l.map u8v).toArray) : Reads w (some ⟨g, 0, none⟩) l.length (l.map u8v) := by
  have := hB.row
  rw [List.length_map] at this
  exact this
end Go.Proofs.YtpbdglocfjbbfaaDoor
namespace Go.Proofs.YtpbdglocfjbbfaaDoor
open Go.RowKit
set_option linter.unusedVariables false
set_option linter.unusedSimpArgs false

def toldTo (s : St) (k : Nat) : List UInt8 := (s.words.take k).flatMap bytes4
def told (s : St) : List UInt8 := s.words.flatMap bytes4
theorem told_len (s : St) : (told s).length = 32 := rfl
theorem info_u32 : (Tryd.prog.info? 104).map (fun i => (i.size)) = some 1 := by kernel_rfl
theorem run_index8 (a b c d e f g h : UInt32) (k : Nat) (hk : k < 8) (v : UInt32) (hv : [a, b, c, d, e, f, g, h][k]? = some v) (w : World) :
    (Instr.index 105 (.agg #[u32v a, u32v b, u32v c, u32v d, u32v e, u32v f, u32v g, u32v h]) (.int .i64 (k : Int))).run Tryd.prog w = .ok (u32v v) w := by
  obtain ⟨i, hi, hs⟩ : ∃ i, Tryd.prog.info? 104 = some i ∧ i.size = 1 := by
    have := info_u32
    cases hq : Tryd.prog.info? 104 with
    | none => rw [hq] at this; cases this
    | some i => rw [hq] at this; exact ⟨i, rfl, by simpa using this⟩
  have hk8 : k = 0 ∨ k = 1 ∨ k = 2 ∨ k = 3 ∨ k = 4 ∨ k = 5 ∨ k = 6 ∨ k = 7 := by omega
  rcases hk8 with rfl | rfl | rfl | rfl | rfl | rfl | rfl | rfl <;> simp at hv <;> subst hv <;> simp [Instr.index, run_underlying Tryd.underlying105, asIntOf, part, isAgg, run_underlying Tryd.underlying104, sizeOf, typeInfo, hi, hs, go_sem]
end Go.Proofs.YtpbdglocfjbbfaaDoor
namespace Go.Proofs.YtpbdglocfjbbfaaDoor
open Go.RowKit
set_option linter.unusedVariables false
set_option linter.unusedSimpArgs false

end Go.Proofs.YtpbdglocfjbbfaaDoor
namespace Go.Proofs.YtpbdglocfjbbfaaDoor
open Go.RowKit
set_option linter.unusedVariables false
set_option linter.unusedSimpArgs false

/-- All whole blocks of l mixed in, one behind the other; and what is left. -/
def absorb (s : St) (l : List UInt8) : St × List UInt8 :=
  if h : 64 ≤ l.length then absorb (mixS s (l.take 64)) (l.drop 64) else (s, l)
termination_by l.length
decreasing_by simp; omega
theorem absorb_more (s : St) (l : List UInt8) (h : 64 ≤ l.length) : absorb s l = absorb (mixS s (l.take 64)) (l.drop 64) := by
  rw [absorb, dif_pos h]
theorem absorb_done (s : St) (l : List UInt8) (h : ¬ 64 ≤ l.length) : absorb s l = (s, l) := by
  rw [absorb, dif_neg h]
theorem w64_len (n : UInt64) (k : Nat) (hk : k ≤ 9223372036854775807) : ((n.toNat : Int) + (k : Int)) % (18446744073709551616 : Int) = ((n + UInt64.ofNat k).toNat : Int) := by
  rw [UInt64.toNat_add, UInt64.toNat_ofNat']; omega
end Go.Proofs.YtpbdglocfjbbfaaDoor
namespace Go.Proofs.YtpbdglocfjbbfaaDoor
open Go.RowKit
set_option linter.unusedVariables false
set_option linter.unusedSimpArgs false
/-- The cells of a stream. -/
def strm (s : St) (n : UInt64) (v : Value) : Array Value := #[u32v s.a, u32v s.b, u32v s.c, u32v s.d, u32v s.e, u32v s.f, u32v s.g, u32v s.h, u64v n, v]
theorem strm_8 (s : St) (n m : UInt64) (v : Value) : (strm s n v).setIfInBounds 8 (u64v m) = strm s m v := rfl
theorem strm_9 (s : St) (n : UInt64) (v u : Value) : (strm s n v).setIfInBounds 9 u = strm s n u := rfl
theorem strm_h (s t : St) (n : UInt64) (v : Value) : ((((((((strm s n v).setIfInBounds 0 (u32v t.a)).setIfInBounds 1 (u32v t.b)).setIfInBounds 2 (u32v t.c)).setIfInBounds 3 (u32v t.d)).setIfInBounds 4 (u32v t.e)).setIfInBounds 5 (u32v t.f)).setIfInBounds 6 (u32v t.g)).setIfInBounds 7 (u32v t.h) = strm t n v := by kernel_rfl
section
variable {w : World} {sb : Nat} {t : TypeId} {s : St} {n : UInt64} {v : Value}
theorem strm_c0 (h : Blk w sb t (strm s n v)) : w.cell? ⟨sb, 0, none⟩ = some (u32v s.a) := by rw [h.cell]; rfl
theorem strm_c1 (h : Blk w sb t (strm s n v)) : w.cell? ⟨sb, 1, none⟩ = some (u32v s.b) := by rw [h.cell]; rfl
theorem strm_c2 (h : Blk w sb t (strm s n v)) : w.cell? ⟨sb, 2, none⟩ = some (u32v s.c) := by rw [h.cell]; rfl
theorem strm_c3 (h : Blk w sb t (strm s n v)) : w.cell? ⟨sb, 3, none⟩ = some (u32v s.d) := by rw [h.cell]; rfl
theorem strm_c4 (h : Blk w sb t (strm s n v)) : w.cell? ⟨sb, 4, none⟩ = some (u32v s.e) := by rw [h.cell]; rfl
theorem strm_c5 (h : Blk w sb t (strm s n v)) : w.cell? ⟨sb, 5, none⟩ = some (u32v s.f) := by rw [h.cell]; rfl
theorem strm_c6 (h : Blk w sb t (strm s n v)) : w.cell? ⟨sb, 6, none⟩ = some (u32v s.g) := by rw [h.cell]; rfl
theorem strm_c7 (h : Blk w sb t (strm s n v)) : w.cell? ⟨sb, 7, none⟩ = some (u32v s.h) := by rw [h.cell]; rfl
theorem strm_c8 (h : Blk w sb t (strm s n v)) : w.cell? ⟨sb, 8, none⟩ = some (u64v n) := by rw [h.cell]; rfl
theorem strm_c9 (h : Blk w sb t (strm s n v)) : w.cell? ⟨sb, 9, none⟩ = some v := by rw [h.cell]; rfl
theorem Blk.strm8 (h : Blk w sb t (strm s n v)) (m : UInt64) : Blk (w.setCell ⟨sb, 8, none⟩ (u64v m)) sb t (strm s m v) := by
  have := h.set_ 8 (u64v m); rw [strm_8] at this; exact this
theorem Blk.strm9 (h : Blk w sb t (strm s n v)) (u : Value) : Blk (w.setCell ⟨sb, 9, none⟩ u) sb t (strm s n u) := by
  have := h.set_ 9 u; rw [strm_9] at this; exact this
def set8w (w : World) (g : Nat) (t : St) : World := ((((((((w.setCell ⟨g, 0, none⟩ (u32v t.a)).setCell ⟨g, 1, none⟩ (u32v t.b)).setCell ⟨g, 2, none⟩ (u32v t.c)).setCell ⟨g, 3, none⟩ (u32v t.d)).setCell ⟨g, 4, none⟩ (u32v t.e)).setCell ⟨g, 5, none⟩ (u32v t.f)).setCell ⟨g, 6, none⟩ (u32v t.g)).setCell ⟨g, 7, none⟩ (u32v t.h))
theorem Blk.strmh (h : Blk w sb t (strm s n v)) (t' : St) : Blk (set8w w sb t') sb t (strm t' n v) := by
  have := (((((((h.set_ 0 (u32v t'.a)).set_ 1 (u32v t'.b)).set_ 2 (u32v t'.c)).set_ 3 (u32v t'.d)).set_ 4 (u32v t'.e)).set_ 5 (u32v t'.f)).set_ 6 (u32v t'.g)).set_ 7 (u32v t'.h)
  rw [strm_h] at this; exact this
theorem only_set8w {S : List Nat} {w0 : World} (h : Only S w0 w) {g : Nat} (hg : g ∈ S ∨ w0.heap.size ≤ g) (t' : St) : Only S w0 (set8w w g t') :=
  (((((((h.setCell (p := ⟨g, 0, none⟩) hg _).setCell (p := ⟨g, 1, none⟩) hg _).setCell (p := ⟨g, 2, none⟩) hg _).setCell (p := ⟨g, 3, none⟩) hg _).setCell (p := ⟨g, 4, none⟩) hg _).setCell (p := ⟨g, 5, none⟩) hg _).setCell (p := ⟨g, 6, none⟩) hg _).setCell (p := ⟨g, 7, none⟩) hg _
theorem Reads.set8w {A : Option Addr} {k : Nat} {xs : List Value} (h : Reads w A k xs) {g : Nat} (hg : ∀ a, A = some a → a.block ≠ g) (t' : St) : Reads (set8w w g t') A k xs :=
  (((((((h.setCell (p := ⟨g, 0, none⟩) hg _).setCell (p := ⟨g, 1, none⟩) hg _).setCell (p := ⟨g, 2, none⟩) hg _).setCell (p := ⟨g, 3, none⟩) hg _).setCell (p := ⟨g, 4, none⟩) hg _).setCell (p := ⟨g, 5, none⟩) hg _).setCell (p := ⟨g, 6, none⟩) hg _).setCell (p := ⟨g, 7, none⟩) hg _
theorem Reads.drop_ {A : Option Addr} {n k cap : Nat} {xs : List Value} (h : Reads w A n xs) (hk : k ≤ n) (hc : n ≤ cap) :
    Reads w (if cap = k then A else Option.map (fun x => (⟨x.block, x.off + k, none⟩ : Addr)) A) (n - k) (xs.drop k) := by
  refine ⟨by rw [List.length_drop, h.1], fun hn => ?_⟩
  obtain ⟨b, o, rfl, hb, hcell⟩ := h.2 (by omega)
  rw [if_neg (by omega)]
  refine ⟨b, o + k, by simp, hb, fun j u hu => ?_⟩
  rw [Nat.add_assoc]
  exact hcell _ u (by rw [← hu, List.getElem?_drop])
theorem Reads.lt {A : Option Addr} {n : Nat} {xs : List Value} (h : Reads w A n xs) : 0 < n → ∀ a, A = some a → a.block < w.heap.size := by
  intro hn a ha
  obtain ⟨b, o, e, hb, _⟩ := h.2 hn
  rw [ha] at e; cases e; exact hb
theorem Reads.setCell0 {A : Option Addr} {n : Nat} {xs : List Value} (h : Reads w A n xs) {p : Addr} (hp : 0 < n → ∀ a, A = some a → a.block ≠ p.block) (u : Value) : Reads (w.setCell p u) A n xs := by
  rcases Nat.eq_zero_or_pos n with h0 | h0
  · exact ⟨h.1, fun hn => by omega⟩
  · exact h.setCell (hp h0) u
theorem Reads.only0 {w' : World} {S : List Nat} {A : Option Addr} {n : Nat} {xs : List Value} (h : Reads w A n xs) (ho : Only S w w') (ha : 0 < n → Apart S A) : Reads w' A n xs := by
  rcases Nat.eq_zero_or_pos n with h0 | h0
  · exact ⟨h.1, fun hn => by omega⟩
  · exact h.only ho (ha h0)
theorem apart_drop {A : Option Addr} {k cap g : Nat} (h : ∀ a, A = some a → a.block ≠ g) : ∀ a, (if cap = k then A else Option.map (fun x => (⟨x.block, x.off + k, none⟩ : Addr)) A) = some a → a.block ≠ g := by
  intro a ha
  by_cases hc : cap = k
  · rw [if_pos hc] at ha; exact h a ha
  · rw [if_neg hc] at ha
    cases A with
    | none => simp at ha
    | some x => simp at ha; subst ha; exact h x rfl
end
end Go.Proofs.YtpbdglocfjbbfaaDoor
