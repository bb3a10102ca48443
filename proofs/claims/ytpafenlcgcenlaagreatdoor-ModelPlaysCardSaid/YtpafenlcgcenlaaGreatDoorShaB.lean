/- A region that draws its order, by an invariant over what has been done so far. · A block mixed into a state: sha.mix. · slices.Grow from nothing, slices.Concat of a row of rows. · slices.Concat of two rows. · sha.long, sha.told: numbers and states as bytes. · sha.told: the words of a state as bytes. · A stream of bytes: sha.New. · A stream of bytes: Write. · A stream of bytes: its ten cells. -/
import Derived.Orders
import Derived.Laws.Tables
import Derived.Laws.Rows
import Derived.Test.YtpafenlcgcenlaaGreatDoorShaA
import Derived.Test.YtpafenlcgcenlaaGreatDoorBase
namespace Go.Proofs.YtpafenlcgcenlaaGreatDoor
open Go
set_option linter.unusedVariables false

section
variable {P : Program} {ops : Array Oper} {Q : Exit → Act → World → Prop}

theorem unlisted_lt {listed : Array Bool} {i : Nat} (h : listed.getD i true = false) : ∃ hi : i < listed.size, listed[i] = false := by
 by_cases hi : i < listed.size
 ·
  refine ⟨hi, ?_⟩
  rw [Array.getD_eq_getD_getElem?, Array.getElem?_eq_getElem hi] at h
  exact h
 ·
  rw [Array.getD_eq_getD_getElem?, Array.getElem?_eq_none (by omega)] at h
  cases h

theorem wpAny_inv (I : Array Bool → Act → World → Prop)
  (hstep : ∀ listed a w i, I listed a w → i ∈ Region.ready .any ops listed → wpOp P ops Q i (fun a' w' => I (listed.setIfInBounds i true) a' w') a w)
  (hend : ∀ listed a w, I listed a w → Region.ready .any ops listed = [] → Q .normal a w) :
  ∀ (fuel : Nat) (listed : Array Bool) (a : Act) (w : World), listed.toList.countP (fun b => !b) ≤ fuel → I listed a w → wpAny P .any ops Q fuel listed a w
 | 0, listed, a, w, hU, hI => by
  have hr : Region.ready .any ops listed = [] := by
   apply List.eq_nil_iff_forall_not_mem.2
   intro j hj
   obtain ⟨hj', hjf⟩ := unlisted_lt (mem_ready.1 hj).1
   have h0 : listed.toList.countP (fun b => !b) = 0 := by omega
   rw [List.countP_eq_zero] at h0
   have := h0 listed[j] (by simp)
   rw [hjf] at this
   simp at this
  exact ⟨hr, hend _ _ _ hI hr⟩
 | fuel + 1, listed, a, w, hU, hI => by
  refine ⟨hend _ _ _ hI, fun i hi => ?_⟩
  refine wpOp_mono (fun a' w' h' => wpAny_inv I hstep hend fuel _ a' w' ?_ h') (hstep listed a w i hI hi)
  obtain ⟨hj', hjf⟩ := unlisted_lt (mem_ready.1 hi).1
  rw [Array.toList_setIfInBounds, List.countP_set (by simpa using hj')]
  have hpos : 0 < listed.toList.countP (fun b => !b) := List.countP_pos_iff.2 ⟨false, by rw [← hjf]; simp, rfl⟩
  simp only [Array.getElem_toList, hjf, Bool.not_false, Bool.not_true, if_true, Bool.false_eq_true, if_false]
  omega

theorem wp_region_inv {id : Nat} {a : Act} {w : World} (hm : P.follows .mixedOrders = true) (I : Array Bool → Act → World → Prop)
  (h0 : I (Array.replicate ops.size false) a { w with drawn := w.drawn + 1 })
  (hstep : ∀ listed a w i, I listed a w → i ∈ Region.ready .any ops listed → wpOp P ops Q i (fun a' w' => I (listed.setIfInBounds i true) a' w') a w)
  (hend : ∀ listed a w, I listed a w → Region.ready .any ops listed = [] → Q .normal a w) : (Code.region id ops true).wp P Q a w :=
 wp_region_any hm (wpAny_inv I hstep hend _ _ _ _ (by
  have := List.countP_le_length (p := fun b : Bool => !b) (l := (Array.replicate ops.size false).toList)
  simpa using this) h0)

theorem wpOp_plain {i : Nat} {o : Oper} {K : Act → World → Prop} {a : Act} {w : World} (ho : ops[i]? = some o) (hg : o.guard = none) (h : o.wp P a w K Q) : wpOp P ops Q i K a w := by
 unfold wpOp
 rw [ho]
 have hw : Region.wanted o (yielded ops a.tmps) = true := by simp [Region.wanted, hg]
 simp only [hw, if_true]
 exact .inl h
end
end Go.Proofs.YtpafenlcgcenlaaGreatDoor
namespace Go.Proofs.YtpafenlcgcenlaaGreatDoor
open Go.RowKit
set_option linter.unusedVariables false
set_option linter.unusedSimpArgs false

def roundsTo (s : St) (l : List UInt8) : Nat → St
 | 0 => s
 | k + 1 => (roundsTo s l k).round (kList.getD k 0 + (spread l).getD k 0)
/-- A block mixed into a state. -/
def mixS (s : St) (l : List UInt8) : St := s.plus (roundsTo s l 64)
theorem kList_len : kList.length = 64 := by kernel_rfl
theorem Blk.set8 {w : World} {g : Nat} {t : TypeId} {a0 a1 a2 a3 a4 a5 a6 a7 v0 v1 v2 v3 v4 v5 v6 v7 : Value} (h : Blk w g t #[a0, a1, a2, a3, a4, a5, a6, a7]) : Blk ((((((((w.setCell ⟨g, 0, none⟩ v0).setCell ⟨g, 1, none⟩ v1).setCell ⟨g, 2, none⟩ v2).setCell ⟨g, 3, none⟩ v3).setCell ⟨g, 4, none⟩ v4).setCell ⟨g, 5, none⟩ v5).setCell ⟨g, 6, none⟩ v6).setCell ⟨g, 7, none⟩ v7) g t #[v0, v1, v2, v3, v4, v5, v6, v7] :=
by
 have e : (((((((#[a0, a1, a2, a3, a4, a5, a6, a7].setIfInBounds 0 v0).setIfInBounds 1 v1).setIfInBounds 2 v2).setIfInBounds 3 v3).setIfInBounds 4 v4).setIfInBounds 5 v5).setIfInBounds 6 v6).setIfInBounds 7 v7 = #[v0, v1, v2, v3, v4, v5, v6, v7] := by kernel_rfl
 rw [← e]
 exact (((((((h.set_ 0 v0).set_ 1 v1).set_ 2 v2).set_ 3 v3).set_ 4 v4).set_ 5 v5).set_ 6 v6).set_ 7 v7
theorem Blk.far8 {w : World} {g k : Nat} {t : TypeId} {cs : Array Value} {v0 v1 v2 v3 v4 v5 v6 v7 : Value} (h : Blk w k t cs) (hk : k ≠ g) : Blk ((((((((w.setCell ⟨g, 0, none⟩ v0).setCell ⟨g, 1, none⟩ v1).setCell ⟨g, 2, none⟩ v2).setCell ⟨g, 3, none⟩ v3).setCell ⟨g, 4, none⟩ v4).setCell ⟨g, 5, none⟩ v5).setCell ⟨g, 6, none⟩ v6).setCell ⟨g, 7, none⟩ v7) k t cs :=
 (((((((h.far (p := ⟨g, 0, none⟩) hk v0).far (p := ⟨g, 1, none⟩) hk v1).far (p := ⟨g, 2, none⟩) hk v2).far (p := ⟨g, 3, none⟩) hk v3).far (p := ⟨g, 4, none⟩) hk v4).far (p := ⟨g, 5, none⟩) hk v5).far (p := ⟨g, 6, none⟩) hk v6).far (p := ⟨g, 7, none⟩) hk v7
theorem below_set8 {w a : World} {B g : Nat} {v0 v1 v2 v3 v4 v5 v6 v7 : Value} (h : Below B a w) (hg : B ≤ g) : Below B a ((((((((w.setCell ⟨g, 0, none⟩ v0).setCell ⟨g, 1, none⟩ v1).setCell ⟨g, 2, none⟩ v2).setCell ⟨g, 3, none⟩ v3).setCell ⟨g, 4, none⟩ v4).setCell ⟨g, 5, none⟩ v5).setCell ⟨g, 6, none⟩ v6).setCell ⟨g, 7, none⟩ v7) :=
 (((((((h.setCell (p := ⟨g, 0, none⟩) hg v0).setCell (p := ⟨g, 1, none⟩) hg v1).setCell (p := ⟨g, 2, none⟩) hg v2).setCell (p := ⟨g, 3, none⟩) hg v3).setCell (p := ⟨g, 4, none⟩) hg v4).setCell (p := ⟨g, 5, none⟩) hg v5).setCell (p := ⟨g, 6, none⟩) hg v6).setCell (p := ⟨g, 7, none⟩) hg v7
def plusTo (s t : St) : Nat → List UInt32
 | 0 => s.words
 | k + 1 => (plusTo s t k).set k ((plusTo s t k).getD k 0 + t.words.getD k 0)
theorem plusTo_len (s t : St) (k : Nat) : (plusTo s t k).length = 8 := by
 induction k with
 | zero => rfl
 | succ k ih => simp only [plusTo, List.length_set, ih]
def zero64 : Array Value := Array.replicate 64 (Value.int .u32 0)
def zero8 : Array Value := #[.int .u32 0, .int .u32 0, .int .u32 0, .int .u32 0, .int .u32 0, .int .u32 0, .int .u32 0, .int .u32 0]
def mixFr (h : Array Value) (A : Option Addr) (c B : Nat) (v5 v6 v7 v10 v11 v12 v13 : Value) : Act :=
 ⟨#[.agg h, .slice A 64 c, .pointer (some ⟨B, 0, none⟩), undef, .pointer (some ⟨B + 1, 0, none⟩), v5, v6, v7, undef, undef, v10, v11, v12, v13,
  undef, undef, undef, undef, undef, undef, undef, undef, undef, undef, undef, undef, undef, undef, undef, undef, undef, undef, undef, undef, undef, undef, undef, undef, undef, undef], []⟩
def HasB (wx : World) (B : Nat) (v : Value) (t : TypeId) (C : Array Value) : Prop := ∃ g, v = .pointer (some ⟨g, 0, none⟩) ∧ B ≤ g ∧ Blk wx g t C
theorem HasB.mono {wx wy : World} {B : Nat} {v : Value} {t : TypeId} {C : Array Value} (h : HasB wx B v t C) (hk : ∀ k, k < wx.heap.size → wy.heap[k]? = wx.heap[k]?) : HasB wy B v t C := by
 obtain ⟨g, h1, h2, h3⟩ := h
 exact ⟨g, h1, h2, (hk g h3.lt).trans h3⟩
/-- What the region of mix that makes its three variables has brought about, whatever came first. -/
structure MixI (w0 : World) (B : Nat) (h : Array Value) (A : Option Addr) (c : Nat) (W : Array Value) (listed : Array Bool) (a : Act) (wx : World) : Prop where
 size : listed.size = 10
 all : ∃ v5 v6 v7 v10 v11 v12 v13, a = mixFr h A c B v5 v6 v7 v10 v11 v12 v13 ∧ Below (B + 2) w0 wx ∧
  (listed.getD 0 false = true → v10 = .slice A 64 c) ∧ (listed.getD 1 false = true → v11 = .agg W) ∧ (listed.getD 2 false = true → v12 = .agg kVals) ∧ (listed.getD 3 false = true → v13 = .agg h) ∧
  (listed.getD 4 false = true → HasB wx (B + 2) v5 181 (if listed.getD 7 false = true then W else zero64)) ∧
  (listed.getD 5 false = true → HasB wx (B + 2) v6 181 (if listed.getD 8 false = true then kVals else zero64)) ∧
  (listed.getD 6 false = true → HasB wx (B + 2) v7 154 (if listed.getD 9 false = true then h else zero8)) ∧
  (listed.getD 4 false = true → listed.getD 5 false = true → v5 ≠ v6) ∧ (listed.getD 7 false = true → listed.getD 4 false = true) ∧ (listed.getD 8 false = true → listed.getD 5 false = true) ∧ (listed.getD 9 false = true → listed.getD 6 false = true)
theorem unl {listed : Array Bool} {i : Nat} (h : listed.getD i true = false) : listed.getD i false = false := by
 obtain ⟨h1, h2⟩ := unlisted_lt h
 rw [Array.getD_eq_getD_getElem?, Array.getElem?_eq_getElem h1]
 exact h2
theorem HasB.far {wx : World} {B : Nat} {v : Value} {t : TypeId} {C : Array Value} (h : HasB wx B v t C) {g : Nat} (hne : v ≠ .pointer (some ⟨g, 0, none⟩)) (cs : Array Value) : HasB (wx.setRow g cs) B v t C := by
 obtain ⟨k, h1, h2, h3⟩ := h
 exact ⟨k, h1, h2, h3.setRow_far cs (fun e => hne (by rw [h1, e]))⟩
theorem vals_one (s : St) : s.vals.all (·.oneCell') = true := by
 refine Array.all_eq_true_iff_forall_mem.2 (fun v hv => ?_)
 simp only [St.vals, List.mem_toArray, List.mem_cons, List.not_mem_nil, or_false] at hv
 rcases hv with rfl | rfl | rfl | rfl | rfl | rfl | rfl | rfl <;> rfl
theorem all_done {ops : Array Oper} {listed : Array Bool} (hr : Region.ready .any ops listed = []) (i : Nat) (o : Oper) (ho : ops[i]? = some o) (hi : i < listed.size)
  (hall : ∀ e ∈ o.after, Region.binds .any e = true → listed.getD e.on false = true) : listed.getD i false = true := by
 by_cases h : listed.getD i true = false
 ·
  have := mem_ready.2 ⟨h, o, ho, hall⟩
  rw [hr] at this; cases this
 ·
  rw [Array.getD_eq_getD_getElem?, Array.getElem?_eq_getElem hi] at h ⊢
  simpa using h
theorem kVals_size : kVals.size = 64 := by kernel_rfl
theorem zero64_one : zero64.size = 64 := by kernel_rfl
theorem zero8_one : zero8.size = 8 := by kernel_rfl
theorem flag (listed : Array Bool) (hs : listed.size = 10) (i j : Nat) (hi : i < 10) : (listed.setIfInBounds i true).getD j false = if i = j then true else listed.getD j false := by
 rw [Array.getD_eq_getD_getElem?, Array.getElem?_setIfInBounds]
 by_cases h : i = j
 ·
  subst h
  rw [if_pos rfl, if_pos (by omega), if_pos rfl]; rfl
 ·
  rw [if_neg h, if_neg h, Array.getD_eq_getD_getElem?]
set_option maxRecDepth 100000 in
set_option maxHeartbeats 1000000 in
theorem mix_c (s : St) (A : Option Addr) (c : Nat) (l : List UInt8) (w : World) (hc : 64 ≤ c) (hcm : (c : Int) ≤ 9223372036854775807) (r : Reads w A 64 (l.map u8v)) :
  Calls Tryz.prog 100 #[.agg s.vals, .slice A 64 c] w fun e w' => e = .returned (.agg (mixS s l).vals) ∧ Below w.heap.size w w' := by
 have R := Lib.hid r
 clear r
 go_enter Tryz.func100, Tryz.ntmps100
 go_upto_region 1 with fail
 obtain ⟨W0, hW0⟩ : ∃ W0, ((w.alloc (.cells s.vals 154)).alloc (.cells #[.int .u32 0, .int .u32 0, .int .u32 0, .int .u32 0, .int .u32 0, .int .u32 0, .int .u32 0, .int .u32 0] 154)) = W0 := ⟨_, rfl⟩
 have hv : Blk W0 w.heap.size 154 s.vals := by rw [← hW0]; exact (Blk.new w _ _).alloc _
 have hrz : Blk W0 (w.heap.size + 1) 154 zero8 := by
  have h := Blk.new (w.alloc (.cells s.vals 154)) 154 zero8
  rw [show (w.alloc (.cells s.vals 154)).heap.size = w.heap.size + 1 from by simp] at h
  rw [← hW0]; exact h
 have hsz : W0.heap.size = w.heap.size + 2 := by rw [← hW0]; simp
 have hbw : Below w.heap.size w W0 := by rw [← hW0]; exact ((Below.refl _ _).alloc (Nat.le_refl _) _).alloc (by simp) _
 rw [hW0]
 clear hW0
 obtain ⟨WS, hWS⟩ : ∃ WS, ((spread l).map u32v).toArray = WS := ⟨_, rfl⟩
 have hWn : WS.size = 64 := by rw [← hWS, List.size_toArray, List.length_map]; exact sw_len l 64
 have hW1 : WS.all (·.oneCell') = true := by rw [← hWS]; exact Array.all_eq_true_iff_forall_mem.2 (fun v hv => u32v_one _ v (by simpa using hv))
 have hsp : ∀ wx, Reads wx A 64 (l.map u8v) → Calls Tryz.prog 139 #[.slice A 64 c] wx fun e w' => e = .returned (.agg WS) ∧ Below wx.heap.size wx w' := fun wx hr => by rw [← hWS]; exact spread_c A c l wx hc hcm hr
 have HSP := Lib.hid hsp
 have HWS := Lib.hid hWS
 clear hsp hWS
 refine wp_region_inv (by kernel_rfl) (MixI W0 w.heap.size s.vals A c WS) ?_ ?_ ?_
 ·
  refine ⟨by simp, undef, undef, undef, undef, undef, undef, undef, rfl, ⟨rfl, rfl, rfl, Nat.le_refl _, fun _ _ => rfl⟩, ?_⟩
  simp [Array.getD_eq_getD_getElem?]
 ·
  intro listed a wx i hI hi
  obtain ⟨hun, o, ho, hall⟩ := mem_ready.1 hi
  obtain ⟨hls, v5, v6, v7, v10, v11, v12, v13, rfl, hb, i0, i1, i2, i3, i4, i5, i6, ine, j7, j8, j9⟩ := hI
  have hun' := unl hun
  have hi10 : i < 10 := by
   obtain ⟨h, _⟩ := Array.getElem?_eq_some_iff.1 ho
   exact h
  have hcases : i = 0 ∨ i = 1 ∨ i = 2 ∨ i = 3 ∨ i = 4 ∨ i = 5 ∨ i = 6 ∨ i = 7 ∨ i = 8 ∨ i = 9 := by omega
  clear hi hi10
  rcases hcases with rfl | rfl | rfl | rfl | rfl | rfl | rfl | rfl | rfl | rfl
  ·
   refine wpOp_plain ho (by simp at ho; rw [← ho]) ?_
   simp only [List.getElem?_toArray, List.getElem?_cons_zero, List.getElem?_cons_succ, Option.some.injEq] at ho
   subst ho
   clear hall hun
   unfold mixFr
   go_simp
   refine ⟨by simp [hls], v5, v6, v7, (.slice A 64 c), v11, v12, v13, rfl, hb, ?_⟩
   exact ⟨(fun _ => rfl),
    (by rw [flag listed hls 0 1 (by omega), if_neg (show ¬ ((0 : Nat) = 1) by omega)]; exact i1),
    (by rw [flag listed hls 0 2 (by omega), if_neg (show ¬ ((0 : Nat) = 2) by omega)]; exact i2),
    (by rw [flag listed hls 0 3 (by omega), if_neg (show ¬ ((0 : Nat) = 3) by omega)]; exact i3),
    (by rw [flag listed hls 0 4 (by omega), if_neg (show ¬ ((0 : Nat) = 4) by omega), flag listed hls 0 7 (by omega), if_neg (show ¬ ((0 : Nat) = 7) by omega)]; exact i4),
    (by rw [flag listed hls 0 5 (by omega), if_neg (show ¬ ((0 : Nat) = 5) by omega), flag listed hls 0 8 (by omega), if_neg (show ¬ ((0 : Nat) = 8) by omega)]; exact i5),
    (by rw [flag listed hls 0 6 (by omega), if_neg (show ¬ ((0 : Nat) = 6) by omega), flag listed hls 0 9 (by omega), if_neg (show ¬ ((0 : Nat) = 9) by omega)]; exact i6),
    (by rw [flag listed hls 0 4 (by omega), if_neg (show ¬ ((0 : Nat) = 4) by omega), flag listed hls 0 5 (by omega), if_neg (show ¬ ((0 : Nat) = 5) by omega)]; exact ine),
    (by rw [flag listed hls 0 7 (by omega), if_neg (show ¬ ((0 : Nat) = 7) by omega), flag listed hls 0 4 (by omega), if_neg (show ¬ ((0 : Nat) = 4) by omega)]; exact j7),
    (by rw [flag listed hls 0 8 (by omega), if_neg (show ¬ ((0 : Nat) = 8) by omega), flag listed hls 0 5 (by omega), if_neg (show ¬ ((0 : Nat) = 5) by omega)]; exact j8),
    (by rw [flag listed hls 0 9 (by omega), if_neg (show ¬ ((0 : Nat) = 9) by omega), flag listed hls 0 6 (by omega), if_neg (show ¬ ((0 : Nat) = 6) by omega)]; exact j9)⟩
  ·
   refine wpOp_plain ho (by simp at ho; rw [← ho]) ?_
   simp only [List.getElem?_toArray, List.getElem?_cons_zero, List.getElem?_cons_succ, Option.some.injEq] at ho
   subst ho
   have p0 := hall ⟨0, Ground.data⟩ (by simp) (by decide)
   clear hall hun
   have q0 := i0 p0
   subst q0
   unfold mixFr
   go_simp
   refine (HSP.out wx (R.out.below (hbw.trans (hb.mono (by omega))))).mono ?_
   rintro e wy ⟨rfl, hby⟩
   show MixI _ _ _ _ _ _ _ _ wy
   refine ⟨by simp [hls], v5, v6, v7, (.slice A 64 c), (.agg WS), v12, v13, rfl, (hb.trans (hby.mono (by have := hb.size; omega))), ?_⟩
   exact ⟨(fun _ => rfl),
    (fun _ => rfl),
    (by rw [flag listed hls 1 2 (by omega), if_neg (show ¬ ((1 : Nat) = 2) by omega)]; exact i2),
    (by rw [flag listed hls 1 3 (by omega), if_neg (show ¬ ((1 : Nat) = 3) by omega)]; exact i3),
    (by rw [flag listed hls 1 4 (by omega), if_neg (show ¬ ((1 : Nat) = 4) by omega), flag listed hls 1 7 (by omega), if_neg (show ¬ ((1 : Nat) = 7) by omega)]; exact fun h => (i4 h).mono hby.block),
    (by rw [flag listed hls 1 5 (by omega), if_neg (show ¬ ((1 : Nat) = 5) by omega), flag listed hls 1 8 (by omega), if_neg (show ¬ ((1 : Nat) = 8) by omega)]; exact fun h => (i5 h).mono hby.block),
    (by rw [flag listed hls 1 6 (by omega), if_neg (show ¬ ((1 : Nat) = 6) by omega), flag listed hls 1 9 (by omega), if_neg (show ¬ ((1 : Nat) = 9) by omega)]; exact fun h => (i6 h).mono hby.block),
    (by rw [flag listed hls 1 4 (by omega), if_neg (show ¬ ((1 : Nat) = 4) by omega), flag listed hls 1 5 (by omega), if_neg (show ¬ ((1 : Nat) = 5) by omega)]; exact ine),
    (by rw [flag listed hls 1 7 (by omega), if_neg (show ¬ ((1 : Nat) = 7) by omega), flag listed hls 1 4 (by omega), if_neg (show ¬ ((1 : Nat) = 4) by omega)]; exact j7),
    (by rw [flag listed hls 1 8 (by omega), if_neg (show ¬ ((1 : Nat) = 8) by omega), flag listed hls 1 5 (by omega), if_neg (show ¬ ((1 : Nat) = 5) by omega)]; exact j8),
    (by rw [flag listed hls 1 9 (by omega), if_neg (show ¬ ((1 : Nat) = 9) by omega), flag listed hls 1 6 (by omega), if_neg (show ¬ ((1 : Nat) = 6) by omega)]; exact j9)⟩
  ·
   refine wpOp_plain ho (by simp at ho; rw [← ho]) ?_
   simp only [List.getElem?_toArray, List.getElem?_cons_zero, List.getElem?_cons_succ, Option.some.injEq] at ho
   subst ho
   have p1 := hall ⟨1, Ground.chain⟩ (by simp) (by decide)
   clear hall hun
   unfold mixFr
   go_simp
   refine (constants_c wx).mono ?_
   rintro e wy ⟨rfl, hby⟩
   show MixI _ _ _ _ _ _ _ _ wy
   refine ⟨by simp [hls], v5, v6, v7, v10, (.agg WS), (.agg kVals), v13, rfl, (hb.trans (hby.mono (by have := hb.size; omega))), ?_⟩
   exact ⟨(by rw [flag listed hls 2 0 (by omega), if_neg (show ¬ ((2 : Nat) = 0) by omega)]; exact i0),
    (fun _ => rfl),
    (fun _ => rfl),
    (by rw [flag listed hls 2 3 (by omega), if_neg (show ¬ ((2 : Nat) = 3) by omega)]; exact i3),
    (by rw [flag listed hls 2 4 (by omega), if_neg (show ¬ ((2 : Nat) = 4) by omega), flag listed hls 2 7 (by omega), if_neg (show ¬ ((2 : Nat) = 7) by omega)]; exact fun h => (i4 h).mono hby.block),
    (by rw [flag listed hls 2 5 (by omega), if_neg (show ¬ ((2 : Nat) = 5) by omega), flag listed hls 2 8 (by omega), if_neg (show ¬ ((2 : Nat) = 8) by omega)]; exact fun h => (i5 h).mono hby.block),
    (by rw [flag listed hls 2 6 (by omega), if_neg (show ¬ ((2 : Nat) = 6) by omega), flag listed hls 2 9 (by omega), if_neg (show ¬ ((2 : Nat) = 9) by omega)]; exact fun h => (i6 h).mono hby.block),
    (by rw [flag listed hls 2 4 (by omega), if_neg (show ¬ ((2 : Nat) = 4) by omega), flag listed hls 2 5 (by omega), if_neg (show ¬ ((2 : Nat) = 5) by omega)]; exact ine),
    (by rw [flag listed hls 2 7 (by omega), if_neg (show ¬ ((2 : Nat) = 7) by omega), flag listed hls 2 4 (by omega), if_neg (show ¬ ((2 : Nat) = 4) by omega)]; exact j7),
    (by rw [flag listed hls 2 8 (by omega), if_neg (show ¬ ((2 : Nat) = 8) by omega), flag listed hls 2 5 (by omega), if_neg (show ¬ ((2 : Nat) = 5) by omega)]; exact j8),
    (by rw [flag listed hls 2 9 (by omega), if_neg (show ¬ ((2 : Nat) = 9) by omega), flag listed hls 2 6 (by omega), if_neg (show ¬ ((2 : Nat) = 6) by omega)]; exact j9)⟩
  ·
   refine wpOp_plain ho (by simp at ho; rw [← ho]) ?_
   simp only [List.getElem?_toArray, List.getElem?_cons_zero, List.getElem?_cons_succ, Option.some.injEq] at ho
   subst ho
   clear hall hun
   have hvx : Blk wx w.heap.size 154 s.vals := hv.below hb (by omega)
   refine wp_load_row 154 (.tmp 2) rfl w.heap.size rfl 154 s.vals (0, 0) _ hvx Tryz.underlying154 rfl info_8 ?_
   refine ⟨by simp [hls], v5, v6, v7, v10, v11, v12, (.agg s.vals), rfl, hb, ?_⟩
   exact ⟨(by rw [flag listed hls 3 0 (by omega), if_neg (show ¬ ((3 : Nat) = 0) by omega)]; exact i0),
    (by rw [flag listed hls 3 1 (by omega), if_neg (show ¬ ((3 : Nat) = 1) by omega)]; exact i1),
    (by rw [flag listed hls 3 2 (by omega), if_neg (show ¬ ((3 : Nat) = 2) by omega)]; exact i2),
    (fun _ => rfl),
    (by rw [flag listed hls 3 4 (by omega), if_neg (show ¬ ((3 : Nat) = 4) by omega), flag listed hls 3 7 (by omega), if_neg (show ¬ ((3 : Nat) = 7) by omega)]; exact i4),
    (by rw [flag listed hls 3 5 (by omega), if_neg (show ¬ ((3 : Nat) = 5) by omega), flag listed hls 3 8 (by omega), if_neg (show ¬ ((3 : Nat) = 8) by omega)]; exact i5),
    (by rw [flag listed hls 3 6 (by omega), if_neg (show ¬ ((3 : Nat) = 6) by omega), flag listed hls 3 9 (by omega), if_neg (show ¬ ((3 : Nat) = 9) by omega)]; exact i6),
    (by rw [flag listed hls 3 4 (by omega), if_neg (show ¬ ((3 : Nat) = 4) by omega), flag listed hls 3 5 (by omega), if_neg (show ¬ ((3 : Nat) = 5) by omega)]; exact ine),
    (by rw [flag listed hls 3 7 (by omega), if_neg (show ¬ ((3 : Nat) = 7) by omega), flag listed hls 3 4 (by omega), if_neg (show ¬ ((3 : Nat) = 4) by omega)]; exact j7),
    (by rw [flag listed hls 3 8 (by omega), if_neg (show ¬ ((3 : Nat) = 8) by omega), flag listed hls 3 5 (by omega), if_neg (show ¬ ((3 : Nat) = 5) by omega)]; exact j8),
    (by rw [flag listed hls 3 9 (by omega), if_neg (show ¬ ((3 : Nat) = 9) by omega), flag listed hls 3 6 (by omega), if_neg (show ¬ ((3 : Nat) = 6) by omega)]; exact j9)⟩
  ·
   refine wpOp_plain ho (by simp at ho; rw [← ho]) ?_
   simp only [List.getElem?_toArray, List.getElem?_cons_zero, List.getElem?_cons_succ, Option.some.injEq] at ho
   subst ho
   clear hall hun
   unfold mixFr
   go_simp
   generalize hwy : wx.alloc _ = wy
   have hnew : Blk wy wx.heap.size 181 zero64 := by rw [← hwy]; exact Blk.new wx _ _
   have hby : Below wx.heap.size wx wy := by rw [← hwy]; exact (Below.refl _ _).alloc (Nat.le_refl _) _
   clear hwy
   refine ⟨by simp [hls], (.pointer (some ⟨wx.heap.size, 0, none⟩)), v6, v7, v10, v11, v12, v13, rfl, (hb.trans (hby.mono (by have := hb.size; omega))), ?_⟩
   exact ⟨(by rw [flag listed hls 4 0 (by omega), if_neg (show ¬ ((4 : Nat) = 0) by omega)]; exact i0),
    (by rw [flag listed hls 4 1 (by omega), if_neg (show ¬ ((4 : Nat) = 1) by omega)]; exact i1),
    (by rw [flag listed hls 4 2 (by omega), if_neg (show ¬ ((4 : Nat) = 2) by omega)]; exact i2),
    (by rw [flag listed hls 4 3 (by omega), if_neg (show ¬ ((4 : Nat) = 3) by omega)]; exact i3),
    (by
     intro _
     rw [flag listed hls 4 7 (by omega), if_neg (show ¬ ((4 : Nat) = 7) by omega), if_neg (fun h => by rw [j7 h] at hun'; cases hun')]
     exact ⟨wx.heap.size, rfl, by have := hb.size; omega, hnew⟩),
    (by rw [flag listed hls 4 5 (by omega), if_neg (show ¬ ((4 : Nat) = 5) by omega), flag listed hls 4 8 (by omega), if_neg (show ¬ ((4 : Nat) = 8) by omega)]; exact fun h => (i5 h).mono hby.block),
    (by rw [flag listed hls 4 6 (by omega), if_neg (show ¬ ((4 : Nat) = 6) by omega), flag listed hls 4 9 (by omega), if_neg (show ¬ ((4 : Nat) = 9) by omega)]; exact fun h => (i6 h).mono hby.block),
    (by
     intro _ h
     rw [flag listed hls 4 5 (by omega), if_neg (show ¬ ((4 : Nat) = 5) by omega)] at h
     obtain ⟨k', hk', _, hb'⟩ := i5 h
     rw [hk']
     intro e
     have hlt := hb'.lt
     injection e with e; injection e with e; injection e with e
     omega),
    (fun _ => by rw [flag listed hls 4 4 (by omega), if_pos rfl]),
    (by rw [flag listed hls 4 8 (by omega), if_neg (show ¬ ((4 : Nat) = 8) by omega), flag listed hls 4 5 (by omega), if_neg (show ¬ ((4 : Nat) = 5) by omega)]; exact j8),
    (by rw [flag listed hls 4 9 (by omega), if_neg (show ¬ ((4 : Nat) = 9) by omega), flag listed hls 4 6 (by omega), if_neg (show ¬ ((4 : Nat) = 6) by omega)]; exact j9)⟩
  ·
   refine wpOp_plain ho (by simp at ho; rw [← ho]) ?_
   simp only [List.getElem?_toArray, List.getElem?_cons_zero, List.getElem?_cons_succ, Option.some.injEq] at ho
   subst ho
   clear hall hun
   unfold mixFr
   go_simp
   generalize hwy : wx.alloc _ = wy
   have hnew : Blk wy wx.heap.size 181 zero64 := by rw [← hwy]; exact Blk.new wx _ _
   have hby : Below wx.heap.size wx wy := by rw [← hwy]; exact (Below.refl _ _).alloc (Nat.le_refl _) _
   clear hwy
   refine ⟨by simp [hls], v5, (.pointer (some ⟨wx.heap.size, 0, none⟩)), v7, v10, v11, v12, v13, rfl, (hb.trans (hby.mono (by have := hb.size; omega))), ?_⟩
   exact ⟨(by rw [flag listed hls 5 0 (by omega), if_neg (show ¬ ((5 : Nat) = 0) by omega)]; exact i0),
    (by rw [flag listed hls 5 1 (by omega), if_neg (show ¬ ((5 : Nat) = 1) by omega)]; exact i1),
    (by rw [flag listed hls 5 2 (by omega), if_neg (show ¬ ((5 : Nat) = 2) by omega)]; exact i2),
    (by rw [flag listed hls 5 3 (by omega), if_neg (show ¬ ((5 : Nat) = 3) by omega)]; exact i3),
    (by rw [flag listed hls 5 4 (by omega), if_neg (show ¬ ((5 : Nat) = 4) by omega), flag listed hls 5 7 (by omega), if_neg (show ¬ ((5 : Nat) = 7) by omega)]; exact fun h => (i4 h).mono hby.block),
    (by
     intro _
     rw [flag listed hls 5 8 (by omega), if_neg (show ¬ ((5 : Nat) = 8) by omega), if_neg (fun h => by rw [j8 h] at hun'; cases hun')]
     exact ⟨wx.heap.size, rfl, by have := hb.size; omega, hnew⟩),
    (by rw [flag listed hls 5 6 (by omega), if_neg (show ¬ ((5 : Nat) = 6) by omega), flag listed hls 5 9 (by omega), if_neg (show ¬ ((5 : Nat) = 9) by omega)]; exact fun h => (i6 h).mono hby.block),
    (by
     intro h _
     rw [flag listed hls 5 4 (by omega), if_neg (show ¬ ((5 : Nat) = 4) by omega)] at h
     obtain ⟨k', hk', _, hb'⟩ := i4 h
     rw [hk']
     intro e
     have hlt := hb'.lt
     injection e with e; injection e with e; injection e with e
     omega),
    (by rw [flag listed hls 5 7 (by omega), if_neg (show ¬ ((5 : Nat) = 7) by omega), flag listed hls 5 4 (by omega), if_neg (show ¬ ((5 : Nat) = 4) by omega)]; exact j7),
    (fun _ => by rw [flag listed hls 5 5 (by omega), if_pos rfl]),
    (by rw [flag listed hls 5 9 (by omega), if_neg (show ¬ ((5 : Nat) = 9) by omega), flag listed hls 5 6 (by omega), if_neg (show ¬ ((5 : Nat) = 6) by omega)]; exact j9)⟩
  ·
   refine wpOp_plain ho (by simp at ho; rw [← ho]) ?_
   simp only [List.getElem?_toArray, List.getElem?_cons_zero, List.getElem?_cons_succ, Option.some.injEq] at ho
   subst ho
   clear hall hun
   unfold mixFr
   go_simp
   generalize hwy : wx.alloc _ = wy
   have hnew : Blk wy wx.heap.size 154 zero8 := by rw [← hwy]; exact Blk.new wx _ _
   have hby : Below wx.heap.size wx wy := by rw [← hwy]; exact (Below.refl _ _).alloc (Nat.le_refl _) _
   clear hwy
   refine ⟨by simp [hls], v5, v6, (.pointer (some ⟨wx.heap.size, 0, none⟩)), v10, v11, v12, v13, rfl, (hb.trans (hby.mono (by have := hb.size; omega))), ?_⟩
   exact ⟨(by rw [flag listed hls 6 0 (by omega), if_neg (show ¬ ((6 : Nat) = 0) by omega)]; exact i0),
    (by rw [flag listed hls 6 1 (by omega), if_neg (show ¬ ((6 : Nat) = 1) by omega)]; exact i1),
    (by rw [flag listed hls 6 2 (by omega), if_neg (show ¬ ((6 : Nat) = 2) by omega)]; exact i2),
    (by rw [flag listed hls 6 3 (by omega), if_neg (show ¬ ((6 : Nat) = 3) by omega)]; exact i3),
    (by rw [flag listed hls 6 4 (by omega), if_neg (show ¬ ((6 : Nat) = 4) by omega), flag listed hls 6 7 (by omega), if_neg (show ¬ ((6 : Nat) = 7) by omega)]; exact fun h => (i4 h).mono hby.block),
    (by rw [flag listed hls 6 5 (by omega), if_neg (show ¬ ((6 : Nat) = 5) by omega), flag listed hls 6 8 (by omega), if_neg (show ¬ ((6 : Nat) = 8) by omega)]; exact fun h => (i5 h).mono hby.block),
    (by
     intro _
     rw [flag listed hls 6 9 (by omega), if_neg (show ¬ ((6 : Nat) = 9) by omega), if_neg (fun h => by rw [j9 h] at hun'; cases hun')]
     exact ⟨wx.heap.size, rfl, by have := hb.size; omega, hnew⟩),
    (by rw [flag listed hls 6 4 (by omega), if_neg (show ¬ ((6 : Nat) = 4) by omega), flag listed hls 6 5 (by omega), if_neg (show ¬ ((6 : Nat) = 5) by omega)]; exact ine),
    (by rw [flag listed hls 6 7 (by omega), if_neg (show ¬ ((6 : Nat) = 7) by omega), flag listed hls 6 4 (by omega), if_neg (show ¬ ((6 : Nat) = 4) by omega)]; exact j7),
    (by rw [flag listed hls 6 8 (by omega), if_neg (show ¬ ((6 : Nat) = 8) by omega), flag listed hls 6 5 (by omega), if_neg (show ¬ ((6 : Nat) = 5) by omega)]; exact j8),
    (fun _ => by rw [flag listed hls 6 6 (by omega), if_pos rfl])⟩
  ·
   refine wpOp_plain ho (by simp at ho; rw [← ho]) ?_
   simp only [List.getElem?_toArray, List.getElem?_cons_zero, List.getElem?_cons_succ, Option.some.injEq] at ho
   subst ho
   have p4 := hall ⟨4, Ground.data⟩ (by simp) (by decide)
   have p1 := hall ⟨1, Ground.data⟩ (by simp) (by decide)
   have p2 := hall ⟨2, Ground.chain⟩ (by simp) (by decide)
   clear hall hun
   have qv := i1 p1
   subst qv
   have qb := i4 p4
   rw [hun', if_neg (by simp)] at qb
   obtain ⟨g, qg, hgB, hgk⟩ := qb
   subst qg
   refine wp_store_row 181 (.tmp 5) (.tmp 11) rfl g WS rfl rfl 181 _ hgk (by rw [hWn]; exact info_64) (by rw [zero64_one, hWn]) hW1 ?_
   refine ⟨by simp [hls], (.pointer (some ⟨g, 0, none⟩)), v6, v7, v10, (.agg WS), v12, v13, rfl, (below_setRow hb hgB _), ?_⟩
   exact ⟨(by rw [flag listed hls 7 0 (by omega), if_neg (show ¬ ((7 : Nat) = 0) by omega)]; exact i0),
    (fun _ => rfl),
    (by rw [flag listed hls 7 2 (by omega), if_neg (show ¬ ((7 : Nat) = 2) by omega)]; exact i2),
    (by rw [flag listed hls 7 3 (by omega), if_neg (show ¬ ((7 : Nat) = 3) by omega)]; exact i3),
    (by
     intro _
     rw [flag listed hls 7 7 (by omega), if_pos rfl, if_pos rfl]
     exact ⟨g, rfl, hgB, hgk.setRow _⟩),
    (by rw [flag listed hls 7 5 (by omega), if_neg (show ¬ ((7 : Nat) = 5) by omega), flag listed hls 7 8 (by omega), if_neg (show ¬ ((7 : Nat) = 8) by omega)]; exact fun h => (i5 h).far (fun e => ine p4 h e.symm) _),
    (by rw [flag listed hls 7 6 (by omega), if_neg (show ¬ ((7 : Nat) = 6) by omega), flag listed hls 7 9 (by omega), if_neg (show ¬ ((7 : Nat) = 9) by omega)]; exact fun h => (i6 h).far (fun e => by obtain ⟨k', hk', _, hb'⟩ := i6 h; rw [hk'] at e; cases e; exact Blk.ne_ hb' hgk (by decide) rfl) _),
    (by rw [flag listed hls 7 4 (by omega), if_neg (show ¬ ((7 : Nat) = 4) by omega), flag listed hls 7 5 (by omega), if_neg (show ¬ ((7 : Nat) = 5) by omega)]; exact ine),
    (fun _ => by rw [flag listed hls 7 4 (by omega), if_neg (show ¬ ((7 : Nat) = 4) by omega)]; exact p4),
    (by rw [flag listed hls 7 8 (by omega), if_neg (show ¬ ((7 : Nat) = 8) by omega), flag listed hls 7 5 (by omega), if_neg (show ¬ ((7 : Nat) = 5) by omega)]; exact j8),
    (by rw [flag listed hls 7 9 (by omega), if_neg (show ¬ ((7 : Nat) = 9) by omega), flag listed hls 7 6 (by omega), if_neg (show ¬ ((7 : Nat) = 6) by omega)]; exact j9)⟩
  ·
   refine wpOp_plain ho (by simp at ho; rw [← ho]) ?_
   simp only [List.getElem?_toArray, List.getElem?_cons_zero, List.getElem?_cons_succ, Option.some.injEq] at ho
   subst ho
   have p5 := hall ⟨5, Ground.data⟩ (by simp) (by decide)
   have p2 := hall ⟨2, Ground.data⟩ (by simp) (by decide)
   have p7 := hall ⟨7, Ground.chain⟩ (by simp) (by decide)
   clear hall hun
   have qv := i2 p2
   subst qv
   have qb := i5 p5
   rw [hun', if_neg (by simp)] at qb
   obtain ⟨g, qg, hgB, hgk⟩ := qb
   subst qg
   refine wp_store_row 181 (.tmp 6) (.tmp 12) rfl g kVals rfl rfl 181 _ hgk (by rw [kVals_size]; exact info_64) (by rw [zero64_one, kVals_size]) kVals_one ?_
   refine ⟨by simp [hls], v5, (.pointer (some ⟨g, 0, none⟩)), v7, v10, v11, (.agg kVals), v13, rfl, (below_setRow hb hgB _), ?_⟩
   exact ⟨(by rw [flag listed hls 8 0 (by omega), if_neg (show ¬ ((8 : Nat) = 0) by omega)]; exact i0),
    (by rw [flag listed hls 8 1 (by omega), if_neg (show ¬ ((8 : Nat) = 1) by omega)]; exact i1),
    (fun _ => rfl),
    (by rw [flag listed hls 8 3 (by omega), if_neg (show ¬ ((8 : Nat) = 3) by omega)]; exact i3),
    (by rw [flag listed hls 8 4 (by omega), if_neg (show ¬ ((8 : Nat) = 4) by omega), flag listed hls 8 7 (by omega), if_neg (show ¬ ((8 : Nat) = 7) by omega)]; exact fun h => (i4 h).far (fun e => ine h p5 e) _),
    (by
     intro _
     rw [flag listed hls 8 8 (by omega), if_pos rfl, if_pos rfl]
     exact ⟨g, rfl, hgB, hgk.setRow _⟩),
    (by rw [flag listed hls 8 6 (by omega), if_neg (show ¬ ((8 : Nat) = 6) by omega), flag listed hls 8 9 (by omega), if_neg (show ¬ ((8 : Nat) = 9) by omega)]; exact fun h => (i6 h).far (fun e => by obtain ⟨k', hk', _, hb'⟩ := i6 h; rw [hk'] at e; cases e; exact Blk.ne_ hb' hgk (by decide) rfl) _),
    (by rw [flag listed hls 8 4 (by omega), if_neg (show ¬ ((8 : Nat) = 4) by omega), flag listed hls 8 5 (by omega), if_neg (show ¬ ((8 : Nat) = 5) by omega)]; exact ine),
    (by rw [flag listed hls 8 7 (by omega), if_neg (show ¬ ((8 : Nat) = 7) by omega), flag listed hls 8 4 (by omega), if_neg (show ¬ ((8 : Nat) = 4) by omega)]; exact j7),
    (fun _ => by rw [flag listed hls 8 5 (by omega), if_neg (show ¬ ((8 : Nat) = 5) by omega)]; exact p5),
    (by rw [flag listed hls 8 9 (by omega), if_neg (show ¬ ((8 : Nat) = 9) by omega), flag listed hls 8 6 (by omega), if_neg (show ¬ ((8 : Nat) = 6) by omega)]; exact j9)⟩
  ·
   refine wpOp_plain ho (by simp at ho; rw [← ho]) ?_
   simp only [List.getElem?_toArray, List.getElem?_cons_zero, List.getElem?_cons_succ, Option.some.injEq] at ho
   subst ho
   have p6 := hall ⟨6, Ground.data⟩ (by simp) (by decide)
   have p3 := hall ⟨3, Ground.data⟩ (by simp) (by decide)
   have p8 := hall ⟨8, Ground.chain⟩ (by simp) (by decide)
   clear hall hun
   have qv := i3 p3
   subst qv
   have qb := i6 p6
   rw [hun', if_neg (by simp)] at qb
   obtain ⟨g, qg, hgB, hgk⟩ := qb
   subst qg
   refine wp_store_row 154 (.tmp 7) (.tmp 13) rfl g s.vals rfl rfl 154 _ hgk info_8 (by rw [zero8_one]; rfl) (vals_one s) ?_
   refine ⟨by simp [hls], v5, v6, (.pointer (some ⟨g, 0, none⟩)), v10, v11, v12, (.agg s.vals), rfl, (below_setRow hb hgB _), ?_⟩
   exact ⟨(by rw [flag listed hls 9 0 (by omega), if_neg (show ¬ ((9 : Nat) = 0) by omega)]; exact i0),
    (by rw [flag listed hls 9 1 (by omega), if_neg (show ¬ ((9 : Nat) = 1) by omega)]; exact i1),
    (by rw [flag listed hls 9 2 (by omega), if_neg (show ¬ ((9 : Nat) = 2) by omega)]; exact i2),
    (fun _ => rfl),
    (by rw [flag listed hls 9 4 (by omega), if_neg (show ¬ ((9 : Nat) = 4) by omega), flag listed hls 9 7 (by omega), if_neg (show ¬ ((9 : Nat) = 7) by omega)]; exact fun h => (i4 h).far (fun e => by obtain ⟨k', hk', _, hb'⟩ := i4 h; rw [hk'] at e; cases e; exact Blk.ne_ hb' hgk (by decide) rfl) _),
    (by rw [flag listed hls 9 5 (by omega), if_neg (show ¬ ((9 : Nat) = 5) by omega), flag listed hls 9 8 (by omega), if_neg (show ¬ ((9 : Nat) = 8) by omega)]; exact fun h => (i5 h).far (fun e => by obtain ⟨k', hk', _, hb'⟩ := i5 h; rw [hk'] at e; cases e; exact Blk.ne_ hb' hgk (by decide) rfl) _),
    (by
     intro _
     rw [flag listed hls 9 9 (by omega), if_pos rfl, if_pos rfl]
     exact ⟨g, rfl, hgB, hgk.setRow _⟩),
    (by rw [flag listed hls 9 4 (by omega), if_neg (show ¬ ((9 : Nat) = 4) by omega), flag listed hls 9 5 (by omega), if_neg (show ¬ ((9 : Nat) = 5) by omega)]; exact ine),
    (by rw [flag listed hls 9 7 (by omega), if_neg (show ¬ ((9 : Nat) = 7) by omega), flag listed hls 9 4 (by omega), if_neg (show ¬ ((9 : Nat) = 4) by omega)]; exact j7),
    (by rw [flag listed hls 9 8 (by omega), if_neg (show ¬ ((9 : Nat) = 8) by omega), flag listed hls 9 5 (by omega), if_neg (show ¬ ((9 : Nat) = 5) by omega)]; exact j8),
    (fun _ => by rw [flag listed hls 9 6 (by omega), if_neg (show ¬ ((9 : Nat) = 6) by omega)]; exact p6)⟩
 ·
  intro listed a wx hI hr
  obtain ⟨hls, v5, v6, v7, v10, v11, v12, v13, rfl, hb, i0, i1, i2, i3, i4, i5, i6, ine, j7, j8, j9⟩ := hI
  have f0 := all_done hr 0 _ rfl (by omega) (by intro e he hb; simp at he)
  have f1 := all_done hr 1 _ rfl (by omega) (by intro e he hb; simp at he; rcases he with rfl <;> first | (exact absurd hb (by decide)) | (dsimp only; assumption))
  have f2 := all_done hr 2 _ rfl (by omega) (by intro e he hb; simp at he; rcases he with rfl <;> first | (exact absurd hb (by decide)) | (dsimp only; assumption))
  have f4 := all_done hr 4 _ rfl (by omega) (by intro e he hb; simp at he)
  have f5 := all_done hr 5 _ rfl (by omega) (by intro e he hb; simp at he)
  have f6 := all_done hr 6 _ rfl (by omega) (by intro e he hb; simp at he)
  have f7 := all_done hr 7 _ rfl (by omega) (by intro e he hb; simp at he; rcases he with rfl | rfl | rfl | rfl | rfl | rfl | rfl | rfl | rfl | rfl <;> first | (exact absurd hb (by decide)) | (dsimp only; assumption))
  have f8 := all_done hr 8 _ rfl (by omega) (by intro e he hb; simp at he; rcases he with rfl | rfl | rfl | rfl | rfl | rfl | rfl | rfl | rfl | rfl | rfl <;> first | (exact absurd hb (by decide)) | (dsimp only; assumption))
  have f3 := all_done hr 3 _ rfl (by omega) (by intro e he hb; simp at he; rcases he with rfl <;> first | (exact absurd hb (by decide)) | (dsimp only; assumption))
  have f9 := all_done hr 9 _ rfl (by omega) (by intro e he hb; simp at he; rcases he with rfl | rfl | rfl | rfl | rfl | rfl | rfl | rfl | rfl | rfl | rfl | rfl <;> first | (exact absurd hb (by decide)) | (dsimp only; assumption))
  have q4 := i4 f4
  have q5 := i5 f5
  have q6 := i6 f6
  have qn := ine f4 f5
  rw [if_pos f7] at q4
  rw [if_pos f8] at q5
  rw [if_pos f9] at q6
  obtain ⟨g5, rfl, k5, b5⟩ := q4
  obtain ⟨g6, rfl, k6, b6⟩ := q5
  obtain ⟨g7, rfl, k7, b7⟩ := q6
  have n56 : g5 ≠ g6 := fun e => qn (by rw [e])
  have n57 : g7 ≠ g5 := Blk.ne_ b7 b5 (by decide)
  have n67 : g7 ≠ g6 := Blk.ne_ b7 b6 (by decide)
  clear i0 i1 i2 i3 i4 i5 i6 ine j7 j8 j9 f0 f1 f2 f3 f4 f5 f6 f7 f8 f9 hr hls qn
  have B5 := Lib.hid b5
  have B6 := Lib.hid b6
  have B7 := Lib.hid b7
  have HB := Lib.hid hb
  clear b5 b6 b7 hb
  unfold mixFr
  rename_i K hK
  show K _ _
  refine hK _ _ ?_
  go_wp2_with fail
  go_loopw [14] (fun i wr => ∃ k : Nat, k ≤ 64 ∧ i = .int .i64 k ∧ Below (w.heap.size + 2) W0 wr ∧ Blk wr g5 181 WS ∧ Blk wr g6 181 kVals ∧ Blk wr g7 154 (roundsTo s l k).vals) (fun i _ => 64 - (intOf i).toNat)
  case atStart => exact ⟨0, by omega, rfl, HB.out, B5.out, B6.out, B7.out⟩
  case round =>
   obtain ⟨k, hk, rfl, hbel, c5, c6, c7⟩ := hrel
   have HL := Lib.hid hbel
   have C5 := Lib.hid c5
   have C6 := Lib.hid c6
   have C7 := Lib.hid c7
   clear hbel c5 c6 c7
   by_cases hlt : k < 64
   ·
    have hn : roundsTo s l (k + 1) = (roundsTo s l k).round (kList.getD k 0 + (spread l).getD k 0) := rfl
    have HN := Lib.hid hn
    clear hn
    have d6 : wr.cell? ⟨g6, k, none⟩ = some (u32v (kList.getD k 0)) := cell32 C6.out k (by rw [kList_len]; exact hlt)
    have d5 : wr.cell? ⟨g5, k, none⟩ = some (u32v ((spread l).getD k 0)) := cell32 (by rw [HWS.out]; exact C5.out) k (by rw [show (spread l).length = 64 from sw_len l 64]; exact hlt)
    generalize kList.getD k 0 = x at *
    generalize (spread l).getD k 0 = y at *
    generalize hst : roundsTo s l k = st at *
    have HST := Lib.hid hst
    clear hst
    obtain ⟨sa, sb, sc, sd, se, sf, sg, sh⟩ := st
    have z0 : wr.cell? ⟨g7, 0, none⟩ = some (u32v sa) := by rw [C7.out.cell]; rfl
    have z1 : wr.cell? ⟨g7, 1, none⟩ = some (u32v sb) := by rw [C7.out.cell]; rfl
    have z2 : wr.cell? ⟨g7, 2, none⟩ = some (u32v sc) := by rw [C7.out.cell]; rfl
    have z3 : wr.cell? ⟨g7, 3, none⟩ = some (u32v sd) := by rw [C7.out.cell]; rfl
    have z4 : wr.cell? ⟨g7, 4, none⟩ = some (u32v se) := by rw [C7.out.cell]; rfl
    have z5 : wr.cell? ⟨g7, 5, none⟩ = some (u32v sf) := by rw [C7.out.cell]; rfl
    have z6 : wr.cell? ⟨g7, 6, none⟩ = some (u32v sg) := by rw [C7.out.cell]; rfl
    have z7 : wr.cell? ⟨g7, 7, none⟩ = some (u32v sh) := by rw [C7.out.cell]; rfl
    go_upto_region 5 with fail
    refine wp_region_quiet_tail 8 (by kernel_rfl) (by kernel_rfl) ?_
    simp only [List.take_succ_cons, List.take_zero, List.drop_succ_cons, List.drop_zero]
    repeat (go_big_quiet_step (fail))
    refine wpQuiet_nil ?_
    intro nq
    rw [w32_addm]
    have hc1 := round_c ⟨sa, sb, sc, sd, se, sf, sg, sh⟩ (x + y) (wr.drewN nq)
    rw [← HN.out] at hc1
    generalize hnx : roundsTo s l (k + 1) = st2 at hc1
    have HNX := Lib.hid hnx
    clear hnx
    obtain ⟨ra, rb, rc, rd, re, rf, rg, rh⟩ := st2
    have hc2 : Calls Tryz.prog 141 #[.agg #[u32v sa, u32v sb, u32v sc, u32v sd, u32v se, u32v sf, u32v sg, u32v sh], u32v (x + y)] (wr.drewN nq) fun e w' => e = .returned (.agg #[u32v ra, u32v rb, u32v rc, u32v rd, u32v re, u32v rf, u32v rg, u32v rh]) ∧ Below (wr.drewN nq).heap.size (wr.drewN nq) w' := hc1
    clear hc1 z0 z1 z2 z3 z4 z5 z6 z7 d5 d6
    go_wp2_with fail
    refine hc2.mono ?_
    rintro e wy ⟨rfl, hby⟩
    have hY7 := (C7.out.drewN nq).below hby C7.out.lt
    have y0 : wy.cell? ⟨g7, 0, none⟩ = some (u32v sa) := by rw [hY7.cell]; rfl
    have y1 : wy.cell? ⟨g7, 1, none⟩ = some (u32v sb) := by rw [hY7.cell]; rfl
    have y2 : wy.cell? ⟨g7, 2, none⟩ = some (u32v sc) := by rw [hY7.cell]; rfl
    have y3 : wy.cell? ⟨g7, 3, none⟩ = some (u32v sd) := by rw [hY7.cell]; rfl
    have y4 : wy.cell? ⟨g7, 4, none⟩ = some (u32v se) := by rw [hY7.cell]; rfl
    have y5 : wy.cell? ⟨g7, 5, none⟩ = some (u32v sf) := by rw [hY7.cell]; rfl
    have y6 : wy.cell? ⟨g7, 6, none⟩ = some (u32v sg) := by rw [hY7.cell]; rfl
    have y7 : wy.cell? ⟨g7, 7, none⟩ = some (u32v sh) := by rw [hY7.cell]; rfl
    have x0 := hY7.frozen 0
    have x1 := hY7.frozen 1
    have x2 := hY7.frozen 2
    have x3 := hY7.frozen 3
    have x4 := hY7.frozen 4
    have x5 := hY7.frozen 5
    have x6 := hY7.frozen 6
    have x7 := hY7.frozen 7
    have Y7 := Lib.hid hY7
    have HBY := Lib.hid hby
    clear hY7 hby hc2
    go_wp2_with fail
    go_roundw
    case rel =>
     refine ⟨k + 1, by omega, by go_num, ?_, ?_, ?_, ?_⟩
     ·
      exact below_set8 ((below_drewN HL.out nq).trans (HBY.out.mono (by have := HL.out.size; simp; omega))) k7
     ·
      exact ((C5.out.drewN nq).below HBY.out C5.out.lt).far8 (Ne.symm n57)
     ·
      exact ((C6.out.drewN nq).below HBY.out C6.out.lt).far8 (Ne.symm n67)
     ·
      rw [HNX.out]; exact Blk.set8 (show Blk wy g7 154 #[u32v sa, u32v sb, u32v sc, u32v sd, u32v se, u32v sf, u32v sg, u32v sh] from Y7.out)
    case measure => simp [intOf]; omega
   ·
    obtain rfl : k = 64 := by omega
    have hV : Blk wr w.heap.size 154 ((plusTo s (roundsTo s l 64) 0).map u32v).toArray := hv.below HL.out (by omega)
    have hZ : Blk wr (w.heap.size + 1) 154 zero8 := hrz.below HL.out (by omega)
    have hT : Blk wr g7 154 ((roundsTo s l 64).words.map u32v).toArray := C7.out
    have hfin : s.plus (roundsTo s l 64) = mixS s l := rfl
    generalize roundsTo s l 64 = t at hV hT hfin
    have HV := Lib.hid hV
    have HZ := Lib.hid hZ
    have HT := Lib.hid hT
    have HFN := Lib.hid hfin
    have hbw2 := hbw.trans (HL.out.mono (by omega))
    have HW2 := Lib.hid hbw2
    clear hV hZ hT hfin C5 C6 C7 B5 B6 B7 HB hbw2
    go_wp2_with fail
    go_loopw [27] (fun i wx => ∃ k : Nat, k ≤ 8 ∧ i = .int .i64 k ∧ Below w.heap.size w wx ∧ Blk wx w.heap.size 154 ((plusTo s t k).map u32v).toArray ∧ Blk wx (w.heap.size + 1) 154 zero8 ∧ Blk wx g7 154 (t.words.map u32v).toArray) (fun i _ => 8 - (intOf i).toNat)
    case atStart => exact ⟨0, by omega, rfl, HW2.out, HV.out, HZ.out, HT.out⟩
    case round =>
     obtain ⟨k, hk, rfl, hbel, c0, c1, c2⟩ := hrel
     have HL2 := Lib.hid hbel
     have C0 := Lib.hid c0
     have C1 := Lib.hid c1
     have C2 := Lib.hid c2
     clear hbel c0 c1 c2
     by_cases hlt2 : k < 8
     ·
      have e0 := cell32 C0.out k (by rw [plusTo_len]; exact hlt2)
      have f0 := C0.out.frozen k
      have e2 := cell32 C2.out k (by exact hlt2)
      have hn : plusTo s t (k + 1) = (plusTo s t k).set k ((plusTo s t k).getD k 0 + t.words.getD k 0) := rfl
      have HN := Lib.hid hn
      clear hn
      generalize (plusTo s t k).getD k 0 = x at *
      generalize t.words.getD k 0 = y at *
      go_upto_region 10 with fail
      refine wp_region_quiet_tail 8 (by kernel_rfl) (by kernel_rfl) ?_
      simp only [List.take_succ_cons, List.take_zero, List.drop_succ_cons, List.drop_zero]
      repeat (go_big_quiet_step (fail))
      refine wpQuiet_nil ?_
      intro nq
      rw [w32_addm]
      go_wp2_with fail
      go_roundw
      case rel =>
       refine ⟨k + 1, by omega, by go_num, (below_drewN HL2.out nq).setCell (Nat.le_refl _) _, ?_, (C1.out.drewN nq).far (by simp) _, (C2.out.drewN nq).far (by simp; omega) _⟩
       have h := (C0.out.drewN nq).set_ k (u32v (x + y))
       rw [set_map, ← HN.out] at h
       exact h
      case measure => simp [intOf]; omega
     ·
      obtain rfl : k = 8 := by omega
      have hfv : Blk wr w.heap.size 154 (mixS s l).vals := by rw [← HFN.out]; exact C0.out
      obtain ⟨m, hmm⟩ : ∃ m, mixS s l = m := ⟨_, rfl⟩
      rw [hmm] at hfv
      have HMM := Lib.hid hmm
      clear hmm
      have HM := Lib.hid hfv
      clear hfv HFN C0
      go_upto_region 12 with fail
      refine wp_region_lit ?_
      refine wpList_load_row rfl 154 _ rfl w.heap.size rfl 154 m.vals (0, 0) _ HM.out Tryz.underlying154 rfl info_8 ?_
      refine wpList_store_row rfl 154 _ _ rfl (w.heap.size + 1) m.vals rfl rfl 154 _ C1.out info_8 (by rw [zero8_one]; rfl) (vals_one m) ?_
      refine wpList_nil ?_
      rename_i K hK
      have HW := Lib.hid (C1.out.setRow m.vals)
      show K _ _
      refine hK _ _ ?_
      go_wp2_with fail
      refine bodyPost_ret (results_cell_row rfl _ _ (w.heap.size + 1) 154 m.vals (0, 0) _ rfl HW.out Tryz.underlying154 rfl info_8) rfl ?_
      exact ⟨by rw [HMM.out], below_setRow HL2.out (Nat.le_succ _) _⟩
end Go.Proofs.YtpafenlcgcenlaaGreatDoor
namespace Go.Proofs.YtpafenlcgcenlaaGreatDoor
open Go.RowKit
set_option linter.unusedVariables false
set_option linter.unusedSimpArgs false

theorem run_append_zeros {P : Program} (w : World) (t u ty e : TypeId) (i : TypeInfo) (z : Value) (ht : P.underlying t = some (.slice e)) (hu : P.underlying u = some (.int .i64)) (hi : P.info? e = some i) (hz : i.zero = some z) (hs : i.size = 1) (hb : i.bytes = 1)
  (n : Nat) (h0 : 0 < n) (hn : n ≤ 1099511627776) :
  (Builtin.append_ #[t, u] ty #[.slice none 0 0, .int .i64 (n : Int)]).run P w =
   .ok (.slice (some ⟨w.heap.size, 0, none⟩) n (grownCap w n 0 e)) (w.drew.alloc (.cells (Builtin.zeroCells z.cells n ++ Builtin.zeroCells z.cells (grownCap w n 0 e - n)) e)) := by
 have hw : IntKind.i64.wrap (n : Int) = (n : Int) := IntWalk.i64_in _ (by omega)
 have hl : ¬ ((n : Int) < 0) := by omega
 have hl2 : ¬ (281474976710656 < (n : Int)) := by omega
 have hn0 : n ≠ 0 := by omega
 have h63' : ¬ (9223372036854775807 < (n : Int)) := by omega
 have h48' : ¬ (281474976710656 < Builtin.nextslicecap n 0) := by
  have := nextslicecap_zero h0
  rw [this]; omega
 simp [Builtin.append_, run_underlying ht, run_underlying hu, sizeOf, typeInfo, zeroValue, hi, hz, hs, hb, Builtin.lenOf, Builtin.firstCells, hw, hl, hl2, hn0, h63', h48', Question.forced, newRow, grownCap, asInt, asIntOf]
theorem wpList_append_run {P : Program} {w w' : World} {ops : Array Oper} {rest : List Oper} {o : Oper} {a : Act} {Q : Exit → Act → World → Prop} (hgd : o.guard = none) (s x : Operand) (t u : TypeId)
  (ho : o.op = .call { callee := .builtin .append, args := #[s, x], argTypes := #[t, u] }) (vs vx v : Value) (hs : a.eval s = vs) (hx : a.eval x = vx)
  (hrun : (Builtin.append_ #[t, u] o.type #[vs, vx]).run P w = .ok v w') (h : wpList P ops Q rest (a.put o.dst v) w') : wpList P ops Q (o :: rest) a w :=
 wpList_plain hgd fun K hK => by
  unfold Oper.wp execOp
  simp only [ho, resolve, invoke, builtin, Sem.run_bind, Sem.run_pure, Result.andThen_ok, List.map_toArray, List.map_cons, List.map_nil, hs, hx, hrun]
  exact hK _ _ h
set_option maxRecDepth 100000 in
theorem grow_c (n : Nat) (hn : n ≤ 1099511627776) (w : World) : Calls Tryz.prog 138 #[.slice none 0 0, .int .i64 (n : Int)] w fun e w' => ∃ A c, e = .returned (.slice A 0 c) ∧ w'.ownsRow w.heap.size 5 1 (.slice A 0 c) 0 [] ∧ Below w.heap.size w w' := by
 obtain ⟨i0, hi, hz0, hz1, hz2⟩ := info_parts info_u8
 rcases Nat.eq_zero_or_pos n with h0 | h0
 ·
  subst h0
  go_enter Tryz.func138, Tryz.ntmps138
  go_wp2_with fail
  go_ret
  exact ⟨none, 0, rfl, World.ownsRow_nil _ _ _ _, Below.refl _ _⟩
 ·
  have happ := fun W => run_append_zeros (P := Tryz.prog) W 22 3 22 5 i0 (.int .u8 0) Tryz.underlying22 Tryz.underlying3 hi hz0 hz1 hz2 n h0 hn
  have HI := Lib.hid hi
  have HZ0 := Lib.hid hz0
  have HZ1 := Lib.hid hz1
  have HZ2 := Lib.hid hz2
  clear hi hz0 hz1 hz2
  go_enter Tryz.func138, Tryz.ntmps138
  have HA := Lib.hid happ
  clear happ
  go_wp2_with (at_builtin; refine wpList_append_run rfl (.tmp 20) (.tmp 21) _ _ rfl _ _ _ rfl rfl (HA.out _) ?_)
  go_ret
  have h1 := grownCap_ge w n 0 5
  have h2 := grownCap_le_maxLen w n 0 5 (by unfold maxLen; omega)
  refine ⟨_, _, rfl, ⟨by simp, .inr ⟨w.heap.size, grownCap w n 0 5, _, rfl, Nat.le_refl _, heap_alloc_new w _, Nat.zero_le _, ?_, ?_, by simp⟩⟩, ((Below.refl _ _).alloc (Nat.le_refl _) _).drew⟩
  ·
   exact h2
  ·
   simp [Builtin.zeroCells]; omega
end Go.Proofs.YtpafenlcgcenlaaGreatDoor
namespace Go.Proofs.YtpafenlcgcenlaaGreatDoor
open Go.RowKit
set_option linter.unusedVariables false
set_option linter.unusedSimpArgs false

def catTo (l0 l1 : List UInt8) (k : Nat) : List UInt8 := if k = 0 then [] else if k = 1 then l0 else l0 ++ l1
set_option maxRecDepth 100000 in
theorem concat_c (g c : Nat) (A0 A1 : Option Addr) (n0 n1 c0 c1 : Nat) (l0 l1 : List UInt8) (w : World) (h0 : w.cell? ⟨g, 0, none⟩ = some (.slice A0 n0 c0)) (h1 : w.cell? ⟨g, 1, none⟩ = some (.slice A1 n1 c1)) (hg : g < w.heap.size)
  (r0 : Reads w A0 n0 (l0.map u8v)) (r1 : Reads w A1 n1 (l1.map u8v)) (hn0 : n0 ≤ 549755813888) (hn1 : n1 ≤ 549755813888) :
  Calls Tryz.prog 99 #[.slice (some ⟨g, 0, none⟩) 2 c] w (MadeBytes w (l0 ++ l1)) := by
 obtain ⟨i0, hi, hz0, hz1, hz2⟩ := info_parts info_u8
 have HI := Lib.hid hi
 have HZ0 := Lib.hid hz0
 have HZ1 := Lib.hid hz1
 have HZ2 := Lib.hid hz2
 have e0 : l0.length = n0 := by simpa using r0.len
 have e1 : l1.length = n1 := by simpa using r1.len
 have R0 := Lib.hid r0
 have R1 := Lib.hid r1
 have E0 := Lib.hid e0
 have E1 := Lib.hid e1
 have H0 := Lib.hid h0
 have H1 := Lib.hid h1
 clear hi hz0 hz1 hz2 r0 r1 e0 e1
 go_enter Tryz.func99, Tryz.ntmps99
 go_wp2_with fail
 go_loopw [3, 11] (fun s i wr => ∃ k : Nat, k ≤ 2 ∧ s = .int .i64 (if k = 0 then 0 else if k = 1 then n0 else n0 + n1 : Nat) ∧ i = .int .i64 k ∧ w = wr) (fun _ i _ => 2 - (intOf i).toNat)
 case atStart => exact ⟨0, by omega, rfl, rfl, rfl⟩
 case round =>
  obtain ⟨k, hk, rfl, rfl, rfl⟩ := hrel
  have hk3 : k = 0 ∨ k = 1 ∨ k = 2 := by omega
  rcases hk3 with rfl | rfl | rfl
  ·
   go_wp2_with fail
   go_roundw
   case rel => exact ⟨1, by omega, by simp, rfl, trivial⟩
   case measure => simp [intOf]
  ·
   go_wp2_with fail
   go_roundw
   case rel => exact ⟨2, by omega, by simp, rfl, trivial⟩
   case measure => simp [intOf]
  ·
   go_wp2_with fail
   have hgr := grow_c (n0 + n1) (by omega) w
   rw [Int.natCast_add] at hgr
   refine hgr.mono ?_
   rintro e w2 ⟨A', c', rfl, hown, hb⟩
   have HOW := Lib.hid hown
   have HBW := Lib.hid hb
   clear hown hb hgr
   go_wp2_with fail
   go_loopw [6, 27] (fun s i wr => ∃ (k : Nat) (A' : Option Addr) (c' : Nat), k ≤ 2 ∧ s = .slice A' (if k = 0 then 0 else if k = 1 then n0 else n0 + n1) c' ∧ i = .int .i64 k ∧ wr.ownsRow w.heap.size 5 1 (.slice A' (if k = 0 then 0 else if k = 1 then n0 else n0 + n1) c') (if k = 0 then 0 else if k = 1 then n0 else n0 + n1) ((catTo l0 l1 k).map u8v) ∧ Below w.heap.size w wr) (fun _ i _ => 2 - (intOf i).toNat)
   case atStart => exact ⟨0, A', c', by omega, rfl, rfl, HOW.out, HBW.out⟩
   case round =>
    obtain ⟨k, A', c', hk, rfl, rfl, hown, hb⟩ := hrel
    have HO := Lib.hid hown
    have HB := Lib.hid hb
    clear hown hb HOW HBW
    have hk3 : k = 0 ∨ k = 1 ∨ k = 2 := by omega
    have g0 : wr.cell? ⟨g, 0, none⟩ = some (.slice A0 n0 c0) := by rw [HB.out.cell (show (⟨g, 0, none⟩ : Addr).block < w.heap.size from hg)]; exact H0.out
    have g1 : wr.cell? ⟨g, 1, none⟩ = some (.slice A1 n1 c1) := by rw [HB.out.cell (show (⟨g, 1, none⟩ : Addr).block < w.heap.size from hg)]; exact H1.out
    clear h0 h1
    rcases hk3 with rfl | rfl | rfl
    ·
     have hbs := HB.out.size
     go_wp2_with (at_builtin; refine wpList_append_any _ rfl (.tmp 31) (.tmp 32) _ rfl w.heap.size 5 i0 (.int .u8 0) 1 Tryz.underlying22 HI.out HZ0.out HZ1.out HZ2.out rfl _ 0 ([]) rfl HO.out A0 n0 c0 (l0.map u8v) rfl (R0.out.below HB.out) (u8v_one _) (by unfold maxLen; omega) (by omega) hbs ?_; intro A2' c2' w2' hown2 hgrow hat; have HO2 := Lib.hid hown2; have HG2 := Lib.hid hgrow; clear hown2 hgrow hat)
     go_roundw
     case rel =>
      have hl1 := (HO.out).lt
      refine ⟨1, A2', c2', by omega, ?_, rfl, ?_, HB.out.grown HG2.out hbs (fun g hg => (hl1 g hg).1)⟩
      ·
       simp [catTo]
      ·
       have h := HO2.out
       simp [catTo] at h ⊢
       exact h
     case measure => simp [intOf]
    ·
     have hbs := HB.out.size
     go_wp2_with (at_builtin; refine wpList_append_any _ rfl (.tmp 31) (.tmp 32) _ rfl w.heap.size 5 i0 (.int .u8 0) 1 Tryz.underlying22 HI.out HZ0.out HZ1.out HZ2.out rfl _ n0 (l0.map u8v) rfl HO.out A1 n1 c1 (l1.map u8v) rfl (R1.out.below HB.out) (u8v_one _) (by unfold maxLen; omega) (by omega) hbs ?_; intro A2' c2' w2' hown2 hgrow hat; have HO2 := Lib.hid hown2; have HG2 := Lib.hid hgrow; clear hown2 hgrow hat)
     go_roundw
     case rel =>
      have hl1 := (HO.out).lt
      refine ⟨2, A2', c2', by omega, ?_, rfl, ?_, HB.out.grown HG2.out hbs (fun g hg => (hl1 g hg).1)⟩
      ·
       simp [catTo]
      ·
       have h := HO2.out
       simp [catTo] at h ⊢
       exact h
     case measure => simp [intOf]
    ·
     have hfin : (l0 ++ l1).length = n0 + n1 := by rw [List.length_append, E0.out, E1.out]
     have HF := Lib.hid hfin
     clear hfin
     go_wp2_with fail
     go_ret
     refine ⟨A', c', ?_, ?_, HB.out⟩
     ·
      rw [HF.out]; rfl
     ·
      rw [HF.out]; exact HO.out
end Go.Proofs.YtpafenlcgcenlaaGreatDoor
namespace Go.Proofs.YtpafenlcgcenlaaGreatDoor
open Go.RowKit
set_option linter.unusedVariables false
set_option linter.unusedSimpArgs false

/-- A number in eight bytes, the highest first. -/
def long8 (n : UInt64) : List UInt8 := bytes4 (n >>> 32).toUInt32 ++ bytes4 n.toUInt32
abbrev u64v (c : UInt64) : Value := .int .u64 (c.toNat : Int)
theorem Reads.of_blk {w : World} {g : Nat} {t : TypeId} {l : List UInt8} (hB : Blk w g t (l.map u8v).toArray) : Reads w (some ⟨g, 0, none⟩) l.length (l.map u8v) := by
 have := hB.row
 rw [List.length_map] at this
 exact this
theorem long_c (n : UInt64) (w : World) : Calls Tryz.prog 101 #[u64v n] w (MadeBytes w (long8 n)) := by
 have hn : (n.toNat : Int) < 18446744073709551616 := by have := n.toNat_lt; omega
 have v1 : (n.toNat : Int) / (4294967296 : Int) = (((n >>> 32).toUInt32).toNat : Int) := by
  rw [UInt64.toNat_toUInt32, UInt64.toNat_shiftRight, show ((32 : UInt64).toNat % 64) = 32 from rfl, Nat.shiftRight_eq_div_pow]
  omega
 have v2 : (n.toNat : Int) % (4294967296 : Int) = ((n.toUInt32).toNat : Int) := by rw [UInt64.toNat_toUInt32]; omega
 have V1 := Lib.hid v1
 have V2 := Lib.hid v2
 clear v1 v2
 go_enter Tryz.func101, Tryz.ntmps101
 go_wp2_with fail
 rw [V1.out]
 refine (bytes_c _ w).mono ?_
 rintro e w1 ⟨rfl, hB1, hb1⟩
 go_wp2_with fail
 rw [V2.out]
 refine (bytes_c _ w1).mono ?_
 rintro e w2 ⟨rfl, hB2, hb2⟩
 have r1 := Reads.of_blk (hB1.below hb2 hB1.lt)
 have r2 := Reads.of_blk hB2
 have H1 := Lib.hid r1
 have H2 := Lib.hid r2
 have HB1 := Lib.hid hb1
 have HB2 := Lib.hid hb2
 clear r1 r2 hB1 hB2 hb1 hb2
 go_wp2_with fail
 have hB3 := Blk.new w2 22 #[.slice (some ⟨w.heap.size, 0, none⟩) 4 4, .slice (some ⟨w1.heap.size, 0, none⟩) 4 4]
 refine (concat_c w2.heap.size 2 _ _ 4 4 4 4 (bytes4 (n >>> 32).toUInt32) (bytes4 n.toUInt32) _ (by rw [hB3.cell]; rfl) (by rw [hB3.cell]; rfl) hB3.lt (H1.out.alloc _) (H2.out.alloc _) (by omega) (by omega)).mono ?_
 rintro e w3 ⟨A, c, rfl, hown, hb⟩
 have HO := Lib.hid hown
 have HB := Lib.hid hb
 clear hown hb hB3
 go_wp2_with fail
 go_ret
 have s1 := HB1.out.size
 have s2 := HB2.out.size
 have hb3 : Below w.heap.size w w3 := (HB1.out.trans ((HB2.out.mono s1).alloc (by omega) _)).trans (HB.out.mono (by simp; omega))
 exact ⟨A, c, rfl, own_base HO.out (by simp; omega), hb3⟩
end Go.Proofs.YtpafenlcgcenlaaGreatDoor
namespace Go.Proofs.YtpafenlcgcenlaaGreatDoor
open Go.RowKit
set_option linter.unusedVariables false
set_option linter.unusedSimpArgs false

def toldTo (s : St) (k : Nat) : List UInt8 := (s.words.take k).flatMap bytes4
def told (s : St) : List UInt8 := s.words.flatMap bytes4
theorem told_len (s : St) : (told s).length = 32 := rfl
theorem info_u32 : (Tryz.prog.info? 148).map (fun i => (i.size)) = some 1 := by kernel_rfl
theorem run_index8 (a b c d e f g h : UInt32) (k : Nat) (hk : k < 8) (v : UInt32) (hv : [a, b, c, d, e, f, g, h][k]? = some v) (w : World) :
  (Instr.index 154 (.agg #[u32v a, u32v b, u32v c, u32v d, u32v e, u32v f, u32v g, u32v h]) (.int .i64 (k : Int))).run Tryz.prog w = .ok (u32v v) w := by
 obtain ⟨i, hi, hs⟩ : ∃ i, Tryz.prog.info? 148 = some i ∧ i.size = 1 := by
  have := info_u32
  cases hq : Tryz.prog.info? 148 with
  | none => rw [hq] at this; cases this
  | some i => rw [hq] at this; exact ⟨i, rfl, by simpa using this⟩
 have hk8 : k = 0 ∨ k = 1 ∨ k = 2 ∨ k = 3 ∨ k = 4 ∨ k = 5 ∨ k = 6 ∨ k = 7 := by omega
 rcases hk8 with rfl | rfl | rfl | rfl | rfl | rfl | rfl | rfl <;> simp at hv <;> subst hv <;> simp [Instr.index, run_underlying Tryz.underlying154, asIntOf, part, isAgg, run_underlying Tryz.underlying148, sizeOf, typeInfo, hi, hs, go_sem]
set_option maxRecDepth 100000 in
set_option maxHeartbeats 1000000 in
theorem told_c (s : St) (w : World) : Calls Tryz.prog 102 #[.agg s.vals] w (MadeBytes w (told s)) := by
 obtain ⟨a, b, c, d, e, f, g, h⟩ := s
 obtain ⟨i0, hi, hz0, hz1, hz2⟩ := info_parts info_u8
 have HI := Lib.hid hi
 have HZ0 := Lib.hid hz0
 have HZ1 := Lib.hid hz1
 have HZ2 := Lib.hid hz2
 clear hi hz0 hz1 hz2
 show Calls Tryz.prog 102 #[.agg #[u32v a, u32v b, u32v c, u32v d, u32v e, u32v f, u32v g, u32v h]] w _
 go_enter Tryz.func102, Tryz.ntmps102
 go_wp2_with fail
 go_loopw [3, 7] (fun v i wr => ∃ (k : Nat) (A : Option Addr) (cc : Nat), k ≤ 8 ∧ v = .slice A (4 * k) cc ∧ i = .int .i64 k ∧ wr.ownsRow w.heap.size 5 1 (.slice A (4 * k) cc) (4 * k) ((toldTo ⟨a, b, c, d, e, f, g, h⟩ k).map u8v) ∧ Below w.heap.size w wr) (fun _ i _ => 8 - (intOf i).toNat)
 case atStart => exact ⟨0, none, 0, by omega, rfl, rfl, World.ownsRow_nil _ _ _ _, (Below.refl _ _).alloc (Nat.le_refl _) _⟩
 case round =>
  obtain ⟨k, A, cc, hk, rfl, rfl, hown, hb⟩ := hrel
  have HO := Lib.hid hown
  have HB := Lib.hid hb
  have hbs := HB.out.size
  clear hown hb
  have hk8 : k = 0 ∨ k = 1 ∨ k = 2 ∨ k = 3 ∨ k = 4 ∨ k = 5 ∨ k = 6 ∨ k = 7 ∨ k = 8 := by omega
  rcases hk8 with rfl | rfl | rfl | rfl | rfl | rfl | rfl | rfl | rfl
  ·
   have hix : ∀ ww : World, (Instr.index 154 (.agg #[u32v a, u32v b, u32v c, u32v d, u32v e, u32v f, u32v g, u32v h]) (.int .i64 0)).run Tryz.prog ww = .ok (u32v a) ww := run_index8 a b c d e f g h 0 (by omega) a rfl
   go_wp2_with fail
   refine (bytes_c a wr).mono ?_
   rintro e1 wy ⟨rfl, hB1, hb1⟩
   have HB1 := Lib.hid hB1
   have HY := Lib.hid hb1
   clear hB1 hb1
   go_wp2_with (at_builtin; refine wpList_append_any _ rfl (.tmp 10) (.tmp 12) _ rfl w.heap.size 5 i0 (.int .u8 0) 1 Tryz.underlying22 HI.out HZ0.out HZ1.out HZ2.out rfl _ (4 * 0) ((toldTo ⟨a, b, c, d, e, f, g, h⟩ 0).map u8v) rfl (own_only HO.out (Only.of_below (S := []) HY.out) (by simp)) (some ⟨wr.heap.size, 0, none⟩) 4 4 ((bytes4 a).map u8v) rfl (Reads.of_blk HB1.out) (u8v_one _) (by unfold maxLen; omega) (by omega) (Nat.le_trans hbs HY.out.size) ?_; intro A2' c2' w2' hown2 hgrow hat; have HO2 := Lib.hid hown2; have HG2 := Lib.hid hgrow; clear hown2 hgrow hat)
   go_roundw
   case rel =>
    have hl1 := (HO.out).lt
    refine ⟨1, A2', c2', by omega, rfl, rfl, ?_, (HB.out.trans (HY.out.mono hbs)).grown HG2.out (Nat.le_trans hbs HY.out.size) (fun g hg => (hl1 g hg).1)⟩
    have h := HO2.out
    rw [← List.map_append] at h
    exact h
   case measure => simp [intOf]
  ·
   have hix : ∀ ww : World, (Instr.index 154 (.agg #[u32v a, u32v b, u32v c, u32v d, u32v e, u32v f, u32v g, u32v h]) (.int .i64 1)).run Tryz.prog ww = .ok (u32v b) ww := run_index8 a b c d e f g h 1 (by omega) b rfl
   go_wp2_with fail
   refine (bytes_c b wr).mono ?_
   rintro e1 wy ⟨rfl, hB1, hb1⟩
   have HB1 := Lib.hid hB1
   have HY := Lib.hid hb1
   clear hB1 hb1
   go_wp2_with (at_builtin; refine wpList_append_any _ rfl (.tmp 10) (.tmp 12) _ rfl w.heap.size 5 i0 (.int .u8 0) 1 Tryz.underlying22 HI.out HZ0.out HZ1.out HZ2.out rfl _ (4 * 1) ((toldTo ⟨a, b, c, d, e, f, g, h⟩ 1).map u8v) rfl (own_only HO.out (Only.of_below (S := []) HY.out) (by simp)) (some ⟨wr.heap.size, 0, none⟩) 4 4 ((bytes4 b).map u8v) rfl (Reads.of_blk HB1.out) (u8v_one _) (by unfold maxLen; omega) (by omega) (Nat.le_trans hbs HY.out.size) ?_; intro A2' c2' w2' hown2 hgrow hat; have HO2 := Lib.hid hown2; have HG2 := Lib.hid hgrow; clear hown2 hgrow hat)
   go_roundw
   case rel =>
    have hl1 := (HO.out).lt
    refine ⟨2, A2', c2', by omega, rfl, rfl, ?_, (HB.out.trans (HY.out.mono hbs)).grown HG2.out (Nat.le_trans hbs HY.out.size) (fun g hg => (hl1 g hg).1)⟩
    have h := HO2.out
    rw [← List.map_append] at h
    exact h
   case measure => simp [intOf]
  ·
   have hix : ∀ ww : World, (Instr.index 154 (.agg #[u32v a, u32v b, u32v c, u32v d, u32v e, u32v f, u32v g, u32v h]) (.int .i64 2)).run Tryz.prog ww = .ok (u32v c) ww := run_index8 a b c d e f g h 2 (by omega) c rfl
   go_wp2_with fail
   refine (bytes_c c wr).mono ?_
   rintro e1 wy ⟨rfl, hB1, hb1⟩
   have HB1 := Lib.hid hB1
   have HY := Lib.hid hb1
   clear hB1 hb1
   go_wp2_with (at_builtin; refine wpList_append_any _ rfl (.tmp 10) (.tmp 12) _ rfl w.heap.size 5 i0 (.int .u8 0) 1 Tryz.underlying22 HI.out HZ0.out HZ1.out HZ2.out rfl _ (4 * 2) ((toldTo ⟨a, b, c, d, e, f, g, h⟩ 2).map u8v) rfl (own_only HO.out (Only.of_below (S := []) HY.out) (by simp)) (some ⟨wr.heap.size, 0, none⟩) 4 4 ((bytes4 c).map u8v) rfl (Reads.of_blk HB1.out) (u8v_one _) (by unfold maxLen; omega) (by omega) (Nat.le_trans hbs HY.out.size) ?_; intro A2' c2' w2' hown2 hgrow hat; have HO2 := Lib.hid hown2; have HG2 := Lib.hid hgrow; clear hown2 hgrow hat)
   go_roundw
   case rel =>
    have hl1 := (HO.out).lt
    refine ⟨3, A2', c2', by omega, rfl, rfl, ?_, (HB.out.trans (HY.out.mono hbs)).grown HG2.out (Nat.le_trans hbs HY.out.size) (fun g hg => (hl1 g hg).1)⟩
    have h := HO2.out
    rw [← List.map_append] at h
    exact h
   case measure => simp [intOf]
  ·
   have hix : ∀ ww : World, (Instr.index 154 (.agg #[u32v a, u32v b, u32v c, u32v d, u32v e, u32v f, u32v g, u32v h]) (.int .i64 3)).run Tryz.prog ww = .ok (u32v d) ww := run_index8 a b c d e f g h 3 (by omega) d rfl
   go_wp2_with fail
   refine (bytes_c d wr).mono ?_
   rintro e1 wy ⟨rfl, hB1, hb1⟩
   have HB1 := Lib.hid hB1
   have HY := Lib.hid hb1
   clear hB1 hb1
   go_wp2_with (at_builtin; refine wpList_append_any _ rfl (.tmp 10) (.tmp 12) _ rfl w.heap.size 5 i0 (.int .u8 0) 1 Tryz.underlying22 HI.out HZ0.out HZ1.out HZ2.out rfl _ (4 * 3) ((toldTo ⟨a, b, c, d, e, f, g, h⟩ 3).map u8v) rfl (own_only HO.out (Only.of_below (S := []) HY.out) (by simp)) (some ⟨wr.heap.size, 0, none⟩) 4 4 ((bytes4 d).map u8v) rfl (Reads.of_blk HB1.out) (u8v_one _) (by unfold maxLen; omega) (by omega) (Nat.le_trans hbs HY.out.size) ?_; intro A2' c2' w2' hown2 hgrow hat; have HO2 := Lib.hid hown2; have HG2 := Lib.hid hgrow; clear hown2 hgrow hat)
   go_roundw
   case rel =>
    have hl1 := (HO.out).lt
    refine ⟨4, A2', c2', by omega, rfl, rfl, ?_, (HB.out.trans (HY.out.mono hbs)).grown HG2.out (Nat.le_trans hbs HY.out.size) (fun g hg => (hl1 g hg).1)⟩
    have h := HO2.out
    rw [← List.map_append] at h
    exact h
   case measure => simp [intOf]
  ·
   have hix : ∀ ww : World, (Instr.index 154 (.agg #[u32v a, u32v b, u32v c, u32v d, u32v e, u32v f, u32v g, u32v h]) (.int .i64 4)).run Tryz.prog ww = .ok (u32v e) ww := run_index8 a b c d e f g h 4 (by omega) e rfl
   go_wp2_with fail
   refine (bytes_c e wr).mono ?_
   rintro e1 wy ⟨rfl, hB1, hb1⟩
   have HB1 := Lib.hid hB1
   have HY := Lib.hid hb1
   clear hB1 hb1
   go_wp2_with (at_builtin; refine wpList_append_any _ rfl (.tmp 10) (.tmp 12) _ rfl w.heap.size 5 i0 (.int .u8 0) 1 Tryz.underlying22 HI.out HZ0.out HZ1.out HZ2.out rfl _ (4 * 4) ((toldTo ⟨a, b, c, d, e, f, g, h⟩ 4).map u8v) rfl (own_only HO.out (Only.of_below (S := []) HY.out) (by simp)) (some ⟨wr.heap.size, 0, none⟩) 4 4 ((bytes4 e).map u8v) rfl (Reads.of_blk HB1.out) (u8v_one _) (by unfold maxLen; omega) (by omega) (Nat.le_trans hbs HY.out.size) ?_; intro A2' c2' w2' hown2 hgrow hat; have HO2 := Lib.hid hown2; have HG2 := Lib.hid hgrow; clear hown2 hgrow hat)
   go_roundw
   case rel =>
    have hl1 := (HO.out).lt
    refine ⟨5, A2', c2', by omega, rfl, rfl, ?_, (HB.out.trans (HY.out.mono hbs)).grown HG2.out (Nat.le_trans hbs HY.out.size) (fun g hg => (hl1 g hg).1)⟩
    have h := HO2.out
    rw [← List.map_append] at h
    exact h
   case measure => simp [intOf]
  ·
   have hix : ∀ ww : World, (Instr.index 154 (.agg #[u32v a, u32v b, u32v c, u32v d, u32v e, u32v f, u32v g, u32v h]) (.int .i64 5)).run Tryz.prog ww = .ok (u32v f) ww := run_index8 a b c d e f g h 5 (by omega) f rfl
   go_wp2_with fail
   refine (bytes_c f wr).mono ?_
   rintro e1 wy ⟨rfl, hB1, hb1⟩
   have HB1 := Lib.hid hB1
   have HY := Lib.hid hb1
   clear hB1 hb1
   go_wp2_with (at_builtin; refine wpList_append_any _ rfl (.tmp 10) (.tmp 12) _ rfl w.heap.size 5 i0 (.int .u8 0) 1 Tryz.underlying22 HI.out HZ0.out HZ1.out HZ2.out rfl _ (4 * 5) ((toldTo ⟨a, b, c, d, e, f, g, h⟩ 5).map u8v) rfl (own_only HO.out (Only.of_below (S := []) HY.out) (by simp)) (some ⟨wr.heap.size, 0, none⟩) 4 4 ((bytes4 f).map u8v) rfl (Reads.of_blk HB1.out) (u8v_one _) (by unfold maxLen; omega) (by omega) (Nat.le_trans hbs HY.out.size) ?_; intro A2' c2' w2' hown2 hgrow hat; have HO2 := Lib.hid hown2; have HG2 := Lib.hid hgrow; clear hown2 hgrow hat)
   go_roundw
   case rel =>
    have hl1 := (HO.out).lt
    refine ⟨6, A2', c2', by omega, rfl, rfl, ?_, (HB.out.trans (HY.out.mono hbs)).grown HG2.out (Nat.le_trans hbs HY.out.size) (fun g hg => (hl1 g hg).1)⟩
    have h := HO2.out
    rw [← List.map_append] at h
    exact h
   case measure => simp [intOf]
  ·
   have hix : ∀ ww : World, (Instr.index 154 (.agg #[u32v a, u32v b, u32v c, u32v d, u32v e, u32v f, u32v g, u32v h]) (.int .i64 6)).run Tryz.prog ww = .ok (u32v g) ww := run_index8 a b c d e f g h 6 (by omega) g rfl
   go_wp2_with fail
   refine (bytes_c g wr).mono ?_
   rintro e1 wy ⟨rfl, hB1, hb1⟩
   have HB1 := Lib.hid hB1
   have HY := Lib.hid hb1
   clear hB1 hb1
   go_wp2_with (at_builtin; refine wpList_append_any _ rfl (.tmp 10) (.tmp 12) _ rfl w.heap.size 5 i0 (.int .u8 0) 1 Tryz.underlying22 HI.out HZ0.out HZ1.out HZ2.out rfl _ (4 * 6) ((toldTo ⟨a, b, c, d, e, f, g, h⟩ 6).map u8v) rfl (own_only HO.out (Only.of_below (S := []) HY.out) (by simp)) (some ⟨wr.heap.size, 0, none⟩) 4 4 ((bytes4 g).map u8v) rfl (Reads.of_blk HB1.out) (u8v_one _) (by unfold maxLen; omega) (by omega) (Nat.le_trans hbs HY.out.size) ?_; intro A2' c2' w2' hown2 hgrow hat; have HO2 := Lib.hid hown2; have HG2 := Lib.hid hgrow; clear hown2 hgrow hat)
   go_roundw
   case rel =>
    have hl1 := (HO.out).lt
    refine ⟨7, A2', c2', by omega, rfl, rfl, ?_, (HB.out.trans (HY.out.mono hbs)).grown HG2.out (Nat.le_trans hbs HY.out.size) (fun g hg => (hl1 g hg).1)⟩
    have h := HO2.out
    rw [← List.map_append] at h
    exact h
   case measure => simp [intOf]
  ·
   have hix : ∀ ww : World, (Instr.index 154 (.agg #[u32v a, u32v b, u32v c, u32v d, u32v e, u32v f, u32v g, u32v h]) (.int .i64 7)).run Tryz.prog ww = .ok (u32v h) ww := run_index8 a b c d e f g h 7 (by omega) h rfl
   go_wp2_with fail
   refine (bytes_c h wr).mono ?_
   rintro e1 wy ⟨rfl, hB1, hb1⟩
   have HB1 := Lib.hid hB1
   have HY := Lib.hid hb1
   clear hB1 hb1
   go_wp2_with (at_builtin; refine wpList_append_any _ rfl (.tmp 10) (.tmp 12) _ rfl w.heap.size 5 i0 (.int .u8 0) 1 Tryz.underlying22 HI.out HZ0.out HZ1.out HZ2.out rfl _ (4 * 7) ((toldTo ⟨a, b, c, d, e, f, g, h⟩ 7).map u8v) rfl (own_only HO.out (Only.of_below (S := []) HY.out) (by simp)) (some ⟨wr.heap.size, 0, none⟩) 4 4 ((bytes4 h).map u8v) rfl (Reads.of_blk HB1.out) (u8v_one _) (by unfold maxLen; omega) (by omega) (Nat.le_trans hbs HY.out.size) ?_; intro A2' c2' w2' hown2 hgrow hat; have HO2 := Lib.hid hown2; have HG2 := Lib.hid hgrow; clear hown2 hgrow hat)
   go_roundw
   case rel =>
    have hl1 := (HO.out).lt
    refine ⟨8, A2', c2', by omega, rfl, rfl, ?_, (HB.out.trans (HY.out.mono hbs)).grown HG2.out (Nat.le_trans hbs HY.out.size) (fun g hg => (hl1 g hg).1)⟩
    have h := HO2.out
    rw [← List.map_append] at h
    exact h
   case measure => simp [intOf]
  ·
   go_wp2_with fail
   go_ret
   exact ⟨A, cc, rfl, HO.out, HB.out⟩
end Go.Proofs.YtpafenlcgcenlaaGreatDoor
namespace Go.Proofs.YtpafenlcgcenlaaGreatDoor
open Go.RowKit
set_option linter.unusedVariables false
set_option linter.unusedSimpArgs false

/-- A stream lies at block sb: its state, how many bytes it has had, those that do not fill a block yet. -/
structure StreamAt (w : World) (sb : Nat) (s : St) (n : UInt64) (rest : List UInt8) : Prop where
 obj : ∃ A c, Blk w sb 157 #[u32v s.a, u32v s.b, u32v s.c, u32v s.d, u32v s.e, u32v s.f, u32v s.g, u32v s.h, u64v n, .slice A rest.length c] ∧ Reads w A rest.length (rest.map u8v) ∧ (∀ a, A = some a → a.block ≠ sb ∧ ∃ cs fr, w.heap[a.block]? = some (.cells cs 5 fr))
theorem snew_c (w : World) : Calls Tryz.prog 57 #[] w fun e w' => ∃ sb, e = .returned (.pointer (some ⟨sb, 0, none⟩)) ∧ StreamAt w' sb St.first 0 [] ∧ w.heap.size ≤ sb ∧ Below w.heap.size w w' := by
 go_enter Tryz.func57, Tryz.ntmps57
 go_wp2_with fail
 refine (first_c w).mono ?_
 rintro e w1 ⟨rfl, hb⟩
 have HB := Lib.hid hb
 clear hb
 have hv : St.first.vals = #[.int .u32 1779033703, .int .u32 3144134277, .int .u32 1013904242, .int .u32 2773480762, .int .u32 1359893119, .int .u32 2600822924, .int .u32 528734635, .int .u32 1541459225] := by kernel_rfl
 rw [hv]
 clear hv
 go_wp2_with fail
 go_ret
 exact ⟨w1.heap.size, rfl, ⟨none, 0, Blk.new w1 _ _, Reads.none_ _, fun a ha => by cases ha⟩, HB.out.size, HB.out.alloc HB.out.size _⟩
end Go.Proofs.YtpafenlcgcenlaaGreatDoor
namespace Go.Proofs.YtpafenlcgcenlaaGreatDoor
open Go.RowKit
set_option linter.unusedVariables false
set_option linter.unusedSimpArgs false

/-- All whole blocks of l mixed in, one behind the other; and what is left. -/
def absorb (s : St) (l : List UInt8) : St × List UInt8 :=
 if h : 64 ≤ l.length then absorb (mixS s (l.take 64)) (l.drop 64) else (s, l)
termination_by l.length
decreasing_by simp; omega
theorem absorb_more (s : St) (l : List UInt8) (h : 64 ≤ l.length) : absorb s l = absorb (mixS s (l.take 64)) (l.drop 64) := by
 rw [absorb, dif_pos h]
theorem absorb_done (s : St) (l : List UInt8) (h : ¬ 64 ≤ l.length) : absorb s l = (s, l) := by
 rw [absorb, dif_neg h]
theorem w64_len (n : UInt64) (k : Nat) (hk : k ≤ 9223372036854775807) : ((n.toNat : Int) + (k : Int)) % (18446744073709551616 : Int) = ((n + UInt64.ofNat k).toNat : Int) := by
 rw [UInt64.toNat_add, UInt64.toNat_ofNat']; omega
end Go.Proofs.YtpafenlcgcenlaaGreatDoor
namespace Go.Proofs.YtpafenlcgcenlaaGreatDoor
open Go.RowKit
set_option linter.unusedVariables false
set_option linter.unusedSimpArgs false
/-- The cells of a stream. -/
def strm (s : St) (n : UInt64) (v : Value) : Array Value := #[u32v s.a, u32v s.b, u32v s.c, u32v s.d, u32v s.e, u32v s.f, u32v s.g, u32v s.h, u64v n, v]
theorem strm_8 (s : St) (n m : UInt64) (v : Value) : (strm s n v).setIfInBounds 8 (u64v m) = strm s m v := rfl
theorem strm_9 (s : St) (n : UInt64) (v u : Value) : (strm s n v).setIfInBounds 9 u = strm s n u := rfl
theorem strm_h (s t : St) (n : UInt64) (v : Value) : ((((((((strm s n v).setIfInBounds 0 (u32v t.a)).setIfInBounds 1 (u32v t.b)).setIfInBounds 2 (u32v t.c)).setIfInBounds 3 (u32v t.d)).setIfInBounds 4 (u32v t.e)).setIfInBounds 5 (u32v t.f)).setIfInBounds 6 (u32v t.g)).setIfInBounds 7 (u32v t.h) = strm t n v := by kernel_rfl
section
variable {w : World} {sb : Nat} {t : TypeId} {s : St} {n : UInt64} {v : Value}
theorem strm_c0 (h : Blk w sb t (strm s n v)) : w.cell? ⟨sb, 0, none⟩ = some (u32v s.a) := by rw [h.cell]; rfl
theorem strm_c1 (h : Blk w sb t (strm s n v)) : w.cell? ⟨sb, 1, none⟩ = some (u32v s.b) := by rw [h.cell]; rfl
theorem strm_c2 (h : Blk w sb t (strm s n v)) : w.cell? ⟨sb, 2, none⟩ = some (u32v s.c) := by rw [h.cell]; rfl
theorem strm_c3 (h : Blk w sb t (strm s n v)) : w.cell? ⟨sb, 3, none⟩ = some (u32v s.d) := by rw [h.cell]; rfl
theorem strm_c4 (h : Blk w sb t (strm s n v)) : w.cell? ⟨sb, 4, none⟩ = some (u32v s.e) := by rw [h.cell]; rfl
theorem strm_c5 (h : Blk w sb t (strm s n v)) : w.cell? ⟨sb, 5, none⟩ = some (u32v s.f) := by rw [h.cell]; rfl
theorem strm_c6 (h : Blk w sb t (strm s n v)) : w.cell? ⟨sb, 6, none⟩ = some (u32v s.g) := by rw [h.cell]; rfl
theorem strm_c7 (h : Blk w sb t (strm s n v)) : w.cell? ⟨sb, 7, none⟩ = some (u32v s.h) := by rw [h.cell]; rfl
theorem strm_c8 (h : Blk w sb t (strm s n v)) : w.cell? ⟨sb, 8, none⟩ = some (u64v n) := by rw [h.cell]; rfl
theorem strm_c9 (h : Blk w sb t (strm s n v)) : w.cell? ⟨sb, 9, none⟩ = some v := by rw [h.cell]; rfl
theorem Blk.strm8 (h : Blk w sb t (strm s n v)) (m : UInt64) : Blk (w.setCell ⟨sb, 8, none⟩ (u64v m)) sb t (strm s m v) := by
 have := h.set_ 8 (u64v m); rw [strm_8] at this; exact this
theorem Blk.strm9 (h : Blk w sb t (strm s n v)) (u : Value) : Blk (w.setCell ⟨sb, 9, none⟩ u) sb t (strm s n u) := by
 have := h.set_ 9 u; rw [strm_9] at this; exact this
def set8w (w : World) (g : Nat) (t : St) : World := ((((((((w.setCell ⟨g, 0, none⟩ (u32v t.a)).setCell ⟨g, 1, none⟩ (u32v t.b)).setCell ⟨g, 2, none⟩ (u32v t.c)).setCell ⟨g, 3, none⟩ (u32v t.d)).setCell ⟨g, 4, none⟩ (u32v t.e)).setCell ⟨g, 5, none⟩ (u32v t.f)).setCell ⟨g, 6, none⟩ (u32v t.g)).setCell ⟨g, 7, none⟩ (u32v t.h))
theorem Blk.strmh (h : Blk w sb t (strm s n v)) (t' : St) : Blk (set8w w sb t') sb t (strm t' n v) := by
 have := (((((((h.set_ 0 (u32v t'.a)).set_ 1 (u32v t'.b)).set_ 2 (u32v t'.c)).set_ 3 (u32v t'.d)).set_ 4 (u32v t'.e)).set_ 5 (u32v t'.f)).set_ 6 (u32v t'.g)).set_ 7 (u32v t'.h)
 rw [strm_h] at this; exact this
theorem only_set8w {S : List Nat} {w0 : World} (h : Only S w0 w) {g : Nat} (hg : g ∈ S ∨ w0.heap.size ≤ g) (t' : St) : Only S w0 (set8w w g t') :=
 (((((((h.setCell (p := ⟨g, 0, none⟩) hg _).setCell (p := ⟨g, 1, none⟩) hg _).setCell (p := ⟨g, 2, none⟩) hg _).setCell (p := ⟨g, 3, none⟩) hg _).setCell (p := ⟨g, 4, none⟩) hg _).setCell (p := ⟨g, 5, none⟩) hg _).setCell (p := ⟨g, 6, none⟩) hg _).setCell (p := ⟨g, 7, none⟩) hg _
theorem Reads.set8w {A : Option Addr} {k : Nat} {xs : List Value} (h : Reads w A k xs) {g : Nat} (hg : ∀ a, A = some a → a.block ≠ g) (t' : St) : Reads (set8w w g t') A k xs :=
 (((((((h.setCell (p := ⟨g, 0, none⟩) hg _).setCell (p := ⟨g, 1, none⟩) hg _).setCell (p := ⟨g, 2, none⟩) hg _).setCell (p := ⟨g, 3, none⟩) hg _).setCell (p := ⟨g, 4, none⟩) hg _).setCell (p := ⟨g, 5, none⟩) hg _).setCell (p := ⟨g, 6, none⟩) hg _).setCell (p := ⟨g, 7, none⟩) hg _
theorem Reads.drop_ {A : Option Addr} {n k cap : Nat} {xs : List Value} (h : Reads w A n xs) (hk : k ≤ n) (hc : n ≤ cap) :
  Reads w (if cap = k then A else Option.map (fun x => (⟨x.block, x.off + k, none⟩ : Addr)) A) (n - k) (xs.drop k) := by
 refine ⟨by rw [List.length_drop, h.1], fun hn => ?_⟩
 obtain ⟨b, o, rfl, hb, hcell⟩ := h.2 (by omega)
 rw [if_neg (by omega)]
 refine ⟨b, o + k, by simp, hb, fun j u hu => ?_⟩
 rw [Nat.add_assoc]
 exact hcell _ u (by rw [← hu, List.getElem?_drop])
theorem Reads.lt {A : Option Addr} {n : Nat} {xs : List Value} (h : Reads w A n xs) : 0 < n → ∀ a, A = some a → a.block < w.heap.size := by
 intro hn a ha
 obtain ⟨b, o, e, hb, _⟩ := h.2 hn
 rw [ha] at e; cases e; exact hb
theorem Reads.setCell0 {A : Option Addr} {n : Nat} {xs : List Value} (h : Reads w A n xs) {p : Addr} (hp : 0 < n → ∀ a, A = some a → a.block ≠ p.block) (u : Value) : Reads (w.setCell p u) A n xs := by
 rcases Nat.eq_zero_or_pos n with h0 | h0
 ·
  exact ⟨h.1, fun hn => by omega⟩
 ·
  exact h.setCell (hp h0) u
theorem Reads.only0 {w' : World} {S : List Nat} {A : Option Addr} {n : Nat} {xs : List Value} (h : Reads w A n xs) (ho : Only S w w') (ha : 0 < n → Apart S A) : Reads w' A n xs := by
 rcases Nat.eq_zero_or_pos n with h0 | h0
 ·
  exact ⟨h.1, fun hn => by omega⟩
 ·
  exact h.only ho (ha h0)
theorem apart_drop {A : Option Addr} {k cap g : Nat} (h : ∀ a, A = some a → a.block ≠ g) : ∀ a, (if cap = k then A else Option.map (fun x => (⟨x.block, x.off + k, none⟩ : Addr)) A) = some a → a.block ≠ g := by
 intro a ha
 by_cases hc : cap = k
 ·
  rw [if_pos hc] at ha; exact h a ha
 ·
  rw [if_neg hc] at ha
  cases A with
  | none => simp at ha
  | some x => simp at ha; subst ha; exact h x rfl
end
end Go.Proofs.YtpafenlcgcenlaaGreatDoor
