/- A block mixed into a state: sha.mix. -/
import Derived.Test.YtgadnliogceecaaSha5
import Derived.Test.YtgadnliogceecaaRInv
namespace Go.Proofs.Ytgadnliogceecaa
open Go.RowKit
set_option linter.unusedVariables false
set_option linter.unusedSimpArgs false

def roundsTo (s : St) (l : List UInt8) : Nat → St
  | 0 => s
  | k + 1 => (roundsTo s l k).round (kList.getD k 0 + (spread l).getD k 0)
/-- A block mixed into a state. -/
def mixS (s : St) (l : List UInt8) : St := s.plus (roundsTo s l 64)
theorem kList_len : kList.length = 64 := by kernel_rfl
theorem Blk.set8 {w : World} {g : Nat} {t : TypeId} {a0 a1 a2 a3 a4 a5 a6 a7 v0 v1 v2 v3 v4 v5 v6 v7 : Value} (h : Blk w g t #[a0, a1, a2, a3, a4, a5, a6, a7]) : Blk ((((((((w.setCell ⟨g, 0, none⟩ v0).setCell ⟨g, 1, none⟩ v1).setCell ⟨g, 2, none⟩ v2).setCell ⟨g, 3, none⟩ v3).setCell ⟨g, 4, none⟩ v4).setCell ⟨g, 5, none⟩ v5).setCell ⟨g, 6, none⟩ v6).setCell ⟨g, 7, none⟩ v7) g t #[v0, v1, v2, v3, v4, v5, v6, v7] :=
by
  have e : (((((((#[a0, a1, a2, a3, a4, a5, a6, a7].setIfInBounds 0 v0).setIfInBounds 1 v1).setIfInBounds 2 v2).setIfInBounds 3 v3).setIfInBounds 4 v4).setIfInBounds 5 v5).setIfInBounds 6 v6).setIfInBounds 7 v7 = #[v0, v1, v2, v3, v4, v5, v6, v7] := by kernel_rfl
  rw [← e]
  exact (((((((h.set_ 0 v0).set_ 1 v1).set_ 2 v2).set_ 3 v3).set_ 4 v4).set_ 5 v5).set_ 6 v6).set_ 7 v7
theorem Blk.far8 {w : World} {g k : Nat} {t : TypeId} {cs : Array Value} {v0 v1 v2 v3 v4 v5 v6 v7 : Value} (h : Blk w k t cs) (hk : k ≠ g) : Blk ((((((((w.setCell ⟨g, 0, none⟩ v0).setCell ⟨g, 1, none⟩ v1).setCell ⟨g, 2, none⟩ v2).setCell ⟨g, 3, none⟩ v3).setCell ⟨g, 4, none⟩ v4).setCell ⟨g, 5, none⟩ v5).setCell ⟨g, 6, none⟩ v6).setCell ⟨g, 7, none⟩ v7) k t cs :=
  (((((((h.far (p := ⟨g, 0, none⟩) hk v0).far (p := ⟨g, 1, none⟩) hk v1).far (p := ⟨g, 2, none⟩) hk v2).far (p := ⟨g, 3, none⟩) hk v3).far (p := ⟨g, 4, none⟩) hk v4).far (p := ⟨g, 5, none⟩) hk v5).far (p := ⟨g, 6, none⟩) hk v6).far (p := ⟨g, 7, none⟩) hk v7
theorem below_set8 {w a : World} {B g : Nat} {v0 v1 v2 v3 v4 v5 v6 v7 : Value} (h : Below B a w) (hg : B ≤ g) : Below B a ((((((((w.setCell ⟨g, 0, none⟩ v0).setCell ⟨g, 1, none⟩ v1).setCell ⟨g, 2, none⟩ v2).setCell ⟨g, 3, none⟩ v3).setCell ⟨g, 4, none⟩ v4).setCell ⟨g, 5, none⟩ v5).setCell ⟨g, 6, none⟩ v6).setCell ⟨g, 7, none⟩ v7) :=
  (((((((h.setCell (p := ⟨g, 0, none⟩) hg v0).setCell (p := ⟨g, 1, none⟩) hg v1).setCell (p := ⟨g, 2, none⟩) hg v2).setCell (p := ⟨g, 3, none⟩) hg v3).setCell (p := ⟨g, 4, none⟩) hg v4).setCell (p := ⟨g, 5, none⟩) hg v5).setCell (p := ⟨g, 6, none⟩) hg v6).setCell (p := ⟨g, 7, none⟩) hg v7
def plusTo (s t : St) : Nat → List UInt32
  | 0 => s.words
  | k + 1 => (plusTo s t k).set k ((plusTo s t k).getD k 0 + t.words.getD k 0)
theorem plusTo_len (s t : St) (k : Nat) : (plusTo s t k).length = 8 := by
  induction k with
  | zero => rfl
  | succ k ih => simp only [plusTo, List.length_set, ih]
theorem plusTo_all (s t : St) : plusTo s t 8 = (s.plus t).words := rfl
theorem words_vals (s : St) : (s.words.map u32v).toArray = s.vals := rfl
def zero64 : Array Value := Array.replicate 64 (Value.int .u32 0)
def zero8 : Array Value := #[.int .u32 0, .int .u32 0, .int .u32 0, .int .u32 0, .int .u32 0, .int .u32 0, .int .u32 0, .int .u32 0]
def mixFr (h : Array Value) (A : Option Addr) (c B : Nat) (v5 v6 v7 v10 v11 v12 v13 : Value) : Act :=
  ⟨#[.agg h, .slice A 64 c, .pointer (some ⟨B, 0, none⟩), undef, .pointer (some ⟨B + 1, 0, none⟩), v5, v6, v7, undef, undef, v10, v11, v12, v13,
    undef, undef, undef, undef, undef, undef, undef, undef, undef, undef, undef, undef, undef, undef, undef, undef, undef, undef, undef, undef, undef, undef, undef, undef, undef, undef], []⟩
def HasB (wx : World) (B : Nat) (v : Value) (t : TypeId) (C : Array Value) : Prop := ∃ g, v = .pointer (some ⟨g, 0, none⟩) ∧ B ≤ g ∧ Blk wx g t C
theorem HasB.mono {wx wy : World} {B : Nat} {v : Value} {t : TypeId} {C : Array Value} (h : HasB wx B v t C) (hk : ∀ k, k < wx.heap.size → wy.heap[k]? = wx.heap[k]?) : HasB wy B v t C := by
  obtain ⟨g, h1, h2, h3⟩ := h
  exact ⟨g, h1, h2, (hk g h3.lt).trans h3⟩
/-- What the region of mix that makes its three variables has brought about, whatever came first. -/
structure MixI (w0 : World) (B : Nat) (h : Array Value) (A : Option Addr) (c : Nat) (W : Array Value) (listed : Array Bool) (a : Act) (wx : World) : Prop where
  size : listed.size = 10
  all : ∃ v5 v6 v7 v10 v11 v12 v13, a = mixFr h A c B v5 v6 v7 v10 v11 v12 v13 ∧ Below (B + 2) w0 wx ∧
    (listed.getD 0 false = true → v10 = .slice A 64 c) ∧ (listed.getD 1 false = true → v11 = .agg W) ∧ (listed.getD 2 false = true → v12 = .agg kVals) ∧ (listed.getD 3 false = true → v13 = .agg h) ∧
    (listed.getD 4 false = true → HasB wx (B + 2) v5 89 (if listed.getD 7 false = true then W else zero64)) ∧
    (listed.getD 5 false = true → HasB wx (B + 2) v6 89 (if listed.getD 8 false = true then kVals else zero64)) ∧
    (listed.getD 6 false = true → HasB wx (B + 2) v7 62 (if listed.getD 9 false = true then h else zero8)) ∧
    (listed.getD 4 false = true → listed.getD 5 false = true → v5 ≠ v6) ∧ (listed.getD 7 false = true → listed.getD 4 false = true) ∧ (listed.getD 8 false = true → listed.getD 5 false = true) ∧ (listed.getD 9 false = true → listed.getD 6 false = true)
theorem unl {listed : Array Bool} {i : Nat} (h : listed.getD i true = false) : listed.getD i false = false := by
  obtain ⟨h1, h2⟩ := unlisted_lt h
  rw [Array.getD_eq_getD_getElem?, Array.getElem?_eq_getElem h1]
  exact h2
theorem HasB.far {wx : World} {B : Nat} {v : Value} {t : TypeId} {C : Array Value} (h : HasB wx B v t C) {g : Nat} (hne : v ≠ .pointer (some ⟨g, 0, none⟩)) (cs : Array Value) : HasB (wx.setRow g cs) B v t C := by
  obtain ⟨k, h1, h2, h3⟩ := h
  exact ⟨k, h1, h2, h3.setRow_far cs (fun e => hne (by rw [h1, e]))⟩
theorem vals_one (s : St) : s.vals.all (·.oneCell') = true := by
  refine Array.all_eq_true_iff_forall_mem.2 (fun v hv => ?_)
  simp only [St.vals, List.mem_toArray, List.mem_cons, List.not_mem_nil, or_false] at hv
  rcases hv with rfl | rfl | rfl | rfl | rfl | rfl | rfl | rfl <;> rfl
theorem all_done {ops : Array Oper} {listed : Array Bool} (hr : Region.ready .any ops listed = []) (i : Nat) (o : Oper) (ho : ops[i]? = some o) (hi : i < listed.size)
    (hall : ∀ e ∈ o.after, Region.binds .any e = true → listed.getD e.on false = true) : listed.getD i false = true := by
  by_cases h : listed.getD i true = false
  · have := mem_ready.2 ⟨h, o, ho, hall⟩
    rw [hr] at this; cases this
  · rw [Array.getD_eq_getD_getElem?, Array.getElem?_eq_getElem hi] at h ⊢
    simpa using h
theorem kVals_size : kVals.size = 64 := by kernel_rfl
theorem zero64_one : zero64.size = 64 := by kernel_rfl
theorem zero8_one : zero8.size = 8 := by kernel_rfl
theorem flag (listed : Array Bool) (hs : listed.size = 10) (i j : Nat) (hi : i < 10) : (listed.setIfInBounds i true).getD j false = if i = j then true else listed.getD j false := by
  rw [Array.getD_eq_getD_getElem?, Array.getElem?_setIfInBounds]
  by_cases h : i = j
  · subst h
    rw [if_pos rfl, if_pos (by omega), if_pos rfl]; rfl
  · rw [if_neg h, if_neg h, Array.getD_eq_getD_getElem?]
set_option maxRecDepth 100000 in
set_option maxHeartbeats 1000000 in
theorem mix_c (s : St) (A : Option Addr) (c : Nat) (l : List UInt8) (w : World) (hc : 64 ≤ c) (hcm : (c : Int) ≤ 9223372036854775807) (r : Reads w A 64 (l.map u8v)) :
    Calls Try.prog 39 #[.agg s.vals, .slice A 64 c] w fun e w' => e = .returned (.agg (mixS s l).vals) ∧ Below w.heap.size w w' := by
  have R := Lib.hid r
  clear r
  go_enter Try.func39, Try.ntmps39
  go_upto_region 1 with fail
  obtain ⟨W0, hW0⟩ : ∃ W0, ((w.alloc (.cells s.vals 62)).alloc (.cells #[.int .u32 0, .int .u32 0, .int .u32 0, .int .u32 0, .int .u32 0, .int .u32 0, .int .u32 0, .int .u32 0] 62)) = W0 := ⟨_, rfl⟩
  have hv : Blk W0 w.heap.size 62 s.vals := by rw [← hW0]; exact (Blk.new w _ _).alloc _
  have hrz : Blk W0 (w.heap.size + 1) 62 zero8 := by
    have h := Blk.new (w.alloc (.cells s.vals 62)) 62 zero8
    rw [show (w.alloc (.cells s.vals 62)).heap.size = w.heap.size + 1 from by simp] at h
    rw [← hW0]; exact h
  have hsz : W0.heap.size = w.heap.size + 2 := by rw [← hW0]; simp
  have hbw : Below w.heap.size w W0 := by rw [← hW0]; exact ((Below.refl _ _).alloc (Nat.le_refl _) _).alloc (by simp) _
  rw [hW0]
  clear hW0
  obtain ⟨WS, hWS⟩ : ∃ WS, ((spread l).map u32v).toArray = WS := ⟨_, rfl⟩
  have hWn : WS.size = 64 := by rw [← hWS, List.size_toArray, List.length_map]; exact sw_len l 64
  have hW1 : WS.all (·.oneCell') = true := by rw [← hWS]; exact Array.all_eq_true_iff_forall_mem.2 (fun v hv => u32v_one _ v (by simpa using hv))
  have hsp : ∀ wx, Reads wx A 64 (l.map u8v) → Calls Try.prog 62 #[.slice A 64 c] wx fun e w' => e = .returned (.agg WS) ∧ Below wx.heap.size wx w' := fun wx hr => by rw [← hWS]; exact spread_c A c l wx hc hcm hr
  have HSP := Lib.hid hsp
  have HWS := Lib.hid hWS
  clear hsp hWS
  refine wp_region_inv (by kernel_rfl) (MixI W0 w.heap.size s.vals A c WS) ?_ ?_ ?_
  · refine ⟨by simp, undef, undef, undef, undef, undef, undef, undef, rfl, ⟨rfl, rfl, rfl, Nat.le_refl _, fun _ _ => rfl⟩, ?_⟩
    simp [Array.getD_eq_getD_getElem?]
  · intro listed a wx i hI hi
    obtain ⟨hun, o, ho, hall⟩ := mem_ready.1 hi
    obtain ⟨hls, v5, v6, v7, v10, v11, v12, v13, rfl, hb, i0, i1, i2, i3, i4, i5, i6, ine, j7, j8, j9⟩ := hI
    have hun' := unl hun
    have hi10 : i < 10 := by
      obtain ⟨h, _⟩ := Array.getElem?_eq_some_iff.1 ho
      exact h
    have hcases : i = 0 ∨ i = 1 ∨ i = 2 ∨ i = 3 ∨ i = 4 ∨ i = 5 ∨ i = 6 ∨ i = 7 ∨ i = 8 ∨ i = 9 := by omega
    clear hi hi10
    rcases hcases with rfl | rfl | rfl | rfl | rfl | rfl | rfl | rfl | rfl | rfl
    · refine wpOp_plain ho (by simp at ho; rw [← ho]) ?_
      simp only [List.getElem?_toArray, List.getElem?_cons_zero, List.getElem?_cons_succ, Option.some.injEq] at ho
      subst ho
      clear hall hun
      unfold mixFr
      go_simp
      refine ⟨by simp [hls], v5, v6, v7, (.slice A 64 c), v11, v12, v13, rfl, hb, ?_⟩
      exact ⟨(fun _ => rfl),
        (by rw [flag listed hls 0 1 (by omega), if_neg (show ¬ ((0 : Nat) = 1) by omega)]; exact i1),
        (by rw [flag listed hls 0 2 (by omega), if_neg (show ¬ ((0 : Nat) = 2) by omega)]; exact i2),
        (by rw [flag listed hls 0 3 (by omega), if_neg (show ¬ ((0 : Nat) = 3) by omega)]; exact i3),
        (by rw [flag listed hls 0 4 (by omega), if_neg (show ¬ ((0 : Nat) = 4) by omega), flag listed hls 0 7 (by omega), if_neg (show ¬ ((0 : Nat) = 7) by omega)]; exact i4),
        (by rw [flag listed hls 0 5 (by omega), if_neg (show ¬ ((0 : Nat) = 5) by omega), flag listed hls 0 8 (by omega), if_neg (show ¬ ((0 : Nat) = 8) by omega)]; exact i5),
        (by rw [flag listed hls 0 6 (by omega), if_neg (show ¬ ((0 : Nat) = 6) by omega), flag listed hls 0 9 (by omega), if_neg (show ¬ ((0 : Nat) = 9) by omega)]; exact i6),
        (by rw [flag listed hls 0 4 (by omega), if_neg (show ¬ ((0 : Nat) = 4) by omega), flag listed hls 0 5 (by omega), if_neg (show ¬ ((0 : Nat) = 5) by omega)]; exact ine),
        (by rw [flag listed hls 0 7 (by omega), if_neg (show ¬ ((0 : Nat) = 7) by omega), flag listed hls 0 4 (by omega), if_neg (show ¬ ((0 : Nat) = 4) by omega)]; exact j7),
        (by rw [flag listed hls 0 8 (by omega), if_neg (show ¬ ((0 : Nat) = 8) by omega), flag listed hls 0 5 (by omega), if_neg (show ¬ ((0 : Nat) = 5) by omega)]; exact j8),
        (by rw [flag listed hls 0 9 (by omega), if_neg (show ¬ ((0 : Nat) = 9) by omega), flag listed hls 0 6 (by omega), if_neg (show ¬ ((0 : Nat) = 6) by omega)]; exact j9)⟩
    · refine wpOp_plain ho (by simp at ho; rw [← ho]) ?_
      simp only [List.getElem?_toArray, List.getElem?_cons_zero, List.getElem?_cons_succ, Option.some.injEq] at ho
      subst ho
      have p0 := hall ⟨0, Ground.data⟩ (by simp) (by decide)
      clear hall hun
      have q0 := i0 p0
      subst q0
      unfold mixFr
      go_simp
      refine (HSP.out wx (R.out.below (hbw.trans (hb.mono (by omega))))).mono ?_
      rintro e wy ⟨rfl, hby⟩
      show MixI _ _ _ _ _ _ _ _ wy
      refine ⟨by simp [hls], v5, v6, v7, (.slice A 64 c), (.agg WS), v12, v13, rfl, (hb.trans (hby.mono (by have := hb.size; omega))), ?_⟩
      exact ⟨(fun _ => rfl),
        (fun _ => rfl),
        (by rw [flag listed hls 1 2 (by omega), if_neg (show ¬ ((1 : Nat) = 2) by omega)]; exact i2),
        (by rw [flag listed hls 1 3 (by omega), if_neg (show ¬ ((1 : Nat) = 3) by omega)]; exact i3),
        (by rw [flag listed hls 1 4 (by omega), if_neg (show ¬ ((1 : Nat) = 4) by omega), flag listed hls 1 7 (by omega), if_neg (show ¬ ((1 : Nat) = 7) by omega)]; exact fun h => (i4 h).mono hby.block),
        (by rw [flag listed hls 1 5 (by omega), if_neg (show ¬ ((1 : Nat) = 5) by omega), flag listed hls 1 8 (by omega), if_neg (show ¬ ((1 : Nat) = 8) by omega)]; exact fun h => (i5 h).mono hby.block),
        (by rw [flag listed hls 1 6 (by omega), if_neg (show ¬ ((1 : Nat) = 6) by omega), flag listed hls 1 9 (by omega), if_neg (show ¬ ((1 : Nat) = 9) by omega)]; exact fun h => (i6 h).mono hby.block),
        (by rw [flag listed hls 1 4 (by omega), if_neg (show ¬ ((1 : Nat) = 4) by omega), flag listed hls 1 5 (by omega), if_neg (show ¬ ((1 : Nat) = 5) by omega)]; exact ine),
        (by rw [flag listed hls 1 7 (by omega), if_neg (show ¬ ((1 : Nat) = 7) by omega), flag listed hls 1 4 (by omega), if_neg (show ¬ ((1 : Nat) = 4) by omega)]; exact j7),
        (by rw [flag listed hls 1 8 (by omega), if_neg (show ¬ ((1 : Nat) = 8) by omega), flag listed hls 1 5 (by omega), if_neg (show ¬ ((1 : Nat) = 5) by omega)]; exact j8),
        (by rw [flag listed hls 1 9 (by omega), if_neg (show ¬ ((1 : Nat) = 9) by omega), flag listed hls 1 6 (by omega), if_neg (show ¬ ((1 : Nat) = 6) by omega)]; exact j9)⟩
    · refine wpOp_plain ho (by simp at ho; rw [← ho]) ?_
      simp only [List.getElem?_toArray, List.getElem?_cons_zero, List.getElem?_cons_succ, Option.some.injEq] at ho
      subst ho
      have p1 := hall ⟨1, Ground.chain⟩ (by simp) (by decide)
      clear hall hun
      unfold mixFr
      go_simp
      refine (constants_c wx).mono ?_
      rintro e wy ⟨rfl, hby⟩
      show MixI _ _ _ _ _ _ _ _ wy
      refine ⟨by simp [hls], v5, v6, v7, v10, (.agg WS), (.agg kVals), v13, rfl, (hb.trans (hby.mono (by have := hb.size; omega))), ?_⟩
      exact ⟨(by rw [flag listed hls 2 0 (by omega), if_neg (show ¬ ((2 : Nat) = 0) by omega)]; exact i0),
        (fun _ => rfl),
        (fun _ => rfl),
        (by rw [flag listed hls 2 3 (by omega), if_neg (show ¬ ((2 : Nat) = 3) by omega)]; exact i3),
        (by rw [flag listed hls 2 4 (by omega), if_neg (show ¬ ((2 : Nat) = 4) by omega), flag listed hls 2 7 (by omega), if_neg (show ¬ ((2 : Nat) = 7) by omega)]; exact fun h => (i4 h).mono hby.block),
        (by rw [flag listed hls 2 5 (by omega), if_neg (show ¬ ((2 : Nat) = 5) by omega), flag listed hls 2 8 (by omega), if_neg (show ¬ ((2 : Nat) = 8) by omega)]; exact fun h => (i5 h).mono hby.block),
        (by rw [flag listed hls 2 6 (by omega), if_neg (show ¬ ((2 : Nat) = 6) by omega), flag listed hls 2 9 (by omega), if_neg (show ¬ ((2 : Nat) = 9) by omega)]; exact fun h => (i6 h).mono hby.block),
        (by rw [flag listed hls 2 4 (by omega), if_neg (show ¬ ((2 : Nat) = 4) by omega), flag listed hls 2 5 (by omega), if_neg (show ¬ ((2 : Nat) = 5) by omega)]; exact ine),
        (by rw [flag listed hls 2 7 (by omega), if_neg (show ¬ ((2 : Nat) = 7) by omega), flag listed hls 2 4 (by omega), if_neg (show ¬ ((2 : Nat) = 4) by omega)]; exact j7),
        (by rw [flag listed hls 2 8 (by omega), if_neg (show ¬ ((2 : Nat) = 8) by omega), flag listed hls 2 5 (by omega), if_neg (show ¬ ((2 : Nat) = 5) by omega)]; exact j8),
        (by rw [flag listed hls 2 9 (by omega), if_neg (show ¬ ((2 : Nat) = 9) by omega), flag listed hls 2 6 (by omega), if_neg (show ¬ ((2 : Nat) = 6) by omega)]; exact j9)⟩
    · refine wpOp_plain ho (by simp at ho; rw [← ho]) ?_
      simp only [List.getElem?_toArray, List.getElem?_cons_zero, List.getElem?_cons_succ, Option.some.injEq] at ho
      subst ho
      clear hall hun
      have hvx : Blk wx w.heap.size 62 s.vals := hv.below hb (by omega)
      refine wp_load_row 62 (.tmp 2) rfl w.heap.size rfl 62 s.vals (0, 0) _ hvx Try.underlying62 rfl info_8 ?_
      refine ⟨by simp [hls], v5, v6, v7, v10, v11, v12, (.agg s.vals), rfl, hb, ?_⟩
      exact ⟨(by rw [flag listed hls 3 0 (by omega), if_neg (show ¬ ((3 : Nat) = 0) by omega)]; exact i0),
        (by rw [flag listed hls 3 1 (by omega), if_neg (show ¬ ((3 : Nat) = 1) by omega)]; exact i1),
        (by rw [flag listed hls 3 2 (by omega), if_neg (show ¬ ((3 : Nat) = 2) by omega)]; exact i2),
        (fun _ => rfl),
        (by rw [flag listed hls 3 4 (by omega), if_neg (show ¬ ((3 : Nat) = 4) by omega), flag listed hls 3 7 (by omega), if_neg (show ¬ ((3 : Nat) = 7) by omega)]; exact i4),
        (by rw [flag listed hls 3 5 (by omega), if_neg (show ¬ ((3 : Nat) = 5) by omega), flag listed hls 3 8 (by omega), if_neg (show ¬ ((3 : Nat) = 8) by omega)]; exact i5),
        (by rw [flag listed hls 3 6 (by omega), if_neg (show ¬ ((3 : Nat) = 6) by omega), flag listed hls 3 9 (by omega), if_neg (show ¬ ((3 : Nat) = 9) by omega)]; exact i6),
        (by rw [flag listed hls 3 4 (by omega), if_neg (show ¬ ((3 : Nat) = 4) by omega), flag listed hls 3 5 (by omega), if_neg (show ¬ ((3 : Nat) = 5) by omega)]; exact ine),
        (by rw [flag listed hls 3 7 (by omega), if_neg (show ¬ ((3 : Nat) = 7) by omega), flag listed hls 3 4 (by omega), if_neg (show ¬ ((3 : Nat) = 4) by omega)]; exact j7),
        (by rw [flag listed hls 3 8 (by omega), if_neg (show ¬ ((3 : Nat) = 8) by omega), flag listed hls 3 5 (by omega), if_neg (show ¬ ((3 : Nat) = 5) by omega)]; exact j8),
        (by rw [flag listed hls 3 9 (by omega), if_neg (show ¬ ((3 : Nat) = 9) by omega), flag listed hls 3 6 (by omega), if_neg (show ¬ ((3 : Nat) = 6) by omega)]; exact j9)⟩
    · refine wpOp_plain ho (by simp at ho; rw [← ho]) ?_
      simp only [List.getElem?_toArray, List.getElem?_cons_zero, List.getElem?_cons_succ, Option.some.injEq] at ho
      subst ho
      clear hall hun
      unfold mixFr
      go_simp
      generalize hwy : wx.alloc _ = wy
      have hnew : Blk wy wx.heap.size 89 zero64 := by rw [← hwy]; exact Blk.new wx _ _
      have hby : Below wx.heap.size wx wy := by rw [← hwy]; exact (Below.refl _ _).alloc (Nat.le_refl _) _
      clear hwy
      refine ⟨by simp [hls], (.pointer (some ⟨wx.heap.size, 0, none⟩)), v6, v7, v10, v11, v12, v13, rfl, (hb.trans (hby.mono (by have := hb.size; omega))), ?_⟩
      exact ⟨(by rw [flag listed hls 4 0 (by omega), if_neg (show ¬ ((4 : Nat) = 0) by omega)]; exact i0),
        (by rw [flag listed hls 4 1 (by omega), if_neg (show ¬ ((4 : Nat) = 1) by omega)]; exact i1),
        (by rw [flag listed hls 4 2 (by omega), if_neg (show ¬ ((4 : Nat) = 2) by omega)]; exact i2),
        (by rw [flag listed hls 4 3 (by omega), if_neg (show ¬ ((4 : Nat) = 3) by omega)]; exact i3),
        (by
          intro _
          rw [flag listed hls 4 7 (by omega), if_neg (show ¬ ((4 : Nat) = 7) by omega), if_neg (fun h => by rw [j7 h] at hun'; cases hun')]
          exact ⟨wx.heap.size, rfl, by have := hb.size; omega, hnew⟩),
        (by rw [flag listed hls 4 5 (by omega), if_neg (show ¬ ((4 : Nat) = 5) by omega), flag listed hls 4 8 (by omega), if_neg (show ¬ ((4 : Nat) = 8) by omega)]; exact fun h => (i5 h).mono hby.block),
        (by rw [flag listed hls 4 6 (by omega), if_neg (show ¬ ((4 : Nat) = 6) by omega), flag listed hls 4 9 (by omega), if_neg (show ¬ ((4 : Nat) = 9) by omega)]; exact fun h => (i6 h).mono hby.block),
        (by
          intro _ h
          rw [flag listed hls 4 5 (by omega), if_neg (show ¬ ((4 : Nat) = 5) by omega)] at h
          obtain ⟨k', hk', _, hb'⟩ := i5 h
          rw [hk']
          intro e
          have hlt := hb'.lt
          injection e with e; injection e with e; injection e with e
          omega),
        (fun _ => by rw [flag listed hls 4 4 (by omega), if_pos rfl]),
        (by rw [flag listed hls 4 8 (by omega), if_neg (show ¬ ((4 : Nat) = 8) by omega), flag listed hls 4 5 (by omega), if_neg (show ¬ ((4 : Nat) = 5) by omega)]; exact j8),
        (by rw [flag listed hls 4 9 (by omega), if_neg (show ¬ ((4 : Nat) = 9) by omega), flag listed hls 4 6 (by omega), if_neg (show ¬ ((4 : Nat) = 6) by omega)]; exact j9)⟩
    · refine wpOp_plain ho (by simp at ho; rw [← ho]) ?_
      simp only [List.getElem?_toArray, List.getElem?_cons_zero, List.getElem?_cons_succ, Option.some.injEq] at ho
      subst ho
      clear hall hun
      unfold mixFr
      go_simp
      generalize hwy : wx.alloc _ = wy
      have hnew : Blk wy wx.heap.size 89 zero64 := by rw [← hwy]; exact Blk.new wx _ _
      have hby : Below wx.heap.size wx wy := by rw [← hwy]; exact (Below.refl _ _).alloc (Nat.le_refl _) _
      clear hwy
      refine ⟨by simp [hls], v5, (.pointer (some ⟨wx.heap.size, 0, none⟩)), v7, v10, v11, v12, v13, rfl, (hb.trans (hby.mono (by have := hb.size; omega))), ?_⟩
      exact ⟨(by rw [flag listed hls 5 0 (by omega), if_neg (show ¬ ((5 : Nat) = 0) by omega)]; exact i0),
        (by rw [flag listed hls 5 1 (by omega), if_neg (show ¬ ((5 : Nat) = 1) by omega)]; exact i1),
        (by rw [flag listed hls 5 2 (by omega), if_neg (show ¬ ((5 : Nat) = 2) by omega)]; exact i2),
        (by rw [flag listed hls 5 3 (by omega), if_neg (show ¬ ((5 : Nat) = 3) by omega)]; exact i3),
        (by rw [flag listed hls 5 4 (by omega), if_neg (show ¬ ((5 : Nat) = 4) by omega), flag listed hls 5 7 (by omega), if_neg (show ¬ ((5 : Nat) = 7) by omega)]; exact fun h => (i4 h).mono hby.block),
        (by
          intro _
          rw [flag listed hls 5 8 (by omega), if_neg (show ¬ ((5 : Nat) = 8) by omega), if_neg (fun h => by rw [j8 h] at hun'; cases hun')]
          exact ⟨wx.heap.size, rfl, by have := hb.size; omega, hnew⟩),
        (by rw [flag listed hls 5 6 (by omega), if_neg (show ¬ ((5 : Nat) = 6) by omega), flag listed hls 5 9 (by omega), if_neg (show ¬ ((5 : Nat) = 9) by omega)]; exact fun h => (i6 h).mono hby.block),
        (by
          intro h _
          rw [flag listed hls 5 4 (by omega), if_neg (show ¬ ((5 : Nat) = 4) by omega)] at h
          obtain ⟨k', hk', _, hb'⟩ := i4 h
          rw [hk']
          intro e
          have hlt := hb'.lt
          injection e with e; injection e with e; injection e with e
          omega),
        (by rw [flag listed hls 5 7 (by omega), if_neg (show ¬ ((5 : Nat) = 7) by omega), flag listed hls 5 4 (by omega), if_neg (show ¬ ((5 : Nat) = 4) by omega)]; exact j7),
        (fun _ => by rw [flag listed hls 5 5 (by omega), if_pos rfl]),
        (by rw [flag listed hls 5 9 (by omega), if_neg (show ¬ ((5 : Nat) = 9) by omega), flag listed hls 5 6 (by omega), if_neg (show ¬ ((5 : Nat) = 6) by omega)]; exact j9)⟩
    · refine wpOp_plain ho (by simp at ho; rw [← ho]) ?_
      simp only [List.getElem?_toArray, List.getElem?_cons_zero, List.getElem?_cons_succ, Option.some.injEq] at ho
      subst ho
      clear hall hun
      unfold mixFr
      go_simp
      generalize hwy : wx.alloc _ = wy
      have hnew : Blk wy wx.heap.size 62 zero8 := by rw [← hwy]; exact Blk.new wx _ _
      have hby : Below wx.heap.size wx wy := by rw [← hwy]; exact (Below.refl _ _).alloc (Nat.le_refl _) _
      clear hwy
      refine ⟨by simp [hls], v5, v6, (.pointer (some ⟨wx.heap.size, 0, none⟩)), v10, v11, v12, v13, rfl, (hb.trans (hby.mono (by have := hb.size; omega))), ?_⟩
      exact ⟨(by rw [flag listed hls 6 0 (by omega), if_neg (show ¬ ((6 : Nat) = 0) by omega)]; exact i0),
        (by rw [flag listed hls 6 1 (by omega), if_neg (show ¬ ((6 : Nat) = 1) by omega)]; exact i1),
        (by rw [flag listed hls 6 2 (by omega), if_neg (show ¬ ((6 : Nat) = 2) by omega)]; exact i2),
        (by rw [flag listed hls 6 3 (by omega), if_neg (show ¬ ((6 : Nat) = 3) by omega)]; exact i3),
        (by rw [flag listed hls 6 4 (by omega), if_neg (show ¬ ((6 : Nat) = 4) by omega), flag listed hls 6 7 (by omega), if_neg (show ¬ ((6 : Nat) = 7) by omega)]; exact fun h => (i4 h).mono hby.block),
        (by rw [flag listed hls 6 5 (by omega), if_neg (show ¬ ((6 : Nat) = 5) by omega), flag listed hls 6 8 (by omega), if_neg (show ¬ ((6 : Nat) = 8) by omega)]; exact fun h => (i5 h).mono hby.block),
        (by
          intro _
          rw [flag listed hls 6 9 (by omega), if_neg (show ¬ ((6 : Nat) = 9) by omega), if_neg (fun h => by rw [j9 h] at hun'; cases hun')]
          exact ⟨wx.heap.size, rfl, by have := hb.size; omega, hnew⟩),
        (by rw [flag listed hls 6 4 (by omega), if_neg (show ¬ ((6 : Nat) = 4) by omega), flag listed hls 6 5 (by omega), if_neg (show ¬ ((6 : Nat) = 5) by omega)]; exact ine),
        (by rw [flag listed hls 6 7 (by omega), if_neg (show ¬ ((6 : Nat) = 7) by omega), flag listed hls 6 4 (by omega), if_neg (show ¬ ((6 : Nat) = 4) by omega)]; exact j7),
        (by rw [flag listed hls 6 8 (by omega), if_neg (show ¬ ((6 : Nat) = 8) by omega), flag listed hls 6 5 (by omega), if_neg (show ¬ ((6 : Nat) = 5) by omega)]; exact j8),
        (fun _ => by rw [flag listed hls 6 6 (by omega), if_pos rfl])⟩
    · refine wpOp_plain ho (by simp at ho; rw [← ho]) ?_
      simp only [List.getElem?_toArray, List.getElem?_cons_zero, List.getElem?_cons_succ, Option.some.injEq] at ho
      subst ho
      have p4 := hall ⟨4, Ground.data⟩ (by simp) (by decide)
      have p1 := hall ⟨1, Ground.data⟩ (by simp) (by decide)
      have p2 := hall ⟨2, Ground.chain⟩ (by simp) (by decide)
      clear hall hun
      have qv := i1 p1
      subst qv
      have qb := i4 p4
      rw [hun', if_neg (by simp)] at qb
      obtain ⟨g, qg, hgB, hgk⟩ := qb
      subst qg
      refine wp_store_row 89 (.tmp 5) (.tmp 11) rfl g WS rfl rfl 89 _ hgk (by rw [hWn]; exact info_64) (by rw [zero64_one, hWn]) hW1 ?_
      refine ⟨by simp [hls], (.pointer (some ⟨g, 0, none⟩)), v6, v7, v10, (.agg WS), v12, v13, rfl, (below_setRow hb hgB _), ?_⟩
      exact ⟨(by rw [flag listed hls 7 0 (by omega), if_neg (show ¬ ((7 : Nat) = 0) by omega)]; exact i0),
        (fun _ => rfl),
        (by rw [flag listed hls 7 2 (by omega), if_neg (show ¬ ((7 : Nat) = 2) by omega)]; exact i2),
        (by rw [flag listed hls 7 3 (by omega), if_neg (show ¬ ((7 : Nat) = 3) by omega)]; exact i3),
        (by
          intro _
          rw [flag listed hls 7 7 (by omega), if_pos rfl, if_pos rfl]
          exact ⟨g, rfl, hgB, hgk.setRow _⟩),
        (by rw [flag listed hls 7 5 (by omega), if_neg (show ¬ ((7 : Nat) = 5) by omega), flag listed hls 7 8 (by omega), if_neg (show ¬ ((7 : Nat) = 8) by omega)]; exact fun h => (i5 h).far (fun e => ine p4 h e.symm) _),
        (by rw [flag listed hls 7 6 (by omega), if_neg (show ¬ ((7 : Nat) = 6) by omega), flag listed hls 7 9 (by omega), if_neg (show ¬ ((7 : Nat) = 9) by omega)]; exact fun h => (i6 h).far (fun e => by obtain ⟨k', hk', _, hb'⟩ := i6 h; rw [hk'] at e; cases e; exact Blk.ne_ hb' hgk (by decide) rfl) _),
        (by rw [flag listed hls 7 4 (by omega), if_neg (show ¬ ((7 : Nat) = 4) by omega), flag listed hls 7 5 (by omega), if_neg (show ¬ ((7 : Nat) = 5) by omega)]; exact ine),
        (fun _ => by rw [flag listed hls 7 4 (by omega), if_neg (show ¬ ((7 : Nat) = 4) by omega)]; exact p4),
        (by rw [flag listed hls 7 8 (by omega), if_neg (show ¬ ((7 : Nat) = 8) by omega), flag listed hls 7 5 (by omega), if_neg (show ¬ ((7 : Nat) = 5) by omega)]; exact j8),
        (by rw [flag listed hls 7 9 (by omega), if_neg (show ¬ ((7 : Nat) = 9) by omega), flag listed hls 7 6 (by omega), if_neg (show ¬ ((7 : Nat) = 6) by omega)]; exact j9)⟩
    · refine wpOp_plain ho (by simp at ho; rw [← ho]) ?_
      simp only [List.getElem?_toArray, List.getElem?_cons_zero, List.getElem?_cons_succ, Option.some.injEq] at ho
      subst ho
      have p5 := hall ⟨5, Ground.data⟩ (by simp) (by decide)
      have p2 := hall ⟨2, Ground.data⟩ (by simp) (by decide)
      have p7 := hall ⟨7, Ground.chain⟩ (by simp) (by decide)
      clear hall hun
      have qv := i2 p2
      subst qv
      have qb := i5 p5
      rw [hun', if_neg (by simp)] at qb
      obtain ⟨g, qg, hgB, hgk⟩ := qb
      subst qg
      refine wp_store_row 89 (.tmp 6) (.tmp 12) rfl g kVals rfl rfl 89 _ hgk (by rw [kVals_size]; exact info_64) (by rw [zero64_one, kVals_size]) kVals_one ?_
      refine ⟨by simp [hls], v5, (.pointer (some ⟨g, 0, none⟩)), v7, v10, v11, (.agg kVals), v13, rfl, (below_setRow hb hgB _), ?_⟩
      exact ⟨(by rw [flag listed hls 8 0 (by omega), if_neg (show ¬ ((8 : Nat) = 0) by omega)]; exact i0),
        (by rw [flag listed hls 8 1 (by omega), if_neg (show ¬ ((8 : Nat) = 1) by omega)]; exact i1),
        (fun _ => rfl),
        (by rw [flag listed hls 8 3 (by omega), if_neg (show ¬ ((8 : Nat) = 3) by omega)]; exact i3),
        (by rw [flag listed hls 8 4 (by omega), if_neg (show ¬ ((8 : Nat) = 4) by omega), flag listed hls 8 7 (by omega), if_neg (show ¬ ((8 : Nat) = 7) by omega)]; exact fun h => (i4 h).far (fun e => ine h p5 e) _),
        (by
          intro _
          rw [flag listed hls 8 8 (by omega), if_pos rfl, if_pos rfl]
          exact ⟨g, rfl, hgB, hgk.setRow _⟩),
        (by rw [flag listed hls 8 6 (by omega), if_neg (show ¬ ((8 : Nat) = 6) by omega), flag listed hls 8 9 (by omega), if_neg (show ¬ ((8 : Nat) = 9) by omega)]; exact fun h => (i6 h).far (fun e => by obtain ⟨k', hk', _, hb'⟩ := i6 h; rw [hk'] at e; cases e; exact Blk.ne_ hb' hgk (by decide) rfl) _),
        (by rw [flag listed hls 8 4 (by omega), if_neg (show ¬ ((8 : Nat) = 4) by omega), flag listed hls 8 5 (by omega), if_neg (show ¬ ((8 : Nat) = 5) by omega)]; exact ine),
        (by rw [flag listed hls 8 7 (by omega), if_neg (show ¬ ((8 : Nat) = 7) by omega), flag listed hls 8 4 (by omega), if_neg (show ¬ ((8 : Nat) = 4) by omega)]; exact j7),
        (fun _ => by rw [flag listed hls 8 5 (by omega), if_neg (show ¬ ((8 : Nat) = 5) by omega)]; exact p5),
        (by rw [flag listed hls 8 9 (by omega), if_neg (show ¬ ((8 : Nat) = 9) by omega), flag listed hls 8 6 (by omega), if_neg (show ¬ ((8 : Nat) = 6) by omega)]; exact j9)⟩
    · refine wpOp_plain ho (by simp at ho; rw [← ho]) ?_
      simp only [List.getElem?_toArray, List.getElem?_cons_zero, List.getElem?_cons_succ, Option.some.injEq] at ho
      subst ho
      have p6 := hall ⟨6, Ground.data⟩ (by simp) (by decide)
      have p3 := hall ⟨3, Ground.data⟩ (by simp) (by decide)
      have p8 := hall ⟨8, Ground.chain⟩ (by simp) (by decide)
      clear hall hun
      have qv := i3 p3
      subst qv
      have qb := i6 p6
      rw [hun', if_neg (by simp)] at qb
      obtain ⟨g, qg, hgB, hgk⟩ := qb
      subst qg
      refine wp_store_row 62 (.tmp 7) (.tmp 13) rfl g s.vals rfl rfl 62 _ hgk info_8 (by rw [zero8_one]; rfl) (vals_one s) ?_
      refine ⟨by simp [hls], v5, v6, (.pointer (some ⟨g, 0, none⟩)), v10, v11, v12, (.agg s.vals), rfl, (below_setRow hb hgB _), ?_⟩
      exact ⟨(by rw [flag listed hls 9 0 (by omega), if_neg (show ¬ ((9 : Nat) = 0) by omega)]; exact i0),
        (by rw [flag listed hls 9 1 (by omega), if_neg (show ¬ ((9 : Nat) = 1) by omega)]; exact i1),
        (by rw [flag listed hls 9 2 (by omega), if_neg (show ¬ ((9 : Nat) = 2) by omega)]; exact i2),
        (fun _ => rfl),
        (by rw [flag listed hls 9 4 (by omega), if_neg (show ¬ ((9 : Nat) = 4) by omega), flag listed hls 9 7 (by omega), if_neg (show ¬ ((9 : Nat) = 7) by omega)]; exact fun h => (i4 h).far (fun e => by obtain ⟨k', hk', _, hb'⟩ := i4 h; rw [hk'] at e; cases e; exact Blk.ne_ hb' hgk (by decide) rfl) _),
        (by rw [flag listed hls 9 5 (by omega), if_neg (show ¬ ((9 : Nat) = 5) by omega), flag listed hls 9 8 (by omega), if_neg (show ¬ ((9 : Nat) = 8) by omega)]; exact fun h => (i5 h).far (fun e => by obtain ⟨k', hk', _, hb'⟩ := i5 h; rw [hk'] at e; cases e; exact Blk.ne_ hb' hgk (by decide) rfl) _),
        (by
          intro _
          rw [flag listed hls 9 9 (by omega), if_pos rfl, if_pos rfl]
          exact ⟨g, rfl, hgB, hgk.setRow _⟩),
        (by rw [flag listed hls 9 4 (by omega), if_neg (show ¬ ((9 : Nat) = 4) by omega), flag listed hls 9 5 (by omega), if_neg (show ¬ ((9 : Nat) = 5) by omega)]; exact ine),
        (by rw [flag listed hls 9 7 (by omega), if_neg (show ¬ ((9 : Nat) = 7) by omega), flag listed hls 9 4 (by omega), if_neg (show ¬ ((9 : Nat) = 4) by omega)]; exact j7),
        (by rw [flag listed hls 9 8 (by omega), if_neg (show ¬ ((9 : Nat) = 8) by omega), flag listed hls 9 5 (by omega), if_neg (show ¬ ((9 : Nat) = 5) by omega)]; exact j8),
        (fun _ => by rw [flag listed hls 9 6 (by omega), if_neg (show ¬ ((9 : Nat) = 6) by omega)]; exact p6)⟩
  · intro listed a wx hI hr
    obtain ⟨hls, v5, v6, v7, v10, v11, v12, v13, rfl, hb, i0, i1, i2, i3, i4, i5, i6, ine, j7, j8, j9⟩ := hI
    have f0 := all_done hr 0 _ rfl (by omega) (by intro e he hb; simp at he)
    have f1 := all_done hr 1 _ rfl (by omega) (by intro e he hb; simp at he; rcases he with rfl <;> first | (exact absurd hb (by decide)) | (dsimp only; assumption))
    have f2 := all_done hr 2 _ rfl (by omega) (by intro e he hb; simp at he; rcases he with rfl <;> first | (exact absurd hb (by decide)) | (dsimp only; assumption))
    have f4 := all_done hr 4 _ rfl (by omega) (by intro e he hb; simp at he)
    have f5 := all_done hr 5 _ rfl (by omega) (by intro e he hb; simp at he)
    have f6 := all_done hr 6 _ rfl (by omega) (by intro e he hb; simp at he)
    have f7 := all_done hr 7 _ rfl (by omega) (by intro e he hb; simp at he; rcases he with rfl | rfl | rfl | rfl | rfl | rfl | rfl | rfl | rfl | rfl <;> first | (exact absurd hb (by decide)) | (dsimp only; assumption))
    have f8 := all_done hr 8 _ rfl (by omega) (by intro e he hb; simp at he; rcases he with rfl | rfl | rfl | rfl | rfl | rfl | rfl | rfl | rfl | rfl | rfl <;> first | (exact absurd hb (by decide)) | (dsimp only; assumption))
    have f3 := all_done hr 3 _ rfl (by omega) (by intro e he hb; simp at he; rcases he with rfl <;> first | (exact absurd hb (by decide)) | (dsimp only; assumption))
    have f9 := all_done hr 9 _ rfl (by omega) (by intro e he hb; simp at he; rcases he with rfl | rfl | rfl | rfl | rfl | rfl | rfl | rfl | rfl | rfl | rfl | rfl <;> first | (exact absurd hb (by decide)) | (dsimp only; assumption))
    have q4 := i4 f4
    have q5 := i5 f5
    have q6 := i6 f6
    have qn := ine f4 f5
    rw [if_pos f7] at q4
    rw [if_pos f8] at q5
    rw [if_pos f9] at q6
    obtain ⟨g5, rfl, k5, b5⟩ := q4
    obtain ⟨g6, rfl, k6, b6⟩ := q5
    obtain ⟨g7, rfl, k7, b7⟩ := q6
    have n56 : g5 ≠ g6 := fun e => qn (by rw [e])
    have n57 : g7 ≠ g5 := Blk.ne_ b7 b5 (by decide)
    have n67 : g7 ≠ g6 := Blk.ne_ b7 b6 (by decide)
    clear i0 i1 i2 i3 i4 i5 i6 ine j7 j8 j9 f0 f1 f2 f3 f4 f5 f6 f7 f8 f9 hr hls qn
    have B5 := Lib.hid b5
    have B6 := Lib.hid b6
    have B7 := Lib.hid b7
    have HB := Lib.hid hb
    clear b5 b6 b7 hb
    unfold mixFr
    rename_i K hK
    show K _ _
    refine hK _ _ ?_
    go_wp2_with fail
    go_loopw [14] (fun i wr => ∃ k : Nat, k ≤ 64 ∧ i = .int .i64 k ∧ Below (w.heap.size + 2) W0 wr ∧ Blk wr g5 89 WS ∧ Blk wr g6 89 kVals ∧ Blk wr g7 62 (roundsTo s l k).vals) (fun i _ => 64 - (intOf i).toNat)
    case atStart => exact ⟨0, by omega, rfl, HB.out, B5.out, B6.out, B7.out⟩
    case round =>
      obtain ⟨k, hk, rfl, hbel, c5, c6, c7⟩ := hrel
      have HL := Lib.hid hbel
      have C5 := Lib.hid c5
      have C6 := Lib.hid c6
      have C7 := Lib.hid c7
      clear hbel c5 c6 c7
      by_cases hlt : k < 64
      · have hn : roundsTo s l (k + 1) = (roundsTo s l k).round (kList.getD k 0 + (spread l).getD k 0) := rfl
        have HN := Lib.hid hn
        clear hn
        have d6 : wr.cell? ⟨g6, k, none⟩ = some (u32v (kList.getD k 0)) := cell32 C6.out k (by rw [kList_len]; exact hlt)
        have d5 : wr.cell? ⟨g5, k, none⟩ = some (u32v ((spread l).getD k 0)) := cell32 (by rw [HWS.out]; exact C5.out) k (by rw [show (spread l).length = 64 from sw_len l 64]; exact hlt)
        generalize kList.getD k 0 = x at *
        generalize (spread l).getD k 0 = y at *
        generalize hst : roundsTo s l k = st at *
        have HST := Lib.hid hst
        clear hst
        obtain ⟨sa, sb, sc, sd, se, sf, sg, sh⟩ := st
        have z0 : wr.cell? ⟨g7, 0, none⟩ = some (u32v sa) := by rw [C7.out.cell]; rfl
        have z1 : wr.cell? ⟨g7, 1, none⟩ = some (u32v sb) := by rw [C7.out.cell]; rfl
        have z2 : wr.cell? ⟨g7, 2, none⟩ = some (u32v sc) := by rw [C7.out.cell]; rfl
        have z3 : wr.cell? ⟨g7, 3, none⟩ = some (u32v sd) := by rw [C7.out.cell]; rfl
        have z4 : wr.cell? ⟨g7, 4, none⟩ = some (u32v se) := by rw [C7.out.cell]; rfl
        have z5 : wr.cell? ⟨g7, 5, none⟩ = some (u32v sf) := by rw [C7.out.cell]; rfl
        have z6 : wr.cell? ⟨g7, 6, none⟩ = some (u32v sg) := by rw [C7.out.cell]; rfl
        have z7 : wr.cell? ⟨g7, 7, none⟩ = some (u32v sh) := by rw [C7.out.cell]; rfl
        go_upto_region 5 with fail
        refine wp_region_quiet_tail 8 (by kernel_rfl) (by kernel_rfl) ?_
        simp only [List.take_succ_cons, List.take_zero, List.drop_succ_cons, List.drop_zero]
        repeat (go_big_quiet_step (fail))
        refine wpQuiet_nil ?_
        intro nq
        rw [w32_addm]
        have hc1 := round_c ⟨sa, sb, sc, sd, se, sf, sg, sh⟩ (x + y) (wr.drewN nq)
        rw [← HN.out] at hc1
        generalize hnx : roundsTo s l (k + 1) = st2 at hc1
        have HNX := Lib.hid hnx
        clear hnx
        obtain ⟨ra, rb, rc, rd, re, rf, rg, rh⟩ := st2
        have hc2 : Calls Try.prog 64 #[.agg #[u32v sa, u32v sb, u32v sc, u32v sd, u32v se, u32v sf, u32v sg, u32v sh], u32v (x + y)] (wr.drewN nq) fun e w' => e = .returned (.agg #[u32v ra, u32v rb, u32v rc, u32v rd, u32v re, u32v rf, u32v rg, u32v rh]) ∧ Below (wr.drewN nq).heap.size (wr.drewN nq) w' := hc1
        clear hc1 z0 z1 z2 z3 z4 z5 z6 z7 d5 d6
        go_wp2_with fail
        refine hc2.mono ?_
        rintro e wy ⟨rfl, hby⟩
        have hY7 := (C7.out.drewN nq).below hby C7.out.lt
        have y0 : wy.cell? ⟨g7, 0, none⟩ = some (u32v sa) := by rw [hY7.cell]; rfl
        have y1 : wy.cell? ⟨g7, 1, none⟩ = some (u32v sb) := by rw [hY7.cell]; rfl
        have y2 : wy.cell? ⟨g7, 2, none⟩ = some (u32v sc) := by rw [hY7.cell]; rfl
        have y3 : wy.cell? ⟨g7, 3, none⟩ = some (u32v sd) := by rw [hY7.cell]; rfl
        have y4 : wy.cell? ⟨g7, 4, none⟩ = some (u32v se) := by rw [hY7.cell]; rfl
        have y5 : wy.cell? ⟨g7, 5, none⟩ = some (u32v sf) := by rw [hY7.cell]; rfl
        have y6 : wy.cell? ⟨g7, 6, none⟩ = some (u32v sg) := by rw [hY7.cell]; rfl
        have y7 : wy.cell? ⟨g7, 7, none⟩ = some (u32v sh) := by rw [hY7.cell]; rfl
        have x0 := hY7.frozen 0
        have x1 := hY7.frozen 1
        have x2 := hY7.frozen 2
        have x3 := hY7.frozen 3
        have x4 := hY7.frozen 4
        have x5 := hY7.frozen 5
        have x6 := hY7.frozen 6
        have x7 := hY7.frozen 7
        have Y7 := Lib.hid hY7
        have HBY := Lib.hid hby
        clear hY7 hby hc2
        go_wp2_with fail
        go_roundw
        case rel =>
          refine ⟨k + 1, by omega, by go_num, ?_, ?_, ?_, ?_⟩
          · exact below_set8 ((below_drewN HL.out nq).trans (HBY.out.mono (by have := HL.out.size; simp; omega))) k7
          · exact ((C5.out.drewN nq).below HBY.out C5.out.lt).far8 (Ne.symm n57)
          · exact ((C6.out.drewN nq).below HBY.out C6.out.lt).far8 (Ne.symm n67)
          · rw [HNX.out]; exact Blk.set8 (show Blk wy g7 62 #[u32v sa, u32v sb, u32v sc, u32v sd, u32v se, u32v sf, u32v sg, u32v sh] from Y7.out)
        case measure => simp [intOf]; omega
      · obtain rfl : k = 64 := by omega
        have hV : Blk wr w.heap.size 62 ((plusTo s (roundsTo s l 64) 0).map u32v).toArray := hv.below HL.out (by omega)
        have hZ : Blk wr (w.heap.size + 1) 62 zero8 := hrz.below HL.out (by omega)
        have hT : Blk wr g7 62 ((roundsTo s l 64).words.map u32v).toArray := C7.out
        have hfin : s.plus (roundsTo s l 64) = mixS s l := rfl
        generalize roundsTo s l 64 = t at hV hT hfin
        have HV := Lib.hid hV
        have HZ := Lib.hid hZ
        have HT := Lib.hid hT
        have HFN := Lib.hid hfin
        have hbw2 := hbw.trans (HL.out.mono (by omega))
        have HW2 := Lib.hid hbw2
        clear hV hZ hT hfin C5 C6 C7 B5 B6 B7 HB hbw2
        go_wp2_with fail
        go_loopw [27] (fun i wx => ∃ k : Nat, k ≤ 8 ∧ i = .int .i64 k ∧ Below w.heap.size w wx ∧ Blk wx w.heap.size 62 ((plusTo s t k).map u32v).toArray ∧ Blk wx (w.heap.size + 1) 62 zero8 ∧ Blk wx g7 62 (t.words.map u32v).toArray) (fun i _ => 8 - (intOf i).toNat)
        case atStart => exact ⟨0, by omega, rfl, HW2.out, HV.out, HZ.out, HT.out⟩
        case round =>
          obtain ⟨k, hk, rfl, hbel, c0, c1, c2⟩ := hrel
          have HL2 := Lib.hid hbel
          have C0 := Lib.hid c0
          have C1 := Lib.hid c1
          have C2 := Lib.hid c2
          clear hbel c0 c1 c2
          by_cases hlt2 : k < 8
          · have e0 := cell32 C0.out k (by rw [plusTo_len]; exact hlt2)
            have f0 := C0.out.frozen k
            have e2 := cell32 C2.out k (by exact hlt2)
            have hn : plusTo s t (k + 1) = (plusTo s t k).set k ((plusTo s t k).getD k 0 + t.words.getD k 0) := rfl
            have HN := Lib.hid hn
            clear hn
            generalize (plusTo s t k).getD k 0 = x at *
            generalize t.words.getD k 0 = y at *
            go_upto_region 10 with fail
            refine wp_region_quiet_tail 8 (by kernel_rfl) (by kernel_rfl) ?_
            simp only [List.take_succ_cons, List.take_zero, List.drop_succ_cons, List.drop_zero]
            repeat (go_big_quiet_step (fail))
            refine wpQuiet_nil ?_
            intro nq
            rw [w32_addm]
            go_wp2_with fail
            go_roundw
            case rel =>
              refine ⟨k + 1, by omega, by go_num, (below_drewN HL2.out nq).setCell (Nat.le_refl _) _, ?_, (C1.out.drewN nq).far (by simp) _, (C2.out.drewN nq).far (by simp; omega) _⟩
              have h := (C0.out.drewN nq).set_ k (u32v (x + y))
              rw [set_map, ← HN.out] at h
              exact h
            case measure => simp [intOf]; omega
          · obtain rfl : k = 8 := by omega
            have hfv : Blk wr w.heap.size 62 (mixS s l).vals := by rw [← HFN.out]; exact C0.out
            obtain ⟨m, hmm⟩ : ∃ m, mixS s l = m := ⟨_, rfl⟩
            rw [hmm] at hfv
            have HMM := Lib.hid hmm
            clear hmm
            have HM := Lib.hid hfv
            clear hfv HFN C0
            go_upto_region 12 with fail
            refine wp_region_lit ?_
            refine wpList_load_row rfl 62 _ rfl w.heap.size rfl 62 m.vals (0, 0) _ HM.out Try.underlying62 rfl info_8 ?_
            refine wpList_store_row rfl 62 _ _ rfl (w.heap.size + 1) m.vals rfl rfl 62 _ C1.out info_8 (by rw [zero8_one]; rfl) (vals_one m) ?_
            refine wpList_nil ?_
            rename_i K hK
            have HW := Lib.hid (C1.out.setRow m.vals)
            show K _ _
            refine hK _ _ ?_
            go_wp2_with fail
            refine bodyPost_ret (results_cell_row rfl _ _ (w.heap.size + 1) 62 m.vals (0, 0) _ rfl HW.out Try.underlying62 rfl info_8) rfl ?_
            exact ⟨by rw [HMM.out], below_setRow HL2.out (Nat.le_succ _) _⟩
end Go.Proofs.Ytgadnliogceecaa
