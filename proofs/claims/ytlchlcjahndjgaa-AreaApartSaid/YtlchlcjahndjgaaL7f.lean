/- waterlinelaw7.AreaApart: what is done in the first sectors turns nothing behind them: the plain law. -/
import Derived.Test.YtlchlcjahndjgaaDg1
import Derived.Test.YtlchlcjahndjgaaAreaE
namespace Go.Proofs.Ytlchlcjahndjgaa
open Go Go.RowKit
set_option linter.unusedVariables false
set_option linter.unusedSimpArgs false
/-- From sector K on the same. -/
structure Fl.Far (K : Nat) (F F' : Fl) : Prop where
  b : ∀ j, K * 320 ≤ j → F'.b[j]? = F.b[j]?
  wl : F'.wear.length = F.wear.length
  w : ∀ s, K ≤ s → F'.wear[s]? = F.wear[s]?
namespace Fl
theorem Far.refl (K : Nat) (F : Fl) : Far K F F := ⟨fun _ _ => rfl, rfl, fun _ _ => rfl⟩
theorem Far.trans {K : Nat} {F G H : Fl} (h : Far K F G) (g : Far K G H) : Far K F H :=
  ⟨fun j hj => (g.b j hj).trans (h.b j hj), g.wl.trans h.wl, fun s hs => (g.w s hs).trans (h.w s hs)⟩
theorem far_laid (b : List UInt8) (a : Nat) (bs : List UInt8) (m : Nat → UInt8) (j : Nat) (hj : a + bs.length ≤ j) : (laid b a bs m)[j]? = b[j]? := by
  unfold laid
  rw [List.getElem?_mapIdx]
  cases b[j]? with
  | none => rfl
  | some x =>
    simp only [Option.map_some]
    rw [if_neg (by omega)]
theorem far_work (K : Nat) (F : Fl) (a : Nat) (bs : List UInt8) (h : a + bs.length ≤ K * 320) : Far K F (F.work a bs) := by
  refine ⟨fun j hj => ?_, rfl, fun _ _ => rfl⟩
  have hj2 : a + bs.length ≤ j := Nat.le_trans h hj
  show (laid F.b a bs (fun i => F.stays i (F.cut == 0)))[j]? = F.b[j]?
  exact far_laid _ _ _ _ _ hj2
theorem far_program (K : Nat) (F : Fl) (x : Int) (bs : List UInt8) (h : x + (bs.length : Int) ≤ (K : Int) * 320) : Far K F (F.program x bs) := by
  unfold Fl.program
  split
  · exact Far.refl _ _
  · split
    · rename_i hw
      have hx : 0 ≤ x := by simp [Fl.within] at hw; omega
      split
      · exact far_work K F _ _ (by omega)
      · exact Far.refl _ _
    · exact Far.refl _ _
theorem far_erase (K : Nat) (F : Fl) (s : Int) (h : s < (K : Int)) : Far K F (F.erase s) := by
  unfold Fl.erase
  split
  · exact Far.refl _ _
  · split
    · rename_i hi
      have hs : 0 ≤ s := by simp [Fl.is] at hi; omega
      have h1 : Far K F (F.worn s.toNat) := by
        refine ⟨fun _ _ => rfl, by show (F.wear.set _ _).length = _; rw [List.length_set], fun t ht => ?_⟩
        show (F.wear.set _ _)[t]? = _
        rw [List.getElem?_set, if_neg (by omega)]
      exact h1.trans (far_work K _ _ _ (by rw [List.length_replicate]; omega))
    · exact Far.refl _ _
theorem far_setCut (K : Nat) (F : Fl) (x : Int) (m : List UInt8) : Far K F (F.setCut x m) := ⟨fun _ _ => rfl, rfl, fun _ _ => rfl⟩
theorem far_power (K : Nat) (F : Fl) : Far K F F.power := ⟨fun _ _ => rfl, rfl, fun _ _ => rfl⟩
theorem Far.read {K : Nat} {F G : Fl} (h : Far K F G) (x n : Int) (hx : (K : Int) * 320 ≤ x) : G.read x n = F.read x n := by
  have e1 : G.within x n = F.within x n := by unfold Fl.within; rw [h.wl]
  have e2 : G.b.drop x.toNat = F.b.drop x.toNat := by
    apply List.ext_getElem?
    intro i
    rw [List.getElem?_drop, List.getElem?_drop]
    exact h.b _ (by omega)
  unfold Fl.read
  rw [e1, e2]
theorem Far.wearAt {K : Nat} {F G : Fl} (h : Far K F G) (s : Int) (hs : (K : Int) ≤ s) : G.wearAt s = F.wearAt s := by
  have e1 : G.is s = F.is s := by unfold Fl.is; rw [h.wl]
  unfold Fl.wearAt
  rw [e1, List.getD_eq_getElem?_getD, List.getD_eq_getElem?_getD, h.w _ (by omega)]
end Fl
namespace Ar
theorem far_digS {K : Nat} {F G : Fl} (R : Ar) (h : Fl.Far K F G) (hR : K ≤ R.from_) (k : Nat) : R.digS G k = R.digS F k := by
  induction k with
  | zero => rfl
  | succ k ih =>
    have e : R.read G (k : Int) 0 320 = R.read F (k : Int) 0 320 := by
      unfold Ar.read
      rw [h.read _ _ (by omega)]
    simp only [Ar.digS, ih, e]
theorem far_digW {K : Nat} {F G : Fl} (R : Ar) (h : Fl.Far K F G) (hR : K ≤ R.from_) (k : Nat) : R.digW G k = R.digW F k := by
  induction k with
  | zero => rfl
  | succ k ih =>
    have e : G.wearAt ((R.from_ : Int) + k) = F.wearAt ((R.from_ : Int) + k) := h.wearAt _ (by omega)
    simp only [Ar.digW, ih, e]
theorem far_program {K : Nat} (R : Ar) (F : Fl) (hR : R.from_ + R.len ≤ K) (s a : Int) (bs : List UInt8) : Fl.Far K F (R.program F s a bs) := by
  unfold Ar.program
  split
  · rename_i hw
    obtain ⟨b1, b2, b3, b4, b5⟩ := Ar.within_b hw
    refine Fl.far_program K F _ bs ?_
    have : ((R.from_ : Int) + s) * 320 + 320 ≤ (K : Int) * 320 := by
      have h1 : (R.from_ : Int) + s + 1 ≤ (K : Int) := by omega
      omega
    omega
  · exact Fl.Far.refl _ _
theorem far_erase {K : Nat} (R : Ar) (F : Fl) (hR : R.from_ + R.len ≤ K) (s : Int) : Fl.Far K F (R.erase F s) := by
  unfold Ar.erase
  split
  · rename_i hi
    have := Ar.is_b hi
    split
    · exact Fl.Far.refl _ _
    · exact Fl.far_erase K F _ (by omega)
  · exact Fl.Far.refl _ _
end Ar
end Go.Proofs.Ytlchlcjahndjgaa
