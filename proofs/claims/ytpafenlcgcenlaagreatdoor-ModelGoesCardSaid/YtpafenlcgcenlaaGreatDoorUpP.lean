/- Plain laws of chapter 17: the two words for 'may be kept' are one; what a worn tenant's requests do. -/
import Derived.Test.YtpafenlcgcenlaaGreatDoorRm
import Derived.Test.YtpafenlcgcenlaaGreatDoorUp15
namespace Go.Proofs.YtpafenlcgcenlaaGreatDoor
open Go Go.RowKit
set_option linter.unusedVariables false
set_option linter.unusedSimpArgs false
theorem Img.none_z {i : Img} (h : i.none = true) : i.v = 0 ∧ i.s = 0 := by
  rw [(Img.same_iff _ _).1 h]
  exact ⟨rfl, rfl⟩
theorem Img.rmay_may (i : Img) : i.rmay false = i.may := by
  unfold Img.rmay Img.may
  by_cases hn : i.none = true
  · obtain ⟨hv, hs⟩ := Img.none_z hn
    rw [if_pos hn, if_pos hv, hn]
  · have hf : i.none = false := by simpa using hn
    rw [if_neg hn, hf]
    by_cases hv : i.v = 0
    · rw [if_pos hv]
      simp [hv]
    · rw [if_neg hv]
      by_cases hs : i.s = 0
      · rw [if_pos hs]
        simp [hs]
      · rw [if_neg hs]
        rw [Bool.eq_iff_iff]
        simp
        omega
theorem Img.may_v {i : Img} (h : i.may = true) : i.none = (i.v == 0) := by
  unfold Img.may at h
  by_cases hv : i.v = 0
  · rw [if_pos hv] at h
    simp [h, hv]
  · have : i.none = false := by
      cases hn : i.none
      · rfl
      · exact absurd (Img.none_z hn).1 hv
    simp [this, hv]
theorem Img.rmay_c (i : Img) : i.rmay (!decide (0 < i.v)) = i.may := by
  by_cases hv : 0 < i.v
  · rw [decide_eq_true hv]
    exact Img.rmay_may i
  · rw [decide_eq_false hv]
    unfold Img.rmay Img.may
    by_cases hn : i.none = true
    · obtain ⟨h0, hs⟩ := Img.none_z hn
      rw [if_pos hn, if_pos h0, hn]
    · have hf : i.none = false := by simpa using hn
      rw [if_neg hn]
      by_cases h0 : i.v = 0
      · rw [if_pos h0, hf]; rfl
      · rw [if_neg h0]
        by_cases hs : i.s = 0
        · rw [if_pos hs, hf]; rfl
        · rw [if_neg hs]
          simp
          omega
theorem chk_chunks (s : Int) (h : 0 ≤ s) : (s + 319) / 320 = chunksZ s := by
  unfold chunksZ
  split <;> omega
theorem Mt.have_may {m : Mt} (h0 : m.h0.may = true) (h1 : m.h1.may = true) (x : Int) : (m.have_ x).may = true := by
  unfold Mt.have_
  split <;> assumption
theorem Mt.rright_eq (m : Mt) : m.rright = m.right := by
  unfold Mt.rright Mt.right
  rw [Img.rmay_may, Img.rmay_may, Img.rmay_c]
  by_cases h0 : m.h0.may = true
  · by_cases h1 : m.h1.may = true
    · by_cases hc : m.cm.may = true
      · have ha := Img.may_v (Mt.have_may h0 h1 m.act)
        have ho := Img.may_v (Mt.have_may h0 h1 (1 - m.act))
        have hcv := Img.may_v hc
        have hob := (Img.may_b (Mt.have_may h0 h1 (1 - m.act))).1
        have hcb := Img.may_b hc
        have hph : rphase m.ph m.got m.tr (chunksZ m.cm.s) (decide (0 < m.cm.v)) (decide (0 < m.oth.v)) = m.phaseB := by
          unfold Mt.phaseB rphase Img.chk
          rw [chk_chunks _ hcb.2.1, hcv, show m.oth.none = (m.oth.v == 0) from ho]
          have e1 : decide (0 < m.cm.v) = !(m.cm.v == 0) := by
            rw [Bool.eq_iff_iff]; simp; omega
          have e2 : decide (0 < m.oth.v) = !(m.oth.v == 0) := by
            have : 0 ≤ m.oth.v := hob.1
            rw [Bool.eq_iff_iff]; simp; omega
          rw [e1, e2]
          by_cases p0 : m.ph = 0
          · rw [if_pos p0, if_pos p0]; simp
          · rw [if_neg p0, if_neg p0]
            by_cases p1 : m.ph = 1
            · rw [if_pos p1, if_pos (Or.inl p1), p1]
              cases hx : (m.cm.v == 0) <;> cases hy : (m.oth.v == 0) <;> simp
              rw [Bool.eq_iff_iff]
              simp
              omega
            · rw [if_neg p1]
              by_cases p2 : m.ph = 2
              · rw [if_pos p2, if_pos (Or.inr p2), p2]
                cases hx : (m.cm.v == 0) <;> cases hy : (m.oth.v == 0) <;> simp
              · rw [if_neg p2, if_neg (show ¬ (m.ph = 1 ∨ m.ph = 2) from fun h => h.elim p1 p2)]
                by_cases p3 : m.ph = 3
                · rw [if_pos p3, if_pos p3]; simp
                · rw [if_neg p3, if_neg p3]
        rw [hph, h0, h1, hc, ha]
        simp
      · have hc2 : m.cm.may = false := by simpa using hc
        rw [hc2]
        simp
    · have h2 : m.h1.may = false := by simpa using h1
      rw [h2]
      simp
  · have h2 : m.h0.may = false := by simpa using h0
    rw [h2]
    simp
/-- What Do does: the whole. -/
def doA (m : Mt) (f : Fc) (k n : Int) (l : List UInt8) (qu : Int) : Ch := doD m f k n (l.length : Int) (beginD m f l qu)
theorem beginD_ok {m : Mt} (h : m.Ok) (f : Fc) (l : List UInt8) (qu : Int) : (beginD m f l qu).m.Ok := oneD_ok (Mt.beginT_ok h l) _
theorem doA_ok {m : Mt} (h : m.Ok) (f : Fc) (k n : Int) (l : List UInt8) (qu : Int) : (doA m f k n l qu).m.Ok := doD_ok h f k n _ _ (fun _ _ => beginD_ok h f l qu)
theorem doA_c (w : World) (m : Mt) (h : m.Ok) (qk qn : Int) (SB : Option Addr) (sl sc : Nat) (l : List UInt8) (hr : Reads w SB sl (l.map u8v)) (hsl : sl ≤ 1000) (f : Fc) (hf : f.d.length = 32) (qu : Int) :
    Calls Tryz.prog 30 #[.agg m.cells.toArray, .agg #[.int .i64 qk, .int .i64 qn, .slice SB sl sc], .agg f.cells.toArray, .int .i64 qu] w fun e w' => e = .returned (doA m f qk qn l qu).res ∧ Below w.heap.size w w' := by
  have hl : l.length = sl := by simpa using hr.len
  unfold doA
  rw [hl]
  refine do_c w m h qk qn SB sl sc (by simp only [maxLen]; omega) f hf qu _ (fun _ _ => beginD_ok h f l qu) (fun hri _ W hW => ?_)
  have hrW : Reads W SB sl (l.map u8v) := hr.below hW
  exact begin_c W m h (Mt.right_b hri).1 qk qn SB sl sc l hrW hsl f hf qu
/-! ### a worn tenant -/
theorem firstE_worn (l : List Int) : firstE (l ++ [5]) ≠ 0 := by
  induction l with
  | nil => decide
  | cons e l ih =>
    show (if e = 0 then firstE (l ++ [5]) else e) ≠ 0
    split
    · exact ih
    · assumption
theorem oneD_worn (m : Mt) (l : List Int) : (oneD m (l ++ [wh true 5])).e ≠ 0 := by
  have h := firstE_worn l
  have e : wh true 5 = 5 := rfl
  unfold oneD
  rw [e, if_neg h]
  exact h
theorem doA_right {m : Mt} (hr : m.right = true) (f : Fc) (k n : Int) (l : List UInt8) (qu : Int) :
    ((doesD m f k n (l.length : Int) (beginD m f l qu)).e = 0 → doA m f k n l qu = doesD m f k n (l.length : Int) (beginD m f l qu)) ∧
    ((doesD m f k n (l.length : Int) (beginD m f l qu)).e ≠ 0 → (doA m f k n l qu).m = m ∧ (doA m f k n l qu).e ≠ 0) := by
  unfold doA doD
  rw [if_neg (by rw [hr]; decide)]
  refine ⟨fun h => by rw [if_pos h], fun h => by rw [if_neg h]; exact ⟨rfl, h⟩⟩
theorem worn_does (m : Mt) (f : Fc) (hf : f.wn = true) (k n sl : Int) (l : List UInt8) (qu : Int) :
    (k = 5 → doesD m f k n sl (beginD m f l qu) = ⟨m, 0, m.act, 0⟩) ∧ (k = 9 → doesD m f k n sl (beginD m f l qu) = ⟨m, 0, m.ph, m.got⟩) ∧ (k ≠ 5 → k ≠ 9 → (doesD m f k n sl (beginD m f l qu)).e ≠ 0) := by
  refine ⟨fun h => ?_, fun h => ?_, fun h5 h9 => ?_⟩
  · subst h
    show m.bootD f.wn = _
    unfold Mt.bootD
    rw [hf, if_neg (by simp)]
  · subst h
    rfl
  · unfold doesD beginD
    rw [hf]
    split
    · exact oneD_worn _ [_, _, _, _, _, _]
    split
    · exact oneD_worn _ [_, _, _]
    split
    · exact oneD_worn _ [_, _, _]
    split
    · exact oneD_worn _ [_]
    try rw [if_neg h5]
    split
    · exact oneD_worn _ [_]
    split
    · exact oneD_worn _ [_]
    split
    · exact oneD_worn _ [_]
    try rw [if_neg h9]
    decide
theorem worn_A {m : Mt} (hr : m.right = true) (f : Fc) (hf : f.wn = true) (k n : Int) (l : List UInt8) (qu : Int) :
    (doA m f k n l qu).m = m ∧ (k = 5 → doA m f k n l qu = ⟨m, 0, m.act, 0⟩) ∧ (k = 9 → (doA m f k n l qu).e = 0) ∧ (k ≠ 5 → k ≠ 9 → (doA m f k n l qu).e ≠ 0) := by
  obtain ⟨a1, a2⟩ := doA_right hr f k n l qu
  obtain ⟨w5, w9, we⟩ := worn_does m f hf k n (l.length : Int) l qu
  by_cases h5 : k = 5
  · have e := w5 h5
    have q := a1 (by rw [e])
    rw [e] at q
    rw [q]
    exact ⟨rfl, fun _ => rfl, fun _ => rfl, fun h => absurd h5 h⟩
  · by_cases h9 : k = 9
    · have e := w9 h9
      have q := a1 (by rw [e])
      rw [e] at q
      rw [q]
      exact ⟨rfl, fun h => absurd h h5, fun _ => rfl, fun _ h => absurd h9 h⟩
    · have q := a2 (we h5 h9)
      exact ⟨q.1, fun h => absurd h h5, fun h => absurd h h9, fun _ _ => q.2⟩
end Go.Proofs.YtpafenlcgcenlaaGreatDoor
