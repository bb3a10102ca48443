/- Two flashes that do the same for the next operations. -/
import Derived.Test.YtlchlcjahndjgaaRing
import Derived.Test.YtlchlcjahndjgaaDg1
import Derived.Test.YtlchlcjahndjgaaRfL
namespace Go.Proofs.Ytlchlcjahndjgaa
open Go Go.RowKit
set_option linter.unusedVariables false
set_option linter.unusedSimpArgs false
namespace Fl
/-- Alike: the same but for what is far, how many operations there were, and a cut that is d operations away, or more. -/
structure Like (d : Int) (F G : Fl) : Prop where
  b : F.b = G.b
  wear : F.wear = G.wear
  mask : F.mask = G.mask
  off : F.off = G.off
  cut : F.cut = G.cut ∨ (d ≤ F.cut ∧ d ≤ G.cut)
section
variable {d d' : Int} {F G : Fl}
theorem Like.refl (d : Int) (F : Fl) : Like d F F := ⟨rfl, rfl, rfl, rfl, .inl rfl⟩
theorem Like.less (h : Like d F G) (hd : d' ≤ d) : Like d' F G := ⟨h.b, h.wear, h.mask, h.off, h.cut.imp id fun ⟨h1, h2⟩ => ⟨by omega, by omega⟩⟩
theorem Like.within (h : Like d F G) (x n : Int) : F.within x n = G.within x n := by unfold Fl.within; rw [h.wear]
theorem Like.is (h : Like d F G) (s : Int) : F.is s = G.is s := by unfold Fl.is; rw [h.wear]
theorem Like.wearAt (h : Like d F G) (s : Int) : F.wearAt s = G.wearAt s := by unfold Fl.wearAt; rw [h.is, h.wear]
theorem Like.blank (h : Like d F G) (s : Int) : F.blank s = G.blank s := by unfold Fl.blank; rw [h.is, h.b]
theorem Like.read (h : Like d F G) (x n : Int) : F.read x n = G.read x n := by unfold Fl.read; rw [h.within, h.b]
theorem Like.may (h : Like d F G) (a : Nat) (bs : List UInt8) : F.may a bs = G.may a bs := by unfold Fl.may; rw [h.b]
theorem Like.zero (h : Like d F G) (hd : 1 ≤ d) : (F.cut == 0) = (G.cut == 0) := by
  rcases h.cut with e | ⟨h1, h2⟩
  · rw [e]
  · rw [beq_eq_false_iff_ne.2 (by omega), beq_eq_false_iff_ne.2 (by omega)]
theorem Like.workE (h : Like d F G) (hd : 1 ≤ d) : F.workE = G.workE := by unfold Fl.workE; rw [h.zero hd]
theorem Like.work (h : Like d F G) (hd : 1 ≤ d) (a : Nat) (bs : List UInt8) : Like (d - 1) (F.work a bs) (G.work a bs) := by
  have hz := h.zero hd
  refine ⟨?_, h.wear, h.mask, ?_, ?_⟩
  · show laid F.b a bs (fun i => F.stays i (F.cut == 0)) = laid G.b a bs (fun i => G.stays i (G.cut == 0))
    rw [h.b, hz]
    unfold Fl.stays
    rw [h.mask]
  · show (F.off || F.cut == 0) = (G.off || G.cut == 0)
    rw [h.off, hz]
  · show (if 0 ≤ F.cut then F.cut - 1 else F.cut) = (if 0 ≤ G.cut then G.cut - 1 else G.cut) ∨ (d - 1 ≤ (if 0 ≤ F.cut then F.cut - 1 else F.cut) ∧ d - 1 ≤ (if 0 ≤ G.cut then G.cut - 1 else G.cut))
    rcases h.cut with e | ⟨h1, h2⟩
    · left; rw [e]
    · right
      rw [if_pos (by omega), if_pos (by omega)]
      omega
theorem Like.programE (h : Like d F G) (hd : 1 ≤ d) (x : Int) (bs : List UInt8) : F.programE x bs = G.programE x bs := by
  unfold Fl.programE
  rw [h.off, h.within, h.may, h.workE hd]
theorem Like.program (h : Like d F G) (hd : 1 ≤ d) (x : Int) (bs : List UInt8) : Like (d - 1) (F.program x bs) (G.program x bs) := by
  unfold Fl.program
  rw [h.off, h.within, h.may]
  have h2 := h.less (show d - 1 ≤ d by omega)
  split
  · exact h2
  · split
    · split
      · exact h.work hd _ _
      · exact h2
    · exact h2
theorem Like.worn (h : Like d F G) (s : Nat) : Like d (F.worn s) (G.worn s) := ⟨h.b, by show F.wear.set s _ = G.wear.set s _; rw [h.wear], h.mask, h.off, h.cut⟩
theorem Like.eraseE (h : Like d F G) (hd : 1 ≤ d) (s : Int) : F.eraseE s = G.eraseE s := by
  unfold Fl.eraseE
  rw [h.off, h.is, h.workE hd]
theorem Like.erase (h : Like d F G) (hd : 1 ≤ d) (s : Int) : Like (d - 1) (F.erase s) (G.erase s) := by
  unfold Fl.erase
  rw [h.off, h.is]
  have h2 := h.less (show d - 1 ≤ d by omega)
  split
  · exact h2
  · split
    · exact (h.worn _).work hd _ _
    · exact h2
theorem Like.power (h : Like d F G) : Like d F.power G.power := ⟨h.b, h.wear, h.mask, rfl, .inl rfl⟩
end
end Fl
namespace Ar
open Fl
section
variable {d d' : Int} {F G : Fl} (R : Ar)
theorem like_read (h : Like d F G) (s a n : Int) : R.read F s a n = R.read G s a n := by unfold Ar.read; rw [h.read]
theorem like_left (h : Like d F G) (s : Int) : R.left F s = R.left G s := by unfold Ar.left; rw [h.wearAt]
theorem like_blank (h : Like d F G) (s : Int) : R.blank F s = R.blank G s := by unfold Ar.blank; rw [h.blank]
theorem like_mayC (h : Like d F G) (s : Int) : R.mayC F s = R.mayC G s := by unfold Ar.mayC; rw [R.like_blank h, R.like_left h]
theorem like_programE (h : Like d F G) (hd : 1 ≤ d) (s a : Int) (bs : List UInt8) : R.programE F s a bs = R.programE G s a bs := by unfold Ar.programE; rw [h.programE hd]
theorem like_program (h : Like d F G) (hd : 1 ≤ d) (s a : Int) (bs : List UInt8) : Like (d - 1) (R.program F s a bs) (R.program G s a bs) := by
  unfold Ar.program
  split
  · exact h.program hd _ _
  · exact h.less (by omega)
theorem like_eraseE (h : Like d F G) (hd : 1 ≤ d) (s : Int) : R.eraseE F s = R.eraseE G s := by unfold Ar.eraseE; rw [R.like_left h, h.eraseE hd]
theorem like_erase (h : Like d F G) (hd : 1 ≤ d) (s : Int) : Like (d - 1) (R.erase F s) (R.erase G s) := by
  unfold Ar.erase
  rw [R.like_left h]
  have h2 := h.less (show d - 1 ≤ d by omega)
  split
  · split
    · exact h2
    · exact h.erase hd _
  · exact h2
theorem like_chunkE (h : Like d F G) (hd : 2 ≤ d) (x : Int) (bs : List UInt8) : R.chunkE F x bs = R.chunkE G x bs := by
  unfold Ar.chunkE
  rw [R.like_mayC h, R.like_blank h, R.like_eraseE h (by omega), R.like_programE h (by omega), R.like_programE (R.like_erase h (by omega) x) (by omega)]
theorem like_chunk (h : Like d F G) (hd : 2 ≤ d) (x : Int) (bs : List UInt8) : Like (d - 2) (R.chunk F x bs) (R.chunk G x bs) := by
  unfold Ar.chunk
  rw [R.like_mayC h, R.like_blank h, R.like_eraseE h (by omega)]
  have h2 := h.less (show d - 2 ≤ d by omega)
  have h3 := R.like_erase h (show 1 ≤ d by omega) x
  have h4 := R.like_program h3 (by omega) x 0 bs
  have h5 := R.like_program h (by omega) x 0 bs
  have h6 := h3.less (show d - 2 ≤ d - 1 by omega)
  have h7 := h4.less (show d - 2 ≤ d - 1 - 1 by omega)
  have h8 := h5.less (show d - 2 ≤ d - 1 by omega)
  repeat' split
  all_goals first | exact h2 | exact h6 | exact h7 | exact h8
theorem like_ringTo (h : Like d F G) : ∀ i, R.ringTo F i = R.ringTo G i
  | 0 => rfl
  | i + 1 => by
    have e : R.sec F i = R.sec G i := R.like_read h _ _ _
    simp only [Ar.ringTo, like_ringTo h i, e]
theorem like_ringF (h : Like d F G) : R.ringF F = R.ringF G := by unfold Ar.ringF; rw [R.like_ringTo h]
theorem like_ringN (h : Like d F G) : R.ringN F = R.ringN G := by unfold Ar.ringN; rw [R.like_ringF h]
theorem like_ringM (h : Like d F G) : R.ringM F = R.ringM G := by unfold Ar.ringM; rw [R.like_ringF h, R.like_ringN h, R.like_mayC h]
theorem like_ringE (h : Like d F G) (hd : 2 ≤ d) (b : List UInt8) : R.ringE F b = R.ringE G b := by
  unfold Ar.ringE
  rw [R.like_ringM h, R.like_ringF h, R.like_ringN h, R.like_chunkE h hd]
theorem like_ringP (h : Like d F G) (hd : 2 ≤ d) (b : List UInt8) : Like (d - 2) (R.ringP F b) (R.ringP G b) := by
  unfold Ar.ringP
  rw [R.like_ringM h, R.like_ringF h, R.like_ringN h]
  have h2 := h.less (show d - 2 ≤ d by omega)
  have h3 := R.like_chunk h hd (R.ringN G) (cellP ((R.ringF G).seq + 1) b)
  repeat' split
  all_goals first | exact h2 | exact h3
theorem like_digS (h : Like d F G) (k : Nat) : R.digS F k = R.digS G k := by
  induction k with
  | zero => rfl
  | succ k ih => simp only [Ar.digS, ih, R.like_read h]
theorem like_digW (h : Like d F G) (k : Nat) : R.digW F k = R.digW G k := by
  induction k with
  | zero => rfl
  | succ k ih => simp only [Ar.digW, ih, h.wearAt]
theorem chunk_keep (x : Int) (bs : List UInt8) : (R.chunk F x bs).mask = F.mask ∧ (R.chunk F x bs).far = F.far ∧ (R.chunk F x bs).wear.length = F.wear.length := by
  obtain ⟨e1, e2, e3⟩ := R.erase_keep F x
  obtain ⟨p1, p2, p3⟩ := R.program_keep F x 0 bs
  obtain ⟨q1, q2, q3⟩ := R.program_keep (R.erase F x) x 0 bs
  unfold Ar.chunk
  repeat' split
  all_goals first | exact ⟨rfl, rfl, rfl⟩ | exact ⟨e1, e2, e3⟩ | exact ⟨p1, p2, by rw [p3]⟩ | exact ⟨q1.trans e1, q2.trans e2, by rw [q3, e3]⟩
theorem ringP_keep (b : List UInt8) : (R.ringP F b).mask = F.mask ∧ (R.ringP F b).far = F.far ∧ (R.ringP F b).wear.length = F.wear.length := by
  unfold Ar.ringP
  repeat' split
  all_goals first | exact ⟨rfl, rfl, rfl⟩ | exact R.chunk_keep _ _
theorem upTo_erase {k : Nat} (h : F.upTo k) (s : Int) : (R.erase F s).upTo (k + 1) := by
  have h2 : F.upTo (k + 1) := fun x hx => by have := h x hx; omega
  unfold Ar.erase
  split
  · split
    · exact h2
    · exact Fl.upTo_erase h _
  · exact h2
theorem upTo_program {k : Nat} (h : F.upTo k) (s a : Int) (bs : List UInt8) : (R.program F s a bs).upTo k := by
  unfold Ar.program
  split
  · exact Fl.upTo_program h _ _
  · exact h
theorem upTo_chunk {k : Nat} (h : F.upTo k) (x : Int) (bs : List UInt8) : (R.chunk F x bs).upTo (k + 1) := by
  have h2 : F.upTo (k + 1) := fun x hx => by have := h x hx; omega
  unfold Ar.chunk
  repeat' split
  all_goals first | exact h2 | exact R.upTo_erase h _ | exact R.upTo_program h2 _ _ _ | exact R.upTo_program (R.upTo_erase h _) _ _ _
theorem upTo_ringP {k : Nat} (h : F.upTo k) (b : List UInt8) : (R.ringP F b).upTo (k + 1) := by
  have h2 : F.upTo (k + 1) := fun x hx => by have := h x hx; omega
  unfold Ar.ringP
  repeat' split
  all_goals first | exact h2 | exact R.upTo_chunk h _ _
end
end Ar
end Go.Proofs.Ytlchlcjahndjgaa
