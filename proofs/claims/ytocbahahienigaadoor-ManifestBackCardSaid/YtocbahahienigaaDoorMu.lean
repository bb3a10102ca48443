/- Package meta: what may be kept. -/
import Derived.Test.YtocbahahienigaaDoorMt

namespace Go.Proofs.YtocbahahienigaaDoor
open Go Go.RowKit
set_option linter.unusedVariables false
set_option linter.unusedSimpArgs false
attribute [local go_sem ↓] sldI_seal
/-- May an image be? -/
def Img.none (i : Img) : Bool := i.same Img.zero
def Img.may (i : Img) : Bool := if i.v = 0 then i.none else if i.s = 0 then i.none else decide (0 < i.v) && (decide (i.v ≤ 1073741824) && (decide (0 < i.s) && decide (i.s ≤ 1920)))
theorem Img.may_b {i : Img} (h : i.may = true) : (0 ≤ i.v ∧ i.v ≤ 1073741824) ∧ 0 ≤ i.s ∧ i.s ≤ 1920 := by
  have hz : i.none = true → i = Img.zero := fun h => (Img.same_iff _ _).1 h
  unfold Img.may at h
  split at h
  · rw [hz h]; decide
  · split at h
    · rw [hz h]; decide
    · simp at h; omega
def Mt.have_ (m : Mt) (x : Int) : Img := if x = 0 then m.h0 else m.h1
def Mt.oth (m : Mt) : Img := m.have_ (1 - m.act)
def Img.chk (i : Img) : Int := (i.s + 319) / 320
theorem Mt.oth0 {m : Mt} (h : m.act = 0) : m.oth = m.h1 := by unfold Mt.oth Mt.have_; rw [h]; rfl
theorem Mt.oth1 {m : Mt} (h : m.act = 1) : m.oth = m.h0 := by unfold Mt.oth Mt.have_; rw [h]; rfl
def Mt.phaseB (m : Mt) : Bool :=
  if m.ph = 0 then m.cm.none && (m.got == 0 && m.tr == 0)
  else if m.ph = 1 ∨ m.ph = 2 then !m.cm.none && (m.oth.none && (m.tr == 0 && (m.got == m.cm.chk || (m.ph == 1 && decide (m.got < m.cm.chk)))))
  else if m.ph = 3 then m.cm.none && (m.got == 0 && !m.oth.none)
  else false
end Go.Proofs.YtocbahahienigaaDoor
