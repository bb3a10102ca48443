/- The reference: PutCell, PutRing. -/
import Derived.Test.YtlchlcjahndjgaaRfM
import Derived.Test.YtlchlcjahndjgaaRfL
namespace Go.Proofs.Ytlchlcjahndjgaa
open Go.RowKit
set_option linter.unusedVariables false
set_option linter.unusedSimpArgs false
section
variable {w0 w : World} {ab fb bb wb : Nat} {R : Ar} {G : RF}
theorem raerase_h (s : Int) (E : Int) (F' : Fl) (hE : R.eraseE G.fl s = E) (hF' : R.erase G.fl s = F') (h : RHasA w0 w ab fb bb wb R G) :
    Calls Try.prog 90 #[ptr ab, .int .i64 s] w fun e w' => e = .returned (.int .i64 E) ∧ ∃ G', G'.fl = F' ∧ RHasA w0 w' ab fb bb wb R G' ∧ Only [fb, bb, wb] w w' ∧ G'.mask = G.mask ∧ G'.far = G.far := by
  subst hE hF'
  obtain ⟨h1, h2, h3, h4⟩ := Ar.rerase_keep R G h.calm s
  exact (raerase_c w s h.flash h.calm h.area).mono fun e w' ⟨he, hf, ho⟩ => ⟨he, _, Ar.rerase_fl R G h.calm s, h.only h3 h4 hf ho, ho, h1, h2⟩
theorem raprogram_h (s a : Int) (A : Option Addr) (m c : Nat) (bs : List UInt8) (E : Int) (F' : Fl) (hE : R.programE G.fl s a bs = E) (hF' : R.program G.fl s a bs = F')
    (hr : Reads w A m (bs.map u8v)) (hap : 0 < m → Apart [fb, bb, wb] A) (h : RHasA w0 w ab fb bb wb R G) :
    Calls Try.prog 91 #[ptr ab, .int .i64 s, .int .i64 a, .slice A m c] w fun e w' => e = .returned (.int .i64 E) ∧ ∃ G', G'.fl = F' ∧ RHasA w0 w' ab fb bb wb R G' ∧ Only [fb, bb, wb] w w' ∧ G'.mask = G.mask ∧ G'.far = G.far := by
  subst hE hF'
  obtain ⟨h1, h2, h3, h4⟩ := Ar.rprogram_keep R G h.calm s a bs
  exact (raprogram_c w s a A m c bs hr hap h.flash h.calm h.area).mono fun e w' ⟨he, hf, ho⟩ => ⟨he, _, Ar.rprogram_fl R G h.calm s a bs, h.only (by rw [h3]) h4 hf ho, ho, h1, h2⟩
theorem rablank_h (s : Int) (B : Bool) (hB : R.blank G.fl s = B) (h : RHasA w0 w ab fb bb wb R G) :
    Calls Try.prog 82 #[ptr ab, .int .i64 s] w fun e w' => e = .returned (.bool B) ∧ RHasA w0 w' ab fb bb wb R G ∧ Below w.heap.size w w' :=
  (rablank_c w s h.flash h.area).mono fun e w' ⟨h1, n, h2⟩ => by
    subst h2
    exact ⟨by rw [h1, hB], h.drewN n, below_drewN (Below.refl _ _) n⟩
def RPut (w0 w : World) (ab fb bb wb : Nat) (R : Ar) (G : RF) (E : Int) (F' : Fl) (e : Ending) (w' : World) : Prop :=
  e = .returned (.int .i64 E) ∧ ∃ G', G'.fl = F' ∧ RHasA w0 w' ab fb bb wb R G' ∧ Only [fb, bb, wb] w w' ∧ G'.mask = G.mask ∧ G'.far = G.far
end
end Go.Proofs.Ytlchlcjahndjgaa
