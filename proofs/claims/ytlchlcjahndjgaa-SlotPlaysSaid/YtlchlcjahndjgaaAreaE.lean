/- The contracts of package area over an area of the call's own, with their answers under names. -/
import Derived.Test.YtlchlcjahndjgaaAreaN
import Derived.Test.YtlchlcjahndjgaaNorE
namespace Go.Proofs.Ytlchlcjahndjgaa
open Go.RowKit
set_option linter.unusedVariables false
set_option linter.unusedSimpArgs false

/-- An area of a flash of the call's own. -/
structure HasA (w0 w : World) (ab fb bb wb : Nat) (R : Ar) (F : Fl) : Prop where
  has : Has w0 w fb bb wb F
  area : AreaAt w ab fb R F.wear.length
  ab_ : w0.heap.size ≤ ab
  far : ab ∉ [fb, bb, wb]
section
variable {w0 w w' : World} {ab fb bb wb : Nat} {R : Ar} {F F' : Fl}
theorem HasA.only (h : HasA w0 w ab fb bb wb R F) (hl : F'.wear.length = F.wear.length) (hF : FlashAt w' fb bb wb F') (ho : Only [fb, bb, wb] w w') : HasA w0 w' ab fb bb wb R F' :=
  ⟨h.has.only hF ho, by rw [hl]; exact h.area.only ho h.far, h.ab_, h.far⟩
theorem HasA.alloc (h : HasA w0 w ab fb bb wb R F) (o : Obj) : HasA w0 (w.alloc o) ab fb bb wb R F :=
  ⟨h.has.alloc o, h.area.below ((Below.refl _ _).alloc (Nat.le_refl _) o), h.ab_, h.far⟩
theorem HasA.drewN (h : HasA w0 w ab fb bb wb R F) (n : Nat) : HasA w0 (w.drewN n) ab fb bb wb R F := ⟨h.has.drewN n, h.area.drewN n, h.ab_, h.far⟩
theorem HasA.later (h : HasA w0 w ab fb bb wb R F) (hb : Below w.heap.size w w') : HasA w0 w' ab fb bb wb R F := ⟨h.has.later hb, h.area.below hb, h.ab_, h.far⟩
theorem HasA.with (h : HasA w0 w ab fb bb wb R F) (h2 : Has w0 w' fb bb wb F') (hl : F'.wear.length = F.wear.length) (ho : Only [fb, bb, wb] w w') : HasA w0 w' ab fb bb wb R F' :=
  ⟨h2, by rw [hl]; exact h.area.only ho h.far, h.ab_, h.far⟩

theorem anew_h (r x l b : Int) (n : Nat) (hn : F.wear.length = n) (R : Ar) (hR : Ar.new n x l b = R) (h : Has w0 w fb bb wb F) :
    Calls Try.prog 22 #[ptr fb, .agg #[.int .i64 r, .int .i64 x, .int .i64 l], .int .i64 b] w fun e w' => ∃ ab, e = .returned (ptr ab) ∧ HasA w0 w' ab fb bb wb R F ∧ w.heap.size ≤ ab ∧ Below w.heap.size w w' := by
  subst hn hR
  refine (anew_c w r x l b h.flash).mono ?_
  rintro e w' ⟨ab, rfl, hA, hb, hle⟩
  obtain ⟨h1, h2, h3⟩ := h.flash.lt
  exact ⟨ab, rfl, ⟨h.later hb, hA, Nat.le_trans h.below.size hle, by simp; omega⟩, hle, hb⟩
theorem new_hf (n : Nat) (hn : n ≤ 400) (F : Fl) (hF : Fl.new (n : Int) = F) (hb : Below w0.heap.size w0 w) : Calls Try.prog 20 #[.int .i64 (n : Int)] w fun e w' => ∃ fb bb wb, e = .returned (ptr fb) ∧ Has w0 w' fb bb wb F := by
  subst hF
  exact (new_h n hn hb).mono fun e w' ⟨fb, bb, wb, he, h, _⟩ => ⟨fb, bb, wb, he, h⟩
theorem Ar.program_len (R : Ar) (F : Fl) (s a : Int) (bs : List UInt8) : (R.program F s a bs).wear.length = F.wear.length := by
  unfold Ar.program Fl.program
  split <;> try rfl
  split <;> try rfl
  split <;> try rfl
  split <;> rfl
theorem Ar.erase_len (R : Ar) (F : Fl) (s : Int) : (R.erase F s).wear.length = F.wear.length := by
  unfold Ar.erase Fl.erase
  split <;> try rfl
  split <;> try rfl
  split <;> try rfl
  split
  · show (F.wear.set _ _).length = _
    rw [List.length_set]
  · rfl
theorem aprogram_h (s a : Int) (A : Option Addr) (m c : Nat) (bs : List UInt8) (E : Int) (F' : Fl) (hE : R.programE F s a bs = E) (hF' : R.program F s a bs = F')
    (hr : Reads w A m (bs.map u8v)) (hap : Apart [fb, bb, wb] A) (h : HasA w0 w ab fb bb wb R F) :
    Calls Try.prog 35 #[ptr ab, .int .i64 s, .int .i64 a, .slice A m c] w fun e w' => e = .returned (.int .i64 E) ∧ HasA w0 w' ab fb bb wb R F' ∧ Only [fb, bb, wb] w w' := by
  subst hE hF'
  exact (aprogram_c w s a A m c bs hr hap h.has.flash h.area).mono fun e w' ⟨he, hf, ho⟩ => ⟨he, h.only (Ar.program_len R F s a bs) hf ho, ho⟩
theorem aerase_h (s : Int) (E : Int) (F' : Fl) (hE : R.eraseE F s = E) (hF' : R.erase F s = F') (h : HasA w0 w ab fb bb wb R F) :
    Calls Try.prog 36 #[ptr ab, .int .i64 s] w fun e w' => e = .returned (.int .i64 E) ∧ HasA w0 w' ab fb bb wb R F' ∧ Only [fb, bb, wb] w w' := by
  subst hE hF'
  exact (aerase_c w s h.has.flash h.area).mono fun e w' ⟨he, hf, ho⟩ => ⟨he, h.only (Ar.erase_len R F s) hf ho, ho⟩
theorem aread_h (s a k : Int) (hk : k < 4611686018427387904) (bs : List UInt8) (hb : R.read F s a k = bs) (h : HasA w0 w ab fb bb wb R F) :
    Calls Try.prog 86 #[ptr ab, .int .i64 s, .int .i64 a, .int .i64 k] w fun e w' => ∃ A c, e = .returned (.slice A bs.length c) ∧ w'.ownsRow w.heap.size 5 1 (.slice A bs.length c) bs.length (bs.map u8v) ∧ HasA w0 w' ab fb bb wb R F ∧ Below w.heap.size w w' := by
  subst hb
  exact (aread_c w s a k hk h.has.flash h.area).mono fun e w' ⟨A, c, he, hown, hb⟩ => ⟨A, c, he, hown, h.later hb, hb⟩
end
end Go.Proofs.Ytlchlcjahndjgaa
