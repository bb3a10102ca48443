/- The contracts of package nor over a flash of the call's own, with their answers under names. -/
import Derived.Test.YtlchlcjahndjgaaNorD
import Derived.Test.YtlchlcjahndjgaaNorP
namespace Go.Proofs.Ytlchlcjahndjgaa
open Go.RowKit
set_option linter.unusedVariables false
set_option linter.unusedSimpArgs false

section
variable {w0 w : World} {fb bb wb : Nat} {F : Fl}
theorem program_h (x : Int) (A : Option Addr) (n c : Nat) (bs : List UInt8) (E : Int) (F' : Fl) (hE : F.programE x bs = E) (hF' : F.program x bs = F')
    (hr : Reads w A n (bs.map u8v)) (hap : Apart [fb, bb, wb] A) (hn : n < 4611686018427387904) (h : Has w0 w fb bb wb F) :
    Calls Try.prog 26 #[ptr fb, .int .i64 x, .slice A n c] w fun e w' => e = .returned (.int .i64 E) ∧ Has w0 w' fb bb wb F' := by
  subst hE hF'
  exact (program_c w fb bb wb F x A n c bs h.flash hr hap hn).mono fun e w' ⟨he, hf, ho⟩ => ⟨he, h.only hf ho⟩
theorem read_h (x n : Int) (hn : n < 4611686018427387904) (bs : List UInt8) (hb : F.read x n = bs) (h : Has w0 w fb bb wb F) :
    Calls Try.prog 112 #[ptr fb, .int .i64 x, .int .i64 n] w fun e w' => ∃ A c, e = .returned (.slice A bs.length c) ∧ w'.ownsRow w.heap.size 5 1 (.slice A bs.length c) bs.length (bs.map u8v) ∧ Has w0 w' fb bb wb F ∧ Below w.heap.size w w' := by
  subst hb
  exact (read_c w x n hn h.flash).mono fun e w' ⟨A, c, he, hown, hb⟩ => ⟨A, c, he, hown, h.later hb, hb⟩
theorem erase_h (x : Int) (E : Int) (F' : Fl) (hE : F.eraseE x = E) (hF' : F.erase x = F') (hm : F.wearAt x ≤ 4611686018427387903) (h : Has w0 w fb bb wb F) :
    Calls Try.prog 24 #[ptr fb, .int .i64 x] w fun e w' => e = .returned (.int .i64 E) ∧ Has w0 w' fb bb wb F' := by
  subst hE hF'
  exact (erase_c w fb bb wb F x h.flash hm).mono fun e w' ⟨he, hf, ho⟩ => ⟨he, h.only hf ho⟩
theorem cut_h (x : Int) (hx : x ≤ 9223372036854775807) (A : Option Addr) (n c : Nat) (m : List UInt8) (hm : n ≤ 140737488351232) (F' : Fl) (hF' : F.setCut x m = F') (hr : Reads w A n (m.map u8v)) (h : Has w0 w fb bb wb F) :
    Calls Try.prog 38 #[ptr fb, .int .i64 x, .slice A n c] w fun e w' => e = .returned (.tuple #[]) ∧ Has w0 w' fb bb wb F' := by
  subst hF'
  exact (cut_c w fb bb wb F x hx A n c m hm hr h.flash).mono fun e w' ⟨he, hf, ho⟩ => ⟨he, h.only hf ho⟩
theorem power_h (F' : Fl) (hF' : F.power = F') (h : Has w0 w fb bb wb F) :
    Calls Try.prog 39 #[ptr fb] w fun e w' => e = .returned (.tuple #[]) ∧ Has w0 w' fb bb wb F' := by
  subst hF'
  exact (power_c w fb bb wb F h.flash).mono fun e w' ⟨he, hf, ho⟩ => ⟨he, h.only hf ho⟩
end
theorem own_one {w : World} {base : Nat} {A : Option Addr} {c : Nat} {x : UInt8} (h : w.ownsRow base 5 1 (.slice A 1 c) 1 ([x].map u8v)) :
    ∃ g, A = some ⟨g, 0, none⟩ ∧ base ≤ g ∧ g < w.heap.size ∧ w.cell? ⟨g, 0, none⟩ = some (u8v x) := by
  obtain ⟨g, cap, hv, hb, hlt⟩ := h.form (by omega)
  have hA : A = some ⟨g, 0, none⟩ := by injection hv
  subst hA
  refine ⟨g, rfl, hb, hlt, ?_⟩
  have := h.cells (g := g) rfl 0 (u8v x) rfl
  rw [add_zero_off] at this
  exact this
end Go.Proofs.Ytlchlcjahndjgaa
