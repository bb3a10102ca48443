/- Walks of package nor, third part: Program, Erase, Cut, Power, New. -/
import Derived.Test.YtpafenlcgcenlaaGreatDoorNorB
namespace Go.Proofs.YtpafenlcgcenlaaGreatDoor
open Go.RowKit
set_option linter.unusedVariables false
set_option linter.unusedSimpArgs false

theorem u8_andn (c x : UInt8) : bits .andNot .u8 (c.toNat : Int) (x.toNat : Int) = ((c &&& ~~~x).toNat : Int) := by
  rw [u8_andNot_nat _ _ c.toNat_lt x.toNat_lt, UInt8.toNat_and, UInt8.toNat_not]; rfl
def Fl.mayTo (F : Fl) (a : Nat) (bs : List UInt8) (k : Nat) : Bool := (List.range k).all fun i => bs.getD i 0 &&& ~~~(F.b.getD (a + i) 0) == 0
theorem Fl.mayTo_succ (F : Fl) (a : Nat) (bs : List UInt8) (k : Nat) : F.mayTo a bs (k + 1) = (F.mayTo a bs k && (bs.getD k 0 &&& ~~~(F.b.getD (a + k) 0) == 0)) := by
  simp [Fl.mayTo, List.range_succ]
theorem Fl.may_not {F : Fl} {a : Nat} {bs : List UInt8} {k : Nat} (hk : k < bs.length) (h : (bs.getD k 0 &&& ~~~(F.b.getD (a + k) 0) == 0) = false) : F.may a bs = false := by
  unfold Fl.may
  rw [List.all_eq_false]
  exact ⟨k, List.mem_range.2 hk, by rw [h]; simp⟩
theorem bne_u8 (x : UInt8) : (((x.toNat : Int)) != 0) = !(x == 0) := by
  have : ((x.toNat : Int) == 0) = (x == 0) := by
    rw [Bool.eq_iff_iff]; simp only [beq_iff_eq]
    constructor
    · intro h; exact UInt8.toNat_inj.1 (by simpa using h)
    · rintro rfl; rfl
  simp only [bne, this]

end Go.Proofs.YtpafenlcgcenlaaGreatDoor
