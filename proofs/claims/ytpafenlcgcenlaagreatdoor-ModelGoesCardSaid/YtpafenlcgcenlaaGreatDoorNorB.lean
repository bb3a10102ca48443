/- Walks of package nor, second part: what writes. -/
import Derived.Test.YtpafenlcgcenlaaGreatDoorNorA
import Derived.Test.YtpafenlcgcenlaaGreatDoorQTail
import Derived.KernelRfl
namespace Go.Proofs.YtpafenlcgcenlaaGreatDoor
open Go.RowKit
set_option linter.unusedVariables false
set_option linter.unusedSimpArgs false

section
variable {w : World} {fb bb wb : Nat} {F : Fl}
end

theorem u8_mix (x c m : UInt8) : bits .xor .u8 (x.toNat : Int) (bits .andNot .u8 (bits .xor .u8 (x.toNat : Int) (c.toNat : Int)) (m.toNat : Int)) = ((mixB x c m).toNat : Int) := by
  have hx := x.toNat_lt; have hc := c.toNat_lt; have hm := m.toNat_lt
  rw [u8_xor_nat _ _ hx hc]
  have h1 : x.toNat ^^^ c.toNat < 256 := Nat.xor_lt_two_pow (n := 8) hx hc
  rw [u8_andNot_nat _ _ h1 hm]
  have h2 : (x.toNat ^^^ c.toNat) &&& (255 - m.toNat) < 256 := Nat.and_lt_two_pow (n := 8) _ (by omega)
  rw [u8_xor_nat _ _ hx h2]
  unfold mixB
  rw [UInt8.toNat_xor, UInt8.toNat_and, UInt8.toNat_xor, UInt8.toNat_not]
  rfl

/-- The flash behind k of the bytes of a work. -/
def Fl.part (F : Fl) (a : Nat) (bs : List UInt8) (k : Nat) : Fl :=
  { F with b := laid F.b a (bs.take k) (fun i => F.stays i (F.cut == 0)), cut := if 0 ≤ F.cut then F.cut - 1 else F.cut, ops := wrap64 (F.ops + 1) }
theorem Fl.part_ok {F : Fl} (h : F.Ok) (a : Nat) (bs : List UInt8) (k : Nat) : (F.part a bs k).Ok := by
  have := Fl.work_ok h a (bs.take k)
  exact ⟨this.len, this.most, this.cut0, this.cut1, this.mask, this.wear⟩
theorem Fl.part_zero (F : Fl) (a : Nat) (bs : List UInt8) : F.part a bs 0 = { F with cut := if 0 ≤ F.cut then F.cut - 1 else F.cut, ops := wrap64 (F.ops + 1) } := by
  simp [Fl.part, laid_nil]
theorem Fl.part_step (F : Fl) (a : Nat) (bs : List UInt8) (k : Nat) (hk : k < bs.length) (hb : a + bs.length ≤ F.b.length) :
    { F.part a bs k with b := (F.part a bs k).b.set (a + k) (mixB (F.b[a + k]'(by omega)) bs[k] (F.stays k (F.cut == 0))) } = F.part a bs (k + 1) := by
  have := laid_step F.b a bs (fun i => F.stays i (F.cut == 0)) k hk hb
  simp only [Fl.part, Fl.mk.injEq, and_true, true_and]
  exact this
theorem Fl.part_all (F : Fl) (a : Nat) (bs : List UInt8) : F.part a bs bs.length = { F with b := laid F.b a bs (fun i => F.stays i (F.cut == 0)), cut := if 0 ≤ F.cut then F.cut - 1 else F.cut, ops := wrap64 (F.ops + 1) } := by
  simp [Fl.part]

theorem Fl.part_len (F : Fl) (a : Nat) (bs : List UInt8) (k : Nat) : (F.part a bs k).b.length = F.b.length := by simp [Fl.part, laid_length]
theorem Fl.work_of_part (F : Fl) (a : Nat) (bs : List UInt8) (hq : (F.cut == 0) = false) : F.work a bs = F.part a bs bs.length := by
  simp [Fl.work, Fl.part, hq]
theorem Fl.work_of_part' (F : Fl) (a : Nat) (bs : List UInt8) (hq : (F.cut == 0) = true) : F.work a bs = { F.part a bs bs.length with off := true } := by
  simp [Fl.work, Fl.part, hq]
theorem bytes_at {w : World} {A : Option Addr} {n k : Nat} {bs : List UInt8} (hr : Reads w A n (bs.map u8v)) (hk : k < bs.length) : ∃ b o, A = some ⟨b, o, none⟩ ∧ b < w.heap.size ∧ w.cell? ⟨b, o + k, none⟩ = some (u8v bs[k]) := by
  obtain ⟨b, o, u, hA, hb, hu, hc⟩ := hr.at_ (k := k) (by have := hr.len; simp at this; omega)
  rw [List.getElem?_map, List.getElem?_eq_getElem hk] at hu
  simp only [Option.map_some, Option.some.injEq] at hu
  subst hu
  exact ⟨b, o, hA, hb, hc⟩

end Go.Proofs.YtpafenlcgcenlaaGreatDoor
