/- field.Writer: Num, Raw, Bytes. -/
import Derived.Test.YtpafenlcgcenlaaGreatDoorDual
import Derived.Deep.RegionLaw
import Derived.Laws.Shifts
import Derived.Laws.CopyOwn
namespace Go.Proofs.YtpafenlcgcenlaaGreatDoor
open Go.RowKit
set_option linter.unusedVariables false
set_option linter.unusedSimpArgs false
/-- The lowest bytes of a number, the highest first. -/
def be (N size : Nat) : List UInt8 := (List.range size).map fun j => UInt8.ofNat (N / 256 ^ (size - 1 - j))
theorem be_len (N size : Nat) : (be N size).length = size := by simp [be]
theorem be_step (N size k : Nat) (hk : k < size) : (be N size).take (k + 1) = (be N size).take k ++ [UInt8.ofNat (N / 256 ^ (size - 1 - k))] := by
  rw [List.take_add_one]
  congr 1
  unfold be
  rw [List.getElem?_map, List.getElem?_range hk]
  rfl
theorem be_val (N j : Nat) : IntKind.u8.wrap ((N : Int) / 2 ^ (8 * j)) = (((UInt8.ofNat (N / 256 ^ j)).toNat : Nat) : Int) := by
  have e : ((N : Int) / 2 ^ (8 * j)) = ((N / 256 ^ j : Nat) : Int) := by
    rw [Int.natCast_ediv, Int.pow_mul]
    norm_cast
  rw [e, UInt8.toNat_ofNat']
  simp [IntKind.wrap, IntKind.bits, IntKind.signed]
theorem Reads.srcf {w : World} {A : Option Addr} {n : Nat} {xs : List Value} (h : Reads w A n xs) : 0 < xs.length → ∃ x, A = some x ∧ ∀ j v, xs[j]? = some v → w.cell? (x.add j) = some v := by
  intro hn
  obtain ⟨b, o, e, _, hc⟩ := h.2 (by have := h.1; omega)
  exact ⟨_, e, fun j v hv => by rw [add_off]; exact hc j v hv⟩
theorem info_s8f : (Tryz.prog.info? 5).map (·.size) = some 1 := by kernel_rfl
/-- The first n of some bytes, then bytes 0. -/
def padTo (l : List UInt8) (n : Nat) : List UInt8 := l.take n ++ List.replicate (n - l.length) 0
theorem padTo_len (l : List UInt8) (n : Nat) : (padTo l n).length = n := by simp [padTo]; omega
end Go.Proofs.YtpafenlcgcenlaaGreatDoor
