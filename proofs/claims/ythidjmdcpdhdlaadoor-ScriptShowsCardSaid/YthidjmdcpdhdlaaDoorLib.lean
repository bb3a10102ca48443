/- Contracts of the library's functions that this seat's programs call, at rows of bytes. -/
import Derived.Test.YthidjmdcpdhdlaaDoorMem
import Derived.Test.YthidjmdcpdhdlaaDoorProg
import Derived.WalkKit
import Derived.WalkSpells
import Derived.WalkLawsBesides
import Derived.Outline
import Derived.Laws.CopyOwn
import Derived.Deep.QuietTactic
import Derived.BigQuiet
import Derived.Lib.Hide
import Derived.Deep.RegionLaw
import Derived.KernelRfl
import Derived.Deep.DeepCutAuto
namespace Go.Proofs.YthidjmdcpdhdlaaDoor
open Go.RowKit
set_option linter.unusedVariables false
set_option linter.unusedSimpArgs false

theorem info_u8 : (Tryd.prog.info? 5).map (fun i => (i.zero, i.size, i.bytes)) = some (some (.int .u8 0), 1, 1) := by kernel_rfl

/-- A new slice of n bytes that is the call's own. -/
def MadeBytes (w : World) (bs : List UInt8) (e : Ending) (w' : World) : Prop :=
  ∃ A c, e = .returned (.slice A bs.length c) ∧ w'.ownsRow w.heap.size 5 1 (.slice A bs.length c) bs.length (bs.map u8v) ∧ Below w.heap.size w w'

/-! ### ContainsFunc, IndexFunc at the tests that the programs hand over -/

/-! ### Repeat, of one byte -/
theorem u64_mask32 (n : Int) (h0 : 0 ≤ n) (h1 : n ≤ 9223372036854775807) : bits .and .u64 n 4294967295 = n % 4294967296 := by
  rw [u64_and n _ h0 (by omega) (by omega) (by omega)]
  rw [show ((4294967295 : Int).toNat) = 4294967295 from rfl, nat_mask32]
  omega
theorem rep_made (n : Nat) : madeCells (Value.int .u8 0).cells (n * 1) = (List.replicate n (u8v 0)).toArray := by
  rw [Nat.mul_one]
  apply Array.ext
  · simp [madeCells]
  · intro i h1 h2
    simp [madeCells, Value.cells, Nat.mod_one]
theorem make_bytes (n : Nat) (hn : n ≤ 1099511627776) (W : World) : (Instr.makeSlice 32 (.int .i64 (n : Int)) (.int .i64 (n : Int))).run Tryd.prog W = .ok (.slice (some ⟨W.heap.size, 0, none⟩) n n) (W.alloc (.cells (List.replicate n (u8v 0)).toArray 5)) := by
  obtain ⟨i0, hi, hz0, hz1, hz2⟩ := info_parts info_u8
  have h := run_make (P := Tryd.prog) W 32 5 i0 _ Tryd.underlying32 hi hz0 .i64 .i64 n n (by omega) (by omega) (by rw [hz2]; omega) (by omega)
  rw [hz1] at h
  simp only [Int.toNat_natCast] at h
  rw [rep_made] at h
  exact h
/-- The row of a Repeat behind m of n bytes. -/
def repRow (c : UInt8) (n m : Nat) : List Value := List.replicate m (u8v c) ++ List.replicate (n - m) (u8v 0)
theorem repRow_len (c : UInt8) (n m : Nat) (h : m ≤ n) : (repRow c n m).length = n := by simp [repRow]; omega
theorem repRow_splice (c : UInt8) (n m k : Nat) (h : m + k ≤ n) : splice (repRow c n m) m (List.replicate k (u8v c)) = repRow c n (m + k) := by
  unfold splice repRow
  rw [List.take_left' (by simp), List.length_replicate, List.drop_append, List.drop_eq_nil_of_le (by simp), List.nil_append, List.length_replicate, List.drop_replicate, ← List.append_assoc, List.replicate_append_replicate]
  congr 2
  omega

end Go.Proofs.YthidjmdcpdhdlaaDoor
