/- Rows and strings: what a slice reads as a string; a row of the call's own. -/
import Derived.Test.YtpafenlcgcenlaaGreatDoorLib
import Derived.Lib.SlBytesConst
import Derived.Stop.BytesEq
import Derived.Lib.SmallJoins
import Derived.Lib.BufferRead
namespace Go.Proofs.YtpafenlcgcenlaaGreatDoor
open Go Go.RowKit
set_option linter.unusedVariables false
/-- A string of what a slice reads. -/
theorem strAny (w : World) (A : Option Addr) (n cap : Nat) (d : List UInt8) (h : Reads w A n (d.map u8v)) :
    (convert 22 9 (.slice A n cap)).run Tryz.prog w = .ok (.string ⟨d.toArray⟩) w := by
  have hn : d.length = n := by simpa using h.len
  rcases Nat.eq_zero_or_pos n with h0 | h0
  · subst h0
    have hd : d = [] := List.eq_nil_of_length_eq_zero hn
    subst hd
    rcases A with _ | a
    · exact Lib.run_convert_nil_bytes w 22 9 5 cap Tryz.underlying22 Tryz.underlying5 Tryz.underlying9
    · exact run_convert_bytes_back w 22 9 5 a cap [] Tryz.underlying22 Tryz.underlying5 Tryz.underlying9 (fun j hj => by simp at hj)
  · obtain ⟨b, o, rfl, _, hc⟩ := h.2 h0
    subst hn
    refine run_convert_bytes_back w 22 9 5 ⟨b, o, none⟩ cap d Tryz.underlying22 Tryz.underlying5 Tryz.underlying9 (fun j hj => ?_)
    rw [add_off]
    have := hc j (u8v d[j]) (by simp [hj])
    simpa using this
theorem rowReads (w : World) (l : List UInt8) (t : TypeId) (fr : Nat × Nat) : Reads (w.alloc (.cells (l.map u8v).toArray t fr)) (some ⟨w.heap.size, 0, none⟩) l.length (l.map u8v) := by
  refine ⟨by simp, fun _ => ⟨w.heap.size, 0, rfl, by simp, fun j u hu => ?_⟩⟩
  rw [cell_of_row _ w.heap.size (0 + j) (l.map u8v).toArray t fr (by show (w.heap.push _)[w.heap.size]? = _; simp)]
  simpa using hu
end Go.Proofs.YtpafenlcgcenlaaGreatDoor
