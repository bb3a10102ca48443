/- A stream of bytes: sha.New. -/
import Derived.Test.YtgadnliogceecaaSha8
namespace Go.Proofs.Ytgadnliogceecaa
open Go.RowKit
set_option linter.unusedVariables false
set_option linter.unusedSimpArgs false

/-- A stream lies at block sb: its state, how many bytes it has had, those that do not fill a block yet. -/
structure StreamAt (w : World) (sb : Nat) (s : St) (n : UInt64) (rest : List UInt8) : Prop where
  obj : ∃ A c, Blk w sb 66 #[u32v s.a, u32v s.b, u32v s.c, u32v s.d, u32v s.e, u32v s.f, u32v s.g, u32v s.h, u64v n, .slice A rest.length c] ∧ Reads w A rest.length (rest.map u8v) ∧ (∀ a, A = some a → a.block ≠ sb ∧ ∃ cs fr, w.heap[a.block]? = some (.cells cs 5 fr))
theorem snew_c (w : World) : Calls Try.prog 15 #[] w fun e w' => ∃ sb, e = .returned (.pointer (some ⟨sb, 0, none⟩)) ∧ StreamAt w' sb St.first 0 [] ∧ w.heap.size ≤ sb ∧ Below w.heap.size w w' := by
  go_enter Try.func15, Try.ntmps15
  go_wp2_with fail
  refine (first_c w).mono ?_
  rintro e w1 ⟨rfl, hb⟩
  have HB := Lib.hid hb
  clear hb
  have hv : St.first.vals = #[.int .u32 1779033703, .int .u32 3144134277, .int .u32 1013904242, .int .u32 2773480762, .int .u32 1359893119, .int .u32 2600822924, .int .u32 528734635, .int .u32 1541459225] := by kernel_rfl
  rw [hv]
  clear hv
  go_wp2_with fail
  go_ret
  exact ⟨w1.heap.size, rfl, ⟨none, 0, Blk.new w1 _ _, Reads.none_ _, fun a ha => by cases ha⟩, HB.out.size, HB.out.alloc HB.out.size _⟩
end Go.Proofs.Ytgadnliogceecaa
