/- (*model.Model).Do of no model. -/
import Derived.Test.YtpafenlcgcenlaaDoorMdF
namespace Go.Proofs.YtpafenlcgcenlaaDoor
open Go Go.RowKit
set_option linter.unusedVariables false
set_option linter.unusedSimpArgs false
theorem info_sRp : (Tryd.prog.info? 30).map (·.size) = some 3 := by kernel_rfl
set_option maxRecDepth 100000 in
set_option maxHeartbeats 1000000 in
theorem mdo_nil (w : World) (qk qn : Int) (SB : Option Addr) (sl sc : Nat) : Calls Tryd.prog 6 #[.pointer none, .agg #[.int .i64 qk, .int .i64 qn, .slice SB sl sc]] w fun e w' => e = .returned (.agg #[.int .i64 1, .int .i64 0, .int .i64 0]) ∧ Below w.heap.size w w' := by
  have hb0 : Below w.heap.size w (w.alloc (.cells #[.int .i64 qk, .int .i64 qn, .slice SB sl sc] 33)) := (Below.refl _ _).alloc (Nat.le_refl _) _
  have HB := Lib.hid hb0
  clear hb0
  go_enter Tryd.func6, Tryd.ntmps6
  go_wp2_with fail
  have hn := Blk.new (w.alloc (.cells #[.int .i64 qk, .int .i64 qn, .slice SB sl sc] 33)) 30 #[.int .i64 1, .int .i64 0, .int .i64 0]
  rw [show (w.alloc (.cells #[.int .i64 qk, .int .i64 qn, .slice SB sl sc] 33)).heap.size = w.heap.size + 1 from by simp] at hn
  refine bodyPost_ret (results_cell_row rfl _ _ (w.heap.size + 1) 30 #[.int .i64 1, .int .i64 0, .int .i64 0] (0, 0) _ rfl hn Tryd.underlying30 rfl info_sRp) rfl ?_
  exact ⟨rfl, HB.out.alloc HB.out.size _⟩
end Go.Proofs.YtpafenlcgcenlaaDoor
