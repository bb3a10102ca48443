/- model.New. -/
import Derived.Test.YtpafenlcgcenlaaDoorMdC
import Derived.Test.YtpafenlcgcenlaaDoorMn5
namespace Go.Proofs.YtpafenlcgcenlaaDoor
open Go Go.RowKit
set_option linter.unusedVariables false
set_option linter.unusedSimpArgs false
attribute [local go_sem ↓] sldK_seal sbMd_seal sldI_seal sldM_seal
set_option maxRecDepth 100000 in
set_option maxHeartbeats 2000000 in
theorem mnew_no (w : World) (c : Cf) (K : Option Addr) (kc : Nat) (F : Option Addr) (fc : Nat) (hs : c.nm.size ≤ 1000000) (hno : c.right = false) : Calls Tryd.prog 5 #[.agg (c.cells K kc F fc).toArray] w fun e w' => e = .returned (.pointer none) ∧ Below w.heap.size w w' := by
  have hB0 := Blk.new w 27 (c.cells K kc F fc).toArray
  have hb0 : Below w.heap.size w (w.alloc (.cells (c.cells K kc F fc).toArray 27)) := (Below.refl _ _).alloc (Nat.le_refl _) _
  have hld := run_sldK (c.cells_len K kc F fc) (hB0.whole)
  have hri := fun W => cright_c W c K kc F fc hs
  rw [hno] at hri
  have HL := Lib.hid hb0
  clear hB0 hb0 hno
  go_enter Tryd.func5, Tryd.ntmps5
  go_wp2_with fail
  refine (hri _).mono ?_
  rintro e w1 ⟨rfl, hb1⟩
  have HL1 := Lib.hid (HL.out.trans (hb1.mono HL.out.size))
  clear hb1 hri
  go_wp2_with fail
  go_ret
  exact ⟨rfl, HL1.out⟩
end Go.Proofs.YtpafenlcgcenlaaDoor
