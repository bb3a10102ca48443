/- The reference's constants. -/
import Derived.Test.YtgadnliogceecaaRs1
import Derived.Great.Walk
namespace Go.Proofs.Ytgadnliogceecaa
open Go Go.RowKit
set_option linter.unusedVariables false
set_option linter.unusedSimpArgs false
set_option maxRecDepth 100000 in
theorem rconsts_c (w : World) : Calls Try.prog 65 #[] w fun e w' => e = .returned (.slice (some ⟨w.heap.size, 0, none⟩) 64 64) ∧ Blk w' w.heap.size 61 kVals ∧ Below w.heap.size w w' := by
  go_enter Try.func65, Try.ntmps65
  go_upto_region 1 with fail
  refine wp_region_lit ?_
  refine Great.wpList_buildSliceTo rfl 93 61 64 _ rfl w.heap.size rfl _ rfl Try.underlying93 kVals (by kernel_rfl) ?_
  have hB := Blk.new w 61 kVals
  have hb := (Below.refl w.heap.size w).alloc (Nat.le_refl _) (.cells kVals 61)
  generalize w.alloc (.cells kVals 61) = w1 at hB hb ⊢
  go_wp2_with fail
  go_ret
  exact ⟨rfl, hB, hb⟩
end Go.Proofs.Ytgadnliogceecaa
