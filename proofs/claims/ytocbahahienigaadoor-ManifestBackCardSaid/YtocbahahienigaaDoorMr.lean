/- meta.Right: may a Meta be? -/
import Derived.Test.YtocbahahienigaaDoorMu
namespace Go.Proofs.YtocbahahienigaaDoor
open Go Go.RowKit
set_option linter.unusedVariables false
set_option linter.unusedSimpArgs false
attribute [local go_sem ↓] sldI_seal
def Mt.right (m : Mt) : Bool :=
  decide (0 ≤ m.act) && (decide (m.act ≤ 1) && (m.h0.may && (m.h1.may && (m.cm.may && (!(m.have_ m.act).none && (decide (0 ≤ m.mn) && (decide (m.mn ≤ 1073741824) && (decide (0 ≤ m.got) && (decide (m.got ≤ 6) && (decide (0 ≤ m.tr) && (decide (m.tr ≤ 2) && m.phaseB)))))))))))
end Go.Proofs.YtocbahahienigaaDoor
