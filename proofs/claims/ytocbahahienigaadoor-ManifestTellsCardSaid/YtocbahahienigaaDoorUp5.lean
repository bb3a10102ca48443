/- update.Len, version.May, version.Confirm. -/
import Derived.Test.YtocbahahienigaaDoorUp4
import Derived.Test.YtocbahahienigaaDoorUpA
namespace Go.Proofs.YtocbahahienigaaDoor
open Go Go.RowKit
set_option linter.unusedVariables false
set_option linter.unusedSimpArgs false
attribute [local go_sem ↓] sldI_seal sstI_seal
theorem int_ret5 {a b : Int} (h : a = b) : Ending.returned (Value.int .i64 a) = Ending.returned (Value.int .i64 b) := by rw [h]
/-- May a version come? -/
def Mt.vmay (m : Mt) (v : Int) : Bool := decide (1 ≤ v) && (decide (v ≤ 1073741824) && decide (m.mn ≤ v))
/-- The least version when the other slot is confirmed. -/
def Mt.vconf (m : Mt) : Int := if m.oth.v ≤ 0 then m.mn else max m.mn m.oth.v
end Go.Proofs.YtocbahahienigaaDoor
