/-
  No cell of these rows narrows 'for every input' (looked for: loops, veiled, ifaces, maps, wideKeys, modest, calm, conditions, laid).
  DERIVED. THE GIVEN ROWS OF THIS SEAT. 7 by the template 'for every input the law returns true; each argument reads behind the call as it read before'; 0 by the template 'total and deterministic' (their statements: YtaanefgkmjdknaaTotals.lean).
  GIVEN WITH THE SEED: the statements are not yours to turn. If you find one false, say at which input.
  Laid BY PROGRAM, IN A SANDBOX (cutbox-rows.mjs): the forced cells as the released guide's own fill.sh prints them over the translation 90692b64b16d46b4… (all of the seat's roots in one cut). By AI agents, Wed Nov 11 2026. No macro, syntax, notation, axiom, sorry.
-/
import Derived.Test.YtaanefgkmjdknaaChecked
import GoSem.Claim
import GoSem.ClaimJoined
import GoSem.ClaimMapViews
import Derived.JoinedTies
import Derived.KernelRfl
namespace Go.Proofs.Ytaanefgkmjdknaa
/- THE CELL 'sum', in the pinned program and in every row, IS THE sha256 OF THE DUMP (.gsa) THAT YtaanefgkmjdknaaProg.lean LOADS. Nothing in Lean hashes anything: it is a label: what it is worth is what the hold of that sum in a sandbox is worth. -/
noncomputable def Try.pinned : Pinned := { name := "ytaanefgkmjdknaa", sum := "90692b64b16d46b4bef3284c49d064bcccad3b2e265ac839e852d7de03c60d57", checked := Try.checked }
namespace Rows
def none {H : Type} : Left H := { results := [], args := [] }

/-- 'waterlinelaw6.NorCuts': WHATEVER THE INPUT: true; the input reads as it did. -/
def norCutsSpec : ChangeSpec := { name := "norCuts", fn := fun _ => fun
  | [d1, d2, d3, d4] => { results := [.lit (.bool true)], args := [d1, d2, d3, d4] }
  | _ => none }
def norCutsRow : OpenClaim := { program := "ytaanefgkmjdknaa", sum := "90692b64b16d46b4bef3284c49d064bcccad3b2e265ac839e852d7de03c60d57", func := "waterline/waterlinelaw6.NorCuts", spec := "norCuts", apart := false }
def NorCutsSaid : Prop := norCutsRow.holds Try.pinned (OpenSpec.ofChange norCutsSpec)

/-- ITS FALSE NEIGHBOUR: 'it returns false'. Refute it at one input. -/
def norCutsWrong : ChangeSpec := { name := "norCuts", fn := fun _ => fun
  | [d1, d2, d3, d4] => { results := [.lit (.bool false)], args := [d1, d2, d3, d4] }
  | _ => none }
def NorCutsWrongFalsely : Prop := norCutsRow.holds Try.pinned (OpenSpec.ofChange norCutsWrong)

/-- 'waterlinelaw6.NorBounds': WHATEVER THE INPUT: true; the input reads as it did. -/
def norBoundsSpec : ChangeSpec := { name := "norBounds", fn := fun _ => fun
  | [d1, d2, d3] => { results := [.lit (.bool true)], args := [d1, d2, d3] }
  | _ => none }
def norBoundsRow : OpenClaim := { program := "ytaanefgkmjdknaa", sum := "90692b64b16d46b4bef3284c49d064bcccad3b2e265ac839e852d7de03c60d57", func := "waterline/waterlinelaw6.NorBounds", spec := "norBounds", unfollowed := true, recurses := true, apart := false }
def NorBoundsSaid : Prop := norBoundsRow.holds Try.pinned (OpenSpec.ofChange norBoundsSpec)

/-- ITS FALSE NEIGHBOUR: 'it returns false'. Refute it at one input. -/
def norBoundsWrong : ChangeSpec := { name := "norBounds", fn := fun _ => fun
  | [d1, d2, d3] => { results := [.lit (.bool false)], args := [d1, d2, d3] }
  | _ => none }
def NorBoundsWrongFalsely : Prop := norBoundsRow.holds Try.pinned (OpenSpec.ofChange norBoundsWrong)

/-- 'waterlinelaw6.NorOps': WHATEVER THE INPUT: true; the input reads as it did. -/
def norOpsSpec : ChangeSpec := { name := "norOps", fn := fun _ => fun
  | [d1, d2] => { results := [.lit (.bool true)], args := [d1, d2] }
  | _ => none }
def norOpsRow : OpenClaim := { program := "ytaanefgkmjdknaa", sum := "90692b64b16d46b4bef3284c49d064bcccad3b2e265ac839e852d7de03c60d57", func := "waterline/waterlinelaw6.NorOps", spec := "norOps", apart := false }
def NorOpsSaid : Prop := norOpsRow.holds Try.pinned (OpenSpec.ofChange norOpsSpec)

/-- ITS FALSE NEIGHBOUR: 'it returns false'. Refute it at one input. -/
def norOpsWrong : ChangeSpec := { name := "norOps", fn := fun _ => fun
  | [d1, d2] => { results := [.lit (.bool false)], args := [d1, d2] }
  | _ => none }
def NorOpsWrongFalsely : Prop := norOpsRow.holds Try.pinned (OpenSpec.ofChange norOpsWrong)

/-- 'waterlinelaw6.NorBits': WHATEVER THE INPUT: true; the input reads as it did. -/
def norBitsSpec : ChangeSpec := { name := "norBits", fn := fun _ => fun
  | [d1, d2, d3] => { results := [.lit (.bool true)], args := [d1, d2, d3] }
  | _ => none }
def norBitsRow : OpenClaim := { program := "ytaanefgkmjdknaa", sum := "90692b64b16d46b4bef3284c49d064bcccad3b2e265ac839e852d7de03c60d57", func := "waterline/waterlinelaw6.NorBits", spec := "norBits", unfollowed := true, recurses := true, apart := false }
def NorBitsSaid : Prop := norBitsRow.holds Try.pinned (OpenSpec.ofChange norBitsSpec)

/-- ITS FALSE NEIGHBOUR: 'it returns false'. Refute it at one input. -/
def norBitsWrong : ChangeSpec := { name := "norBits", fn := fun _ => fun
  | [d1, d2, d3] => { results := [.lit (.bool false)], args := [d1, d2, d3] }
  | _ => none }
def NorBitsWrongFalsely : Prop := norBitsRow.holds Try.pinned (OpenSpec.ofChange norBitsWrong)

/-- 'waterlinelaw14.WearOne': WHATEVER THE INPUT: true; the input reads as it did. -/
def wearOneSpec : ChangeSpec := { name := "wearOne", fn := fun _ => fun
  | [d1, d2] => { results := [.lit (.bool true)], args := [d1, d2] }
  | _ => none }
def wearOneRow : OpenClaim := { program := "ytaanefgkmjdknaa", sum := "90692b64b16d46b4bef3284c49d064bcccad3b2e265ac839e852d7de03c60d57", func := "waterline/waterlinelaw14.WearOne", spec := "wearOne", apart := false }
def WearOneSaid : Prop := wearOneRow.holds Try.pinned (OpenSpec.ofChange wearOneSpec)

/-- ITS FALSE NEIGHBOUR: 'it returns false'. Refute it at one input. -/
def wearOneWrong : ChangeSpec := { name := "wearOne", fn := fun _ => fun
  | [d1, d2] => { results := [.lit (.bool false)], args := [d1, d2] }
  | _ => none }
def WearOneWrongFalsely : Prop := wearOneRow.holds Try.pinned (OpenSpec.ofChange wearOneWrong)

/-- 'waterlinelaw7.AreaBudget': WHATEVER THE INPUT: true; the input reads as it did. -/
def areaBudgetSpec : ChangeSpec := { name := "areaBudget", fn := fun _ => fun
  | [d1, d2] => { results := [.lit (.bool true)], args := [d1, d2] }
  | _ => none }
def areaBudgetRow : OpenClaim := { program := "ytaanefgkmjdknaa", sum := "90692b64b16d46b4bef3284c49d064bcccad3b2e265ac839e852d7de03c60d57", func := "waterline/waterlinelaw7.AreaBudget", spec := "areaBudget", apart := false }
def AreaBudgetSaid : Prop := areaBudgetRow.holds Try.pinned (OpenSpec.ofChange areaBudgetSpec)

/-- ITS FALSE NEIGHBOUR: 'it returns false'. Refute it at one input. -/
def areaBudgetWrong : ChangeSpec := { name := "areaBudget", fn := fun _ => fun
  | [d1, d2] => { results := [.lit (.bool false)], args := [d1, d2] }
  | _ => none }
def AreaBudgetWrongFalsely : Prop := areaBudgetRow.holds Try.pinned (OpenSpec.ofChange areaBudgetWrong)

/-- 'waterlinelaw7.AreaSector': WHATEVER THE INPUT: true; the input reads as it did. -/
def areaSectorSpec : ChangeSpec := { name := "areaSector", fn := fun _ => fun
  | [d1, d2, d3] => { results := [.lit (.bool true)], args := [d1, d2, d3] }
  | _ => none }
def areaSectorRow : OpenClaim := { program := "ytaanefgkmjdknaa", sum := "90692b64b16d46b4bef3284c49d064bcccad3b2e265ac839e852d7de03c60d57", func := "waterline/waterlinelaw7.AreaSector", spec := "areaSector", apart := false }
def AreaSectorSaid : Prop := areaSectorRow.holds Try.pinned (OpenSpec.ofChange areaSectorSpec)

/-- ITS FALSE NEIGHBOUR: 'it returns false'. Refute it at one input. -/
def areaSectorWrong : ChangeSpec := { name := "areaSector", fn := fun _ => fun
  | [d1, d2, d3] => { results := [.lit (.bool false)], args := [d1, d2, d3] }
  | _ => none }
def AreaSectorWrongFalsely : Prop := areaSectorRow.holds Try.pinned (OpenSpec.ofChange areaSectorWrong)

/- THE SECOND FORM. 'bulk': how many values and letters a reading holds, each counted each time it is reached (what is shared counts as often as it is met; a slice's spare places count too). A statement '..UptoSaid' is the law's where the arguments, and the package variables that the reading takes, are together of bulk at most 1048576: NARROWER than '..Said'. Prove '..Said' where nothing that the law and all that it calls make is longer than what came in: it says more and counts as full. Else prove '..UptoSaid'. A law counts once. -/
mutual
def uptoBulk {H : Type} : DataW H → Nat
  | .lit (.string bytes) => bytes.length + 1
  | .lit _ => 1
  | .nil => 1
  | .ptr d => uptoBulk d + 1
  | .slice elems spare => uptoBulkAll elems + uptoBulkAll spare + 1
  | .agg parts => uptoBulkAll parts + 1
  | .iface _ d => uptoBulk d + 1
  | .map entries => uptoBulkEntries entries + 1
  | .held _ => 1
def uptoBulkAll {H : Type} : List (DataW H) → Nat
  | [] => 0
  | d :: r => uptoBulk d + uptoBulkAll r
def uptoBulkEntries {H : Type} : List (Lit × DataW H) → Nat
  | [] => 0
  | x :: r => uptoBulkEntry x + uptoBulkEntries r
def uptoBulkEntry {H : Type} : Lit × DataW H → Nat
  | (.string bytes, d) => bytes.length + uptoBulk d + 1
  | (_, d) => uptoBulk d + 1
 end
def uptoSmall : (H : Type) → List (DataW H) → Bool := fun _ ds => decide (uptoBulkAll ds ≤ 1048576)
def OpenSpec.upto (s : _root_.Go.ChangeSpec) : _root_.Go.OpenSpec := { _root_.Go.OpenSpec.ofChange s with cond := some uptoSmall }

/-- 'waterlinelaw6.NorCuts', WHERE WHAT IT READS IS OF BULK AT MOST 1048576: true; the input reads as it did. -/
def norCutsUptoRow : OpenClaim := { program := "ytaanefgkmjdknaa", sum := "90692b64b16d46b4bef3284c49d064bcccad3b2e265ac839e852d7de03c60d57", func := "waterline/waterlinelaw6.NorCuts", spec := "norCuts", apart := false, narrowed := true }
def NorCutsUptoSaid : Prop := norCutsUptoRow.holds Try.pinned (OpenSpec.upto norCutsSpec)

/-- 'waterlinelaw6.NorBounds', WHERE WHAT IT READS IS OF BULK AT MOST 1048576: true; the input reads as it did. -/
def norBoundsUptoRow : OpenClaim := { program := "ytaanefgkmjdknaa", sum := "90692b64b16d46b4bef3284c49d064bcccad3b2e265ac839e852d7de03c60d57", func := "waterline/waterlinelaw6.NorBounds", spec := "norBounds", unfollowed := true, recurses := true, apart := false, narrowed := true }
def NorBoundsUptoSaid : Prop := norBoundsUptoRow.holds Try.pinned (OpenSpec.upto norBoundsSpec)

/-- 'waterlinelaw6.NorOps', WHERE WHAT IT READS IS OF BULK AT MOST 1048576: true; the input reads as it did. -/
def norOpsUptoRow : OpenClaim := { program := "ytaanefgkmjdknaa", sum := "90692b64b16d46b4bef3284c49d064bcccad3b2e265ac839e852d7de03c60d57", func := "waterline/waterlinelaw6.NorOps", spec := "norOps", apart := false, narrowed := true }
def NorOpsUptoSaid : Prop := norOpsUptoRow.holds Try.pinned (OpenSpec.upto norOpsSpec)

/-- 'waterlinelaw6.NorBits', WHERE WHAT IT READS IS OF BULK AT MOST 1048576: true; the input reads as it did. -/
def norBitsUptoRow : OpenClaim := { program := "ytaanefgkmjdknaa", sum := "90692b64b16d46b4bef3284c49d064bcccad3b2e265ac839e852d7de03c60d57", func := "waterline/waterlinelaw6.NorBits", spec := "norBits", unfollowed := true, recurses := true, apart := false, narrowed := true }
def NorBitsUptoSaid : Prop := norBitsUptoRow.holds Try.pinned (OpenSpec.upto norBitsSpec)

/-- 'waterlinelaw14.WearOne', WHERE WHAT IT READS IS OF BULK AT MOST 1048576: true; the input reads as it did. -/
def wearOneUptoRow : OpenClaim := { program := "ytaanefgkmjdknaa", sum := "90692b64b16d46b4bef3284c49d064bcccad3b2e265ac839e852d7de03c60d57", func := "waterline/waterlinelaw14.WearOne", spec := "wearOne", apart := false, narrowed := true }
def WearOneUptoSaid : Prop := wearOneUptoRow.holds Try.pinned (OpenSpec.upto wearOneSpec)

/-- 'waterlinelaw7.AreaBudget', WHERE WHAT IT READS IS OF BULK AT MOST 1048576: true; the input reads as it did. -/
def areaBudgetUptoRow : OpenClaim := { program := "ytaanefgkmjdknaa", sum := "90692b64b16d46b4bef3284c49d064bcccad3b2e265ac839e852d7de03c60d57", func := "waterline/waterlinelaw7.AreaBudget", spec := "areaBudget", apart := false, narrowed := true }
def AreaBudgetUptoSaid : Prop := areaBudgetUptoRow.holds Try.pinned (OpenSpec.upto areaBudgetSpec)

/-- 'waterlinelaw7.AreaSector', WHERE WHAT IT READS IS OF BULK AT MOST 1048576: true; the input reads as it did. -/
def areaSectorUptoRow : OpenClaim := { program := "ytaanefgkmjdknaa", sum := "90692b64b16d46b4bef3284c49d064bcccad3b2e265ac839e852d7de03c60d57", func := "waterline/waterlinelaw7.AreaSector", spec := "areaSector", apart := false, narrowed := true }
def AreaSectorUptoSaid : Prop := areaSectorUptoRow.holds Try.pinned (OpenSpec.upto areaSectorSpec)

end Rows
end Go.Proofs.Ytaanefgkmjdknaa
