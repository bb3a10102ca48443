/-
  NARROWER THAN 'FOR EVERY INPUT', by the rows' own cells (each row's printed sentence says how): UpdateDoes: laid · UpdateRight: laid · UpdateWorn: laid · UpdateGoes: laid · UpdateStates: laid · UpdateChunks: laid.
  DERIVED. THE GIVEN ROWS OF THIS SEAT. 6 by the template 'for every input the law returns true; each argument reads behind the call as it read before'; 0 by the template 'total and deterministic' (their statements: YtpbdglocfjbbfaaDoorTotals.lean).
  GIVEN WITH THE SEED: the statements are not yours to turn. If you find one false, say at which input.
  Laid BY PROGRAM, IN A SANDBOX (cutbox-rows.mjs): the forced cells as the released guide's own fill.sh prints them over the translation 4009cff13f9e3506… (all of the seat's roots in one cut). By AI agents, Wed Nov 11 2026. No macro, syntax, notation, axiom, sorry.
-/
import Derived.Test.YtpbdglocfjbbfaaDoorChecked
import GoSem.PinnedTables
import GoSem.Claim
import GoSem.ClaimJoined
import GoSem.ClaimMapViews
import Derived.JoinedTies
import Derived.KernelRfl
namespace Go.Proofs.YtpbdglocfjbbfaaDoor
/- THE CELL 'sum', in the pinned program and in every row, IS THE sha256 OF THE DUMP (.gsa) THAT YtpbdglocfjbbfaaDoorProg.lean LOADS. Nothing in Lean hashes anything: it is a label: what it is worth is what the hold of that sum in a sandbox is worth. -/
noncomputable def Tryd.pinned : Pinned := { name := "ytpbdglocfjbbfaadoor", sum := "4009cff13f9e35063d7297a7bffbaeceb4034533ebdd204ff901cb9def388385", checked := Tryd.checked }
namespace Rows
def none {H : Type} : Left H := { results := [], args := [] }

/- WHAT THE LISTED PACKAGE-LEVEL VARIABLES READ AS WHEN THE CALL BEGINS. Each datum BY PROGRAM (the guide's laid-datum.mjs) off the statement by which the dump's own 'gosem.cut.vars' lays the variable. In a bare row this is a premise. The card (YtpbdglocfjbbfaaDoorCards.lean) ties it to the program's text. -/
def laid_unicode_utf8_acceptRanges {H : Type} : DataW H := .agg [.agg [.lit (.int .u8 128), .lit (.int .u8 191)], .agg [.lit (.int .u8 160), .lit (.int .u8 191)], .agg [.lit (.int .u8 128), .lit (.int .u8 159)], .agg [.lit (.int .u8 144), .lit (.int .u8 191)], .agg [.lit (.int .u8 128), .lit (.int .u8 143)], .agg [.lit (.int .u8 0), .lit (.int .u8 0)], .agg [.lit (.int .u8 0), .lit (.int .u8 0)], .agg [.lit (.int .u8 0), .lit (.int .u8 0)], .agg [.lit (.int .u8 0), .lit (.int .u8 0)], .agg [.lit (.int .u8 0), .lit (.int .u8 0)], .agg [.lit (.int .u8 0), .lit (.int .u8 0)], .agg [.lit (.int .u8 0), .lit (.int .u8 0)], .agg [.lit (.int .u8 0), .lit (.int .u8 0)], .agg [.lit (.int .u8 0), .lit (.int .u8 0)], .agg [.lit (.int .u8 0), .lit (.int .u8 0)], .agg [.lit (.int .u8 0), .lit (.int .u8 0)]]
/-- One of Go's own tables, pinned by name: the form's constant. -/
def laid_unicode_utf8_first : DataW Unit := Go.Pinned.utf8First

/-- 'waterlinelaw17.UpdateDoes': WHATEVER THE INPUT: true; the input reads as it did. -/
def updateDoesSpec : ChangeSpec := { name := "updateDoes", fn := fun _ => fun
  | [d1, d2, d3, d4, d5, d6] => { results := [.lit (.bool true)], args := [d1, d2, d3, d4, d5, d6] }
  | _ => none }
def updateDoesRow : OpenClaim := { program := "ytpbdglocfjbbfaadoor", sum := "4009cff13f9e35063d7297a7bffbaeceb4034533ebdd204ff901cb9def388385", func := "waterline/waterlinelaw17.UpdateDoes", spec := "updateDoes", inPlace := ["internal/bytealg.IndexByteString", "internal/bytealg.IndexString"], named := ["unicode/utf8.first", "unicode/utf8.acceptRanges", "internal/bytealg.MaxLen"], apart := false, laid := [("unicode/utf8.acceptRanges", laid_unicode_utf8_acceptRanges), ("unicode/utf8.first", laid_unicode_utf8_first)] }
def UpdateDoesSaid : Prop := updateDoesRow.holds Tryd.pinned (OpenSpec.ofChange updateDoesSpec)

/-- ITS FALSE NEIGHBOUR: 'it returns false'. Refute it at one input. -/
def updateDoesWrong : ChangeSpec := { name := "updateDoes", fn := fun _ => fun
  | [d1, d2, d3, d4, d5, d6] => { results := [.lit (.bool false)], args := [d1, d2, d3, d4, d5, d6] }
  | _ => none }
def UpdateDoesWrongFalsely : Prop := updateDoesRow.holds Tryd.pinned (OpenSpec.ofChange updateDoesWrong)

/-- 'waterlinelaw17.UpdateRight': WHATEVER THE INPUT: true; the input reads as it did. -/
def updateRightSpec : ChangeSpec := { name := "updateRight", fn := fun _ => fun
  | [d1, d2, d3, d4] => { results := [.lit (.bool true)], args := [d1, d2, d3, d4] }
  | _ => none }
def updateRightRow : OpenClaim := { program := "ytpbdglocfjbbfaadoor", sum := "4009cff13f9e35063d7297a7bffbaeceb4034533ebdd204ff901cb9def388385", func := "waterline/waterlinelaw17.UpdateRight", spec := "updateRight", inPlace := ["internal/bytealg.IndexByteString", "internal/bytealg.IndexString"], named := ["unicode/utf8.first", "unicode/utf8.acceptRanges", "internal/bytealg.MaxLen"], apart := false, laid := [("unicode/utf8.acceptRanges", laid_unicode_utf8_acceptRanges), ("unicode/utf8.first", laid_unicode_utf8_first)] }
def UpdateRightSaid : Prop := updateRightRow.holds Tryd.pinned (OpenSpec.ofChange updateRightSpec)

/-- ITS FALSE NEIGHBOUR: 'it returns false'. Refute it at one input. -/
def updateRightWrong : ChangeSpec := { name := "updateRight", fn := fun _ => fun
  | [d1, d2, d3, d4] => { results := [.lit (.bool false)], args := [d1, d2, d3, d4] }
  | _ => none }
def UpdateRightWrongFalsely : Prop := updateRightRow.holds Tryd.pinned (OpenSpec.ofChange updateRightWrong)

/-- 'waterlinelaw17.UpdateWorn': WHATEVER THE INPUT: true; the input reads as it did. -/
def updateWornSpec : ChangeSpec := { name := "updateWorn", fn := fun _ => fun
  | [d1, d2, d3, d4] => { results := [.lit (.bool true)], args := [d1, d2, d3, d4] }
  | _ => none }
def updateWornRow : OpenClaim := { program := "ytpbdglocfjbbfaadoor", sum := "4009cff13f9e35063d7297a7bffbaeceb4034533ebdd204ff901cb9def388385", func := "waterline/waterlinelaw17.UpdateWorn", spec := "updateWorn", inPlace := ["internal/bytealg.IndexByteString", "internal/bytealg.IndexString"], named := ["unicode/utf8.first", "unicode/utf8.acceptRanges", "internal/bytealg.MaxLen"], apart := false, laid := [("unicode/utf8.acceptRanges", laid_unicode_utf8_acceptRanges), ("unicode/utf8.first", laid_unicode_utf8_first)] }
def UpdateWornSaid : Prop := updateWornRow.holds Tryd.pinned (OpenSpec.ofChange updateWornSpec)

/-- ITS FALSE NEIGHBOUR: 'it returns false'. Refute it at one input. -/
def updateWornWrong : ChangeSpec := { name := "updateWorn", fn := fun _ => fun
  | [d1, d2, d3, d4] => { results := [.lit (.bool false)], args := [d1, d2, d3, d4] }
  | _ => none }
def UpdateWornWrongFalsely : Prop := updateWornRow.holds Tryd.pinned (OpenSpec.ofChange updateWornWrong)

/-- 'waterlinelaw17.UpdateGoes': WHATEVER THE INPUT: true; the input reads as it did. -/
def updateGoesSpec : ChangeSpec := { name := "updateGoes", fn := fun _ => fun
  | [d1, d2, d3, d4, d5] => { results := [.lit (.bool true)], args := [d1, d2, d3, d4, d5] }
  | _ => none }
def updateGoesRow : OpenClaim := { program := "ytpbdglocfjbbfaadoor", sum := "4009cff13f9e35063d7297a7bffbaeceb4034533ebdd204ff901cb9def388385", func := "waterline/waterlinelaw17.UpdateGoes", spec := "updateGoes", inPlace := ["internal/bytealg.IndexByteString", "internal/bytealg.IndexString"], named := ["unicode/utf8.first", "unicode/utf8.acceptRanges", "internal/bytealg.MaxLen"], apart := false, laid := [("unicode/utf8.acceptRanges", laid_unicode_utf8_acceptRanges), ("unicode/utf8.first", laid_unicode_utf8_first)] }
def UpdateGoesSaid : Prop := updateGoesRow.holds Tryd.pinned (OpenSpec.ofChange updateGoesSpec)

/-- ITS FALSE NEIGHBOUR: 'it returns false'. Refute it at one input. -/
def updateGoesWrong : ChangeSpec := { name := "updateGoes", fn := fun _ => fun
  | [d1, d2, d3, d4, d5] => { results := [.lit (.bool false)], args := [d1, d2, d3, d4, d5] }
  | _ => none }
def UpdateGoesWrongFalsely : Prop := updateGoesRow.holds Tryd.pinned (OpenSpec.ofChange updateGoesWrong)

/-- 'waterlinelaw17.UpdateStates': WHATEVER THE INPUT: true; the input reads as it did. -/
def updateStatesSpec : ChangeSpec := { name := "updateStates", fn := fun _ => fun
  | [d1, d2, d3] => { results := [.lit (.bool true)], args := [d1, d2, d3] }
  | _ => none }
def updateStatesRow : OpenClaim := { program := "ytpbdglocfjbbfaadoor", sum := "4009cff13f9e35063d7297a7bffbaeceb4034533ebdd204ff901cb9def388385", func := "waterline/waterlinelaw17.UpdateStates", spec := "updateStates", inPlace := ["internal/bytealg.IndexByteString", "internal/bytealg.IndexString"], named := ["unicode/utf8.first", "unicode/utf8.acceptRanges", "internal/bytealg.MaxLen"], apart := false, laid := [("unicode/utf8.acceptRanges", laid_unicode_utf8_acceptRanges), ("unicode/utf8.first", laid_unicode_utf8_first)] }
def UpdateStatesSaid : Prop := updateStatesRow.holds Tryd.pinned (OpenSpec.ofChange updateStatesSpec)

/-- ITS FALSE NEIGHBOUR: 'it returns false'. Refute it at one input. -/
def updateStatesWrong : ChangeSpec := { name := "updateStates", fn := fun _ => fun
  | [d1, d2, d3] => { results := [.lit (.bool false)], args := [d1, d2, d3] }
  | _ => none }
def UpdateStatesWrongFalsely : Prop := updateStatesRow.holds Tryd.pinned (OpenSpec.ofChange updateStatesWrong)

/-- 'waterlinelaw17.UpdateChunks': WHATEVER THE INPUT: true; the input reads as it did. -/
def updateChunksSpec : ChangeSpec := { name := "updateChunks", fn := fun _ => fun
  | [d] => { results := [.lit (.bool true)], args := [d] }
  | _ => none }
def updateChunksRow : OpenClaim := { program := "ytpbdglocfjbbfaadoor", sum := "4009cff13f9e35063d7297a7bffbaeceb4034533ebdd204ff901cb9def388385", func := "waterline/waterlinelaw17.UpdateChunks", spec := "updateChunks", inPlace := ["internal/bytealg.IndexByteString", "internal/bytealg.IndexString"], named := ["unicode/utf8.first", "unicode/utf8.acceptRanges", "internal/bytealg.MaxLen"], apart := false, laid := [("unicode/utf8.acceptRanges", laid_unicode_utf8_acceptRanges), ("unicode/utf8.first", laid_unicode_utf8_first)] }
def UpdateChunksSaid : Prop := updateChunksRow.holds Tryd.pinned (OpenSpec.ofChange updateChunksSpec)

/-- ITS FALSE NEIGHBOUR: 'it returns false'. Refute it at one input. -/
def updateChunksWrong : ChangeSpec := { name := "updateChunks", fn := fun _ => fun
  | [d] => { results := [.lit (.bool false)], args := [d] }
  | _ => none }
def UpdateChunksWrongFalsely : Prop := updateChunksRow.holds Tryd.pinned (OpenSpec.ofChange updateChunksWrong)

/- THE SECOND FORM. 'bulk': how many values and letters a reading holds, each counted each time it is reached (what is shared counts as often as it is met; a slice's spare places count too). A statement '..UptoSaid' is the law's where the arguments, and the package variables that the reading takes, are together of bulk at most 1048576: NARROWER than '..Said'. Prove '..Said' where nothing that the law and all that it calls make is longer than what came in: it says more and counts as full. Else prove '..UptoSaid'. A law counts once. -/
mutual
def uptoBulk {H : Type} : DataW H → Nat
  | .lit (.string bytes) => bytes.length + 1
  | .lit _ => 1
  | .nil => 1
  | .ptr d => uptoBulk d + 1
  | .slice elems spare => uptoBulkAll elems + uptoBulkAll spare + 1
  | .agg parts => uptoBulkAll parts + 1
  | .iface _ d => uptoBulk d + 1
  | .map entries => uptoBulkEntries entries + 1
  | .held _ => 1
def uptoBulkAll {H : Type} : List (DataW H) → Nat
  | [] => 0
  | d :: r => uptoBulk d + uptoBulkAll r
def uptoBulkEntries {H : Type} : List (Lit × DataW H) → Nat
  | [] => 0
  | x :: r => uptoBulkEntry x + uptoBulkEntries r
def uptoBulkEntry {H : Type} : Lit × DataW H → Nat
  | (.string bytes, d) => bytes.length + uptoBulk d + 1
  | (_, d) => uptoBulk d + 1
 end
def uptoSmall : (H : Type) → List (DataW H) → Bool := fun _ ds => decide (uptoBulkAll ds ≤ 1048576)
def OpenSpec.upto (s : _root_.Go.ChangeSpec) : _root_.Go.OpenSpec := { _root_.Go.OpenSpec.ofChange s with cond := some uptoSmall }

/-- 'waterlinelaw17.UpdateDoes', WHERE WHAT IT READS IS OF BULK AT MOST 1048576: true; the input reads as it did. -/
def updateDoesUptoRow : OpenClaim := { program := "ytpbdglocfjbbfaadoor", sum := "4009cff13f9e35063d7297a7bffbaeceb4034533ebdd204ff901cb9def388385", func := "waterline/waterlinelaw17.UpdateDoes", spec := "updateDoes", inPlace := ["internal/bytealg.IndexByteString", "internal/bytealg.IndexString"], named := ["unicode/utf8.first", "unicode/utf8.acceptRanges", "internal/bytealg.MaxLen"], apart := false, laid := [("unicode/utf8.acceptRanges", laid_unicode_utf8_acceptRanges), ("unicode/utf8.first", laid_unicode_utf8_first)], narrowed := true }
def UpdateDoesUptoSaid : Prop := updateDoesUptoRow.holds Tryd.pinned (OpenSpec.upto updateDoesSpec)

/-- 'waterlinelaw17.UpdateRight', WHERE WHAT IT READS IS OF BULK AT MOST 1048576: true; the input reads as it did. -/
def updateRightUptoRow : OpenClaim := { program := "ytpbdglocfjbbfaadoor", sum := "4009cff13f9e35063d7297a7bffbaeceb4034533ebdd204ff901cb9def388385", func := "waterline/waterlinelaw17.UpdateRight", spec := "updateRight", inPlace := ["internal/bytealg.IndexByteString", "internal/bytealg.IndexString"], named := ["unicode/utf8.first", "unicode/utf8.acceptRanges", "internal/bytealg.MaxLen"], apart := false, laid := [("unicode/utf8.acceptRanges", laid_unicode_utf8_acceptRanges), ("unicode/utf8.first", laid_unicode_utf8_first)], narrowed := true }
def UpdateRightUptoSaid : Prop := updateRightUptoRow.holds Tryd.pinned (OpenSpec.upto updateRightSpec)

/-- 'waterlinelaw17.UpdateWorn', WHERE WHAT IT READS IS OF BULK AT MOST 1048576: true; the input reads as it did. -/
def updateWornUptoRow : OpenClaim := { program := "ytpbdglocfjbbfaadoor", sum := "4009cff13f9e35063d7297a7bffbaeceb4034533ebdd204ff901cb9def388385", func := "waterline/waterlinelaw17.UpdateWorn", spec := "updateWorn", inPlace := ["internal/bytealg.IndexByteString", "internal/bytealg.IndexString"], named := ["unicode/utf8.first", "unicode/utf8.acceptRanges", "internal/bytealg.MaxLen"], apart := false, laid := [("unicode/utf8.acceptRanges", laid_unicode_utf8_acceptRanges), ("unicode/utf8.first", laid_unicode_utf8_first)], narrowed := true }
def UpdateWornUptoSaid : Prop := updateWornUptoRow.holds Tryd.pinned (OpenSpec.upto updateWornSpec)

/-- 'waterlinelaw17.UpdateGoes', WHERE WHAT IT READS IS OF BULK AT MOST 1048576: true; the input reads as it did. -/
def updateGoesUptoRow : OpenClaim := { program := "ytpbdglocfjbbfaadoor", sum := "4009cff13f9e35063d7297a7bffbaeceb4034533ebdd204ff901cb9def388385", func := "waterline/waterlinelaw17.UpdateGoes", spec := "updateGoes", inPlace := ["internal/bytealg.IndexByteString", "internal/bytealg.IndexString"], named := ["unicode/utf8.first", "unicode/utf8.acceptRanges", "internal/bytealg.MaxLen"], apart := false, laid := [("unicode/utf8.acceptRanges", laid_unicode_utf8_acceptRanges), ("unicode/utf8.first", laid_unicode_utf8_first)], narrowed := true }
def UpdateGoesUptoSaid : Prop := updateGoesUptoRow.holds Tryd.pinned (OpenSpec.upto updateGoesSpec)

/-- 'waterlinelaw17.UpdateStates', WHERE WHAT IT READS IS OF BULK AT MOST 1048576: true; the input reads as it did. -/
def updateStatesUptoRow : OpenClaim := { program := "ytpbdglocfjbbfaadoor", sum := "4009cff13f9e35063d7297a7bffbaeceb4034533ebdd204ff901cb9def388385", func := "waterline/waterlinelaw17.UpdateStates", spec := "updateStates", inPlace := ["internal/bytealg.IndexByteString", "internal/bytealg.IndexString"], named := ["unicode/utf8.first", "unicode/utf8.acceptRanges", "internal/bytealg.MaxLen"], apart := false, laid := [("unicode/utf8.acceptRanges", laid_unicode_utf8_acceptRanges), ("unicode/utf8.first", laid_unicode_utf8_first)], narrowed := true }
def UpdateStatesUptoSaid : Prop := updateStatesUptoRow.holds Tryd.pinned (OpenSpec.upto updateStatesSpec)

/-- 'waterlinelaw17.UpdateChunks', WHERE WHAT IT READS IS OF BULK AT MOST 1048576: true; the input reads as it did. -/
def updateChunksUptoRow : OpenClaim := { program := "ytpbdglocfjbbfaadoor", sum := "4009cff13f9e35063d7297a7bffbaeceb4034533ebdd204ff901cb9def388385", func := "waterline/waterlinelaw17.UpdateChunks", spec := "updateChunks", inPlace := ["internal/bytealg.IndexByteString", "internal/bytealg.IndexString"], named := ["unicode/utf8.first", "unicode/utf8.acceptRanges", "internal/bytealg.MaxLen"], apart := false, laid := [("unicode/utf8.acceptRanges", laid_unicode_utf8_acceptRanges), ("unicode/utf8.first", laid_unicode_utf8_first)], narrowed := true }
def UpdateChunksUptoSaid : Prop := updateChunksUptoRow.holds Tryd.pinned (OpenSpec.upto updateChunksSpec)

end Rows
end Go.Proofs.YtpbdglocfjbbfaaDoor
