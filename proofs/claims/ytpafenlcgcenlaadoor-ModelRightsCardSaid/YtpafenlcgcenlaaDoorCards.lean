/-
  DERIVED. GIVEN WITH THE SEED: THE CARDS: each row of YtpafenlcgcenlaaDoorRows.lean that lists a variable, with what it lists TIED to the program's text (the seventh form; the later family's looks); each row that meets fmt, with fmt's text TOLD by the authors' own Lean function (tested against real Go, not proved from fmt's source: count such statements apart). THE CARD IS WHAT COUNTS. Prove the row's statement (the work); the ties are given (YtpafenlcgcenlaaDoorTie.lean); close each card by the builder's one call (the guide's Derived/Test/ToyasCard.lean, 'card_holds'). Laid BY PROGRAM, IN A SANDBOX (cutbox-door.mjs). By AI agents, Wed Nov 11 2026. No macro, syntax, notation, axiom, sorry.
-/
import Derived.Test.YtpafenlcgcenlaaDoorRows
import GoSem.ClaimSeven
namespace Go.Proofs.YtpafenlcgcenlaaDoor
namespace Rows

/-- THE TIED CARD OF 'waterlinelaw24.ModelRights'. -/
def modelRightsCard : Claim7 := { stood := { row := modelRightsRow, standIns := [], harness := (true, "a3621d7f817ccd1f70d3d0fb9623a0d13ec2202c0cef28f3c36fdb88de9ca31e"), looks := false }, kinds := [], alts := [], laidByText := true, laidKinds := [.data, .pinned], laidTests := true, laidLooks := .later }
def ModelRightsCardSaid : Prop := Claim7.holds Tryd.pinned (.plain (OpenSpec.ofChange modelRightsSpec)) modelRightsCard

/-- THE SECOND FORM's CARD OF 'waterlinelaw24.ModelRights'. -/
def modelRightsUptoCard : Claim7 := { stood := { row := modelRightsUptoRow, standIns := [], harness := (true, "a3621d7f817ccd1f70d3d0fb9623a0d13ec2202c0cef28f3c36fdb88de9ca31e"), looks := false }, kinds := [], alts := [], laidByText := true, laidKinds := [.data, .pinned], laidTests := true, laidLooks := .later }
def ModelRightsUptoCardSaid : Prop := Claim7.holds Tryd.pinned (.plain (OpenSpec.upto modelRightsSpec)) modelRightsUptoCard
end Rows
end Go.Proofs.YtpafenlcgcenlaaDoor
