/-
  DERIVED. GIVEN WITH THE SEED: THE CARDS: each row of YtpafenlcgcenlaaGreatDoorRows.lean that lists a variable, with what it lists TIED to the program's text (the seventh form; the later family's looks); each row that meets fmt, with fmt's text TOLD by the authors' own Lean function (tested against real Go, not proved from fmt's source: count such statements apart). THE CARD IS WHAT COUNTS. Prove the row's statement (the work); the ties are given (YtpafenlcgcenlaaGreatDoorTie.lean); close each card by the builder's one call (the guide's Derived/Test/ToyasCard.lean, 'card_holds'). Laid BY PROGRAM, IN A SANDBOX (cutbox-door.mjs). By AI agents, Wed Nov 11 2026. No macro, syntax, notation, axiom, sorry.
-/
import Derived.Test.YtpafenlcgcenlaaGreatDoorRows
import GoSem.ClaimSeven
namespace Go.Proofs.YtpafenlcgcenlaaGreatDoor
namespace Rows

/-- THE TIED CARD OF 'waterlinelaw24.ModelPlays'. -/
def modelPlaysCard : Claim7 := { stood := { row := modelPlaysRow, standIns := [], harness := (true, "cfbf199f9a8bcf2956909361603b0e8da459c85bf1d1060dd1c00b2993394c5c"), looks := false }, kinds := [], alts := [], laidByText := true, laidKinds := [.data, .pinned], laidTests := true, laidLooks := .later }
def ModelPlaysCardSaid : Prop := Claim7.holds Tryz.pinned (.plain (OpenSpec.ofChange modelPlaysSpec)) modelPlaysCard

/-- THE TIED CARD OF 'waterlinelaw24.ModelTenant'. -/
def modelTenantCard : Claim7 := { stood := { row := modelTenantRow, standIns := [], harness := (true, "cfbf199f9a8bcf2956909361603b0e8da459c85bf1d1060dd1c00b2993394c5c"), looks := false }, kinds := [], alts := [], laidByText := true, laidKinds := [.data, .pinned], laidTests := true, laidLooks := .later }
def ModelTenantCardSaid : Prop := Claim7.holds Tryz.pinned (.plain (OpenSpec.ofChange modelTenantSpec)) modelTenantCard

/-- THE TIED CARD OF 'waterlinelaw24.ModelGoes'. -/
def modelGoesCard : Claim7 := { stood := { row := modelGoesRow, standIns := [], harness := (true, "cfbf199f9a8bcf2956909361603b0e8da459c85bf1d1060dd1c00b2993394c5c"), looks := false }, kinds := [], alts := [], laidByText := true, laidKinds := [.data, .pinned], laidTests := true, laidLooks := .later }
def ModelGoesCardSaid : Prop := Claim7.holds Tryz.pinned (.plain (OpenSpec.ofChange modelGoesSpec)) modelGoesCard

/-- THE SECOND FORM's CARD OF 'waterlinelaw24.ModelPlays'. -/
def modelPlaysUptoCard : Claim7 := { stood := { row := modelPlaysUptoRow, standIns := [], harness := (true, "cfbf199f9a8bcf2956909361603b0e8da459c85bf1d1060dd1c00b2993394c5c"), looks := false }, kinds := [], alts := [], laidByText := true, laidKinds := [.data, .pinned], laidTests := true, laidLooks := .later }
def ModelPlaysUptoCardSaid : Prop := Claim7.holds Tryz.pinned (.plain (OpenSpec.upto modelPlaysSpec)) modelPlaysUptoCard

/-- THE SECOND FORM's CARD OF 'waterlinelaw24.ModelTenant'. -/
def modelTenantUptoCard : Claim7 := { stood := { row := modelTenantUptoRow, standIns := [], harness := (true, "cfbf199f9a8bcf2956909361603b0e8da459c85bf1d1060dd1c00b2993394c5c"), looks := false }, kinds := [], alts := [], laidByText := true, laidKinds := [.data, .pinned], laidTests := true, laidLooks := .later }
def ModelTenantUptoCardSaid : Prop := Claim7.holds Tryz.pinned (.plain (OpenSpec.upto modelTenantSpec)) modelTenantUptoCard

/-- THE SECOND FORM's CARD OF 'waterlinelaw24.ModelGoes'. -/
def modelGoesUptoCard : Claim7 := { stood := { row := modelGoesUptoRow, standIns := [], harness := (true, "cfbf199f9a8bcf2956909361603b0e8da459c85bf1d1060dd1c00b2993394c5c"), looks := false }, kinds := [], alts := [], laidByText := true, laidKinds := [.data, .pinned], laidTests := true, laidLooks := .later }
def ModelGoesUptoCardSaid : Prop := Claim7.holds Tryz.pinned (.plain (OpenSpec.upto modelGoesSpec)) modelGoesUptoCard
end Rows
end Go.Proofs.YtpafenlcgcenlaaGreatDoor
