/-
  DERIVED. GIVEN WITH THE SEED: THE CARDS: each row of YtocbahahienigaaDoorRows.lean that lists a variable, with what it lists TIED to the program's text (the seventh form; the later family's looks); each row that meets fmt, with fmt's text TOLD by the authors' own Lean function (tested against real Go, not proved from fmt's source: count such statements apart). THE CARD IS WHAT COUNTS. Prove the row's statement (the work); the ties are given (YtocbahahienigaaDoorTie.lean); close each card by the builder's one call (the guide's Derived/Test/ToyasCard.lean, 'card_holds'). Laid BY PROGRAM, IN A SANDBOX (cutbox-door.mjs). By AI agents, Wed Nov 11 2026. No macro, syntax, notation, axiom, sorry.
-/
import Derived.Test.YtocbahahienigaaDoorRows
import GoSem.ClaimSeven
namespace Go.Proofs.YtocbahahienigaaDoor
namespace Rows

/-- THE TIED CARD OF 'waterlinelaw12.ManifestTells'. -/
def manifestTellsCard : Claim7 := { stood := { row := manifestTellsRow, standIns := [], harness := (true, "b38f52f34041b67d6d2caf1fc27a2f404c5d33e81173ef7ec2abf996b45de4b2"), looks := false }, kinds := [], alts := [], laidByText := true, laidKinds := [.data, .pinned], laidTests := true, laidLooks := .later }
def ManifestTellsCardSaid : Prop := Claim7.holds Tryd.pinned (.plain (OpenSpec.ofChange manifestTellsSpec)) manifestTellsCard

/-- THE TIED CARD OF 'waterlinelaw12.ManifestBack'. -/
def manifestBackCard : Claim7 := { stood := { row := manifestBackRow, standIns := [], harness := (true, "b38f52f34041b67d6d2caf1fc27a2f404c5d33e81173ef7ec2abf996b45de4b2"), looks := false }, kinds := [], alts := [], laidByText := true, laidKinds := [.data, .pinned], laidTests := true, laidLooks := .later }
def ManifestBackCardSaid : Prop := Claim7.holds Tryd.pinned (.plain (OpenSpec.ofChange manifestBackSpec)) manifestBackCard

/-- THE TIED CARD OF 'waterlinelaw12.ManifestTorn'. -/
def manifestTornCard : Claim7 := { stood := { row := manifestTornRow, standIns := [], harness := (true, "b38f52f34041b67d6d2caf1fc27a2f404c5d33e81173ef7ec2abf996b45de4b2"), looks := false }, kinds := [], alts := [], laidByText := true, laidKinds := [.data, .pinned], laidTests := true, laidLooks := .later }
def ManifestTornCardSaid : Prop := Claim7.holds Tryd.pinned (.plain (OpenSpec.ofChange manifestTornSpec)) manifestTornCard

/-- THE TIED CARD OF 'waterlinelaw12.ManifestLimits'. -/
def manifestLimitsCard : Claim7 := { stood := { row := manifestLimitsRow, standIns := [], harness := (true, "b38f52f34041b67d6d2caf1fc27a2f404c5d33e81173ef7ec2abf996b45de4b2"), looks := false }, kinds := [], alts := [], laidByText := true, laidKinds := [.data, .pinned], laidTests := true, laidLooks := .later }
def ManifestLimitsCardSaid : Prop := Claim7.holds Tryd.pinned (.plain (OpenSpec.ofChange manifestLimitsSpec)) manifestLimitsCard

/-- THE SECOND FORM's CARD OF 'waterlinelaw12.ManifestTells'. -/
def manifestTellsUptoCard : Claim7 := { stood := { row := manifestTellsUptoRow, standIns := [], harness := (true, "b38f52f34041b67d6d2caf1fc27a2f404c5d33e81173ef7ec2abf996b45de4b2"), looks := false }, kinds := [], alts := [], laidByText := true, laidKinds := [.data, .pinned], laidTests := true, laidLooks := .later }
def ManifestTellsUptoCardSaid : Prop := Claim7.holds Tryd.pinned (.plain (OpenSpec.upto manifestTellsSpec)) manifestTellsUptoCard

/-- THE SECOND FORM's CARD OF 'waterlinelaw12.ManifestBack'. -/
def manifestBackUptoCard : Claim7 := { stood := { row := manifestBackUptoRow, standIns := [], harness := (true, "b38f52f34041b67d6d2caf1fc27a2f404c5d33e81173ef7ec2abf996b45de4b2"), looks := false }, kinds := [], alts := [], laidByText := true, laidKinds := [.data, .pinned], laidTests := true, laidLooks := .later }
def ManifestBackUptoCardSaid : Prop := Claim7.holds Tryd.pinned (.plain (OpenSpec.upto manifestBackSpec)) manifestBackUptoCard

/-- THE SECOND FORM's CARD OF 'waterlinelaw12.ManifestTorn'. -/
def manifestTornUptoCard : Claim7 := { stood := { row := manifestTornUptoRow, standIns := [], harness := (true, "b38f52f34041b67d6d2caf1fc27a2f404c5d33e81173ef7ec2abf996b45de4b2"), looks := false }, kinds := [], alts := [], laidByText := true, laidKinds := [.data, .pinned], laidTests := true, laidLooks := .later }
def ManifestTornUptoCardSaid : Prop := Claim7.holds Tryd.pinned (.plain (OpenSpec.upto manifestTornSpec)) manifestTornUptoCard

/-- THE SECOND FORM's CARD OF 'waterlinelaw12.ManifestLimits'. -/
def manifestLimitsUptoCard : Claim7 := { stood := { row := manifestLimitsUptoRow, standIns := [], harness := (true, "b38f52f34041b67d6d2caf1fc27a2f404c5d33e81173ef7ec2abf996b45de4b2"), looks := false }, kinds := [], alts := [], laidByText := true, laidKinds := [.data, .pinned], laidTests := true, laidLooks := .later }
def ManifestLimitsUptoCardSaid : Prop := Claim7.holds Tryd.pinned (.plain (OpenSpec.upto manifestLimitsSpec)) manifestLimitsUptoCard
end Rows
end Go.Proofs.YtocbahahienigaaDoor
