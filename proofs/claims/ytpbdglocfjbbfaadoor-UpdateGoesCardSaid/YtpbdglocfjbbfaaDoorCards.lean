/-
  DERIVED. GIVEN WITH THE SEED: THE CARDS: each row of YtpbdglocfjbbfaaDoorRows.lean that lists a variable, with what it lists TIED to the program's text (the seventh form; the later family's looks); each row that meets fmt, with fmt's text TOLD by the authors' own Lean function (tested against real Go, not proved from fmt's source: count such statements apart). THE CARD IS WHAT COUNTS. Prove the row's statement (the work); the ties are given (YtpbdglocfjbbfaaDoorTie.lean); close each card by the builder's one call (the guide's Derived/Test/ToyasCard.lean, 'card_holds'). Laid BY PROGRAM, IN A SANDBOX (cutbox-door.mjs). By AI agents, Wed Nov 11 2026. No macro, syntax, notation, axiom, sorry.
-/
import Derived.Test.YtpbdglocfjbbfaaDoorRows
import GoSem.ClaimSeven
namespace Go.Proofs.YtpbdglocfjbbfaaDoor
namespace Rows

/-- THE TIED CARD OF 'waterlinelaw17.UpdateDoes'. -/
def updateDoesCard : Claim7 := { stood := { row := updateDoesRow, standIns := [], harness := (true, "259c110d7916685b5b195e1fc5df0972072bf6fe2bc2f3afab72188e3f38501f"), looks := false }, kinds := [], alts := [], laidByText := true, laidKinds := [.data, .pinned], laidTests := true, laidLooks := .later }
def UpdateDoesCardSaid : Prop := Claim7.holds Tryd.pinned (.plain (OpenSpec.ofChange updateDoesSpec)) updateDoesCard

/-- THE TIED CARD OF 'waterlinelaw17.UpdateRight'. -/
def updateRightCard : Claim7 := { stood := { row := updateRightRow, standIns := [], harness := (true, "259c110d7916685b5b195e1fc5df0972072bf6fe2bc2f3afab72188e3f38501f"), looks := false }, kinds := [], alts := [], laidByText := true, laidKinds := [.data, .pinned], laidTests := true, laidLooks := .later }
def UpdateRightCardSaid : Prop := Claim7.holds Tryd.pinned (.plain (OpenSpec.ofChange updateRightSpec)) updateRightCard

/-- THE TIED CARD OF 'waterlinelaw17.UpdateWorn'. -/
def updateWornCard : Claim7 := { stood := { row := updateWornRow, standIns := [], harness := (true, "259c110d7916685b5b195e1fc5df0972072bf6fe2bc2f3afab72188e3f38501f"), looks := false }, kinds := [], alts := [], laidByText := true, laidKinds := [.data, .pinned], laidTests := true, laidLooks := .later }
def UpdateWornCardSaid : Prop := Claim7.holds Tryd.pinned (.plain (OpenSpec.ofChange updateWornSpec)) updateWornCard

/-- THE TIED CARD OF 'waterlinelaw17.UpdateGoes'. -/
def updateGoesCard : Claim7 := { stood := { row := updateGoesRow, standIns := [], harness := (true, "259c110d7916685b5b195e1fc5df0972072bf6fe2bc2f3afab72188e3f38501f"), looks := false }, kinds := [], alts := [], laidByText := true, laidKinds := [.data, .pinned], laidTests := true, laidLooks := .later }
def UpdateGoesCardSaid : Prop := Claim7.holds Tryd.pinned (.plain (OpenSpec.ofChange updateGoesSpec)) updateGoesCard

/-- THE TIED CARD OF 'waterlinelaw17.UpdateStates'. -/
def updateStatesCard : Claim7 := { stood := { row := updateStatesRow, standIns := [], harness := (true, "259c110d7916685b5b195e1fc5df0972072bf6fe2bc2f3afab72188e3f38501f"), looks := false }, kinds := [], alts := [], laidByText := true, laidKinds := [.data, .pinned], laidTests := true, laidLooks := .later }
def UpdateStatesCardSaid : Prop := Claim7.holds Tryd.pinned (.plain (OpenSpec.ofChange updateStatesSpec)) updateStatesCard

/-- THE TIED CARD OF 'waterlinelaw17.UpdateChunks'. -/
def updateChunksCard : Claim7 := { stood := { row := updateChunksRow, standIns := [], harness := (true, "259c110d7916685b5b195e1fc5df0972072bf6fe2bc2f3afab72188e3f38501f"), looks := false }, kinds := [], alts := [], laidByText := true, laidKinds := [.data, .pinned], laidTests := true, laidLooks := .later }
def UpdateChunksCardSaid : Prop := Claim7.holds Tryd.pinned (.plain (OpenSpec.ofChange updateChunksSpec)) updateChunksCard

/-- THE SECOND FORM's CARD OF 'waterlinelaw17.UpdateDoes'. -/
def updateDoesUptoCard : Claim7 := { stood := { row := updateDoesUptoRow, standIns := [], harness := (true, "259c110d7916685b5b195e1fc5df0972072bf6fe2bc2f3afab72188e3f38501f"), looks := false }, kinds := [], alts := [], laidByText := true, laidKinds := [.data, .pinned], laidTests := true, laidLooks := .later }
def UpdateDoesUptoCardSaid : Prop := Claim7.holds Tryd.pinned (.plain (OpenSpec.upto updateDoesSpec)) updateDoesUptoCard

/-- THE SECOND FORM's CARD OF 'waterlinelaw17.UpdateRight'. -/
def updateRightUptoCard : Claim7 := { stood := { row := updateRightUptoRow, standIns := [], harness := (true, "259c110d7916685b5b195e1fc5df0972072bf6fe2bc2f3afab72188e3f38501f"), looks := false }, kinds := [], alts := [], laidByText := true, laidKinds := [.data, .pinned], laidTests := true, laidLooks := .later }
def UpdateRightUptoCardSaid : Prop := Claim7.holds Tryd.pinned (.plain (OpenSpec.upto updateRightSpec)) updateRightUptoCard

/-- THE SECOND FORM's CARD OF 'waterlinelaw17.UpdateWorn'. -/
def updateWornUptoCard : Claim7 := { stood := { row := updateWornUptoRow, standIns := [], harness := (true, "259c110d7916685b5b195e1fc5df0972072bf6fe2bc2f3afab72188e3f38501f"), looks := false }, kinds := [], alts := [], laidByText := true, laidKinds := [.data, .pinned], laidTests := true, laidLooks := .later }
def UpdateWornUptoCardSaid : Prop := Claim7.holds Tryd.pinned (.plain (OpenSpec.upto updateWornSpec)) updateWornUptoCard

/-- THE SECOND FORM's CARD OF 'waterlinelaw17.UpdateGoes'. -/
def updateGoesUptoCard : Claim7 := { stood := { row := updateGoesUptoRow, standIns := [], harness := (true, "259c110d7916685b5b195e1fc5df0972072bf6fe2bc2f3afab72188e3f38501f"), looks := false }, kinds := [], alts := [], laidByText := true, laidKinds := [.data, .pinned], laidTests := true, laidLooks := .later }
def UpdateGoesUptoCardSaid : Prop := Claim7.holds Tryd.pinned (.plain (OpenSpec.upto updateGoesSpec)) updateGoesUptoCard

/-- THE SECOND FORM's CARD OF 'waterlinelaw17.UpdateStates'. -/
def updateStatesUptoCard : Claim7 := { stood := { row := updateStatesUptoRow, standIns := [], harness := (true, "259c110d7916685b5b195e1fc5df0972072bf6fe2bc2f3afab72188e3f38501f"), looks := false }, kinds := [], alts := [], laidByText := true, laidKinds := [.data, .pinned], laidTests := true, laidLooks := .later }
def UpdateStatesUptoCardSaid : Prop := Claim7.holds Tryd.pinned (.plain (OpenSpec.upto updateStatesSpec)) updateStatesUptoCard

/-- THE SECOND FORM's CARD OF 'waterlinelaw17.UpdateChunks'. -/
def updateChunksUptoCard : Claim7 := { stood := { row := updateChunksUptoRow, standIns := [], harness := (true, "259c110d7916685b5b195e1fc5df0972072bf6fe2bc2f3afab72188e3f38501f"), looks := false }, kinds := [], alts := [], laidByText := true, laidKinds := [.data, .pinned], laidTests := true, laidLooks := .later }
def UpdateChunksUptoCardSaid : Prop := Claim7.holds Tryd.pinned (.plain (OpenSpec.upto updateChunksSpec)) updateChunksUptoCard
end Rows
end Go.Proofs.YtpbdglocfjbbfaaDoor
