/-
  No cell of these rows narrows 'for every input' (looked for: loops, veiled, ifaces, maps, wideKeys, modest, calm, conditions, laid).
  DERIVED. THE GIVEN ROWS OF THIS SEAT. 8 by the template 'for every input the law returns true; each argument reads behind the call as it read before'; 0 by the template 'total and deterministic' (their statements: YtmpgomjdfegfpaaTotals.lean).
  GIVEN WITH THE SEED: the statements are not yours to turn. If you find one false, say at which input.
  Laid BY PROGRAM, IN A SANDBOX (cutbox-rows.mjs): the forced cells as the released guide's own fill.sh prints them over the translation 805124ee6f4dff74… (all of the seat's roots in one cut). By AI agents, Wed Nov 11 2026. No macro, syntax, notation, axiom, sorry.
-/
import Derived.Test.YtmpgomjdfegfpaaChecked
import GoSem.Claim
import GoSem.ClaimJoined
import GoSem.ClaimMapViews
import Derived.JoinedTies
import Derived.KernelRfl
namespace Go.Proofs.Ytmpgomjdfegfpaa
/- THE CELL 'sum', in the pinned program and in every row, IS THE sha256 OF THE DUMP (.gsa) THAT YtmpgomjdfegfpaaProg.lean LOADS. Nothing in Lean hashes anything: it is a label: what it is worth is what the hold of that sum in a sandbox is worth. -/
noncomputable def Try.pinned : Pinned := { name := "ytmpgomjdfegfpaa", sum := "805124ee6f4dff748ac8417fbc8c50a8de6389888397f1d41dd44faf58aad8d1", checked := Try.checked }
namespace Rows
def none {H : Type} : Left H := { results := [], args := [] }

/-- 'waterlinelaw19.SlotKeeps': WHATEVER THE INPUT: true; the input reads as it did. -/
def slotKeepsSpec : ChangeSpec := { name := "slotKeeps", fn := fun _ => fun
  | [d1, d2, d3] => { results := [.lit (.bool true)], args := [d1, d2, d3] }
  | _ => none }
def slotKeepsRow : OpenClaim := { program := "ytmpgomjdfegfpaa", sum := "805124ee6f4dff748ac8417fbc8c50a8de6389888397f1d41dd44faf58aad8d1", func := "waterline/waterlinelaw19.SlotKeeps", spec := "slotKeeps", unfollowed := true, recurses := true, apart := false }
def SlotKeepsSaid : Prop := slotKeepsRow.holds Try.pinned (OpenSpec.ofChange slotKeepsSpec)

/-- ITS FALSE NEIGHBOUR: 'it returns false'. Refute it at one input. -/
def slotKeepsWrong : ChangeSpec := { name := "slotKeeps", fn := fun _ => fun
  | [d1, d2, d3] => { results := [.lit (.bool false)], args := [d1, d2, d3] }
  | _ => none }
def SlotKeepsWrongFalsely : Prop := slotKeepsRow.holds Try.pinned (OpenSpec.ofChange slotKeepsWrong)

/-- 'waterlinelaw19.SlotWears': WHATEVER THE INPUT: true; the input reads as it did. -/
def slotWearsSpec : ChangeSpec := { name := "slotWears", fn := fun _ => fun
  | [d1, d2] => { results := [.lit (.bool true)], args := [d1, d2] }
  | _ => none }
def slotWearsRow : OpenClaim := { program := "ytmpgomjdfegfpaa", sum := "805124ee6f4dff748ac8417fbc8c50a8de6389888397f1d41dd44faf58aad8d1", func := "waterline/waterlinelaw19.SlotWears", spec := "slotWears", unfollowed := true, recurses := true, apart := false }
def SlotWearsSaid : Prop := slotWearsRow.holds Try.pinned (OpenSpec.ofChange slotWearsSpec)

/-- ITS FALSE NEIGHBOUR: 'it returns false'. Refute it at one input. -/
def slotWearsWrong : ChangeSpec := { name := "slotWears", fn := fun _ => fun
  | [d1, d2] => { results := [.lit (.bool false)], args := [d1, d2] }
  | _ => none }
def SlotWearsWrongFalsely : Prop := slotWearsRow.holds Try.pinned (OpenSpec.ofChange slotWearsWrong)

/-- 'waterlinelaw19.SlotFrom': WHATEVER THE INPUT: true; the input reads as it did. -/
def slotFromSpec : ChangeSpec := { name := "slotFrom", fn := fun _ => fun
  | [d1, d2, d3, d4, d5] => { results := [.lit (.bool true)], args := [d1, d2, d3, d4, d5] }
  | _ => none }
def slotFromRow : OpenClaim := { program := "ytmpgomjdfegfpaa", sum := "805124ee6f4dff748ac8417fbc8c50a8de6389888397f1d41dd44faf58aad8d1", func := "waterline/waterlinelaw19.SlotFrom", spec := "slotFrom", unfollowed := true, recurses := true, apart := false }
def SlotFromSaid : Prop := slotFromRow.holds Try.pinned (OpenSpec.ofChange slotFromSpec)

/-- ITS FALSE NEIGHBOUR: 'it returns false'. Refute it at one input. -/
def slotFromWrong : ChangeSpec := { name := "slotFrom", fn := fun _ => fun
  | [d1, d2, d3, d4, d5] => { results := [.lit (.bool false)], args := [d1, d2, d3, d4, d5] }
  | _ => none }
def SlotFromWrongFalsely : Prop := slotFromRow.holds Try.pinned (OpenSpec.ofChange slotFromWrong)

/-- 'waterlinelaw14.WearTells': WHATEVER THE INPUT: true; the input reads as it did. -/
def wearTellsSpec : ChangeSpec := { name := "wearTells", fn := fun _ => fun
  | [d1, d2, d3, d4, d5] => { results := [.lit (.bool true)], args := [d1, d2, d3, d4, d5] }
  | _ => none }
def wearTellsRow : OpenClaim := { program := "ytmpgomjdfegfpaa", sum := "805124ee6f4dff748ac8417fbc8c50a8de6389888397f1d41dd44faf58aad8d1", func := "waterline/waterlinelaw14.WearTells", spec := "wearTells", unfollowed := true, recurses := true, apart := false }
def WearTellsSaid : Prop := wearTellsRow.holds Try.pinned (OpenSpec.ofChange wearTellsSpec)

/-- ITS FALSE NEIGHBOUR: 'it returns false'. Refute it at one input. -/
def wearTellsWrong : ChangeSpec := { name := "wearTells", fn := fun _ => fun
  | [d1, d2, d3, d4, d5] => { results := [.lit (.bool false)], args := [d1, d2, d3, d4, d5] }
  | _ => none }
def WearTellsWrongFalsely : Prop := wearTellsRow.holds Try.pinned (OpenSpec.ofChange wearTellsWrong)

/-- 'waterlinelaw11.RingWears': WHATEVER THE INPUT: true; the input reads as it did. -/
def ringWearsSpec : ChangeSpec := { name := "ringWears", fn := fun _ => fun
  | [d1, d2] => { results := [.lit (.bool true)], args := [d1, d2] }
  | _ => none }
def ringWearsRow : OpenClaim := { program := "ytmpgomjdfegfpaa", sum := "805124ee6f4dff748ac8417fbc8c50a8de6389888397f1d41dd44faf58aad8d1", func := "waterline/waterlinelaw11.RingWears", spec := "ringWears", unfollowed := true, recurses := true, apart := false }
def RingWearsSaid : Prop := ringWearsRow.holds Try.pinned (OpenSpec.ofChange ringWearsSpec)

/-- ITS FALSE NEIGHBOUR: 'it returns false'. Refute it at one input. -/
def ringWearsWrong : ChangeSpec := { name := "ringWears", fn := fun _ => fun
  | [d1, d2] => { results := [.lit (.bool false)], args := [d1, d2] }
  | _ => none }
def RingWearsWrongFalsely : Prop := ringWearsRow.holds Try.pinned (OpenSpec.ofChange ringWearsWrong)

/-- 'waterlinelaw11.RingRounds': WHATEVER THE INPUT: true; the input reads as it did. -/
def ringRoundsSpec : ChangeSpec := { name := "ringRounds", fn := fun _ => fun
  | [d] => { results := [.lit (.bool true)], args := [d] }
  | _ => none }
def ringRoundsRow : OpenClaim := { program := "ytmpgomjdfegfpaa", sum := "805124ee6f4dff748ac8417fbc8c50a8de6389888397f1d41dd44faf58aad8d1", func := "waterline/waterlinelaw11.RingRounds", spec := "ringRounds", unfollowed := true, recurses := true, apart := false }
def RingRoundsSaid : Prop := ringRoundsRow.holds Try.pinned (OpenSpec.ofChange ringRoundsSpec)

/-- ITS FALSE NEIGHBOUR: 'it returns false'. Refute it at one input. -/
def ringRoundsWrong : ChangeSpec := { name := "ringRounds", fn := fun _ => fun
  | [d] => { results := [.lit (.bool false)], args := [d] }
  | _ => none }
def RingRoundsWrongFalsely : Prop := ringRoundsRow.holds Try.pinned (OpenSpec.ofChange ringRoundsWrong)

/-- 'waterlinelaw11.RingKeeps': WHATEVER THE INPUT: true; the input reads as it did. -/
def ringKeepsSpec : ChangeSpec := { name := "ringKeeps", fn := fun _ => fun
  | [d1, d2, d3] => { results := [.lit (.bool true)], args := [d1, d2, d3] }
  | _ => none }
def ringKeepsRow : OpenClaim := { program := "ytmpgomjdfegfpaa", sum := "805124ee6f4dff748ac8417fbc8c50a8de6389888397f1d41dd44faf58aad8d1", func := "waterline/waterlinelaw11.RingKeeps", spec := "ringKeeps", unfollowed := true, recurses := true, apart := false }
def RingKeepsSaid : Prop := ringKeepsRow.holds Try.pinned (OpenSpec.ofChange ringKeepsSpec)

/-- ITS FALSE NEIGHBOUR: 'it returns false'. Refute it at one input. -/
def ringKeepsWrong : ChangeSpec := { name := "ringKeeps", fn := fun _ => fun
  | [d1, d2, d3] => { results := [.lit (.bool false)], args := [d1, d2, d3] }
  | _ => none }
def RingKeepsWrongFalsely : Prop := ringKeepsRow.holds Try.pinned (OpenSpec.ofChange ringKeepsWrong)

/-- 'waterlinelaw19.SlotPlays': WHATEVER THE INPUT: true; the input reads as it did. -/
def slotPlaysSpec : ChangeSpec := { name := "slotPlays", fn := fun _ => fun
  | [d1, d2, d3, d4, d5] => { results := [.lit (.bool true)], args := [d1, d2, d3, d4, d5] }
  | _ => none }
def slotPlaysRow : OpenClaim := { program := "ytmpgomjdfegfpaa", sum := "805124ee6f4dff748ac8417fbc8c50a8de6389888397f1d41dd44faf58aad8d1", func := "waterline/waterlinelaw19.SlotPlays", spec := "slotPlays", unfollowed := true, recurses := true, apart := false }
def SlotPlaysSaid : Prop := slotPlaysRow.holds Try.pinned (OpenSpec.ofChange slotPlaysSpec)

/-- ITS FALSE NEIGHBOUR: 'it returns false'. Refute it at one input. -/
def slotPlaysWrong : ChangeSpec := { name := "slotPlays", fn := fun _ => fun
  | [d1, d2, d3, d4, d5] => { results := [.lit (.bool false)], args := [d1, d2, d3, d4, d5] }
  | _ => none }
def SlotPlaysWrongFalsely : Prop := slotPlaysRow.holds Try.pinned (OpenSpec.ofChange slotPlaysWrong)

/- THE SECOND FORM. 'bulk': how many values and letters a reading holds, each counted each time it is reached (what is shared counts as often as it is met; a slice's spare places count too). A statement '..UptoSaid' is the law's where the arguments, and the package variables that the reading takes, are together of bulk at most 1048576: NARROWER than '..Said'. Prove '..Said' where nothing that the law and all that it calls make is longer than what came in: it says more and counts as full. Else prove '..UptoSaid'. A law counts once. -/
mutual
def uptoBulk {H : Type} : DataW H → Nat
  | .lit (.string bytes) => bytes.length + 1
  | .lit _ => 1
  | .nil => 1
  | .ptr d => uptoBulk d + 1
  | .slice elems spare => uptoBulkAll elems + uptoBulkAll spare + 1
  | .agg parts => uptoBulkAll parts + 1
  | .iface _ d => uptoBulk d + 1
  | .map entries => uptoBulkEntries entries + 1
  | .held _ => 1
def uptoBulkAll {H : Type} : List (DataW H) → Nat
  | [] => 0
  | d :: r => uptoBulk d + uptoBulkAll r
def uptoBulkEntries {H : Type} : List (Lit × DataW H) → Nat
  | [] => 0
  | x :: r => uptoBulkEntry x + uptoBulkEntries r
def uptoBulkEntry {H : Type} : Lit × DataW H → Nat
  | (.string bytes, d) => bytes.length + uptoBulk d + 1
  | (_, d) => uptoBulk d + 1
 end
def uptoSmall : (H : Type) → List (DataW H) → Bool := fun _ ds => decide (uptoBulkAll ds ≤ 1048576)
def OpenSpec.upto (s : _root_.Go.ChangeSpec) : _root_.Go.OpenSpec := { _root_.Go.OpenSpec.ofChange s with cond := some uptoSmall }

/-- 'waterlinelaw19.SlotKeeps', WHERE WHAT IT READS IS OF BULK AT MOST 1048576: true; the input reads as it did. -/
def slotKeepsUptoRow : OpenClaim := { program := "ytmpgomjdfegfpaa", sum := "805124ee6f4dff748ac8417fbc8c50a8de6389888397f1d41dd44faf58aad8d1", func := "waterline/waterlinelaw19.SlotKeeps", spec := "slotKeeps", unfollowed := true, recurses := true, apart := false, narrowed := true }
def SlotKeepsUptoSaid : Prop := slotKeepsUptoRow.holds Try.pinned (OpenSpec.upto slotKeepsSpec)

/-- 'waterlinelaw19.SlotWears', WHERE WHAT IT READS IS OF BULK AT MOST 1048576: true; the input reads as it did. -/
def slotWearsUptoRow : OpenClaim := { program := "ytmpgomjdfegfpaa", sum := "805124ee6f4dff748ac8417fbc8c50a8de6389888397f1d41dd44faf58aad8d1", func := "waterline/waterlinelaw19.SlotWears", spec := "slotWears", unfollowed := true, recurses := true, apart := false, narrowed := true }
def SlotWearsUptoSaid : Prop := slotWearsUptoRow.holds Try.pinned (OpenSpec.upto slotWearsSpec)

/-- 'waterlinelaw19.SlotFrom', WHERE WHAT IT READS IS OF BULK AT MOST 1048576: true; the input reads as it did. -/
def slotFromUptoRow : OpenClaim := { program := "ytmpgomjdfegfpaa", sum := "805124ee6f4dff748ac8417fbc8c50a8de6389888397f1d41dd44faf58aad8d1", func := "waterline/waterlinelaw19.SlotFrom", spec := "slotFrom", unfollowed := true, recurses := true, apart := false, narrowed := true }
def SlotFromUptoSaid : Prop := slotFromUptoRow.holds Try.pinned (OpenSpec.upto slotFromSpec)

/-- 'waterlinelaw14.WearTells', WHERE WHAT IT READS IS OF BULK AT MOST 1048576: true; the input reads as it did. -/
def wearTellsUptoRow : OpenClaim := { program := "ytmpgomjdfegfpaa", sum := "805124ee6f4dff748ac8417fbc8c50a8de6389888397f1d41dd44faf58aad8d1", func := "waterline/waterlinelaw14.WearTells", spec := "wearTells", unfollowed := true, recurses := true, apart := false, narrowed := true }
def WearTellsUptoSaid : Prop := wearTellsUptoRow.holds Try.pinned (OpenSpec.upto wearTellsSpec)

/-- 'waterlinelaw11.RingWears', WHERE WHAT IT READS IS OF BULK AT MOST 1048576: true; the input reads as it did. -/
def ringWearsUptoRow : OpenClaim := { program := "ytmpgomjdfegfpaa", sum := "805124ee6f4dff748ac8417fbc8c50a8de6389888397f1d41dd44faf58aad8d1", func := "waterline/waterlinelaw11.RingWears", spec := "ringWears", unfollowed := true, recurses := true, apart := false, narrowed := true }
def RingWearsUptoSaid : Prop := ringWearsUptoRow.holds Try.pinned (OpenSpec.upto ringWearsSpec)

/-- 'waterlinelaw11.RingRounds', WHERE WHAT IT READS IS OF BULK AT MOST 1048576: true; the input reads as it did. -/
def ringRoundsUptoRow : OpenClaim := { program := "ytmpgomjdfegfpaa", sum := "805124ee6f4dff748ac8417fbc8c50a8de6389888397f1d41dd44faf58aad8d1", func := "waterline/waterlinelaw11.RingRounds", spec := "ringRounds", unfollowed := true, recurses := true, apart := false, narrowed := true }
def RingRoundsUptoSaid : Prop := ringRoundsUptoRow.holds Try.pinned (OpenSpec.upto ringRoundsSpec)

/-- 'waterlinelaw11.RingKeeps', WHERE WHAT IT READS IS OF BULK AT MOST 1048576: true; the input reads as it did. -/
def ringKeepsUptoRow : OpenClaim := { program := "ytmpgomjdfegfpaa", sum := "805124ee6f4dff748ac8417fbc8c50a8de6389888397f1d41dd44faf58aad8d1", func := "waterline/waterlinelaw11.RingKeeps", spec := "ringKeeps", unfollowed := true, recurses := true, apart := false, narrowed := true }
def RingKeepsUptoSaid : Prop := ringKeepsUptoRow.holds Try.pinned (OpenSpec.upto ringKeepsSpec)

/-- 'waterlinelaw19.SlotPlays', WHERE WHAT IT READS IS OF BULK AT MOST 1048576: true; the input reads as it did. -/
def slotPlaysUptoRow : OpenClaim := { program := "ytmpgomjdfegfpaa", sum := "805124ee6f4dff748ac8417fbc8c50a8de6389888397f1d41dd44faf58aad8d1", func := "waterline/waterlinelaw19.SlotPlays", spec := "slotPlays", unfollowed := true, recurses := true, apart := false, narrowed := true }
def SlotPlaysUptoSaid : Prop := slotPlaysUptoRow.holds Try.pinned (OpenSpec.upto slotPlaysSpec)

end Rows
end Go.Proofs.Ytmpgomjdfegfpaa
