/- Walks of package nor, first part: what only reads. -/
import Derived.Test.YtpafenlcgcenlaaGreatDoorNorSpec
import Derived.Test.YtpafenlcgcenlaaGreatDoorLib
import Derived.WalkKit
import Derived.WalkSpells
import Derived.WalkLawsBesides
import Derived.Outline
import Derived.Deep.QuietTactic
import Derived.BigQuiet
import Derived.Lib.Hide
namespace Go.Proofs.YtpafenlcgcenlaaGreatDoor
open Go.RowKit
set_option linter.unusedVariables false
set_option linter.unusedSimpArgs false

theorem bool_ret {a b : Bool} (h : a = b) : Ending.returned (.bool a) = .returned (.bool b) := by rw [h]
theorem int_ret {k : IntKind} {a b : Int} (h : a = b) : Ending.returned (.int k a) = .returned (.int k b) := by rw [h]

section
variable {w : World} {fb bb wb : Nat} {F : Fl}
end

abbrev ptr (b : Nat) : Value := .pointer (some ⟨b, 0, none⟩)
section
variable {fb bb wb : Nat} {F : Fl} (w : World)
end
end Go.Proofs.YtpafenlcgcenlaaGreatDoor
