/- What steps a text says (plain). -/
import Derived.Test.YthidjmdcpdhdlaaDoorScD
import Derived.Test.YthidjmdcpdhdlaaDoorScF
namespace Go.Proofs.YthidjmdcpdhdlaaDoor
open Go Go.RowKit
set_option linter.unusedVariables false
set_option linter.unusedSimpArgs false
structure Sp where
  kind : Int
  tenant : Int
  n : Int
  rk : Int
  rn : Int
  bytes : List UInt8
  mask : List UInt8
/-- The words of a line, each behind one blank. -/
def splitG : List UInt8 → List UInt8 → List (List UInt8)
  | [], cur => [cur]
  | b :: l, cur => if b = 32 then cur :: splitG l [] else splitG l (cur ++ [b])
def askL : List UInt8 := [97, 115, 107]
def tickL : List UInt8 := [116, 105, 99, 107]
def cutL : List UInt8 := [99, 117, 116]
def passL : List UInt8 := [112, 97, 115, 115]
/-- Which step some words say. -/
def stepW : List (List UInt8) → Option Sp
  | [t] => if t = tickL then Option.some ⟨1, 0, 0, 0, 0, [], []⟩ else Option.none
  | [t, a] => if t = passL then (numS a).map fun n => ⟨3, 0, n, 0, 0, [], []⟩ else Option.none
  | [t, a, b] => if t = cutL then (numS a).bind fun n => (rawS b).map fun m => ⟨2, 0, n, 0, 0, [], m⟩ else Option.none
  | [t, a, b, c, d] => if t = askL then (numS a).bind fun x => (numS b).bind fun k => (numS c).bind fun n => (rawS d).map fun m => ⟨0, x, 0, k, n, m, []⟩ else Option.none
  | _ => Option.none
/-- Which steps a text says, or which line is none. -/
def readG : List UInt8 → List UInt8 → Nat → List Sp → Option (List Sp) × Nat
  | [], cur, k, acc => if cur = [] then (Option.some acc, 0) else (Option.none, k)
  | b :: l, cur, k, acc => if b = 10 then (match stepW (splitG cur []) with | Option.none => (Option.none, k) | Option.some x => readG l [] (k + 1) (acc ++ [x])) else readG l (cur ++ [b]) k acc
def readS (l : List UInt8) : Option (List Sp) × Nat := readG l [] 0 []
/-- The lines of ScriptWrong, behind a tick. -/
def wrongL : List (List UInt8) := [[116, 105, 99, 107, 10], [116, 105, 99, 107], [116, 105, 99, 107, 32, 10], [32, 116, 105, 99, 107, 10], [10], [84, 105, 99, 107, 10], [112, 97, 115, 115, 32, 48, 10], [112, 97, 115, 115, 32, 48, 48, 10], [112, 97, 115, 115, 32, 45, 49, 10], [112, 97, 115, 115, 32, 50, 49, 52, 55, 52, 56, 51, 54, 52, 55, 10], [112, 97, 115, 115, 32, 50, 49, 52, 55, 52, 56, 51, 54, 52, 56, 10], [112, 97, 115, 115, 10], [99, 117, 116, 32, 48, 32, 45, 10], [99, 117, 116, 32, 48, 32, 102, 102, 10], [99, 117, 116, 32, 48, 32, 102, 10], [99, 117, 116, 32, 48, 32, 70, 70, 10], [99, 117, 116, 32, 48, 32, 10], [99, 117, 116, 32, 48, 10], [97, 115, 107, 32, 48, 32, 57, 32, 48, 32, 45, 10], [97, 115, 107, 32, 48, 32, 57, 32, 48, 32, 48, 97, 10], [97, 115, 107, 32, 48, 32, 57, 32, 48, 10], [97, 115, 107, 32, 48, 32, 57, 32, 45, 10], [97, 115, 107, 32, 32, 48, 32, 57, 32, 48, 32, 45, 10], [112, 97, 115, 115, 32, 217, 163, 10]]
def wrongOk : List Bool := [true, false, false, false, false, false, true, false, false, true, false, false, true, true, false, false, false, false, true, true, false, false, false, false]
def wrong1 (k : Nat) : Bool :=
  let r := readS ([116, 105, 99, 107, 10] ++ wrongL.getD k [])
  if wrongOk.getD k false then r.1.map List.length == Option.some 2 && r.2 == 0 else r.1.isNone && r.2 == 1
theorem wrong_all : ∀ k : Fin 24, wrong1 k.val = true := of_decide_eq_true (by kernel_rfl)
end Go.Proofs.YthidjmdcpdhdlaaDoor
