/- A stream of bytes: Write. -/
import Derived.Test.YtgadnliogceecaaSha9
namespace Go.Proofs.Ytgadnliogceecaa
open Go.RowKit
set_option linter.unusedVariables false
set_option linter.unusedSimpArgs false

/-- All whole blocks of l mixed in, one behind the other; and what is left. -/
def absorb (s : St) (l : List UInt8) : St × List UInt8 :=
  if h : 64 ≤ l.length then absorb (mixS s (l.take 64)) (l.drop 64) else (s, l)
termination_by l.length
decreasing_by simp; omega
theorem absorb_more (s : St) (l : List UInt8) (h : 64 ≤ l.length) : absorb s l = absorb (mixS s (l.take 64)) (l.drop 64) := by
  rw [absorb, dif_pos h]
theorem absorb_done (s : St) (l : List UInt8) (h : ¬ 64 ≤ l.length) : absorb s l = (s, l) := by
  rw [absorb, dif_neg h]
theorem w64_len (n : UInt64) (k : Nat) (hk : k ≤ 9223372036854775807) : ((n.toNat : Int) + (k : Int)) % (18446744073709551616 : Int) = ((n + UInt64.ofNat k).toNat : Int) := by
  rw [UInt64.toNat_add, UInt64.toNat_ofNat']; omega
end Go.Proofs.Ytgadnliogceecaa
