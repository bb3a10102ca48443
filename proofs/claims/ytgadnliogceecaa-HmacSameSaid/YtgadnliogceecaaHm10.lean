/- waterlinelaw4.HmacSame: which rows of bytes are the same. -/
import Derived.Test.YtgadnliogceecaaHm6
namespace Go.Proofs.Ytgadnliogceecaa
open Go Go.RowKit
set_option linter.unusedVariables false
theorem hmacSame_i (w : World) (A B : Option Addr) (n c m c2 : Nat) (a b : List UInt8) (x y : Int) (hy : 0 ≤ y ∧ y ≤ 255) (ra : Reads w A n (a.map u8v)) (rb : Reads w B m (b.map u8v)) (hx : x ≤ 9223372036854775807) (hnc : n ≤ c ∧ c ≤ maxLen) :
    Calls Try.prog 8 #[.slice A n c, .slice B m c2, .int .i64 x, .int .u8 y] w fun e w' => e = .returned (.bool true) ∧ Below w.heap.size w w' := by
  have h : y = ((UInt8.ofNat y.toNat).toNat : Int) := by rw [UInt8.toNat_ofNat']; omega
  rw [h]
  exact hmacSame_c w A B n c m c2 a b x (UInt8.ofNat y.toNat) ra rb hx hnc
end Go.Proofs.Ytgadnliogceecaa
