/- waterlinelaw3.ShaSums: the walk. -/
import Derived.Test.YtgadnliogceecaaHm4
import Derived.Test.YtgadnliogceecaaRs7
namespace Go.Proofs.Ytgadnliogceecaa
open Go Go.RowKit
set_option linter.unusedVariables false
set_option linter.unusedSimpArgs false
set_option maxRecDepth 100000 in
set_option maxHeartbeats 1000000 in
theorem shaSums_off (w : World) (A : Option Addr) (n c : Nat) (hg : 2000 < n) :
    Calls Try.prog 3 #[.slice A n c] w fun e w' => e = .returned (.bool true) ∧ Below w.heap.size w w' := by
  have g0 : 2000 < n := by omega
  go_enter Try.func3, Try.ntmps3
  go_wp2_with (go_at_call 12; refine (alive3_c _).mono ?_; rintro e w1 ⟨rfl, hb⟩)
  go_ret
  exact ⟨rfl, hb⟩

set_option maxRecDepth 100000 in
theorem shaSums_c (w : World) (A : Option Addr) (n c : Nat) (b : List UInt8) (r : Reads w A n (b.map u8v)) :
    Calls Try.prog 3 #[.slice A n c] w fun e w' => e = .returned (.bool true) ∧ Below w.heap.size w w' := by
  by_cases hg : 2000 < n
  · exact shaSums_off w A n c hg
  · have hbl : b.length = n := by simpa using r.len
    have R := Lib.hid r
    clear r
    go_enter Try.func3, Try.ntmps3
    go_upto_region 4 with (go_at_call 12; refine (alive3_c _).mono ?_; rintro e w1 ⟨rfl, hb⟩)
    have HB := Lib.hid hb
    clear hb
    go_wp2_with fail
    refine (sum_d w1 A n c b _ rfl hbl (R.out.below HB.out) (by omega)).mono ?_
    rintro e w2 ⟨rfl, hb2⟩
    have HB2 := Lib.hid (HB.out.trans (hb2.mono HB.out.size))
    clear hb2
    go_wp2_with fail
    refine (rsha_d w2 A n c b hbl (R.out.below HB2.out) (by omega)).mono ?_
    rintro e w3 ⟨rfl, hb3⟩
    have HB3 := Lib.hid (HB2.out.trans (hb3.mono HB2.out.size))
    clear hb3
    have he := fun W => eql32 (sha b) (sha b) (sha_len _) (sha_len _) W
    generalize sha b = t at he ⊢
    rw [show (t == t) = true by simp] at he
    go_wp2_with fail
    go_ret
    exact ⟨rfl, HB3.out⟩
end Go.Proofs.Ytgadnliogceecaa
