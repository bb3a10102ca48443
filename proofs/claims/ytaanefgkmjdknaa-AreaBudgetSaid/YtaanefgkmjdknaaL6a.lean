/- The laws of chapter 6: alive, num. -/
import Derived.Test.YtaanefgkmjdknaaNorD
namespace Go.Proofs.Ytaanefgkmjdknaa
open Go.RowKit
set_option linter.unusedVariables false
set_option linter.unusedSimpArgs false

theorem num6_c (n : Int) (w : World) : Calls Try.prog 18 #[.int .i64 n] w fun e w' => e = .returned (.int .i64 n) ∧ w = w' := by
  go_enter Try.func18, Try.ntmps18
  go_wp2
  go_ret
  exact ⟨rfl, rfl⟩
def al6a : Fl := (Fl.new 3).program 0 [5]
def al6b : Fl := al6a.program 0 [6]
theorem al6_1 : (Fl.new 3).programE 0 [5] = 0 := by kernel_rfl
theorem al6_2 : al6a.programE 0 [6] = 3 := by kernel_rfl
theorem al6_3 : al6b.wear.length = 3 := by kernel_rfl
theorem al6_4 : (al6b.read 0 1).length = 1 := by kernel_rfl

theorem alive6_c (w : World) : Calls Try.prog 10 #[] w fun e w' => e = .returned (.bool true) ∧ Below w.heap.size w w' := by
  go_enter Try.func10, Try.ntmps10
  go_wp2_with fail
  refine (new_h 3 (by omega) (Below.refl w.heap.size w)).mono ?_
  rintro e w1 ⟨fb, bb, wb, rfl, h, -, -, -⟩
  go_wp2_with fail
  refine (program_c _ fb bb wb (Fl.new 3) 0 _ _ _ [5] (h.alloc _).flash (byte_row w1 5) h.apart (by omega)).mono ?_
  rintro e w2 ⟨rfl, hF2, ho2⟩
  rw [al6_1]
  have h2 : Has w w2 fb bb wb al6a := (h.alloc _).only hF2 ho2
  clear hF2 ho2 h
  go_wp2_with fail
  refine (program_c _ fb bb wb al6a 0 _ _ _ [6] (h2.alloc _).flash (byte_row w2 6) h2.apart (by omega)).mono ?_
  rintro e w3 ⟨rfl, hF3, ho3⟩
  rw [al6_2]
  have h3 : Has w w3 fb bb wb al6b := (h2.alloc _).only hF3 ho3
  clear hF3 ho3 h2
  have e3 := al6_3
  have e4 := al6_4
  go_wp2_with (first | (go_at_call 32; refine (flen_c _ h3.flash).mono ?_; rintro e w' ⟨rfl, rfl⟩) | (go_at_call 18; refine (num6_c _ _).mono ?_; rintro e w' ⟨rfl, rfl⟩) | (go_at_call 16; refine (read_c _ 0 1 (by omega) h3.flash).mono ?_; rintro e w' ⟨A', c', rfl, hown, hbel⟩))
  go_ret
  exact ⟨rfl, h3.below.trans (hbel.mono h3.below.size)⟩
end Go.Proofs.Ytaanefgkmjdknaa
