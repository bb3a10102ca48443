/- The laws of chapter 11: alive, num. -/
import Derived.Test.YtlchlcjahndjgaaGreatRgP
namespace Go.Proofs.YtlchlcjahndjgaaGreat
open Go.RowKit
set_option linter.unusedVariables false
set_option linter.unusedSimpArgs false
theorem num11_c (n : Int) (w : World) : Calls Tryz.prog 9 #[.int .i64 n] w fun e w' => e = .returned (.int .i64 n) ∧ w = w' := by
  go_enter Tryz.func9, Tryz.ntmps9
  go_wp2
  go_ret
  exact ⟨rfl, rfl⟩
theorem rg_new (B : Nat) (hB : B ≤ 1000) : Ar.new 4 0 4 B = ⟨0, 4, B⟩ := by
  unfold Ar.new
  rw [if_pos (by omega)]
  congr 1
  omega
theorem al11 : ∃ F0 R F1 Z, Fl.new ((4 : Nat) : Int) = F0 ∧ F0.wear.length = 4 ∧ Ar.new 4 0 4 3 = R ∧ R.ringF F0 = ⟨0, 0, [], false⟩ ∧ R.ringE F0 [120] = 0 ∧ R.ringP F0 [120] = F1 ∧ R.ringF F1 = ⟨0, 1, Z, true⟩ ∧ R.ringN F1 = 1 := by
  have h0 := puts_start 3 (fun _ => [120])
  obtain ⟨-, p1, p2⟩ := puts_step h0 (by omega) (by omega) (by simp)
  exact ⟨_, _, _, _, rfl, new_wlen 4 (by omega), rg_new 3 (by omega), puts_F0 h0 (by omega), p1, rfl, puts_F p2 (by omega) (by omega) (by omega), puts_N p2 (by omega) (by omega)⟩
set_option maxRecDepth 100000 in
theorem alive11_c (w : World) : Calls Tryz.prog 4 #[] w fun e w' => e = .returned (.bool true) ∧ Below w.heap.size w w' := by
  obtain ⟨F0, R, F1, Z, f0, f1, f2, f3, f4, f5, f6, f7⟩ := al11
  have G0 := Lib.hid f0
  have G1 := Lib.hid f1
  have G2 := Lib.hid f2
  have G4 := Lib.hid f4
  have G5 := Lib.hid f5
  have hl0 : ∀ W ab fb bb wb, HasA w W ab fb bb wb R F0 → Calls Tryz.prog 20 #[ptr ab] W fun e w' => ∃ A c, e = .returned (.tuple #[.int .i64 0, .slice A 0 c, .bool false]) ∧ HasA w w' ab fb bb wb R F0 ∧ 0 ≤ c := fun W ab fb bb wb h => (last_h h _ f3).mono fun e w' ⟨A, c, he, _, hh, _⟩ => ⟨A, c, he, hh, Nat.zero_le _⟩
  have hl1 : ∀ W ab fb bb wb, HasA w W ab fb bb wb R F1 → Calls Tryz.prog 20 #[ptr ab] W fun e w' => ∃ A c, e = .returned (.tuple #[.int .i64 1, .slice A Z.length c, .bool true]) ∧ HasA w w' ab fb bb wb R F1 ∧ 0 ≤ c := fun W ab fb bb wb h => (last_h h _ f6).mono fun e w' ⟨A, c, he, _, hh, _⟩ => ⟨A, c, he, hh, Nat.zero_le _⟩
  have hn1 : ∀ W ab fb bb wb, HasA w W ab fb bb wb R F1 → Calls Tryz.prog 22 #[ptr ab] W fun e w' => e = .returned (.int .i64 1) ∧ HasA w w' ab fb bb wb R F1 := fun W ab fb bb wb h => (next_h h 1 f7).mono fun e w' ⟨he, hh, _⟩ => ⟨he, hh⟩
  clear f0 f1 f2 f3 f4 f5 f6 f7
  go_enter Tryz.func4, Tryz.ntmps4
  go_wp2_with fail
  refine (new_hf 4 (by omega) F0 G0.out (Below.refl w.heap.size w)).mono ?_
  rintro e w1 ⟨fb, bb, wb, rfl, h1⟩
  go_wp2_with fail
  refine (anew_h 0 0 4 3 4 G1.out R G2.out h1).mono ?_
  rintro e w2 ⟨ab, rfl, h2, -, -⟩
  go_wp2_with fail
  refine (hl0 _ _ _ _ _ h2).mono ?_
  rintro e w3 ⟨A3, c3, rfl, h3, -⟩
  have H3 := Lib.hid h3
  clear h1 h2 h3 hl0
  have kc := Lib.run_convert_bytes_const (P := Tryz.prog) w3 34 5 #[.int .u8 120] 1 1 Tryz.underlying34 Tryz.underlying5
  go_wp2_with fail
  refine (rput_h _ 1 1 [120] (by omega) (rowReads w3 [120] 5 (1, 2)) H3.out.has.apart (H3.out.alloc _) 0 F1 G4.out G5.out).mono ?_
  rintro e w4 ⟨rfl, h4, -⟩
  go_wp2_with fail
  refine (hl1 _ _ _ _ _ h4).mono ?_
  rintro e w5 ⟨A5, c5, rfl, h5, -⟩
  clear h4 kc
  go_wp2_with (first
    | (go_at_call 9; refine (num11_c _ _).mono ?_; rintro e w' ⟨rfl, rfl⟩)
    | (go_at_call 22; refine (hn1 _ _ _ _ _ h5).mono ?_; rintro e w6 ⟨rfl, h6⟩))
  go_ret
  exact ⟨rfl, h6.has.below⟩
end Go.Proofs.YtlchlcjahndjgaaGreat
