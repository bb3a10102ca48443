/- The laws of chapter 19: alive, num. -/
import Derived.Test.YtmpgomjdfegfpaaSl4
import Derived.Test.YtmpgomjdfegfpaaStr
namespace Go.Proofs.Ytmpgomjdfegfpaa
open Go.RowKit
set_option linter.unusedVariables false
set_option linter.unusedSimpArgs false

theorem num19_c (n : Int) (w : World) : Calls Try.prog 15 #[.int .i64 n] w fun e w' => e = .returned (.int .i64 n) ∧ w = w' := by
  go_enter Try.func15, Try.ntmps15
  go_wp2
  go_ret
  exact ⟨rfl, rfl⟩
theorem new_calm (n : Nat) (hn : n ≤ 400) (x : Nat) (hx : x < n) : (Fl.new n).blank x = true := by
  have h1 := Fl.new_b n hn
  refine Fl.blank_of (by rw [h1.1, h1.2]; simp; omega) x (by rw [h1.2]; simpa using hx) fun i hi => Fl.new_getD n hn _ (by omega)
theorem new_wlen (n : Nat) (hn : n ≤ 400) : (Fl.new n).wear.length = n := by rw [(Fl.new_b n hn).2]; simp
theorem al19 : ∃ F0 R F', Fl.new ((8 : Nat) : Int) = F0 ∧ F0.wear.length = 8 ∧ Ar.new 8 0 8 3 = R ∧ R.chunkE F0 4 [120] = 0 ∧ R.chunk F0 4 [120] = F' ∧ R.image F' 0 2 1 = [120] := by
  have hR : Ar.new 8 0 8 3 = ⟨0, 8, 3⟩ := by kernel_rfl
  have hok : (⟨0, 8, 3⟩ : Ar).Ok 8 := by rw [← hR]; exact Ar.new_ok 8 0 8 3
  have hl := new_wlen 8 (by omega)
  have hok2 : (⟨0, 8, 3⟩ : Ar).Ok (Fl.new ((8 : Nat) : Int)).wear.length := by rw [hl]; exact hok
  obtain ⟨-, p1, -, p2⟩ := Ar.chunk_blank hok2 (Fl.Calm.new _) (Fl.new_ok _) 4 (by decide) [120] (by simp) (by simp) (new_calm 8 (by omega) 4 (by omega))
  have h3 := Ar.image_is (R := ⟨0, 8, 3⟩) (by rw [p2.len]; exact hok2) p2.ok 0 2 (by omega) (by omega) (by omega) [120] (by simp) (by simp) (by simp) (fun j hj => p2.here j hj)
  exact ⟨_, _, _, rfl, hl, hR, p1, rfl, h3⟩
theorem al19_f : fromS 0 0 2 = 4 ∧ fromS 1 0 2 = 6 := ⟨rfl, rfl⟩
set_option maxRecDepth 100000 in
theorem alive19_c (w : World) : Calls Try.prog 11 #[] w fun e w' => e = .returned (.bool true) ∧ Below w.heap.size w w' := by
  obtain ⟨F0, R, F', f5, f6, f0, f1, f2, f4⟩ := al19
  have G5 := Lib.hid f5
  have G6 := Lib.hid f6
  have G0 := Lib.hid f0
  have G1 := Lib.hid f1
  have G2 := Lib.hid f2
  have G4 := Lib.hid f4
  clear f0 f1 f2 f4 f5 f6
  have hfr : ∀ w, Calls Try.prog 20 #[.int .i64 1, .int .i64 0, .int .i64 2] w fun e w' => e = .returned (.int .i64 6) ∧ w = w' := fun w => al19_f.2 ▸ from_c 1 0 2 w
  go_enter Try.func11, Try.ntmps11
  go_wp2_with fail
  refine (new_hf 8 (by omega) F0 G5.out (Below.refl w.heap.size w)).mono ?_
  rintro e w1 ⟨fb, bb, wb, rfl, h⟩
  go_wp2_with fail
  refine (anew_h 0 0 8 3 8 G6.out R G0.out h).mono ?_
  rintro e w2 ⟨ab, rfl, h2, -, -⟩
  have kc := Lib.run_convert_bytes_const (P := Try.prog) w2 22 5 #[.int .u8 120] 1 1 Try.underlying22 Try.underlying5
  go_wp2_with fail
  refine (swrite_h 0 0 2 _ 1 1 [120] rfl 0 F' 4 al19_f.1 G1.out G2.out (rowReads w2 [120] 5 (1, 2)) h2.has.apart (h2.alloc _)).mono ?_
  rintro e w3 ⟨rfl, h3, -⟩
  have H3 := Lib.hid h3
  clear h3 kc
  go_wp2_with (first
    | (go_at_call 15; refine (num19_c _ _).mono ?_; rintro e w' ⟨rfl, rfl⟩)
    | (go_at_call 20; refine (hfr _).mono ?_; rintro e w' ⟨rfl, rfl⟩)
    | (go_at_call 18; refine (image_h 0 2 1 (by omega) [120] G4.out H3.out).mono ?_; rintro e w4 ⟨A4, c4, rfl, hown4, h4, hb4⟩; have hst := strAny w4 A4 1 c4 [120] (Reads.of_own hown4)))
  go_ret
  exact ⟨rfl, h4.has.below⟩
end Go.Proofs.Ytmpgomjdfegfpaa
