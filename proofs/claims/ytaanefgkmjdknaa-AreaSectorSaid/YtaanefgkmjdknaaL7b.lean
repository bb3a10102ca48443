/- waterlinelaw7.AreaSector: nothing is written over a sector's end, and nothing read. -/
import Derived.Test.YtaanefgkmjdknaaL7a
import Derived.Test.YtaanefgkmjdknaaL6b
namespace Go.Proofs.Ytaanefgkmjdknaa
open Go.RowKit
set_option linter.unusedVariables false
set_option linter.unusedSimpArgs false

theorem sec_in (s a : Int) (k : Nat) (hk : 1 ≤ k) (h0 : 0 ≤ s) (h1 : s < 3) (h2 : 0 ≤ a) (h3 : a ≤ 320) (h4 : (k : Int) ≤ 320 - a) : ∃ F0 R F1 l, Fl.new ((5 : Nat) : Int) = F0 ∧ F0.wear.length = 5 ∧ Ar.new 5 1 3 2 = R ∧
    R.programE F0 s a (List.replicate k 0) = 0 ∧ R.program F0 s a (List.replicate k 0) = F1 ∧ R.read F1 s a k = l ∧ l.length = k := by
  have hR : Ar.new 5 1 3 2 = ⟨1, 3, 2⟩ := by kernel_rfl
  have hw : (⟨1, 3, 2⟩ : Ar).within s a k = true := by simp [Ar.within, Ar.is]; omega
  have hwl : (⟨1, 3, 2⟩ : Ar).within s a (List.replicate k (0 : UInt8)).length = true := by rw [List.length_replicate]; exact hw
  have hb : (Fl.new ((5 : Nat) : Int)).within (((1 : Nat) + s) * 320 + a) k = true := by rw [new_within 5 (by omega)]; simp; omega
  obtain ⟨f1, f2, f3⟩ := nb_in 5 (by omega) _ k hk hb
  refine ⟨_, _, _, _, rfl, new_wear 5 (by omega), hR, ?_, rfl, rfl, ?_⟩
  · unfold Ar.programE; rw [if_pos hwl]; exact f1
  · unfold Ar.program Ar.read; rw [if_pos hwl, if_pos hw]; exact f2
theorem sec_out (s a : Int) (k : Nat) (hg : s < 0 ∨ 3 ≤ s ∨ a < 0 ∨ 320 < a ∨ 320 - a < (k : Int)) : ∃ F0 R, Fl.new ((5 : Nat) : Int) = F0 ∧ F0.wear.length = 5 ∧ Ar.new 5 1 3 2 = R ∧
    R.programE F0 s a (List.replicate k 0) = 2 ∧ R.program F0 s a (List.replicate k 0) = F0 ∧ R.read F0 s a k = [] := by
  have hR : Ar.new 5 1 3 2 = ⟨1, 3, 2⟩ := by kernel_rfl
  have hw : (⟨1, 3, 2⟩ : Ar).within s a k = false := by rw [Bool.eq_false_iff]; simp [Ar.within, Ar.is]; omega
  have hwl : (⟨1, 3, 2⟩ : Ar).within s a (List.replicate k (0 : UInt8)).length = false := by rw [List.length_replicate]; exact hw
  refine ⟨_, _, rfl, new_wear 5 (by omega), hR, ?_, ?_, ?_⟩
  · unfold Ar.programE; rw [if_neg (by rw [hwl]; simp)]
  · unfold Ar.program; rw [if_neg (by rw [hwl]; simp)]
  · unfold Ar.read; rw [if_neg (by rw [hw]; simp)]

theorem areaSector_off (s a k : Int) (w : World) (hg : k < 1 ∨ 400 < k) : Calls Try.prog 9 #[.int .i64 s, .int .i64 a, .int .i64 k] w fun e w' => e = .returned (.bool true) ∧ Below w.heap.size w w' := by
  by_cases h1 : k < 1
  · go_enter Try.func9, Try.ntmps9
    go_wp2_with (go_at_call 27; refine (alive7_c _).mono ?_; rintro e w1 ⟨rfl, hb⟩)
    go_ret
    exact ⟨rfl, hb⟩
  · have h2 : 400 < k := by omega
    go_enter Try.func9, Try.ntmps9
    go_wp2_with (go_at_call 27; refine (alive7_c _).mono ?_; rintro e w1 ⟨rfl, hb⟩)
    go_ret
    exact ⟨rfl, hb⟩

theorem areaSector_in (s a : Int) (k : Nat) (w : World) (hk : 1 ≤ k) (hk2 : k ≤ 400) (h0 : 0 ≤ s) (h1 : s < 3) (h2 : 0 ≤ a) (h3 : a ≤ 320) (h4 : (k : Int) ≤ 320 - a) :
    Calls Try.prog 9 #[.int .i64 s, .int .i64 a, .int .i64 (k : Int)] w fun e w' => e = .returned (.bool true) ∧ Below w.heap.size w w' := by
  have hmk := fun W => make_bytes k (by omega) W
  obtain ⟨F0, R, F1, l, g0, g1, g2, g3, g4, g5, g6⟩ := sec_in s a k hk h0 h1 h2 h3 h4
  have G0 := Lib.hid g0
  have G1 := Lib.hid g1
  have G2 := Lib.hid g2
  have G3 := Lib.hid g3
  have G4 := Lib.hid g4
  have G5 := Lib.hid g5
  clear g0 g1 g2 g3 g4 g5
  go_enter Try.func9, Try.ntmps9
  go_wp2_with (go_at_call 27; refine (alive7_c _).mono ?_; rintro e w1 ⟨rfl, hb1⟩)
  refine (new_hf 5 (by omega) F0 G0.out hb1).mono ?_
  rintro e w2 ⟨fb, bb, wb, rfl, h⟩
  go_wp2_with fail
  refine (anew_h 0 1 3 2 5 G1.out R G2.out h).mono ?_
  rintro e w3 ⟨ab, rfl, h3, -, -⟩
  go_wp2_with fail
  refine (aprogram_h s a _ _ _ (List.replicate k 0) _ _ G3.out G4.out (by rw [List.map_replicate]; exact (Blk.new w3 5 _).rep) h3.has.apart (h3.alloc _)).mono ?_
  rintro e w4 ⟨rfl, h4, -⟩
  go_wp2_with fail
  refine (aread_h s a k (by omega) _ G5.out h4).mono ?_
  rintro e w5 ⟨A', c', rfl, hown, h5, hbl⟩
  go_wp2_with (go_at_call 28; refine (num7_c _ _).mono ?_; rintro e w' ⟨rfl, rfl⟩)
  go_ret
  exact ⟨rfl, h5.has.below⟩

theorem areaSector_0 (s a : Int) (k : Nat) (w : World) (hk : 1 ≤ k) (hk2 : k ≤ 400)  (h0 : s < 0) :
    Calls Try.prog 9 #[.int .i64 s, .int .i64 a, .int .i64 (k : Int)] w fun e w' => e = .returned (.bool true) ∧ Below w.heap.size w w' := by
  have hmk := fun W => make_bytes k (by omega) W
  have hk0 : ((0 : Int) == (k : Int)) = false := by rw [beq_eq_false_iff_ne]; omega
  obtain ⟨F0, R, g0, g1, g2, g3, g4, g5⟩ := sec_out s a k (by omega)
  have G0 := Lib.hid g0
  have G1 := Lib.hid g1
  have G2 := Lib.hid g2
  have G3 := Lib.hid g3
  have G4 := Lib.hid g4
  have G5 := Lib.hid g5
  clear g0 g1 g2 g3 g4 g5
  go_enter Try.func9, Try.ntmps9
  go_wp2_with (go_at_call 27; refine (alive7_c _).mono ?_; rintro e w1 ⟨rfl, hb1⟩)
  refine (new_hf 5 (by omega) F0 G0.out hb1).mono ?_
  rintro e w2 ⟨fb, bb, wb, rfl, h⟩
  go_wp2_with fail
  refine (anew_h 0 1 3 2 5 G1.out R G2.out h).mono ?_
  rintro e w3 ⟨ab, rfl, h3, -, -⟩
  go_wp2_with fail
  refine (aprogram_h s a _ _ _ (List.replicate k 0) _ _ G3.out G4.out (by rw [List.map_replicate]; exact (Blk.new w3 5 _).rep) h3.has.apart (h3.alloc _)).mono ?_
  rintro e w4 ⟨rfl, h4, -⟩
  go_wp2_with fail
  refine (aread_h s a k (by omega) _ G5.out h4).mono ?_
  rintro e w5 ⟨A', c', rfl, hown, h5, hbl⟩
  go_wp2_with (go_at_call 28; refine (num7_c _ _).mono ?_; rintro e w' ⟨rfl, rfl⟩)
  go_ret
  exact ⟨rfl, h5.has.below⟩

theorem areaSector_1 (s a : Int) (k : Nat) (w : World) (hk : 1 ≤ k) (hk2 : k ≤ 400) (h0 : 0 ≤ s) (h1 : 3 ≤ s) :
    Calls Try.prog 9 #[.int .i64 s, .int .i64 a, .int .i64 (k : Int)] w fun e w' => e = .returned (.bool true) ∧ Below w.heap.size w w' := by
  have hmk := fun W => make_bytes k (by omega) W
  have hk0 : ((0 : Int) == (k : Int)) = false := by rw [beq_eq_false_iff_ne]; omega
  obtain ⟨F0, R, g0, g1, g2, g3, g4, g5⟩ := sec_out s a k (by omega)
  have G0 := Lib.hid g0
  have G1 := Lib.hid g1
  have G2 := Lib.hid g2
  have G3 := Lib.hid g3
  have G4 := Lib.hid g4
  have G5 := Lib.hid g5
  clear g0 g1 g2 g3 g4 g5
  go_enter Try.func9, Try.ntmps9
  go_wp2_with (go_at_call 27; refine (alive7_c _).mono ?_; rintro e w1 ⟨rfl, hb1⟩)
  refine (new_hf 5 (by omega) F0 G0.out hb1).mono ?_
  rintro e w2 ⟨fb, bb, wb, rfl, h⟩
  go_wp2_with fail
  refine (anew_h 0 1 3 2 5 G1.out R G2.out h).mono ?_
  rintro e w3 ⟨ab, rfl, h3, -, -⟩
  go_wp2_with fail
  refine (aprogram_h s a _ _ _ (List.replicate k 0) _ _ G3.out G4.out (by rw [List.map_replicate]; exact (Blk.new w3 5 _).rep) h3.has.apart (h3.alloc _)).mono ?_
  rintro e w4 ⟨rfl, h4, -⟩
  go_wp2_with fail
  refine (aread_h s a k (by omega) _ G5.out h4).mono ?_
  rintro e w5 ⟨A', c', rfl, hown, h5, hbl⟩
  go_wp2_with (go_at_call 28; refine (num7_c _ _).mono ?_; rintro e w' ⟨rfl, rfl⟩)
  go_ret
  exact ⟨rfl, h5.has.below⟩

theorem areaSector_2 (s a : Int) (k : Nat) (w : World) (hk : 1 ≤ k) (hk2 : k ≤ 400) (h0 : 0 ≤ s) (h1 : s < 3) (h2 : a < 0) :
    Calls Try.prog 9 #[.int .i64 s, .int .i64 a, .int .i64 (k : Int)] w fun e w' => e = .returned (.bool true) ∧ Below w.heap.size w w' := by
  have hmk := fun W => make_bytes k (by omega) W
  have hk0 : ((0 : Int) == (k : Int)) = false := by rw [beq_eq_false_iff_ne]; omega
  obtain ⟨F0, R, g0, g1, g2, g3, g4, g5⟩ := sec_out s a k (by omega)
  have G0 := Lib.hid g0
  have G1 := Lib.hid g1
  have G2 := Lib.hid g2
  have G3 := Lib.hid g3
  have G4 := Lib.hid g4
  have G5 := Lib.hid g5
  clear g0 g1 g2 g3 g4 g5
  go_enter Try.func9, Try.ntmps9
  go_wp2_with (go_at_call 27; refine (alive7_c _).mono ?_; rintro e w1 ⟨rfl, hb1⟩)
  refine (new_hf 5 (by omega) F0 G0.out hb1).mono ?_
  rintro e w2 ⟨fb, bb, wb, rfl, h⟩
  go_wp2_with fail
  refine (anew_h 0 1 3 2 5 G1.out R G2.out h).mono ?_
  rintro e w3 ⟨ab, rfl, h3, -, -⟩
  go_wp2_with fail
  refine (aprogram_h s a _ _ _ (List.replicate k 0) _ _ G3.out G4.out (by rw [List.map_replicate]; exact (Blk.new w3 5 _).rep) h3.has.apart (h3.alloc _)).mono ?_
  rintro e w4 ⟨rfl, h4, -⟩
  go_wp2_with fail
  refine (aread_h s a k (by omega) _ G5.out h4).mono ?_
  rintro e w5 ⟨A', c', rfl, hown, h5, hbl⟩
  go_wp2_with (go_at_call 28; refine (num7_c _ _).mono ?_; rintro e w' ⟨rfl, rfl⟩)
  go_ret
  exact ⟨rfl, h5.has.below⟩

theorem areaSector_3 (s a : Int) (k : Nat) (w : World) (hk : 1 ≤ k) (hk2 : k ≤ 400) (h0 : 0 ≤ s) (h1 : s < 3) (h2 : 0 ≤ a) (h3 : 320 < a) :
    Calls Try.prog 9 #[.int .i64 s, .int .i64 a, .int .i64 (k : Int)] w fun e w' => e = .returned (.bool true) ∧ Below w.heap.size w w' := by
  have hmk := fun W => make_bytes k (by omega) W
  have hk0 : ((0 : Int) == (k : Int)) = false := by rw [beq_eq_false_iff_ne]; omega
  obtain ⟨F0, R, g0, g1, g2, g3, g4, g5⟩ := sec_out s a k (by omega)
  have G0 := Lib.hid g0
  have G1 := Lib.hid g1
  have G2 := Lib.hid g2
  have G3 := Lib.hid g3
  have G4 := Lib.hid g4
  have G5 := Lib.hid g5
  clear g0 g1 g2 g3 g4 g5
  go_enter Try.func9, Try.ntmps9
  go_wp2_with (go_at_call 27; refine (alive7_c _).mono ?_; rintro e w1 ⟨rfl, hb1⟩)
  refine (new_hf 5 (by omega) F0 G0.out hb1).mono ?_
  rintro e w2 ⟨fb, bb, wb, rfl, h⟩
  go_wp2_with fail
  refine (anew_h 0 1 3 2 5 G1.out R G2.out h).mono ?_
  rintro e w3 ⟨ab, rfl, h3, -, -⟩
  go_wp2_with fail
  refine (aprogram_h s a _ _ _ (List.replicate k 0) _ _ G3.out G4.out (by rw [List.map_replicate]; exact (Blk.new w3 5 _).rep) h3.has.apart (h3.alloc _)).mono ?_
  rintro e w4 ⟨rfl, h4, -⟩
  go_wp2_with fail
  refine (aread_h s a k (by omega) _ G5.out h4).mono ?_
  rintro e w5 ⟨A', c', rfl, hown, h5, hbl⟩
  go_wp2_with (go_at_call 28; refine (num7_c _ _).mono ?_; rintro e w' ⟨rfl, rfl⟩)
  go_ret
  exact ⟨rfl, h5.has.below⟩

theorem areaSector_4 (s a : Int) (k : Nat) (w : World) (hk : 1 ≤ k) (hk2 : k ≤ 400) (h0 : 0 ≤ s) (h1 : s < 3) (h2 : 0 ≤ a) (h3 : a ≤ 320) (h4 : 320 - a < (k : Int)) :
    Calls Try.prog 9 #[.int .i64 s, .int .i64 a, .int .i64 (k : Int)] w fun e w' => e = .returned (.bool true) ∧ Below w.heap.size w w' := by
  have hmk := fun W => make_bytes k (by omega) W
  have hk0 : ((0 : Int) == (k : Int)) = false := by rw [beq_eq_false_iff_ne]; omega
  obtain ⟨F0, R, g0, g1, g2, g3, g4, g5⟩ := sec_out s a k (by omega)
  have hd : decide ((k : Int) ≤ 320 - a) = false := by rw [decide_eq_false_iff_not]; omega
  have G0 := Lib.hid g0
  have G1 := Lib.hid g1
  have G2 := Lib.hid g2
  have G3 := Lib.hid g3
  have G4 := Lib.hid g4
  have G5 := Lib.hid g5
  clear g0 g1 g2 g3 g4 g5
  go_enter Try.func9, Try.ntmps9
  go_wp2_with (go_at_call 27; refine (alive7_c _).mono ?_; rintro e w1 ⟨rfl, hb1⟩)
  refine (new_hf 5 (by omega) F0 G0.out hb1).mono ?_
  rintro e w2 ⟨fb, bb, wb, rfl, h⟩
  go_wp2_with fail
  refine (anew_h 0 1 3 2 5 G1.out R G2.out h).mono ?_
  rintro e w3 ⟨ab, rfl, h3, -, -⟩
  go_wp2_with fail
  refine (aprogram_h s a _ _ _ (List.replicate k 0) _ _ G3.out G4.out (by rw [List.map_replicate]; exact (Blk.new w3 5 _).rep) h3.has.apart (h3.alloc _)).mono ?_
  rintro e w4 ⟨rfl, h4, -⟩
  go_wp2_with fail
  refine (aread_h s a k (by omega) _ G5.out h4).mono ?_
  rintro e w5 ⟨A', c', rfl, hown, h5, hbl⟩
  go_wp2_with (go_at_call 28; refine (num7_c _ _).mono ?_; rintro e w' ⟨rfl, rfl⟩)
  go_ret
  exact ⟨rfl, h5.has.below⟩

theorem areaSector_c (s a k : Int) (w : World) : Calls Try.prog 9 #[.int .i64 s, .int .i64 a, .int .i64 k] w fun e w' => e = .returned (.bool true) ∧ Below w.heap.size w w' := by
  by_cases hg : k < 1 ∨ 400 < k
  · exact areaSector_off s a k w hg
  · obtain ⟨K, rfl⟩ := Int.eq_ofNat_of_zero_le (show 0 ≤ k by omega)
    by_cases h0 : s < 0
    · exact areaSector_0 s a K w (by omega) (by omega) h0
    · by_cases h1 : 3 ≤ s
      · exact areaSector_1 s a K w (by omega) (by omega) (by omega) h1
      · by_cases h2 : a < 0
        · exact areaSector_2 s a K w (by omega) (by omega) (by omega) (by omega) h2
        · by_cases h3 : 320 < a
          · exact areaSector_3 s a K w (by omega) (by omega) (by omega) (by omega) (by omega) h3
          · by_cases h4 : 320 - a < (K : Int)
            · exact areaSector_4 s a K w (by omega) (by omega) (by omega) (by omega) (by omega) (by omega) h4
            · exact areaSector_in s a K w (by omega) (by omega) (by omega) (by omega) (by omega) (by omega) (by omega)
end Go.Proofs.Ytaanefgkmjdknaa
