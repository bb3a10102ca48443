/- waterlinelaw6.NorBounds: what does not lie within is refused, and turns nothing: the walk. -/
import Derived.Test.YtaanefgkmjdknaaL6a
namespace Go.Proofs.Ytaanefgkmjdknaa
open Go.RowKit
set_option linter.unusedVariables false
set_option linter.unusedSimpArgs false

theorem new_wear (n : Nat) (hn : n ≤ 400) : (Fl.new n).wear.length = n := by unfold Fl.new; simp only [List.length_replicate]; omega
theorem new_within (n : Nat) (hn : n ≤ 400) (a k : Int) : (Fl.new n).within a k = (decide (0 ≤ a) && decide (a ≤ (n : Int) * 320 - k)) := by
  unfold Fl.within
  rw [new_wear n hn, Bool.eq_iff_iff]
  simp only [Bool.and_eq_true, decide_eq_true_eq]
  omega
theorem may_zeros (F : Fl) (a k : Nat) : F.may a (List.replicate k 0) = true := by
  unfold Fl.may
  rw [List.all_eq_true]
  intro i hi
  rw [List.mem_range, List.length_replicate] at hi
  rw [List.getD_eq_getElem?_getD, List.getElem?_replicate, if_pos hi]
  simp
theorem work_length (F : Fl) (a : Nat) (bs : List UInt8) : (F.work a bs).b.length = F.b.length ∧ (F.work a bs).wear = F.wear := by
  simp [Fl.work, laid_length]
theorem read_length (F : Fl) (h : F.Ok) (a k : Int) (hk : 1 ≤ k) (hw : F.within a k = true) : ((F.read a k).length : Int) = k := by
  have hl := h.len
  have hb : 0 ≤ a ∧ a + k ≤ 320 * (F.wear.length : Int) := by simpa [Fl.within] using hw
  unfold Fl.read
  rw [if_pos ⟨hk, hw⟩, List.length_take, List.length_drop]
  omega
theorem read_nil (F : Fl) (a k : Int) (hw : F.within a k = false) : F.read a k = [] := by
  unfold Fl.read
  rw [if_neg (by rw [hw]; simp)]
theorem new_blank (n : Nat) (hn : n ≤ 400) (k : Nat) (hk : k < n) : (Fl.new n).blank k = true := by
  unfold Fl.blank Fl.is
  rw [new_wear n hn]
  have : (Fl.new n).b = List.replicate (n * 320) 255 := by unfold Fl.new; simp only; congr 2; omega
  rw [this]
  simp [List.all_eq_true]
  omega

theorem nb_in (n : Nat) (hn : n ≤ 400) (a : Int) (k : Nat) (hk : 1 ≤ k) (hw : (Fl.new n).within a k = true) :
    (Fl.new n).programE a (List.replicate k 0) = 0 ∧ (((Fl.new n).program a (List.replicate k 0)).read a k).length = k ∧ ((Fl.new n).program a (List.replicate k 0)).ops = 1 := by
  have hoff : (Fl.new n).off = false := rfl
  have e1 : (Fl.new n).programE a (List.replicate k 0) = 0 := by
    unfold Fl.programE; rw [hoff, List.length_replicate, hw, may_zeros]; rfl
  have e2 : (Fl.new n).program a (List.replicate k 0) = (Fl.new n).work a.toNat (List.replicate k 0) := by
    unfold Fl.program; rw [hoff, List.length_replicate, hw, may_zeros]; rfl
  refine ⟨e1, ?_, by rw [e2]; show wrap64 (0 + 1) = 1; simp [wrap64]⟩
  rw [e2]
  have hok := Fl.work_ok (Fl.new_ok n) a.toNat (List.replicate k 0)
  have hw2 : ((Fl.new n).work a.toNat (List.replicate k 0)).within a k = true := by
    unfold Fl.within; rw [(work_length _ _ _).2]; exact hw
  have := read_length _ hok a k (by omega) hw2
  omega
theorem nb_out (n : Nat) (hn : n ≤ 400) (a : Int) (k : Nat) (hw : (Fl.new n).within a k = false) :
    (Fl.new n).programE a (List.replicate k 0) = 2 ∧ (Fl.new n).program a (List.replicate k 0) = Fl.new n ∧ (Fl.new n).read a k = [] := by
  have hoff : (Fl.new n).off = false := rfl
  exact ⟨by unfold Fl.programE; rw [hoff, List.length_replicate, hw]; rfl, by unfold Fl.program; rw [hoff, List.length_replicate, hw]; rfl, read_nil _ _ _ hw⟩

theorem norBounds_off (n a k : Int) (w : World) (hg : n < 0 ∨ 5 < n ∨ k < 1 ∨ 700 < k) : Calls Try.prog 4 #[.int .i64 n, .int .i64 a, .int .i64 k] w fun e w' => e = .returned (.bool true) ∧ Below w.heap.size w w' := by
  by_cases h1 : n < 0
  · go_enter Try.func4, Try.ntmps4
    go_wp2_with (go_at_call 10; refine (alive6_c _).mono ?_; rintro e w1 ⟨rfl, hb⟩)
    go_ret
    exact ⟨rfl, hb⟩
  · by_cases h2 : 5 < n
    · go_enter Try.func4, Try.ntmps4
      go_wp2_with (go_at_call 10; refine (alive6_c _).mono ?_; rintro e w1 ⟨rfl, hb⟩)
      go_ret
      exact ⟨rfl, hb⟩
    · by_cases h3 : k < 1
      · go_enter Try.func4, Try.ntmps4
        go_wp2_with (go_at_call 10; refine (alive6_c _).mono ?_; rintro e w1 ⟨rfl, hb⟩)
        go_ret
        exact ⟨rfl, hb⟩
      · have h4 : 700 < k := by omega
        go_enter Try.func4, Try.ntmps4
        go_wp2_with (go_at_call 10; refine (alive6_c _).mono ?_; rintro e w1 ⟨rfl, hb⟩)
        go_ret
        exact ⟨rfl, hb⟩

theorem norBounds_in (n : Nat) (a : Int) (k : Nat) (w : World) (hn : n ≤ 5) (hk1 : 1 ≤ k) (hk2 : k ≤ 700) (h0 : 0 ≤ a) (h1 : a ≤ (n : Int) * 320 - k) : Calls Try.prog 4 #[.int .i64 (n : Int), .int .i64 a, .int .i64 (k : Int)] w fun e w' => e = .returned (.bool true) ∧ Below w.heap.size w w' := by
  have hmk := fun W => make_bytes k (by omega) W
  obtain ⟨f1, f2, f3⟩ := nb_in n (by omega) a k hk1 (by rw [new_within n (by omega)]; simp [h0, h1])
  have G1 := Lib.hid f1
  clear f1
  go_enter Try.func4, Try.ntmps4
  go_wp2_with (first
    | (go_at_call 10; refine (alive6_c _).mono ?_; rintro e w1 ⟨rfl, hb1⟩)
    | (go_at_call 11; refine (new_h n (by omega) hb1).mono ?_; rintro e w2 ⟨fb, bb, wb, rfl, h, -, -, -⟩)
    | (go_at_call 12; refine (program_c _ fb bb wb (Fl.new n) a _ _ _ (List.replicate k 0) (h.alloc _).flash (by rw [List.map_replicate]; exact (Blk.new w2 5 _).rep) h.apart (by omega)).mono ?_; rintro e w3 ⟨rfl, hF3, ho3⟩; rw [G1.out]; have h3 := (h.alloc _).only hF3 ho3)
    | (go_at_call 16; refine (read_c _ a k (by omega) h3.flash).mono ?_; rintro e w4 ⟨A', c', rfl, hown, hbel⟩; have h4 := h3.later hbel)
    | (go_at_call 18; refine (num6_c _ _).mono ?_; rintro e w' ⟨rfl, rfl⟩)
    | (go_at_call 19; refine (ops_c _ h4.flash).mono ?_; rintro e w' ⟨rfl, rfl⟩))
  go_ret
  exact ⟨rfl, h4.below⟩

set_option maxHeartbeats 400000 in
theorem norBounds_low (n : Nat) (a : Int) (k : Nat) (w : World) (hn : n ≤ 5) (hk1 : 1 ≤ k) (hk2 : k ≤ 700) (h0 : a < 0) : Calls Try.prog 4 #[.int .i64 (n : Int), .int .i64 a, .int .i64 (k : Int)] w fun e w' => e = .returned (.bool true) ∧ Below w.heap.size w w' := by
  have hmk := fun W => make_bytes k (by omega) W
  obtain ⟨f1, f2, f3⟩ := nb_out n (by omega) a k (by rw [new_within n (by omega)]; simp; omega)
  have G1 := Lib.hid f1
  have G2 := Lib.hid f2
  have f4 : (Fl.new n).ops = 0 := rfl
  have hk0 : ((0 : Int) == (k : Int)) = false := by rw [beq_eq_false_iff_ne]; omega
  clear f1 f2
  go_enter Try.func4, Try.ntmps4
  go_wp2_with (first
    | (go_at_call 10; refine (alive6_c _).mono ?_; rintro e w1 ⟨rfl, hb1⟩)
    | (go_at_call 11; refine (new_h n (by omega) hb1).mono ?_; rintro e w2 ⟨fb, bb, wb, rfl, h, -, -, -⟩)
    | (go_at_call 12; refine (program_c _ fb bb wb (Fl.new n) a _ _ _ (List.replicate k 0) (h.alloc _).flash (by rw [List.map_replicate]; exact (Blk.new w2 5 _).rep) h.apart (by omega)).mono ?_; rintro e w3 ⟨rfl, hF3, ho3⟩; rw [G1.out]; rw [G2.out] at hF3; have h3 := (h.alloc _).only hF3 ho3)
    | (go_at_call 16; refine (read_c _ a k (by omega) h3.flash).mono ?_; rintro e w4 ⟨A', c', rfl, hown, hbel⟩; have h4 := h3.later hbel)
    | (go_at_call 18; refine (num6_c _ _).mono ?_; rintro e w' ⟨rfl, rfl⟩))
  have H4 := Lib.hid h4
  clear h4 hbel hown h3 ho3 hF3 h hb1
  go_loopw [12] (fun i wr => ∃ j : Nat, j ≤ n ∧ i = .int .i64 j ∧ w4 = wr) (fun i _ => n - (intOf i).toNat)
  case atStart => exact ⟨0, Nat.zero_le _, rfl, rfl⟩
  case round =>
    obtain ⟨j, hj, rfl, rfl⟩ := hrel
    by_cases hlt : j < n
    · have hbl := new_blank n (by omega) j hlt
      go_wp2_with (go_at_call 20; refine (blank_c _ _ H4.out.flash).mono ?_; rintro e w' ⟨rfl, rfl⟩)
      go_roundw
      case rel => exact ⟨j + 1, by omega, by go_num, trivial⟩
      case measure => simp [intOf]; omega
    · go_wp2_with (go_at_call 19; refine (ops_c _ H4.out.flash).mono ?_; rintro e w' ⟨rfl, rfl⟩)
      go_ret
      exact ⟨rfl, H4.out.below⟩

set_option maxHeartbeats 400000 in
theorem norBounds_high (n : Nat) (a : Int) (k : Nat) (w : World) (hn : n ≤ 5) (hk1 : 1 ≤ k) (hk2 : k ≤ 700) (h0 : 0 ≤ a) (h1 : (n : Int) * 320 - k < a) : Calls Try.prog 4 #[.int .i64 (n : Int), .int .i64 a, .int .i64 (k : Int)] w fun e w' => e = .returned (.bool true) ∧ Below w.heap.size w w' := by
  have hmk := fun W => make_bytes k (by omega) W
  obtain ⟨f1, f2, f3⟩ := nb_out n (by omega) a k (by rw [new_within n (by omega)]; simp; omega)
  have G1 := Lib.hid f1
  have G2 := Lib.hid f2
  have f4 : (Fl.new n).ops = 0 := rfl
  have hk0 : ((0 : Int) == (k : Int)) = false := by rw [beq_eq_false_iff_ne]; omega
  have hd : decide (a ≤ (n : Int) * 320 - (k : Int)) = false := by simp; omega
  clear f1 f2
  go_enter Try.func4, Try.ntmps4
  go_wp2_with (first
    | (go_at_call 10; refine (alive6_c _).mono ?_; rintro e w1 ⟨rfl, hb1⟩)
    | (go_at_call 11; refine (new_h n (by omega) hb1).mono ?_; rintro e w2 ⟨fb, bb, wb, rfl, h, -, -, -⟩)
    | (go_at_call 12; refine (program_c _ fb bb wb (Fl.new n) a _ _ _ (List.replicate k 0) (h.alloc _).flash (by rw [List.map_replicate]; exact (Blk.new w2 5 _).rep) h.apart (by omega)).mono ?_; rintro e w3 ⟨rfl, hF3, ho3⟩; rw [G1.out]; rw [G2.out] at hF3; have h3 := (h.alloc _).only hF3 ho3)
    | (go_at_call 16; refine (read_c _ a k (by omega) h3.flash).mono ?_; rintro e w4 ⟨A', c', rfl, hown, hbel⟩; have h4 := h3.later hbel)
    | (go_at_call 18; refine (num6_c _ _).mono ?_; rintro e w' ⟨rfl, rfl⟩))
  have H4 := Lib.hid h4
  clear h4 hbel hown h3 ho3 hF3 h hb1
  go_loopw [12] (fun i wr => ∃ j : Nat, j ≤ n ∧ i = .int .i64 j ∧ w4 = wr) (fun i _ => n - (intOf i).toNat)
  case atStart => exact ⟨0, Nat.zero_le _, rfl, rfl⟩
  case round =>
    obtain ⟨j, hj, rfl, rfl⟩ := hrel
    by_cases hlt : j < n
    · have hbl := new_blank n (by omega) j hlt
      go_wp2_with (go_at_call 20; refine (blank_c _ _ H4.out.flash).mono ?_; rintro e w' ⟨rfl, rfl⟩)
      go_roundw
      case rel => exact ⟨j + 1, by omega, by go_num, trivial⟩
      case measure => simp [intOf]; omega
    · go_wp2_with (go_at_call 19; refine (ops_c _ H4.out.flash).mono ?_; rintro e w' ⟨rfl, rfl⟩)
      go_ret
      exact ⟨rfl, H4.out.below⟩

theorem norBounds_c (n a k : Int) (w : World) : Calls Try.prog 4 #[.int .i64 n, .int .i64 a, .int .i64 k] w fun e w' => e = .returned (.bool true) ∧ Below w.heap.size w w' := by
  by_cases hg : n < 0 ∨ 5 < n ∨ k < 1 ∨ 700 < k
  · exact norBounds_off n a k w hg
  · obtain ⟨N, rfl⟩ := Int.eq_ofNat_of_zero_le (show 0 ≤ n by omega)
    obtain ⟨K, rfl⟩ := Int.eq_ofNat_of_zero_le (show 0 ≤ k by omega)
    by_cases h0 : 0 ≤ a
    · by_cases h1 : a ≤ (N : Int) * 320 - K
      · exact norBounds_in N a K w (by omega) (by omega) (by omega) h0 h1
      · exact norBounds_high N a K w (by omega) (by omega) (by omega) h0 (by omega)
    · exact norBounds_low N a K w (by omega) (by omega) (by omega) (by omega)
end Go.Proofs.Ytaanefgkmjdknaa
