/- Walks of package nor, first part: what only reads. -/
import Derived.Test.YtlchlcjahndjgaaNorSpec
import Derived.Test.YtlchlcjahndjgaaLib
import Derived.WalkKit
import Derived.WalkSpells
import Derived.WalkLawsBesides
import Derived.Outline
import Derived.Deep.QuietTactic
import Derived.BigQuiet
import Derived.Lib.Hide
namespace Go.Proofs.Ytlchlcjahndjgaa
open Go.RowKit
set_option linter.unusedVariables false
set_option linter.unusedSimpArgs false

theorem bool_ret {a b : Bool} (h : a = b) : Ending.returned (.bool a) = .returned (.bool b) := by rw [h]
theorem int_ret {k : IntKind} {a b : Int} (h : a = b) : Ending.returned (.int k a) = .returned (.int k b) := by rw [h]

section
variable {w : World} {fb bb wb : Nat} {F : Fl}
theorem FlashAt.c0 (h : FlashAt w fb bb wb F) : w.cell? ⟨fb, 0, none⟩ = some (.slice (some ⟨bb, 0, none⟩) F.b.length F.b.length) := by
  obtain ⟨A, c, h1, _⟩ := h.obj; rw [h1.cell]; rfl
theorem FlashAt.c1 (h : FlashAt w fb bb wb F) : w.cell? ⟨fb, 1, none⟩ = some (.slice (some ⟨wb, 0, none⟩) F.wear.length F.wear.length) := by
  obtain ⟨A, c, h1, _⟩ := h.obj; rw [h1.cell]; rfl
theorem FlashAt.c2 (h : FlashAt w fb bb wb F) : w.cell? ⟨fb, 2, none⟩ = some (.int .i64 F.cut) := by
  obtain ⟨A, c, h1, _⟩ := h.obj; rw [h1.cell]; rfl
theorem FlashAt.c3 (h : FlashAt w fb bb wb F) : ∃ A c, w.cell? ⟨fb, 3, none⟩ = some (.slice A F.mask.length c) ∧ Reads w A F.mask.length (F.mask.map u8v) ∧ (0 < F.mask.length → Apart (fb :: bb :: wb :: F.far) A) := by
  obtain ⟨A, c, h1, h2, h3⟩ := h.obj; exact ⟨A, c, by rw [h1.cell]; rfl, h2, h3⟩
theorem FlashAt.c4 (h : FlashAt w fb bb wb F) : w.cell? ⟨fb, 4, none⟩ = some (.bool F.off) := by
  obtain ⟨A, c, h1, _⟩ := h.obj; rw [h1.cell]; rfl
theorem FlashAt.c5 (h : FlashAt w fb bb wb F) : w.cell? ⟨fb, 5, none⟩ = some (.int .i64 F.ops) := by
  obtain ⟨A, c, h1, _⟩ := h.obj; rw [h1.cell]; rfl
theorem FlashAt.fr (h : FlashAt w fb bb wb F) (i : Nat) : w.frozen? ⟨fb, i, none⟩ = false := by
  obtain ⟨A, c, h1, _⟩ := h.obj; exact h1.frozen i
theorem FlashAt.cb (h : FlashAt w fb bb wb F) (i : Nat) (hi : i < F.b.length) : w.cell? ⟨bb, i, none⟩ = some (u8v F.b[i]) := by
  rw [h.bytes.cell]; simp [hi]
theorem FlashAt.cw (h : FlashAt w fb bb wb F) (i : Nat) (hi : i < F.wear.length) : w.cell? ⟨wb, i, none⟩ = some (i64v F.wear[i]) := by
  rw [h.wears.cell]; simp [hi]
theorem FlashAt.cut (h : FlashAt w fb bb wb F) (a k : Nat) (hk : a + k ≤ F.b.length) : Reads w (some ⟨bb, a, none⟩) ((F.b.drop a).take k).length (((F.b.drop a).take k).map u8v) := by
  have h1 := h.bytes.reads (n := k) a (by simpa using hk)
  have e : ((F.b.drop a).take k).length = k := by simp; omega
  rw [e]
  simpa [List.map_drop, List.map_take] using h1
end

abbrev ptr (b : Nat) : Value := .pointer (some ⟨b, 0, none⟩)
section
variable {fb bb wb : Nat} {F : Fl} (w : World)
theorem off_c (h : FlashAt w fb bb wb F) : Calls Try.prog 70 #[ptr fb] w fun e w' => e = .returned (.bool F.off) ∧ w = w' := by
  have h4 := h.c4
  clear h
  go_enter Try.func70, Try.ntmps70
  go_wp2
  go_ret
  exact ⟨rfl, rfl⟩
theorem flen_c (h : FlashAt w fb bb wb F) : Calls Try.prog 68 #[ptr fb] w fun e w' => e = .returned (.int .i64 F.wear.length) ∧ w = w' := by
  have h4 := h.c1
  clear h
  go_enter Try.func68, Try.ntmps68
  go_wp2
  go_ret
  exact ⟨rfl, rfl⟩
theorem is_c (s : Int) (h : FlashAt w fb bb wb F) : Calls Try.prog 71 #[ptr fb, .int .i64 s] w fun e w' => e = .returned (.bool (F.is s)) ∧ w = w' := by
  have H := Lib.hid h
  clear h
  unfold Fl.is
  by_cases h0 : 0 ≤ s
  · go_enter Try.func71, Try.ntmps71
    go_wp2_with (go_at_call 68; refine (flen_c _ H.out).mono ?_; rintro e w' ⟨rfl, rfl⟩)
    go_ret
    exact ⟨bool_ret (by simp [h0] <;> omega), rfl⟩
  · go_enter Try.func71, Try.ntmps71
    go_wp2_with (go_at_call 68; refine (flen_c _ H.out).mono ?_; rintro e w' ⟨rfl, rfl⟩)
    go_ret
    exact ⟨bool_ret (by simp [h0] <;> omega), rfl⟩
theorem within_c (a k : Int) (hk : 0 ≤ k) (hk2 : k < 4611686018427387904) (h : FlashAt w fb bb wb F) : Calls Try.prog 74 #[ptr fb, .int .i64 a, .int .i64 k] w fun e w' => e = .returned (.bool (F.within a k)) ∧ w = w' := by
  have hm := h.ok.most
  have H := Lib.hid h
  clear h
  have hw : F.within a k = (decide (0 ≤ a) && decide (a ≤ (F.wear.length : Int) * 320) && decide (k ≤ (F.wear.length : Int) * 320 - a)) := by
    unfold Fl.within
    rw [Bool.eq_iff_iff]; simp only [Bool.and_eq_true, decide_eq_true_eq]; omega
  rw [hw]
  clear hw
  by_cases h0 : 0 ≤ a
  · by_cases h1 : a ≤ (F.wear.length : Int) * 320
    · go_enter Try.func74, Try.ntmps74
      go_wp2_with (go_at_call 68; refine (flen_c _ H.out).mono ?_; rintro e w' ⟨rfl, rfl⟩)
      go_ret
      exact ⟨bool_ret (by simp [h0, h1] <;> omega), rfl⟩
    · go_enter Try.func74, Try.ntmps74
      go_wp2_with (go_at_call 68; refine (flen_c _ H.out).mono ?_; rintro e w' ⟨rfl, rfl⟩)
      go_ret
      exact ⟨bool_ret (by simp [h0, h1] <;> omega), rfl⟩
  · go_enter Try.func74, Try.ntmps74
    go_wp2_with (go_at_call 68; refine (flen_c _ H.out).mono ?_; rintro e w' ⟨rfl, rfl⟩)
    go_ret
    exact ⟨bool_ret (by simp [h0] <;> omega), rfl⟩
theorem stays_c (i : Nat) (cut : Bool) (hi : i < 4611686018427387904) (h : FlashAt w fb bb wb F) : Calls Try.prog 105 #[ptr fb, .int .i64 (i : Int), .bool cut] w fun e w' => e = .returned (u8v (F.stays i cut)) ∧ ∃ n, w' = w.drewN n := by
  obtain ⟨A, c, h3, hr, _⟩ := h.c3
  have hm := h.ok.mask
  clear h
  cases cut with
  | false =>
    go_enter Try.func105, Try.ntmps105
    go_wp2
    go_ret
    exact ⟨rfl, 0, rfl⟩
  | true =>
    by_cases h0 : F.mask = []
    · have hl : ((F.mask.length : Int) == 0) = true := by rw [h0]; rfl
      go_enter Try.func105, Try.ntmps105
      go_wp2
      go_ret
      exact ⟨by simp [Fl.stays, h0], 0, rfl⟩
    · have hp : 0 < F.mask.length := List.length_pos_iff.2 h0
      have hl : ((F.mask.length : Int) == 0) = false := by rw [beq_eq_false_iff_ne]; omega
      have hlt : i % F.mask.length < F.mask.length := Nat.mod_lt _ hp
      obtain ⟨b, o, u, rfl, hb, hu, hc⟩ := hr.at_ hlt
      have hv : u = u8v (F.stays i true) := by
        rw [List.getElem?_map, List.getElem?_eq_getElem hlt] at hu
        simp only [Option.map_some, Option.some.injEq] at hu
        rw [← hu]
        simp [Fl.stays, h0, List.getD_eq_getElem?_getD, List.getElem?_eq_getElem hlt]
      rw [← hv]
      have H := Lib.hid hv
      clear hv hu
      have hq : ((i : Int).tmod (F.mask.length : Int)) = ((i % F.mask.length : Nat) : Int) := by
        rw [Int.tmod_eq_emod_of_nonneg (by omega)]; rfl
      go_enter Try.func105, Try.ntmps105
      go_wp2
      go_quiet (fail)
      go_wp2
      go_ret
      exact ⟨rfl, nq, rfl⟩
theorem wear_c (s : Int) (h : FlashAt w fb bb wb F) : Calls Try.prog 88 #[ptr fb, .int .i64 s] w fun e w' => e = .returned (.int .i64 (F.wearAt s)) ∧ w = w' := by
  have H := Lib.hid h
  have h1 := h.c1
  by_cases hs : F.is s = true
  · have hr : F.wearAt s = F.wear.getD s.toNat 0 := by unfold Fl.wearAt; rw [if_pos hs]
    rw [hr]
    have hb : 0 ≤ s ∧ s < (F.wear.length : Int) := by simpa [Fl.is] using hs
    obtain ⟨k, rfl⟩ := Int.eq_ofNat_of_zero_le hb.1
    have hk : k < F.wear.length := by omega
    have hc := h.cw k hk
    have hv : F.wear.getD (k : Int).toNat 0 = F.wear[k] := by simp [hk]
    rw [hv]
    clear h hv hr hb
    go_enter Try.func88, Try.ntmps88
    go_wp2_with (go_at_call 71; refine (is_c _ _ H.out).mono ?_; rintro e w' ⟨rfl, rfl⟩)
    go_ret
    exact ⟨rfl, rfl⟩
  · have hs' : F.is s = false := by simpa using hs
    have hr : F.wearAt s = 0 := by unfold Fl.wearAt; rw [if_neg hs]
    rw [hr]
    clear h hr hs
    go_enter Try.func88, Try.ntmps88
    go_wp2_with (go_at_call 71; refine (is_c _ _ H.out).mono ?_; rintro e w' ⟨rfl, rfl⟩)
    go_ret
    exact ⟨rfl, rfl⟩
theorem blank_c (s : Int) (h : FlashAt w fb bb wb F) : Calls Try.prog 113 #[ptr fb, .int .i64 s] w fun e w' => e = .returned (.bool (F.blank s)) ∧ w = w' := by
  have H := Lib.hid h
  have h0 := h.c0
  by_cases hs : F.is s = true
  · have hb : 0 ≤ s ∧ s < (F.wear.length : Int) := by simpa [Fl.is] using hs
    obtain ⟨k, rfl⟩ := Int.eq_ofNat_of_zero_le hb.1
    have hlen := h.ok.len
    have hmost := h.ok.most
    have hk : k < F.wear.length := by omega
    have hle : (k + 1) * 320 ≤ F.b.length := by omega
    have hrd := h.cut (k * 320) 320 (by omega)
    obtain ⟨B, hB⟩ : ∃ B, B = (F.b.drop (k * 320)).take 320 := ⟨_, rfl⟩
    have hBl : B.length = 320 := by rw [hB]; simp; omega
    rw [← hB] at hrd
    have hr : F.blank k = B.all (· == 255) := by unfold Fl.blank; rw [hs, hB]; simp
    rw [hr]
    have HR := Lib.hid hrd
    have HB := Lib.hid hBl
    have HL := Lib.hid hlen
    have hne : ¬ (F.b.length = k * 320) := by omega
    have hle2 : ((k : Int) + 1) * 320 ≤ (F.b.length : Int) := by omega
    clear h hr hb hB hrd hBl hlen
    go_enter Try.func113, Try.ntmps113
    go_wp2_with (first
      | (go_at_call 71; refine (is_c _ _ H.out).mono ?_; rintro e w' ⟨rfl, rfl⟩)
      | (go_at_call 123; rw [show (k + 1) * 320 - k * 320 = B.length by rw [HB.out]; omega]; refine (containsFunc_ones _ _ _ _ HR.out (by rw [HB.out]; omega)).mono ?_; rintro e w' ⟨rfl, rfl⟩))
    go_ret
    exact ⟨bool_ret (by simp), rfl⟩
  · have hs' : F.is s = false := by simpa using hs
    have hr : F.blank s = false := by unfold Fl.blank; rw [hs']; rfl
    rw [hr]
    clear h hr hs
    go_enter Try.func113, Try.ntmps113
    go_wp2_with (go_at_call 71; refine (is_c _ _ H.out).mono ?_; rintro e w' ⟨rfl, rfl⟩)
    go_ret
    exact ⟨rfl, rfl⟩
theorem read_c (a n : Int) (hn : n < 4611686018427387904) (h : FlashAt w fb bb wb F) : Calls Try.prog 112 #[ptr fb, .int .i64 a, .int .i64 n] w (MadeBytes w (F.read a n)) := by
  have H := Lib.hid h
  have h0 := h.c0
  by_cases h1 : n < 1
  · have hr : F.read a n = [] := by unfold Fl.read; rw [if_neg (by omega)]
    rw [hr]
    clear h hr
    go_enter Try.func112, Try.ntmps112
    go_wp2
    go_ret
    exact ⟨none, 0, rfl, World.ownsRow_nil _ _ _ _, Below.refl _ _⟩
  · by_cases hs : F.within a n = true
    · have hb : 0 ≤ a ∧ a + n ≤ 320 * (F.wear.length : Int) := by simpa [Fl.within] using hs
      obtain ⟨i, rfl⟩ := Int.eq_ofNat_of_zero_le hb.1
      obtain ⟨k, rfl⟩ := Int.eq_ofNat_of_zero_le (show 0 ≤ n by omega)
      have hlen := h.ok.len
      have hmost := h.ok.most
      have hle : i + k ≤ F.b.length := by omega
      have hrd := h.cut i k hle
      obtain ⟨B, hB⟩ : ∃ B, B = (F.b.drop i).take k := ⟨_, rfl⟩
      have hBl : B.length = k := by rw [hB]; simp; omega
      rw [← hB] at hrd
      have hr : F.read i k = B := by unfold Fl.read; rw [if_pos ⟨by omega, hs⟩, hB]; simp
      rw [hr]
      have HR := Lib.hid hrd
      have HB := Lib.hid hBl
      have HL := Lib.hid hlen
      have hne : ¬ (F.b.length = i) := by omega
      have hbl : F.b.length ≤ 128000 := by omega
      have hle2 : (i : Int) + (k : Int) ≤ (F.b.length : Int) := by omega
      clear h hr hb hB hrd hBl hlen
      go_enter Try.func112, Try.ntmps112
      go_wp2_with (first
        | (go_at_call 74; refine (within_c _ _ _ (by omega) hn H.out).mono ?_; rintro e w' ⟨rfl, rfl⟩)
        | (go_at_call 58; refine (clone_n _ _ _ _ B (by have h := HR.out; rw [HB.out] at h; exact h) (by omega)).mono ?_; rintro e w' ⟨A', c', rfl, hown, hbel⟩))
      go_ret
      exact ⟨A', c', rfl, hown, hbel⟩
    · have hs' : F.within a n = false := by simpa using hs
      have hr : F.read a n = [] := by unfold Fl.read; rw [if_neg (by simp [hs'])]
      rw [hr]
      clear h hr hs
      go_enter Try.func112, Try.ntmps112
      go_wp2_with (go_at_call 74; refine (within_c _ _ _ (by omega) hn H.out).mono ?_; rintro e w' ⟨rfl, rfl⟩)
      go_ret
      exact ⟨none, 0, rfl, World.ownsRow_nil _ _ _ _, Below.refl _ _⟩
end
end Go.Proofs.Ytlchlcjahndjgaa
