/- The reference's flash: Read, Blank. -/
import Derived.Test.YtlchlcjahndjgaaRfE
namespace Go.Proofs.Ytlchlcjahndjgaa
open Go.RowKit
set_option linter.unusedVariables false
set_option linter.unusedSimpArgs false
theorem Fl.blank_getDr {F : Fl} (hl : F.b.length = 320 * F.wear.length) (s : Nat) (hb : F.blank s = true) (i : Nat) (hi : i < 320) : F.b.getD (s * 320 + i) 0 = 255 := by
  unfold Fl.blank at hb
  rw [Bool.and_eq_true, List.all_eq_true] at hb
  have hs : s < F.wear.length := by have := hb.1; unfold Fl.is at this; simp at this; omega
  have hlt : s * 320 + i < F.b.length := by omega
  have := hb.2 (F.b[s * 320 + i]) (by
    rw [List.mem_iff_getElem]
    refine ⟨i, by simp; omega, ?_⟩
    simp)
  rw [List.getD_eq_getElem?_getD, List.getElem?_eq_getElem hlt, Option.getD_some]
  simpa using this
theorem Fl.blank_ofr {F : Fl} (hl : F.b.length = 320 * F.wear.length) (s : Nat) (hs : s < F.wear.length) (h : ∀ i, i < 320 → F.b.getD (s * 320 + i) 0 = 255) : F.blank s = true := by
  unfold Fl.blank
  rw [Bool.and_eq_true, List.all_eq_true]
  refine ⟨by unfold Fl.is; simp; omega, ?_⟩
  intro x hx
  obtain ⟨i, hi, rfl⟩ := List.mem_iff_getElem.1 hx
  simp at hi
  have := h i (by omega)
  rw [List.getD_eq_getElem?_getD, List.getElem?_eq_getElem (by omega), Option.getD_some] at this
  simp [this]
set_option maxRecDepth 100000 in
theorem rread_c (w : World) (fb bb wb : Nat) (G : RF) (x n : Int) (hx : -9223372036854775808 ≤ x ∧ x ≤ 9223372036854775807) (h : RFAt w fb bb wb G) :
    Calls Try.prog 95 #[ptr fb, .int .i64 x, .int .i64 n] w (MadeBytes w (G.fl.read x n)) := by
  obtain ⟨i0, hi, hz0, hz1, hz2⟩ := info_parts info_u8
  have HI := Lib.hid hi
  have HZ0 := Lib.hid hz0
  have HZ1 := Lib.hid hz1
  have HZ2 := Lib.hid hz2
  clear hi hz0 hz1 hz2
  have H := Lib.hid h
  have c0 := h.c0
  have hlen := h.ok.len
  have hmost := h.ok.most
  have hbl : G.b.length ≤ 128000 := by omega
  by_cases hr : 1 ≤ n ∧ 0 ≤ x ∧ x + n ≤ (G.b.length : Int)
  · obtain ⟨m, rfl⟩ := Int.eq_ofNat_of_zero_le (show 0 ≤ n by omega)
    obtain ⟨a, rfl⟩ := Int.eq_ofNat_of_zero_le hr.2.1
    have hfit : a + m ≤ G.b.length := by omega
    have e : G.fl.read a m = (G.b.drop a).take m := by
      unfold Fl.read
      rw [if_pos ⟨hr.1, by unfold Fl.within; simp; show (a : Int) + (m : Int) ≤ 320 * (G.wear.length : Int); omega⟩]
      rfl
    rw [e]
    have hel : ((G.b.drop a).take m).length = m := by rw [List.length_take, List.length_drop]; omega
    have hrd := h.bytes.reads (n := m) a (by simpa using hfit)
    have hrd2 : Reads w (some ⟨bb, a, none⟩) m (((G.b.drop a).take m).map u8v) := by simpa [List.map_drop, List.map_take] using hrd
    have HRD := Lib.hid hrd2
    have HEL := Lib.hid hel
    have i1 : ¬ (m : Int) < 1 := by omega
    have i2 : ¬ (G.b.length : Int) < (m : Int) := by omega
    have i3 : ¬ (G.b.length : Int) - (m : Int) < (a : Int) := by omega
    have i4 : IntKind.i64.wrap ((G.b.length : Int) - (m : Int)) = (G.b.length : Int) - (m : Int) := IntWalk.i64_in _ (by omega)
    have i5 : IntKind.i64.wrap ((a : Int) + (m : Int)) = (a : Int) + (m : Int) := IntWalk.i64_in _ (by omega)
    have i6 : ¬ G.b.length = a := by omega
    have i7 : (a : Int) + (m : Int) ≤ (G.b.length : Int) := by omega
    have i8 : ((a : Int) + (m : Int)).toNat = a + m := by omega
    have i9 : (a : Int) ≤ (a : Int) + (m : Int) := by omega
    have i10 : a + m - a = m := by omega
    clear h hr hlen e hel hrd hrd2
    go_enter Try.func95, Try.ntmps95
    go_wp2_with (at_builtin; refine wpList_append_any _ rfl (.const (.slice none 0 0)) (.tmp 41) _ rfl w.heap.size 5 i0 (.int .u8 0) 1 Try.underlying29 HI.out HZ0.out HZ1.out HZ2.out rfl _ 0 [] rfl (World.ownsRow_nil _ _ _ _) (some ⟨bb, a, none⟩) m _ (((G.b.drop a).take m).map u8v) rfl HRD.out (u8v_one _) (by unfold maxLen; omega) (by omega) (Nat.le_refl _) ?_; (intro A2 c2 w2 hown2 hgrow2 hat; simp only [Nat.zero_add, List.nil_append] at hown2 ⊢; have HB2 := Lib.hid (show Below w.heap.size w w2 from (Below.refl w.heap.size w).grown hgrow2 (Nat.le_refl _) (by intro k hk; cases hk)); have HO2 := Lib.hid hown2; clear hown2 hgrow2 hat))
    go_ret
    unfold MadeBytes
    rw [HEL.out]
    exact ⟨A2, c2, rfl, HO2.out, HB2.out⟩
  · have e : G.fl.read x n = [] := by
      unfold Fl.read
      rw [if_neg]
      rintro ⟨q1, q2⟩
      unfold Fl.within at q2
      simp at q2
      have q3 : x + n ≤ 320 * (G.wear.length : Int) := q2.2
      exact hr ⟨q1, q2.1, by omega⟩
    rw [e]
    clear e h hlen
    by_cases j1 : n < 1
    · go_enter Try.func95, Try.ntmps95
      go_wp2
      go_ret
      exact ⟨none, 0, rfl, World.ownsRow_nil _ _ _ _, Below.refl _ _⟩
    · by_cases j2 : (G.b.length : Int) < n
      · go_enter Try.func95, Try.ntmps95
        go_wp2
        go_ret
        exact ⟨none, 0, rfl, World.ownsRow_nil _ _ _ _, Below.refl _ _⟩
      · by_cases j3 : x < 0
        · go_enter Try.func95, Try.ntmps95
          go_wp2
          go_ret
          exact ⟨none, 0, rfl, World.ownsRow_nil _ _ _ _, Below.refl _ _⟩
        · have j4 : (G.b.length : Int) - n < x := by omega
          have i4 : IntKind.i64.wrap ((G.b.length : Int) - n) = (G.b.length : Int) - n := IntWalk.i64_in _ (by omega)
          go_enter Try.func95, Try.ntmps95
          go_wp2
          go_ret
          exact ⟨none, 0, rfl, World.ownsRow_nil _ _ _ _, Below.refl _ _⟩
set_option maxRecDepth 100000 in
theorem rblank_c (w : World) (fb bb wb : Nat) (G : RF) (s : Int) (h : RFAt w fb bb wb G) : Calls Try.prog 111 #[ptr fb, .int .i64 s] w fun e w' => e = .returned (.bool (G.fl.blank s)) ∧ w = w' := by
  have H := Lib.hid h
  have c0 := h.c0
  have c1 := h.c1
  have hlen := h.ok.len
  have hmost := h.ok.most
  have hbl : G.b.length ≤ 128000 := by omega
  by_cases hs : 0 ≤ s ∧ s < (G.wear.length : Int)
  · obtain ⟨a, rfl⟩ := Int.eq_ofNat_of_zero_le hs.1
    have ha : a < G.wear.length := by omega
    have hB : G.fl.blank a = ((List.range 320).all fun j => G.b.getD (a * 320 + j) 0 == 255) := by
      have hi : G.fl.is a = true := by unfold Fl.is; simp; exact ha
      rw [Bool.eq_iff_iff]
      constructor
      · intro hb
        rw [List.all_eq_true]
        intro j hj
        rw [List.mem_range] at hj
        rw [beq_iff_eq]
        exact Fl.blank_getDr hlen a hb j hj
      · intro hb
        rw [List.all_eq_true] at hb
        exact Fl.blank_ofr hlen a ha fun j hj => beq_iff_eq.1 (hb j (List.mem_range.2 hj))
    obtain ⟨Z, hZ⟩ : ∃ Z, G.fl.blank a = Z := ⟨_, rfl⟩
    rw [hZ] at hB ⊢
    have HB := Lib.hid hB
    have i1 : ¬ (G.wear.length : Int) ≤ (a : Int) := by omega
    have i2 : IntKind.i64.wrap ((a : Int) * 320) = (a : Int) * 320 := IntWalk.i64_in _ (by omega)
    clear h hs hB hZ
    go_enter Try.func111, Try.ntmps111
    go_wp2_with fail
    go_loopw [5] (fun i wr => ∃ k : Nat, k ≤ 320 ∧ i = .int .i64 (k : Int) ∧ ((List.range k).all fun j => G.b.getD (a * 320 + j) 0 == 255) = true ∧ wr = w) (fun i _ => 320 - (intOf i).toNat)
    case atStart => exact ⟨0, by omega, rfl, rfl, rfl⟩
    case round =>
      obtain ⟨k, hk, rfl, hall, rfl⟩ := hrel
      have HA := Lib.hid hall
      clear hall
      by_cases hlt : k < 320
      · have hlt2 : a * 320 + k < G.b.length := by omega
        have kb := H.out.cb (a * 320 + k) hlt2
        obtain ⟨x, hx⟩ : ∃ x, G.b[a * 320 + k]'hlt2 = x := ⟨_, rfl⟩
        rw [hx] at kb
        have hxd : G.b.getD (a * 320 + k) 0 = x := by rw [List.getD_eq_getElem?_getD, List.getElem?_eq_getElem hlt2, Option.getD_some, hx]
        have e1 : IntKind.i64.wrap ((a : Int) * 320 + (k : Int)) = (a : Int) * 320 + (k : Int) := IntWalk.i64_in _ (by omega)
        have e2 : (0 : Int) ≤ (a : Int) * 320 + (k : Int) := by omega
        have e3 : (a : Int) * 320 + (k : Int) < (G.b.length : Int) := by omega
        have e4 : ((a : Int) * 320 + (k : Int)).toNat = a * 320 + k := by omega
        have HXD := Lib.hid hxd
        clear hx hxd
        by_cases h255 : x = 255
        · subst h255
          have hstep : ((List.range (k + 1)).all fun j => G.b.getD (a * 320 + j) 0 == 255) = true := by
            rw [List.range_succ, List.all_append, HA.out, List.all_cons, HXD.out]
            rfl
          have HST := Lib.hid hstep
          clear hstep
          go_wp2
          go_roundw
          case rel => exact ⟨k + 1, by omega, by go_num, HST.out, trivial⟩
          case measure => simp [intOf]; omega
        · have hv : ((x.toNat : Int) != 255) = true := by
            rw [bne_iff_ne]
            intro hh
            exact h255 (UInt8.toNat_inj.1 (by exact_mod_cast hh))
          have hZf : Hid (Z = false) := Lib.hid (by
            rw [HB.out, List.all_eq_false]
            exact ⟨k, List.mem_range.2 hlt, by rw [HXD.out]; simp; exact h255⟩)
          clear h255
          go_wp2
          go_ret
          exact ⟨by rw [hZf.out]; rfl, rfl⟩
      · obtain rfl : k = 320 := by omega
        have hZt : Hid (Z = true) := Lib.hid (HB.out.trans HA.out)
        go_wp2
        go_ret
        exact ⟨by rw [hZt.out]; rfl, rfl⟩
  · have hB : G.fl.blank s = false := by
      unfold Fl.blank
      have : G.fl.is s = false := by
        rw [Bool.eq_false_iff]
        intro hh
        unfold Fl.is at hh
        simp at hh
        exact hs hh
      rw [this]
      rfl
    rw [hB]
    clear hB h
    by_cases j1 : s < 0
    · go_enter Try.func111, Try.ntmps111
      go_wp2
      go_ret
      exact ⟨rfl, rfl⟩
    · have j2 : (G.wear.length : Int) ≤ s := by omega
      go_enter Try.func111, Try.ntmps111
      go_wp2
      go_ret
      exact ⟨rfl, rfl⟩
end Go.Proofs.Ytlchlcjahndjgaa
