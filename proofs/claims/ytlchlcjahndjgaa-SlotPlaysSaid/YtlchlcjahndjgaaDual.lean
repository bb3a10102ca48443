/- dual.Put and dual.Get. -/
import Derived.Test.YtlchlcjahndjgaaStr
import Derived.Test.YtlchlcjahndjgaaNorB
namespace Go.Proofs.Ytlchlcjahndjgaa
open Go.RowKit
set_option linter.unusedVariables false
set_option linter.unusedSimpArgs false
/-- Each byte, and it with all its bits turned. -/
def dualP : List UInt8 → List UInt8
  | [] => []
  | b :: l => b :: (b ^^^ 255) :: dualP l
/-- Are these bytes such? -/
def dualOk : List UInt8 → Bool
  | [] => true
  | [_] => false
  | a :: b :: l => a == (b ^^^ 255) && dualOk l
def evens : List UInt8 → List UInt8
  | a :: _ :: l => a :: evens l
  | _ => []
theorem dualP_len (l : List UInt8) : (dualP l).length = 2 * l.length := by
  induction l with
  | nil => rfl
  | cons b l ih => simp [dualP, ih]; omega
theorem dualP_append (l m : List UInt8) : dualP (l ++ m) = dualP l ++ dualP m := by
  induction l with
  | nil => rfl
  | cons b l ih => simp [dualP, ih]
theorem dualP_step (l : List UInt8) (k : Nat) (hk : k < l.length) : dualP (l.take (k + 1)) = dualP (l.take k) ++ [l[k], l[k] ^^^ 255] := by
  rw [List.take_add_one, List.getElem?_eq_getElem hk, dualP_append]
  rfl
theorem evens_len : ∀ l : List UInt8, (evens l).length = l.length / 2
  | [] => rfl
  | [_] => by simp [evens]
  | a :: b :: l => by simp [evens, evens_len l]; omega
theorem evens_step : ∀ (l : List UInt8) (k : Nat) (hk : 2 * k + 1 < l.length), evens (l.take (2 * (k + 1))) = evens (l.take (2 * k)) ++ [l[2 * k]]
  | [], k, hk => by simp at hk
  | [_], k, hk => by simp at hk
  | a :: b :: l, 0, hk => by simp [evens]
  | a :: b :: l, k + 1, hk => by
    have h := evens_step l k (by simp at hk; omega)
    have e1 : (a :: b :: l).take (2 * (k + 1 + 1)) = a :: b :: l.take (2 * (k + 1)) := by rw [show 2 * (k + 1 + 1) = 2 * (k + 1) + 1 + 1 by omega]; rfl
    have e2 : (a :: b :: l).take (2 * (k + 1)) = a :: b :: l.take (2 * k) := by rw [show 2 * (k + 1) = 2 * k + 1 + 1 by omega]; rfl
    have e3 : (a :: b :: l)[2 * (k + 1)] = l[2 * k]'(by simp at hk; omega) := by simp [show 2 * (k + 1) = 2 * k + 1 + 1 by omega]
    rw [e1, e2, e3]
    show a :: evens (l.take (2 * (k + 1))) = a :: evens (l.take (2 * k)) ++ [_]
    rw [h]
    rfl
theorem dualOk_step : ∀ (l : List UInt8) (k : Nat) (hk : 2 * k + 1 < l.length), dualOk (l.drop (2 * k)) = (l[2 * k] == (l[2 * k + 1] ^^^ 255) && dualOk (l.drop (2 * (k + 1))))
  | [], k, hk => by simp at hk
  | [_], k, hk => by simp at hk
  | a :: b :: l, 0, hk => by simp [dualOk]
  | a :: b :: l, k + 1, hk => by
    have h := dualOk_step l k (by simp at hk; omega)
    have e1 : (a :: b :: l).drop (2 * (k + 1 + 1)) = l.drop (2 * (k + 1)) := by rw [show 2 * (k + 1 + 1) = 2 * (k + 1) + 1 + 1 by omega]; rfl
    have e2 : (a :: b :: l).drop (2 * (k + 1)) = l.drop (2 * k) := by rw [show 2 * (k + 1) = 2 * k + 1 + 1 by omega]; rfl
    have e3 : (a :: b :: l)[2 * (k + 1)] = l[2 * k]'(by simp at hk; omega) := by simp [show 2 * (k + 1) = 2 * k + 1 + 1 by omega]
    have e4 : (a :: b :: l)[2 * (k + 1) + 1] = l[2 * k + 1]'(by simp at hk; omega) := by simp [show 2 * (k + 1) + 1 = 2 * k + 1 + 1 + 1 by omega]
    rw [e1, e2, e3, e4, h]
theorem dualOk_odd : ∀ l : List UInt8, l.length % 2 = 1 → dualOk l = false
  | [], h => by simp at h
  | [_], _ => rfl
  | a :: b :: l, h => by simp [dualOk, dualOk_odd l (by simp at h; omega)]
theorem dualOk_dualP (l : List UInt8) : dualOk (dualP l) = true := by
  induction l with
  | nil => rfl
  | cons b l ih => simp [dualP, dualOk, ih, UInt8.xor_assoc]
theorem evens_dualP (l : List UInt8) : evens (dualP l) = l := by
  induction l with
  | nil => rfl
  | cons b l ih => simp [dualP, evens, ih]
theorem u8_not (c : UInt8) : bits .xor .u8 IntKind.u8.max (c.toNat : Int) = ((c ^^^ 255).toNat : Int) := by
  have := u8_xor_nat 255 c.toNat (by omega) c.toNat_lt
  rw [UInt8.toNat_xor, Nat.xor_comm]
  exact this
theorem pairCells (a b : UInt8) : (#[u8v a, u8v b] : Array Value) = (([a, b] : List UInt8).map u8v).toArray := rfl
set_option maxRecDepth 100000 in
theorem dualGet_some (w : World) (b o : Nat) (n c : Nat) (l : List UInt8) (hr : Reads w (some ⟨b, o, none⟩) n (l.map u8v)) (hn : n ≤ 1000000) :
    Calls Try.prog 126 #[.slice (some ⟨b, o, none⟩) n c] w fun e w' => Below w.heap.size w w' ∧ ((dualOk l = false ∧ e = .returned (.tuple #[.slice none 0 0, .bool false])) ∨ (dualOk l = true ∧ ∃ A' c', e = .returned (.tuple #[.slice A' (n / 2) c', .bool true]) ∧ w'.ownsRow w.heap.size 5 1 (.slice A' (n / 2) c') (n / 2) ((evens l).map u8v))) := by
  obtain ⟨i0, hi, hz0, hz1, hz2⟩ := info_parts info_u8
  have HI := Lib.hid hi
  have HZ0 := Lib.hid hz0
  have HZ1 := Lib.hid hz1
  have HZ2 := Lib.hid hz2
  have hl : l.length = n := by simpa using hr.len
  have HL := Lib.hid hl
  have HR := Lib.hid hr
  clear hi hz0 hz1 hz2 hl hr
  by_cases hodd : n % 2 = 1
  · have hf : dualOk l = false := dualOk_odd l (by rw [HL.out]; exact hodd)
    go_enter Try.func126, Try.ntmps126
    go_wp2
    go_ret2
    exact ⟨Below.refl _ _, .inl ⟨hf, rfl⟩⟩
  obtain ⟨h, rfl⟩ : ∃ h, n = 2 * h := ⟨n / 2, by omega⟩
  rw [show 2 * h / 2 = h by omega]
  go_enter Try.func126, Try.ntmps126
  go_wp2_with (at_make; refine wpList_make_own _ rfl (.const (.int .i64 0)) (.tmp 12) _ rfl w.heap.size 5 i0 (.int .u8 0) 1 Try.underlying29 HI.out HZ0.out HZ1.out .i64 .i64 (h : Int) h rfl rfl (by omega) (by rw [HZ2.out]; omega) (by unfold maxLen; omega) (Nat.le_refl _) ?_; intro w1 hown1 hgrow1)
  have HO1 := Lib.hid hown1
  have HB1 := Lib.hid ((Below.refl w.heap.size w).grown hgrow1 (Nat.le_refl _) (by intro k hk; cases hk))
  clear hown1 hgrow1
  go_loopw [4, 5] (fun s i wr => ∃ (k : Nat) (A' : Option Addr) (c' : Nat), k ≤ h ∧ s = .slice A' k c' ∧ i = .int .i64 ((2 * k : Nat) : Int) ∧ wr.ownsRow w.heap.size 5 1 (.slice A' k c') k ((evens (l.take (2 * k))).map u8v) ∧ dualOk (l.drop (2 * k)) = dualOk l ∧ Below w.heap.size w wr) (fun _ i _ => 2 * h - (intOf i).toNat)
  case atStart => exact ⟨0, _, _, by omega, rfl, rfl, by simpa [evens] using HO1.out, rfl, HB1.out⟩
  case round =>
    clear HO1 HB1
    obtain ⟨k, A', c', hk, rfl, rfl, hown, hdo, hb⟩ := hrel
    have HO := Lib.hid hown
    have HB := Lib.hid hb
    have HD := Lib.hid hdo
    clear hown hb hdo
    by_cases hlt : k < h
    · have hR := HR.out.below HB.out
      have hkl : 2 * k + 1 < l.length := by rw [HL.out]; omega
      obtain ⟨x, hx⟩ : ∃ x, l[2 * k] = x := ⟨_, rfl⟩
      obtain ⟨y, hy⟩ : ∃ y, l[2 * k + 1] = y := ⟨_, rfl⟩
      have hcx : wr.cell? ⟨b, o + 2 * k, none⟩ = some (.int .u8 (x.toNat : Int)) := by
        obtain ⟨b', o', u, e, -, hu, hcell⟩ := hR.at_ (k := 2 * k) (by omega)
        cases e
        rw [List.getElem?_map, List.getElem?_eq_getElem (by omega), hx] at hu
        obtain rfl : u8v x = u := by simpa using hu
        exact hcell
      have hcy : wr.cell? ⟨b, o + (2 * k + 1), none⟩ = some (.int .u8 (y.toNat : Int)) := by
        obtain ⟨b', o', u, e, -, hu, hcell⟩ := hR.at_ (k := 2 * k + 1) (by omega)
        cases e
        rw [List.getElem?_map, List.getElem?_eq_getElem (by omega), hy] at hu
        obtain rfl : u8v y = u := by simpa using hu
        exact hcell
      obtain ⟨ny, hny⟩ : ∃ ny, y ^^^ 255 = ny := ⟨_, rfl⟩
      have hnot : bits .xor .u8 IntKind.u8.max (y.toNat : Int) = (ny.toNat : Int) := hny ▸ u8_not y
      have hbs := HB.out.size
      have hl1 := HO.out.lt
      have hst := dualOk_step l k hkl
      have hev := evens_step l k hkl
      rw [hx, hy, hny, HD.out] at hst
      rw [hx] at hev
      have HST := Lib.hid hst
      have HEV := Lib.hid hev
      clear hst hev hR hny
      have hnot2 : bits .xor .u8 IntKind.u8.max (y.toNat : Int) = (ny.toNat : Int) := hnot
      clear hnot
      by_cases hxy : x = ny
      · subst hxy
        have hd : ((x.toNat : Int) != (x.toNat : Int)) = false := by simp
        go_wp2_with fail
        go_region
        simp only [show ¬ (IntKind.u8.signed = true) by decide, Bool.false_eq_true, if_false, hnot2, hd]
        go_wp2_with (at_builtin; refine wpList_append_any _ rfl (.tmp 31) (.tmp 36) _ rfl w.heap.size 5 i0 (.int .u8 0) 1 Try.underlying29 HI.out HZ0.out HZ1.out HZ2.out rfl _ k ((evens (l.take (2 * k))).map u8v) rfl (own_only HO.out (Only.of_below (S := []) ((Below.refl _ wr).alloc (Nat.le_refl _) _).drew) (by simp)) (some ⟨wr.heap.size, 0, none⟩) 1 1 (([x] : List UInt8).map u8v) rfl (((Blk.new wr 5 #[u8v x]).reads 0 (by simp)).drew) (u8v_one _) (by unfold maxLen; omega) (by omega) (by simp; omega) ?_; intro A2 c2 w2 hown2 hgrow2 hat; have HO2 := Lib.hid hown2; have HG2 := Lib.hid hgrow2; clear hown2 hgrow2 hat)
        go_roundw
        case rel =>
          refine ⟨k + 1, A2, c2, by omega, rfl, by go_num, ?_, ?_, (HB.out.alloc hbs _).drew.grown HG2.out (by simp; omega) (fun g hg => (hl1 g hg).1)⟩
          · rw [HEV.out, List.map_append]
            exact HO2.out
          · have := HST.out
            rw [this]
            simp
        case measure => simp [intOf]; omega
      · have hd : ((x.toNat : Int) != (ny.toNat : Int)) = true := by
          rw [bne_iff_ne]
          intro h
          exact hxy (UInt8.toNat_inj.1 (by exact_mod_cast h))
        have hf : dualOk l = false := by
          rw [HST.out]
          simp [hxy]
        clear hxy
        go_wp2_with fail
        go_region
        simp only [show ¬ (IntKind.u8.signed = true) by decide, Bool.false_eq_true, if_false, hnot2, hd]
        go_wp2_with fail
        go_ret2
        exact ⟨HB.out.drew, .inl ⟨hf, rfl⟩⟩
    · obtain rfl : k = h := by omega
      go_wp2_with fail
      go_ret2
      have h1 := HO.out
      have h2 := HD.out
      rw [List.take_of_length_le (by rw [HL.out]; exact Nat.le_refl _)] at h1
      rw [List.drop_of_length_le (by rw [HL.out]; exact Nat.le_refl _)] at h2
      exact ⟨HB.out, .inr ⟨h2.symm, A', c', rfl, h1⟩⟩
set_option maxRecDepth 100000 in
theorem dualGet_nil (w : World) (A : Option Addr) (n c : Nat) (l : List UInt8) (hr : Reads w A n (l.map u8v)) (hn : n ≤ 1000000) (h0 : n < 1) :
    Calls Try.prog 126 #[.slice A n c] w fun e w' => Below w.heap.size w w' ∧ ((dualOk l = false ∧ e = .returned (.tuple #[.slice none 0 0, .bool false])) ∨ (dualOk l = true ∧ ∃ A' c', e = .returned (.tuple #[.slice A' (n / 2) c', .bool true]) ∧ w'.ownsRow w.heap.size 5 1 (.slice A' (n / 2) c') (n / 2) ((evens l).map u8v))) := by
  obtain ⟨i0, hi, hz0, hz1, hz2⟩ := info_parts info_u8
  have HI := Lib.hid hi
  have HZ0 := Lib.hid hz0
  have HZ1 := Lib.hid hz1
  have HZ2 := Lib.hid hz2
  have hl : l.length = n := by simpa using hr.len
  have HL := Lib.hid hl
  have HR := Lib.hid hr
  clear hi hz0 hz1 hz2 hl hr
  by_cases hodd : n % 2 = 1
  · have hf : dualOk l = false := dualOk_odd l (by rw [HL.out]; exact hodd)
    exfalso; omega
  obtain ⟨h, rfl⟩ : ∃ h, n = 2 * h := ⟨n / 2, by omega⟩
  rw [show 2 * h / 2 = h by omega]
  go_enter Try.func126, Try.ntmps126
  go_wp2_with (at_make; refine wpList_make_own _ rfl (.const (.int .i64 0)) (.tmp 12) _ rfl w.heap.size 5 i0 (.int .u8 0) 1 Try.underlying29 HI.out HZ0.out HZ1.out .i64 .i64 (h : Int) h rfl rfl (by omega) (by rw [HZ2.out]; omega) (by unfold maxLen; omega) (Nat.le_refl _) ?_; intro w1 hown1 hgrow1)
  have HO1 := Lib.hid hown1
  have HB1 := Lib.hid ((Below.refl w.heap.size w).grown hgrow1 (Nat.le_refl _) (by intro k hk; cases hk))
  clear hown1 hgrow1
  go_loopw [4, 5] (fun s i wr => ∃ (k : Nat) (A' : Option Addr) (c' : Nat), k ≤ h ∧ s = .slice A' k c' ∧ i = .int .i64 ((2 * k : Nat) : Int) ∧ wr.ownsRow w.heap.size 5 1 (.slice A' k c') k ((evens (l.take (2 * k))).map u8v) ∧ dualOk (l.drop (2 * k)) = dualOk l ∧ Below w.heap.size w wr) (fun _ i _ => 2 * h - (intOf i).toNat)
  case atStart => exact ⟨0, _, _, by omega, rfl, rfl, by simpa [evens] using HO1.out, rfl, HB1.out⟩
  case round =>
    clear HO1 HB1
    obtain ⟨k, A', c', hk, rfl, rfl, hown, hdo, hb⟩ := hrel
    have HO := Lib.hid hown
    have HB := Lib.hid hb
    have HD := Lib.hid hdo
    clear hown hb hdo
    by_cases hlt : k < h
    · exfalso; omega
    · obtain rfl : k = h := by omega
      go_wp2_with fail
      go_ret2
      have h1 := HO.out
      have h2 := HD.out
      rw [List.take_of_length_le (by rw [HL.out]; exact Nat.le_refl _)] at h1
      rw [List.drop_of_length_le (by rw [HL.out]; exact Nat.le_refl _)] at h2
      exact ⟨HB.out, .inr ⟨h2.symm, A', c', rfl, h1⟩⟩
theorem dualGet_c (w : World) (A : Option Addr) (n c : Nat) (l : List UInt8) (hr : Reads w A n (l.map u8v)) (hn : n ≤ 1000000) :
    Calls Try.prog 126 #[.slice A n c] w fun e w' => Below w.heap.size w w' ∧ ((dualOk l = false ∧ e = .returned (.tuple #[.slice none 0 0, .bool false])) ∨ (dualOk l = true ∧ ∃ A' c', e = .returned (.tuple #[.slice A' (n / 2) c', .bool true]) ∧ w'.ownsRow w.heap.size 5 1 (.slice A' (n / 2) c') (n / 2) ((evens l).map u8v))) := by
  by_cases h0 : n < 1
  · exact dualGet_nil w A n c l hr hn h0
  · obtain ⟨b, o, rfl, -⟩ := hr.2 (by omega)
    exact dualGet_some w b o n c l hr hn
end Go.Proofs.Ytlchlcjahndjgaa
