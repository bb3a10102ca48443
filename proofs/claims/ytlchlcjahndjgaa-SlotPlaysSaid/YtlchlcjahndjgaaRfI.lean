/- The reference: Undual, NewReader, Reader.Raw, Reader.Num. -/
import Derived.Test.YtlchlcjahndjgaaFldR
import Derived.Test.YtlchlcjahndjgaaRfA
import Derived.Test.YtlchlcjahndjgaaRfB
namespace Go.Proofs.Ytlchlcjahndjgaa
open Go.RowKit
set_option linter.unusedVariables false
set_option linter.unusedSimpArgs false
theorem u8_dual (x y : UInt8) : ((((x ^^^ y).toNat : Nat) : Int) != 255) = !(x == (y ^^^ 255)) := by
  have h1 : (x ^^^ y = 255) ↔ x = y ^^^ 255 := by
    constructor
    · intro h
      rw [← h, UInt8.xor_comm x y, ← UInt8.xor_assoc, UInt8.xor_self, UInt8.zero_xor]
    · rintro rfl
      rw [UInt8.xor_comm y 255, UInt8.xor_assoc, UInt8.xor_self, UInt8.xor_zero]
  have h2 : ((((x ^^^ y).toNat : Nat) : Int) == 255) = (x == (y ^^^ 255)) := by
    rw [Bool.eq_iff_iff, beq_iff_eq, beq_iff_eq, ← h1]
    constructor
    · intro h
      exact UInt8.toNat_inj.1 (show (x ^^^ y).toNat = (255 : UInt8).toNat by have : (255 : UInt8).toNat = 255 := rfl; omega)
    · intro h
      rw [h]
      rfl
  show (!_) = _
  rw [h2]
theorem u8_xorn (x y : UInt8) : bits .xor .u8 (x.toNat : Int) (y.toNat : Int) = ((x ^^^ y).toNat : Int) := by
  rw [u8_xor_nat _ _ x.toNat_lt y.toNat_lt, UInt8.toNat_xor]
set_option maxRecDepth 100000 in
theorem undual_some (w : World) (b o : Nat) (n c : Nat) (l : List UInt8) (hr : Reads w (some ⟨b, o, none⟩) n (l.map u8v)) (hn : n ≤ 1000000) :
    Calls Try.prog 119 #[.slice (some ⟨b, o, none⟩) n c] w fun e w' => Below w.heap.size w w' ∧ ((dualOk l = false ∧ e = .returned (.tuple #[.slice none 0 0, .bool false])) ∨ (dualOk l = true ∧ ∃ A' c', e = .returned (.tuple #[.slice A' (n / 2) c', .bool true]) ∧ w'.ownsRow w.heap.size 5 1 (.slice A' (n / 2) c') (n / 2) ((evens l).map u8v))) := by
  obtain ⟨i0, hi, hz0, hz1, hz2⟩ := info_parts info_u8
  have HI := Lib.hid hi
  have HZ0 := Lib.hid hz0
  have HZ1 := Lib.hid hz1
  have HZ2 := Lib.hid hz2
  have hl : l.length = n := by simpa using hr.len
  have HL := Lib.hid hl
  have HR := Lib.hid hr
  clear hi hz0 hz1 hz2 hl hr
  by_cases hodd : n % 2 = 1
  · have hf : dualOk l = false := dualOk_odd l (by rw [HL.out]; exact hodd)
    go_enter Try.func119, Try.ntmps119
    go_wp2
    go_ret2
    exact ⟨Below.refl _ _, .inl ⟨hf, rfl⟩⟩
  obtain ⟨h, rfl⟩ : ∃ h, n = 2 * h := ⟨n / 2, by omega⟩
  rw [show 2 * h / 2 = h by omega]
  go_enter Try.func119, Try.ntmps119
  go_wp2_with fail
  go_loopw [4, 5] (fun s i wr => ∃ (k : Nat) (A' : Option Addr) (c' : Nat), k ≤ h ∧ s = .slice A' k c' ∧ i = .int .i64 ((2 * k : Nat) : Int) ∧ wr.ownsRow w.heap.size 5 1 (.slice A' k c') k ((evens (l.take (2 * k))).map u8v) ∧ dualOk (l.drop (2 * k)) = dualOk l ∧ Below w.heap.size w wr) (fun _ i _ => 2 * h - (intOf i).toNat)
  case atStart => exact ⟨0, _, _, by omega, rfl, rfl, World.ownsRow_nil _ _ _ _, rfl, Below.refl _ _⟩
  case round =>
    obtain ⟨k, A', c', hk, rfl, rfl, hown, hdo, hb⟩ := hrel
    have HO := Lib.hid hown
    have HB := Lib.hid hb
    have HD := Lib.hid hdo
    clear hown hb hdo
    by_cases hlt : k < h
    · have hR := HR.out.below HB.out
      have hkl : 2 * k + 1 < l.length := by rw [HL.out]; omega
      obtain ⟨x, hx⟩ : ∃ x, l[2 * k] = x := ⟨_, rfl⟩
      obtain ⟨y, hy⟩ : ∃ y, l[2 * k + 1] = y := ⟨_, rfl⟩
      have hcx : wr.cell? ⟨b, o + 2 * k, none⟩ = some (.int .u8 (x.toNat : Int)) := by
        obtain ⟨b', o', u, e, -, hu, hcell⟩ := hR.at_ (k := 2 * k) (by omega)
        cases e
        rw [List.getElem?_map, List.getElem?_eq_getElem (by omega), hx] at hu
        obtain rfl : u8v x = u := by simpa using hu
        exact hcell
      have hcy : wr.cell? ⟨b, o + (2 * k + 1), none⟩ = some (.int .u8 (y.toNat : Int)) := by
        obtain ⟨b', o', u, e, -, hu, hcell⟩ := hR.at_ (k := 2 * k + 1) (by omega)
        cases e
        rw [List.getElem?_map, List.getElem?_eq_getElem (by omega), hy] at hu
        obtain rfl : u8v y = u := by simpa using hu
        exact hcell
      have hxor := u8_xorn x y
      have hne := u8_dual x y
      obtain ⟨ny, hny⟩ : ∃ ny, y ^^^ 255 = ny := ⟨_, rfl⟩
      obtain ⟨z, hz⟩ : ∃ z, x ^^^ y = z := ⟨_, rfl⟩
      rw [hz] at hxor hne
      rw [hny] at hne
      have hbs := HB.out.size
      have hl1 := HO.out.lt
      have hst := dualOk_step l k hkl
      have hev := evens_step l k hkl
      rw [hx, hy, hny, HD.out] at hst
      rw [hx] at hev
      have HST := Lib.hid hst
      have HEV := Lib.hid hev
      clear hst hev hR hny hz
      by_cases hxy : x = ny
      · subst hxy
        have hd : ((z.toNat : Int) != 255) = false := by rw [hne]; simp
        clear hne
        go_wp2_with fail
        go_region
        try simp only [show ¬ (IntKind.u8.signed = true) by decide, Bool.false_eq_true, if_false, hxor, hd]
        go_wp2_with (at_builtin; refine wpList_append_any _ rfl (.tmp 27) (.tmp 32) _ rfl w.heap.size 5 i0 (.int .u8 0) 1 Try.underlying29 HI.out HZ0.out HZ1.out HZ2.out rfl _ k ((evens (l.take (2 * k))).map u8v) rfl (own_only HO.out (Only.of_below (S := []) ((Below.refl _ wr).alloc (Nat.le_refl _) _).drew) (by simp)) (some ⟨wr.heap.size, 0, none⟩) 1 1 (([x] : List UInt8).map u8v) rfl (((Blk.new wr 5 #[u8v x]).reads 0 (by simp)).drew) (u8v_one _) (by unfold maxLen; omega) (by omega) (by simp; omega) ?_; intro A2 c2 w2 hown2 hgrow2 hat; have HO2 := Lib.hid hown2; have HG2 := Lib.hid hgrow2; clear hown2 hgrow2 hat)
        go_roundw
        case rel =>
          refine ⟨k + 1, A2, c2, by omega, rfl, by go_num, ?_, ?_, (HB.out.alloc hbs _).drew.grown HG2.out (by simp; omega) (fun g hg => (hl1 g hg).1)⟩
          · rw [HEV.out, List.map_append]
            exact HO2.out
          · have := HST.out
            rw [this]
            simp
        case measure => simp [intOf]; omega
      · have hd : ((z.toNat : Int) != 255) = true := by
          rw [hne]
          simp [hxy]
        have hf : dualOk l = false := by
          rw [HST.out]
          simp [hxy]
        clear hxy hne
        go_wp2_with fail
        go_region
        try simp only [show ¬ (IntKind.u8.signed = true) by decide, Bool.false_eq_true, if_false, hxor, hd]
        go_wp2_with fail
        go_ret2
        exact ⟨HB.out.drew, .inl ⟨hf, rfl⟩⟩
    · obtain rfl : k = h := by omega
      go_wp2_with fail
      go_ret2
      have h1 := HO.out
      have h2 := HD.out
      rw [List.take_of_length_le (by rw [HL.out]; exact Nat.le_refl _)] at h1
      rw [List.drop_of_length_le (by rw [HL.out]; exact Nat.le_refl _)] at h2
      exact ⟨HB.out, .inr ⟨h2.symm, A', c', rfl, h1⟩⟩
set_option maxRecDepth 100000 in
theorem undual_nil (w : World) (A : Option Addr) (c : Nat) :
    Calls Try.prog 119 #[.slice A 0 c] w fun e w' => w = w' ∧ e = .returned (.tuple #[.slice none 0 0, .bool true]) := by
  go_enter Try.func119, Try.ntmps119
  go_wp2_with fail
  go_loopw [4, 5] (fun s i wr => s = .slice none 0 0 ∧ i = .int .i64 0 ∧ wr = w) (fun _ i _ => 0)
  case atStart => exact ⟨rfl, rfl, rfl⟩
  case round =>
    obtain ⟨rfl, rfl, rfl⟩ := hrel
    go_wp2_with fail
    go_ret2
    exact ⟨rfl, rfl⟩
theorem undual_c (w : World) (A : Option Addr) (n c : Nat) (l : List UInt8) (hr : Reads w A n (l.map u8v)) (hn : n ≤ 1000000) :
    Calls Try.prog 119 #[.slice A n c] w fun e w' => Below w.heap.size w w' ∧ ((dualOk l = false ∧ e = .returned (.tuple #[.slice none 0 0, .bool false])) ∨ (dualOk l = true ∧ ∃ A' c', e = .returned (.tuple #[.slice A' (n / 2) c', .bool true]) ∧ w'.ownsRow w.heap.size 5 1 (.slice A' (n / 2) c') (n / 2) ((evens l).map u8v))) := by
  by_cases h0 : n < 1
  · obtain rfl : n = 0 := by omega
    have hl : l = [] := List.eq_nil_of_length_eq_zero (by simpa using hr.len)
    subst hl
    refine (undual_nil w A c).mono ?_
    rintro e w' ⟨rfl, rfl⟩
    exact ⟨Below.refl _ _, .inr ⟨rfl, none, 0, rfl, World.ownsRow_nil _ _ _ _⟩⟩
  · obtain ⟨b, o, rfl, -⟩ := hr.2 (by omega)
    exact undual_some w b o n c l hr hn
/-- A reader of the reference's that has l left. -/
def RrAt (w : World) (p : Nat) (l : List UInt8) (bad : Bool) : Prop :=
  ∃ A n c, Blk w p 144 #[.slice A n c, .bool bad] ∧ Reads w A n (l.map u8v) ∧ n ≤ c ∧ c ≤ maxLen ∧ ∀ a, A = some a → a.block ≠ p
theorem RrAt.lt {w : World} {p : Nat} {l : List UInt8} {bad : Bool} (h : RrAt w p l bad) : p < w.heap.size := by obtain ⟨A, n, c, hb, -⟩ := h; exact hb.lt
theorem RrAt.below {w w' : World} {p : Nat} {l : List UInt8} {bad : Bool} (h : RrAt w p l bad) (hb : Below w.heap.size w w') : RrAt w' p l bad := by
  obtain ⟨A, n, c, h1, h2, h3, h4, h5⟩ := h
  exact ⟨A, n, c, h1.below hb h1.lt, h2.below hb, h3, h4, h5⟩
def rrL (l : List UInt8) (bad : Bool) (n : Nat) : List UInt8 := if bad = true ∨ l.length < n then l else l.drop n
theorem rrnew_c (w : World) (A : Option Addr) (n c : Nat) (l : List UInt8) (hr : Reads w A n (l.map u8v)) (hc : n ≤ c ∧ c ≤ maxLen) (hA : ∀ a, A = some a → a.block < w.heap.size) :
    Calls Try.prog 120 #[.slice A n c] w fun e w' => ∃ p, e = .returned (ptr p) ∧ w.heap.size ≤ p ∧ RrAt w' p l false ∧ Below w.heap.size w w' := by
  have HR := Lib.hid hr
  clear hr
  go_enter Try.func120, Try.ntmps120
  go_wp2
  go_ret
  refine ⟨w.heap.size, rfl, Nat.le_refl _, ⟨A, n, c, Blk.new w 144 #[.slice A n c, .bool false], HR.out.alloc _, hc.1, hc.2, fun a ha => ?_⟩, (Below.refl _ _).alloc (Nat.le_refl _) _⟩
  have := hA a ha
  omega
set_option maxRecDepth 100000 in
theorem rrraw_c (w : World) (p size : Nat) (l : List UInt8) (bad : Bool) (h : RrAt w p l bad) (hs : size ≤ 1000) (hs1 : 1 ≤ size) :
    Calls Try.prog 122 #[ptr p, .int .i64 (size : Int)] w fun e w' => ∃ A c, e = .returned (.slice A (rdT l bad size).length c) ∧ w'.ownsRow w.heap.size 5 1 (.slice A (rdT l bad size).length c) (rdT l bad size).length ((rdT l bad size).map u8v) ∧ RrAt w' p (rrL l bad size) (rdB l bad size) ∧ Only [p] w w' := by
  obtain ⟨i0, hi, hz0, hz1, hz2⟩ := info_parts info_u8
  have HI := Lib.hid hi
  have HZ0 := Lib.hid hz0
  have HZ1 := Lib.hid hz1
  have HZ2 := Lib.hid hz2
  have hcut : ∀ W, Calls Try.prog 67 #[.int .i64 (size : Int), .int .i64 0, .int .i64 1000] W fun e w' => e = .returned (.int .i64 (size : Int)) ∧ W = w' := fun W => by
    refine (refcut_c (size : Int) 0 1000 W).mono ?_
    rintro e w' ⟨rfl, rfl⟩
    rw [if_neg (by omega), if_neg (by omega)]
    exact ⟨rfl, rfl⟩
  obtain ⟨A, m, c, hb, hr, hmc, hcm, hap⟩ := h
  have hm : l.length = m := by simpa using hr.len
  have c0 : w.cell? ⟨p, 0, none⟩ = some (.slice A m c) := (hb.cell 0).trans rfl
  have c1 : w.cell? ⟨p, 1, none⟩ = some (.bool bad) := (hb.cell 1).trans rfl
  have f0 := hb.frozen 0
  have f1 := hb.frozen 1
  have HB := Lib.hid hb
  have HR := Lib.hid hr
  clear hb hr hi hz0 hz1 hz2
  cases bad with
  | true =>
    go_enter Try.func122, Try.ntmps122
    go_wp2_with (go_at_call 67; refine (hcut _).mono ?_; rintro e w' ⟨rfl, rfl⟩)
    go_ret
    exact ⟨none, 0, rfl, World.ownsRow_nil _ _ _ _, ⟨A, m, c, HB.out.set_ 1 _, HR.out.setCell hap _, hmc, hcm, hap⟩, (Only.refl _ _).setCell (.inl (by simp)) _⟩
  | false =>
    by_cases hlt : m < size
    · have hi : (m : Int) < (size : Int) := by omega
      go_enter Try.func122, Try.ntmps122
      go_wp2_with (go_at_call 67; refine (hcut _).mono ?_; rintro e w' ⟨rfl, rfl⟩)
      go_ret
      have hl : l.length < size := by omega
      have e1 : rdT l false size = [] := by simp [rdT, hl]
      have e2 : rrL l false size = l := by simp [rrL, hl]
      have e3 : rdB l false size = true := by simp [rdB, hl]
      rw [e1, e2, e3]
      exact ⟨none, 0, rfl, World.ownsRow_nil _ _ _ _, ⟨A, m, c, HB.out.set_ 1 _, HR.out.setCell hap _, hmc, hcm, hap⟩, (Only.refl _ _).setCell (.inl (by simp)) _⟩
    · have hi : ¬ (m : Int) < (size : Int) := by omega
      have hl : ¬ l.length < size := by omega
      have e1 : rdT l false size = l.take size := by simp [rdT, hl]
      have e2 : rrL l false size = l.drop size := by simp [rrL, hl]
      have e3 : rdB l false size = false := by simp [rdB, hl]
      have e4 : (l.take size).length = size := by rw [List.length_take]; omega
      rw [e1, e2, e3, e4]
      have hd := HR.out.drop (k := size) (cap := c) (by omega) hmc
      have ht := HR.out.take (k := size) (by omega)
      rw [← List.map_drop] at hd
      rw [← List.map_take] at ht
      have HD := Lib.hid hd
      have HT := Lib.hid ht
      clear hd ht e1 e2 e3 e4 hl
      by_cases hcn : c = size
      · go_enter Try.func122, Try.ntmps122
        go_wp2_with (first | (go_at_call 67; refine (hcut _).mono ?_; rintro e w' ⟨rfl, rfl⟩) | (at_builtin; refine wpList_append_any _ rfl (.const (.slice none 0 0)) (.tmp 30) _ rfl w.heap.size 5 i0 (.int .u8 0) 1 Try.underlying29 HI.out HZ0.out HZ1.out HZ2.out rfl _ 0 [] rfl (World.ownsRow_nil _ _ _ _) A size _ ((l.take size).map u8v) rfl HT.out (u8v_one _) (by unfold maxLen; omega) (by omega) (Nat.le_refl _) ?_; (intro A2 c2 w2 hown2 hgrow2 hat; simp only [Nat.zero_add, List.nil_append] at hown2 ⊢; have HB2 := Lib.hid (show Below w.heap.size w w2 from (Below.refl w.heap.size w).grown hgrow2 (Nat.le_refl _) (by intro k hk; cases hk)); have HO2 := Lib.hid hown2; have c0' := (HB.out.below HB2.out HB.out.lt).cell 0; have f0' := (HB.out.below HB2.out HB.out.lt).frozen 0; clear hown2 hgrow2 hat)))
        go_ret
        have hd := HD.out.below HB2.out
        rw [if_pos hcn] at hd
        have hlt := HB.out.lt
        exact ⟨A2, _, rfl, own_only HO2.out ((Only.refl [p] w2).setCell (.inl (by simp)) _) (by intro k hk; have := HO2.out.lt k hk; simp; omega), ⟨A, m - size, 0, (HB.out.below HB2.out hlt).set_ 0 _, hd.setCell hap _, by omega, Nat.zero_le _, hap⟩, (Only.of_below HB2.out).setCell (.inl (by simp)) _⟩
      · go_enter Try.func122, Try.ntmps122
        go_wp2_with (first | (go_at_call 67; refine (hcut _).mono ?_; rintro e w' ⟨rfl, rfl⟩) | (at_builtin; refine wpList_append_any _ rfl (.const (.slice none 0 0)) (.tmp 30) _ rfl w.heap.size 5 i0 (.int .u8 0) 1 Try.underlying29 HI.out HZ0.out HZ1.out HZ2.out rfl _ 0 [] rfl (World.ownsRow_nil _ _ _ _) A size _ ((l.take size).map u8v) rfl HT.out (u8v_one _) (by unfold maxLen; omega) (by omega) (Nat.le_refl _) ?_; (intro A2 c2 w2 hown2 hgrow2 hat; simp only [Nat.zero_add, List.nil_append] at hown2 ⊢; have HB2 := Lib.hid (show Below w.heap.size w w2 from (Below.refl w.heap.size w).grown hgrow2 (Nat.le_refl _) (by intro k hk; cases hk)); have HO2 := Lib.hid hown2; have c0' := (HB.out.below HB2.out HB.out.lt).cell 0; have f0' := (HB.out.below HB2.out HB.out.lt).frozen 0; clear hown2 hgrow2 hat)))
        go_ret
        have hd := HD.out.below HB2.out
        rw [if_neg hcn] at hd
        have hlt := HB.out.lt
        have hap2 : ∀ a, Option.map (fun x => x.add size) A = some a → a.block ≠ p := by
          intro a ha
          rcases A with _ | a0
          · cases ha
          · have e : a = a0.add size := by simpa using ha.symm
            rw [e, block_of_add]
            exact hap a0 rfl
        exact ⟨A2, _, rfl, own_only HO2.out ((Only.refl [p] w2).setCell (.inl (by simp)) _) (by intro k hk; have := HO2.out.lt k hk; simp; omega), ⟨_, m - size, c - size, (HB.out.below HB2.out hlt).set_ 0 _, hd.setCell hap2 _, by omega, by omega, hap2⟩, (Only.of_below HB2.out).setCell (.inl (by simp)) _⟩
set_option maxRecDepth 100000 in
theorem rrnum_c (w : World) (p size : Nat) (l : List UInt8) (bad : Bool) (h : RrAt w p l bad) (hs : size ≤ 7) (hs1 : 1 ≤ size) :
    Calls Try.prog 121 #[ptr p, .int .i64 (size : Int)] w fun e w' => e = .returned (.int .i64 ((ofBe (rdT l bad size) : Nat) : Int)) ∧ RrAt w' p (rrL l bad size) (rdB l bad size) ∧ Only [p] w w' := by
  have hcut : ∀ W, Calls Try.prog 67 #[.int .i64 (size : Int), .int .i64 0, .int .i64 8] W fun e w' => e = .returned (.int .i64 (size : Int)) ∧ W = w' := fun W => by
    refine (refcut_c (size : Int) 0 8 W).mono ?_
    rintro e w' ⟨rfl, rfl⟩
    rw [if_neg (by omega), if_neg (by omega)]
    exact ⟨rfl, rfl⟩
  obtain ⟨X, hX⟩ : ∃ X, rdT l bad size = X := ⟨_, rfl⟩
  have hXl : X.length ≤ size := hX ▸ rdT_len l bad size
  have ht := rrraw_c w p size l bad h (by omega) hs1
  rw [hX] at ht ⊢
  clear h hX
  go_enter Try.func121, Try.ntmps121
  go_wp2_with (first | (go_at_call 67; refine (hcut _).mono ?_; rintro e w' ⟨rfl, rfl⟩) | (go_at_call 122; refine ht.mono ?_; rintro e w2 ⟨A2, c2, rfl, hown2, h2, ho2⟩))
  have H2 := Lib.hid h2
  have HO2 := Lib.hid ho2
  have HR2 := Lib.hid (Reads.of_own hown2)
  have hr2 := Reads.of_own hown2
  clear h2 ho2 ht hown2 hcut
  by_cases hx0 : X.length = 0
  · have hx1 : X = [] := List.eq_nil_of_length_eq_zero hx0
    subst hx1
    go_loopw [6, 7] (fun a i wr => a = .int .u64 0 ∧ i = .int .i64 0 ∧ wr = w2) (fun _ i _ => 0)
    case atStart => exact ⟨rfl, rfl, rfl⟩
    case round =>
      obtain ⟨rfl, rfl, rfl⟩ := hrel
      go_wp2_with fail
      go_ret
      exact ⟨rfl, H2.out, HO2.out⟩
  · obtain ⟨b, o, rfl, -⟩ := hr2.2 (by omega)
    clear hr2
    go_loopw [6, 7] (fun a i wr => ∃ k : Nat, k ≤ X.length ∧ a = .int .u64 ((ofBe (X.take k) : Nat) : Int) ∧ i = .int .i64 (k : Int) ∧ wr = w2) (fun _ i _ => X.length - (intOf i).toNat)
    case atStart => exact ⟨0, by omega, rfl, rfl, rfl⟩
    case round =>
      obtain ⟨k, hk, rfl, rfl, rfl⟩ := hrel
      by_cases hlt : k < X.length
      · obtain ⟨b', o', u, e, -, hu, hcell⟩ := HR2.out.at_ hlt
        cases e
        rw [List.getElem?_map, List.getElem?_eq_getElem hlt] at hu
        obtain rfl : u8v X[k] = u := by simpa using hu
        have hst := ofBe_step X k hlt
        have hb := ofBe_lt X k hk
        obtain ⟨x, hx⟩ : ∃ x, X[k] = x := ⟨_, rfl⟩
        obtain ⟨V, hV⟩ : ∃ V, ofBe (X.take k) = V := ⟨_, rfl⟩
        have hxl := x.toNat_lt
        rw [hx] at hcell hst
        rw [hV] at hst hb
        have hpow : 256 ^ k ≤ 256 ^ 6 := Nat.pow_le_pow_right (by omega) (by omega)
        have hVb : V < 281474976710656 := by have : (256 : Nat) ^ 6 = 281474976710656 := rfl; omega
        have hor := rnum_or V x.toNat hxl (by omega)
        have HST := Lib.hid hst
        clear hst hpow hb hx
        simp only [hV]
        clear hV
        have hor2 : bits .or .u64 ((V : Int) * 256) (x.toNat : Int) = ((V * 256 + x.toNat : Nat) : Int) := by
          rw [← hor]
          congr 1
        have HOR := Lib.hid hor2
        clear hor hor2
        go_wp2_with fail
        go_roundw
        case rel =>
          refine ⟨k + 1, by omega, ?_, by go_num, trivial⟩
          rw [HST.out, HOR.out]
        case measure => simp [intOf]; omega
      · obtain rfl : k = X.length := by omega
        rw [List.take_of_length_le (Nat.le_refl _)]
        have hb := ofBe_lt X X.length (Nat.le_refl _)
        rw [List.take_of_length_le (Nat.le_refl _)] at hb
        have hpow : 256 ^ X.length ≤ 256 ^ 7 := Nat.pow_le_pow_right (by omega) (by omega)
        have hVb : ofBe X < 72057594037927936 := by have : (256 : Nat) ^ 7 = 72057594037927936 := rfl; omega
        obtain ⟨V, hV⟩ : ∃ V, ofBe X = V := ⟨_, rfl⟩
        have HV := Lib.hid hV
        rw [hV] at hVb
        simp only [hV]
        clear hV hb
        go_wp2_with fail
        go_ret
        exact ⟨by rw [HV.out]; rfl, H2.out, HO2.out⟩
end Go.Proofs.Ytlchlcjahndjgaa
