/- The reference's Cut, its reader (NewReader, Raw, Num) and its writer (Num, Raw). -/
import Derived.Test.YtpafenlcgcenlaaGreatDoorFldA
import Derived.Laws.Bits64b
namespace Go.Proofs.YtpafenlcgcenlaaGreatDoor
open Go.RowKit
set_option linter.unusedVariables false
set_option linter.unusedSimpArgs false
theorem refcut_c (n lo hi : Int) (w : World) : Calls Tryz.prog 39 #[.int .i64 n, .int .i64 lo, .int .i64 hi] w fun e w' => e = .returned (.int .i64 (if n < lo then lo else if hi < n then hi else n)) ∧ w = w' := by
  by_cases h1 : n < lo
  · rw [if_pos h1]
    go_enter Tryz.func39, Tryz.ntmps39
    go_wp2
    go_ret
    exact ⟨rfl, rfl⟩
  · rw [if_neg h1]
    by_cases h2 : hi < n
    · rw [if_pos h2]
      go_enter Tryz.func39, Tryz.ntmps39
      go_wp2
      go_ret
      exact ⟨rfl, rfl⟩
    · rw [if_neg h2]
      go_enter Tryz.func39, Tryz.ntmps39
      go_wp2
      go_ret
      exact ⟨rfl, rfl⟩
/-- A reader of the reference's that has l left. -/
def RrAt (w : World) (p : Nat) (l : List UInt8) (bad : Bool) : Prop :=
  ∃ A n c, Blk w p 173 #[.slice A n c, .bool bad] ∧ Reads w A n (l.map u8v) ∧ n ≤ c ∧ c ≤ maxLen ∧ (0 < n → ∀ a, A = some a → a.block ≠ p)
theorem RrAt.lt {w : World} {p : Nat} {l : List UInt8} {bad : Bool} (h : RrAt w p l bad) : p < w.heap.size := by obtain ⟨A, n, c, hb, -⟩ := h; exact hb.lt
theorem RrAt.below {w w' : World} {p : Nat} {l : List UInt8} {bad : Bool} (h : RrAt w p l bad) (hb : Below w.heap.size w w') : RrAt w' p l bad := by
  obtain ⟨A, n, c, h1, h2, h3, h4, h5⟩ := h
  exact ⟨A, n, c, h1.below hb h1.lt, h2.below hb, h3, h4, h5⟩
def rrL (l : List UInt8) (bad : Bool) (n : Nat) : List UInt8 := if bad = true ∨ l.length < n then l else l.drop n
theorem rrnew2_c (w : World) (A : Option Addr) (n c : Nat) (l : List UInt8) (hr : Reads w A n (l.map u8v)) (hc : n ≤ c ∧ c ≤ maxLen) :
    Calls Tryz.prog 67 #[.slice A n c] w fun e w' => ∃ p, e = .returned (ptr p) ∧ w.heap.size ≤ p ∧ RrAt w' p l false ∧ Below w.heap.size w w' := by
  have HR := Lib.hid hr
  clear hr
  go_enter Tryz.func67, Tryz.ntmps67
  go_wp2
  go_ret
  refine ⟨w.heap.size, rfl, Nat.le_refl _, ⟨A, n, c, Blk.new w 173 #[.slice A n c, .bool false], HR.out.alloc _, hc.1, hc.2, fun h0 a ha => ?_⟩, (Below.refl _ _).alloc (Nat.le_refl _) _⟩
  obtain ⟨b, o, rfl, hb, -⟩ := HR.out.2 h0
  cases ha
  show b ≠ _
  omega
set_option maxRecDepth 100000 in
theorem rrraw_c (w : World) (p size : Nat) (l : List UInt8) (bad : Bool) (h : RrAt w p l bad) (hs : size ≤ 1000) (hs1 : 1 ≤ size) :
    Calls Tryz.prog 68 #[ptr p, .int .i64 (size : Int)] w fun e w' => ∃ A c, e = .returned (.slice A (rdT l bad size).length c) ∧ w'.ownsRow w.heap.size 5 1 (.slice A (rdT l bad size).length c) (rdT l bad size).length ((rdT l bad size).map u8v) ∧ RrAt w' p (rrL l bad size) (rdB l bad size) ∧ Only [p] w w' := by
  obtain ⟨i0, hi, hz0, hz1, hz2⟩ := info_parts info_u8
  have HI := Lib.hid hi
  have HZ0 := Lib.hid hz0
  have HZ1 := Lib.hid hz1
  have HZ2 := Lib.hid hz2
  have hcut : ∀ W, Calls Tryz.prog 39 #[.int .i64 (size : Int), .int .i64 0, .int .i64 1000] W fun e w' => e = .returned (.int .i64 (size : Int)) ∧ W = w' := fun W => by
    refine (refcut_c (size : Int) 0 1000 W).mono ?_
    rintro e w' ⟨rfl, rfl⟩
    rw [if_neg (by omega), if_neg (by omega)]
    exact ⟨rfl, rfl⟩
  obtain ⟨A, m, c, hb, hr, hmc, hcm, hap⟩ := h
  have hm : l.length = m := by simpa using hr.len
  have c0 : w.cell? ⟨p, 0, none⟩ = some (.slice A m c) := (hb.cell 0).trans rfl
  have c1 : w.cell? ⟨p, 1, none⟩ = some (.bool bad) := (hb.cell 1).trans rfl
  have f0 := hb.frozen 0
  have f1 := hb.frozen 1
  have HB := Lib.hid hb
  have HR := Lib.hid hr
  clear hb hr hi hz0 hz1 hz2
  cases bad with
  | true =>
    go_enter Tryz.func68, Tryz.ntmps68
    go_wp2_with (go_at_call 39; refine (hcut _).mono ?_; rintro e w' ⟨rfl, rfl⟩)
    go_ret
    exact ⟨none, 0, rfl, World.ownsRow_nil _ _ _ _, ⟨A, m, c, HB.out.set_ 1 _, HR.out.setCellC hap _, hmc, hcm, hap⟩, (Only.refl _ _).setCell (.inl (by simp)) _⟩
  | false =>
    by_cases hlt : m < size
    · have hi : (m : Int) < (size : Int) := by omega
      go_enter Tryz.func68, Tryz.ntmps68
      go_wp2_with (go_at_call 39; refine (hcut _).mono ?_; rintro e w' ⟨rfl, rfl⟩)
      go_ret
      have hl : l.length < size := by omega
      have e1 : rdT l false size = [] := by simp [rdT, hl]
      have e2 : rrL l false size = l := by simp [rrL, hl]
      have e3 : rdB l false size = true := by simp [rdB, hl]
      rw [e1, e2, e3]
      exact ⟨none, 0, rfl, World.ownsRow_nil _ _ _ _, ⟨A, m, c, HB.out.set_ 1 _, HR.out.setCellC hap _, hmc, hcm, hap⟩, (Only.refl _ _).setCell (.inl (by simp)) _⟩
    · have hi : ¬ (m : Int) < (size : Int) := by omega
      have hl : ¬ l.length < size := by omega
      have e1 : rdT l false size = l.take size := by simp [rdT, hl]
      have e2 : rrL l false size = l.drop size := by simp [rrL, hl]
      have e3 : rdB l false size = false := by simp [rdB, hl]
      have e4 : (l.take size).length = size := by rw [List.length_take]; omega
      rw [e1, e2, e3, e4]
      have hd := HR.out.drop (k := size) (cap := c) (by omega) hmc
      have ht := HR.out.take (k := size) (by omega)
      rw [← List.map_drop] at hd
      rw [← List.map_take] at ht
      have HD := Lib.hid hd
      have HT := Lib.hid ht
      clear hd ht e1 e2 e3 e4 hl
      by_cases hcn : c = size
      · go_enter Tryz.func68, Tryz.ntmps68
        go_wp2_with (first | (go_at_call 39; refine (hcut _).mono ?_; rintro e w' ⟨rfl, rfl⟩) | (at_builtin; refine wpList_append_any _ rfl (.const (.slice none 0 0)) (.tmp 30) _ rfl w.heap.size 5 i0 (.int .u8 0) 1 Tryz.underlying22 HI.out HZ0.out HZ1.out HZ2.out rfl _ 0 [] rfl (World.ownsRow_nil _ _ _ _) A size _ ((l.take size).map u8v) rfl HT.out (u8v_one _) (by unfold maxLen; omega) (by omega) (Nat.le_refl _) ?_; (intro A2 c2 w2 hown2 hgrow2 hat; simp only [Nat.zero_add, List.nil_append] at hown2 ⊢; have HB2 := Lib.hid (show Below w.heap.size w w2 from (Below.refl w.heap.size w).grown hgrow2 (Nat.le_refl _) (by intro k hk; cases hk)); have HO2 := Lib.hid hown2; have c0' := (HB.out.below HB2.out HB.out.lt).cell 0; have f0' := (HB.out.below HB2.out HB.out.lt).frozen 0; clear hown2 hgrow2 hat)))
        go_ret
        have hd := HD.out.below HB2.out
        rw [if_pos hcn] at hd
        have hlt := HB.out.lt
        exact ⟨A2, _, rfl, own_only HO2.out ((Only.refl [p] w2).setCell (.inl (by simp)) _) (by intro k hk; have := HO2.out.lt k hk; simp; omega), ⟨A, m - size, 0, (HB.out.below HB2.out hlt).set_ 0 _, hd.setCellC (fun h0 => hap (by omega)) _, by omega, Nat.zero_le _, fun h0 => hap (by omega)⟩, (Only.of_below HB2.out).setCell (.inl (by simp)) _⟩
      · go_enter Tryz.func68, Tryz.ntmps68
        go_wp2_with (first | (go_at_call 39; refine (hcut _).mono ?_; rintro e w' ⟨rfl, rfl⟩) | (at_builtin; refine wpList_append_any _ rfl (.const (.slice none 0 0)) (.tmp 30) _ rfl w.heap.size 5 i0 (.int .u8 0) 1 Tryz.underlying22 HI.out HZ0.out HZ1.out HZ2.out rfl _ 0 [] rfl (World.ownsRow_nil _ _ _ _) A size _ ((l.take size).map u8v) rfl HT.out (u8v_one _) (by unfold maxLen; omega) (by omega) (Nat.le_refl _) ?_; (intro A2 c2 w2 hown2 hgrow2 hat; simp only [Nat.zero_add, List.nil_append] at hown2 ⊢; have HB2 := Lib.hid (show Below w.heap.size w w2 from (Below.refl w.heap.size w).grown hgrow2 (Nat.le_refl _) (by intro k hk; cases hk)); have HO2 := Lib.hid hown2; have c0' := (HB.out.below HB2.out HB.out.lt).cell 0; have f0' := (HB.out.below HB2.out HB.out.lt).frozen 0; clear hown2 hgrow2 hat)))
        go_ret
        have hd := HD.out.below HB2.out
        rw [if_neg hcn] at hd
        have hlt := HB.out.lt
        have hap2 : 0 < m - size → ∀ a, Option.map (fun x => x.add size) A = some a → a.block ≠ p := by
          intro h0 a ha
          rcases A with _ | a0
          · cases ha
          · have e : a = a0.add size := by simpa using ha.symm
            rw [e, block_of_add]
            exact hap (by omega) a0 rfl
        exact ⟨A2, _, rfl, own_only HO2.out ((Only.refl [p] w2).setCell (.inl (by simp)) _) (by intro k hk; have := HO2.out.lt k hk; simp; omega), ⟨_, m - size, c - size, (HB.out.below HB2.out hlt).set_ 0 _, hd.setCellC hap2 _, by omega, by omega, hap2⟩, (Only.of_below HB2.out).setCell (.inl (by simp)) _⟩
set_option maxRecDepth 100000 in
theorem rrnum_c (w : World) (p size : Nat) (l : List UInt8) (bad : Bool) (h : RrAt w p l bad) (hs : size ≤ 7) (hs1 : 1 ≤ size) :
    Calls Tryz.prog 69 #[ptr p, .int .i64 (size : Int)] w fun e w' => e = .returned (.int .i64 ((ofBe (rdT l bad size) : Nat) : Int)) ∧ RrAt w' p (rrL l bad size) (rdB l bad size) ∧ Only [p] w w' := by
  have hcut : ∀ W, Calls Tryz.prog 39 #[.int .i64 (size : Int), .int .i64 0, .int .i64 8] W fun e w' => e = .returned (.int .i64 (size : Int)) ∧ W = w' := fun W => by
    refine (refcut_c (size : Int) 0 8 W).mono ?_
    rintro e w' ⟨rfl, rfl⟩
    rw [if_neg (by omega), if_neg (by omega)]
    exact ⟨rfl, rfl⟩
  obtain ⟨X, hX⟩ : ∃ X, rdT l bad size = X := ⟨_, rfl⟩
  have hXl : X.length ≤ size := hX ▸ rdT_len l bad size
  have ht := rrraw_c w p size l bad h (by omega) hs1
  rw [hX] at ht ⊢
  clear h hX
  go_enter Tryz.func69, Tryz.ntmps69
  go_wp2_with (first | (go_at_call 39; refine (hcut _).mono ?_; rintro e w' ⟨rfl, rfl⟩) | (go_at_call 68; refine ht.mono ?_; rintro e w2 ⟨A2, c2, rfl, hown2, h2, ho2⟩))
  have H2 := Lib.hid h2
  have HO2 := Lib.hid ho2
  have HR2 := Lib.hid (Reads.of_own hown2)
  have hr2 := Reads.of_own hown2
  clear h2 ho2 ht hown2 hcut
  by_cases hx0 : X.length = 0
  · have hx1 : X = [] := List.eq_nil_of_length_eq_zero hx0
    subst hx1
    go_loopw [6, 7] (fun a i wr => a = .int .u64 0 ∧ i = .int .i64 0 ∧ wr = w2) (fun _ i _ => 0)
    case atStart => exact ⟨rfl, rfl, rfl⟩
    case round =>
      obtain ⟨rfl, rfl, rfl⟩ := hrel
      go_wp2_with fail
      go_ret
      exact ⟨rfl, H2.out, HO2.out⟩
  · obtain ⟨b, o, rfl, -⟩ := hr2.2 (by omega)
    clear hr2
    go_loopw [6, 7] (fun a i wr => ∃ k : Nat, k ≤ X.length ∧ a = .int .u64 ((ofBe (X.take k) : Nat) : Int) ∧ i = .int .i64 (k : Int) ∧ wr = w2) (fun _ i _ => X.length - (intOf i).toNat)
    case atStart => exact ⟨0, by omega, rfl, rfl, rfl⟩
    case round =>
      obtain ⟨k, hk, rfl, rfl, rfl⟩ := hrel
      by_cases hlt : k < X.length
      · obtain ⟨b', o', u, e, -, hu, hcell⟩ := HR2.out.at_ hlt
        cases e
        rw [List.getElem?_map, List.getElem?_eq_getElem hlt] at hu
        obtain rfl : u8v X[k] = u := by simpa using hu
        have hst := ofBe_step X k hlt
        have hb := ofBe_lt X k hk
        obtain ⟨x, hx⟩ : ∃ x, X[k] = x := ⟨_, rfl⟩
        obtain ⟨V, hV⟩ : ∃ V, ofBe (X.take k) = V := ⟨_, rfl⟩
        have hxl := x.toNat_lt
        rw [hx] at hcell hst
        rw [hV] at hst hb
        have hpow : 256 ^ k ≤ 256 ^ 6 := Nat.pow_le_pow_right (by omega) (by omega)
        have hVb : V < 281474976710656 := by have : (256 : Nat) ^ 6 = 281474976710656 := rfl; omega
        have hor := rnum_or V x.toNat hxl (by omega)
        have HST := Lib.hid hst
        clear hst hpow hb hx
        simp only [hV]
        clear hV
        have hor2 : bits .or .u64 ((V : Int) * 256) (x.toNat : Int) = ((V * 256 + x.toNat : Nat) : Int) := by
          rw [← hor]
          congr 1
        have HOR := Lib.hid hor2
        clear hor hor2
        go_wp2_with fail
        go_roundw
        case rel =>
          refine ⟨k + 1, by omega, ?_, by go_num, trivial⟩
          rw [HST.out, HOR.out]
        case measure => simp [intOf]; omega
      · obtain rfl : k = X.length := by omega
        rw [List.take_of_length_le (Nat.le_refl _)]
        have hb := ofBe_lt X X.length (Nat.le_refl _)
        rw [List.take_of_length_le (Nat.le_refl _)] at hb
        have hpow : 256 ^ X.length ≤ 256 ^ 7 := Nat.pow_le_pow_right (by omega) (by omega)
        have hVb : ofBe X < 72057594037927936 := by have : (256 : Nat) ^ 7 = 72057594037927936 := rfl; omega
        obtain ⟨V, hV⟩ : ∃ V, ofBe X = V := ⟨_, rfl⟩
        have HV := Lib.hid hV
        rw [hV] at hVb
        simp only [hV]
        clear hV hb
        go_wp2_with fail
        go_ret
        exact ⟨by rw [HV.out]; rfl, H2.out, HO2.out⟩
/-- The reference's writer that has written l. -/
def WwAt (base : Nat) (w : World) (p : Nat) (l : List UInt8) : Prop :=
  ∃ A c, Blk w p 142 #[.slice A l.length c] ∧ w.ownsRow base 5 1 (.slice A l.length c) l.length (l.map u8v)
theorem WwAt.lt {base : Nat} {w : World} {p : Nat} {l : List UInt8} (h : WwAt base w p l) : p < w.heap.size := by obtain ⟨A, c, hb, -⟩ := h; exact hb.lt
theorem WwAt.below {base : Nat} {w w' : World} {p : Nat} {l : List UInt8} (h : WwAt base w p l) (hb : Below w.heap.size w w') : WwAt base w' p l := by
  obtain ⟨A, c, h1, h2⟩ := h
  exact ⟨A, c, h1.below hb h1.lt, own_only h2 (Only.of_below (S := []) hb) (by simp)⟩
end Go.Proofs.YtpafenlcgcenlaaGreatDoor
