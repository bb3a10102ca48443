/- The reference's Cut, its reader (NewReader, Raw, Num) and its writer (Num, Raw). -/
import Derived.Test.YtpafenlcgcenlaaGreatDoorFldR
import Derived.Test.YtpafenlcgcenlaaGreatDoorFldW
import Derived.Laws.Bits64b
namespace Go.Proofs.YtpafenlcgcenlaaGreatDoor
open Go.RowKit
set_option linter.unusedVariables false
set_option linter.unusedSimpArgs false
theorem ofBe_be4 (N : Nat) (h : N < 4294967296) : ofBe (be N 4) = N := by
  have e : be N 4 = [UInt8.ofNat (N / 16777216), UInt8.ofNat (N / 65536), UInt8.ofNat (N / 256), UInt8.ofNat N] := by
    unfold be
    simp [List.range_succ]
  rw [e]
  unfold ofBe
  simp only [List.foldl_cons, List.foldl_nil, UInt8.toNat_ofNat']
  omega
theorem refcut_c (n lo hi : Int) (w : World) : Calls Tryz.prog 39 #[.int .i64 n, .int .i64 lo, .int .i64 hi] w fun e w' => e = .returned (.int .i64 (if n < lo then lo else if hi < n then hi else n)) ∧ w = w' := by
  by_cases h1 : n < lo
  · rw [if_pos h1]
    go_enter Tryz.func39, Tryz.ntmps39
    go_wp2
    go_ret
    exact ⟨rfl, rfl⟩
  · rw [if_neg h1]
    by_cases h2 : hi < n
    · rw [if_pos h2]
      go_enter Tryz.func39, Tryz.ntmps39
      go_wp2
      go_ret
      exact ⟨rfl, rfl⟩
    · rw [if_neg h2]
      go_enter Tryz.func39, Tryz.ntmps39
      go_wp2
      go_ret
      exact ⟨rfl, rfl⟩
/-- A reader of the reference's that has l left. -/
def RrAt (w : World) (p : Nat) (l : List UInt8) (bad : Bool) : Prop :=
  ∃ A n c, Blk w p 173 #[.slice A n c, .bool bad] ∧ Reads w A n (l.map u8v) ∧ n ≤ c ∧ c ≤ maxLen ∧ (0 < n → ∀ a, A = some a → a.block ≠ p)
theorem RrAt.lt {w : World} {p : Nat} {l : List UInt8} {bad : Bool} (h : RrAt w p l bad) : p < w.heap.size := by obtain ⟨A, n, c, hb, -⟩ := h; exact hb.lt
theorem RrAt.below {w w' : World} {p : Nat} {l : List UInt8} {bad : Bool} (h : RrAt w p l bad) (hb : Below w.heap.size w w') : RrAt w' p l bad := by
  obtain ⟨A, n, c, h1, h2, h3, h4, h5⟩ := h
  exact ⟨A, n, c, h1.below hb h1.lt, h2.below hb, h3, h4, h5⟩
def rrL (l : List UInt8) (bad : Bool) (n : Nat) : List UInt8 := if bad = true ∨ l.length < n then l else l.drop n
theorem rrnew2_c (w : World) (A : Option Addr) (n c : Nat) (l : List UInt8) (hr : Reads w A n (l.map u8v)) (hc : n ≤ c ∧ c ≤ maxLen) :
    Calls Tryz.prog 67 #[.slice A n c] w fun e w' => ∃ p, e = .returned (ptr p) ∧ w.heap.size ≤ p ∧ RrAt w' p l false ∧ Below w.heap.size w w' := by
  have HR := Lib.hid hr
  clear hr
  go_enter Tryz.func67, Tryz.ntmps67
  go_wp2
  go_ret
  refine ⟨w.heap.size, rfl, Nat.le_refl _, ⟨A, n, c, Blk.new w 173 #[.slice A n c, .bool false], HR.out.alloc _, hc.1, hc.2, fun h0 a ha => ?_⟩, (Below.refl _ _).alloc (Nat.le_refl _) _⟩
  obtain ⟨b, o, rfl, hb, -⟩ := HR.out.2 h0
  cases ha
  show b ≠ _
  omega
theorem rrnew_c (w : World) (A : Option Addr) (n c : Nat) (l : List UInt8) (hr : Reads w A n (l.map u8v)) (hc : n ≤ c ∧ c ≤ maxLen) (hA : ∀ a, A = some a → a.block < w.heap.size) :
    Calls Tryz.prog 67 #[.slice A n c] w fun e w' => ∃ p, e = .returned (ptr p) ∧ w.heap.size ≤ p ∧ RrAt w' p l false ∧ Below w.heap.size w w' := rrnew2_c w A n c l hr hc
set_option maxRecDepth 100000 in
theorem rrraw_c (w : World) (p size : Nat) (l : List UInt8) (bad : Bool) (h : RrAt w p l bad) (hs : size ≤ 1000) (hs1 : 1 ≤ size) :
    Calls Tryz.prog 68 #[ptr p, .int .i64 (size : Int)] w fun e w' => ∃ A c, e = .returned (.slice A (rdT l bad size).length c) ∧ w'.ownsRow w.heap.size 5 1 (.slice A (rdT l bad size).length c) (rdT l bad size).length ((rdT l bad size).map u8v) ∧ RrAt w' p (rrL l bad size) (rdB l bad size) ∧ Only [p] w w' := by
  obtain ⟨i0, hi, hz0, hz1, hz2⟩ := info_parts info_u8
  have HI := Lib.hid hi
  have HZ0 := Lib.hid hz0
  have HZ1 := Lib.hid hz1
  have HZ2 := Lib.hid hz2
  have hcut : ∀ W, Calls Tryz.prog 39 #[.int .i64 (size : Int), .int .i64 0, .int .i64 1000] W fun e w' => e = .returned (.int .i64 (size : Int)) ∧ W = w' := fun W => by
    refine (refcut_c (size : Int) 0 1000 W).mono ?_
    rintro e w' ⟨rfl, rfl⟩
    rw [if_neg (by omega), if_neg (by omega)]
    exact ⟨rfl, rfl⟩
  obtain ⟨A, m, c, hb, hr, hmc, hcm, hap⟩ := h
  have hm : l.length = m := by simpa using hr.len
  have c0 : w.cell? ⟨p, 0, none⟩ = some (.slice A m c) := (hb.cell 0).trans rfl
  have c1 : w.cell? ⟨p, 1, none⟩ = some (.bool bad) := (hb.cell 1).trans rfl
  have f0 := hb.frozen 0
  have f1 := hb.frozen 1
  have HB := Lib.hid hb
  have HR := Lib.hid hr
  clear hb hr hi hz0 hz1 hz2
  cases bad with
  | true =>
    go_enter Tryz.func68, Tryz.ntmps68
    go_wp2_with (go_at_call 39; refine (hcut _).mono ?_; rintro e w' ⟨rfl, rfl⟩)
    go_ret
    exact ⟨none, 0, rfl, World.ownsRow_nil _ _ _ _, ⟨A, m, c, HB.out.set_ 1 _, HR.out.setCellC hap _, hmc, hcm, hap⟩, (Only.refl _ _).setCell (.inl (by simp)) _⟩
  | false =>
    by_cases hlt : m < size
    · have hi : (m : Int) < (size : Int) := by omega
      go_enter Tryz.func68, Tryz.ntmps68
      go_wp2_with (go_at_call 39; refine (hcut _).mono ?_; rintro e w' ⟨rfl, rfl⟩)
      go_ret
      have hl : l.length < size := by omega
      have e1 : rdT l false size = [] := by simp [rdT, hl]
      have e2 : rrL l false size = l := by simp [rrL, hl]
      have e3 : rdB l false size = true := by simp [rdB, hl]
      rw [e1, e2, e3]
      exact ⟨none, 0, rfl, World.ownsRow_nil _ _ _ _, ⟨A, m, c, HB.out.set_ 1 _, HR.out.setCellC hap _, hmc, hcm, hap⟩, (Only.refl _ _).setCell (.inl (by simp)) _⟩
    · have hi : ¬ (m : Int) < (size : Int) := by omega
      have hl : ¬ l.length < size := by omega
      have e1 : rdT l false size = l.take size := by simp [rdT, hl]
      have e2 : rrL l false size = l.drop size := by simp [rrL, hl]
      have e3 : rdB l false size = false := by simp [rdB, hl]
      have e4 : (l.take size).length = size := by rw [List.length_take]; omega
      rw [e1, e2, e3, e4]
      have hd := HR.out.drop (k := size) (cap := c) (by omega) hmc
      have ht := HR.out.take (k := size) (by omega)
      rw [← List.map_drop] at hd
      rw [← List.map_take] at ht
      have HD := Lib.hid hd
      have HT := Lib.hid ht
      clear hd ht e1 e2 e3 e4 hl
      by_cases hcn : c = size
      · go_enter Tryz.func68, Tryz.ntmps68
        go_wp2_with (first | (go_at_call 39; refine (hcut _).mono ?_; rintro e w' ⟨rfl, rfl⟩) | (at_builtin; refine wpList_append_any _ rfl (.const (.slice none 0 0)) (.tmp 30) _ rfl w.heap.size 5 i0 (.int .u8 0) 1 Tryz.underlying22 HI.out HZ0.out HZ1.out HZ2.out rfl _ 0 [] rfl (World.ownsRow_nil _ _ _ _) A size _ ((l.take size).map u8v) rfl HT.out (u8v_one _) (by unfold maxLen; omega) (by omega) (Nat.le_refl _) ?_; (intro A2 c2 w2 hown2 hgrow2 hat; simp only [Nat.zero_add, List.nil_append] at hown2 ⊢; have HB2 := Lib.hid (show Below w.heap.size w w2 from (Below.refl w.heap.size w).grown hgrow2 (Nat.le_refl _) (by intro k hk; cases hk)); have HO2 := Lib.hid hown2; have c0' := (HB.out.below HB2.out HB.out.lt).cell 0; have f0' := (HB.out.below HB2.out HB.out.lt).frozen 0; clear hown2 hgrow2 hat)))
        go_ret
        have hd := HD.out.below HB2.out
        rw [if_pos hcn] at hd
        have hlt := HB.out.lt
        exact ⟨A2, _, rfl, own_only HO2.out ((Only.refl [p] w2).setCell (.inl (by simp)) _) (by intro k hk; have := HO2.out.lt k hk; simp; omega), ⟨A, m - size, 0, (HB.out.below HB2.out hlt).set_ 0 _, hd.setCellC (fun h0 => hap (by omega)) _, by omega, Nat.zero_le _, fun h0 => hap (by omega)⟩, (Only.of_below HB2.out).setCell (.inl (by simp)) _⟩
      · go_enter Tryz.func68, Tryz.ntmps68
        go_wp2_with (first | (go_at_call 39; refine (hcut _).mono ?_; rintro e w' ⟨rfl, rfl⟩) | (at_builtin; refine wpList_append_any _ rfl (.const (.slice none 0 0)) (.tmp 30) _ rfl w.heap.size 5 i0 (.int .u8 0) 1 Tryz.underlying22 HI.out HZ0.out HZ1.out HZ2.out rfl _ 0 [] rfl (World.ownsRow_nil _ _ _ _) A size _ ((l.take size).map u8v) rfl HT.out (u8v_one _) (by unfold maxLen; omega) (by omega) (Nat.le_refl _) ?_; (intro A2 c2 w2 hown2 hgrow2 hat; simp only [Nat.zero_add, List.nil_append] at hown2 ⊢; have HB2 := Lib.hid (show Below w.heap.size w w2 from (Below.refl w.heap.size w).grown hgrow2 (Nat.le_refl _) (by intro k hk; cases hk)); have HO2 := Lib.hid hown2; have c0' := (HB.out.below HB2.out HB.out.lt).cell 0; have f0' := (HB.out.below HB2.out HB.out.lt).frozen 0; clear hown2 hgrow2 hat)))
        go_ret
        have hd := HD.out.below HB2.out
        rw [if_neg hcn] at hd
        have hlt := HB.out.lt
        have hap2 : 0 < m - size → ∀ a, Option.map (fun x => x.add size) A = some a → a.block ≠ p := by
          intro h0 a ha
          rcases A with _ | a0
          · cases ha
          · have e : a = a0.add size := by simpa using ha.symm
            rw [e, block_of_add]
            exact hap (by omega) a0 rfl
        exact ⟨A2, _, rfl, own_only HO2.out ((Only.refl [p] w2).setCell (.inl (by simp)) _) (by intro k hk; have := HO2.out.lt k hk; simp; omega), ⟨_, m - size, c - size, (HB.out.below HB2.out hlt).set_ 0 _, hd.setCellC hap2 _, by omega, by omega, hap2⟩, (Only.of_below HB2.out).setCell (.inl (by simp)) _⟩
set_option maxRecDepth 100000 in
theorem rrnum_c (w : World) (p size : Nat) (l : List UInt8) (bad : Bool) (h : RrAt w p l bad) (hs : size ≤ 7) (hs1 : 1 ≤ size) :
    Calls Tryz.prog 69 #[ptr p, .int .i64 (size : Int)] w fun e w' => e = .returned (.int .i64 ((ofBe (rdT l bad size) : Nat) : Int)) ∧ RrAt w' p (rrL l bad size) (rdB l bad size) ∧ Only [p] w w' := by
  have hcut : ∀ W, Calls Tryz.prog 39 #[.int .i64 (size : Int), .int .i64 0, .int .i64 8] W fun e w' => e = .returned (.int .i64 (size : Int)) ∧ W = w' := fun W => by
    refine (refcut_c (size : Int) 0 8 W).mono ?_
    rintro e w' ⟨rfl, rfl⟩
    rw [if_neg (by omega), if_neg (by omega)]
    exact ⟨rfl, rfl⟩
  obtain ⟨X, hX⟩ : ∃ X, rdT l bad size = X := ⟨_, rfl⟩
  have hXl : X.length ≤ size := hX ▸ rdT_len l bad size
  have ht := rrraw_c w p size l bad h (by omega) hs1
  rw [hX] at ht ⊢
  clear h hX
  go_enter Tryz.func69, Tryz.ntmps69
  go_wp2_with (first | (go_at_call 39; refine (hcut _).mono ?_; rintro e w' ⟨rfl, rfl⟩) | (go_at_call 68; refine ht.mono ?_; rintro e w2 ⟨A2, c2, rfl, hown2, h2, ho2⟩))
  have H2 := Lib.hid h2
  have HO2 := Lib.hid ho2
  have HR2 := Lib.hid (Reads.of_own hown2)
  have hr2 := Reads.of_own hown2
  clear h2 ho2 ht hown2 hcut
  by_cases hx0 : X.length = 0
  · have hx1 : X = [] := List.eq_nil_of_length_eq_zero hx0
    subst hx1
    go_loopw [6, 7] (fun a i wr => a = .int .u64 0 ∧ i = .int .i64 0 ∧ wr = w2) (fun _ i _ => 0)
    case atStart => exact ⟨rfl, rfl, rfl⟩
    case round =>
      obtain ⟨rfl, rfl, rfl⟩ := hrel
      go_wp2_with fail
      go_ret
      exact ⟨rfl, H2.out, HO2.out⟩
  · obtain ⟨b, o, rfl, -⟩ := hr2.2 (by omega)
    clear hr2
    go_loopw [6, 7] (fun a i wr => ∃ k : Nat, k ≤ X.length ∧ a = .int .u64 ((ofBe (X.take k) : Nat) : Int) ∧ i = .int .i64 (k : Int) ∧ wr = w2) (fun _ i _ => X.length - (intOf i).toNat)
    case atStart => exact ⟨0, by omega, rfl, rfl, rfl⟩
    case round =>
      obtain ⟨k, hk, rfl, rfl, rfl⟩ := hrel
      by_cases hlt : k < X.length
      · obtain ⟨b', o', u, e, -, hu, hcell⟩ := HR2.out.at_ hlt
        cases e
        rw [List.getElem?_map, List.getElem?_eq_getElem hlt] at hu
        obtain rfl : u8v X[k] = u := by simpa using hu
        have hst := ofBe_step X k hlt
        have hb := ofBe_lt X k hk
        obtain ⟨x, hx⟩ : ∃ x, X[k] = x := ⟨_, rfl⟩
        obtain ⟨V, hV⟩ : ∃ V, ofBe (X.take k) = V := ⟨_, rfl⟩
        have hxl := x.toNat_lt
        rw [hx] at hcell hst
        rw [hV] at hst hb
        have hpow : 256 ^ k ≤ 256 ^ 6 := Nat.pow_le_pow_right (by omega) (by omega)
        have hVb : V < 281474976710656 := by have : (256 : Nat) ^ 6 = 281474976710656 := rfl; omega
        have hor := rnum_or V x.toNat hxl (by omega)
        have HST := Lib.hid hst
        clear hst hpow hb hx
        simp only [hV]
        clear hV
        have hor2 : bits .or .u64 ((V : Int) * 256) (x.toNat : Int) = ((V * 256 + x.toNat : Nat) : Int) := by
          rw [← hor]
          congr 1
        have HOR := Lib.hid hor2
        clear hor hor2
        go_wp2_with fail
        go_roundw
        case rel =>
          refine ⟨k + 1, by omega, ?_, by go_num, trivial⟩
          rw [HST.out, HOR.out]
        case measure => simp [intOf]; omega
      · obtain rfl : k = X.length := by omega
        rw [List.take_of_length_le (Nat.le_refl _)]
        have hb := ofBe_lt X X.length (Nat.le_refl _)
        rw [List.take_of_length_le (Nat.le_refl _)] at hb
        have hpow : 256 ^ X.length ≤ 256 ^ 7 := Nat.pow_le_pow_right (by omega) (by omega)
        have hVb : ofBe X < 72057594037927936 := by have : (256 : Nat) ^ 7 = 72057594037927936 := rfl; omega
        obtain ⟨V, hV⟩ : ∃ V, ofBe X = V := ⟨_, rfl⟩
        have HV := Lib.hid hV
        rw [hV] at hVb
        simp only [hV]
        clear hV hb
        go_wp2_with fail
        go_ret
        exact ⟨by rw [HV.out]; rfl, H2.out, HO2.out⟩
theorem rbe_val (N j : Nat) (hN : N < 18446744073709551616) : bits .and .u64 ((N : Int) / 2 ^ (8 * j)) 255 % 256 = (((UInt8.ofNat (N / 256 ^ j)).toNat : Nat) : Int) := by
  have e : ((N : Int) / 2 ^ (8 * j)) = ((N / 256 ^ j : Nat) : Int) := by
    rw [Int.natCast_ediv, Int.pow_mul]
    norm_cast
  have hlt : N / 256 ^ j < 18446744073709551616 := Nat.lt_of_le_of_lt (Nat.div_le_self _ _) hN
  have h := bits_and_u64_nat (N / 256 ^ j) 255 hlt (by omega)
  rw [e, show (255 : Int) = ((255 : Nat) : Int) from rfl, h, UInt8.toNat_ofNat', show (255 : Nat) = 2 ^ 8 - 1 from rfl, Nat.and_two_pow_sub_one_eq_mod]
  omega
/-- The reference's writer that has written l. -/
def WwAt (base : Nat) (w : World) (p : Nat) (l : List UInt8) : Prop :=
  ∃ A c, Blk w p 142 #[.slice A l.length c] ∧ w.ownsRow base 5 1 (.slice A l.length c) l.length (l.map u8v)
theorem WwAt.lt {base : Nat} {w : World} {p : Nat} {l : List UInt8} (h : WwAt base w p l) : p < w.heap.size := by obtain ⟨A, c, hb, -⟩ := h; exact hb.lt
theorem WwAt.below {base : Nat} {w w' : World} {p : Nat} {l : List UInt8} (h : WwAt base w p l) (hb : Below w.heap.size w w') : WwAt base w' p l := by
  obtain ⟨A, c, h1, h2⟩ := h
  exact ⟨A, c, h1.below hb h1.lt, own_only h2 (Only.of_below (S := []) hb) (by simp)⟩
theorem ww_put {base : Nat} {w : World} {p n c c2 : Nat} {A A2 : Option Addr} {xs l : List UInt8} {x : UInt8} (e : l = xs ++ [x]) (hn : xs.length = n) (hb : Blk w p 142 #[.slice A n c])
    (ho : w.ownsRow base 5 1 (.slice A2 (n + 1) c2) (n + 1) (xs.map u8v ++ [x].map u8v)) : WwAt base (w.setCell ⟨p, 0, none⟩ (.slice A2 (n + 1) c2)) p l := by
  subst e
  have hne := own_blk_ne ho hb (by decide)
  have hl : (xs ++ [x]).length = n + 1 := by simp [hn]
  refine ⟨A2, c2, ?_, ?_⟩
  · rw [hl]; exact hb.set_ 0 _
  · rw [hl, List.map_append]
    refine own_only ho (S := [p]) ((Only.refl _ _).setCell (.inl (by simp)) _) fun k hk => ?_
    simp
    rintro rfl
    exact hne hk
set_option maxRecDepth 100000 in
theorem rwnum_c (base : Nat) (w : World) (p : Nat) (l : List UInt8) (n : Int) (N : Nat) (size : Nat) (hN : IntKind.u64.wrap n = (N : Int)) (hN2 : N < 18446744073709551616) (hs : size ≤ 8) (hs1 : 1 ≤ size) (hp : base ≤ p) (hl : l.length ≤ 100000) (h : WwAt base w p l) :
    Calls Tryz.prog 89 #[ptr p, .int .i64 n, .int .i64 (size : Int)] w fun e w' => e = .returned (.tuple #[]) ∧ WwAt base w' p (l ++ be N size) ∧ Below base w w' := by
  obtain ⟨i0, hi, hz0, hz1, hz2⟩ := info_parts info_u8
  have HI := Lib.hid hi
  have HZ0 := Lib.hid hz0
  have HZ1 := Lib.hid hz1
  have HZ2 := Lib.hid hz2
  have H := Lib.hid h
  have hcut : ∀ W, Calls Tryz.prog 39 #[.int .i64 (size : Int), .int .i64 0, .int .i64 8] W fun e w' => e = .returned (.int .i64 (size : Int)) ∧ W = w' := fun W => by
    refine (refcut_c (size : Int) 0 8 W).mono ?_
    rintro e w' ⟨rfl, rfl⟩
    refine ⟨?_, rfl⟩
    congr 2
    rw [if_neg (by omega), if_neg (by omega)]
  have hlt0 := h.lt
  have HCUT := Lib.hid hcut
  clear hi hz0 hz1 hz2 h hcut
  go_enter Tryz.func89, Tryz.ntmps89
  go_wp2_with (go_at_call 39; refine (HCUT.out _).mono ?_; rintro e w' ⟨rfl, rfl⟩)
  go_loopw [6] (fun i wr => ∃ (k : Nat) (v : Int), k ≤ size ∧ v = (size : Int) - 1 - k ∧ i = .int .i64 v ∧ WwAt base wr p (l ++ (be N size).take k) ∧ Below base w wr) (fun i _ => (intOf i + 1).toNat)
  case atStart => exact ⟨0, (size : Int) - 1, by omega, by omega, rfl, by simpa using H.out, Below.refl _ _⟩
  case round =>
    clear H
    obtain ⟨k, v, hk, hv, rfl, hwr, hb⟩ := hrel
    obtain ⟨A, c, hblk, hown⟩ := hwr
    have hlen : (l ++ (be N size).take k).length = l.length + k := by rw [List.length_append, List.length_take, be_len]; omega
    rw [hlen] at hblk hown
    have HBK := Lib.hid hblk
    have HO := Lib.hid hown
    have HB := Lib.hid hb
    have hbs := hb.size
    clear hb hlen
    by_cases hlt : k < size
    · have hc : wr.cell? ⟨p, 0, none⟩ = some (.slice A (l.length + k) c) := by rw [hblk.cell]; rfl
      have hf := hblk.frozen 0
      obtain ⟨j, rfl⟩ : ∃ j : Nat, v = j := ⟨v.toNat, by omega⟩
      have HJ := Lib.hid (show j = size - 1 - k by omega)
      have hj8 : j < 8 := by omega
      have e1 : IntKind.i64.wrap (8 * (j : Int)) = 8 * j := IntWalk.i64_in _ (by omega)
      have e2 : (0 : Int) ≤ 8 * (j : Int) := by omega
      clear hblk hown hv
      obtain ⟨x, hx⟩ : ∃ x, UInt8.ofNat (N / 256 ^ j) = x := ⟨_, rfl⟩
      have hval : bits .and .u64 ((N : Int) / 2 ^ (8 * (j : Int)).toNat) 255 % 256 = ((x.toNat : Nat) : Int) := by
        rw [← hx, show (8 * (j : Int)).toNat = 8 * j by omega]
        exact rbe_val N j hN2
      have HX := Lib.hid hx
      have hrd : ∀ W : World, Reads (W.alloc (.cells #[.int .u8 (bits .and .u64 ((N : Int) / 2 ^ (8 * (j : Int)).toNat) 255 % 256)] 5)) (some ⟨W.heap.size, 0, none⟩) 1 (([x] : List UInt8).map u8v) := fun W => by
        rw [hval]
        exact (Blk.new W 5 #[u8v x]).reads 0 (by simp)
      have HRD := Lib.hid hrd
      clear hx hval hrd
      have hne := own_blk_ne HO.out HBK.out (by decide)
      have hl1 := HO.out.lt
      have hlp := HBK.out.lt
      go_wp2_with (at_builtin; refine wpList_append_any _ rfl (.tmp 18) (.tmp 27) _ rfl base 5 i0 (.int .u8 0) 1 Tryz.underlying22 HI.out HZ0.out HZ1.out HZ2.out rfl (.slice A (l.length + k) c) (l.length + k) ((l ++ (be N size).take k).map u8v) rfl (own_only HO.out (Only.of_below (S := []) ((Below.refl _ wr).alloc (Nat.le_refl _) _)) (by simp)) (some ⟨wr.heap.size, 0, none⟩) 1 1 (([x] : List UInt8).map u8v) rfl (HRD.out wr) (u8v_one _) (by unfold maxLen; omega) (by omega) (by have := hlp; simp; omega) ?_; intro A2 c2 w2 hown2 hgrow2 hat2; have HBK2 := Lib.hid (Blk.grown (HBK.out.alloc _) hgrow2 (Ne.symm hne)); have hc2 : w2.cell? ⟨p, 0, none⟩ = some (.slice A (l.length + k) c) := (by rw [HBK2.out.cell]; rfl); have hf2 := HBK2.out.frozen 0; have HO2 := Lib.hid hown2; have HB2 := Lib.hid (Below.grown (HB.out.alloc (B := base) (by omega) _) hgrow2 (by simp; omega) (fun g hg => (hl1 g hg).1)); clear hown2 hgrow2 hat2)
      go_roundw
      case rel => exact ⟨k + 1, (j : Int) - 1, by omega, by have := HJ.out; omega, by go_num, ww_put (by rw [be_step N size k hlt, ← List.append_assoc, ← HJ.out, HX.out]) (by simp [be_len]; omega) HBK2.out HO2.out, HB2.out.setCell hp _⟩
      case measure => simp [intOf] <;> omega
    · obtain rfl : k = size := by omega
      have hv2 : v = -1 := by omega
      subst hv2
      go_wp2_with fail
      go_end0
      have e : (be N k).take k = be N k := List.take_of_length_le (by rw [be_len]; exact Nat.le_refl _)
      have h2 := HO.out
      rw [e] at h2
      refine ⟨rfl, ⟨A, c, ?_, ?_⟩, HB.out⟩
      · rw [List.length_append, be_len]; exact HBK.out
      · rw [List.length_append, be_len]; exact h2
theorem padTo_step (b : List UInt8) (size k : Nat) (hk : k < size) : (padTo b size).take (k + 1) = (padTo b size).take k ++ [b.getD k 0] := by
  rw [List.take_add_one]
  congr 1
  unfold padTo
  rw [List.getElem?_append]
  by_cases h : k < b.length
  · rw [if_pos (by rw [List.length_take]; omega), List.getElem?_take, if_pos hk, List.getD_eq_getElem?_getD, List.getElem?_eq_getElem h]
    rfl
  · rw [if_neg (by rw [List.length_take]; omega), List.getElem?_replicate, List.length_take, if_pos (by omega), List.getD_eq_getElem?_getD, List.getElem?_eq_none (by omega)]
    rfl
set_option maxRecDepth 100000 in
theorem rwraw_c (base : Nat) (w : World) (p : Nat) (l : List UInt8) (A : Option Addr) (n c : Nat) (b : List UInt8) (size : Nat) (hr : Reads w A n (b.map u8v)) (hn : n ≤ 100000) (hs : size ≤ 1000) (hp : base ≤ p) (hl : l.length ≤ 100000) (hap : 0 < n → ∀ a, A = some a → a.block < base) (h : WwAt base w p l) :
    Calls Tryz.prog 134 #[ptr p, .slice A n c, .int .i64 (size : Int)] w fun e w' => e = .returned (.tuple #[]) ∧ WwAt base w' p (l ++ padTo b size) ∧ Below base w w' := by
  obtain ⟨i0, hi, hz0, hz1, hz2⟩ := info_parts info_u8
  have HI := Lib.hid hi
  have HZ0 := Lib.hid hz0
  have HZ1 := Lib.hid hz1
  have HZ2 := Lib.hid hz2
  have H := Lib.hid h
  have hbl : b.length = n := by simpa using hr.len
  have hcut : ∀ W, Calls Tryz.prog 39 #[.int .i64 (size : Int), .int .i64 0, .int .i64 1000] W fun e w' => e = .returned (.int .i64 (size : Int)) ∧ W = w' := fun W => by
    refine (refcut_c (size : Int) 0 1000 W).mono ?_
    rintro e w' ⟨rfl, rfl⟩
    refine ⟨?_, rfl⟩
    congr 2
    rw [if_neg (by omega), if_neg (by omega)]
  have HCUT := Lib.hid hcut
  have HR := Lib.hid hr
  have HBL := Lib.hid hbl
  clear hi hz0 hz1 hz2 h hcut hr hbl
  go_enter Tryz.func134, Tryz.ntmps134
  go_wp2_with fail
  go_loopw [6] (fun i wr => ∃ (k : Nat), k ≤ size ∧ i = .int .i64 k ∧ WwAt base wr p (l ++ (padTo b size).take k) ∧ Below base w wr) (fun i _ => size - (intOf i).toNat)
  case atStart => exact ⟨0, by omega, rfl, by simpa using H.out, Below.refl _ _⟩
  case round =>
    clear H
    obtain ⟨k, hk, rfl, hwr, hb⟩ := hrel
    obtain ⟨A0, c0, hblk, hown⟩ := hwr
    have hlen : (l ++ (padTo b size).take k).length = l.length + k := by rw [List.length_append, List.length_take, padTo_len]; omega
    rw [hlen] at hblk hown
    have HBK := Lib.hid hblk
    have HO := Lib.hid hown
    have HB := Lib.hid hb
    have hbs := hb.size
    clear hb hlen
    by_cases hlt : k < size
    · have hc : wr.cell? ⟨p, 0, none⟩ = some (.slice A0 (l.length + k) c0) := by rw [hblk.cell]; rfl
      have hf := hblk.frozen 0
      have hne := own_blk_ne HO.out HBK.out (by decide)
      have hl1 := HO.out.lt
      have hlp := HBK.out.lt
      have hps := padTo_step b size k hlt
      obtain ⟨x, hx⟩ : ∃ x, b.getD k 0 = x := ⟨_, rfl⟩
      rw [hx] at hps
      have HPS := Lib.hid hps
      have hrd : Reads (wr.alloc (.cells #[u8v x] 5)) (some ⟨wr.heap.size, 0, none⟩) 1 (([x] : List UInt8).map u8v) := (Blk.new wr 5 #[u8v x]).reads 0 (by simp)
      have HRD := Lib.hid hrd
      have HX := Lib.hid hx
      clear hblk hown hps hrd hx
      by_cases hin : k < n
      · obtain ⟨b', o', u, e, hlt', hu, hcell0⟩ := HR.out.at_ hin
        subst e
        have hcell := (HB.out.cell (p := ⟨b', o' + k, none⟩) (hap (by omega) ⟨b', o', none⟩ rfl)).trans hcell0
        have hkl : k < b.length := by rw [HBL.out]; exact hin
        have hux : u8v x = u := by
          have h2 := HX.out
          rw [List.getElem?_map, List.getElem?_eq_getElem hkl] at hu
          rw [List.getD_eq_getElem?_getD, List.getElem?_eq_getElem hkl] at h2
          simp only [Option.getD_some] at h2
          rw [h2] at hu
          simpa using hu
        subst hux
        clear hu hcell0 hkl
        go_wp2_with (first | (go_at_call 39; refine (HCUT.out _).mono ?_; rintro e w' ⟨rfl, rfl⟩) | (at_builtin; refine wpList_append_any _ rfl (.tmp 26) (.tmp 28) _ rfl base 5 i0 (.int .u8 0) 1 Tryz.underlying22 HI.out HZ0.out HZ1.out HZ2.out rfl (.slice A0 (l.length + k) c0) (l.length + k) ((l ++ (padTo b size).take k).map u8v) rfl (own_only HO.out (Only.of_below (S := []) ((Below.refl _ wr).alloc (Nat.le_refl _) _)) (by simp)) (some ⟨wr.heap.size, 0, none⟩) 1 1 (([x] : List UInt8).map u8v) rfl HRD.out (u8v_one _) (by unfold maxLen; omega) (by omega) (by have := hlp; simp; omega) ?_; intro A2 c2 w2 hown2 hgrow2 hat2; have HBK2 := Lib.hid (Blk.grown (HBK.out.alloc _) hgrow2 (Ne.symm hne)); have hc2 : w2.cell? ⟨p, 0, none⟩ = some (.slice A0 (l.length + k) c0) := (by rw [HBK2.out.cell]; rfl); have hf2 := HBK2.out.frozen 0; have HO2 := Lib.hid hown2; have HB2 := Lib.hid (Below.grown (HB.out.alloc (B := base) (by omega) _) hgrow2 (by simp; omega) (fun g hg => (hl1 g hg).1)); clear hown2 hgrow2 hat2))
        go_roundw
        case rel => exact ⟨k + 1, by omega, by go_num, ww_put (by rw [HPS.out, ← List.append_assoc]) (by simp [padTo_len]; omega) HBK2.out HO2.out, HB2.out.setCell hp _⟩
        case measure => simp [intOf] <;> omega
      · have hx0 : x = 0 := by
          rw [← HX.out, List.getD_eq_getElem?_getD, List.getElem?_eq_none (by rw [HBL.out]; omega)]
          rfl
        subst hx0
        go_wp2_with (first | (go_at_call 39; refine (HCUT.out _).mono ?_; rintro e w' ⟨rfl, rfl⟩) | (at_builtin; refine wpList_append_any _ rfl (.tmp 26) (.tmp 28) _ rfl base 5 i0 (.int .u8 0) 1 Tryz.underlying22 HI.out HZ0.out HZ1.out HZ2.out rfl (.slice A0 (l.length + k) c0) (l.length + k) ((l ++ (padTo b size).take k).map u8v) rfl (own_only HO.out (Only.of_below (S := []) ((Below.refl _ wr).alloc (Nat.le_refl _) _)) (by simp)) (some ⟨wr.heap.size, 0, none⟩) 1 1 (([0] : List UInt8).map u8v) rfl HRD.out (u8v_one _) (by unfold maxLen; omega) (by omega) (by have := hlp; simp; omega) ?_; intro A2 c2 w2 hown2 hgrow2 hat2; have HBK2 := Lib.hid (Blk.grown (HBK.out.alloc _) hgrow2 (Ne.symm hne)); have hc2 : w2.cell? ⟨p, 0, none⟩ = some (.slice A0 (l.length + k) c0) := (by rw [HBK2.out.cell]; rfl); have hf2 := HBK2.out.frozen 0; have HO2 := Lib.hid hown2; have HB2 := Lib.hid (Below.grown (HB.out.alloc (B := base) (by omega) _) hgrow2 (by simp; omega) (fun g hg => (hl1 g hg).1)); clear hown2 hgrow2 hat2))
        go_roundw
        case rel => exact ⟨k + 1, by omega, by go_num, ww_put (by rw [HPS.out, ← List.append_assoc]) (by simp [padTo_len]; omega) HBK2.out HO2.out, HB2.out.setCell hp _⟩
        case measure => simp [intOf] <;> omega
    · obtain rfl : k = size := by omega
      go_wp2_with (go_at_call 39; refine (HCUT.out _).mono ?_; rintro e w' ⟨rfl, rfl⟩)
      go_end0
      have e : (padTo b k).take k = padTo b k := List.take_of_length_le (by rw [padTo_len]; exact Nat.le_refl _)
      have h2 := HO.out
      rw [e] at h2
      refine ⟨rfl, ⟨A0, c0, ?_, ?_⟩, HB.out⟩
      · rw [List.length_append, padTo_len]; exact HBK.out
      · rw [List.length_append, padTo_len]; exact h2
end Go.Proofs.YtpafenlcgcenlaaGreatDoor
