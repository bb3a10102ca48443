/- The reference: Writer's Num and Raw, Dual, PutCell. -/
import Derived.Test.YtlchlcjahndjgaaGreatRfJ
import Derived.Laws.Bits64b
namespace Go.Proofs.YtlchlcjahndjgaaGreat
open Go.RowKit
set_option linter.unusedVariables false
set_option linter.unusedSimpArgs false
theorem rbe_val (N j : Nat) (hN : N < 18446744073709551616) : bits .and .u64 ((N : Int) / 2 ^ (8 * j)) 255 % 256 = (((UInt8.ofNat (N / 256 ^ j)).toNat : Nat) : Int) := by
  have e : ((N : Int) / 2 ^ (8 * j)) = ((N / 256 ^ j : Nat) : Int) := by
    rw [Int.natCast_ediv, Int.pow_mul]
    norm_cast
  have hlt : N / 256 ^ j < 18446744073709551616 := Nat.lt_of_le_of_lt (Nat.div_le_self _ _) hN
  have h := bits_and_u64_nat (N / 256 ^ j) 255 hlt (by omega)
  rw [e, show (255 : Int) = ((255 : Nat) : Int) from rfl, h, UInt8.toNat_ofNat', show (255 : Nat) = 2 ^ 8 - 1 from rfl, Nat.and_two_pow_sub_one_eq_mod]
  omega
/-- The reference's writer that has written l. -/
def WwAt (base : Nat) (w : World) (p : Nat) (l : List UInt8) : Prop :=
  ∃ A c, Blk w p 103 #[.slice A l.length c] ∧ w.ownsRow base 5 1 (.slice A l.length c) l.length (l.map u8v)
theorem WwAt.lt {base : Nat} {w : World} {p : Nat} {l : List UInt8} (h : WwAt base w p l) : p < w.heap.size := by obtain ⟨A, c, hb, -⟩ := h; exact hb.lt
theorem WwAt.below {base : Nat} {w w' : World} {p : Nat} {l : List UInt8} (h : WwAt base w p l) (hb : Below w.heap.size w w') : WwAt base w' p l := by
  obtain ⟨A, c, h1, h2⟩ := h
  exact ⟨A, c, h1.below hb h1.lt, own_only h2 (Only.of_below (S := []) hb) (by simp)⟩
theorem ww_put {base : Nat} {w : World} {p n c c2 : Nat} {A A2 : Option Addr} {xs l : List UInt8} {x : UInt8} (e : l = xs ++ [x]) (hn : xs.length = n) (hb : Blk w p 103 #[.slice A n c])
    (ho : w.ownsRow base 5 1 (.slice A2 (n + 1) c2) (n + 1) (xs.map u8v ++ [x].map u8v)) : WwAt base (w.setCell ⟨p, 0, none⟩ (.slice A2 (n + 1) c2)) p l := by
  subst e
  have hne := own_blk_ne ho hb (by decide)
  have hl : (xs ++ [x]).length = n + 1 := by simp [hn]
  refine ⟨A2, c2, ?_, ?_⟩
  · rw [hl]; exact hb.set_ 0 _
  · rw [hl, List.map_append]
    refine own_only ho (S := [p]) ((Only.refl _ _).setCell (.inl (by simp)) _) fun k hk => ?_
    simp
    rintro rfl
    exact hne hk
set_option maxRecDepth 100000 in
theorem rwnum_c (base : Nat) (w : World) (p : Nat) (l : List UInt8) (n : Int) (N : Nat) (size : Nat) (hN : IntKind.u64.wrap n = (N : Int)) (hN2 : N < 18446744073709551616) (hs : size ≤ 8) (hs1 : 1 ≤ size) (hp : base ≤ p) (hl : l.length ≤ 100000) (h : WwAt base w p l) :
    Calls Tryz.prog 77 #[ptr p, .int .i64 n, .int .i64 (size : Int)] w fun e w' => e = .returned (.tuple #[]) ∧ WwAt base w' p (l ++ be N size) ∧ Below base w w' := by
  obtain ⟨i0, hi, hz0, hz1, hz2⟩ := info_parts info_u8
  have HI := Lib.hid hi
  have HZ0 := Lib.hid hz0
  have HZ1 := Lib.hid hz1
  have HZ2 := Lib.hid hz2
  have H := Lib.hid h
  have hcut : ∀ W, Calls Tryz.prog 29 #[.int .i64 (size : Int), .int .i64 0, .int .i64 8] W fun e w' => e = .returned (.int .i64 (size : Int)) ∧ W = w' := fun W => by
    refine (refcut_c (size : Int) 0 8 W).mono ?_
    rintro e w' ⟨rfl, rfl⟩
    refine ⟨?_, rfl⟩
    congr 2
    rw [if_neg (by omega), if_neg (by omega)]
  have hlt0 := h.lt
  have HCUT := Lib.hid hcut
  clear hi hz0 hz1 hz2 h hcut
  go_enter Tryz.func77, Tryz.ntmps77
  go_wp2_with (go_at_call 29; refine (HCUT.out _).mono ?_; rintro e w' ⟨rfl, rfl⟩)
  go_loopw [6] (fun i wr => ∃ (k : Nat) (v : Int), k ≤ size ∧ v = (size : Int) - 1 - k ∧ i = .int .i64 v ∧ WwAt base wr p (l ++ (be N size).take k) ∧ Below base w wr) (fun i _ => (intOf i + 1).toNat)
  case atStart => exact ⟨0, (size : Int) - 1, by omega, by omega, rfl, by simpa using H.out, Below.refl _ _⟩
  case round =>
    clear H
    obtain ⟨k, v, hk, hv, rfl, hwr, hb⟩ := hrel
    obtain ⟨A, c, hblk, hown⟩ := hwr
    have hlen : (l ++ (be N size).take k).length = l.length + k := by rw [List.length_append, List.length_take, be_len]; omega
    rw [hlen] at hblk hown
    have HBK := Lib.hid hblk
    have HO := Lib.hid hown
    have HB := Lib.hid hb
    have hbs := hb.size
    clear hb hlen
    by_cases hlt : k < size
    · have hc : wr.cell? ⟨p, 0, none⟩ = some (.slice A (l.length + k) c) := by rw [hblk.cell]; rfl
      have hf := hblk.frozen 0
      obtain ⟨j, rfl⟩ : ∃ j : Nat, v = j := ⟨v.toNat, by omega⟩
      have HJ := Lib.hid (show j = size - 1 - k by omega)
      have hj8 : j < 8 := by omega
      have e1 : IntKind.i64.wrap (8 * (j : Int)) = 8 * j := IntWalk.i64_in _ (by omega)
      have e2 : (0 : Int) ≤ 8 * (j : Int) := by omega
      clear hblk hown hv
      obtain ⟨x, hx⟩ : ∃ x, UInt8.ofNat (N / 256 ^ j) = x := ⟨_, rfl⟩
      have hval : bits .and .u64 ((N : Int) / 2 ^ (8 * (j : Int)).toNat) 255 % 256 = ((x.toNat : Nat) : Int) := by
        rw [← hx, show (8 * (j : Int)).toNat = 8 * j by omega]
        exact rbe_val N j hN2
      have HX := Lib.hid hx
      have hrd : ∀ W : World, Reads (W.alloc (.cells #[.int .u8 (bits .and .u64 ((N : Int) / 2 ^ (8 * (j : Int)).toNat) 255 % 256)] 5)) (some ⟨W.heap.size, 0, none⟩) 1 (([x] : List UInt8).map u8v) := fun W => by
        rw [hval]
        exact (Blk.new W 5 #[u8v x]).reads 0 (by simp)
      have HRD := Lib.hid hrd
      clear hx hval hrd
      have hne := own_blk_ne HO.out HBK.out (by decide)
      have hl1 := HO.out.lt
      have hlp := HBK.out.lt
      go_wp2_with (at_builtin; refine wpList_append_any _ rfl (.tmp 18) (.tmp 27) _ rfl base 5 i0 (.int .u8 0) 1 Tryz.underlying34 HI.out HZ0.out HZ1.out HZ2.out rfl (.slice A (l.length + k) c) (l.length + k) ((l ++ (be N size).take k).map u8v) rfl (own_only HO.out (Only.of_below (S := []) ((Below.refl _ wr).alloc (Nat.le_refl _) _)) (by simp)) (some ⟨wr.heap.size, 0, none⟩) 1 1 (([x] : List UInt8).map u8v) rfl (HRD.out wr) (u8v_one _) (by unfold maxLen; omega) (by omega) (by have := hlp; simp; omega) ?_; intro A2 c2 w2 hown2 hgrow2 hat2; have HBK2 := Lib.hid (Blk.grown (HBK.out.alloc _) hgrow2 (Ne.symm hne)); have hc2 : w2.cell? ⟨p, 0, none⟩ = some (.slice A (l.length + k) c) := (by rw [HBK2.out.cell]; rfl); have hf2 := HBK2.out.frozen 0; have HO2 := Lib.hid hown2; have HB2 := Lib.hid (Below.grown (HB.out.alloc (B := base) (by omega) _) hgrow2 (by simp; omega) (fun g hg => (hl1 g hg).1)); clear hown2 hgrow2 hat2)
      go_roundw
      case rel => exact ⟨k + 1, (j : Int) - 1, by omega, by have := HJ.out; omega, by go_num, ww_put (by rw [be_step N size k hlt, ← List.append_assoc, ← HJ.out, HX.out]) (by simp [be_len]; omega) HBK2.out HO2.out, HB2.out.setCell hp _⟩
      case measure => simp [intOf] <;> omega
    · obtain rfl : k = size := by omega
      have hv2 : v = -1 := by omega
      subst hv2
      go_wp2_with fail
      go_end0
      have e : (be N k).take k = be N k := List.take_of_length_le (by rw [be_len]; exact Nat.le_refl _)
      have h2 := HO.out
      rw [e] at h2
      refine ⟨rfl, ⟨A, c, ?_, ?_⟩, HB.out⟩
      · rw [List.length_append, be_len]; exact HBK.out
      · rw [List.length_append, be_len]; exact h2
theorem padTo_step (b : List UInt8) (size k : Nat) (hk : k < size) : (padTo b size).take (k + 1) = (padTo b size).take k ++ [b.getD k 0] := by
  rw [List.take_add_one]
  congr 1
  unfold padTo
  rw [List.getElem?_append]
  by_cases h : k < b.length
  · rw [if_pos (by rw [List.length_take]; omega), List.getElem?_take, if_pos hk, List.getD_eq_getElem?_getD, List.getElem?_eq_getElem h]
    rfl
  · rw [if_neg (by rw [List.length_take]; omega), List.getElem?_replicate, List.length_take, if_pos (by omega), List.getD_eq_getElem?_getD, List.getElem?_eq_none (by omega)]
    rfl
set_option maxRecDepth 100000 in
theorem rwraw_c (base : Nat) (w : World) (p : Nat) (l : List UInt8) (A : Option Addr) (n c : Nat) (b : List UInt8) (size : Nat) (hr : Reads w A n (b.map u8v)) (hn : n ≤ 100000) (hs : size ≤ 1000) (hp : base ≤ p) (hl : l.length ≤ 100000) (hap : 0 < n → ∀ a, A = some a → a.block < base) (h : WwAt base w p l) :
    Calls Tryz.prog 78 #[ptr p, .slice A n c, .int .i64 (size : Int)] w fun e w' => e = .returned (.tuple #[]) ∧ WwAt base w' p (l ++ padTo b size) ∧ Below base w w' := by
  obtain ⟨i0, hi, hz0, hz1, hz2⟩ := info_parts info_u8
  have HI := Lib.hid hi
  have HZ0 := Lib.hid hz0
  have HZ1 := Lib.hid hz1
  have HZ2 := Lib.hid hz2
  have H := Lib.hid h
  have hbl : b.length = n := by simpa using hr.len
  have hcut : ∀ W, Calls Tryz.prog 29 #[.int .i64 (size : Int), .int .i64 0, .int .i64 1000] W fun e w' => e = .returned (.int .i64 (size : Int)) ∧ W = w' := fun W => by
    refine (refcut_c (size : Int) 0 1000 W).mono ?_
    rintro e w' ⟨rfl, rfl⟩
    refine ⟨?_, rfl⟩
    congr 2
    rw [if_neg (by omega), if_neg (by omega)]
  have HCUT := Lib.hid hcut
  have HR := Lib.hid hr
  have HBL := Lib.hid hbl
  clear hi hz0 hz1 hz2 h hcut hr hbl
  go_enter Tryz.func78, Tryz.ntmps78
  go_wp2_with fail
  go_loopw [6] (fun i wr => ∃ (k : Nat), k ≤ size ∧ i = .int .i64 k ∧ WwAt base wr p (l ++ (padTo b size).take k) ∧ Below base w wr) (fun i _ => size - (intOf i).toNat)
  case atStart => exact ⟨0, by omega, rfl, by simpa using H.out, Below.refl _ _⟩
  case round =>
    clear H
    obtain ⟨k, hk, rfl, hwr, hb⟩ := hrel
    obtain ⟨A0, c0, hblk, hown⟩ := hwr
    have hlen : (l ++ (padTo b size).take k).length = l.length + k := by rw [List.length_append, List.length_take, padTo_len]; omega
    rw [hlen] at hblk hown
    have HBK := Lib.hid hblk
    have HO := Lib.hid hown
    have HB := Lib.hid hb
    have hbs := hb.size
    clear hb hlen
    by_cases hlt : k < size
    · have hc : wr.cell? ⟨p, 0, none⟩ = some (.slice A0 (l.length + k) c0) := by rw [hblk.cell]; rfl
      have hf := hblk.frozen 0
      have hne := own_blk_ne HO.out HBK.out (by decide)
      have hl1 := HO.out.lt
      have hlp := HBK.out.lt
      have hps := padTo_step b size k hlt
      obtain ⟨x, hx⟩ : ∃ x, b.getD k 0 = x := ⟨_, rfl⟩
      rw [hx] at hps
      have HPS := Lib.hid hps
      have hrd : Reads (wr.alloc (.cells #[u8v x] 5)) (some ⟨wr.heap.size, 0, none⟩) 1 (([x] : List UInt8).map u8v) := (Blk.new wr 5 #[u8v x]).reads 0 (by simp)
      have HRD := Lib.hid hrd
      have HX := Lib.hid hx
      clear hblk hown hps hrd hx
      by_cases hin : k < n
      · obtain ⟨b', o', u, e, hlt', hu, hcell0⟩ := HR.out.at_ hin
        subst e
        have hcell := (HB.out.cell (p := ⟨b', o' + k, none⟩) (hap (by omega) ⟨b', o', none⟩ rfl)).trans hcell0
        have hkl : k < b.length := by rw [HBL.out]; exact hin
        have hux : u8v x = u := by
          have h2 := HX.out
          rw [List.getElem?_map, List.getElem?_eq_getElem hkl] at hu
          rw [List.getD_eq_getElem?_getD, List.getElem?_eq_getElem hkl] at h2
          simp only [Option.getD_some] at h2
          rw [h2] at hu
          simpa using hu
        subst hux
        clear hu hcell0 hkl
        go_wp2_with (first | (go_at_call 29; refine (HCUT.out _).mono ?_; rintro e w' ⟨rfl, rfl⟩) | (at_builtin; refine wpList_append_any _ rfl (.tmp 26) (.tmp 28) _ rfl base 5 i0 (.int .u8 0) 1 Tryz.underlying34 HI.out HZ0.out HZ1.out HZ2.out rfl (.slice A0 (l.length + k) c0) (l.length + k) ((l ++ (padTo b size).take k).map u8v) rfl (own_only HO.out (Only.of_below (S := []) ((Below.refl _ wr).alloc (Nat.le_refl _) _)) (by simp)) (some ⟨wr.heap.size, 0, none⟩) 1 1 (([x] : List UInt8).map u8v) rfl HRD.out (u8v_one _) (by unfold maxLen; omega) (by omega) (by have := hlp; simp; omega) ?_; intro A2 c2 w2 hown2 hgrow2 hat2; have HBK2 := Lib.hid (Blk.grown (HBK.out.alloc _) hgrow2 (Ne.symm hne)); have hc2 : w2.cell? ⟨p, 0, none⟩ = some (.slice A0 (l.length + k) c0) := (by rw [HBK2.out.cell]; rfl); have hf2 := HBK2.out.frozen 0; have HO2 := Lib.hid hown2; have HB2 := Lib.hid (Below.grown (HB.out.alloc (B := base) (by omega) _) hgrow2 (by simp; omega) (fun g hg => (hl1 g hg).1)); clear hown2 hgrow2 hat2))
        go_roundw
        case rel => exact ⟨k + 1, by omega, by go_num, ww_put (by rw [HPS.out, ← List.append_assoc]) (by simp [padTo_len]; omega) HBK2.out HO2.out, HB2.out.setCell hp _⟩
        case measure => simp [intOf] <;> omega
      · have hx0 : x = 0 := by
          rw [← HX.out, List.getD_eq_getElem?_getD, List.getElem?_eq_none (by rw [HBL.out]; omega)]
          rfl
        subst hx0
        go_wp2_with (first | (go_at_call 29; refine (HCUT.out _).mono ?_; rintro e w' ⟨rfl, rfl⟩) | (at_builtin; refine wpList_append_any _ rfl (.tmp 26) (.tmp 28) _ rfl base 5 i0 (.int .u8 0) 1 Tryz.underlying34 HI.out HZ0.out HZ1.out HZ2.out rfl (.slice A0 (l.length + k) c0) (l.length + k) ((l ++ (padTo b size).take k).map u8v) rfl (own_only HO.out (Only.of_below (S := []) ((Below.refl _ wr).alloc (Nat.le_refl _) _)) (by simp)) (some ⟨wr.heap.size, 0, none⟩) 1 1 (([0] : List UInt8).map u8v) rfl HRD.out (u8v_one _) (by unfold maxLen; omega) (by omega) (by have := hlp; simp; omega) ?_; intro A2 c2 w2 hown2 hgrow2 hat2; have HBK2 := Lib.hid (Blk.grown (HBK.out.alloc _) hgrow2 (Ne.symm hne)); have hc2 : w2.cell? ⟨p, 0, none⟩ = some (.slice A0 (l.length + k) c0) := (by rw [HBK2.out.cell]; rfl); have hf2 := HBK2.out.frozen 0; have HO2 := Lib.hid hown2; have HB2 := Lib.hid (Below.grown (HB.out.alloc (B := base) (by omega) _) hgrow2 (by simp; omega) (fun g hg => (hl1 g hg).1)); clear hown2 hgrow2 hat2))
        go_roundw
        case rel => exact ⟨k + 1, by omega, by go_num, ww_put (by rw [HPS.out, ← List.append_assoc]) (by simp [padTo_len]; omega) HBK2.out HO2.out, HB2.out.setCell hp _⟩
        case measure => simp [intOf] <;> omega
    · obtain rfl : k = size := by omega
      go_wp2_with (go_at_call 29; refine (HCUT.out _).mono ?_; rintro e w' ⟨rfl, rfl⟩)
      go_end0
      have e : (padTo b k).take k = padTo b k := List.take_of_length_le (by rw [padTo_len]; exact Nat.le_refl _)
      have h2 := HO.out
      rw [e] at h2
      refine ⟨rfl, ⟨A0, c0, ?_, ?_⟩, HB.out⟩
      · rw [List.length_append, padTo_len]; exact HBK.out
      · rw [List.length_append, padTo_len]; exact h2
set_option maxRecDepth 100000 in
theorem rdual_c (w : World) (A : Option Addr) (n c : Nat) (l : List UInt8) (hr : Reads w A n (l.map u8v)) (hn : n ≤ 1000000) :
    Calls Tryz.prog 79 #[.slice A n c] w fun e w' => ∃ A' c', e = .returned (.slice A' (2 * n) c') ∧ w'.ownsRow w.heap.size 5 1 (.slice A' (2 * n) c') (2 * n) ((dualP l).map u8v) ∧ Below w.heap.size w w' := by
  obtain ⟨i0, hi, hz0, hz1, hz2⟩ := info_parts info_u8
  have HI := Lib.hid hi
  have HZ0 := Lib.hid hz0
  have HZ1 := Lib.hid hz1
  have HZ2 := Lib.hid hz2
  have hl : l.length = n := by simpa using hr.len
  have HL := Lib.hid hl
  have HR := Lib.hid hr
  clear hi hz0 hz1 hz2 hl hr
  go_enter Tryz.func79, Tryz.ntmps79
  go_wp2_with fail
  go_loopw [3, 4] (fun s i wr => ∃ (k : Nat) (A' : Option Addr) (c' : Nat), k ≤ n ∧ s = .slice A' (2 * k) c' ∧ i = .int .i64 k ∧ wr.ownsRow w.heap.size 5 1 (.slice A' (2 * k) c') (2 * k) ((dualP (l.take k)).map u8v) ∧ Below w.heap.size w wr) (fun _ i _ => n - (intOf i).toNat)
  case atStart => exact ⟨0, none, 0, by omega, rfl, rfl, World.ownsRow_nil _ _ _ _, Below.refl _ _⟩
  case round =>
    obtain ⟨k, A', c', hk, rfl, rfl, hown, hb⟩ := hrel
    have HO := Lib.hid hown
    have HB := Lib.hid hb
    clear hown hb
    by_cases hlt : k < n
    · obtain ⟨b', o', u, e, -, hu, hcell⟩ := (HR.out.below HB.out).at_ hlt
      subst e
      have hkl : k < l.length := by rw [HL.out]; exact hlt
      rw [List.getElem?_map, List.getElem?_eq_getElem hkl] at hu
      obtain rfl : u8v l[k] = u := by simpa using hu
      obtain ⟨x, hx⟩ : ∃ x, l[k] = x := ⟨_, rfl⟩
      rw [hx] at hcell
      obtain ⟨nx, hnx⟩ : ∃ nx, x ^^^ 255 = nx := ⟨_, rfl⟩
      have hnot : bits .xor .u8 (x.toNat : Int) 255 = (nx.toNat : Int) := hnx ▸ u8_xortn x
      have HX := Lib.hid hnx
      have HX2 := Lib.hid hx
      have hrd : ∀ W : World, Reads (W.alloc (.cells #[u8v x, .int .u8 (bits .xor .u8 (x.toNat : Int) 255)] 5)) (some ⟨W.heap.size, 0, none⟩) 2 (([x, nx] : List UInt8).map u8v) := fun W => by
        rw [hnot]
        exact (Blk.new W 5 #[u8v x, u8v nx]).reads 0 (by simp)
      have HRD := Lib.hid hrd
      clear hnx hnot hx hrd hu
      have hbs := HB.out.size
      have hl1 := HO.out.lt
      go_upto_region 5 with fail
      go_region_law (first
        | (refine step_append_any _ (by rfl) (.tmp 11) (.tmp 21) 34 (by rfl) w.heap.size 5 i0 (.int .u8 0) 1 Tryz.underlying34 HI.out HZ0.out HZ1.out HZ2.out (by rfl) (.slice A' (2 * k) c') (2 * k) ((dualP (l.take k)).map u8v) (by rfl) (own_only HO.out (Only.of_below (S := []) (by first | exact ((Below.refl _ wr).alloc (Nat.le_refl _) _).drew | exact ((Below.refl _ wr).drew.alloc (Nat.le_refl _) _))) (by simp)) (some ⟨wr.heap.size, 0, none⟩) 2 2 (([x, nx] : List UInt8).map u8v) (by rfl) (by first | exact (HRD.out wr).drew | exact HRD.out wr.drew) (u8v_one _) (by unfold maxLen; omega) (by omega) (by simp; omega) ?_; intro A2 c2 w2 hown2 hgrow2 hat2
           have HO2 := Lib.hid hown2
           have HB2 := Lib.hid (Below.grown (by first | exact (HB.out.alloc hbs _).drew | exact HB.out.drew.alloc hbs _) hgrow2 (by simp; omega) (fun g hg => (hl1 g hg).1))
           clear hown2 hgrow2 hat2))
      all_goals
        go_wp2_with fail
        go_roundw
        case rel =>
          refine ⟨k + 1, A2, c2, by omega, ?_, by go_num, ?_, HB2.out⟩
          · rw [show 2 * (k + 1) = 2 * k + 2 by omega]
          · rw [dualP_step l k hkl, HX2.out, HX.out, List.map_append, show 2 * (k + 1) = 2 * k + 2 by omega]
            exact HO2.out
        case measure => simp [intOf]; omega
    · obtain rfl : k = n := by omega
      go_wp2_with fail
      go_ret
      have h := HO.out
      rw [List.take_of_length_le (by rw [HL.out]; exact Nat.le_refl _)] at h
      exact ⟨A', c', rfl, h, HB.out⟩
end Go.Proofs.YtlchlcjahndjgaaGreat
