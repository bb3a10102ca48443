/- dual.Put and dual.Get. · field.NewReader; field.Reader: take, Num, Raw. · field.Writer: Num, Raw, Bytes. -/
import Derived.Test.YtpafenlcgcenlaaGreatDoorBase
import Derived.Test.YtpafenlcgcenlaaGreatDoorNorQ
import Derived.Laws.Shifts
import Derived.Laws.Bits64b
import Derived.Deep.RegionLaw
import Derived.Laws.CopyOwn
namespace Go.Proofs.YtpafenlcgcenlaaGreatDoor
open Go.RowKit
set_option linter.unusedVariables false
set_option linter.unusedSimpArgs false
end Go.Proofs.YtpafenlcgcenlaaGreatDoor
namespace Go.Proofs.YtpafenlcgcenlaaGreatDoor
open Go.RowKit
set_option linter.unusedVariables false
set_option linter.unusedSimpArgs false
/-- A reader that has l left. -/
def RdAt (w : World) (p : Nat) (l : List UInt8) (bad : Bool) : Prop :=
  ∃ A n c, Blk w p 194 #[.slice A n c, .bool bad] ∧ Reads w A n (l.map u8v) ∧ n ≤ c ∧ c ≤ maxLen ∧ ∀ a, A = some a → a.block < p
theorem RdAt.lt {w : World} {p : Nat} {l : List UInt8} {bad : Bool} (h : RdAt w p l bad) : p < w.heap.size := by obtain ⟨A, n, c, hb, -⟩ := h; exact hb.lt
theorem RdAt.below {w w' : World} {p : Nat} {l : List UInt8} {bad : Bool} (h : RdAt w p l bad) (hb : Below w.heap.size w w') : RdAt w' p l bad := by
  obtain ⟨A, n, c, h1, h2, h3, h4, h5⟩ := h
  exact ⟨A, n, c, h1.below hb h1.lt, h2.below hb, h3, h4, h5⟩
theorem RdAt.only {S : List Nat} {w w' : World} {p : Nat} {l : List UInt8} {bad : Bool} (h : RdAt w p l bad) (ho : Only S w w') (hS : ∀ k ∈ S, p < k) : RdAt w' p l bad := by
  obtain ⟨A, n, c, h1, h2, h3, h4, h5⟩ := h
  refine ⟨A, n, c, h1.only ho (fun hk => absurd (hS _ hk) (Nat.lt_irrefl _)), h2.only ho (fun a ha hk => absurd (hS _ hk) (Nat.not_lt.2 (Nat.le_of_lt (h5 a ha)))), h3, h4, h5⟩
/-- What a reader yields, what is left, and whether it is bad then. -/
def rdT (l : List UInt8) (bad : Bool) (n : Nat) : List UInt8 := if bad = true ∨ l.length < n then [] else l.take n
def rdL (l : List UInt8) (bad : Bool) (n : Nat) : List UInt8 := if bad = true then l else if l.length < n then [] else l.drop n
def rdB (l : List UInt8) (bad : Bool) (n : Nat) : Bool := bad || decide (l.length < n)
theorem rdT_len (l : List UInt8) (bad : Bool) (n : Nat) : (rdT l bad n).length ≤ n := by unfold rdT; split <;> simp; omega
theorem own_cap {w : World} {base : Nat} {e : TypeId} {n c : Nat} {A : Option Addr} {xs : List Value} (h : w.ownsRow base e 1 (.slice A n c) n xs) : n ≤ c ∧ c ≤ maxLen := by
  rcases h.2 with ⟨h1, h2⟩ | ⟨g, cap, cur, h1, -, -, h3, h4, -⟩
  · injection h1 with _ _ h1
    subst h1 h2
    exact ⟨Nat.le_refl _, Nat.zero_le _⟩
  · injection h1 with _ _ h1
    subst h1
    exact ⟨h3, h4⟩
theorem newReader_c (w : World) (A : Option Addr) (n c : Nat) (l : List UInt8) (hr : Reads w A n (l.map u8v)) (hn : n ≤ 100000) :
    Calls Tryz.prog 119 #[.slice A n c] w fun e w' => ∃ p, e = .returned (ptr p) ∧ w.heap.size ≤ p ∧ RdAt w' p l false ∧ Below w.heap.size w w' := by
  have HR := Lib.hid hr
  clear hr
  go_enter Tryz.func119, Tryz.ntmps119
  go_wp2_with (go_at_call 25; refine (clone_n _ A n c l HR.out (by omega)).mono ?_; rintro e w2 ⟨A2, c2, rfl, hown2, hb2⟩)
  go_ret
  have hbs := hb2.size
  have hlt := hown2.lt
  have hcap : l.length ≤ c2 ∧ c2 ≤ maxLen := own_cap hown2
  refine ⟨w2.heap.size, rfl, hbs, ⟨A2, l.length, c2, Blk.new w2 194 #[.slice A2 l.length c2, .bool false], (Reads.of_own hown2).alloc _, hcap.1, hcap.2, fun a ha => ?_⟩, hb2.alloc hbs _⟩
  subst ha
  have := (hlt a.block rfl).2
  omega
set_option maxRecDepth 100000 in
theorem take_c (w : World) (p n : Nat) (l : List UInt8) (bad : Bool) (h : RdAt w p l bad) (hn : n ≤ 100000) :
    Calls Tryz.prog 155 #[ptr p, .int .i64 (n : Int)] w fun e w' => ∃ A c, e = .returned (.slice A (rdT l bad n).length c) ∧ (rdT l bad n).length ≤ c ∧ Reads w' A (rdT l bad n).length ((rdT l bad n).map u8v) ∧ RdAt w' p (rdL l bad n) (rdB l bad n) ∧ Only [p] w w' := by
  obtain ⟨A, m, c, hb, hr, hmc, hcm, hap0⟩ := h
  have hap : ∀ a, A = some a → a.block ≠ p := fun a ha => Nat.ne_of_lt (hap0 a ha)
  have hm : l.length = m := by simpa using hr.len
  have c0 : w.cell? ⟨p, 0, none⟩ = some (.slice A m c) := (hb.cell 0).trans rfl
  have c1 : w.cell? ⟨p, 1, none⟩ = some (.bool bad) := (hb.cell 1).trans rfl
  have f0 := hb.frozen 0
  have f1 := hb.frozen 1
  have HB := Lib.hid hb
  have HR := Lib.hid hr
  clear hb hr
  cases bad with
  | true =>
    go_enter Tryz.func155, Tryz.ntmps155
    go_wp2
    go_ret
    exact ⟨none, 0, rfl, Nat.le_refl _, Reads.none_ _, ⟨A, m, c, HB.out, HR.out, hmc, hcm, hap0⟩, Only.refl _ _⟩
  | false =>
    by_cases hlt : m < n
    · have hi : (m : Int) < (n : Int) := by omega
      go_enter Tryz.func155, Tryz.ntmps155
      go_wp2
      go_ret
      have hl : l.length < n := by omega
      have e1 : rdT l false n = [] := by simp [rdT, hl]
      have e2 : rdL l false n = [] := by simp [rdL, hl]
      have e3 : rdB l false n = true := by simp [rdB, hl]
      rw [e1, e2, e3]
      exact ⟨none, 0, rfl, Nat.le_refl _, Reads.none_ _, ⟨none, 0, 0, (HB.out.set_ 0 _).set_ 1 _, Reads.none_ _, Nat.le_refl _, Nat.zero_le _, fun a ha => by cases ha⟩, ((Only.refl _ _).setCell (.inl (by simp)) _).setCell (.inl (by simp)) _⟩
    · have hi : ¬ (m : Int) < (n : Int) := by omega
      have hl : ¬ l.length < n := by omega
      have e1 : rdT l false n = l.take n := by simp [rdT, hl]
      have e2 : rdL l false n = l.drop n := by simp [rdL, hl]
      have e3 : rdB l false n = false := by simp [rdB, hl]
      have e4 : (l.take n).length = n := by rw [List.length_take]; omega
      rw [e1, e2, e3, e4]
      have hd := HR.out.drop (k := n) (cap := c) (by omega) hmc
      have ht := HR.out.take (k := n) (by omega)
      rw [← List.map_drop] at hd
      have HD := Lib.hid hd
      have HT := Lib.hid ht
      clear hd ht e1 e2 e3 e4 hl
      by_cases hcn : c = n
      · go_enter Tryz.func155, Tryz.ntmps155
        go_wp2
        go_ret
        have hd := HD.out
        rw [if_pos hcn] at hd
        have e : c - n = 0 := by omega
        exact ⟨A, _, rfl, by omega, HT.out.setCell hap _, ⟨A, m - n, 0, HB.out.set_ 0 _, hd.setCell hap _, by omega, Nat.zero_le _, hap0⟩, (Only.refl _ _).setCell (.inl (by simp)) _⟩
      · go_enter Tryz.func155, Tryz.ntmps155
        go_wp2
        go_ret
        have hd := HD.out
        rw [if_neg hcn] at hd
        have hap3 : ∀ a, Option.map (fun x => x.add n) A = some a → a.block < p := by
          intro a ha
          rcases A with _ | a0
          · cases ha
          · have e : a = a0.add n := by simpa using ha.symm
            rw [e, block_of_add]
            exact hap0 a0 rfl
        have hap2 : ∀ a, Option.map (fun x => x.add n) A = some a → a.block ≠ p := fun a ha => Nat.ne_of_lt (hap3 a ha)
        exact ⟨A, _, rfl, by omega, HT.out.setCell hap _, ⟨_, m - n, c - n, HB.out.set_ 0 _, hd.setCell hap2 _, by omega, by omega, hap3⟩, (Only.refl _ _).setCell (.inl (by simp)) _⟩
/-- The number that bytes tell, the highest first. -/
def ofBe (l : List UInt8) : Nat := l.foldl (fun a c => a * 256 + c.toNat) 0
theorem ofBe_snoc (l : List UInt8) (c : UInt8) : ofBe (l ++ [c]) = ofBe l * 256 + c.toNat := by unfold ofBe; rw [List.foldl_append]; rfl
theorem ofBe_step (l : List UInt8) (k : Nat) (hk : k < l.length) : ofBe (l.take (k + 1)) = ofBe (l.take k) * 256 + l[k].toNat := by
  rw [List.take_add_one, List.getElem?_eq_getElem hk]
  exact ofBe_snoc _ _
theorem ofBe_lt (l : List UInt8) (k : Nat) (hk : k ≤ l.length) : ofBe (l.take k) < 256 ^ k := by
  induction k with
  | zero => simp [ofBe]
  | succ k ih =>
    rw [ofBe_step l k (by omega)]
    have h1 := ih (by omega)
    have h2 := l[k].toNat_lt
    rw [Nat.pow_succ]
    omega
set_option maxRecDepth 100000 in
theorem rraw_c (w : World) (p size : Nat) (l : List UInt8) (bad : Bool) (h : RdAt w p l bad) (hs : size ≤ 1000) (hs1 : 1 ≤ size) :
    Calls Tryz.prog 120 #[ptr p, .int .i64 (size : Int)] w fun e w' => ∃ A c, e = .returned (.slice A (rdT l bad size).length c) ∧ w'.ownsRow w.heap.size 5 1 (.slice A (rdT l bad size).length c) (rdT l bad size).length ((rdT l bad size).map u8v) ∧ RdAt w' p (rdL l bad size) (rdB l bad size) ∧ Only [p] w w' := by
  have hs2 : (0 : Int) < (size : Int) := by omega
  have H := Lib.hid h
  obtain ⟨X, hX⟩ : ∃ X, rdT l bad size = X := ⟨_, rfl⟩
  have hXl : X.length ≤ size := hX ▸ rdT_len l bad size
  have HX := Lib.hid hX
  have ht := take_c w p size l bad h (by omega)
  rw [hX] at ht ⊢
  clear h hX
  go_enter Tryz.func120, Tryz.ntmps120
  go_wp2_with (go_at_call 155; refine ht.mono ?_; rintro e w2 ⟨A2, c2, rfl, hc2, hr2, h2, ho2⟩)
  refine (clone_n _ A2 X.length c2 X hr2 (by omega)).mono ?_
  rintro e w3 ⟨A3, c3, rfl, hown3, hb3⟩
  have hs3 := ho2.size
  go_wp2_with fail
  go_ret
  exact ⟨A3, c3, rfl, own_base hown3 hs3, h2.below hb3, ho2.after hb3⟩
theorem rnum_or (a c : Nat) (hc : c < 256) (ha : a * 256 < 18446744073709551616) : bits .or .u64 ((a * 256 : Nat) : Int) (c : Int) = ((a * 256 + c : Nat) : Int) := by
  rw [bits_or_u64_nat _ _ ha (by omega)]
  congr 1
  have h : c < 2 ^ 8 := by omega
  rw [show a * 256 = a <<< 8 by rw [Nat.shiftLeft_eq], Nat.shiftLeft_add_eq_or_of_lt h]
set_option maxRecDepth 100000 in
theorem rnum_c (w : World) (p size : Nat) (l : List UInt8) (bad : Bool) (h : RdAt w p l bad) (hs : size ≤ 7) (hs1 : 1 ≤ size) :
    Calls Tryz.prog 122 #[ptr p, .int .i64 (size : Int)] w fun e w' => e = .returned (.int .i64 ((ofBe (rdT l bad size) : Nat) : Int)) ∧ RdAt w' p (rdL l bad size) (rdB l bad size) ∧ Only [p] w w' := by
  have hs2 : (0 : Int) < (size : Int) := by omega
  obtain ⟨X, hX⟩ : ∃ X, rdT l bad size = X := ⟨_, rfl⟩
  have hXl : X.length ≤ size := hX ▸ rdT_len l bad size
  have ht := take_c w p size l bad h (by omega)
  rw [hX] at ht ⊢
  clear h hX
  go_enter Tryz.func122, Tryz.ntmps122
  go_wp2_with (go_at_call 155; refine ht.mono ?_; rintro e w2 ⟨A2, c2, rfl, hc2, hr2, h2, ho2⟩)
  have H2 := Lib.hid h2
  have HO2 := Lib.hid ho2
  have HR2 := Lib.hid hr2
  clear h2 ho2 ht
  by_cases hx0 : X.length = 0
  · have hx1 : X = [] := List.eq_nil_of_length_eq_zero hx0
    subst hx1
    go_loopw [5, 14] (fun a i wr => a = .int .u64 0 ∧ i = .int .i64 0 ∧ wr = w2) (fun _ i _ => 0)
    case atStart => exact ⟨rfl, rfl, rfl⟩
    case round =>
      obtain ⟨rfl, rfl, rfl⟩ := hrel
      go_wp2_with fail
      go_ret
      exact ⟨rfl, H2.out, HO2.out⟩
  · obtain ⟨b, o, rfl, -⟩ := hr2.2 (by omega)
    clear hr2
    go_loopw [5, 14] (fun a i wr => ∃ k : Nat, k ≤ X.length ∧ a = .int .u64 ((ofBe (X.take k) : Nat) : Int) ∧ i = .int .i64 (k : Int) ∧ wr = w2) (fun _ i _ => X.length - (intOf i).toNat)
    case atStart => exact ⟨0, by omega, rfl, rfl, rfl⟩
    case round =>
      obtain ⟨k, hk, rfl, rfl, rfl⟩ := hrel
      by_cases hlt : k < X.length
      · obtain ⟨b', o', u, e, -, hu, hcell⟩ := HR2.out.at_ hlt
        cases e
        rw [List.getElem?_map, List.getElem?_eq_getElem hlt] at hu
        obtain rfl : u8v X[k] = u := by simpa using hu
        have hst := ofBe_step X k hlt
        have hb := ofBe_lt X k hk
        obtain ⟨x, hx⟩ : ∃ x, X[k] = x := ⟨_, rfl⟩
        obtain ⟨V, hV⟩ : ∃ V, ofBe (X.take k) = V := ⟨_, rfl⟩
        have hxl := x.toNat_lt
        rw [hx] at hcell hst
        rw [hV] at hst hb
        have hpow : 256 ^ k ≤ 256 ^ 6 := Nat.pow_le_pow_right (by omega) (by omega)
        have hVb : V < 281474976710656 := by have : (256 : Nat) ^ 6 = 281474976710656 := rfl; omega
        have hor := rnum_or V x.toNat hxl (by omega)
        have HST := Lib.hid hst
        clear hst hpow hb hx
        simp only [hV]
        clear hV
        have hor2 : bits .or .u64 ((V : Int) * 256) (x.toNat : Int) = ((V * 256 + x.toNat : Nat) : Int) := by
          rw [← hor]
          congr 1
        have HOR := Lib.hid hor2
        clear hor hor2
        go_wp2_with fail
        go_roundw
        case rel =>
          refine ⟨k + 1, by omega, ?_, by go_num, trivial⟩
          rw [HST.out, HOR.out]
        case measure => simp [intOf]; omega
      · obtain rfl : k = X.length := by omega
        rw [List.take_of_length_le (Nat.le_refl _)]
        have hb := ofBe_lt X X.length (Nat.le_refl _)
        rw [List.take_of_length_le (Nat.le_refl _)] at hb
        have hpow : 256 ^ X.length ≤ 256 ^ 7 := Nat.pow_le_pow_right (by omega) (by omega)
        have hVb : ofBe X < 72057594037927936 := by have : (256 : Nat) ^ 7 = 72057594037927936 := rfl; omega
        obtain ⟨V, hV⟩ : ∃ V, ofBe X = V := ⟨_, rfl⟩
        have HV := Lib.hid hV
        rw [hV] at hVb
        simp only [hV]
        clear hV hb
        go_wp2_with fail
        go_ret
        exact ⟨by rw [HV.out]; rfl, H2.out, HO2.out⟩
end Go.Proofs.YtpafenlcgcenlaaGreatDoor
namespace Go.Proofs.YtpafenlcgcenlaaGreatDoor
open Go.RowKit
set_option linter.unusedVariables false
set_option linter.unusedSimpArgs false
/-- The lowest bytes of a number, the highest first. -/
def be (N size : Nat) : List UInt8 := (List.range size).map fun j => UInt8.ofNat (N / 256 ^ (size - 1 - j))
end Go.Proofs.YtpafenlcgcenlaaGreatDoor
