/- The reference: an area of the call's own; GetCell, last, Next, May. -/
import Derived.Test.YtlchlcjahndjgaaRfH
import Derived.Test.YtlchlcjahndjgaaRfI
import Derived.Test.YtlchlcjahndjgaaRing
namespace Go.Proofs.Ytlchlcjahndjgaa
open Go.RowKit
set_option linter.unusedVariables false
set_option linter.unusedSimpArgs false
/-- The reference's area over a flash of the call's own. -/
structure RHasA (w0 w : World) (ab fb bb wb : Nat) (R : Ar) (G : RF) : Prop where
  flash : RFAt w fb bb wb G
  calm : G.cutb = true → 0 ≤ G.left
  area : RAt w ab fb R G.wear.length
  below : Below w0.heap.size w0 w
  ab_ : w0.heap.size ≤ ab
  fb_ : w0.heap.size ≤ fb
  bb_ : w0.heap.size ≤ bb
  wb_ : w0.heap.size ≤ wb
  far : ab ∉ [fb, bb, wb]
section
variable {w0 w w' : World} {ab fb bb wb : Nat} {R : Ar} {G G' : RF}
theorem RHasA.later (h : RHasA w0 w ab fb bb wb R G) (hb : Below w.heap.size w w') : RHasA w0 w' ab fb bb wb R G := ⟨h.flash.below hb, h.calm, h.area.below hb, h.below.trans (hb.mono h.below.size), h.ab_, h.fb_, h.bb_, h.wb_, h.far⟩
theorem RHasA.drewN (h : RHasA w0 w ab fb bb wb R G) (n : Nat) : RHasA w0 (w.drewN n) ab fb bb wb R G := h.later (below_drewN (Below.refl _ _) n)
theorem RHasA.only (h : RHasA w0 w ab fb bb wb R G) (hl : G'.wear.length = G.wear.length) (hc : G'.cutb = true → 0 ≤ G'.left) (hF : RFAt w' fb bb wb G') (ho : Only [fb, bb, wb] w w') : RHasA w0 w' ab fb bb wb R G' := by
  have h1 := h.fb_
  have h2 := h.bb_
  have h3 := h.wb_
  exact ⟨hF, hc, by rw [hl]; exact h.area.only ho h.far, ho.below h.below h.below.size (by intro k hk; simp at hk; omega), h.ab_, h.fb_, h.bb_, h.wb_, h.far⟩
end
theorem getcell_c (w : World) (A : Option Addr) (n c : Nat) (l : List UInt8) (hr : Reads w A n (l.map u8v)) (hn : n ≤ 100000) :
    Calls Try.prog 110 #[.slice A n c] w fun e w' => ∃ A' c', e = .returned (.tuple #[.int .i64 (cgS l : Int), .slice A' (cgB l).length c', .bool (cgO l)]) ∧ w'.ownsRow w.heap.size 5 1 (.slice A' (cgB l).length c') (cgB l).length ((cgB l).map u8v) ∧ Below w.heap.size w w' := by
  have hl : l.length = n := by simpa using hr.len
  have HL := Lib.hid hl
  have none_ : cgO l = false → cgS l = 0 ∧ cgB l = [] := fun h => by unfold cgS cgB; rw [h]; exact ⟨rfl, rfl⟩
  have hd := undual_c w A n c l hr (by omega)
  clear hl hr
  go_enter Try.func110, Try.ntmps110
  go_wp2_with fail
  refine hd.mono ?_
  rintro e w1 ⟨hb1, ⟨h0, rfl⟩ | ⟨h1, A1, c1, rfl, ho1⟩⟩
  · have hO : cgO l = false := by unfold cgO; rw [h0]; rfl
    have HN := Lib.hid none_
    have HOO := Lib.hid hO
    clear none_ hO
    go_wp2_with fail
    go_ret3
    obtain ⟨q1, q2⟩ := HN.out HOO.out
    rw [HOO.out, q1, q2]
    exact ⟨none, 0, rfl, World.ownsRow_nil _ _ _ _, hb1⟩
  · by_cases h320 : n = 320
    · subst h320
      have hall : (evens l).length = 160 := by rw [evens_len, HL.out]
      obtain ⟨X, hX⟩ : ∃ X, evens l = X := ⟨_, rfl⟩
      rw [hX] at hall ho1
      have HX := Lib.hid hX
      have t1 : rdT X false 4 = X.take 4 := by simp [rdT]; omega
      have t2 : rrL X false 4 = X.drop 4 := by simp [rrL]; omega
      have t3 : rdB X false 4 = false := by simp [rdB]; omega
      have t4 : rdT (X.drop 4) false 156 = X.drop 4 := by
        have : (X.drop 4).length = 156 := by rw [List.length_drop]; omega
        unfold rdT
        rw [if_neg (by simp; omega), List.take_of_length_le (by omega)]
      obtain ⟨N, hN⟩ : ∃ N, ofBe (X.take 4) = N := ⟨_, rfl⟩
      have hcN : cgN l = N := by unfold cgN; rw [hX, hN]
      have T1 := Lib.hid t1
      have T2 := Lib.hid t2
      have T3 := Lib.hid t3
      have T4 := Lib.hid t4
      have HN := Lib.hid hN
      have HCN := Lib.hid hcN
      have HA := Lib.hid hall
      have HO1 := Lib.hid ho1
      have HB1 := Lib.hid hb1
      have H1 := Lib.hid h1
      have HNo := Lib.hid none_
      have hA1 : ∀ a, A1 = some a → a.block < w1.heap.size := by
        intro a ha
        subst ha
        exact (HO1.out.lt a.block rfl).2
      have hc1 : 160 ≤ c1 ∧ c1 ≤ maxLen := own_cap ho1
      clear t1 t2 t3 t4 hN hcN hall ho1 hb1 h1 hX none_ hd
      go_wp2_with fail
      refine (rrnew_c w1 A1 160 c1 X (Reads.of_own HO1.out) hc1 hA1).mono ?_
      rintro e w2 ⟨p, rfl, hp, hrd2, hb2⟩
      have HP := Lib.hid hrd2
      have hs1 := HB1.out.size
      have HB2 := Lib.hid (HB1.out.trans (hb2.mono hs1))
      clear hrd2 hb2
      go_wp2_with fail
      refine (rrnum_c w2 p 4 X false HP.out (by omega) (by omega)).mono ?_
      rintro e w3 ⟨rfl, hrd3, ho3⟩
      rw [T1.out, HN.out]
      rw [T2.out, T3.out] at hrd3
      have HB3 := Lib.hid (ho3.below HB2.out HB2.out.size (by intro k hk; simp at hk; omega))
      have HP3 := Lib.hid hrd3
      clear hrd3 ho3
      by_cases hmN : 1 ≤ N ∧ N ≤ 2147483647
      · have hO : cgO l = true := by unfold cgO; rw [H1.out, HCN.out, HL.out]; simp; exact hmN
        have q1 : cgS l = N := by unfold cgS; rw [if_pos hO, HCN.out]
        have q2 : cgB l = X.drop 4 := by unfold cgB; rw [if_pos hO, HX.out]
        have q3 : (X.drop 4).length = 156 := by rw [List.length_drop, HA.out]
        have Q3 := Lib.hid q3
        have Q1 := Lib.hid q1
        have Q2 := Lib.hid q2
        have QO := Lib.hid hO
        have i1 : ¬ (N : Int) < 1 := by omega
        have i2 : ¬ (2147483647 : Int) < (N : Int) := by omega
        clear q1 q2 q3 hmN hO
        go_wp2_with fail
        refine (rrraw_c w3 p 156 (X.drop 4) false HP3.out (by omega) (by omega)).mono ?_
        rintro e w4 ⟨A4, c4, rfl, hown4, -, ho4⟩
        rw [T4.out, Q3.out] at hown4 ⊢
        have HO4 := Lib.hid hown4
        have HB4 := Lib.hid (ho4.below HB3.out HB3.out.size (by intro k hk; simp at hk; omega))
        have hs3 := HB3.out.size
        clear hown4 ho4
        go_wp2_with fail
        go_ret3
        rw [QO.out, Q1.out, Q2.out, Q3.out]
        exact ⟨A4, c4, rfl, own_base HO4.out hs3, HB4.out⟩
      · have hO : cgO l = false := by
          unfold cgO
          rw [H1.out, HCN.out, HL.out]
          simp
          omega
        have QO := Lib.hid hO
        clear hO
        by_cases i1 : (N : Int) < 1
        · go_wp2_with fail
          go_ret3
          obtain ⟨q1, q2⟩ := HNo.out QO.out
          rw [QO.out, q1, q2]
          exact ⟨none, 0, rfl, World.ownsRow_nil _ _ _ _, HB3.out⟩
        · have i2 : (2147483647 : Int) < (N : Int) := by omega
          go_wp2_with fail
          go_ret3
          obtain ⟨q1, q2⟩ := HNo.out QO.out
          rw [QO.out, q1, q2]
          exact ⟨none, 0, rfl, World.ownsRow_nil _ _ _ _, HB3.out⟩
    · have hO : cgO l = false := by
        unfold cgO
        rw [HL.out]
        simp [h320]
      have HN := Lib.hid none_
      have HOO := Lib.hid hO
      clear hO
      have hd2 : ((n : Int) != 320) = true := by rw [bne_iff_ne]; omega
      clear none_ hd
      go_wp2_with fail
      go_ret3
      obtain ⟨q1, q2⟩ := HN.out HOO.out
      rw [HOO.out, q1, q2]
      exact ⟨none, 0, rfl, World.ownsRow_nil _ _ _ _, hb1⟩
/-- Where the reference's newest cell is. -/
def RSt.place (S : RSt) : Int := if S.ok then (S.at_ : Int) else -1
section
variable {w0 w : World} {ab fb bb wb : Nat} {R : Ar} {G : RF}
theorem raread_h (s a k : Int) (bs : List UInt8) (hb : R.read G.fl s a k = bs) (h : RHasA w0 w ab fb bb wb R G) :
    Calls Try.prog 93 #[ptr ab, .int .i64 s, .int .i64 a, .int .i64 k] w fun e w' => ∃ A c, e = .returned (.slice A bs.length c) ∧ w'.ownsRow w.heap.size 5 1 (.slice A bs.length c) bs.length (bs.map u8v) ∧ RHasA w0 w' ab fb bb wb R G ∧ Below w.heap.size w w' := by
  subst hb
  exact (raread_c w s a k h.flash h.area).mono fun e w' ⟨A, c, he, hown, hb⟩ => ⟨A, c, he, hown, h.later hb, hb⟩
def RFound (w0 w : World) (ab fb bb wb : Nat) (R : Ar) (G : RF) (s : RSt) (e : Ending) (w' : World) : Prop :=
  ∃ A c, e = .returned (.tuple #[.int .i64 s.place, .int .i64 (s.seq : Int), .slice A s.b.length c]) ∧ w'.ownsRow w.heap.size 5 1 (.slice A s.b.length c) s.b.length (s.b.map u8v) ∧ RHasA w0 w' ab fb bb wb R G ∧ Below w.heap.size w w'
theorem rlast_h (h : RHasA w0 w ab fb bb wb R G) : Calls Try.prog 81 #[ptr ab] w (RFound w0 w ab fb bb wb R G (R.ringF G.fl)) := by
  have H := Lib.hid h
  have h2 := h.area.a2
  by_cases h4 : 4 ≤ R.len
  · have i4 : (4 : Int) ≤ (R.len : Int) := by omega
    obtain ⟨Z, hZ⟩ : ∃ Z, R.ringF G.fl = Z := ⟨_, rfl⟩
    have hZ2 : R.ringTo G.fl 4 = Z := by rw [← hZ]; unfold Ar.ringF; rw [if_pos h4]
    rw [hZ]
    have HZ := Lib.hid hZ2
    clear h hZ hZ2 h4 h2
    go_enter Try.func81, Try.ntmps81
    go_wp2_with fail
    go_loopw [5, 6, 7, 8] (fun a s b i wr => ∃ (k : Nat) (S : RSt) (A : Option Addr) (c : Nat), k ≤ 4 ∧ S = R.ringTo G.fl k ∧ a = .int .i64 S.place ∧ s = .int .i64 (S.seq : Int) ∧ b = .slice A S.b.length c ∧ i = .int .i64 (k : Int) ∧ wr.ownsRow w.heap.size 5 1 (.slice A S.b.length c) S.b.length (S.b.map u8v) ∧ RHasA w0 wr ab fb bb wb R G ∧ Below w.heap.size w wr) (fun _ _ _ i _ => 4 - (intOf i).toNat)
    case atStart => exact ⟨0, ⟨0, 0, [], false⟩, none, 0, by omega, rfl, rfl, rfl, rfl, rfl, World.ownsRow_nil _ _ _ _, H.out, Below.refl _ _⟩
    case round =>
      clear H
      obtain ⟨k, S, A, c, hk, hS, rfl, rfl, rfl, rfl, hown, hh, hb⟩ := hrel
      have HO := Lib.hid hown
      have HH := Lib.hid hh
      have HB := Lib.hid hb
      have HS := Lib.hid hS
      have hbs := hb.size
      have h2 := hh.area.a2
      clear hown hh hb hS
      by_cases hlt : k < 4
      · obtain ⟨X, hX⟩ : ∃ X, R.sec G.fl k = X := ⟨_, rfl⟩
        have hX2 : R.read G.fl k 0 320 = X := hX
        have hXl : X.length ≤ 320 := by rw [← hX2]; exact R.read_le G.fl _ _ _
        have hst : R.ringTo G.fl (k + 1) = if cgO X = true ∧ S.seq < cgS X then ⟨k, cgS X, cgB X, true⟩ else S := by
          show (if cgO (R.sec G.fl k) = true ∧ (R.ringTo G.fl k).seq < cgS (R.sec G.fl k) then _ else _) = _
          rw [hX, ← HS.out]
        have HX := Lib.hid hX2
        have HST := Lib.hid hst
        clear hX hX2 hst
        go_wp2_with fail
        refine (raread_h k 0 320 X HX.out HH.out).mono ?_
        rintro e w2 ⟨A2, c2, rfl, hown2, h2, hb2⟩
        have HR2 := Lib.hid (Reads.of_own hown2)
        have HH2 := Lib.hid h2
        have HB2 := Lib.hid (HB.out.trans (hb2.mono hbs))
        have HO2 := Lib.hid (own_only HO.out (Only.of_below (S := []) hb2) (by simp))
        clear hown2 h2 hb2
        go_wp2_with fail
        refine (getcell_c w2 A2 X.length c2 X HR2.out (by omega)).mono ?_
        rintro e w3 ⟨A3, c3, rfl, hown3, hb3⟩
        have hs2 := HB2.out.size
        have HH3 := Lib.hid (HH2.out.later hb3)
        have HB3 := Lib.hid (HB2.out.trans (hb3.mono hs2))
        have HO3 := Lib.hid (own_base hown3 hs2)
        have HP3 := Lib.hid (own_only HO2.out (Only.of_below (S := []) hb3) (by simp))
        clear hown3 hb3
        cases hO : cgO X
        · have HST2 : Hid (R.ringTo G.fl (k + 1) = S) := Lib.hid (by rw [HST.out, hO, if_neg (by simp)])
          clear HST hO
          go_wp2_with fail
          go_roundw
          case rel => exact ⟨k + 1, S, A, c, by omega, HST2.out.symm, rfl, rfl, rfl, by go_num, HP3.out, HH3.out, HB3.out⟩
          case measure => simp [intOf]; omega
        · by_cases hgt : S.seq < cgS X
          · have HST2 : Hid (R.ringTo G.fl (k + 1) = ⟨k, cgS X, cgB X, true⟩) := Lib.hid (by rw [HST.out, hO, if_pos ⟨rfl, hgt⟩])
            clear HST hO
            go_wp2_with fail
            go_roundw
            case rel => exact ⟨k + 1, ⟨k, cgS X, cgB X, true⟩, A3, c3, by omega, HST2.out.symm, rfl, rfl, rfl, by go_num, HO3.out, HH3.out, HB3.out⟩
            case measure => simp [intOf]; omega
          · have HST2 : Hid (R.ringTo G.fl (k + 1) = S) := Lib.hid (by rw [HST.out, hO, if_neg (by omega)])
            have hgt2 : ¬ (S.seq : Int) < (cgS X : Int) := by omega
            clear HST hO
            go_wp2_with fail
            go_roundw
            case rel => exact ⟨k + 1, S, A, c, by omega, HST2.out.symm, rfl, rfl, rfl, by go_num, HP3.out, HH3.out, HB3.out⟩
            case measure => simp [intOf]; omega
      · obtain rfl : k = 4 := by omega
        obtain rfl : S = Z := HS.out.trans HZ.out
        go_wp2_with fail
        go_ret3
        exact ⟨A, c, rfl, HO.out, HH.out, HB.out⟩
  · have hZ : R.ringF G.fl = ⟨0, 0, [], false⟩ := by unfold Ar.ringF; rw [if_neg h4]
    have i4 : ¬ (4 : Int) ≤ (R.len : Int) := by omega
    have hd : decide ((4 : Int) ≤ (R.len : Int)) = false := decide_eq_false i4
    rw [hZ]
    clear h hZ h4
    go_enter Try.func81, Try.ntmps81
    go_wp2_with fail
    go_loopw [5, 6, 7, 8] (fun a s b i wr => a = .int .i64 (-1) ∧ s = .int .i64 0 ∧ b = .slice none 0 0 ∧ i = .int .i64 0 ∧ wr = w) (fun _ _ _ _ _ => 0)
    case atStart => exact ⟨rfl, rfl, rfl, rfl, rfl⟩
    case round =>
      obtain ⟨rfl, rfl, rfl, rfl, rfl⟩ := hrel
      go_wp2_with fail
      go_ret3
      exact ⟨none, 0, rfl, World.ownsRow_nil _ _ _ _, H.out, Below.refl _ _⟩
theorem rnext_h (h : RHasA w0 w ab fb bb wb R G) (N : Nat) (hN : R.ringN G.fl = N) : Calls Try.prog 80 #[ptr ab] w fun e w' =>
    e = .returned (.int .i64 (N : Int)) ∧ RHasA w0 w' ab fb bb wb R G ∧ Below w.heap.size w w' := by
  have hf := rlast_h h
  have hat := (R.ringF_at G.fl).1
  unfold Ar.ringN at hN
  generalize R.ringF G.fl = Z at hf hN hat
  clear h
  obtain ⟨z1, z2, z3, z4⟩ := Z
  obtain ⟨x, hx⟩ : ∃ x, RSt.place ⟨z1, z2, z3, z4⟩ = x := ⟨_, rfl⟩
  have hxN : -1 ≤ x ∧ x ≤ 3 ∧ (x + 1) % 4 = (N : Int) := by
    have hz3 : z1 ≤ 3 := hat
    cases z4
    · have e1 : x = -1 := hx.symm
      have e2 : N = 0 := by simpa using hN.symm
      subst e1 e2
      decide
    · have e1 : x = (z1 : Int) := hx.symm
      have e2 : N = (z1 + 1) % 4 := by simpa using hN.symm
      omega
  unfold RFound at hf
  rw [hx] at hf
  obtain ⟨x1, x2, x3⟩ := hxN
  have HN := Lib.hid x3
  have e1 : IntKind.i64.wrap (x + 1) = x + 1 := IntWalk.i64_in _ (by omega)
  have e2 : Int.tmod (x + 1) 4 = (N : Int) := by rw [Int.tmod_eq_emod_of_nonneg (by omega)]; exact x3
  have e3 : IntKind.i64.wrap (N : Int) = (N : Int) := IntWalk.i64_in _ (by omega)
  clear hN hat hx x3
  go_enter Try.func80, Try.ntmps80
  go_wp2_with fail
  refine hf.mono ?_
  rintro e w2 ⟨A2, c2, rfl, ho2, h2, hb2⟩
  go_wp2_with fail
  go_ret
  exact ⟨int_ret (by first | exact HN.out | (rw [HN.out]; done) | rfl), h2, hb2⟩
set_option maxRecDepth 100000 in
theorem rmay_hr (h : RHasA w0 w ab fb bb wb R G) (M : Bool) (hM : R.ringM G.fl = M) : Calls Try.prog 33 #[ptr ab] w fun e w' =>
    e = .returned (.bool M) ∧ RHasA w0 w' ab fb bb wb R G ∧ Below w.heap.size w w' := by
  obtain ⟨N, hN⟩ : ∃ N, R.ringN G.fl = N := ⟨_, rfl⟩
  have hnx := rnext_h h N hN
  have hat := (R.ringF_at G.fl).2
  have hf : ∀ W, RHasA w0 W ab fb bb wb R G → Calls Try.prog 81 #[ptr ab] W (RFound w0 W ab fb bb wb R G (R.ringF G.fl)) := fun W h => rlast_h h
  have hM2 : (decide (4 ≤ R.len) && (decide ((R.ringF G.fl).seq + 1 ≤ 2147483647) && (R.blank G.fl N || decide (0 < R.left G.fl N)))) = M := by rw [← hM, ← hN]; rfl
  generalize R.ringF G.fl = Z at hf hat hM2
  obtain ⟨z1, q, z3, z4⟩ := Z
  have hq : q ≤ 2147483647 := hat
  have hbl : ∀ W : World, RHasA w0 W ab fb bb wb R G → Calls Try.prog 82 #[ptr ab, .int .i64 (N : Int)] W fun e w' => e = .returned (.bool (R.blank G.fl N)) ∧ RHasA w0 w' ab fb bb wb R G ∧ Below W.heap.size W w' := fun W h => (rablank_c W N h.flash h.area).mono fun e w' hh => by
    obtain ⟨h1, n, rfl⟩ := hh
    exact ⟨h1, h.drewN n, below_drewN (Below.refl _ _) n⟩
  have hlf : ∀ W : World, RHasA w0 W ab fb bb wb R G → Calls Try.prog 78 #[ptr ab, .int .i64 (N : Int)] W fun e w' => e = .returned (.int .i64 (R.left G.fl N)) ∧ RHasA w0 w' ab fb bb wb R G ∧ Below W.heap.size W w' := fun W h => (raleft_c W N h.flash h.area).mono fun e w' hh => by
    obtain ⟨h1, n, rfl⟩ := hh
    exact ⟨h1, h.drewN n, below_drewN (Below.refl _ _) n⟩
  have hM3 : (decide ((4 : Int) ≤ (R.len : Int)) && (decide ((q : Int) < 2147483647) && (R.blank G.fl N || decide (0 < R.left G.fl N)))) = M := by
    have hM2' : (decide (4 ≤ R.len) && (decide (q + 1 ≤ 2147483647) && (R.blank G.fl N || decide (0 < R.left G.fl N)))) = M := hM2
    have c1 : decide ((4 : Int) ≤ (R.len : Int)) = decide (4 ≤ R.len) := decide_eq_decide.2 (by omega)
    have c2 : decide ((q : Int) < 2147483647) = decide (q + 1 ≤ 2147483647) := decide_eq_decide.2 (by omega)
    rw [c1, c2]
    exact hM2'
  clear h hM hN hM2 hat hq
  generalize R.blank G.fl N = B at hbl hM3
  generalize R.left G.fl N = L at hlf hM3
  have HM := Lib.hid hM3
  clear hM3
  by_cases hD : (4 : Int) ≤ (R.len : Int)
  · by_cases hC : (q : Int) < 2147483647
    · cases B
      · by_cases hL : 0 < L
        · skip
          have HM2 := HM.out
          rw [decide_eq_true hD, decide_eq_true hC, decide_eq_true hL] at HM2
          simp only [Bool.false_and, Bool.true_and, Bool.false_or, Bool.true_or] at HM2
          subst HM2
          clear HM
          go_enter Try.func33, Try.ntmps33
          go_wp2_with fail
          refine hnx.mono ?_
          rintro e w2 ⟨rfl, h2, hb2⟩
          have hs2 := hb2.size
          go_wp2_with fail
          refine (hf _ h2).mono ?_
          rintro e w3 ⟨A3, c3, rfl, ho3, h3, hb3⟩
          have hb3 := hb2.trans (hb3.mono hs2)
          have hs3 := hb3.size
          have hr2 := h3.area.a2
          have H3 := Lib.hid h3
          clear h2 hb2 ho3 h3
          go_wp2_with (first
            | (go_at_call 82; refine (hbl _ H3.out).mono ?_; rintro e w4 ⟨rfl, h4, hb4⟩; have H4 := Lib.hid h4; have HB4 := Lib.hid (hb3.trans (hb4.mono hs3)); clear h4 hb4)
            | (go_at_call 78; refine (hlf _ H4.out).mono ?_; rintro e w5 ⟨rfl, h5, hb5⟩; have hs4 := HB4.out.size; have H5 := Lib.hid h5; have HB5 := Lib.hid (HB4.out.trans (hb5.mono hs4)); clear h5 hb5))
          go_ret
          exact ⟨bool_ret (by first | (simp; done) | (simp; omega) | rfl), H5.out, HB5.out⟩
        · have hLf : decide (0 < L) = false := decide_eq_false hL
          have HM2 := HM.out
          rw [decide_eq_true hD, decide_eq_true hC, decide_eq_false hL] at HM2
          simp only [Bool.false_and, Bool.true_and, Bool.false_or, Bool.true_or] at HM2
          subst HM2
          clear HM
          go_enter Try.func33, Try.ntmps33
          go_wp2_with fail
          refine hnx.mono ?_
          rintro e w2 ⟨rfl, h2, hb2⟩
          have hs2 := hb2.size
          go_wp2_with fail
          refine (hf _ h2).mono ?_
          rintro e w3 ⟨A3, c3, rfl, ho3, h3, hb3⟩
          have hb3 := hb2.trans (hb3.mono hs2)
          have hs3 := hb3.size
          have hr2 := h3.area.a2
          have H3 := Lib.hid h3
          clear h2 hb2 ho3 h3
          go_wp2_with (first
            | (go_at_call 82; refine (hbl _ H3.out).mono ?_; rintro e w4 ⟨rfl, h4, hb4⟩; have H4 := Lib.hid h4; have HB4 := Lib.hid (hb3.trans (hb4.mono hs3)); clear h4 hb4)
            | (go_at_call 78; refine (hlf _ H4.out).mono ?_; rintro e w5 ⟨rfl, h5, hb5⟩; have hs4 := HB4.out.size; have H5 := Lib.hid h5; have HB5 := Lib.hid (HB4.out.trans (hb5.mono hs4)); clear h5 hb5))
          go_ret
          exact ⟨bool_ret (by first | (simp; done) | (simp; omega) | rfl), H5.out, HB5.out⟩
      · skip
        have HM2 := HM.out
        rw [decide_eq_true hD, decide_eq_true hC] at HM2
        simp only [Bool.false_and, Bool.true_and, Bool.false_or, Bool.true_or] at HM2
        subst HM2
        clear HM
        go_enter Try.func33, Try.ntmps33
        go_wp2_with fail
        refine hnx.mono ?_
        rintro e w2 ⟨rfl, h2, hb2⟩
        have hs2 := hb2.size
        go_wp2_with fail
        refine (hf _ h2).mono ?_
        rintro e w3 ⟨A3, c3, rfl, ho3, h3, hb3⟩
        have hb3 := hb2.trans (hb3.mono hs2)
        have hs3 := hb3.size
        have hr2 := h3.area.a2
        have H3 := Lib.hid h3
        clear h2 hb2 ho3 h3
        go_wp2_with (first
          | (go_at_call 82; refine (hbl _ H3.out).mono ?_; rintro e w4 ⟨rfl, h4, hb4⟩; have H4 := Lib.hid h4; have HB4 := Lib.hid (hb3.trans (hb4.mono hs3)); clear h4 hb4)
          | (go_at_call 78; refine (hlf _ H4.out).mono ?_; rintro e w5 ⟨rfl, h5, hb5⟩; have hs4 := HB4.out.size; have H5 := Lib.hid h5; have HB5 := Lib.hid (HB4.out.trans (hb5.mono hs4)); clear h5 hb5))
        go_ret
        exact ⟨bool_ret (by first | (simp; done) | (simp; omega) | rfl), H4.out, HB4.out⟩
    · have hCf : decide ((q : Int) < 2147483647) = false := decide_eq_false hC
      have HM2 := HM.out
      rw [decide_eq_true hD, decide_eq_false hC] at HM2
      simp only [Bool.false_and, Bool.true_and, Bool.false_or, Bool.true_or] at HM2
      subst HM2
      clear HM
      go_enter Try.func33, Try.ntmps33
      go_wp2_with fail
      refine hnx.mono ?_
      rintro e w2 ⟨rfl, h2, hb2⟩
      have hs2 := hb2.size
      go_wp2_with fail
      refine (hf _ h2).mono ?_
      rintro e w3 ⟨A3, c3, rfl, ho3, h3, hb3⟩
      have hb3 := hb2.trans (hb3.mono hs2)
      have hs3 := hb3.size
      have hr2 := h3.area.a2
      have H3 := Lib.hid h3
      clear h2 hb2 ho3 h3
      go_wp2_with (first
        | (go_at_call 82; refine (hbl _ H3.out).mono ?_; rintro e w4 ⟨rfl, h4, hb4⟩; have H4 := Lib.hid h4; have HB4 := Lib.hid (hb3.trans (hb4.mono hs3)); clear h4 hb4)
        | (go_at_call 78; refine (hlf _ H4.out).mono ?_; rintro e w5 ⟨rfl, h5, hb5⟩; have hs4 := HB4.out.size; have H5 := Lib.hid h5; have HB5 := Lib.hid (HB4.out.trans (hb5.mono hs4)); clear h5 hb5))
      go_ret
      exact ⟨bool_ret (by first | (simp; done) | (simp; omega) | rfl), H3.out, hb3⟩
  · have hDf : decide ((4 : Int) ≤ (R.len : Int)) = false := decide_eq_false hD
    have HM2 := HM.out
    rw [decide_eq_false hD] at HM2
    simp only [Bool.false_and, Bool.true_and, Bool.false_or, Bool.true_or] at HM2
    subst HM2
    clear HM
    go_enter Try.func33, Try.ntmps33
    go_wp2_with fail
    refine hnx.mono ?_
    rintro e w2 ⟨rfl, h2, hb2⟩
    have hs2 := hb2.size
    go_wp2_with fail
    refine (hf _ h2).mono ?_
    rintro e w3 ⟨A3, c3, rfl, ho3, h3, hb3⟩
    have hb3 := hb2.trans (hb3.mono hs2)
    have hs3 := hb3.size
    have hr2 := h3.area.a2
    have H3 := Lib.hid h3
    clear h2 hb2 ho3 h3
    go_wp2_with (first
      | (go_at_call 82; refine (hbl _ H3.out).mono ?_; rintro e w4 ⟨rfl, h4, hb4⟩; have H4 := Lib.hid h4; have HB4 := Lib.hid (hb3.trans (hb4.mono hs3)); clear h4 hb4)
      | (go_at_call 78; refine (hlf _ H4.out).mono ?_; rintro e w5 ⟨rfl, h5, hb5⟩; have hs4 := HB4.out.size; have H5 := Lib.hid h5; have HB5 := Lib.hid (HB4.out.trans (hb5.mono hs4)); clear h5 hb5))
    go_ret
    exact ⟨bool_ret (by first | (simp; done) | (simp; omega) | rfl), H3.out, hb3⟩
end
end Go.Proofs.Ytlchlcjahndjgaa
