/- ring.find, Last, Next, May, Put. -/
import Derived.Test.YtlchlcjahndjgaaCell
import Derived.Test.YtlchlcjahndjgaaSlA
namespace Go.Proofs.Ytlchlcjahndjgaa
open Go.RowKit
set_option linter.unusedVariables false
set_option linter.unusedSimpArgs false
/-- Where the cell that counts is, its number, what it holds, and whether there is one. -/
structure RSt where
  at_ : Nat
  seq : Nat
  b : List UInt8
  ok : Bool
namespace Ar
def sec (R : Ar) (F : Fl) (i : Nat) : List UInt8 := R.read F i 0 320
def ringTo (R : Ar) (F : Fl) : Nat → RSt
  | 0 => ⟨0, 0, [], false⟩
  | i + 1 => if cgO (R.sec F i) = true ∧ (ringTo R F i).seq < cgS (R.sec F i) then ⟨i, cgS (R.sec F i), cgB (R.sec F i), true⟩ else ringTo R F i
def ringF (R : Ar) (F : Fl) : RSt := if 4 ≤ R.len then R.ringTo F 4 else ⟨0, 0, [], false⟩
def ringN (R : Ar) (F : Fl) : Nat := if (R.ringF F).ok = true then ((R.ringF F).at_ + 1) % 4 else 0
def ringM (R : Ar) (F : Fl) : Bool := decide (4 ≤ R.len) && (decide ((R.ringF F).seq + 1 ≤ 2147483647) && R.mayC F (R.ringN F))
def ringE (R : Ar) (F : Fl) (b : List UInt8) : Int := if R.len < 4 then 2 else if 156 < b.length then 10 else if R.ringM F = false then 5 else R.chunkE F (R.ringN F) (cellP ((R.ringF F).seq + 1) b)
def ringP (R : Ar) (F : Fl) (b : List UInt8) : Fl := if R.len < 4 then F else if 156 < b.length then F else if R.ringM F = false then F else R.chunk F (R.ringN F) (cellP ((R.ringF F).seq + 1) b)
theorem ringTo_at (R : Ar) (F : Fl) : ∀ i, i ≤ 4 → (R.ringTo F i).at_ ≤ 3 ∧ (R.ringTo F i).seq ≤ 2147483647
  | 0, _ => ⟨Nat.zero_le _, Nat.zero_le _⟩
  | i + 1, h => by
    have ih := ringTo_at R F i (by omega)
    unfold ringTo
    split
    · rename_i hc
      refine ⟨by show i ≤ 3; omega, ?_⟩
      have h1 := hc.1
      show cgS _ ≤ _
      unfold cgS
      rw [if_pos h1]
      unfold cgO at h1
      simp at h1
      exact h1.2
    · exact ih
theorem ringF_at (R : Ar) (F : Fl) : (R.ringF F).at_ ≤ 3 ∧ (R.ringF F).seq ≤ 2147483647 := by
  unfold ringF
  split
  · exact R.ringTo_at F 4 (by omega)
  · exact ⟨Nat.zero_le _, Nat.zero_le _⟩
theorem ringN_lt (R : Ar) (F : Fl) : R.ringN F < 4 := by
  unfold ringN
  split
  · omega
  · omega
end Ar
theorem results_tmp4 {fn : Func} {t u v x : Tmp} (h : fn.results = #[.tmp t, .tmp u, .tmp v, .tmp x]) (tmps : Array Value) (P : Program) (w : World) :
    (results fn tmps).run P w = .ok (.tuple #[tmps.getD t undef, tmps.getD u undef, tmps.getD v undef, tmps.getD x undef]) w := by
  simp [results, h]
section
variable {w0 w : World} {ab fb bb wb : Nat} {R : Ar} {F : Fl}
theorem ringis_c (w : World) (n : Nat) (h : AreaAt w ab fb R n) : Calls Try.prog 108 #[ptr ab] w fun e w' => e = .returned (.bool (decide (4 ≤ R.len))) ∧ w = w' := by
  have e : decide ((4 : Int) ≤ (R.len : Int)) = decide (4 ≤ R.len) := by apply decide_eq_decide.2; omega
  go_enter Try.func108, Try.ntmps108
  go_wp2_with (go_at_call 75; refine (alen_c _ h).mono ?_; rintro e w' ⟨rfl, rfl⟩)
  go_ret
  exact ⟨bool_ret (by simp), rfl⟩
/-- What find answers. -/
def Found (w0 w : World) (ab fb bb wb : Nat) (R : Ar) (F : Fl) (s : RSt) (e : Ending) (w' : World) : Prop :=
  ∃ A c, e = .returned (.tuple #[.int .i64 (s.at_ : Int), .int .i64 (s.seq : Int), .slice A s.b.length c, .bool s.ok]) ∧ w'.ownsRow w.heap.size 5 1 (.slice A s.b.length c) s.b.length (s.b.map u8v) ∧ HasA w0 w' ab fb bb wb R F ∧ Below w.heap.size w w'
theorem find_h (h : HasA w0 w ab fb bb wb R F) : Calls Try.prog 106 #[ptr ab] w (Found w0 w ab fb bb wb R F (R.ringF F)) := by
  have H := Lib.hid h
  have hi := fun W => ringis_c (ab := ab) (fb := fb) (R := R) W F.wear.length
  by_cases h4 : 4 ≤ R.len
  · have hd : decide (4 ≤ R.len) = true := decide_eq_true h4
    rw [hd] at hi
    obtain ⟨Z, hZ⟩ : ∃ Z, R.ringF F = Z := ⟨_, rfl⟩
    have hZ2 : R.ringTo F 4 = Z := by rw [← hZ]; unfold Ar.ringF; rw [if_pos h4]
    rw [hZ]
    have HZ := Lib.hid hZ2
    clear h hd hZ hZ2 h4
    go_enter Try.func106, Try.ntmps106
    go_wp2_with (go_at_call 108; refine (hi _ H.out.area).mono ?_; rintro e w' ⟨rfl, rfl⟩)
    go_loopw [2, 3, 4, 5, 13] (fun a s b o i wr => ∃ (k : Nat) (S : RSt) (A : Option Addr) (c : Nat), k ≤ 4 ∧ S = R.ringTo F k ∧ a = .int .i64 (S.at_ : Int) ∧ s = .int .i64 (S.seq : Int) ∧ b = .slice A S.b.length c ∧ o = .bool S.ok ∧ i = .int .i64 (k : Int) ∧ wr.ownsRow w.heap.size 5 1 (.slice A S.b.length c) S.b.length (S.b.map u8v) ∧ HasA w0 wr ab fb bb wb R F ∧ Below w.heap.size w wr) (fun _ _ _ _ i _ => 4 - (intOf i).toNat)
    case atStart => exact ⟨0, ⟨0, 0, [], false⟩, none, 0, by omega, rfl, rfl, rfl, rfl, rfl, rfl, World.ownsRow_nil _ _ _ _, H.out, Below.refl _ _⟩
    case round =>
      clear H hi
      obtain ⟨k, S, A, c, hk, hS, rfl, rfl, rfl, rfl, rfl, hown, hh, hb⟩ := hrel
      have HO := Lib.hid hown
      have HH := Lib.hid hh
      have HB := Lib.hid hb
      have HS := Lib.hid hS
      have hbs := hb.size
      clear hown hh hb hS
      by_cases hlt : k < 4
      · obtain ⟨X, hX⟩ : ∃ X, R.sec F k = X := ⟨_, rfl⟩
        have hX2 : R.read F k 0 320 = X := hX
        have hXl : X.length ≤ 320 := by rw [← hX2]; exact R.read_le F _ _ _
        have hst : R.ringTo F (k + 1) = if cgO X = true ∧ S.seq < cgS X then ⟨k, cgS X, cgB X, true⟩ else S := by
          show (if cgO (R.sec F k) = true ∧ (R.ringTo F k).seq < cgS (R.sec F k) then _ else _) = _
          rw [hX, ← HS.out]
        have HX := Lib.hid hX2
        have HST := Lib.hid hst
        clear hX hX2 hst
        go_wp2_with fail
        refine (aread_h k 0 320 (by omega) X HX.out HH.out).mono ?_
        rintro e w2 ⟨A2, c2, rfl, hown2, h2, hb2⟩
        have HR2 := Lib.hid (Reads.of_own hown2)
        have HH2 := Lib.hid h2
        have HB2 := Lib.hid (HB.out.trans (hb2.mono hbs))
        have HO2 := Lib.hid (own_only HO.out (Only.of_below (S := []) hb2) (by simp))
        clear hown2 h2 hb2
        go_wp2_with fail
        refine (cellget_c w2 A2 X.length c2 X HR2.out (by omega)).mono ?_
        rintro e w3 ⟨A3, c3, rfl, hown3, hb3⟩
        have hs2 := HB2.out.size
        have HH3 := Lib.hid (HH2.out.later hb3)
        have HB3 := Lib.hid (HB2.out.trans (hb3.mono hs2))
        have HO3 := Lib.hid (own_base hown3 hs2)
        have HP3 := Lib.hid (own_only HO2.out (Only.of_below (S := []) hb3) (by simp))
        clear hown3 hb3
        cases hO : cgO X
        · have HST2 : Hid (R.ringTo F (k + 1) = S) := Lib.hid (by rw [HST.out, hO, if_neg (by simp)])
          clear HST hO
          go_wp2_with fail
          go_roundw
          case rel => exact ⟨k + 1, S, A, c, by omega, HST2.out.symm, rfl, rfl, rfl, rfl, by go_num, HP3.out, HH3.out, HB3.out⟩
          case measure => simp [intOf]; omega
        · by_cases hgt : S.seq < cgS X
          · have HST2 : Hid (R.ringTo F (k + 1) = ⟨k, cgS X, cgB X, true⟩) := Lib.hid (by rw [HST.out, hO, if_pos ⟨rfl, hgt⟩])
            clear HST hO
            go_wp2_with fail
            go_roundw
            case rel => exact ⟨k + 1, ⟨k, cgS X, cgB X, true⟩, A3, c3, by omega, HST2.out.symm, rfl, rfl, rfl, rfl, by go_num, HO3.out, HH3.out, HB3.out⟩
            case measure => simp [intOf]; omega
          · have HST2 : Hid (R.ringTo F (k + 1) = S) := Lib.hid (by rw [HST.out, hO, if_neg (by omega)])
            have hgt2 : ¬ (S.seq : Int) < (cgS X : Int) := by omega
            clear HST hO
            go_wp2_with fail
            go_roundw
            case rel => exact ⟨k + 1, S, A, c, by omega, HST2.out.symm, rfl, rfl, rfl, rfl, by go_num, HP3.out, HH3.out, HB3.out⟩
            case measure => simp [intOf]; omega
      · obtain rfl : k = 4 := by omega
        obtain rfl : S = Z := HS.out.trans HZ.out
        go_wp2_with fail
        refine bodyPost_ret (results_tmp4 rfl _ _ _) rfl ?_
        exact ⟨A, c, rfl, HO.out, HH.out, HB.out⟩
  · have hd : decide (4 ≤ R.len) = false := decide_eq_false h4
    rw [hd] at hi
    have hZ : R.ringF F = ⟨0, 0, [], false⟩ := by unfold Ar.ringF; rw [if_neg h4]
    rw [hZ]
    clear h hd hZ h4
    go_enter Try.func106, Try.ntmps106
    go_wp2_with (go_at_call 108; refine (hi _ H.out.area).mono ?_; rintro e w' ⟨rfl, rfl⟩)
    (try simp only [Exit.inBlock, Exit.then])
    refine bodyPost_ret (results_tmp4 rfl _ _ _) rfl ?_
    exact ⟨none, 0, rfl, World.ownsRow_nil _ _ _ _, H.out, Below.refl _ _⟩
theorem next_h (h : HasA w0 w ab fb bb wb R F) (N : Nat) (hN : R.ringN F = N) : Calls Try.prog 107 #[ptr ab] w fun e w' =>
    e = .returned (.int .i64 (N : Int)) ∧ HasA w0 w' ab fb bb wb R F ∧ Below w.heap.size w w' := by
  have hf := find_h h
  have hat := (R.ringF_at F).1
  unfold Ar.ringN at hN
  generalize R.ringF F = Z at hf hN hat
  clear h
  obtain ⟨z1, z2, z3, z4⟩ := Z
  cases z4
  · have hN2 : N = 0 := by simpa using hN.symm
    subst hN2
    clear hN
    go_enter Try.func107, Try.ntmps107
    go_wp2_with fail
    refine hf.mono ?_
    rintro e w2 ⟨A2, c2, rfl, ho2, h2, hb2⟩
    go_wp2_with fail
    go_ret
    exact ⟨rfl, h2, hb2⟩
  · have hN2 : ((z1 : Int) + 1) % 4 = (N : Int) := by have : N = (z1 + 1) % 4 := by simpa using hN.symm
                                                      omega
    have HN := Lib.hid hN2
    have hz3 : z1 ≤ 3 := hat
    clear hN hN2 hat
    go_enter Try.func107, Try.ntmps107
    go_wp2_with fail
    refine hf.mono ?_
    rintro e w2 ⟨A2, c2, rfl, ho2, h2, hb2⟩
    go_wp2_with fail
    go_ret
    exact ⟨by rw [← HN.out]; rfl, h2, hb2⟩
set_option maxRecDepth 100000 in
theorem rmay_h (h : HasA w0 w ab fb bb wb R F) (M : Bool) (hM : R.ringM F = M) : Calls Try.prog 79 #[ptr ab] w fun e w' =>
    e = .returned (.bool M) ∧ HasA w0 w' ab fb bb wb R F ∧ Below w.heap.size w w' := by
  have hf := find_h h
  have hat := (R.ringF_at F).2
  obtain ⟨N, hN⟩ : ∃ N, R.ringN F = N := ⟨_, rfl⟩
  have hnx : ∀ W, HasA w0 W ab fb bb wb R F → Calls Try.prog 107 #[ptr ab] W fun e w' => e = .returned (.int .i64 (N : Int)) ∧ HasA w0 w' ab fb bb wb R F ∧ Below W.heap.size W w' := fun W h => next_h h N hN
  have hM2 : (decide (4 ≤ R.len) && (decide ((R.ringF F).seq + 1 ≤ 2147483647) && (R.blank F N || decide (0 < R.left F N)))) = M := by rw [← hM, ← hN]; rfl
  generalize R.ringF F = Z at hf hat hM2
  obtain ⟨z1, q, z3, z4⟩ := Z
  have hq : q ≤ 2147483647 := hat
  have hi := fun W => ringis_c (ab := ab) (fb := fb) (R := R) W F.wear.length
  have hcm : ∀ W, Calls Try.prog 109 #[.int .i64 ((q : Int) + 1)] W fun e w' => e = .returned (.bool (decide (q + 1 ≤ 2147483647))) ∧ W = w' := fun W => by
    refine (cellmay_c ((q : Int) + 1) W).mono ?_
    rintro e w' ⟨rfl, rfl⟩
    refine ⟨?_, rfl⟩
    congr 2
    apply decide_eq_decide.2
    omega
  have hbl : ∀ W : World, HasA w0 W ab fb bb wb R F → Calls Try.prog 89 #[ptr ab, .int .i64 (N : Int)] W fun e w' => e = .returned (.bool (R.blank F N)) ∧ HasA w0 w' ab fb bb wb R F ∧ Below W.heap.size W w' := fun W h => (ablank_c W N h.has.flash h.area).mono fun e w' hh => by
    obtain ⟨h1, n, rfl⟩ := hh
    exact ⟨h1, h.drewN n, below_drewN (Below.refl _ _) n⟩
  have hlf : ∀ W : World, HasA w0 W ab fb bb wb R F → Calls Try.prog 76 #[ptr ab, .int .i64 (N : Int)] W fun e w' => e = .returned (.int .i64 (R.left F N)) ∧ HasA w0 w' ab fb bb wb R F ∧ Below W.heap.size W w' := fun W h => (aleft_c W N h.has.flash h.area).mono fun e w' hh => by
    obtain ⟨h1, n, rfl⟩ := hh
    exact ⟨h1, h.drewN n, below_drewN (Below.refl _ _) n⟩
  have e1 : IntKind.i64.wrap ((q : Int) + 1) = (q : Int) + 1 := IntWalk.i64_in _ (by omega)
  have hM3 : (decide (4 ≤ R.len) && (decide (q + 1 ≤ 2147483647) && (R.blank F N || decide (0 < R.left F N)))) = M := hM2
  clear h hM hN hM2 hat hq
  generalize R.blank F N = B at hbl hM3
  generalize R.left F N = L at hlf hM3
  generalize decide (q + 1 ≤ 2147483647) = C at hcm hM3
  generalize decide (4 ≤ R.len) = D at hi hM3
  have HM := Lib.hid hM3
  clear hM3
  cases D
  case' false => skip
  case' true => cases C
  case' true.true => cases B
  case' true.true.false => by_cases hL : 0 < L
  all_goals
    have HM2 := HM.out
    simp only [Bool.false_and, Bool.true_and, Bool.false_or, Bool.true_or] at HM2
    (first | rw [decide_eq_true hL] at HM2 | rw [decide_eq_false hL] at HM2 | skip)
    subst HM2
    clear HM
    go_enter Try.func79, Try.ntmps79
    go_wp2_with fail
    refine hf.mono ?_
    rintro e w2 ⟨A2, c2, rfl, ho2, h2, hb2⟩
    have hs2 := hb2.size
    go_wp2_with fail
    refine (hnx _ h2).mono ?_
    rintro e w3 ⟨rfl, h3, hb3⟩
    have hb3 := hb2.trans (hb3.mono hs2)
    have hs3 := hb3.size
    have H3 := Lib.hid h3
    clear h2 hb2 ho2 h3
    go_wp2_with (first
      | (go_at_call 108; refine (hi _ H3.out.area).mono ?_; rintro e w' ⟨rfl, rfl⟩)
      | (go_at_call 109; refine (hcm _).mono ?_; rintro e w' ⟨rfl, rfl⟩)
      | (go_at_call 89; refine (hbl _ H3.out).mono ?_; rintro e w4 ⟨rfl, h4, hb4⟩; have H4 := Lib.hid h4; have HB4 := Lib.hid (hb3.trans (hb4.mono hs3)); clear h4 hb4)
      | (go_at_call 76; refine (hlf _ H4.out).mono ?_; rintro e w5 ⟨rfl, h5, hb5⟩; have hs4 := HB4.out.size; have H5 := Lib.hid h5; have HB5 := Lib.hid (HB4.out.trans (hb5.mono hs4)); clear h5 hb5))
    go_ret
    first
      | exact ⟨bool_ret (by first | (simp; done) | (simp; omega) | (simp only [decide_eq_false_iff_not, decide_eq_true_iff]; omega)), H5.out, HB5.out⟩
      | exact ⟨bool_ret (by simp), H4.out, HB4.out⟩
      | exact ⟨bool_ret (by simp), H3.out, hb3⟩
end
end Go.Proofs.Ytlchlcjahndjgaa
