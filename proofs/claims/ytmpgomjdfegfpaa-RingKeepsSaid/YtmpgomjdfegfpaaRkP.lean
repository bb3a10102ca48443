/- The ring under cuts: plain. -/
import Derived.Test.YtmpgomjdfegfpaaRgP
namespace Go.Proofs.Ytmpgomjdfegfpaa
open Go.RowKit
set_option linter.unusedVariables false
set_option linter.unusedSimpArgs false
theorem rk_ext (x y : UInt8) (h : ∀ i, i < 8 → x.toBitVec.getLsbD i = y.toBitVec.getLsbD i) : x = y := by
  rw [← UInt8.toBitVec_inj]
  exact BitVec.eq_of_getLsbD_eq fun i hi => h i hi
theorem rk_bit255 (i : Nat) (hi : i < 8) : ((255 : UInt8).toBitVec).getLsbD i = true := by
  have h0 : ∀ j : Fin 8, ((255 : UInt8).toBitVec).getLsbD j = true := by decide
  exact h0 ⟨i, hi⟩
/-- r has all bits of x. -/
def sup (r x : UInt8) : Prop := ∀ i, i < 8 → x.toBitVec.getLsbD i = true → r.toBitVec.getLsbD i = true
theorem sup_refl (x : UInt8) : sup x x := fun _ _ h => h
theorem sup_trans {a b c : UInt8} (h1 : sup a b) (h2 : sup b c) : sup a c := fun i hi h => h1 i hi (h2 i hi h)
theorem sup_255 (x : UInt8) : sup 255 x := fun i hi _ => rk_bit255 i hi
theorem sup_anti {a b : UInt8} (h1 : sup a b) (h2 : sup b a) : a = b := rk_ext _ _ fun i hi => by
  have q1 := h1 i hi
  have q2 := h2 i hi
  cases h3 : a.toBitVec.getLsbD i <;> cases h4 : b.toBitVec.getLsbD i <;> simp_all
theorem mix_bit (x c m : UInt8) (i : Nat) (hi : i < 8) : (mixB x c m).toBitVec.getLsbD i = (x.toBitVec.getLsbD i ^^ ((x.toBitVec.getLsbD i ^^ c.toBitVec.getLsbD i) && !m.toBitVec.getLsbD i)) := by
  unfold mixB
  simp only [UInt8.toBitVec_and, UInt8.toBitVec_not, UInt8.toBitVec_xor, BitVec.getLsbD_and, BitVec.getLsbD_not, BitVec.getLsbD_xor, hi, decide_true, Bool.true_and]
theorem sup_erase (o m : UInt8) : sup (mixB o 255 m) o := fun i hi h => by
  rw [mix_bit _ _ _ i hi, h, rk_bit255 i hi]
  simp
theorem sup_prog (c m : UInt8) : sup (mixB 255 c m) c := fun i hi h => by
  rw [mix_bit _ _ _ i hi, h, rk_bit255 i hi]
  simp
theorem sup_dual {a b c : UInt8} (h1 : sup a c) (h2 : sup b (c ^^^ 255)) (h : a = b ^^^ 255) : a = c := rk_ext _ _ fun i hi => by
  have q1 := h1 i hi
  have q2 := h2 i hi
  have q3 := congrArg (fun z : UInt8 => z.toBitVec.getLsbD i) h
  simp only [UInt8.toBitVec_xor, BitVec.getLsbD_xor, rk_bit255 i hi] at q2 q3
  cases h3 : a.toBitVec.getLsbD i <;> cases h4 : b.toBitVec.getLsbD i <;> cases h5 : c.toBitVec.getLsbD i <;> simp_all
theorem dual_cov : ∀ (l r : List UInt8), r.length = (dualP l).length → (∀ j, j < r.length → sup (r.getD j 0) ((dualP l).getD j 0)) → dualOk r = true → r = dualP l
  | [], r, hl, _, _ => List.eq_nil_of_length_eq_zero hl
  | c :: l, [], hl, _, _ => by simp [dualP] at hl
  | c :: l, [_], hl, _, _ => by simp [dualP] at hl
  | c :: l, a :: b :: r, hl, hs, ho => by
    have s0 : sup a c := hs 0 (by simp)
    have s1 : sup b (c ^^^ 255) := hs 1 (by simp)
    unfold dualOk at ho
    rw [Bool.and_eq_true, beq_iff_eq] at ho
    have e1 := sup_dual s0 s1 ho.1
    have e2 : b = c ^^^ 255 := by rw [← e1, ho.1, UInt8.xor_assoc]; simp
    have e3 := dual_cov l r (by simp [dualP] at hl; exact hl) (fun j hj => hs (j + 2) (by simp; omega)) ho.2
    rw [e1, e2, e3]
    rfl
/-- A sector that is not the one that counts: it has all bits of some cell, and is that cell only if it is an older one. -/
def Oth (r : List UInt8) (q : Nat) : Prop := ∃ s c, s ≤ 2147483647 ∧ (∀ j, j < 320 → sup (r.getD j 0) ((cellP s c).getD j 0)) ∧ (r = cellP s c → s < q)
theorem oth_less {r : List UInt8} {q : Nat} (hr : r.length = 320) (h : Oth r q) (hO : cgO r = true) : cgS r < q := by
  obtain ⟨s, c, hs, hc, hlt⟩ := h
  have h2 := hO
  unfold cgO at h2
  simp only [Bool.and_eq_true, decide_eq_true_eq] at h2
  have e : r = cellP s c := dual_cov _ r (by rw [hr]; exact (cellP_len s c).symm) (fun j hj => hc j (by omega)) h2.1.1.1
  have hN : cgN r = s := by
    unfold cgN
    rw [e, show evens (cellP s c) = be s 4 ++ padTo c 156 from evens_dualP _, List.take_append_of_le_length (by rw [be_len]; omega), List.take_of_length_le (by rw [be_len]; omega), ofBe_be4 s (by omega)]
  unfold cgS
  rw [if_pos hO, hN]
  exact hlt e
theorem oth_mono {r r' : List UInt8} {q : Nat} (hr : r.length = 320) (hr' : r'.length = 320) (h : Oth r q) (hs : ∀ j, j < 320 → sup (r'.getD j 0) (r.getD j 0)) : Oth r' q := by
  obtain ⟨s, c, h1, hc, hlt⟩ := h
  refine ⟨s, c, h1, fun j hj => sup_trans (hs j hj) (hc j hj), fun e => hlt ?_⟩
  apply List.ext_getElem (by rw [hr, cellP_len])
  intro j g1 g2
  have q1 := hs j (by omega)
  have q2 := hc j (by omega)
  rw [e] at q1
  have q3 := sup_anti q2 q1
  rw [List.getD_eq_getElem?_getD, List.getElem?_eq_getElem g1, List.getD_eq_getElem?_getD, List.getElem?_eq_getElem g2] at q3
  simpa using q3
theorem oth_up {r : List UInt8} {q q' : Nat} (h : Oth r q) (hq : q ≤ q') : Oth r q' := by
  obtain ⟨s, c, h1, hc, hlt⟩ := h
  exact ⟨s, c, h1, hc, fun e => Nat.lt_of_lt_of_le (hlt e) hq⟩
theorem oth_blank {r : List UInt8} {q : Nat} (hq : 1 ≤ q) (h : ∀ j, j < 320 → r.getD j 0 = 255) : Oth r q :=
  ⟨0, [], by omega, fun j hj => by rw [h j hj]; exact sup_255 _, fun _ => hq⟩
theorem laid_getDk (b : List UInt8) (a : Nat) (bs : List UInt8) (m : Nat → UInt8) (j : Nat) (hj : j < b.length) :
    (laid b a bs m).getD j 0 = if a ≤ j ∧ j < a + bs.length then mixB (b.getD j 0) (bs.getD (j - a) 0) (m (j - a)) else b.getD j 0 := by
  have h1 : j < (laid b a bs m).length := by rw [laid_length]; exact hj
  rw [List.getD_eq_getElem?_getD, List.getElem?_eq_getElem h1, Option.getD_some, laid_get]
  rw [List.getD_eq_getElem?_getD (l := b), List.getElem?_eq_getElem hj, Option.getD_some]
abbrev RK : Ar := ⟨0, 4, 1000⟩
/-- The ring under cuts: the cell that counts has number q and holds c; no sector was erased more than k times. -/
structure Keep (F : Fl) (q : Nat) (c : List UInt8) (k : Nat) : Prop where
  ok : F.Ok
  len : F.wear.length = 4
  off : F.off = false
  wear : ∀ i, i < 4 → F.wear.getD i 0 ≤ k
  cell : RK.sec F ((q - 1) % 4) = cellP q c
  oth : ∀ i, i < 4 → i ≠ (q - 1) % 4 → Oth (RK.sec F i) q
  q1 : 1 ≤ q
theorem rk_rok {F : Fl} (h : F.wear.length = 4) : RK.Ok F.wear.length := by rw [h]; exact ⟨by simp, by simp, by simp⟩
theorem Keep.R {F : Fl} {q k : Nat} {c : List UInt8} (h : Keep F q c k) : RK.Ok F.wear.length := rk_rok h.len
theorem Keep.F_ {F : Fl} {q k : Nat} {c : List UInt8} (h : Keep F q c k) (hq : q ≤ 1000000) : RK.ringF F = ⟨(q - 1) % 4, q, padTo c 156, true⟩ := by
  have h1 := h.q1
  obtain ⟨c1, c2, c3⟩ := cell_of q c h1 (by omega)
  rw [← h.cell] at c1 c2 c3
  have hlt : ∀ i, i < 4 → i ≠ (q - 1) % 4 → cgO (RK.sec F i) = true → cgS (RK.sec F i) < q := fun i hi hne hO => oth_less (Ar.sec_getD h.R h.ok i hi).1 (h.oth i hi hne) hO
  have hm : (q - 1) % 4 < 4 := Nat.mod_lt _ (by omega)
  have e := Ar.ringF_max (R := RK) (F := F) (Nat.le_refl 4) ((q - 1) % 4) hm c1 (fun i hi hne hO => Nat.lt_of_lt_of_eq (hlt i hi hne hO) c2.symm) (Nat.lt_of_lt_of_eq h1 c2.symm)
  exact e.trans (by rw [c2, c3])
theorem Keep.N_ {F : Fl} {q k : Nat} {c : List UInt8} (h : Keep F q c k) (hq : q ≤ 1000000) : RK.ringN F = q % 4 := by
  have h1 := h.q1
  unfold Ar.ringN
  rw [h.F_ hq]
  show ((q - 1) % 4 + 1) % 4 = q % 4
  omega
theorem Keep.same {F G : Fl} {q k k' : Nat} {c : List UInt8} (h : Keep F q c k) (hb : G.b = F.b) (hw : G.wear = F.wear) (hok : G.Ok) (hoff : G.off = false) (hk : k ≤ k') : Keep G q c k' := by
  have hs : ∀ i, RK.sec G i = RK.sec F i := fun i => by
    unfold Ar.sec Ar.read Fl.read Fl.within
    rw [hb, hw]
  refine ⟨hok, by rw [hw]; exact h.len, hoff, fun i hi => by rw [hw]; have := h.wear i hi; omega, by rw [hs]; exact h.cell, fun i hi hne => by rw [hs]; exact h.oth i hi hne, h.q1⟩
theorem Keep.set_ {F : Fl} {q k : Nat} {c : List UInt8} (h : Keep F q c k) (x : Nat) (hx : x ≤ 1000) (mask : List UInt8) (hm : mask.length ≤ 1000) : Keep (F.setCut (x : Int) mask) q c k :=
  h.same rfl rfl (Fl.setCut_ok h.ok _ (by omega) _ (by omega)) h.off (Nat.le_refl _)
/-- Work on a whole sector. -/
theorem work_sec {F : Fl} (ho : F.Ok) (hl : F.wear.length = 4) (s : Nat) (hs : s < 4) (bs : List UInt8) (hb : bs.length = 320) :
    (∀ j, j < 320 → (RK.sec (F.work (s * 320) bs) s).getD j 0 = mixB ((RK.sec F s).getD j 0) (bs.getD j 0) (F.stays j (F.cut == 0))) ∧ ∀ i, i < 4 → i ≠ s → RK.sec (F.work (s * 320) bs) i = RK.sec F i := by
  have hok := Fl.work_ok ho (s * 320) bs
  have hl' : (F.work (s * 320) bs).wear.length = 4 := hl
  have hbl := ho.len
  rw [hl] at hbl
  have hfr : ∀ i, RK.from_ + i = i := fun i => Nat.zero_add i
  have hwb : (F.work (s * 320) bs).b = laid F.b (s * 320) bs (fun i => F.stays i (F.cut == 0)) := rfl
  constructor
  · intro j hj
    rw [(Ar.sec_getD (rk_rok hl') hok s hs).2 j hj, (Ar.sec_getD (rk_rok hl) ho s hs).2 j hj]
    rw [hfr, hwb, laid_getDk _ _ _ _ _ (by omega), if_pos (by omega)]
    rw [show s * 320 + j - s * 320 = j by omega]
  · intro i hi hne
    refine Ar.sec_is (rk_rok hl') hok i hi _ (Ar.sec_getD (rk_rok hl) ho i hi).1 fun j hj => ?_
    rw [(Ar.sec_getD (rk_rok hl) ho i hi).2 j hj]
    rw [hfr, hwb, laid_getDk _ _ _ _ _ (by omega), if_neg (by omega)]
theorem power_sec (F : Fl) (i : Nat) : RK.sec F.power i = RK.sec F i := rfl
theorem rk_within {F : Fl} (hl : F.wear.length = 4) (s : Nat) (hs : s < 4) : F.within ((s * 320 : Nat) : Int) (320 : Nat) = true := by unfold Fl.within; rw [hl]; simp; omega
theorem rk_prog {F : Fl} (hl : F.wear.length = 4) (hoff : F.off = false) (s : Nat) (hs : s < 4) (X : List UInt8) (hX : X.length = 320) (hm : F.may (s * 320) X = true) :
    RK.programE F (s : Int) 0 X = F.workE ∧ RK.program F (s : Int) 0 X = F.work (s * 320) X := by
  have hw : RK.within (s : Int) 0 X.length = true := Ar.within_at s 0 X.length hs (by omega)
  have hx : (((RK.from_ : Int) + (s : Int)) * 320 + 0) = ((s * 320 : Nat) : Int) := by show ((0 : Int) + (s : Int)) * 320 + 0 = _; omega
  have hfw : F.within ((s * 320 : Nat) : Int) (X.length : Int) = true := by rw [hX]; exact rk_within hl s hs
  constructor
  · unfold Ar.programE
    rw [if_pos hw, hx]
    unfold Fl.programE
    rw [hoff, if_neg (by simp), if_pos hfw, Int.toNat_natCast, if_pos hm]
  · unfold Ar.program
    rw [if_pos hw, hx]
    unfold Fl.program
    rw [hoff, if_neg (by simp), if_pos hfw, Int.toNat_natCast, if_pos hm]
theorem prog_case {F : Fl} {q k : Nat} {c : List UInt8} (h : Keep F q c k) (hq : q < 1000000) (hbl : F.blank ((q % 4 : Nat) : Int) = true) (hcut : 0 ≤ F.cut) (b : List UInt8) :
    RK.programE F ((q % 4 : Nat) : Int) 0 (cellP (q + 1) b) = F.workE ∧
      (F.cut = 0 ∧ (Keep (RK.program F ((q % 4 : Nat) : Int) 0 (cellP (q + 1) b)).power (q + 1) b k ∨ Keep (RK.program F ((q % 4 : Nat) : Int) 0 (cellP (q + 1) b)).power q c k) ∨
       F.cut ≠ 0 ∧ Keep (RK.program F ((q % 4 : Nat) : Int) 0 (cellP (q + 1) b)).power (q + 1) b k) := by
  have hq1 := h.q1
  have hs : q % 4 < 4 := Nat.mod_lt _ (by omega)
  have hXl := cellP_len (q + 1) b
  generalize hX : cellP (q + 1) b = X at hXl
  obtain ⟨p1, p2⟩ := rk_prog h.len h.off (q % 4) hs X hXl (Fl.may_blank F _ X fun i hi => Fl.blank_getD h.ok.len _ hbl i (by omega))
  obtain ⟨w1, w2⟩ := work_sec h.ok h.len (q % 4) hs X hXl
  have hold : ∀ j, j < 320 → (RK.sec F (q % 4)).getD j 0 = 255 := fun j hj => by
    rw [(Ar.sec_getD h.R h.ok (q % 4) hs).2 j hj]
    show F.b.getD ((0 + q % 4) * 320 + j) 0 = _
    rw [Nat.zero_add]
    exact Fl.blank_getD h.ok.len _ hbl j hj
  rw [p2]
  have hok := Fl.work_ok h.ok (q % 4 * 320) X
  have hlG : (F.work (q % 4 * 320) X).wear.length = 4 := h.len
  have hpok := Fl.power_ok hok
  have hcov : ∀ j, j < 320 → sup ((RK.sec (F.work (q % 4 * 320) X) (q % 4)).getD j 0) (X.getD j 0) := fun j hj => by
    rw [w1 j hj, hold j hj]
    exact sup_prog _ _
  have hnew : RK.sec (F.work (q % 4 * 320) X) (q % 4) = X → Keep (F.work (q % 4 * 320) X).power (q + 1) b k := fun e => by
    refine ⟨hpok, h.len, rfl, h.wear, ?_, fun i hi hne => ?_, by omega⟩
    · rw [power_sec, Nat.add_sub_cancel, e, hX]
    · rw [Nat.add_sub_cancel] at hne
      rw [power_sec, w2 i hi hne]
      by_cases hi2 : i = (q - 1) % 4
      · rw [hi2, h.cell]
        exact ⟨q, c, by omega, fun j hj => sup_refl _, fun _ => by omega⟩
      · exact oth_up (h.oth i hi hi2) (by omega)
  refine ⟨p1, ?_⟩
  by_cases hc : F.cut = 0
  · refine .inl ⟨hc, ?_⟩
    by_cases e : RK.sec (F.work (q % 4 * 320) X) (q % 4) = X
    · exact .inl (hnew e)
    · refine .inr ⟨hpok, h.len, rfl, h.wear, ?_, fun i hi hne => ?_, hq1⟩
      · rw [power_sec, w2 _ (Nat.mod_lt _ (by omega)) (by omega)]
        exact h.cell
      · rw [power_sec]
        by_cases hi2 : i = q % 4
        · rw [hi2]
          refine ⟨q + 1, b, by omega, fun j hj => by rw [hX]; exact hcov j hj, fun e2 => absurd ?_ e⟩
          rw [e2, hX]
        · rw [w2 i hi hi2]
          exact h.oth i hi hne
  · refine .inr ⟨hc, hnew ?_⟩
    have hst : ∀ j, F.stays j (F.cut == 0) = 0 := fun j => by
      have : (F.cut == 0) = false := by rw [beq_eq_false_iff_ne]; exact hc
      unfold Fl.stays
      rw [this]
      rfl
    refine Ar.sec_is (rk_rok hlG) hok (q % 4) hs X hXl fun j hj => ?_
    have := (Ar.sec_getD (rk_rok hlG) hok (q % 4) hs).2 j hj
    rw [← this, w1 j hj, hst j, mixB_zero]
theorem erase_case {F : Fl} {q k : Nat} {c : List UInt8} (h : Keep F q c k) (hk : k < 1000) (hcut : 0 ≤ F.cut) (hcut2 : F.cut ≤ 1000) :
    RK.eraseE F ((q % 4 : Nat) : Int) = F.workE ∧ (F.cut = 0 → Keep (RK.erase F ((q % 4 : Nat) : Int)).power q c (k + 1)) ∧
      (F.cut ≠ 0 → Keep (RK.erase F ((q % 4 : Nat) : Int)) q c (k + 1) ∧ (RK.erase F ((q % 4 : Nat) : Int)).blank ((q % 4 : Nat) : Int) = true ∧ (RK.erase F ((q % 4 : Nat) : Int)).cut = F.cut - 1) := by
  have hq1 := h.q1
  have hs : q % 4 < 4 := Nat.mod_lt _ (by omega)
  have hw := h.wear (q % 4) hs
  have his : RK.is ((q % 4 : Nat) : Int) = true := Ar.is_at h.R _ hs
  have hfi : F.is ((q % 4 : Nat) : Int) = true := by unfold Fl.is; rw [h.len]; simp; omega
  have hl : RK.left F ((q % 4 : Nat) : Int) = 1000 - F.wear.getD (q % 4) 0 := by
    rw [Ar.left_at _ hs, Ar.wear_at _ (by rw [h.len]; show 0 + q % 4 < 4; omega)]
    show max 0 (1000 - F.wear.getD (0 + q % 4) 0) = _
    rw [Nat.zero_add]
    omega
  have hz : (RK.left F ((q % 4 : Nat) : Int) == 0) = false := by rw [hl, beq_eq_false_iff_ne]; omega
  have hx : ((RK.from_ : Int) + ((q % 4 : Nat) : Int)) = ((q % 4 : Nat) : Int) := by show (0 : Int) + _ = _; omega
  have e1 : RK.eraseE F ((q % 4 : Nat) : Int) = F.workE := by
    unfold Ar.eraseE
    rw [if_pos his, hz, if_neg (by simp), hx]
    unfold Fl.eraseE
    rw [h.off, if_neg (by simp), if_pos hfi]
  have e2 : RK.erase F ((q % 4 : Nat) : Int) = (F.worn (q % 4)).work (q % 4 * 320) (List.replicate 320 255) := by
    unfold Ar.erase
    rw [if_pos his, hz, if_neg (by simp), hx]
    unfold Fl.erase
    rw [h.off, if_neg (by simp), if_pos hfi, Int.toNat_natCast]
  rw [e2]
  have hwok : (F.worn (q % 4)).Ok := Fl.worn_ok h.ok _ (by omega)
  have hwl : (F.worn (q % 4)).wear.length = 4 := by show (F.wear.set _ _).length = 4; rw [List.length_set]; exact h.len
  have hwsec : ∀ i, RK.sec (F.worn (q % 4)) i = RK.sec F i := fun i => by
    unfold Ar.sec Ar.read Fl.read Fl.within
    rw [hwl, h.len]
    rfl
  obtain ⟨w1, w2⟩ := work_sec hwok hwl (q % 4) hs (List.replicate 320 255) List.length_replicate
  have hok := Fl.work_ok hwok (q % 4 * 320) (List.replicate 320 255)
  generalize hG : (F.worn (q % 4)).work (q % 4 * 320) (List.replicate 320 255) = G at w1 w2 hok
  have hGl : G.wear.length = 4 := by rw [← hG]; exact hwl
  have hGw : ∀ i, i < 4 → G.wear.getD i 0 ≤ ((k + 1 : Nat) : Int) := fun i hi => by
    rw [← hG]
    show (F.wear.set (q % 4) (F.wear.getD (q % 4) 0 + 1)).getD i 0 ≤ _
    rw [List.getD_eq_getElem?_getD, List.getElem?_set]
    by_cases hi2 : q % 4 = i
    · rw [if_pos hi2, if_pos (by rw [h.len]; exact hs), Option.getD_some]; omega
    · rw [if_neg hi2, ← List.getD_eq_getElem?_getD]; have := h.wear i hi; omega
  have h255 : ∀ j, j < 320 → (List.replicate 320 (255 : UInt8)).getD j 0 = 255 := fun j hj => by
    rw [List.getD_eq_getElem?_getD, List.getElem?_replicate, if_pos hj]
    rfl
  have hoth : ∀ i, i < 4 → i ≠ (q - 1) % 4 → Oth (RK.sec G i) q := fun i hi hne => by
    by_cases hi2 : i = q % 4
    · refine oth_mono (Ar.sec_getD h.R h.ok i hi).1 (Ar.sec_getD (rk_rok hGl) hok i hi).1 (h.oth i hi hne) fun j hj => ?_
      rw [hi2, w1 j hj, hwsec, h255 j hj]
      exact sup_erase _ _
    · rw [w2 i hi hi2, hwsec]
      exact h.oth i hi hne
  have hcell : RK.sec G ((q - 1) % 4) = cellP q c := by
    rw [w2 _ (Nat.mod_lt _ (by omega)) (by omega), hwsec]
    exact h.cell
  refine ⟨e1, fun hc => ?_, fun hc => ?_⟩
  · exact ⟨Fl.power_ok hok, hGl, rfl, hGw, hcell, hoth, hq1⟩
  · have hoff : G.off = false := by
      rw [← hG]
      show (F.off || F.cut == 0) = false
      rw [h.off]
      simpa using hc
    refine ⟨⟨hok, hGl, hoff, hGw, hcell, hoth, hq1⟩, ?_, ?_⟩
    · refine Fl.blank_of hok.len (q % 4) (by rw [hGl]; exact hs) fun j hj => ?_
      have := (Ar.sec_getD (rk_rok hGl) hok (q % 4) hs).2 j hj
      have e : (RK.sec G (q % 4)).getD j 0 = G.b.getD (q % 4 * 320 + j) 0 := by
        rw [this]
        show G.b.getD ((0 + q % 4) * 320 + j) 0 = _
        rw [Nat.zero_add]
      have hst : (F.worn (q % 4)).stays j ((F.worn (q % 4)).cut == 0) = 0 := by
        have : ((F.worn (q % 4)).cut == 0) = false := by rw [beq_eq_false_iff_ne]; exact hc
        unfold Fl.stays
        rw [this]
        rfl
      rw [← e, w1 j hj, hst, mixB_zero, h255 j hj]
    · rw [← hG]
      show (if 0 ≤ F.cut then F.cut - 1 else F.cut) = _
      rw [if_pos hcut]
theorem keep_put {F : Fl} {q k : Nat} {c : List UInt8} (h : Keep F q c k) (hq : q < 1000) (hk : k < 1000) (hcut : 0 ≤ F.cut) (hcut2 : F.cut ≤ 1000) (b : List UInt8) (hb : b.length ≤ 156) :
    (RK.ringE F b = 0 ∨ RK.ringE F b = 4) ∧ Keep (RK.ringP F b).power (q + 1) b (k + 1) ∨ RK.ringE F b = 4 ∧ Keep (RK.ringP F b).power q c (k + 1) := by
  have hN := h.N_ (by omega)
  have hF := h.F_ (by omega)
  have hs : q % 4 < 4 := Nat.mod_lt _ (by omega)
  have hw := h.wear (q % 4) hs
  have hl : RK.left F ((q % 4 : Nat) : Int) = 1000 - F.wear.getD (q % 4) 0 := by
    rw [Ar.left_at _ hs, Ar.wear_at _ (by rw [h.len]; show 0 + q % 4 < 4; omega)]
    show max 0 (1000 - F.wear.getD (0 + q % 4) 0) = _
    rw [Nat.zero_add]
    omega
  have hmay : RK.mayC F ((q % 4 : Nat) : Int) = true := by
    unfold Ar.mayC
    rw [Bool.or_eq_true]
    right
    rw [decide_eq_true_eq, hl]
    omega
  have hM : RK.ringM F = true := by
    unfold Ar.ringM
    rw [hN, hmay, hF]
    simp
    omega
  have hXl := cellP_len (q + 1) b
  have hE : RK.ringE F b = RK.chunkE F ((q % 4 : Nat) : Int) (cellP (q + 1) b) := by
    unfold Ar.ringE
    rw [if_neg (by show ¬ 4 < 4; omega), if_neg (by omega), if_neg (by rw [hM]; simp), hN, hF]
  have hP : RK.ringP F b = RK.chunk F ((q % 4 : Nat) : Int) (cellP (q + 1) b) := by
    unfold Ar.ringP
    rw [if_neg (by show ¬ 4 < 4; omega), if_neg (by omega), if_neg (by rw [hM]; simp), hN, hF]
  rw [hE, hP]
  have n1 : ¬ (((q % 4 : Nat) : Int) = -1 ∨ 320 < (cellP (q + 1) b).length) := by omega
  have n2 : ¬ (cellP (q + 1) b).length = 0 := by omega
  have hbs : RK.blank F ((q % 4 : Nat) : Int) = F.blank ((q % 4 : Nat) : Int) := by
    rw [Ar.blank_at _ hs]
    show F.blank ((0 + q % 4 : Nat) : Int) = _
    rw [Nat.zero_add]
  have wE : F.workE = if F.cut = 0 then 4 else 0 := by unfold Fl.workE; by_cases hc : F.cut = 0 <;> simp [hc]
  have mono : ∀ {G : Fl} {q' : Nat} {c' : List UInt8}, Keep G q' c' k → Keep G q' c' (k + 1) := fun g => ⟨g.ok, g.len, g.off, fun i hi => by have := g.wear i hi; omega, g.cell, g.oth, g.q1⟩
  cases hB : F.blank ((q % 4 : Nat) : Int)
  · rw [hB] at hbs
    obtain ⟨p1, p2, p3⟩ := erase_case h hk hcut hcut2
    by_cases hc : F.cut = 0
    · have e4 : RK.eraseE F ((q % 4 : Nat) : Int) = 4 := by rw [p1, wE, if_pos hc]
      have k1 : RK.chunkE F ((q % 4 : Nat) : Int) (cellP (q + 1) b) = 4 := by unfold Ar.chunkE; rw [if_neg n1, hmay, if_neg (by simp), hbs, if_neg (by simp), if_neg (by rw [e4]; omega), e4]
      have k2 : RK.chunk F ((q % 4 : Nat) : Int) (cellP (q + 1) b) = RK.erase F ((q % 4 : Nat) : Int) := by unfold Ar.chunk; rw [if_neg n1, hmay, if_neg (by simp), hbs, if_neg (by simp), if_neg (by rw [e4]; omega)]
      rw [k1, k2]
      exact .inr ⟨rfl, p2 hc⟩
    · have e0 : RK.eraseE F ((q % 4 : Nat) : Int) = 0 := by rw [p1, wE, if_neg hc]
      obtain ⟨q1, q2, q3⟩ := p3 hc
      generalize hG : RK.erase F ((q % 4 : Nat) : Int) = G at q1 q2 q3
      have k1 : RK.chunkE F ((q % 4 : Nat) : Int) (cellP (q + 1) b) = RK.programE G ((q % 4 : Nat) : Int) 0 (cellP (q + 1) b) := by unfold Ar.chunkE; rw [if_neg n1, hmay, if_neg (by simp), hbs, if_neg (by simp), if_pos e0, if_neg n2, hG]
      have k2 : RK.chunk F ((q % 4 : Nat) : Int) (cellP (q + 1) b) = RK.program G ((q % 4 : Nat) : Int) 0 (cellP (q + 1) b) := by unfold Ar.chunk; rw [if_neg n1, hmay, if_neg (by simp), hbs, if_neg (by simp), if_pos e0, if_neg n2, hG]
      rw [k1, k2]
      obtain ⟨r1, r2⟩ := prog_case q1 (by omega) q2 (by omega) b
      have wG : G.workE = if G.cut = 0 then 4 else 0 := by unfold Fl.workE; by_cases hc : G.cut = 0 <;> simp [hc]
      rcases r2 with ⟨d1, d2 | d2⟩ | ⟨d1, d2⟩
      · exact .inl ⟨.inr (by rw [r1, wG, if_pos d1]), d2⟩
      · exact .inr ⟨by rw [r1, wG, if_pos d1], d2⟩
      · exact .inl ⟨.inl (by rw [r1, wG, if_neg d1]), d2⟩
  · rw [hB] at hbs
    have k1 : RK.chunkE F ((q % 4 : Nat) : Int) (cellP (q + 1) b) = RK.programE F ((q % 4 : Nat) : Int) 0 (cellP (q + 1) b) := by unfold Ar.chunkE; rw [if_neg n1, hmay, if_neg (by simp), hbs, if_pos rfl, if_neg n2]
    have k2 : RK.chunk F ((q % 4 : Nat) : Int) (cellP (q + 1) b) = RK.program F ((q % 4 : Nat) : Int) 0 (cellP (q + 1) b) := by unfold Ar.chunk; rw [if_neg n1, hmay, if_neg (by simp), hbs, if_pos rfl, if_neg n2]
    rw [k1, k2]
    obtain ⟨r1, r2⟩ := prog_case h (by omega) hB hcut b
    rcases r2 with ⟨d1, d2 | d2⟩ | ⟨d1, d2⟩
    · exact .inl ⟨.inr (by rw [r1, wE, if_pos d1]), mono d2⟩
    · exact .inr ⟨by rw [r1, wE, if_pos d1], mono d2⟩
    · exact .inl ⟨.inl (by rw [r1, wE, if_neg d1]), mono d2⟩
/-- Behind the first put. -/
theorem keep_start {F : Fl} {v : Nat → List UInt8} (h : PutsAt 1000 F v 1) : Keep F 1 (v 0) 0 := by
  have hR := puts_rok h (by omega)
  refine ⟨h.ok, h.len, h.calm.off, fun i hi => ?_, h.held 0 (by omega) (by omega), fun i hi hne => ?_, Nat.le_refl _⟩
  · rw [h.wear i hi]
    omega
  · have hb := h.blank i hi (by omega)
    refine oth_blank (by omega) fun j hj => ?_
    rw [(Ar.sec_getD (R := RK) hR h.ok i hi).2 j hj]
    show F.b.getD ((0 + i) * 320 + j) 0 = _
    rw [Nat.zero_add]
    exact Fl.blank_getD h.ok.len i hb j hj
end Go.Proofs.Ytmpgomjdfegfpaa
