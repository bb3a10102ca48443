/- The reference's RightMeta: may a Meta be? · Plain laws of chapter 17: the two words for 'may be kept' are one; what a worn tenant's requests do. · What requests do to what may be kept: it may be kept again (plain). -/
import Derived.Test.YtpafenlcgcenlaaGreatDoorUpC
import Derived.Test.YtpafenlcgcenlaaGreatDoorUp15
namespace Go.Proofs.YtpafenlcgcenlaaGreatDoor
open Go Go.RowKit
set_option linter.unusedVariables false
set_option linter.unusedSimpArgs false
attribute [local go_sem ↓] sldI_seal sldM_seal
theorem rchunks12_c (n : Int) (hn : -9223372036854775808 ≤ n ∧ n ≤ 9223372036854775807) (w : World) : Calls Tryz.prog 42 #[.int .i64 n] w fun e w' => e = .returned (.int .i64 (chunksZ n)) ∧ w = w' := by
  unfold chunksZ
  by_cases h : n < 1
  · rw [if_pos h]
    go_enter Tryz.func42, Tryz.ntmps42
    go_wp2_with fail
    go_ret
    exact ⟨rfl, rfl⟩
  · rw [if_neg h]
    go_enter Tryz.func42, Tryz.ntmps42
    go_wp2_with fail
    go_ret
    exact ⟨rfl, rfl⟩
def Img.rmay (i : Img) (no : Bool) : Bool := if i.none = true then true else !no && (decide (1 ≤ i.v) && (decide (i.v ≤ 1073741824) && (decide (1 ≤ i.s) && decide (i.s ≤ 1920))))
def rphase (ph got tr K : Int) (C O : Bool) : Bool :=
  if ph = 0 then !C && (got == 0 && tr == 0) else if ph = 1 then C && (!O && (tr == 0 && decide (got ≤ K))) else if ph = 2 then C && (!O && (tr == 0 && got == K)) else if ph = 3 then !C && (got == 0 && O) else false
def Mt.rright (m : Mt) : Bool :=
  decide (0 ≤ m.act) && (decide (m.act ≤ 1) && (m.h0.rmay false && (m.h1.rmay false && (!((m.have_ m.act).v == 0) && (decide (0 ≤ m.mn) && (decide (m.mn ≤ 1073741824) && (decide (0 ≤ m.got) && (decide (m.got ≤ 6) && (decide (0 ≤ m.tr) && (decide (m.tr ≤ 2) &&
    (m.cm.rmay (!decide (0 < m.cm.v)) && rphase m.ph m.got m.tr (chunksZ m.cm.s) (decide (0 < m.cm.v)) (decide (0 < m.oth.v)))))))))))))
end Go.Proofs.YtpafenlcgcenlaaGreatDoor
namespace Go.Proofs.YtpafenlcgcenlaaGreatDoor
open Go Go.RowKit
set_option linter.unusedVariables false
set_option linter.unusedSimpArgs false
theorem Img.none_z {i : Img} (h : i.none = true) : i.v = 0 ∧ i.s = 0 := by
  rw [(Img.same_iff _ _).1 h]
  exact ⟨rfl, rfl⟩
theorem Img.rmay_may (i : Img) : i.rmay false = i.may := by
  unfold Img.rmay Img.may
  by_cases hn : i.none = true
  · obtain ⟨hv, hs⟩ := Img.none_z hn
    rw [if_pos hn, if_pos hv, hn]
  · have hf : i.none = false := by simpa using hn
    rw [if_neg hn, hf]
    by_cases hv : i.v = 0
    · rw [if_pos hv]
      simp [hv]
    · rw [if_neg hv]
      by_cases hs : i.s = 0
      · rw [if_pos hs]
        simp [hs]
      · rw [if_neg hs]
        rw [Bool.eq_iff_iff]
        simp
        omega
theorem Img.may_v {i : Img} (h : i.may = true) : i.none = (i.v == 0) := by
  unfold Img.may at h
  by_cases hv : i.v = 0
  · rw [if_pos hv] at h
    simp [h, hv]
  · have : i.none = false := by
      cases hn : i.none
      · rfl
      · exact absurd (Img.none_z hn).1 hv
    simp [this, hv]
theorem Img.rmay_c (i : Img) : i.rmay (!decide (0 < i.v)) = i.may := by
  by_cases hv : 0 < i.v
  · rw [decide_eq_true hv]
    exact Img.rmay_may i
  · rw [decide_eq_false hv]
    unfold Img.rmay Img.may
    by_cases hn : i.none = true
    · obtain ⟨h0, hs⟩ := Img.none_z hn
      rw [if_pos hn, if_pos h0, hn]
    · have hf : i.none = false := by simpa using hn
      rw [if_neg hn]
      by_cases h0 : i.v = 0
      · rw [if_pos h0, hf]; rfl
      · rw [if_neg h0]
        by_cases hs : i.s = 0
        · rw [if_pos hs, hf]; rfl
        · rw [if_neg hs]
          simp
          omega
theorem chk_chunks (s : Int) (h : 0 ≤ s) : (s + 319) / 320 = chunksZ s := by
  unfold chunksZ
  split <;> omega
theorem Mt.have_may {m : Mt} (h0 : m.h0.may = true) (h1 : m.h1.may = true) (x : Int) : (m.have_ x).may = true := by
  unfold Mt.have_
  split <;> assumption
theorem Mt.rright_eq (m : Mt) : m.rright = m.right := by
  unfold Mt.rright Mt.right
  rw [Img.rmay_may, Img.rmay_may, Img.rmay_c]
  by_cases h0 : m.h0.may = true
  · by_cases h1 : m.h1.may = true
    · by_cases hc : m.cm.may = true
      · have ha := Img.may_v (Mt.have_may h0 h1 m.act)
        have ho := Img.may_v (Mt.have_may h0 h1 (1 - m.act))
        have hcv := Img.may_v hc
        have hob := (Img.may_b (Mt.have_may h0 h1 (1 - m.act))).1
        have hcb := Img.may_b hc
        have hph : rphase m.ph m.got m.tr (chunksZ m.cm.s) (decide (0 < m.cm.v)) (decide (0 < m.oth.v)) = m.phaseB := by
          unfold Mt.phaseB rphase Img.chk
          rw [chk_chunks _ hcb.2.1, hcv, show m.oth.none = (m.oth.v == 0) from ho]
          have e1 : decide (0 < m.cm.v) = !(m.cm.v == 0) := by
            rw [Bool.eq_iff_iff]; simp; omega
          have e2 : decide (0 < m.oth.v) = !(m.oth.v == 0) := by
            have : 0 ≤ m.oth.v := hob.1
            rw [Bool.eq_iff_iff]; simp; omega
          rw [e1, e2]
          by_cases p0 : m.ph = 0
          · rw [if_pos p0, if_pos p0]; simp
          · rw [if_neg p0, if_neg p0]
            by_cases p1 : m.ph = 1
            · rw [if_pos p1, if_pos (Or.inl p1), p1]
              cases hx : (m.cm.v == 0) <;> cases hy : (m.oth.v == 0) <;> simp
              rw [Bool.eq_iff_iff]
              simp
              omega
            · rw [if_neg p1]
              by_cases p2 : m.ph = 2
              · rw [if_pos p2, if_pos (Or.inr p2), p2]
                cases hx : (m.cm.v == 0) <;> cases hy : (m.oth.v == 0) <;> simp
              · rw [if_neg p2, if_neg (show ¬ (m.ph = 1 ∨ m.ph = 2) from fun h => h.elim p1 p2)]
                by_cases p3 : m.ph = 3
                · rw [if_pos p3, if_pos p3]; simp
                · rw [if_neg p3, if_neg p3]
        rw [hph, h0, h1, hc, ha]
        simp
      · have hc2 : m.cm.may = false := by simpa using hc
        rw [hc2]
        simp
    · have h2 : m.h1.may = false := by simpa using h1
      rw [h2]
      simp
  · have h2 : m.h0.may = false := by simpa using h0
    rw [h2]
    simp
/-- What Do does: the whole. -/
def doA (m : Mt) (f : Fc) (k n : Int) (l : List UInt8) (qu : Int) : Ch := doD m f k n (l.length : Int) (beginD m f l qu)
theorem beginD_ok {m : Mt} (h : m.Ok) (f : Fc) (l : List UInt8) (qu : Int) : (beginD m f l qu).m.Ok := oneD_ok (Mt.beginT_ok h l) _
theorem doA_ok {m : Mt} (h : m.Ok) (f : Fc) (k n : Int) (l : List UInt8) (qu : Int) : (doA m f k n l qu).m.Ok := doD_ok h f k n _ _ (fun _ _ => beginD_ok h f l qu)
theorem doA_c (w : World) (m : Mt) (h : m.Ok) (qk qn : Int) (SB : Option Addr) (sl sc : Nat) (l : List UInt8) (hr : Reads w SB sl (l.map u8v)) (hsl : sl ≤ 1000) (f : Fc) (hf : f.d.length = 32) (qu : Int) :
    Calls Tryz.prog 30 #[.agg m.cells.toArray, .agg #[.int .i64 qk, .int .i64 qn, .slice SB sl sc], .agg f.cells.toArray, .int .i64 qu] w fun e w' => e = .returned (doA m f qk qn l qu).res ∧ Below w.heap.size w w' := by
  have hl : l.length = sl := by simpa using hr.len
  unfold doA
  rw [hl]
  refine do_c w m h qk qn SB sl sc (by simp only [maxLen]; omega) f hf qu _ (fun _ _ => beginD_ok h f l qu) (fun hri _ W hW => ?_)
  have hrW : Reads W SB sl (l.map u8v) := hr.below hW
  exact begin_c W m h (Mt.right_b hri).1 qk qn SB sl sc l hrW hsl f hf qu
/-! ### a worn tenant -/
theorem doA_right {m : Mt} (hr : m.right = true) (f : Fc) (k n : Int) (l : List UInt8) (qu : Int) :
    ((doesD m f k n (l.length : Int) (beginD m f l qu)).e = 0 → doA m f k n l qu = doesD m f k n (l.length : Int) (beginD m f l qu)) ∧
    ((doesD m f k n (l.length : Int) (beginD m f l qu)).e ≠ 0 → (doA m f k n l qu).m = m ∧ (doA m f k n l qu).e ≠ 0) := by
  unfold doA doD
  rw [if_neg (by rw [hr]; decide)]
  refine ⟨fun h => by rw [if_pos h], fun h => by rw [if_neg h]; exact ⟨rfl, h⟩⟩
end Go.Proofs.YtpafenlcgcenlaaGreatDoor
namespace Go.Proofs.YtpafenlcgcenlaaGreatDoor
open Go Go.RowKit
set_option linter.unusedVariables false
set_option linter.unusedSimpArgs false
structure RightP (m : Mt) : Prop where
  act : m.act = 0 ∨ m.act = 1
  h0 : m.h0.may = true
  h1 : m.h1.may = true
  cm : m.cm.may = true
  here : (m.have_ m.act).none = false
  mn : 0 ≤ m.mn ∧ m.mn ≤ 1073741824
  got : 0 ≤ m.got ∧ m.got ≤ 6
  tr : 0 ≤ m.tr ∧ m.tr ≤ 2
  ph : m.phaseB = true
theorem right_iff (m : Mt) : m.right = true ↔ RightP m := by
  unfold Mt.right
  simp only [Bool.and_eq_true, decide_eq_true_eq, Bool.not_eq_true']
  constructor
  · rintro ⟨a1, a2, a3, a4, a5, a6, a7, a8, a9, a10, a11, a12, a13⟩
    exact ⟨by omega, a3, a4, a5, a6, ⟨a7, a8⟩, ⟨a9, a10⟩, ⟨a11, a12⟩, a13⟩
  · rintro ⟨a, b, c, d, e, f, g, h, i⟩
    exact ⟨by omega, by omega, b, c, d, e, f.1, f.2, g.1, g.2, h.1, h.2, i⟩
theorem zero_may : Img.zero.may = true := rfl
theorem zero_none : Img.zero.none = true := rfl
theorem phase0 {m : Mt} (h : m.ph = 0) : m.phaseB = (m.cm.none && (m.got == 0 && m.tr == 0)) := by unfold Mt.phaseB; rw [if_pos h]
theorem phase1 {m : Mt} (h : m.ph = 1) : m.phaseB = (!m.cm.none && (m.oth.none && (m.tr == 0 && (m.got == m.cm.chk || decide (m.got < m.cm.chk))))) := by
  unfold Mt.phaseB
  rw [if_neg (by omega), if_pos (Or.inl h), h]
  rfl
theorem phase2 {m : Mt} (h : m.ph = 2) : m.phaseB = (!m.cm.none && (m.oth.none && (m.tr == 0 && m.got == m.cm.chk))) := by
  unfold Mt.phaseB
  rw [if_neg (by omega), if_pos (Or.inr h), h]
  simp
theorem phase3 {m : Mt} (h : m.ph = 3) : m.phaseB = (m.cm.none && (m.got == 0 && !m.oth.none)) := by
  unfold Mt.phaseB
  rw [if_neg (by omega), if_neg (by omega), if_pos h]
theorem have_congr {m m' : Mt} (h0 : m'.h0 = m.h0) (h1 : m'.h1 = m.h1) (x : Int) : m'.have_ x = m.have_ x := by unfold Mt.have_; rw [h0, h1]
theorem got0 : (0 : Int) ≤ 0 ∧ (0 : Int) ≤ 6 := by decide
theorem tr0 : (0 : Int) ≤ 0 ∧ (0 : Int) ≤ 2 := by decide
theorem tr2 : (0 : Int) ≤ 2 ∧ (2 : Int) ≤ 2 := by decide
theorem RightP.idle {m : Mt} (h : RightP m) : RightP m.idle :=
  ⟨h.act, h.h0, h.h1, zero_may, by exact h.here, h.mn, got0, tr0, by rw [phase0 rfl]; rfl⟩
theorem alone_have {m : Mt} (ha : m.act = 0 ∨ m.act = 1) : m.alone.have_ m.act = m.have_ m.act ∧ m.alone.oth = Img.zero ∧ m.alone.act = m.act ∧ m.alone.mn = m.mn ∧ m.alone.cm = m.cm ∧ m.alone.ph = m.ph ∧ m.alone.got = m.got ∧ m.alone.tr = m.tr := by
  unfold Mt.alone Mt.oth Mt.have_
  rcases ha with h | h
  · rw [if_pos h]
    simp [h]
  · rw [if_neg (by omega)]
    simp [h]
theorem alone_may {m : Mt} (h0 : m.h0.may = true) (h1 : m.h1.may = true) : m.alone.h0.may = true ∧ m.alone.h1.may = true := by
  unfold Mt.alone
  split
  · exact ⟨h0, zero_may⟩
  · exact ⟨zero_may, h1⟩
theorem RightP.idle_alone {m : Mt} (h : RightP m) : RightP m.idle.alone := by
  have hi := h.idle
  obtain ⟨a1, a2, a3, a4, a5, a6, a7, a8⟩ := alone_have hi.act
  obtain ⟨b0, b1⟩ := alone_may hi.h0 hi.h1
  exact ⟨by rw [a3]; exact hi.act, b0, b1, by rw [a5]; exact hi.cm, by rw [a3, a1]; exact hi.here, by rw [a4]; exact hi.mn, by rw [a7]; exact hi.got, by rw [a8]; exact hi.tr, by rw [phase0 (by rw [a6]; rfl), a5, a7, a8]; rfl⟩
theorem wh_zero {b : Bool} {e : Int} (h : wh b e = 0) (he : e ≠ 0) : b = false := by
  unfold wh at h
  cases b
  · rfl
  · exact absurd h he
theorem oneD_zero {m : Mt} {l : List Int} (h : (oneD m l).e = 0) : oneD m l = ⟨m, 0, 0, 0⟩ ∧ ∀ e ∈ l, e = 0 := by
  have h1 : firstE l = 0 := by
    unfold oneD at h
    split at h
    · assumption
    · exact h
  refine ⟨by unfold oneD; rw [if_pos h1], ?_⟩
  clear h
  induction l with
  | nil => intro e he; cases he
  | cons a l ih =>
    unfold firstE at h1
    split at h1
    · rename_i ha
      intro e he
      rcases List.mem_cons.1 he with rfl | he
      · exact ha
      · exact ih h1 e he
    · exact absurd h1 (by assumption)
theorem RightP.chunks {m : Mt} (h : RightP m) : m.cm.chk = chunksZ m.cm.s ∧ 0 ≤ chunksZ m.cm.s ∧ chunksZ m.cm.s ≤ 6 := by
  obtain ⟨_, h1, h2⟩ := Img.may_b h.cm
  refine ⟨chk_chunks _ h1, ?_, ?_⟩
  · unfold chunksZ; split <;> omega
  · unfold chunksZ; split <;> omega
/-- What a request keeps right. -/
structure Kept17 (m m' : Mt) (k : Int) : Prop where
  r : RightP m'
  mn : m.mn ≤ m'.mn
  act : m'.act = m.act ∨ (k = 6 ∧ m.ph = 3)
theorem begin_keeps {m : Mt} (h : RightP m) (f : Fc) (l : List UInt8) (qu : Int) (he : (beginD m f l qu).e = 0) : Kept17 m (beginD m f l qu).m 1 := by
  unfold beginD at he ⊢
  obtain ⟨e0, hz⟩ := oneD_zero he
  rw [e0]
  have z1 := wh_zero (hz (wh (m.ph != 0) 11) (by simp)) (by decide)
  have z2 : mE l = 0 := hz (mE l) (by simp)
  have z5 := hz (wh (!(m.vmay (mX l).v)) 9) (by simp)
  have z6 := hz (wh (decide (min qu 6 < chunksZ (mX l).s)) 10) (by simp)
  have z5 := wh_zero z5 (by decide)
  have z6 := wh_zero z6 (by decide)
  have hph : m.ph = 0 := by simpa using z1
  have hp := h.ph
  rw [phase0 hph] at hp
  simp at hp
  obtain ⟨hcn, hgot, htr⟩ := hp
  have hX : mX l = mImg l ∧ mOk l = true := by
    unfold mE at z2
    split at z2
    · rename_i hh
      unfold mX
      rw [if_pos hh]
      exact ⟨rfl, hh.2⟩
    · cases z2
  have hok := hX.2
  unfold mOk mNum at hok
  simp only [Bool.and_eq_true, decide_eq_true_eq] at hok
  rw [← hX.1] at hok
  have hk : chunksZ (mX l).s ≤ 6 := by
    simp at z6
    omega
  have hs : (mX l).s ≤ 1920 := by
    unfold chunksZ at hk
    split at hk <;> omega
  have hmay : (mX l).may = true := by
    unfold Img.may
    rw [if_neg (by omega), if_neg (by omega)]
    simp
    omega
  have hnn : (mX l).none = false := by
    rw [Img.may_v hmay]
    simp
    omega
  obtain ⟨a1, a2, a3, a4, a5, a6, a7, a8⟩ := alone_have h.act
  obtain ⟨b0, b1⟩ := alone_may h.h0 h.h1
  refine ⟨⟨?_, b0, b1, hmay, ?_, ?_, ?_, ?_, ?_⟩, ?_, Or.inl a3⟩
  · show m.alone.act = 0 ∨ m.alone.act = 1
    rw [a3]; exact h.act
  · show (m.alone.have_ m.alone.act).none = false
    rw [a3, a1]
    exact h.here
  · show 0 ≤ m.alone.mn ∧ m.alone.mn ≤ _
    rw [a4]; exact h.mn
  · show 0 ≤ m.alone.got ∧ m.alone.got ≤ 6
    rw [a7]; exact h.got
  · show 0 ≤ m.alone.tr ∧ m.alone.tr ≤ 2
    rw [a8]; exact h.tr
  · rw [phase1 rfl]
    have o1 : (m.beginT l).oth = m.alone.oth := have_congr rfl rfl _
    have hg : (m.beginT l).got = 0 := a7.trans hgot
    have ht : (m.beginT l).tr = 0 := a8.trans htr
    have hc : (m.beginT l).cm = mX l := rfl
    rw [o1, a2, hg, ht, hc, hnn]
    have : 0 ≤ (mX l).chk := by unfold Img.chk; omega
    rw [zero_none]
    simp
    omega
  · show m.mn ≤ m.alone.mn
    rw [a4]; exact Int.le_refl _
theorem does_keeps {m : Mt} (h : RightP m) (f : Fc) (k n : Int) (l : List UInt8) (qu : Int) (he : (doesD m f k n (l.length : Int) (beginD m f l qu)).e = 0) : Kept17 m (doesD m f k n (l.length : Int) (beginD m f l qu)).m k := by
  obtain ⟨ck, c0, c6⟩ := h.chunks
  unfold doesD at he ⊢
  split at he
  · rename_i hk
    rw [if_pos hk, hk]
    exact begin_keeps h f l qu he
  rename_i n1
  rw [if_neg n1]
  split at he
  · rename_i hk
    rw [if_pos hk]
    obtain ⟨e0, hz⟩ := oneD_zero he
    rw [e0]
    have z1 := wh_zero (hz (wh (m.ph != 1) 11) (by simp)) (by decide)
    have z2 := wh_zero (hz (wh (n != m.got || decide (chunksZ m.cm.s ≤ m.got)) 12) (by simp)) (by decide)
    have hph : m.ph = 1 := by simpa using z1
    simp at z2
    have hp := h.ph
    rw [phase1 hph] at hp
    simp at hp
    have hg := h.got
    refine ⟨⟨h.act, h.h0, h.h1, h.cm, by exact h.here, h.mn, ?_, h.tr, ?_⟩, Int.le_refl _, Or.inl rfl⟩
    · show 0 ≤ m.got + 1 ∧ m.got + 1 ≤ 6
      omega
    · rw [phase1 (by exact hph)]
      have o1 : ({ m with got := m.got + 1 } : Mt).oth = m.oth := have_congr rfl rfl _
      rw [o1]
      simp only [hp.1, hp.2.1, hp.2.2.1, ck]
      simp
      omega
  rename_i n2
  rw [if_neg n2]
  split at he
  · rename_i hk
    rw [if_pos hk]
    obtain ⟨e0, hz⟩ := oneD_zero he
    rw [e0]
    have z1 := wh_zero (hz (wh (m.ph != 1) 11) (by simp)) (by decide)
    have z2 := wh_zero (hz (wh (decide (m.got < chunksZ m.cm.s)) 12) (by simp)) (by decide)
    have hph : m.ph = 1 := by simpa using z1
    simp at z2
    have hp := h.ph
    rw [phase1 hph] at hp
    simp at hp
    refine ⟨⟨h.act, h.h0, h.h1, h.cm, by exact h.here, h.mn, h.got, h.tr, ?_⟩, Int.le_refl _, Or.inl rfl⟩
    rw [phase2 rfl]
    have o1 : ({ m with ph := 2 } : Mt).oth = m.oth := have_congr rfl rfl _
    rw [o1]
    simp only [hp.1, hp.2.1, hp.2.2.1, ck]
    have := hp.2.2.2
    rw [ck] at this
    simp
    omega
  rename_i n3
  rw [if_neg n3]
  split at he
  · rename_i hk
    rw [if_pos hk]
    obtain ⟨e0, hz⟩ := oneD_zero he
    rw [e0]
    have z1 := wh_zero (hz (wh (m.ph != 2) 11) (by simp)) (by decide)
    have hph : m.ph = 2 := by simpa using z1
    have hp := h.ph
    rw [phase2 hph] at hp
    simp at hp
    refine ⟨?_, ?_, Or.inl ?_⟩
    · unfold Mt.commitT
      rcases h.act with ha | ha
      · rw [if_pos ha]
        refine ⟨h.act, h.h0, h.cm, zero_may, ?_, h.mn, got0, tr2, ?_⟩
        · have q := h.here
          unfold Mt.have_ at q ⊢
          rw [ha] at q
          show (if m.act = 0 then m.h0 else m.cm).none = false
          rw [if_pos ha]
          simpa using q
        · rw [phase3 rfl]
          have o1 : ({ m.idle with ph := 3, tr := 2, h1 := m.cm } : Mt).oth = m.cm := Mt.oth0 (by exact ha)
          rw [o1, hp.1]
          rfl
      · rw [if_neg (by omega)]
        refine ⟨h.act, h.cm, h.h1, zero_may, ?_, h.mn, got0, tr2, ?_⟩
        · have q := h.here
          unfold Mt.have_ at q ⊢
          rw [ha] at q
          show (if m.act = 0 then m.cm else m.h1).none = false
          rw [if_neg (by omega)]
          simpa using q
        · rw [phase3 rfl]
          have o1 : ({ m.idle with ph := 3, tr := 2, h0 := m.cm } : Mt).oth = m.cm := Mt.oth1 (by exact ha)
          rw [o1, hp.1]
          rfl
    · unfold Mt.commitT
      split <;> exact Int.le_refl _
    · unfold Mt.commitT
      split <;> rfl
  rename_i n4
  rw [if_neg n4]
  split at he
  · rename_i hk
    rw [if_pos hk]
    unfold Mt.bootD
    split
    · rename_i hb
      split
      · obtain ⟨a1, a2, a3, a4, a5, a6, a7, a8⟩ := alone_have h.idle.act
        exact ⟨h.idle_alone, by show m.mn ≤ m.idle.alone.mn; rw [a4]; exact Int.le_refl _, Or.inl a3⟩
      · have ht := h.tr
        have hp := h.ph
        rw [phase3 hb.1] at hp
        refine ⟨⟨h.act, h.h0, h.h1, h.cm, by exact h.here, h.mn, h.got, ?_, ?_⟩, Int.le_refl _, Or.inl rfl⟩
        · show 0 ≤ m.tr - 1 ∧ m.tr - 1 ≤ 2
          omega
        · rw [phase3 (by exact hb.1)]
          have o1 : ({ m with tr := m.tr - 1 } : Mt).oth = m.oth := have_congr rfl rfl _
          rw [o1]
          exact hp
    · exact ⟨h, Int.le_refl _, Or.inl rfl⟩
  rename_i n5
  rw [if_neg n5]
  split at he
  · rename_i hk
    rw [if_pos hk]
    obtain ⟨e0, hz⟩ := oneD_zero he
    rw [e0]
    have z1 := wh_zero (hz (wh (m.ph != 3 || m.tr == 2) 11) (by simp)) (by decide)
    simp at z1
    have hp := h.ph
    rw [phase3 z1.1] at hp
    simp at hp
    have hob := (Img.may_b (Mt.have_may h.h0 h.h1 (1 - m.act))).1
    have hmn := h.mn
    have hv : m.mn ≤ m.vconf ∧ m.vconf ≤ 1073741824 := by
      unfold Mt.vconf
      have : m.oth.v ≤ 1073741824 := hob.2
      split <;> omega
    refine ⟨⟨?_, h.h0, h.h1, zero_may, ?_, ?_, got0, tr0, by rw [phase0 rfl]; rfl⟩, hv.1, Or.inr ⟨hk, z1.1⟩⟩
    · show 1 - m.act = 0 ∨ 1 - m.act = 1
      have := h.act
      omega
    · show (m.confT.have_ (1 - m.act)).none = false
      exact hp.2.2
    · show 0 ≤ m.vconf ∧ m.vconf ≤ 1073741824
      omega
  rename_i n6
  rw [if_neg n6]
  split at he
  · rename_i hk
    rw [if_pos hk]
    obtain ⟨e0, hz⟩ := oneD_zero he
    rw [e0]
    obtain ⟨a1, a2, a3, a4, a5, a6, a7, a8⟩ := alone_have h.idle.act
    exact ⟨h.idle_alone, by show m.mn ≤ m.idle.alone.mn; rw [a4]; exact Int.le_refl _, Or.inl a3⟩
  rename_i n7
  rw [if_neg n7]
  split at he
  · rename_i hk
    rw [if_pos hk]
    obtain ⟨e0, hz⟩ := oneD_zero he
    rw [e0]
    exact ⟨h.idle, Int.le_refl _, Or.inl rfl⟩
  rename_i n8
  rw [if_neg n8]
  split at he
  · rename_i hk
    rw [if_pos hk]
    exact ⟨h, Int.le_refl _, Or.inl rfl⟩
  · cases he
theorem right_keeps {m : Mt} (hr : m.right = true) (f : Fc) (k n : Int) (l : List UInt8) (qu : Int) :
    (doA m f k n l qu).m.right = true ∧ m.mn ≤ (doA m f k n l qu).m.mn ∧ ((doA m f k n l qu).e ≠ 0 → (doA m f k n l qu).m = m) ∧ ((doA m f k n l qu).m.act = m.act ∨ (k = 6 ∧ m.ph = 3)) := by
  obtain ⟨a1, a2⟩ := doA_right hr f k n l qu
  by_cases he : (doesD m f k n (l.length : Int) (beginD m f l qu)).e = 0
  · have q := a1 he
    have hk := does_keeps ((right_iff m).1 hr) f k n l qu he
    rw [q]
    exact ⟨(right_iff _).2 hk.r, hk.mn, fun h => absurd he h, hk.act⟩
  · obtain ⟨q1, q2⟩ := a2 he
    rw [q1]
    exact ⟨hr, Int.le_refl _, fun _ => rfl, Or.inl rfl⟩
end Go.Proofs.YtpafenlcgcenlaaGreatDoor
