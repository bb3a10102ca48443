/- An update that goes its way: what is kept at each step (plain). -/
import Derived.Test.YtpafenlcgcenlaaGreatDoorRdP
import Derived.Test.YtpafenlcgcenlaaGreatDoorMn7
namespace Go.Proofs.YtpafenlcgcenlaaGreatDoor
open Go Go.RowKit
set_option linter.unusedVariables false
set_option linter.unusedSimpArgs false
def gF (x : Img) : Fc := ⟨true, true, x.d, false⟩
def gT (m : Mt) (x : Img) (j : Int) : Mt := { m.alone with ph := 1, cm := x, got := j }
def gV (m : Mt) (x : Img) : Mt := { m.alone with ph := 2, cm := x, got := chunksZ x.s }
def gC (m : Mt) (x : Img) (t : Int) : Mt := if m.act = 0 then { m with h1 := x, ph := 3, cm := Img.zero, got := 0, tr := t } else { m with h0 := x, ph := 3, cm := Img.zero, got := 0, tr := t }
def gN (m : Mt) (x : Img) : Mt := { gC m x 0 with mn := x.v, act := 1 - m.act, ph := 0 }
/-- A Meta that awaits an image, and the image. -/
structure GoIn (m : Mt) (x : Img) : Prop where
  P : RightP m
  ok : m.Ok
  ph : m.ph = 0
  d : x.d.length = 32
  v : 1 ≤ x.v ∧ x.v ≤ 1073741824
  mn : m.mn ≤ x.v
  s : 1 ≤ x.s ∧ x.s ≤ 1920
theorem doA_one {m T : Mt} {f : Fc} {k n : Int} {l : List UInt8} {qu : Int} {L : List Int} (hr : RightP m) (hd : doesD m f k n (l.length : Int) (beginD m f l qu) = oneD T L) : doA m f k n l qu = if firstE L = 0 then ⟨T, 0, 0, 0⟩ else ⟨m, firstE L, 0, 0⟩ := by
  have h := (right_iff m).2 hr
  unfold doA doD
  rw [if_neg (by rw [h]; decide), hd, fin_one]
theorem keepsP {m : Mt} (hr : RightP m) (f : Fc) (k n : Int) (l : List UInt8) (qu : Int) : RightP (doA m f k n l qu).m := (right_iff _).1 (right_keeps ((right_iff m).2 hr) f k n l qu).1
section
variable {m : Mt} {x : Img} (I : GoIn m x)
include I
theorem gK : 1 ≤ chunksZ x.s ∧ chunksZ x.s ≤ 6 := by
  have := I.s
  unfold chunksZ
  split <;> omega
theorem gmay : x.may = true ∧ x.none = false := by
  have hv := I.v
  have hs := I.s
  have h1 : x.may = true := by
    unfold Img.may
    rw [if_neg (by omega), if_neg (by omega)]
    simp
    omega
  refine ⟨h1, ?_⟩
  rw [Img.may_v h1]
  simp
  omega
theorem gzero : m.cm = Img.zero ∧ m.got = 0 ∧ m.tr = 0 := ph0_all I.P I.ph
theorem gT_right (j : Int) (h0 : 0 ≤ j) (hj : j ≤ chunksZ x.s) : RightP (gT m x j) := by
  have hK := gK I
  obtain ⟨a1, a2, a3, a4, a5, a6, a7, a8⟩ := alone_have I.P.act
  obtain ⟨b0, b1⟩ := alone_may I.P.h0 I.P.h1
  obtain ⟨hm, hn⟩ := gmay I
  obtain ⟨_, _, ht⟩ := gzero I
  have hb := (Img.may_b hm).2
  refine ⟨by show m.alone.act = 0 ∨ m.alone.act = 1; rw [a3]; exact I.P.act, b0, b1, hm, ?_, by show 0 ≤ m.alone.mn ∧ m.alone.mn ≤ 1073741824; rw [a4]; exact I.P.mn, ⟨h0, by show j ≤ 6; omega⟩, by show 0 ≤ m.alone.tr ∧ m.alone.tr ≤ 2; rw [a8, ht]; decide, ?_⟩
  · show (m.alone.have_ m.alone.act).none = false
    rw [a3, a1]
    exact I.P.here
  · rw [phase1 rfl]
    show (!x.none && (m.alone.oth.none && (m.alone.tr == 0 && (j == x.chk || decide (j < x.chk))))) = true
    rw [hn, a2, a8, ht, zero_none]
    have hc : x.chk = chunksZ x.s := chk_chunks _ hb.1
    simp
    omega
theorem gM (nm : ByteArray) (hn : validN nm = true) (key : List UInt8) : mE (bytesB key nm x) = 0 ∧ mX (bytesB key nm x) = x := by
  have hx := body_back nm x I.d hn I.v ⟨I.s.1, by have := I.s; omega⟩
  obtain ⟨h1, h2, h3⟩ := mOk_app (bodyB nm x) (tagL key (bodyB nm x)) (bodyB_len _ _)
  have hl := bytesB_len key nm x
  have hc : (bytesB key nm x).length = 92 ∧ mOk (bytesB key nm x) = true := ⟨hl, by unfold bytesB; rw [h1, hx.ok]⟩
  unfold mE mX
  rw [if_pos hc, if_pos hc]
  exact ⟨rfl, by unfold bytesB; rw [h3]; exact (hx.back rfl).2⟩
theorem g1 (nm : ByteArray) (hn : validN nm = true) (key : List UInt8) : doA m (gF x) 1 0 (bytesB key nm x) 6 = ⟨gT m x 0, 0, 0, 0⟩ := by
  obtain ⟨e1, e2⟩ := gM I nm hn key
  have hK := gK I
  have hv := I.v
  have hmn := I.mn
  obtain ⟨_, hg, _⟩ := gzero I
  obtain ⟨_, _, _, _, _, _, a7, _⟩ := alone_have I.P.act
  rw [doA_one I.P (T := m.beginT (bytesB key nm x)) (L := [wh (m.ph != 0) 11, mE (bytesB key nm x), wh (!(gF x).nm) 7, wh (!(gF x).tg) 8, wh (!(m.vmay (mX (bytesB key nm x)).v)) 9, wh (decide (min 6 6 < chunksZ (mX (bytesB key nm x)).s)) 10, wh (gF x).wn 5]) (by unfold doesD; rw [if_pos rfl]; rfl)]
  rw [e1, e2, firstE_f (by rw [I.ph]; rfl), firstE_z rfl, firstE_f (by rfl), firstE_f (by rfl), firstE_f (by unfold Mt.vmay; simp; omega), firstE_f (by rw [decide_eq_false_iff_not]; omega), firstE_f (by rfl), firstE_nil, if_pos rfl]
  unfold Mt.beginT gT
  rw [e2]
  show (⟨⟨m.alone.act, m.alone.h0, m.alone.h1, m.alone.mn, 1, x, m.alone.got, m.alone.tr⟩, 0, 0, 0⟩ : Ch) = ⟨⟨m.alone.act, m.alone.h0, m.alone.h1, m.alone.mn, 1, x, 0, m.alone.tr⟩, 0, 0, 0⟩
  rw [a7, hg]
theorem g2 (j : Int) (h0 : 0 ≤ j) (hj : j < chunksZ x.s) : doA (gT m x j) (gF x) 2 j (List.replicate (lenZ x.s j).toNat 0) 6 = ⟨gT m x (j + 1), 0, 0, 0⟩ := by
  have hs := I.s
  have hl : ((List.replicate (lenZ x.s j).toNat (0 : UInt8)).length : Int) = lenZ x.s j := by
    rw [List.length_replicate]
    have hc : 0 ≤ lenZ x.s j := by
      unfold lenZ
      rw [if_neg (by omega)]
      unfold chunksZ at hj
      split at hj <;> omega
    omega
  rw [doA_one (gT_right I j h0 (by omega)) (T := gT m x (j + 1)) (L := [wh ((gT m x j).ph != 1) 11, wh (j != (gT m x j).got || decide (chunksZ (gT m x j).cm.s ≤ (gT m x j).got)) 12, wh (((List.replicate (lenZ x.s j).toNat (0 : UInt8)).length : Int) != lenZ (gT m x j).cm.s (gT m x j).got) 6, wh (gF x).wn 5]) (by unfold doesD; rw [if_neg (by decide), if_pos rfl]; rfl)]
  rw [firstE_f (by rfl), firstE_f (by show (j != j || decide (chunksZ x.s ≤ j)) = false; simp; omega), firstE_f (by rw [hl]; show (lenZ x.s j != lenZ x.s j) = false; simp), firstE_f (by rfl), firstE_nil, if_pos rfl]
theorem g3 : doA (gT m x (chunksZ x.s)) (gF x) 3 0 [] 6 = ⟨gV m x, 0, 0, 0⟩ := by
  have hK := gK I
  rw [doA_one (gT_right I _ (by omega) (Int.le_refl _)) (T := gV m x) (L := [wh ((gT m x (chunksZ x.s)).ph != 1) 11, wh (decide ((gT m x (chunksZ x.s)).got < chunksZ (gT m x (chunksZ x.s)).cm.s)) 12, wh (!((gF x).d == (gT m x (chunksZ x.s)).cm.d)) 13, wh (gF x).wn 5]) (by unfold doesD; rw [if_neg (by decide), if_neg (by decide), if_pos rfl]; rfl)]
  rw [firstE_f (by rfl), firstE_f (by show decide (chunksZ x.s < chunksZ x.s) = false; simp), firstE_f (by show (!(x.d == x.d)) = false; simp), firstE_f (by rfl), firstE_nil, if_pos rfl]
theorem gV_right : RightP (gV m x) := by
  have hK := gK I
  have h := keepsP (gT_right I (chunksZ x.s) (by omega) (Int.le_refl _)) (gF x) 3 0 [] 6
  rw [g3 I] at h
  exact h
theorem gV_commit : (gV m x).commitT = gC m x 2 := by
  obtain ⟨_, hg, ht⟩ := gzero I
  unfold Mt.commitT gC
  have ha : (gV m x).act = m.act := (alone_have I.P.act).2.2.1
  rw [ha]
  rcases I.P.act with h | h
  · rw [if_pos h, if_pos h]
    unfold gV Mt.idle Mt.alone
    rw [if_pos h]
  · rw [if_neg (by omega), if_neg (by omega)]
    unfold gV Mt.idle Mt.alone
    rw [if_neg (by omega)]
theorem g4 : doA (gV m x) (gF x) 4 0 [] 6 = ⟨gC m x 2, 0, 0, 0⟩ := by
  rw [doA_one (gV_right I) (T := (gV m x).commitT) (L := [wh ((gV m x).ph != 2) 11, wh (gF x).wn 5]) (by unfold doesD; rw [if_neg (by decide), if_neg (by decide), if_neg (by decide), if_pos rfl])]
  rw [firstE_f (by rfl), firstE_f (by rfl), firstE_nil, if_pos rfl, gV_commit I]
theorem gC2_right : RightP (gC m x 2) := by
  have h := keepsP (gV_right I) (gF x) 4 0 [] 6
  rw [g4 I] at h
  exact h
theorem gC_parts (t : Int) : (gC m x t).ph = 3 ∧ (gC m x t).tr = t ∧ (gC m x t).act = m.act ∧ (gC m x t).mn = m.mn ∧ (gC m x t).oth = x ∧ (gC m x t).idle.alone = m.alone ∧ ({ gC m x t with tr := t - 1 } : Mt) = gC m x (t - 1) := by
  obtain ⟨hc, hg, ht⟩ := gzero I
  have hp := I.ph
  have P := I.P.act
  obtain ⟨act, h0, h1, mn, ph, cm, got, tr⟩ := m
  dsimp only at hc hg ht hp P
  subst hc hg ht hp
  rcases P with h | h <;> subst h <;> exact ⟨rfl, rfl, rfl, rfl, rfl, rfl, rfl⟩
theorem g5 : doA (gC m x 2) (gF x) 6 0 [] 6 = ⟨gC m x 2, 11, 0, 0⟩ := by
  obtain ⟨c1, c2, _⟩ := gC_parts I 2
  rw [doA_one (gC2_right I) (T := (gC m x 2).confT) (L := [wh ((gC m x 2).ph != 3 || (gC m x 2).tr == 2) 11, wh (gF x).wn 5]) (by unfold doesD; rw [if_neg (by decide), if_neg (by decide), if_neg (by decide), if_neg (by decide), if_neg (by decide), if_pos rfl])]
  rw [firstE_t (by rw [c1, c2]; rfl) (by decide), if_neg (by decide)]
omit I in
theorem doA_boot {m' : Mt} (hr : RightP m') (f : Fc) : doA m' f 5 0 [] 6 = m'.bootD f.wn := by
  have h := (right_iff m').2 hr
  have hd : doesD m' f 5 0 (([] : List UInt8).length : Int) (beginD m' f [] 6) = m'.bootD f.wn := by unfold doesD; rw [if_neg (by decide), if_neg (by decide), if_neg (by decide), if_neg (by decide), if_pos rfl]
  have he : (m'.bootD f.wn).e = 0 := by
    unfold Mt.bootD
    split
    · split <;> rfl
    · rfl
  unfold doA doD
  rw [if_neg (by rw [h]; decide), hd, if_pos he]
theorem gboot (t : Int) (h : RightP (gC m x t)) (ht : t ≠ 0) : doA (gC m x t) (gF x) 5 0 [] 6 = ⟨gC m x (t - 1), 0, 1 - m.act, 0⟩ := by
  obtain ⟨c1, c2, c3, _, _, _, c7⟩ := gC_parts I t
  rw [doA_boot h]
  unfold Mt.bootD
  rw [if_pos ⟨c1, rfl⟩, if_neg (by rw [c2]; exact ht)]
  have h7 : ({ gC m x t with tr := (gC m x t).tr - 1 } : Mt) = gC m x (t - 1) := by rw [c2]; exact c7
  have key : ∀ (a b : Mt) (c d : Int), a = b → c = d → (⟨a, 0, c, 0⟩ : Ch) = ⟨b, 0, d, 0⟩ := by rintro _ _ _ _ rfl rfl; rfl
  exact key _ _ _ _ h7 (by rw [c3])
theorem gboot0 (h : RightP (gC m x 0)) : doA (gC m x 0) (gF x) 5 0 [] 6 = ⟨m.alone, 0, m.act, 0⟩ := by
  obtain ⟨c1, c2, c3, _, _, c6, _⟩ := gC_parts I 0
  rw [doA_boot h]
  unfold Mt.bootD
  rw [if_pos ⟨c1, rfl⟩, if_pos c2, c6, c3]
theorem gC1_right : RightP (gC m x 1) := by
  have h := keepsP (gC2_right I) (gF x) 5 0 [] 6
  rw [gboot I 2 (gC2_right I) (by decide)] at h
  exact h
theorem gC0_right : RightP (gC m x 0) := by
  have h := keepsP (gC1_right I) (gF x) 5 0 [] 6
  rw [gboot I 1 (gC1_right I) (by decide)] at h
  exact h
theorem gA_right : RightP m.alone := by
  have h := keepsP (gC0_right I) (gF x) 5 0 [] 6
  rw [gboot0 I (gC0_right I)] at h
  exact h
theorem gbootA : doA m.alone (gF x) 5 0 [] 6 = ⟨m.alone, 0, m.act, 0⟩ := by
  obtain ⟨_, _, a3, _, _, a6, _⟩ := alone_have I.P.act
  rw [doA_boot (gA_right I)]
  unfold Mt.bootD
  rw [if_neg (by rw [a6, I.ph]; omega), a3]
/-- What is kept behind j boots. -/
def gB (m : Mt) (x : Img) (j : Int) : Mt := if j = 0 then gC m x 2 else if j = 1 then gC m x 1 else if j = 2 then gC m x 0 else m.alone
omit I in
theorem gB_ge (j : Int) (h : 3 ≤ j) : gB m x j = m.alone := by unfold gB; rw [if_neg (by omega), if_neg (by omega), if_neg (by omega)]
theorem g6 (j : Int) (hj : 0 ≤ j) : doA (gB m x j) (gF x) 5 0 [] 6 = ⟨gB m x (j + 1), 0, if j < 2 then 1 - m.act else m.act, 0⟩ := by
  by_cases h0 : j = 0
  · subst h0; exact gboot I 2 (gC2_right I) (by decide)
  by_cases h1 : j = 1
  · subst h1; exact gboot I 1 (gC1_right I) (by decide)
  by_cases h2 : j = 2
  · subst h2; exact gboot0 I (gC0_right I)
  rw [gB_ge j (by omega), gB_ge (j + 1) (by omega), if_neg (by omega)]
  exact gbootA I
theorem gB_ok (j : Int) : (gB m x j).Ok := by
  have hC : ∀ t, (gC m x t).Ok := fun t => by
    unfold gC
    split
    · exact ⟨I.ok.d0, I.d, rfl, I.ok.act⟩
    · exact ⟨I.d, I.ok.d1, rfl, I.ok.act⟩
  unfold gB
  repeat' split
  all_goals first | exact hC _ | exact Mt.alone_ok I.ok
theorem gT_ok (j : Int) : (gT m x j).Ok := ⟨(Mt.alone_ok I.ok).d0, (Mt.alone_ok I.ok).d1, I.d, (Mt.alone_ok I.ok).act⟩
theorem gV_ok : (gV m x).Ok := ⟨(Mt.alone_ok I.ok).d0, (Mt.alone_ok I.ok).d1, I.d, (Mt.alone_ok I.ok).act⟩
theorem g7 (j : Int) (hj : j = 1 ∨ j = 2) : doA (gB m x j) (gF x) 7 0 [] 6 = ⟨m.alone, 0, 0, 0⟩ := by
  obtain ⟨t, ht, htt⟩ : ∃ t, gB m x j = gC m x t ∧ (t = 1 ∨ t = 0) := by
    rcases hj with h | h
    · exact ⟨1, by subst h; rfl, Or.inl rfl⟩
    · exact ⟨0, by subst h; rfl, Or.inr rfl⟩
  have hr : RightP (gC m x t) := by
    rcases htt with h | h
    · subst h; exact gC1_right I
    · subst h; exact gC0_right I
  obtain ⟨c1, c2, c3, _, _, c6, _⟩ := gC_parts I t
  rw [ht, doA_one hr (T := (gC m x t).idle.alone) (L := [wh ((gC m x t).ph != 3) 11, wh (gF x).wn 5]) (by unfold doesD; rw [if_neg (by decide), if_neg (by decide), if_neg (by decide), if_neg (by decide), if_neg (by decide), if_neg (by decide), if_pos rfl])]
  rw [firstE_f (by rw [c1]; rfl), firstE_f (by rfl), firstE_nil, if_pos rfl, c6]
theorem g8 (j : Int) (hj : j = 1 ∨ j = 2) : doA (gB m x j) (gF x) 6 0 [] 6 = ⟨gN m x, 0, 0, 0⟩ := by
  obtain ⟨t, ht, htt⟩ : ∃ t, gB m x j = gC m x t ∧ (t = 1 ∨ t = 0) := by
    rcases hj with h | h
    · exact ⟨1, by subst h; rfl, Or.inl rfl⟩
    · exact ⟨0, by subst h; rfl, Or.inr rfl⟩
  have hr : RightP (gC m x t) := by
    rcases htt with h | h
    · subst h; exact gC1_right I
    · subst h; exact gC0_right I
  obtain ⟨c1, c2, c3, c4, c5, c6, _⟩ := gC_parts I t
  have hv := I.v
  have hmn := I.mn
  have hvc : (gC m x t).vconf = x.v := by unfold Mt.vconf; rw [c5, c4, if_neg (by omega)]; omega
  rw [ht, doA_one hr (T := (gC m x t).confT) (L := [wh ((gC m x t).ph != 3 || (gC m x t).tr == 2) 11, wh (gF x).wn 5]) (by unfold doesD; rw [if_neg (by decide), if_neg (by decide), if_neg (by decide), if_neg (by decide), if_neg (by decide), if_pos rfl])]
  rw [firstE_f (by rw [c1, c2]; rcases htt with h | h <;> subst h <;> rfl), firstE_f (by rfl), firstE_nil, if_pos rfl]
  unfold Mt.confT gN
  rw [hvc, c3]
  obtain ⟨hc, hg, ht3⟩ := gzero I
  unfold gC Mt.idle
  rcases I.P.act with h | h
  · rw [if_pos h, if_pos h]
  · rw [if_neg (by omega), if_neg (by omega)]
theorem gN_ok : (gN m x).Ok := by
  have ha := I.P.act
  unfold gN gC
  split
  · exact ⟨I.ok.d0, I.d, rfl, by constructor <;> dsimp only <;> omega⟩
  · exact ⟨I.d, I.ok.d1, rfl, by constructor <;> dsimp only <;> omega⟩
/-- What the end looks at. -/
theorem gA_end : m.alone.ph = 0 ∧ m.alone.act = m.act ∧ m.alone.have_ m.act = m.have_ m.act ∧ m.alone.have_ (1 - m.act) = Img.zero ∧ m.alone.mn = m.mn := by
  obtain ⟨a1, a2, a3, a4, a5, a6, _⟩ := alone_have I.P.act
  refine ⟨by rw [a6]; exact I.ph, a3, a1, ?_, a4⟩
  unfold Mt.oth at a2
  rw [a3] at a2
  exact a2
theorem gN_end : (gN m x).ph = 0 ∧ (gN m x).act = 1 - m.act ∧ (gN m x).have_ (1 - m.act) = x ∧ (gN m x).mn = x.v ∧ (gN m x).have_ m.act = m.have_ m.act := by
  have P := I.P.act
  obtain ⟨act, h0, h1, mn, ph, cm, got, tr⟩ := m
  dsimp only at P
  rcases P with h | h <;> subst h <;> exact ⟨rfl, rfl, rfl, rfl, rfl⟩
end
end Go.Proofs.YtpafenlcgcenlaaGreatDoor
