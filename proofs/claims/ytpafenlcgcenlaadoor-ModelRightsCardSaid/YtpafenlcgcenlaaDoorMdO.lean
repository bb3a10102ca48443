/- A Model as a whole: made, asked, looked at; what it is then (plain). -/
import Derived.Test.YtpafenlcgcenlaaDoorMdN
import Derived.Test.YtpafenlcgcenlaaDoorStr
namespace Go.Proofs.YtpafenlcgcenlaaDoor
open Go Go.RowKit
set_option linter.unusedVariables false
set_option linter.unusedSimpArgs false
/-- The blocks from B on, below N. -/
def win (B N : Nat) : List Nat := List.range' B (N - B)
theorem mem_win {B N k : Nat} : k ∈ win B N ↔ B ≤ k ∧ k < N := by
  unfold win
  rw [List.mem_range'_1]
  omega
structure MSt where
  m : Mt
  l0 : List UInt8
  l1 : List UInt8
def MSt.oth (s : MSt) : List UInt8 := if s.m.act = 0 then s.l1 else s.l0
def MSt.run (s : MSt) : List UInt8 := if s.m.act = 0 then s.l0 else s.l1
/-- What holds of a Model. -/
structure MInv (c : Cf) (s : MSt) : Prop where
  right : s.m.right = true
  quo : QuotaP s.m c.quota
  l0 : (s.l0.length : Int) = c.slot * 320
  l1 : (s.l1.length : Int) = c.slot * 320
/-- A Model in the world. -/
def MdB (w : World) (B N b : Nat) (c : Cf) (s : MSt) : Prop := ∃ (K : Option Addr) (kc : Nat) (F : Option Addr) (fc : Nat) (S0 : Option Addr) (c0 : Nat) (S1 : Option Addr) (c1 : Nat), MdAt w B b c s.m s.l0 s.l1 K kc F fc S0 c0 S1 c1 ∧ b < N ∧ (∀ k, (Value.slice K c.key.length kc).ownBlock = some k → k < N) ∧ (∀ k, (Value.slice S0 s.l0.length c0).ownBlock = some k → k < N) ∧ (∀ k, (Value.slice S1 s.l1.length c1).ownBlock = some k → k < N)
section
variable {w w' : World} {B N b : Nat} {c : Cf} {s : MSt}
theorem MdB.only (h : MdB w B N b c s) {S : List Nat} (ho : Only S w w') (hS : ∀ k, k ∈ S → ¬ (B ≤ k ∧ k < N)) : MdB w' B N b c s := by
  obtain ⟨K, kc, F, fc, S0, c0, S1, c1, hm, hb, hk, h0, h1⟩ := h
  have hge : ∀ {v : Value} {n : Nat} {xs : List Value}, w.ownsRow B 5 1 v n xs → ∀ k, v.ownBlock = some k → B ≤ k := fun ho k e => (ho.lt k e).1
  exact ⟨K, kc, F, fc, S0, c0, S1, c1, ⟨hm.blk.only ho (fun q => hS b q ⟨hm.ge, hb⟩), hm.ok, own_only hm.key ho (fun k e q => hS k q ⟨hge hm.key k e, hk k e⟩), own_only hm.s0 ho (fun k e q => hS k q ⟨hge hm.s0 k e, h0 k e⟩), own_only hm.s1 ho (fun k e q => hS k q ⟨hge hm.s1 k e, h1 k e⟩), hm.ge, hm.ap0, hm.ap1⟩, hb, hk, h0, h1⟩
theorem MdB.later (h : MdB w B N b c s) (hb : Below w.heap.size w w') : MdB w' B N b c s := h.only (S := []) (Only.of_below hb) (fun k q => by cases q)
end
/-- A new Model. -/
def st0 (c : Cf) : MSt := ⟨newM c, newS c, repB c⟩
theorem newM_right {c : Cf} (h : c.right = true) : (newM c).right = true := by
  have hs := Cf.slot_b h
  have hf := Cf.first_b h
  refine (right_iff _).2 ⟨Or.inl rfl, ?_, zero_may, zero_may, ?_, ⟨Int.le_refl 0, show (0 : Int) ≤ 1073741824 by decide⟩, got0, tr0, ?_⟩
  · unfold newM Img.may
    dsimp only
    rw [if_neg (by decide), if_neg (by omega)]
    simp
    omega
  · show (Img.mk 1 (c.first.length : Int) (sha c.first)).none = false
    rw [Img.may_v]
    · simp
    · unfold Img.may
      dsimp only
      rw [if_neg (by decide), if_neg (by omega)]
      simp
      omega
  · rw [phase0 rfl]
    rfl
theorem newM_ok (c : Cf) : (newM c).Ok := ⟨sha_len _, rfl, rfl, show (-9223372036854775808 : Int) ≤ 0 by decide, show (0 : Int) ≤ 9223372036854775807 by decide⟩
theorem Cf.quota_b {c : Cf} (h : c.right = true) : 1 ≤ c.quota ∧ c.quota ≤ c.slot := by
  unfold Cf.right at h
  simp only [Bool.and_eq_true, decide_eq_true_eq] at h
  omega
theorem Cf.rights_b {c : Cf} (h : c.right = true) : 0 ≤ c.rights ∧ c.rights ≤ 1023 := by
  unfold Cf.right at h
  simp only [Bool.and_eq_true, decide_eq_true_eq] at h
  omega
theorem Cf.key_b {c : Cf} (h : c.right = true) : 1 ≤ c.key.length ∧ c.key.length ≤ 64 := by
  unfold Cf.right at h
  simp only [Bool.and_eq_true, decide_eq_true_eq] at h
  omega
theorem repB_len (c : Cf) : (repB c).length = (c.slot * 320).toNat := by unfold repB; rw [List.length_replicate]
theorem st0_inv {c : Cf} (h : c.right = true) : MInv c (st0 c) := by
  have hs := Cf.slot_b h
  have hf := Cf.first_b h
  have hr := repB_len c
  refine ⟨newM_right h, fun hp => absurd (show (0 : Int) = 1 from hp) (by decide), ?_, ?_⟩
  · show ((newS c).length : Int) = _
    unfold newS
    rw [List.length_append, List.length_drop]
    omega
  · show ((repB c).length : Int) = _
    omega
/-- What a Model's Do turns, and answers. -/
def stepM (c : Cf) (s : MSt) (k n : Int) (l : List UInt8) : MSt × Int × Int × Int :=
  if mayK c.rights.toNat k = true then
    (⟨(doA s.m (factD c s.m s.oth l) k n l c.quota).m, if s.m.act = 0 then s.l0 else slotA (doA s.m (factD c s.m s.oth l) k n l c.quota).e k n l s.l0, if s.m.act = 0 then slotA (doA s.m (factD c s.m s.oth l) k n l c.quota).e k n l s.l1 else s.l1⟩, (doA s.m (factD c s.m s.oth l) k n l c.quota).e, (doA s.m (factD c s.m s.oth l) k n l c.quota).n, (doA s.m (factD c s.m s.oth l) k n l c.quota).g)
  else (s, 14, 0, 0)
theorem slotA_len {c : Cf} {s : MSt} (hc : c.right = true) (h : MInv c s) (f : Fc) (k n : Int) (l lo : List UInt8) (hlo : (lo.length : Int) = c.slot * 320) : (slotA (doA s.m f k n l c.quota).e k n l lo).length = lo.length := by
  unfold slotA
  split
  · rename_i hq
    obtain ⟨he, rfl⟩ := hq
    obtain ⟨a1, a2, a3, a4, a5, _⟩ := wr_facts h.right f n l c.quota he
    have q := wr_fits (h.quo a1) (Cf.quota_b hc).2 a3 a4 a5
    exact wrB_len (by rw [a2]; omega)
  · rfl
theorem MInv.step {c : Cf} {s : MSt} (hc : c.right = true) (h : MInv c s) (k n : Int) (l : List UInt8) : MInv c (stepM c s k n l).1 := by
  unfold stepM
  split
  · refine ⟨(right_keeps h.right _ k n l c.quota).1, quota_keeps h.right _ k n l c.quota h.quo, ?_, ?_⟩
    · dsimp only
      split
      · exact h.l0
      · rw [slotA_len hc h _ k n l s.l0 h.l0]; exact h.l0
    · dsimp only
      split
      · rw [slotA_len hc h _ k n l s.l1 h.l1]; exact h.l1
      · exact h.l1
  · exact h
theorem mnewB (w : World) (c : Cf) (K : Option Addr) (kc : Nat) (F : Option Addr) (fc : Nat) (hs : c.nm.size ≤ 1000000) (hK : Reads w K c.key.length (c.key.map u8v)) (hF : Reads w F c.first.length (c.first.map u8v)) (hyes : c.right = true) : Calls Tryd.prog 5 #[.agg (c.cells K kc F fc).toArray] w fun e w' => ∃ (b : Nat), e = .returned (.pointer (some ⟨b, 0, none⟩)) ∧ MdB w' w.heap.size w'.heap.size b c (st0 c) ∧ Below w.heap.size w w' := by
  have h1 := Cf.slot_b hyes
  have h2 := Cf.first_b hyes
  have h3 := Cf.key_b hyes
  refine (mnew_yes w c K kc F fc hs hK (by omega) hF (by omega) hyes).mono ?_
  rintro e w' ⟨b, K', kc', S0, c0, S1, c1, rfl, hm, hb⟩
  exact ⟨b, rfl, ⟨K', kc', F, fc, S0, c0, S1, c1, hm, hm.blk.lt, fun k e => (hm.key.lt k e).2, fun k e => (hm.s0.lt k e).2, fun k e => (hm.s1.lt k e).2⟩, hb⟩
theorem mdoB (w : World) (B N b : Nat) (c : Cf) (s : MSt) (hc : c.right = true) (hi : MInv c s) (h : MdB w B N b c s) (qk qn : Int) (SB : Option Addr) (sl sc : Nat) (l : List UInt8) (hrd : Reads w SB sl (l.map u8v)) (hsl : sl ≤ 1000) (hsc : sl ≤ sc ∧ sc ≤ maxLen) :
    Calls Tryd.prog 6 #[.pointer (some ⟨b, 0, none⟩), .agg #[.int .i64 qk, .int .i64 qn, .slice SB sl sc]] w fun e w' => e = .returned (.agg #[.int .i64 (stepM c s qk qn l).2.1, .int .i64 (stepM c s qk qn l).2.2.1, .int .i64 (stepM c s qk qn l).2.2.2]) ∧ MdB w' B N b c (stepM c s qk qn l).1 ∧ Only (win B N) w w' := by
  obtain ⟨K, kc, F, fc, S0, c0, S1, c1, hm, hb, hk, h0, h1⟩ := h
  obtain ⟨r0, r1⟩ := Cf.rights_b hc
  have hr : c.rights = ((c.rights.toNat : Nat) : Int) := by omega
  unfold stepM
  by_cases hy : mayK c.rights.toNat qk = true
  · rw [if_pos hy]
    obtain ⟨D, hD⟩ : ∃ D, doA s.m (factD c s.m s.oth l) qk qn l c.quota = D := ⟨_, rfl⟩
    have hl0 := slotA_len hc hi (factD c s.m s.oth l) qk qn l s.l0 hi.l0
    have hl1 := slotA_len hc hi (factD c s.m s.oth l) qk qn l s.l1 hi.l1
    rw [hD] at hl0 hl1
    rw [hD]
    obtain ⟨dm, de, dn, dg⟩ := D
    have h3 := Cf.key_b hc
    refine (mdo_yes w B b c s.m s.l0 s.l1 K kc F fc S0 c0 S1 c1 hm c.rights.toNat hr (by omega) (win B N) (mem_win.2 ⟨hm.ge, hb⟩) (fun k e => mem_win.2 ⟨(hm.s0.lt k e).1, h0 k e⟩) (fun k e => mem_win.2 ⟨(hm.s1.lt k e).1, h1 k e⟩) hi.right hi.quo (Cf.quota_b hc).2 (Cf.slot_b hc) hi.l0 hi.l1 (by omega) qk qn SB sl sc l hrd hsl hsc hy dm de dn dg hD).mono ?_
    rintro e w' ⟨rfl, hm2, ho2⟩
    refine ⟨rfl, ⟨K, kc, F, fc, S0, c0, S1, c1, hm2, hb, hk, ?_, ?_⟩, ho2⟩
    · intro k e
      refine h0 k ?_
      rw [← e]
      dsimp only
      split
      · rfl
      · dsimp only at hl0; rw [hl0]
    · intro k e
      refine h1 k ?_
      rw [← e]
      dsimp only
      split
      · dsimp only at hl1; rw [hl1]
      · rfl
  · rw [if_neg hy]
    refine (mdo_no w B b c s.m s.l0 s.l1 K kc F fc S0 c0 S1 c1 hm c.rights.toNat hr (by omega) qk qn SB sl sc (by simpa using hy)).mono ?_
    rintro e w' ⟨rfl, hb2⟩
    exact ⟨rfl, ⟨K, kc, F, fc, S0, c0, S1, c1, hm.below hb2, hb, hk, h0, h1⟩, Only.of_below hb2⟩
theorem mactB (w : World) (B N b : Nat) (c : Cf) (s : MSt) (hc : c.right = true) (hi : MInv c s) (h : MdB w B N b c s) :
    Calls Tryd.prog 8 #[.pointer (some ⟨b, 0, none⟩)] w (MadeBytes w (s.run.take (s.m.have_ s.m.act).s.toNat)) := by
  obtain ⟨K, kc, F, fc, S0, c0, S1, c1, hm, _⟩ := h
  have hs := Cf.slot_b hc
  have ha := ((right_iff _).1 hi.right).act
  have e0 := hi.l0
  have e1 := hi.l1
  unfold MSt.run
  rcases ha with ha | ha
  · rw [if_pos ha, ha]
    exact mactive0_c w B b c s.m s.l0 s.l1 K kc F fc S0 c0 S1 c1 hm ha (by omega)
  · rw [if_neg (by omega), ha]
    exact mactive1_c w B b c s.m s.l0 s.l1 K kc F fc S0 c0 S1 c1 hm ha (by omega)
/-! ### A status; what errors there are -/
theorem doA_status {m : Mt} (h : m.right = true) (f : Fc) (n : Int) (l : List UInt8) (qu : Int) : doA m f 9 n l qu = ⟨m, 0, m.ph, m.got⟩ := by
  have hd : doesD m f 9 n (l.length : Int) (beginD m f l qu) = ⟨m, 0, m.ph, m.got⟩ := by
    unfold doesD
    rw [if_neg (by decide), if_neg (by decide), if_neg (by decide), if_neg (by decide), if_neg (by decide), if_neg (by decide), if_neg (by decide), if_neg (by decide), if_pos rfl]
  rw [(doA_right h f 9 n l qu).1 (by rw [hd]), hd]
theorem stepM_status {c : Cf} {s : MSt} (hi : MInv c s) (hm : mayK c.rights.toNat 9 = true) (n : Int) (l : List UInt8) : stepM c s 9 n l = (s, 0, s.m.ph, s.m.got) := by
  have e := doA_status hi.right (factD c s.m s.oth l) n l c.quota
  unfold stepM
  rw [if_pos hm, e]
  have q : ∀ lo, slotA 0 9 n l lo = lo := fun lo => by unfold slotA; rw [if_neg (fun h => absurd h.2 (by decide))]
  dsimp only
  rw [q, q, ite_self, ite_self]
theorem firstE_mem (l : List Int) : firstE l = 0 ∨ firstE l ∈ l := by
  induction l with
  | nil => exact Or.inl rfl
  | cons a l ih =>
    unfold firstE
    split
    · rcases ih with h | h
      · exact Or.inl h
      · exact Or.inr (List.mem_cons_of_mem _ h)
    · exact Or.inr (List.mem_cons_self ..)
theorem oneD_e (m : Mt) (l : List Int) : (oneD m l).e = 0 ∨ (oneD m l).e ∈ l := by
  unfold oneD
  split
  · exact Or.inl rfl
  · exact firstE_mem l
theorem wh_or (b : Bool) (e : Int) : wh b e = 0 ∨ wh b e = e := by
  unfold wh
  split
  · exact Or.inr rfl
  · exact Or.inl rfl
theorem doesD_ne14 (m : Mt) (f : Fc) (k n : Int) (l : List UInt8) (qu : Int) : (doesD m f k n (l.length : Int) (beginD m f l qu)).e ≠ 14 := by
  have key : ∀ (m : Mt) (L : List Int), (∀ e ∈ L, e ≠ 14) → (oneD m L).e ≠ 14 := fun m L hL h => by
    rcases oneD_e m L with q | q
    · rw [h] at q; exact absurd q (by decide)
    · exact hL _ q h
  have hw : ∀ (b : Bool) (e : Int), e ≠ 14 → wh b e ≠ 14 := fun b e he h => by
    rcases wh_or b e with q | q
    · rw [h] at q; exact absurd q (by decide)
    · rw [h] at q; exact he q.symm
  have hm : mE l ≠ 14 := by unfold mE; split <;> decide
  unfold doesD
  split
  · unfold beginD
    refine key _ _ ?_
    intro e he
    simp only [List.mem_cons, List.not_mem_nil, or_false] at he
    rcases he with rfl | rfl | rfl | rfl | rfl | rfl | rfl <;> first | exact hm | exact hw _ _ (by decide)
  all_goals try split
  all_goals try split
  all_goals try split
  all_goals try split
  all_goals try split
  all_goals try split
  all_goals try split
  all_goals try split
  all_goals first
    | (refine key _ _ ?_; intro e he; simp only [List.mem_cons, List.not_mem_nil, or_false] at he; rcases he with rfl | rfl | rfl | rfl <;> exact hw _ _ (by decide))
    | (refine key _ _ ?_; intro e he; simp only [List.mem_cons, List.not_mem_nil, or_false] at he; rcases he with rfl | rfl <;> exact hw _ _ (by decide))
    | (unfold Mt.bootD; split; split; all_goals (show (0 : Int) ≠ 14; decide))
    | (show (0 : Int) ≠ 14; decide)
    | (show (1 : Int) ≠ 14; decide)
theorem doA_ne14 {m : Mt} (f : Fc) (k n : Int) (l : List UInt8) (qu : Int) : (doA m f k n l qu).e ≠ 14 := by
  unfold doA doD
  split
  · show (1 : Int) ≠ 14; decide
  split
  · exact doesD_ne14 m f k n l qu
  · exact doesD_ne14 m f k n l qu
end Go.Proofs.YtpafenlcgcenlaaDoor
