/- An update on a Model goes its way (plain). -/
import Derived.Test.YtpafenlcgcenlaaGreatDoorMdY
import Derived.Test.YtpafenlcgcenlaaGreatDoorGoP
import Derived.Test.YtpafenlcgcenlaaGreatDoorGoe
namespace Go.Proofs.YtpafenlcgcenlaaGreatDoor
open Go Go.RowKit
set_option linter.unusedVariables false
set_option linter.unusedSimpArgs false
theorem signed_go (key : List UInt8) (nm : ByteArray) (i : Img) (hx : Lim1 (nm, i) true) : signedB key (bytesB key nm i) = true ∧ mNm (bytesB key nm i) = nm := by
  obtain ⟨h1, h2, h3⟩ := mOk_app (bodyB nm i) (tagL key (bodyB nm i)) (bodyB_len _ _)
  have hl := bytesB_len key nm i
  refine ⟨?_, ?_⟩
  · unfold bytesB at hl
    unfold signedB bytesB
    rw [h1, hl, hx.ok, List.drop_left' (bodyB_len _ _), List.take_left' (bodyB_len _ _), List.take_of_length_le (by rw [tagL_len]; exact Nat.le_refl _)]
    simp
  · unfold mNm
    rw [if_pos ⟨hl, by unfold bytesB; rw [h1, hx.ok]⟩]
    unfold bytesB
    rw [h2]
    exact (hx.back rfl).1
/-- What Do looks at: of QWrite how many bytes, of QVerify the digest. -/
theorem doA_congr {m : Mt} {f f' : Fc} {k n : Int} {l l' : List UInt8} {qu qu' : Int} (h1 : k ≠ 1) (hl : k = 2 → l.length = l'.length) (hd : k = 3 → f.d = f'.d) (hw : f.wn = f'.wn) : doA m f k n l qu = doA m f' k n l' qu' := by
  have e : doesD m f k n (l.length : Int) (beginD m f l qu) = doesD m f' k n (l'.length : Int) (beginD m f' l' qu') := by
    unfold doesD
    rw [if_neg h1, if_neg h1, hw]
    by_cases h2 : k = 2
    · rw [if_pos h2, if_pos h2, hl h2]
    · rw [if_neg h2, if_neg h2]
      by_cases h3 : k = 3
      · rw [if_pos h3, if_pos h3, hd h3]
      · rw [if_neg h3, if_neg h3]
  unfold doA doD
  rw [e]
section
variable {m : Mt} {x : Img} (I : GoIn m x)
include I
theorem g1q (nm : ByteArray) (hn : validN nm = true) (key : List UInt8) (f : Fc) (hnm : f.nm = true) (htg : f.tg = true) (hwn : f.wn = false) (qu : Int) (hq : chunksZ x.s ≤ qu) : doA m f 1 0 (bytesB key nm x) qu = ⟨gT m x 0, 0, 0, 0⟩ := by
  obtain ⟨e1, e2⟩ := gM I nm hn key
  have hK := gK I
  have hv := I.v
  have hmn := I.mn
  obtain ⟨_, hg, _⟩ := gzero I
  obtain ⟨_, _, _, _, _, _, a7, _⟩ := alone_have I.P.act
  rw [doA_one I.P (T := m.beginT (bytesB key nm x)) (L := [wh (m.ph != 0) 11, mE (bytesB key nm x), wh (!f.nm) 7, wh (!f.tg) 8, wh (!(m.vmay (mX (bytesB key nm x)).v)) 9, wh (decide (min qu 6 < chunksZ (mX (bytesB key nm x)).s)) 10, wh f.wn 5]) (by unfold doesD; rw [if_pos rfl]; rfl)]
  rw [e1, e2, firstE_f (by rw [I.ph]; rfl), firstE_z rfl, firstE_f (by rw [hnm]; rfl), firstE_f (by rw [htg]; rfl), firstE_f (by unfold Mt.vmay; simp; omega), firstE_f (by rw [decide_eq_false_iff_not]; omega), firstE_f hwn, firstE_nil, if_pos rfl]
  unfold Mt.beginT gT
  rw [e2]
  show (⟨⟨m.alone.act, m.alone.h0, m.alone.h1, m.alone.mn, 1, x, m.alone.got, m.alone.tr⟩, 0, 0, 0⟩ : Ch) = ⟨⟨m.alone.act, m.alone.h0, m.alone.h1, m.alone.mn, 1, x, 0, m.alone.tr⟩, 0, 0, 0⟩
  rw [a7, hg]
theorem g2q (j : Int) (h0 : 0 ≤ j) (hj : j < chunksZ x.s) (f : Fc) (hwn : f.wn = false) (l : List UInt8) (hl : (l.length : Int) = lenZ x.s j) (qu : Int) : doA (gT m x j) f 2 j l qu = ⟨gT m x (j + 1), 0, 0, 0⟩ := by
  rw [doA_congr (f' := gF x) (l' := List.replicate (lenZ x.s j).toNat 0) (qu' := 6) (by decide) (fun _ => by rw [List.length_replicate]; omega) (fun h => absurd h (by decide)) hwn]
  exact g2 I j h0 hj
theorem g3q (f : Fc) (hd : f.d = x.d) (hwn : f.wn = false) (n : Int) (l : List UInt8) (qu : Int) (hn : n = 0) : doA (gT m x (chunksZ x.s)) f 3 n l qu = ⟨gV m x, 0, 0, 0⟩ := by
  subst hn
  rw [doA_congr (f' := gF x) (l' := []) (qu' := 6) (by decide) (fun h => absurd h (by decide)) (fun _ => hd) hwn]
  exact g3 I
theorem g4q (f : Fc) (hwn : f.wn = false) (l : List UInt8) (qu : Int) : doA (gV m x) f 4 0 l qu = ⟨gC m x 2, 0, 0, 0⟩ := by
  rw [doA_congr (f' := gF x) (l' := []) (qu' := 6) (by decide) (fun h => absurd h (by decide)) (fun h => absurd h (by decide)) hwn]
  exact g4 I
theorem g5q (f : Fc) (hwn : f.wn = false) (l : List UInt8) (qu : Int) : doA (gC m x 2) f 5 0 l qu = ⟨gC m x 1, 0, 1 - m.act, 0⟩ := by
  rw [doA_congr (f' := gF x) (l' := []) (qu' := 6) (by decide) (fun h => absurd h (by decide)) (fun h => absurd h (by decide)) hwn]
  exact gboot I 2 (gC2_right I) (by decide)
theorem g6q (f : Fc) (hwn : f.wn = false) (l : List UInt8) (qu : Int) : doA (gC m x 1) f 6 0 l qu = ⟨gN m x, 0, 0, 0⟩ := by
  rw [doA_congr (f' := gF x) (l' := []) (qu' := 6) (by decide) (fun h => absurd h (by decide)) (fun h => absurd h (by decide)) hwn]
  exact g8 I 1 (Or.inl rfl)
theorem gAct (j t : Int) : (gT m x j).act = m.act ∧ (gV m x).act = m.act ∧ (gC m x t).act = m.act ∧ (gN m x).act = 1 - m.act := by
  have h := alone_have I.P.act
  exact ⟨h.2.2.1, h.2.2.1, (gC_parts I t).2.2.1, (gN_end I).2.1⟩
end
/-- A Model of which another Meta, and the slot that is not active, are these. -/
def setO (s : MSt) (m' : Mt) (lo : List UInt8) : MSt := if s.m.act = 0 then ⟨m', s.l0, lo⟩ else ⟨m', lo, s.l1⟩
theorem setO_id (s : MSt) : setO s s.m s.oth = s := by
  unfold setO MSt.oth
  split <;> rfl
theorem setO_m (s : MSt) (m' : Mt) (lo : List UInt8) : (setO s m' lo).m = m' := by unfold setO; split <;> rfl
theorem setO_oth (s : MSt) (m' : Mt) (lo : List UInt8) (h : m'.act = s.m.act) : (setO s m' lo).oth = lo := by
  unfold MSt.oth
  rw [setO_m, h]
  unfold setO
  split <;> rfl
theorem stepM_go (c : Cf) (s : MSt) (m' : Mt) (lo : List UInt8) (h : m'.act = s.m.act) (k n : Int) (l : List UInt8) (hk : mayK c.rights.toNat k = true) (d : Mt) (e a b : Int) (hD : doA m' (factD c m' lo l) k n l c.quota = ⟨d, e, a, b⟩) : stepM c (setO s m' lo) k n l = (setO s d (slotA e k n l lo), e, a, b) := by
  unfold stepM
  rw [if_pos hk, setO_oth s m' lo h, setO_m, hD]
  dsimp only
  rw [h]
  unfold setO
  split
  · rfl
  · rfl
/-- A row of requests: no error; what is kept behind it. -/
def foldS (c : Cf) (s : MSt) (L : List Rp) : MSt := L.foldl (fun s r => (stepM c s r.k r.n r.l).1) s
def allE0 (c : Cf) (s : MSt) : List Rp → Prop
  | [] => True
  | r :: t => (stepM c s r.k r.n r.l).2.1 = 0 ∧ allE0 c (stepM c s r.k r.n r.l).1 t
theorem allE0_app (c : Cf) : ∀ (s : MSt) (a b : List Rp), allE0 c s (a ++ b) ↔ allE0 c s a ∧ allE0 c (foldS c s a) b
  | s, [], b => ⟨fun h => ⟨trivial, h⟩, fun h => h.2⟩
  | s, r :: a, b => by
    show (stepM c s r.k r.n r.l).2.1 = 0 ∧ allE0 c (stepM c s r.k r.n r.l).1 (a ++ b) ↔ ((stepM c s r.k r.n r.l).2.1 = 0 ∧ allE0 c (stepM c s r.k r.n r.l).1 a) ∧ allE0 c (foldS c (stepM c s r.k r.n r.l).1 a) b
    rw [allE0_app]
    exact ⟨fun h => ⟨⟨h.1, h.2.1⟩, h.2.2⟩, fun h => ⟨h.1.1, h.1.2, h.2⟩⟩
theorem foldS_app (c : Cf) (s : MSt) (a b : List Rp) : foldS c s (a ++ b) = foldS c (foldS c s a) b := by unfold foldS; rw [List.foldl_append]
theorem foldS_one (c : Cf) (s : MSt) (r : Rp) : foldS c s [r] = (stepM c s r.k r.n r.l).1 := rfl
theorem allE0_at {c : Cf} {s : MSt} {L : List Rp} (h : allE0 c s L) (i : Nat) (r : Rp) (hr : L[i]? = Option.some r) : (stepM c (foldS c s (L.take i)) r.k r.n r.l).2.1 = 0 ∧ foldS c s (L.take (i + 1)) = (stepM c (foldS c s (L.take i)) r.k r.n r.l).1 := by
  have hi : i < L.length := by
    rcases Nat.lt_or_ge i L.length with q | q
    · exact q
    · rw [List.getElem?_eq_none q] at hr; cases hr
  have e : L = L.take i ++ (r :: L.drop (i + 1)) := by
    have e1 : L[i] = r := by rw [List.getElem?_eq_getElem hi] at hr; injection hr
    rw [← e1, ← List.drop_eq_getElem_cons hi, List.take_append_drop]
  have h2 := h
  rw [e, allE0_app] at h2
  refine ⟨h2.2.1, ?_⟩
  have e2 : L.take (i + 1) = L.take i ++ [r] := by
    rw [List.take_add_one, hr]
    rfl
  rw [e2, foldS_app, foldS_one]
theorem MInv.fold {c : Cf} (hc : c.right = true) : ∀ (L : List Rp) {s : MSt}, MInv c s → MInv c (foldS c s L)
  | [], _, h => h
  | r :: L, _, h => MInv.fold hc L (h.step hc r.k r.n r.l)
theorem lenZ_nat {n : Nat} {j : Nat} (hj : (j : Int) < chunksZ (n : Int)) : lenZ (n : Int) (j : Int) = ((min 320 (n - j * 320) : Nat) : Int) ∧ j * 320 < n := by
  have h : j * 320 < n := by unfold chunksZ at hj; split at hj <;> omega
  unfold lenZ
  rw [if_neg (by omega)]
  omega
section
variable {c : Cf} {s : MSt} {img : List UInt8} {v : Int}
/-- An update that may go its way. -/
structure GoOk (c : Cf) (s : MSt) (img : List UInt8) (v : Int) : Prop where
  cr : c.right = true
  i : MInv c s
  ok : s.m.Ok
  ph : s.m.ph = 0
  mn : s.m.mn ≤ v
  v : 1 ≤ v ∧ v ≤ 1073741824
  n1 : 1 ≤ img.length
  qu : chunksZ (img.length : Int) ≤ c.quota
  may : ∀ k : Int, 1 ≤ k → k ≤ 6 → mayK c.rights.toNat k = true
variable (G : GoOk c s img v)
include G
theorem go_in : GoIn s.m (imgX img v) := by
  have h1 := Cf.quota_b G.cr
  have h2 := Cf.slot_b G.cr
  have h3 := G.qu
  have hn := G.n1
  refine ⟨(right_iff _).1 G.i.right, G.ok, G.ph, sha_len _, G.v, G.mn, ?_⟩
  show 1 ≤ (img.length : Int) ∧ (img.length : Int) ≤ 1920
  unfold chunksZ at h3
  split at h3 <;> omega
theorem go_name : validN c.nm = true := by
  have h := G.cr
  unfold Cf.right at h
  simp only [Bool.and_eq_true] at h
  exact h.1
theorem go_len : (img.length : Int) ≤ c.slot * 320 := by
  have h1 := Cf.quota_b G.cr
  have h3 := G.qu
  unfold chunksZ at h3
  split at h3 <;> omega
theorem go_oth : (s.oth.length : Int) = c.slot * 320 := by
  unfold MSt.oth
  split
  · exact G.i.l1
  · exact G.i.l0
/-- The writes. -/
theorem go_writes (j : Nat) (hj : (j : Int) ≤ chunksZ (img.length : Int)) : ∃ lo, allE0 c (setO s (gT s.m (imgX img v) 0) s.oth) (goesW img j) ∧ foldS c (setO s (gT s.m (imgX img v) 0) s.oth) (goesW img j) = setO s (gT s.m (imgX img v) (j : Int)) lo ∧ (lo.length : Int) = c.slot * 320 ∧ lo.take (min (j * 320) img.length) = img.take (min (j * 320) img.length) := by
  have I := go_in G
  induction j with
  | zero => exact ⟨s.oth, trivial, rfl, go_oth G, by simp⟩
  | succ j ih =>
    obtain ⟨lo, h1, h2, h3, h4⟩ := ih (by omega)
    have hj' : (j : Int) < chunksZ (img.length : Int) := by omega
    obtain ⟨hl, hlt⟩ := lenZ_nat hj'
    have hcl : ((img.drop (j * 320)).take 320).length = min 320 (img.length - j * 320) := by rw [List.length_take, List.length_drop]
    have hD := g2q I (j : Int) (by omega) hj' (factD c (gT s.m (imgX img v) (j : Int)) lo ((img.drop (j * 320)).take 320)) rfl ((img.drop (j * 320)).take 320) (by show _ = lenZ (img.length : Int) _; rw [hl, hcl]) c.quota
    have hst := stepM_go c s _ lo (gAct I (j : Int) 0).1 2 (j : Int) _ (G.may 2 (by decide) (by decide)) _ _ _ _ hD
    rw [goesW_succ]
    refine ⟨wrB lo (j : Int) ((img.drop (j * 320)).take 320), ?_, ?_, ?_, ?_⟩
    · rw [allE0_app, h2]
      refine ⟨h1, ?_, trivial⟩
      show (stepM c _ 2 (j : Int) _).2.1 = 0
      rw [hst]
    · rw [foldS_app, h2, foldS_one]
      show (stepM c _ 2 (j : Int) _).1 = _
      rw [hst]
      show setO s _ (slotA 0 2 (j : Int) _ lo) = _
      unfold slotA
      rw [if_pos ⟨rfl, rfl⟩]
      rfl
    · have hgl := go_len G
      rw [wrB_len (by rw [hcl]; omega)]
      exact h3
    · have hgl := go_len G
      unfold wrB
      rw [show ((j : Int) * 320).toNat = j * 320 from by omega]
      rw [show min (j * 320) img.length = j * 320 from by omega] at h4
      have hlo : (lo.take (j * 320)).length = j * 320 := by rw [List.length_take]; omega
      rw [show min ((j + 1) * 320) img.length = j * 320 + min 320 (img.length - j * 320) from by omega, List.take_append, hlo, List.take_of_length_le (by omega), show j * 320 + min 320 (img.length - j * 320) - j * 320 = min 320 (img.length - j * 320) from by omega, List.take_append_of_le_length (by rw [hcl]; exact Nat.le_refl _), List.take_of_length_le (l := (img.drop (j * 320)).take 320) (by rw [hcl]; exact Nat.le_refl _), h4, List.take_add]
      congr 1
      rcases Nat.lt_or_ge (img.length - j * 320) 320 with q | q
      · rw [List.take_of_length_le (by rw [List.length_drop]; omega), List.take_of_length_le (by rw [List.length_drop]; omega)]
      · rw [show min 320 (img.length - j * 320) = 320 from by omega]
/-- The whole way. -/
theorem go_all : allE0 c s (goesL c.key c.nm img v) ∧ ∃ lo, foldS c s (goesL c.key c.nm img v) = setO s (gN s.m (imgX img v)) lo ∧ (lo.length : Int) = c.slot * 320 ∧ lo.take img.length = img := by
  have I := go_in G
  have hn := G.n1
  obtain ⟨KK, hKK⟩ : ∃ KK : Nat, chunksZ (img.length : Int) = (KK : Int) := ⟨(chunksZ (img.length : Int)).toNat, by unfold chunksZ; split <;> omega⟩
  obtain ⟨lo, w1, w2, w3, w4⟩ := go_writes G KK (by omega)
  have hkn : img.length ≤ KK * 320 := by unfold chunksZ at hKK; split at hKK <;> omega
  rw [show min (KK * 320) img.length = img.length from by omega, List.take_of_length_le (l := img) (Nat.le_refl _)] at w4
  have hx : (imgX img v).s = (img.length : Int) := rfl
  -- the manifest
  obtain ⟨m1, m2⟩ := gM I c.nm (go_name G) c.key
  have hback := body_back c.nm (imgX img v) I.d (go_name G) I.v ⟨I.s.1, by have := I.s; omega⟩
  have hf1 : (factD c s.m s.oth (bytesB c.key c.nm (imgX img v))).nm = true := by
    unfold factD
    dsimp only
    rw [m1, decide_eq_true rfl, Bool.true_and]
    have e : mNm (bytesB c.key c.nm (imgX img v)) = c.nm := (signed_go c.key c.nm _ hback).2
    rw [e]
    exact beq_self_eq_true _
  have hf2 : (factD c s.m s.oth (bytesB c.key c.nm (imgX img v))).tg = true := (signed_go c.key c.nm _ hback).1
  have hs1 := stepM_go c s s.m s.oth rfl 1 0 (bytesB c.key c.nm (imgX img v)) (G.may 1 (by decide) (by decide)) _ _ _ _ (g1q I c.nm (go_name G) c.key _ hf1 hf2 rfl c.quota (by rw [hx]; exact G.qu))
  rw [setO_id] at hs1
  -- the ends
  have hD3 : doA (gT s.m (imgX img v) (KK : Int)) (factD c (gT s.m (imgX img v) (KK : Int)) lo []) 3 0 [] c.quota = ⟨gV s.m (imgX img v), 0, 0, 0⟩ := by
    have q := g3q I (factD c (gT s.m (imgX img v) (KK : Int)) lo []) (by show sha (lo.take (img.length : Int).toNat) = sha img; rw [Int.toNat_natCast, w4]) rfl 0 [] c.quota rfl
    rw [hx, hKK] at q
    exact q
  have hs3 := stepM_go c s (gT s.m (imgX img v) (KK : Int)) lo (gAct I (KK : Int) 0).1 3 0 [] (G.may 3 (by decide) (by decide)) _ _ _ _ hD3
  have hs4 := stepM_go c s (gV s.m (imgX img v)) lo (gAct I 0 0).2.1 4 0 [] (G.may 4 (by decide) (by decide)) _ _ _ _ (g4q I _ rfl [] c.quota)
  have hs5 := stepM_go c s (gC s.m (imgX img v) 2) lo (gAct I 0 2).2.2.1 5 0 [] (G.may 5 (by decide) (by decide)) _ _ _ _ (g5q I _ rfl [] c.quota)
  have hs6 := stepM_go c s (gC s.m (imgX img v) 1) lo (gAct I 0 1).2.2.1 6 0 [] (G.may 6 (by decide) (by decide)) _ _ _ _ (g6q I _ rfl [] c.quota)
  have hsl : ∀ (k n : Int) (l lo : List UInt8), k ≠ 2 → slotA 0 k n l lo = lo := fun k n l lo h => by unfold slotA; rw [if_neg (fun q => h q.2)]
  rw [hsl _ _ _ _ (by decide)] at hs1 hs3 hs4 hs5 hs6
  unfold goesL
  rw [hKK, Int.toNat_natCast]
  have hend : allE0 c (setO s (gT s.m (imgX img v) (KK : Int)) lo) goesE ∧ foldS c (setO s (gT s.m (imgX img v) (KK : Int)) lo) goesE = setO s (gN s.m (imgX img v)) lo := by
    unfold goesE allE0 allE0 allE0 allE0 allE0 foldS
    simp only [List.foldl_cons, List.foldl_nil]
    rw [hs3]
    dsimp only
    rw [hs4]
    dsimp only
    rw [hs5]
    dsimp only
    rw [hs6]
    exact ⟨⟨rfl, rfl, rfl, rfl, trivial⟩, rfl⟩
  refine ⟨?_, lo, ?_, w3, w4⟩
  · show (stepM c s 1 0 (bytesB c.key c.nm (imgX img v))).2.1 = 0 ∧ allE0 c (stepM c s 1 0 (bytesB c.key c.nm (imgX img v))).1 (goesW img KK ++ goesE)
    rw [hs1]
    refine ⟨rfl, ?_⟩
    rw [allE0_app, w2]
    exact ⟨w1, hend.1⟩
  · show foldS c (stepM c s 1 0 (bytesB c.key c.nm (imgX img v))).1 (goesW img KK ++ goesE) = _
    rw [hs1]
    show foldS c (setO s (gT s.m (imgX img v) 0) s.oth) _ = _
    rw [foldS_app, w2]
    exact hend.2
/-- What is there at its end. -/
theorem go_end : let t := foldS c s (goesL c.key c.nm img v)
    t.run.take (t.m.have_ t.m.act).s.toNat = img ∧ t.m.mn = v ∧ t.m.ph = 0 ∧ t.m.Ok ∧ MInv c t ∧ t.m.act = 1 - s.m.act := by
  intro t
  have I := go_in G
  obtain ⟨_, lo, h1, h2, h3⟩ := go_all G
  have ht : t = setO s (gN s.m (imgX img v)) lo := h1
  obtain ⟨e1, e2, e3, e4, e5⟩ := gN_end I
  have hm : t.m = gN s.m (imgX img v) := by rw [ht, setO_m]
  refine ⟨?_, by rw [hm]; exact e4, by rw [hm]; exact e1, by rw [hm]; exact gN_ok I, MInv.fold G.cr _ G.i, by rw [hm]; exact e2⟩
  have hr : t.run = lo := by
    unfold MSt.run
    rw [hm, e2, ht]
    have ha := I.P.act
    unfold setO
    rcases ha with h | h <;> simp [h]
  rw [hr, hm, e2, e3]
  show lo.take (img.length : Int).toNat = img
  rw [Int.toNat_natCast]
  exact h3
end
end Go.Proofs.YtpafenlcgcenlaaGreatDoor
