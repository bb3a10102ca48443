/- The reference's Model as a whole; it goes along with the program's (plain). · The reference's Model: Active; the whole in few words. -/
import Derived.Test.YtpafenlcgcenlaaGreatDoorRmdB
import Derived.Test.YtpafenlcgcenlaaGreatDoorMdY
import Derived.Test.YtpafenlcgcenlaaGreatDoorRdP
import Derived.Test.YtpafenlcgcenlaaGreatDoorHeldTk
namespace Go.Proofs.YtpafenlcgcenlaaGreatDoor
open Go Go.RowKit
set_option linter.unusedVariables false
set_option linter.unusedSimpArgs false
/-- What the reference's Model does. -/
def stepR (c : Cf) (t : MSt) (k n : Int) (l : List UInt8) : MSt × Int × Int × Int :=
  if mayK c.rights.toNat k = true then
    (setO t (doA t.m (factR c t.oth k l) k n l c.quota).m (slotR (doA t.m (factR c t.oth k l) k n l c.quota).e k l t.oth), (doA t.m (factR c t.oth k l) k n l c.quota).e, (doA t.m (factR c t.oth k l) k n l c.quota).n, (doA t.m (factR c t.oth k l) k n l c.quota).g)
  else (t, 14, 0, 0)
/-- The two side by side: the active images, and what is there of the one that comes. -/
structure RelP (m : Mt) (la lo ra ro : List UInt8) : Prop where
  act : ra = la.take (m.have_ m.act).s.toNat
  p1 : m.ph = 1 → ro = lo.take (min (m.got * 320) m.cm.s).toNat
  p2 : m.ph = 2 → ro = lo.take m.cm.s.toNat
  p3 : m.ph = 3 → ro = lo.take m.oth.s.toNat
structure Rel (s t : MSt) : Prop where
  m : t.m = s.m
  r : RelP s.m s.run s.oth t.run t.oth
theorem commitT_facts {m : Mt} (ha : m.act = 0 ∨ m.act = 1) : m.commitT.act = m.act ∧ m.commitT.ph = 3 ∧ m.commitT.have_ m.act = m.have_ m.act ∧ m.commitT.oth = m.cm := by
  unfold Mt.commitT Mt.oth Mt.have_ Mt.idle
  rcases ha with h | h
  · rw [if_pos h]; simp [h]
  · rw [if_neg (by omega)]; simp [h]
theorem RelP.same {m m' : Mt} {la lo ra ro : List UInt8} (h : RelP m la lo ra ro) (ha : m'.act = m.act) (hh : m'.have_ m.act = m.have_ m.act) (h0 : m'.ph = 0) (lo' ro' : List UInt8) : RelP m' la lo' ra ro' :=
  ⟨by rw [ha, hh]; exact h.act, fun e => by omega, fun e => by omega, fun e => by omega⟩
/-- One request, side by side. -/
theorem Rel.step {c : Cf} {s t : MSt} (hc : c.right = true) (hi : MInv c s) (h : Rel s t) (k n : Int) (l : List UInt8) : (stepR c t k n l).2 = (stepM c s k n l).2 ∧ Rel (stepM c s k n l).1 (stepR c t k n l).1 := by
  by_cases hk : mayK c.rights.toNat k = true
  rotate_left
  · unfold stepR stepM
    rw [if_neg hk, if_neg hk]
    exact ⟨rfl, h⟩
  have P := (right_iff _).1 hi.right
  have hR := h.r
  have hsl := (Cf.quota_b hc).2
  have hol : (s.oth.length : Int) = c.slot * 320 := by
    unfold MSt.oth
    split
    · exact hi.l1
    · exact hi.l0
  have hD : doA t.m (factR c t.oth k l) k n l c.quota = doA s.m (factD c s.m s.oth l) k n l c.quota := by
    rw [h.m]
    refine doA_sees (fun h1 => ?_) (fun h3 p1 p2 => ?_) ?_
    · unfold factR factD
      rw [if_pos h1]
      exact ⟨rfl, rfl⟩
    · unfold factR factD
      rw [if_neg (by omega), if_pos h3]
      show sha t.oth = sha (s.oth.take s.m.cm.s.toNat)
      rw [hR.p1 p1]
      have hb := (Img.may_b P.cm).2.1
      have : min (s.m.got * 320) s.m.cm.s = s.m.cm.s := by
        unfold chunksZ at p2
        split at p2 <;> omega
      rw [this]
    · unfold factR factD
      split
      · rfl
      split <;> rfl
  rw [stepM_set c s k n l hk]
  unfold stepR
  rw [if_pos hk, hD]
  refine ⟨rfl, ?_⟩
  have hact := P.act
  have hta : t.m.act = s.m.act := by rw [h.m]
  obtain ⟨D, hDD⟩ : ∃ D, doA s.m (factD c s.m s.oth l) k n l c.quota = D := ⟨_, rfl⟩
  rw [hDD]
  -- the same active slot
  have fin : ∀ (lo' ro' : List UInt8), D.m.act = s.m.act → RelP D.m s.run lo' t.run ro' → Rel (setO s D.m lo') (setO t D.m ro') := fun lo' ro' ha hr => by
    refine ⟨by rw [setO_m, setO_m], ?_⟩
    rw [setO_m, setO_run s _ _ ha, setO_run t _ _ (by rw [hta]; exact ha), setO_oth s _ _ ha, setO_oth t _ _ (by rw [hta]; exact ha)]
    exact hr
  by_cases he : D.e = 0
  rotate_left
  · have hm : D.m = s.m := by
      have q := (right_keeps hi.right (factD c s.m s.oth l) k n l c.quota).2.2.1
      rw [hDD] at q
      exact q he
    have e1 : slotA D.e k n l s.oth = s.oth := by unfold slotA; rw [if_neg (fun q => he q.1)]
    have e2 : slotR D.e k l t.oth = t.oth := by unfold slotR; rw [if_neg (fun q => he q.1), if_neg (fun q => he q.1)]
    rw [e1, e2]
    exact fin _ _ (by rw [hm]) (by rw [hm]; exact hR)
  have hd := did hi.right (factD c s.m s.oth l) k n l c.quota (by rw [hDD]; exact he)
  rw [hDD] at hd
  have s1 : k ≠ 2 → slotA D.e k n l s.oth = s.oth := fun q => by unfold slotA; rw [if_neg (fun z => q z.2)]
  have s2 : k ≠ 1 → k ≠ 2 → slotR D.e k l t.oth = t.oth := fun q1 q2 => by unfold slotR; rw [if_neg (fun z => q1 z.2), if_neg (fun z => q2 z.2)]
  obtain ⟨a1, a2, a3, a4, a5, a6, a7, a8⟩ := alone_have hact
  obtain ⟨b1, b2, b3, b4, b5, b6, b7, b8⟩ := alone_have (m := s.m.idle) hact
  generalize hM : D.m = M at hd fin
  cases hd with
  | begin hk1 p0 _ _ _ _ _ _ =>
    rw [s1 (by omega)]
    have e2 : slotR D.e k l t.oth = [] := by unfold slotR; rw [if_pos ⟨he, hk1⟩]
    rw [e2]
    refine fin _ _ a3 ⟨?_, fun _ => ?_, fun e => absurd (show (1 : Int) = 2 from e) (by decide), fun e => absurd (show (1 : Int) = 3 from e) (by decide)⟩
    · show t.run = s.run.take (s.m.alone.have_ s.m.alone.act).s.toNat
      rw [a3, a1]
      exact hR.act
    · have hg : (s.m.beginT l).got = 0 := by
        show s.m.alone.got = 0
        rw [a7]
        exact (ph0_all P p0).2.1
      rw [hg]
      have : (min (0 * 320) (s.m.beginT l).cm.s).toNat = 0 := by omega
      rw [this]
      rfl
  | write hk2 p1 hn hlt hl _ =>
    have e1 : slotA D.e k n l s.oth = wrB s.oth n l := by unfold slotA; rw [if_pos ⟨he, hk2⟩]
    have e2 : slotR D.e k l t.oth = t.oth ++ l := by unfold slotR; rw [if_neg (by rintro ⟨_, q⟩; omega), if_pos ⟨he, hk2⟩]
    rw [e1, e2]
    have hg := P.got
    have hq := hi.quo p1
    have hfit := wr_fits hq hsl hg.1 hlt hl
    have hlz : lenZ s.m.cm.s s.m.got = min 320 (s.m.cm.s - s.m.got * 320) := by unfold lenZ; rw [if_neg (by omega)]
    have hlt2 : s.m.got * 320 < s.m.cm.s := by
      unfold chunksZ at hlt
      split at hlt <;> omega
    refine fin _ _ rfl ⟨hR.act, fun _ => ?_, fun e => absurd (p1.symm.trans e) (by decide), fun e => absurd (p1.symm.trans e) (by decide)⟩
    have r1 := hR.p1 p1
    rw [show min (s.m.got * 320) s.m.cm.s = s.m.got * 320 from by omega] at r1
    rw [r1, hn]
    show _ = (wrB s.oth s.m.got l).take (min ((s.m.got + 1) * 320) s.m.cm.s).toNat
    unfold wrB
    have hlo : (s.oth.take (s.m.got * 320).toNat).length = (s.m.got * 320).toNat := by rw [List.length_take]; omega
    have hN : (min ((s.m.got + 1) * 320) s.m.cm.s).toNat = (s.m.got * 320).toNat + l.length := by omega
    rw [hN]
    have e3 : ∀ (A R : List UInt8), A.length = (s.m.got * 320).toNat → A ++ l = (A ++ (l ++ R)).take ((s.m.got * 320).toNat + l.length) := fun A R hA => by
      rw [← hA, ← List.append_assoc, List.take_left' (by rw [List.length_append])]
    exact e3 _ _ hlo
  | verify hk3 p1 hch _ _ =>
    rw [s1 (by omega), s2 (by omega) (by omega)]
    refine fin _ _ rfl ⟨hR.act, fun e => absurd (show (2 : Int) = 1 from e) (by decide), fun _ => ?_, fun e => absurd (show (2 : Int) = 3 from e) (by decide)⟩
    have r1 := hR.p1 p1
    have hb := (Img.may_b P.cm).2.1
    have : min (s.m.got * 320) s.m.cm.s = s.m.cm.s := by
      unfold chunksZ at hch
      split at hch <;> omega
    rw [this] at r1
    exact r1
  | commit hk4 p2 _ =>
    obtain ⟨c1, c2, c3, c4⟩ := commitT_facts hact
    rw [s1 (by omega), s2 (by omega) (by omega)]
    refine fin _ _ c1 ⟨by rw [c1, c3]; exact hR.act, fun e => by omega, fun e => by omega, fun _ => by rw [c4]; exact hR.p2 p2⟩
  | boot0 hk5 p3 _ ht =>
    rw [s1 (by omega), s2 (by omega) (by omega)]
    exact fin _ _ b3 (hR.same b3 b1 b6 _ _)
  | boot1 hk5 p3 _ ht =>
    rw [s1 (by omega), s2 (by omega) (by omega)]
    exact fin _ _ rfl ⟨hR.act, hR.p1, hR.p2, hR.p3⟩
  | bootn hk5 _ =>
    rw [s1 (by omega), s2 (by omega) (by omega)]
    exact fin _ _ rfl hR
  | confirm hk6 p3 _ _ =>
    rw [s1 (by omega), s2 (by omega) (by omega)]
    have hf : s.m.confT.act = 1 - s.m.act := rfl
    obtain ⟨f1, f2⟩ := setO_flip s s.m.confT s.oth hact hf
    obtain ⟨g1, g2⟩ := setO_flip t s.m.confT t.oth (by rw [hta]; exact hact) (by rw [hta]; exact hf)
    refine ⟨by rw [setO_m, setO_m], ?_⟩
    rw [setO_m, f1, f2, g1, g2]
    refine ⟨?_, fun e => absurd (show (0 : Int) = 1 from e) (by decide), fun e => absurd (show (0 : Int) = 2 from e) (by decide), fun e => absurd (show (0 : Int) = 3 from e) (by decide)⟩
    exact hR.p3 p3
  | rollback hk7 p3 _ =>
    rw [s1 (by omega), s2 (by omega) (by omega)]
    exact fin _ _ b3 (hR.same b3 b1 b6 _ _)
  | abort hk8 _ _ _ =>
    rw [s1 (by omega), s2 (by omega) (by omega)]
    exact fin _ _ rfl (hR.same (m' := s.m.idle) rfl rfl rfl _ _)
  | status hk9 =>
    rw [s1 (by omega), s2 (by omega) (by omega)]
    exact fin _ _ rfl hR
/-- At the beginning. -/
def rt0 (c : Cf) : MSt := ⟨newM c, c.first, []⟩
theorem Rel.start (c : Cf) : Rel (st0 c) (rt0 c) := by
  refine ⟨rfl, ⟨?_, fun e => absurd (show (0 : Int) = 1 from e) (by decide), fun e => absurd (show (0 : Int) = 2 from e) (by decide), fun e => absurd (show (0 : Int) = 3 from e) (by decide)⟩⟩
  show c.first = (newS c).take (c.first.length : Int).toNat
  unfold newS
  rw [Int.toNat_natCast, List.take_left']
  rfl
end Go.Proofs.YtpafenlcgcenlaaGreatDoor
namespace Go.Proofs.YtpafenlcgcenlaaGreatDoor
open Go Go.RowKit
set_option linter.unusedVariables false
set_option linter.unusedSimpArgs false
set_option maxRecDepth 100000 in
set_option maxHeartbeats 4000000 in
theorem ractive0_c (w : World) (B b : Nat) (c : Cf) (m : Mt) (l0 l1 : List UInt8) (K : Option Addr) (kc : Nat) (F : Option Addr) (fc : Nat) (S0 : Option Addr) (c0 : Nat) (S1 : Option Addr) (c1 : Nat) (h : RmAt w B b c m l0 l1 K kc F fc S0 c0 S1 c1) (hact : m.act = 0) (hl : l0.length ≤ 100000) : Calls Tryz.prog 14 #[.pointer (some ⟨b, 0, none⟩)] w (MadeBytes w l0) := by
 have k0 : w.cell? ⟨b, 7, none⟩ = some (.int .i64 0) := by
  have q := h.cellM 0 (by omega)
  rw [show 7 + 0 = 7 from rfl] at q
  rw [q]
  show some (i64v m.act) = _
  rw [hact]
 have k1 : w.cell? ⟨b, 114, none⟩ = some (.slice S0 l0.length c0) := h.cell0
 obtain ⟨i0, hi8, hz0, hz1, hz2⟩ := info_parts info_u8
 have HI8 := Lib.hid hi8
 have HZ0 := Lib.hid hz0
 have HZ1 := Lib.hid hz1
 have HZ2 := Lib.hid hz2
 have HR := Lib.hid (Reads.of_own h.s0)
 have HL := Lib.hid hl
 clear h hact hi8 hz0 hz1 hz2 hl
 go_enter Tryz.func14, Tryz.ntmps14
 go_upto_region 3 with fail
 have hX : Below w.heap.size w w.drew := (Below.refl _ _).drew
 have HX := Lib.hid hX
 have hs0 : w.drew.cell? ⟨b, 7, none⟩ = some (.int .i64 0) ∧ w.drew.cell? ⟨b, 114, none⟩ = some (.slice S0 l0.length c0) := ⟨k0, k1⟩
 clear hX
 refine wp_region_held_drew (S := (fun W => W.cell? ⟨b, 7, none⟩ = some (.int .i64 0) ∧ W.cell? ⟨b, 114, none⟩ = some (.slice S0 l0.length c0))) (by kernel_rfl) ?_ (fun hHeld => ?_)
 ·
  exact hs0
 generalize hwd : w.drew = Wd at HX hs0 hHeld ⊢
 have HR := Lib.hid (HR.out.below HX.out)
 refine tk 0 (h := ?_)
 refine tk 1 (h := ?_)
 refine tk 2 (h := ?_)
 refine tk 3 (h := ?_)
 refine tk 4 (h := ?_)
 refine tk 5 (h := ?_)
 refine tk 6 (h := ?_)
 refine tk 7 (h := ?_)
 refine tk 8 (h := ?_)
 refine tk 9 (h := ?_)
 refine rd 10 (h := fun K hK => ?_)
 refine step_append_any _ rfl (.const (.slice none 0 0)) (.tmp 14) 22 (by rfl) w.heap.size 5 i0 (.int .u8 0) 1 Tryz.underlying22 HI8.out HZ0.out HZ1.out HZ2.out rfl (.slice none 0 0) 0 [] rfl own_noneM S0 l0.length c0 (l0.map u8v) (by rfl) HR.out (u8v_one _) (by have := HL.out; unfold maxLen; omega) (by have := HL.out; omega) HX.out.size ?_
 intro A9 c9 w9 hown9 hgrow9 hat9
 rw [Nat.zero_add, List.nil_append] at hown9
 have hbl : Below Wd.heap.size Wd w9 := ⟨hgrow9.os, hgrow9.tape, hgrow9.output, hgrow9.size, fun k hk => hgrow9.block k hk (by simp [Value.ownBlock])⟩
 have HO := Lib.hid hown9
 have HB := Lib.hid (HX.out.trans (hbl.mono HX.out.size))
 clear hown9 hgrow9 hat9
 refine so hK (by (try dsimp only); (exact ⟨cell_keepM hHeld.1 hbl, cell_keepM hHeld.2 hbl⟩)) (h := fun hHeld => ?_)
 clear hK K
 refine tk 11 (h := ?_)
 refine wpAnyH_done (by kernel_rfl) ?_ _
 try simp only [Act.put, List.getElem_toArray, List.getElem_cons_succ, List.getElem_cons_zero, List.setIfInBounds_toArray, List.set_cons_zero, List.set_cons_succ]
 go_wp2_with fail
 go_ret
 exact ⟨A9, c9, rfl, HO.out, HB.out⟩
set_option maxRecDepth 100000 in
set_option maxHeartbeats 4000000 in
theorem ractive1_c (w : World) (B b : Nat) (c : Cf) (m : Mt) (l0 l1 : List UInt8) (K : Option Addr) (kc : Nat) (F : Option Addr) (fc : Nat) (S0 : Option Addr) (c0 : Nat) (S1 : Option Addr) (c1 : Nat) (h : RmAt w B b c m l0 l1 K kc F fc S0 c0 S1 c1) (hact : m.act = 1) (hl : l1.length ≤ 100000) : Calls Tryz.prog 14 #[.pointer (some ⟨b, 0, none⟩)] w (MadeBytes w l1) := by
 have k0 : w.cell? ⟨b, 7, none⟩ = some (.int .i64 1) := by
  have q := h.cellM 0 (by omega)
  rw [show 7 + 0 = 7 from rfl] at q
  rw [q]
  show some (i64v m.act) = _
  rw [hact]
 have k1 : w.cell? ⟨b, 115, none⟩ = some (.slice S1 l1.length c1) := h.cell1
 obtain ⟨i0, hi8, hz0, hz1, hz2⟩ := info_parts info_u8
 have HI8 := Lib.hid hi8
 have HZ0 := Lib.hid hz0
 have HZ1 := Lib.hid hz1
 have HZ2 := Lib.hid hz2
 have HR := Lib.hid (Reads.of_own h.s1)
 have HL := Lib.hid hl
 clear h hact hi8 hz0 hz1 hz2 hl
 go_enter Tryz.func14, Tryz.ntmps14
 go_upto_region 3 with fail
 have hX : Below w.heap.size w w.drew := (Below.refl _ _).drew
 have HX := Lib.hid hX
 have hs0 : w.drew.cell? ⟨b, 7, none⟩ = some (.int .i64 1) ∧ w.drew.cell? ⟨b, 115, none⟩ = some (.slice S1 l1.length c1) := ⟨k0, k1⟩
 clear hX
 refine wp_region_held_drew (S := (fun W => W.cell? ⟨b, 7, none⟩ = some (.int .i64 1) ∧ W.cell? ⟨b, 115, none⟩ = some (.slice S1 l1.length c1))) (by kernel_rfl) ?_ (fun hHeld => ?_)
 ·
  exact hs0
 generalize hwd : w.drew = Wd at HX hs0 hHeld ⊢
 have HR := Lib.hid (HR.out.below HX.out)
 refine tk 0 (h := ?_)
 refine tk 1 (h := ?_)
 refine tk 2 (h := ?_)
 refine tk 3 (h := ?_)
 refine tk 4 (h := ?_)
 refine tk 5 (h := ?_)
 refine tk 6 (h := ?_)
 refine tk 7 (h := ?_)
 refine tk 8 (h := ?_)
 refine tk 9 (h := ?_)
 refine rd 10 (h := fun K hK => ?_)
 refine step_append_any _ rfl (.const (.slice none 0 0)) (.tmp 14) 22 (by rfl) w.heap.size 5 i0 (.int .u8 0) 1 Tryz.underlying22 HI8.out HZ0.out HZ1.out HZ2.out rfl (.slice none 0 0) 0 [] rfl own_noneM S1 l1.length c1 (l1.map u8v) (by rfl) HR.out (u8v_one _) (by have := HL.out; unfold maxLen; omega) (by have := HL.out; omega) HX.out.size ?_
 intro A9 c9 w9 hown9 hgrow9 hat9
 rw [Nat.zero_add, List.nil_append] at hown9
 have hbl : Below Wd.heap.size Wd w9 := ⟨hgrow9.os, hgrow9.tape, hgrow9.output, hgrow9.size, fun k hk => hgrow9.block k hk (by simp [Value.ownBlock])⟩
 have HO := Lib.hid hown9
 have HB := Lib.hid (HX.out.trans (hbl.mono HX.out.size))
 clear hown9 hgrow9 hat9
 refine so hK (by (try dsimp only); (exact ⟨cell_keepM hHeld.1 hbl, cell_keepM hHeld.2 hbl⟩)) (h := fun hHeld => ?_)
 clear hK K
 refine tk 11 (h := ?_)
 refine wpAnyH_done (by kernel_rfl) ?_ _
 try simp only [Act.put, List.getElem_toArray, List.getElem_cons_succ, List.getElem_cons_zero, List.setIfInBounds_toArray, List.set_cons_zero, List.set_cons_succ]
 go_wp2_with fail
 go_ret
 exact ⟨A9, c9, rfl, HO.out, HB.out⟩
/-- How long the slots are. -/
structure RLen (t : MSt) : Prop where
 l0 : t.l0.length ≤ 1920
 l1 : t.l1.length ≤ 1920
theorem RLen.oth {t : MSt} (h : RLen t) : t.oth.length ≤ 1920 := by
 unfold MSt.oth
 split
 ·
  exact h.l1
 ·
  exact h.l0
theorem RLen.step {c : Cf} {s t : MSt} (hc : c.right = true) (hi : MInv c s) (h : Rel s t) (hl : RLen t) (k n : Int) (l : List UInt8) : RLen (stepR c t k n l).1 := by
 unfold stepR
 by_cases hk : mayK c.rights.toNat k = true
 rotate_left
 ·
  rw [if_neg hk]; exact hl
 rw [if_pos hk]
 have hso : (slotR (doA t.m (factR c t.oth k l) k n l c.quota).e k l t.oth).length ≤ 1920 := by
  unfold slotR
  split
  ·
   exact Nat.zero_le _
  split
  ·
   rename_i hq
   obtain ⟨he, h2⟩ := hq
   have hri : t.m.right = true := by rw [h.m]; exact hi.right
   have P := (right_iff _).1 hri
   have hd := did hri (factR c t.oth k l) k n l c.quota he
   generalize (doA t.m (factR c t.oth k l) k n l c.quota).m = M at hd
   cases hd with
   | write _ p1 hn hlt hll _ =>
    have r1 := h.r.p1 (by rw [← h.m]; exact p1)
    have hb := (Img.may_b P.cm).2
    have hg := P.got
    rw [h.m] at hll hlt hb hg
    have hlen : t.oth.length ≤ (min (s.m.got * 320) s.m.cm.s).toNat := by rw [r1, List.length_take]; omega
    rw [List.length_append]
    have hlz : lenZ s.m.cm.s s.m.got = min 320 (s.m.cm.s - s.m.got * 320) := by unfold lenZ; rw [if_neg (by omega)]
    unfold chunksZ at hlt
    split at hlt <;> omega
   | _ => omega
  ·
   exact hl.oth
 unfold setO
 split
 ·
  exact ⟨hl.l0, hso⟩
 ·
  exact ⟨hso, hl.l1⟩
theorem rt0_len {c : Cf} (h : c.right = true) : RLen (rt0 c) := by
 have hf := Cf.first_b h
 have hs := Cf.slot_b h
 exact ⟨by show c.first.length ≤ 1920; omega, Nat.zero_le _⟩
/-- The reference's Model in the world. -/
def RmB (w : World) (B b : Nat) (c : Cf) (t : MSt) : Prop := ∃ (K : Option Addr) (kc : Nat) (F : Option Addr) (fc : Nat) (S0 : Option Addr) (c0 : Nat) (S1 : Option Addr) (c1 : Nat), RmAt w B b c t.m t.l0 t.l1 K kc F fc S0 c0 S1 c1
theorem RmB.later {w w' : World} {B b : Nat} {c : Cf} {t : MSt} (h : RmB w B b c t) (hb : Below w.heap.size w w') : RmB w' B b c t := by
 obtain ⟨K, kc, F, fc, S0, c0, S1, c1, hm⟩ := h
 exact ⟨K, kc, F, fc, S0, c0, S1, c1, hm.below hb⟩
/-- What lies below N and above M may turn, if N is not above the Model, and its key lies below M. -/
def RmC (w : World) (A B b : Nat) (c : Cf) (t : MSt) : Prop := ∃ (K : Option Addr) (kc : Nat) (F : Option Addr) (fc : Nat) (S0 : Option Addr) (c0 : Nat) (S1 : Option Addr) (c1 : Nat), RmAt w B b c t.m t.l0 t.l1 K kc F fc S0 c0 S1 c1 ∧ (∀ a, K = some a → a.block < A)
theorem RmC.later {w w' : World} {A B b : Nat} {c : Cf} {t : MSt} (h : RmC w A B b c t) (hb : Below w.heap.size w w') : RmC w' A B b c t := by
 obtain ⟨K, kc, F, fc, S0, c0, S1, c1, hm, hk⟩ := h
 exact ⟨K, kc, F, fc, S0, c0, S1, c1, hm.below hb, hk⟩
theorem RmC.only {w w' : World} {A B b : Nat} {c : Cf} {t : MSt} (h : RmC w A B b c t) {S : List Nat} (ho : Only S w w') (hS : ∀ k, k ∈ S → A ≤ k ∧ k < B) : RmC w' A B b c t := by
 obtain ⟨K, kc, F, fc, S0, c0, S1, c1, hm, hk⟩ := h
 exact ⟨K, kc, F, fc, S0, c0, S1, c1, ⟨hm.blk.only ho (fun q => by have := hS b q; have := hm.ge; omega), hm.ok, hm.key.only ho (fun a e q => by have := hS _ q; have := hk a e; omega), own_only hm.s0 ho (fun k e q => by have := hS k q; have := (hm.s0.lt k e).1; omega), own_only hm.s1 ho (fun k e q => by have := hS k q; have := (hm.s1.lt k e).1; omega), hm.ge, hm.kb, hm.ap⟩, hk⟩
theorem rmnewB (w : World) (A : Nat) (c : Cf) (K : Option Addr) (kc : Nat) (F : Option Addr) (fc : Nat) (hs : c.nm.size ≤ 1000000) (hK : Reads w K c.key.length (c.key.map u8v)) (hKb : ∀ a, K = some a → a.block < A) (hA : A ≤ w.heap.size) (hF : Reads w F c.first.length (c.first.map u8v)) (hyes : c.right = true) : Calls Tryz.prog 9 #[.agg (c.cells K kc F fc).toArray] w fun e w' => ∃ (b : Nat), e = .returned (.pointer (some ⟨b, 0, none⟩)) ∧ RmC w' A w.heap.size b c (rt0 c) ∧ Below w.heap.size w w' := by
 have h1 := Cf.slot_b hyes
 have h2 := Cf.first_b hyes
 refine (rmnew_yes w c K kc F fc hs hK (fun a e => Nat.lt_of_lt_of_le (hKb a e) hA) hF (by omega) hyes).mono ?_
 rintro e w' ⟨b, S0, c0, rfl, hm, hb⟩
 exact ⟨b, rfl, ⟨K, kc, F, fc, S0, c0, none, 0, hm, hKb⟩, hb⟩
theorem rmdoB (w : World) (A B b : Nat) (c : Cf) (s t : MSt) (hc : c.right = true) (hi : MInv c s) (hrel : Rel s t) (hlen : RLen t) (h : RmC w A B b c t) (hB : B ≤ w.heap.size) (qk qn : Int) (SB : Option Addr) (sl sc : Nat) (l : List UInt8) (hrd : Reads w SB sl (l.map u8v)) (hsl : sl ≤ 1000) (hsc : sl ≤ sc ∧ sc ≤ maxLen) :
  Calls Tryz.prog 11 #[.pointer (some ⟨b, 0, none⟩), .agg #[.int .i64 qk, .int .i64 qn, .slice SB sl sc]] w fun e w' => e = .returned (.agg #[.int .i64 (stepR c t qk qn l).2.1, .int .i64 (stepR c t qk qn l).2.2.1, .int .i64 (stepR c t qk qn l).2.2.2]) ∧ RmC w' A B b c (stepR c t qk qn l).1 ∧ Below B w w' := by
 obtain ⟨K, kc, F, fc, S0, c0, S1, c1, hm, hkA⟩ := h
 obtain ⟨r0, r1⟩ := Cf.rights_b hc
 have hr : c.rights = ((c.rights.toNat : Nat) : Int) := by omega
 have hri : t.m.right = true := by rw [hrel.m]; exact hi.right
 have hk := Cf.key_b hc
 have hact := ((right_iff _).1 hri).act
 unfold stepR
 by_cases hy : mayK c.rights.toNat qk = true
 rotate_left
 ·
  rw [if_neg hy]
  refine (rmdo_no w B b c t.m t.l0 t.l1 K kc F fc S0 c0 S1 c1 hm c.rights.toNat hr (by omega) qk qn SB sl sc (by simpa using hy)).mono ?_
  rintro e w' ⟨rfl, hb2⟩
  exact ⟨rfl, ⟨K, kc, F, fc, S0, c0, S1, c1, hm.below hb2, hkA⟩, ⟨hb2.os, hb2.tape, hb2.output, hb2.size, fun k hk2 => hb2.block k (Nat.lt_of_lt_of_le hk2 hB)⟩⟩
 rw [if_pos hy]
 have hkeep := (right_keeps hri (factR c t.oth qk l) qk qn l c.quota).2.2.1
 obtain ⟨D, hD⟩ : ∃ D, doA t.m (factR c t.oth qk l) qk qn l c.quota = D := ⟨_, rfl⟩
 rw [hD] at hkeep ⊢
 obtain ⟨dm, de, dn, dg⟩ := D
 have hrows : ∀ k, k ∈ (b :: ((Value.slice S0 t.l0.length c0).ownBlock.toList ++ (Value.slice S1 t.l1.length c1).ownBlock.toList)) → B ≤ k := fun k hk2 => by
  rcases List.mem_cons.1 hk2 with rfl | hk2
  ·
   exact hm.ge
  ·
   rcases List.mem_append.1 hk2 with q | q
   ·
    exact (hm.s0.lt k (by simpa using q)).1
   ·
    exact (hm.s1.lt k (by simpa using q)).1
 unfold MSt.oth at hD ⊢
 unfold setO
 rcases hact with ha | ha
 ·
  rw [if_pos ha] at hD ⊢
  rw [if_pos ha]
  refine (rmdo_yes0 w B b c t.m t.l0 t.l1 K kc F fc S0 c0 S1 c1 hm hB c.rights.toNat hr (by omega) (b :: ((Value.slice S0 t.l0.length c0).ownBlock.toList ++ (Value.slice S1 t.l1.length c1).ownBlock.toList)) (List.mem_cons_self ..) (fun k e => List.mem_cons_of_mem _ (List.mem_append_left _ (by simpa using e))) (fun k e => List.mem_cons_of_mem _ (List.mem_append_right _ (by simpa using e))) ha (by have := hlen.l0; omega) (by have := hlen.l1; omega) (by omega) qk qn SB sl sc l hrd hsl hsc hy dm de dn dg hD hkeep).mono ?_
  rintro e w' ⟨rfl, ⟨T0, d0, T1, d1, hm2⟩, ho⟩
  exact ⟨rfl, ⟨K, kc, F, fc, T0, d0, T1, d1, hm2, hkA⟩, ho.below ⟨rfl, rfl, rfl, Nat.le_refl _, fun _ _ => rfl⟩ hB hrows⟩
 ·
  rw [if_neg (by omega)] at hD ⊢
  rw [if_neg (by omega)]
  refine (rmdo_yes1 w B b c t.m t.l0 t.l1 K kc F fc S0 c0 S1 c1 hm hB c.rights.toNat hr (by omega) (b :: ((Value.slice S0 t.l0.length c0).ownBlock.toList ++ (Value.slice S1 t.l1.length c1).ownBlock.toList)) (List.mem_cons_self ..) (fun k e => List.mem_cons_of_mem _ (List.mem_append_left _ (by simpa using e))) (fun k e => List.mem_cons_of_mem _ (List.mem_append_right _ (by simpa using e))) ha (by have := hlen.l0; omega) (by have := hlen.l1; omega) (by omega) qk qn SB sl sc l hrd hsl hsc hy dm de dn dg hD hkeep).mono ?_
  rintro e w' ⟨rfl, ⟨T0, d0, T1, d1, hm2⟩, ho⟩
  exact ⟨rfl, ⟨K, kc, F, fc, T0, d0, T1, d1, hm2, hkA⟩, ho.below ⟨rfl, rfl, rfl, Nat.le_refl _, fun _ _ => rfl⟩ hB hrows⟩
theorem ractB (w : World) (A B b : Nat) (c : Cf) (t : MSt) (hact : t.m.act = 0 ∨ t.m.act = 1) (hlen : RLen t) (h : RmC w A B b c t) : Calls Tryz.prog 14 #[.pointer (some ⟨b, 0, none⟩)] w (MadeBytes w t.run) := by
 obtain ⟨K, kc, F, fc, S0, c0, S1, c1, hm, _⟩ := h
 unfold MSt.run
 rcases hact with ha | ha
 ·
  rw [if_pos ha]
  exact ractive0_c w B b c t.m t.l0 t.l1 K kc F fc S0 c0 S1 c1 hm ha (by have := hlen.l0; omega)
 ·
  rw [if_neg (by omega)]
  exact ractive1_c w B b c t.m t.l0 t.l1 K kc F fc S0 c0 S1 c1 hm ha (by have := hlen.l1; omega)
end Go.Proofs.YtpafenlcgcenlaaGreatDoor
