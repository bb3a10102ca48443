/- waterlinelaw11.RingPlays: what any row of calls answers is what the reference answers, whatever is cut. -/
import Derived.Test.YtlchlcjahndjgaaGreatRfO
import Derived.Test.YtlchlcjahndjgaaGreatLike
import Derived.Test.YtlchlcjahndjgaaGreatDg2
import Derived.Test.YtlchlcjahndjgaaGreatEq32
import Derived.Test.YtlchlcjahndjgaaGreatActs
import Derived.Test.YtlchlcjahndjgaaGreatL11a
import Derived.Deep.RegionHeld3
namespace Go.Proofs.YtlchlcjahndjgaaGreat
open Go Go.RowKit
set_option linter.unusedVariables false
set_option linter.unusedSimpArgs false
theorem wrap_b (x : Int) : -9223372036854775808 ≤ IntKind.i64.wrap x ∧ IntKind.i64.wrap x ≤ 9223372036854775807 := by
  simp only [IntKind.wrap, IntKind.bits, IntKind.signed]
  simp
  split <;> omega
/-- What holds behind k acts. -/
structure PlAt (n k : Nat) (S T : List Nat) (F : Fl) (G : RF) : Prop where
  like : Fl.Like (1000 - 4 * (k : Int)) F G.fl
  up : F.upTo k
  len : F.wear.length = n
  far : F.far = S
  gfar : G.far = T
theorem pl_new (n : Nat) (hn : n ≤ 12) (S T : List Nat) : PlAt n 0 S T { Fl.new (n : Int) with far := S } { RF.new (n : Int) with far := T } := by
  have h := RF.new_fl (n : Int)
  refine ⟨?_, Fl.upTo_new _, ?_, rfl, rfl⟩
  · have e : ({ RF.new (n : Int) with far := T } : RF).fl = (RF.new (n : Int)).fl := rfl
    rw [e, h]
    exact ⟨rfl, rfl, rfl, rfl, .inl rfl⟩
  · show (Fl.new (n : Int)).wear.length = n
    rw [(Fl.new_b n (by omega)).2, List.length_replicate]
theorem pl_cut {n k : Nat} {S T : List Nat} {F : Fl} {G G2 : RF} (h : PlAt n k S T F G) (hk : k ≤ 40) (v : Int) (m : List UInt8) (hg : G2.fl = (G.setCut v m).fl) (hf : G2.far = G.far) : PlAt n (k + 1) S T (F.setCut v m) G2 := by
  refine ⟨?_, fun x hx => by have := h.up x hx; omega, h.len, h.far, hf.trans h.gfar⟩
  rw [hg]
  refine ⟨h.like.b, h.like.wear, rfl, h.like.off, ?_⟩
  show max 0 v = (if v < 0 then 0 else if 1073741824 < v then 1073741824 else v) ∨ (1000 - 4 * ((k + 1 : Nat) : Int) ≤ max 0 v ∧ 1000 - 4 * ((k + 1 : Nat) : Int) ≤ (if v < 0 then 0 else if 1073741824 < v then 1073741824 else v))
  by_cases h1 : v < 0
  · left; rw [if_pos h1]; omega
  · rw [if_neg h1]
    by_cases h2 : 1073741824 < v
    · right; rw [if_pos h2]; omega
    · left; rw [if_neg h2]; omega
theorem pl_power {n k : Nat} {S T : List Nat} {F : Fl} {G G2 : RF} (h : PlAt n k S T F G) (hg : G2.fl = G.fl.power) (hf : G2.far = G.far) : PlAt n (k + 1) S T F.power G2 :=
  ⟨by rw [hg]; exact (h.like.power).less (by omega), fun x hx => by have := h.up x hx; omega, h.len, h.far, hf.trans h.gfar⟩
theorem pl_skip {n k : Nat} {S T : List Nat} {F : Fl} {G : RF} (h : PlAt n k S T F G) : PlAt n (k + 1) S T F G :=
  ⟨h.like.less (by omega), fun x hx => by have := h.up x hx; omega, h.len, h.far, h.gfar⟩
theorem pl_erase {n k : Nat} {S T : List Nat} {F : Fl} {G G2 : RF} (h : PlAt n k S T F G) (hk : k ≤ 40) (v : Int) (hg : G2.fl = G.fl.erase v) (hf : G2.far = G.far) : PlAt n (k + 1) S T (F.erase v) G2 :=
  ⟨by rw [hg]; exact (h.like.erase (by omega) v).less (by omega), Fl.upTo_erase h.up v, by rw [(Fl.erase_mask F v).2.2]; exact h.len, by rw [(Fl.erase_mask F v).2.1]; exact h.far, hf.trans h.gfar⟩
theorem pl_prog {n k : Nat} {S T : List Nat} {F : Fl} {G G2 : RF} (h : PlAt n k S T F G) (hk : k ≤ 40) (v : Int) (bs : List UInt8) (hg : G2.fl = G.fl.program v bs) (hf : G2.far = G.far) : PlAt n (k + 1) S T (F.program v bs) G2 := by
  obtain ⟨h1, h2, h3⟩ := Fl.program_mask F v bs
  exact ⟨by rw [hg]; exact (h.like.program (by omega) v bs).less (by omega), fun x hx => by have := Fl.upTo_program h.up v bs x hx; omega, by rw [h3]; exact h.len, by rw [h2]; exact h.far, hf.trans h.gfar⟩
theorem pl_put {n k : Nat} {S T : List Nat} {F : Fl} {G G2 : RF} (R : Ar) (h : PlAt n k S T F G) (hk : k ≤ 40) (bs : List UInt8) (hg : G2.fl = R.ringP G.fl bs) (hf : G2.far = G.far) : PlAt n (k + 1) S T (R.ringP F bs) G2 := by
  obtain ⟨h1, h2, h3⟩ := R.ringP_keep (F := F) bs
  exact ⟨by rw [hg]; exact (R.like_ringP h.like (by omega) bs).less (by omega), R.upTo_ringP h.up bs, by rw [h3]; exact h.len, by rw [h2]; exact h.far, hf.trans h.gfar⟩
set_option maxRecDepth 100000 in
set_option maxHeartbeats 40000000 in
theorem ringPlays_in (n : Nat) (hn : n ≤ 6) (b : Int) (A : Option Addr) (m c : Nat) (hm : m ≤ 40) (w : World) (r : ActsAt w A m) :
    Calls Tryz.prog 3 #[.int .i64 (n : Int), .int .i64 b, .slice A m c] w fun e w' => e = .returned (.bool true) ∧ Below w.heap.size w w' := by
  obtain ⟨F0, f0⟩ : ∃ F0, Fl.new (n : Int) = F0 := ⟨_, rfl⟩
  obtain ⟨G0, g0⟩ : ∃ G0, RF.new (n : Int) = G0 := ⟨_, rfl⟩
  obtain ⟨R, r0⟩ : ∃ R, Ar.new n 0 n b = R := ⟨_, rfl⟩
  have hw2 : F0.wear.length = n := by rw [← f0, (Fl.new_b n (by omega)).2, List.length_replicate]
  have hmF : F0.mask = [] := by rw [← f0]; rfl
  have hmG : G0.mask = [] := by rw [← g0]; rfl
  have hwG : G0.wear.length = n := by
    have h := RF.new_fl (n : Int)
    rw [g0, f0] at h
    rw [← hw2, ← h]
    rfl
  have r1 : Ar.rnew G0.wear.length 0 n b = R := by rw [hwG, Ar.rnew_new, r0]
  have hpl := pl_new n (by omega)
  rw [f0, g0] at hpl
  have FF := Lib.hid f0
  have GG := Lib.hid g0
  have RR := Lib.hid r0
  have R1 := Lib.hid r1
  have HW2 := Lib.hid hw2
  have HMF := Lib.hid hmF
  have HMG := Lib.hid hmG
  have HR := Lib.hid r
  have HPL := Lib.hid hpl
  clear f0 g0 r0 r1 hw2 hmF hmG hwG r hpl
  go_enter Tryz.func3, Tryz.ntmps3
  go_wp2_with (go_at_call 4; refine (alive11_c _).mono ?_; rintro e w1 ⟨rfl, hb1⟩)
  refine (new_hf n (by omega) F0 FF.out hb1).mono ?_
  rintro e w2 ⟨fb, bb, wb, rfl, h2⟩
  go_wp2_with fail
  refine (rnew_c w2 n).mono ?_
  rintro e w3 ⟨rfb, rbb, rwb, rfl, h3, l1, l2, l3, hb3⟩
  rw [GG.out] at h3
  go_wp2_with fail
  have hB3 : Blk (w3.alloc (.cells #[.int .i64 0, .int .i64 0, .int .i64 (n : Int)] 29)) w3.heap.size 29 #[.int .i64 0, .int .i64 0, .int .i64 (n : Int)] := Blk.new w3 _ _
  have hb3' : Below w2.heap.size w2 (w3.alloc (.cells #[.int .i64 0, .int .i64 0, .int .i64 (n : Int)] 29)) := hb3.alloc hb3.size _
  have h3' : RFAt (w3.alloc (.cells #[.int .i64 0, .int .i64 0, .int .i64 (n : Int)] 29)) rfb rbb rwb G0 := h3.alloc _
  generalize w3.alloc (.cells #[.int .i64 0, .int .i64 0, .int .i64 (n : Int)] 29) = w3' at hB3 hb3' h3' ⊢
  refine (anew_h 0 0 n b n HW2.out R RR.out (h2.later hb3')).mono ?_
  rintro e w4 ⟨ab, rfl, h4, l4, hb4⟩
  have hB4 := hB3.below hb4 hB3.lt
  have c0 : w4.cell? ⟨w3.heap.size, 0, none⟩ = some (.int .i64 0) := hB4.cell 0
  have c1 : w4.cell? ⟨w3.heap.size, 1, none⟩ = some (.int .i64 0) := hB4.cell 1
  have c2 : w4.cell? ⟨w3.heap.size, 2, none⟩ = some (.int .i64 (n : Int)) := hB4.cell 2
  go_wp2_with fail
  refine (rnewarea_c w4 0 0 n b (h3'.below hb4)).mono ?_
  rintro e w5 ⟨rab, rfl, h5, hb5, l5⟩
  rw [R1.out] at h5
  have hT := (Two.mk1 h2 h3' hb3' l1 l2 l3 h4 hb4 l4 h5 hb5 l5 (by rw [← GG.out]; intro hh; cases hh) HMF.out HMG.out).farther HMF.out HMG.out
  have hP := HPL.out [rfb, rbb, rwb] [fb, bb, wb]
  generalize ({ F0 with far := [rfb, rbb, rwb] } : Fl) = F1 at hT hP
  generalize ({ G0 with far := [fb, bb, wb] } : RF) = G1 at hT hP
  have HT := Lib.hid hT
  have HP := Lib.hid hP
  clear hT hP h2 h3 h3' h4 h5 hb1 hb3 hb3' hb4 hb5 l1 l2 l3 l4 l5 hB3 hB4 c0 c1 c2
  go_wp2_with fail
  go_loopw [13] (fun i wr => ∃ (k : Nat) (F : Fl) (G : RF), k ≤ m ∧ i = .int .i64 k ∧ PlAt n k [rfb, rbb, rwb] [fb, bb, wb] F G ∧ Two w wr ab fb bb wb rab rfb rbb rwb R R F G) (fun i _ => m - (intOf i).toNat)
  case atStart => exact ⟨0, F1, G1, Nat.zero_le _, rfl, HP.out, HT.out⟩
  case round =>
    clear HT HP
    obtain ⟨k, F, G, hk, rfl, hB, hT⟩ := hrel
    by_cases hlt : k < m
    · obtain ⟨g, o, ⟨z, v, bs, ks⟩, AB, nb, cb, AM, nm, cm, hA, hg, j0, j1, j2, j3, hz, hv, hnb, hnm, hrb, hrm⟩ := HR.out k hlt
      subst hA
      simp only at j0 j1 hz hv hrb hrm
      have hbel := hT.p.has.below
      have i0 := (hbel.cell (p := ⟨g, o + k * 4, none⟩) hg).trans j0
      have i1 := (hbel.cell (p := ⟨g, o + k * 4 + 1, none⟩) hg).trans j1
      have i2 := (hbel.cell (p := ⟨g, o + k * 4 + 2, none⟩) hg).trans j2
      have i3 := (hbel.cell (p := ⟨g, o + k * 4 + 3, none⟩) hg).trans j3
      have hnb2 := hnb.1
      have hnb3 := hnb.2
      have hnm2 := hnm.1
      have hnm3 := hnm.2
      simp only [maxLen] at hnb3 hnm3
      have HT := Lib.hid hT
      have HB := Lib.hid hB
      have RB := Lib.hid hrb
      have RM := Lib.hid hrm
      clear hbel hT hB hrb hrm j0 j1 j2 j3 hnb hnm
      go_upto_region 13 with fail
      have hX : Blk (wr.alloc (.cells #[.int .i64 z, .int .i64 v, .slice AB nb cb, .slice AM nm cm] 36)) wr.heap.size 36 #[.int .i64 z, .int .i64 v, .slice AB nb cb, .slice AM nm cm] := Blk.new wr _ _
      have hT1 := HT.out.alloc (.cells #[.int .i64 z, .int .i64 v, .slice AB nb cb, .slice AM nm cm] 36)
      have hlt8 := HT.out.lt
      obtain ⟨xb, hxb⟩ : ∃ xb, wr.heap.size = xb := ⟨_, rfl⟩
      rw [hxb] at hX hlt8 ⊢
      have hx1 : xb ∉ [fb, bb, wb] := by simp only [List.mem_cons, List.not_mem_nil, or_false, not_or]; omega
      have hx2 : xb ∉ [rfb, rbb, rwb] := by simp only [List.mem_cons, List.not_mem_nil, or_false, not_or]; omega
      generalize wr.alloc (.cells #[.int .i64 z, .int .i64 v, .slice AB nb cb, .slice AM nm cm] 36) = W1 at hX hT1 ⊢
      have HX := Lib.hid hX
      have HT1 := Lib.hid hT1
      have d0 : W1.cell? ⟨xb, 0, none⟩ = some (.int .i64 z) := hX.cell 0
      have d1 : W1.cell? ⟨xb, 1, none⟩ = some (.int .i64 v) := hX.cell 1
      have d2 : W1.cell? ⟨xb, 2, none⟩ = some (.slice AB nb cb) := hX.cell 2
      have d3 : W1.cell? ⟨xb, 3, none⟩ = some (.slice AM nm cm) := hX.cell 3
      have H8 := Lib.hid hlt8
      have X1 := Lib.hid hx1
      have X2 := Lib.hid hx2
      clear hX hT1 i0 i1 i2 i3 HT hxb hlt8 hx1 hx2
      by_cases hL1 : (350 : Int) < (nb : Int)
      · go_wp2_with fail
        go_ret
        exact ⟨rfl, HT1.out.p.has.below⟩
      by_cases hL2 : (50 : Int) < (nm : Int)
      · go_wp2_with fail
        go_ret
        exact ⟨rfl, HT1.out.p.has.below⟩
      by_cases hz0 : z = 0
      · subst hz0
        obtain ⟨E, hE⟩ : ∃ E, R.ringE F bs = E := ⟨_, rfl⟩
        have hE3 : R.ringE G.fl bs = E := by rw [← R.like_ringE HB.out.like (by omega)]; exact hE
        have hk2 := R.ringP_keep (F := F) bs
        obtain ⟨F2, hF2⟩ : ∃ F2, R.ringP F bs = F2 := ⟨_, rfl⟩
        obtain ⟨F3, hF3⟩ : ∃ F3, R.ringP G.fl bs = F3 := ⟨_, rfl⟩
        rw [hF2] at hk2
        have HE := Lib.hid hE
        have HE3 := Lib.hid hE3
        have HF2 := Lib.hid hF2
        have HF3 := Lib.hid hF3
        have HK2 := Lib.hid (And.intro hk2.1 hk2.2.1)
        clear hE hE3 hF2 hF3 hk2
        obtain ⟨u0, hi, hz0, hz1, hz2⟩ := info_parts info_u8
        have HI := Lib.hid hi
        have HZ0 := Lib.hid hz0
        have HZ1 := Lib.hid hz1
        have HZ2 := Lib.hid hz2
        clear hi hz0 hz1 hz2
        go_upto_region 17 with fail
        refine wp_region_held_drew (S := (fun W => W.cell? ⟨xb, 2, none⟩ = some (.slice AB nb cb))) (by kernel_rfl) ?_ (fun hHeld => ?_)
        · exact d2
        refine wpAnyH_take (i := 0) (v := ?_) rfl (by kernel_rfl) (by kernel_rfl) (by kernel_rfl) (fun _ _ _ h => h) (Or.inl ⟨by rfl, ?_⟩) (by assumption) ?_
        rotate_left
        · intro w hSw
          (try dsimp only at hSw)
          go_simp
          all_goals with_reducible rfl
        try simp only [Act.put, List.getElem_toArray, List.getElem_cons_succ, List.getElem_cons_zero, List.setIfInBounds_toArray, List.set_cons_zero, List.set_cons_succ]
        refine wpAnyH_take (i := 1) (v := ?_) rfl (by kernel_rfl) (by kernel_rfl) (by kernel_rfl) (fun _ _ _ h => h) (Or.inl ⟨by rfl, ?_⟩) (by assumption) ?_
        rotate_left
        · intro w hSw
          (try dsimp only at hSw)
          go_simp
          all_goals with_reducible rfl
        try simp only [Act.put, List.getElem_toArray, List.getElem_cons_succ, List.getElem_cons_zero, List.setIfInBounds_toArray, List.set_cons_zero, List.set_cons_succ]
        refine wpAnyH_take (i := 2) (v := ?_) rfl (by kernel_rfl) (by kernel_rfl) (by kernel_rfl) (fun _ _ _ h => h) (Or.inl ⟨by rfl, ?_⟩) (by assumption) ?_
        rotate_left
        · intro w hSw
          (try dsimp only at hSw)
          go_simp
          all_goals with_reducible rfl
        try simp only [Act.put, List.getElem_toArray, List.getElem_cons_succ, List.getElem_cons_zero, List.setIfInBounds_toArray, List.set_cons_zero, List.set_cons_succ]
        refine wpAnyH_take (i := 6) (v := ?_) rfl (by kernel_rfl) (by kernel_rfl) (by kernel_rfl) (fun _ _ _ h => h) (Or.inl ⟨by rfl, ?_⟩) (by assumption) ?_
        rotate_left
        · intro w hSw
          (try dsimp only at hSw)
          go_simp
          all_goals with_reducible rfl
        try simp only [Act.put, List.getElem_toArray, List.getElem_cons_succ, List.getElem_cons_zero, List.setIfInBounds_toArray, List.set_cons_zero, List.set_cons_succ]
        refine wpAnyH_take (i := 7) (v := ?_) rfl (by kernel_rfl) (by kernel_rfl) (by kernel_rfl) (fun _ _ _ h => h) (Or.inl ⟨by rfl, ?_⟩) (by assumption) ?_
        rotate_left
        · intro w hSw
          (try dsimp only at hSw)
          go_simp
          all_goals with_reducible rfl
        try simp only [Act.put, List.getElem_toArray, List.getElem_cons_succ, List.getElem_cons_zero, List.setIfInBounds_toArray, List.set_cons_zero, List.set_cons_succ]
        refine wpAnyH_take (i := 8) (v := ?_) rfl (by kernel_rfl) (by kernel_rfl) (by kernel_rfl) (fun _ _ _ h => h) (Or.inl ⟨by rfl, ?_⟩) (by assumption) ?_
        rotate_left
        · intro w hSw
          (try dsimp only at hSw)
          go_simp
          all_goals with_reducible rfl
        try simp only [Act.put, List.getElem_toArray, List.getElem_cons_succ, List.getElem_cons_zero, List.setIfInBounds_toArray, List.set_cons_zero, List.set_cons_succ]
        refine wpAnyH_ready (rs := [3]) (by kernel_rfl) (by simp) ?_
        refine AllReadyH.cons rfl (fun K hK => ?_) AllReadyH.nil
        refine step_append_any _ (by rfl) (.const (.slice none 0 0)) (.tmp 78) 34 (by rfl) W1.heap.size 5 u0 (.int .u8 0) 1 Tryz.underlying34 HI.out HZ0.out HZ1.out HZ2.out (by rfl) _ 0 [] (by rfl) (World.ownsRow_nil _ _ _ _) AB nb cb (bs.map u8v) (by rfl) (RB.out.below HT1.out.p.has.below).drew (u8v_one _) (by unfold maxLen; omega) (by omega) (Nat.le_refl _) ?_
        intro A4 c4 w4 ho4 hg4 _
        simp only [Nat.zero_add, List.nil_append] at ho4 ⊢
        have HB4 := Lib.hid (show Below W1.heap.size W1 w4 from (Below.refl W1.heap.size W1).drew.grown hg4 (Nat.le_refl _) (by intro k hk; cases hk))
        have HO4 := Lib.hid ho4
        have HT4 := Lib.hid (HT1.out.later HB4.out)
        have HS4 := Lib.hid ((HX.out.below HB4.out HX.out.lt).cell 2)
        clear ho4 hg4
        refine hK.out _ _ ?_ (fun hHeld => ?_)
        · (try dsimp only)
          first | exact HS6.out | exact HS5.out | exact HS4.out
        clear hK K
        try simp only [Act.put, List.getElem_toArray, List.getElem_cons_succ, List.getElem_cons_zero, List.setIfInBounds_toArray, List.set_cons_zero, List.set_cons_succ]
        refine wpAnyH_ready (rs := [4]) (by kernel_rfl) (by simp) ?_
        refine AllReadyH.cons rfl (fun K hK => ?_) AllReadyH.nil
        go_simp
        refine (two_z_put A4 nb c4 bs (by omega) (Reads.of_own HO4.out) E HE.out HF2.out HK2.out HT4.out).mono ?_; rintro e w5 ⟨rfl, h5, ho5⟩; have HT5 := Lib.hid h5; have HX5 := Lib.hid ((HX.out.below HB4.out HX.out.lt).only ho5 X1.out); have HS5 := Lib.hid (HX5.out.cell 2); clear h5 ho5
        go_wp2_with fail
        refine hK.out _ _ ?_ (fun hHeld => ?_)
        · (try dsimp only)
          first | exact HS6.out | exact HS5.out | exact HS4.out
        clear hK K
        try simp only [Act.put, List.getElem_toArray, List.getElem_cons_succ, List.getElem_cons_zero, List.setIfInBounds_toArray, List.set_cons_zero, List.set_cons_succ]
        refine wpAnyH_ready (rs := [5]) (by kernel_rfl) (by simp) ?_
        refine AllReadyH.cons rfl (fun K hK => ?_) AllReadyH.nil
        go_simp
        refine (num11_c _ _).mono ?_; rintro e w' ⟨rfl, rfl⟩
        go_wp2_with fail
        refine hK.out _ _ ?_ (fun hHeld => ?_)
        · (try dsimp only)
          first | exact HS6.out | exact HS5.out | exact HS4.out
        clear hK K
        try simp only [Act.put, List.getElem_toArray, List.getElem_cons_succ, List.getElem_cons_zero, List.setIfInBounds_toArray, List.set_cons_zero, List.set_cons_succ]
        refine wpAnyH_ready (rs := [9]) (by kernel_rfl) (by simp) ?_
        refine AllReadyH.cons rfl (fun K hK => ?_) AllReadyH.nil
        go_simp
        refine (two_z_rput AB nb cb bs (by omega) (RB.out.below HT5.out.p.has.below) E F3 HE3.out HF3.out HT5.out).mono ?_; rintro e w6 ⟨rfl, G2, hg2, hgf2, h6, ho6⟩; have HTn := Lib.hid h6; have HG2 := Lib.hid hg2; have HGF2 := Lib.hid hgf2; have HS6 := Lib.hid ((HX5.out.only ho6 X2.out).cell 2); clear h6 ho6 hg2 hgf2
        go_wp2_with fail
        refine hK.out _ _ ?_ (fun hHeld => ?_)
        · (try dsimp only)
          first | exact HS6.out | exact HS5.out | exact HS4.out
        clear hK K
        try simp only [Act.put, List.getElem_toArray, List.getElem_cons_succ, List.getElem_cons_zero, List.setIfInBounds_toArray, List.set_cons_zero, List.set_cons_succ]
        refine wpAnyH_take (i := 10) (v := ?_) rfl (by kernel_rfl) (by kernel_rfl) (by kernel_rfl) (fun _ _ _ h => h) (Or.inl ⟨by rfl, ?_⟩) (by assumption) ?_
        rotate_left
        · intro w hSw
          (try dsimp only at hSw)
          go_simp
          all_goals with_reducible rfl
        try simp only [Act.put, List.getElem_toArray, List.getElem_cons_succ, List.getElem_cons_zero, List.setIfInBounds_toArray, List.set_cons_zero, List.set_cons_succ]
        refine wpAnyH_done (by kernel_rfl) ?_ _
        try simp only [Act.put, List.getElem_toArray, List.getElem_cons_succ, List.getElem_cons_zero, List.setIfInBounds_toArray, List.set_cons_zero, List.set_cons_succ]
        have HBn := Lib.hid (show PlAt n (k + 1) [rfb, rbb, rwb] [fb, bb, wb] F2 G2 from HF2.out ▸ pl_put R HB.out (by omega) bs (HG2.out.trans HF3.out.symm) HGF2.out)
        clear HB HE HE3 HF2 HF3 HK2 HT1 HX HT4 HT5 HO4 HB4 HS4 HS5 HS6 HX5 HG2 HGF2 d0 d1 d2 d3
        obtain ⟨Z, hZ⟩ : ∃ Z, R.ringF F2 = Z := ⟨_, rfl⟩
        obtain ⟨N, hN⟩ : ∃ N, R.ringN F2 = N := ⟨_, rfl⟩
        obtain ⟨M, hM⟩ : ∃ M, R.ringM F2 = M := ⟨_, rfl⟩
        have hZ2 : R.ringF G2.fl = Z := by rw [← R.like_ringF HBn.out.like]; exact hZ
        have hN2 : R.ringN G2.fl = N := by rw [← R.like_ringN HBn.out.like]; exact hN
        have hM2 : R.ringM G2.fl = M := by rw [← R.like_ringM HBn.out.like]; exact hM
        have HZ := Lib.hid hZ
        have HN := Lib.hid hN
        have HM := Lib.hid hM
        have HZ' := Lib.hid hZ2
        have HN' := Lib.hid hN2
        have HM' := Lib.hid hM2
        clear hZ hN hM hZ2 hN2 hM2
        go_wp2_with fail
        refine (last_h HTn.out.p Z HZ.out).mono ?_
        rintro e w8 ⟨A8, c8, rfl, ho8, h8, hb8⟩
        have HT8 := Lib.hid (HTn.out.later hb8)
        have HO8 := Lib.hid (Reads.of_own ho8)
        clear ho8 h8 hb8 HTn
        go_wp2_with fail
        refine (rLast_h HT8.out.r Z HZ'.out).mono ?_
        rintro e w9 ⟨A9, c9, rfl, ho9, h9, hb9⟩
        have HT9 := Lib.hid (HT8.out.later hb9)
        obtain ⟨D1, hD1⟩ : ∃ D : ByteArray, (⟨Z.b.toArray⟩ : ByteArray) = D := ⟨_, rfl⟩
        obtain ⟨D2, hD2⟩ : ∃ D : ByteArray, (⟨Z.b.toArray⟩ : ByteArray) = D := ⟨_, rfl⟩
        have hcv1 : (convert 34 9 (.slice A8 Z.b.length c8)).run Tryz.prog w9 = .ok (.string D1) w9 := hD1 ▸ strAny w9 _ _ _ Z.b (HO8.out.below hb9)
        have hcv2 : (convert 34 9 (.slice A9 Z.b.length c9)).run Tryz.prog w9 = .ok (.string D2) w9 := hD2 ▸ strAny w9 _ _ _ Z.b (Reads.of_own ho9)
        have hDD : (D1.toList == D2.toList) = true := by rw [← hD1, ← hD2]; exact beq_self_eq_true _
        have hDD2 : (D1.toList != D2.toList) = false := by unfold bne; rw [hDD]; rfl
        clear hD1 hD2 ho9 h9 hb9 HO8 HT8
        go_wp2_with (first
          | (go_at_call 22; refine (next_h HT9.out.p N HN.out).mono ?_; rintro e w10 ⟨rfl, h10, hb10⟩; have HT10 := Lib.hid (HT9.out.later hb10); clear h10 hb10)
          | (go_at_call 23; refine (rnext_h HT10.out.r N HN'.out).mono ?_; rintro e w11 ⟨rfl, h11, hb11⟩; have HT11 := Lib.hid (HT10.out.later hb11); clear h11 hb11)
          | (go_at_call 24; refine (rmay_h HT11.out.p M HM.out).mono ?_; rintro e w12 ⟨rfl, h12, hb12⟩; have HT12 := Lib.hid (HT11.out.later hb12); clear h12 hb12)
          | (go_at_call 25; refine (rmay_hr HT12.out.r M HM'.out).mono ?_; rintro e w13 ⟨rfl, h13, hb13⟩; have HT13 := Lib.hid (HT12.out.later hb13); clear h13 hb13))
        go_roundw
        case rel => exact ⟨k + 1, F2, G2, by omega, by go_num, HBn.out, HT13.out⟩
        case measure => simp [intOf]; omega
      by_cases hz1 : z = 1
      · subst hz1
        go_wp2_with fail
        refine (two_z_cut v hv.2 AM nm cm ks (by omega) (RM.out.below HT1.out.p.has.below) HB.out.far HT1.out).mono ?_
        rintro e W2 ⟨rfl, h2, ho2⟩
        have hap : 0 < nm → ∀ a, AM = some a → a.block ≠ rfb := fun h0 a ha => by
          obtain ⟨b', o', e, hb, _⟩ := RM.out.2 h0
          rw [ha] at e; cases e
          have := h2.r.fb_
          simp; omega
        have HX2 := Lib.hid (HX.out.only ho2 X1.out)
        have HT2 := Lib.hid h2
        have d1' : W2.cell? ⟨xb, 1, none⟩ = some (.int .i64 v) := HX2.out.cell 1
        have d3' : W2.cell? ⟨xb, 3, none⟩ = some (.slice AM nm cm) := HX2.out.cell 3
        clear h2 ho2 d1 d3
        go_wp2_with fail
        refine (two_z_rcut v AM nm cm ks (by omega) (RM.out.below HT2.out.p.has.below) hap HB.out.gfar HT2.out).mono ?_
        rintro e W3 ⟨rfl, G2, hg2, hgf2, h3, ho3⟩
        have hbn := pl_cut HB.out (by omega) v ks hg2 hgf2
        obtain ⟨F2, hF2⟩ : ∃ F2, F.setCut v ks = F2 := ⟨_, rfl⟩
        rw [hF2] at hbn h3
        have HBn := Lib.hid hbn
        have HTn := Lib.hid h3
        clear hbn h3 ho3 hF2 hg2 hgf2 HT2 hap HB HT1 HX HX2 d0 d2 d1' d3'
        obtain ⟨Z, hZ⟩ : ∃ Z, R.ringF F2 = Z := ⟨_, rfl⟩
        obtain ⟨N, hN⟩ : ∃ N, R.ringN F2 = N := ⟨_, rfl⟩
        obtain ⟨M, hM⟩ : ∃ M, R.ringM F2 = M := ⟨_, rfl⟩
        have hZ2 : R.ringF G2.fl = Z := by rw [← R.like_ringF HBn.out.like]; exact hZ
        have hN2 : R.ringN G2.fl = N := by rw [← R.like_ringN HBn.out.like]; exact hN
        have hM2 : R.ringM G2.fl = M := by rw [← R.like_ringM HBn.out.like]; exact hM
        have HZ := Lib.hid hZ
        have HN := Lib.hid hN
        have HM := Lib.hid hM
        have HZ' := Lib.hid hZ2
        have HN' := Lib.hid hN2
        have HM' := Lib.hid hM2
        clear hZ hN hM hZ2 hN2 hM2
        go_wp2_with fail
        refine (last_h HTn.out.p Z HZ.out).mono ?_
        rintro e w8 ⟨A8, c8, rfl, ho8, h8, hb8⟩
        have HT8 := Lib.hid (HTn.out.later hb8)
        have HO8 := Lib.hid (Reads.of_own ho8)
        clear ho8 h8 hb8 HTn
        go_wp2_with fail
        refine (rLast_h HT8.out.r Z HZ'.out).mono ?_
        rintro e w9 ⟨A9, c9, rfl, ho9, h9, hb9⟩
        have HT9 := Lib.hid (HT8.out.later hb9)
        obtain ⟨D1, hD1⟩ : ∃ D : ByteArray, (⟨Z.b.toArray⟩ : ByteArray) = D := ⟨_, rfl⟩
        obtain ⟨D2, hD2⟩ : ∃ D : ByteArray, (⟨Z.b.toArray⟩ : ByteArray) = D := ⟨_, rfl⟩
        have hcv1 : (convert 34 9 (.slice A8 Z.b.length c8)).run Tryz.prog w9 = .ok (.string D1) w9 := hD1 ▸ strAny w9 _ _ _ Z.b (HO8.out.below hb9)
        have hcv2 : (convert 34 9 (.slice A9 Z.b.length c9)).run Tryz.prog w9 = .ok (.string D2) w9 := hD2 ▸ strAny w9 _ _ _ Z.b (Reads.of_own ho9)
        have hDD : (D1.toList == D2.toList) = true := by rw [← hD1, ← hD2]; exact beq_self_eq_true _
        have hDD2 : (D1.toList != D2.toList) = false := by unfold bne; rw [hDD]; rfl
        clear hD1 hD2 ho9 h9 hb9 HO8 HT8
        go_wp2_with (first
          | (go_at_call 22; refine (next_h HT9.out.p N HN.out).mono ?_; rintro e w10 ⟨rfl, h10, hb10⟩; have HT10 := Lib.hid (HT9.out.later hb10); clear h10 hb10)
          | (go_at_call 23; refine (rnext_h HT10.out.r N HN'.out).mono ?_; rintro e w11 ⟨rfl, h11, hb11⟩; have HT11 := Lib.hid (HT10.out.later hb11); clear h11 hb11)
          | (go_at_call 24; refine (rmay_h HT11.out.p M HM.out).mono ?_; rintro e w12 ⟨rfl, h12, hb12⟩; have HT12 := Lib.hid (HT11.out.later hb12); clear h12 hb12)
          | (go_at_call 25; refine (rmay_hr HT12.out.r M HM'.out).mono ?_; rintro e w13 ⟨rfl, h13, hb13⟩; have HT13 := Lib.hid (HT12.out.later hb13); clear h13 hb13))
        go_roundw
        case rel => exact ⟨k + 1, F2, G2, by omega, by go_num, HBn.out, HT13.out⟩
        case measure => simp [intOf]; omega
      by_cases hz2 : z = 2
      · subst hz2
        go_wp2_with fail
        refine (two_z_power HT1.out).mono ?_
        rintro e W2 ⟨rfl, h2, ho2⟩
        have HT2 := Lib.hid h2
        clear h2 ho2
        go_wp2_with fail
        refine (two_z_rpower HT2.out).mono ?_
        rintro e W3 ⟨rfl, G2, hg2, hgf2, h3, ho3⟩
        have hbn := pl_power HB.out hg2 hgf2
        obtain ⟨F2, hF2⟩ : ∃ F2, F.power = F2 := ⟨_, rfl⟩
        rw [hF2] at hbn h3
        have HBn := Lib.hid hbn
        have HTn := Lib.hid h3
        clear hbn h3 ho3 hF2 hg2 hgf2 HT2 HB HT1 HX d0 d1 d2 d3
        obtain ⟨Z, hZ⟩ : ∃ Z, R.ringF F2 = Z := ⟨_, rfl⟩
        obtain ⟨N, hN⟩ : ∃ N, R.ringN F2 = N := ⟨_, rfl⟩
        obtain ⟨M, hM⟩ : ∃ M, R.ringM F2 = M := ⟨_, rfl⟩
        have hZ2 : R.ringF G2.fl = Z := by rw [← R.like_ringF HBn.out.like]; exact hZ
        have hN2 : R.ringN G2.fl = N := by rw [← R.like_ringN HBn.out.like]; exact hN
        have hM2 : R.ringM G2.fl = M := by rw [← R.like_ringM HBn.out.like]; exact hM
        have HZ := Lib.hid hZ
        have HN := Lib.hid hN
        have HM := Lib.hid hM
        have HZ' := Lib.hid hZ2
        have HN' := Lib.hid hN2
        have HM' := Lib.hid hM2
        clear hZ hN hM hZ2 hN2 hM2
        go_wp2_with fail
        refine (last_h HTn.out.p Z HZ.out).mono ?_
        rintro e w8 ⟨A8, c8, rfl, ho8, h8, hb8⟩
        have HT8 := Lib.hid (HTn.out.later hb8)
        have HO8 := Lib.hid (Reads.of_own ho8)
        clear ho8 h8 hb8 HTn
        go_wp2_with fail
        refine (rLast_h HT8.out.r Z HZ'.out).mono ?_
        rintro e w9 ⟨A9, c9, rfl, ho9, h9, hb9⟩
        have HT9 := Lib.hid (HT8.out.later hb9)
        obtain ⟨D1, hD1⟩ : ∃ D : ByteArray, (⟨Z.b.toArray⟩ : ByteArray) = D := ⟨_, rfl⟩
        obtain ⟨D2, hD2⟩ : ∃ D : ByteArray, (⟨Z.b.toArray⟩ : ByteArray) = D := ⟨_, rfl⟩
        have hcv1 : (convert 34 9 (.slice A8 Z.b.length c8)).run Tryz.prog w9 = .ok (.string D1) w9 := hD1 ▸ strAny w9 _ _ _ Z.b (HO8.out.below hb9)
        have hcv2 : (convert 34 9 (.slice A9 Z.b.length c9)).run Tryz.prog w9 = .ok (.string D2) w9 := hD2 ▸ strAny w9 _ _ _ Z.b (Reads.of_own ho9)
        have hDD : (D1.toList == D2.toList) = true := by rw [← hD1, ← hD2]; exact beq_self_eq_true _
        have hDD2 : (D1.toList != D2.toList) = false := by unfold bne; rw [hDD]; rfl
        clear hD1 hD2 ho9 h9 hb9 HO8 HT8
        go_wp2_with (first
          | (go_at_call 22; refine (next_h HT9.out.p N HN.out).mono ?_; rintro e w10 ⟨rfl, h10, hb10⟩; have HT10 := Lib.hid (HT9.out.later hb10); clear h10 hb10)
          | (go_at_call 23; refine (rnext_h HT10.out.r N HN'.out).mono ?_; rintro e w11 ⟨rfl, h11, hb11⟩; have HT11 := Lib.hid (HT10.out.later hb11); clear h11 hb11)
          | (go_at_call 24; refine (rmay_h HT11.out.p M HM.out).mono ?_; rintro e w12 ⟨rfl, h12, hb12⟩; have HT12 := Lib.hid (HT11.out.later hb12); clear h12 hb12)
          | (go_at_call 25; refine (rmay_hr HT12.out.r M HM'.out).mono ?_; rintro e w13 ⟨rfl, h13, hb13⟩; have HT13 := Lib.hid (HT12.out.later hb13); clear h13 hb13))
        go_roundw
        case rel => exact ⟨k + 1, F2, G2, by omega, by go_num, HBn.out, HT13.out⟩
        case measure => simp [intOf]; omega
      by_cases hz3 : z = 3
      · subst hz3
        have hup := Fl.upTo_at HB.out.up v
        have hup2 : G.fl.wearAt v ≤ (k : Int) := by rw [← HB.out.like.wearAt]; exact hup
        go_wp2_with fail
        refine (two_z_erase v _ rfl rfl (by omega) HT1.out).mono ?_
        rintro e W2 ⟨rfl, h2, ho2⟩
        have HX2 := Lib.hid (HX.out.only ho2 X1.out)
        have HT2 := Lib.hid h2
        have d1' : W2.cell? ⟨xb, 1, none⟩ = some (.int .i64 v) := HX2.out.cell 1
        clear h2 ho2 d1
        generalize Fl.eraseE F v = E2
        go_wp2_with fail
        refine (two_z_rerase v _ _ rfl rfl (by omega) HT2.out).mono ?_
        rintro e W3 ⟨rfl, G2, hg2, hgf2, h3, ho3⟩
        generalize Fl.eraseE G.fl v = E3
        have hbn := pl_erase HB.out (by omega) v hg2 hgf2
        obtain ⟨F2, hF2⟩ : ∃ F2, F.erase v = F2 := ⟨_, rfl⟩
        rw [hF2] at hbn h3
        have HBn := Lib.hid hbn
        have HTn := Lib.hid h3
        clear hbn h3 ho3 hF2 hg2 hgf2 HT2 hup hup2 HB HT1 HX HX2 d0 d2 d3 d1'
        obtain ⟨Z, hZ⟩ : ∃ Z, R.ringF F2 = Z := ⟨_, rfl⟩
        obtain ⟨N, hN⟩ : ∃ N, R.ringN F2 = N := ⟨_, rfl⟩
        obtain ⟨M, hM⟩ : ∃ M, R.ringM F2 = M := ⟨_, rfl⟩
        have hZ2 : R.ringF G2.fl = Z := by rw [← R.like_ringF HBn.out.like]; exact hZ
        have hN2 : R.ringN G2.fl = N := by rw [← R.like_ringN HBn.out.like]; exact hN
        have hM2 : R.ringM G2.fl = M := by rw [← R.like_ringM HBn.out.like]; exact hM
        have HZ := Lib.hid hZ
        have HN := Lib.hid hN
        have HM := Lib.hid hM
        have HZ' := Lib.hid hZ2
        have HN' := Lib.hid hN2
        have HM' := Lib.hid hM2
        clear hZ hN hM hZ2 hN2 hM2
        go_wp2_with fail
        refine (last_h HTn.out.p Z HZ.out).mono ?_
        rintro e w8 ⟨A8, c8, rfl, ho8, h8, hb8⟩
        have HT8 := Lib.hid (HTn.out.later hb8)
        have HO8 := Lib.hid (Reads.of_own ho8)
        clear ho8 h8 hb8 HTn
        go_wp2_with fail
        refine (rLast_h HT8.out.r Z HZ'.out).mono ?_
        rintro e w9 ⟨A9, c9, rfl, ho9, h9, hb9⟩
        have HT9 := Lib.hid (HT8.out.later hb9)
        obtain ⟨D1, hD1⟩ : ∃ D : ByteArray, (⟨Z.b.toArray⟩ : ByteArray) = D := ⟨_, rfl⟩
        obtain ⟨D2, hD2⟩ : ∃ D : ByteArray, (⟨Z.b.toArray⟩ : ByteArray) = D := ⟨_, rfl⟩
        have hcv1 : (convert 34 9 (.slice A8 Z.b.length c8)).run Tryz.prog w9 = .ok (.string D1) w9 := hD1 ▸ strAny w9 _ _ _ Z.b (HO8.out.below hb9)
        have hcv2 : (convert 34 9 (.slice A9 Z.b.length c9)).run Tryz.prog w9 = .ok (.string D2) w9 := hD2 ▸ strAny w9 _ _ _ Z.b (Reads.of_own ho9)
        have hDD : (D1.toList == D2.toList) = true := by rw [← hD1, ← hD2]; exact beq_self_eq_true _
        have hDD2 : (D1.toList != D2.toList) = false := by unfold bne; rw [hDD]; rfl
        clear hD1 hD2 ho9 h9 hb9 HO8 HT8
        go_wp2_with (first
          | (go_at_call 22; refine (next_h HT9.out.p N HN.out).mono ?_; rintro e w10 ⟨rfl, h10, hb10⟩; have HT10 := Lib.hid (HT9.out.later hb10); clear h10 hb10)
          | (go_at_call 23; refine (rnext_h HT10.out.r N HN'.out).mono ?_; rintro e w11 ⟨rfl, h11, hb11⟩; have HT11 := Lib.hid (HT10.out.later hb11); clear h11 hb11)
          | (go_at_call 24; refine (rmay_h HT11.out.p M HM.out).mono ?_; rintro e w12 ⟨rfl, h12, hb12⟩; have HT12 := Lib.hid (HT11.out.later hb12); clear h12 hb12)
          | (go_at_call 25; refine (rmay_hr HT12.out.r M HM'.out).mono ?_; rintro e w13 ⟨rfl, h13, hb13⟩; have HT13 := Lib.hid (HT12.out.later hb13); clear h13 hb13))
        go_roundw
        case rel => exact ⟨k + 1, F2, G2, by omega, by go_num, HBn.out, HT13.out⟩
        case measure => simp [intOf]; omega
      by_cases hz4 : z = 4
      · subst hz4
        have hap1 : 0 < nb → Apart [fb, bb, wb] AB := fun h0 a ha => by
          obtain ⟨b', o', e, hb, _⟩ := RB.out.2 h0
          rw [ha] at e; cases e
          have h1 := HT1.out.p.has.fb_
          have h2 := HT1.out.p.has.bb_
          have h3 := HT1.out.p.has.wb_
          simp only [List.mem_cons, List.not_mem_nil, or_false, not_or]; omega
        have hap2 : 0 < nb → Apart [rfb, rbb, rwb] AB := fun h0 a ha => by
          obtain ⟨b', o', e, hb, _⟩ := RB.out.2 h0
          rw [ha] at e; cases e
          have h1 := HT1.out.r.fb_
          have h2 := HT1.out.r.bb_
          have h3 := HT1.out.r.wb_
          simp only [List.mem_cons, List.not_mem_nil, or_false, not_or]; omega
        have HA1 := Lib.hid hap1
        have HA2 := Lib.hid hap2
        obtain ⟨q, hq⟩ : ∃ q, IntKind.i64.wrap (v * 320) = q := ⟨_, rfl⟩
        have hqb : -9223372036854775808 ≤ q ∧ q ≤ 9223372036854775807 := hq ▸ wrap_b _
        clear hap1 hap2
        go_wp2_with fail
        try rw [hq]
        refine (two_z_prog q AB nb cb bs _ rfl rfl (RB.out.below HT1.out.p.has.below) HA1.out (by omega) HT1.out).mono ?_
        rintro e W2 ⟨rfl, h2, ho2⟩
        have HX2 := Lib.hid (HX.out.only ho2 X1.out)
        have HT2 := Lib.hid h2
        have d1' : W2.cell? ⟨xb, 1, none⟩ = some (.int .i64 v) := HX2.out.cell 1
        have d2' : W2.cell? ⟨xb, 2, none⟩ = some (.slice AB nb cb) := HX2.out.cell 2
        clear h2 ho2 d1 d2
        generalize Fl.programE F q bs = E2
        go_wp2_with fail
        try rw [hq]
        refine (two_z_rprog q hqb AB nb cb bs _ _ rfl rfl (RB.out.below HT2.out.p.has.below) HA2.out (by omega) HT2.out).mono ?_
        rintro e W3 ⟨rfl, G2, hg2, hgf2, h3, ho3⟩
        generalize Fl.programE G.fl q bs = E3
        have hbn := pl_prog HB.out (by omega) q bs hg2 hgf2
        obtain ⟨F2, hF2⟩ : ∃ F2, F.program q bs = F2 := ⟨_, rfl⟩
        rw [hF2] at hbn h3
        have HBn := Lib.hid hbn
        have HTn := Lib.hid h3
        clear hbn h3 ho3 hF2 hg2 hgf2 HT2 hq HA1 HA2 HB HT1 HX HX2 d0 d3 d1' d2'
        obtain ⟨Z, hZ⟩ : ∃ Z, R.ringF F2 = Z := ⟨_, rfl⟩
        obtain ⟨N, hN⟩ : ∃ N, R.ringN F2 = N := ⟨_, rfl⟩
        obtain ⟨M, hM⟩ : ∃ M, R.ringM F2 = M := ⟨_, rfl⟩
        have hZ2 : R.ringF G2.fl = Z := by rw [← R.like_ringF HBn.out.like]; exact hZ
        have hN2 : R.ringN G2.fl = N := by rw [← R.like_ringN HBn.out.like]; exact hN
        have hM2 : R.ringM G2.fl = M := by rw [← R.like_ringM HBn.out.like]; exact hM
        have HZ := Lib.hid hZ
        have HN := Lib.hid hN
        have HM := Lib.hid hM
        have HZ' := Lib.hid hZ2
        have HN' := Lib.hid hN2
        have HM' := Lib.hid hM2
        clear hZ hN hM hZ2 hN2 hM2
        go_wp2_with fail
        refine (last_h HTn.out.p Z HZ.out).mono ?_
        rintro e w8 ⟨A8, c8, rfl, ho8, h8, hb8⟩
        have HT8 := Lib.hid (HTn.out.later hb8)
        have HO8 := Lib.hid (Reads.of_own ho8)
        clear ho8 h8 hb8 HTn
        go_wp2_with fail
        refine (rLast_h HT8.out.r Z HZ'.out).mono ?_
        rintro e w9 ⟨A9, c9, rfl, ho9, h9, hb9⟩
        have HT9 := Lib.hid (HT8.out.later hb9)
        obtain ⟨D1, hD1⟩ : ∃ D : ByteArray, (⟨Z.b.toArray⟩ : ByteArray) = D := ⟨_, rfl⟩
        obtain ⟨D2, hD2⟩ : ∃ D : ByteArray, (⟨Z.b.toArray⟩ : ByteArray) = D := ⟨_, rfl⟩
        have hcv1 : (convert 34 9 (.slice A8 Z.b.length c8)).run Tryz.prog w9 = .ok (.string D1) w9 := hD1 ▸ strAny w9 _ _ _ Z.b (HO8.out.below hb9)
        have hcv2 : (convert 34 9 (.slice A9 Z.b.length c9)).run Tryz.prog w9 = .ok (.string D2) w9 := hD2 ▸ strAny w9 _ _ _ Z.b (Reads.of_own ho9)
        have hDD : (D1.toList == D2.toList) = true := by rw [← hD1, ← hD2]; exact beq_self_eq_true _
        have hDD2 : (D1.toList != D2.toList) = false := by unfold bne; rw [hDD]; rfl
        clear hD1 hD2 ho9 h9 hb9 HO8 HT8
        go_wp2_with (first
          | (go_at_call 22; refine (next_h HT9.out.p N HN.out).mono ?_; rintro e w10 ⟨rfl, h10, hb10⟩; have HT10 := Lib.hid (HT9.out.later hb10); clear h10 hb10)
          | (go_at_call 23; refine (rnext_h HT10.out.r N HN'.out).mono ?_; rintro e w11 ⟨rfl, h11, hb11⟩; have HT11 := Lib.hid (HT10.out.later hb11); clear h11 hb11)
          | (go_at_call 24; refine (rmay_h HT11.out.p M HM.out).mono ?_; rintro e w12 ⟨rfl, h12, hb12⟩; have HT12 := Lib.hid (HT11.out.later hb12); clear h12 hb12)
          | (go_at_call 25; refine (rmay_hr HT12.out.r M HM'.out).mono ?_; rintro e w13 ⟨rfl, h13, hb13⟩; have HT13 := Lib.hid (HT12.out.later hb13); clear h13 hb13))
        go_roundw
        case rel => exact ⟨k + 1, F2, G2, by omega, by go_num, HBn.out, HT13.out⟩
        case measure => simp [intOf]; omega
      · have b0 : (z == 0) = false := beq_eq_false_iff_ne.2 hz0
        have b1 : (z == 1) = false := beq_eq_false_iff_ne.2 hz1
        have b2 : (z == 2) = false := beq_eq_false_iff_ne.2 hz2
        have b3 : (z == 3) = false := beq_eq_false_iff_ne.2 hz3
        have b4 : (z == 4) = false := beq_eq_false_iff_ne.2 hz4
        have HBn := Lib.hid (pl_skip HB.out)
        have HTn := HT1
        obtain ⟨F2, rfl⟩ : ∃ F2, F2 = F := ⟨_, rfl⟩
        obtain ⟨G2, rfl⟩ : ∃ G2, G2 = G := ⟨_, rfl⟩
        clear HB HX d1
        obtain ⟨Z, hZ⟩ : ∃ Z, R.ringF F2 = Z := ⟨_, rfl⟩
        obtain ⟨N, hN⟩ : ∃ N, R.ringN F2 = N := ⟨_, rfl⟩
        obtain ⟨M, hM⟩ : ∃ M, R.ringM F2 = M := ⟨_, rfl⟩
        have hZ2 : R.ringF G2.fl = Z := by rw [← R.like_ringF HBn.out.like]; exact hZ
        have hN2 : R.ringN G2.fl = N := by rw [← R.like_ringN HBn.out.like]; exact hN
        have hM2 : R.ringM G2.fl = M := by rw [← R.like_ringM HBn.out.like]; exact hM
        have HZ := Lib.hid hZ
        have HN := Lib.hid hN
        have HM := Lib.hid hM
        have HZ' := Lib.hid hZ2
        have HN' := Lib.hid hN2
        have HM' := Lib.hid hM2
        clear hZ hN hM hZ2 hN2 hM2
        go_wp2_with fail
        refine (last_h HTn.out.p Z HZ.out).mono ?_
        rintro e w8 ⟨A8, c8, rfl, ho8, h8, hb8⟩
        have HT8 := Lib.hid (HTn.out.later hb8)
        have HO8 := Lib.hid (Reads.of_own ho8)
        clear ho8 h8 hb8 HTn
        go_wp2_with fail
        refine (rLast_h HT8.out.r Z HZ'.out).mono ?_
        rintro e w9 ⟨A9, c9, rfl, ho9, h9, hb9⟩
        have HT9 := Lib.hid (HT8.out.later hb9)
        obtain ⟨D1, hD1⟩ : ∃ D : ByteArray, (⟨Z.b.toArray⟩ : ByteArray) = D := ⟨_, rfl⟩
        obtain ⟨D2, hD2⟩ : ∃ D : ByteArray, (⟨Z.b.toArray⟩ : ByteArray) = D := ⟨_, rfl⟩
        have hcv1 : (convert 34 9 (.slice A8 Z.b.length c8)).run Tryz.prog w9 = .ok (.string D1) w9 := hD1 ▸ strAny w9 _ _ _ Z.b (HO8.out.below hb9)
        have hcv2 : (convert 34 9 (.slice A9 Z.b.length c9)).run Tryz.prog w9 = .ok (.string D2) w9 := hD2 ▸ strAny w9 _ _ _ Z.b (Reads.of_own ho9)
        have hDD : (D1.toList == D2.toList) = true := by rw [← hD1, ← hD2]; exact beq_self_eq_true _
        have hDD2 : (D1.toList != D2.toList) = false := by unfold bne; rw [hDD]; rfl
        clear hD1 hD2 ho9 h9 hb9 HO8 HT8
        go_wp2_with (first
          | (go_at_call 22; refine (next_h HT9.out.p N HN.out).mono ?_; rintro e w10 ⟨rfl, h10, hb10⟩; have HT10 := Lib.hid (HT9.out.later hb10); clear h10 hb10)
          | (go_at_call 23; refine (rnext_h HT10.out.r N HN'.out).mono ?_; rintro e w11 ⟨rfl, h11, hb11⟩; have HT11 := Lib.hid (HT10.out.later hb11); clear h11 hb11)
          | (go_at_call 24; refine (rmay_h HT11.out.p M HM.out).mono ?_; rintro e w12 ⟨rfl, h12, hb12⟩; have HT12 := Lib.hid (HT11.out.later hb12); clear h12 hb12)
          | (go_at_call 25; refine (rmay_hr HT12.out.r M HM'.out).mono ?_; rintro e w13 ⟨rfl, h13, hb13⟩; have HT13 := Lib.hid (HT12.out.later hb13); clear h13 hb13))
        go_roundw
        case rel => exact ⟨k + 1, F2, G2, by omega, by go_num, HBn.out, HT13.out⟩
        case measure => simp [intOf]; omega
    · obtain ⟨D, hD⟩ : ∃ D, sha (R.digS F R.len ++ R.digW F R.len) = D := ⟨_, rfl⟩
      have hDl : D.length = 32 := by rw [← hD]; exact sha_len _
      have hD2 : sha (R.digS G.fl R.len ++ R.digW G.fl R.len) = D := by rw [← R.like_digS hB.like, ← R.like_digW hB.like]; exact hD
      have hd1 : Calls Tryz.prog 26 #[ptr ab] wr fun e w' => e = .returned (.agg (D.map u8v).toArray) ∧ Below wr.heap.size wr w' := hD ▸ adigest_c wr hT.p.has.flash hT.p.area
      have hd2 : ∀ W, RFAt W rfb rbb rwb G → RAt W rab rfb R G.wear.length → Calls Tryz.prog 27 #[ptr rab] W fun e w' => e = .returned (.agg (D.map u8v).toArray) ∧ Below W.heap.size W w' := fun W h1 h2 => hD2 ▸ radigest_c W h1 h2
      have HTT := Lib.hid hT
      have HD1 := Lib.hid hd1
      have HD2 := Lib.hid hd2
      have HDL := Lib.hid hDl
      clear hD hD2 hd1 hd2 hB hT hDl
      go_wp2_with fail
      refine HD1.out.mono ?_
      rintro e w6 ⟨rfl, hb6⟩
      have HT6 := Lib.hid (HTT.out.later hb6)
      clear hb6
      go_wp2_with fail
      refine (HD2.out _ HT6.out.r.flash HT6.out.r.area).mono ?_
      rintro e w7 ⟨rfl, hb7⟩
      have he := fun W => eql32 D D HDL.out HDL.out W
      have hDD : (D == D) = true := beq_self_eq_true D
      have HB7 := Lib.hid (HT6.out.later hb7).p.has.below
      clear hb7
      go_wp2_with fail
      go_ret
      exact ⟨rfl, HB7.out⟩
set_option maxRecDepth 100000 in
set_option maxHeartbeats 1000000 in
theorem ringPlays_off (n b : Int) (A : Option Addr) (k c : Nat) (w : World) (hk : (k : Int) ≤ 9223372036854775807) (hg : n < 0 ∨ 6 < n ∨ 40 < k) :
    Calls Tryz.prog 3 #[.int .i64 n, .int .i64 b, .slice A k c] w fun e w' => e = .returned (.bool true) ∧ Below w.heap.size w w' := by
  by_cases g0 : n < 0
  · clear hg
    go_enter Tryz.func3, Tryz.ntmps3
    go_wp2_with (go_at_call 4; refine (alive11_c _).mono ?_; rintro e w1 ⟨rfl, hb⟩)
    go_ret
    exact ⟨rfl, hb⟩
  · by_cases g1 : 6 < n
    · clear hg
      go_enter Tryz.func3, Tryz.ntmps3
      go_wp2_with (go_at_call 4; refine (alive11_c _).mono ?_; rintro e w1 ⟨rfl, hb⟩)
      go_ret
      exact ⟨rfl, hb⟩
    · have g2 : 40 < k := by omega
      clear hg
      go_enter Tryz.func3, Tryz.ntmps3
      go_wp2_with (go_at_call 4; refine (alive11_c _).mono ?_; rintro e w1 ⟨rfl, hb⟩)
      go_ret
      exact ⟨rfl, hb⟩
theorem ringPlays_c (n b : Int) (A : Option Addr) (k c : Nat) (w : World) (hk : (k : Int) ≤ 9223372036854775807) (r : ActsAt w A k) :
    Calls Tryz.prog 3 #[.int .i64 n, .int .i64 b, .slice A k c] w fun e w' => e = .returned (.bool true) ∧ Below w.heap.size w w' := by
  by_cases hg : n < 0 ∨ 6 < n ∨ 40 < k
  · exact ringPlays_off n b A k c w hk hg
  · obtain ⟨N, rfl⟩ := Int.eq_ofNat_of_zero_le (show 0 ≤ n by omega)
    exact ringPlays_in N (by omega) b A k c (by omega) w r
end Go.Proofs.YtlchlcjahndjgaaGreat
