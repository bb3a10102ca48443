/- waterlinelaw14.WearTells: what is left of any part, behind any erases, is what the reference says. -/
import Derived.Test.YtlchlcjahndjgaaRfL
import Derived.Test.YtlchlcjahndjgaaBit
import Derived.Test.YtlchlcjahndjgaaL14b
namespace Go.Proofs.Ytlchlcjahndjgaa
open Go.RowKit
set_option linter.unusedVariables false
set_option linter.unusedSimpArgs false
/-- An int comes back, and both flashes are so. -/
def TwoI (w0 : World) (ab fb bb wb rab rfb rbb rwb : Nat) (R Q : Ar) (F : Fl) (G : RF) (e : Ending) (w' : World) : Prop :=
  (∃ E : Int, e = .returned (.int .i64 E)) ∧ Two w0 w' ab fb bb wb rab rfb rbb rwb R Q F G
section
variable {w0 w w' : World} {ab fb bb wb rab rfb rbb rwb : Nat} {R Q : Ar} {F F' : Fl} {G G' : RF}
theorem two_erase (x : Int) (hF' : F.erase x = F') (hm : F.wearAt x ≤ 4611686018427387903) (h : Two w0 w ab fb bb wb rab rfb rbb rwb R Q F G) :
    Calls Try.prog 24 #[ptr fb, .int .i64 x] w (TwoI w0 ab fb bb wb rab rfb rbb rwb R Q F' G) := by
  subst hF'
  obtain ⟨h1, h2, h3⟩ := Fl.erase_mask F x
  exact (erase_c w fb bb wb F x h.p.has.flash hm).mono fun e w' ⟨he, hf, ho⟩ => ⟨⟨_, he⟩, h.pop (h.p.only h3 hf ho) ho (by rw [h1, h2]; exact h.m1)⟩
theorem two_rerase (x : Int) (hG' : G.erase x = G') (hm : G.fl.wearAt x ≤ 4611686018427387903) (h : Two w0 w ab fb bb wb rab rfb rbb rwb R Q F G) :
    Calls Try.prog 25 #[ptr rfb, .int .i64 x] w (TwoI w0 ab fb bb wb rab rfb rbb rwb R Q F G') := by
  subst hG'
  obtain ⟨h1, h2, h3⟩ := RF.erase_mask G x
  exact (rerase_c w rfb rbb rwb G x h.r.flash h.r.calm hm).mono fun e w' ⟨he, hf, ho⟩ => ⟨⟨_, he⟩, h.rop (h.r.only h3 (RF.erase_calm G h.r.calm x) hf ho) ho (by rw [h1, h2]; exact h.m2)⟩
theorem two_prog (x : Int) (A : Option Addr) (n c : Nat) (bs : List UInt8) (hF' : F.program x bs = F') (hr : Reads w A n (bs.map u8v)) (hap : Apart [fb, bb, wb] A) (hn : n < 4611686018427387904) (h : Two w0 w ab fb bb wb rab rfb rbb rwb R Q F G) :
    Calls Try.prog 26 #[ptr fb, .int .i64 x, .slice A n c] w (TwoI w0 ab fb bb wb rab rfb rbb rwb R Q F' G) := by
  subst hF'
  obtain ⟨h1, h2, h3⟩ := Fl.program_mask F x bs
  exact (program_c w fb bb wb F x A n c bs h.p.has.flash hr hap hn).mono fun e w' ⟨he, hf, ho⟩ => ⟨⟨_, he⟩, h.pop (h.p.only (by rw [h3]) hf ho) ho (by rw [h1, h2]; exact h.m1)⟩
theorem two_rprog (x : Int) (hx : -9223372036854775808 ≤ x ∧ x ≤ 9223372036854775807) (A : Option Addr) (n c : Nat) (bs : List UInt8) (hG' : G.program x bs = G') (hr : Reads w A n (bs.map u8v)) (hap : Apart [rfb, rbb, rwb] A) (hn : n < 4611686018427387904) (h : Two w0 w ab fb bb wb rab rfb rbb rwb R Q F G) :
    Calls Try.prog 27 #[ptr rfb, .int .i64 x, .slice A n c] w (TwoI w0 ab fb bb wb rab rfb rbb rwb R Q F G') := by
  subst hG'
  obtain ⟨h1, h2, h3⟩ := RF.program_mask G x bs
  exact (rprogram_c w rfb rbb rwb G x A n c bs hx h.r.flash h.r.calm hr (fun _ => hap) hn).mono fun e w' ⟨he, hf, ho⟩ => ⟨⟨_, he⟩, h.rop (h.r.only (by rw [h3]) (RF.program_calm G h.r.calm x bs) hf ho) ho (by rw [h1, h2]; exact h.m2)⟩
theorem Two.new_apart (h : Two w0 w ab fb bb wb rab rfb rbb rwb R Q F G) : Apart [fb, bb, wb] (some ⟨w.heap.size, 0, none⟩) ∧ Apart [rfb, rbb, rwb] (some ⟨w.heap.size, 0, none⟩) := by
  obtain ⟨-, h1, h2, h3, -, h4, h5, h6⟩ := h.lt
  constructor <;>
  · intro a ha
    cases ha
    simp only [List.mem_cons, List.not_mem_nil, or_false, not_or]
    omega
end
/-- What holds behind k rounds. -/
structure WtAt (n k : Nat) (F : Fl) (G : RF) : Prop where
  fl : G.fl = F
  up : F.upTo k
  len : F.wear.length = n
theorem wt_new (n : Nat) (hn : n ≤ 12) : WtAt n 0 (Fl.new (n : Int)) (RF.new (n : Int)) :=
  ⟨RF.new_fl _, Fl.upTo_new _, by rw [(Fl.new_b n (by omega)).2, List.length_replicate]⟩
theorem wt_erase {n k : Nat} {F : Fl} {G : RF} (h : WtAt n k F G) (hc : G.cutb = true → 0 ≤ G.left) (x : Int) : WtAt n (k + 1) (F.erase x) (G.erase x) :=
  ⟨by rw [RF.erase_fl G hc, h.fl], Fl.upTo_erase h.up x, by rw [(Fl.erase_mask F x).2.2]; exact h.len⟩
theorem wt_prog {n k : Nat} {F : Fl} {G : RF} (h : WtAt n k F G) (hc : G.cutb = true → 0 ≤ G.left) (x : Int) (bs : List UInt8) : WtAt n k (F.program x bs) (G.program x bs) :=
  ⟨by rw [RF.program_fl G hc, h.fl], Fl.upTo_program h.up x bs, by rw [(Fl.program_mask F x bs).2.2]; exact h.len⟩
set_option maxRecDepth 100000 in
set_option maxHeartbeats 2000000 in
theorem wearTells_in (n : Nat) (hn : n ≤ 12) (b : Int) (A : Option Addr) (c : Nat) (l : List Int) (hl : l.length ≤ 60) (x y : Int) (hx0 : -9223372036854775808 ≤ x) (hx1 : x ≤ 9223372036854775807) (hy0 : -9223372036854775808 ≤ y) (hy1 : y ≤ 9223372036854775807) (w : World) (r : Reads w A l.length (l.map i64v)) :
    Calls Try.prog 4 #[.int .i64 (n : Int), .int .i64 b, .slice A l.length c, .int .i64 x, .int .i64 y] w fun e w' => e = .returned (.bool true) ∧ Below w.heap.size w w' := by
  have hw := wt_new n hn
  obtain ⟨F0, f0⟩ : ∃ F0, Fl.new (n : Int) = F0 := ⟨_, rfl⟩
  obtain ⟨G0, g0⟩ : ∃ G0, RF.new (n : Int) = G0 := ⟨_, rfl⟩
  obtain ⟨R, r0⟩ : ∃ R, Ar.new n 0 n b = R := ⟨_, rfl⟩
  have hw2 := hw.len
  have hmF : F0.mask = [] := by rw [← f0]; rfl
  have hmG : G0.mask = [] := by rw [← g0]; rfl
  have hwG : G0.wear.length = n := by rw [← hw2, ← hw.fl, g0]; rfl
  have r1 : Ar.rnew G0.wear.length 0 n b = R := by rw [hwG, Ar.rnew_new, r0]
  rw [f0, g0] at hw
  rw [f0] at hw2
  have FF := Lib.hid f0
  have GG := Lib.hid g0
  have RR := Lib.hid r0
  have R1 := Lib.hid r1
  have HW := Lib.hid hw
  have HW2 := Lib.hid hw2
  have HMF := Lib.hid hmF
  have HMG := Lib.hid hmG
  have HR := Lib.hid r
  clear f0 g0 r0 r1 hw hw2 hmF hmG hwG r
  go_enter Try.func4, Try.ntmps4
  go_wp2_with (go_at_call 19; refine (alive14_c _).mono ?_; rintro e w1 ⟨rfl, hb1⟩)
  refine (new_hf n (by omega) F0 FF.out hb1).mono ?_
  rintro e w2 ⟨fb, bb, wb, rfl, h2⟩
  go_wp2_with fail
  refine (rnew_c w2 n).mono ?_
  rintro e w3 ⟨rfb, rbb, rwb, rfl, h3, l1, l2, l3, hb3⟩
  rw [GG.out] at h3
  go_wp2_with fail
  refine (anew_h 0 0 n b n HW2.out R RR.out (h2.later hb3)).mono ?_
  rintro e w4 ⟨ab, rfl, h4, l4, hb4⟩
  go_wp2_with fail
  refine (rnewarea_c w4 0 0 n b (h3.below hb4)).mono ?_
  rintro e w5 ⟨rab, rfl, h5, hb5, l5⟩
  rw [R1.out] at h5
  have hT := Two.mk1 h2 h3 hb3 l1 l2 l3 h4 hb4 l4 h5 hb5 l5 (by rw [← GG.out]; intro hh; cases hh) HMF.out HMG.out
  have HT := Lib.hid hT
  clear hT h2 h3 h4 h5 hb1 hb3 hb4 hb5 l1 l2 l3 l4 l5
  go_wp2_with fail
  go_loopw [16] (fun i wr => ∃ (k : Nat) (F : Fl) (G : RF), k ≤ l.length ∧ i = .int .i64 k ∧ WtAt n k F G ∧ Two w wr ab fb bb wb rab rfb rbb rwb R R F G) (fun i _ => l.length - (intOf i).toNat)
  case atStart => exact ⟨0, F0, G0, Nat.zero_le _, rfl, HW.out, HT.out⟩
  case round =>
    obtain ⟨k, F, G, hk, rfl, hB, hT⟩ := hrel
    by_cases hlt : k < l.length
    · obtain ⟨g, o, u, hA, hg, hu, hcell0⟩ := HR.out.at_ hlt
      rw [List.getElem?_map, List.getElem?_eq_getElem hlt] at hu
      simp only [Option.map_some, Option.some.injEq] at hu
      subst hu
      generalize l[k] = z at hcell0
      subst hA
      have hcell : ∀ W : World, Below w.heap.size w W → W.cell? ⟨g, o + k, none⟩ = some (i64v z) := fun W hb => (hb.cell (p := ⟨g, o + k, none⟩) hg).trans hcell0
      have HC := Lib.hid hcell
      obtain ⟨J, hJ, hJ'⟩ := i64_mask z 1 (by omega)
      have hJ2 : bits .and .i64 z 1 = (J : Int) := hJ'
      have hup := Fl.upTo_at hB.up z
      have hupG : G.fl.wearAt z ≤ (k : Int) := by rw [hB.fl]; exact hup
      have hB1 := wt_erase hB hT.r.calm z
      obtain ⟨F1, hF1⟩ : ∃ F1, F.erase z = F1 := ⟨_, rfl⟩
      obtain ⟨G1, hG1⟩ : ∃ G1, G.erase z = G1 := ⟨_, rfl⟩
      rw [hF1, hG1] at hB1
      have HF1 := Lib.hid hF1
      have HG1 := Lib.hid hG1
      have HB1 := Lib.hid hB1
      have HTT := Lib.hid hT
      have c1 := HC.out _ hT.p.has.below
      clear hcell hcell0 hJ' hF1 hG1 hB hB1 hT
      go_wp2_with fail
      refine (two_erase z HF1.out (by omega) HTT.out).mono ?_
      rintro e w6 ⟨⟨E6, rfl⟩, h6⟩
      have H6 := Lib.hid h6
      have c2 := HC.out _ h6.p.has.below
      clear h6 c1 HTT
      go_wp2_with fail
      refine (two_rerase z HG1.out (by omega) H6.out).mono ?_
      rintro e w7 ⟨⟨E7, rfl⟩, h7⟩
      have hcalm := h7.r.calm
      have hB2 := wt_prog HB1.out hcalm ((J : Int) * 320) [0]
      obtain ⟨F2, hF2⟩ : ∃ F2, F1.program ((J : Int) * 320) [0] = F2 := ⟨_, rfl⟩
      obtain ⟨G2, hG2⟩ : ∃ G2, G1.program ((J : Int) * 320) [0] = G2 := ⟨_, rfl⟩
      rw [hF2, hG2] at hB2
      have HF2 := Lib.hid hF2
      have HG2 := Lib.hid hG2
      have HB2 := Lib.hid hB2
      have H7 := Lib.hid h7
      have c3 := HC.out _ h7.p.has.below
      clear h7 c2 H6 hcalm hF2 hG2 hB2
      go_wp2_with fail
      refine (two_prog _ _ 1 1 [0] HF2.out (byte_row w7 0) H7.out.new_apart.1 (by omega) (H7.out.alloc _)).mono ?_
      rintro e w8 ⟨⟨E8, rfl⟩, h8⟩
      have H8 := Lib.hid h8
      have c4 := HC.out _ h8.p.has.below
      clear h8 c3 H7
      go_wp2_with fail
      refine (two_rprog _ (by omega) _ 1 1 [0] HG2.out (byte_row w8 0) H8.out.new_apart.2 (by omega) (H8.out.alloc _)).mono ?_
      rintro e w9 ⟨⟨E9, rfl⟩, h9⟩
      have H9 := Lib.hid h9
      clear h9 c4 H8
      go_wp2_with fail
      go_roundw
      case rel => exact ⟨k + 1, F2, G2, by omega, by go_num, HB2.out, H9.out⟩
      case measure => simp [intOf]; omega
    · have hfl := hB.fl
      have HF := Lib.hid hfl
      have HTT := Lib.hid hT
      obtain ⟨S, hS⟩ : ∃ S, R.sumLeft F R.len = S := ⟨_, rfl⟩
      obtain ⟨s, t, hL⟩ : ∃ s t, R.least F x y = (s, t) := ⟨_, _, rfl⟩
      obtain ⟨M, hM⟩ : ∃ M, R.ringM F = M := ⟨_, rfl⟩
      have HS := Lib.hid hS
      have HL := Lib.hid hL
      have HM := Lib.hid hM
      clear hB hfl hT hS hL hM
      go_wp2_with fail
      refine (wleast_c _ x y hx0 hx1 hy0 hy1 HTT.out.p.has.flash HTT.out.p.area).mono ?_
      rintro e w6 ⟨rfl, q, rfl⟩
      rw [HL.out]
      have H6 := Lib.hid (HTT.out.drewN q)
      generalize World.drewN _ q = w6 at H6 ⊢
      clear HTT
      go_wp2_with fail
      refine (rwleast_c _ x y hx0 hx1 hy0 hy1 H6.out.r.flash H6.out.r.area).mono ?_
      rintro e w7 ⟨rfl, q, rfl⟩
      rw [HF.out, HL.out]
      have H7 := Lib.hid (H6.out.drewN q)
      generalize World.drewN _ q = w7 at H7 ⊢
      clear H6
      go_wp2_with fail
      refine (wsum_c _ H7.out.p.has.flash H7.out.p.area).mono ?_
      rintro e w8 ⟨rfl, q, rfl⟩
      rw [HS.out]
      have H8 := Lib.hid (H7.out.drewN q)
      generalize World.drewN _ q = w8 at H8 ⊢
      clear H7
      go_wp2_with fail
      refine (rwsum_c _ H8.out.r.flash H8.out.r.area).mono ?_
      rintro e w9 ⟨rfl, q, rfl⟩
      rw [HF.out, HS.out]
      have H9 := Lib.hid (H8.out.drewN q)
      generalize World.drewN _ q = w9 at H9 ⊢
      clear H8
      go_wp2_with fail
      refine (spent_h H9.out.p M HM.out).mono ?_
      rintro e w10 ⟨rfl, -, hb10⟩
      have H10 := Lib.hid (H9.out.later hb10)
      clear H9 hb10
      go_wp2_with fail
      refine (rmay_hr H10.out.r M (by rw [HF.out]; exact HM.out)).mono ?_
      rintro e w11 ⟨rfl, h11, -⟩
      go_wp2_with fail
      go_ret
      exact ⟨by simp, h11.below⟩
set_option maxRecDepth 100000 in
set_option maxHeartbeats 1000000 in
theorem wearTells_off (n b : Int) (A : Option Addr) (k c : Nat) (x y : Int) (w : World) (hk : (k : Int) ≤ 9223372036854775807) (hg : n < 0 ∨ 12 < n ∨ 60 < k) :
    Calls Try.prog 4 #[.int .i64 n, .int .i64 b, .slice A k c, .int .i64 x, .int .i64 y] w fun e w' => e = .returned (.bool true) ∧ Below w.heap.size w w' := by
  by_cases g0 : n < 0
  · clear hg
    go_enter Try.func4, Try.ntmps4
    go_wp2_with (go_at_call 19; refine (alive14_c _).mono ?_; rintro e w1 ⟨rfl, hb⟩)
    go_ret
    exact ⟨rfl, hb⟩
  · by_cases g1 : 12 < n
    · clear hg
      go_enter Try.func4, Try.ntmps4
      go_wp2_with (go_at_call 19; refine (alive14_c _).mono ?_; rintro e w1 ⟨rfl, hb⟩)
      go_ret
      exact ⟨rfl, hb⟩
    · have g2 : 60 < k := by omega
      clear hg
      go_enter Try.func4, Try.ntmps4
      go_wp2_with (go_at_call 19; refine (alive14_c _).mono ?_; rintro e w1 ⟨rfl, hb⟩)
      go_ret
      exact ⟨rfl, hb⟩

theorem wearTells_c (n b : Int) (A : Option Addr) (k c : Nat) (l : List Int) (x y : Int) (hx0 : -9223372036854775808 ≤ x) (hx1 : x ≤ 9223372036854775807) (hy0 : -9223372036854775808 ≤ y) (hy1 : y ≤ 9223372036854775807) (w : World) (hk : (k : Int) ≤ 9223372036854775807) (r : Reads w A k (l.map i64v)) :
    Calls Try.prog 4 #[.int .i64 n, .int .i64 b, .slice A k c, .int .i64 x, .int .i64 y] w fun e w' => e = .returned (.bool true) ∧ Below w.heap.size w w' := by
  by_cases hg : n < 0 ∨ 12 < n ∨ 60 < k
  · exact wearTells_off n b A k c x y w hk hg
  · have hl : l.length = k := by simpa using r.len
    subst hl
    obtain ⟨N, rfl⟩ := Int.eq_ofNat_of_zero_le (show 0 ≤ n by omega)
    exact wearTells_in N (by omega) b A c l (by omega) x y hx0 hx1 hy0 hy1 w r
end Go.Proofs.Ytlchlcjahndjgaa
