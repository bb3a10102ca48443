/- waterlinelaw19.SlotPlays: what any row of writes answers is what the reference answers, whatever is cut. -/
import Derived.Test.YtlchlcjahndjgaaRfQ
import Derived.Test.YtlchlcjahndjgaaLike
import Derived.Test.YtlchlcjahndjgaaDg2
import Derived.Test.YtlchlcjahndjgaaEq32
import Derived.Test.YtlchlcjahndjgaaRs7
import Derived.Test.YtlchlcjahndjgaaActs19
import Derived.Test.YtlchlcjahndjgaaStr
import Derived.Deep.RegionHeld3
import Derived.Deep.DrawnRows
namespace Go.Proofs.Ytlchlcjahndjgaa
open Go Go.RowKit
set_option linter.unusedVariables false
set_option linter.unusedSimpArgs false
theorem step_append_any_g {P : Program} {w : World} {ops : Array Oper} {o : Oper} {a : Act} {K : Act → World → Prop} {Q : Exit → Act → World → Prop} {E : Prop} (hw : Region.wanted o (yielded ops a.tmps) = true) (s x : Operand) (t : TypeId)
    (ho : o.op = .call { callee := .builtin .append, args := #[s, x], argTypes := #[t, t] })
    (base : Nat) (e : TypeId) (i : TypeInfo) (z : Value) (bytes : Nat) (ht : P.underlying t = some (.slice e)) (hi : P.info? e = some i) (hz : i.zero = some z)
    (hsize : i.size = 1) (hby : i.bytes = bytes) (hzs : z.cells.size = 1)
    (v : Value) (n : Nat) (xs : List Value) (hs : a.eval s = v) (hown : w.ownsRow base e 1 v n xs)
    (A : Option Addr) (m c : Nat) (news : List Value) (hx : a.eval x = .slice A m c) (hr : Reads w A m news) (h1 : ∀ u ∈ news, u.oneCell' = true)
    (h63 : n + m ≤ maxLen) (hbytes : (n + m) * bytes ≤ 140737488355328) (hbase : base ≤ w.heap.size)
    (h : ∀ A' c' w', w'.ownsRow base e 1 (.slice A' (n + m) c') (n + m) (xs ++ news) → w.grownBy w' v.ownBlock → (∀ a, A' = some a → v.ownBlock = some a.block ∨ a.block = w.heap.size) → K (a.put o.dst (.slice A' (n + m) c')) w') :
    if Region.wanted o (yielded ops a.tmps) = true then Oper.wp P o a w K Q else E := by
  rw [if_pos hw]
  exact wp_append_any w s x t ho base e i z bytes ht hi hz hsize hby hzs v n xs hs hown A m c news hx hr h1 h63 hbytes hbase h
/-- What holds behind k acts. -/
structure PsAt (n k : Nat) (S T : List Nat) (F : Fl) (G : RF) : Prop where
  like : Fl.Like (1000 - 4 * (k : Int)) F G.fl
  up : F.upTo k
  len : F.wear.length = n
  far : F.far = S
  gfar : G.far = T
theorem ps_new (n : Nat) (hn : n ≤ 400) (S T : List Nat) : PsAt n 0 S T { Fl.new (n : Int) with far := S } { RF.new (n : Int) with far := T } := by
  have h := RF.new_fl (n : Int)
  refine ⟨?_, Fl.upTo_new _, ?_, rfl, rfl⟩
  · have e : ({ RF.new (n : Int) with far := T } : RF).fl = (RF.new (n : Int)).fl := rfl
    rw [e, h]
    exact ⟨rfl, rfl, rfl, rfl, .inl rfl⟩
  · show (Fl.new (n : Int)).wear.length = n
    rw [(Fl.new_b n (by omega)).2, List.length_replicate]
theorem ps_cut {n k : Nat} {S T : List Nat} {F : Fl} {G G2 : RF} (h : PsAt n k S T F G) (hk : k ≤ 200) (v : Int) (m : List UInt8) (hg : G2.fl = (G.setCut v m).fl) (hf : G2.far = G.far) : PsAt n (k + 1) S T (F.setCut v m) G2 := by
  refine ⟨?_, fun x hx => by have := h.up x hx; omega, h.len, h.far, hf.trans h.gfar⟩
  rw [hg]
  refine ⟨h.like.b, h.like.wear, rfl, h.like.off, ?_⟩
  show max 0 v = (if v < 0 then 0 else if 1073741824 < v then 1073741824 else v) ∨ (1000 - 4 * ((k + 1 : Nat) : Int) ≤ max 0 v ∧ 1000 - 4 * ((k + 1 : Nat) : Int) ≤ (if v < 0 then 0 else if 1073741824 < v then 1073741824 else v))
  by_cases h1 : v < 0
  · left; rw [if_pos h1]; omega
  · rw [if_neg h1]
    by_cases h2 : 1073741824 < v
    · right; rw [if_pos h2]; omega
    · left; rw [if_neg h2]; omega
theorem ps_power {n k : Nat} {S T : List Nat} {F : Fl} {G G2 : RF} (h : PsAt n k S T F G) (hg : G2.fl = G.fl.power) (hf : G2.far = G.far) : PsAt n (k + 1) S T F.power G2 :=
  ⟨by rw [hg]; exact (h.like.power).less (by omega), fun x hx => by have := h.up x hx; omega, h.len, h.far, hf.trans h.gfar⟩
theorem ps_skip {n k : Nat} {S T : List Nat} {F : Fl} {G : RF} (h : PsAt n k S T F G) : PsAt n (k + 1) S T F G :=
  ⟨h.like.less (by omega), fun x hx => by have := h.up x hx; omega, h.len, h.far, h.gfar⟩
theorem ps_erase {n k : Nat} {S T : List Nat} {F : Fl} {G G2 : RF} (h : PsAt n k S T F G) (hk : k ≤ 200) (v : Int) (hg : G2.fl = G.fl.erase v) (hf : G2.far = G.far) : PsAt n (k + 1) S T (F.erase v) G2 :=
  ⟨by rw [hg]; exact (h.like.erase (by omega) v).less (by omega), Fl.upTo_erase h.up v, by rw [(Fl.erase_mask F v).2.2]; exact h.len, by rw [(Fl.erase_mask F v).2.1]; exact h.far, hf.trans h.gfar⟩
theorem ps_prog {n k : Nat} {S T : List Nat} {F : Fl} {G G2 : RF} (h : PsAt n k S T F G) (hk : k ≤ 200) (v : Int) (bs : List UInt8) (hg : G2.fl = G.fl.program v bs) (hf : G2.far = G.far) : PsAt n (k + 1) S T (F.program v bs) G2 := by
  obtain ⟨h1, h2, h3⟩ := Fl.program_mask F v bs
  exact ⟨by rw [hg]; exact (h.like.program (by omega) v bs).less (by omega), fun x hx => by have := Fl.upTo_program h.up v bs x hx; omega, by rw [h3]; exact h.len, by rw [h2]; exact h.far, hf.trans h.gfar⟩
theorem ps_chunk {n k : Nat} {S T : List Nat} {F : Fl} {G G2 : RF} (R : Ar) (h : PsAt n k S T F G) (hk : k ≤ 200) (x : Int) (bs : List UInt8) (hg : G2.fl = R.chunk G.fl x bs) (hf : G2.far = G.far) : PsAt n (k + 1) S T (R.chunk F x bs) G2 := by
  obtain ⟨h1, h2, h3⟩ := R.chunk_keep (F := F) x bs
  exact ⟨by rw [hg]; exact (R.like_chunk h.like (by omega) x bs).less (by omega), R.upTo_chunk h.up x bs, by rw [h3]; exact h.len, by rw [h2]; exact h.far, hf.trans h.gfar⟩
theorem Ar.like_imgGo {d : Int} {F G : Fl} (R : Ar) (h : Fl.Like d F G) (s n : Int) (z : Nat) : ∀ f k out, R.imgGo F s n z f k out = R.imgGo G s n z f k out
  | 0, _, _ => rfl
  | f + 1, k, out => by
    by_cases hz : z ≤ out.length
    · rw [R.imgGo_ge F s n z f k out hz, R.imgGo_ge G s n z f k out hz]
    · rw [R.imgGo_lt F s n z f k out _ (by omega) rfl, R.imgGo_lt G s n z f k out _ (by omega) rfl, R.like_read h, Ar.like_imgGo R h s n z f (k + 1)]
theorem Ar.like_image {d : Int} {F G : Fl} (R : Ar) (h : Fl.Like d F G) (s n z : Int) : R.image F s n z = R.image G s n z := by
  unfold Ar.image
  rw [R.like_imgGo h]
section
variable {w0 w w' : World} {ab fb bb wb rab rfb rbb rwb : Nat} {R Q : Ar} {F F' : Fl} {G G' : RF}
theorem two_z_smay (s k n x : Int) (hx : fromS s k n = x) (M : Bool) (hM : R.mayC F x = M) (h : Two w0 w ab fb bb wb rab rfb rbb rwb R Q F G) :
    Calls Try.prog 42 #[ptr ab, .int .i64 s, .int .i64 k, .int .i64 n] w fun e w' => e = .returned (.bool M) ∧ Two w0 w' ab fb bb wb rab rfb rbb rwb R Q F G ∧ Below w.heap.size w w' := by
  subst hx hM
  exact (may_c w s k n h.p.has.flash h.p.area).mono fun e w' ⟨he, m, hw⟩ => by
    subst hw
    exact ⟨he, h.drewN m, below_drewN (Below.refl _ _) m⟩
theorem two_z_rsmay (s k n x : Int) (hx : fromS s k n = x) (M : Bool) (hM : Q.mayC G.fl x = M) (h : Two w0 w ab fb bb wb rab rfb rbb rwb R Q F G) :
    Calls Try.prog 43 #[ptr rab, .int .i64 s, .int .i64 k, .int .i64 n] w fun e w' => e = .returned (.bool M) ∧ Two w0 w' ab fb bb wb rab rfb rbb rwb R Q F G ∧ Below w.heap.size w w' :=
  (rmayslot_h s k n x hx M hM h.r).mono fun e w' ⟨he, _, hb⟩ => ⟨he, h.later hb, hb⟩
theorem two_z_swrite (s k n x : Int) (A : Option Addr) (m c : Nat) (bs : List UInt8) (hm : m = bs.length) (hx : fromS s k n = x) (E : Int) (hE : R.chunkE F x bs = E) (hF' : R.chunk F x bs = F') (hr : Reads w A m (bs.map u8v)) (hap : Apart [fb, bb, wb] A) (h : Two w0 w ab fb bb wb rab rfb rbb rwb R Q F G) :
    Calls Try.prog 45 #[ptr ab, .int .i64 s, .int .i64 k, .int .i64 n, .slice A m c] w (TwoE w0 w ab fb bb wb rab rfb rbb rwb R Q F' G (.int .i64 E)) := by
  have hk := R.chunk_keep (F := F) x bs
  rw [hF'] at hk
  exact (swrite_h s k n A m c bs hm E F' x hx hE hF' hr hap h.p).mono fun e w' ⟨he, hh, ho⟩ => ⟨he, h.pop hh ho (by rw [hk.1, hk.2.1]; exact h.m1), ho⟩
theorem two_z_rswrite (s k n x : Int) (A : Option Addr) (m c : Nat) (bs : List UInt8) (hm : m = bs.length) (hx : fromS s k n = x) (E : Int) (F2 : Fl) (hE : Q.chunkE G.fl x bs = E) (hF2 : Q.chunk G.fl x bs = F2) (hr : Reads w A m (bs.map u8v)) (hap : 0 < m → Apart [rfb, rbb, rwb] A) (h : Two w0 w ab fb bb wb rab rfb rbb rwb R Q F G) :
    Calls Try.prog 46 #[ptr rab, .int .i64 s, .int .i64 k, .int .i64 n, .slice A m c] w (TwoG w0 w ab fb bb wb rab rfb rbb rwb R Q F G F2 (.int .i64 E)) :=
  (rwriteslot_h s k n A m c bs hm E F2 x hx hE hF2 hr hap h.r).mono fun e w' ⟨he, G', hg, hh, ho, hm, hf⟩ => ⟨he, G', hg, hf, h.rop hh ho (by rw [hm, hf]; exact h.m2), ho⟩
end
set_option maxRecDepth 100000 in
set_option maxHeartbeats 40000000 in
theorem slotPlays_in (n : Nat) (hn : n ≤ 18) (S b : Int) (A : Option Addr) (m c : Nat) (hm : m ≤ 40) (z : Int) (hzb : z ≤ 9223372036854775807) (w : World) (r : ActsAt19 w A m) :
    Calls Try.prog 6 #[.int .i64 (n : Int), .int .i64 S, .int .i64 b, .slice A m c, .int .i64 z] w fun e w' => e = .returned (.bool true) ∧ Below w.heap.size w w' := by
  obtain ⟨F0, f0⟩ : ∃ F0, Fl.new (n : Int) = F0 := ⟨_, rfl⟩
  obtain ⟨G0, g0⟩ : ∃ G0, RF.new (n : Int) = G0 := ⟨_, rfl⟩
  obtain ⟨R, r0⟩ : ∃ R, Ar.new n 0 n b = R := ⟨_, rfl⟩
  have hw2 : F0.wear.length = n := by rw [← f0, (Fl.new_b n (by omega)).2, List.length_replicate]
  have hmF : F0.mask = [] := by rw [← f0]; rfl
  have hmG : G0.mask = [] := by rw [← g0]; rfl
  have hwG : G0.wear.length = n := by
    have h := RF.new_fl (n : Int)
    rw [g0, f0] at h
    rw [← hw2, ← h]
    rfl
  have r1 : Ar.rnew G0.wear.length 0 n b = R := by rw [hwG, Ar.rnew_new, r0]
  have hpl := ps_new n (by omega)
  rw [f0, g0] at hpl
  have FF := Lib.hid f0
  have GG := Lib.hid g0
  have RR := Lib.hid r0
  have R1 := Lib.hid r1
  have HW2 := Lib.hid hw2
  have HMF := Lib.hid hmF
  have HMG := Lib.hid hmG
  have HR := Lib.hid r
  have HPL := Lib.hid hpl
  clear f0 g0 r0 r1 hw2 hmF hmG hwG r hpl
  go_enter Try.func6, Try.ntmps6
  go_wp2_with (go_at_call 40; refine (alive19_c _).mono ?_; rintro e w1 ⟨rfl, hb1⟩)
  refine (new_hf n (by omega) F0 FF.out hb1).mono ?_
  rintro e w2 ⟨fb, bb, wb, rfl, h2⟩
  go_wp2_with fail
  refine (rnew_c w2 n).mono ?_
  rintro e w3 ⟨rfb, rbb, rwb, rfl, h3, l1, l2, l3, hb3⟩
  rw [GG.out] at h3
  go_wp2_with fail
  have hb3' := hb3
  have h3' := h3
  refine (anew_h 0 0 n b n HW2.out R RR.out (h2.later hb3')).mono ?_
  rintro e w4 ⟨ab, rfl, h4, l4, hb4⟩
  go_wp2_with fail
  refine (rnewarea_c w4 0 0 n b (h3'.below hb4)).mono ?_
  rintro e w5 ⟨rab, rfl, h5, hb5, l5⟩
  rw [R1.out] at h5
  have hT := (Two.mk1 h2 h3' hb3' l1 l2 l3 h4 hb4 l4 h5 hb5 l5 (by rw [← GG.out]; intro hh; cases hh) HMF.out HMG.out).farther HMF.out HMG.out
  have hP := HPL.out [rfb, rbb, rwb] [fb, bb, wb]
  generalize ({ F0 with far := [rfb, rbb, rwb] } : Fl) = F1 at hT hP
  generalize ({ G0 with far := [fb, bb, wb] } : RF) = G1 at hT hP
  have HT := Lib.hid hT
  have HP := Lib.hid hP
  clear hT hP h2 h3 h3' h4 h5 hb1 hb3 hb3' hb4 hb5 l1 l2 l3 l4 l5
  go_wp2_with fail
  obtain ⟨u0, hi, hz0, hz1, hz2⟩ := info_parts info_u8
  have HI := Lib.hid hi
  have HZ0 := Lib.hid hz0
  have HZ1 := Lib.hid hz1
  have HZ2 := Lib.hid hz2
  clear hi hz0 hz1 hz2
  go_loopw [16] (fun i wr => ∃ (k : Nat) (F : Fl) (G : RF), k ≤ m ∧ i = .int .i64 k ∧ PsAt n (3 * k) [rfb, rbb, rwb] [fb, bb, wb] F G ∧ Two w wr ab fb bb wb rab rfb rbb rwb R R F G) (fun i _ => m - (intOf i).toNat)
  case atStart => exact ⟨0, F1, G1, Nat.zero_le _, rfl, HP.out, HT.out⟩
  case round =>
    clear HT HP
    obtain ⟨k, F, G, hk, rfl, hB, hT⟩ := hrel
    by_cases hlt : k < m
    · obtain ⟨g, o, ⟨s, v, cn, bs, ks⟩, AB, nb, cb, AM, nm, cm, t, hA, hg, j0, j1, j2, j3, j4, j5, hs, hv, hcn, hnb, hnm, hrb, hrm⟩ := HR.out k hlt
      subst hA
      simp only at j0 j1 j2 hs hv hcn hrb hrm
      have hbel := hT.p.has.below
      have i0 := (hbel.cell (p := ⟨g, o + k * 6, none⟩) hg).trans j0
      have i1 := (hbel.cell (p := ⟨g, o + k * 6 + 1, none⟩) hg).trans j1
      have i2 := (hbel.cell (p := ⟨g, o + k * 6 + 2, none⟩) hg).trans j2
      have i3 := (hbel.cell (p := ⟨g, o + k * 6 + 3, none⟩) hg).trans j3
      have i4 := (hbel.cell (p := ⟨g, o + k * 6 + 4, none⟩) hg).trans j4
      have i5 := (hbel.cell (p := ⟨g, o + k * 6 + 5, none⟩) hg).trans j5
      have hnb2 := hnb.1
      have hnb3 := hnb.2
      have hnm2 := hnm.1
      have hnm3 := hnm.2
      simp only [maxLen] at hnb3 hnm3
      have hbl : bs.length = nb := by simpa using hrb.len
      have HBL := Lib.hid hbl
      have HT := Lib.hid hT
      have HB := Lib.hid hB
      have RB := Lib.hid hrb
      have RM := Lib.hid hrm
      clear hbel hT hB hrb hrm j0 j1 j2 j3 j4 j5 hnb hnm hbl
      go_upto_region 12 with fail
      have hX : Blk (wr.alloc (.cells #[.int .i64 s, .int .i64 v, .int .i64 cn, .slice AB nb cb, .slice AM nm cm, .bool t] 71)) wr.heap.size 71 #[.int .i64 s, .int .i64 v, .int .i64 cn, .slice AB nb cb, .slice AM nm cm, .bool t] := Blk.new wr _ _
      have hT1 := HT.out.alloc (.cells #[.int .i64 s, .int .i64 v, .int .i64 cn, .slice AB nb cb, .slice AM nm cm, .bool t] 71)
      have hlt8 := HT.out.lt
      obtain ⟨xb, hxb⟩ : ∃ xb, wr.heap.size = xb := ⟨_, rfl⟩
      rw [hxb] at hX hlt8 ⊢
      have hx1 : xb ∉ [fb, bb, wb] := by simp only [List.mem_cons, List.not_mem_nil, or_false, not_or]; omega
      have hx2 : xb ∉ [rfb, rbb, rwb] := by simp only [List.mem_cons, List.not_mem_nil, or_false, not_or]; omega
      generalize wr.alloc (.cells #[.int .i64 s, .int .i64 v, .int .i64 cn, .slice AB nb cb, .slice AM nm cm, .bool t] 71) = W1 at hX hT1 ⊢
      have HX := Lib.hid hX
      have HT1 := Lib.hid hT1
      have d2 : W1.cell? ⟨xb, 2, none⟩ = some (.int .i64 cn) := hX.cell 2
      have d3 : W1.cell? ⟨xb, 3, none⟩ = some (.slice AB nb cb) := hX.cell 3
      have d4 : W1.cell? ⟨xb, 4, none⟩ = some (.slice AM nm cm) := hX.cell 4
      have d5 : W1.cell? ⟨xb, 5, none⟩ = some (.bool t) := hX.cell 5
      have H8 := Lib.hid hlt8
      have X1 := Lib.hid hx1
      have X2 := Lib.hid hx2
      clear hX hT1 i0 i1 i2 i3 i4 i5 HT hxb hlt8 hx1 hx2
      by_cases hL1 : (700 : Int) < (nb : Int)
      · go_wp2_with fail
        go_ret
        exact ⟨rfl, HT1.out.p.has.below⟩
      by_cases hL2 : (50 : Int) < (nm : Int)
      · go_wp2_with fail
        go_ret
        exact ⟨rfl, HT1.out.p.has.below⟩
      cases t
      · go_wp2_with fail
        have hB2 := ps_skip HB.out
        have hT2 := HT1.out
        have hX2 := HX.out
        obtain ⟨F2, hFF⟩ : ∃ F2, F = F2 := ⟨_, rfl⟩
        obtain ⟨G2, hGG⟩ : ∃ G2, G = G2 := ⟨_, rfl⟩
        rw [hFF, hGG] at hB2 hT2
        clear hFF hGG
        obtain ⟨x, hx⟩ : ∃ x, fromS s v S = x := ⟨_, rfl⟩
        obtain ⟨M, hM⟩ : ∃ M, R.mayC F2 x = M := ⟨_, rfl⟩
        obtain ⟨E, hE⟩ : ∃ E, R.chunkE F2 x bs = E := ⟨_, rfl⟩
        obtain ⟨F3, hF3⟩ : ∃ F3, R.chunk F2 x bs = F3 := ⟨_, rfl⟩
        obtain ⟨K3, hK3⟩ : ∃ K3, R.chunk G2.fl x bs = K3 := ⟨_, rfl⟩
        have hM' : R.mayC G2.fl x = M := by rw [← R.like_mayC hB2.like]; exact hM
        have hE' : R.chunkE G2.fl x bs = E := by rw [← R.like_chunkE hB2.like (by omega)]; exact hE
        have HX := Lib.hid hx
        have HM := Lib.hid hM
        have HM' := Lib.hid hM'
        have HE := Lib.hid hE
        have HE' := Lib.hid hE'
        have HF3 := Lib.hid hF3
        have HK3 := Lib.hid hK3
        have HB2 := Lib.hid hB2
        have HT2 := Lib.hid (hT2.drewN 1)
        have HX2 := Lib.hid (show Blk W1.drew xb 71 #[.int .i64 s, .int .i64 v, .int .i64 cn, .slice AB nb cb, .slice AM nm cm, .bool false] from hX2)
        have hcells : W1.drew.cell? ⟨xb, 0, none⟩ = some (.int .i64 s) ∧ W1.drew.cell? ⟨xb, 1, none⟩ = some (.int .i64 v) ∧ W1.drew.cell? ⟨xb, 3, none⟩ = some (.slice AB nb cb) := ⟨HX2.out.cell 0, HX2.out.cell 1, HX2.out.cell 3⟩
        have hap2 : 0 < nb → Apart [rfb, rbb, rwb] AB := fun h0 a ha => by
          obtain ⟨b', o', e, hb, _⟩ := RB.out.2 h0
          rw [ha] at e; cases e
          have h1 := hT2.r.fb_
          have h2 := hT2.r.bb_
          have h3 := hT2.r.wb_
          simp only [List.mem_cons, List.not_mem_nil, or_false, not_or]; omega
        have HA2 := Lib.hid hap2
        clear hx hM hM' hE hE' hF3 hK3 hB2 hT2 hX2 hap2 HB HT1 d2 d3 d4 d5
        go_upto_region 17 with fail
        refine wp_region_held_drew (S := (fun W => W.cell? ⟨xb, 0, none⟩ = some (.int .i64 s) ∧ W.cell? ⟨xb, 1, none⟩ = some (.int .i64 v) ∧ W.cell? ⟨xb, 3, none⟩ = some (.slice AB nb cb))) (by kernel_rfl) ?_ (fun hHeld => ?_)
        · exact hcells
        refine wpAnyH_take (i := 0) (v := ?_) rfl (by kernel_rfl) (by kernel_rfl) (by kernel_rfl) (fun _ _ _ h => h) (Or.inl ⟨by rfl, ?_⟩) (by assumption) ?_
        rotate_left
        · intro w hSw
          (try dsimp only at hSw)
          go_simp
          all_goals with_reducible rfl
        try simp only [Act.put, List.getElem_toArray, List.getElem_cons_succ, List.getElem_cons_zero, List.setIfInBounds_toArray, List.set_cons_zero, List.set_cons_succ]
        refine wpAnyH_take (i := 1) (v := ?_) rfl (by kernel_rfl) (by kernel_rfl) (by kernel_rfl) (fun _ _ _ h => h) (Or.inl ⟨by rfl, ?_⟩) (by assumption) ?_
        rotate_left
        · intro w hSw
          (try dsimp only at hSw)
          go_simp
          all_goals with_reducible rfl
        try simp only [Act.put, List.getElem_toArray, List.getElem_cons_succ, List.getElem_cons_zero, List.setIfInBounds_toArray, List.set_cons_zero, List.set_cons_succ]
        refine wpAnyH_take (i := 2) (v := ?_) rfl (by kernel_rfl) (by kernel_rfl) (by kernel_rfl) (fun _ _ _ h => h) (Or.inl ⟨by rfl, ?_⟩) (by assumption) ?_
        rotate_left
        · intro w hSw
          (try dsimp only at hSw)
          go_simp
          all_goals with_reducible rfl
        try simp only [Act.put, List.getElem_toArray, List.getElem_cons_succ, List.getElem_cons_zero, List.setIfInBounds_toArray, List.set_cons_zero, List.set_cons_succ]
        refine wpAnyH_take (i := 3) (v := ?_) rfl (by kernel_rfl) (by kernel_rfl) (by kernel_rfl) (fun _ _ _ h => h) (Or.inl ⟨by rfl, ?_⟩) (by assumption) ?_
        rotate_left
        · intro w hSw
          (try dsimp only at hSw)
          go_simp
          all_goals with_reducible rfl
        try simp only [Act.put, List.getElem_toArray, List.getElem_cons_succ, List.getElem_cons_zero, List.setIfInBounds_toArray, List.set_cons_zero, List.set_cons_succ]
        refine wpAnyH_take (i := 4) (v := ?_) rfl (by kernel_rfl) (by kernel_rfl) (by kernel_rfl) (fun _ _ _ h => h) (Or.inl ⟨by rfl, ?_⟩) (by assumption) ?_
        rotate_left
        · intro w hSw
          (try dsimp only at hSw)
          go_simp
          all_goals with_reducible rfl
        try simp only [Act.put, List.getElem_toArray, List.getElem_cons_succ, List.getElem_cons_zero, List.setIfInBounds_toArray, List.set_cons_zero, List.set_cons_succ]
        refine wpAnyH_take (i := 5) (v := ?_) rfl (by kernel_rfl) (by kernel_rfl) (by kernel_rfl) (fun _ _ _ h => h) (Or.inl ⟨by rfl, ?_⟩) (by assumption) ?_
        rotate_left
        · intro w hSw
          (try dsimp only at hSw)
          go_simp
          all_goals with_reducible rfl
        try simp only [Act.put, List.getElem_toArray, List.getElem_cons_succ, List.getElem_cons_zero, List.setIfInBounds_toArray, List.set_cons_zero, List.set_cons_succ]
        refine wpAnyH_take (i := 7) (v := ?_) rfl (by kernel_rfl) (by kernel_rfl) (by kernel_rfl) (fun _ _ _ h => h) (Or.inl ⟨by rfl, ?_⟩) (by assumption) ?_
        rotate_left
        · intro w hSw
          (try dsimp only at hSw)
          go_simp
          all_goals with_reducible rfl
        try simp only [Act.put, List.getElem_toArray, List.getElem_cons_succ, List.getElem_cons_zero, List.setIfInBounds_toArray, List.set_cons_zero, List.set_cons_succ]
        refine wpAnyH_take (i := 8) (v := ?_) rfl (by kernel_rfl) (by kernel_rfl) (by kernel_rfl) (fun _ _ _ h => h) (Or.inl ⟨by rfl, ?_⟩) (by assumption) ?_
        rotate_left
        · intro w hSw
          (try dsimp only at hSw)
          go_simp
          all_goals with_reducible rfl
        try simp only [Act.put, List.getElem_toArray, List.getElem_cons_succ, List.getElem_cons_zero, List.setIfInBounds_toArray, List.set_cons_zero, List.set_cons_succ]
        refine wpAnyH_take (i := 9) (v := ?_) rfl (by kernel_rfl) (by kernel_rfl) (by kernel_rfl) (fun _ _ _ h => h) (Or.inl ⟨by rfl, ?_⟩) (by assumption) ?_
        rotate_left
        · intro w hSw
          (try dsimp only at hSw)
          go_simp
          all_goals with_reducible rfl
        try simp only [Act.put, List.getElem_toArray, List.getElem_cons_succ, List.getElem_cons_zero, List.setIfInBounds_toArray, List.set_cons_zero, List.set_cons_succ]
        refine wpAnyH_take (i := 10) (v := ?_) rfl (by kernel_rfl) (by kernel_rfl) (by kernel_rfl) (fun _ _ _ h => h) (Or.inl ⟨by rfl, ?_⟩) (by assumption) ?_
        rotate_left
        · intro w hSw
          (try dsimp only at hSw)
          go_simp
          all_goals with_reducible rfl
        try simp only [Act.put, List.getElem_toArray, List.getElem_cons_succ, List.getElem_cons_zero, List.setIfInBounds_toArray, List.set_cons_zero, List.set_cons_succ]
        refine wpAnyH_take (i := 11) (v := ?_) rfl (by kernel_rfl) (by kernel_rfl) (by kernel_rfl) (fun _ _ _ h => h) (Or.inl ⟨by rfl, ?_⟩) (by assumption) ?_
        rotate_left
        · intro w hSw
          (try dsimp only at hSw)
          go_simp
          all_goals with_reducible rfl
        try simp only [Act.put, List.getElem_toArray, List.getElem_cons_succ, List.getElem_cons_zero, List.setIfInBounds_toArray, List.set_cons_zero, List.set_cons_succ]
        refine wpAnyH_take (i := 12) (v := ?_) rfl (by kernel_rfl) (by kernel_rfl) (by kernel_rfl) (fun _ _ _ h => h) (Or.inl ⟨by rfl, ?_⟩) (by assumption) ?_
        rotate_left
        · intro w hSw
          (try dsimp only at hSw)
          go_simp
          all_goals with_reducible rfl
        try simp only [Act.put, List.getElem_toArray, List.getElem_cons_succ, List.getElem_cons_zero, List.setIfInBounds_toArray, List.set_cons_zero, List.set_cons_succ]
        refine wpAnyH_ready (rs := [6]) (by kernel_rfl) (by simp) ?_
        refine AllReadyH.cons rfl (fun K hK => ?_) AllReadyH.nil
        go_simp
        refine (two_z_smay s v S x HX.out M HM.out HT2.out).mono ?_; rintro e W3 ⟨rfl, h3, hb3⟩; have HT3 := Lib.hid h3; have HX3 := Lib.hid (HX2.out.below hb3 HX2.out.lt); have HS3 := Lib.hid (show W3.cell? ⟨xb, 0, none⟩ = some (.int .i64 s) ∧ W3.cell? ⟨xb, 1, none⟩ = some (.int .i64 v) ∧ W3.cell? ⟨xb, 3, none⟩ = some (.slice AB nb cb) from ⟨HX3.out.cell 0, HX3.out.cell 1, HX3.out.cell 3⟩); clear h3 hb3
        go_wp2_with fail
        refine hK.out _ _ ?_ (fun hHeld => ?_)
        · (try dsimp only)
          first | exact HS7.out | exact HS6.out | exact HS5.out | exact HS4.out | exact HS3.out
        clear hK K
        try simp only [Act.put, List.getElem_toArray, List.getElem_cons_succ, List.getElem_cons_zero, List.setIfInBounds_toArray, List.set_cons_zero, List.set_cons_succ]
        refine wpAnyH_ready (rs := [13]) (by kernel_rfl) (by simp) ?_
        refine AllReadyH.cons rfl (fun K hK => ?_) AllReadyH.nil
        go_simp
        refine (two_z_rsmay s v S x HX.out M HM'.out HT3.out).mono ?_; rintro e W4 ⟨rfl, h4, hb4⟩; have HT4 := Lib.hid h4; have HX4 := Lib.hid (HX3.out.below hb4 HX3.out.lt); have HS4 := Lib.hid (show W4.cell? ⟨xb, 0, none⟩ = some (.int .i64 s) ∧ W4.cell? ⟨xb, 1, none⟩ = some (.int .i64 v) ∧ W4.cell? ⟨xb, 3, none⟩ = some (.slice AB nb cb) from ⟨HX4.out.cell 0, HX4.out.cell 1, HX4.out.cell 3⟩); clear h4 hb4
        go_wp2_with fail
        refine hK.out _ _ ?_ (fun hHeld => ?_)
        · (try dsimp only)
          first | exact HS7.out | exact HS6.out | exact HS5.out | exact HS4.out | exact HS3.out
        clear hK K
        try simp only [Act.put, List.getElem_toArray, List.getElem_cons_succ, List.getElem_cons_zero, List.setIfInBounds_toArray, List.set_cons_zero, List.set_cons_succ]
        refine wpAnyH_take (i := 14) (v := ?_) rfl (by kernel_rfl) (by kernel_rfl) (by kernel_rfl) (fun _ _ _ h => h) (Or.inl ⟨by rfl, ?_⟩) (by assumption) ?_
        rotate_left
        · intro w hSw
          (try dsimp only at hSw)
          go_simp
          all_goals with_reducible rfl
        try simp only [Act.put, List.getElem_toArray, List.getElem_cons_succ, List.getElem_cons_zero, List.setIfInBounds_toArray, List.set_cons_zero, List.set_cons_succ]
        refine wpAnyH_take (i := 15) (v := ?_) rfl (by kernel_rfl) (by kernel_rfl) (by kernel_rfl) (fun _ _ _ h => h) (Or.inl ⟨by rfl, ?_⟩) (by assumption) ?_
        rotate_left
        · intro w hSw
          (try dsimp only at hSw)
          go_simp
          all_goals with_reducible rfl
        try simp only [Act.put, List.getElem_toArray, List.getElem_cons_succ, List.getElem_cons_zero, List.setIfInBounds_toArray, List.set_cons_zero, List.set_cons_succ]
        refine wpAnyH_take (i := 16) (v := ?_) rfl (by kernel_rfl) (by kernel_rfl) (by kernel_rfl) (fun _ _ _ h => h) (Or.inl ⟨by rfl, ?_⟩) (by assumption) ?_
        rotate_left
        · intro w hSw
          (try dsimp only at hSw)
          go_simp
          all_goals with_reducible rfl
        try simp only [Act.put, List.getElem_toArray, List.getElem_cons_succ, List.getElem_cons_zero, List.setIfInBounds_toArray, List.set_cons_zero, List.set_cons_succ]
        refine wpAnyH_take (i := 17) (v := ?_) rfl (by kernel_rfl) (by kernel_rfl) (by kernel_rfl) (fun _ _ _ h => h) (Or.inl ⟨by rfl, ?_⟩) (by assumption) ?_
        rotate_left
        · intro w hSw
          (try dsimp only at hSw)
          go_simp
          all_goals with_reducible rfl
        try simp only [Act.put, List.getElem_toArray, List.getElem_cons_succ, List.getElem_cons_zero, List.setIfInBounds_toArray, List.set_cons_zero, List.set_cons_succ]
        refine wpAnyH_take (i := 18) (v := ?_) rfl (by kernel_rfl) (by kernel_rfl) (by kernel_rfl) (fun _ _ _ h => h) (Or.inl ⟨by rfl, ?_⟩) (by assumption) ?_
        rotate_left
        · intro w hSw
          (try dsimp only at hSw)
          go_simp
          all_goals with_reducible rfl
        try simp only [Act.put, List.getElem_toArray, List.getElem_cons_succ, List.getElem_cons_zero, List.setIfInBounds_toArray, List.set_cons_zero, List.set_cons_succ]
        refine wpAnyH_take (i := 19) (v := ?_) rfl (by kernel_rfl) (by kernel_rfl) (by kernel_rfl) (fun _ _ _ h => h) (Or.inl ⟨by rfl, ?_⟩) (by assumption) ?_
        rotate_left
        · intro w hSw
          (try dsimp only at hSw)
          go_simp
          all_goals with_reducible rfl
        try simp only [Act.put, List.getElem_toArray, List.getElem_cons_succ, List.getElem_cons_zero, List.setIfInBounds_toArray, List.set_cons_zero, List.set_cons_succ]
        refine wpAnyH_take (i := 20) (v := ?_) rfl (by kernel_rfl) (by kernel_rfl) (by kernel_rfl) (fun _ _ _ h => h) (Or.inl ⟨by rfl, ?_⟩) (by assumption) ?_
        rotate_left
        · intro w hSw
          (try dsimp only at hSw)
          go_simp
          all_goals with_reducible rfl
        try simp only [Act.put, List.getElem_toArray, List.getElem_cons_succ, List.getElem_cons_zero, List.setIfInBounds_toArray, List.set_cons_zero, List.set_cons_succ]
        refine wpAnyH_take (i := 21) (v := ?_) rfl (by kernel_rfl) (by kernel_rfl) (by kernel_rfl) (fun _ _ _ h => h) (Or.inl ⟨by rfl, ?_⟩) (by assumption) ?_
        rotate_left
        · intro w hSw
          (try dsimp only at hSw)
          go_simp
          all_goals with_reducible rfl
        try simp only [Act.put, List.getElem_toArray, List.getElem_cons_succ, List.getElem_cons_zero, List.setIfInBounds_toArray, List.set_cons_zero, List.set_cons_succ]
        refine wpAnyH_take (i := 22) (v := ?_) rfl (by kernel_rfl) (by kernel_rfl) (by kernel_rfl) (fun _ _ _ h => h) (Or.inl ⟨by rfl, ?_⟩) (by assumption) ?_
        rotate_left
        · intro w hSw
          (try dsimp only at hSw)
          go_simp
          all_goals with_reducible rfl
        try simp only [Act.put, List.getElem_toArray, List.getElem_cons_succ, List.getElem_cons_zero, List.setIfInBounds_toArray, List.set_cons_zero, List.set_cons_succ]
        refine wpAnyH_take (i := 23) (v := ?_) rfl (by kernel_rfl) (by kernel_rfl) (by kernel_rfl) (fun _ _ _ h => h) (Or.inl ⟨by rfl, ?_⟩) (by assumption) ?_
        rotate_left
        · intro w hSw
          (try dsimp only at hSw)
          go_simp
          all_goals with_reducible rfl
        try simp only [Act.put, List.getElem_toArray, List.getElem_cons_succ, List.getElem_cons_zero, List.setIfInBounds_toArray, List.set_cons_zero, List.set_cons_succ]
        refine wpAnyH_take (i := 27) (v := ?_) rfl (by kernel_rfl) (by kernel_rfl) (by kernel_rfl) (fun _ _ _ h => h) (Or.inl ⟨by rfl, ?_⟩) (by assumption) ?_
        rotate_left
        · intro w hSw
          (try dsimp only at hSw)
          go_simp
          all_goals with_reducible rfl
        try simp only [Act.put, List.getElem_toArray, List.getElem_cons_succ, List.getElem_cons_zero, List.setIfInBounds_toArray, List.set_cons_zero, List.set_cons_succ]
        refine wpAnyH_take (i := 28) (v := ?_) rfl (by kernel_rfl) (by kernel_rfl) (by kernel_rfl) (fun _ _ _ h => h) (Or.inl ⟨by rfl, ?_⟩) (by assumption) ?_
        rotate_left
        · intro w hSw
          (try dsimp only at hSw)
          go_simp
          all_goals with_reducible rfl
        try simp only [Act.put, List.getElem_toArray, List.getElem_cons_succ, List.getElem_cons_zero, List.setIfInBounds_toArray, List.set_cons_zero, List.set_cons_succ]
        refine wpAnyH_take (i := 29) (v := ?_) rfl (by kernel_rfl) (by kernel_rfl) (by kernel_rfl) (fun _ _ _ h => h) (Or.inl ⟨by rfl, ?_⟩) (by assumption) ?_
        rotate_left
        · intro w hSw
          (try dsimp only at hSw)
          go_simp
          all_goals with_reducible rfl
        try simp only [Act.put, List.getElem_toArray, List.getElem_cons_succ, List.getElem_cons_zero, List.setIfInBounds_toArray, List.set_cons_zero, List.set_cons_succ]
        refine wpAnyH_take (i := 30) (v := ?_) rfl (by kernel_rfl) (by kernel_rfl) (by kernel_rfl) (fun _ _ _ h => h) (Or.inl ⟨by rfl, ?_⟩) (by assumption) ?_
        rotate_left
        · intro w hSw
          (try dsimp only at hSw)
          go_simp
          all_goals with_reducible rfl
        try simp only [Act.put, List.getElem_toArray, List.getElem_cons_succ, List.getElem_cons_zero, List.setIfInBounds_toArray, List.set_cons_zero, List.set_cons_succ]
        refine wpAnyH_take (i := 31) (v := ?_) rfl (by kernel_rfl) (by kernel_rfl) (by kernel_rfl) (fun _ _ _ h => h) (Or.inl ⟨by rfl, ?_⟩) (by assumption) ?_
        rotate_left
        · intro w hSw
          (try dsimp only at hSw)
          go_simp
          all_goals with_reducible rfl
        try simp only [Act.put, List.getElem_toArray, List.getElem_cons_succ, List.getElem_cons_zero, List.setIfInBounds_toArray, List.set_cons_zero, List.set_cons_succ]
        refine wpAnyH_take (i := 32) (v := ?_) rfl (by kernel_rfl) (by kernel_rfl) (by kernel_rfl) (fun _ _ _ h => h) (Or.inl ⟨by rfl, ?_⟩) (by assumption) ?_
        rotate_left
        · intro w hSw
          (try dsimp only at hSw)
          go_simp
          all_goals with_reducible rfl
        try simp only [Act.put, List.getElem_toArray, List.getElem_cons_succ, List.getElem_cons_zero, List.setIfInBounds_toArray, List.set_cons_zero, List.set_cons_succ]
        refine wpAnyH_take (i := 33) (v := ?_) rfl (by kernel_rfl) (by kernel_rfl) (by kernel_rfl) (fun _ _ _ h => h) (Or.inl ⟨by rfl, ?_⟩) (by assumption) ?_
        rotate_left
        · intro w hSw
          (try dsimp only at hSw)
          go_simp
          all_goals with_reducible rfl
        try simp only [Act.put, List.getElem_toArray, List.getElem_cons_succ, List.getElem_cons_zero, List.setIfInBounds_toArray, List.set_cons_zero, List.set_cons_succ]
        refine wpAnyH_take (i := 34) (v := ?_) rfl (by kernel_rfl) (by kernel_rfl) (by kernel_rfl) (fun _ _ _ h => h) (Or.inl ⟨by rfl, ?_⟩) (by assumption) ?_
        rotate_left
        · intro w hSw
          (try dsimp only at hSw)
          go_simp
          all_goals with_reducible rfl
        try simp only [Act.put, List.getElem_toArray, List.getElem_cons_succ, List.getElem_cons_zero, List.setIfInBounds_toArray, List.set_cons_zero, List.set_cons_succ]
        refine wpAnyH_ready (rs := [24]) (by kernel_rfl) (by simp) ?_
        refine AllReadyH.cons rfl (fun K hK => ?_) AllReadyH.nil
        refine step_append_any_g (by rfl) (.const (.slice none 0 0)) (.tmp 107) 29 (by rfl) W4.heap.size 5 u0 (.int .u8 0) 1 Try.underlying29 HI.out HZ0.out HZ1.out HZ2.out (by rfl) _ 0 [] (by rfl) (World.ownsRow_nil _ _ _ _) AB nb cb (bs.map u8v) (by rfl) (RB.out.below HT4.out.p.has.below) (u8v_one _) (by unfold maxLen; omega) (by omega) (Nat.le_refl _) ?_
        intro A5 c5 W5 ho5 hg5 _
        simp only [Nat.zero_add, List.nil_append] at ho5 ⊢
        have HB5 := Lib.hid (show Below W4.heap.size W4 W5 from (Below.refl W4.heap.size W4).grown hg5 (Nat.le_refl _) (by intro k hk; cases hk))
        have HO5 := Lib.hid ho5
        have HT5 := Lib.hid (HT4.out.later HB5.out)
        have HX5 := Lib.hid (HX4.out.below HB5.out HX4.out.lt)
        have HS5 := Lib.hid (show W5.cell? ⟨xb, 0, none⟩ = some (.int .i64 s) ∧ W5.cell? ⟨xb, 1, none⟩ = some (.int .i64 v) ∧ W5.cell? ⟨xb, 3, none⟩ = some (.slice AB nb cb) from ⟨HX5.out.cell 0, HX5.out.cell 1, HX5.out.cell 3⟩)
        have hap5 : Apart [fb, bb, wb] A5 := own_apart ho5 (by
          intro q hq
          obtain ⟨l1, l2, l3, l4, _⟩ := HT4.out.lt
          simp at hq
          omega)
        have HA5 := Lib.hid hap5
        clear ho5 hg5 hap5
        refine hK.out _ _ ?_ (fun hHeld => ?_)
        · (try dsimp only)
          first | exact HS7.out | exact HS6.out | exact HS5.out | exact HS4.out | exact HS3.out
        clear hK K
        try simp only [Act.put, List.getElem_toArray, List.getElem_cons_succ, List.getElem_cons_zero, List.setIfInBounds_toArray, List.set_cons_zero, List.set_cons_succ]
        refine wpAnyH_ready (rs := [25]) (by kernel_rfl) (by simp) ?_
        refine AllReadyH.cons rfl (fun K hK => ?_) AllReadyH.nil
        go_simp
        refine (two_z_swrite s v S x A5 nb c5 bs HBL.out.symm HX.out E HE.out HF3.out (Reads.of_own HO5.out) HA5.out HT5.out).mono ?_; rintro e W6 ⟨rfl, h6, ho6⟩; have HT6 := Lib.hid h6; have HX6 := Lib.hid (HX5.out.only ho6 X1.out); have HS6 := Lib.hid (show W6.cell? ⟨xb, 0, none⟩ = some (.int .i64 s) ∧ W6.cell? ⟨xb, 1, none⟩ = some (.int .i64 v) ∧ W6.cell? ⟨xb, 3, none⟩ = some (.slice AB nb cb) from ⟨HX6.out.cell 0, HX6.out.cell 1, HX6.out.cell 3⟩); clear h6 ho6
        go_wp2_with fail
        refine hK.out _ _ ?_ (fun hHeld => ?_)
        · (try dsimp only)
          first | exact HS7.out | exact HS6.out | exact HS5.out | exact HS4.out | exact HS3.out
        clear hK K
        try simp only [Act.put, List.getElem_toArray, List.getElem_cons_succ, List.getElem_cons_zero, List.setIfInBounds_toArray, List.set_cons_zero, List.set_cons_succ]
        refine wpAnyH_ready (rs := [26]) (by kernel_rfl) (by simp) ?_
        refine AllReadyH.cons rfl (fun K hK => ?_) AllReadyH.nil
        go_simp
        refine (num19_c _ _).mono ?_; rintro e w' ⟨rfl, rfl⟩
        go_wp2_with fail
        refine hK.out _ _ ?_ (fun hHeld => ?_)
        · (try dsimp only)
          first | exact HS7.out | exact HS6.out | exact HS5.out | exact HS4.out | exact HS3.out
        clear hK K
        try simp only [Act.put, List.getElem_toArray, List.getElem_cons_succ, List.getElem_cons_zero, List.setIfInBounds_toArray, List.set_cons_zero, List.set_cons_succ]
        refine wpAnyH_ready (rs := [35]) (by kernel_rfl) (by simp) ?_
        refine AllReadyH.cons rfl (fun K hK => ?_) AllReadyH.nil
        go_simp
        refine (two_z_rswrite s v S x AB nb cb bs HBL.out.symm HX.out E K3 HE'.out HK3.out (RB.out.below HT6.out.p.has.below) HA2.out HT6.out).mono ?_; rintro e W7 ⟨rfl, G3, hg3, hgf3, h7, ho7⟩; have HT7 := Lib.hid h7; have HG3 := Lib.hid hg3; have HGF3 := Lib.hid hgf3; have HX7 := Lib.hid (HX6.out.only ho7 X2.out); have HS7 := Lib.hid (show W7.cell? ⟨xb, 0, none⟩ = some (.int .i64 s) ∧ W7.cell? ⟨xb, 1, none⟩ = some (.int .i64 v) ∧ W7.cell? ⟨xb, 3, none⟩ = some (.slice AB nb cb) from ⟨HX7.out.cell 0, HX7.out.cell 1, HX7.out.cell 3⟩); clear h7 ho7 hg3 hgf3
        go_wp2_with fail
        refine hK.out _ _ ?_ (fun hHeld => ?_)
        · (try dsimp only)
          first | exact HS7.out | exact HS6.out | exact HS5.out | exact HS4.out | exact HS3.out
        clear hK K
        try simp only [Act.put, List.getElem_toArray, List.getElem_cons_succ, List.getElem_cons_zero, List.setIfInBounds_toArray, List.set_cons_zero, List.set_cons_succ]
        refine wpAnyH_take (i := 36) (v := ?_) rfl (by kernel_rfl) (by kernel_rfl) (by kernel_rfl) (fun _ _ _ h => h) (Or.inl ⟨by rfl, ?_⟩) (by assumption) ?_
        rotate_left
        · intro w hSw
          (try dsimp only at hSw)
          go_simp
          all_goals with_reducible rfl
        try simp only [Act.put, List.getElem_toArray, List.getElem_cons_succ, List.getElem_cons_zero, List.setIfInBounds_toArray, List.set_cons_zero, List.set_cons_succ]
        refine wpAnyH_take (i := 37) (v := ?_) rfl (by kernel_rfl) (by kernel_rfl) (by kernel_rfl) (fun _ _ _ h => h) (Or.inl ⟨by rfl, ?_⟩) (by assumption) ?_
        rotate_left
        · intro w hSw
          (try dsimp only at hSw)
          go_simp
          all_goals with_reducible rfl
        try simp only [Act.put, List.getElem_toArray, List.getElem_cons_succ, List.getElem_cons_zero, List.setIfInBounds_toArray, List.set_cons_zero, List.set_cons_succ]
        refine wpAnyH_take (i := 38) (v := ?_) rfl (by kernel_rfl) (by kernel_rfl) (by kernel_rfl) (fun _ _ _ h => h) (Or.inl ⟨by rfl, ?_⟩) (by assumption) ?_
        rotate_left
        · intro w hSw
          (try dsimp only at hSw)
          go_simp
          all_goals with_reducible rfl
        try simp only [Act.put, List.getElem_toArray, List.getElem_cons_succ, List.getElem_cons_zero, List.setIfInBounds_toArray, List.set_cons_zero, List.set_cons_succ]
        refine wpAnyH_take (i := 39) (v := ?_) rfl (by kernel_rfl) (by kernel_rfl) (by kernel_rfl) (fun _ _ _ h => h) (Or.inl ⟨by rfl, ?_⟩) (by assumption) ?_
        rotate_left
        · intro w hSw
          (try dsimp only at hSw)
          go_simp
          all_goals with_reducible rfl
        try simp only [Act.put, List.getElem_toArray, List.getElem_cons_succ, List.getElem_cons_zero, List.setIfInBounds_toArray, List.set_cons_zero, List.set_cons_succ]
        refine wpAnyH_take (i := 40) (v := ?_) rfl (by kernel_rfl) (by kernel_rfl) (by kernel_rfl) (fun _ _ _ h => h) (Or.inl ⟨by rfl, ?_⟩) (by assumption) ?_
        rotate_left
        · intro w hSw
          (try dsimp only at hSw)
          go_simp
          all_goals with_reducible rfl
        try simp only [Act.put, List.getElem_toArray, List.getElem_cons_succ, List.getElem_cons_zero, List.setIfInBounds_toArray, List.set_cons_zero, List.set_cons_succ]
        refine wpAnyH_take (i := 41) (v := ?_) rfl (by kernel_rfl) (by kernel_rfl) (by kernel_rfl) (fun _ _ _ h => h) (Or.inl ⟨by rfl, ?_⟩) (by assumption) ?_
        rotate_left
        · intro w hSw
          (try dsimp only at hSw)
          go_simp
          all_goals with_reducible rfl
        try simp only [Act.put, List.getElem_toArray, List.getElem_cons_succ, List.getElem_cons_zero, List.setIfInBounds_toArray, List.set_cons_zero, List.set_cons_succ]
        refine wpAnyH_take (i := 42) (v := ?_) rfl (by kernel_rfl) (by kernel_rfl) (by kernel_rfl) (fun _ _ _ h => h) (Or.inl ⟨by rfl, ?_⟩) (by assumption) ?_
        rotate_left
        · intro w hSw
          (try dsimp only at hSw)
          go_simp
          all_goals with_reducible rfl
        try simp only [Act.put, List.getElem_toArray, List.getElem_cons_succ, List.getElem_cons_zero, List.setIfInBounds_toArray, List.set_cons_zero, List.set_cons_succ]
        refine wpAnyH_take (i := 43) (v := ?_) rfl (by kernel_rfl) (by kernel_rfl) (by kernel_rfl) (fun _ _ _ h => h) (Or.inl ⟨by rfl, ?_⟩) (by assumption) ?_
        rotate_left
        · intro w hSw
          (try dsimp only at hSw)
          go_simp
          all_goals with_reducible rfl
        try simp only [Act.put, List.getElem_toArray, List.getElem_cons_succ, List.getElem_cons_zero, List.setIfInBounds_toArray, List.set_cons_zero, List.set_cons_succ]
        refine wpAnyH_take (i := 45) (v := ?_) rfl (by kernel_rfl) (by kernel_rfl) (by kernel_rfl) (fun _ _ _ h => h) (Or.inl ⟨by rfl, ?_⟩) (by assumption) ?_
        rotate_left
        · intro w hSw
          (try dsimp only at hSw)
          go_simp
          all_goals with_reducible rfl
        try simp only [Act.put, List.getElem_toArray, List.getElem_cons_succ, List.getElem_cons_zero, List.setIfInBounds_toArray, List.set_cons_zero, List.set_cons_succ]
        refine wpAnyH_take (i := 46) (v := ?_) rfl (by kernel_rfl) (by kernel_rfl) (by kernel_rfl) (fun _ _ _ h => h) (Or.inl ⟨by rfl, ?_⟩) (by assumption) ?_
        rotate_left
        · intro w hSw
          (try dsimp only at hSw)
          go_simp
          all_goals with_reducible rfl
        try simp only [Act.put, List.getElem_toArray, List.getElem_cons_succ, List.getElem_cons_zero, List.setIfInBounds_toArray, List.set_cons_zero, List.set_cons_succ]
        refine wpAnyH_take (i := 47) (v := ?_) rfl (by kernel_rfl) (by kernel_rfl) (by kernel_rfl) (fun _ _ _ h => h) (Or.inl ⟨by rfl, ?_⟩) (by assumption) ?_
        rotate_left
        · intro w hSw
          (try dsimp only at hSw)
          go_simp
          all_goals with_reducible rfl
        try simp only [Act.put, List.getElem_toArray, List.getElem_cons_succ, List.getElem_cons_zero, List.setIfInBounds_toArray, List.set_cons_zero, List.set_cons_succ]
        refine wpAnyH_take (i := 48) (v := ?_) rfl (by kernel_rfl) (by kernel_rfl) (by kernel_rfl) (fun _ _ _ h => h) (Or.inl ⟨by rfl, ?_⟩) (by assumption) ?_
        rotate_left
        · intro w hSw
          (try dsimp only at hSw)
          go_simp
          all_goals with_reducible rfl
        try simp only [Act.put, List.getElem_toArray, List.getElem_cons_succ, List.getElem_cons_zero, List.setIfInBounds_toArray, List.set_cons_zero, List.set_cons_succ]
        refine wpAnyH_take (i := 49) (v := ?_) rfl (by kernel_rfl) (by kernel_rfl) (by kernel_rfl) (fun _ _ _ h => h) (Or.inl ⟨by rfl, ?_⟩) (by assumption) ?_
        rotate_left
        · intro w hSw
          (try dsimp only at hSw)
          go_simp
          all_goals with_reducible rfl
        try simp only [Act.put, List.getElem_toArray, List.getElem_cons_succ, List.getElem_cons_zero, List.setIfInBounds_toArray, List.set_cons_zero, List.set_cons_succ]
        refine wpAnyH_ready (rs := [44]) (by kernel_rfl) (by simp) ?_
        refine AllReadyH.cons rfl (fun K hK => ?_) AllReadyH.nil
        go_simp
        refine (from_c s v S _).mono ?_; (rw [HX.out]); rintro e w' ⟨rfl, rfl⟩
        go_wp2_with fail
        refine hK.out _ _ ?_ (fun hHeld => ?_)
        · (try dsimp only)
          first | exact HS7.out | exact HS6.out | exact HS5.out | exact HS4.out | exact HS3.out
        clear hK K
        try simp only [Act.put, List.getElem_toArray, List.getElem_cons_succ, List.getElem_cons_zero, List.setIfInBounds_toArray, List.set_cons_zero, List.set_cons_succ]
        refine wpAnyH_ready (rs := [50]) (by kernel_rfl) (by simp) ?_
        refine AllReadyH.cons rfl (fun K hK => ?_) AllReadyH.nil
        go_simp
        refine (rfrom_c s v S _).mono ?_; (rw [HX.out]); rintro e w' ⟨rfl, rfl⟩
        go_wp2_with fail
        refine hK.out _ _ ?_ (fun hHeld => ?_)
        · (try dsimp only)
          first | exact HS7.out | exact HS6.out | exact HS5.out | exact HS4.out | exact HS3.out
        clear hK K
        try simp only [Act.put, List.getElem_toArray, List.getElem_cons_succ, List.getElem_cons_zero, List.setIfInBounds_toArray, List.set_cons_zero, List.set_cons_succ]
        refine wpAnyH_take (i := 51) (v := ?_) rfl (by kernel_rfl) (by kernel_rfl) (by kernel_rfl) (fun _ _ _ h => h) (Or.inl ⟨by rfl, ?_⟩) (by assumption) ?_
        rotate_left
        · intro w hSw
          (try dsimp only at hSw)
          go_simp
          all_goals with_reducible rfl
        try simp only [Act.put, List.getElem_toArray, List.getElem_cons_succ, List.getElem_cons_zero, List.setIfInBounds_toArray, List.set_cons_zero, List.set_cons_succ]
        refine wpAnyH_take (i := 52) (v := ?_) rfl (by kernel_rfl) (by kernel_rfl) (by kernel_rfl) (fun _ _ _ h => h) (Or.inl ⟨by rfl, ?_⟩) (by assumption) ?_
        rotate_left
        · intro w hSw
          (try dsimp only at hSw)
          go_simp
          all_goals with_reducible rfl
        try simp only [Act.put, List.getElem_toArray, List.getElem_cons_succ, List.getElem_cons_zero, List.setIfInBounds_toArray, List.set_cons_zero, List.set_cons_succ]
        refine wpAnyH_done (by kernel_rfl) ?_ _
        try simp only [Act.put, List.getElem_toArray, List.getElem_cons_succ, List.getElem_cons_zero, List.setIfInBounds_toArray, List.set_cons_zero, List.set_cons_succ]
        have hB3 : PsAt n (3 * k + 1 + 1) [rfb, rbb, rwb] [fb, bb, wb] F3 G3 := HF3.out ▸ ps_chunk R HB2.out (by omega) x bs (HG3.out.trans HK3.out.symm) HGF3.out
        have HB3 := Lib.hid hB3
        clear hB3 HB2 HE HE' HF3 HK3 HM HM' HT2 HT3 HT4 HT5 HT6 HX2 HX3 HX4 HX5 HX6 HS3 HS4 HS5 HS6 HS7 HO5 HB5 HA5 HG3 HGF3 HA2 hcells
        go_wp2_with fail
        refine (two_z_power HT7.out).mono ?_
        rintro e W8 ⟨rfl, h8, ho8⟩
        have HT8 := Lib.hid h8
        have HX8 := Lib.hid (HX7.out.only ho8 X1.out)
        clear h8 ho8 HT7 HX7
        go_wp2_with fail
        refine (two_z_rpower HT8.out).mono ?_
        rintro e W9 ⟨rfl, G4, hg4, hgf4, h9, ho9⟩
        have HX9 := Lib.hid (HX8.out.only ho9 X2.out)
        have hB4 := ps_power HB3.out hg4 hgf4
        obtain ⟨F4, hF4⟩ : ∃ F4, F3.power = F4 := ⟨_, rfl⟩
        rw [hF4] at hB4 h9
        have HT9 := Lib.hid h9
        obtain ⟨Y, hY⟩ : ∃ Y, R.image F4 s S z = Y := ⟨_, rfl⟩
        have hY' : R.image G4.fl s S z = Y := by rw [← R.like_image hB4.like]; exact hY
        have hYl := R.image_len F4 s S z
        rw [hY] at hYl
        have c9 : W9.cell? ⟨xb, 0, none⟩ = some (.int .i64 s) := HX9.out.cell 0
        have HB4 := Lib.hid (show PsAt n (3 * (k + 1)) [rfb, rbb, rwb] [fb, bb, wb] F4 G4 from by rw [show 3 * (k + 1) = 3 * k + 1 + 1 + 1 by omega]; exact hB4)
        have HY := Lib.hid hY
        have HY' := Lib.hid hY'
        clear hB4 h9 ho9 hg4 hgf4 hF4 hY hY' HT8 HX8 HB3
        go_wp2_with fail
        refine (rreadslot_h s S z Y HY'.out HT9.out.r).mono ?_
        rintro e W10 ⟨A10, c10, rfl, ho10, -, hb10⟩
        obtain ⟨D, hD⟩ : ∃ D : ByteArray, (⟨Y.toArray⟩ : ByteArray) = D := ⟨_, rfl⟩
        obtain ⟨Eb, hEb⟩ : ∃ Eb : ByteArray, D = Eb := ⟨_, rfl⟩
        have hDE : (Eb.toList == D.toList) = true := by rw [← hEb]; exact beq_self_eq_true _
        have hcv0 : ∀ (W : World) (A : Option Addr) (c : Nat), Reads W A Y.length (Y.map u8v) → (convert 29 9 (.slice A Y.length c)).run Try.prog W = .ok (.string Eb) W := fun W A c h => hEb ▸ hD ▸ strAny W A _ c Y h
        have HRD := Lib.hid (show ∀ W, Below W10.heap.size W10 W → Reads W A10 Y.length (Y.map u8v) from fun W hW => (Reads.of_own ho10).below hW)
        have HC := Lib.hid (show ∀ W, Below W10.heap.size W10 W → (convert 29 9 (.slice A10 Y.length c10)).run Try.prog W = .ok (.string D) W from fun W hW => hEb.symm ▸ hcv0 W _ _ (HRD.out W hW))
        have HCV := Lib.hid hcv0
        obtain ⟨d, hd⟩ : ∃ d, sha Y = d := ⟨_, rfl⟩
        have hdl : d.length = 32 := by rw [← hd]; exact sha_len _
        have hs1 : ∀ W, HasA w W ab fb bb wb R F4 → Calls Try.prog 52 #[ptr ab, .int .i64 s, .int .i64 S, .int .i64 z] W fun e w' => e = .returned (.agg (d.map u8v).toArray) ∧ Below W.heap.size W w' := fun W h => sdigest_h s S z hzb d (by rw [HY.out]; exact hd) h
        have hs2 : ∀ W, Reads W A10 Y.length (Y.map u8v) → Calls Try.prog 18 #[.slice A10 Y.length c10] W fun e w' => e = .returned (.agg (d.map u8v).toArray) ∧ Below W.heap.size W w' := fun W h => hd ▸ rsha_d W A10 _ c10 Y rfl h (by omega)
        have he := fun W => neq32 d d hdl hdl W
        rw [show (!(d == d)) = false by simp] at he
        have HS1 := Lib.hid hs1
        have HS2 := Lib.hid hs2
        have hx10 := HX9.out.below hb10 HX9.out.lt
        have HTd := Lib.hid ((HT9.out.later hb10).drewN 1)
        have HXd := Lib.hid (show Blk W10.drew xb 71 #[.int .i64 s, .int .i64 v, .int .i64 cn, .slice AB nb cb, .slice AM nm cm, .bool false] from hx10)
        have HLd := Lib.hid ((Below.refl W10.heap.size W10).drew)
        have hs10 := And.intro (HXd.out.cell 0) (HC.out W10.drew HLd.out)
        clear hD hEb hcv0 hd hs1 hs2 ho10 hb10 hx10 HT9 HX9 c9
        go_upto_region 22 with fail
        refine wp_region_held_drew (S := (fun W => W.cell? ⟨xb, 0, none⟩ = some (.int .i64 s) ∧ (convert 29 9 (.slice A10 Y.length c10)).run Try.prog W = .ok (.string D) W)) (by kernel_rfl) ?_ (fun hHeld => ?_)
        · exact hs10
        refine wpAnyH_take (i := 0) (v := ?_) rfl (by kernel_rfl) (by kernel_rfl) (by kernel_rfl) (fun _ _ _ h => h) (Or.inl ⟨by rfl, ?_⟩) (by assumption) ?_
        rotate_left
        · intro w hSw
          (try dsimp only at hSw)
          go_simp
          all_goals with_reducible rfl
        try simp only [Act.put, List.getElem_toArray, List.getElem_cons_succ, List.getElem_cons_zero, List.setIfInBounds_toArray, List.set_cons_zero, List.set_cons_succ]
        refine wpAnyH_take (i := 1) (v := ?_) rfl (by kernel_rfl) (by kernel_rfl) (by kernel_rfl) (fun _ _ _ h => h) (Or.inl ⟨by rfl, ?_⟩) (by assumption) ?_
        rotate_left
        · intro w hSw
          (try dsimp only at hSw)
          go_simp
          all_goals with_reducible rfl
        try simp only [Act.put, List.getElem_toArray, List.getElem_cons_succ, List.getElem_cons_zero, List.setIfInBounds_toArray, List.set_cons_zero, List.set_cons_succ]
        refine wpAnyH_take (i := 2) (v := ?_) rfl (by kernel_rfl) (by kernel_rfl) (by kernel_rfl) (fun _ _ _ h => h) (Or.inl ⟨by rfl, ?_⟩) (by assumption) ?_
        rotate_left
        · intro w hSw
          (try dsimp only at hSw)
          go_simp
          all_goals with_reducible rfl
        try simp only [Act.put, List.getElem_toArray, List.getElem_cons_succ, List.getElem_cons_zero, List.setIfInBounds_toArray, List.set_cons_zero, List.set_cons_succ]
        refine wpAnyH_take (i := 3) (v := ?_) rfl (by kernel_rfl) (by kernel_rfl) (by kernel_rfl) (fun _ _ _ h => h) (Or.inl ⟨by rfl, ?_⟩) (by assumption) ?_
        rotate_left
        · intro w hSw
          (try dsimp only at hSw)
          go_simp
          all_goals with_reducible rfl
        try simp only [Act.put, List.getElem_toArray, List.getElem_cons_succ, List.getElem_cons_zero, List.setIfInBounds_toArray, List.set_cons_zero, List.set_cons_succ]
        refine wpAnyH_take (i := 4) (v := ?_) rfl (by kernel_rfl) (by kernel_rfl) (by kernel_rfl) (fun _ _ _ h => h) (Or.inl ⟨by rfl, ?_⟩) (by assumption) ?_
        rotate_left
        · intro w hSw
          (try dsimp only at hSw)
          go_simp
          all_goals with_reducible rfl
        try simp only [Act.put, List.getElem_toArray, List.getElem_cons_succ, List.getElem_cons_zero, List.setIfInBounds_toArray, List.set_cons_zero, List.set_cons_succ]
        refine wpAnyH_take (i := 7) (v := ?_) rfl (by kernel_rfl) (by kernel_rfl) (by kernel_rfl) (fun _ _ _ h => h) (Or.inl ⟨by rfl, ?_⟩) (by assumption) ?_
        rotate_left
        · intro w hSw
          (try dsimp only at hSw)
          go_simp
          all_goals with_reducible rfl
        try simp only [Act.put, List.getElem_toArray, List.getElem_cons_succ, List.getElem_cons_zero, List.setIfInBounds_toArray, List.set_cons_zero, List.set_cons_succ]
        refine wpAnyH_take (i := 8) (v := ?_) rfl (by kernel_rfl) (by kernel_rfl) (by kernel_rfl) (fun _ _ _ h => h) (Or.inl ⟨by rfl, ?_⟩) (by assumption) ?_
        rotate_left
        · intro w hSw
          (try dsimp only at hSw)
          go_simp
          all_goals with_reducible rfl
        try simp only [Act.put, List.getElem_toArray, List.getElem_cons_succ, List.getElem_cons_zero, List.setIfInBounds_toArray, List.set_cons_zero, List.set_cons_succ]
        refine wpAnyH_ready (rs := [5]) (by kernel_rfl) (by simp) ?_
        refine AllReadyH.cons rfl (fun K hK => ?_) AllReadyH.nil
        go_simp
        refine (image_h s S z hzb Y HY.out HTd.out.p).mono ?_; rintro e W11 ⟨A11, c11, rfl, ho11, -, hb11⟩; have HT11 := Lib.hid (HTd.out.later hb11); have HX11 := Lib.hid (HXd.out.below hb11 HXd.out.lt); have HL11 := Lib.hid (HLd.out.trans (hb11.mono HLd.out.size)); have hk11 := HCV.out W11 A11 c11 (Reads.of_own ho11); have hs11 := And.intro (HX11.out.cell 0) (HC.out W11 HL11.out); clear ho11 hb11
        go_wp2_with fail
        refine hK.out _ _ ?_ (fun hHeld => ?_)
        · (try dsimp only)
          first | exact hs13 | exact hs12 | exact hs11
        clear hK K
        try simp only [Act.put, List.getElem_toArray, List.getElem_cons_succ, List.getElem_cons_zero, List.setIfInBounds_toArray, List.set_cons_zero, List.set_cons_succ]
        refine wpAnyH_ready (rs := [6]) (by kernel_rfl) (by simp) ?_
        refine AllReadyH.cons rfl (fun K hK => ?_) AllReadyH.nil
        go_simp
        refine hK.out _ _ ?_ (fun hHeld => ?_)
        · (try dsimp only)
          first | exact hs13 | exact hs12 | exact hs11
        clear hK K
        try simp only [Act.put, List.getElem_toArray, List.getElem_cons_succ, List.getElem_cons_zero, List.setIfInBounds_toArray, List.set_cons_zero, List.set_cons_succ]
        refine wpAnyH_take (i := 9) (v := ?_) rfl (by kernel_rfl) (by kernel_rfl) (by kernel_rfl) (fun _ _ _ h => h) (Or.inl ⟨by rfl, ?_⟩) (by assumption) ?_
        rotate_left
        · intro w hSw
          (try dsimp only at hSw)
          go_simp
          all_goals with_reducible rfl
        try simp only [Act.put, List.getElem_toArray, List.getElem_cons_succ, List.getElem_cons_zero, List.setIfInBounds_toArray, List.set_cons_zero, List.set_cons_succ]
        refine wpAnyH_take (i := 10) (v := ?_) rfl (by kernel_rfl) (by kernel_rfl) (by kernel_rfl) (fun _ _ _ h => h) (Or.inl ⟨by rfl, ?_⟩) (by assumption) ?_
        rotate_left
        · intro w hSw
          (try dsimp only at hSw)
          go_simp
          all_goals with_reducible rfl
        try simp only [Act.put, List.getElem_toArray, List.getElem_cons_succ, List.getElem_cons_zero, List.setIfInBounds_toArray, List.set_cons_zero, List.set_cons_succ]
        refine wpAnyH_take (i := 11) (v := ?_) rfl (by kernel_rfl) (by kernel_rfl) (by kernel_rfl) (fun _ _ _ h => h) (Or.inl ⟨by rfl, ?_⟩) (by assumption) ?_
        rotate_left
        · intro w hSw
          (try dsimp only at hSw)
          go_simp
          all_goals with_reducible rfl
        try simp only [Act.put, List.getElem_toArray, List.getElem_cons_succ, List.getElem_cons_zero, List.setIfInBounds_toArray, List.set_cons_zero, List.set_cons_succ]
        refine wpAnyH_take (i := 12) (v := ?_) rfl (by kernel_rfl) (by kernel_rfl) (by kernel_rfl) (fun _ _ _ h => h) (Or.inl ⟨by rfl, ?_⟩) (by assumption) ?_
        rotate_left
        · intro w hSw
          (try dsimp only at hSw)
          go_simp
          all_goals with_reducible rfl
        try simp only [Act.put, List.getElem_toArray, List.getElem_cons_succ, List.getElem_cons_zero, List.setIfInBounds_toArray, List.set_cons_zero, List.set_cons_succ]
        refine wpAnyH_take (i := 13) (v := ?_) rfl (by kernel_rfl) (by kernel_rfl) (by kernel_rfl) (fun _ _ _ h => h) (Or.inl ⟨by rfl, ?_⟩) (by assumption) ?_
        rotate_left
        · intro w hSw
          (try dsimp only at hSw)
          go_simp
          all_goals with_reducible rfl
        try simp only [Act.put, List.getElem_toArray, List.getElem_cons_succ, List.getElem_cons_zero, List.setIfInBounds_toArray, List.set_cons_zero, List.set_cons_succ]
        refine wpAnyH_take (i := 14) (v := ?_) rfl (by kernel_rfl) (by kernel_rfl) (by kernel_rfl) (fun _ _ _ h => h) (Or.inl ⟨by rfl, ?_⟩) (by assumption) ?_
        rotate_left
        · intro w hSw
          (try dsimp only at hSw)
          go_simp
          all_goals with_reducible rfl
        try simp only [Act.put, List.getElem_toArray, List.getElem_cons_succ, List.getElem_cons_zero, List.setIfInBounds_toArray, List.set_cons_zero, List.set_cons_succ]
        refine wpAnyH_take (i := 15) (v := ?_) rfl (by kernel_rfl) (by kernel_rfl) (by kernel_rfl) (fun _ _ _ h => h) (Or.inl ⟨by rfl, ?_⟩) (by assumption) ?_
        rotate_left
        · intro w hSw
          (try dsimp only at hSw)
          go_simp
          all_goals with_reducible rfl
        try simp only [Act.put, List.getElem_toArray, List.getElem_cons_succ, List.getElem_cons_zero, List.setIfInBounds_toArray, List.set_cons_zero, List.set_cons_succ]
        refine wpAnyH_take (i := 17) (v := ?_) rfl (by kernel_rfl) (by kernel_rfl) (by kernel_rfl) (fun _ _ _ h => h) (Or.inl ⟨by rfl, ?_⟩) (by assumption) ?_
        rotate_left
        · intro w hSw
          (try dsimp only at hSw)
          go_simp
          all_goals with_reducible rfl
        try simp only [Act.put, List.getElem_toArray, List.getElem_cons_succ, List.getElem_cons_zero, List.setIfInBounds_toArray, List.set_cons_zero, List.set_cons_succ]
        refine wpAnyH_ready (rs := [16]) (by kernel_rfl) (by simp) ?_
        refine AllReadyH.cons rfl (fun K hK => ?_) AllReadyH.nil
        go_simp
        refine (HS1.out _ HT11.out.p).mono ?_; rintro e W12 ⟨rfl, hb12⟩; have HT12 := Lib.hid (HT11.out.later hb12); have HX12 := Lib.hid (HX11.out.below hb12 HX11.out.lt); have HL12 := Lib.hid (HL11.out.trans (hb12.mono HL11.out.size)); have hs12 := And.intro (HX12.out.cell 0) (HC.out W12 HL12.out); clear hb12
        go_wp2_with fail
        refine hK.out _ _ ?_ (fun hHeld => ?_)
        · (try dsimp only)
          first | exact hs13 | exact hs12 | exact hs11
        clear hK K
        try simp only [Act.put, List.getElem_toArray, List.getElem_cons_succ, List.getElem_cons_zero, List.setIfInBounds_toArray, List.set_cons_zero, List.set_cons_succ]
        refine wpAnyH_ready (rs := [18]) (by kernel_rfl) (by simp) ?_
        refine AllReadyH.cons rfl (fun K hK => ?_) AllReadyH.nil
        go_simp
        refine (HS2.out _ (HRD.out _ HL12.out)).mono ?_; rintro e W13 ⟨rfl, hb13⟩; have HT13 := Lib.hid (HT12.out.later hb13); have HX13 := Lib.hid (HX12.out.below hb13 HX12.out.lt); have HL13 := Lib.hid (HL12.out.trans (hb13.mono HL12.out.size)); have hs13 := And.intro (HX13.out.cell 0) (HC.out W13 HL13.out); clear hb13
        go_wp2_with fail
        refine hK.out _ _ ?_ (fun hHeld => ?_)
        · (try dsimp only)
          first | exact hs13 | exact hs12 | exact hs11
        clear hK K
        try simp only [Act.put, List.getElem_toArray, List.getElem_cons_succ, List.getElem_cons_zero, List.setIfInBounds_toArray, List.set_cons_zero, List.set_cons_succ]
        refine wpAnyH_take (i := 19) (v := ?_) rfl (by kernel_rfl) (by kernel_rfl) (by kernel_rfl) (fun _ _ _ h => h) (Or.inl ⟨by rfl, ?_⟩) (by assumption) ?_
        rotate_left
        · intro w hSw
          (try dsimp only at hSw)
          go_simp
          all_goals with_reducible rfl
        try simp only [Act.put, List.getElem_toArray, List.getElem_cons_succ, List.getElem_cons_zero, List.setIfInBounds_toArray, List.set_cons_zero, List.set_cons_succ]
        refine wpAnyH_take (i := 20) (v := ?_) rfl (by kernel_rfl) (by kernel_rfl) (by kernel_rfl) (fun _ _ _ h => h) (Or.inl ⟨by rfl, ?_⟩) (by assumption) ?_
        rotate_left
        · intro w hSw
          (try dsimp only at hSw)
          go_simp
          all_goals with_reducible rfl
        try simp only [Act.put, List.getElem_toArray, List.getElem_cons_succ, List.getElem_cons_zero, List.setIfInBounds_toArray, List.set_cons_zero, List.set_cons_succ]
        refine wpAnyH_done (by kernel_rfl) ?_ _
        try simp only [Act.put, List.getElem_toArray, List.getElem_cons_succ, List.getElem_cons_zero, List.setIfInBounds_toArray, List.set_cons_zero, List.set_cons_succ]
        go_wp2_with fail
        go_roundw
        case rel => exact ⟨k + 1, F4, G4, by omega, by go_num, HB4.out, HT13.out⟩
        case measure => simp [intOf]; omega
      · go_wp2_with fail
        refine (two_z_cut cn hcn.2 AM nm cm ks (by omega) (RM.out.below HT1.out.p.has.below) HB.out.far HT1.out).mono ?_
        rintro e Wa ⟨rfl, h2, ho2⟩
        have hap : 0 < nm → ∀ a, AM = some a → a.block ≠ rfb := fun h0 a ha => by
          obtain ⟨b', o', e, hb, _⟩ := RM.out.2 h0
          rw [ha] at e; cases e
          have := h2.r.fb_
          simp; omega
        have HX2 := Lib.hid (HX.out.only ho2 X1.out)
        have HT2 := Lib.hid h2
        have d2' : Wa.cell? ⟨xb, 2, none⟩ = some (.int .i64 cn) := HX2.out.cell 2
        have d4' : Wa.cell? ⟨xb, 4, none⟩ = some (.slice AM nm cm) := HX2.out.cell 4
        clear h2 ho2 d2 d4
        go_wp2_with fail
        refine (two_z_rcut cn AM nm cm ks (by omega) (RM.out.below HT2.out.p.has.below) hap HB.out.gfar HT2.out).mono ?_
        rintro e Wb ⟨rfl, G2, hg2, hgf2, h3, ho3⟩
        have hB2 := ps_cut HB.out (by omega) cn ks hg2 hgf2
        have hX2 := HX2.out.only ho3 X2.out
        have hT2 := h3
        generalize F.setCut cn ks = F2 at hB2 hT2
        clear h3 ho3 hg2 hgf2 hap d2' d4' HX2 HT2
        have d2 := True.intro
        have d4 := True.intro
        obtain ⟨x, hx⟩ : ∃ x, fromS s v S = x := ⟨_, rfl⟩
        obtain ⟨M, hM⟩ : ∃ M, R.mayC F2 x = M := ⟨_, rfl⟩
        obtain ⟨E, hE⟩ : ∃ E, R.chunkE F2 x bs = E := ⟨_, rfl⟩
        obtain ⟨F3, hF3⟩ : ∃ F3, R.chunk F2 x bs = F3 := ⟨_, rfl⟩
        obtain ⟨K3, hK3⟩ : ∃ K3, R.chunk G2.fl x bs = K3 := ⟨_, rfl⟩
        have hM' : R.mayC G2.fl x = M := by rw [← R.like_mayC hB2.like]; exact hM
        have hE' : R.chunkE G2.fl x bs = E := by rw [← R.like_chunkE hB2.like (by omega)]; exact hE
        have HX := Lib.hid hx
        have HM := Lib.hid hM
        have HM' := Lib.hid hM'
        have HE := Lib.hid hE
        have HE' := Lib.hid hE'
        have HF3 := Lib.hid hF3
        have HK3 := Lib.hid hK3
        have HB2 := Lib.hid hB2
        have HT2 := Lib.hid (hT2.drewN 1)
        have HX2 := Lib.hid (show Blk Wb.drew xb 71 #[.int .i64 s, .int .i64 v, .int .i64 cn, .slice AB nb cb, .slice AM nm cm, .bool true] from hX2)
        have hcells : Wb.drew.cell? ⟨xb, 0, none⟩ = some (.int .i64 s) ∧ Wb.drew.cell? ⟨xb, 1, none⟩ = some (.int .i64 v) ∧ Wb.drew.cell? ⟨xb, 3, none⟩ = some (.slice AB nb cb) := ⟨HX2.out.cell 0, HX2.out.cell 1, HX2.out.cell 3⟩
        have hap2 : 0 < nb → Apart [rfb, rbb, rwb] AB := fun h0 a ha => by
          obtain ⟨b', o', e, hb, _⟩ := RB.out.2 h0
          rw [ha] at e; cases e
          have h1 := hT2.r.fb_
          have h2 := hT2.r.bb_
          have h3 := hT2.r.wb_
          simp only [List.mem_cons, List.not_mem_nil, or_false, not_or]; omega
        have HA2 := Lib.hid hap2
        clear hx hM hM' hE hE' hF3 hK3 hB2 hT2 hX2 hap2 HB HT1 d2 d3 d4 d5
        go_upto_region 17 with fail
        refine wp_region_held_drew (S := (fun W => W.cell? ⟨xb, 0, none⟩ = some (.int .i64 s) ∧ W.cell? ⟨xb, 1, none⟩ = some (.int .i64 v) ∧ W.cell? ⟨xb, 3, none⟩ = some (.slice AB nb cb))) (by kernel_rfl) ?_ (fun hHeld => ?_)
        · exact hcells
        refine wpAnyH_take (i := 0) (v := ?_) rfl (by kernel_rfl) (by kernel_rfl) (by kernel_rfl) (fun _ _ _ h => h) (Or.inl ⟨by rfl, ?_⟩) (by assumption) ?_
        rotate_left
        · intro w hSw
          (try dsimp only at hSw)
          go_simp
          all_goals with_reducible rfl
        try simp only [Act.put, List.getElem_toArray, List.getElem_cons_succ, List.getElem_cons_zero, List.setIfInBounds_toArray, List.set_cons_zero, List.set_cons_succ]
        refine wpAnyH_take (i := 1) (v := ?_) rfl (by kernel_rfl) (by kernel_rfl) (by kernel_rfl) (fun _ _ _ h => h) (Or.inl ⟨by rfl, ?_⟩) (by assumption) ?_
        rotate_left
        · intro w hSw
          (try dsimp only at hSw)
          go_simp
          all_goals with_reducible rfl
        try simp only [Act.put, List.getElem_toArray, List.getElem_cons_succ, List.getElem_cons_zero, List.setIfInBounds_toArray, List.set_cons_zero, List.set_cons_succ]
        refine wpAnyH_take (i := 2) (v := ?_) rfl (by kernel_rfl) (by kernel_rfl) (by kernel_rfl) (fun _ _ _ h => h) (Or.inl ⟨by rfl, ?_⟩) (by assumption) ?_
        rotate_left
        · intro w hSw
          (try dsimp only at hSw)
          go_simp
          all_goals with_reducible rfl
        try simp only [Act.put, List.getElem_toArray, List.getElem_cons_succ, List.getElem_cons_zero, List.setIfInBounds_toArray, List.set_cons_zero, List.set_cons_succ]
        refine wpAnyH_take (i := 3) (v := ?_) rfl (by kernel_rfl) (by kernel_rfl) (by kernel_rfl) (fun _ _ _ h => h) (Or.inl ⟨by rfl, ?_⟩) (by assumption) ?_
        rotate_left
        · intro w hSw
          (try dsimp only at hSw)
          go_simp
          all_goals with_reducible rfl
        try simp only [Act.put, List.getElem_toArray, List.getElem_cons_succ, List.getElem_cons_zero, List.setIfInBounds_toArray, List.set_cons_zero, List.set_cons_succ]
        refine wpAnyH_take (i := 4) (v := ?_) rfl (by kernel_rfl) (by kernel_rfl) (by kernel_rfl) (fun _ _ _ h => h) (Or.inl ⟨by rfl, ?_⟩) (by assumption) ?_
        rotate_left
        · intro w hSw
          (try dsimp only at hSw)
          go_simp
          all_goals with_reducible rfl
        try simp only [Act.put, List.getElem_toArray, List.getElem_cons_succ, List.getElem_cons_zero, List.setIfInBounds_toArray, List.set_cons_zero, List.set_cons_succ]
        refine wpAnyH_take (i := 5) (v := ?_) rfl (by kernel_rfl) (by kernel_rfl) (by kernel_rfl) (fun _ _ _ h => h) (Or.inl ⟨by rfl, ?_⟩) (by assumption) ?_
        rotate_left
        · intro w hSw
          (try dsimp only at hSw)
          go_simp
          all_goals with_reducible rfl
        try simp only [Act.put, List.getElem_toArray, List.getElem_cons_succ, List.getElem_cons_zero, List.setIfInBounds_toArray, List.set_cons_zero, List.set_cons_succ]
        refine wpAnyH_take (i := 7) (v := ?_) rfl (by kernel_rfl) (by kernel_rfl) (by kernel_rfl) (fun _ _ _ h => h) (Or.inl ⟨by rfl, ?_⟩) (by assumption) ?_
        rotate_left
        · intro w hSw
          (try dsimp only at hSw)
          go_simp
          all_goals with_reducible rfl
        try simp only [Act.put, List.getElem_toArray, List.getElem_cons_succ, List.getElem_cons_zero, List.setIfInBounds_toArray, List.set_cons_zero, List.set_cons_succ]
        refine wpAnyH_take (i := 8) (v := ?_) rfl (by kernel_rfl) (by kernel_rfl) (by kernel_rfl) (fun _ _ _ h => h) (Or.inl ⟨by rfl, ?_⟩) (by assumption) ?_
        rotate_left
        · intro w hSw
          (try dsimp only at hSw)
          go_simp
          all_goals with_reducible rfl
        try simp only [Act.put, List.getElem_toArray, List.getElem_cons_succ, List.getElem_cons_zero, List.setIfInBounds_toArray, List.set_cons_zero, List.set_cons_succ]
        refine wpAnyH_take (i := 9) (v := ?_) rfl (by kernel_rfl) (by kernel_rfl) (by kernel_rfl) (fun _ _ _ h => h) (Or.inl ⟨by rfl, ?_⟩) (by assumption) ?_
        rotate_left
        · intro w hSw
          (try dsimp only at hSw)
          go_simp
          all_goals with_reducible rfl
        try simp only [Act.put, List.getElem_toArray, List.getElem_cons_succ, List.getElem_cons_zero, List.setIfInBounds_toArray, List.set_cons_zero, List.set_cons_succ]
        refine wpAnyH_take (i := 10) (v := ?_) rfl (by kernel_rfl) (by kernel_rfl) (by kernel_rfl) (fun _ _ _ h => h) (Or.inl ⟨by rfl, ?_⟩) (by assumption) ?_
        rotate_left
        · intro w hSw
          (try dsimp only at hSw)
          go_simp
          all_goals with_reducible rfl
        try simp only [Act.put, List.getElem_toArray, List.getElem_cons_succ, List.getElem_cons_zero, List.setIfInBounds_toArray, List.set_cons_zero, List.set_cons_succ]
        refine wpAnyH_take (i := 11) (v := ?_) rfl (by kernel_rfl) (by kernel_rfl) (by kernel_rfl) (fun _ _ _ h => h) (Or.inl ⟨by rfl, ?_⟩) (by assumption) ?_
        rotate_left
        · intro w hSw
          (try dsimp only at hSw)
          go_simp
          all_goals with_reducible rfl
        try simp only [Act.put, List.getElem_toArray, List.getElem_cons_succ, List.getElem_cons_zero, List.setIfInBounds_toArray, List.set_cons_zero, List.set_cons_succ]
        refine wpAnyH_take (i := 12) (v := ?_) rfl (by kernel_rfl) (by kernel_rfl) (by kernel_rfl) (fun _ _ _ h => h) (Or.inl ⟨by rfl, ?_⟩) (by assumption) ?_
        rotate_left
        · intro w hSw
          (try dsimp only at hSw)
          go_simp
          all_goals with_reducible rfl
        try simp only [Act.put, List.getElem_toArray, List.getElem_cons_succ, List.getElem_cons_zero, List.setIfInBounds_toArray, List.set_cons_zero, List.set_cons_succ]
        refine wpAnyH_ready (rs := [6]) (by kernel_rfl) (by simp) ?_
        refine AllReadyH.cons rfl (fun K hK => ?_) AllReadyH.nil
        go_simp
        refine (two_z_smay s v S x HX.out M HM.out HT2.out).mono ?_; rintro e W3 ⟨rfl, h3, hb3⟩; have HT3 := Lib.hid h3; have HX3 := Lib.hid (HX2.out.below hb3 HX2.out.lt); have HS3 := Lib.hid (show W3.cell? ⟨xb, 0, none⟩ = some (.int .i64 s) ∧ W3.cell? ⟨xb, 1, none⟩ = some (.int .i64 v) ∧ W3.cell? ⟨xb, 3, none⟩ = some (.slice AB nb cb) from ⟨HX3.out.cell 0, HX3.out.cell 1, HX3.out.cell 3⟩); clear h3 hb3
        go_wp2_with fail
        refine hK.out _ _ ?_ (fun hHeld => ?_)
        · (try dsimp only)
          first | exact HS7.out | exact HS6.out | exact HS5.out | exact HS4.out | exact HS3.out
        clear hK K
        try simp only [Act.put, List.getElem_toArray, List.getElem_cons_succ, List.getElem_cons_zero, List.setIfInBounds_toArray, List.set_cons_zero, List.set_cons_succ]
        refine wpAnyH_ready (rs := [13]) (by kernel_rfl) (by simp) ?_
        refine AllReadyH.cons rfl (fun K hK => ?_) AllReadyH.nil
        go_simp
        refine (two_z_rsmay s v S x HX.out M HM'.out HT3.out).mono ?_; rintro e W4 ⟨rfl, h4, hb4⟩; have HT4 := Lib.hid h4; have HX4 := Lib.hid (HX3.out.below hb4 HX3.out.lt); have HS4 := Lib.hid (show W4.cell? ⟨xb, 0, none⟩ = some (.int .i64 s) ∧ W4.cell? ⟨xb, 1, none⟩ = some (.int .i64 v) ∧ W4.cell? ⟨xb, 3, none⟩ = some (.slice AB nb cb) from ⟨HX4.out.cell 0, HX4.out.cell 1, HX4.out.cell 3⟩); clear h4 hb4
        go_wp2_with fail
        refine hK.out _ _ ?_ (fun hHeld => ?_)
        · (try dsimp only)
          first | exact HS7.out | exact HS6.out | exact HS5.out | exact HS4.out | exact HS3.out
        clear hK K
        try simp only [Act.put, List.getElem_toArray, List.getElem_cons_succ, List.getElem_cons_zero, List.setIfInBounds_toArray, List.set_cons_zero, List.set_cons_succ]
        refine wpAnyH_take (i := 14) (v := ?_) rfl (by kernel_rfl) (by kernel_rfl) (by kernel_rfl) (fun _ _ _ h => h) (Or.inl ⟨by rfl, ?_⟩) (by assumption) ?_
        rotate_left
        · intro w hSw
          (try dsimp only at hSw)
          go_simp
          all_goals with_reducible rfl
        try simp only [Act.put, List.getElem_toArray, List.getElem_cons_succ, List.getElem_cons_zero, List.setIfInBounds_toArray, List.set_cons_zero, List.set_cons_succ]
        refine wpAnyH_take (i := 15) (v := ?_) rfl (by kernel_rfl) (by kernel_rfl) (by kernel_rfl) (fun _ _ _ h => h) (Or.inl ⟨by rfl, ?_⟩) (by assumption) ?_
        rotate_left
        · intro w hSw
          (try dsimp only at hSw)
          go_simp
          all_goals with_reducible rfl
        try simp only [Act.put, List.getElem_toArray, List.getElem_cons_succ, List.getElem_cons_zero, List.setIfInBounds_toArray, List.set_cons_zero, List.set_cons_succ]
        refine wpAnyH_take (i := 16) (v := ?_) rfl (by kernel_rfl) (by kernel_rfl) (by kernel_rfl) (fun _ _ _ h => h) (Or.inl ⟨by rfl, ?_⟩) (by assumption) ?_
        rotate_left
        · intro w hSw
          (try dsimp only at hSw)
          go_simp
          all_goals with_reducible rfl
        try simp only [Act.put, List.getElem_toArray, List.getElem_cons_succ, List.getElem_cons_zero, List.setIfInBounds_toArray, List.set_cons_zero, List.set_cons_succ]
        refine wpAnyH_take (i := 17) (v := ?_) rfl (by kernel_rfl) (by kernel_rfl) (by kernel_rfl) (fun _ _ _ h => h) (Or.inl ⟨by rfl, ?_⟩) (by assumption) ?_
        rotate_left
        · intro w hSw
          (try dsimp only at hSw)
          go_simp
          all_goals with_reducible rfl
        try simp only [Act.put, List.getElem_toArray, List.getElem_cons_succ, List.getElem_cons_zero, List.setIfInBounds_toArray, List.set_cons_zero, List.set_cons_succ]
        refine wpAnyH_take (i := 18) (v := ?_) rfl (by kernel_rfl) (by kernel_rfl) (by kernel_rfl) (fun _ _ _ h => h) (Or.inl ⟨by rfl, ?_⟩) (by assumption) ?_
        rotate_left
        · intro w hSw
          (try dsimp only at hSw)
          go_simp
          all_goals with_reducible rfl
        try simp only [Act.put, List.getElem_toArray, List.getElem_cons_succ, List.getElem_cons_zero, List.setIfInBounds_toArray, List.set_cons_zero, List.set_cons_succ]
        refine wpAnyH_take (i := 19) (v := ?_) rfl (by kernel_rfl) (by kernel_rfl) (by kernel_rfl) (fun _ _ _ h => h) (Or.inl ⟨by rfl, ?_⟩) (by assumption) ?_
        rotate_left
        · intro w hSw
          (try dsimp only at hSw)
          go_simp
          all_goals with_reducible rfl
        try simp only [Act.put, List.getElem_toArray, List.getElem_cons_succ, List.getElem_cons_zero, List.setIfInBounds_toArray, List.set_cons_zero, List.set_cons_succ]
        refine wpAnyH_take (i := 20) (v := ?_) rfl (by kernel_rfl) (by kernel_rfl) (by kernel_rfl) (fun _ _ _ h => h) (Or.inl ⟨by rfl, ?_⟩) (by assumption) ?_
        rotate_left
        · intro w hSw
          (try dsimp only at hSw)
          go_simp
          all_goals with_reducible rfl
        try simp only [Act.put, List.getElem_toArray, List.getElem_cons_succ, List.getElem_cons_zero, List.setIfInBounds_toArray, List.set_cons_zero, List.set_cons_succ]
        refine wpAnyH_take (i := 21) (v := ?_) rfl (by kernel_rfl) (by kernel_rfl) (by kernel_rfl) (fun _ _ _ h => h) (Or.inl ⟨by rfl, ?_⟩) (by assumption) ?_
        rotate_left
        · intro w hSw
          (try dsimp only at hSw)
          go_simp
          all_goals with_reducible rfl
        try simp only [Act.put, List.getElem_toArray, List.getElem_cons_succ, List.getElem_cons_zero, List.setIfInBounds_toArray, List.set_cons_zero, List.set_cons_succ]
        refine wpAnyH_take (i := 22) (v := ?_) rfl (by kernel_rfl) (by kernel_rfl) (by kernel_rfl) (fun _ _ _ h => h) (Or.inl ⟨by rfl, ?_⟩) (by assumption) ?_
        rotate_left
        · intro w hSw
          (try dsimp only at hSw)
          go_simp
          all_goals with_reducible rfl
        try simp only [Act.put, List.getElem_toArray, List.getElem_cons_succ, List.getElem_cons_zero, List.setIfInBounds_toArray, List.set_cons_zero, List.set_cons_succ]
        refine wpAnyH_take (i := 23) (v := ?_) rfl (by kernel_rfl) (by kernel_rfl) (by kernel_rfl) (fun _ _ _ h => h) (Or.inl ⟨by rfl, ?_⟩) (by assumption) ?_
        rotate_left
        · intro w hSw
          (try dsimp only at hSw)
          go_simp
          all_goals with_reducible rfl
        try simp only [Act.put, List.getElem_toArray, List.getElem_cons_succ, List.getElem_cons_zero, List.setIfInBounds_toArray, List.set_cons_zero, List.set_cons_succ]
        refine wpAnyH_take (i := 27) (v := ?_) rfl (by kernel_rfl) (by kernel_rfl) (by kernel_rfl) (fun _ _ _ h => h) (Or.inl ⟨by rfl, ?_⟩) (by assumption) ?_
        rotate_left
        · intro w hSw
          (try dsimp only at hSw)
          go_simp
          all_goals with_reducible rfl
        try simp only [Act.put, List.getElem_toArray, List.getElem_cons_succ, List.getElem_cons_zero, List.setIfInBounds_toArray, List.set_cons_zero, List.set_cons_succ]
        refine wpAnyH_take (i := 28) (v := ?_) rfl (by kernel_rfl) (by kernel_rfl) (by kernel_rfl) (fun _ _ _ h => h) (Or.inl ⟨by rfl, ?_⟩) (by assumption) ?_
        rotate_left
        · intro w hSw
          (try dsimp only at hSw)
          go_simp
          all_goals with_reducible rfl
        try simp only [Act.put, List.getElem_toArray, List.getElem_cons_succ, List.getElem_cons_zero, List.setIfInBounds_toArray, List.set_cons_zero, List.set_cons_succ]
        refine wpAnyH_take (i := 29) (v := ?_) rfl (by kernel_rfl) (by kernel_rfl) (by kernel_rfl) (fun _ _ _ h => h) (Or.inl ⟨by rfl, ?_⟩) (by assumption) ?_
        rotate_left
        · intro w hSw
          (try dsimp only at hSw)
          go_simp
          all_goals with_reducible rfl
        try simp only [Act.put, List.getElem_toArray, List.getElem_cons_succ, List.getElem_cons_zero, List.setIfInBounds_toArray, List.set_cons_zero, List.set_cons_succ]
        refine wpAnyH_take (i := 30) (v := ?_) rfl (by kernel_rfl) (by kernel_rfl) (by kernel_rfl) (fun _ _ _ h => h) (Or.inl ⟨by rfl, ?_⟩) (by assumption) ?_
        rotate_left
        · intro w hSw
          (try dsimp only at hSw)
          go_simp
          all_goals with_reducible rfl
        try simp only [Act.put, List.getElem_toArray, List.getElem_cons_succ, List.getElem_cons_zero, List.setIfInBounds_toArray, List.set_cons_zero, List.set_cons_succ]
        refine wpAnyH_take (i := 31) (v := ?_) rfl (by kernel_rfl) (by kernel_rfl) (by kernel_rfl) (fun _ _ _ h => h) (Or.inl ⟨by rfl, ?_⟩) (by assumption) ?_
        rotate_left
        · intro w hSw
          (try dsimp only at hSw)
          go_simp
          all_goals with_reducible rfl
        try simp only [Act.put, List.getElem_toArray, List.getElem_cons_succ, List.getElem_cons_zero, List.setIfInBounds_toArray, List.set_cons_zero, List.set_cons_succ]
        refine wpAnyH_take (i := 32) (v := ?_) rfl (by kernel_rfl) (by kernel_rfl) (by kernel_rfl) (fun _ _ _ h => h) (Or.inl ⟨by rfl, ?_⟩) (by assumption) ?_
        rotate_left
        · intro w hSw
          (try dsimp only at hSw)
          go_simp
          all_goals with_reducible rfl
        try simp only [Act.put, List.getElem_toArray, List.getElem_cons_succ, List.getElem_cons_zero, List.setIfInBounds_toArray, List.set_cons_zero, List.set_cons_succ]
        refine wpAnyH_take (i := 33) (v := ?_) rfl (by kernel_rfl) (by kernel_rfl) (by kernel_rfl) (fun _ _ _ h => h) (Or.inl ⟨by rfl, ?_⟩) (by assumption) ?_
        rotate_left
        · intro w hSw
          (try dsimp only at hSw)
          go_simp
          all_goals with_reducible rfl
        try simp only [Act.put, List.getElem_toArray, List.getElem_cons_succ, List.getElem_cons_zero, List.setIfInBounds_toArray, List.set_cons_zero, List.set_cons_succ]
        refine wpAnyH_take (i := 34) (v := ?_) rfl (by kernel_rfl) (by kernel_rfl) (by kernel_rfl) (fun _ _ _ h => h) (Or.inl ⟨by rfl, ?_⟩) (by assumption) ?_
        rotate_left
        · intro w hSw
          (try dsimp only at hSw)
          go_simp
          all_goals with_reducible rfl
        try simp only [Act.put, List.getElem_toArray, List.getElem_cons_succ, List.getElem_cons_zero, List.setIfInBounds_toArray, List.set_cons_zero, List.set_cons_succ]
        refine wpAnyH_ready (rs := [24]) (by kernel_rfl) (by simp) ?_
        refine AllReadyH.cons rfl (fun K hK => ?_) AllReadyH.nil
        refine step_append_any_g (by rfl) (.const (.slice none 0 0)) (.tmp 107) 29 (by rfl) W4.heap.size 5 u0 (.int .u8 0) 1 Try.underlying29 HI.out HZ0.out HZ1.out HZ2.out (by rfl) _ 0 [] (by rfl) (World.ownsRow_nil _ _ _ _) AB nb cb (bs.map u8v) (by rfl) (RB.out.below HT4.out.p.has.below) (u8v_one _) (by unfold maxLen; omega) (by omega) (Nat.le_refl _) ?_
        intro A5 c5 W5 ho5 hg5 _
        simp only [Nat.zero_add, List.nil_append] at ho5 ⊢
        have HB5 := Lib.hid (show Below W4.heap.size W4 W5 from (Below.refl W4.heap.size W4).grown hg5 (Nat.le_refl _) (by intro k hk; cases hk))
        have HO5 := Lib.hid ho5
        have HT5 := Lib.hid (HT4.out.later HB5.out)
        have HX5 := Lib.hid (HX4.out.below HB5.out HX4.out.lt)
        have HS5 := Lib.hid (show W5.cell? ⟨xb, 0, none⟩ = some (.int .i64 s) ∧ W5.cell? ⟨xb, 1, none⟩ = some (.int .i64 v) ∧ W5.cell? ⟨xb, 3, none⟩ = some (.slice AB nb cb) from ⟨HX5.out.cell 0, HX5.out.cell 1, HX5.out.cell 3⟩)
        have hap5 : Apart [fb, bb, wb] A5 := own_apart ho5 (by
          intro q hq
          obtain ⟨l1, l2, l3, l4, _⟩ := HT4.out.lt
          simp at hq
          omega)
        have HA5 := Lib.hid hap5
        clear ho5 hg5 hap5
        refine hK.out _ _ ?_ (fun hHeld => ?_)
        · (try dsimp only)
          first | exact HS7.out | exact HS6.out | exact HS5.out | exact HS4.out | exact HS3.out
        clear hK K
        try simp only [Act.put, List.getElem_toArray, List.getElem_cons_succ, List.getElem_cons_zero, List.setIfInBounds_toArray, List.set_cons_zero, List.set_cons_succ]
        refine wpAnyH_ready (rs := [25]) (by kernel_rfl) (by simp) ?_
        refine AllReadyH.cons rfl (fun K hK => ?_) AllReadyH.nil
        go_simp
        refine (two_z_swrite s v S x A5 nb c5 bs HBL.out.symm HX.out E HE.out HF3.out (Reads.of_own HO5.out) HA5.out HT5.out).mono ?_; rintro e W6 ⟨rfl, h6, ho6⟩; have HT6 := Lib.hid h6; have HX6 := Lib.hid (HX5.out.only ho6 X1.out); have HS6 := Lib.hid (show W6.cell? ⟨xb, 0, none⟩ = some (.int .i64 s) ∧ W6.cell? ⟨xb, 1, none⟩ = some (.int .i64 v) ∧ W6.cell? ⟨xb, 3, none⟩ = some (.slice AB nb cb) from ⟨HX6.out.cell 0, HX6.out.cell 1, HX6.out.cell 3⟩); clear h6 ho6
        go_wp2_with fail
        refine hK.out _ _ ?_ (fun hHeld => ?_)
        · (try dsimp only)
          first | exact HS7.out | exact HS6.out | exact HS5.out | exact HS4.out | exact HS3.out
        clear hK K
        try simp only [Act.put, List.getElem_toArray, List.getElem_cons_succ, List.getElem_cons_zero, List.setIfInBounds_toArray, List.set_cons_zero, List.set_cons_succ]
        refine wpAnyH_ready (rs := [26]) (by kernel_rfl) (by simp) ?_
        refine AllReadyH.cons rfl (fun K hK => ?_) AllReadyH.nil
        go_simp
        refine (num19_c _ _).mono ?_; rintro e w' ⟨rfl, rfl⟩
        go_wp2_with fail
        refine hK.out _ _ ?_ (fun hHeld => ?_)
        · (try dsimp only)
          first | exact HS7.out | exact HS6.out | exact HS5.out | exact HS4.out | exact HS3.out
        clear hK K
        try simp only [Act.put, List.getElem_toArray, List.getElem_cons_succ, List.getElem_cons_zero, List.setIfInBounds_toArray, List.set_cons_zero, List.set_cons_succ]
        refine wpAnyH_ready (rs := [35]) (by kernel_rfl) (by simp) ?_
        refine AllReadyH.cons rfl (fun K hK => ?_) AllReadyH.nil
        go_simp
        refine (two_z_rswrite s v S x AB nb cb bs HBL.out.symm HX.out E K3 HE'.out HK3.out (RB.out.below HT6.out.p.has.below) HA2.out HT6.out).mono ?_; rintro e W7 ⟨rfl, G3, hg3, hgf3, h7, ho7⟩; have HT7 := Lib.hid h7; have HG3 := Lib.hid hg3; have HGF3 := Lib.hid hgf3; have HX7 := Lib.hid (HX6.out.only ho7 X2.out); have HS7 := Lib.hid (show W7.cell? ⟨xb, 0, none⟩ = some (.int .i64 s) ∧ W7.cell? ⟨xb, 1, none⟩ = some (.int .i64 v) ∧ W7.cell? ⟨xb, 3, none⟩ = some (.slice AB nb cb) from ⟨HX7.out.cell 0, HX7.out.cell 1, HX7.out.cell 3⟩); clear h7 ho7 hg3 hgf3
        go_wp2_with fail
        refine hK.out _ _ ?_ (fun hHeld => ?_)
        · (try dsimp only)
          first | exact HS7.out | exact HS6.out | exact HS5.out | exact HS4.out | exact HS3.out
        clear hK K
        try simp only [Act.put, List.getElem_toArray, List.getElem_cons_succ, List.getElem_cons_zero, List.setIfInBounds_toArray, List.set_cons_zero, List.set_cons_succ]
        refine wpAnyH_take (i := 36) (v := ?_) rfl (by kernel_rfl) (by kernel_rfl) (by kernel_rfl) (fun _ _ _ h => h) (Or.inl ⟨by rfl, ?_⟩) (by assumption) ?_
        rotate_left
        · intro w hSw
          (try dsimp only at hSw)
          go_simp
          all_goals with_reducible rfl
        try simp only [Act.put, List.getElem_toArray, List.getElem_cons_succ, List.getElem_cons_zero, List.setIfInBounds_toArray, List.set_cons_zero, List.set_cons_succ]
        refine wpAnyH_take (i := 37) (v := ?_) rfl (by kernel_rfl) (by kernel_rfl) (by kernel_rfl) (fun _ _ _ h => h) (Or.inl ⟨by rfl, ?_⟩) (by assumption) ?_
        rotate_left
        · intro w hSw
          (try dsimp only at hSw)
          go_simp
          all_goals with_reducible rfl
        try simp only [Act.put, List.getElem_toArray, List.getElem_cons_succ, List.getElem_cons_zero, List.setIfInBounds_toArray, List.set_cons_zero, List.set_cons_succ]
        refine wpAnyH_take (i := 38) (v := ?_) rfl (by kernel_rfl) (by kernel_rfl) (by kernel_rfl) (fun _ _ _ h => h) (Or.inl ⟨by rfl, ?_⟩) (by assumption) ?_
        rotate_left
        · intro w hSw
          (try dsimp only at hSw)
          go_simp
          all_goals with_reducible rfl
        try simp only [Act.put, List.getElem_toArray, List.getElem_cons_succ, List.getElem_cons_zero, List.setIfInBounds_toArray, List.set_cons_zero, List.set_cons_succ]
        refine wpAnyH_take (i := 39) (v := ?_) rfl (by kernel_rfl) (by kernel_rfl) (by kernel_rfl) (fun _ _ _ h => h) (Or.inl ⟨by rfl, ?_⟩) (by assumption) ?_
        rotate_left
        · intro w hSw
          (try dsimp only at hSw)
          go_simp
          all_goals with_reducible rfl
        try simp only [Act.put, List.getElem_toArray, List.getElem_cons_succ, List.getElem_cons_zero, List.setIfInBounds_toArray, List.set_cons_zero, List.set_cons_succ]
        refine wpAnyH_take (i := 40) (v := ?_) rfl (by kernel_rfl) (by kernel_rfl) (by kernel_rfl) (fun _ _ _ h => h) (Or.inl ⟨by rfl, ?_⟩) (by assumption) ?_
        rotate_left
        · intro w hSw
          (try dsimp only at hSw)
          go_simp
          all_goals with_reducible rfl
        try simp only [Act.put, List.getElem_toArray, List.getElem_cons_succ, List.getElem_cons_zero, List.setIfInBounds_toArray, List.set_cons_zero, List.set_cons_succ]
        refine wpAnyH_take (i := 41) (v := ?_) rfl (by kernel_rfl) (by kernel_rfl) (by kernel_rfl) (fun _ _ _ h => h) (Or.inl ⟨by rfl, ?_⟩) (by assumption) ?_
        rotate_left
        · intro w hSw
          (try dsimp only at hSw)
          go_simp
          all_goals with_reducible rfl
        try simp only [Act.put, List.getElem_toArray, List.getElem_cons_succ, List.getElem_cons_zero, List.setIfInBounds_toArray, List.set_cons_zero, List.set_cons_succ]
        refine wpAnyH_take (i := 42) (v := ?_) rfl (by kernel_rfl) (by kernel_rfl) (by kernel_rfl) (fun _ _ _ h => h) (Or.inl ⟨by rfl, ?_⟩) (by assumption) ?_
        rotate_left
        · intro w hSw
          (try dsimp only at hSw)
          go_simp
          all_goals with_reducible rfl
        try simp only [Act.put, List.getElem_toArray, List.getElem_cons_succ, List.getElem_cons_zero, List.setIfInBounds_toArray, List.set_cons_zero, List.set_cons_succ]
        refine wpAnyH_take (i := 43) (v := ?_) rfl (by kernel_rfl) (by kernel_rfl) (by kernel_rfl) (fun _ _ _ h => h) (Or.inl ⟨by rfl, ?_⟩) (by assumption) ?_
        rotate_left
        · intro w hSw
          (try dsimp only at hSw)
          go_simp
          all_goals with_reducible rfl
        try simp only [Act.put, List.getElem_toArray, List.getElem_cons_succ, List.getElem_cons_zero, List.setIfInBounds_toArray, List.set_cons_zero, List.set_cons_succ]
        refine wpAnyH_take (i := 45) (v := ?_) rfl (by kernel_rfl) (by kernel_rfl) (by kernel_rfl) (fun _ _ _ h => h) (Or.inl ⟨by rfl, ?_⟩) (by assumption) ?_
        rotate_left
        · intro w hSw
          (try dsimp only at hSw)
          go_simp
          all_goals with_reducible rfl
        try simp only [Act.put, List.getElem_toArray, List.getElem_cons_succ, List.getElem_cons_zero, List.setIfInBounds_toArray, List.set_cons_zero, List.set_cons_succ]
        refine wpAnyH_take (i := 46) (v := ?_) rfl (by kernel_rfl) (by kernel_rfl) (by kernel_rfl) (fun _ _ _ h => h) (Or.inl ⟨by rfl, ?_⟩) (by assumption) ?_
        rotate_left
        · intro w hSw
          (try dsimp only at hSw)
          go_simp
          all_goals with_reducible rfl
        try simp only [Act.put, List.getElem_toArray, List.getElem_cons_succ, List.getElem_cons_zero, List.setIfInBounds_toArray, List.set_cons_zero, List.set_cons_succ]
        refine wpAnyH_take (i := 47) (v := ?_) rfl (by kernel_rfl) (by kernel_rfl) (by kernel_rfl) (fun _ _ _ h => h) (Or.inl ⟨by rfl, ?_⟩) (by assumption) ?_
        rotate_left
        · intro w hSw
          (try dsimp only at hSw)
          go_simp
          all_goals with_reducible rfl
        try simp only [Act.put, List.getElem_toArray, List.getElem_cons_succ, List.getElem_cons_zero, List.setIfInBounds_toArray, List.set_cons_zero, List.set_cons_succ]
        refine wpAnyH_take (i := 48) (v := ?_) rfl (by kernel_rfl) (by kernel_rfl) (by kernel_rfl) (fun _ _ _ h => h) (Or.inl ⟨by rfl, ?_⟩) (by assumption) ?_
        rotate_left
        · intro w hSw
          (try dsimp only at hSw)
          go_simp
          all_goals with_reducible rfl
        try simp only [Act.put, List.getElem_toArray, List.getElem_cons_succ, List.getElem_cons_zero, List.setIfInBounds_toArray, List.set_cons_zero, List.set_cons_succ]
        refine wpAnyH_take (i := 49) (v := ?_) rfl (by kernel_rfl) (by kernel_rfl) (by kernel_rfl) (fun _ _ _ h => h) (Or.inl ⟨by rfl, ?_⟩) (by assumption) ?_
        rotate_left
        · intro w hSw
          (try dsimp only at hSw)
          go_simp
          all_goals with_reducible rfl
        try simp only [Act.put, List.getElem_toArray, List.getElem_cons_succ, List.getElem_cons_zero, List.setIfInBounds_toArray, List.set_cons_zero, List.set_cons_succ]
        refine wpAnyH_ready (rs := [44]) (by kernel_rfl) (by simp) ?_
        refine AllReadyH.cons rfl (fun K hK => ?_) AllReadyH.nil
        go_simp
        refine (from_c s v S _).mono ?_; (rw [HX.out]); rintro e w' ⟨rfl, rfl⟩
        go_wp2_with fail
        refine hK.out _ _ ?_ (fun hHeld => ?_)
        · (try dsimp only)
          first | exact HS7.out | exact HS6.out | exact HS5.out | exact HS4.out | exact HS3.out
        clear hK K
        try simp only [Act.put, List.getElem_toArray, List.getElem_cons_succ, List.getElem_cons_zero, List.setIfInBounds_toArray, List.set_cons_zero, List.set_cons_succ]
        refine wpAnyH_ready (rs := [50]) (by kernel_rfl) (by simp) ?_
        refine AllReadyH.cons rfl (fun K hK => ?_) AllReadyH.nil
        go_simp
        refine (rfrom_c s v S _).mono ?_; (rw [HX.out]); rintro e w' ⟨rfl, rfl⟩
        go_wp2_with fail
        refine hK.out _ _ ?_ (fun hHeld => ?_)
        · (try dsimp only)
          first | exact HS7.out | exact HS6.out | exact HS5.out | exact HS4.out | exact HS3.out
        clear hK K
        try simp only [Act.put, List.getElem_toArray, List.getElem_cons_succ, List.getElem_cons_zero, List.setIfInBounds_toArray, List.set_cons_zero, List.set_cons_succ]
        refine wpAnyH_take (i := 51) (v := ?_) rfl (by kernel_rfl) (by kernel_rfl) (by kernel_rfl) (fun _ _ _ h => h) (Or.inl ⟨by rfl, ?_⟩) (by assumption) ?_
        rotate_left
        · intro w hSw
          (try dsimp only at hSw)
          go_simp
          all_goals with_reducible rfl
        try simp only [Act.put, List.getElem_toArray, List.getElem_cons_succ, List.getElem_cons_zero, List.setIfInBounds_toArray, List.set_cons_zero, List.set_cons_succ]
        refine wpAnyH_take (i := 52) (v := ?_) rfl (by kernel_rfl) (by kernel_rfl) (by kernel_rfl) (fun _ _ _ h => h) (Or.inl ⟨by rfl, ?_⟩) (by assumption) ?_
        rotate_left
        · intro w hSw
          (try dsimp only at hSw)
          go_simp
          all_goals with_reducible rfl
        try simp only [Act.put, List.getElem_toArray, List.getElem_cons_succ, List.getElem_cons_zero, List.setIfInBounds_toArray, List.set_cons_zero, List.set_cons_succ]
        refine wpAnyH_done (by kernel_rfl) ?_ _
        try simp only [Act.put, List.getElem_toArray, List.getElem_cons_succ, List.getElem_cons_zero, List.setIfInBounds_toArray, List.set_cons_zero, List.set_cons_succ]
        have hB3 : PsAt n (3 * k + 1 + 1) [rfb, rbb, rwb] [fb, bb, wb] F3 G3 := HF3.out ▸ ps_chunk R HB2.out (by omega) x bs (HG3.out.trans HK3.out.symm) HGF3.out
        have HB3 := Lib.hid hB3
        clear hB3 HB2 HE HE' HF3 HK3 HM HM' HT2 HT3 HT4 HT5 HT6 HX2 HX3 HX4 HX5 HX6 HS3 HS4 HS5 HS6 HS7 HO5 HB5 HA5 HG3 HGF3 HA2 hcells
        go_wp2_with fail
        refine (two_z_power HT7.out).mono ?_
        rintro e W8 ⟨rfl, h8, ho8⟩
        have HT8 := Lib.hid h8
        have HX8 := Lib.hid (HX7.out.only ho8 X1.out)
        clear h8 ho8 HT7 HX7
        go_wp2_with fail
        refine (two_z_rpower HT8.out).mono ?_
        rintro e W9 ⟨rfl, G4, hg4, hgf4, h9, ho9⟩
        have HX9 := Lib.hid (HX8.out.only ho9 X2.out)
        have hB4 := ps_power HB3.out hg4 hgf4
        obtain ⟨F4, hF4⟩ : ∃ F4, F3.power = F4 := ⟨_, rfl⟩
        rw [hF4] at hB4 h9
        have HT9 := Lib.hid h9
        obtain ⟨Y, hY⟩ : ∃ Y, R.image F4 s S z = Y := ⟨_, rfl⟩
        have hY' : R.image G4.fl s S z = Y := by rw [← R.like_image hB4.like]; exact hY
        have hYl := R.image_len F4 s S z
        rw [hY] at hYl
        have c9 : W9.cell? ⟨xb, 0, none⟩ = some (.int .i64 s) := HX9.out.cell 0
        have HB4 := Lib.hid (show PsAt n (3 * (k + 1)) [rfb, rbb, rwb] [fb, bb, wb] F4 G4 from by rw [show 3 * (k + 1) = 3 * k + 1 + 1 + 1 by omega]; exact hB4)
        have HY := Lib.hid hY
        have HY' := Lib.hid hY'
        clear hB4 h9 ho9 hg4 hgf4 hF4 hY hY' HT8 HX8 HB3
        go_wp2_with fail
        refine (rreadslot_h s S z Y HY'.out HT9.out.r).mono ?_
        rintro e W10 ⟨A10, c10, rfl, ho10, -, hb10⟩
        obtain ⟨D, hD⟩ : ∃ D : ByteArray, (⟨Y.toArray⟩ : ByteArray) = D := ⟨_, rfl⟩
        obtain ⟨Eb, hEb⟩ : ∃ Eb : ByteArray, D = Eb := ⟨_, rfl⟩
        have hDE : (Eb.toList == D.toList) = true := by rw [← hEb]; exact beq_self_eq_true _
        have hcv0 : ∀ (W : World) (A : Option Addr) (c : Nat), Reads W A Y.length (Y.map u8v) → (convert 29 9 (.slice A Y.length c)).run Try.prog W = .ok (.string Eb) W := fun W A c h => hEb ▸ hD ▸ strAny W A _ c Y h
        have HRD := Lib.hid (show ∀ W, Below W10.heap.size W10 W → Reads W A10 Y.length (Y.map u8v) from fun W hW => (Reads.of_own ho10).below hW)
        have HC := Lib.hid (show ∀ W, Below W10.heap.size W10 W → (convert 29 9 (.slice A10 Y.length c10)).run Try.prog W = .ok (.string D) W from fun W hW => hEb.symm ▸ hcv0 W _ _ (HRD.out W hW))
        have HCV := Lib.hid hcv0
        obtain ⟨d, hd⟩ : ∃ d, sha Y = d := ⟨_, rfl⟩
        have hdl : d.length = 32 := by rw [← hd]; exact sha_len _
        have hs1 : ∀ W, HasA w W ab fb bb wb R F4 → Calls Try.prog 52 #[ptr ab, .int .i64 s, .int .i64 S, .int .i64 z] W fun e w' => e = .returned (.agg (d.map u8v).toArray) ∧ Below W.heap.size W w' := fun W h => sdigest_h s S z hzb d (by rw [HY.out]; exact hd) h
        have hs2 : ∀ W, Reads W A10 Y.length (Y.map u8v) → Calls Try.prog 18 #[.slice A10 Y.length c10] W fun e w' => e = .returned (.agg (d.map u8v).toArray) ∧ Below W.heap.size W w' := fun W h => hd ▸ rsha_d W A10 _ c10 Y rfl h (by omega)
        have he := fun W => neq32 d d hdl hdl W
        rw [show (!(d == d)) = false by simp] at he
        have HS1 := Lib.hid hs1
        have HS2 := Lib.hid hs2
        have hx10 := HX9.out.below hb10 HX9.out.lt
        have HTd := Lib.hid ((HT9.out.later hb10).drewN 1)
        have HXd := Lib.hid (show Blk W10.drew xb 71 #[.int .i64 s, .int .i64 v, .int .i64 cn, .slice AB nb cb, .slice AM nm cm, .bool true] from hx10)
        have HLd := Lib.hid ((Below.refl W10.heap.size W10).drew)
        have hs10 := And.intro (HXd.out.cell 0) (HC.out W10.drew HLd.out)
        clear hD hEb hcv0 hd hs1 hs2 ho10 hb10 hx10 HT9 HX9 c9
        go_upto_region 22 with fail
        refine wp_region_held_drew (S := (fun W => W.cell? ⟨xb, 0, none⟩ = some (.int .i64 s) ∧ (convert 29 9 (.slice A10 Y.length c10)).run Try.prog W = .ok (.string D) W)) (by kernel_rfl) ?_ (fun hHeld => ?_)
        · exact hs10
        refine wpAnyH_take (i := 0) (v := ?_) rfl (by kernel_rfl) (by kernel_rfl) (by kernel_rfl) (fun _ _ _ h => h) (Or.inl ⟨by rfl, ?_⟩) (by assumption) ?_
        rotate_left
        · intro w hSw
          (try dsimp only at hSw)
          go_simp
          all_goals with_reducible rfl
        try simp only [Act.put, List.getElem_toArray, List.getElem_cons_succ, List.getElem_cons_zero, List.setIfInBounds_toArray, List.set_cons_zero, List.set_cons_succ]
        refine wpAnyH_take (i := 1) (v := ?_) rfl (by kernel_rfl) (by kernel_rfl) (by kernel_rfl) (fun _ _ _ h => h) (Or.inl ⟨by rfl, ?_⟩) (by assumption) ?_
        rotate_left
        · intro w hSw
          (try dsimp only at hSw)
          go_simp
          all_goals with_reducible rfl
        try simp only [Act.put, List.getElem_toArray, List.getElem_cons_succ, List.getElem_cons_zero, List.setIfInBounds_toArray, List.set_cons_zero, List.set_cons_succ]
        refine wpAnyH_take (i := 2) (v := ?_) rfl (by kernel_rfl) (by kernel_rfl) (by kernel_rfl) (fun _ _ _ h => h) (Or.inl ⟨by rfl, ?_⟩) (by assumption) ?_
        rotate_left
        · intro w hSw
          (try dsimp only at hSw)
          go_simp
          all_goals with_reducible rfl
        try simp only [Act.put, List.getElem_toArray, List.getElem_cons_succ, List.getElem_cons_zero, List.setIfInBounds_toArray, List.set_cons_zero, List.set_cons_succ]
        refine wpAnyH_take (i := 3) (v := ?_) rfl (by kernel_rfl) (by kernel_rfl) (by kernel_rfl) (fun _ _ _ h => h) (Or.inl ⟨by rfl, ?_⟩) (by assumption) ?_
        rotate_left
        · intro w hSw
          (try dsimp only at hSw)
          go_simp
          all_goals with_reducible rfl
        try simp only [Act.put, List.getElem_toArray, List.getElem_cons_succ, List.getElem_cons_zero, List.setIfInBounds_toArray, List.set_cons_zero, List.set_cons_succ]
        refine wpAnyH_take (i := 4) (v := ?_) rfl (by kernel_rfl) (by kernel_rfl) (by kernel_rfl) (fun _ _ _ h => h) (Or.inl ⟨by rfl, ?_⟩) (by assumption) ?_
        rotate_left
        · intro w hSw
          (try dsimp only at hSw)
          go_simp
          all_goals with_reducible rfl
        try simp only [Act.put, List.getElem_toArray, List.getElem_cons_succ, List.getElem_cons_zero, List.setIfInBounds_toArray, List.set_cons_zero, List.set_cons_succ]
        refine wpAnyH_take (i := 7) (v := ?_) rfl (by kernel_rfl) (by kernel_rfl) (by kernel_rfl) (fun _ _ _ h => h) (Or.inl ⟨by rfl, ?_⟩) (by assumption) ?_
        rotate_left
        · intro w hSw
          (try dsimp only at hSw)
          go_simp
          all_goals with_reducible rfl
        try simp only [Act.put, List.getElem_toArray, List.getElem_cons_succ, List.getElem_cons_zero, List.setIfInBounds_toArray, List.set_cons_zero, List.set_cons_succ]
        refine wpAnyH_take (i := 8) (v := ?_) rfl (by kernel_rfl) (by kernel_rfl) (by kernel_rfl) (fun _ _ _ h => h) (Or.inl ⟨by rfl, ?_⟩) (by assumption) ?_
        rotate_left
        · intro w hSw
          (try dsimp only at hSw)
          go_simp
          all_goals with_reducible rfl
        try simp only [Act.put, List.getElem_toArray, List.getElem_cons_succ, List.getElem_cons_zero, List.setIfInBounds_toArray, List.set_cons_zero, List.set_cons_succ]
        refine wpAnyH_ready (rs := [5]) (by kernel_rfl) (by simp) ?_
        refine AllReadyH.cons rfl (fun K hK => ?_) AllReadyH.nil
        go_simp
        refine (image_h s S z hzb Y HY.out HTd.out.p).mono ?_; rintro e W11 ⟨A11, c11, rfl, ho11, -, hb11⟩; have HT11 := Lib.hid (HTd.out.later hb11); have HX11 := Lib.hid (HXd.out.below hb11 HXd.out.lt); have HL11 := Lib.hid (HLd.out.trans (hb11.mono HLd.out.size)); have hk11 := HCV.out W11 A11 c11 (Reads.of_own ho11); have hs11 := And.intro (HX11.out.cell 0) (HC.out W11 HL11.out); clear ho11 hb11
        go_wp2_with fail
        refine hK.out _ _ ?_ (fun hHeld => ?_)
        · (try dsimp only)
          first | exact hs13 | exact hs12 | exact hs11
        clear hK K
        try simp only [Act.put, List.getElem_toArray, List.getElem_cons_succ, List.getElem_cons_zero, List.setIfInBounds_toArray, List.set_cons_zero, List.set_cons_succ]
        refine wpAnyH_ready (rs := [6]) (by kernel_rfl) (by simp) ?_
        refine AllReadyH.cons rfl (fun K hK => ?_) AllReadyH.nil
        go_simp
        refine hK.out _ _ ?_ (fun hHeld => ?_)
        · (try dsimp only)
          first | exact hs13 | exact hs12 | exact hs11
        clear hK K
        try simp only [Act.put, List.getElem_toArray, List.getElem_cons_succ, List.getElem_cons_zero, List.setIfInBounds_toArray, List.set_cons_zero, List.set_cons_succ]
        refine wpAnyH_take (i := 9) (v := ?_) rfl (by kernel_rfl) (by kernel_rfl) (by kernel_rfl) (fun _ _ _ h => h) (Or.inl ⟨by rfl, ?_⟩) (by assumption) ?_
        rotate_left
        · intro w hSw
          (try dsimp only at hSw)
          go_simp
          all_goals with_reducible rfl
        try simp only [Act.put, List.getElem_toArray, List.getElem_cons_succ, List.getElem_cons_zero, List.setIfInBounds_toArray, List.set_cons_zero, List.set_cons_succ]
        refine wpAnyH_take (i := 10) (v := ?_) rfl (by kernel_rfl) (by kernel_rfl) (by kernel_rfl) (fun _ _ _ h => h) (Or.inl ⟨by rfl, ?_⟩) (by assumption) ?_
        rotate_left
        · intro w hSw
          (try dsimp only at hSw)
          go_simp
          all_goals with_reducible rfl
        try simp only [Act.put, List.getElem_toArray, List.getElem_cons_succ, List.getElem_cons_zero, List.setIfInBounds_toArray, List.set_cons_zero, List.set_cons_succ]
        refine wpAnyH_take (i := 11) (v := ?_) rfl (by kernel_rfl) (by kernel_rfl) (by kernel_rfl) (fun _ _ _ h => h) (Or.inl ⟨by rfl, ?_⟩) (by assumption) ?_
        rotate_left
        · intro w hSw
          (try dsimp only at hSw)
          go_simp
          all_goals with_reducible rfl
        try simp only [Act.put, List.getElem_toArray, List.getElem_cons_succ, List.getElem_cons_zero, List.setIfInBounds_toArray, List.set_cons_zero, List.set_cons_succ]
        refine wpAnyH_take (i := 12) (v := ?_) rfl (by kernel_rfl) (by kernel_rfl) (by kernel_rfl) (fun _ _ _ h => h) (Or.inl ⟨by rfl, ?_⟩) (by assumption) ?_
        rotate_left
        · intro w hSw
          (try dsimp only at hSw)
          go_simp
          all_goals with_reducible rfl
        try simp only [Act.put, List.getElem_toArray, List.getElem_cons_succ, List.getElem_cons_zero, List.setIfInBounds_toArray, List.set_cons_zero, List.set_cons_succ]
        refine wpAnyH_take (i := 13) (v := ?_) rfl (by kernel_rfl) (by kernel_rfl) (by kernel_rfl) (fun _ _ _ h => h) (Or.inl ⟨by rfl, ?_⟩) (by assumption) ?_
        rotate_left
        · intro w hSw
          (try dsimp only at hSw)
          go_simp
          all_goals with_reducible rfl
        try simp only [Act.put, List.getElem_toArray, List.getElem_cons_succ, List.getElem_cons_zero, List.setIfInBounds_toArray, List.set_cons_zero, List.set_cons_succ]
        refine wpAnyH_take (i := 14) (v := ?_) rfl (by kernel_rfl) (by kernel_rfl) (by kernel_rfl) (fun _ _ _ h => h) (Or.inl ⟨by rfl, ?_⟩) (by assumption) ?_
        rotate_left
        · intro w hSw
          (try dsimp only at hSw)
          go_simp
          all_goals with_reducible rfl
        try simp only [Act.put, List.getElem_toArray, List.getElem_cons_succ, List.getElem_cons_zero, List.setIfInBounds_toArray, List.set_cons_zero, List.set_cons_succ]
        refine wpAnyH_take (i := 15) (v := ?_) rfl (by kernel_rfl) (by kernel_rfl) (by kernel_rfl) (fun _ _ _ h => h) (Or.inl ⟨by rfl, ?_⟩) (by assumption) ?_
        rotate_left
        · intro w hSw
          (try dsimp only at hSw)
          go_simp
          all_goals with_reducible rfl
        try simp only [Act.put, List.getElem_toArray, List.getElem_cons_succ, List.getElem_cons_zero, List.setIfInBounds_toArray, List.set_cons_zero, List.set_cons_succ]
        refine wpAnyH_take (i := 17) (v := ?_) rfl (by kernel_rfl) (by kernel_rfl) (by kernel_rfl) (fun _ _ _ h => h) (Or.inl ⟨by rfl, ?_⟩) (by assumption) ?_
        rotate_left
        · intro w hSw
          (try dsimp only at hSw)
          go_simp
          all_goals with_reducible rfl
        try simp only [Act.put, List.getElem_toArray, List.getElem_cons_succ, List.getElem_cons_zero, List.setIfInBounds_toArray, List.set_cons_zero, List.set_cons_succ]
        refine wpAnyH_ready (rs := [16]) (by kernel_rfl) (by simp) ?_
        refine AllReadyH.cons rfl (fun K hK => ?_) AllReadyH.nil
        go_simp
        refine (HS1.out _ HT11.out.p).mono ?_; rintro e W12 ⟨rfl, hb12⟩; have HT12 := Lib.hid (HT11.out.later hb12); have HX12 := Lib.hid (HX11.out.below hb12 HX11.out.lt); have HL12 := Lib.hid (HL11.out.trans (hb12.mono HL11.out.size)); have hs12 := And.intro (HX12.out.cell 0) (HC.out W12 HL12.out); clear hb12
        go_wp2_with fail
        refine hK.out _ _ ?_ (fun hHeld => ?_)
        · (try dsimp only)
          first | exact hs13 | exact hs12 | exact hs11
        clear hK K
        try simp only [Act.put, List.getElem_toArray, List.getElem_cons_succ, List.getElem_cons_zero, List.setIfInBounds_toArray, List.set_cons_zero, List.set_cons_succ]
        refine wpAnyH_ready (rs := [18]) (by kernel_rfl) (by simp) ?_
        refine AllReadyH.cons rfl (fun K hK => ?_) AllReadyH.nil
        go_simp
        refine (HS2.out _ (HRD.out _ HL12.out)).mono ?_; rintro e W13 ⟨rfl, hb13⟩; have HT13 := Lib.hid (HT12.out.later hb13); have HX13 := Lib.hid (HX12.out.below hb13 HX12.out.lt); have HL13 := Lib.hid (HL12.out.trans (hb13.mono HL12.out.size)); have hs13 := And.intro (HX13.out.cell 0) (HC.out W13 HL13.out); clear hb13
        go_wp2_with fail
        refine hK.out _ _ ?_ (fun hHeld => ?_)
        · (try dsimp only)
          first | exact hs13 | exact hs12 | exact hs11
        clear hK K
        try simp only [Act.put, List.getElem_toArray, List.getElem_cons_succ, List.getElem_cons_zero, List.setIfInBounds_toArray, List.set_cons_zero, List.set_cons_succ]
        refine wpAnyH_take (i := 19) (v := ?_) rfl (by kernel_rfl) (by kernel_rfl) (by kernel_rfl) (fun _ _ _ h => h) (Or.inl ⟨by rfl, ?_⟩) (by assumption) ?_
        rotate_left
        · intro w hSw
          (try dsimp only at hSw)
          go_simp
          all_goals with_reducible rfl
        try simp only [Act.put, List.getElem_toArray, List.getElem_cons_succ, List.getElem_cons_zero, List.setIfInBounds_toArray, List.set_cons_zero, List.set_cons_succ]
        refine wpAnyH_take (i := 20) (v := ?_) rfl (by kernel_rfl) (by kernel_rfl) (by kernel_rfl) (fun _ _ _ h => h) (Or.inl ⟨by rfl, ?_⟩) (by assumption) ?_
        rotate_left
        · intro w hSw
          (try dsimp only at hSw)
          go_simp
          all_goals with_reducible rfl
        try simp only [Act.put, List.getElem_toArray, List.getElem_cons_succ, List.getElem_cons_zero, List.setIfInBounds_toArray, List.set_cons_zero, List.set_cons_succ]
        refine wpAnyH_done (by kernel_rfl) ?_ _
        try simp only [Act.put, List.getElem_toArray, List.getElem_cons_succ, List.getElem_cons_zero, List.setIfInBounds_toArray, List.set_cons_zero, List.set_cons_succ]
        go_wp2_with fail
        go_roundw
        case rel => exact ⟨k + 1, F4, G4, by omega, by go_num, HB4.out, HT13.out⟩
        case measure => simp [intOf]; omega
    · obtain ⟨D, hD⟩ : ∃ D, sha (R.digS F R.len ++ R.digW F R.len) = D := ⟨_, rfl⟩
      have hDl : D.length = 32 := by rw [← hD]; exact sha_len _
      have hD2 : sha (R.digS G.fl R.len ++ R.digW G.fl R.len) = D := by rw [← R.like_digS hB.like, ← R.like_digW hB.like]; exact hD
      have hd1 : Calls Try.prog 37 #[ptr ab] wr fun e w' => e = .returned (.agg (D.map u8v).toArray) ∧ Below wr.heap.size wr w' := hD ▸ adigest_c wr hT.p.has.flash hT.p.area
      have hd2 : ∀ W, RFAt W rfb rbb rwb G → RAt W rab rfb R G.wear.length → Calls Try.prog 53 #[ptr rab] W fun e w' => e = .returned (.agg (D.map u8v).toArray) ∧ Below W.heap.size W w' := fun W h1 h2 => hD2 ▸ radigest_c W h1 h2
      have HTT := Lib.hid hT
      have HD1 := Lib.hid hd1
      have HD2 := Lib.hid hd2
      have HDL := Lib.hid hDl
      clear hD hD2 hd1 hd2 hB hT hDl
      go_wp2_with fail
      refine HD1.out.mono ?_
      rintro e w6 ⟨rfl, hb6⟩
      have HT6 := Lib.hid (HTT.out.later hb6)
      clear hb6
      go_wp2_with fail
      refine (HD2.out _ HT6.out.r.flash HT6.out.r.area).mono ?_
      rintro e w7 ⟨rfl, hb7⟩
      have he := fun W => eql32 D D HDL.out HDL.out W
      have hDD : (D == D) = true := beq_self_eq_true D
      have HB7 := Lib.hid (HT6.out.later hb7).p.has.below
      clear hb7
      go_wp2_with fail
      go_ret
      exact ⟨rfl, HB7.out⟩
set_option maxRecDepth 100000 in
set_option maxHeartbeats 1000000 in
theorem slotPlays_off (n S b z : Int) (A : Option Addr) (k c : Nat) (w : World) (hk : (k : Int) ≤ 9223372036854775807) (hg : n < 0 ∨ 18 < n ∨ 40 < k) :
    Calls Try.prog 6 #[.int .i64 n, .int .i64 S, .int .i64 b, .slice A k c, .int .i64 z] w fun e w' => e = .returned (.bool true) ∧ Below w.heap.size w w' := by
  by_cases g0 : n < 0
  · clear hg
    go_enter Try.func6, Try.ntmps6
    go_wp2_with (go_at_call 40; refine (alive19_c _).mono ?_; rintro e w1 ⟨rfl, hb⟩)
    go_ret
    exact ⟨rfl, hb⟩
  · by_cases g1 : 18 < n
    · clear hg
      go_enter Try.func6, Try.ntmps6
      go_wp2_with (go_at_call 40; refine (alive19_c _).mono ?_; rintro e w1 ⟨rfl, hb⟩)
      go_ret
      exact ⟨rfl, hb⟩
    · have g2 : 40 < k := by omega
      clear hg
      go_enter Try.func6, Try.ntmps6
      go_wp2_with (go_at_call 40; refine (alive19_c _).mono ?_; rintro e w1 ⟨rfl, hb⟩)
      go_ret
      exact ⟨rfl, hb⟩
theorem slotPlays_c (n S b z : Int) (A : Option Addr) (k c : Nat) (w : World) (hk : (k : Int) ≤ 9223372036854775807) (hz : z ≤ 9223372036854775807) (r : ActsAt19 w A k) :
    Calls Try.prog 6 #[.int .i64 n, .int .i64 S, .int .i64 b, .slice A k c, .int .i64 z] w fun e w' => e = .returned (.bool true) ∧ Below w.heap.size w w' := by
  by_cases hg : n < 0 ∨ 18 < n ∨ 40 < k
  · exact slotPlays_off n S b z A k c w hk hg
  · obtain ⟨N, rfl⟩ := Int.eq_ofNat_of_zero_le (show 0 ≤ n by omega)
    exact slotPlays_in N (by omega) S b A k c (by omega) z hz w r
end Go.Proofs.Ytlchlcjahndjgaa
