/- waterlinelaw7.AreaApart: what is done in one area turns nothing of one that has no sector in common with it. -/
import Derived.Test.YtlchlcjahndjgaaL7f
import Derived.Test.YtlchlcjahndjgaaL7a
import Derived.Test.YtlchlcjahndjgaaEq32
import Derived.Test.YtlchlcjahndjgaaSld
import Derived.Test.YtlchlcjahndjgaaActs7
import Derived.Deep.RegionLaw
namespace Go.Proofs.Ytlchlcjahndjgaa
open Go Go.RowKit
set_option linter.unusedVariables false
set_option linter.unusedSimpArgs false
attribute [local go_sem ↓] sld_seal
/-- Two areas of one flash. -/
structure Duo (w0 w : World) (ab ac fb bb wb : Nat) (R Q : Ar) (F : Fl) : Prop where
  p : HasA w0 w ab fb bb wb R F
  q : HasA w0 w ac fb bb wb Q F
section
variable {w0 w w' : World} {ab ac fb bb wb : Nat} {R Q : Ar} {F F' : Fl}
theorem Duo.op (h : Duo w0 w ab ac fb bb wb R Q F) (hl : F'.wear.length = F.wear.length) (hF : FlashAt w' fb bb wb F') (ho : Only [fb, bb, wb] w w') : Duo w0 w' ab ac fb bb wb R Q F' := ⟨h.p.only hl hF ho, h.q.only hl hF ho⟩
theorem Duo.later (h : Duo w0 w ab ac fb bb wb R Q F) (hb : Below w.heap.size w w') : Duo w0 w' ab ac fb bb wb R Q F := ⟨h.p.later hb, h.q.later hb⟩
theorem Duo.alloc (h : Duo w0 w ab ac fb bb wb R Q F) (o : Obj) : Duo w0 (w.alloc o) ab ac fb bb wb R Q F := h.later ((Below.refl _ _).alloc (Nat.le_refl _) o)
def DuoE (w0 w : World) (ab ac fb bb wb : Nat) (R Q : Ar) (F : Fl) (v : Value) (e : Ending) (w' : World) : Prop := e = .returned v ∧ Duo w0 w' ab ac fb bb wb R Q F ∧ Only [fb, bb, wb] w w'
theorem duo_prog (s a : Int) (A : Option Addr) (m c : Nat) (bs : List UInt8) (E : Int) (hE : R.programE F s a bs = E) (hF' : R.program F s a bs = F') (hr : Reads w A m (bs.map u8v)) (hap : 0 < m → Apart [fb, bb, wb] A) (h : Duo w0 w ab ac fb bb wb R Q F) :
    Calls Try.prog 35 #[ptr ab, .int .i64 s, .int .i64 a, .slice A m c] w (DuoE w0 w ab ac fb bb wb R Q F' (.int .i64 E)) := by
  subst hE hF'
  exact (aprogram_z w s a A m c bs hr hap h.p.has.flash h.p.area).mono fun e w' ⟨he, hf, ho⟩ => ⟨he, h.op (Ar.program_len R F s a bs) hf ho, ho⟩
theorem duo_erase (s : Int) (E : Int) (hE : R.eraseE F s = E) (hF' : R.erase F s = F') (h : Duo w0 w ab ac fb bb wb R Q F) :
    Calls Try.prog 36 #[ptr ab, .int .i64 s] w (DuoE w0 w ab ac fb bb wb R Q F' (.int .i64 E)) := by
  subst hE hF'
  exact (aerase_c w s h.p.has.flash h.p.area).mono fun e w' ⟨he, hf, ho⟩ => ⟨he, h.op (Ar.erase_len R F s) hf ho, ho⟩
theorem Duo.swap (h : Duo w0 w ab ac fb bb wb R Q F) : Duo w0 w ac ab fb bb wb Q R F := ⟨h.q, h.p⟩
theorem duo_cut (x : Int) (hx : x ≤ 9223372036854775807) (A : Option Addr) (n c : Nat) (m : List UInt8) (hm : n ≤ 140737488351232) (hr : Reads w A n (m.map u8v)) (h : Duo w0 w ab ac fb bb wb R Q F) :
    Calls Try.prog 38 #[ptr fb, .int .i64 x, .slice A n c] w (DuoE w0 w ab ac fb bb wb R Q (F.setCut x m) (.tuple #[])) :=
  (cut_c w fb bb wb F x hx A n c m hm hr h.p.has.flash).mono fun e w' ⟨he, hf, ho⟩ => ⟨he, h.op rfl hf ho, ho⟩
theorem duo_power (h : Duo w0 w ab ac fb bb wb R Q F) : Calls Try.prog 39 #[ptr fb] w (DuoE w0 w ab ac fb bb wb R Q F.power (.tuple #[])) :=
  (power_c w fb bb wb F h.p.has.flash).mono fun e w' ⟨he, hf, ho⟩ => ⟨he, h.op rfl hf ho, ho⟩
theorem Duo.lt (h : Duo w0 w ab ac fb bb wb R Q F) : ab < w.heap.size ∧ ac < w.heap.size ∧ fb < w.heap.size ∧ bb < w.heap.size ∧ wb < w.heap.size := by
  obtain ⟨h1, h2, h3⟩ := h.p.has.flash.lt
  exact ⟨h.p.area.obj.lt, h.q.area.obj.lt, h1, h2, h3⟩
end
set_option maxRecDepth 100000 in
set_option maxHeartbeats 20000000 in
theorem areaApart_in (gap : Nat) (hgap : gap ≤ 3) (A : Option Addr) (m c : Nat) (hm : m ≤ 60) (w : World) (r : ActsAt7 w A m) :
    Calls Try.prog 5 #[.slice A m c, .int .i64 (gap : Int)] w fun e w' => e = .returned (.bool true) ∧ Below w.heap.size w w' := by
  obtain ⟨F0, f0⟩ : ∃ F0, Fl.new ((8 : Nat) : Int) = F0 := ⟨_, rfl⟩
  have hw8 : F0.wear.length = 8 := by rw [← f0, (Fl.new_b 8 (by omega)).2, List.length_replicate]
  obtain ⟨R, hR⟩ : ∃ R, Ar.new 8 0 2 9 = R := ⟨_, rfl⟩
  obtain ⟨Q, hQ⟩ : ∃ Q, Ar.new 8 (2 + (gap : Int)) 3 9 = Q := ⟨_, rfl⟩
  have hR2 : R.from_ + R.len ≤ 2 := by rw [← hR]; decide
  have hQ2 : 2 ≤ Q.from_ := by
    rw [← hQ]
    unfold Ar.new
    rw [if_pos (by omega)]
    show 2 ≤ (2 + (gap : Int)).toNat
    omega
  have e2 : IntKind.i64.wrap (2 + (gap : Int)) = 2 + (gap : Int) := IntWalk.i64_in _ (by omega)
  have G0 := Lib.hid f0
  have G1 := Lib.hid hw8
  have G2 := Lib.hid hR
  have G3 := Lib.hid hQ
  have G4 := Lib.hid hR2
  have G5 := Lib.hid hQ2
  have HR := Lib.hid r
  clear f0 hw8 hR hQ hR2 hQ2 r
  go_enter Try.func5, Try.ntmps5
  go_wp2_with (go_at_call 34; refine (alive7_c _).mono ?_; rintro e w1 ⟨rfl, hb1⟩)
  refine (new_hf 8 (by omega) F0 G0.out hb1).mono ?_
  rintro e w2 ⟨fb, bb, wb, rfl, h2⟩
  go_wp2_with fail
  refine (anew_h 0 0 2 9 8 G1.out R G2.out h2).mono ?_
  rintro e w3 ⟨ab, rfl, h3, l3, hb3⟩
  go_wp2_with fail
  refine (anew_h 0 (2 + (gap : Int)) 3 9 8 G1.out Q G3.out h3.has).mono ?_
  rintro e w4 ⟨ac, rfl, h4, l4, hb4⟩
  have H4 := Lib.hid (Duo.mk (h3.later hb4) h4)
  clear h2 h3 h4 hb1 hb3 hb4 l3 l4
  have kc := Lib.run_convert_bytes_const (P := Try.prog) w4 29 5 #[.int .u8 107, .int .u8 101, .int .u8 112, .int .u8 116] 4 4 Try.underlying29 Try.underlying5
  go_wp2_with fail
  clear kc
  have hne : Apart [fb, bb, wb] (some ⟨w4.heap.size, 0, none⟩) := H4.out.p.has.apart
  refine (duo_prog 0 3 _ 4 4 [107, 101, 112, 116] _ rfl rfl (alloc_reads w4 [107, 101, 112, 116] 5 (4, 5)) (fun _ => hne) (H4.out.swap.alloc _)).mono ?_
  rintro e w5 ⟨rfl, h5, ho5⟩
  generalize Ar.programE Q F0 0 3 [107, 101, 112, 116] = E5
  generalize Ar.program Q F0 0 3 [107, 101, 112, 116] = F5 at h5
  have H5 := Lib.hid h5
  clear h5 ho5 H4 hne
  go_wp2_with fail
  refine (duo_erase 1 _ rfl rfl H5.out).mono ?_
  rintro e w6 ⟨rfl, h6, ho6⟩
  generalize Ar.eraseE Q F5 1 = E6
  generalize Ar.erase Q F5 1 = F6 at h6
  have H6 := Lib.hid h6.swap
  clear h6 ho6 H5
  obtain ⟨D, hD⟩ : ∃ D, sha (Q.digS F6 Q.len ++ Q.digW F6 Q.len) = D := ⟨_, rfl⟩
  have hDl : D.length = 32 := by rw [← hD]; exact sha_len _
  have hd1 : Calls Try.prog 37 #[ptr ac] w6 fun e w' => e = .returned (.agg (D.map u8v).toArray) ∧ Below w6.heap.size w6 w' := hD ▸ adigest_c w6 H6.out.q.has.flash H6.out.q.area
  have HD := Lib.hid hD
  have HD1 := Lib.hid hd1
  have HDL := Lib.hid hDl
  have hsz : ((D.map u8v).toArray).size = 32 := by simp [hDl]
  clear hD hd1 hDl
  go_wp2_with fail
  refine HD1.out.mono ?_
  rintro e w7 ⟨rfl, hb7⟩
  have H7 := Lib.hid (H6.out.later hb7)
  clear hb7 HD1 H6
  rename_i K hK
  refine hK _ _ ?_
  refine wpList_alloc_store rfl rfl 32 rfl 9 rfl (.tmp 9) (.tmp 51) rfl rfl (.agg zero32) info_z32 (D.map u8v).toArray (by rw [hsz]; exact info_b32) (by rw [hsz]; rfl) (bytes_one D) rfl rfl ?_
  have hDB := Blk.new w7 32 (D.map u8v).toArray
  have h8 := H7.out.alloc (.cells (D.map u8v).toArray 32)
  obtain ⟨l1, l2, l3, l4, l5⟩ := H7.out.lt
  obtain ⟨db, hdb⟩ : ∃ db, w7.heap.size = db := ⟨_, rfl⟩
  rw [hdb] at hDB l1 l2 l3 l4 l5 ⊢
  have hn1 : db ∉ [fb, bb, wb] := by simp only [List.mem_cons, List.not_mem_nil, or_false, not_or]; omega
  generalize w7.alloc (.cells (D.map u8v).toArray 32) = w8 at hDB h8 ⊢
  have H8 := Lib.hid h8
  have B8 := Lib.hid hDB
  have N1 := Lib.hid hn1
  clear hDB h8 hn1 l1 l2 l3 l4 l5 H7 hsz hdb
  refine wpList_nil ?_
  rename_i K2 hK2
  show K2 _ _
  refine hK2 _ _ ?_
  go_wp2_with fail
  go_loopw [10] (fun i wr => ∃ (k : Nat) (F : Fl), k ≤ m ∧ i = .int .i64 k ∧ Duo w wr ab ac fb bb wb R Q F ∧ Fl.Far 2 F6 F ∧ Blk wr db 32 (D.map u8v).toArray) (fun i _ => m - (intOf i).toNat)
  case atStart => exact ⟨0, F6, Nat.zero_le _, rfl, H8.out, Fl.Far.refl _ _, B8.out⟩
  case round =>
    clear H8 B8
    obtain ⟨k, F, hk, rfl, hT, hF, hDB⟩ := hrel
    by_cases hlt : k < m
    · obtain ⟨g, o, ⟨z, q, v, bs, ks⟩, AB, nb, cb, AM, nm, cm, tb, hA, hg, j0, j1, j2, j3, j4, j5, hz, hq, hv, hnb, hnm, hrb, hrm⟩ := HR.out k hlt
      subst hA
      simp only at j0 j1 j2 hz hv hq hrb hrm
      have hbel := hT.p.has.below
      have i0 := (hbel.cell (p := ⟨g, o + k * 6, none⟩) hg).trans j0
      have i1 := (hbel.cell (p := ⟨g, o + k * 6 + 1, none⟩) hg).trans j1
      have i2 := (hbel.cell (p := ⟨g, o + k * 6 + 2, none⟩) hg).trans j2
      have i3 := (hbel.cell (p := ⟨g, o + k * 6 + 3, none⟩) hg).trans j3
      have i4 := (hbel.cell (p := ⟨g, o + k * 6 + 4, none⟩) hg).trans j4
      have i5 := (hbel.cell (p := ⟨g, o + k * 6 + 5, none⟩) hg).trans j5
      have hnb2 := hnb.1
      have hnb3 := hnb.2
      have hnm2 := hnm.1
      have hnm3 := hnm.2
      simp only [maxLen] at hnb3 hnm3
      have HT := Lib.hid hT
      have HF := Lib.hid hF
      have HDB := Lib.hid hDB
      have RB := Lib.hid hrb
      have RM := Lib.hid hrm
      clear hbel hT hF hDB hrb hrm j0 j1 j2 j3 j4 j5 hnb hnm
      go_upto_region 16 with fail
      have hX : Blk (wr.alloc (.cells #[.int .i64 z, .int .i64 q, .int .i64 v, .slice AB nb cb, .slice AM nm cm, .bool tb] 66)) wr.heap.size 66 #[.int .i64 z, .int .i64 q, .int .i64 v, .slice AB nb cb, .slice AM nm cm, .bool tb] := Blk.new wr _ _
      have hT1 := HT.out.alloc (.cells #[.int .i64 z, .int .i64 q, .int .i64 v, .slice AB nb cb, .slice AM nm cm, .bool tb] 66)
      have hD1 := HDB.out.alloc (.cells #[.int .i64 z, .int .i64 q, .int .i64 v, .slice AB nb cb, .slice AM nm cm, .bool tb] 66)
      obtain ⟨xb, hxb⟩ : ∃ xb, wr.heap.size = xb := ⟨_, rfl⟩
      rw [hxb] at hX ⊢
      generalize wr.alloc (.cells #[.int .i64 z, .int .i64 q, .int .i64 v, .slice AB nb cb, .slice AM nm cm, .bool tb] 66) = W1 at hX hT1 hD1 ⊢
      have HT1 := Lib.hid hT1
      have HD1 := Lib.hid hD1
      have d0 : W1.cell? ⟨xb, 0, none⟩ = some (.int .i64 z) := hX.cell 0
      have d1 : W1.cell? ⟨xb, 1, none⟩ = some (.int .i64 q) := hX.cell 1
      have d2 : W1.cell? ⟨xb, 2, none⟩ = some (.int .i64 v) := hX.cell 2
      have d3 : W1.cell? ⟨xb, 3, none⟩ = some (.slice AB nb cb) := hX.cell 3
      have d4 : W1.cell? ⟨xb, 4, none⟩ = some (.slice AM nm cm) := hX.cell 4
      clear hX hT1 hD1 i0 i1 i2 i3 i4 i5 HT HDB hxb
      by_cases hL1 : (700 : Int) < (nb : Int)
      · go_wp2_with fail
        go_ret
        exact ⟨rfl, HT1.out.p.has.below⟩
      by_cases hL2 : (50 : Int) < (nm : Int)
      · go_wp2_with fail
        go_ret
        exact ⟨rfl, HT1.out.p.has.below⟩
      by_cases hz0 : z = 0
      · subst hz0
        have hap1 : 0 < nb → Apart [fb, bb, wb] AB := fun h0 a ha => by
          obtain ⟨b', o', e, hb, _⟩ := RB.out.2 h0
          rw [ha] at e; cases e
          have h1 := HT1.out.p.has.fb_
          have h2 := HT1.out.p.has.bb_
          have h3 := HT1.out.p.has.wb_
          simp only [List.mem_cons, List.not_mem_nil, or_false, not_or]; omega
        have HA1 := Lib.hid hap1
        clear hap1
        go_wp2_with fail
        refine (duo_prog v q AB nb cb bs _ rfl rfl (RB.out.below HT1.out.p.has.below) HA1.out HT1.out).mono ?_
        rintro e W2 ⟨rfl, h2, ho2⟩
        generalize Ar.programE R F v q bs = E2
        have hf2 := HF.out.trans (Ar.far_program R F G4.out v q bs)
        have HT2 := Lib.hid h2
        have HF2 := Lib.hid hf2
        have HD2 := Lib.hid (HD1.out.only ho2 N1.out)
        clear h2 ho2 hf2 d0 d1 d2 d3 d4 HF HT1 HD1
        go_wp2_with fail
        go_roundw
        case rel => exact ⟨k + 1, _, by omega, by go_num, HT2.out, HF2.out, HD2.out⟩
        case measure => simp [intOf]; omega
      by_cases hz1 : z = 1
      · subst hz1
        go_wp2_with fail
        refine (duo_erase v _ rfl rfl HT1.out).mono ?_
        rintro e W2 ⟨rfl, h2, ho2⟩
        generalize Ar.eraseE R F v = E2
        have hf2 := HF.out.trans (Ar.far_erase R F G4.out v)
        have HT2 := Lib.hid h2
        have HF2 := Lib.hid hf2
        have HD2 := Lib.hid (HD1.out.only ho2 N1.out)
        clear h2 ho2 hf2 d0 d1 d2 d3 d4 HF HT1 HD1
        go_wp2_with fail
        go_roundw
        case rel => exact ⟨k + 1, _, by omega, by go_num, HT2.out, HF2.out, HD2.out⟩
        case measure => simp [intOf]; omega
      by_cases hz2 : z = 2
      · subst hz2
        go_wp2_with fail
        refine (duo_cut v hv.2 AM nm cm ks (by omega) (RM.out.below HT1.out.p.has.below) HT1.out).mono ?_
        rintro e W2 ⟨rfl, h2, ho2⟩
        have hf2 := HF.out.trans (Fl.far_setCut 2 F v ks)
        have HT2 := Lib.hid h2
        have HF2 := Lib.hid hf2
        have HD2 := Lib.hid (HD1.out.only ho2 N1.out)
        clear h2 ho2 hf2 d0 d1 d2 d3 d4 HF HT1 HD1
        go_wp2_with fail
        go_roundw
        case rel => exact ⟨k + 1, _, by omega, by go_num, HT2.out, HF2.out, HD2.out⟩
        case measure => simp [intOf]; omega
      by_cases hz3 : z = 3
      · subst hz3
        go_wp2_with fail
        refine (duo_power HT1.out).mono ?_
        rintro e W2 ⟨rfl, h2, ho2⟩
        have hf2 := HF.out.trans (Fl.far_power 2 F)
        have HT2 := Lib.hid h2
        have HF2 := Lib.hid hf2
        have HD2 := Lib.hid (HD1.out.only ho2 N1.out)
        clear h2 ho2 hf2 d0 d1 d2 d3 d4 HF HT1 HD1
        go_wp2_with fail
        go_roundw
        case rel => exact ⟨k + 1, _, by omega, by go_num, HT2.out, HF2.out, HD2.out⟩
        case measure => simp [intOf]; omega
      · have b0 : (z == 0) = false := beq_eq_false_iff_ne.2 hz0
        have b1 : (z == 1) = false := beq_eq_false_iff_ne.2 hz1
        have b2 : (z == 2) = false := beq_eq_false_iff_ne.2 hz2
        have b3 : (z == 3) = false := beq_eq_false_iff_ne.2 hz3
        go_wp2_with fail
        go_roundw
        case rel => exact ⟨k + 1, F, by omega, by go_num, HT1.out, HF.out, HD1.out⟩
        case measure => simp [intOf]; omega
    · have hD2 : sha (Q.digS F Q.len ++ Q.digW F Q.len) = D := by rw [Q.far_digS hF G5.out, Q.far_digW hF G5.out]; exact HD.out
      have hd2 : ∀ W, FlashAt W fb bb wb F → AreaAt W ac fb Q F.wear.length → Calls Try.prog 37 #[ptr ac] W fun e w' => e = .returned (.agg (D.map u8v).toArray) ∧ Below W.heap.size W w' := fun W h1 h2 => hD2 ▸ adigest_c W h1 h2
      have HTc := Lib.hid (hT.later ((Below.refl wr.heap.size wr).drew))
      have HDc := Lib.hid (hDB.drew)
      have HD2 := Lib.hid hd2
      have he := fun W => eql32 D D HDL.out HDL.out W
      rw [show (D == D) = true from beq_self_eq_true D] at he
      have hv := run_sld HDL.out HDc.out
      clear hT hF hDB hD2 hd2
      go_upto_region 27 with fail
      go_region_law (first
        | (go_simp; go_at_call 37; refine (HD2.out _ HTc.out.q.has.flash HTc.out.q.area).mono ?_; rintro e w9 ⟨rfl, hb9⟩; have HTc := Lib.hid (HTc.out.later hb9); have HDc := Lib.hid (HDc.out.below hb9 HDc.out.lt); have hv := run_sld HDL.out HDc.out; clear hb9))
      all_goals
        go_wp2_with fail
        go_ret
        exact ⟨rfl, HTc.out.p.has.below⟩
set_option maxRecDepth 100000 in
set_option maxHeartbeats 1000000 in
theorem areaApart_off (gap : Int) (A : Option Addr) (k c : Nat) (w : World) (hk : (k : Int) ≤ 9223372036854775807) (hg : 60 < k ∨ gap < 0 ∨ 3 < gap) :
    Calls Try.prog 5 #[.slice A k c, .int .i64 gap] w fun e w' => e = .returned (.bool true) ∧ Below w.heap.size w w' := by
  by_cases g0 : 60 < k
  · clear hg
    go_enter Try.func5, Try.ntmps5
    go_wp2_with (go_at_call 34; refine (alive7_c _).mono ?_; rintro e w1 ⟨rfl, hb⟩)
    go_ret
    exact ⟨rfl, hb⟩
  · by_cases g1 : gap < 0
    · clear hg
      go_enter Try.func5, Try.ntmps5
      go_wp2_with (go_at_call 34; refine (alive7_c _).mono ?_; rintro e w1 ⟨rfl, hb⟩)
      go_ret
      exact ⟨rfl, hb⟩
    · have g2 : 3 < gap := by omega
      clear hg
      go_enter Try.func5, Try.ntmps5
      go_wp2_with (go_at_call 34; refine (alive7_c _).mono ?_; rintro e w1 ⟨rfl, hb⟩)
      go_ret
      exact ⟨rfl, hb⟩
theorem areaApart_c (gap : Int) (A : Option Addr) (k c : Nat) (w : World) (hk : (k : Int) ≤ 9223372036854775807) (r : ActsAt7 w A k) :
    Calls Try.prog 5 #[.slice A k c, .int .i64 gap] w fun e w' => e = .returned (.bool true) ∧ Below w.heap.size w w' := by
  by_cases hg : 60 < k ∨ gap < 0 ∨ 3 < gap
  · exact areaApart_off gap A k c w hk hg
  · obtain ⟨N, rfl⟩ := Int.eq_ofNat_of_zero_le (show 0 ≤ gap by omega)
    exact areaApart_in N (by omega) A k c (by omega) w r
end Go.Proofs.Ytlchlcjahndjgaa
