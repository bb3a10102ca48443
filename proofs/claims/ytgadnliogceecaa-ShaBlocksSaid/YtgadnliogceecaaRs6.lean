/- The reference's Sum. -/
import Derived.Test.YtgadnliogceecaaRs5
namespace Go.Proofs.Ytgadnliogceecaa
open Go Go.RowKit
set_option linter.unusedVariables false
set_option linter.unusedSimpArgs false
theorem info_s8 : (Try.prog.info? 5).map (·.size) = some 1 := by kernel_rfl
theorem Reads.src4 {w : World} {A d : Option Addr} {n : Nat} {xs : List Value} (h : Reads w A n xs) : 0 < xs.length → d = d ∧ ∃ x, A = some x ∧ ∀ j v, xs[j]? = some v → w.cell? (x.add j) = some v := by
  intro hn
  obtain ⟨b, o, e, _, hc⟩ := h.2 (by have := h.1; omega)
  exact ⟨rfl, _, e, fun j v hv => by rw [add_off]; exact hc j v hv⟩
theorem below_undrew {B : Nat} {w w' : World} (h : Below B w.drew w') : Below B w w' := ⟨h.os, h.tape, h.output, h.size, h.block⟩
def outTo (t : St) (k : Nat) : List UInt8 := toldTo t k ++ List.replicate (32 - k * 4) 0
theorem toldTo_len (t : St) (k : Nat) (hk : k ≤ 8) : (toldTo t k).length = k * 4 := by
  unfold toldTo
  obtain ⟨a, b, c, d, e, f, g, h⟩ := t
  have h9 : k = 0 ∨ k = 1 ∨ k = 2 ∨ k = 3 ∨ k = 4 ∨ k = 5 ∨ k = 6 ∨ k = 7 ∨ k = 8 := by omega
  rcases h9 with rfl | rfl | rfl | rfl | rfl | rfl | rfl | rfl | rfl <;> rfl
theorem outTo_len (t : St) (k : Nat) (hk : k ≤ 8) : (outTo t k).length = 32 := by
  unfold outTo; rw [List.length_append, toldTo_len t k hk, List.length_replicate]; omega
theorem toldTo_succ (t : St) (k : Nat) (hk : k < 8) : toldTo t (k + 1) = toldTo t k ++ bytes4 (t.words.getD k 0) := by
  unfold toldTo
  obtain ⟨a, b, c, d, e, f, g, h⟩ := t
  have h9 : k = 0 ∨ k = 1 ∨ k = 2 ∨ k = 3 ∨ k = 4 ∨ k = 5 ∨ k = 6 ∨ k = 7 := by omega
  rcases h9 with rfl | rfl | rfl | rfl | rfl | rfl | rfl | rfl <;> rfl
theorem outTo_splice (t : St) (k : Nat) (hk : k < 8) : splice ((outTo t k).map u8v) (k * 4) ((bytes4 (t.words.getD k 0)).map u8v) = (outTo t (k + 1)).map u8v := by
  have hl := toldTo_len t k (by omega)
  unfold splice outTo
  rw [toldTo_succ t k hk, List.map_append, List.map_append, List.map_append, List.take_append_of_le_length (by rw [List.length_map, hl]; exact Nat.le_refl _), List.take_of_length_le (by rw [List.length_map, hl]; exact Nat.le_refl _)]
  rw [List.length_map, bytes4_len, List.drop_append, List.drop_eq_nil_of_le (by rw [List.length_map, hl]; omega), List.nil_append, List.length_map, hl, List.map_replicate, List.map_replicate, List.drop_replicate, List.append_assoc]
  congr 3
  omega
set_option maxRecDepth 100000 in
theorem rsum_c (w : World) (sb : Nat) (s : St) (n : UInt64) (rest : List UInt8) (h : RStreamAt w sb s n rest) (hr : rest.length ≤ 64) :
    Calls Try.prog 36 #[.pointer (some ⟨sb, 0, none⟩)] w fun e w' => e = .returned (.agg ((digest s n rest).map u8v).toArray) ∧ Below w.heap.size w w' := by
  obtain ⟨i0, hi, hz0, hz1, hz2⟩ := info_parts info_u8
  have HI := Lib.hid hi
  have HZ0 := Lib.hid hz0
  have HZ1 := Lib.hid hz1
  have HZ2 := Lib.hid hz2
  obtain ⟨A, c2, hB0, hR, hap⟩ := h.obj
  have hB : Blk w sb 73 (strm s n (.slice A rest.length c2)) := hB0
  have hlt := hB.lt
  have c8 := strm_c8 hB
  have c9 := strm_c9 hB
  have HB := Lib.hid hB
  have HR := Lib.hid hR
  clear h hB hR hB0 hi hz0 hz1 hz2
  go_enter Try.func36, Try.ntmps36
  go_upto_region 1 with fail
  have hZ : Blk (w.alloc (.cells zero32 24)) w.heap.size 24 zero32 := Blk.new w _ _
  have hb1 : Below w.heap.size w (w.alloc (.cells zero32 24)) := (Below.refl _ _).alloc (Nat.le_refl _) _
  have hs1 : (w.alloc (.cells zero32 24)).heap.size = w.heap.size + 1 := by simp
  generalize w.alloc (.cells zero32 24) = w1 at hZ hb1 hs1 ⊢
  have R1 := Lib.hid (HR.out.below hb1)
  have k9 : w1.cell? ⟨sb, 9, none⟩ = some (.slice A rest.length c2) := by rw [hb1.cell hlt]; exact c9
  clear c9 c8
  go_upto_region 2 with (at_builtin; refine wpList_append_any _ rfl (.const (.slice none 0 0)) (.tmp 10) _ rfl w1.heap.size 5 i0 (.int .u8 0) 1 Try.underlying22 HI.out HZ0.out HZ1.out HZ2.out rfl _ 0 [] rfl (World.ownsRow_nil _ _ _ _) A rest.length c2 (rest.map u8v) rfl R1.out (u8v_one _) ?_ ?_ (Nat.le_refl _) ?_)
  · unfold maxLen; omega
  · omega
  intro A2 c3 w2 hown hgrow hat
  try simp only [Nat.zero_add, List.nil_append] at hown
  try simp only [Nat.zero_add]
  have hbl := (Below.refl w1.heap.size w1).grown hgrow (Nat.le_refl _) (by intro g hg; cases hg)
  clear hgrow hat
  have hs2 := hbl.size
  have hb2 : Below (w.heap.size + 1) w1 w2 := hbl.mono (by omega)
  have hZ2 := hZ.below hb2 (by omega)
  have hb02 := hb1.trans (hb2.mono (by omega))
  have HO := Lib.hid (own_base hown (base' := w.heap.size + 1) (by omega))
  have HZ3 := Lib.hid hZ2
  have HB2 := Lib.hid hb02
  clear hZ hb1 hown hbl hb2 hZ2 hb02 k9 R1
  go_wp2_with (at_builtin; refine wpList_append_any _ rfl (.tmp 12) (.tmp 13) _ rfl (w.heap.size + 1) 5 i0 (.int .u8 0) 1 Try.underlying22 HI.out HZ0.out HZ1.out HZ2.out rfl _ rest.length (rest.map u8v) rfl (HO.out.alloc _) (some ⟨w2.heap.size, 0, none⟩) 1 1 [u8v 128] rfl ((Blk.new w2 5 #[u8v 128]).reads 0 (by simp)) (by intro u hu; simp at hu; subst hu; rfl) (by unfold maxLen; omega) (by omega) (by simp; omega) ?_; intro A3 c4 w3 hown3 hgrow3 hat3; have HO3 := Lib.hid hown3; have HG3 := Lib.hid hgrow3; clear hown3 hgrow3 hat3)
  have hl2 := HO.out.lt
  have hb3 := (HB2.out.alloc (by have := HB2.out.size; omega) (.cells #[u8v 128] 5)).grown HG3.out (by have := HB2.out.size; simp; omega) (fun g hg => by have := (hl2 g hg).1; omega)
  have hz3 := (HZ3.out.alloc (.cells #[u8v 128] 5)).grown HG3.out (fun e => by have := (hl2 w.heap.size e.symm).1; omega)
  have ho3 : w3.ownsRow (w.heap.size + 1) 5 1 (.slice A3 (rest.length + 1) c4) (rest.length + 1) ((rest ++ 128 :: List.replicate 0 0).map u8v) := by
    have := HO3.out
    simp at this ⊢
    exact this
  have HO4 := Lib.hid ho3
  have HB4 := Lib.hid hb3
  have HZ4 := Lib.hid hz3
  clear HO3 HG3 HZ3 HB2 HO hl2 hb3 hz3 ho3
  go_loopw [3] (fun v wr => ∃ (k : Nat) (A' : Option Addr) (c' : Nat), k ≤ zk rest.length ∧ v = .slice A' (rest.length + 1 + k) c' ∧ wr.ownsRow (w.heap.size + 1) 5 1 (.slice A' (rest.length + 1 + k) c') (rest.length + 1 + k) ((rest ++ 128 :: List.replicate k 0).map u8v) ∧ Below w.heap.size w wr ∧ Blk wr w.heap.size 24 zero32) (fun v _ => rest.length + 1 + zk rest.length - (match v with | .slice _ k _ => k | _ => 0))
  case atStart => exact ⟨0, A3, c4, Nat.zero_le _, rfl, HO4.out, HB4.out, HZ4.out⟩
  case round =>
    clear HO4 HB4 HZ4
    obtain ⟨k, A', c', hk, rfl, ho, hb, hz⟩ := hrel
    have HO := Lib.hid ho
    have HBW := Lib.hid hb
    have HZ := Lib.hid hz
    clear ho hb hz
    have hzk : zk rest.length < 64 := by unfold zk; omega
    by_cases hlt2 : k < zk rest.length
    · have hq : (((rest.length : Int) + 1 + (k : Int)) % 64 != 56) = true := by
        have h1 : ¬ (((rest.length : Int) + 1 + (k : Int)) % 64 = 56) := by unfold zk at hlt2; omega
        simpa using h1
      have hbs := HBW.out.size
      go_wp2_with (at_builtin; refine wpList_append_any _ rfl (.tmp 19) (.tmp 20) _ rfl (w.heap.size + 1) 5 i0 (.int .u8 0) 1 Try.underlying22 HI.out HZ0.out HZ1.out HZ2.out rfl _ (rest.length + 1 + k) ((rest ++ 128 :: List.replicate k 0).map u8v) rfl (HO.out.alloc _) (some ⟨wr.heap.size, 0, none⟩) 1 1 [u8v 0] rfl ((Blk.new wr 5 #[u8v 0]).reads 0 (by simp)) (by intro u hu; simp at hu; subst hu; rfl) (by unfold maxLen; omega) (by omega) (by have := HZ.out.lt; simp; omega) ?_; intro A3 c4 w3 hown3 hgrow3 hat3; have HO3 := Lib.hid hown3; have HG3 := Lib.hid hgrow3; clear hown3 hgrow3 hat3)
      have hl2 := HO.out.lt
      have hb3 := (HBW.out.alloc (by omega) (.cells #[u8v 0] 5)).grown HG3.out (by simp; omega) (fun g hg => by have := (hl2 g hg).1; omega)
      have hz3 := (HZ.out.alloc (.cells #[u8v 0] 5)).grown HG3.out (fun e => by have := (hl2 w.heap.size e.symm).1; omega)
      go_roundw
      case rel =>
        refine ⟨k + 1, A3, c4, hlt2, rfl, ?_, hb3, hz3⟩
        have e : (rest ++ 128 :: List.replicate (k + 1) 0).map u8v = (rest ++ 128 :: List.replicate k 0).map u8v ++ [u8v 0] := by rw [List.replicate_succ']; simp
        rw [e]
        exact HO3.out
      case measure => simp; omega
    · obtain rfl : k = zk rest.length := by omega
      have hq : (((rest.length : Int) + 1 + (zk rest.length : Nat)) % 64) = 56 := by unfold zk; omega
      have d8 := strm_c8 (HB.out.below HBW.out hlt)
      go_wp2_with fail
      have hmul : IntKind.u64.wrap ((n.toNat : Int) * 8) = ((n * 8).toNat : Int) := by
        rw [UInt64.toNat_mul]
        simp [IntKind.wrap, IntKind.bits, IntKind.signed]
      rw [hmul]
      clear hmul
      have hs0 := HBW.out.size
      have hzl := HZ.out.lt
      refine (reight_c (n * 8) wr).mono ?_
      rintro e w5 ⟨A5, c5, rfl, hown5, hbl5⟩
      have hs5 := hbl5.size
      have hll : (long8 (n * 8)).length = 8 := rfl
      have hz5 := HZ.out.below hbl5 (by omega)
      have hb5 := HBW.out.trans (hbl5.mono (by omega))
      have ho5 := own_only HO.out (Only.of_below (S := []) hbl5) (by simp)
      have hr5 := Reads.of_own hown5
      rw [hll] at hr5 hown5 ⊢
      have HZ5 := Lib.hid hz5
      have HB5 := Lib.hid hb5
      have HO5 := Lib.hid ho5
      have HR5 := Lib.hid hr5
      clear hown5 hbl5 hll hz5 hb5 ho5 hr5 d8
      go_upto_region 6 with (at_builtin; refine wpList_append_any _ rfl (.tmp 22) (.tmp 28) _ rfl (w.heap.size + 1) 5 i0 (.int .u8 0) 1 Try.underlying22 HI.out HZ0.out HZ1.out HZ2.out rfl _ (rest.length + 1 + zk rest.length) ((rest ++ 128 :: List.replicate (zk rest.length) 0).map u8v) ?_ HO5.out A5 8 c5 ((long8 (n * 8)).map u8v) ?_ HR5.out (u8v_one _) ?_ ?_ ?_ ?_)
      · rfl
      · rfl
      · unfold maxLen; omega
      · omega
      · omega
      intro A6 c6 w6 hown6 hgrow6 hat6
      have hl5 := HO5.out.lt
      have hb6 := HB5.out.grown hgrow6 (by omega) (fun g hg => by have := (hl5 g hg).1; omega)
      have hz6 := HZ5.out.grown hgrow6 (fun e => by have := (hl5 w.heap.size e.symm).1; omega)
      have hs6 := hgrow6.size
      have d0 := strm_c0 (HB.out.below hb6 hlt)
      have d1 := strm_c1 (HB.out.below hb6 hlt)
      have d2 := strm_c2 (HB.out.below hb6 hlt)
      have d3 := strm_c3 (HB.out.below hb6 hlt)
      have d4 := strm_c4 (HB.out.below hb6 hlt)
      have d5 := strm_c5 (HB.out.below hb6 hlt)
      have d6 := strm_c6 (HB.out.below hb6 hlt)
      have d7 := strm_c7 (HB.out.below hb6 hlt)
      have HO6 := Lib.hid hown6
      have HB6 := Lib.hid hb6
      have HZ6 := Lib.hid hz6
      clear hown6 hb6 hz6 hgrow6 hat6 hl5 HO5 HB5 HZ5 HR5 HO HBW HZ
      go_upto_region 7 with fail
      have hown6 := HO6.out.alloc (.cells s.vals 62)
      have hz6 := HZ6.out.alloc (.cells s.vals 62)
      have hb6 := HB6.out.alloc HB6.out.size (.cells s.vals 62)
      have hv6 : Blk (w6.alloc (.cells s.vals 62)) w6.heap.size 62 s.vals := Blk.new w6 _ _
      have ha6 : ∀ a, A6 = some a → a.block ≠ w6.heap.size := fun a ha e => by
        subst ha
        have := (HO6.out.lt a.block rfl).2; omega
      have hzl6 := HZ6.out.lt
      change Code.wp _ _ _ _ (w6.alloc (.cells s.vals 62))
      generalize w6.alloc (.cells s.vals 62) = w7 at hown6 hz6 hb6 hv6 ⊢
      have hpl : (padded n rest).length = rest.length + 1 + zk rest.length + 8 := by
        have hll : (long8 (n * 8)).length = 8 := rfl
        simp only [padded, List.length_append, List.length_cons, List.length_replicate, hll]; omega
      have hc6 := own_cap hown6
      have hr6 : Reads w7 A6 (padded n rest).length ((padded n rest).map u8v) := by
        have h := Reads.of_own hown6
        have e : (padded n rest).map u8v = (rest.map u8v ++ u8v 128 :: (List.replicate (zk rest.length) (u8v 0) ++ (long8 (n * 8)).map u8v)) := by simp [padded]
        rw [hpl, e]
        exact h
      rw [← hpl] at hc6 ⊢
      have HV6 := Lib.hid hv6
      have HZ6 := Lib.hid hz6
      have HB6 := Lib.hid hb6
      have HR6 := Lib.hid hr6
      have HA6 := Lib.hid ha6
      have HC6 := Lib.hid hc6
      have hzb : w.heap.size < w6.heap.size := hzl6
      clear hv6 hz6 hb6 hr6 ha6 hc6 hown6 HO6 d0 d1 d2 d3 d4 d5 d6 d7 HB HR hs6 hs5
      generalize w6.heap.size = hb at *
      have hpm : (padded n rest).length % 64 = 0 := by rw [hpl]; unfold zk; omega
      have hpl2 : (padded n rest).length ≤ 1000 := by rw [hpl]; omega
      clear hpl hq
      generalize hpe : padded n rest = pl at *
      have HPE := Lib.hid hpe
      clear hpe
      go_loopw [3] (fun v wx => ∃ (t : St) (l : List UInt8) (A' : Option Addr) (c' : Nat), v = .slice A' l.length c' ∧ absorb s pl = absorb t l ∧ l.length % 64 = 0 ∧ l.length ≤ 1000 ∧ Reads wx A' l.length (l.map u8v) ∧ (∀ a, A' = some a → a.block ≠ hb) ∧ l.length ≤ c' ∧ c' ≤ maxLen ∧ Blk wx hb 62 t.vals ∧ Blk wx w.heap.size 24 zero32 ∧ Below w.heap.size w wx) (fun v _ => match v with | .slice _ k _ => k | _ => 0)
      case atStart => exact ⟨s, pl, A6, c6, rfl, rfl, hpm, hpl2, HR6.out, HA6.out, HC6.out.1, HC6.out.2, HV6.out, HZ6.out, HB6.out⟩
      case round =>
        clear HR6 HA6 HC6 HV6 HZ6 HB6 hpm hpl2
        obtain ⟨t, l, A', c', rfl, hab, hmod, hl, hR, hap, hc1, hc2, hv, hz, hbw⟩ := hrel
        have HAB := Lib.hid hab
        have HR := Lib.hid hR
        have HAP := Lib.hid hap
        have HV := Lib.hid hv
        have HZ := Lib.hid hz
        have HBW := Lib.hid hbw
        unfold maxLen at hc2
        have hbs := hv.lt
        clear hab hR hap hv hz hbw
        by_cases hlt : 64 ≤ l.length
        · have hpos : 0 < l.length := by omega
          go_upto_region 8 with fail
          obtain ⟨T, F, hF, hFs⟩ := family (Below wr.heap.size wr)
          have d0 : ∀ x, (F x).cell? ⟨hb, 0, none⟩ = some (u32v t.a) := fun x => by rw [(HV.out.below (hF x) hbs).cell]; rfl
          have d1 : ∀ x, (F x).cell? ⟨hb, 1, none⟩ = some (u32v t.b) := fun x => by rw [(HV.out.below (hF x) hbs).cell]; rfl
          have d2 : ∀ x, (F x).cell? ⟨hb, 2, none⟩ = some (u32v t.c) := fun x => by rw [(HV.out.below (hF x) hbs).cell]; rfl
          have d3 : ∀ x, (F x).cell? ⟨hb, 3, none⟩ = some (u32v t.d) := fun x => by rw [(HV.out.below (hF x) hbs).cell]; rfl
          have d4 : ∀ x, (F x).cell? ⟨hb, 4, none⟩ = some (u32v t.e) := fun x => by rw [(HV.out.below (hF x) hbs).cell]; rfl
          have d5 : ∀ x, (F x).cell? ⟨hb, 5, none⟩ = some (u32v t.f) := fun x => by rw [(HV.out.below (hF x) hbs).cell]; rfl
          have d6 : ∀ x, (F x).cell? ⟨hb, 6, none⟩ = some (u32v t.g) := fun x => by rw [(HV.out.below (hF x) hbs).cell]; rfl
          have d7 : ∀ x, (F x).cell? ⟨hb, 7, none⟩ = some (u32v t.h) := fun x => by rw [(HV.out.below (hF x) hbs).cell]; rfl
          have HF := Lib.hid hF
          have HFS := Lib.hid hFs
          have h0 : ∃ x, F x = wr.drew := (hFs _ (Below.refl _ _).drew).imp fun _ h => h.symm
          haveI : Nonempty T := by obtain ⟨x, _⟩ := h0; exact ⟨x⟩
          have hmix := fun x => (rblock_c t A' c' (l.take 64) (F x) (by omega) (by omega) (by rw [List.map_take]; exact (HR.out.below (HF.out x)).take (by omega))).mono fun e w' h => (⟨h.1, HFS.out _ ((HF.out x).trans (h.2.mono (HF.out x).size))⟩ : e = _ ∧ ∃ y, w' = F y)
          have HM := Lib.hid hmix
          clear hF hFs hmix
          refine wp_region_fam_tail F 4 (by kernel_rfl) (by kernel_rfl) h0 ?_
          simp only [List.take_succ_cons, List.take_zero, List.drop_succ_cons, List.drop_zero]
          repeat (go_big_quiet_step (exact HM.out _))
          refine wpQuiet_nil ?_
          intro x
          have hb3 := HV.out.below (HF.out x) hbs
          have hr3 := HR.out.below (HF.out x)
          have hz3 := HZ.out.below (HF.out x) (by omega)
          have hw3 := HBW.out.trans ((HF.out x).mono HBW.out.size)
          have f0 := hb3.frozen 0
          have f1 := hb3.frozen 1
          have f2 := hb3.frozen 2
          have f3 := hb3.frozen 3
          have f4 := hb3.frozen 4
          have f5 := hb3.frozen 5
          have f6 := hb3.frozen 6
          have f7 := hb3.frozen 7
          have e0 := d0 x
          have e1 := d1 x
          have e2 := d2 x
          have e3 := d3 x
          have e4 := d4 x
          have e5 := d5 x
          have e6 := d6 x
          have e7 := d7 x
          have HB3 := Lib.hid hb3
          have HR3 := Lib.hid hr3
          have HZ3 := Lib.hid hz3
          have HW3 := Lib.hid hw3
          clear hb3 hr3 hz3 hw3 d0 d1 d2 d3 d4 d5 d6 d7 h0
          clear HM HFS
          have hab2 := absorb_more t l hlt
          have HAB2 := Lib.hid hab2
          clear hab2
          generalize F x = w7 at *
          clear HF
          generalize mixS t (l.take 64) = t2 at *
          obtain ⟨ma, mb, mc, md, me, mf, mg, mh⟩ := t2
          have hv : (St.mk ma mb mc md me mf mg mh).vals = #[u32v ma, u32v mb, u32v mc, u32v md, u32v me, u32v mf, u32v mg, u32v mh] := rfl
          rw [hv]
          clear hv
          go_wp2_with fail
          go_roundw
          case rel =>
            refine ⟨⟨ma, mb, mc, md, me, mf, mg, mh⟩, l.drop 64, _, _, by rw [List.length_drop], HAB.out.trans HAB2.out, by rw [List.length_drop]; omega, by rw [List.length_drop]; omega, ?_, apart_drop HAP.out, by rw [List.length_drop]; omega, by unfold maxLen; omega, ?_, HZ3.out.far8 (by omega), below_set8 HW3.out (by omega)⟩
            · rw [List.map_drop, List.length_drop]
              exact (HR3.out.drop_ (by omega) hc1).set8w (apart_drop HAP.out) ⟨ma, mb, mc, md, me, mf, mg, mh⟩
            · exact Blk.set8 (show Blk w7 hb 62 #[u32v t.a, u32v t.b, u32v t.c, u32v t.d, u32v t.e, u32v t.f, u32v t.g, u32v t.h] from HB3.out)
          case measure => simp; omega
        · have hl0 : l.length = 0 := by omega
          have hln : l = [] := List.eq_nil_of_length_eq_zero hl0
          subst hln
          have hd := absorb_done t [] (by simp)
          have HD := Lib.hid (HAB.out.trans hd)
          clear hd HAB
          have hsw := HBW.out.size
          rw [List.length_nil]
          go_upto_region 11 with fail
          have ho7 : Blk (wr.alloc (.cells zero32 24)) wr.heap.size 24 ((outTo t 0).map u8v).toArray := Blk.new wr 24 zero32
          have hv7 := HV.out.alloc (.cells zero32 24)
          have hz7 := HZ.out.alloc (.cells zero32 24)
          have hb7 := HBW.out.alloc hsw (.cells zero32 24)
          have hhb : hb < wr.heap.size := HV.out.lt
          change Code.wp _ _ _ _ (wr.alloc (.cells zero32 24))
          generalize wr.alloc (.cells zero32 24) = w8 at ho7 hv7 hz7 hb7 ⊢
          generalize wr.heap.size = ob at ho7 hhb ⊢
          have HO7 := Lib.hid ho7
          have HV7 := Lib.hid hv7
          have HZ7 := Lib.hid hz7
          have HB7 := Lib.hid hb7
          clear ho7 hv7 hz7 hb7 HV HZ HBW HR HAP hsw
          go_wp2_with fail
          go_loopw [6] (fun i wx => ∃ k : Nat, k ≤ 8 ∧ i = .int .i64 k ∧ Blk wx ob 24 ((outTo t k).map u8v).toArray ∧ Blk wx hb 62 t.vals ∧ Blk wx w.heap.size 24 zero32 ∧ Below w.heap.size w wx) (fun i _ => 8 - (intOf i).toNat)
          case atStart => exact ⟨0, by omega, rfl, HO7.out, HV7.out, HZ7.out, HB7.out⟩
          case round =>
            clear HO7 HV7 HZ7 HB7
            obtain ⟨k, hk, rfl, ho, hv, hz, hbw⟩ := hrel
            have HO := Lib.hid ho
            have HV := Lib.hid hv
            have HZ := Lib.hid hz
            have HBW := Lib.hid hbw
            have hvl := hv.lt
            have hol := ho.lt
            clear ho hv hz hbw
            by_cases hlt : k < 8
            · have dk : wr.cell? ⟨hb, k, none⟩ = some (u32v (t.words.getD k 0)) := cell32 (L := t.words) HV.out k hlt
              have hsp : splice ((outTo t k).map u8v) (k * 4) ((bytes4 (t.words.getD k 0)).map u8v) = (outTo t (k + 1)).map u8v := outTo_splice t k hlt
              have hfit : k * 4 + ((bytes4 (t.words.getD k 0)).map u8v).length ≤ ((outTo t k).map u8v).length := by
                rw [List.length_map, List.length_map, bytes4_len, outTo_len t k hk]; omega
              have HSP := Lib.hid hsp
              clear hsp
              have hmin : ((bytes4 (t.words.getD k 0)).map u8v).length = Nat.min 4 (32 - k * 4) := by
                rw [List.length_map, bytes4_len]; show 4 = min 4 (32 - k * 4); omega
              have hwo : w.heap.size ≤ ob := by omega
              have e4 : IntKind.i64.wrap (4 * (k : Int)) = (k : Int) * 4 := by rw [Int.mul_comm]; exact IntWalk.i64_in _ (by omega)
              have b0 : 0 ≤ (k : Int) * 4 := by omega
              have b1 : (k : Int) * 4 ≤ 32 := by omega
              have b2 : ((k : Int) * 4).toNat = k * 4 := by omega
              have b3 : ¬ (32 = k * 4) := by omega
              generalize t.words.getD k 0 = x at *
              go_upto_region 14 with fail
              go_region_law (first
                | (refine step_copy_splice (by rfl) (.tmp 49) (.tmp 53) 22 22 (by rfl) 5 Try.underlying22 info_s8 (some ⟨ob, k * 4, none⟩) (some ⟨wr.heap.size, 0, none⟩) (32 - k * 4) (32 - k * 4) 4 4 (by rfl) (by rfl) ob (k * 4) ((outTo t k).map u8v) 24 HO9.out ((bytes4 x).map u8v) hmin HR9.out hfit (u8v_one _) ob _ (Below.refl _ _) (Nat.le_refl _) ?_; intro w10 hg10 hb10)
                | (go_simp; go_at_call 45; refine (rbytes_c x _).mono ?_; rintro e w9 ⟨rfl, hB9, hb9⟩; have hbn : Below wr.heap.size wr w9 := below_undrew hb9; have HO9 := Lib.hid (HO.out.below hbn hol); have HR9 := Lib.hid ((Reads.of_blk hB9).src4 (d := some ⟨ob, k * 4, none⟩)); have HL9 := Lib.hid (HBW.out.trans (hbn.mono HBW.out.size)); have HV9 := Lib.hid (HV.out.below hbn hvl); have HZ9 := Lib.hid (HZ.out.below hbn HZ.out.lt); clear hB9 hb9 hbn))
              have hg11 : Blk w10 ob 24 ((outTo t (k + 1)).map u8v).toArray := by
                have h := hg10.out
                rw [HSP.out] at h
                exact h
              have HG := Lib.hid hg11
              have HV10 := Lib.hid (HV9.out.below hb10 hhb)
              have HZ10 := Lib.hid (HZ9.out.below hb10 (by omega))
              have HL10 := Lib.hid (HL9.out.trans (hb10.mono hwo))
              clear hg10 hg11 hb10 HO9 HR9 HL9 HV9 HZ9 HO HV HZ HBW
              go_wp2_with fail
              go_roundw
              case rel => exact ⟨k + 1, by omega, by go_num, HG.out, HV10.out, HZ10.out, HL10.out⟩
              case measure => simp [intOf]; omega
            · obtain rfl : k = 8 := by omega
              have hoe : outTo t 8 = told t := by
                have hz : (32 - 8 * 4 : Nat) = 0 := rfl
                unfold outTo
                rw [hz, List.replicate_zero, List.append_nil]
                rfl
              have hfin : told t = digest s n rest := by unfold digest; rw [HPE.out, HD.out]
              have hd8 : Blk wr ob 24 ((digest s n rest).map u8v).toArray := by rw [← hfin, ← hoe]; exact HO.out
              have hdl : (digest s n rest).length = 32 := told_len _
              obtain ⟨d, hdd⟩ : ∃ d, digest s n rest = d := ⟨_, rfl⟩
              rw [hdd] at hd8 hdl
              have HDD := Lib.hid hdd
              clear hdd
              have HD8 := Lib.hid hd8
              have hcs : ((d.map u8v).toArray).size = 32 := by simp [hdl]
              clear hoe hfin hd8 HO HD HPE
              go_upto_region 15 with fail
              refine wp_region_lit ?_
              refine wpList_load_row rfl 24 _ rfl ob rfl 24 (d.map u8v).toArray (0, 0) _ HD8.out Try.underlying24 rfl (by rw [hcs]; exact info_b32) ?_
              refine wpList_store_row rfl 24 _ _ rfl w.heap.size (d.map u8v).toArray rfl rfl 24 zero32 HZ.out (by rw [hcs]; exact info_b32) (by rw [hcs]; rfl) (bytes_one d) ?_
              refine wpList_nil ?_
              rename_i K2 hK2
              show K2 _ _
              refine hK2 _ _ ?_
              go_wp2_with fail
              refine bodyPost_ret (results_cell_row rfl _ _ w.heap.size 24 (d.map u8v).toArray (0, 0) _ rfl (HZ.out.setRow _) Try.underlying24 rfl (by rw [hcs]; exact info_b32)) rfl ?_
              exact ⟨by rw [HDD.out], below_setRow HBW.out (Nat.le_refl _) _⟩
end Go.Proofs.Ytgadnliogceecaa
