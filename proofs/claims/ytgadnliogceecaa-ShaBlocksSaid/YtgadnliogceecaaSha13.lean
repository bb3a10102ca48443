/- A stream of bytes: Sum. -/
import Derived.Test.YtgadnliogceecaaSha12
import Derived.Deep.MidRow
import Derived.Laws.Cover3
namespace Go.Proofs.Ytgadnliogceecaa
open Go Go.RowKit
set_option linter.unusedVariables false
set_option linter.unusedSimpArgs false
theorem info_b32 : (Try.prog.info? 24).map (·.size) = some 32 := by kernel_rfl
section
variable {P : Program}
theorem wpList_arrayAt {ops : Array Oper} {rest : List Oper} {op : Oper} {a : Act} {w : World} {Q : Exit → Act → World → Prop} (hgd : op.guard = none) (arr : TypeId) (x : Operand) (ho : op.op = .sliceToArrayPointer arr x)
    (A : Option Addr) (n len cap : Nat) (e : TypeId) (hx : a.eval x = .slice A len cap) (hu : P.underlying arr = some (.array n e)) (hn : n ≤ len)
    (h : wpList P ops Q rest (a.put op.dst (.pointer A)) w) : wpList P ops Q (op :: rest) a w :=
  wpList_plain hgd fun _ hK => by
    unfold Oper.wp execOp
    simp only [ho, hx, Sem.run_bind, run_arrayAt (P := P) w arr e n A len cap hu hn, Result.andThen_ok]
    exact hK _ _ h
end
theorem Reads.rangeAt {w : World} {b o n : Nat} {xs : List Value} (h : Reads w (some ⟨b, o, none⟩) n xs) : w.rangeAt b o xs := by
  intro j u hu
  by_cases hn : 0 < n
  · obtain ⟨b', o', e, _, hc⟩ := h.2 hn
    cases e
    exact hc j u hu
  · have : xs = [] := List.eq_nil_of_length_eq_zero (by have := h.1; omega)
    subst this
    simp at hu
/-- How many bytes 0 stand behind the byte 128. -/
def zk (r : Nat) : Nat := (119 - r % 64) % 64
/-- What is mixed in at the end. -/
def padded (n : UInt64) (rest : List UInt8) : List UInt8 := rest ++ (128 :: List.replicate (zk rest.length) 0) ++ long8 (n * 8)
def digest (s : St) (n : UInt64) (rest : List UInt8) : List UInt8 := told (absorb s (padded n rest)).1
@[reducible] def zero32 : Array Value := #[.int .u8 0, .int .u8 0, .int .u8 0, .int .u8 0, .int .u8 0, .int .u8 0, .int .u8 0, .int .u8 0, .int .u8 0, .int .u8 0, .int .u8 0, .int .u8 0, .int .u8 0, .int .u8 0, .int .u8 0, .int .u8 0, .int .u8 0, .int .u8 0, .int .u8 0, .int .u8 0, .int .u8 0, .int .u8 0, .int .u8 0, .int .u8 0, .int .u8 0, .int .u8 0, .int .u8 0, .int .u8 0, .int .u8 0, .int .u8 0, .int .u8 0, .int .u8 0]
set_option maxRecDepth 100000 in
theorem ssum_c (w : World) (sb : Nat) (s : St) (n : UInt64) (rest : List UInt8) (h : StreamAt w sb s n rest) (hr : rest.length ≤ 64) :
    Calls Try.prog 17 #[.pointer (some ⟨sb, 0, none⟩)] w fun e w' => e = .returned (.agg ((digest s n rest).map u8v).toArray) ∧ Below w.heap.size w w' := by
  obtain ⟨i0, hi, hz0, hz1, hz2⟩ := info_parts info_u8
  have HI := Lib.hid hi
  have HZ0 := Lib.hid hz0
  have HZ1 := Lib.hid hz1
  have HZ2 := Lib.hid hz2
  obtain ⟨A, c2, hB0, hR, hap⟩ := h.obj
  have hB : Blk w sb 66 (strm s n (.slice A rest.length c2)) := hB0
  have hlt := hB.lt
  have c8 := strm_c8 hB
  have c9 := strm_c9 hB
  have HB := Lib.hid hB
  have HR := Lib.hid hR
  clear h hB hR hB0 hi hz0 hz1 hz2
  go_enter Try.func17, Try.ntmps17
  go_wp2_with fail
  have hZ : Blk (w.alloc (.cells zero32 24)) w.heap.size 24 zero32 := Blk.new w _ _
  have hb1 : Below w.heap.size w (w.alloc (.cells zero32 24)) := (Below.refl _ _).alloc (Nat.le_refl _) _
  have hs1 : (w.alloc (.cells zero32 24)).heap.size = w.heap.size + 1 := by simp
  generalize w.alloc (.cells zero32 24) = w1 at hZ hb1 hs1 ⊢
  refine (clone_c w1 A c2 rest (HR.out.below hb1) (by omega)).mono ?_
  rintro e w2 ⟨A2, c3, rfl, hown, hbl⟩
  have hs2 := hbl.size
  have hb2 : Below (w.heap.size + 1) w1 w2 := hbl.mono (by omega)
  have hZ2 := hZ.below hb2 (by omega)
  have hb02 := hb1.trans (hb2.mono (by omega))
  have HO := Lib.hid (own_base hown (base' := w.heap.size + 1) (by omega))
  have HZ3 := Lib.hid hZ2
  have HB2 := Lib.hid hb02
  clear hZ hb1 hown hbl hb2 hZ2 hb02 c8 c9
  go_wp2_with (at_builtin; refine wpList_append_any _ rfl (.tmp 12) (.tmp 13) _ rfl (w.heap.size + 1) 5 i0 (.int .u8 0) 1 Try.underlying22 HI.out HZ0.out HZ1.out HZ2.out rfl _ rest.length (rest.map u8v) rfl (HO.out.alloc _) (some ⟨w2.heap.size, 0, none⟩) 1 1 [u8v 128] rfl ((Blk.new w2 5 #[u8v 128]).reads 0 (by simp)) (by intro u hu; simp at hu; subst hu; rfl) (by unfold maxLen; omega) (by omega) (by simp; omega) ?_; intro A3 c4 w3 hown3 hgrow3 hat3; have HO3 := Lib.hid hown3; have HG3 := Lib.hid hgrow3; clear hown3 hgrow3 hat3)
  have hl2 := HO.out.lt
  have hb3 := (HB2.out.alloc (by have := HB2.out.size; omega) (.cells #[u8v 128] 5)).grown HG3.out (by have := HB2.out.size; simp; omega) (fun g hg => by have := (hl2 g hg).1; omega)
  have hz3 := (HZ3.out.alloc (.cells #[u8v 128] 5)).grown HG3.out (fun e => by have := (hl2 w.heap.size e.symm).1; omega)
  have ho3 : w3.ownsRow (w.heap.size + 1) 5 1 (.slice A3 (rest.length + 1) c4) (rest.length + 1) ((rest ++ 128 :: List.replicate 0 0).map u8v) := by
    have := HO3.out
    simp at this ⊢
    exact this
  have HO4 := Lib.hid ho3
  have HB4 := Lib.hid hb3
  have HZ4 := Lib.hid hz3
  clear HO3 HG3 HZ3 HB2 HO hl2 hb3 hz3 ho3
  go_loopw [3] (fun v wr => ∃ (k : Nat) (A' : Option Addr) (c' : Nat), k ≤ zk rest.length ∧ v = .slice A' (rest.length + 1 + k) c' ∧ wr.ownsRow (w.heap.size + 1) 5 1 (.slice A' (rest.length + 1 + k) c') (rest.length + 1 + k) ((rest ++ 128 :: List.replicate k 0).map u8v) ∧ Below w.heap.size w wr ∧ Blk wr w.heap.size 24 zero32) (fun v _ => rest.length + 1 + zk rest.length - (match v with | .slice _ k _ => k | _ => 0))
  case atStart => exact ⟨0, A3, c4, Nat.zero_le _, rfl, HO4.out, HB4.out, HZ4.out⟩
  case round =>
    clear HO4 HB4 HZ4
    obtain ⟨k, A', c', hk, rfl, ho, hb, hz⟩ := hrel
    have HO := Lib.hid ho
    have HBW := Lib.hid hb
    have HZ := Lib.hid hz
    clear ho hb hz
    have hzk : zk rest.length < 64 := by unfold zk; omega
    by_cases hlt2 : k < zk rest.length
    · have hq : (((rest.length : Int) + 1 + (k : Int)) % 64 != 56) = true := by
        have h1 : ¬ (((rest.length : Int) + 1 + (k : Int)) % 64 = 56) := by unfold zk at hlt2; omega
        simpa using h1
      have hbs := HBW.out.size
      go_wp2_with (at_builtin; refine wpList_append_any _ rfl (.tmp 19) (.tmp 20) _ rfl (w.heap.size + 1) 5 i0 (.int .u8 0) 1 Try.underlying22 HI.out HZ0.out HZ1.out HZ2.out rfl _ (rest.length + 1 + k) ((rest ++ 128 :: List.replicate k 0).map u8v) rfl (HO.out.alloc _) (some ⟨wr.heap.size, 0, none⟩) 1 1 [u8v 0] rfl ((Blk.new wr 5 #[u8v 0]).reads 0 (by simp)) (by intro u hu; simp at hu; subst hu; rfl) (by unfold maxLen; omega) (by omega) (by have := HZ.out.lt; simp; omega) ?_; intro A3 c4 w3 hown3 hgrow3 hat3; have HO3 := Lib.hid hown3; have HG3 := Lib.hid hgrow3; clear hown3 hgrow3 hat3)
      have hl2 := HO.out.lt
      have hb3 := (HBW.out.alloc (by omega) (.cells #[u8v 0] 5)).grown HG3.out (by simp; omega) (fun g hg => by have := (hl2 g hg).1; omega)
      have hz3 := (HZ.out.alloc (.cells #[u8v 0] 5)).grown HG3.out (fun e => by have := (hl2 w.heap.size e.symm).1; omega)
      go_roundw
      case rel =>
        refine ⟨k + 1, A3, c4, hlt2, rfl, ?_, hb3, hz3⟩
        have e : (rest ++ 128 :: List.replicate (k + 1) 0).map u8v = (rest ++ 128 :: List.replicate k 0).map u8v ++ [u8v 0] := by rw [List.replicate_succ']; simp
        rw [e]
        exact HO3.out
      case measure => simp; omega
    · obtain rfl : k = zk rest.length := by omega
      have hq : (((rest.length : Int) + 1 + (zk rest.length : Nat)) % 64) = 56 := by unfold zk; omega
      have d0 := strm_c0 (HB.out.below HBW.out hlt)
      have d1 := strm_c1 (HB.out.below HBW.out hlt)
      have d2 := strm_c2 (HB.out.below HBW.out hlt)
      have d3 := strm_c3 (HB.out.below HBW.out hlt)
      have d4 := strm_c4 (HB.out.below HBW.out hlt)
      have d5 := strm_c5 (HB.out.below HBW.out hlt)
      have d6 := strm_c6 (HB.out.below HBW.out hlt)
      have d7 := strm_c7 (HB.out.below HBW.out hlt)
      have d8 := strm_c8 (HB.out.below HBW.out hlt)
      have hlt3 := (HB.out.below HBW.out hlt).lt
      go_wp2_with fail
      have hmul : IntKind.u64.wrap ((n.toNat : Int) * 8) = ((n * 8).toNat : Int) := by
        rw [UInt64.toNat_mul]
        simp [IntKind.wrap, IntKind.bits, IntKind.signed]
      rw [hmul]
      clear hmul
      have hs0 := HBW.out.size
      have hzl := HZ.out.lt
      have hv : Blk (wr.alloc (.cells s.vals 62)) wr.heap.size 62 s.vals := Blk.new wr _ _
      have ho4 := HO.out.alloc (.cells s.vals 62)
      have hz4 := HZ.out.alloc (.cells s.vals 62)
      have hb4 := HBW.out.alloc hs0 (.cells s.vals 62)
      have hs4 : (wr.alloc (.cells s.vals 62)).heap.size = wr.heap.size + 1 := by simp
      change Calls _ _ _ (wr.alloc (.cells s.vals 62)) _
      generalize wr.alloc (.cells s.vals 62) = w4 at hv ho4 hz4 hb4 hs4 ⊢
      refine (long_c (n * 8) w4).mono ?_
      rintro e w5 ⟨A5, c5, rfl, hown5, hbl5⟩
      have hs5 := hbl5.size
      have hll : (long8 (n * 8)).length = 8 := rfl
      have hv5 := hv.below hbl5 (by omega)
      have hz5 := hz4.below hbl5 (by omega)
      have hb5 := hb4.trans (hbl5.mono (by omega))
      have ho5 := own_only ho4 (Only.of_below (S := []) hbl5) (by simp)
      have hr5 := Reads.of_own hown5
      rw [hll] at hr5 hown5 ⊢
      have HV5 := Lib.hid hv5
      have HZ5 := Lib.hid hz5
      have HB5 := Lib.hid hb5
      have HO5 := Lib.hid ho5
      have HR5 := Lib.hid hr5
      clear hv ho4 hz4 hb4 hown5 hbl5 hll hv5 hz5 hb5 ho5 hr5 d0 d1 d2 d3 d4 d5 d6 d7 d8
      go_upto_region 7 with (at_builtin; refine wpList_append_any _ rfl (.tmp 26) (.tmp 32) _ rfl (w.heap.size + 1) 5 i0 (.int .u8 0) 1 Try.underlying22 HI.out HZ0.out HZ1.out HZ2.out rfl _ (rest.length + 1 + zk rest.length) ((rest ++ 128 :: List.replicate (zk rest.length) 0).map u8v) ?_ HO5.out A5 8 c5 ((long8 (n * 8)).map u8v) ?_ HR5.out (u8v_one _) ?_ ?_ ?_ ?_)
      · rfl
      · rfl
      · unfold maxLen; omega
      · omega
      · omega
      intro A6 c6 w6 hown6 hgrow6 hat6
      have hl5 := HO5.out.lt
      have hb6 := HB5.out.grown hgrow6 (by omega) (fun g hg => by have := (hl5 g hg).1; omega)
      have hz6 := HZ5.out.grown hgrow6 (fun e => by have := (hl5 w.heap.size e.symm).1; omega)
      have hv6 := HV5.out.grown hgrow6 (fun e => by have := (HO.out.lt wr.heap.size e.symm).2; omega)
      have ha6 : ∀ a, A6 = some a → a.block ≠ wr.heap.size := fun a ha e => by
        subst ha
        rcases hat6 a rfl with h | h
        · have := (HO.out.lt a.block h).2; omega
        · omega
      have hpl : (padded n rest).length = rest.length + 1 + zk rest.length + 8 := by
        have hll : (long8 (n * 8)).length = 8 := rfl
        simp only [padded, List.length_append, List.length_cons, List.length_replicate, hll]; omega
      have hc6 := own_cap hown6
      have hr6 : Reads w6 A6 (padded n rest).length ((padded n rest).map u8v) := by
        have h := Reads.of_own hown6
        have e : (padded n rest).map u8v = (rest.map u8v ++ u8v 128 :: (List.replicate (zk rest.length) (u8v 0) ++ (long8 (n * 8)).map u8v)) := by simp [padded]
        rw [hpl, e]; clear e
        exact h
      rw [← hpl] at hc6 ⊢
      have HV6 := Lib.hid hv6
      have HZ6 := Lib.hid hz6
      have HB6 := Lib.hid hb6
      have HR6 := Lib.hid hr6
      have HA6 := Lib.hid ha6
      have HC6 := Lib.hid hc6
      have hzb : w.heap.size < wr.heap.size := hzl
      clear hv6 hz6 hb6 hr6 ha6 hc6 hown6 hgrow6 hat6 HV5 HZ5 HB5 HO5 HR5 hl5 HO HBW HZ hs5 hs4 HB HR
      generalize wr.heap.size = hb at *
      have hpm : (padded n rest).length % 64 = 0 := by rw [hpl]; unfold zk; omega
      have hpl2 : (padded n rest).length ≤ 1000 := by rw [hpl]; omega
      clear hpl hq hlt3
      generalize hpe : padded n rest = pl at *
      have HPE := Lib.hid hpe
      clear hpe
      go_wp2_with fail
      go_loopw [3] (fun v wx => ∃ (t : St) (l : List UInt8) (A' : Option Addr) (c' : Nat), v = .slice A' l.length c' ∧ absorb s pl = absorb t l ∧ l.length % 64 = 0 ∧ l.length ≤ 1000 ∧ Reads wx A' l.length (l.map u8v) ∧ (∀ a, A' = some a → a.block ≠ hb) ∧ l.length ≤ c' ∧ c' ≤ maxLen ∧ Blk wx hb 62 t.vals ∧ Blk wx w.heap.size 24 zero32 ∧ Below w.heap.size w wx) (fun v _ => match v with | .slice _ k _ => k | _ => 0)
      case atStart => exact ⟨s, pl, A6, c6, rfl, rfl, hpm, hpl2, HR6.out, HA6.out, HC6.out.1, HC6.out.2, HV6.out, HZ6.out, HB6.out⟩
      case round =>
        clear HR6 HA6 HC6 HV6 HZ6 HB6 hpm hpl2
        obtain ⟨t, l, A', c', rfl, hab, hmod, hl, hR, hap, hc1, hc2, hv, hz, hbw⟩ := hrel
        have HAB := Lib.hid hab
        have HR := Lib.hid hR
        have HAP := Lib.hid hap
        have HV := Lib.hid hv
        have HZ := Lib.hid hz
        have HBW := Lib.hid hbw
        unfold maxLen at hc2
        have hbs := hv.lt
        clear hab hR hap hv hz hbw
        by_cases hlt : 64 ≤ l.length
        · have hpos : 0 < l.length := by omega
          go_upto_region 10 with fail
          obtain ⟨T, F, hF, hFs⟩ := family (Below wr.heap.size wr)
          have d0 : ∀ x, (F x).cell? ⟨hb, 0, none⟩ = some (u32v t.a) := fun x => by rw [(HV.out.below (hF x) hbs).cell]; rfl
          have d1 : ∀ x, (F x).cell? ⟨hb, 1, none⟩ = some (u32v t.b) := fun x => by rw [(HV.out.below (hF x) hbs).cell]; rfl
          have d2 : ∀ x, (F x).cell? ⟨hb, 2, none⟩ = some (u32v t.c) := fun x => by rw [(HV.out.below (hF x) hbs).cell]; rfl
          have d3 : ∀ x, (F x).cell? ⟨hb, 3, none⟩ = some (u32v t.d) := fun x => by rw [(HV.out.below (hF x) hbs).cell]; rfl
          have d4 : ∀ x, (F x).cell? ⟨hb, 4, none⟩ = some (u32v t.e) := fun x => by rw [(HV.out.below (hF x) hbs).cell]; rfl
          have d5 : ∀ x, (F x).cell? ⟨hb, 5, none⟩ = some (u32v t.f) := fun x => by rw [(HV.out.below (hF x) hbs).cell]; rfl
          have d6 : ∀ x, (F x).cell? ⟨hb, 6, none⟩ = some (u32v t.g) := fun x => by rw [(HV.out.below (hF x) hbs).cell]; rfl
          have d7 : ∀ x, (F x).cell? ⟨hb, 7, none⟩ = some (u32v t.h) := fun x => by rw [(HV.out.below (hF x) hbs).cell]; rfl
          have HF := Lib.hid hF
          have HFS := Lib.hid hFs
          have h0 : ∃ x, F x = wr.drew := (hFs _ (Below.refl _ _).drew).imp fun _ h => h.symm
          haveI : Nonempty T := by obtain ⟨x, _⟩ := h0; exact ⟨x⟩
          have hmix := fun x => (mix_c t A' c' (l.take 64) (F x) (by omega) (by omega) (by rw [List.map_take]; exact (HR.out.below (HF.out x)).take (by omega))).mono fun e w' h => (⟨h.1, HFS.out _ ((HF.out x).trans (h.2.mono (HF.out x).size))⟩ : e = _ ∧ ∃ y, w' = F y)
          have HM := Lib.hid hmix
          clear hF hFs hmix
          refine wp_region_fam_tail F 4 (by kernel_rfl) (by kernel_rfl) h0 ?_
          simp only [List.take_succ_cons, List.take_zero, List.drop_succ_cons, List.drop_zero]
          repeat (go_big_quiet_step (exact HM.out _))
          refine wpQuiet_nil ?_
          intro x
          have hb3 := HV.out.below (HF.out x) hbs
          have hr3 := HR.out.below (HF.out x)
          have hz3 := HZ.out.below (HF.out x) (by omega)
          have hw3 := HBW.out.trans ((HF.out x).mono HBW.out.size)
          have f0 := hb3.frozen 0
          have f1 := hb3.frozen 1
          have f2 := hb3.frozen 2
          have f3 := hb3.frozen 3
          have f4 := hb3.frozen 4
          have f5 := hb3.frozen 5
          have f6 := hb3.frozen 6
          have f7 := hb3.frozen 7
          have e0 := d0 x
          have e1 := d1 x
          have e2 := d2 x
          have e3 := d3 x
          have e4 := d4 x
          have e5 := d5 x
          have e6 := d6 x
          have e7 := d7 x
          have HB3 := Lib.hid hb3
          have HR3 := Lib.hid hr3
          have HZ3 := Lib.hid hz3
          have HW3 := Lib.hid hw3
          clear hb3 hr3 hz3 hw3 d0 d1 d2 d3 d4 d5 d6 d7 h0
          clear HM HFS
          have hab2 := absorb_more t l hlt
          have HAB2 := Lib.hid hab2
          clear hab2
          generalize F x = w7 at *
          clear HF
          generalize mixS t (l.take 64) = t2 at *
          obtain ⟨ma, mb, mc, md, me, mf, mg, mh⟩ := t2
          have hv : (St.mk ma mb mc md me mf mg mh).vals = #[u32v ma, u32v mb, u32v mc, u32v md, u32v me, u32v mf, u32v mg, u32v mh] := rfl
          rw [hv]
          clear hv
          go_wp2_with fail
          go_roundw
          case rel =>
            refine ⟨⟨ma, mb, mc, md, me, mf, mg, mh⟩, l.drop 64, _, _, by rw [List.length_drop], HAB.out.trans HAB2.out, by rw [List.length_drop]; omega, by rw [List.length_drop]; omega, ?_, apart_drop HAP.out, by rw [List.length_drop]; omega, by unfold maxLen; omega, ?_, HZ3.out.far8 (by omega), below_set8 HW3.out (by omega)⟩
            · rw [List.map_drop, List.length_drop]
              exact (HR3.out.drop_ (by omega) hc1).set8w (apart_drop HAP.out) ⟨ma, mb, mc, md, me, mf, mg, mh⟩
            · exact Blk.set8 (show Blk w7 hb 62 #[u32v t.a, u32v t.b, u32v t.c, u32v t.d, u32v t.e, u32v t.f, u32v t.g, u32v t.h] from HB3.out)
          case measure => simp; omega
        · have hl0 : l.length = 0 := by omega
          have hln : l = [] := List.eq_nil_of_length_eq_zero hl0
          subst hln
          have hd := absorb_done t [] (by simp)
          have HD := Lib.hid (HAB.out.trans hd)
          clear hd HAB
          have d0 : wr.cell? ⟨hb, 0, none⟩ = some (u32v t.a) := by rw [HV.out.cell]; rfl
          have d1 : wr.cell? ⟨hb, 1, none⟩ = some (u32v t.b) := by rw [HV.out.cell]; rfl
          have d2 : wr.cell? ⟨hb, 2, none⟩ = some (u32v t.c) := by rw [HV.out.cell]; rfl
          have d3 : wr.cell? ⟨hb, 3, none⟩ = some (u32v t.d) := by rw [HV.out.cell]; rfl
          have d4 : wr.cell? ⟨hb, 4, none⟩ = some (u32v t.e) := by rw [HV.out.cell]; rfl
          have d5 : wr.cell? ⟨hb, 5, none⟩ = some (u32v t.f) := by rw [HV.out.cell]; rfl
          have d6 : wr.cell? ⟨hb, 6, none⟩ = some (u32v t.g) := by rw [HV.out.cell]; rfl
          have d7 : wr.cell? ⟨hb, 7, none⟩ = some (u32v t.h) := by rw [HV.out.cell]; rfl
          go_wp2_with fail
          refine (told_c t wr).mono ?_
          rintro e w8 ⟨A8, c8, rfl, hown8, hbl8⟩
          rw [told_len] at hown8 ⊢
          obtain ⟨g, cap, hv8, hu8, hlt8⟩ := hown8.form (by omega)
          have hA8 : A8 = some ⟨g, 0, none⟩ := by injection hv8
          subst hA8
          have hr8 := (Reads.of_own hown8).rangeAt
          have hz8 := HZ.out.below hbl8 (by omega)
          have hw8 := HBW.out.trans (hbl8.mono HBW.out.size)
          have hbytes : (((told t).map u8v).toArray).all (·.oneCell') = true := by
            simp only [List.all_toArray, List.all_map, List.all_eq_true, Function.comp]
            intro x _
            rfl
          have hfin : told t = digest s n rest := by unfold digest; rw [HPE.out, HD.out]
          have HFN := Lib.hid hfin
          have HR8 := Lib.hid hr8
          have HZ8 := Lib.hid hz8
          have HW8 := Lib.hid hw8
          clear hfin hr8 hz8 hw8 hown8 hbl8 HD HPE d0 d1 d2 d3 d4 d5 d6 d7
          rename_i K hK
          show K _ _
          refine hK _ _ ?_
          refine wpList_arrayAt rfl 24 (.tmp 44) rfl (some ⟨g, 0, none⟩) 32 32 c8 5 rfl Try.underlying24 (Nat.le_refl _) ?_
          refine wpList_load_mid rfl 24 (.tmp 45) rfl g 0 rfl ((told t).map u8v) _ HR8.out Try.underlying24 rfl info_b32 ?_
          refine wpList_store_row rfl 24 (.tmp 2) (.tmp 46) rfl w.heap.size ((told t).map u8v).toArray rfl rfl 24 zero32 HZ8.out info_b32 rfl hbytes ?_
          refine wpList_nil ?_
          rename_i K2 hK2
          show K2 _ _
          refine hK2 _ _ ?_
          go_wp2_with fail
          refine bodyPost_ret (results_cell_row rfl _ _ w.heap.size 24 ((told t).map u8v).toArray (0, 0) _ rfl (HZ8.out.setRow _) Try.underlying24 rfl info_b32) rfl ?_
          refine ⟨by rw [HFN.out], below_setRow HW8.out (Nat.le_refl _) _⟩
end Go.Proofs.Ytgadnliogceecaa
