/- What a stream was written keeps what does not fill a block in new memory. -/
import Derived.Test.YtlchlcjahndjgaaShaC
import Derived.Test.YtlchlcjahndjgaaRsA
namespace Go.Proofs.Ytlchlcjahndjgaa
open Go Go.RowKit
set_option linter.unusedVariables false
set_option linter.unusedSimpArgs false
/-- What does not fill a block lies at B or behind. -/
def FarRest (B : Nat) (w : World) (sb : Nat) : Prop := ∀ A n c, w.cell? ⟨sb, 9, none⟩ = some (.slice A n c) → ∀ a, A = some a → B ≤ a.block
set_option maxRecDepth 100000 in
theorem swrite_x (w : World) (sb : Nat) (s : St) (n : UInt64) (rest : List UInt8) (B : Option Addr) (c : Nat) (b : List UInt8) (h : StreamAt w sb s n rest) (r : Reads w B b.length (b.map u8v)) (hbp : 0 < b.length → ∀ a, B = some a → a.block ≠ sb) (hr : rest.length ≤ 64) (hb : b.length ≤ 274877906944) :
    Calls Try.prog 10 #[.pointer (some ⟨sb, 0, none⟩), .slice B b.length c] w fun e w' => e = .returned (.tuple #[]) ∧ StreamAt w' sb (absorb s (rest ++ b)).1 (n + UInt64.ofNat b.length) (absorb s (rest ++ b)).2 ∧ Only [sb] w w' ∧ FarRest w.heap.size w' sb := by
  obtain ⟨A, c2, hB0, hR, hap⟩ := h.obj
  have hB : Blk w sb 86 (strm s n (.slice A rest.length c2)) := hB0
  have c8 := strm_c8 hB
  have c9 := strm_c9 hB
  have f8 := hB.frozen 8
  have HB := Lib.hid hB
  have HR := Lib.hid hR
  have RB := Lib.hid r
  clear h hB hR r hB0
  go_enter Try.func10, Try.ntmps10
  go_wp2_with fail
  have hcnt : IntKind.u64.wrap ((n.toNat : Int) + (b.length : Int)) = ((n + UInt64.ofNat b.length).toNat : Int) := by
    rw [← w64_len n b.length (by omega)]
    simp [IntKind.wrap, IntKind.bits, IntKind.signed]
  rw [hcnt]
  clear hcnt
  obtain ⟨n', hn'⟩ : ∃ n', n + UInt64.ofNat b.length = n' := ⟨_, rfl⟩
  rw [hn']
  have HN := Lib.hid hn'
  clear hn'
  have hB2 := HB.out.strm8 n'
  have hR2 : Reads (w.setCell ⟨sb, 8, none⟩ (u64v n')) A rest.length (rest.map u8v) := HR.out.setCell (fun a ha => (hap a ha).1) _
  have hb2 : Reads (w.setCell ⟨sb, 8, none⟩ (u64v n')) B b.length (b.map u8v) := RB.out.setCell0 hbp _
  have ho2 : Only [sb] w (w.setCell ⟨sb, 8, none⟩ (u64v n')) := (Only.refl _ _).setCell (by simp) _
  have hsz : (w.setCell ⟨sb, 8, none⟩ (u64v n')).heap.size = w.heap.size := by simp [World.setCell]
  generalize w.setCell ⟨sb, 8, none⟩ (.int .u64 n'.toNat) = w1 at hB2 hR2 hb2 ho2 hsz ⊢
  rw [← hsz]
  have hC := Blk.new w1 29 #[.slice A rest.length c2, .slice B b.length c]
  refine (concat_c w1.heap.size 2 _ _ _ _ _ _ rest b _ (by rw [hC.cell]; rfl) (by rw [hC.cell]; rfl) hC.lt (hR2.alloc _) (hb2.alloc _) (by omega) (by omega)).mono ?_
  rintro e w2 ⟨A2, c3, rfl, hown, hbl⟩
  have hB3 := (hB2.alloc (.cells #[.slice A rest.length c2, .slice B b.length c] 29)).below hbl (hB2.alloc _).lt
  have ho3 := (ho2.alloc (.cells #[.slice A rest.length c2, .slice B b.length c] 29)).after hbl
  have hcap := own_caps hown
  have hap2 : ∀ a, A2 = some a → a.block ≠ sb := fun a ha e => by
    subst ha
    have h1 := (hown.lt a.block rfl).1
    have h2 := (hB2.alloc (.cells #[.slice A rest.length c2, .slice B b.length c] 29)).lt
    omega
  have hrd := Reads.of_own hown
  have HO := Lib.hid hrd
  have HAP := Lib.hid hap2
  have HB3 := Lib.hid hB3
  have HO3 := Lib.hid ho3
  have HCP := Lib.hid hcap
  clear hown hB3 ho3 hC hB2 hR2 hb2 ho2 HB HR RB c8 c9 f8 hcap hap2 hbl hsz hrd hap hbp
  go_wp2_with fail
  go_loopw [4] (fun v wr => ∃ (t : St) (l : List UInt8) (A' : Option Addr) (c' : Nat), v = .slice A' l.length c' ∧ absorb s (rest ++ b) = absorb t l ∧ Blk wr sb 86 (strm t n' (.slice A rest.length c2)) ∧ Reads wr A' l.length (l.map u8v) ∧ (∀ a, A' = some a → a.block ≠ sb) ∧ l.length ≤ c' ∧ c' ≤ maxLen ∧ l.length ≤ (rest ++ b).length ∧ Only [sb] w wr) (fun v _ => match v with | .slice _ k _ => k | _ => 0)
  case atStart => exact ⟨s, rest ++ b, A2, c3, by rw [List.length_append], rfl, HB3.out, HO.out, HAP.out, HCP.out.1, HCP.out.2, Nat.le_refl _, HO3.out⟩
  case round =>
    clear HB3 HO HAP HCP HO3
    obtain ⟨t, l, A', c', rfl, hab, hB, hR, hap, hc1, hc2, hl, ho⟩ := hrel
    have HAB := Lib.hid hab
    have HB := Lib.hid hB
    have HR := Lib.hid hR
    have HAP := Lib.hid hap
    have HO := Lib.hid ho
    unfold maxLen at hc2
    clear hab hR hap ho
    by_cases hlt : 64 ≤ l.length
    · have hbs := hB.lt
      clear hB
      go_upto_region 5 with fail
      obtain ⟨T, F, hF, hFs⟩ := family (Below wr.heap.size wr)
      have d0 : ∀ x, (F x).cell? ⟨sb, 0, none⟩ = some (u32v t.a) := fun x => strm_c0 (HB.out.below (hF x) hbs)
      have d1 : ∀ x, (F x).cell? ⟨sb, 1, none⟩ = some (u32v t.b) := fun x => strm_c1 (HB.out.below (hF x) hbs)
      have d2 : ∀ x, (F x).cell? ⟨sb, 2, none⟩ = some (u32v t.c) := fun x => strm_c2 (HB.out.below (hF x) hbs)
      have d3 : ∀ x, (F x).cell? ⟨sb, 3, none⟩ = some (u32v t.d) := fun x => strm_c3 (HB.out.below (hF x) hbs)
      have d4 : ∀ x, (F x).cell? ⟨sb, 4, none⟩ = some (u32v t.e) := fun x => strm_c4 (HB.out.below (hF x) hbs)
      have d5 : ∀ x, (F x).cell? ⟨sb, 5, none⟩ = some (u32v t.f) := fun x => strm_c5 (HB.out.below (hF x) hbs)
      have d6 : ∀ x, (F x).cell? ⟨sb, 6, none⟩ = some (u32v t.g) := fun x => strm_c6 (HB.out.below (hF x) hbs)
      have d7 : ∀ x, (F x).cell? ⟨sb, 7, none⟩ = some (u32v t.h) := fun x => strm_c7 (HB.out.below (hF x) hbs)
      have HF := Lib.hid hF
      have HFS := Lib.hid hFs
      have h0 : ∃ x, F x = wr.drew := (hFs _ (Below.refl _ _).drew).imp fun _ h => h.symm
      have hmix := fun x => (mix_c t A' c' (l.take 64) (F x) (by omega) (by omega) (by rw [List.map_take]; exact (HR.out.below (HF.out x)).take (by omega))).mono fun e w' h => (⟨h.1, HFS.out _ ((HF.out x).trans (h.2.mono (HF.out x).size))⟩ : e = _ ∧ ∃ y, w' = F y)
      have HM := Lib.hid hmix
      clear hF hFs hmix
      refine wp_region_fam_tail F 8 (by kernel_rfl) (by kernel_rfl) h0 ?_
      simp only [List.take_succ_cons, List.take_zero, List.drop_succ_cons, List.drop_zero]
      haveI : Nonempty T := by obtain ⟨x, _⟩ := h0; exact ⟨x⟩
      repeat (go_big_quiet_step (exact HM.out _))
      refine wpQuiet_nil ?_
      intro x
      have hb3 := HB.out.below (HF.out x) hbs
      have hr3 := HR.out.below (HF.out x)
      have ho3 := HO.out.after (HF.out x)
      have g0 := strm_c0 hb3
      have f0 := hb3.frozen 0
      have f1 := hb3.frozen 1
      have f2 := hb3.frozen 2
      have f3 := hb3.frozen 3
      have f4 := hb3.frozen 4
      have f5 := hb3.frozen 5
      have f6 := hb3.frozen 6
      have f7 := hb3.frozen 7
      have e0 := strm_c0 hb3
      have e1 := strm_c1 hb3
      have e2 := strm_c2 hb3
      have e3 := strm_c3 hb3
      have e4 := strm_c4 hb3
      have e5 := strm_c5 hb3
      have e6 := strm_c6 hb3
      have e7 := strm_c7 hb3
      have HB3 := Lib.hid hb3
      have HR3 := Lib.hid hr3
      have HO3 := Lib.hid ho3
      clear hb3 hr3 ho3 d0 d1 d2 d3 d4 d5 d6 d7 h0
      clear HM HFS
      have hab2 := absorb_more t l hlt
      have HAB2 := Lib.hid hab2
      clear hab2
      generalize F x = w5 at *
      clear HF
      generalize mixS t (l.take 64) = t2 at *
      obtain ⟨ma, mb, mc, md, me, mf, mg, mh⟩ := t2
      have hv : (St.mk ma mb mc md me mf mg mh).vals = #[u32v ma, u32v mb, u32v mc, u32v md, u32v me, u32v mf, u32v mg, u32v mh] := rfl
      rw [hv]
      clear hv
      go_wp2_with fail
      go_roundw
      case rel =>
        refine ⟨⟨ma, mb, mc, md, me, mf, mg, mh⟩, l.drop 64, _, _, by rw [List.length_drop], HAB.out.trans HAB2.out, HB3.out.strmh ⟨ma, mb, mc, md, me, mf, mg, mh⟩, ?_, apart_drop HAP.out, by rw [List.length_drop]; omega, by unfold maxLen; omega, by rw [List.length_drop]; omega, only_set8w HO3.out (by simp) ⟨ma, mb, mc, md, me, mf, mg, mh⟩⟩
        rw [List.map_drop, List.length_drop]
        exact (HR3.out.drop_ (by omega) hc1).set8w (apart_drop HAP.out) ⟨ma, mb, mc, md, me, mf, mg, mh⟩
      case measure => simp; omega
    · have d9 := strm_c9 hB
      clear hB
      go_wp2_with fail
      refine (clone_c wr A' c' l HR.out (by rw [List.length_append] at hl; omega)).mono ?_
      rintro e w5 ⟨A5, c5, rfl, hown, hbl⟩
      have hlt5 := HB.out.lt
      have hb5 := HB.out.below hbl HB.out.lt
      have f9 := hb5.frozen 9
      have k9 := strm_c9 hb5
      have HB5 := Lib.hid hb5
      have hap5 : ∀ a, A5 = some a → a.block ≠ sb := fun a ha e => by
        subst ha
        have h1 := (hown.lt a.block rfl).1
        omega
      have HAP5 := Lib.hid hap5
      have hfr5 : ∀ a, A5 = some a → w.heap.size ≤ a.block := fun a ha => by
        subst ha
        have h1 := (hown.lt a.block rfl).1
        have h2 := HO.out.size
        omega
      have HFR5 := Lib.hid hfr5
      clear hfr5
      have hty : ∀ a, A5 = some a → ∃ cs fr, w5.heap[a.block]? = some (.cells cs 5 fr) := fun a ha => by
        subst ha
        rcases hown.2 with ⟨h, _⟩ | ⟨g, cap, cur, h, _, hh, _⟩
        · injection h with h; cases h
        · injection h with h; cases h; exact ⟨_, _, hh⟩
      have HTY := Lib.hid hty
      clear hty
      have HR5 := Lib.hid (Reads.of_own hown)
      have HO5 := Lib.hid (HO.out.after hbl)
      have hd := absorb_done t l hlt
      have HD := Lib.hid (HAB.out.trans hd)
      clear hown hbl hb5 hap5 hd HAB HB HR HAP HO
      go_wp2_with fail
      go_end0
      refine ⟨rfl, ?_, HO5.out.setCell (by simp) _, ?_⟩
      rotate_left
      · intro A n c hc a ha
        rw [strm_c9 (HB5.out.strm9 _)] at hc
        injection hc with hc
        injection hc with hc
        subst hc
        exact HFR5.out a ha
      rw [HD.out, HN.out]
      exact ⟨A5, c5, HB5.out.strm9 _, HR5.out.setCell (fun a ha => HAP5.out a ha) _, fun a ha => ⟨HAP5.out a ha, by obtain ⟨cs, fr, h⟩ := HTY.out a ha; exact ⟨cs, fr, by rw [Below.heap_setCell w5 _ _ _ (HAP5.out a ha)]; exact h⟩⟩⟩
set_option maxRecDepth 100000 in
theorem rwrite_x (w : World) (sb : Nat) (s : St) (n : UInt64) (rest : List UInt8) (B : Option Addr) (c : Nat) (b : List UInt8) (h : RStreamAt w sb s n rest) (r : Reads w B b.length (b.map u8v)) (hbp : 0 < b.length → ∀ a, B = some a → a.block ≠ sb) (hr : rest.length ≤ 64) (hb : b.length ≤ 274877906944) :
    Calls Try.prog 11 #[.pointer (some ⟨sb, 0, none⟩), .slice B b.length c] w fun e w' => e = .returned (.tuple #[]) ∧ RStreamAt w' sb (absorb s (rest ++ b)).1 (n + UInt64.ofNat b.length) (absorb s (rest ++ b)).2 ∧ Only [sb] w w' ∧ FarRest w.heap.size w' sb := by
  obtain ⟨i0, hi, hz0, hz1, hz2⟩ := info_parts info_u8
  have HI := Lib.hid hi
  have HZ0 := Lib.hid hz0
  have HZ1 := Lib.hid hz1
  have HZ2 := Lib.hid hz2
  clear hi hz0 hz1 hz2
  obtain ⟨A, c2, hB0, hR, hap⟩ := h.obj
  have hB : Blk w sb 88 (strm s n (.slice A rest.length c2)) := hB0
  have c8 := strm_c8 hB
  have c9 := strm_c9 hB
  have f8 := hB.frozen 8
  have HB := Lib.hid hB
  have HR := Lib.hid hR
  have RB := Lib.hid r
  clear h hB hR r hB0
  go_enter Try.func11, Try.ntmps11
  go_upto_region 1 with fail
  have hcnt : IntKind.u64.wrap ((n.toNat : Int) + (b.length : Int)) = ((n + UInt64.ofNat b.length).toNat : Int) := by
    rw [← w64_len n b.length (by omega)]
    simp [IntKind.wrap, IntKind.bits, IntKind.signed]
  rw [hcnt]
  clear hcnt
  obtain ⟨n', hn'⟩ : ∃ n', n + UInt64.ofNat b.length = n' := ⟨_, rfl⟩
  rw [hn']
  have HN := Lib.hid hn'
  clear hn'
  have hB2 := HB.out.strm8 n'
  have hR2 : Reads (w.setCell ⟨sb, 8, none⟩ (u64v n')) A rest.length (rest.map u8v) := HR.out.setCell (fun a ha => (hap a ha).1) _
  have hb2 : Reads (w.setCell ⟨sb, 8, none⟩ (u64v n')) B b.length (b.map u8v) := RB.out.setCell0 hbp _
  have ho2 : Only [sb] w (w.setCell ⟨sb, 8, none⟩ (u64v n')) := (Only.refl _ _).setCell (by simp) _
  have hsz : (w.setCell ⟨sb, 8, none⟩ (u64v n')).heap.size = w.heap.size := by simp [World.setCell]
  generalize w.setCell ⟨sb, 8, none⟩ (.int .u64 n'.toNat) = w1 at hB2 hR2 hb2 ho2 hsz ⊢
  have c9 := strm_c9 hB2
  have hlt2 := hB2.lt
  have HB2 := Lib.hid hB2
  have HR2 := Lib.hid hR2
  have Hb2 := Lib.hid hb2
  have HO2 := Lib.hid ho2
  clear hB2 hR2 hb2 ho2 c8 f8 HB HR RB
  go_wp2_with (first | (at_builtin; refine wpList_append_any _ rfl (.const (.slice none 0 0)) (.tmp 19) _ rfl w1.heap.size 5 i0 (.int .u8 0) 1 Try.underlying29 HI.out HZ0.out HZ1.out HZ2.out rfl _ 0 [] rfl (World.ownsRow_nil _ _ _ _) A rest.length c2 (rest.map u8v) rfl HR2.out (u8v_one _) (by unfold maxLen; omega) (by omega) (Nat.le_refl _) ?_; intro A3 c3 w3 hown3 hgrow3 hat3; simp only [Nat.zero_add, List.nil_append] at hown3; have HOw3 := Lib.hid hown3; have hb3 := (Below.refl w1.heap.size w1).grown hgrow3 (Nat.le_refl _) (by intro g hg; cases hg); have hs3 := hb3.size; have Hb3 := Lib.hid hb3; have HB3 := Lib.hid (HB2.out.below hb3 hlt2); have HRb3 := Lib.hid (Hb2.out.below hb3); clear hown3 hgrow3 hat3 hb3) | (at_builtin; refine wpList_append_any _ rfl (.tmp 20) (.tmp 21) _ rfl w1.heap.size 5 i0 (.int .u8 0) 1 Try.underlying29 HI.out HZ0.out HZ1.out HZ2.out rfl _ rest.length (rest.map u8v) rfl HOw3.out B b.length c (b.map u8v) rfl HRb3.out (u8v_one _) (by unfold maxLen; omega) (by omega) hs3 ?_; intro A2 c3 w2 hown2 hgrow2 hat2; have HO4 := Lib.hid hown2; have HG4 := Lib.hid hgrow2; clear hown2 hgrow2 hat2))
  have hl3 := HOw3.out.lt
  have hown : w2.ownsRow w1.heap.size 5 1 (.slice A2 (rest ++ b).length c3) (rest ++ b).length ((rest ++ b).map u8v) := by
    rw [List.length_append, List.map_append]; exact HO4.out
  have hbl := Hb3.out.grown HG4.out hs3 (fun g hg => (hl3 g hg).1)
  have hB3 := HB2.out.below hbl hlt2
  have ho3 := HO2.out.after hbl
  have hcap := own_caps hown
  have hap2 : ∀ a, A2 = some a → a.block ≠ sb := fun a ha e => by
    subst ha
    have h1 := (hown.lt a.block rfl).1
    omega
  have hrd := Reads.of_own hown
  have HO := Lib.hid hrd
  have HAP := Lib.hid hap2
  have HB3 := Lib.hid hB3
  have HO3 := Lib.hid ho3
  have HCP := Lib.hid hcap
  clear hown hB3 ho3 HB2 HR2 Hb2 HO2 HOw3 Hb3 HRb3 HO4 HG4 c9 hcap hap2 hbl hsz hrd hap hbp hl3
  go_loopw [4] (fun v wr => ∃ (t : St) (l : List UInt8) (A' : Option Addr) (c' : Nat), v = .slice A' l.length c' ∧ absorb s (rest ++ b) = absorb t l ∧ Blk wr sb 88 (strm t n' (.slice A rest.length c2)) ∧ Reads wr A' l.length (l.map u8v) ∧ (∀ a, A' = some a → a.block ≠ sb) ∧ l.length ≤ c' ∧ c' ≤ maxLen ∧ l.length ≤ (rest ++ b).length ∧ Only [sb] w wr) (fun v _ => match v with | .slice _ k _ => k | _ => 0)
  case atStart => exact ⟨s, rest ++ b, A2, c3, by rw [List.length_append], rfl, HB3.out, HO.out, HAP.out, HCP.out.1, HCP.out.2, Nat.le_refl _, HO3.out⟩
  case round =>
    clear HB3 HO HAP HCP HO3
    obtain ⟨t, l, A', c', rfl, hab, hB, hR, hap, hc1, hc2, hl, ho⟩ := hrel
    have HAB := Lib.hid hab
    have HB := Lib.hid hB
    have HR := Lib.hid hR
    have HAP := Lib.hid hap
    have HO := Lib.hid ho
    unfold maxLen at hc2
    clear hab hR hap ho
    by_cases hlt : 64 ≤ l.length
    · have hbs := hB.lt
      clear hB
      go_upto_region 3 with fail
      obtain ⟨T, F, hF, hFs⟩ := family (Below wr.heap.size wr)
      have d0 : ∀ x, (F x).cell? ⟨sb, 0, none⟩ = some (u32v t.a) := fun x => strm_c0 (HB.out.below (hF x) hbs)
      have d1 : ∀ x, (F x).cell? ⟨sb, 1, none⟩ = some (u32v t.b) := fun x => strm_c1 (HB.out.below (hF x) hbs)
      have d2 : ∀ x, (F x).cell? ⟨sb, 2, none⟩ = some (u32v t.c) := fun x => strm_c2 (HB.out.below (hF x) hbs)
      have d3 : ∀ x, (F x).cell? ⟨sb, 3, none⟩ = some (u32v t.d) := fun x => strm_c3 (HB.out.below (hF x) hbs)
      have d4 : ∀ x, (F x).cell? ⟨sb, 4, none⟩ = some (u32v t.e) := fun x => strm_c4 (HB.out.below (hF x) hbs)
      have d5 : ∀ x, (F x).cell? ⟨sb, 5, none⟩ = some (u32v t.f) := fun x => strm_c5 (HB.out.below (hF x) hbs)
      have d6 : ∀ x, (F x).cell? ⟨sb, 6, none⟩ = some (u32v t.g) := fun x => strm_c6 (HB.out.below (hF x) hbs)
      have d7 : ∀ x, (F x).cell? ⟨sb, 7, none⟩ = some (u32v t.h) := fun x => strm_c7 (HB.out.below (hF x) hbs)
      have HF := Lib.hid hF
      have HFS := Lib.hid hFs
      have h0 : ∃ x, F x = wr.drew := (hFs _ (Below.refl _ _).drew).imp fun _ h => h.symm
      have hmix := fun x => (rblock_c t A' c' (l.take 64) (F x) (by omega) (by omega) (by rw [List.map_take]; exact (HR.out.below (HF.out x)).take (by omega))).mono fun e w' h => (⟨h.1, HFS.out _ ((HF.out x).trans (h.2.mono (HF.out x).size))⟩ : e = _ ∧ ∃ y, w' = F y)
      have HM := Lib.hid hmix
      clear hF hFs hmix
      refine wp_region_fam_tail F 8 (by kernel_rfl) (by kernel_rfl) h0 ?_
      simp only [List.take_succ_cons, List.take_zero, List.drop_succ_cons, List.drop_zero]
      haveI : Nonempty T := by obtain ⟨x, _⟩ := h0; exact ⟨x⟩
      repeat (go_big_quiet_step (exact HM.out _))
      refine wpQuiet_nil ?_
      intro x
      have hb3 := HB.out.below (HF.out x) hbs
      have hr3 := HR.out.below (HF.out x)
      have ho3 := HO.out.after (HF.out x)
      have g0 := strm_c0 hb3
      have f0 := hb3.frozen 0
      have f1 := hb3.frozen 1
      have f2 := hb3.frozen 2
      have f3 := hb3.frozen 3
      have f4 := hb3.frozen 4
      have f5 := hb3.frozen 5
      have f6 := hb3.frozen 6
      have f7 := hb3.frozen 7
      have e0 := strm_c0 hb3
      have e1 := strm_c1 hb3
      have e2 := strm_c2 hb3
      have e3 := strm_c3 hb3
      have e4 := strm_c4 hb3
      have e5 := strm_c5 hb3
      have e6 := strm_c6 hb3
      have e7 := strm_c7 hb3
      have HB3 := Lib.hid hb3
      have HR3 := Lib.hid hr3
      have HO3 := Lib.hid ho3
      clear hb3 hr3 ho3 d0 d1 d2 d3 d4 d5 d6 d7 h0
      clear HM HFS
      have hab2 := absorb_more t l hlt
      have HAB2 := Lib.hid hab2
      clear hab2
      generalize F x = w5 at *
      clear HF
      generalize mixS t (l.take 64) = t2 at *
      obtain ⟨ma, mb, mc, md, me, mf, mg, mh⟩ := t2
      have hv : (St.mk ma mb mc md me mf mg mh).vals = #[u32v ma, u32v mb, u32v mc, u32v md, u32v me, u32v mf, u32v mg, u32v mh] := rfl
      rw [hv]
      clear hv
      go_wp2_with fail
      go_roundw
      case rel =>
        refine ⟨⟨ma, mb, mc, md, me, mf, mg, mh⟩, l.drop 64, _, _, by rw [List.length_drop], HAB.out.trans HAB2.out, HB3.out.strmh ⟨ma, mb, mc, md, me, mf, mg, mh⟩, ?_, apart_drop HAP.out, by rw [List.length_drop]; omega, by unfold maxLen; omega, by rw [List.length_drop]; omega, only_set8w HO3.out (by simp) ⟨ma, mb, mc, md, me, mf, mg, mh⟩⟩
        rw [List.map_drop, List.length_drop]
        exact (HR3.out.drop_ (by omega) hc1).set8w (apart_drop HAP.out) ⟨ma, mb, mc, md, me, mf, mg, mh⟩
      case measure => simp; omega
    · have d9 := strm_c9 hB
      clear hB
      have hl300 : l.length ≤ 140737488351232 := by rw [List.length_append] at hl; omega
      go_upto_region 6 with (at_builtin; refine wpList_append_any _ rfl (.const (.slice none 0 0)) (.tmp 39) _ rfl wr.heap.size 5 i0 (.int .u8 0) 1 Try.underlying29 HI.out HZ0.out HZ1.out HZ2.out rfl _ 0 [] rfl (World.ownsRow_nil _ _ _ _) A' l.length c' (l.map u8v) rfl HR.out (u8v_one _) ?_ ?_ (Nat.le_refl _) ?_)
      · unfold maxLen; omega
      · omega
      intro A5 c5 w5 hown hgrow5 hat5
      try simp only [Nat.zero_add, List.nil_append] at hown
      have hbl := (Below.refl wr.heap.size wr).grown hgrow5 (Nat.le_refl _) (by intro g hg; cases hg)
      clear hgrow5 hat5
      have hlt5 := HB.out.lt
      have hb5 := HB.out.below hbl HB.out.lt
      have f9 := hb5.frozen 9
      have k9 := strm_c9 hb5
      have HB5 := Lib.hid hb5
      have hap5 : ∀ a, A5 = some a → a.block ≠ sb := fun a ha e => by
        subst ha
        have h1 := (hown.lt a.block rfl).1
        omega
      have HAP5 := Lib.hid hap5
      have hfr5 : ∀ a, A5 = some a → w.heap.size ≤ a.block := fun a ha => by
        subst ha
        have h1 := (hown.lt a.block rfl).1
        have h2 := HO.out.size
        omega
      have HFR5 := Lib.hid hfr5
      clear hfr5
      have hty : ∀ a, A5 = some a → ∃ cs fr, w5.heap[a.block]? = some (.cells cs 5 fr) := fun a ha => by
        subst ha
        rcases hown.2 with ⟨h, _⟩ | ⟨g, cap, cur, h, _, hh, _⟩
        · injection h with h; cases h
        · injection h with h; cases h; exact ⟨_, _, hh⟩
      have HTY := Lib.hid hty
      clear hty
      have HR5 := Lib.hid (Reads.of_own hown)
      have HO5 := Lib.hid (HO.out.after hbl)
      have hd := absorb_done t l hlt
      have HD := Lib.hid (HAB.out.trans hd)
      clear hown hbl hb5 hap5 hd HAB HB HR HAP HO
      try simp only [Nat.zero_add]
      go_wp2_with fail
      go_end0
      refine ⟨rfl, ?_, HO5.out.setCell (by simp) _, ?_⟩
      rotate_left
      · intro A n c hc a ha
        rw [strm_c9 (HB5.out.strm9 _)] at hc
        injection hc with hc
        injection hc with hc
        subst hc
        exact HFR5.out a ha
      rw [HD.out, HN.out]
      exact ⟨A5, c5, HB5.out.strm9 _, HR5.out.setCell (fun a ha => HAP5.out a ha) _, fun a ha => ⟨HAP5.out a ha, by obtain ⟨cs, fr, h⟩ := HTY.out a ha; exact ⟨cs, fr, by rw [Below.heap_setCell w5 _ _ _ (HAP5.out a ha)]; exact h⟩⟩⟩
end Go.Proofs.Ytlchlcjahndjgaa
