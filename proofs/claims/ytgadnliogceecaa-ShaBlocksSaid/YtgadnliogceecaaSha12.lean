/- A stream of bytes: Write. -/
import Derived.Test.YtgadnliogceecaaSha11
import Derived.Test.YtgadnliogceecaaQFam
namespace Go.Proofs.Ytgadnliogceecaa
open Go Go.RowKit
set_option linter.unusedVariables false
set_option linter.unusedSimpArgs false
theorem own_cap {w : World} {base : Nat} {e : TypeId} {A : Option Addr} {n c : Nat} {xs : List Value} (h : w.ownsRow base e 1 (.slice A n c) n xs) : n ≤ c ∧ c ≤ maxLen := by
  rcases h.2 with ⟨h1, h2⟩ | ⟨g, cap, cur, hv, _, _, h3, h4, _⟩
  · injection h1 with _ _ h1; subst h1; subst h2; exact ⟨Nat.le_refl _, by unfold maxLen; omega⟩
  · injection hv with _ _ hv; subst hv; exact ⟨h3, h4⟩
set_option maxRecDepth 100000 in
theorem swrite_c (w : World) (sb : Nat) (s : St) (n : UInt64) (rest : List UInt8) (B : Option Addr) (c : Nat) (b : List UInt8) (h : StreamAt w sb s n rest) (r : Reads w B b.length (b.map u8v)) (hbp : 0 < b.length → ∀ a, B = some a → a.block ≠ sb) (hr : rest.length ≤ 64) (hb : b.length ≤ 274877906944) :
    Calls Try.prog 16 #[.pointer (some ⟨sb, 0, none⟩), .slice B b.length c] w fun e w' => e = .returned (.tuple #[]) ∧ StreamAt w' sb (absorb s (rest ++ b)).1 (n + UInt64.ofNat b.length) (absorb s (rest ++ b)).2 ∧ Only [sb] w w' := by
  obtain ⟨A, c2, hB0, hR, hap⟩ := h.obj
  have hB : Blk w sb 66 (strm s n (.slice A rest.length c2)) := hB0
  have c8 := strm_c8 hB
  have c9 := strm_c9 hB
  have f8 := hB.frozen 8
  have HB := Lib.hid hB
  have HR := Lib.hid hR
  have RB := Lib.hid r
  clear h hB hR r hB0
  go_enter Try.func16, Try.ntmps16
  go_wp2_with fail
  have hcnt : IntKind.u64.wrap ((n.toNat : Int) + (b.length : Int)) = ((n + UInt64.ofNat b.length).toNat : Int) := by
    rw [← w64_len n b.length (by omega)]
    simp [IntKind.wrap, IntKind.bits, IntKind.signed]
  rw [hcnt]
  clear hcnt
  obtain ⟨n', hn'⟩ : ∃ n', n + UInt64.ofNat b.length = n' := ⟨_, rfl⟩
  rw [hn']
  have HN := Lib.hid hn'
  clear hn'
  have hB2 := HB.out.strm8 n'
  have hR2 : Reads (w.setCell ⟨sb, 8, none⟩ (u64v n')) A rest.length (rest.map u8v) := HR.out.setCell (fun a ha => (hap a ha).1) _
  have hb2 : Reads (w.setCell ⟨sb, 8, none⟩ (u64v n')) B b.length (b.map u8v) := RB.out.setCell0 hbp _
  have ho2 : Only [sb] w (w.setCell ⟨sb, 8, none⟩ (u64v n')) := (Only.refl _ _).setCell (by simp) _
  have hsz : (w.setCell ⟨sb, 8, none⟩ (u64v n')).heap.size = w.heap.size := by simp [World.setCell]
  generalize w.setCell ⟨sb, 8, none⟩ (.int .u64 n'.toNat) = w1 at hB2 hR2 hb2 ho2 hsz ⊢
  rw [← hsz]
  have hC := Blk.new w1 22 #[.slice A rest.length c2, .slice B b.length c]
  refine (concat_c w1.heap.size 2 _ _ _ _ _ _ rest b _ (by rw [hC.cell]; rfl) (by rw [hC.cell]; rfl) hC.lt (hR2.alloc _) (hb2.alloc _) (by omega) (by omega)).mono ?_
  rintro e w2 ⟨A2, c3, rfl, hown, hbl⟩
  have hB3 := (hB2.alloc (.cells #[.slice A rest.length c2, .slice B b.length c] 22)).below hbl (hB2.alloc _).lt
  have ho3 := (ho2.alloc (.cells #[.slice A rest.length c2, .slice B b.length c] 22)).after hbl
  have hcap := own_cap hown
  have hap2 : ∀ a, A2 = some a → a.block ≠ sb := fun a ha e => by
    subst ha
    have h1 := (hown.lt a.block rfl).1
    have h2 := (hB2.alloc (.cells #[.slice A rest.length c2, .slice B b.length c] 22)).lt
    omega
  have hrd := Reads.of_own hown
  have HO := Lib.hid hrd
  have HAP := Lib.hid hap2
  have HB3 := Lib.hid hB3
  have HO3 := Lib.hid ho3
  have HCP := Lib.hid hcap
  clear hown hB3 ho3 hC hB2 hR2 hb2 ho2 HB HR RB c8 c9 f8 hcap hap2 hbl hsz hrd hap hbp
  go_wp2_with fail
  go_loopw [4] (fun v wr => ∃ (t : St) (l : List UInt8) (A' : Option Addr) (c' : Nat), v = .slice A' l.length c' ∧ absorb s (rest ++ b) = absorb t l ∧ Blk wr sb 66 (strm t n' (.slice A rest.length c2)) ∧ Reads wr A' l.length (l.map u8v) ∧ (∀ a, A' = some a → a.block ≠ sb) ∧ l.length ≤ c' ∧ c' ≤ maxLen ∧ l.length ≤ (rest ++ b).length ∧ Only [sb] w wr) (fun v _ => match v with | .slice _ k _ => k | _ => 0)
  case atStart => exact ⟨s, rest ++ b, A2, c3, by rw [List.length_append], rfl, HB3.out, HO.out, HAP.out, HCP.out.1, HCP.out.2, Nat.le_refl _, HO3.out⟩
  case round =>
    clear HB3 HO HAP HCP HO3
    obtain ⟨t, l, A', c', rfl, hab, hB, hR, hap, hc1, hc2, hl, ho⟩ := hrel
    have HAB := Lib.hid hab
    have HB := Lib.hid hB
    have HR := Lib.hid hR
    have HAP := Lib.hid hap
    have HO := Lib.hid ho
    unfold maxLen at hc2
    clear hab hR hap ho
    by_cases hlt : 64 ≤ l.length
    · have hbs := hB.lt
      clear hB
      go_upto_region 5 with fail
      obtain ⟨T, F, hF, hFs⟩ := family (Below wr.heap.size wr)
      have d0 : ∀ x, (F x).cell? ⟨sb, 0, none⟩ = some (u32v t.a) := fun x => strm_c0 (HB.out.below (hF x) hbs)
      have d1 : ∀ x, (F x).cell? ⟨sb, 1, none⟩ = some (u32v t.b) := fun x => strm_c1 (HB.out.below (hF x) hbs)
      have d2 : ∀ x, (F x).cell? ⟨sb, 2, none⟩ = some (u32v t.c) := fun x => strm_c2 (HB.out.below (hF x) hbs)
      have d3 : ∀ x, (F x).cell? ⟨sb, 3, none⟩ = some (u32v t.d) := fun x => strm_c3 (HB.out.below (hF x) hbs)
      have d4 : ∀ x, (F x).cell? ⟨sb, 4, none⟩ = some (u32v t.e) := fun x => strm_c4 (HB.out.below (hF x) hbs)
      have d5 : ∀ x, (F x).cell? ⟨sb, 5, none⟩ = some (u32v t.f) := fun x => strm_c5 (HB.out.below (hF x) hbs)
      have d6 : ∀ x, (F x).cell? ⟨sb, 6, none⟩ = some (u32v t.g) := fun x => strm_c6 (HB.out.below (hF x) hbs)
      have d7 : ∀ x, (F x).cell? ⟨sb, 7, none⟩ = some (u32v t.h) := fun x => strm_c7 (HB.out.below (hF x) hbs)
      have HF := Lib.hid hF
      have HFS := Lib.hid hFs
      have h0 : ∃ x, F x = wr.drew := (hFs _ (Below.refl _ _).drew).imp fun _ h => h.symm
      have hmix := fun x => (mix_c t A' c' (l.take 64) (F x) (by omega) (by omega) (by rw [List.map_take]; exact (HR.out.below (HF.out x)).take (by omega))).mono fun e w' h => (⟨h.1, HFS.out _ ((HF.out x).trans (h.2.mono (HF.out x).size))⟩ : e = _ ∧ ∃ y, w' = F y)
      have HM := Lib.hid hmix
      clear hF hFs hmix
      refine wp_region_fam_tail F 8 (by kernel_rfl) (by kernel_rfl) h0 ?_
      simp only [List.take_succ_cons, List.take_zero, List.drop_succ_cons, List.drop_zero]
      haveI : Nonempty T := by obtain ⟨x, _⟩ := h0; exact ⟨x⟩
      repeat (go_big_quiet_step (exact HM.out _))
      refine wpQuiet_nil ?_
      intro x
      have hb3 := HB.out.below (HF.out x) hbs
      have hr3 := HR.out.below (HF.out x)
      have ho3 := HO.out.after (HF.out x)
      have g0 := strm_c0 hb3
      have f0 := hb3.frozen 0
      have f1 := hb3.frozen 1
      have f2 := hb3.frozen 2
      have f3 := hb3.frozen 3
      have f4 := hb3.frozen 4
      have f5 := hb3.frozen 5
      have f6 := hb3.frozen 6
      have f7 := hb3.frozen 7
      have e0 := strm_c0 hb3
      have e1 := strm_c1 hb3
      have e2 := strm_c2 hb3
      have e3 := strm_c3 hb3
      have e4 := strm_c4 hb3
      have e5 := strm_c5 hb3
      have e6 := strm_c6 hb3
      have e7 := strm_c7 hb3
      have HB3 := Lib.hid hb3
      have HR3 := Lib.hid hr3
      have HO3 := Lib.hid ho3
      clear hb3 hr3 ho3 d0 d1 d2 d3 d4 d5 d6 d7 h0
      clear HM HFS
      have hab2 := absorb_more t l hlt
      have HAB2 := Lib.hid hab2
      clear hab2
      generalize F x = w5 at *
      clear HF
      generalize mixS t (l.take 64) = t2 at *
      obtain ⟨ma, mb, mc, md, me, mf, mg, mh⟩ := t2
      have hv : (St.mk ma mb mc md me mf mg mh).vals = #[u32v ma, u32v mb, u32v mc, u32v md, u32v me, u32v mf, u32v mg, u32v mh] := rfl
      rw [hv]
      clear hv
      go_wp2_with fail
      go_roundw
      case rel =>
        refine ⟨⟨ma, mb, mc, md, me, mf, mg, mh⟩, l.drop 64, _, _, by rw [List.length_drop], HAB.out.trans HAB2.out, HB3.out.strmh ⟨ma, mb, mc, md, me, mf, mg, mh⟩, ?_, apart_drop HAP.out, by rw [List.length_drop]; omega, by unfold maxLen; omega, by rw [List.length_drop]; omega, only_set8w HO3.out (by simp) ⟨ma, mb, mc, md, me, mf, mg, mh⟩⟩
        rw [List.map_drop, List.length_drop]
        exact (HR3.out.drop_ (by omega) hc1).set8w (apart_drop HAP.out) ⟨ma, mb, mc, md, me, mf, mg, mh⟩
      case measure => simp; omega
    · have d9 := strm_c9 hB
      clear hB
      go_wp2_with fail
      refine (clone_c wr A' c' l HR.out (by rw [List.length_append] at hl; omega)).mono ?_
      rintro e w5 ⟨A5, c5, rfl, hown, hbl⟩
      have hlt5 := HB.out.lt
      have hb5 := HB.out.below hbl HB.out.lt
      have f9 := hb5.frozen 9
      have k9 := strm_c9 hb5
      have HB5 := Lib.hid hb5
      have hap5 : ∀ a, A5 = some a → a.block ≠ sb := fun a ha e => by
        subst ha
        have h1 := (hown.lt a.block rfl).1
        omega
      have HAP5 := Lib.hid hap5
      have hty : ∀ a, A5 = some a → ∃ cs fr, w5.heap[a.block]? = some (.cells cs 5 fr) := fun a ha => by
        subst ha
        rcases hown.2 with ⟨h, _⟩ | ⟨g, cap, cur, h, _, hh, _⟩
        · injection h with h; cases h
        · injection h with h; cases h; exact ⟨_, _, hh⟩
      have HTY := Lib.hid hty
      clear hty
      have HR5 := Lib.hid (Reads.of_own hown)
      have HO5 := Lib.hid (HO.out.after hbl)
      have hd := absorb_done t l hlt
      have HD := Lib.hid (HAB.out.trans hd)
      clear hown hbl hb5 hap5 hd HAB HB HR HAP HO
      go_wp2_with fail
      go_end0
      refine ⟨rfl, ?_, HO5.out.setCell (by simp) _⟩
      rw [HD.out, HN.out]
      exact ⟨A5, c5, HB5.out.strm9 _, HR5.out.setCell (fun a ha => HAP5.out a ha) _, fun a ha => ⟨HAP5.out a ha, by obtain ⟨cs, fr, h⟩ := HTY.out a ha; exact ⟨cs, fr, by rw [Below.heap_setCell w5 _ _ _ (HAP5.out a ha)]; exact h⟩⟩⟩
end Go.Proofs.Ytgadnliogceecaa
