/- A region that draws its order: its first operations, in a class of worlds that is the image of a function, each give one value; the others stand in one forced order. · A stream of bytes: Write. · A stream of bytes: Sum. · sha.Sum. · A new variable that is an array, and a value that is stored into it whole: one step. · The hash, reckoned by steps that are counted. · A stream as the bytes that were written to it. -/
import Derived.Test.YtpafenlcgcenlaaGreatDoorNorQ
import Derived.Test.YtpafenlcgcenlaaGreatDoorShaB
import Derived.Deep.MidRow
import Derived.Laws.Cover3
import Derived.Test.YtpafenlcgcenlaaGreatDoorBase
import Derived.Laws.Tables
import Derived.Lib.SlBytesConst
namespace Go.Proofs.YtpafenlcgcenlaaGreatDoor
open Go Go.RowKit
set_option linter.unusedVariables false
set_option linter.unusedSimpArgs false
theorem own_caps {w : World} {base : Nat} {e : TypeId} {A : Option Addr} {n c : Nat} {xs : List Value} (h : w.ownsRow base e 1 (.slice A n c) n xs) : n ≤ c ∧ c ≤ maxLen := by
  rcases h.2 with ⟨h1, h2⟩ | ⟨g, cap, cur, hv, _, _, h3, h4, _⟩
  · injection h1 with _ _ h1; subst h1; subst h2; exact ⟨Nat.le_refl _, by unfold maxLen; omega⟩
  · injection hv with _ _ hv; subst hv; exact ⟨h3, h4⟩
set_option maxRecDepth 100000 in
theorem swrite_c (w : World) (sb : Nat) (s : St) (n : UInt64) (rest : List UInt8) (B : Option Addr) (c : Nat) (b : List UInt8) (h : StreamAt w sb s n rest) (r : Reads w B b.length (b.map u8v)) (hbp : 0 < b.length → ∀ a, B = some a → a.block ≠ sb) (hr : rest.length ≤ 64) (hb : b.length ≤ 274877906944) :
    Calls Tryz.prog 58 #[.pointer (some ⟨sb, 0, none⟩), .slice B b.length c] w fun e w' => e = .returned (.tuple #[]) ∧ StreamAt w' sb (absorb s (rest ++ b)).1 (n + UInt64.ofNat b.length) (absorb s (rest ++ b)).2 ∧ Only [sb] w w' := by
  obtain ⟨A, c2, hB0, hR, hap⟩ := h.obj
  have hB : Blk w sb 157 (strm s n (.slice A rest.length c2)) := hB0
  have c8 := strm_c8 hB
  have c9 := strm_c9 hB
  have f8 := hB.frozen 8
  have HB := Lib.hid hB
  have HR := Lib.hid hR
  have RB := Lib.hid r
  clear h hB hR r hB0
  go_enter Tryz.func58, Tryz.ntmps58
  go_wp2_with fail
  have hcnt : IntKind.u64.wrap ((n.toNat : Int) + (b.length : Int)) = ((n + UInt64.ofNat b.length).toNat : Int) := by
    rw [← w64_len n b.length (by omega)]
    simp [IntKind.wrap, IntKind.bits, IntKind.signed]
  rw [hcnt]
  clear hcnt
  obtain ⟨n', hn'⟩ : ∃ n', n + UInt64.ofNat b.length = n' := ⟨_, rfl⟩
  rw [hn']
  have HN := Lib.hid hn'
  clear hn'
  have hB2 := HB.out.strm8 n'
  have hR2 : Reads (w.setCell ⟨sb, 8, none⟩ (u64v n')) A rest.length (rest.map u8v) := HR.out.setCell (fun a ha => (hap a ha).1) _
  have hb2 : Reads (w.setCell ⟨sb, 8, none⟩ (u64v n')) B b.length (b.map u8v) := RB.out.setCell0 hbp _
  have ho2 : Only [sb] w (w.setCell ⟨sb, 8, none⟩ (u64v n')) := (Only.refl _ _).setCell (by simp) _
  have hsz : (w.setCell ⟨sb, 8, none⟩ (u64v n')).heap.size = w.heap.size := by simp [World.setCell]
  generalize w.setCell ⟨sb, 8, none⟩ (.int .u64 n'.toNat) = w1 at hB2 hR2 hb2 ho2 hsz ⊢
  rw [← hsz]
  have hC := Blk.new w1 22 #[.slice A rest.length c2, .slice B b.length c]
  refine (concat_c w1.heap.size 2 _ _ _ _ _ _ rest b _ (by rw [hC.cell]; rfl) (by rw [hC.cell]; rfl) hC.lt (hR2.alloc _) (hb2.alloc _) (by omega) (by omega)).mono ?_
  rintro e w2 ⟨A2, c3, rfl, hown, hbl⟩
  have hB3 := (hB2.alloc (.cells #[.slice A rest.length c2, .slice B b.length c] 22)).below hbl (hB2.alloc _).lt
  have ho3 := (ho2.alloc (.cells #[.slice A rest.length c2, .slice B b.length c] 22)).after hbl
  have hcap := own_caps hown
  have hap2 : ∀ a, A2 = some a → a.block ≠ sb := fun a ha e => by
    subst ha
    have h1 := (hown.lt a.block rfl).1
    have h2 := (hB2.alloc (.cells #[.slice A rest.length c2, .slice B b.length c] 22)).lt
    omega
  have hrd := Reads.of_own hown
  have HO := Lib.hid hrd
  have HAP := Lib.hid hap2
  have HB3 := Lib.hid hB3
  have HO3 := Lib.hid ho3
  have HCP := Lib.hid hcap
  clear hown hB3 ho3 hC hB2 hR2 hb2 ho2 HB HR RB c8 c9 f8 hcap hap2 hbl hsz hrd hap hbp
  go_wp2_with fail
  go_loopw [4] (fun v wr => ∃ (t : St) (l : List UInt8) (A' : Option Addr) (c' : Nat), v = .slice A' l.length c' ∧ absorb s (rest ++ b) = absorb t l ∧ Blk wr sb 157 (strm t n' (.slice A rest.length c2)) ∧ Reads wr A' l.length (l.map u8v) ∧ (∀ a, A' = some a → a.block ≠ sb) ∧ l.length ≤ c' ∧ c' ≤ maxLen ∧ l.length ≤ (rest ++ b).length ∧ Only [sb] w wr) (fun v _ => match v with | .slice _ k _ => k | _ => 0)
  case atStart => exact ⟨s, rest ++ b, A2, c3, by rw [List.length_append], rfl, HB3.out, HO.out, HAP.out, HCP.out.1, HCP.out.2, Nat.le_refl _, HO3.out⟩
  case round =>
    clear HB3 HO HAP HCP HO3
    obtain ⟨t, l, A', c', rfl, hab, hB, hR, hap, hc1, hc2, hl, ho⟩ := hrel
    have HAB := Lib.hid hab
    have HB := Lib.hid hB
    have HR := Lib.hid hR
    have HAP := Lib.hid hap
    have HO := Lib.hid ho
    unfold maxLen at hc2
    clear hab hR hap ho
    by_cases hlt : 64 ≤ l.length
    · have hbs := hB.lt
      clear hB
      go_upto_region 5 with fail
      obtain ⟨T, F, hF, hFs⟩ := family (Below wr.heap.size wr)
      have d0 : ∀ x, (F x).cell? ⟨sb, 0, none⟩ = some (u32v t.a) := fun x => strm_c0 (HB.out.below (hF x) hbs)
      have d1 : ∀ x, (F x).cell? ⟨sb, 1, none⟩ = some (u32v t.b) := fun x => strm_c1 (HB.out.below (hF x) hbs)
      have d2 : ∀ x, (F x).cell? ⟨sb, 2, none⟩ = some (u32v t.c) := fun x => strm_c2 (HB.out.below (hF x) hbs)
      have d3 : ∀ x, (F x).cell? ⟨sb, 3, none⟩ = some (u32v t.d) := fun x => strm_c3 (HB.out.below (hF x) hbs)
      have d4 : ∀ x, (F x).cell? ⟨sb, 4, none⟩ = some (u32v t.e) := fun x => strm_c4 (HB.out.below (hF x) hbs)
      have d5 : ∀ x, (F x).cell? ⟨sb, 5, none⟩ = some (u32v t.f) := fun x => strm_c5 (HB.out.below (hF x) hbs)
      have d6 : ∀ x, (F x).cell? ⟨sb, 6, none⟩ = some (u32v t.g) := fun x => strm_c6 (HB.out.below (hF x) hbs)
      have d7 : ∀ x, (F x).cell? ⟨sb, 7, none⟩ = some (u32v t.h) := fun x => strm_c7 (HB.out.below (hF x) hbs)
      have HF := Lib.hid hF
      have HFS := Lib.hid hFs
      have h0 : ∃ x, F x = wr.drew := (hFs _ (Below.refl _ _).drew).imp fun _ h => h.symm
      have hmix := fun x => (mix_c t A' c' (l.take 64) (F x) (by omega) (by omega) (by rw [List.map_take]; exact (HR.out.below (HF.out x)).take (by omega))).mono fun e w' h => (⟨h.1, HFS.out _ ((HF.out x).trans (h.2.mono (HF.out x).size))⟩ : e = _ ∧ ∃ y, w' = F y)
      have HM := Lib.hid hmix
      clear hF hFs hmix
      refine wp_region_fam_tail F 8 (by kernel_rfl) (by kernel_rfl) h0 ?_
      simp only [List.take_succ_cons, List.take_zero, List.drop_succ_cons, List.drop_zero]
      haveI : Nonempty T := by obtain ⟨x, _⟩ := h0; exact ⟨x⟩
      repeat (go_big_quiet_step (exact HM.out _))
      refine wpQuiet_nil ?_
      intro x
      have hb3 := HB.out.below (HF.out x) hbs
      have hr3 := HR.out.below (HF.out x)
      have ho3 := HO.out.after (HF.out x)
      have g0 := strm_c0 hb3
      have f0 := hb3.frozen 0
      have f1 := hb3.frozen 1
      have f2 := hb3.frozen 2
      have f3 := hb3.frozen 3
      have f4 := hb3.frozen 4
      have f5 := hb3.frozen 5
      have f6 := hb3.frozen 6
      have f7 := hb3.frozen 7
      have e0 := strm_c0 hb3
      have e1 := strm_c1 hb3
      have e2 := strm_c2 hb3
      have e3 := strm_c3 hb3
      have e4 := strm_c4 hb3
      have e5 := strm_c5 hb3
      have e6 := strm_c6 hb3
      have e7 := strm_c7 hb3
      have HB3 := Lib.hid hb3
      have HR3 := Lib.hid hr3
      have HO3 := Lib.hid ho3
      clear hb3 hr3 ho3 d0 d1 d2 d3 d4 d5 d6 d7 h0
      clear HM HFS
      have hab2 := absorb_more t l hlt
      have HAB2 := Lib.hid hab2
      clear hab2
      generalize F x = w5 at *
      clear HF
      generalize mixS t (l.take 64) = t2 at *
      obtain ⟨ma, mb, mc, md, me, mf, mg, mh⟩ := t2
      have hv : (St.mk ma mb mc md me mf mg mh).vals = #[u32v ma, u32v mb, u32v mc, u32v md, u32v me, u32v mf, u32v mg, u32v mh] := rfl
      rw [hv]
      clear hv
      go_wp2_with fail
      go_roundw
      case rel =>
        refine ⟨⟨ma, mb, mc, md, me, mf, mg, mh⟩, l.drop 64, _, _, by rw [List.length_drop], HAB.out.trans HAB2.out, HB3.out.strmh ⟨ma, mb, mc, md, me, mf, mg, mh⟩, ?_, apart_drop HAP.out, by rw [List.length_drop]; omega, by unfold maxLen; omega, by rw [List.length_drop]; omega, only_set8w HO3.out (by simp) ⟨ma, mb, mc, md, me, mf, mg, mh⟩⟩
        rw [List.map_drop, List.length_drop]
        exact (HR3.out.drop_ (by omega) hc1).set8w (apart_drop HAP.out) ⟨ma, mb, mc, md, me, mf, mg, mh⟩
      case measure => simp; omega
    · have d9 := strm_c9 hB
      clear hB
      go_wp2_with fail
      refine (clone_c wr A' c' l HR.out (by rw [List.length_append] at hl; omega)).mono ?_
      rintro e w5 ⟨A5, c5, rfl, hown, hbl⟩
      have hlt5 := HB.out.lt
      have hb5 := HB.out.below hbl HB.out.lt
      have f9 := hb5.frozen 9
      have k9 := strm_c9 hb5
      have HB5 := Lib.hid hb5
      have hap5 : ∀ a, A5 = some a → a.block ≠ sb := fun a ha e => by
        subst ha
        have h1 := (hown.lt a.block rfl).1
        omega
      have HAP5 := Lib.hid hap5
      have hty : ∀ a, A5 = some a → ∃ cs fr, w5.heap[a.block]? = some (.cells cs 5 fr) := fun a ha => by
        subst ha
        rcases hown.2 with ⟨h, _⟩ | ⟨g, cap, cur, h, _, hh, _⟩
        · injection h with h; cases h
        · injection h with h; cases h; exact ⟨_, _, hh⟩
      have HTY := Lib.hid hty
      clear hty
      have HR5 := Lib.hid (Reads.of_own hown)
      have HO5 := Lib.hid (HO.out.after hbl)
      have hd := absorb_done t l hlt
      have HD := Lib.hid (HAB.out.trans hd)
      clear hown hbl hb5 hap5 hd HAB HB HR HAP HO
      go_wp2_with fail
      go_end0
      refine ⟨rfl, ?_, HO5.out.setCell (by simp) _⟩
      rw [HD.out, HN.out]
      exact ⟨A5, c5, HB5.out.strm9 _, HR5.out.setCell (fun a ha => HAP5.out a ha) _, fun a ha => ⟨HAP5.out a ha, by obtain ⟨cs, fr, h⟩ := HTY.out a ha; exact ⟨cs, fr, by rw [Below.heap_setCell w5 _ _ _ (HAP5.out a ha)]; exact h⟩⟩⟩
end Go.Proofs.YtpafenlcgcenlaaGreatDoor
namespace Go.Proofs.YtpafenlcgcenlaaGreatDoor
open Go Go.RowKit
set_option linter.unusedVariables false
set_option linter.unusedSimpArgs false
theorem info_b32 : (Tryz.prog.info? 39).map (·.size) = some 32 := by kernel_rfl
section
variable {P : Program}
theorem wpList_arrayAt {ops : Array Oper} {rest : List Oper} {op : Oper} {a : Act} {w : World} {Q : Exit → Act → World → Prop} (hgd : op.guard = none) (arr : TypeId) (x : Operand) (ho : op.op = .sliceToArrayPointer arr x)
    (A : Option Addr) (n len cap : Nat) (e : TypeId) (hx : a.eval x = .slice A len cap) (hu : P.underlying arr = some (.array n e)) (hn : n ≤ len)
    (h : wpList P ops Q rest (a.put op.dst (.pointer A)) w) : wpList P ops Q (op :: rest) a w :=
  wpList_plain hgd fun _ hK => by
    unfold Oper.wp execOp
    simp only [ho, hx, Sem.run_bind, run_arrayAt (P := P) w arr e n A len cap hu hn, Result.andThen_ok]
    exact hK _ _ h
end
theorem Reads.rangeAt {w : World} {b o n : Nat} {xs : List Value} (h : Reads w (some ⟨b, o, none⟩) n xs) : w.rangeAt b o xs := by
  intro j u hu
  by_cases hn : 0 < n
  · obtain ⟨b', o', e, _, hc⟩ := h.2 hn
    cases e
    exact hc j u hu
  · have : xs = [] := List.eq_nil_of_length_eq_zero (by have := h.1; omega)
    subst this
    simp at hu
/-- How many bytes 0 stand behind the byte 128. -/
def zk (r : Nat) : Nat := (119 - r % 64) % 64
/-- What is mixed in at the end. -/
def padded (n : UInt64) (rest : List UInt8) : List UInt8 := rest ++ (128 :: List.replicate (zk rest.length) 0) ++ long8 (n * 8)
def digest (s : St) (n : UInt64) (rest : List UInt8) : List UInt8 := told (absorb s (padded n rest)).1
@[reducible] def zero32 : Array Value := #[.int .u8 0, .int .u8 0, .int .u8 0, .int .u8 0, .int .u8 0, .int .u8 0, .int .u8 0, .int .u8 0, .int .u8 0, .int .u8 0, .int .u8 0, .int .u8 0, .int .u8 0, .int .u8 0, .int .u8 0, .int .u8 0, .int .u8 0, .int .u8 0, .int .u8 0, .int .u8 0, .int .u8 0, .int .u8 0, .int .u8 0, .int .u8 0, .int .u8 0, .int .u8 0, .int .u8 0, .int .u8 0, .int .u8 0, .int .u8 0, .int .u8 0, .int .u8 0]
set_option maxRecDepth 100000 in
theorem ssum_c (w : World) (sb : Nat) (s : St) (n : UInt64) (rest : List UInt8) (h : StreamAt w sb s n rest) (hr : rest.length ≤ 64) :
    Calls Tryz.prog 59 #[.pointer (some ⟨sb, 0, none⟩)] w fun e w' => e = .returned (.agg ((digest s n rest).map u8v).toArray) ∧ Below w.heap.size w w' := by
  obtain ⟨i0, hi, hz0, hz1, hz2⟩ := info_parts info_u8
  have HI := Lib.hid hi
  have HZ0 := Lib.hid hz0
  have HZ1 := Lib.hid hz1
  have HZ2 := Lib.hid hz2
  obtain ⟨A, c2, hB0, hR, hap⟩ := h.obj
  have hB : Blk w sb 157 (strm s n (.slice A rest.length c2)) := hB0
  have hlt := hB.lt
  have c8 := strm_c8 hB
  have c9 := strm_c9 hB
  have HB := Lib.hid hB
  have HR := Lib.hid hR
  clear h hB hR hB0 hi hz0 hz1 hz2
  go_enter Tryz.func59, Tryz.ntmps59
  go_wp2_with fail
  have hZ : Blk (w.alloc (.cells zero32 39)) w.heap.size 39 zero32 := Blk.new w _ _
  have hb1 : Below w.heap.size w (w.alloc (.cells zero32 39)) := (Below.refl _ _).alloc (Nat.le_refl _) _
  have hs1 : (w.alloc (.cells zero32 39)).heap.size = w.heap.size + 1 := by simp
  generalize w.alloc (.cells zero32 39) = w1 at hZ hb1 hs1 ⊢
  refine (clone_c w1 A c2 rest (HR.out.below hb1) (by omega)).mono ?_
  rintro e w2 ⟨A2, c3, rfl, hown, hbl⟩
  have hs2 := hbl.size
  have hb2 : Below (w.heap.size + 1) w1 w2 := hbl.mono (by omega)
  have hZ2 := hZ.below hb2 (by omega)
  have hb02 := hb1.trans (hb2.mono (by omega))
  have HO := Lib.hid (own_base hown (base' := w.heap.size + 1) (by omega))
  have HZ3 := Lib.hid hZ2
  have HB2 := Lib.hid hb02
  clear hZ hb1 hown hbl hb2 hZ2 hb02 c8 c9
  go_wp2_with (at_builtin; refine wpList_append_any _ rfl (.tmp 12) (.tmp 13) _ rfl (w.heap.size + 1) 5 i0 (.int .u8 0) 1 Tryz.underlying22 HI.out HZ0.out HZ1.out HZ2.out rfl _ rest.length (rest.map u8v) rfl (HO.out.alloc _) (some ⟨w2.heap.size, 0, none⟩) 1 1 [u8v 128] rfl ((Blk.new w2 5 #[u8v 128]).reads 0 (by simp)) (by intro u hu; simp at hu; subst hu; rfl) (by unfold maxLen; omega) (by omega) (by simp; omega) ?_; intro A3 c4 w3 hown3 hgrow3 hat3; have HO3 := Lib.hid hown3; have HG3 := Lib.hid hgrow3; clear hown3 hgrow3 hat3)
  have hl2 := HO.out.lt
  have hb3 := (HB2.out.alloc (by have := HB2.out.size; omega) (.cells #[u8v 128] 5)).grown HG3.out (by have := HB2.out.size; simp; omega) (fun g hg => by have := (hl2 g hg).1; omega)
  have hz3 := (HZ3.out.alloc (.cells #[u8v 128] 5)).grown HG3.out (fun e => by have := (hl2 w.heap.size e.symm).1; omega)
  have ho3 : w3.ownsRow (w.heap.size + 1) 5 1 (.slice A3 (rest.length + 1) c4) (rest.length + 1) ((rest ++ 128 :: List.replicate 0 0).map u8v) := by
    have := HO3.out
    simp at this ⊢
    exact this
  have HO4 := Lib.hid ho3
  have HB4 := Lib.hid hb3
  have HZ4 := Lib.hid hz3
  clear HO3 HG3 HZ3 HB2 HO hl2 hb3 hz3 ho3
  go_loopw [3] (fun v wr => ∃ (k : Nat) (A' : Option Addr) (c' : Nat), k ≤ zk rest.length ∧ v = .slice A' (rest.length + 1 + k) c' ∧ wr.ownsRow (w.heap.size + 1) 5 1 (.slice A' (rest.length + 1 + k) c') (rest.length + 1 + k) ((rest ++ 128 :: List.replicate k 0).map u8v) ∧ Below w.heap.size w wr ∧ Blk wr w.heap.size 39 zero32) (fun v _ => rest.length + 1 + zk rest.length - (match v with | .slice _ k _ => k | _ => 0))
  case atStart => exact ⟨0, A3, c4, Nat.zero_le _, rfl, HO4.out, HB4.out, HZ4.out⟩
  case round =>
    clear HO4 HB4 HZ4
    obtain ⟨k, A', c', hk, rfl, ho, hb, hz⟩ := hrel
    have HO := Lib.hid ho
    have HBW := Lib.hid hb
    have HZ := Lib.hid hz
    clear ho hb hz
    have hzk : zk rest.length < 64 := by unfold zk; omega
    by_cases hlt2 : k < zk rest.length
    · have hq : (((rest.length : Int) + 1 + (k : Int)) % 64 != 56) = true := by
        have h1 : ¬ (((rest.length : Int) + 1 + (k : Int)) % 64 = 56) := by unfold zk at hlt2; omega
        simpa using h1
      have hbs := HBW.out.size
      go_wp2_with (at_builtin; refine wpList_append_any _ rfl (.tmp 19) (.tmp 20) _ rfl (w.heap.size + 1) 5 i0 (.int .u8 0) 1 Tryz.underlying22 HI.out HZ0.out HZ1.out HZ2.out rfl _ (rest.length + 1 + k) ((rest ++ 128 :: List.replicate k 0).map u8v) rfl (HO.out.alloc _) (some ⟨wr.heap.size, 0, none⟩) 1 1 [u8v 0] rfl ((Blk.new wr 5 #[u8v 0]).reads 0 (by simp)) (by intro u hu; simp at hu; subst hu; rfl) (by unfold maxLen; omega) (by omega) (by have := HZ.out.lt; simp; omega) ?_; intro A3 c4 w3 hown3 hgrow3 hat3; have HO3 := Lib.hid hown3; have HG3 := Lib.hid hgrow3; clear hown3 hgrow3 hat3)
      have hl2 := HO.out.lt
      have hb3 := (HBW.out.alloc (by omega) (.cells #[u8v 0] 5)).grown HG3.out (by simp; omega) (fun g hg => by have := (hl2 g hg).1; omega)
      have hz3 := (HZ.out.alloc (.cells #[u8v 0] 5)).grown HG3.out (fun e => by have := (hl2 w.heap.size e.symm).1; omega)
      go_roundw
      case rel =>
        refine ⟨k + 1, A3, c4, hlt2, rfl, ?_, hb3, hz3⟩
        have e : (rest ++ 128 :: List.replicate (k + 1) 0).map u8v = (rest ++ 128 :: List.replicate k 0).map u8v ++ [u8v 0] := by rw [List.replicate_succ']; simp
        rw [e]
        exact HO3.out
      case measure => simp; omega
    · obtain rfl : k = zk rest.length := by omega
      have hq : (((rest.length : Int) + 1 + (zk rest.length : Nat)) % 64) = 56 := by unfold zk; omega
      have d0 := strm_c0 (HB.out.below HBW.out hlt)
      have d1 := strm_c1 (HB.out.below HBW.out hlt)
      have d2 := strm_c2 (HB.out.below HBW.out hlt)
      have d3 := strm_c3 (HB.out.below HBW.out hlt)
      have d4 := strm_c4 (HB.out.below HBW.out hlt)
      have d5 := strm_c5 (HB.out.below HBW.out hlt)
      have d6 := strm_c6 (HB.out.below HBW.out hlt)
      have d7 := strm_c7 (HB.out.below HBW.out hlt)
      have d8 := strm_c8 (HB.out.below HBW.out hlt)
      have hlt3 := (HB.out.below HBW.out hlt).lt
      go_wp2_with fail
      have hmul : IntKind.u64.wrap ((n.toNat : Int) * 8) = ((n * 8).toNat : Int) := by
        rw [UInt64.toNat_mul]
        simp [IntKind.wrap, IntKind.bits, IntKind.signed]
      rw [hmul]
      clear hmul
      have hs0 := HBW.out.size
      have hzl := HZ.out.lt
      have hv : Blk (wr.alloc (.cells s.vals 154)) wr.heap.size 154 s.vals := Blk.new wr _ _
      have ho4 := HO.out.alloc (.cells s.vals 154)
      have hz4 := HZ.out.alloc (.cells s.vals 154)
      have hb4 := HBW.out.alloc hs0 (.cells s.vals 154)
      have hs4 : (wr.alloc (.cells s.vals 154)).heap.size = wr.heap.size + 1 := by simp
      change Calls _ _ _ (wr.alloc (.cells s.vals 154)) _
      generalize wr.alloc (.cells s.vals 154) = w4 at hv ho4 hz4 hb4 hs4 ⊢
      refine (long_c (n * 8) w4).mono ?_
      rintro e w5 ⟨A5, c5, rfl, hown5, hbl5⟩
      have hs5 := hbl5.size
      have hll : (long8 (n * 8)).length = 8 := rfl
      have hv5 := hv.below hbl5 (by omega)
      have hz5 := hz4.below hbl5 (by omega)
      have hb5 := hb4.trans (hbl5.mono (by omega))
      have ho5 := own_only ho4 (Only.of_below (S := []) hbl5) (by simp)
      have hr5 := Reads.of_own hown5
      rw [hll] at hr5 hown5 ⊢
      have HV5 := Lib.hid hv5
      have HZ5 := Lib.hid hz5
      have HB5 := Lib.hid hb5
      have HO5 := Lib.hid ho5
      have HR5 := Lib.hid hr5
      clear hv ho4 hz4 hb4 hown5 hbl5 hll hv5 hz5 hb5 ho5 hr5 d0 d1 d2 d3 d4 d5 d6 d7 d8
      go_upto_region 7 with (at_builtin; refine wpList_append_any _ rfl (.tmp 26) (.tmp 32) _ rfl (w.heap.size + 1) 5 i0 (.int .u8 0) 1 Tryz.underlying22 HI.out HZ0.out HZ1.out HZ2.out rfl _ (rest.length + 1 + zk rest.length) ((rest ++ 128 :: List.replicate (zk rest.length) 0).map u8v) ?_ HO5.out A5 8 c5 ((long8 (n * 8)).map u8v) ?_ HR5.out (u8v_one _) ?_ ?_ ?_ ?_)
      · rfl
      · rfl
      · unfold maxLen; omega
      · omega
      · omega
      intro A6 c6 w6 hown6 hgrow6 hat6
      have hl5 := HO5.out.lt
      have hb6 := HB5.out.grown hgrow6 (by omega) (fun g hg => by have := (hl5 g hg).1; omega)
      have hz6 := HZ5.out.grown hgrow6 (fun e => by have := (hl5 w.heap.size e.symm).1; omega)
      have hv6 := HV5.out.grown hgrow6 (fun e => by have := (HO.out.lt wr.heap.size e.symm).2; omega)
      have ha6 : ∀ a, A6 = some a → a.block ≠ wr.heap.size := fun a ha e => by
        subst ha
        rcases hat6 a rfl with h | h
        · have := (HO.out.lt a.block h).2; omega
        · omega
      have hpl : (padded n rest).length = rest.length + 1 + zk rest.length + 8 := by
        have hll : (long8 (n * 8)).length = 8 := rfl
        simp only [padded, List.length_append, List.length_cons, List.length_replicate, hll]; omega
      have hc6 := own_caps hown6
      have hr6 : Reads w6 A6 (padded n rest).length ((padded n rest).map u8v) := by
        have h := Reads.of_own hown6
        have e : (padded n rest).map u8v = (rest.map u8v ++ u8v 128 :: (List.replicate (zk rest.length) (u8v 0) ++ (long8 (n * 8)).map u8v)) := by simp [padded]
        rw [hpl, e]; clear e
        exact h
      rw [← hpl] at hc6 ⊢
      have HV6 := Lib.hid hv6
      have HZ6 := Lib.hid hz6
      have HB6 := Lib.hid hb6
      have HR6 := Lib.hid hr6
      have HA6 := Lib.hid ha6
      have HC6 := Lib.hid hc6
      have hzb : w.heap.size < wr.heap.size := hzl
      clear hv6 hz6 hb6 hr6 ha6 hc6 hown6 hgrow6 hat6 HV5 HZ5 HB5 HO5 HR5 hl5 HO HBW HZ hs5 hs4 HB HR
      generalize wr.heap.size = hb at *
      have hpm : (padded n rest).length % 64 = 0 := by rw [hpl]; unfold zk; omega
      have hpl2 : (padded n rest).length ≤ 1000 := by rw [hpl]; omega
      clear hpl hq hlt3
      generalize hpe : padded n rest = pl at *
      have HPE := Lib.hid hpe
      clear hpe
      go_wp2_with fail
      go_loopw [3] (fun v wx => ∃ (t : St) (l : List UInt8) (A' : Option Addr) (c' : Nat), v = .slice A' l.length c' ∧ absorb s pl = absorb t l ∧ l.length % 64 = 0 ∧ l.length ≤ 1000 ∧ Reads wx A' l.length (l.map u8v) ∧ (∀ a, A' = some a → a.block ≠ hb) ∧ l.length ≤ c' ∧ c' ≤ maxLen ∧ Blk wx hb 154 t.vals ∧ Blk wx w.heap.size 39 zero32 ∧ Below w.heap.size w wx) (fun v _ => match v with | .slice _ k _ => k | _ => 0)
      case atStart => exact ⟨s, pl, A6, c6, rfl, rfl, hpm, hpl2, HR6.out, HA6.out, HC6.out.1, HC6.out.2, HV6.out, HZ6.out, HB6.out⟩
      case round =>
        clear HR6 HA6 HC6 HV6 HZ6 HB6 hpm hpl2
        obtain ⟨t, l, A', c', rfl, hab, hmod, hl, hR, hap, hc1, hc2, hv, hz, hbw⟩ := hrel
        have HAB := Lib.hid hab
        have HR := Lib.hid hR
        have HAP := Lib.hid hap
        have HV := Lib.hid hv
        have HZ := Lib.hid hz
        have HBW := Lib.hid hbw
        unfold maxLen at hc2
        have hbs := hv.lt
        clear hab hR hap hv hz hbw
        by_cases hlt : 64 ≤ l.length
        · have hpos : 0 < l.length := by omega
          go_upto_region 10 with fail
          obtain ⟨T, F, hF, hFs⟩ := family (Below wr.heap.size wr)
          have d0 : ∀ x, (F x).cell? ⟨hb, 0, none⟩ = some (u32v t.a) := fun x => by rw [(HV.out.below (hF x) hbs).cell]; rfl
          have d1 : ∀ x, (F x).cell? ⟨hb, 1, none⟩ = some (u32v t.b) := fun x => by rw [(HV.out.below (hF x) hbs).cell]; rfl
          have d2 : ∀ x, (F x).cell? ⟨hb, 2, none⟩ = some (u32v t.c) := fun x => by rw [(HV.out.below (hF x) hbs).cell]; rfl
          have d3 : ∀ x, (F x).cell? ⟨hb, 3, none⟩ = some (u32v t.d) := fun x => by rw [(HV.out.below (hF x) hbs).cell]; rfl
          have d4 : ∀ x, (F x).cell? ⟨hb, 4, none⟩ = some (u32v t.e) := fun x => by rw [(HV.out.below (hF x) hbs).cell]; rfl
          have d5 : ∀ x, (F x).cell? ⟨hb, 5, none⟩ = some (u32v t.f) := fun x => by rw [(HV.out.below (hF x) hbs).cell]; rfl
          have d6 : ∀ x, (F x).cell? ⟨hb, 6, none⟩ = some (u32v t.g) := fun x => by rw [(HV.out.below (hF x) hbs).cell]; rfl
          have d7 : ∀ x, (F x).cell? ⟨hb, 7, none⟩ = some (u32v t.h) := fun x => by rw [(HV.out.below (hF x) hbs).cell]; rfl
          have HF := Lib.hid hF
          have HFS := Lib.hid hFs
          have h0 : ∃ x, F x = wr.drew := (hFs _ (Below.refl _ _).drew).imp fun _ h => h.symm
          haveI : Nonempty T := by obtain ⟨x, _⟩ := h0; exact ⟨x⟩
          have hmix := fun x => (mix_c t A' c' (l.take 64) (F x) (by omega) (by omega) (by rw [List.map_take]; exact (HR.out.below (HF.out x)).take (by omega))).mono fun e w' h => (⟨h.1, HFS.out _ ((HF.out x).trans (h.2.mono (HF.out x).size))⟩ : e = _ ∧ ∃ y, w' = F y)
          have HM := Lib.hid hmix
          clear hF hFs hmix
          refine wp_region_fam_tail F 4 (by kernel_rfl) (by kernel_rfl) h0 ?_
          simp only [List.take_succ_cons, List.take_zero, List.drop_succ_cons, List.drop_zero]
          repeat (go_big_quiet_step (exact HM.out _))
          refine wpQuiet_nil ?_
          intro x
          have hb3 := HV.out.below (HF.out x) hbs
          have hr3 := HR.out.below (HF.out x)
          have hz3 := HZ.out.below (HF.out x) (by omega)
          have hw3 := HBW.out.trans ((HF.out x).mono HBW.out.size)
          have f0 := hb3.frozen 0
          have f1 := hb3.frozen 1
          have f2 := hb3.frozen 2
          have f3 := hb3.frozen 3
          have f4 := hb3.frozen 4
          have f5 := hb3.frozen 5
          have f6 := hb3.frozen 6
          have f7 := hb3.frozen 7
          have e0 := d0 x
          have e1 := d1 x
          have e2 := d2 x
          have e3 := d3 x
          have e4 := d4 x
          have e5 := d5 x
          have e6 := d6 x
          have e7 := d7 x
          have HB3 := Lib.hid hb3
          have HR3 := Lib.hid hr3
          have HZ3 := Lib.hid hz3
          have HW3 := Lib.hid hw3
          clear hb3 hr3 hz3 hw3 d0 d1 d2 d3 d4 d5 d6 d7 h0
          clear HM HFS
          have hab2 := absorb_more t l hlt
          have HAB2 := Lib.hid hab2
          clear hab2
          generalize F x = w7 at *
          clear HF
          generalize mixS t (l.take 64) = t2 at *
          obtain ⟨ma, mb, mc, md, me, mf, mg, mh⟩ := t2
          have hv : (St.mk ma mb mc md me mf mg mh).vals = #[u32v ma, u32v mb, u32v mc, u32v md, u32v me, u32v mf, u32v mg, u32v mh] := rfl
          rw [hv]
          clear hv
          go_wp2_with fail
          go_roundw
          case rel =>
            refine ⟨⟨ma, mb, mc, md, me, mf, mg, mh⟩, l.drop 64, _, _, by rw [List.length_drop], HAB.out.trans HAB2.out, by rw [List.length_drop]; omega, by rw [List.length_drop]; omega, ?_, apart_drop HAP.out, by rw [List.length_drop]; omega, by unfold maxLen; omega, ?_, HZ3.out.far8 (by omega), below_set8 HW3.out (by omega)⟩
            · rw [List.map_drop, List.length_drop]
              exact (HR3.out.drop_ (by omega) hc1).set8w (apart_drop HAP.out) ⟨ma, mb, mc, md, me, mf, mg, mh⟩
            · exact Blk.set8 (show Blk w7 hb 154 #[u32v t.a, u32v t.b, u32v t.c, u32v t.d, u32v t.e, u32v t.f, u32v t.g, u32v t.h] from HB3.out)
          case measure => simp; omega
        · have hl0 : l.length = 0 := by omega
          have hln : l = [] := List.eq_nil_of_length_eq_zero hl0
          subst hln
          have hd := absorb_done t [] (by simp)
          have HD := Lib.hid (HAB.out.trans hd)
          clear hd HAB
          have d0 : wr.cell? ⟨hb, 0, none⟩ = some (u32v t.a) := by rw [HV.out.cell]; rfl
          have d1 : wr.cell? ⟨hb, 1, none⟩ = some (u32v t.b) := by rw [HV.out.cell]; rfl
          have d2 : wr.cell? ⟨hb, 2, none⟩ = some (u32v t.c) := by rw [HV.out.cell]; rfl
          have d3 : wr.cell? ⟨hb, 3, none⟩ = some (u32v t.d) := by rw [HV.out.cell]; rfl
          have d4 : wr.cell? ⟨hb, 4, none⟩ = some (u32v t.e) := by rw [HV.out.cell]; rfl
          have d5 : wr.cell? ⟨hb, 5, none⟩ = some (u32v t.f) := by rw [HV.out.cell]; rfl
          have d6 : wr.cell? ⟨hb, 6, none⟩ = some (u32v t.g) := by rw [HV.out.cell]; rfl
          have d7 : wr.cell? ⟨hb, 7, none⟩ = some (u32v t.h) := by rw [HV.out.cell]; rfl
          go_wp2_with fail
          refine (told_c t wr).mono ?_
          rintro e w8 ⟨A8, c8, rfl, hown8, hbl8⟩
          rw [told_len] at hown8 ⊢
          obtain ⟨g, cap, hv8, hu8, hlt8⟩ := hown8.form (by omega)
          have hA8 : A8 = some ⟨g, 0, none⟩ := by injection hv8
          subst hA8
          have hr8 := (Reads.of_own hown8).rangeAt
          have hz8 := HZ.out.below hbl8 (by omega)
          have hw8 := HBW.out.trans (hbl8.mono HBW.out.size)
          have hbytes : (((told t).map u8v).toArray).all (·.oneCell') = true := by
            simp only [List.all_toArray, List.all_map, List.all_eq_true, Function.comp]
            intro x _
            rfl
          have hfin : told t = digest s n rest := by unfold digest; rw [HPE.out, HD.out]
          have HFN := Lib.hid hfin
          have HR8 := Lib.hid hr8
          have HZ8 := Lib.hid hz8
          have HW8 := Lib.hid hw8
          clear hfin hr8 hz8 hw8 hown8 hbl8 HD HPE d0 d1 d2 d3 d4 d5 d6 d7
          rename_i K hK
          show K _ _
          refine hK _ _ ?_
          refine wpList_arrayAt rfl 39 (.tmp 44) rfl (some ⟨g, 0, none⟩) 32 32 c8 5 rfl Tryz.underlying39 (Nat.le_refl _) ?_
          refine wpList_load_mid rfl 39 (.tmp 45) rfl g 0 rfl ((told t).map u8v) _ HR8.out Tryz.underlying39 rfl info_b32 ?_
          refine wpList_store_row rfl 39 (.tmp 2) (.tmp 46) rfl w.heap.size ((told t).map u8v).toArray rfl rfl 39 zero32 HZ8.out info_b32 rfl hbytes ?_
          refine wpList_nil ?_
          rename_i K2 hK2
          show K2 _ _
          refine hK2 _ _ ?_
          go_wp2_with fail
          refine bodyPost_ret (results_cell_row rfl _ _ w.heap.size 39 ((told t).map u8v).toArray (0, 0) _ rfl (HZ8.out.setRow _) Tryz.underlying39 rfl info_b32) rfl ?_
          refine ⟨by rw [HFN.out], below_setRow HW8.out (Nat.le_refl _) _⟩
end Go.Proofs.YtpafenlcgcenlaaGreatDoor
namespace Go.Proofs.YtpafenlcgcenlaaGreatDoor
open Go Go.RowKit
set_option linter.unusedVariables false
set_option linter.unusedSimpArgs false
theorem absorb_rest (s : St) (l : List UInt8) : (absorb s l).2.length < 64 := by
  induction h : l.length using Nat.strongRecOn generalizing s l with
  | _ n ih =>
    by_cases h64 : 64 ≤ l.length
    · rw [absorb_more s l h64]
      exact ih (l.drop 64).length (by rw [List.length_drop]; omega) _ _ rfl
    · rw [absorb_done s l h64]; show l.length < 64; omega
/-- The hash of some bytes. -/
def sha (b : List UInt8) : List UInt8 := digest (absorb St.first b).1 (UInt64.ofNat b.length) (absorb St.first b).2
theorem sha_len (b : List UInt8) : (sha b).length = 32 := told_len _
theorem bytes_one (l : List UInt8) : ((l.map u8v).toArray).all (·.oneCell') = true := by
  simp only [List.all_toArray, List.all_map, List.all_eq_true, Function.comp]
  intro x _
  rfl
set_option maxRecDepth 100000 in
theorem sum_c (w : World) (B : Option Addr) (c : Nat) (b : List UInt8) (r : Reads w B b.length (b.map u8v)) (hb : b.length ≤ 274877906944) :
    Calls Tryz.prog 27 #[.slice B b.length c] w fun e w' => e = .returned (.agg ((sha b).map u8v).toArray) ∧ Below w.heap.size w w' := by
  have R := Lib.hid r
  clear r
  go_enter Tryz.func27, Tryz.ntmps27
  go_wp2_with fail
  have hZ : Blk (w.alloc (.cells zero32 39)) w.heap.size 39 zero32 := Blk.new w _ _
  have hb1 : Below w.heap.size w (w.alloc (.cells zero32 39)) := (Below.refl _ _).alloc (Nat.le_refl _) _
  have hs1 : (w.alloc (.cells zero32 39)).heap.size = w.heap.size + 1 := by simp
  generalize w.alloc (.cells zero32 39) = w1 at hZ hb1 hs1 ⊢
  refine (snew_c w1).mono ?_
  rintro e w2 ⟨sb, rfl, hst, hsb, hb2⟩
  have hs2 := hb2.size
  have HZ2 := Lib.hid (hZ.below hb2 (by omega))
  have HB2 := Lib.hid (hb1.trans (hb2.mono (by omega)))
  have HR2 := Lib.hid (R.out.below (hb1.trans (hb2.mono (by omega))))
  have HST := Lib.hid hst
  clear hZ hb1 hb2 hst
  go_wp2_with fail
  refine (swrite_c w2 sb St.first 0 [] B c b HST.out HR2.out (fun h0 a ha => by have := R.out.lt h0 a ha; omega) (by simp) hb).mono ?_
  rintro e w3 ⟨rfl, hst3, ho3⟩
  have hz3 := HZ2.out.only ho3 (by simp; omega)
  have hb3 := ho3.below HB2.out (by omega) (fun k hk => by simp at hk; omega)
  have hlen := absorb_rest St.first b
  have hst4 : StreamAt w3 sb (absorb St.first b).1 (UInt64.ofNat b.length) (absorb St.first b).2 := by
    have := hst3
    rw [List.nil_append, UInt64.zero_add] at this
    exact this
  have HZ3 := Lib.hid hz3
  have HB3 := Lib.hid hb3
  have HST4 := Lib.hid hst4
  clear hz3 hb3 hst4 hst3 ho3 HZ2 HB2 HST HR2 R
  go_wp2_with fail
  refine (ssum_c w3 sb _ _ _ HST4.out (by omega)).mono ?_
  rintro e w4 ⟨rfl, hb4⟩
  have hs3 := HB3.out.size
  have hz4 := HZ3.out.below hb4 HZ3.out.lt
  have hb5 := HB3.out.trans (hb4.mono hs3)
  have HZ4 := Lib.hid hz4
  have HB4 := Lib.hid hb5
  clear hz4 hb5 hb4 HZ3 HB3 HST4
  change Hid _ at HZ4
  obtain ⟨d, hd⟩ : ∃ d, digest (absorb St.first b).1 (UInt64.ofNat b.length) (absorb St.first b).2 = d := ⟨_, rfl⟩
  have hdl : d.length = 32 := by rw [← hd]; exact told_len _
  have hsd : sha b = d := hd
  rw [hd]
  have HSD := Lib.hid hsd
  clear hd hsd
  rename_i K hK
  refine hK _ _ ?_
  have hcs : ((d.map u8v).toArray).size = 32 := by simp [hdl]
  refine wpList_store_row rfl 39 (.tmp 2) (.tmp 9) rfl w.heap.size (d.map u8v).toArray rfl rfl 39 zero32 HZ4.out (by rw [hcs]; exact info_b32) (by rw [hcs]; rfl) (bytes_one d) ?_
  refine wpList_nil ?_
  rename_i K2 hK2
  show K2 _ _
  refine hK2 _ _ ?_
  go_wp2_with fail
  refine bodyPost_ret (results_cell_row rfl _ _ w.heap.size 39 (d.map u8v).toArray (0, 0) _ rfl (HZ4.out.setRow _) Tryz.underlying39 rfl (by rw [hcs]; exact info_b32)) rfl ?_
  exact ⟨by rw [HSD.out], below_setRow HB4.out (Nat.le_refl _) _⟩
end Go.Proofs.YtpafenlcgcenlaaGreatDoor
namespace Go.Proofs.YtpafenlcgcenlaaGreatDoor
open Go Go.RowKit
set_option linter.unusedVariables false
section
variable {P : Program}
theorem run_alloc_z (w : World) (ty : TypeId) (z : Value) (hz : (P.info? ty).map (·.zero) = some (some z)) :
    (Instr.alloc ty true (.tuple #[])).run P w = .ok (.pointer (some ⟨w.heap.size, 0, none⟩)) (w.alloc (.cells z.cells ty)) := by
  cases hq : P.info? ty with
  | none => simp [hq] at hz
  | some i =>
    have hz' : i.zero = some z := by simpa [hq] using hz
    simp [Instr.alloc, zeroValue, typeInfo, hq, hz', newVar, newRow]
theorem alloc_setRow (w : World) (t : TypeId) (a b : Array Value) : (w.alloc (.cells a t)).setRow w.heap.size b = w.alloc (.cells b t) := by
  unfold World.setRow World.alloc
  simp only
  congr 1
  apply Array.ext
  · simp
  · intro i h1 h2
    simp only [Array.getElem_modify, Array.getElem_push]
    by_cases h : w.heap.size = i
    · subst h; simp
    · have : i < w.heap.size := by simp at h1; omega
      simp [h, this]
theorem wpList_alloc_store {ops : Array Oper} {rest : List Oper} {o1 o2 : Oper} {a : Act} {w : World} {Q : Exit → Act → World → Prop} (hg1 : o1.guard = none) (hg2 : o2.guard = none) (ty : TypeId) (ho1 : o1.op = .alloc ty) (p : Tmp) (hd1 : o1.dst = some p)
    (x y : Operand) (ho2 : o2.op = .store ty x y) (hd2 : o2.dst = none) (z : Value) (hz : (P.info? ty).map (·.zero) = some (some z)) (cells : Array Value) (hi : (P.info? ty).map (·.size) = some cells.size) (hold : z.cells.size = cells.size) (h1 : cells.all (·.oneCell') = true)
    (hx : (a.put (some p) (.pointer (some ⟨w.heap.size, 0, none⟩))).eval x = .pointer (some ⟨w.heap.size, 0, none⟩)) (hy : (a.put (some p) (.pointer (some ⟨w.heap.size, 0, none⟩))).eval y = .agg cells)
    (h : wpList P ops Q rest (a.put (some p) (.pointer (some ⟨w.heap.size, 0, none⟩))) (w.alloc (.cells cells ty))) : wpList P ops Q (o1 :: o2 :: rest) a w := by
  refine wpList_plain hg1 fun K hK => ?_
  unfold Oper.wp execOp
  simp only [ho1, Sem.run_bind, run_alloc_z w ty z hz, Result.andThen_ok, Sem.run_pure, Oper.upon_value, hd1]
  refine hK _ _ ?_
  refine wpList_store_row hg2 ty x y ho2 w.heap.size cells hx hy ty z.cells (Blk.new w ty z.cells) hi hold h1 ?_
  rw [alloc_setRow, hd2]
  exact h
end
end Go.Proofs.YtpafenlcgcenlaaGreatDoor
namespace Go.Proofs.YtpafenlcgcenlaaGreatDoor
open Go Go.RowKit
set_option linter.unusedVariables false
set_option linter.unusedSimpArgs false
theorem sum_d (w : World) (B : Option Addr) (n c : Nat) (b d : List UInt8) (hd : sha b = d) (hn : b.length = n) (r : Reads w B n (b.map u8v)) (hb : n ≤ 274877906944) :
    Calls Tryz.prog 27 #[.slice B n c] w fun e w' => e = .returned (.agg (d.map u8v).toArray) ∧ Below w.heap.size w w' := by
  subst hn
  subst hd
  exact sum_c w B c b r hb
theorem info_z32 : (Tryz.prog.info? 39).map (·.zero) = some (some (.agg zero32)) := by kernel_rfl
end Go.Proofs.YtpafenlcgcenlaaGreatDoor
namespace Go.Proofs.YtpafenlcgcenlaaGreatDoor
open Go Go.RowKit
set_option linter.unusedVariables false
set_option linter.unusedSimpArgs false
theorem absorb_append (s : St) (l1 l2 : List UInt8) : absorb s (l1 ++ l2) = absorb (absorb s l1).1 ((absorb s l1).2 ++ l2) := by
  induction h : l1.length using Nat.strongRecOn generalizing s l1 with
  | _ n ih =>
    by_cases h64 : 64 ≤ l1.length
    · rw [absorb_more s l1 h64, absorb_more s (l1 ++ l2) (by rw [List.length_append]; omega)]
      rw [List.take_append_of_le_length h64, List.drop_append_of_le_length h64]
      exact ih (l1.drop 64).length (by rw [List.length_drop]; omega) _ _ rfl
    · rw [absorb_done s l1 h64]
theorem Blk.bytes {w : World} {g : Nat} {t : TypeId} {l : List UInt8} {n : Nat} (h : Blk w g t (l.map u8v).toArray) (hn : l.length = n) : Reads w (some ⟨g, 0, none⟩) n (l.map u8v) := by
  have := h.row; rw [List.length_map, hn] at this; exact this
/-- The stream at block sb has had the bytes l. -/
def Had (w : World) (sb : Nat) (l : List UInt8) : Prop := StreamAt w sb (absorb St.first l).1 (UInt64.ofNat l.length) (absorb St.first l).2
theorem StreamAt.below {w w' : World} {sb B : Nat} {s : St} {n : UInt64} {rest : List UInt8} (h : StreamAt w sb s n rest) (hb : Below B w w') (hB : w.heap.size ≤ B) : StreamAt w' sb s n rest := by
  obtain ⟨A, c, h1, h2, h3⟩ := h.obj
  have hb2 := hb.mono hB
  refine ⟨A, c, h1.below hb2 h1.lt, h2.below hb2, fun a ha => ⟨(h3 a ha).1, ?_⟩⟩
  obtain ⟨cs, fr, h⟩ := (h3 a ha).2
  exact ⟨cs, fr, by rw [hb2.block a.block (Array.getElem?_eq_some_iff.1 h).1]; exact h⟩
theorem StreamAt.only {w w' : World} {sb : Nat} {S : List Nat} {s : St} {n : UInt64} {rest : List UInt8} (h : StreamAt w sb s n rest) (ho : Only S w w') (hs : sb ∉ S) (hS : ∀ k, k ∈ S → ∃ cs t fr, w.heap[k]? = some (.cells cs t fr) ∧ t ≠ 5) : StreamAt w' sb s n rest := by
  obtain ⟨A, c, h1, h2, h3⟩ := h.obj
  have hap : ∀ a, A = some a → a.block ∉ S := fun a ha hm => by
    obtain ⟨cs, fr, h⟩ := (h3 a ha).2
    obtain ⟨cs', t, fr', h', hne⟩ := hS _ hm
    rw [h] at h'
    injection h' with h'
    injection h' with _ h'
    exact hne h'.symm
  refine ⟨A, c, h1.only ho hs, h2.only ho hap, fun a ha => ⟨(h3 a ha).1, ?_⟩⟩
  obtain ⟨cs, fr, h⟩ := (h3 a ha).2
  exact ⟨cs, fr, by rw [ho.block a.block (Array.getElem?_eq_some_iff.1 h).1 (hap a ha)]; exact h⟩
theorem StreamAt.typed {w : World} {sb : Nat} {s : St} {n : UInt64} {rest : List UInt8} (h : StreamAt w sb s n rest) : ∃ cs, Blk w sb 157 cs := by
  obtain ⟨A, c, h1, h2, h3⟩ := h.obj
  exact ⟨_, h1⟩
theorem StreamAt.lt {w : World} {sb : Nat} {s : St} {n : UInt64} {rest : List UInt8} (h : StreamAt w sb s n rest) : sb < w.heap.size := by
  obtain ⟨cs, h⟩ := h.typed; exact h.lt
theorem Had.below {w w' : World} {sb B : Nat} {l : List UInt8} (h : Had w sb l) (hb : Below B w w') (hB : w.heap.size ≤ B) : Had w' sb l := StreamAt.below h hb hB
theorem Had.apart {w w' : World} {sb sb2 : Nat} {l : List UInt8} (h : Had w sb l) (ho : Only [sb2] w w') (hs : sb ≠ sb2) (l2 : List UInt8) (h2 : Had w sb2 l2) : Had w' sb l := by
  refine StreamAt.only h ho (by simp; exact hs) (fun k hk => ?_)
  simp at hk
  subst hk
  obtain ⟨cs, hb⟩ := StreamAt.typed h2
  exact ⟨cs, _, _, hb, by decide⟩
theorem new_had (w : World) : Calls Tryz.prog 57 #[] w fun e w' => ∃ sb, e = .returned (.pointer (some ⟨sb, 0, none⟩)) ∧ Had w' sb [] ∧ w.heap.size ≤ sb ∧ Below w.heap.size w w' := by
  refine (snew_c w).mono ?_
  rintro e w' ⟨sb, h1, h2, h3, h4⟩
  refine ⟨sb, h1, ?_, h3, h4⟩
  unfold Had
  rw [absorb_done St.first [] (by simp)]
  exact h2
theorem write_had (w : World) (sb : Nat) (l : List UInt8) (B : Option Addr) (n c : Nat) (b : List UInt8) (hbn : b.length = n) (h : Had w sb l) (r : Reads w B n (b.map u8v)) (hbp : 0 < n → ∀ a, B = some a → a.block ≠ sb) (hb : n ≤ 274877906944) :
    Calls Tryz.prog 58 #[.pointer (some ⟨sb, 0, none⟩), .slice B n c] w fun e w' => e = .returned (.tuple #[]) ∧ Had w' sb (l ++ b) ∧ Only [sb] w w' := by
  subst hbn
  have := absorb_rest St.first l
  refine (swrite_c w sb _ _ _ B c b h r hbp (by omega) hb).mono ?_
  rintro e w' ⟨h1, h2, h3⟩
  refine ⟨h1, ?_, h3⟩
  unfold Had
  rw [absorb_append, List.length_append, UInt64.ofNat_add]
  exact h2
theorem sum_had (w : World) (sb : Nat) (l : List UInt8) (h : Had w sb l) :
    Calls Tryz.prog 59 #[.pointer (some ⟨sb, 0, none⟩)] w fun e w' => e = .returned (.agg ((sha l).map u8v).toArray) ∧ Below w.heap.size w w' := by
  have := absorb_rest St.first l
  exact ssum_c w sb _ _ _ h (by omega)
end Go.Proofs.YtpafenlcgcenlaaGreatDoor
