/- Walks of package nor, second part: what writes. -/
import Derived.Test.YtlchlcjahndjgaaNorA
import Derived.Test.YtlchlcjahndjgaaQTail
import Derived.KernelRfl
namespace Go.Proofs.Ytlchlcjahndjgaa
open Go.RowKit
set_option linter.unusedVariables false
set_option linter.unusedSimpArgs false

section
variable {w : World} {fb bb wb : Nat} {F : Fl}
/-- A flash behind a change of its numbers alone. -/
theorem FlashAt.set5 (h : FlashAt w fb bb wb F) (x : Int) : FlashAt (w.setCell ⟨fb, 5, none⟩ (.int .i64 x)) fb bb wb { F with ops := x } := by
  obtain ⟨h1, h2, h3⟩ := h.ne
  obtain ⟨A, c, b1, b2, b3⟩ := h.obj
  refine ⟨⟨h.ok.len, h.ok.most, h.ok.cut0, h.ok.cut1, h.ok.mask, h.ok.wear⟩, ⟨A, c, by simpa using b1.set_ 5 (.int .i64 x), b2.setCellC (fun h0 a ha e => b3 h0 a ha (by simp [e])) _, b3⟩, h.bytes.far (by exact fun e => h1 e.symm) _, h.wears.far (by exact fun e => h2 e.symm) _, fun k hk => by simpa using h.farlt k hk⟩
theorem FlashAt.set2 (h : FlashAt w fb bb wb F) (x : Int) (hx : Fl.Ok { F with cut := x }) : FlashAt (w.setCell ⟨fb, 2, none⟩ (.int .i64 x)) fb bb wb { F with cut := x } := by
  obtain ⟨h1, h2, h3⟩ := h.ne
  obtain ⟨A, c, b1, b2, b3⟩ := h.obj
  refine ⟨hx, ⟨A, c, by simpa using b1.set_ 2 (.int .i64 x), b2.setCellC (fun h0 a ha e => b3 h0 a ha (by simp [e])) _, b3⟩, h.bytes.far (by exact fun e => h1 e.symm) _, h.wears.far (by exact fun e => h2 e.symm) _, fun k hk => by simpa using h.farlt k hk⟩
theorem FlashAt.set4 (h : FlashAt w fb bb wb F) (x : Bool) : FlashAt (w.setCell ⟨fb, 4, none⟩ (.bool x)) fb bb wb { F with off := x } := by
  obtain ⟨h1, h2, h3⟩ := h.ne
  obtain ⟨A, c, b1, b2, b3⟩ := h.obj
  refine ⟨⟨h.ok.len, h.ok.most, h.ok.cut0, h.ok.cut1, h.ok.mask, h.ok.wear⟩, ⟨A, c, by simpa using b1.set_ 4 (.bool x), b2.setCellC (fun h0 a ha e => b3 h0 a ha (by simp [e])) _, b3⟩, h.bytes.far (by exact fun e => h1 e.symm) _, h.wears.far (by exact fun e => h2 e.symm) _, fun k hk => by simpa using h.farlt k hk⟩
theorem FlashAt.setB (h : FlashAt w fb bb wb F) (i : Nat) (x : UInt8) : FlashAt (w.setCell ⟨bb, i, none⟩ (u8v x)) fb bb wb { F with b := F.b.set i x } := by
  obtain ⟨h1, h2, h3⟩ := h.ne
  obtain ⟨A, c, b1, b2, b3⟩ := h.obj
  refine ⟨⟨by simp [h.ok.len], h.ok.most, h.ok.cut0, h.ok.cut1, h.ok.mask, h.ok.wear⟩, ⟨A, c, by simpa using b1.far (by exact h1) _, b2.setCellC (fun h0 a ha e => b3 h0 a ha (by simp [e])) _, b3⟩, ?_, h.wears.far (by exact fun e => h3 e.symm) _, fun k hk => by simpa using h.farlt k hk⟩
  have := h.bytes.set_ i (u8v x)
  rwa [set_map] at this
theorem FlashAt.setW (h : FlashAt w fb bb wb F) (i : Nat) (x : Int) (hx : 0 ≤ x ∧ x ≤ 4611686018427387904) : FlashAt (w.setCell ⟨wb, i, none⟩ (i64v x)) fb bb wb { F with wear := F.wear.set i x } := by
  obtain ⟨h1, h2, h3⟩ := h.ne
  obtain ⟨A, c, b1, b2, b3⟩ := h.obj
  refine ⟨⟨by simp [h.ok.len], by simp [h.ok.most], h.ok.cut0, h.ok.cut1, h.ok.mask, fun y hy => ?_⟩, ⟨A, c, by simpa using b1.far (by exact h2) _, b2.setCellC (fun h0 a ha e => b3 h0 a ha (by simp [e])) _, b3⟩, h.bytes.far (by exact h3) _, ?_, fun k hk => by simpa using h.farlt k hk⟩
  · rcases List.mem_or_eq_of_mem_set hy with h4 | h4
    · exact h.ok.wear y h4
    · subst h4; exact hx
  · have := h.wears.set_ i (i64v x)
    rwa [set_map] at this
end

theorem u8_mix (x c m : UInt8) : bits .xor .u8 (x.toNat : Int) (bits .andNot .u8 (bits .xor .u8 (x.toNat : Int) (c.toNat : Int)) (m.toNat : Int)) = ((mixB x c m).toNat : Int) := by
  have hx := x.toNat_lt; have hc := c.toNat_lt; have hm := m.toNat_lt
  rw [u8_xor_nat _ _ hx hc]
  have h1 : x.toNat ^^^ c.toNat < 256 := Nat.xor_lt_two_pow (n := 8) hx hc
  rw [u8_andNot_nat _ _ h1 hm]
  have h2 : (x.toNat ^^^ c.toNat) &&& (255 - m.toNat) < 256 := Nat.and_lt_two_pow (n := 8) _ (by omega)
  rw [u8_xor_nat _ _ hx h2]
  unfold mixB
  rw [UInt8.toNat_xor, UInt8.toNat_and, UInt8.toNat_xor, UInt8.toNat_not]
  rfl

/-- The flash behind k of the bytes of a work. -/
def Fl.part (F : Fl) (a : Nat) (bs : List UInt8) (k : Nat) : Fl :=
  { F with b := laid F.b a (bs.take k) (fun i => F.stays i (F.cut == 0)), cut := if 0 ≤ F.cut then F.cut - 1 else F.cut, ops := wrap64 (F.ops + 1) }
theorem Fl.part_ok {F : Fl} (h : F.Ok) (a : Nat) (bs : List UInt8) (k : Nat) : (F.part a bs k).Ok := by
  have := Fl.work_ok h a (bs.take k)
  exact ⟨this.len, this.most, this.cut0, this.cut1, this.mask, this.wear⟩
theorem Fl.part_zero (F : Fl) (a : Nat) (bs : List UInt8) : F.part a bs 0 = { F with cut := if 0 ≤ F.cut then F.cut - 1 else F.cut, ops := wrap64 (F.ops + 1) } := by
  simp [Fl.part, laid_nil]
theorem Fl.part_step (F : Fl) (a : Nat) (bs : List UInt8) (k : Nat) (hk : k < bs.length) (hb : a + bs.length ≤ F.b.length) :
    { F.part a bs k with b := (F.part a bs k).b.set (a + k) (mixB (F.b[a + k]'(by omega)) bs[k] (F.stays k (F.cut == 0))) } = F.part a bs (k + 1) := by
  have := laid_step F.b a bs (fun i => F.stays i (F.cut == 0)) k hk hb
  simp only [Fl.part, Fl.mk.injEq, and_true, true_and]
  exact this
theorem Fl.part_all (F : Fl) (a : Nat) (bs : List UInt8) : F.part a bs bs.length = { F with b := laid F.b a bs (fun i => F.stays i (F.cut == 0)), cut := if 0 ≤ F.cut then F.cut - 1 else F.cut, ops := wrap64 (F.ops + 1) } := by
  simp [Fl.part]

theorem Fl.part_len (F : Fl) (a : Nat) (bs : List UInt8) (k : Nat) : (F.part a bs k).b.length = F.b.length := by simp [Fl.part, laid_length]
theorem FlashAt.part_cells {w : World} {fb bb wb : Nat} {F : Fl} {a k : Nat} {bs : List UInt8} (h : FlashAt w fb bb wb (F.part a bs k)) (hlt : k < bs.length) (hfit : a + bs.length ≤ F.b.length) :
    w.cell? ⟨fb, 0, none⟩ = some (.slice (some ⟨bb, 0, none⟩) F.b.length F.b.length) ∧ w.cell? ⟨bb, a + k, none⟩ = some (u8v (F.b[a + k]'(by omega))) ∧ w.frozen? ⟨bb, a + k, none⟩ = false := by
  have k0 := h.c0
  rw [Fl.part_len] at k0
  have kb := h.cb (a + k) (by rw [Fl.part_len]; omega)
  have hnow : (F.part a bs k).b[a + k]'(by rw [Fl.part_len]; omega) = F.b[a + k]'(by omega) := laid_now F.b a bs (fun i => F.stays i (F.cut == 0)) k hlt hfit
  rw [hnow] at kb
  exact ⟨k0, kb, h.bytes.frozen (a + k)⟩
theorem FlashAt.part_next {w : World} {fb bb wb : Nat} {F : Fl} {a k : Nat} {bs : List UInt8} {q : Bool} (hq : (F.cut == 0) = q) (h : FlashAt w fb bb wb (F.part a bs k)) (hlt : k < bs.length) (hfit : a + bs.length ≤ F.b.length) :
    FlashAt (w.setCell ⟨bb, a + k, none⟩ (.int .u8 (bits .xor .u8 ((F.b[a + k]'(by omega)).toNat : Int) (bits .andNot .u8 (bits .xor .u8 ((F.b[a + k]'(by omega)).toNat : Int) (bs[k].toNat : Int)) (((F.part a bs k).stays k q).toNat : Int))))) fb bb wb (F.part a bs (k + 1)) := by
  rw [u8_mix]
  have h1 := h.setB (a + k) (mixB (F.b[a + k]'(by omega)) bs[k] ((F.part a bs k).stays k q))
  have h2 := Fl.part_step F a bs k hlt hfit
  subst hq
  rw [← h2]
  exact h1
theorem Fl.work_of_part (F : Fl) (a : Nat) (bs : List UInt8) (hq : (F.cut == 0) = false) : F.work a bs = F.part a bs bs.length := by
  simp [Fl.work, Fl.part, hq]
theorem Fl.work_of_part' (F : Fl) (a : Nat) (bs : List UInt8) (hq : (F.cut == 0) = true) : F.work a bs = { F.part a bs bs.length with off := true } := by
  simp [Fl.work, Fl.part, hq]
theorem bytes_at {w : World} {A : Option Addr} {n k : Nat} {bs : List UInt8} (hr : Reads w A n (bs.map u8v)) (hk : k < bs.length) : ∃ b o, A = some ⟨b, o, none⟩ ∧ b < w.heap.size ∧ w.cell? ⟨b, o + k, none⟩ = some (u8v bs[k]) := by
  obtain ⟨b, o, u, hA, hb, hu, hc⟩ := hr.at_ (k := k) (by have := hr.len; simp at this; omega)
  rw [List.getElem?_map, List.getElem?_eq_getElem hk] at hu
  simp only [Option.map_some, Option.some.injEq] at hu
  subst hu
  exact ⟨b, o, hA, hb, hc⟩

def WorkI (w : World) (fb bb wb : Nat) (F : Fl) (a : Nat) (bs : List UInt8) (i : Value) (wr : World) : Prop :=
  ∃ k : Nat, k ≤ bs.length ∧ i = .int .i64 k ∧ FlashAt wr fb bb wb (F.part a bs k) ∧ Only [fb, bb, wb] w wr

set_option maxHeartbeats 800000 in
theorem work_z (w : World) (fb bb wb : Nat) (F : Fl) (a : Nat) (A : Option Addr) (n c : Nat) (bs : List UInt8) (h : FlashAt w fb bb wb F)
    (hr : Reads w A n (bs.map u8v)) (hap : 0 < n → Apart [fb, bb, wb] A) (hfit : a + n ≤ F.b.length) :
    Calls Try.prog 72 #[ptr fb, .int .i64 (a : Int), .slice A n c] w fun e w' =>
      e = .returned (.int .i64 F.workE) ∧ FlashAt w' fb bb wb (F.work a bs) ∧ Only [fb, bb, wb] w w' := by
  have hn : bs.length = n := by simpa using hr.len
  subst hn
  have c2 := h.c2
  have c5 := h.c5
  have f2 := h.fr 2
  have f5 := h.fr 5
  have hcut0 := h.ok.cut0
  have hcut1 := h.ok.cut1
  have hbl : F.b.length ≤ 128000 := by have := h.ok.len; have := h.ok.most; omega
  have H := Lib.hid h
  clear h
  have HW : ∀ W : World, FlashAt W fb bb wb (F.part a bs 0) → Only [fb, bb, wb] w W → WorkI w fb bb wb F a bs (.int .i64 0) W :=
    fun W h1 h2 => ⟨0, Nat.zero_le _, rfl, h1, h2⟩
  have hcases : (F.cut < 0 ∧ (F.cut == 0) = false) ∨ (0 ≤ F.cut ∧ F.cut ≤ 0 ∧ (F.cut == 0) = true) ∨ (0 < F.cut ∧ (F.cut == 0) = false) := by
    rcases Int.lt_trichotomy F.cut 0 with h1 | h1 | h1
    · exact .inl ⟨h1, by rw [beq_eq_false_iff_ne]; omega⟩
    · exact .inr (.inl ⟨by omega, by omega, by rw [beq_iff_eq]; exact h1⟩)
    · exact .inr (.inr ⟨h1, by rw [beq_eq_false_iff_ne]; omega⟩)
  rcases hcases with ⟨hc, hq⟩ | ⟨hc, hc', hq⟩ | ⟨hc, hq⟩
  · have hE : F.workE = 0 := by unfold Fl.workE; rw [hq]; rfl
    rw [hE]
    have HQ := Lib.hid hq
    clear hE
    go_enter Try.func72, Try.ntmps72
    go_wp2_with fail
    go_loopw [36] (fun i wr => WorkI w fb bb wb F a bs i wr) (fun i _ => bs.length - (intOf i).toNat)
    case atStart =>
      refine HW _ ?_ ((Only.refl _ _).setCell (by simp) _)
      rw [Fl.part_zero, if_neg (by omega)]
      exact H.out.set5 _
    case round =>
      obtain ⟨k, hk, rfl, hF, hO⟩ := hrel
      by_cases hlt : k < bs.length
      · obtain ⟨b, o, rfl, hb, hcell⟩ := bytes_at (hr.onlyC hO hap) hlt
        obtain ⟨k0, kb, kf⟩ := hF.part_cells hlt hfit
        have HFk := Lib.hid hF
        have HOk := Lib.hid hO
        clear hF hO
        have e2 : (0 : Int) ≤ (a : Int) + (k : Int) := by omega
        have e3 : (a : Int) + (k : Int) < (F.b.length : Int) := by omega
        have e4 : ((a : Int) + (k : Int)).toNat = a + k := by omega
        have e1 : IntKind.i64.wrap ((a : Int) + (k : Int)) = (a : Int) + (k : Int) := IntWalk.i64_in _ (by omega)
        go_upto_region 8 with fail
        refine wp_region_quiet_tail 27 (by kernel_rfl) (by kernel_rfl) ?_
        simp only [List.take_succ_cons, List.take_zero, List.drop_succ_cons, List.drop_zero]
        repeat (go_big_quiet_step ((go_at_call 105; exact Calls.quiet_of (stays_c _ k false (by omega) (HFk.out.drewN _)))))
        refine wpQuiet_nil ?_
        intro nq
        go_wp2
        go_roundw
        case rel => exact ⟨k + 1, by omega, by go_num, (HFk.out.drewN nq).part_next HQ.out hlt hfit, (HOk.out.drewN nq).setCell (by simp) _⟩
        case measure => simp [intOf]; omega
      · obtain rfl : k = bs.length := by omega
        have k4 := hF.c4
        have f4 := hF.fr 4
        have HFk := Lib.hid hF
        have HOk := Lib.hid hO
        clear hF hO
        go_wp2
        go_ret
        exact ⟨rfl, by rw [Fl.work_of_part F a bs HQ.out]; exact HFk.out, HOk.out⟩
  · have hE : F.workE = 4 := by unfold Fl.workE; rw [hq]; rfl
    rw [hE]
    have HQ := Lib.hid hq
    clear hE
    go_enter Try.func72, Try.ntmps72
    go_wp2_with fail
    go_loopw [36] (fun i wr => WorkI w fb bb wb F a bs i wr) (fun i _ => bs.length - (intOf i).toNat)
    case atStart =>
      refine HW _ ?_ (((Only.refl _ _).setCell (by simp) _).setCell (by simp) _)
      rw [Fl.part_zero, if_pos (by omega)]
      have h5 := H.out.set5 (wrap64 (F.ops + 1))
      exact h5.set2 (F.cut - 1) ⟨h5.ok.len, h5.ok.most, by show -1 ≤ F.cut - 1; omega, by show F.cut - 1 ≤ _; omega, h5.ok.mask, h5.ok.wear⟩
    case round =>
      obtain ⟨k, hk, rfl, hF, hO⟩ := hrel
      by_cases hlt : k < bs.length
      · obtain ⟨b, o, rfl, hb, hcell⟩ := bytes_at (hr.onlyC hO hap) hlt
        obtain ⟨k0, kb, kf⟩ := hF.part_cells hlt hfit
        have HFk := Lib.hid hF
        have HOk := Lib.hid hO
        clear hF hO
        have e2 : (0 : Int) ≤ (a : Int) + (k : Int) := by omega
        have e3 : (a : Int) + (k : Int) < (F.b.length : Int) := by omega
        have e4 : ((a : Int) + (k : Int)).toNat = a + k := by omega
        have e1 : IntKind.i64.wrap ((a : Int) + (k : Int)) = (a : Int) + (k : Int) := IntWalk.i64_in _ (by omega)
        go_upto_region 8 with fail
        refine wp_region_quiet_tail 27 (by kernel_rfl) (by kernel_rfl) ?_
        simp only [List.take_succ_cons, List.take_zero, List.drop_succ_cons, List.drop_zero]
        repeat (go_big_quiet_step ((go_at_call 105; exact Calls.quiet_of (stays_c _ k true (by omega) (HFk.out.drewN _)))))
        refine wpQuiet_nil ?_
        intro nq
        go_wp2
        go_roundw
        case rel => exact ⟨k + 1, by omega, by go_num, (HFk.out.drewN nq).part_next HQ.out hlt hfit, (HOk.out.drewN nq).setCell (by simp) _⟩
        case measure => simp [intOf]; omega
      · obtain rfl : k = bs.length := by omega
        have k4 := hF.c4
        have f4 := hF.fr 4
        have HFk := Lib.hid hF
        have HOk := Lib.hid hO
        clear hF hO
        go_wp2
        go_ret
        exact ⟨rfl, by rw [Fl.work_of_part' F a bs HQ.out]; exact HFk.out.set4 true, HOk.out.setCell (by simp) _⟩
  · have hE : F.workE = 0 := by unfold Fl.workE; rw [hq]; rfl
    rw [hE]
    have HQ := Lib.hid hq
    clear hE
    go_enter Try.func72, Try.ntmps72
    go_wp2_with fail
    go_loopw [36] (fun i wr => WorkI w fb bb wb F a bs i wr) (fun i _ => bs.length - (intOf i).toNat)
    case atStart =>
      refine HW _ ?_ (((Only.refl _ _).setCell (by simp) _).setCell (by simp) _)
      rw [Fl.part_zero, if_pos (by omega)]
      have h5 := H.out.set5 (wrap64 (F.ops + 1))
      exact h5.set2 (F.cut - 1) ⟨h5.ok.len, h5.ok.most, by show -1 ≤ F.cut - 1; omega, by show F.cut - 1 ≤ _; omega, h5.ok.mask, h5.ok.wear⟩
    case round =>
      obtain ⟨k, hk, rfl, hF, hO⟩ := hrel
      by_cases hlt : k < bs.length
      · obtain ⟨b, o, rfl, hb, hcell⟩ := bytes_at (hr.onlyC hO hap) hlt
        obtain ⟨k0, kb, kf⟩ := hF.part_cells hlt hfit
        have HFk := Lib.hid hF
        have HOk := Lib.hid hO
        clear hF hO
        have e2 : (0 : Int) ≤ (a : Int) + (k : Int) := by omega
        have e3 : (a : Int) + (k : Int) < (F.b.length : Int) := by omega
        have e4 : ((a : Int) + (k : Int)).toNat = a + k := by omega
        have e1 : IntKind.i64.wrap ((a : Int) + (k : Int)) = (a : Int) + (k : Int) := IntWalk.i64_in _ (by omega)
        go_upto_region 8 with fail
        refine wp_region_quiet_tail 27 (by kernel_rfl) (by kernel_rfl) ?_
        simp only [List.take_succ_cons, List.take_zero, List.drop_succ_cons, List.drop_zero]
        repeat (go_big_quiet_step ((go_at_call 105; exact Calls.quiet_of (stays_c _ k false (by omega) (HFk.out.drewN _)))))
        refine wpQuiet_nil ?_
        intro nq
        go_wp2
        go_roundw
        case rel => exact ⟨k + 1, by omega, by go_num, (HFk.out.drewN nq).part_next HQ.out hlt hfit, (HOk.out.drewN nq).setCell (by simp) _⟩
        case measure => simp [intOf]; omega
      · obtain rfl : k = bs.length := by omega
        have k4 := hF.c4
        have f4 := hF.fr 4
        have HFk := Lib.hid hF
        have HOk := Lib.hid hO
        clear hF hO
        go_wp2
        go_ret
        exact ⟨rfl, by rw [Fl.work_of_part F a bs HQ.out]; exact HFk.out, HOk.out⟩
theorem work_c (w : World) (fb bb wb : Nat) (F : Fl) (a : Nat) (A : Option Addr) (n c : Nat) (bs : List UInt8) (h : FlashAt w fb bb wb F)
    (hr : Reads w A n (bs.map u8v)) (hap : Apart [fb, bb, wb] A) (hfit : a + n ≤ F.b.length) :
    Calls Try.prog 72 #[ptr fb, .int .i64 (a : Int), .slice A n c] w fun e w' =>
      e = .returned (.int .i64 F.workE) ∧ FlashAt w' fb bb wb (F.work a bs) ∧ Only [fb, bb, wb] w w' :=
  work_z w fb bb wb F a A n c bs h hr (fun _ => hap) hfit
end Go.Proofs.Ytlchlcjahndjgaa
