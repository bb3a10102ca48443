/- Package area: what an area is, and walks. -/
import Derived.Test.YtlchlcjahndjgaaNorD
import Derived.Deep.RegionHeld3
namespace Go.Proofs.Ytlchlcjahndjgaa
open Go.RowKit
set_option linter.unusedVariables false
set_option linter.unusedSimpArgs false

structure Ar where
  from_ : Nat
  len : Nat
  budget : Int
namespace Ar
structure Ok (R : Ar) (n : Nat) : Prop where
  fit : R.from_ + R.len ≤ n
  b0 : 0 ≤ R.budget
  b1 : R.budget ≤ 1000
def is (R : Ar) (s : Int) : Bool := decide (0 ≤ s) && decide (s < (R.len : Int))
def within (R : Ar) (s a n : Int) : Bool := R.is s && decide (0 ≤ a) && decide (a ≤ 320) && decide (n ≤ 320 - a)
def read (R : Ar) (F : Fl) (s a n : Int) : List UInt8 := if R.within s a n then F.read (((R.from_ : Int) + s) * 320 + a) n else []
def programE (R : Ar) (F : Fl) (s a : Int) (bs : List UInt8) : Int := if R.within s a bs.length then F.programE (((R.from_ : Int) + s) * 320 + a) bs else 2
def program (R : Ar) (F : Fl) (s a : Int) (bs : List UInt8) : Fl := if R.within s a bs.length then F.program (((R.from_ : Int) + s) * 320 + a) bs else F
def left (R : Ar) (F : Fl) (s : Int) : Int := if R.is s then max 0 (R.budget - F.wearAt ((R.from_ : Int) + s)) else 0
def eraseE (R : Ar) (F : Fl) (s : Int) : Int := if R.is s then (if R.left F s == 0 then 5 else F.eraseE ((R.from_ : Int) + s)) else 2
def erase (R : Ar) (F : Fl) (s : Int) : Fl := if R.is s then (if R.left F s == 0 then F else F.erase ((R.from_ : Int) + s)) else F
def blank (R : Ar) (F : Fl) (s : Int) : Bool := R.is s && F.blank ((R.from_ : Int) + s)
def new (n : Nat) (from_ len budget : Int) : Ar :=
  if 0 ≤ from_ ∧ from_ ≤ (n : Int) ∧ 0 < len then { from_ := from_.toNat, len := (min len ((n : Int) - from_)).toNat, budget := max 0 (min budget 1000) }
  else { from_ := 0, len := 0, budget := max 0 (min budget 1000) }
theorem new_ok (n : Nat) (from_ len budget : Int) : (new n from_ len budget).Ok n := by
  unfold new
  split
  · refine ⟨?_, ?_, ?_⟩ <;> simp only <;> omega
  · refine ⟨?_, ?_, ?_⟩ <;> simp only <;> omega
end Ar

structure AreaAt (w : World) (ab fb : Nat) (R : Ar) (n : Nat) : Prop where
  ok : R.Ok n
  most : n ≤ 400
  obj : Blk w ab 103 #[ptr fb, .int .i64 R.from_, .int .i64 R.len, .int .i64 R.budget]
section
variable {w w' : World} {ab fb n : Nat} {R : Ar} {S : List Nat}
theorem AreaAt.a0 (h : AreaAt w ab fb R n) : w.cell? ⟨ab, 0, none⟩ = some (ptr fb) := by rw [h.obj.cell]; rfl
theorem AreaAt.a1 (h : AreaAt w ab fb R n) : w.cell? ⟨ab, 1, none⟩ = some (.int .i64 R.from_) := by rw [h.obj.cell]; rfl
theorem AreaAt.a2 (h : AreaAt w ab fb R n) : w.cell? ⟨ab, 2, none⟩ = some (.int .i64 R.len) := by rw [h.obj.cell]; rfl
theorem AreaAt.a3 (h : AreaAt w ab fb R n) : w.cell? ⟨ab, 3, none⟩ = some (.int .i64 R.budget) := by rw [h.obj.cell]; rfl
theorem AreaAt.only (h : AreaAt w ab fb R n) (ho : Only S w w') (hn : ab ∉ S) : AreaAt w' ab fb R n := ⟨h.ok, h.most, h.obj.only ho hn⟩
theorem AreaAt.below (h : AreaAt w ab fb R n) (ho : Below w.heap.size w w') : AreaAt w' ab fb R n := ⟨h.ok, h.most, h.obj.below ho h.obj.lt⟩
theorem AreaAt.drew (h : AreaAt w ab fb R n) : AreaAt w.drew ab fb R n := ⟨h.ok, h.most, h.obj⟩
theorem AreaAt.drewN (h : AreaAt w ab fb R n) (k : Nat) : AreaAt (w.drewN k) ab fb R n := ⟨h.ok, h.most, h.obj⟩
end

section
variable {ab fb n : Nat} {R : Ar} (w : World)
theorem alen_c (h : AreaAt w ab fb R n) : Calls Try.prog 75 #[ptr ab] w fun e w' => e = .returned (.int .i64 R.len) ∧ w = w' := by
  have h2 := h.a2
  clear h
  go_enter Try.func75, Try.ntmps75
  go_wp2
  go_ret
  exact ⟨rfl, rfl⟩
theorem alen_nil : Calls Try.prog 75 #[.pointer none] w fun e w' => e = .returned (.int .i64 0) ∧ w = w' := by
  go_enter Try.func75, Try.ntmps75
  go_wp2
  go_ret
  exact ⟨rfl, rfl⟩
theorem ais_c (s : Int) (h : AreaAt w ab fb R n) : Calls Try.prog 85 #[ptr ab, .int .i64 s] w fun e w' => e = .returned (.bool (R.is s)) ∧ w = w' := by
  have H := Lib.hid h
  clear h
  unfold Ar.is
  by_cases h0 : 0 ≤ s
  · go_enter Try.func85, Try.ntmps85
    go_wp2_with (go_at_call 75; refine (alen_c _ H.out).mono ?_; rintro e w' ⟨rfl, rfl⟩)
    go_ret
    exact ⟨bool_ret (by simp [h0] <;> omega), rfl⟩
  · go_enter Try.func85, Try.ntmps85
    go_wp2_with (go_at_call 75; refine (alen_c _ H.out).mono ?_; rintro e w' ⟨rfl, rfl⟩)
    go_ret
    exact ⟨bool_ret (by simp [h0] <;> omega), rfl⟩
theorem awithin_c (s a k : Int) (h : AreaAt w ab fb R n) : Calls Try.prog 84 #[ptr ab, .int .i64 s, .int .i64 a, .int .i64 k] w fun e w' => e = .returned (.bool (R.within s a k)) ∧ w = w' := by
  have H := Lib.hid h
  clear h
  unfold Ar.within
  cases h0 : R.is s
  · go_enter Try.func84, Try.ntmps84
    go_wp2_with (go_at_call 85; refine (ais_c _ _ H.out).mono ?_; rintro e w' ⟨rfl, rfl⟩)
    go_ret
    exact ⟨bool_ret (by simp), rfl⟩
  · by_cases h1 : 0 ≤ a
    · by_cases h2 : a ≤ 320
      · go_enter Try.func84, Try.ntmps84
        go_wp2_with (go_at_call 85; refine (ais_c _ _ H.out).mono ?_; rintro e w' ⟨rfl, rfl⟩)
        go_ret
        exact ⟨bool_ret (by simp [h1, h2]), rfl⟩
      · go_enter Try.func84, Try.ntmps84
        go_wp2_with (go_at_call 85; refine (ais_c _ _ H.out).mono ?_; rintro e w' ⟨rfl, rfl⟩)
        go_ret
        exact ⟨bool_ret (by simp [h1, h2] <;> omega), rfl⟩
    · go_enter Try.func84, Try.ntmps84
      go_wp2_with (go_at_call 85; refine (ais_c _ _ H.out).mono ?_; rintro e w' ⟨rfl, rfl⟩)
      go_ret
      exact ⟨bool_ret (by simp [h1] <;> omega), rfl⟩
end

theorem Ar.within_b {R : Ar} {s a k : Int} (h : R.within s a k = true) : 0 ≤ s ∧ s < (R.len : Int) ∧ 0 ≤ a ∧ a ≤ 320 ∧ k ≤ 320 - a := by
  simp [Ar.within, Ar.is] at h; omega
theorem Ar.is_b {R : Ar} {s : Int} (h : R.is s = true) : 0 ≤ s ∧ s < (R.len : Int) := by
  simpa [Ar.is] using h

section
variable {ab fb bb wb : Nat} {R : Ar} {F : Fl} (w : World)
theorem aread_c (s a k : Int) (hk : k < 4611686018427387904) (hF : FlashAt w fb bb wb F) (h : AreaAt w ab fb R F.wear.length) :
    Calls Try.prog 86 #[ptr ab, .int .i64 s, .int .i64 a, .int .i64 k] w (MadeBytes w (R.read F s a k)) := by
  have H := Lib.hid h
  have HF := Lib.hid hF
  have h0 := h.a0
  have h1 := h.a1
  have hfit := h.ok.fit
  have hmost := h.most
  clear h hF
  cases hw : R.within s a k
  · have hr : R.read F s a k = [] := by simp [Ar.read, hw]
    rw [hr]
    clear hr
    go_enter Try.func86, Try.ntmps86
    go_wp2_with (go_at_call 84; refine (awithin_c _ _ _ _ H.out).mono ?_; rintro e w' ⟨rfl, rfl⟩)
    go_ret
    exact ⟨none, 0, rfl, World.ownsRow_nil _ _ _ _, Below.refl _ _⟩
  · have hr : R.read F s a k = F.read (((R.from_ : Int) + s) * 320 + a) k := by simp [Ar.read, hw]
    rw [hr]
    have HR := Lib.hid hr
    obtain ⟨b1, b2, b3, b4, b5⟩ := Ar.within_b hw
    have e1 : IntKind.i64.wrap ((R.from_ : Int) + s) = (R.from_ : Int) + s := IntWalk.i64_in _ (by omega)
    have e2 : IntKind.i64.wrap (((R.from_ : Int) + s) * 320) = ((R.from_ : Int) + s) * 320 := IntWalk.i64_in _ (by omega)
    have e3 : IntKind.i64.wrap (((R.from_ : Int) + s) * 320 + a) = ((R.from_ : Int) + s) * 320 + a := IntWalk.i64_in _ (by omega)
    clear hr
    go_enter Try.func86, Try.ntmps86
    go_wp2_with (go_at_call 84; refine (awithin_c _ _ _ _ H.out).mono ?_; rintro e w' ⟨rfl, rfl⟩)
    refine wp_region_quiet_tail 14 (by kernel_rfl) (by kernel_rfl) ?_
    simp only [List.take_succ_cons, List.take_zero, List.drop_succ_cons, List.drop_zero]
    repeat (go_big_quiet_step (fail))
    refine wpQuiet_nil ?_
    intro nq
    go_wp2_with (go_at_call 112; refine (read_c _ _ _ hk (HF.out.drewN nq)).mono ?_; rintro e w' ⟨A', c', rfl, hown, hbel⟩)
    go_ret
    exact ⟨A', c', rfl, hown, ⟨hbel.os, hbel.tape, hbel.output, hbel.size, hbel.block⟩⟩
theorem aprogram_z (s a : Int) (A : Option Addr) (m c : Nat) (bs : List UInt8) (hr : Reads w A m (bs.map u8v)) (hap : 0 < m → Apart [fb, bb, wb] A) (hF : FlashAt w fb bb wb F) (h : AreaAt w ab fb R F.wear.length) :
    Calls Try.prog 35 #[ptr ab, .int .i64 s, .int .i64 a, .slice A m c] w fun e w' =>
      e = .returned (.int .i64 (R.programE F s a bs)) ∧ FlashAt w' fb bb wb (R.program F s a bs) ∧ Only [fb, bb, wb] w w' := by
  have hml : bs.length = m := by simpa using hr.len
  subst hml
  have H := Lib.hid h
  have HF := Lib.hid hF
  have h0 := h.a0
  have h1 := h.a1
  have hfit := h.ok.fit
  have hmost := h.most
  clear h hF
  cases hw : R.within s a bs.length
  · have e1 : R.programE F s a bs = 2 := by simp [Ar.programE, hw]
    have e2 : R.program F s a bs = F := by simp [Ar.program, hw]
    rw [e1, e2]
    clear e1 e2
    go_enter Try.func35, Try.ntmps35
    go_wp2_with (go_at_call 84; refine (awithin_c _ _ _ _ H.out).mono ?_; rintro e w' ⟨rfl, rfl⟩)
    go_ret
    exact ⟨rfl, HF.out, Only.refl _ _⟩
  · have k1 : R.programE F s a bs = F.programE (((R.from_ : Int) + s) * 320 + a) bs := by simp [Ar.programE, hw]
    have k2 : R.program F s a bs = F.program (((R.from_ : Int) + s) * 320 + a) bs := by simp [Ar.program, hw]
    rw [k1, k2]
    clear k1 k2
    obtain ⟨b1, b2, b3, b4, b5⟩ := Ar.within_b hw
    have e1 : IntKind.i64.wrap ((R.from_ : Int) + s) = (R.from_ : Int) + s := IntWalk.i64_in _ (by omega)
    have e2 : IntKind.i64.wrap (((R.from_ : Int) + s) * 320) = ((R.from_ : Int) + s) * 320 := IntWalk.i64_in _ (by omega)
    have e3 : IntKind.i64.wrap (((R.from_ : Int) + s) * 320 + a) = ((R.from_ : Int) + s) * 320 + a := IntWalk.i64_in _ (by omega)
    go_enter Try.func35, Try.ntmps35
    go_wp2_with (go_at_call 84; refine (awithin_c _ _ _ _ H.out).mono ?_; rintro e w' ⟨rfl, rfl⟩)
    refine wp_region_quiet_tail 14 (by kernel_rfl) (by kernel_rfl) ?_
    simp only [List.take_succ_cons, List.take_zero, List.drop_succ_cons, List.drop_zero]
    repeat (go_big_quiet_step (fail))
    refine wpQuiet_nil ?_
    intro nq
    go_wp2_with (go_at_call 26; refine (program_z _ _ _ _ F _ _ _ _ bs (HF.out.drewN nq) (hr.drewN nq) hap (by omega)).mono ?_; rintro e w' ⟨rfl, hf, ho⟩)
    go_ret
    exact ⟨rfl, hf, ⟨ho.os, ho.tape, ho.output, ho.size, ho.block⟩⟩

theorem aprogram_c (s a : Int) (A : Option Addr) (m c : Nat) (bs : List UInt8) (hr : Reads w A m (bs.map u8v)) (hap : Apart [fb, bb, wb] A) (hF : FlashAt w fb bb wb F) (h : AreaAt w ab fb R F.wear.length) :
    Calls Try.prog 35 #[ptr ab, .int .i64 s, .int .i64 a, .slice A m c] w fun e w' =>
      e = .returned (.int .i64 (R.programE F s a bs)) ∧ FlashAt w' fb bb wb (R.program F s a bs) ∧ Only [fb, bb, wb] w w' :=
  aprogram_z w s a A m c bs hr (fun _ => hap) hF h
theorem Fl.wearAt_b {F : Fl} (h : F.Ok) (s : Int) : 0 ≤ F.wearAt s ∧ F.wearAt s ≤ 4611686018427387904 := by
  unfold Fl.wearAt
  split
  · rw [List.getD_eq_getElem?_getD]
    by_cases hs : s.toNat < F.wear.length
    · rw [List.getElem?_eq_getElem hs]; exact h.wear _ (List.getElem_mem hs)
    · rw [List.getElem?_eq_none (by omega)]; simp
  · omega

theorem aleft_c (s : Int) (hF : FlashAt w fb bb wb F) (h : AreaAt w ab fb R F.wear.length) :
    Calls Try.prog 76 #[ptr ab, .int .i64 s] w fun e w' => e = .returned (.int .i64 (R.left F s)) ∧ ∃ n, w' = w.drewN n := by
  have H := Lib.hid h
  have HF := Lib.hid hF
  have h0 := h.a0
  have h1 := h.a1
  have h3 := h.a3
  have hfit := h.ok.fit
  have hmost := h.most
  have hb0 := h.ok.b0
  have hb1 := h.ok.b1
  have hok := hF.ok
  clear h hF
  cases hw : R.is s
  · have hr : R.left F s = 0 := by simp [Ar.left, hw]
    rw [hr]
    clear hr hok
    go_enter Try.func76, Try.ntmps76
    go_wp2_with (go_at_call 85; refine (ais_c _ _ H.out).mono ?_; rintro e w' ⟨rfl, rfl⟩)
    go_ret
    exact ⟨rfl, 0, rfl⟩
  · have hr : R.left F s = max 0 (R.budget - F.wearAt ((R.from_ : Int) + s)) := by simp [Ar.left, hw]
    obtain ⟨g1, g2⟩ := Fl.wearAt_b hok ((R.from_ : Int) + s)
    obtain ⟨b1, b2⟩ := Ar.is_b hw
    have e1 : IntKind.i64.wrap ((R.from_ : Int) + s) = (R.from_ : Int) + s := IntWalk.i64_in _ (by omega)
    have e2 : IntKind.i64.wrap (R.budget - F.wearAt ((R.from_ : Int) + s)) = R.budget - F.wearAt ((R.from_ : Int) + s) := IntWalk.i64_in _ (by omega)
    clear hok
    by_cases hp : 0 < R.budget - F.wearAt ((R.from_ : Int) + s)
    · have hr' : R.left F s = R.budget - F.wearAt ((R.from_ : Int) + s) := by rw [hr]; omega
      rw [hr']
      clear hr hr'
      go_enter Try.func76, Try.ntmps76
      go_wp2_with (go_at_call 85; refine (ais_c _ _ H.out).mono ?_; rintro e w' ⟨rfl, rfl⟩)
      go_quiet ((go_at_call 88; exact Calls.quiet_of_same ((wear_c _ _ (HF.out.drewN _)).mono fun _ _ hh => ⟨hh.1, hh.2.symm⟩)))
      go_wp2
      go_ret
      exact ⟨rfl, nq, rfl⟩
    · have hr' : R.left F s = 0 := by rw [hr]; omega
      rw [hr']
      clear hr hr'
      go_enter Try.func76, Try.ntmps76
      go_wp2_with (go_at_call 85; refine (ais_c _ _ H.out).mono ?_; rintro e w' ⟨rfl, rfl⟩)
      go_quiet ((go_at_call 88; exact Calls.quiet_of_same ((wear_c _ _ (HF.out.drewN _)).mono fun _ _ hh => ⟨hh.1, hh.2.symm⟩)))
      go_wp2
      go_ret
      exact ⟨rfl, nq, rfl⟩

theorem aerase_c (s : Int) (hF : FlashAt w fb bb wb F) (h : AreaAt w ab fb R F.wear.length) :
    Calls Try.prog 36 #[ptr ab, .int .i64 s] w fun e w' =>
      e = .returned (.int .i64 (R.eraseE F s)) ∧ FlashAt w' fb bb wb (R.erase F s) ∧ Only [fb, bb, wb] w w' := by
  have H := Lib.hid h
  have HF := Lib.hid hF
  have h0 := h.a0
  have h1 := h.a1
  have hfit := h.ok.fit
  have hmost := h.most
  have hb1 := h.ok.b1
  clear h hF
  cases hw : R.is s
  · have e1 : R.eraseE F s = 2 := by simp [Ar.eraseE, hw]
    have e2 : R.erase F s = F := by simp [Ar.erase, hw]
    rw [e1, e2]
    clear e1 e2
    go_enter Try.func36, Try.ntmps36
    go_wp2_with (go_at_call 85; refine (ais_c _ _ H.out).mono ?_; rintro e w' ⟨rfl, rfl⟩)
    go_ret
    exact ⟨rfl, HF.out, Only.refl _ _⟩
  · obtain ⟨b1, b2⟩ := Ar.is_b hw
    cases hl : R.left F s == 0
    · have k1 : R.eraseE F s = F.eraseE ((R.from_ : Int) + s) := by simp [Ar.eraseE, hw, hl]
      have k2 : R.erase F s = F.erase ((R.from_ : Int) + s) := by simp [Ar.erase, hw, hl]
      have hlt : F.wearAt ((R.from_ : Int) + s) ≤ 4611686018427387903 := by
        have : R.left F s ≠ 0 := by simpa using hl
        simp only [Ar.left, hw, if_true] at this
        omega
      rw [k1, k2]
      clear k1 k2
      have e1 : IntKind.i64.wrap ((R.from_ : Int) + s) = (R.from_ : Int) + s := IntWalk.i64_in _ (by omega)
      have HLT := Lib.hid hlt
      clear hlt
      go_enter Try.func36, Try.ntmps36
      go_wp2_with (first | (go_at_call 85; refine (ais_c _ _ H.out).mono ?_; rintro e w' ⟨rfl, rfl⟩) | (go_at_call 76; refine (aleft_c _ _ HF.out H.out).mono ?_; rintro e w' ⟨rfl, nq, rfl⟩))
      refine wp_region_quiet_tail 10 (by kernel_rfl) (by kernel_rfl) ?_
      simp only [List.take_succ_cons, List.take_zero, List.drop_succ_cons, List.drop_zero]
      repeat (go_big_quiet_step (fail))
      refine wpQuiet_nil ?_
      intro n2
      go_wp2_with (go_at_call 24; refine (erase_c _ _ _ _ F _ (HF.out.drewN _) HLT.out).mono ?_; rintro e w' ⟨rfl, hf, ho⟩)
      go_ret
      exact ⟨rfl, hf, ⟨ho.os, ho.tape, ho.output, ho.size, ho.block⟩⟩
    · have k1 : R.eraseE F s = 5 := by simp [Ar.eraseE, hw, hl]
      have k2 : R.erase F s = F := by simp [Ar.erase, hw, hl]
      rw [k1, k2]
      clear k1 k2
      go_enter Try.func36, Try.ntmps36
      go_wp2_with (first | (go_at_call 85; refine (ais_c _ _ H.out).mono ?_; rintro e w' ⟨rfl, rfl⟩) | (go_at_call 76; refine (aleft_c _ _ HF.out H.out).mono ?_; rintro e w' ⟨rfl, nq, rfl⟩))
      go_ret
      exact ⟨rfl, HF.out.drewN nq, (Only.refl _ _).drewN nq⟩
end
end Go.Proofs.Ytlchlcjahndjgaa
