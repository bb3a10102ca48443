/- The reference's area: Len, in, Read, Program, Left, Erase, Blank. -/
import Derived.Test.YtlchlcjahndjgaaRfG
import Derived.Test.YtlchlcjahndjgaaAreaE
namespace Go.Proofs.Ytlchlcjahndjgaa
open Go.RowKit
set_option linter.unusedVariables false
set_option linter.unusedSimpArgs false
/-- The reference's area R lies at block ab, over the flash at block fb. -/
structure RAt (w : World) (ab fb : Nat) (R : Ar) (n : Nat) : Prop where
  ok : R.Ok n
  most : n ≤ 400
  obj : Blk w ab 106 #[ptr fb, .int .i64 R.from_, .int .i64 R.len, .int .i64 R.budget]
namespace Ar
def rin (R : Ar) (s a n : Int) : Bool := R.is s && decide (0 ≤ a) && decide (0 ≤ n) && decide (n ≤ 320) && decide (a ≤ 320 - n)
theorem rin_within {R : Ar} {s a n : Int} (h : 0 ≤ n) : R.rin s a n = R.within s a n := by
  unfold rin within
  rw [Bool.eq_iff_iff]
  simp only [Bool.and_eq_true, decide_eq_true_eq]
  constructor
  · rintro ⟨⟨⟨⟨h1, h2⟩, h3⟩, h4⟩, h5⟩
    exact ⟨⟨⟨h1, h2⟩, by omega⟩, by omega⟩
  · rintro ⟨⟨⟨h1, h2⟩, h3⟩, h4⟩
    exact ⟨⟨⟨⟨h1, h2⟩, h⟩, by omega⟩, by omega⟩
def rprogram (R : Ar) (G : RF) (s a : Int) (bs : List UInt8) : RF := if R.within s a bs.length then G.program (((R.from_ : Int) + s) * 320 + a) bs else G
def rerase (R : Ar) (G : RF) (s : Int) : RF := if R.is s then (if R.left G.fl s == 0 then G else G.erase ((R.from_ : Int) + s)) else G
theorem rprogram_fl (R : Ar) (G : RF) (h : G.cutb = true → 0 ≤ G.left) (s a : Int) (bs : List UInt8) : (R.rprogram G s a bs).fl = R.program G.fl s a bs := by
  unfold rprogram program
  split
  · exact RF.program_fl G h _ _
  · rfl
theorem rerase_fl (R : Ar) (G : RF) (h : G.cutb = true → 0 ≤ G.left) (s : Int) : (R.rerase G s).fl = R.erase G.fl s := by
  unfold rerase erase
  split
  · split
    · rfl
    · exact RF.erase_fl G h _
  · rfl
end Ar
section
variable {w w' : World} {ab fb n : Nat} {R : Ar} {S : List Nat}
theorem RAt.a0 (h : RAt w ab fb R n) : w.cell? ⟨ab, 0, none⟩ = some (ptr fb) := by rw [h.obj.cell]; rfl
theorem RAt.a1 (h : RAt w ab fb R n) : w.cell? ⟨ab, 1, none⟩ = some (.int .i64 R.from_) := by rw [h.obj.cell]; rfl
theorem RAt.a2 (h : RAt w ab fb R n) : w.cell? ⟨ab, 2, none⟩ = some (.int .i64 R.len) := by rw [h.obj.cell]; rfl
theorem RAt.a3 (h : RAt w ab fb R n) : w.cell? ⟨ab, 3, none⟩ = some (.int .i64 R.budget) := by rw [h.obj.cell]; rfl
theorem RAt.only (h : RAt w ab fb R n) (ho : Only S w w') (hn : ab ∉ S) : RAt w' ab fb R n := ⟨h.ok, h.most, h.obj.only ho hn⟩
theorem RAt.below (h : RAt w ab fb R n) (ho : Below w.heap.size w w') : RAt w' ab fb R n := ⟨h.ok, h.most, h.obj.below ho h.obj.lt⟩
theorem RAt.drew (h : RAt w ab fb R n) : RAt w.drew ab fb R n := ⟨h.ok, h.most, h.obj⟩
theorem RAt.drewN (h : RAt w ab fb R n) (k : Nat) : RAt (w.drewN k) ab fb R n := ⟨h.ok, h.most, h.obj⟩
theorem ralen_c (w : World) (h : RAt w ab fb R n) : Calls Try.prog 77 #[ptr ab] w fun e w' => e = .returned (.int .i64 R.len) ∧ w = w' := by
  have h2 := h.a2
  clear h
  go_enter Try.func77, Try.ntmps77
  go_wp2
  go_ret
  exact ⟨rfl, rfl⟩
theorem rain_c (w : World) (s a k : Int) (h : RAt w ab fb R n) : Calls Try.prog 114 #[ptr ab, .int .i64 s, .int .i64 a, .int .i64 k] w fun e w' => e = .returned (.bool (R.rin s a k)) ∧ w = w' := by
  have h2 := h.a2
  clear h
  unfold Ar.rin Ar.is
  by_cases h0 : 0 ≤ s
  · by_cases h1 : s < (R.len : Int)
    · by_cases h3 : 0 ≤ a
      · by_cases h4 : 0 ≤ k
        · by_cases h5 : k ≤ 320
          · have e1 : IntKind.i64.wrap (320 - k) = 320 - k := IntWalk.i64_in _ (by omega)
            go_enter Try.func114, Try.ntmps114
            go_wp2
            go_ret
            exact ⟨bool_ret (by simp [h0, h1, h3, h4, h5]), rfl⟩
          · have d5 : decide (k ≤ 320) = false := by simpa using h5
            go_enter Try.func114, Try.ntmps114
            go_wp2
            go_ret
            exact ⟨bool_ret (by simp [h5]), rfl⟩
        · have d5 : decide (0 ≤ k) = false := by simpa using h4
          go_enter Try.func114, Try.ntmps114
          go_wp2
          go_ret
          exact ⟨bool_ret (by simp [h4]), rfl⟩
      · have d5 : decide (0 ≤ a) = false := by simpa using h3
        go_enter Try.func114, Try.ntmps114
        go_wp2
        go_ret
        exact ⟨bool_ret (by simp [h3]), rfl⟩
    · have d5 : decide (s < (R.len : Int)) = false := by simpa using h1
      go_enter Try.func114, Try.ntmps114
      go_wp2
      go_ret
      exact ⟨bool_ret (by simp [h1]), rfl⟩
  · have d5 : decide (0 ≤ s) = false := by simpa using h0
    go_enter Try.func114, Try.ntmps114
    go_wp2
    go_ret
    exact ⟨bool_ret (by simp [h0]), rfl⟩
end
section
variable {ab fb bb wb : Nat} {R : Ar} {G : RF} (w : World)
theorem raread_c (s a k : Int) (hF : RFAt w fb bb wb G) (h : RAt w ab fb R G.wear.length) :
    Calls Try.prog 93 #[ptr ab, .int .i64 s, .int .i64 a, .int .i64 k] w (MadeBytes w (R.read G.fl s a k)) := by
  have H := Lib.hid h
  have HF := Lib.hid hF
  have h0 := h.a0
  have h1 := h.a1
  have hfit := h.ok.fit
  have hmost := h.most
  clear h hF
  cases hw : R.rin s a k
  · have hr : R.read G.fl s a k = [] := by
      unfold Ar.read
      split
      · rename_i h9
        have hk : k < 0 := by
          by_cases hk : 0 ≤ k
          · rw [Ar.rin_within hk, h9] at hw; cases hw
          · omega
        unfold Fl.read
        rw [if_neg (by intro hh; have := hh.1; omega)]
      · rfl
    rw [hr]
    clear hr
    go_enter Try.func93, Try.ntmps93
    go_wp2_with (go_at_call 114; refine (rain_c _ _ _ _ H.out).mono ?_; rintro e w' ⟨rfl, rfl⟩)
    go_ret
    exact ⟨none, 0, rfl, World.ownsRow_nil _ _ _ _, Below.refl _ _⟩
  · have hk : 0 ≤ k := by
      unfold Ar.rin at hw
      simp at hw
      omega
    have hw2 : R.within s a k = true := by rw [← Ar.rin_within hk]; exact hw
    have hr : R.read G.fl s a k = G.fl.read (((R.from_ : Int) + s) * 320 + a) k := by simp [Ar.read, hw2]
    rw [hr]
    obtain ⟨b1, b2, b3, b4, b5⟩ := Ar.within_b hw2
    have e1 : IntKind.i64.wrap ((R.from_ : Int) + s) = (R.from_ : Int) + s := IntWalk.i64_in _ (by omega)
    have e2 : IntKind.i64.wrap (((R.from_ : Int) + s) * 320) = ((R.from_ : Int) + s) * 320 := IntWalk.i64_in _ (by omega)
    have e3 : IntKind.i64.wrap (((R.from_ : Int) + s) * 320 + a) = ((R.from_ : Int) + s) * 320 + a := IntWalk.i64_in _ (by omega)
    have HX : Hid (-9223372036854775808 ≤ ((R.from_ : Int) + s) * 320 + a ∧ ((R.from_ : Int) + s) * 320 + a ≤ 9223372036854775807) := Lib.hid (by omega)
    clear hr hw2
    go_enter Try.func93, Try.ntmps93
    go_wp2_with (go_at_call 114; refine (rain_c _ _ _ _ H.out).mono ?_; rintro e w' ⟨rfl, rfl⟩)
    refine wp_region_quiet_tail 14 (by kernel_rfl) (by kernel_rfl) ?_
    simp only [List.take_succ_cons, List.take_zero, List.drop_succ_cons, List.drop_zero]
    repeat (go_big_quiet_step (fail))
    refine wpQuiet_nil ?_
    intro nq
    go_wp2_with (go_at_call 95; refine (rread_c _ _ _ _ G _ _ HX.out (HF.out.drewN nq)).mono ?_; rintro e w' ⟨A', c', rfl, hown, hbel⟩)
    go_ret
    exact ⟨A', c', rfl, hown, ⟨hbel.os, hbel.tape, hbel.output, hbel.size, hbel.block⟩⟩
theorem raprogram_c (s a : Int) (A : Option Addr) (m c : Nat) (bs : List UInt8) (hr : Reads w A m (bs.map u8v)) (hap : 0 < m → Apart [fb, bb, wb] A) (hF : RFAt w fb bb wb G) (hg : G.cutb = true → 0 ≤ G.left) (h : RAt w ab fb R G.wear.length) :
    Calls Try.prog 91 #[ptr ab, .int .i64 s, .int .i64 a, .slice A m c] w fun e w' =>
      e = .returned (.int .i64 (R.programE G.fl s a bs)) ∧ RFAt w' fb bb wb (R.rprogram G s a bs) ∧ Only [fb, bb, wb] w w' := by
  have hml : bs.length = m := by simpa using hr.len
  subst hml
  have H := Lib.hid h
  have HF := Lib.hid hF
  have h0 := h.a0
  have h1 := h.a1
  have hfit := h.ok.fit
  have hmost := h.most
  have hww : R.rin s a bs.length = R.within s a bs.length := Ar.rin_within (by omega)
  clear h hF
  cases hw : R.within s a bs.length
  · have e1 : R.programE G.fl s a bs = 2 := by simp [Ar.programE, hw]
    have e2 : R.rprogram G s a bs = G := by simp [Ar.rprogram, hw]
    rw [hw] at hww
    rw [e1, e2]
    clear e1 e2
    go_enter Try.func91, Try.ntmps91
    go_wp2_with (go_at_call 114; refine (rain_c _ _ _ _ H.out).mono ?_; rintro e w' ⟨rfl, rfl⟩)
    go_ret
    exact ⟨rfl, HF.out, Only.refl _ _⟩
  · have k1 : R.programE G.fl s a bs = G.fl.programE (((R.from_ : Int) + s) * 320 + a) bs := by simp [Ar.programE, hw]
    have k2 : R.rprogram G s a bs = G.program (((R.from_ : Int) + s) * 320 + a) bs := by simp [Ar.rprogram, hw]
    rw [k1, k2]
    rw [hw] at hww
    clear k1 k2
    obtain ⟨b1, b2, b3, b4, b5⟩ := Ar.within_b hw
    have e1 : IntKind.i64.wrap ((R.from_ : Int) + s) = (R.from_ : Int) + s := IntWalk.i64_in _ (by omega)
    have e2 : IntKind.i64.wrap (((R.from_ : Int) + s) * 320) = ((R.from_ : Int) + s) * 320 := IntWalk.i64_in _ (by omega)
    have e3 : IntKind.i64.wrap (((R.from_ : Int) + s) * 320 + a) = ((R.from_ : Int) + s) * 320 + a := IntWalk.i64_in _ (by omega)
    have HX : Hid (-9223372036854775808 ≤ ((R.from_ : Int) + s) * 320 + a ∧ ((R.from_ : Int) + s) * 320 + a ≤ 9223372036854775807) := Lib.hid (by omega)
    go_enter Try.func91, Try.ntmps91
    go_wp2_with (go_at_call 114; refine (rain_c _ _ _ _ H.out).mono ?_; rintro e w' ⟨rfl, rfl⟩)
    refine wp_region_quiet_tail 14 (by kernel_rfl) (by kernel_rfl) ?_
    simp only [List.take_succ_cons, List.take_zero, List.drop_succ_cons, List.drop_zero]
    repeat (go_big_quiet_step (fail))
    refine wpQuiet_nil ?_
    intro nq
    go_wp2_with (go_at_call 27; refine (rprogram_c _ _ _ _ G _ _ _ _ bs HX.out (HF.out.drewN nq) hg (hr.drewN nq) hap (by omega)).mono ?_; rintro e w' ⟨rfl, hf, ho⟩)
    go_ret
    exact ⟨rfl, hf, ⟨ho.os, ho.tape, ho.output, ho.size, ho.block⟩⟩
theorem raleft_c (s : Int) (hF : RFAt w fb bb wb G) (h : RAt w ab fb R G.wear.length) :
    Calls Try.prog 78 #[ptr ab, .int .i64 s] w fun e w' => e = .returned (.int .i64 (R.left G.fl s)) ∧ ∃ n, w' = w.drewN n := by
  have H := Lib.hid h
  have HF := Lib.hid hF
  have h0 := h.a0
  have h1 := h.a1
  have h2 := h.a2
  have h3 := h.a3
  have hfit := h.ok.fit
  have hmost := h.most
  have hb0 := h.ok.b0
  have hb1 := h.ok.b1
  have hok := hF.ok.fl
  clear h hF
  by_cases hs0 : s < 0
  · have hr : R.left G.fl s = 0 := by
      unfold Ar.left Ar.is
      rw [if_neg (by simp; omega)]
    rw [hr]
    clear hr hok
    go_enter Try.func78, Try.ntmps78
    go_wp2
    go_ret
    exact ⟨rfl, 0, rfl⟩
  · by_cases hs1 : s < (R.len : Int)
    · have hw : R.is s = true := by unfold Ar.is; simp; omega
      have hr : R.left G.fl s = max 0 (R.budget - G.fl.wearAt ((R.from_ : Int) + s)) := by simp [Ar.left, hw]
      obtain ⟨g1, g2⟩ := Fl.wearAt_b hok ((R.from_ : Int) + s)
      have e0 : ¬ (R.len : Int) ≤ s := by omega
      have e1 : IntKind.i64.wrap ((R.from_ : Int) + s) = (R.from_ : Int) + s := IntWalk.i64_in _ (by omega)
      have e2 : IntKind.i64.wrap (R.budget - G.fl.wearAt ((R.from_ : Int) + s)) = R.budget - G.fl.wearAt ((R.from_ : Int) + s) := IntWalk.i64_in _ (by omega)
      obtain ⟨x, hx⟩ : ∃ x, R.left G.fl s = x := ⟨_, rfl⟩
      have hcut : (if R.budget - G.fl.wearAt ((R.from_ : Int) + s) < 0 then 0 else if 1000 < R.budget - G.fl.wearAt ((R.from_ : Int) + s) then 1000 else R.budget - G.fl.wearAt ((R.from_ : Int) + s)) = x := by
        rw [← hx, hr]
        split
        · omega
        · split <;> omega
      have hc : ∀ W, Calls Try.prog 67 #[.int .i64 (R.budget - G.fl.wearAt ((R.from_ : Int) + s)), .int .i64 0, .int .i64 1000] W fun e w' => e = .returned (.int .i64 x) ∧ W = w' := fun W => hcut ▸ refcut_c _ 0 1000 W
      rw [hx]
      clear hr hok hw hx hcut
      go_enter Try.func78, Try.ntmps78
      go_wp2_with fail
      go_quiet (first | (go_at_call 96; exact Calls.quiet_of_same ((rwear_c _ _ (HF.out.drewN _)).mono fun _ _ hh => ⟨hh.1, hh.2.symm⟩)) | (go_at_call 67; exact Calls.quiet_of_same ((hc _).mono fun _ _ hh => ⟨hh.1, hh.2.symm⟩)))
      go_wp2
      go_ret
      exact ⟨rfl, nq, rfl⟩
    · have e0 : (R.len : Int) ≤ s := by omega
      have hr : R.left G.fl s = 0 := by
        unfold Ar.left Ar.is
        rw [if_neg (by simp; omega)]
      rw [hr]
      clear hr hok
      go_enter Try.func78, Try.ntmps78
      go_wp2
      go_ret
      exact ⟨rfl, 0, rfl⟩
theorem raerase_c (s : Int) (hF : RFAt w fb bb wb G) (hg : G.cutb = true → 0 ≤ G.left) (h : RAt w ab fb R G.wear.length) :
    Calls Try.prog 90 #[ptr ab, .int .i64 s] w fun e w' =>
      e = .returned (.int .i64 (R.eraseE G.fl s)) ∧ RFAt w' fb bb wb (R.rerase G s) ∧ Only [fb, bb, wb] w w' := by
  have H := Lib.hid h
  have HF := Lib.hid hF
  have h0 := h.a0
  have h1 := h.a1
  have h2 := h.a2
  have hfit := h.ok.fit
  have hmost := h.most
  have hb1 := h.ok.b1
  clear h hF
  by_cases hs0 : s < 0
  · have hw : R.is s = false := by unfold Ar.is; simp; omega
    have e1 : R.eraseE G.fl s = 2 := by simp [Ar.eraseE, hw]
    have e2 : R.rerase G s = G := by simp [Ar.rerase, hw]
    rw [e1, e2]
    clear e1 e2 hw
    go_enter Try.func90, Try.ntmps90
    go_wp2
    go_ret
    exact ⟨rfl, HF.out, Only.refl _ _⟩
  · by_cases hs1 : s < (R.len : Int)
    · have hw : R.is s = true := by unfold Ar.is; simp; omega
      have e0 : ¬ (R.len : Int) ≤ s := by omega
      cases hl : R.left G.fl s == 0
      · have k1 : R.eraseE G.fl s = G.fl.eraseE ((R.from_ : Int) + s) := by simp [Ar.eraseE, hw, hl]
        have k2 : R.rerase G s = G.erase ((R.from_ : Int) + s) := by simp [Ar.rerase, hw, hl]
        have hlt : G.fl.wearAt ((R.from_ : Int) + s) ≤ 4611686018427387903 := by
          have : R.left G.fl s ≠ 0 := by simpa using hl
          simp only [Ar.left, hw, if_true] at this
          omega
        rw [k1, k2]
        clear k1 k2 hw
        have e1 : IntKind.i64.wrap ((R.from_ : Int) + s) = (R.from_ : Int) + s := IntWalk.i64_in _ (by omega)
        have HLT := Lib.hid hlt
        clear hlt
        go_enter Try.func90, Try.ntmps90
        go_wp2_with (go_at_call 78; refine (raleft_c _ _ HF.out H.out).mono ?_; rintro e w' ⟨rfl, nq, rfl⟩)
        refine wp_region_quiet_tail 10 (by kernel_rfl) (by kernel_rfl) ?_
        simp only [List.take_succ_cons, List.take_zero, List.drop_succ_cons, List.drop_zero]
        repeat (go_big_quiet_step (fail))
        refine wpQuiet_nil ?_
        intro n2
        go_wp2_with (go_at_call 25; refine (rerase_c _ _ _ _ G _ (HF.out.drewN _) hg HLT.out).mono ?_; rintro e w' ⟨rfl, hf, ho⟩)
        go_ret
        exact ⟨rfl, hf, ⟨ho.os, ho.tape, ho.output, ho.size, ho.block⟩⟩
      · have k1 : R.eraseE G.fl s = 5 := by simp [Ar.eraseE, hw, hl]
        have k2 : R.rerase G s = G := by simp [Ar.rerase, hw, hl]
        rw [k1, k2]
        clear k1 k2 hw
        go_enter Try.func90, Try.ntmps90
        go_wp2_with (go_at_call 78; refine (raleft_c _ _ HF.out H.out).mono ?_; rintro e w' ⟨rfl, nq, rfl⟩)
        go_ret
        exact ⟨rfl, HF.out.drewN nq, (Only.refl _ _).drewN nq⟩
    · have hw : R.is s = false := by unfold Ar.is; simp; omega
      have e0 : (R.len : Int) ≤ s := by omega
      have e1 : R.eraseE G.fl s = 2 := by simp [Ar.eraseE, hw]
      have e2 : R.rerase G s = G := by simp [Ar.rerase, hw]
      rw [e1, e2]
      clear e1 e2 hw
      go_enter Try.func90, Try.ntmps90
      go_wp2
      go_ret
      exact ⟨rfl, HF.out, Only.refl _ _⟩
theorem rablank_c (s : Int) (hF : RFAt w fb bb wb G) (h : RAt w ab fb R G.wear.length) :
    Calls Try.prog 82 #[ptr ab, .int .i64 s] w fun e w' => e = .returned (.bool (R.blank G.fl s)) ∧ ∃ n, w' = w.drewN n := by
  have H := Lib.hid h
  have HF := Lib.hid hF
  have h0 := h.a0
  have h1 := h.a1
  have h2 := h.a2
  have hfit := h.ok.fit
  have hmost := h.most
  clear h hF
  by_cases hs0 : 0 ≤ s
  · by_cases hs1 : s < (R.len : Int)
    · have hw : R.is s = true := by unfold Ar.is; simp; omega
      have hr : R.blank G.fl s = G.fl.blank ((R.from_ : Int) + s) := by simp [Ar.blank, hw]
      rw [hr]
      have e1 : IntKind.i64.wrap ((R.from_ : Int) + s) = (R.from_ : Int) + s := IntWalk.i64_in _ (by omega)
      clear hr hw
      go_enter Try.func82, Try.ntmps82
      go_wp2_with fail
      go_quiet ((go_at_call 111; exact Calls.quiet_of_same ((rblank_c _ _ _ _ G _ (HF.out.drewN _)).mono fun _ _ hh => ⟨hh.1, hh.2.symm⟩)))
      go_wp2
      go_ret
      exact ⟨rfl, nq, rfl⟩
    · have hw : R.is s = false := by unfold Ar.is; simp; omega
      have hr : R.blank G.fl s = false := by simp [Ar.blank, hw]
      have hd : decide (s < (R.len : Int)) = false := by simpa using hs1
      rw [hr]
      clear hr hw
      go_enter Try.func82, Try.ntmps82
      go_wp2_with fail
      go_quiet (fail)
      go_wp2
      go_ret
      exact ⟨rfl, nq, rfl⟩
  · have hw : R.is s = false := by unfold Ar.is; simp; omega
    have hr : R.blank G.fl s = false := by simp [Ar.blank, hw]
    have hd : decide (0 ≤ s) = false := by simpa using hs0
    rw [hr]
    clear hr hw
    go_enter Try.func82, Try.ntmps82
    go_wp2_with fail
    go_quiet (fail)
    go_wp2
    go_ret
    exact ⟨rfl, nq, rfl⟩
end
end Go.Proofs.Ytlchlcjahndjgaa
