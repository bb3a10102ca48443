/- Walks of package area, second part: New, Blank. -/
import Derived.Test.YtlchlcjahndjgaaArea
import Derived.Deep.DeepCutAuto
namespace Go.Proofs.Ytlchlcjahndjgaa
open Go.RowKit
set_option linter.unusedVariables false
set_option linter.unusedSimpArgs false

def NewArea (w : World) (fb n : Nat) (R : Ar) (e : Ending) (w' : World) : Prop :=
  ∃ ab, e = .returned (ptr ab) ∧ AreaAt w' ab fb R n ∧ Below w.heap.size w w' ∧ w.heap.size ≤ ab

theorem new_area_at {w W' : World} {fb n : Nat} {R : Ar} {ab : Nat} (hW : Blk W' ab 103 #[ptr fb, .int .i64 R.from_, .int .i64 R.len, .int .i64 R.budget]) (hok : R.Ok n) (hn : n ≤ 400) (hb : Below w.heap.size w W') (h1 : w.heap.size ≤ ab) :
    NewArea w fb n R (.returned (ptr ab)) W' := ⟨ab, rfl, ⟨hok, hn, hW⟩, hb, h1⟩

theorem new_area_fin {w W : World} {g fb n : Nat} {R : Ar} {x y v : Int} (HB : Blk W g 103 #[ptr fb, .int .i64 0, .int .i64 0, .int .i64 v]) (hW : Below w.heap.size w W) (hg : w.heap.size ≤ g)
    (hok : R.Ok n) (hn : n ≤ 400) (e1 : (R.from_ : Int) = x) (e2 : (R.len : Int) = y) (e3 : v = R.budget) (k : Nat) :
    NewArea w fb n R (.returned (ptr g)) (((W.drewN k).setCell ⟨g, 1, none⟩ (.int .i64 x)).setCell ⟨g, 2, none⟩ (.int .i64 y)) := by
  subst e1 e2 e3
  refine new_area_at ?_ hok hn (((⟨hW.os, hW.tape, hW.output, hW.size, hW.block⟩ : Below w.heap.size w (W.drewN k)).setCell hg _).setCell hg _) hg
  simpa using ((HB.drewN k).set_ 1 (.int .i64 R.from_)).set_ 2 (.int .i64 R.len)
theorem new_area_none {w W : World} {g fb n : Nat} {R : Ar} {v : Int} (HB : Blk W g 103 #[ptr fb, .int .i64 0, .int .i64 0, .int .i64 v]) (hW : Below w.heap.size w W) (hg : w.heap.size ≤ g)
    (hok : R.Ok n) (hn : n ≤ 400) (e1 : R.from_ = 0) (e2 : R.len = 0) (e3 : v = R.budget) (k : Nat) :
    NewArea w fb n R (.returned (ptr g)) (W.drewN k) := by
  subst e3
  refine new_area_at ?_ hok hn ⟨hW.os, hW.tape, hW.output, hW.size, hW.block⟩ hg
  rw [e1, e2]
  exact HB.drewN k

section
variable {fb bb wb : Nat} {F : Fl} (w : World)
set_option maxHeartbeats 1000000 in
theorem anew_c (r x l b : Int) (hF : FlashAt w fb bb wb F) :
    Calls Try.prog 22 #[ptr fb, .agg #[.int .i64 r, .int .i64 x, .int .i64 l], .int .i64 b] w (NewArea w fb F.wear.length (Ar.new F.wear.length x l b)) := by
  have HF := Lib.hid hF
  have hmost := hF.ok.most
  clear hF
  by_cases hx : 0 ≤ x
  · by_cases hx2 : x ≤ (F.wear.length : Int)
    · by_cases hl : 0 < l
      · have hA : Ar.new F.wear.length x l b = { from_ := x.toNat, len := (min l ((F.wear.length : Int) - x)).toNat, budget := max 0 (min b 1000) } := by
          unfold Ar.new; rw [if_pos ⟨hx, hx2, hl⟩]
        have HA := Lib.hid hA
        clear hA
        go_enter Try.func22, Try.ntmps22
        go_upto_region 1 with fail
        go_cut [7] (fun s wx => ∃ v : Int, s = .pointer (some ⟨w.heap.size + 1, 0, none⟩) ∧ v = max 0 (min b 1000) ∧ wx = (w.alloc (.cells #[.int .i64 r, .int .i64 x, .int .i64 l] 48)).alloc (.cells #[ptr fb, .int .i64 0, .int .i64 0, .int .i64 v] 103))
        case first =>
          go_wp2_with fail
          all_goals go_meet
          all_goals exact ⟨_, rfl, by omega, rfl⟩
        case rest =>
          obtain ⟨v, rfl, hv, rfl⟩ := hcut
          have HV := Lib.hid hv
          clear hv
          have F1 := HF.out.alloc (.cells #[.int .i64 r, .int .i64 x, .int .i64 l] 48)
          have F2 := F1.alloc (.cells #[ptr fb, .int .i64 0, .int .i64 0, .int .i64 v] 103)
          have k1 : ((w.alloc (.cells #[.int .i64 r, .int .i64 x, .int .i64 l] 48)).alloc (.cells #[ptr fb, .int .i64 0, .int .i64 0, .int .i64 v] 103)).cell? ⟨w.heap.size, 1, none⟩ = some (.int .i64 x) := ((Blk.new w 48 _).alloc _).cell 1
          have k2 : ((w.alloc (.cells #[.int .i64 r, .int .i64 x, .int .i64 l] 48)).alloc (.cells #[ptr fb, .int .i64 0, .int .i64 0, .int .i64 v] 103)).cell? ⟨w.heap.size, 2, none⟩ = some (.int .i64 l) := ((Blk.new w 48 _).alloc _).cell 2
          have HB : Hid (Blk ((w.alloc (.cells #[.int .i64 r, .int .i64 x, .int .i64 l] 48)).alloc (.cells #[ptr fb, .int .i64 0, .int .i64 0, .int .i64 v] 103)) (w.heap.size + 1) 103 #[ptr fb, .int .i64 0, .int .i64 0, .int .i64 v]) := by
            have h := Blk.new (w.alloc (.cells #[.int .i64 r, .int .i64 x, .int .i64 l] 48)) 103 #[ptr fb, .int .i64 0, .int .i64 0, .int .i64 v]
            rw [show (w.alloc (.cells #[.int .i64 r, .int .i64 x, .int .i64 l] 48)).heap.size = w.heap.size + 1 by simp] at h
            exact h
          have HW : Hid (Below w.heap.size w ((w.alloc (.cells #[.int .i64 r, .int .i64 x, .int .i64 l] 48)).alloc (.cells #[ptr fb, .int .i64 0, .int .i64 0, .int .i64 v] 103))) := ((Below.refl _ _).alloc (Nat.le_refl _) _).alloc (by simp) _
          have HF2 := Lib.hid F2
          clear F1 F2 HF
          generalize ((w.alloc (.cells #[.int .i64 r, .int .i64 x, .int .i64 l] 48)).alloc (.cells #[ptr fb, .int .i64 0, .int .i64 0, .int .i64 v] 103)) = W at *
          go_wp2_with fail
          go_quiet ((go_at_call 68; exact Calls.quiet_of_same ((flen_c _ (HF2.out.drewN _)).mono fun _ _ hh => ⟨hh.1, hh.2.symm⟩)))
          go_wp2_with fail
          have a1 : W.cell? ⟨w.heap.size + 1, 1, none⟩ = some (.int .i64 0) := HB.out.cell 1
          have a2 : W.cell? ⟨w.heap.size + 1, 2, none⟩ = some (.int .i64 0) := HB.out.cell 2
          have f1 := HB.out.frozen 1
          have f2 := HB.out.frozen 2
          have ew : IntKind.i64.wrap ((F.wear.length : Int) - x) = (F.wear.length : Int) - x := IntWalk.i64_in _ (by omega)
          go_region_held3 (fun w' => w'.cell? ⟨w.heap.size, 1, none⟩ = some (.int .i64 x) ∧ w'.cell? ⟨w.heap.size, 2, none⟩ = some (.int .i64 l)) (go_keep) (first | (go_at_call 68; refine (flen_c _ (HF2.out.drewN _)).mono ?_; rintro e w' ⟨rfl, rfl⟩))
          all_goals go_wp2_with fail
          all_goals
            go_ret
            exact new_area_fin HB.out HW.out (by omega) (Ar.new_ok _ _ _ _) hmost (by rw [HA.out]; simp only; omega) (by rw [HA.out]; simp only; omega) (by rw [HA.out]; exact HV.out) _
      · have hd : decide (0 < l) = false := by simpa using hl
        have hA : Ar.new F.wear.length x l b = { from_ := 0, len := 0, budget := max 0 (min b 1000) } := by
          unfold Ar.new; rw [if_neg (by omega)]
        have HA := Lib.hid hA
        clear hA
        go_enter Try.func22, Try.ntmps22
        go_upto_region 1 with fail
        go_cut [7] (fun s wx => ∃ v : Int, s = .pointer (some ⟨w.heap.size + 1, 0, none⟩) ∧ v = max 0 (min b 1000) ∧ wx = (w.alloc (.cells #[.int .i64 r, .int .i64 x, .int .i64 l] 48)).alloc (.cells #[ptr fb, .int .i64 0, .int .i64 0, .int .i64 v] 103))
        case first =>
          go_wp2_with fail
          all_goals go_meet
          all_goals exact ⟨_, rfl, by omega, rfl⟩
        case rest =>
          obtain ⟨v, rfl, hv, rfl⟩ := hcut
          have HV := Lib.hid hv
          clear hv
          have F1 := HF.out.alloc (.cells #[.int .i64 r, .int .i64 x, .int .i64 l] 48)
          have F2 := F1.alloc (.cells #[ptr fb, .int .i64 0, .int .i64 0, .int .i64 v] 103)
          have k1 : ((w.alloc (.cells #[.int .i64 r, .int .i64 x, .int .i64 l] 48)).alloc (.cells #[ptr fb, .int .i64 0, .int .i64 0, .int .i64 v] 103)).cell? ⟨w.heap.size, 1, none⟩ = some (.int .i64 x) := ((Blk.new w 48 _).alloc _).cell 1
          have k2 : ((w.alloc (.cells #[.int .i64 r, .int .i64 x, .int .i64 l] 48)).alloc (.cells #[ptr fb, .int .i64 0, .int .i64 0, .int .i64 v] 103)).cell? ⟨w.heap.size, 2, none⟩ = some (.int .i64 l) := ((Blk.new w 48 _).alloc _).cell 2
          have HB : Hid (Blk ((w.alloc (.cells #[.int .i64 r, .int .i64 x, .int .i64 l] 48)).alloc (.cells #[ptr fb, .int .i64 0, .int .i64 0, .int .i64 v] 103)) (w.heap.size + 1) 103 #[ptr fb, .int .i64 0, .int .i64 0, .int .i64 v]) := by
            have h := Blk.new (w.alloc (.cells #[.int .i64 r, .int .i64 x, .int .i64 l] 48)) 103 #[ptr fb, .int .i64 0, .int .i64 0, .int .i64 v]
            rw [show (w.alloc (.cells #[.int .i64 r, .int .i64 x, .int .i64 l] 48)).heap.size = w.heap.size + 1 by simp] at h
            exact h
          have HW : Hid (Below w.heap.size w ((w.alloc (.cells #[.int .i64 r, .int .i64 x, .int .i64 l] 48)).alloc (.cells #[ptr fb, .int .i64 0, .int .i64 0, .int .i64 v] 103))) := ((Below.refl _ _).alloc (Nat.le_refl _) _).alloc (by simp) _
          have HF2 := Lib.hid F2
          clear F1 F2 HF
          generalize ((w.alloc (.cells #[.int .i64 r, .int .i64 x, .int .i64 l] 48)).alloc (.cells #[ptr fb, .int .i64 0, .int .i64 0, .int .i64 v] 103)) = W at *
          go_wp2_with fail
          go_quiet ((go_at_call 68; exact Calls.quiet_of_same ((flen_c _ (HF2.out.drewN _)).mono fun _ _ hh => ⟨hh.1, hh.2.symm⟩)))
          go_wp2_with fail
          go_ret
          exact new_area_none HB.out HW.out (by omega) (Ar.new_ok _ _ _ _) hmost (by rw [HA.out]) (by rw [HA.out]) (by rw [HA.out]; exact HV.out) _
    · have hd : decide (x ≤ (F.wear.length : Int)) = false := by simpa using hx2
      have hA : Ar.new F.wear.length x l b = { from_ := 0, len := 0, budget := max 0 (min b 1000) } := by
        unfold Ar.new; rw [if_neg (by omega)]
      have HA := Lib.hid hA
      clear hA
      go_enter Try.func22, Try.ntmps22
      go_upto_region 1 with fail
      go_cut [7] (fun s wx => ∃ v : Int, s = .pointer (some ⟨w.heap.size + 1, 0, none⟩) ∧ v = max 0 (min b 1000) ∧ wx = (w.alloc (.cells #[.int .i64 r, .int .i64 x, .int .i64 l] 48)).alloc (.cells #[ptr fb, .int .i64 0, .int .i64 0, .int .i64 v] 103))
      case first =>
        go_wp2_with fail
        all_goals go_meet
        all_goals exact ⟨_, rfl, by omega, rfl⟩
      case rest =>
        obtain ⟨v, rfl, hv, rfl⟩ := hcut
        have HV := Lib.hid hv
        clear hv
        have F1 := HF.out.alloc (.cells #[.int .i64 r, .int .i64 x, .int .i64 l] 48)
        have F2 := F1.alloc (.cells #[ptr fb, .int .i64 0, .int .i64 0, .int .i64 v] 103)
        have k1 : ((w.alloc (.cells #[.int .i64 r, .int .i64 x, .int .i64 l] 48)).alloc (.cells #[ptr fb, .int .i64 0, .int .i64 0, .int .i64 v] 103)).cell? ⟨w.heap.size, 1, none⟩ = some (.int .i64 x) := ((Blk.new w 48 _).alloc _).cell 1
        have k2 : ((w.alloc (.cells #[.int .i64 r, .int .i64 x, .int .i64 l] 48)).alloc (.cells #[ptr fb, .int .i64 0, .int .i64 0, .int .i64 v] 103)).cell? ⟨w.heap.size, 2, none⟩ = some (.int .i64 l) := ((Blk.new w 48 _).alloc _).cell 2
        have HB : Hid (Blk ((w.alloc (.cells #[.int .i64 r, .int .i64 x, .int .i64 l] 48)).alloc (.cells #[ptr fb, .int .i64 0, .int .i64 0, .int .i64 v] 103)) (w.heap.size + 1) 103 #[ptr fb, .int .i64 0, .int .i64 0, .int .i64 v]) := by
          have h := Blk.new (w.alloc (.cells #[.int .i64 r, .int .i64 x, .int .i64 l] 48)) 103 #[ptr fb, .int .i64 0, .int .i64 0, .int .i64 v]
          rw [show (w.alloc (.cells #[.int .i64 r, .int .i64 x, .int .i64 l] 48)).heap.size = w.heap.size + 1 by simp] at h
          exact h
        have HW : Hid (Below w.heap.size w ((w.alloc (.cells #[.int .i64 r, .int .i64 x, .int .i64 l] 48)).alloc (.cells #[ptr fb, .int .i64 0, .int .i64 0, .int .i64 v] 103))) := ((Below.refl _ _).alloc (Nat.le_refl _) _).alloc (by simp) _
        have HF2 := Lib.hid F2
        clear F1 F2 HF
        generalize ((w.alloc (.cells #[.int .i64 r, .int .i64 x, .int .i64 l] 48)).alloc (.cells #[ptr fb, .int .i64 0, .int .i64 0, .int .i64 v] 103)) = W at *
        go_wp2_with fail
        go_quiet ((go_at_call 68; exact Calls.quiet_of_same ((flen_c _ (HF2.out.drewN _)).mono fun _ _ hh => ⟨hh.1, hh.2.symm⟩)))
        go_wp2_with fail
        go_ret
        exact new_area_none HB.out HW.out (by omega) (Ar.new_ok _ _ _ _) hmost (by rw [HA.out]) (by rw [HA.out]) (by rw [HA.out]; exact HV.out) _
  · have hd : decide (0 ≤ x) = false := by simpa using hx
    have hA : Ar.new F.wear.length x l b = { from_ := 0, len := 0, budget := max 0 (min b 1000) } := by
      unfold Ar.new; rw [if_neg (by omega)]
    have HA := Lib.hid hA
    clear hA
    go_enter Try.func22, Try.ntmps22
    go_upto_region 1 with fail
    go_cut [7] (fun s wx => ∃ v : Int, s = .pointer (some ⟨w.heap.size + 1, 0, none⟩) ∧ v = max 0 (min b 1000) ∧ wx = (w.alloc (.cells #[.int .i64 r, .int .i64 x, .int .i64 l] 48)).alloc (.cells #[ptr fb, .int .i64 0, .int .i64 0, .int .i64 v] 103))
    case first =>
      go_wp2_with fail
      all_goals go_meet
      all_goals exact ⟨_, rfl, by omega, rfl⟩
    case rest =>
      obtain ⟨v, rfl, hv, rfl⟩ := hcut
      have HV := Lib.hid hv
      clear hv
      have F1 := HF.out.alloc (.cells #[.int .i64 r, .int .i64 x, .int .i64 l] 48)
      have F2 := F1.alloc (.cells #[ptr fb, .int .i64 0, .int .i64 0, .int .i64 v] 103)
      have k1 : ((w.alloc (.cells #[.int .i64 r, .int .i64 x, .int .i64 l] 48)).alloc (.cells #[ptr fb, .int .i64 0, .int .i64 0, .int .i64 v] 103)).cell? ⟨w.heap.size, 1, none⟩ = some (.int .i64 x) := ((Blk.new w 48 _).alloc _).cell 1
      have k2 : ((w.alloc (.cells #[.int .i64 r, .int .i64 x, .int .i64 l] 48)).alloc (.cells #[ptr fb, .int .i64 0, .int .i64 0, .int .i64 v] 103)).cell? ⟨w.heap.size, 2, none⟩ = some (.int .i64 l) := ((Blk.new w 48 _).alloc _).cell 2
      have HB : Hid (Blk ((w.alloc (.cells #[.int .i64 r, .int .i64 x, .int .i64 l] 48)).alloc (.cells #[ptr fb, .int .i64 0, .int .i64 0, .int .i64 v] 103)) (w.heap.size + 1) 103 #[ptr fb, .int .i64 0, .int .i64 0, .int .i64 v]) := by
        have h := Blk.new (w.alloc (.cells #[.int .i64 r, .int .i64 x, .int .i64 l] 48)) 103 #[ptr fb, .int .i64 0, .int .i64 0, .int .i64 v]
        rw [show (w.alloc (.cells #[.int .i64 r, .int .i64 x, .int .i64 l] 48)).heap.size = w.heap.size + 1 by simp] at h
        exact h
      have HW : Hid (Below w.heap.size w ((w.alloc (.cells #[.int .i64 r, .int .i64 x, .int .i64 l] 48)).alloc (.cells #[ptr fb, .int .i64 0, .int .i64 0, .int .i64 v] 103))) := ((Below.refl _ _).alloc (Nat.le_refl _) _).alloc (by simp) _
      have HF2 := Lib.hid F2
      clear F1 F2 HF
      generalize ((w.alloc (.cells #[.int .i64 r, .int .i64 x, .int .i64 l] 48)).alloc (.cells #[ptr fb, .int .i64 0, .int .i64 0, .int .i64 v] 103)) = W at *
      go_wp2_with fail
      go_quiet ((go_at_call 68; exact Calls.quiet_of_same ((flen_c _ (HF2.out.drewN _)).mono fun _ _ hh => ⟨hh.1, hh.2.symm⟩)))
      go_wp2_with fail
      go_ret
      exact new_area_none HB.out HW.out (by omega) (Ar.new_ok _ _ _ _) hmost (by rw [HA.out]) (by rw [HA.out]) (by rw [HA.out]; exact HV.out) _
end
end Go.Proofs.Ytlchlcjahndjgaa
