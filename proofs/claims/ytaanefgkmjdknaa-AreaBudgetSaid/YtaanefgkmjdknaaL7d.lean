/- waterlinelaw7.AreaBudget: the walk. -/
import Derived.Test.YtaanefgkmjdknaaL7c
namespace Go.Proofs.Ytaanefgkmjdknaa
open Go.RowKit
set_option linter.unusedVariables false
set_option linter.unusedSimpArgs false

set_option maxRecDepth 100000 in
set_option maxHeartbeats 1000000 in
theorem areaBudget_in (b : Int) (h0 : 0 ≤ b) (h1 : b ≤ 20) (A : Option Addr) (c : Nat) (l : List Int) (hl : l.length ≤ 100) (w : World) (r : Reads w A l.length (l.map i64v)) :
    Calls Try.prog 8 #[.int .i64 b, .slice A l.length c] w fun e w' => e = .returned (.bool true) ∧ Below w.heap.size w w' := by
  obtain ⟨F0, R, g0, g1, g2, g3, s5⟩ := bud_start b h0 h1
  have G0 := Lib.hid g0
  have G1 := Lib.hid g1
  have G2 := Lib.hid g2
  have G3 := Lib.hid g3
  have HR := Lib.hid r
  clear g0 g1 g2 g3 r
  go_enter Try.func8, Try.ntmps8
  go_wp2_with (go_at_call 27; refine (alive7_c _).mono ?_; rintro e w1 ⟨rfl, hb1⟩)
  refine (new_hf 4 (by omega) F0 G0.out hb1).mono ?_
  rintro e w2 ⟨fb, bb, wb, rfl, h⟩
  go_wp2_with fail
  refine (anew_h 0 1 3 b 4 G1.out R G2.out h).mono ?_
  rintro e w3 ⟨ab, rfl, h3, -, -⟩
  have H3 := Lib.hid h3
  clear h3 h hb1
  go_wp2_with fail
  go_loopw [9] (fun i wr => ∃ (k : Nat) (F : Fl) (had : List Int), k ≤ l.length ∧ i = .int .i64 k ∧ BudAt F had b ∧ HasA w wr ab fb bb wb R F ∧ Blk wr w3.heap.size 48 (had.map i64v).toArray) (fun i _ => l.length - (intOf i).toNat)
  case atStart => exact ⟨0, F0, [0, 0, 0], Nat.zero_le _, rfl, s5, H3.out.alloc _, Blk.new _ _ _⟩
  case round =>
    obtain ⟨k, F, had, hk, rfl, hB, hH, hblk⟩ := hrel
    by_cases hlt : k < l.length
    · obtain ⟨g, o, u, hA, hg, hu, hcell⟩ := (HR.out.below hH.has.below).at_ hlt
      rw [List.getElem?_map, List.getElem?_eq_getElem hlt] at hu
      simp only [Option.map_some, Option.some.injEq] at hu
      subst hu
      generalize l[k] = x at hcell
      subst hA
      obtain ⟨J, hJ, hJ'⟩ := i64_mask x 1023 (by omega)
      have hJ2 : bits .and .i64 x 1023 = (J : Int) := hJ'
      clear hJ'
      obtain ⟨s, hs, hq⟩ : ∃ s : Nat, s < 3 ∧ (J : Int) % 3 = (s : Int) := ⟨J % 3, by omega, by omega⟩
      have hq2 : (J : Int).tmod 3 = (s : Int) := by rw [Int.tmod_eq_emod_of_nonneg (by omega)]; exact hq
      have hsl : s < had.length := by rw [hB.hl]; exact hs
      have hv0 := hB.b0 s hs
      have hcs : wr.cell? ⟨w3.heap.size, s, none⟩ = some (i64v (had.getD s 0)) := by
        rw [hblk.cell, List.getElem?_toArray, List.getElem?_map, List.getElem?_eq_getElem hsl, List.getD_eq_getElem?_getD, List.getElem?_eq_getElem hsl]; rfl
      have hfz := hblk.frozen s
      have hne : w3.heap.size ∉ [ab, fb, bb, wb] := by
        have h1 := H3.out.has.flash.lt
        have h2 := H3.out.area.obj.lt
        simp; omega
      have hne' : w3.heap.size ∉ [fb, bb, wb] := fun hm => hne (List.mem_cons_of_mem _ hm)
      have HH := Lib.hid hH
      have HK := Lib.hid hblk
      clear hH hblk
      by_cases hlt2 : had.getD s 0 < b
      · obtain ⟨p1, p2⟩ := bud_more hB s hs hlt2
        rw [← G3.out] at p1 p2
        have q1 := bud_left p2 s hs
        rw [← G3.out] at q1
        have q2 := bud_wear p2 s hs
        have hd : (had.set s (had.getD s 0 + 1)).getD s 0 = had.getD s 0 + 1 := by rw [List.getD_eq_getElem?_getD, List.getElem?_set, if_pos rfl, if_pos hsl]; rfl
        rw [hd] at q1 q2
        obtain ⟨F', hF'⟩ : ∃ F', R.erase F s = F' := ⟨_, rfl⟩
        rw [hF'] at p2 q1 q2
        have P1 := Lib.hid p1
        have PF := Lib.hid hF'
        have Q1 := Lib.hid q1
        have Q2 := Lib.hid q2
        have hmask := p2.mask
        have HM := Lib.hid hmask
        generalize hv : had.getD s 0 = v at *
        have HV := Lib.hid hv
        clear p1 hF' q1 q2 hd hmask hv
        have hdec : decide (v < b) = true := by simpa using hlt2
        go_wp2_with fail
        refine (aerase_h _ _ _ P1.out PF.out HH.out).mono ?_
        rintro e w5 ⟨rfl, h5, ho5⟩
        have hb5 := HK.out.only ho5 hne'
        have hc5 : w5.cell? ⟨w3.heap.size, s, none⟩ = some (i64v v) := by
          rw [hb5.cell, ← HK.out.cell]; exact hcs
        have hf5 := hb5.frozen s
        have H5 := Lib.hid h5
        have B5 := Lib.hid hb5
        clear h5 hb5 ho5 hcs hfz
        go_wp2_with fail
        go_quiet ((go_at_call 28; exact Calls.quiet_of_same ((num7_c _ _).mono fun _ _ hh => ⟨hh.1, hh.2.symm⟩)))
        go_wp2_with (go_at_call 28; refine (num7_c _ _).mono ?_; rintro e w' ⟨rfl, rfl⟩)
        have hA2 : HasA w ((w5.drewN nq).setCell ⟨w3.heap.size, s, none⟩ (.int .i64 (v + 1))) ab fb bb wb R F' := (H5.out.drewN nq).farNone HM.out hne H3.out.has.below.size _
        have hB2 : Blk ((w5.drewN nq).setCell ⟨w3.heap.size, s, none⟩ (.int .i64 (v + 1))) w3.heap.size 48 ((had.set s (v + 1)).map i64v).toArray := by
          have h := (B5.out.drewN nq).set_ s (i64v (v + 1))
          rw [set_map] at h
          exact h
        generalize (w5.drewN nq).setCell ⟨w3.heap.size, s, none⟩ (.int .i64 (v + 1)) = W2 at hA2 hB2 ⊢
        have hc2 : W2.cell? ⟨w3.heap.size, s, none⟩ = some (i64v (v + 1)) := by
          rw [hB2.cell, List.getElem?_toArray, List.getElem?_map, List.getElem?_set, if_pos rfl, if_pos hsl]; rfl
        have HA2 := Lib.hid hA2
        have HB2 := Lib.hid hB2
        clear hA2 hB2 hc5 hf5 hcell
        have q1 := Q1.out
        have q2 := Q2.out
        have e1 : IntKind.i64.wrap (b - (v + 1)) = b - (v + 1) := IntWalk.i64_in _ (by omega)
        have e2 : IntKind.i64.wrap (1 + (s : Int)) = 1 + (s : Int) := IntWalk.i64_in _ (by omega)
        go_quiet (first | (go_at_call 29; exact Calls.quiet_of ((aleft_c _ _ (HA2.out.drewN _).has.flash (HA2.out.drewN _).area))) | (go_at_call 21; exact Calls.quiet_of_same ((wear_c _ _ (HA2.out.drewN _).has.flash).mono fun _ _ hh => ⟨hh.1, hh.2.symm⟩)))
        go_wp2
        go_roundw
        case rel => exact ⟨k + 1, F', had.set s (v + 1), by omega, by go_num, p2, HA2.out.drewN _, HB2.out.drewN _⟩
        case measure => simp [intOf]; omega
      · obtain ⟨p1, p2⟩ := bud_full hB s hs hlt2
        rw [← G3.out] at p1 p2
        have q1 := bud_left hB s hs
        rw [← G3.out] at q1
        have q2 := bud_wear hB s hs
        have P1 := Lib.hid p1
        have PF := Lib.hid p2
        have Q1 := Lib.hid q1
        have Q2 := Lib.hid q2
        generalize hv : had.getD s 0 = v at *
        have HV := Lib.hid hv
        clear p1 p2 q1 q2 hv
        have hdec : decide (v < b) = false := by simpa using hlt2
        go_wp2_with fail
        refine (aerase_h _ _ _ P1.out PF.out HH.out).mono ?_
        rintro e w5 ⟨rfl, h5, ho5⟩
        have hb5 := HK.out.only ho5 hne'
        have hc5 : w5.cell? ⟨w3.heap.size, s, none⟩ = some (i64v v) := by
          rw [hb5.cell, ← HK.out.cell]; exact hcs
        have HA5 := Lib.hid h5
        have B5 := Lib.hid hb5
        clear h5 hb5 ho5 hcs hfz
        go_wp2_with fail
        go_quiet ((go_at_call 28; exact Calls.quiet_of_same ((num7_c _ _).mono fun _ _ hh => ⟨hh.1, hh.2.symm⟩)))
        have HA2 := Lib.hid (HA5.out.drewN nq)
        have HB2 := Lib.hid (B5.out.drewN nq)
        have hc2 : (w5.drewN nq).cell? ⟨w3.heap.size, s, none⟩ = some (i64v v) := hc5
        generalize w5.drewN nq = W2 at HA2 HB2 hc2 ⊢
        clear hc5 hcell
        go_wp2_with (go_at_call 28; refine (num7_c _ _).mono ?_; rintro e w' ⟨rfl, rfl⟩)
        have q1 := Q1.out
        have q2 := Q2.out
        have e1 : IntKind.i64.wrap (b - v) = b - v := IntWalk.i64_in _ (by omega)
        have e2 : IntKind.i64.wrap (1 + (s : Int)) = 1 + (s : Int) := IntWalk.i64_in _ (by omega)
        go_quiet (first | (go_at_call 29; exact Calls.quiet_of ((aleft_c _ _ (HA2.out.drewN _).has.flash (HA2.out.drewN _).area))) | (go_at_call 21; exact Calls.quiet_of_same ((wear_c _ _ (HA2.out.drewN _).has.flash).mono fun _ _ hh => ⟨hh.1, hh.2.symm⟩)))
        go_wp2
        go_roundw
        case rel => exact ⟨k + 1, F, had, by omega, by go_num, hB, HA2.out.drewN _, HB2.out.drewN _⟩
        case measure => simp [intOf]; omega
    · go_wp2_with fail
      go_ret
      exact ⟨rfl, hH.has.below⟩
end Go.Proofs.Ytaanefgkmjdknaa
