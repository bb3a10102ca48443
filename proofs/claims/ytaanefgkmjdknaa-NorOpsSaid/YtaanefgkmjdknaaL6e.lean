/- waterlinelaw6.NorOps: which operation a cut is for: the walk. -/
import Derived.Test.YtaanefgkmjdknaaL6d
namespace Go.Proofs.Ytaanefgkmjdknaa
open Go.RowKit
set_option linter.unusedVariables false
set_option linter.unusedSimpArgs false

set_option maxRecDepth 8000 in
theorem norOps_in (n : Nat) (hn : n ≤ 20) (A : Option Addr) (c : Nat) (l : List Int) (hl : l.length ≤ 40) (w : World) (r : Reads w A l.length (l.map i64v)) :
    Calls Try.prog 5 #[.int .i64 (n : Int), .slice A l.length c] w fun e w' => e = .returned (.bool true) ∧ Below w.heap.size w w' := by
  obtain ⟨F1, F2, s1, s2, s3, s4, s5⟩ := ops_start n hn
  have S1 := Lib.hid s1
  have S2 := Lib.hid s2
  have S4 := Lib.hid s4
  have R := Lib.hid r
  clear s1 s2 s4 r
  go_enter Try.func5, Try.ntmps5
  go_wp2_with (first
    | (go_at_call 10; refine (alive6_c _).mono ?_; rintro e w1 ⟨rfl, hb1⟩)
    | (go_at_call 11; refine (new_h 2 (by omega) hb1).mono ?_; rintro e w2 ⟨fb, bb, wb, rfl, h, -, -, -⟩)
    | (go_at_call 15; refine (erase_h 0 _ _ S1.out S2.out s3 h).mono ?_; rintro e w3 ⟨rfl, h3⟩)
    | (go_at_call 13; refine (cut_h n (by omega) none 0 0 [] (by omega) _ S4.out (Reads.none_ _) h3).mono ?_; rintro e w4 ⟨rfl, h4⟩))
  have H4 := Lib.hid h4
  clear h4 h3 h hb1
  go_loopw [7, 8, 9] (fun lf dn i wr => ∃ (k : Nat) (F : Fl) (left done : Int), k ≤ l.length ∧ lf = .int .i64 left ∧ dn = .int .i64 done ∧ i = .int .i64 k ∧ OpsAt F left done k ∧ Has w wr fb bb wb F) (fun _ _ i _ => l.length - (intOf i).toNat)
  case atStart => exact ⟨0, F2, n, 1, Nat.zero_le _, rfl, rfl, rfl, s5, H4.out⟩
  case round =>
    obtain ⟨k, F, left, done, hk, rfl, rfl, rfl, hO, hH⟩ := hrel
    by_cases hlt : k < l.length
    · obtain ⟨b, o, u, hA, hb, hu, hcell⟩ := (R.out.below' hH.below (fun a ha => by obtain ⟨b, o, e, hb, -⟩ := R.out.2 (by omega); rw [e] at ha; cases ha; exact hb)).at_ hlt
      rw [List.getElem?_map, List.getElem?_eq_getElem hlt] at hu
      simp only [Option.map_some, Option.some.injEq] at hu
      subst hu
      generalize l[k] = x at hcell
      subst hA
      obtain ⟨K, hK3, hK⟩ := i64_mask x 3 (by omega)
      have HH := Lib.hid hH
      clear hH
      have hKs : K = 0 ∨ K = 1 ∨ K = 2 ∨ K = 3 := by omega
      rcases hKs with rfl | rfl | rfl | rfl
      · have hK' : bits .and .i64 x 3 = 0 := hK
        clear hK
        obtain ⟨J, hJ4, hJ⟩ := i64_mask x 4 (by omega)
        have hJ' : bits .and .i64 x 4 = (J : Int) := hJ
        clear hJ
        have D := ops_erase hO (by omega) (J / 4) (by omega)
        rw [show ((J / 4 : Nat) : Int) = (J : Int) / 4 from by omega] at D
        have hm : F.wearAt ((J : Int) / 4) ≤ 4611686018427387903 := by
          unfold Fl.wearAt; split
          · have := hO.wear (((J : Int) / 4) : Int).toNat; omega
          · omega
        obtain ⟨E, hE⟩ : ∃ E, F.eraseE ((J : Int) / 4) = E := ⟨_, rfl⟩
        obtain ⟨F', hF⟩ : ∃ F', F.erase ((J : Int) / 4) = F' := ⟨_, rfl⟩
        rw [hE, hF] at D
        have HE := Lib.hid hE
        have HF := Lib.hid hF
        clear hE hF
        go_wp2_with fail
        refine (erase_h _ _ _ HE.out HF.out hm HH.out).mono ?_
        rintro e w' ⟨rfl, h'⟩
        rcases Int.lt_trichotomy left 0 with hl0 | hl0 | hl0
        · obtain ⟨rfl, rfl⟩ := D.gone hl0
          clear D
          have hd : decide (left < 0) = true := by simpa using hl0
          go_wp2_with (first | (go_at_call 18; refine (num6_c _ _).mono ?_; rintro e w'' ⟨rfl, rfl⟩))
          go_roundw
          case rel => exact ⟨k + 1, F', left, done, by omega, rfl, rfl, by go_num, hO.up (by omega), h'⟩
          case measure => simp [intOf]; omega
        · subst hl0
          obtain ⟨rfl, hO', hoff⟩ := D.last rfl rfl
          clear D
          have hd0 := hO.d0
          have hd1 := hO.d1
          go_wp2_with (first | (go_at_call 18; refine (num6_c _ _).mono ?_; rintro e w'' ⟨rfl, rfl⟩) | (go_at_call 17; refine (off_c _ h'.flash).mono ?_; rintro e w'' ⟨rfl, rfl⟩))
          go_roundw
          case rel => exact ⟨k + 1, F', -1, done + 1, by omega, rfl, rfl, by go_num, hO', h'⟩
          case measure => simp [intOf]; omega
        · obtain ⟨rfl, hO', hoff⟩ := D.more hl0 rfl
          clear D
          have hd : decide (left < 0) = false := by simpa using (show 0 ≤ left by omega)
          have he : (left == 0) = false := by rw [beq_eq_false_iff_ne]; omega
          have hd0 := hO.d0
          have hd1 := hO.d1
          have hd2 := hO.l1
          go_wp2_with (first | (go_at_call 18; refine (num6_c _ _).mono ?_; rintro e w'' ⟨rfl, rfl⟩) | (go_at_call 17; refine (off_c _ h'.flash).mono ?_; rintro e w'' ⟨rfl, rfl⟩))
          go_roundw
          case rel => exact ⟨k + 1, F', left - 1, done + 1, by omega, rfl, rfl, by go_num, hO', h'⟩
          case measure => simp [intOf]; omega
      · have hK' : bits .and .i64 x 3 = 1 := hK
        clear hK
        have D := ops_prog hO (by omega)
        obtain ⟨E, hE⟩ : ∃ E, F.programE 0 [0] = E := ⟨_, rfl⟩
        obtain ⟨F', hF⟩ : ∃ F', F.program 0 [0] = F' := ⟨_, rfl⟩
        rw [hE, hF] at D
        have HE := Lib.hid hE
        have HF := Lib.hid hF
        clear hE hF
        go_wp2_with fail
        refine (program_h _ _ _ _ [0] _ _ HE.out HF.out (byte_row wr 0) HH.out.apart (by omega) (HH.out.alloc _)).mono ?_
        rintro e w' ⟨rfl, h'⟩
        rcases Int.lt_trichotomy left 0 with hl0 | hl0 | hl0
        · obtain ⟨rfl, rfl⟩ := D.gone hl0
          clear D
          have hd : decide (left < 0) = true := by simpa using hl0
          go_wp2_with (first | (go_at_call 18; refine (num6_c _ _).mono ?_; rintro e w'' ⟨rfl, rfl⟩))
          go_roundw
          case rel => exact ⟨k + 1, F', left, done, by omega, rfl, rfl, by go_num, hO.up (by omega), h'⟩
          case measure => simp [intOf]; omega
        · subst hl0
          obtain ⟨rfl, hO', hoff⟩ := D.last rfl rfl
          clear D
          have hd0 := hO.d0
          have hd1 := hO.d1
          go_wp2_with (first | (go_at_call 18; refine (num6_c _ _).mono ?_; rintro e w'' ⟨rfl, rfl⟩) | (go_at_call 17; refine (off_c _ h'.flash).mono ?_; rintro e w'' ⟨rfl, rfl⟩))
          go_roundw
          case rel => exact ⟨k + 1, F', -1, done + 1, by omega, rfl, rfl, by go_num, hO', h'⟩
          case measure => simp [intOf]; omega
        · obtain ⟨rfl, hO', hoff⟩ := D.more hl0 rfl
          clear D
          have hd : decide (left < 0) = false := by simpa using (show 0 ≤ left by omega)
          have he : (left == 0) = false := by rw [beq_eq_false_iff_ne]; omega
          have hd0 := hO.d0
          have hd1 := hO.d1
          have hd2 := hO.l1
          go_wp2_with (first | (go_at_call 18; refine (num6_c _ _).mono ?_; rintro e w'' ⟨rfl, rfl⟩) | (go_at_call 17; refine (off_c _ h'.flash).mono ?_; rintro e w'' ⟨rfl, rfl⟩))
          go_roundw
          case rel => exact ⟨k + 1, F', left - 1, done + 1, by omega, rfl, rfl, by go_num, hO', h'⟩
          case measure => simp [intOf]; omega
      · have hK' : bits .and .i64 x 3 = 2 := hK
        clear hK
        have D := ops_erase2 hO
        have hm : F.wearAt 2 ≤ 4611686018427387903 := by
          unfold Fl.wearAt; split
          · have := hO.wear (2 : Int).toNat; omega
          · omega
        obtain ⟨E, hE⟩ : ∃ E, F.eraseE 2 = E := ⟨_, rfl⟩
        obtain ⟨F', hF⟩ : ∃ F', F.erase 2 = F' := ⟨_, rfl⟩
        rw [hE, hF] at D
        have HE := Lib.hid hE
        have HF := Lib.hid hF
        clear hE hF
        go_wp2_with fail
        refine (erase_h _ _ _ HE.out HF.out hm HH.out).mono ?_
        rintro e w' ⟨rfl, h'⟩
        by_cases hl0 : left < 0
        · obtain ⟨rfl, rfl⟩ := D.gone hl0
          clear D
          have hd : decide (left < 0) = true := by simpa using hl0
          go_wp2_with (first | (go_at_call 18; refine (num6_c _ _).mono ?_; rintro e w'' ⟨rfl, rfl⟩))
          go_roundw
          case rel => exact ⟨k + 1, F', left, done, by omega, rfl, rfl, by go_num, hO.up (by omega), h'⟩
          case measure => simp [intOf]; omega
        · obtain ⟨rfl, rfl⟩ := D.bad (by omega) rfl
          clear D
          have hd : decide (left < 0) = false := by simpa using (show 0 ≤ left by omega)
          go_wp2_with (first | (go_at_call 18; refine (num6_c _ _).mono ?_; rintro e w'' ⟨rfl, rfl⟩))
          go_roundw
          case rel => exact ⟨k + 1, F', left, done, by omega, rfl, rfl, by go_num, hO.up (by omega), h'⟩
          case measure => simp [intOf]; omega
      · have hK' : bits .and .i64 x 3 = 3 := hK
        clear hK
        have D := ops_prog2 hO
        obtain ⟨E, hE⟩ : ∃ E, F.programE 640 [0] = E := ⟨_, rfl⟩
        obtain ⟨F', hF⟩ : ∃ F', F.program 640 [0] = F' := ⟨_, rfl⟩
        rw [hE, hF] at D
        have HE := Lib.hid hE
        have HF := Lib.hid hF
        clear hE hF
        go_wp2_with fail
        refine (program_h _ _ _ _ [0] _ _ HE.out HF.out (byte_row wr 0) HH.out.apart (by omega) (HH.out.alloc _)).mono ?_
        rintro e w' ⟨rfl, h'⟩
        by_cases hl0 : left < 0
        · obtain ⟨rfl, rfl⟩ := D.gone hl0
          clear D
          have hd : decide (left < 0) = true := by simpa using hl0
          go_wp2_with (first | (go_at_call 18; refine (num6_c _ _).mono ?_; rintro e w'' ⟨rfl, rfl⟩))
          go_roundw
          case rel => exact ⟨k + 1, F', left, done, by omega, rfl, rfl, by go_num, hO.up (by omega), h'⟩
          case measure => simp [intOf]; omega
        · obtain ⟨rfl, rfl⟩ := D.bad (by omega) rfl
          clear D
          have hd : decide (left < 0) = false := by simpa using (show 0 ≤ left by omega)
          go_wp2_with (first | (go_at_call 18; refine (num6_c _ _).mono ?_; rintro e w'' ⟨rfl, rfl⟩))
          go_roundw
          case rel => exact ⟨k + 1, F', left, done, by omega, rfl, rfl, by go_num, hO.up (by omega), h'⟩
          case measure => simp [intOf]; omega
    · go_wp2_with (go_at_call 19; refine (ops_c _ hH.flash).mono ?_; rintro e w' ⟨rfl, rfl⟩)
      have ho := hO.ops
      go_ret
      exact ⟨by rw [ho]; simp, hH.below⟩
end Go.Proofs.Ytaanefgkmjdknaa
