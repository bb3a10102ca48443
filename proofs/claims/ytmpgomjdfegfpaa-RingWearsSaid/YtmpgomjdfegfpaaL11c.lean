/- waterlinelaw11.RingWears: how many things can be put till all is worn out, that the last one is there then, and that nothing more is done. -/
import Derived.Test.YtmpgomjdfegfpaaL11b
namespace Go.Proofs.Ytmpgomjdfegfpaa
open Go.RowKit
set_option linter.unusedVariables false
set_option linter.unusedSimpArgs false
set_option maxRecDepth 100000 in
set_option maxHeartbeats 1000000 in
theorem ringWears_off (b m : Int) (w : World) (hg : b < 0 ∨ 10 < b ∨ m < 0 ∨ 10 < m) :
    Calls Try.prog 7 #[.int .i64 b, .int .i64 m] w fun e w' => e = .returned (.bool true) ∧ Below w.heap.size w w' := by
  by_cases g0 : b < 0
  · clear hg
    go_enter Try.func7, Try.ntmps7
    go_wp2_with (go_at_call 34; refine (alive11_c _).mono ?_; rintro e w1 ⟨rfl, hb⟩)
    go_ret
    exact ⟨rfl, hb⟩
  · by_cases g1 : 10 < b
    · clear hg
      go_enter Try.func7, Try.ntmps7
      go_wp2_with (go_at_call 34; refine (alive11_c _).mono ?_; rintro e w1 ⟨rfl, hb⟩)
      go_ret
      exact ⟨rfl, hb⟩
    · by_cases g2 : m < 0
      · clear hg
        go_enter Try.func7, Try.ntmps7
        go_wp2_with (go_at_call 34; refine (alive11_c _).mono ?_; rintro e w1 ⟨rfl, hb⟩)
        go_ret
        exact ⟨rfl, hb⟩
      · have g3 : 10 < m := by omega
        clear hg
        go_enter Try.func7, Try.ntmps7
        go_wp2_with (go_at_call 34; refine (alive11_c _).mono ?_; rintro e w1 ⟨rfl, hb⟩)
        go_ret
        exact ⟨rfl, hb⟩
set_option maxRecDepth 100000 in
set_option maxHeartbeats 2000000 in
theorem ringWears_in (b m : Nat) (hb : b ≤ 10) (hm : m ≤ 10) (w : World) : Calls Try.prog 7 #[.int .i64 (b : Int), .int .i64 (m : Int)] w fun e w' => e = .returned (.bool true) ∧ Below w.heap.size w w' := by
  obtain ⟨v, hv⟩ : ∃ v : Nat → List UInt8, v = fun j => [UInt8.ofNat (j + 1)] := ⟨_, rfl⟩
  obtain ⟨F0, hF0⟩ : ∃ F0, Fl.new ((4 : Nat) : Int) = F0 := ⟨_, rfl⟩
  have hlen0 : F0.wear.length = 4 := by rw [← hF0]; exact new_wlen 4 (by omega)
  have hst : PutsAt b F0 v 0 := hF0 ▸ puts_start b v
  obtain ⟨R, hR⟩ : ∃ R, Ar.new 4 0 4 b = R := ⟨_, rfl⟩
  have hR2 : R = ⟨0, 4, (b : Nat)⟩ := hR ▸ rg_new b (by omega)
  obtain ⟨T, hT⟩ : ∃ T, 4 * (b + 1) = T := ⟨_, rfl⟩
  have e1 : IntKind.i64.wrap ((b : Int) + 1) = (b : Int) + 1 := IntWalk.i64_in _ (by omega)
  have e2 : IntKind.i64.wrap (4 * ((b : Int) + 1)) = (T : Int) := by rw [IntWalk.i64_in _ (by omega)]; omega
  have e2' : 4 * ((b : Int) + 1) = (T : Int) := by omega
  have hT44 : T ≤ 44 := by omega
  have e3 : IntKind.i64.wrap ((T : Int) + (m : Int)) = (T : Int) + m := IntWalk.i64_in _ (by omega)
  have HV := Lib.hid hv
  have HT := Lib.hid hT
  have G0 := Lib.hid hF0
  have G1 := Lib.hid hlen0
  have G2 := Lib.hid hR
  have G3 := Lib.hid hR2
  have G4 := Lib.hid hst
  clear hv hF0 hlen0 hst hR hR2 hT
  go_enter Try.func7, Try.ntmps7
  go_wp2_with (go_at_call 34; refine (alive11_c _).mono ?_; rintro e w1 ⟨rfl, hb1⟩)
  refine (new_hf 4 (by omega) F0 G0.out hb1).mono ?_
  rintro e w2 ⟨fb, bb, wb, rfl, h2'⟩
  go_wp2_with fail
  refine (anew_h 0 0 4 b 4 G1.out R G2.out h2').mono ?_
  rintro e w3 ⟨ab, rfl, h3, -, -⟩
  have H3 := Lib.hid h3
  clear h2' h3 hb1
  go_wp2_with fail
  clear e2 e2'
  go_loopw [9] (fun a wr => ∃ (i : Nat) (F : Fl), i ≤ T + m ∧ a = .int .i64 (i : Int) ∧ PutsAt b F v (min i T) ∧ HasA w wr ab fb bb wb R F) (fun a _ => T + m - (intOf a).toNat)
  case atStart => exact ⟨0, F0, by omega, rfl, by rw [Nat.zero_min]; exact G4.out, H3.out⟩
  case round =>
    clear H3 G0 G1 G2 G4
    obtain ⟨i, F, hi, rfl, hp, hh⟩ := hrel
    have HP := Lib.hid hp
    have HH := Lib.hid hh
    clear hp hh
    by_cases hlt : i < T + m
    · obtain ⟨x, hx⟩ : ∃ x, UInt8.ofNat (i + 1) = x := ⟨_, rfl⟩
      have hbw : IntKind.u8.wrap ((i : Int) + 1) = (x.toNat : Int) := by
        rw [← hx]
        exact byte_wrap11 (i + 1) (by omega)
      by_cases hiT : i < T
      · have hmin : min i T = i := by omega
        have hp := HP.out
        rw [hmin] at hp
        have hvi : v i = [x] := by rw [HV.out, ← hx]
        obtain ⟨-, q1, q2⟩ := puts_step hp (by omega) (by have := HT.out; omega) (by rw [hvi]; simp)
        obtain ⟨F', hF'⟩ : ∃ F', R.ringP F [x] = F' := ⟨_, rfl⟩
        rw [hvi, ← G3.out] at q1 q2
        rw [hF'] at q2
        have HQ1 := Lib.hid q1
        have HQ2 := Lib.hid q2
        have HF := Lib.hid hF'
        clear hx hvi hp q1 q2 hF' hmin
        go_wp2_with (first
          | (go_at_call 35; refine (rput_h _ 1 1 [x] (by omega) ((Blk.new _ 5 _).reads 0 (by simp)) HH.out.has.apart (HH.out.alloc _) 0 F' HQ1.out HF.out).mono ?_; rintro e w5 ⟨rfl, h5, -⟩)
          | (go_at_call 36; refine (num11_c _ _).mono ?_; rintro e w' ⟨rfl, rfl⟩))
        go_roundw
        case rel => exact ⟨i + 1, F', by omega, by go_num, by rw [show min (i + 1) T = i + 1 by omega]; exact HQ2.out, h5⟩
        case measure => simp [intOf]; omega
      · have hmin : min i T = T := by omega
        have hp := HP.out
        rw [hmin] at hp
        obtain ⟨-, q1, q2⟩ := puts_worn hp (by omega) (by have := HT.out; omega) [x] (by simp)
        rw [← G3.out] at q1 q2
        have HQ1 := Lib.hid q1
        have HQ2 := Lib.hid q2
        have HP2 := Lib.hid hp
        clear hx hp q1 q2 hmin
        go_wp2_with (first
          | (go_at_call 35; refine (rput_h _ 1 1 [x] (by omega) ((Blk.new _ 5 _).reads 0 (by simp)) HH.out.has.apart (HH.out.alloc _) 5 F HQ1.out HQ2.out).mono ?_; rintro e w5 ⟨rfl, h5, -⟩)
          | (go_at_call 36; refine (num11_c _ _).mono ?_; rintro e w' ⟨rfl, rfl⟩))
        go_roundw
        case rel => exact ⟨i + 1, F, by omega, by go_num, by rw [show min (i + 1) T = T by omega]; exact HP2.out, h5⟩
        case measure => simp [intOf]; omega
    · have hp := HP.out
      rw [show min i T = T by omega] at hp
      have hl := puts_F hp (by omega) (by have := HT.out; omega) (by omega)
      obtain ⟨hM, -, -⟩ := puts_worn hp (by omega) (by have := HT.out; omega) [] (by simp)
      obtain ⟨x, hx⟩ : ∃ x, UInt8.ofNat T = x := ⟨_, rfl⟩
      have hvi : v (T - 1) = [x] := by
        have := HT.out
        rw [HV.out, ← hx]
        show [UInt8.ofNat (T - 1 + 1)] = _
        rw [show T - 1 + 1 = T by omega]
      have hbw : IntKind.u8.wrap (T : Int) = (x.toNat : Int) := hx ▸ byte_wrap11 T (by omega)
      rw [hvi, ← G3.out] at hl
      rw [← G3.out] at hM
      have HL := Lib.hid hl
      have HM := Lib.hid hM
      have HPL := Lib.hid (padTo_len [x] 156)
      have HHD := Lib.hid (padTo_head x 156 (by omega))
      have hlast : ∀ W, HasA w W ab fb bb wb R F → Calls Try.prog 37 #[ptr ab] W fun e w' => ∃ g o c, e = .returned (.tuple #[.int .i64 (T : Int), .slice (some ⟨g, o, none⟩) 156 c, .bool true]) ∧ w'.cell? ⟨g, o, none⟩ = some (.int .u8 (x.toNat : Int)) ∧ HasA w w' ab fb bb wb R F ∧ 0 ≤ c := fun W h => by
        refine (last_h h _ HL.out).mono ?_
        rintro e w' ⟨A, c, rfl, hown, hh, -⟩
        simp only at hown ⊢
        rw [HPL.out] at hown ⊢
        obtain ⟨g, o, u, rfl, -, hu, hc⟩ := (Reads.of_own hown).at_ (k := 0) (by omega)
        rw [HHD.out] at hu
        cases hu
        exact ⟨g, o, c, by simp, hc, hh, Nat.zero_le _⟩
      clear hp hl hM hx hvi
      go_wp2_with (first
        | (go_at_call 37; refine (hlast _ HH.out).mono ?_; rintro e w6 ⟨g, o, c6, rfl, hc6, h6, -⟩)
        | (go_at_call 38; refine (rmay_h h6 false HM.out).mono ?_; rintro e w7 ⟨rfl, h7, -⟩))
      go_ret
      exact ⟨by simp, h7.has.below⟩
theorem ringWears_c (b m : Int) (w : World) : Calls Try.prog 7 #[.int .i64 b, .int .i64 m] w fun e w' => e = .returned (.bool true) ∧ Below w.heap.size w w' := by
  by_cases hg : b < 0 ∨ 10 < b ∨ m < 0 ∨ 10 < m
  · exact ringWears_off b m w hg
  · have h := ringWears_in b.toNat m.toNat (by omega) (by omega) w
    rw [Int.toNat_of_nonneg (by omega), Int.toNat_of_nonneg (by omega)] at h
    exact h
end Go.Proofs.Ytmpgomjdfegfpaa
