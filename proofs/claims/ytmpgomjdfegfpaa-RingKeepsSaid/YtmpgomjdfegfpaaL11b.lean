/- waterlinelaw11.RingRounds: cells go round the ring, one by one, and none but the next one is erased. -/
import Derived.Test.YtmpgomjdfegfpaaL11a
namespace Go.Proofs.Ytmpgomjdfegfpaa
open Go.RowKit
set_option linter.unusedVariables false
set_option linter.unusedSimpArgs false
theorem byte_wrap11 (n : Nat) (h : n ≤ 200) : IntKind.u8.wrap (n : Int) = ((UInt8.ofNat n).toNat : Int) := by
  rw [UInt8.toNat_ofNat']
  simp [IntKind.wrap, IntKind.bits, IntKind.signed]
theorem padTo_head (x : UInt8) (n : Nat) (hn : 1 ≤ n) : ((padTo [x] n).map u8v)[0]? = some (u8v x) := by
  obtain ⟨m, rfl⟩ : ∃ m, n = m + 1 := ⟨n - 1, by omega⟩
  rfl
set_option maxRecDepth 100000 in
set_option maxHeartbeats 1000000 in
theorem ringRounds_off (n : Int) (w : World) (hg : n < 1 ∨ 40 < n) :
    Calls Try.prog 8 #[.int .i64 n] w fun e w' => e = .returned (.bool true) ∧ Below w.heap.size w w' := by
  by_cases g0 : n < 1
  · clear hg
    go_enter Try.func8, Try.ntmps8
    go_wp2_with (go_at_call 34; refine (alive11_c _).mono ?_; rintro e w1 ⟨rfl, hb⟩)
    go_ret
    exact ⟨rfl, hb⟩
  · have g1 : 40 < n := by omega
    clear hg
    go_enter Try.func8, Try.ntmps8
    go_wp2_with (go_at_call 34; refine (alive11_c _).mono ?_; rintro e w1 ⟨rfl, hb⟩)
    go_ret
    exact ⟨rfl, hb⟩
set_option maxRecDepth 100000 in
set_option maxHeartbeats 2000000 in
theorem ringRounds_in (n : Nat) (h1 : 1 ≤ n) (h2 : n ≤ 40) (w : World) : Calls Try.prog 8 #[.int .i64 (n : Int)] w fun e w' => e = .returned (.bool true) ∧ Below w.heap.size w w' := by
  obtain ⟨v, hv⟩ : ∃ v : Nat → List UInt8, v = fun j => [UInt8.ofNat j] := ⟨_, rfl⟩
  obtain ⟨F0, hF0⟩ : ∃ F0, Fl.new ((4 : Nat) : Int) = F0 := ⟨_, rfl⟩
  have hlen0 : F0.wear.length = 4 := by rw [← hF0]; exact new_wlen 4 (by omega)
  have hst : PutsAt 100 F0 v 0 := hF0 ▸ puts_start 100 v
  obtain ⟨R, hR⟩ : ∃ R, Ar.new 4 0 4 100 = R := ⟨_, rfl⟩
  have hR2 : R = ⟨0, 4, (100 : Nat)⟩ := hR ▸ rg_new 100 (by omega)
  have HV := Lib.hid hv
  have G0 := Lib.hid hF0
  have G1 := Lib.hid hlen0
  have G2 := Lib.hid hR
  have G3 := Lib.hid hR2
  have G4 := Lib.hid hst
  clear hv hF0 hlen0 hst hR hR2
  go_enter Try.func8, Try.ntmps8
  go_wp2_with (go_at_call 34; refine (alive11_c _).mono ?_; rintro e w1 ⟨rfl, hb1⟩)
  refine (new_hf 4 (by omega) F0 G0.out hb1).mono ?_
  rintro e w2 ⟨fb, bb, wb, rfl, h2'⟩
  go_wp2_with fail
  refine (anew_h 0 0 4 100 4 G1.out R G2.out h2').mono ?_
  rintro e w3 ⟨ab, rfl, h3, -, -⟩
  have H3 := Lib.hid h3
  clear h2' h3 hb1
  go_wp2_with fail
  go_loopw [6] (fun a wr => ∃ (i : Nat) (F : Fl), i ≤ n ∧ a = .int .i64 (i : Int) ∧ PutsAt 100 F v i ∧ HasA w wr ab fb bb wb R F) (fun a _ => n - (intOf a).toNat)
  case atStart => exact ⟨0, F0, by omega, rfl, G4.out, H3.out⟩
  case round =>
    clear H3 G0 G1 G2 G4
    obtain ⟨i, F, hi, rfl, hp, hh⟩ := hrel
    have HP := Lib.hid hp
    have HH := Lib.hid hh
    clear hp hh
    by_cases hlt : i < n
    · obtain ⟨x, hx⟩ : ∃ x, UInt8.ofNat i = x := ⟨_, rfl⟩
      have hvi : v i = [x] := by rw [HV.out, ← hx]
      have hbw : IntKind.u8.wrap (i : Int) = (x.toNat : Int) := hx ▸ byte_wrap11 i (by omega)
      obtain ⟨N, hN⟩ : ∃ N, i % 4 = N := ⟨_, rfl⟩
      have hNi : (i : Int) % 4 = (N : Int) := by omega
      have hnx := puts_N HP.out (by omega) (by omega)
      obtain ⟨-, q1, q2⟩ := puts_step HP.out (by omega) (by omega) (by rw [hvi]; simp)
      obtain ⟨F', hF'⟩ : ∃ F', R.ringP F [x] = F' := ⟨_, rfl⟩
      rw [hN, ← G3.out] at hnx
      rw [hvi, ← G3.out] at q1 q2
      rw [hF'] at q2
      have hl := puts_F q2 (by omega) (by omega) (by omega)
      rw [Nat.add_sub_cancel, hvi, ← G3.out] at hl
      have hpl : (padTo [x] 156).length = 156 := padTo_len _ _
      have hhd := padTo_head x 156 (by omega)
      have HNX := Lib.hid hnx
      have HQ1 := Lib.hid q1
      have HQ2 := Lib.hid q2
      have HF := Lib.hid hF'
      have HL := Lib.hid hl
      have HPL := Lib.hid hpl
      have HHD := Lib.hid hhd
      have hlast : ∀ W, HasA w W ab fb bb wb R F' → Calls Try.prog 37 #[ptr ab] W fun e w' => ∃ g o c, e = .returned (.tuple #[.int .i64 ((i : Int) + 1), .slice (some ⟨g, o, none⟩) 156 c, .bool true]) ∧ w'.cell? ⟨g, o, none⟩ = some (.int .u8 (x.toNat : Int)) ∧ HasA w w' ab fb bb wb R F' ∧ 0 ≤ c := fun W h => by
        refine (last_h h _ HL.out).mono ?_
        rintro e w' ⟨A, c, rfl, hown, hh, -⟩
        simp only at hown ⊢
        rw [HPL.out] at hown ⊢
        obtain ⟨g, o, u, rfl, -, hu, hc⟩ := (Reads.of_own hown).at_ (k := 0) (by omega)
        rw [HHD.out] at hu
        cases hu
        exact ⟨g, o, c, by simp, hc, hh, Nat.zero_le _⟩
      clear hx hvi hN hnx q1 q2 hF' hl hpl hhd
      go_wp2_with (first
        | (go_at_call 39; refine (next_h HH.out N HNX.out).mono ?_; rintro e w4 ⟨rfl, h4, -⟩)
        | (go_at_call 35; refine (rput_h _ 1 1 [x] (by omega) ((Blk.new _ 5 _).reads 0 (by simp)) h4.has.apart (h4.alloc _) 0 F' HQ1.out HF.out).mono ?_; rintro e w5 ⟨rfl, h5, -⟩)
        | (go_at_call 36; refine (num11_c _ _).mono ?_; rintro e w' ⟨rfl, rfl⟩)
        | (go_at_call 37; refine (hlast _ h5).mono ?_; rintro e w6 ⟨g, o, c6, rfl, hc6, h6, -⟩))
      go_roundw
      case rel => exact ⟨i + 1, F', by omega, by go_num, HQ2.out, h6⟩
      case measure => simp [intOf]; omega
    · obtain rfl : i = n := by omega
      go_wp2_with fail
      go_loopw [10] (fun a wr => ∃ (s : Nat), s ≤ 4 ∧ a = .int .i64 (s : Int) ∧ HasA w wr ab fb bb wb R F) (fun a _ => 4 - (intOf a).toNat)
      case atStart => exact ⟨0, by omega, rfl, HH.out⟩
      case round =>
        clear HH
        obtain ⟨s, hs, rfl, hh⟩ := hrel
        have HH := Lib.hid hh
        clear hh
        by_cases hls : s < 4
        · have hw : F.wearAt (s : Int) = (((i + 3 - s) / 4 - 1 : Nat) : Int) := by rw [Ar.wear_at s (by rw [HP.out.len]; omega), HP.out.wear s hls]
          obtain ⟨K, hK⟩ : ∃ K, (i + 3 - s) / 4 = K := ⟨_, rfl⟩
          rw [hK] at hw
          have hK2 : ((i : Int) + 3 - (s : Int)) / 4 = (K : Int) := by omega
          have hwc : ∀ W, HasA w W ab fb bb wb R F → Calls Try.prog 40 #[ptr fb, .int .i64 (s : Int)] W fun e w' => e = .returned (.int .i64 ((K - 1 : Nat) : Int)) ∧ W = w' := fun W h => hw ▸ wear_c W (s : Int) h.has.flash
          clear hK hw
          by_cases hK0 : K = 0
          · subst hK0
            go_wp2_with (go_at_call 40; refine (hwc _ HH.out).mono ?_; rintro e w' ⟨rfl, rfl⟩)
            go_roundw
            case rel => exact ⟨s + 1, by omega, by go_num, HH.out⟩
            case measure => simp [intOf]; omega
          · obtain ⟨M, rfl⟩ : ∃ M, K = M + 1 := ⟨K - 1, by omega⟩
            go_wp2_with (go_at_call 40; refine (hwc _ HH.out).mono ?_; rintro e w' ⟨rfl, rfl⟩)
            go_roundw
            case rel => exact ⟨s + 1, by omega, by go_num, HH.out⟩
            case measure => simp [intOf]; omega
        · obtain rfl : s = 4 := by omega
          go_wp2_with fail
          go_ret
          exact ⟨rfl, HH.out.has.below⟩
theorem ringRounds_c (n : Int) (w : World) : Calls Try.prog 8 #[.int .i64 n] w fun e w' => e = .returned (.bool true) ∧ Below w.heap.size w w' := by
  by_cases hg : n < 1 ∨ 40 < n
  · exact ringRounds_off n w hg
  · have h := ringRounds_in n.toNat (by omega) (by omega) w
    rw [Int.toNat_of_nonneg (by omega)] at h
    exact h
end Go.Proofs.Ytmpgomjdfegfpaa
