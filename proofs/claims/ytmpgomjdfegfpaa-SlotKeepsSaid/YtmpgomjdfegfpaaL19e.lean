/- waterlinelaw19.SlotKeeps: an image that was written chunk by chunk, in any order, again and again, is there, and the other slot stays. -/
import Derived.Test.YtmpgomjdfegfpaaL19d
import Derived.Test.YtmpgomjdfegfpaaBit
import Derived.Deep.RegionHeld3
namespace Go.Proofs.Ytmpgomjdfegfpaa
open Go.RowKit
set_option linter.unusedVariables false
set_option linter.unusedSimpArgs false
set_option maxRecDepth 100000 in
set_option maxHeartbeats 1000000 in
theorem slotKeeps_off (A0 A1 A2 : Option Addr) (n0 c0 n1 c1 n2 c2 : Nat) (w : World) (hg : n0 < 1 ∨ 1280 < n0 ∨ n1 < 1 ∨ 1280 < n1 ∨ 20 < n2) :
    Calls Try.prog 3 #[.slice A0 n0 c0, .slice A1 n1 c1, .slice A2 n2 c2] w fun e w' => e = .returned (.bool true) ∧ Below w.heap.size w w' := by
  by_cases g0 : n0 < 1
  · clear hg
    go_enter Try.func3, Try.ntmps3
    go_wp2_with (go_at_call 11; refine (alive19_c _).mono ?_; rintro e w1 ⟨rfl, hb⟩)
    go_ret
    exact ⟨rfl, hb⟩
  · by_cases g1 : 1280 < n0
    · clear hg
      go_enter Try.func3, Try.ntmps3
      go_wp2_with (go_at_call 11; refine (alive19_c _).mono ?_; rintro e w1 ⟨rfl, hb⟩)
      go_ret
      exact ⟨rfl, hb⟩
    · by_cases g2 : n1 < 1
      · clear hg
        go_enter Try.func3, Try.ntmps3
        go_wp2_with (go_at_call 11; refine (alive19_c _).mono ?_; rintro e w1 ⟨rfl, hb⟩)
        go_ret
        exact ⟨rfl, hb⟩
      · by_cases g3 : 1280 < n1
        · clear hg
          go_enter Try.func3, Try.ntmps3
          go_wp2_with (go_at_call 11; refine (alive19_c _).mono ?_; rintro e w1 ⟨rfl, hb⟩)
          go_ret
          exact ⟨rfl, hb⟩
        · have g4 : 20 < n2 := by omega
          clear hg
          go_enter Try.func3, Try.ntmps3
          go_wp2_with (go_at_call 11; refine (alive19_c _).mono ?_; rintro e w1 ⟨rfl, hb⟩)
          go_ret
          exact ⟨rfl, hb⟩
/-- Any call that Write does for these texts. -/
theorem keep_w {w0 w : World} {ab fb bb wb : Nat} {F : Fl} {n : Nat} (s k x : Nat) (hx : fromS s k 4 = (x : Int)) (hx2 : x < 12) (h : Sk F n) (hn : n < 100) (c : List UInt8) (hc : c.length ≤ 320) (hc0 : c ≠ [])
    (A : Option Addr) (m cap : Nat) (hm : m = c.length) (hr : Reads w A m (c.map u8v)) (hap : Apart [fb, bb, wb] A) (hh : HasA w0 w ab fb bb wb ⟨0, 12, 100⟩ F) :
    Calls Try.prog 16 #[ptr ab, .int .i64 (s : Int), .int .i64 (k : Int), .int .i64 4, .slice A m cap] w fun e w' => e = .returned (.int .i64 0) ∧ ∃ F', Sk F' (n + 1) ∧ HoldsC F' x c ∧ (∀ y d, y ≠ x → d.length ≤ 320 → HoldsC F y d → HoldsC F' y d) ∧ HasA w0 w' ab fb bb wb ⟨0, 12, 100⟩ F' := by
  obtain ⟨p1, p2, p3, p4⟩ := sk_step h hn x hx2 c hc hc0
  refine (swrite_h s k 4 A m cap c hm 0 _ x hx p1 rfl hr hap hh).mono ?_
  rintro e w' ⟨rfl, h5, -⟩
  exact ⟨rfl, _, p2, p3, p4, h5⟩
theorem ints_at {w : World} {b o n k : Nat} {l : List Int} (h : Reads w (some ⟨b, o, none⟩) n (l.map i64v)) (hk : k < n) : w.cell? ⟨b, o + k, none⟩ = some (i64v (l.getD k 0)) := by
  obtain ⟨b', o', u, e, hb, hu, hc⟩ := h.at_ hk
  cases e
  have hl : l.length = n := by simpa using h.len
  rw [List.getElem?_map, List.getElem?_eq_getElem (by omega)] at hu
  rw [hc, List.getD_eq_getElem?_getD, List.getElem?_eq_getElem (by omega), ← hu]
  rfl
/-- A chunk of an argument. -/
theorem chk_reads {w0 w : World} {A : Option Addr} {n : Nat} {l : List UInt8} (r : Reads w0 A n (l.map u8v)) (hb : Below w0.heap.size w0 w) (k m : Nat) (hm : m = (chk l k).length) (h1 : 1 ≤ m) :
    Reads w (Option.map (fun x => x.add (k * 320)) A) m ((chk l k).map u8v) := by
  have hn : l.length = n := by simpa using r.len
  rw [chk_len] at hm
  have hr := ((r.below hb).drop (k := k * 320) (cap := n + 1) (by omega) (by omega))
  rw [if_neg (by omega)] at hr
  have hr2 := hr.take (k := m) (by omega)
  rw [← List.map_drop, ← List.map_take, chk_take _ _ _ hm] at hr2
  exact hr2
theorem arg_apart {w0 w : World} {A : Option Addr} {n : Nat} {xs : List Value} {fb bb wb : Nat} {F : Fl} (r : Reads w0 A n xs) (h1 : 1 ≤ n) (h : Has w0 w fb bb wb F) (k : Nat) : Apart [fb, bb, wb] (Option.map (fun x => x.add k) A) := by
  obtain ⟨b, o, rfl, hb, -⟩ := r.2 (by omega)
  have h3 := h.fb_
  have h4 := h.bb_
  have h5 := h.wb_
  intro a ha
  have e : a = (⟨b, o, none⟩ : Addr).add k := by simpa using ha.symm
  rw [e, block_of_add]
  intro hk
  simp at hk
  omega
set_option maxRecDepth 100000 in
set_option maxHeartbeats 2000000 in
theorem slotKeeps_some (A0 A1 : Option Addr) (b2 o2 : Nat) (n0 c0 n1 c1 n2 c2 : Nat) (l0 l1 : List UInt8) (l2 : List Int) (w : World)
    (r0 : Reads w A0 n0 (l0.map u8v)) (r1 : Reads w A1 n1 (l1.map u8v)) (r2 : Reads w (some ⟨b2, o2, none⟩) n2 (l2.map i64v)) (z0 : n0 ≤ c0 ∧ c0 ≤ maxLen) (z1 : n1 ≤ c1 ∧ c1 ≤ maxLen) (z2 : n2 ≤ c2 ∧ c2 ≤ maxLen)
    (g0 : 1 ≤ n0) (g1 : n0 ≤ 1280) (g2 : 1 ≤ n1) (g3 : n1 ≤ 1280) (g4 : n2 ≤ 20) :
    Calls Try.prog 3 #[.slice A0 n0 c0, .slice A1 n1 c1, .slice (some ⟨b2, o2, none⟩) n2 c2] w fun e w' => e = .returned (.bool true) ∧ Below w.heap.size w w' := by
  have e0 : l0.length = n0 := by simpa using r0.len
  have e1 : l1.length = n1 := by simpa using r1.len
  have e2 : l2.length = n2 := by simpa using r2.len
  obtain ⟨F0, hF0⟩ : ∃ F0, Fl.new ((12 : Nat) : Int) = F0 := ⟨_, rfl⟩
  have hlen0 : F0.wear.length = 12 := by rw [← hF0]; exact new_wlen 12 (by omega)
  have hst : Sk F0 0 := hF0 ▸ sk_start
  obtain ⟨R, hR⟩ : ∃ R, Ar.new 12 0 12 100 = R := ⟨_, rfl⟩
  have hR2 : R = ⟨0, 12, 100⟩ := hR ▸ sk_new
  have G0 := Lib.hid hF0
  have G1 := Lib.hid hlen0
  have G2 := Lib.hid hR
  have G3 := Lib.hid hR2
  have G4 := Lib.hid hst
  obtain ⟨K, hK⟩ : ∃ K, (n0 + 319) / 320 = K := ⟨_, rfl⟩
  obtain ⟨M, hM⟩ : ∃ M, (n1 + 319) / 320 = M := ⟨_, rfl⟩
  have hK4 : K ≤ 4 := by omega
  have hM4 : M ≤ 4 := by omega
  have hK1 : 1 ≤ K := by omega
  have hM1 : 1 ≤ M := by omega
  have hck : ∀ W, Calls Try.prog 14 #[.int .i64 (n0 : Int)] W fun e w' => e = .returned (.int .i64 (K : Int)) ∧ W = w' := fun W => hK ▸ chunks_c n0 g0 (by omega) W
  have hcm : ∀ W, Calls Try.prog 14 #[.int .i64 (n1 : Int)] W fun e w' => e = .returned (.int .i64 (M : Int)) ∧ W = w' := fun W => hM ▸ chunks_c n1 g2 (by omega) W
  have HK := Lib.hid hK
  have HM := Lib.hid hM
  have HE0 := Lib.hid e0
  have HE1 := Lib.hid e1
  have HE2 := Lib.hid e2
  clear hF0 hlen0 hR hR2 hst hK hM e0 e1 e2
  go_enter Try.func3, Try.ntmps3
  go_wp2_with (go_at_call 11; refine (alive19_c _).mono ?_; rintro e w1 ⟨rfl, hb1⟩)
  refine (new_hf 12 (by omega) F0 G0.out hb1).mono ?_
  rintro e w2 ⟨fb, bb, wb, rfl, h2⟩
  go_wp2_with fail
  refine (anew_h 0 0 12 100 12 G1.out R G2.out h2).mono ?_
  rintro e w3 ⟨ab, rfl, h3, -, -⟩
  go_wp2_with fail
  refine (hck _).mono ?_
  rintro e w' ⟨rfl, rfl⟩
  go_wp2_with fail
  refine (hcm _).mono ?_
  rintro e w' ⟨rfl, rfl⟩
  go_wp2_with fail
  have hRR := G3.out
  subst hRR
  have H3 := Lib.hid h3
  clear h2 h3 hb1 hck hcm G0 G1 G2 G3
  go_loopw [11] (fun v wr => ∃ (i : Nat) (F : Fl), i ≤ M ∧ v = .int .i64 (i : Int) ∧ Sk F i ∧ (∀ j, j < i → HoldsC F (8 + j) (chk l1 j)) ∧ HasA w wr ab fb bb wb ⟨0, 12, 100⟩ F) (fun v _ => M - (intOf v).toNat)
  case atStart => exact ⟨0, F0, by omega, rfl, G4.out, fun _ h => absurd h (by omega), H3.out⟩
  case round =>
    obtain ⟨i, F, hi, rfl, hsk, hold, hh⟩ := hrel
    have HS := Lib.hid hsk
    have HO := Lib.hid hold
    have HH := Lib.hid hh
    clear hsk hold hh G4 H3
    by_cases hlt : i < M
    · have hlen : ∀ W, Calls Try.prog 17 #[.int .i64 (n1 : Int), .int .i64 (i : Int)] W fun e w' => e = .returned (.int .i64 ((min 320 (n1 - i * 320) : Nat) : Int)) ∧ W = w' := fun W => len_c n1 i g2 (by omega) (by have := HM.out; omega) W
      obtain ⟨m, hm⟩ : ∃ m, min 320 (n1 - i * 320) = m := ⟨_, rfl⟩
      have hmb : 1 ≤ m ∧ m ≤ 320 ∧ i * 320 + m ≤ n1 := by have := HM.out; omega
      rw [hm] at hlen
      go_wp2_with (go_at_call 17; refine (hlen _).mono ?_; rintro e w' ⟨rfl, rfl⟩)
      refine (keep_w 1 i (8 + i) (by unfold fromS; rw [if_neg (by omega)]; omega) (by omega) HS.out (by omega) (chk l1 i) (by rw [chk_len]; omega) (by intro hz; have := congrArg List.length hz; rw [chk_len, HE1.out] at this; simp at this; omega) _ m _ (by rw [chk_len, HE1.out]; omega)
        (chk_reads r1 HH.out.has.below i m (by rw [chk_len, HE1.out]; omega) hmb.1) (arg_apart r1 g2 HH.out.has _) HH.out).mono ?_
      rintro e w4 ⟨rfl, F', q1, q2, q3, h5⟩
      go_wp2_with (go_at_call 15; refine (num19_c _ _).mono ?_; rintro e w' ⟨rfl, rfl⟩)
      go_roundw
      case rel =>
        refine ⟨i + 1, F', by omega, by go_num, q1, fun j hj => ?_, h5⟩
        by_cases hji : j = i
        · subst hji; exact q2
        · exact q3 _ _ (by omega) (by rw [chk_len]; omega) (HO.out j (by omega))
      case measure => simp [intOf]; omega
    · obtain rfl : i = M := by omega
      go_wp2_with fail
      go_loopw [13, 14, 15] (fun a b c wr => ∃ (t : Nat) (F : Fl), t ≤ n2 + K ∧ a = .int .i64 (t : Int) ∧ Sk F (i + t) ∧ (∀ j, j < i → HoldsC F (8 + j) (chk l1 j)) ∧ (∀ j, n2 + j < t → HoldsC F (4 + j) (chk l0 j)) ∧ HasA w wr ab fb bb wb ⟨0, 12, 100⟩ F) (fun a _ _ _ => n2 + K - (intOf a).toNat)
      case atStart => exact ⟨0, F, by omega, rfl, HS.out, HO.out, fun _ h => absurd h (by omega), HH.out⟩
      case round =>
        clear HS HO HH
        obtain ⟨t, F, ht, rfl, hsk, hold, hnew, hh⟩ := hrel
        have HS := Lib.hid hsk
        have HO := Lib.hid hold
        have HN := Lib.hid hnew
        have HH := Lib.hid hh
        clear hsk hold hnew hh
        by_cases hlt : t < n2 + K
        · by_cases ht2 : t < n2
          · have hx := ints_at (r2.below HH.out.has.below) ht2
            obtain ⟨v, hv⟩ : ∃ v, l2.getD t 0 = v := ⟨_, rfl⟩
            rw [hv] at hx
            simp only [i64v] at hx
            obtain ⟨q, hqK, hq⟩ := i64_mask_rem v 1023 K (by omega) hK1
            rw [show ((1023 : Nat) : Int) = 1023 from rfl] at hq
            have hlen : ∀ W, Calls Try.prog 17 #[.int .i64 (n0 : Int), .int .i64 (q : Int)] W fun e w' => e = .returned (.int .i64 ((min 320 (n0 - q * 320) : Nat) : Int)) ∧ W = w' := fun W =>  len_c n0 q g0 (by omega) (by have := HK.out; omega) W
            obtain ⟨m, hm⟩ : ∃ m, min 320 (n0 - q * 320) = m := ⟨_, rfl⟩
            have hmb : 1 ≤ m ∧ m ≤ 320 ∧ q * 320 + m ≤ n0 := by have := HK.out; omega
            rw [hm] at hlen
            go_wp2_with (go_at_call 17; refine (hlen _).mono ?_; rintro e w' ⟨rfl, rfl⟩)
            refine (keep_w 0 q (4 + q) (by unfold fromS; rw [if_neg (by omega)]; omega) (by omega) HS.out (by omega) (chk l0 q) (by rw [chk_len]; omega) (by intro hz; have := congrArg List.length hz; rw [chk_len, HE0.out] at this; simp at this; omega) _ m _ (by rw [chk_len, HE0.out]; omega)
              (chk_reads r0 HH.out.has.below q m (by rw [chk_len, HE0.out]; omega) hmb.1) (arg_apart r0 g0 HH.out.has _) HH.out).mono ?_
            rintro e w4 ⟨rfl, F', q1, q2, q3, h5⟩
            go_wp2_with (go_at_call 15; refine (num19_c _ _).mono ?_; rintro e w' ⟨rfl, rfl⟩)
            go_roundw
            case rel =>
              refine ⟨t + 1, F', by omega, by go_num, q1, fun j hj => q3 _ _ (by omega) (by rw [chk_len]; omega) (HO.out j hj), fun j hj => ?_, h5⟩
              by_cases hjq : j = q
              · rw [hjq]; exact q2
              · exact q3 _ _ (by omega) (by rw [chk_len]; omega) (HN.out j (by omega))
            case measure => simp [intOf]; omega
          · obtain ⟨q, hq⟩ : ∃ q, t - n2 = q := ⟨_, rfl⟩
            have hq2 : (t : Int) - (n2 : Int) = (q : Int) := by omega
            have hqK : q < K := by omega
            have hlen : ∀ W, Calls Try.prog 17 #[.int .i64 (n0 : Int), .int .i64 (q : Int)] W fun e w' => e = .returned (.int .i64 ((min 320 (n0 - q * 320) : Nat) : Int)) ∧ W = w' := fun W =>  len_c n0 q g0 (by omega) (by have := HK.out; omega) W
            obtain ⟨m, hm⟩ : ∃ m, min 320 (n0 - q * 320) = m := ⟨_, rfl⟩
            have hmb : 1 ≤ m ∧ m ≤ 320 ∧ q * 320 + m ≤ n0 := by have := HK.out; omega
            rw [hm] at hlen
            go_wp2_with (go_at_call 17; refine (hlen _).mono ?_; rintro e w' ⟨rfl, rfl⟩)
            refine (keep_w 0 q (4 + q) (by unfold fromS; rw [if_neg (by omega)]; omega) (by omega) HS.out (by omega) (chk l0 q) (by rw [chk_len]; omega) (by intro hz; have := congrArg List.length hz; rw [chk_len, HE0.out] at this; simp at this; omega) _ m _ (by rw [chk_len, HE0.out]; omega)
              (chk_reads r0 HH.out.has.below q m (by rw [chk_len, HE0.out]; omega) hmb.1) (arg_apart r0 g0 HH.out.has _) HH.out).mono ?_
            rintro e w4 ⟨rfl, F', q1, q2, q3, h5⟩
            go_wp2_with (go_at_call 15; refine (num19_c _ _).mono ?_; rintro e w' ⟨rfl, rfl⟩)
            go_roundw
            case rel =>
              refine ⟨t + 1, F', by omega, by go_num, q1, fun j hj => q3 _ _ (by omega) (by rw [chk_len]; omega) (HO.out j hj), fun j hj => ?_, h5⟩
              by_cases hjq : j = q
              · rw [hjq]; exact q2
              · exact q3 _ _ (by omega) (by rw [chk_len]; omega) (HN.out j (by omega))
            case measure => simp [intOf]; omega
        · obtain rfl : t = n2 + K := by omega
          have im0 := sk_image HS.out 0 (by omega) l0 (by rw [HE0.out]; omega) (by rw [HE0.out]; omega) fun j hj => by
            have := HK.out
            have := HE0.out
            simpa using HN.out j (by omega)
          have im1 := sk_image HS.out 1 (by omega) l1 (by rw [HE1.out]; omega) (by rw [HE1.out]; omega) fun j hj => by
            have := HM.out
            have := HE1.out
            simpa using HO.out j (by omega)
          rw [HE0.out] at im0
          rw [HE1.out] at im1
          have IM0 := Lib.hid im0
          have IM1 := Lib.hid im1
          clear im0 im1
          obtain ⟨D0, hD0⟩ : ∃ D : ByteArray, (⟨l0.toArray⟩ : ByteArray) = D := ⟨_, rfl⟩
          obtain ⟨D1, hD1⟩ : ∃ D : ByteArray, (⟨l1.toArray⟩ : ByteArray) = D := ⟨_, rfl⟩
          obtain ⟨E0, hE0⟩ : ∃ D : ByteArray, D0 = D := ⟨_, rfl⟩
          obtain ⟨E1, hE1⟩ : ∃ D : ByteArray, D1 = D := ⟨_, rfl⟩
          have hDD0 : (E0.toList == D0.toList) = true := by rw [← hE0]; exact beq_self_eq_true _
          have hDD1 : (E1.toList == D1.toList) = true := by rw [← hE1]; exact beq_self_eq_true _
          have hc0 : ∀ (W : World) (A : Option Addr) (c : Nat), Reads W A n0 (l0.map u8v) → (convert 22 9 (.slice A n0 c)).run Try.prog W = .ok (.string D0) W := fun W A c h => hD0 ▸ strAny W A n0 c l0 h
          have hc1 : ∀ (W : World) (A : Option Addr) (c : Nat), Reads W A n1 (l1.map u8v) → (convert 22 9 (.slice A n1 c)).run Try.prog W = .ok (.string D1) W := fun W A c h => hD1 ▸ strAny W A n1 c l1 h
          have hi0 : ∀ W : World, HasA w W ab fb bb wb ⟨0, 12, 100⟩ F → Calls Try.prog 18 #[ptr ab, .int .i64 0, .int .i64 4, .int .i64 (n0 : Int)] W fun e w' => ∃ A c, e = .returned (.slice A n0 c) ∧ HasA w w' ab fb bb wb ⟨0, 12, 100⟩ F ∧ (∀ w2, Below w'.heap.size w' w2 → (convert 22 9 (.slice A n0 c)).run Try.prog w2 = .ok (.string E0) w2) := fun W h => by
            refine (image_h 0 4 n0 (by omega) l0 IM0.out h).mono ?_
            rintro e w4 ⟨A, c, rfl, hown, h4, -⟩
            rw [HE0.out] at hown ⊢
            exact ⟨A, c, rfl, h4, fun w2 hb => hE0 ▸ hc0 _ _ _ ((Reads.of_own hown).below hb)⟩
          have hi1 : ∀ W : World, HasA w W ab fb bb wb ⟨0, 12, 100⟩ F → Calls Try.prog 18 #[ptr ab, .int .i64 1, .int .i64 4, .int .i64 (n1 : Int)] W fun e w' => ∃ A c, e = .returned (.slice A n1 c) ∧ HasA w w' ab fb bb wb ⟨0, 12, 100⟩ F ∧ (∀ w2, Below w'.heap.size w' w2 → (convert 22 9 (.slice A n1 c)).run Try.prog w2 = .ok (.string E1) w2) := fun W h => by
            refine (image_h 1 4 n1 (by omega) l1 IM1.out h).mono ?_
            rintro e w4 ⟨A, c, rfl, hown, h4, -⟩
            rw [HE1.out] at hown ⊢
            exact ⟨A, c, rfl, h4, fun w2 hb => hE1 ▸ hc1 _ _ _ ((Reads.of_own hown).below hb)⟩
          have ha : ∀ W : World, HasA w W ab fb bb wb ⟨0, 12, 100⟩ F → (convert 22 9 (.slice A0 n0 c0)).run Try.prog W = .ok (.string D0) W ∧ (convert 22 9 (.slice A1 n1 c1)).run Try.prog W = .ok (.string D1) W := fun W h => ⟨hc0 _ _ _ (r0.below h.has.below), hc1 _ _ _ (r1.below h.has.below)⟩
          have HA2 := Lib.hid ha
          have hd1 : HasA w wr.drew ab fb bb wb ⟨0, 12, 100⟩ F := HH.out.drewN 1
          clear hD0 hD1 hE0 hE1 ha HK HM hc0 hc1
          go_wp2_with fail
          refine wp_region_held_drew (S := (fun W => (convert 22 9 (.slice A0 n0 c0)).run Try.prog W = .ok (.string D0) W ∧ (convert 22 9 (.slice A1 n1 c1)).run Try.prog W = .ok (.string D1) W)) (by kernel_rfl) ?_ (fun hHeld => ?_)
          · exact HA2.out _ hd1
          refine wpAnyH_take (i := 0) (v := ?_) rfl (by kernel_rfl) (by kernel_rfl) (by kernel_rfl) (fun _ _ _ h => h) (Or.inl ⟨by rfl, ?_⟩) (by assumption) ?_
          rotate_left
          · intro w hSw
            (try dsimp only at hSw)
            go_simp
            all_goals with_reducible rfl
          try simp only [Act.put, List.getElem_toArray, List.getElem_cons_succ, List.getElem_cons_zero, List.setIfInBounds_toArray, List.set_cons_zero, List.set_cons_succ]
          refine wpAnyH_take (i := 1) (v := ?_) rfl (by kernel_rfl) (by kernel_rfl) (by kernel_rfl) (fun _ _ _ h => h) (Or.inl ⟨by rfl, ?_⟩) (by assumption) ?_
          rotate_left
          · intro w hSw
            (try dsimp only at hSw)
            go_simp
            all_goals with_reducible rfl
          try simp only [Act.put, List.getElem_toArray, List.getElem_cons_succ, List.getElem_cons_zero, List.setIfInBounds_toArray, List.set_cons_zero, List.set_cons_succ]
          refine wpAnyH_take (i := 2) (v := ?_) rfl (by kernel_rfl) (by kernel_rfl) (by kernel_rfl) (fun _ _ _ h => h) (Or.inl ⟨by rfl, ?_⟩) (by assumption) ?_
          rotate_left
          · intro w hSw
            (try dsimp only at hSw)
            go_simp
            all_goals with_reducible rfl
          try simp only [Act.put, List.getElem_toArray, List.getElem_cons_succ, List.getElem_cons_zero, List.setIfInBounds_toArray, List.set_cons_zero, List.set_cons_succ]
          refine wpAnyH_take (i := 5) (v := ?_) rfl (by kernel_rfl) (by kernel_rfl) (by kernel_rfl) (fun _ _ _ h => h) (Or.inl ⟨by rfl, ?_⟩) (by assumption) ?_
          rotate_left
          · intro w hSw
            (try dsimp only at hSw)
            go_simp
            all_goals with_reducible rfl
          try simp only [Act.put, List.getElem_toArray, List.getElem_cons_succ, List.getElem_cons_zero, List.setIfInBounds_toArray, List.set_cons_zero, List.set_cons_succ]
          refine wpAnyH_take (i := 6) (v := ?_) rfl (by kernel_rfl) (by kernel_rfl) (by kernel_rfl) (fun _ _ _ h => h) (Or.inl ⟨by rfl, ?_⟩) (by assumption) ?_
          rotate_left
          · intro w hSw
            (try dsimp only at hSw)
            go_simp
            all_goals with_reducible rfl
          try simp only [Act.put, List.getElem_toArray, List.getElem_cons_succ, List.getElem_cons_zero, List.setIfInBounds_toArray, List.set_cons_zero, List.set_cons_succ]
          refine wpAnyH_ready (rs := [3]) (by kernel_rfl) (by simp) ?_
          refine AllReadyH.cons rfl (fun K hK => ?_) AllReadyH.nil
          go_simp
          refine (hi0 _ hd1).mono ?_; rintro e w4 ⟨A4, c4, rfl, h4, hs4⟩; have hs40 := hs4 w4 (Below.refl _ _); clear hs4
          go_wp2_with fail
          refine hK.out _ _ ?_ (fun hHeld => ?_)
          · (try dsimp only)
            first | exact HA2.out _ h5 | exact HA2.out _ h4 | exact HA2.out _ hd1
          clear hK K
          try simp only [Act.put, List.getElem_toArray, List.getElem_cons_succ, List.getElem_cons_zero, List.setIfInBounds_toArray, List.set_cons_zero, List.set_cons_succ]
          refine wpAnyH_ready (rs := [4]) (by kernel_rfl) (by simp) ?_
          refine AllReadyH.cons rfl (fun K hK => ?_) AllReadyH.nil
          go_simp
          refine hK.out _ _ ?_ (fun hHeld => ?_)
          · (try dsimp only)
            first | exact HA2.out _ h5 | exact HA2.out _ h4 | exact HA2.out _ hd1
          clear hK K
          try simp only [Act.put, List.getElem_toArray, List.getElem_cons_succ, List.getElem_cons_zero, List.setIfInBounds_toArray, List.set_cons_zero, List.set_cons_succ]
          refine wpAnyH_take (i := 7) (v := ?_) rfl (by kernel_rfl) (by kernel_rfl) (by kernel_rfl) (fun _ _ _ h => h) (Or.inl ⟨by rfl, ?_⟩) (by assumption) ?_
          rotate_left
          · intro w hSw
            (try dsimp only at hSw)
            go_simp
            all_goals with_reducible rfl
          try simp only [Act.put, List.getElem_toArray, List.getElem_cons_succ, List.getElem_cons_zero, List.setIfInBounds_toArray, List.set_cons_zero, List.set_cons_succ]
          refine wpAnyH_take (i := 8) (v := ?_) rfl (by kernel_rfl) (by kernel_rfl) (by kernel_rfl) (fun _ _ _ h => h) (Or.inl ⟨by rfl, ?_⟩) (by assumption) ?_
          rotate_left
          · intro w hSw
            (try dsimp only at hSw)
            go_simp
            all_goals with_reducible rfl
          try simp only [Act.put, List.getElem_toArray, List.getElem_cons_succ, List.getElem_cons_zero, List.setIfInBounds_toArray, List.set_cons_zero, List.set_cons_succ]
          refine wpAnyH_take (i := 9) (v := ?_) rfl (by kernel_rfl) (by kernel_rfl) (by kernel_rfl) (fun _ _ _ h => h) (Or.inl ⟨by rfl, ?_⟩) (by assumption) ?_
          rotate_left
          · intro w hSw
            (try dsimp only at hSw)
            go_simp
            all_goals with_reducible rfl
          try simp only [Act.put, List.getElem_toArray, List.getElem_cons_succ, List.getElem_cons_zero, List.setIfInBounds_toArray, List.set_cons_zero, List.set_cons_succ]
          refine wpAnyH_take (i := 10) (v := ?_) rfl (by kernel_rfl) (by kernel_rfl) (by kernel_rfl) (fun _ _ _ h => h) (Or.inl ⟨by rfl, ?_⟩) (by assumption) ?_
          rotate_left
          · intro w hSw
            (try dsimp only at hSw)
            go_simp
            all_goals with_reducible rfl
          try simp only [Act.put, List.getElem_toArray, List.getElem_cons_succ, List.getElem_cons_zero, List.setIfInBounds_toArray, List.set_cons_zero, List.set_cons_succ]
          refine wpAnyH_take (i := 11) (v := ?_) rfl (by kernel_rfl) (by kernel_rfl) (by kernel_rfl) (fun _ _ _ h => h) (Or.inl ⟨by rfl, ?_⟩) (by assumption) ?_
          rotate_left
          · intro w hSw
            (try dsimp only at hSw)
            go_simp
            all_goals with_reducible rfl
          try simp only [Act.put, List.getElem_toArray, List.getElem_cons_succ, List.getElem_cons_zero, List.setIfInBounds_toArray, List.set_cons_zero, List.set_cons_succ]
          refine wpAnyH_take (i := 14) (v := ?_) rfl (by kernel_rfl) (by kernel_rfl) (by kernel_rfl) (fun _ _ _ h => h) (Or.inl ⟨by rfl, ?_⟩) (by assumption) ?_
          rotate_left
          · intro w hSw
            (try dsimp only at hSw)
            go_simp
            all_goals with_reducible rfl
          try simp only [Act.put, List.getElem_toArray, List.getElem_cons_succ, List.getElem_cons_zero, List.setIfInBounds_toArray, List.set_cons_zero, List.set_cons_succ]
          refine wpAnyH_take (i := 15) (v := ?_) rfl (by kernel_rfl) (by kernel_rfl) (by kernel_rfl) (fun _ _ _ h => h) (Or.inl ⟨by rfl, ?_⟩) (by assumption) ?_
          rotate_left
          · intro w hSw
            (try dsimp only at hSw)
            go_simp
            all_goals with_reducible rfl
          try simp only [Act.put, List.getElem_toArray, List.getElem_cons_succ, List.getElem_cons_zero, List.setIfInBounds_toArray, List.set_cons_zero, List.set_cons_succ]
          refine wpAnyH_ready (rs := [12]) (by kernel_rfl) (by simp) ?_
          refine AllReadyH.cons rfl (fun K hK => ?_) AllReadyH.nil
          go_simp
          refine (hi1 _ h4).mono ?_; rintro e w5 ⟨A5, c5, rfl, h5, hs5⟩; have hs50 := hs5 w5 (Below.refl _ _); clear hs5
          go_wp2_with fail
          refine hK.out _ _ ?_ (fun hHeld => ?_)
          · (try dsimp only)
            first | exact HA2.out _ h5 | exact HA2.out _ h4 | exact HA2.out _ hd1
          clear hK K
          try simp only [Act.put, List.getElem_toArray, List.getElem_cons_succ, List.getElem_cons_zero, List.setIfInBounds_toArray, List.set_cons_zero, List.set_cons_succ]
          refine wpAnyH_ready (rs := [13]) (by kernel_rfl) (by simp) ?_
          refine AllReadyH.cons rfl (fun K hK => ?_) AllReadyH.nil
          go_simp
          refine hK.out _ _ ?_ (fun hHeld => ?_)
          · (try dsimp only)
            first | exact HA2.out _ h5 | exact HA2.out _ h4 | exact HA2.out _ hd1
          clear hK K
          try simp only [Act.put, List.getElem_toArray, List.getElem_cons_succ, List.getElem_cons_zero, List.setIfInBounds_toArray, List.set_cons_zero, List.set_cons_succ]
          refine wpAnyH_take (i := 16) (v := ?_) rfl (by kernel_rfl) (by kernel_rfl) (by kernel_rfl) (fun _ _ _ h => h) (Or.inl ⟨by rfl, ?_⟩) (by assumption) ?_
          rotate_left
          · intro w hSw
            (try dsimp only at hSw)
            go_simp
            all_goals with_reducible rfl
          try simp only [Act.put, List.getElem_toArray, List.getElem_cons_succ, List.getElem_cons_zero, List.setIfInBounds_toArray, List.set_cons_zero, List.set_cons_succ]
          refine wpAnyH_take (i := 17) (v := ?_) rfl (by kernel_rfl) (by kernel_rfl) (by kernel_rfl) (fun _ _ _ h => h) (Or.inl ⟨by rfl, ?_⟩) (by assumption) ?_
          rotate_left
          · intro w hSw
            (try dsimp only at hSw)
            go_simp
            all_goals with_reducible rfl
          try simp only [Act.put, List.getElem_toArray, List.getElem_cons_succ, List.getElem_cons_zero, List.setIfInBounds_toArray, List.set_cons_zero, List.set_cons_succ]
          refine wpAnyH_take (i := 18) (v := ?_) rfl (by kernel_rfl) (by kernel_rfl) (by kernel_rfl) (fun _ _ _ h => h) (Or.inl ⟨by rfl, ?_⟩) (by assumption) ?_
          rotate_left
          · intro w hSw
            (try dsimp only at hSw)
            go_simp
            all_goals with_reducible rfl
          try simp only [Act.put, List.getElem_toArray, List.getElem_cons_succ, List.getElem_cons_zero, List.setIfInBounds_toArray, List.set_cons_zero, List.set_cons_succ]
          refine wpAnyH_done (by kernel_rfl) ?_ _
          try simp only [Act.put, List.getElem_toArray, List.getElem_cons_succ, List.getElem_cons_zero, List.setIfInBounds_toArray, List.set_cons_zero, List.set_cons_succ]
          go_wp2_with fail
          go_ret
          exact ⟨by simp, h5.has.below⟩
set_option maxRecDepth 100000 in
set_option maxHeartbeats 2000000 in
theorem slotKeeps_nil (A0 A1 : Option Addr) (A2 : Option Addr) (n0 c0 n1 c1 n2 c2 : Nat) (l0 l1 : List UInt8) (l2 : List Int) (w : World)
    (r0 : Reads w A0 n0 (l0.map u8v)) (r1 : Reads w A1 n1 (l1.map u8v)) (r2 : Reads w A2 n2 (l2.map i64v)) (z0 : n0 ≤ c0 ∧ c0 ≤ maxLen) (z1 : n1 ≤ c1 ∧ c1 ≤ maxLen) (z2 : n2 ≤ c2 ∧ c2 ≤ maxLen)
    (g0 : 1 ≤ n0) (g1 : n0 ≤ 1280) (g2 : 1 ≤ n1) (g3 : n1 ≤ 1280) (g4 : Hid (n2 = 0)) :
    Calls Try.prog 3 #[.slice A0 n0 c0, .slice A1 n1 c1, .slice A2 n2 c2] w fun e w' => e = .returned (.bool true) ∧ Below w.heap.size w w' := by
  have e0 : l0.length = n0 := by simpa using r0.len
  have e1 : l1.length = n1 := by simpa using r1.len
  have e2 : l2.length = n2 := by simpa using r2.len
  obtain ⟨F0, hF0⟩ : ∃ F0, Fl.new ((12 : Nat) : Int) = F0 := ⟨_, rfl⟩
  have hlen0 : F0.wear.length = 12 := by rw [← hF0]; exact new_wlen 12 (by omega)
  have hst : Sk F0 0 := hF0 ▸ sk_start
  obtain ⟨R, hR⟩ : ∃ R, Ar.new 12 0 12 100 = R := ⟨_, rfl⟩
  have hR2 : R = ⟨0, 12, 100⟩ := hR ▸ sk_new
  have G0 := Lib.hid hF0
  have G1 := Lib.hid hlen0
  have G2 := Lib.hid hR
  have G3 := Lib.hid hR2
  have G4 := Lib.hid hst
  obtain ⟨K, hK⟩ : ∃ K, (n0 + 319) / 320 = K := ⟨_, rfl⟩
  obtain ⟨M, hM⟩ : ∃ M, (n1 + 319) / 320 = M := ⟨_, rfl⟩
  have hK4 : K ≤ 4 := by omega
  have hM4 : M ≤ 4 := by omega
  have hK1 : 1 ≤ K := by omega
  have hM1 : 1 ≤ M := by omega
  have hck : ∀ W, Calls Try.prog 14 #[.int .i64 (n0 : Int)] W fun e w' => e = .returned (.int .i64 (K : Int)) ∧ W = w' := fun W => hK ▸ chunks_c n0 g0 (by omega) W
  have hcm : ∀ W, Calls Try.prog 14 #[.int .i64 (n1 : Int)] W fun e w' => e = .returned (.int .i64 (M : Int)) ∧ W = w' := fun W => hM ▸ chunks_c n1 g2 (by omega) W
  have HK := Lib.hid hK
  have HM := Lib.hid hM
  have HE0 := Lib.hid e0
  have HE1 := Lib.hid e1
  have HE2 := Lib.hid e2
  have hn20 : n2 ≤ 20 := by have := g4.out; omega
  clear hF0 hlen0 hR hR2 hst hK hM e0 e1 e2
  go_enter Try.func3, Try.ntmps3
  go_wp2_with (go_at_call 11; refine (alive19_c _).mono ?_; rintro e w1 ⟨rfl, hb1⟩)
  refine (new_hf 12 (by omega) F0 G0.out hb1).mono ?_
  rintro e w2 ⟨fb, bb, wb, rfl, h2⟩
  go_wp2_with fail
  refine (anew_h 0 0 12 100 12 G1.out R G2.out h2).mono ?_
  rintro e w3 ⟨ab, rfl, h3, -, -⟩
  go_wp2_with fail
  refine (hck _).mono ?_
  rintro e w' ⟨rfl, rfl⟩
  go_wp2_with fail
  refine (hcm _).mono ?_
  rintro e w' ⟨rfl, rfl⟩
  go_wp2_with fail
  have hRR := G3.out
  subst hRR
  have H3 := Lib.hid h3
  clear h2 h3 hb1 hck hcm G0 G1 G2 G3
  go_loopw [11] (fun v wr => ∃ (i : Nat) (F : Fl), i ≤ M ∧ v = .int .i64 (i : Int) ∧ Sk F i ∧ (∀ j, j < i → HoldsC F (8 + j) (chk l1 j)) ∧ HasA w wr ab fb bb wb ⟨0, 12, 100⟩ F) (fun v _ => M - (intOf v).toNat)
  case atStart => exact ⟨0, F0, by omega, rfl, G4.out, fun _ h => absurd h (by omega), H3.out⟩
  case round =>
    obtain ⟨i, F, hi, rfl, hsk, hold, hh⟩ := hrel
    have HS := Lib.hid hsk
    have HO := Lib.hid hold
    have HH := Lib.hid hh
    clear hsk hold hh G4 H3
    by_cases hlt : i < M
    · have hlen : ∀ W, Calls Try.prog 17 #[.int .i64 (n1 : Int), .int .i64 (i : Int)] W fun e w' => e = .returned (.int .i64 ((min 320 (n1 - i * 320) : Nat) : Int)) ∧ W = w' := fun W => len_c n1 i g2 (by omega) (by have := HM.out; omega) W
      obtain ⟨m, hm⟩ : ∃ m, min 320 (n1 - i * 320) = m := ⟨_, rfl⟩
      have hmb : 1 ≤ m ∧ m ≤ 320 ∧ i * 320 + m ≤ n1 := by have := HM.out; omega
      rw [hm] at hlen
      go_wp2_with (go_at_call 17; refine (hlen _).mono ?_; rintro e w' ⟨rfl, rfl⟩)
      refine (keep_w 1 i (8 + i) (by unfold fromS; rw [if_neg (by omega)]; omega) (by omega) HS.out (by omega) (chk l1 i) (by rw [chk_len]; omega) (by intro hz; have := congrArg List.length hz; rw [chk_len, HE1.out] at this; simp at this; omega) _ m _ (by rw [chk_len, HE1.out]; omega)
        (chk_reads r1 HH.out.has.below i m (by rw [chk_len, HE1.out]; omega) hmb.1) (arg_apart r1 g2 HH.out.has _) HH.out).mono ?_
      rintro e w4 ⟨rfl, F', q1, q2, q3, h5⟩
      go_wp2_with (go_at_call 15; refine (num19_c _ _).mono ?_; rintro e w' ⟨rfl, rfl⟩)
      go_roundw
      case rel =>
        refine ⟨i + 1, F', by omega, by go_num, q1, fun j hj => ?_, h5⟩
        by_cases hji : j = i
        · subst hji; exact q2
        · exact q3 _ _ (by omega) (by rw [chk_len]; omega) (HO.out j (by omega))
      case measure => simp [intOf]; omega
    · obtain rfl : i = M := by omega
      go_wp2_with fail
      go_loopw [13, 14, 15] (fun a b c wr => ∃ (t : Nat) (F : Fl), t ≤ n2 + K ∧ a = .int .i64 (t : Int) ∧ Sk F (i + t) ∧ (∀ j, j < i → HoldsC F (8 + j) (chk l1 j)) ∧ (∀ j, n2 + j < t → HoldsC F (4 + j) (chk l0 j)) ∧ HasA w wr ab fb bb wb ⟨0, 12, 100⟩ F) (fun a _ _ _ => n2 + K - (intOf a).toNat)
      case atStart => exact ⟨0, F, by omega, rfl, HS.out, HO.out, fun _ h => absurd h (by omega), HH.out⟩
      case round =>
        clear HS HO HH
        obtain ⟨t, F, ht, rfl, hsk, hold, hnew, hh⟩ := hrel
        have HS := Lib.hid hsk
        have HO := Lib.hid hold
        have HN := Lib.hid hnew
        have HH := Lib.hid hh
        clear hsk hold hnew hh
        by_cases hlt : t < n2 + K
        · by_cases ht2 : t < n2
          · exfalso; have := g4.out; omega
          · obtain ⟨q, hq⟩ : ∃ q, t - n2 = q := ⟨_, rfl⟩
            have hq2 : (t : Int) - (n2 : Int) = (q : Int) := by omega
            have hqK : q < K := by omega
            have hlen : ∀ W, Calls Try.prog 17 #[.int .i64 (n0 : Int), .int .i64 (q : Int)] W fun e w' => e = .returned (.int .i64 ((min 320 (n0 - q * 320) : Nat) : Int)) ∧ W = w' := fun W =>  len_c n0 q g0 (by omega) (by have := HK.out; omega) W
            obtain ⟨m, hm⟩ : ∃ m, min 320 (n0 - q * 320) = m := ⟨_, rfl⟩
            have hmb : 1 ≤ m ∧ m ≤ 320 ∧ q * 320 + m ≤ n0 := by have := HK.out; omega
            rw [hm] at hlen
            go_wp2_with (go_at_call 17; refine (hlen _).mono ?_; rintro e w' ⟨rfl, rfl⟩)
            refine (keep_w 0 q (4 + q) (by unfold fromS; rw [if_neg (by omega)]; omega) (by omega) HS.out (by omega) (chk l0 q) (by rw [chk_len]; omega) (by intro hz; have := congrArg List.length hz; rw [chk_len, HE0.out] at this; simp at this; omega) _ m _ (by rw [chk_len, HE0.out]; omega)
              (chk_reads r0 HH.out.has.below q m (by rw [chk_len, HE0.out]; omega) hmb.1) (arg_apart r0 g0 HH.out.has _) HH.out).mono ?_
            rintro e w4 ⟨rfl, F', q1, q2, q3, h5⟩
            go_wp2_with (go_at_call 15; refine (num19_c _ _).mono ?_; rintro e w' ⟨rfl, rfl⟩)
            go_roundw
            case rel =>
              refine ⟨t + 1, F', by omega, by go_num, q1, fun j hj => q3 _ _ (by omega) (by rw [chk_len]; omega) (HO.out j hj), fun j hj => ?_, h5⟩
              by_cases hjq : j = q
              · rw [hjq]; exact q2
              · exact q3 _ _ (by omega) (by rw [chk_len]; omega) (HN.out j (by omega))
            case measure => simp [intOf]; omega
        · obtain rfl : t = n2 + K := by omega
          have im0 := sk_image HS.out 0 (by omega) l0 (by rw [HE0.out]; omega) (by rw [HE0.out]; omega) fun j hj => by
            have := HK.out
            have := HE0.out
            simpa using HN.out j (by omega)
          have im1 := sk_image HS.out 1 (by omega) l1 (by rw [HE1.out]; omega) (by rw [HE1.out]; omega) fun j hj => by
            have := HM.out
            have := HE1.out
            simpa using HO.out j (by omega)
          rw [HE0.out] at im0
          rw [HE1.out] at im1
          have IM0 := Lib.hid im0
          have IM1 := Lib.hid im1
          clear im0 im1
          obtain ⟨D0, hD0⟩ : ∃ D : ByteArray, (⟨l0.toArray⟩ : ByteArray) = D := ⟨_, rfl⟩
          obtain ⟨D1, hD1⟩ : ∃ D : ByteArray, (⟨l1.toArray⟩ : ByteArray) = D := ⟨_, rfl⟩
          obtain ⟨E0, hE0⟩ : ∃ D : ByteArray, D0 = D := ⟨_, rfl⟩
          obtain ⟨E1, hE1⟩ : ∃ D : ByteArray, D1 = D := ⟨_, rfl⟩
          have hDD0 : (E0.toList == D0.toList) = true := by rw [← hE0]; exact beq_self_eq_true _
          have hDD1 : (E1.toList == D1.toList) = true := by rw [← hE1]; exact beq_self_eq_true _
          have hc0 : ∀ (W : World) (A : Option Addr) (c : Nat), Reads W A n0 (l0.map u8v) → (convert 22 9 (.slice A n0 c)).run Try.prog W = .ok (.string D0) W := fun W A c h => hD0 ▸ strAny W A n0 c l0 h
          have hc1 : ∀ (W : World) (A : Option Addr) (c : Nat), Reads W A n1 (l1.map u8v) → (convert 22 9 (.slice A n1 c)).run Try.prog W = .ok (.string D1) W := fun W A c h => hD1 ▸ strAny W A n1 c l1 h
          have hi0 : ∀ W : World, HasA w W ab fb bb wb ⟨0, 12, 100⟩ F → Calls Try.prog 18 #[ptr ab, .int .i64 0, .int .i64 4, .int .i64 (n0 : Int)] W fun e w' => ∃ A c, e = .returned (.slice A n0 c) ∧ HasA w w' ab fb bb wb ⟨0, 12, 100⟩ F ∧ (∀ w2, Below w'.heap.size w' w2 → (convert 22 9 (.slice A n0 c)).run Try.prog w2 = .ok (.string E0) w2) := fun W h => by
            refine (image_h 0 4 n0 (by omega) l0 IM0.out h).mono ?_
            rintro e w4 ⟨A, c, rfl, hown, h4, -⟩
            rw [HE0.out] at hown ⊢
            exact ⟨A, c, rfl, h4, fun w2 hb => hE0 ▸ hc0 _ _ _ ((Reads.of_own hown).below hb)⟩
          have hi1 : ∀ W : World, HasA w W ab fb bb wb ⟨0, 12, 100⟩ F → Calls Try.prog 18 #[ptr ab, .int .i64 1, .int .i64 4, .int .i64 (n1 : Int)] W fun e w' => ∃ A c, e = .returned (.slice A n1 c) ∧ HasA w w' ab fb bb wb ⟨0, 12, 100⟩ F ∧ (∀ w2, Below w'.heap.size w' w2 → (convert 22 9 (.slice A n1 c)).run Try.prog w2 = .ok (.string E1) w2) := fun W h => by
            refine (image_h 1 4 n1 (by omega) l1 IM1.out h).mono ?_
            rintro e w4 ⟨A, c, rfl, hown, h4, -⟩
            rw [HE1.out] at hown ⊢
            exact ⟨A, c, rfl, h4, fun w2 hb => hE1 ▸ hc1 _ _ _ ((Reads.of_own hown).below hb)⟩
          have ha : ∀ W : World, HasA w W ab fb bb wb ⟨0, 12, 100⟩ F → (convert 22 9 (.slice A0 n0 c0)).run Try.prog W = .ok (.string D0) W ∧ (convert 22 9 (.slice A1 n1 c1)).run Try.prog W = .ok (.string D1) W := fun W h => ⟨hc0 _ _ _ (r0.below h.has.below), hc1 _ _ _ (r1.below h.has.below)⟩
          have HA2 := Lib.hid ha
          have hd1 : HasA w wr.drew ab fb bb wb ⟨0, 12, 100⟩ F := HH.out.drewN 1
          clear hD0 hD1 hE0 hE1 ha HK HM hc0 hc1
          go_wp2_with fail
          refine wp_region_held_drew (S := (fun W => (convert 22 9 (.slice A0 n0 c0)).run Try.prog W = .ok (.string D0) W ∧ (convert 22 9 (.slice A1 n1 c1)).run Try.prog W = .ok (.string D1) W)) (by kernel_rfl) ?_ (fun hHeld => ?_)
          · exact HA2.out _ hd1
          refine wpAnyH_take (i := 0) (v := ?_) rfl (by kernel_rfl) (by kernel_rfl) (by kernel_rfl) (fun _ _ _ h => h) (Or.inl ⟨by rfl, ?_⟩) (by assumption) ?_
          rotate_left
          · intro w hSw
            (try dsimp only at hSw)
            go_simp
            all_goals with_reducible rfl
          try simp only [Act.put, List.getElem_toArray, List.getElem_cons_succ, List.getElem_cons_zero, List.setIfInBounds_toArray, List.set_cons_zero, List.set_cons_succ]
          refine wpAnyH_take (i := 1) (v := ?_) rfl (by kernel_rfl) (by kernel_rfl) (by kernel_rfl) (fun _ _ _ h => h) (Or.inl ⟨by rfl, ?_⟩) (by assumption) ?_
          rotate_left
          · intro w hSw
            (try dsimp only at hSw)
            go_simp
            all_goals with_reducible rfl
          try simp only [Act.put, List.getElem_toArray, List.getElem_cons_succ, List.getElem_cons_zero, List.setIfInBounds_toArray, List.set_cons_zero, List.set_cons_succ]
          refine wpAnyH_take (i := 2) (v := ?_) rfl (by kernel_rfl) (by kernel_rfl) (by kernel_rfl) (fun _ _ _ h => h) (Or.inl ⟨by rfl, ?_⟩) (by assumption) ?_
          rotate_left
          · intro w hSw
            (try dsimp only at hSw)
            go_simp
            all_goals with_reducible rfl
          try simp only [Act.put, List.getElem_toArray, List.getElem_cons_succ, List.getElem_cons_zero, List.setIfInBounds_toArray, List.set_cons_zero, List.set_cons_succ]
          refine wpAnyH_take (i := 5) (v := ?_) rfl (by kernel_rfl) (by kernel_rfl) (by kernel_rfl) (fun _ _ _ h => h) (Or.inl ⟨by rfl, ?_⟩) (by assumption) ?_
          rotate_left
          · intro w hSw
            (try dsimp only at hSw)
            go_simp
            all_goals with_reducible rfl
          try simp only [Act.put, List.getElem_toArray, List.getElem_cons_succ, List.getElem_cons_zero, List.setIfInBounds_toArray, List.set_cons_zero, List.set_cons_succ]
          refine wpAnyH_take (i := 6) (v := ?_) rfl (by kernel_rfl) (by kernel_rfl) (by kernel_rfl) (fun _ _ _ h => h) (Or.inl ⟨by rfl, ?_⟩) (by assumption) ?_
          rotate_left
          · intro w hSw
            (try dsimp only at hSw)
            go_simp
            all_goals with_reducible rfl
          try simp only [Act.put, List.getElem_toArray, List.getElem_cons_succ, List.getElem_cons_zero, List.setIfInBounds_toArray, List.set_cons_zero, List.set_cons_succ]
          refine wpAnyH_ready (rs := [3]) (by kernel_rfl) (by simp) ?_
          refine AllReadyH.cons rfl (fun K hK => ?_) AllReadyH.nil
          go_simp
          refine (hi0 _ hd1).mono ?_; rintro e w4 ⟨A4, c4, rfl, h4, hs4⟩; have hs40 := hs4 w4 (Below.refl _ _); clear hs4
          go_wp2_with fail
          refine hK.out _ _ ?_ (fun hHeld => ?_)
          · (try dsimp only)
            first | exact HA2.out _ h5 | exact HA2.out _ h4 | exact HA2.out _ hd1
          clear hK K
          try simp only [Act.put, List.getElem_toArray, List.getElem_cons_succ, List.getElem_cons_zero, List.setIfInBounds_toArray, List.set_cons_zero, List.set_cons_succ]
          refine wpAnyH_ready (rs := [4]) (by kernel_rfl) (by simp) ?_
          refine AllReadyH.cons rfl (fun K hK => ?_) AllReadyH.nil
          go_simp
          refine hK.out _ _ ?_ (fun hHeld => ?_)
          · (try dsimp only)
            first | exact HA2.out _ h5 | exact HA2.out _ h4 | exact HA2.out _ hd1
          clear hK K
          try simp only [Act.put, List.getElem_toArray, List.getElem_cons_succ, List.getElem_cons_zero, List.setIfInBounds_toArray, List.set_cons_zero, List.set_cons_succ]
          refine wpAnyH_take (i := 7) (v := ?_) rfl (by kernel_rfl) (by kernel_rfl) (by kernel_rfl) (fun _ _ _ h => h) (Or.inl ⟨by rfl, ?_⟩) (by assumption) ?_
          rotate_left
          · intro w hSw
            (try dsimp only at hSw)
            go_simp
            all_goals with_reducible rfl
          try simp only [Act.put, List.getElem_toArray, List.getElem_cons_succ, List.getElem_cons_zero, List.setIfInBounds_toArray, List.set_cons_zero, List.set_cons_succ]
          refine wpAnyH_take (i := 8) (v := ?_) rfl (by kernel_rfl) (by kernel_rfl) (by kernel_rfl) (fun _ _ _ h => h) (Or.inl ⟨by rfl, ?_⟩) (by assumption) ?_
          rotate_left
          · intro w hSw
            (try dsimp only at hSw)
            go_simp
            all_goals with_reducible rfl
          try simp only [Act.put, List.getElem_toArray, List.getElem_cons_succ, List.getElem_cons_zero, List.setIfInBounds_toArray, List.set_cons_zero, List.set_cons_succ]
          refine wpAnyH_take (i := 9) (v := ?_) rfl (by kernel_rfl) (by kernel_rfl) (by kernel_rfl) (fun _ _ _ h => h) (Or.inl ⟨by rfl, ?_⟩) (by assumption) ?_
          rotate_left
          · intro w hSw
            (try dsimp only at hSw)
            go_simp
            all_goals with_reducible rfl
          try simp only [Act.put, List.getElem_toArray, List.getElem_cons_succ, List.getElem_cons_zero, List.setIfInBounds_toArray, List.set_cons_zero, List.set_cons_succ]
          refine wpAnyH_take (i := 10) (v := ?_) rfl (by kernel_rfl) (by kernel_rfl) (by kernel_rfl) (fun _ _ _ h => h) (Or.inl ⟨by rfl, ?_⟩) (by assumption) ?_
          rotate_left
          · intro w hSw
            (try dsimp only at hSw)
            go_simp
            all_goals with_reducible rfl
          try simp only [Act.put, List.getElem_toArray, List.getElem_cons_succ, List.getElem_cons_zero, List.setIfInBounds_toArray, List.set_cons_zero, List.set_cons_succ]
          refine wpAnyH_take (i := 11) (v := ?_) rfl (by kernel_rfl) (by kernel_rfl) (by kernel_rfl) (fun _ _ _ h => h) (Or.inl ⟨by rfl, ?_⟩) (by assumption) ?_
          rotate_left
          · intro w hSw
            (try dsimp only at hSw)
            go_simp
            all_goals with_reducible rfl
          try simp only [Act.put, List.getElem_toArray, List.getElem_cons_succ, List.getElem_cons_zero, List.setIfInBounds_toArray, List.set_cons_zero, List.set_cons_succ]
          refine wpAnyH_take (i := 14) (v := ?_) rfl (by kernel_rfl) (by kernel_rfl) (by kernel_rfl) (fun _ _ _ h => h) (Or.inl ⟨by rfl, ?_⟩) (by assumption) ?_
          rotate_left
          · intro w hSw
            (try dsimp only at hSw)
            go_simp
            all_goals with_reducible rfl
          try simp only [Act.put, List.getElem_toArray, List.getElem_cons_succ, List.getElem_cons_zero, List.setIfInBounds_toArray, List.set_cons_zero, List.set_cons_succ]
          refine wpAnyH_take (i := 15) (v := ?_) rfl (by kernel_rfl) (by kernel_rfl) (by kernel_rfl) (fun _ _ _ h => h) (Or.inl ⟨by rfl, ?_⟩) (by assumption) ?_
          rotate_left
          · intro w hSw
            (try dsimp only at hSw)
            go_simp
            all_goals with_reducible rfl
          try simp only [Act.put, List.getElem_toArray, List.getElem_cons_succ, List.getElem_cons_zero, List.setIfInBounds_toArray, List.set_cons_zero, List.set_cons_succ]
          refine wpAnyH_ready (rs := [12]) (by kernel_rfl) (by simp) ?_
          refine AllReadyH.cons rfl (fun K hK => ?_) AllReadyH.nil
          go_simp
          refine (hi1 _ h4).mono ?_; rintro e w5 ⟨A5, c5, rfl, h5, hs5⟩; have hs50 := hs5 w5 (Below.refl _ _); clear hs5
          go_wp2_with fail
          refine hK.out _ _ ?_ (fun hHeld => ?_)
          · (try dsimp only)
            first | exact HA2.out _ h5 | exact HA2.out _ h4 | exact HA2.out _ hd1
          clear hK K
          try simp only [Act.put, List.getElem_toArray, List.getElem_cons_succ, List.getElem_cons_zero, List.setIfInBounds_toArray, List.set_cons_zero, List.set_cons_succ]
          refine wpAnyH_ready (rs := [13]) (by kernel_rfl) (by simp) ?_
          refine AllReadyH.cons rfl (fun K hK => ?_) AllReadyH.nil
          go_simp
          refine hK.out _ _ ?_ (fun hHeld => ?_)
          · (try dsimp only)
            first | exact HA2.out _ h5 | exact HA2.out _ h4 | exact HA2.out _ hd1
          clear hK K
          try simp only [Act.put, List.getElem_toArray, List.getElem_cons_succ, List.getElem_cons_zero, List.setIfInBounds_toArray, List.set_cons_zero, List.set_cons_succ]
          refine wpAnyH_take (i := 16) (v := ?_) rfl (by kernel_rfl) (by kernel_rfl) (by kernel_rfl) (fun _ _ _ h => h) (Or.inl ⟨by rfl, ?_⟩) (by assumption) ?_
          rotate_left
          · intro w hSw
            (try dsimp only at hSw)
            go_simp
            all_goals with_reducible rfl
          try simp only [Act.put, List.getElem_toArray, List.getElem_cons_succ, List.getElem_cons_zero, List.setIfInBounds_toArray, List.set_cons_zero, List.set_cons_succ]
          refine wpAnyH_take (i := 17) (v := ?_) rfl (by kernel_rfl) (by kernel_rfl) (by kernel_rfl) (fun _ _ _ h => h) (Or.inl ⟨by rfl, ?_⟩) (by assumption) ?_
          rotate_left
          · intro w hSw
            (try dsimp only at hSw)
            go_simp
            all_goals with_reducible rfl
          try simp only [Act.put, List.getElem_toArray, List.getElem_cons_succ, List.getElem_cons_zero, List.setIfInBounds_toArray, List.set_cons_zero, List.set_cons_succ]
          refine wpAnyH_take (i := 18) (v := ?_) rfl (by kernel_rfl) (by kernel_rfl) (by kernel_rfl) (fun _ _ _ h => h) (Or.inl ⟨by rfl, ?_⟩) (by assumption) ?_
          rotate_left
          · intro w hSw
            (try dsimp only at hSw)
            go_simp
            all_goals with_reducible rfl
          try simp only [Act.put, List.getElem_toArray, List.getElem_cons_succ, List.getElem_cons_zero, List.setIfInBounds_toArray, List.set_cons_zero, List.set_cons_succ]
          refine wpAnyH_done (by kernel_rfl) ?_ _
          try simp only [Act.put, List.getElem_toArray, List.getElem_cons_succ, List.getElem_cons_zero, List.setIfInBounds_toArray, List.set_cons_zero, List.set_cons_succ]
          go_wp2_with fail
          go_ret
          exact ⟨by simp, h5.has.below⟩
theorem slotKeeps_c (A0 A1 A2 : Option Addr) (n0 c0 n1 c1 n2 c2 : Nat) (l0 l1 : List UInt8) (l2 : List Int) (w : World)
    (r0 : Reads w A0 n0 (l0.map u8v)) (r1 : Reads w A1 n1 (l1.map u8v)) (r2 : Reads w A2 n2 (l2.map i64v)) (z0 : n0 ≤ c0 ∧ c0 ≤ maxLen) (z1 : n1 ≤ c1 ∧ c1 ≤ maxLen) (z2 : n2 ≤ c2 ∧ c2 ≤ maxLen) :
    Calls Try.prog 3 #[.slice A0 n0 c0, .slice A1 n1 c1, .slice A2 n2 c2] w fun e w' => e = .returned (.bool true) ∧ Below w.heap.size w w' := by
  by_cases hg : n0 < 1 ∨ 1280 < n0 ∨ n1 < 1 ∨ 1280 < n1 ∨ 20 < n2
  · exact slotKeeps_off A0 A1 A2 n0 c0 n1 c1 n2 c2 w hg
  · by_cases h2 : n2 = 0
    · exact slotKeeps_nil A0 A1 A2 n0 c0 n1 c1 n2 c2 l0 l1 l2 w r0 r1 r2 z0 z1 z2 (by omega) (by omega) (by omega) (by omega) (Lib.hid h2)
    · obtain ⟨b2, o2, rfl, -⟩ := r2.2 (by omega)
      exact slotKeeps_some A0 A1 b2 o2 n0 c0 n1 c1 n2 c2 l0 l1 l2 w r0 r1 r2 z0 z1 z2 (by omega) (by omega) (by omega) (by omega) (by omega)
end Go.Proofs.Ytmpgomjdfegfpaa
