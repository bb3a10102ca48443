/- waterlinelaw19.SlotWears: how often a chunk can be written till its sector is worn out, and that it stays then. -/
import Derived.Test.YtmpgomjdfegfpaaL19a
import Derived.Deep.RegionHeld3
namespace Go.Proofs.Ytmpgomjdfegfpaa
open Go.RowKit
set_option linter.unusedVariables false
set_option linter.unusedSimpArgs false
/-- The flash ahead of write i of a budget b. -/
structure WsAt (F : Fl) (b i : Nat) : Prop where
  calm : F.Calm
  ok : F.Ok
  len : F.wear.length = 6
  zero : i = 0 → F.blank 5 = true ∧ F.wear.getD 5 0 = 0
  more : i ≠ 0 → F.b.getD 1600 0 = UInt8.ofNat (min (i - 1) b) ∧ F.wear.getD 5 0 = ((min (i - 1) b : Nat) : Int)
theorem ws_start (b : Nat) : WsAt (Fl.new ((6 : Nat) : Int)) b 0 :=
  ⟨Fl.Calm.new _, Fl.new_ok _, new_wlen 6 (by omega), fun _ => ⟨new_calm 6 (by omega) 5 (by omega), Fl.new_wearD 6 (by omega) 5⟩, fun h => absurd rfl h⟩
theorem ws_rok (b : Nat) : (⟨0, 6, b⟩ : Ar).Ok 6 ↔ (b : Int) ≤ 1000 := by
  constructor
  · intro h; exact h.b1
  · intro h; exact ⟨by simp, by simp, h⟩
theorem ws_new (b : Nat) (hb : b ≤ 10) : Ar.new 6 0 6 b = ⟨0, 6, b⟩ := by
  unfold Ar.new
  rw [if_pos (by omega)]
  congr 1
  omega
theorem byte_ne (n : Nat) (h : n ≤ 10) : UInt8.ofNat n ≠ 255 := by
  intro e
  have := congrArg UInt8.toNat e
  rw [UInt8.toNat_ofNat'] at this
  have h2 : (255 : UInt8).toNat = 255 := rfl
  omega
theorem ws_full {F : Fl} {b i : Nat} (h : WsAt F b i) (hi : i ≠ 0) (hb : b ≤ 10) : F.blank 5 = false := by
  rw [Bool.eq_false_iff]
  intro hbl
  have h1 := Fl.blank_getD h.ok.len 5 hbl 0 (by omega)
  rw [show 5 * 320 + 0 = 1600 from rfl, (h.more hi).1] at h1
  exact byte_ne _ (by omega) h1
theorem ws_step {F : Fl} {b i : Nat} (h : WsAt F b i) (hb : b ≤ 10) :
    (i ≤ b → (⟨0, 6, b⟩ : Ar).mayC F 5 = true ∧ (⟨0, 6, b⟩ : Ar).chunkE F 5 [UInt8.ofNat i] = 0 ∧ WsAt ((⟨0, 6, b⟩ : Ar).chunk F 5 [UInt8.ofNat i]) b (i + 1)) ∧
    (b < i → (⟨0, 6, b⟩ : Ar).mayC F 5 = false ∧ (⟨0, 6, b⟩ : Ar).chunkE F 5 [UInt8.ofNat i] = 5 ∧ WsAt ((⟨0, 6, b⟩ : Ar).chunk F 5 [UInt8.ofNat i]) b (i + 1)) := by
  have hR : (⟨0, 6, b⟩ : Ar).Ok F.wear.length := by rw [h.len]; exact (ws_rok b).2 (by omega)
  constructor
  · intro hib
    by_cases hi : i = 0
    · subst hi
      obtain ⟨p1, p2, p3, p4⟩ := Ar.chunk_blank hR h.calm h.ok 5 (by show 5 < 6; omega) [UInt8.ofNat 0] (by simp) (by simp) (h.zero rfl).1
      refine ⟨p1, p2, p4.calm, p4.ok, p4.len.trans h.len, fun hh => absurd hh (by omega), fun _ => ⟨?_, ?_⟩⟩
      · have := p4.here 0 (by simp)
        simpa using this
      · have h2 := (h.zero rfl).2
        have e : ((⟨0, 6, b⟩ : Ar).chunk F ((5 : Nat) : Int) [UInt8.ofNat 0]).wear = F.wear := by rw [p3]; rfl
        show ((⟨0, 6, b⟩ : Ar).chunk F ((5 : Nat) : Int) [UInt8.ofNat 0]).wear.getD 5 0 = _
        rw [e, h2]
        simp
    · have hm := h.more hi
      obtain ⟨p1, p2, p3, p4⟩ := Ar.chunk_full hR h.calm h.ok 5 (by show 5 < 6; omega) [UInt8.ofNat i] (by simp) (by simp) (ws_full h hi hb)
        (by show F.wear.getD (0 + 5) 0 < (b : Int); rw [show 0 + 5 = 5 from rfl, hm.2]; omega) (by show F.wear.getD (0 + 5) 0 ≤ _; rw [show 0 + 5 = 5 from rfl, hm.2]; omega)
      refine ⟨p1, p2, p4.calm, p4.ok, p4.len.trans h.len, fun hh => absurd hh (by omega), fun _ => ⟨?_, ?_⟩⟩
      · have := p4.here 0 (by simp)
        rw [show min (i + 1 - 1) b = i by omega]
        simpa using this
      · have e : ((⟨0, 6, b⟩ : Ar).chunk F ((5 : Nat) : Int) [UInt8.ofNat i]).wear = F.wear.set 5 (F.wear.getD 5 0 + 1) := by rw [p3]; rfl
        show ((⟨0, 6, b⟩ : Ar).chunk F ((5 : Nat) : Int) [UInt8.ofNat i]).wear.getD 5 0 = _
        rw [e, List.getD_eq_getElem?_getD, List.getElem?_set, if_pos rfl, if_pos (by rw [h.len]; omega), Option.getD_some, hm.2]
        omega
  · intro hib
    have hi : i ≠ 0 := by omega
    have hm := h.more hi
    obtain ⟨p1, p2, p3⟩ := Ar.chunk_worn hR 5 (by show 5 < 6; omega) [UInt8.ofNat i] (by simp) (ws_full h hi hb) (by show (b : Int) ≤ F.wear.getD (0 + 5) 0; rw [show 0 + 5 = 5 from rfl, hm.2]; omega)
    refine ⟨p1, p2, ?_⟩
    have e : (⟨0, 6, b⟩ : Ar).chunk F 5 [UInt8.ofNat i] = F := p3
    rw [e]
    refine ⟨h.calm, h.ok, h.len, fun hh => absurd hh (by omega), fun _ => ?_⟩
    rw [show min (i + 1 - 1) b = min (i - 1) b by omega]
    exact hm
set_option maxRecDepth 100000 in
theorem ws_image {F : Fl} {b i : Nat} (h : WsAt F b i) (hb : b ≤ 10) (hi : b < i - 1) : (⟨0, 6, b⟩ : Ar).image F 1 1 1 = [UInt8.ofNat b] := by
  have hR : (⟨0, 6, b⟩ : Ar).Ok F.wear.length := by rw [h.len]; exact (ws_rok b).2 (by omega)
  have hm := h.more (by omega)
  refine Ar.image_is hR h.ok 1 1 (by omega) (by omega) (by omega) [UInt8.ofNat b] (by simp) (by simp) (by simp) (fun j hj => ?_)
  have hj0 : j = 0 := by simpa using hj
  subst hj0
  show F.b.getD 1600 0 = _
  rw [hm.1, show min (i - 1) b = b by omega]
  rfl
theorem ws_from : fromS 1 0 1 = 5 := rfl
theorem byte_wrap (n : Nat) (h : n ≤ 200) : IntKind.u8.wrap (n : Int) = ((UInt8.ofNat n).toNat : Int) := by
  rw [UInt8.toNat_ofNat']
  simp [IntKind.wrap, IntKind.bits, IntKind.signed]
set_option maxRecDepth 100000 in
set_option maxHeartbeats 1000000 in
theorem slotWears_off (b m : Int) (w : World) (hg : b < 0 ∨ 10 < b ∨ m < 1 ∨ 5 < m) :
    Calls Try.prog 4 #[.int .i64 b, .int .i64 m] w fun e w' => e = .returned (.bool true) ∧ Below w.heap.size w w' := by
  by_cases g0 : b < 0
  · clear hg
    go_enter Try.func4, Try.ntmps4
    go_wp2_with (go_at_call 11; refine (alive19_c _).mono ?_; rintro e w1 ⟨rfl, hb⟩)
    go_ret
    exact ⟨rfl, hb⟩
  · by_cases g1 : 10 < b
    · clear hg
      go_enter Try.func4, Try.ntmps4
      go_wp2_with (go_at_call 11; refine (alive19_c _).mono ?_; rintro e w1 ⟨rfl, hb⟩)
      go_ret
      exact ⟨rfl, hb⟩
    · by_cases g2 : m < 1
      · clear hg
        go_enter Try.func4, Try.ntmps4
        go_wp2_with (go_at_call 11; refine (alive19_c _).mono ?_; rintro e w1 ⟨rfl, hb⟩)
        go_ret
        exact ⟨rfl, hb⟩
      · have g3 : 5 < m := by omega
        clear hg
        go_enter Try.func4, Try.ntmps4
        go_wp2_with (go_at_call 11; refine (alive19_c _).mono ?_; rintro e w1 ⟨rfl, hb⟩)
        go_ret
        exact ⟨rfl, hb⟩
set_option maxRecDepth 100000 in
set_option maxHeartbeats 2000000 in
theorem slotWears_in (b m : Nat) (hb : b ≤ 10) (hm : 1 ≤ m) (hm2 : m ≤ 5) (w : World) : Calls Try.prog 4 #[.int .i64 (b : Int), .int .i64 (m : Int)] w fun e w' => e = .returned (.bool true) ∧ Below w.heap.size w w' := by
  obtain ⟨F0, hF0⟩ : ∃ F0, Fl.new ((6 : Nat) : Int) = F0 := ⟨_, rfl⟩
  have hlen0 : F0.wear.length = 6 := by rw [← hF0]; exact new_wlen 6 (by omega)
  have hst : WsAt F0 b 0 := hF0 ▸ ws_start b
  obtain ⟨R, hR⟩ : ∃ R, Ar.new 6 0 6 b = R := ⟨_, rfl⟩
  have hR2 : R = ⟨0, 6, b⟩ := hR ▸ ws_new b hb
  have G0 := Lib.hid hF0
  have G1 := Lib.hid hlen0
  have G2 := Lib.hid hR
  have G3 := Lib.hid hR2
  have G4 := Lib.hid hst
  have hmay : ∀ (W : World) (fb bb wb ab : Nat) (F : Fl) (B : Bool), R.mayC F 5 = B → FlashAt W fb bb wb F → AreaAt W ab fb R F.wear.length → Calls Try.prog 19 #[ptr ab, .int .i64 1, .int .i64 0, .int .i64 1] W fun e w' => e = .returned (.bool B) ∧ ∃ n, w' = W.drewN n :=
    fun W fb bb wb ab F B hB h1 h2 => hB ▸ (may_c W 1 0 1 h1 h2)
  have e1 : IntKind.i64.wrap ((b : Int) + 1) = (b : Int) + 1 := IntWalk.i64_in _ (by omega)
  have e2 : IntKind.i64.wrap ((b : Int) + 1 + (m : Int)) = (b : Int) + 1 + m := IntWalk.i64_in _ (by omega)
  clear hF0 hlen0 hR hR2 hst
  go_enter Try.func4, Try.ntmps4
  go_wp2_with (first
    | (go_at_call 11; refine (alive19_c _).mono ?_; rintro e w1 ⟨rfl, hb1⟩)
    | (go_at_call 13; refine (new_hf 6 (by omega) F0 G0.out hb1).mono ?_; rintro e w2 ⟨fb, bb, wb, rfl, h2⟩)
    | (go_at_call 12; refine (anew_h 0 0 6 b 6 G1.out R G2.out h2).mono ?_; rintro e w3 ⟨ab, rfl, h3, -, -⟩))
  have H3 := Lib.hid h3
  clear h2 h3 hb1
  go_loopw [7] (fun v wr => ∃ (i : Nat) (F : Fl), i ≤ b + 1 + m ∧ v = .int .i64 (i : Int) ∧ WsAt F b i ∧ HasA w wr ab fb bb wb R F) (fun v _ => b + 1 + m - (intOf v).toNat)
  case atStart => exact ⟨0, F0, by omega, rfl, G4.out, H3.out⟩
  case round =>
    clear H3 G0 G1 G2 G4
    obtain ⟨i, F, hi, rfl, hws, hh⟩ := hrel
    have HS := Lib.hid hws
    have HH := Lib.hid hh
    clear hws hh
    by_cases hlt : i < b + 1 + m
    · have hbw := byte_wrap i (by omega)
      by_cases hib : i ≤ b
      · have hstep := (ws_step HS.out hb).1 hib
        rw [← G3.out] at hstep
        have S1 := Lib.hid hstep.1
        have S2 := Lib.hid hstep.2.1
        have S3 := Lib.hid hstep.2.2
        clear hstep
        go_wp2_with (first
          | (go_at_call 19; refine (hmay _ _ _ _ _ _ true S1.out HH.out.has.flash HH.out.area).mono ?_; rintro e w4 ⟨rfl, n4, rfl⟩)
          | (go_at_call 16; refine (swrite_h 1 0 1 _ 1 1 [UInt8.ofNat i] rfl 0 _ 5 ws_from S2.out rfl ((Blk.new _ 5 _).reads 0 (by simp)) (HH.out.drewN _).has.apart ((HH.out.drewN _).alloc _)).mono ?_; rintro e w5 ⟨rfl, h5, -⟩)
          | (go_at_call 15; refine (num19_c _ _).mono ?_; rintro e w' ⟨rfl, rfl⟩))
        go_roundw
        case rel => exact ⟨i + 1, _, by omega, by go_num, S3.out, h5⟩
        case measure => simp [intOf]; omega
      · have hstep := (ws_step HS.out hb).2 (by omega)
        rw [← G3.out] at hstep
        have S1 := Lib.hid hstep.1
        have S2 := Lib.hid hstep.2.1
        have S3 := Lib.hid hstep.2.2
        clear hstep
        go_wp2_with (first
          | (go_at_call 19; refine (hmay _ _ _ _ _ _ false S1.out HH.out.has.flash HH.out.area).mono ?_; rintro e w4 ⟨rfl, n4, rfl⟩)
          | (go_at_call 16; refine (swrite_h 1 0 1 _ 1 1 [UInt8.ofNat i] rfl 5 _ 5 ws_from S2.out rfl ((Blk.new _ 5 _).reads 0 (by simp)) (HH.out.drewN _).has.apart ((HH.out.drewN _).alloc _)).mono ?_; rintro e w5 ⟨rfl, h5, -⟩)
          | (go_at_call 15; refine (num19_c _ _).mono ?_; rintro e w' ⟨rfl, rfl⟩))
        go_roundw
        case rel => exact ⟨i + 1, _, by omega, by go_num, S3.out, h5⟩
        case measure => simp [intOf]; omega
    · obtain rfl : i = b + 1 + m := by omega
      have himg := ws_image HS.out hb (by omega)
      rw [← G3.out] at himg
      have HI := Lib.hid himg
      have hbw := byte_wrap b (by omega)
      clear himg
      go_wp2_with fail
      have hst4 : ∀ W : World, HasA w W ab fb bb wb R F → Calls Try.prog 18 #[ptr ab, .int .i64 1, .int .i64 1, .int .i64 1] W fun e w' => ∃ A c, e = .returned (.slice A 1 c) ∧ w'.ownsRow W.heap.size 5 1 (.slice A 1 c) 1 ([UInt8.ofNat b].map u8v) ∧ HasA w w' ab fb bb wb R F ∧ Below W.heap.size W w' := fun W h => image_h 1 1 1 (by omega) [UInt8.ofNat b] HI.out h
      have hd1 : HasA w wr.drew ab fb bb wb R F := HH.out.drewN 1
      obtain ⟨D, hD⟩ : ∃ D : ByteArray, (⟨[UInt8.ofNat b].toArray⟩ : ByteArray) = D := ⟨_, rfl⟩
      have hsa : ∀ (W : World) (A : Option Addr) (c : Nat), Reads W A 1 ([UInt8.ofNat b].map u8v) → (convert 22 9 (.slice A 1 c)).run Try.prog W = .ok (.string D) W := fun W A c h => hD ▸ strAny W A 1 c _ h
      have HSA := Lib.hid hsa
      clear hD hsa
      have kb1 : ∀ W : World, (convert 22 9 (.slice (some ⟨W.heap.size, 0, none⟩) 1 1)).run Try.prog (W.alloc (.cells #[.int .u8 (IntKind.u8.wrap (b : Int))] 5)) = .ok (.string D) (W.alloc (.cells #[.int .u8 (IntKind.u8.wrap (b : Int))] 5)) := fun W => by
        rw [hbw]
        exact HSA.out _ _ 1 ((Blk.new W 5 #[u8v (UInt8.ofNat b)]).reads 0 (by simp))
      have kb2 : Reads (wr.drew.alloc (.cells #[.int .u8 (IntKind.u8.wrap (b : Int))] 5)) (some ⟨wr.heap.size, 0, none⟩) 1 ([UInt8.ofNat b].map u8v) := by
        rw [hbw]
        exact (Blk.new wr.drew 5 #[u8v (UInt8.ofNat b)]).reads 0 (by simp)
      have KB2 := Lib.hid kb2
      have kb3 : (convert 22 9 (.slice (some ⟨wr.heap.size, 0, none⟩) 1 1)).run Try.prog (wr.alloc (.cells #[.int .u8 (IntKind.u8.wrap (b : Int))] 5)).drew = .ok (.string D) (wr.alloc (.cells #[.int .u8 (IntKind.u8.wrap (b : Int))] 5)).drew := HSA.out _ _ 1 (by
        rw [hbw]
        exact ((Blk.new wr 5 #[u8v (UInt8.ofNat b)]).reads 0 (by simp)).drew)
      clear hbw kb2
      go_region_with ((go_at_call 18; refine (hst4 _ (by first | exact hd1 | exact hd1.alloc _)).mono ?_; rintro e w4 ⟨A4, c4, rfl, hown4, h4, hb4⟩; have hs4 := HSA.out w4 A4 c4 (Reads.of_own hown4); have hs5 := fun t cs fr => HSA.out (w4.alloc (.cells cs t fr)) A4 c4 ((Reads.of_own hown4).alloc _); try have hs6 := HSA.out w4 (some ⟨wr.heap.size, 0, none⟩) 1 (KB2.out.below hb4)))
      all_goals
        simp only [Act.put, List.getElem_toArray, List.getElem_cons_succ, List.getElem_cons_zero, List.setIfInBounds_toArray, List.set_cons_succ, List.set_cons_zero]
        go_wp2
        go_ret
      all_goals first
        | exact ⟨by simp, h4.has.below⟩
        | exact ⟨by simp, (h4.alloc _).has.below⟩
        | exact ⟨by simp, (h4.drewN 1).has.below⟩
        | exact ⟨by simp, ((h4.alloc _).drewN 1).has.below⟩
        | exact ⟨by simp, ((h4.drewN 1).alloc _).has.below⟩
theorem slotWears_c (b m : Int) (w : World) : Calls Try.prog 4 #[.int .i64 b, .int .i64 m] w fun e w' => e = .returned (.bool true) ∧ Below w.heap.size w w' := by
  by_cases hg : b < 0 ∨ 10 < b ∨ m < 1 ∨ 5 < m
  · exact slotWears_off b m w hg
  · have h := slotWears_in b.toNat m.toNat (by omega) (by omega) (by omega) w
    rw [Int.toNat_of_nonneg (by omega), Int.toNat_of_nonneg (by omega)] at h
    exact h
end Go.Proofs.Ytmpgomjdfegfpaa
