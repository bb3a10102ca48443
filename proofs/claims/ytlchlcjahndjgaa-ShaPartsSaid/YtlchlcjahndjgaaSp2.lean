/- The reference's Save of a stream. -/
import Derived.Test.YtlchlcjahndjgaaSv1
import Derived.Test.YtlchlcjahndjgaaRsA
import Derived.Deep.RegionHeld3
import Derived.Deep.RegionLaw
import Derived.Deep.DrawnRows
namespace Go.Proofs.Ytlchlcjahndjgaa
open Go Go.RowKit
set_option linter.unusedVariables false
set_option linter.unusedSimpArgs false
attribute [local go_sem ↓] Go.wp_at_zero Go.wp_at_succ
theorem strm_word {w : World} {sb : Nat} {t : TypeId} {s : St} {n : UInt64} {v : Value} (h : Blk w sb t (strm s n v)) (k : Nat) (hk : k < 8) : w.cell? ⟨sb, k, none⟩ = some (u32v (s.words.getD k 0)) := by
  have h9 : k = 0 ∨ k = 1 ∨ k = 2 ∨ k = 3 ∨ k = 4 ∨ k = 5 ∨ k = 6 ∨ k = 7 := by omega
  rcases h9 with rfl | rfl | rfl | rfl | rfl | rfl | rfl | rfl <;> (rw [h.cell]; rfl)
set_option maxRecDepth 100000 in
set_option maxHeartbeats 4000000 in
theorem rsave_c (w : World) (sb : Nat) (s : St) (n : UInt64) (rest : List UInt8) (h : RStreamAt w sb s n rest) (hr : rest.length ≤ 64) :
    Calls Try.prog 15 #[.pointer (some ⟨sb, 0, none⟩)] w (MadeBytes w (saved s n rest)) := by
  obtain ⟨i0, hi, hz0, hz1, hz2⟩ := info_parts info_u8
  have HI := Lib.hid hi
  have HZ0 := Lib.hid hz0
  have HZ1 := Lib.hid hz1
  have HZ2 := Lib.hid hz2
  obtain ⟨A, c2, hB0, hR, hap⟩ := h.obj
  have hB : Blk w sb 88 (strm s n (.slice A rest.length c2)) := hB0
  have hlt := hB.lt
  have HB := Lib.hid hB
  have HR := Lib.hid hR
  clear h hB hR hB0 hap hi hz0 hz1 hz2
  go_enter Try.func15, Try.ntmps15
  go_wp2_with fail
  go_loopw [3, 4] (fun v i wr => ∃ (k : Nat) (A : Option Addr) (cc : Nat), k ≤ 8 ∧ v = .slice A (4 * k) cc ∧ i = .int .i64 k ∧ wr.ownsRow w.heap.size 5 1 (.slice A (4 * k) cc) (4 * k) ((toldTo s k).map u8v) ∧ Below w.heap.size w wr) (fun _ i _ => 8 - (intOf i).toNat)
  case atStart => exact ⟨0, none, 0, by omega, rfl, rfl, World.ownsRow_nil _ _ _ _, Below.refl _ _⟩
  case round =>
    obtain ⟨k, A1, cc, hk, rfl, rfl, hown, hb⟩ := hrel
    have hbs := hb.size
    have hB1 := HB.out.below hb hlt
    by_cases hlt8 : k < 8
    · have hsu := toldTo_succ s k hlt8
      have hck := strm_word hB1 k hlt8
      obtain ⟨x, hx⟩ : ∃ x, s.words.getD k 0 = x := ⟨_, rfl⟩
      rw [hx] at hck hsu
      have HSU := Lib.hid hsu
      have HO := Lib.hid hown
      have HL := Lib.hid hb
      clear hsu hx hown hb hB1
      go_wp2_with fail
      refine (rbytes_c x wr).mono ?_
      rintro e wy ⟨rfl, hBy, hby⟩
      have HBY := Lib.hid hBy
      have HY := Lib.hid hby
      have hys := hby.size
      clear hBy hby
      go_wp2_with (at_builtin; refine wpList_append_any _ rfl (.tmp 9) (.tmp 16) _ rfl w.heap.size 5 i0 (.int .u8 0) 1 Try.underlying29 HI.out HZ0.out HZ1.out HZ2.out rfl _ (4 * k) ((toldTo s k).map u8v) rfl (own_only HO.out (Only.of_below (S := []) HY.out) (by simp)) (some ⟨wr.heap.size, 0, none⟩) 4 4 ((bytes4 x).map u8v) rfl (HBY.out.bytes (n := 4) rfl) (u8v_one _) (by unfold maxLen; omega) (by omega) (by omega) ?_; intro A2' c2' w2' hown2 hgrow2 hat2; have HO2 := Lib.hid hown2; have HG2 := Lib.hid hgrow2; clear hown2 hgrow2 hat2)
      go_roundw
      case rel =>
        have hl1 := (HO.out).lt
        refine ⟨k + 1, A2', c2', by omega, by rw [show 4 * (k + 1) = 4 * k + 4 by omega], by go_num, ?_, (HL.out.trans (HY.out.mono hbs)).grown HG2.out (Nat.le_trans hbs HY.out.size) (fun g hg => (hl1 g hg).1)⟩
        have h := HO2.out
        rw [← List.map_append, ← HSU.out] at h
        exact h
      case measure => simp [intOf]; omega
    · obtain rfl : k = 8 := by omega
      have hR1 := HR.out.below hb
      have HO := Lib.hid (show wr.ownsRow w.heap.size 5 1 (.slice A1 32 cc) 32 ((told s).map u8v) from hown)
      have HL := Lib.hid hb
      have HR1 := Lib.hid hR1
      have HB1 := Lib.hid hB1
      have hltr := hB1.lt
      have hlen8 : (long8 n).length = 8 := rfl
      have HS := Lib.hid (show ∀ W, Below w.heap.size w W → W.cell? ⟨sb, 8, none⟩ = some (u64v n) ∧ W.cell? ⟨sb, 9, none⟩ = some (.slice A rest.length c2) from fun W hW => ⟨strm_c8 (HB.out.below hW hlt), strm_c9 (HB.out.below hW hlt)⟩)
      have hs0 := HS.out wr.drew hb.drew
      clear hown hb hB1 hR1
      go_upto_region 6 with fail
      refine wp_region_held_drew (S := (fun W => W.cell? ⟨sb, 8, none⟩ = some (u64v n) ∧ W.cell? ⟨sb, 9, none⟩ = some (.slice A rest.length c2))) (by kernel_rfl) ?_ (fun hHeld => ?_)
      · exact hs0
      refine wpAnyH_take (i := 0) (v := ?_) rfl (by kernel_rfl) (by kernel_rfl) (by kernel_rfl) (fun _ _ _ h => h) (Or.inl ⟨by rfl, ?_⟩) (by assumption) ?_
      rotate_left
      · intro w hSw
        (try dsimp only at hSw)
        go_simp
        all_goals with_reducible rfl
      try simp only [Act.put, List.getElem_toArray, List.getElem_cons_succ, List.getElem_cons_zero, List.setIfInBounds_toArray, List.set_cons_zero, List.set_cons_succ]
      refine wpAnyH_take (i := 1) (v := ?_) rfl (by kernel_rfl) (by kernel_rfl) (by kernel_rfl) (fun _ _ _ h => h) (Or.inl ⟨by rfl, ?_⟩) (by assumption) ?_
      rotate_left
      · intro w hSw
        (try dsimp only at hSw)
        go_simp
        all_goals with_reducible rfl
      try simp only [Act.put, List.getElem_toArray, List.getElem_cons_succ, List.getElem_cons_zero, List.setIfInBounds_toArray, List.set_cons_zero, List.set_cons_succ]
      refine wpAnyH_take (i := 2) (v := ?_) rfl (by kernel_rfl) (by kernel_rfl) (by kernel_rfl) (fun _ _ _ h => h) (Or.inl ⟨by rfl, ?_⟩) (by assumption) ?_
      rotate_left
      · intro w hSw
        (try dsimp only at hSw)
        go_simp
        all_goals with_reducible rfl
      try simp only [Act.put, List.getElem_toArray, List.getElem_cons_succ, List.getElem_cons_zero, List.setIfInBounds_toArray, List.set_cons_zero, List.set_cons_succ]
      refine wpAnyH_take (i := 3) (v := ?_) rfl (by kernel_rfl) (by kernel_rfl) (by kernel_rfl) (fun _ _ _ h => h) (Or.inl ⟨by rfl, ?_⟩) (by assumption) ?_
      rotate_left
      · intro w hSw
        (try dsimp only at hSw)
        go_simp
        all_goals with_reducible rfl
      try simp only [Act.put, List.getElem_toArray, List.getElem_cons_succ, List.getElem_cons_zero, List.setIfInBounds_toArray, List.set_cons_zero, List.set_cons_succ]
      refine wpAnyH_take (i := 4) (v := ?_) rfl (by kernel_rfl) (by kernel_rfl) (by kernel_rfl) (fun _ _ _ h => h) (Or.inl ⟨by rfl, ?_⟩) (by assumption) ?_
      rotate_left
      · intro w hSw
        (try dsimp only at hSw)
        go_simp
        all_goals with_reducible rfl
      try simp only [Act.put, List.getElem_toArray, List.getElem_cons_succ, List.getElem_cons_zero, List.setIfInBounds_toArray, List.set_cons_zero, List.set_cons_succ]
      refine wpAnyH_take (i := 7) (v := ?_) rfl (by kernel_rfl) (by kernel_rfl) (by kernel_rfl) (fun _ _ _ h => h) (Or.inl ⟨by rfl, ?_⟩) (by assumption) ?_
      rotate_left
      · intro w hSw
        (try dsimp only at hSw)
        go_simp
        all_goals with_reducible rfl
      try simp only [Act.put, List.getElem_toArray, List.getElem_cons_succ, List.getElem_cons_zero, List.setIfInBounds_toArray, List.set_cons_zero, List.set_cons_succ]
      refine wpAnyH_take (i := 8) (v := ?_) rfl (by kernel_rfl) (by kernel_rfl) (by kernel_rfl) (fun _ _ _ h => h) (Or.inl ⟨by rfl, ?_⟩) (by assumption) ?_
      rotate_left
      · intro w hSw
        (try dsimp only at hSw)
        go_simp
        all_goals with_reducible rfl
      try simp only [Act.put, List.getElem_toArray, List.getElem_cons_succ, List.getElem_cons_zero, List.setIfInBounds_toArray, List.set_cons_zero, List.set_cons_succ]
      refine wpAnyH_take (i := 9) (v := ?_) rfl (by kernel_rfl) (by kernel_rfl) (by kernel_rfl) (fun _ _ _ h => h) (Or.inl ⟨by rfl, ?_⟩) (by assumption) ?_
      rotate_left
      · intro w hSw
        (try dsimp only at hSw)
        go_simp
        all_goals with_reducible rfl
      try simp only [Act.put, List.getElem_toArray, List.getElem_cons_succ, List.getElem_cons_zero, List.setIfInBounds_toArray, List.set_cons_zero, List.set_cons_succ]
      refine wpAnyH_take (i := 10) (v := ?_) rfl (by kernel_rfl) (by kernel_rfl) (by kernel_rfl) (fun _ _ _ h => h) (Or.inl ⟨by rfl, ?_⟩) (by assumption) ?_
      rotate_left
      · intro w hSw
        (try dsimp only at hSw)
        go_simp
        all_goals with_reducible rfl
      try simp only [Act.put, List.getElem_toArray, List.getElem_cons_succ, List.getElem_cons_zero, List.setIfInBounds_toArray, List.set_cons_zero, List.set_cons_succ]
      refine wpAnyH_ready (rs := [5]) (by kernel_rfl) (by simp) ?_
      refine AllReadyH.cons rfl (fun K hK => ?_) AllReadyH.nil
      go_simp
      refine (reight_c n _).mono ?_; rintro e w5 ⟨A5, c5, rfl, ho5, hb5⟩; have HE5 := Lib.hid (Reads.of_own ho5); have HB5 := Lib.hid (show Below wr.heap.size wr w5 from below_undrew hb5); have HS5 := Lib.hid (HS.out w5 (HL.out.trans (HB5.out.mono hbs))); have HO5 := Lib.hid (own_only HO.out (Only.of_below (S := []) HB5.out) (by simp)); clear ho5 hb5
      go_wp2_with fail
      refine hK.out _ _ ?_ (fun hHeld => ?_)
      · (try dsimp only)
        first | exact HS7.out | exact HS6.out | exact HS5.out
      clear hK K
      try simp only [Act.put, List.getElem_toArray, List.getElem_cons_succ, List.getElem_cons_zero, List.setIfInBounds_toArray, List.set_cons_zero, List.set_cons_succ]
      refine wpAnyH_ready (rs := [6]) (by kernel_rfl) (by simp) ?_
      refine AllReadyH.cons rfl (fun K hK => ?_) AllReadyH.nil
      refine step_append_any _ (by rfl) (.tmp 18) (.tmp 23) 29 (by rfl) w.heap.size 5 i0 (.int .u8 0) 1 Try.underlying29 HI.out HZ0.out HZ1.out HZ2.out (by rfl) _ 32 ((told s).map u8v) (by rfl) HO5.out A5 8 c5 ((long8 n).map u8v) (by rfl) (by have h := HE5.out; exact h) (u8v_one _) (by unfold maxLen; omega) (by omega) (by have := HB5.out.size; omega) ?_
      intro A6 c6 w6 ho6 hg6 _
      have hl6 := (HO5.out).lt
      have HB6 := Lib.hid ((HL.out.trans (HB5.out.mono hbs)).grown hg6 (by have := HB5.out.size; omega) (fun g hg => (hl6 g hg).1))
      have HO6 := Lib.hid ho6
      have HS6 := Lib.hid (HS.out w6 HB6.out)
      clear ho6 hg6
      refine hK.out _ _ ?_ (fun hHeld => ?_)
      · (try dsimp only)
        first | exact HS7.out | exact HS6.out | exact HS5.out
      clear hK K
      try simp only [Act.put, List.getElem_toArray, List.getElem_cons_succ, List.getElem_cons_zero, List.setIfInBounds_toArray, List.set_cons_zero, List.set_cons_succ]
      refine wpAnyH_ready (rs := [11]) (by kernel_rfl) (by simp) ?_
      refine AllReadyH.cons rfl (fun K hK => ?_) AllReadyH.nil
      refine step_append_any _ (by rfl) (.tmp 24) (.tmp 28) 29 (by rfl) w.heap.size 5 i0 (.int .u8 0) 1 Try.underlying29 HI.out HZ0.out HZ1.out HZ2.out (by rfl) _ 40 ((told s ++ long8 n).map u8v) (by rfl) HO6.out A rest.length c2 (rest.map u8v) (by rfl) (HR.out.below HB6.out) (u8v_one _) (by unfold maxLen; omega) (by omega) (HB6.out.size) ?_
      intro A7 c7 w7 ho7 hg7 _
      have hl7 := (HO6.out).lt
      have HB7 := Lib.hid (HB6.out.grown hg7 (HB6.out.size) (fun g hg => (hl7 g hg).1))
      have HO7 := Lib.hid ho7
      have HS7 := Lib.hid (HS.out w7 HB7.out)
      clear ho7 hg7
      refine hK.out _ _ ?_ (fun hHeld => ?_)
      · (try dsimp only)
        first | exact HS7.out | exact HS6.out | exact HS5.out
      clear hK K
      try simp only [Act.put, List.getElem_toArray, List.getElem_cons_succ, List.getElem_cons_zero, List.setIfInBounds_toArray, List.set_cons_zero, List.set_cons_succ]
      refine wpAnyH_take (i := 12) (v := ?_) rfl (by kernel_rfl) (by kernel_rfl) (by kernel_rfl) (fun _ _ _ h => h) (Or.inl ⟨by rfl, ?_⟩) (by assumption) ?_
      rotate_left
      · intro w hSw
        (try dsimp only at hSw)
        go_simp
        all_goals with_reducible rfl
      try simp only [Act.put, List.getElem_toArray, List.getElem_cons_succ, List.getElem_cons_zero, List.setIfInBounds_toArray, List.set_cons_zero, List.set_cons_succ]
      refine wpAnyH_done (by kernel_rfl) ?_ _
      try simp only [Act.put, List.getElem_toArray, List.getElem_cons_succ, List.getElem_cons_zero, List.setIfInBounds_toArray, List.set_cons_zero, List.set_cons_succ]
      go_wp2_with fail
      go_ret
      have e := saved_len s n rest
      have h := HO7.out
      rw [← List.map_append] at h
      refine ⟨A7, c7, by rw [e]; rfl, ?_, HB7.out⟩
      rw [e]
      exact h
end Go.Proofs.Ytlchlcjahndjgaa
