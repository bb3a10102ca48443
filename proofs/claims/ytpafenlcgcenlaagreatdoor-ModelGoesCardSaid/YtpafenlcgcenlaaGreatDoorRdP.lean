/- Small plain laws of an update's errors; the reference's Len. -/
import Derived.Test.YtpafenlcgcenlaaGreatDoorUpR
namespace Go.Proofs.YtpafenlcgcenlaaGreatDoor
open Go Go.RowKit
set_option linter.unusedVariables false
set_option linter.unusedSimpArgs false
theorem rlen12_c (z n : Int) (hz : -9223372036854775808 ≤ z ∧ z ≤ 9223372036854775807) (w : World) : Calls Tryz.prog 44 #[.int .i64 z, .int .i64 n] w fun e w' => e = .returned (.int .i64 (lenZ z n)) ∧ w = w' := by
  obtain ⟨K, hK⟩ : ∃ K, chunksZ z = K := ⟨_, rfl⟩
  have hch : ∀ w, Calls Tryz.prog 42 #[.int .i64 z] w fun e w' => e = .returned (.int .i64 K) ∧ w = w' := fun w => hK ▸ rchunks12_c z hz w
  have hK0 : 0 ≤ K ∧ K ≤ 9223372036854775807 := by unfold chunksZ at hK; split at hK <;> omega
  have hK1 : 1 ≤ z → z ≤ 320 * K ∧ 320 * (K - 1) < z := by intro h; unfold chunksZ at hK; split at hK <;> omega
  have hK2 : z < 1 → K = 0 := by intro h; unfold chunksZ at hK; split at hK <;> omega
  unfold lenZ
  rw [hK]
  clear hK
  by_cases h0 : n < 0
  · rw [if_pos (Or.inl h0)]
    clear hK0 hK1 hK2
    go_enter Tryz.func44, Tryz.ntmps44
    go_wp2_with fail
    go_ret
    exact ⟨rfl, rfl⟩
  · by_cases h1 : K ≤ n
    · rw [if_pos (Or.inr h1)]
      clear hK0 hK1 hK2
      go_enter Tryz.func44, Tryz.ntmps44
      go_wp2_with (go_at_call 42; refine (hch _).mono ?_; rintro e w' ⟨rfl, rfl⟩)
      go_ret
      exact ⟨rfl, rfl⟩
    · rw [if_neg (by omega)]
      have hz1 : 1 ≤ z := by
        by_cases h : z < 1
        · have := hK2 h; omega
        · omega
      have hk1 := hK1 hz1
      have e0 : IntKind.i64.wrap (K - 1) = K - 1 := IntWalk.i64_in _ (by omega)
      have e1 : IntKind.i64.wrap (n * 320) = n * 320 := IntWalk.i64_in _ (by omega)
      have e2 : IntKind.i64.wrap (z - n * 320) = z - n * 320 := IntWalk.i64_in _ (by omega)
      by_cases h2 : n < K - 1
      · have hm : min 320 (z - n * 320) = 320 := by omega
        rw [hm]
        clear hK0 hK1 hK2 hk1 e1 e2 hm
        go_enter Tryz.func44, Tryz.ntmps44
        go_wp2_with (go_at_call 42; refine (hch _).mono ?_; rintro e w' ⟨rfl, rfl⟩)
        go_ret
        exact ⟨rfl, rfl⟩
      · have hm : min 320 (z - n * 320) = z - n * 320 := by omega
        rw [hm]
        clear hK0 hK1 hK2 hk1 hm
        go_enter Tryz.func44, Tryz.ntmps44
        go_wp2_with (go_at_call 42; refine (hch _).mono ?_; rintro e w' ⟨rfl, rfl⟩)
        go_ret
        exact ⟨rfl, rfl⟩
theorem fin_one (m T : Mt) (l : List Int) : (if (oneD T l).e = 0 then oneD T l else (⟨m, (oneD T l).e, (oneD T l).n, (oneD T l).g⟩ : Ch)) = if firstE l = 0 then ⟨T, 0, 0, 0⟩ else ⟨m, firstE l, 0, 0⟩ := by
  unfold oneD
  by_cases h : firstE l = 0
  · rw [if_pos h, if_pos h]; rfl
  · rw [if_neg h, if_neg h]; rw [if_neg h]
theorem firstE_t {b : Bool} {e : Int} {l : List Int} (h : b = true) (he : e ≠ 0) : firstE (wh b e :: l) = e := by
  show (if wh b e = 0 then firstE l else wh b e) = e
  rw [show wh b e = e from by unfold wh; rw [if_pos h], if_neg he]
theorem firstE_f {b : Bool} {e : Int} {l : List Int} (h : b = false) : firstE (wh b e :: l) = firstE l := by
  show (if wh b e = 0 then firstE l else wh b e) = _
  rw [show wh b e = 0 from by unfold wh; rw [h]; rfl, if_pos rfl]
theorem firstE_z {e : Int} {l : List Int} (h : e = 0) : firstE (e :: l) = firstE l := by
  show (if e = 0 then firstE l else e) = _
  rw [if_pos h]
theorem firstE_nil : firstE [] = 0 := rfl
theorem none_zero {i : Img} (h : i.none = true) : i = Img.zero := (Img.same_iff _ _).1 h
theorem ph0_all {m : Mt} (P : RightP m) (h : m.ph = 0) : m.cm = Img.zero ∧ m.got = 0 ∧ m.tr = 0 := by
  have q := P.ph
  rw [phase0 h] at q
  simp only [Bool.and_eq_true, beq_iff_eq] at q
  exact ⟨none_zero q.1, q.2.1, q.2.2⟩
end Go.Proofs.YtpafenlcgcenlaaGreatDoor
