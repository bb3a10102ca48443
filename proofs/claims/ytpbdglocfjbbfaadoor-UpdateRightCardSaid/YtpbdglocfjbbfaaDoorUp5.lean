/- update.Len, version.May, version.Confirm. -/
import Derived.Test.YtpbdglocfjbbfaaDoorUp4
import Derived.Test.YtpbdglocfjbbfaaDoorMu
namespace Go.Proofs.YtpbdglocfjbbfaaDoor
open Go Go.RowKit
set_option linter.unusedVariables false
set_option linter.unusedSimpArgs false
attribute [local go_sem ↓] sldI_seal sldM_seal sstM_seal sstI_seal
theorem int_ret5 {a b : Int} (h : a = b) : Ending.returned (Value.int .i64 a) = Ending.returned (Value.int .i64 b) := by rw [h]
theorem ulen_c (z n : Int) (hz : -9223372036854775808 ≤ z ∧ z ≤ 9223372036854775807) (w : World) : Calls Tryd.prog 14 #[.int .i64 z, .int .i64 n] w fun e w' => e = .returned (.int .i64 (lenZ z n)) ∧ w = w' := by
  obtain ⟨K, hK⟩ : ∃ K, chunksZ z = K := ⟨_, rfl⟩
  have hch : ∀ w, Calls Tryd.prog 12 #[.int .i64 z] w fun e w' => e = .returned (.int .i64 K) ∧ w = w' := fun w => hK ▸ uchunks_c z hz w
  unfold lenZ
  rw [hK]
  by_cases h0 : n < 0
  · rw [if_pos (Or.inl h0)]
    go_enter Tryd.func14, Tryd.ntmps14
    go_wp2_with fail
    go_ret
    exact ⟨rfl, rfl⟩
  · by_cases h1 : K ≤ n
    · rw [if_pos (Or.inr h1)]
      go_enter Tryd.func14, Tryd.ntmps14
      go_wp2_with (go_at_call 12; refine (hch _).mono ?_; rintro e w' ⟨rfl, rfl⟩)
      go_ret
      exact ⟨rfl, rfl⟩
    · rw [if_neg (by omega)]
      have hq : n * 320 < z := by
        unfold chunksZ at hK
        split at hK <;> omega
      have e1 : IntKind.i64.wrap (n * 320) = n * 320 := IntWalk.i64_in _ (by omega)
      have e2 : IntKind.i64.wrap (z - n * 320) = z - n * 320 := IntWalk.i64_in _ (by omega)
      clear hK
      go_enter Tryd.func14, Tryd.ntmps14
      go_wp2_with (go_at_call 12; refine (hch _).mono ?_; rintro e w' ⟨rfl, rfl⟩)
      all_goals (go_ret; exact ⟨int_ret5 (by omega), rfl⟩)
/-- May a version come? -/
def Mt.vmay (m : Mt) (v : Int) : Bool := decide (1 ≤ v) && (decide (v ≤ 1073741824) && decide (m.mn ≤ v))
theorem vmay_c (w : World) (m : Mt) (h : m.Ok) (v : Int) : Calls Tryd.prog 55 #[.agg m.cells.toArray, .int .i64 v] w fun e w' => e = .returned (.bool (m.vmay v)) ∧ Below w.heap.size w w' := by
  have hB := Blk.new w 27 m.cells.toArray
  obtain ⟨x, hx⟩ : ∃ x, m.mn = x := ⟨_, rfl⟩
  obtain ⟨_, k1, _⟩ := mall h hB _ x _ _ _ rfl hx rfl rfl rfl
  unfold Mt.vmay
  rw [hx]
  clear hB hx
  by_cases h1 : 1 ≤ v
  · by_cases h2 : v ≤ 1073741824
    · go_enter Tryd.func55, Tryd.ntmps55
      go_wp2_with fail
      go_ret
      exact ⟨by simp [h1, h2], (Below.refl _ _).alloc (Nat.le_refl _) _⟩
    · go_enter Tryd.func55, Tryd.ntmps55
      go_wp2_with fail
      go_ret
      exact ⟨by simp [show ¬ v ≤ 1073741824 by omega], (Below.refl _ _).alloc (Nat.le_refl _) _⟩
  · go_enter Tryd.func55, Tryd.ntmps55
    go_wp2_with fail
    go_ret
    exact ⟨by simp [show ¬ 1 ≤ v by omega], (Below.refl _ _).alloc (Nat.le_refl _) _⟩
/-- The least version when the other slot is confirmed. -/
def Mt.vconf (m : Mt) : Int := if m.oth.v ≤ 0 then m.mn else max m.mn m.oth.v
theorem Mt.c_v0 {W : World} {g : Nat} {m : Mt} (B : Blk W g 27 m.cells.toArray) : W.cell? ⟨g, 1, none⟩ = some (.int .i64 m.h0.v) := by
  rw [B.cell, List.getElem?_toArray]; rfl
theorem Mt.c_v1 {W : World} {g : Nat} {m : Mt} (h : m.Ok) (B : Blk W g 27 m.cells.toArray) : W.cell? ⟨g, 35, none⟩ = some (.int .i64 m.h1.v) := by
  have r := B.range 35 34 (by rw [Mt.cells_len h]; omega)
  rw [Mt.c_h1 h] at r
  exact r 0 _ rfl
theorem vconf_c (w : World) (m : Mt) (h : m.Ok) (hact : m.act = 0 ∨ m.act = 1) : Calls Tryd.prog 57 #[.agg m.cells.toArray] w fun e w' => e = .returned (.int .i64 m.vconf) ∧ Below w.heap.size w w' := by
  have hB := Blk.new w 27 m.cells.toArray
  obtain ⟨x, hx⟩ : ∃ x, m.mn = x := ⟨_, rfl⟩
  obtain ⟨y, hy⟩ : ∃ y, m.oth.v = y := ⟨_, rfl⟩
  have k35 := Mt.c_v1 h hB
  have k1 := Mt.c_v0 hB
  unfold Mt.vconf
  rw [hx, hy]
  rcases hact with ha | ha
  · obtain ⟨k0, k69, _⟩ := mall h hB 0 x _ _ _ ha hx rfl rfl rfl
    rw [← Mt.oth0 ha, hy] at k35
    clear hB hx hy k1
    by_cases hv : y ≤ 0
    · go_enter Tryd.func57, Tryd.ntmps57
      go_wp2_with fail
      go_ret
      exact ⟨int_ret5 (by simp [hv]), (Below.refl _ _).alloc (Nat.le_refl _) _⟩
    · go_enter Tryd.func57, Tryd.ntmps57
      go_wp2_with fail
      all_goals (go_ret; exact ⟨int_ret5 (by omega), (Below.refl _ _).alloc (Nat.le_refl _) _⟩)
  · obtain ⟨k0, k69, _⟩ := mall h hB 1 x _ _ _ ha hx rfl rfl rfl
    rw [← Mt.oth1 ha, hy] at k1
    clear hB hx hy k35
    by_cases hv : y ≤ 0
    · go_enter Tryd.func57, Tryd.ntmps57
      go_wp2_with fail
      go_ret
      exact ⟨int_ret5 (by simp [hv]), (Below.refl _ _).alloc (Nat.le_refl _) _⟩
    · go_enter Tryd.func57, Tryd.ntmps57
      go_wp2_with fail
      all_goals (go_ret; exact ⟨int_ret5 (by omega), (Below.refl _ _).alloc (Nat.le_refl _) _⟩)
end Go.Proofs.YtpbdglocfjbbfaaDoor
