/- waterlinelaw7.AreaBudget: no sector is erased more often than the budget says: the plain law. -/
import Derived.Test.YtaanefgkmjdknaaL7a
import Derived.Test.YtaanefgkmjdknaaL6d
namespace Go.Proofs.Ytaanefgkmjdknaa
open Go.RowKit
set_option linter.unusedVariables false
set_option linter.unusedSimpArgs false

structure BudAt (F : Fl) (had : List Int) (b : Int) : Prop where
  ok : F.Ok
  calm : F.Calm
  len : F.wear.length = 4
  mask : F.mask = []
  hl : had.length = 3
  eq : ∀ s, s < 3 → F.wear.getD (1 + s) 0 = had.getD s 0
  b0 : ∀ s, s < 3 → 0 ≤ had.getD s 0 ∧ had.getD s 0 ≤ b
  b1 : b ≤ 20
theorem bud_wear {F : Fl} {had : List Int} {b : Int} (h : BudAt F had b) (s : Nat) (hs : s < 3) : F.wearAt (1 + (s : Int)) = had.getD s 0 := by
  have hi : F.is (1 + (s : Int)) = true := by unfold Fl.is; rw [h.len]; simp; omega
  unfold Fl.wearAt
  rw [if_pos hi, show (1 + (s : Int)).toNat = 1 + s from by omega, h.eq s hs]
theorem bud_left {F : Fl} {had : List Int} {b : Int} (h : BudAt F had b) (s : Nat) (hs : s < 3) : (⟨1, 3, b⟩ : Ar).left F s = b - had.getD s 0 := by
  have hi : (⟨1, 3, b⟩ : Ar).is s = true := by unfold Ar.is; simp; omega
  have := h.b0 s hs
  unfold Ar.left
  rw [if_pos hi]
  show max 0 (b - F.wearAt (((1 : Nat) : Int) + (s : Int))) = _
  rw [show ((1 : Nat) : Int) = 1 from rfl, bud_wear h s hs]
  omega
theorem bud_full {F : Fl} {had : List Int} {b : Int} (h : BudAt F had b) (s : Nat) (hs : s < 3) (hb : ¬ had.getD s 0 < b) : (⟨1, 3, b⟩ : Ar).eraseE F s = 5 ∧ (⟨1, 3, b⟩ : Ar).erase F s = F := by
  have hi : (⟨1, 3, b⟩ : Ar).is s = true := by unfold Ar.is; simp; omega
  have := h.b0 s hs
  have hz : ((⟨1, 3, b⟩ : Ar).left F s == 0) = true := by rw [bud_left h s hs, beq_iff_eq]; omega
  unfold Ar.eraseE Ar.erase
  rw [if_pos hi, if_pos hi, if_pos hz, if_pos hz]
  exact ⟨rfl, rfl⟩
theorem bud_more {F : Fl} {had : List Int} {b : Int} (h : BudAt F had b) (s : Nat) (hs : s < 3) (hb : had.getD s 0 < b) : (⟨1, 3, b⟩ : Ar).eraseE F s = 0 ∧ BudAt ((⟨1, 3, b⟩ : Ar).erase F s) (had.set s (had.getD s 0 + 1)) b := by
  have hi : (⟨1, 3, b⟩ : Ar).is s = true := by unfold Ar.is; simp; omega
  have hz : ((⟨1, 3, b⟩ : Ar).left F s == 0) = false := by rw [bud_left h s hs, beq_eq_false_iff_ne]; omega
  have hi2 : F.is (1 + (s : Int)) = true := by unfold Fl.is; rw [h.len]; simp; omega
  have q := h.calm.erase (1 + (s : Int)) hi2
  have e : (⟨1, 3, b⟩ : Ar).erase F s = F.ers (1 + s) := by
    unfold Ar.erase
    rw [if_pos hi, hz, if_neg (by simp)]
    show F.erase (((1 : Nat) : Int) + (s : Int)) = _
    rw [show ((1 : Nat) : Int) = 1 from rfl, q.2, show (1 + (s : Int)).toNat = 1 + s from by omega]
  have hw : F.wear.getD (1 + s) 0 ≤ 4611686018427387903 := by
    rw [h.eq s hs]; have := h.b0 s hs; have := h.b1; omega
  constructor
  · unfold Ar.eraseE
    rw [if_pos hi, hz, if_neg (by simp)]
    exact q.1
  · rw [e]
    refine ⟨Fl.ers_ok h.ok _ hw, h.calm.ers _, by rw [Fl.ers_wear, List.length_set, h.len], h.mask, by rw [List.length_set, h.hl], ?_, ?_, h.b1⟩
    · intro k hk
      rw [Fl.ers_wear, List.getD_eq_getElem?_getD, List.getElem?_set, List.getD_eq_getElem?_getD (l := had.set _ _), List.getElem?_set]
      by_cases hks : s = k
      · subst hks
        rw [if_pos rfl, if_pos rfl, if_pos (by rw [h.len]; omega), if_pos (by rw [h.hl]; omega), h.eq s hs]
      · rw [if_neg (by omega), if_neg hks, ← List.getD_eq_getElem?_getD, ← List.getD_eq_getElem?_getD, h.eq k hk]
    · intro k hk
      rw [List.getD_eq_getElem?_getD, List.getElem?_set]
      have h1 := h.b0 s hs
      have h2 := h.b0 k hk
      split
      · split
        · simp only [Option.getD_some]; omega
        · simp; omega
      · rw [← List.getD_eq_getElem?_getD]; exact h2
theorem bud_start (b : Int) (h0 : 0 ≤ b) (h1 : b ≤ 20) : ∃ F0 R, Fl.new ((4 : Nat) : Int) = F0 ∧ F0.wear.length = 4 ∧ Ar.new 4 1 3 b = R ∧ R = ⟨1, 3, b⟩ ∧ BudAt F0 [0, 0, 0] b := by
  have hw : (Fl.new ((4 : Nat) : Int)).wear = [0, 0, 0, 0] := by kernel_rfl
  refine ⟨_, _, rfl, by rw [hw]; rfl, rfl, ?_, Fl.new_ok _, Fl.Calm.new _, by rw [hw]; rfl, rfl, rfl, ?_, ?_, h1⟩
  · unfold Ar.new
    rw [if_pos (by omega)]
    congr 1
    omega
  · intro s hs
    rw [hw]
    match s, hs with
    | 0, _ => rfl
    | 1, _ => rfl
    | 2, _ => rfl
  · intro s hs
    match s, hs with
    | 0, _ => exact ⟨Int.le_refl _, h0⟩
    | 1, _ => exact ⟨Int.le_refl _, h0⟩
    | 2, _ => exact ⟨Int.le_refl _, h0⟩

section
variable {w0 w w' : World} {ab fb bb wb : Nat} {R : Ar} {F F' : Fl}
theorem FlashAt.farNone (h : FlashAt w fb bb wb F) (hm : F.mask = []) {p : Addr} (hp : p.block ∉ [fb, bb, wb]) (u : Value) : FlashAt (w.setCell p u) fb bb wb F := by
  obtain ⟨A, c, h1, h2, h3⟩ := h.obj
  simp only [List.mem_cons, List.not_mem_nil, or_false, not_or] at hp
  refine ⟨h.ok, ⟨A, c, h1.far (fun e => hp.1 e.symm) u, ?_, h3⟩, h.bytes.far (fun e => hp.2.1 e.symm) u, h.wears.far (fun e => hp.2.2 e.symm) u⟩
  rw [hm] at h2 ⊢
  exact ⟨h2.1, fun hn => absurd hn (by simp)⟩
theorem HasA.farNone (h : HasA w0 w ab fb bb wb R F) (hm : F.mask = []) {p : Addr} (hp : p.block ∉ [ab, fb, bb, wb]) (hb : w0.heap.size ≤ p.block) (u : Value) : HasA w0 (w.setCell p u) ab fb bb wb R F := by
  rw [List.mem_cons, not_or] at hp
  exact ⟨⟨h.has.flash.farNone hm hp.2 u, h.has.below.setCell hb u, h.has.fb_, h.has.bb_, h.has.wb_⟩, ⟨h.area.ok, h.area.most, h.area.obj.far (fun e => hp.1 e.symm) u⟩, h.ab_, h.far⟩
end
end Go.Proofs.Ytaanefgkmjdknaa
