/- Images written chunk by chunk: plain, and the reference's Chunks and Len. -/
import Derived.Test.YtmpgomjdfegfpaaL19a
namespace Go.Proofs.Ytmpgomjdfegfpaa
open Go.RowKit
set_option linter.unusedVariables false
set_option linter.unusedSimpArgs false
/-- Any chunk of a calm flash with budget left is written. -/
theorem Ar.chunk_any {R : Ar} {F : Fl} (hR : R.Ok F.wear.length) (hc : F.Calm) (ho : F.Ok) (s : Nat) (hs : s < R.len) (bs : List UInt8) (hb : bs.length ≤ 320) (hb0 : bs ≠ [])
    (hw : F.wear.getD (R.from_ + s) 0 < R.budget) (hw2 : F.wear.getD (R.from_ + s) 0 ≤ 4611686018427387902) :
    R.chunkE F s bs = 0 ∧ Wrote F (R.chunk F s bs) (R.from_ + s) bs ∧ (R.chunk F s bs).wear.getD (R.from_ + s) 0 ≤ F.wear.getD (R.from_ + s) 0 + 1 := by
  have hfit := hR.fit
  by_cases hbl : F.blank ((R.from_ + s : Nat) : Int) = true
  · obtain ⟨-, p1, p2, p3⟩ := Ar.chunk_blank hR hc ho s hs bs hb hb0 hbl
    refine ⟨p1, p3, ?_⟩
    rw [p2]
    show F.wear.getD _ _ ≤ _
    omega
  · obtain ⟨-, p1, p2, p3⟩ := Ar.chunk_full hR hc ho s hs bs hb hb0 (by simpa using hbl) hw hw2
    refine ⟨p1, p3, ?_⟩
    rw [p2]
    show (F.wear.set _ _).getD _ _ ≤ _
    rw [List.getD_eq_getElem?_getD, List.getElem?_set, if_pos rfl, if_pos (by omega), Option.getD_some]
    omega
/-- A calm flash of twelve sectors, none erased more often than n. -/
structure Sk (F : Fl) (n : Nat) : Prop where
  calm : F.Calm
  ok : F.Ok
  len : F.wear.length = 12
  wear : ∀ s, s < 12 → F.wear.getD s 0 ≤ n
/-- The bytes c stand at the beginning of sector x. -/
def HoldsC (F : Fl) (x : Nat) (c : List UInt8) : Prop := ∀ t, t < c.length → F.b.getD (x * 320 + t) 0 = c.getD t 0
theorem sk_rok : (⟨0, 12, 100⟩ : Ar).Ok 12 := ⟨by simp, by simp, by simp⟩
theorem sk_new : Ar.new 12 0 12 100 = ⟨0, 12, 100⟩ := by kernel_rfl
theorem sk_start : Sk (Fl.new ((12 : Nat) : Int)) 0 := by
  refine ⟨Fl.Calm.new _, Fl.new_ok _, new_wlen 12 (by omega), fun s hs => ?_⟩
  rw [Fl.new_wearD 12 (by omega) s]
  exact Int.le_refl _
theorem sk_step {F : Fl} {n : Nat} (h : Sk F n) (hn : n < 100) (x : Nat) (hx : x < 12) (bs : List UInt8) (hb : bs.length ≤ 320) (hb0 : bs ≠ []) :
    (⟨0, 12, 100⟩ : Ar).chunkE F x bs = 0 ∧ Sk ((⟨0, 12, 100⟩ : Ar).chunk F x bs) (n + 1) ∧ HoldsC ((⟨0, 12, 100⟩ : Ar).chunk F x bs) x bs ∧
      ∀ y c, y ≠ x → c.length ≤ 320 → HoldsC F y c → HoldsC ((⟨0, 12, 100⟩ : Ar).chunk F x bs) y c := by
  have hw := h.wear x hx
  obtain ⟨p1, p2, p3⟩ := Ar.chunk_any (R := ⟨0, 12, 100⟩) (F := F) (by rw [h.len]; exact sk_rok) h.calm h.ok x hx bs hb hb0
    (by show F.wear.getD (0 + x) 0 < 100; rw [Nat.zero_add]; omega) (by show F.wear.getD (0 + x) 0 ≤ _; rw [Nat.zero_add]; omega)
  simp only [Nat.zero_add] at p2 p3
  refine ⟨p1, ⟨p2.calm, p2.ok, p2.len.trans h.len, fun s hs => ?_⟩, fun t ht => p2.here t ht, fun y c hy hc hh t ht => ?_⟩
  · by_cases hsx : s = x
    · subst hsx; omega
    · rw [p2.wfar s hsx]
      have := h.wear s hs
      omega
  · rw [p2.far _ (by omega)]
    exact hh t ht
/-- Chunk i of an image. -/
def chk (L : List UInt8) (i : Nat) : List UInt8 := (L.drop (i * 320)).take 320
theorem chk_len (L : List UInt8) (i : Nat) : (chk L i).length = min 320 (L.length - i * 320) := by unfold chk; rw [List.length_take, List.length_drop]
theorem chk_getD (L : List UInt8) (i t : Nat) (ht : t < 320) : (chk L i).getD t 0 = L.getD (i * 320 + t) 0 := by
  unfold chk
  rw [List.getD_eq_getElem?_getD, List.getElem?_take, if_pos ht, List.getElem?_drop, ← List.getD_eq_getElem?_getD]
theorem chk_take (L : List UInt8) (i m : Nat) (hm : m = min 320 (L.length - i * 320)) : (L.drop (i * 320)).take m = chk L i := by
  subst hm
  unfold chk
  rw [← List.length_drop, List.take_eq_take_iff]
  omega
theorem sk_image {F : Fl} {n : Nat} (h : Sk F n) (s : Nat) (hs : s ≤ 1) (L : List UInt8) (h1 : 1 ≤ L.length) (h2 : L.length ≤ 1280)
    (hall : ∀ j, j * 320 < L.length → HoldsC F (4 + s * 4 + j) (chk L j)) : (⟨0, 12, 100⟩ : Ar).image F s 4 L.length = L := by
  refine Ar.image_is (by rw [h.len]; exact sk_rok) h.ok s 4 hs (by omega) (by omega) L h1 (by omega) (by show 4 + s * 4 + 4 ≤ 12; omega) fun j hj => ?_
  have hq := hall (j / 320) (by omega) (j % 320) (by rw [chk_len]; omega)
  rw [chk_getD _ _ _ (by omega)] at hq
  rw [show (0 + 4 + s * 4) * 320 + j = (4 + s * 4 + j / 320) * 320 + j % 320 by omega, show j = j / 320 * 320 + j % 320 by omega]
  have e : j / 320 * 320 + j % 320 = j := by omega
  simp only [e] at hq ⊢
  exact hq
theorem chunks_c (n : Nat) (h1 : 1 ≤ n) (h2 : n ≤ 1000000) (w : World) : Calls Try.prog 14 #[.int .i64 (n : Int)] w fun e w' => e = .returned (.int .i64 (((n + 319) / 320 : Nat) : Int)) ∧ w = w' := by
  go_enter Try.func14, Try.ntmps14
  go_wp2
  go_ret
  refine ⟨?_, rfl⟩
  show Ending.returned (Value.int IntKind.i64 (((n : Int) - 1) / 320 + 1)) = _
  congr 2
  omega
theorem len_c (n i : Nat) (h1 : 1 ≤ n) (h2 : n ≤ 1000000) (hi : i * 320 < n) (w : World) : Calls Try.prog 17 #[.int .i64 (n : Int), .int .i64 (i : Int)] w fun e w' => e = .returned (.int .i64 ((min 320 (n - i * 320) : Nat) : Int)) ∧ w = w' := by
  obtain ⟨K, hK⟩ : ∃ K, (n + 319) / 320 = K := ⟨_, rfl⟩
  have hc : ∀ w, Calls Try.prog 14 #[.int .i64 (n : Int)] w fun e w' => e = .returned (.int .i64 (K : Int)) ∧ w = w' := fun w => hK ▸ chunks_c n h1 h2 w
  have hiK : i < K := by omega
  by_cases hl : i + 1 < K
  · have hm : min 320 (n - i * 320) = 320 := by omega
    rw [hm]
    clear hm
    have g1 : i < K - 1 := by omega
    go_enter Try.func17, Try.ntmps17
    go_wp2_with (go_at_call 14; refine (hc _).mono ?_; rintro e w' ⟨rfl, rfl⟩)
    go_ret
    exact ⟨rfl, rfl⟩
  · have hm : ((min 320 (n - i * 320) : Nat) : Int) = (n : Int) - i * 320 := by omega
    rw [hm]
    clear hm
    go_enter Try.func17, Try.ntmps17
    go_wp2_with (go_at_call 14; refine (hc _).mono ?_; rintro e w' ⟨rfl, rfl⟩)
    go_ret
    exact ⟨rfl, rfl⟩
end Go.Proofs.Ytmpgomjdfegfpaa
