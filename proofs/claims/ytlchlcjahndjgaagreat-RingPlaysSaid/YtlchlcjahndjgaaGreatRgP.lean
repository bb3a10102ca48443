/- The ring on a calm flash: plain. -/
import Derived.Test.YtlchlcjahndjgaaGreatRing
import Derived.Test.YtlchlcjahndjgaaGreatSlA
namespace Go.Proofs.YtlchlcjahndjgaaGreat
open Go.RowKit
set_option linter.unusedVariables false
set_option linter.unusedSimpArgs false
theorem ofBe_be4 (N : Nat) (h : N < 4294967296) : ofBe (be N 4) = N := by
  have e : be N 4 = [UInt8.ofNat (N / 16777216), UInt8.ofNat (N / 65536), UInt8.ofNat (N / 256), UInt8.ofNat N] := by
    unfold be
    simp [List.range_succ]
  rw [e]
  unfold ofBe
  simp only [List.foldl_cons, List.foldl_nil, UInt8.toNat_ofNat']
  omega
theorem cell_of (s : Nat) (b : List UInt8) (h1 : 1 ≤ s) (h2 : s ≤ 2147483647) : cgO (cellP s b) = true ∧ cgS (cellP s b) = s ∧ cgB (cellP s b) = padTo b 156 := by
  have he : evens (cellP s b) = be s 4 ++ padTo b 156 := evens_dualP _
  have hN : cgN (cellP s b) = s := by
    unfold cgN
    rw [he, List.take_append_of_le_length (by rw [be_len]; omega), List.take_of_length_le (by rw [be_len]; omega), ofBe_be4 s (by omega)]
  have hO : cgO (cellP s b) = true := by
    unfold cgO
    rw [hN, cellP_len, show dualOk (cellP s b) = true from dualOk_dualP _]
    simp
    omega
  refine ⟨hO, ?_, ?_⟩
  · unfold cgS; rw [if_pos hO, hN]
  · unfold cgB
    rw [if_pos hO, he, List.drop_append_of_le_length (by rw [be_len]; omega), List.drop_of_length_le (by rw [be_len]; omega), List.nil_append]
namespace Ar
theorem ringTo_lt (R : Ar) (F : Fl) (s : Nat) (hs : 0 < s) : ∀ i, (∀ j, j < i → cgO (R.sec F j) = true → cgS (R.sec F j) < s) → (R.ringTo F i).seq < s
  | 0, _ => hs
  | i + 1, h => by
    unfold ringTo
    split
    · rename_i hc
      exact h i (by omega) hc.1
    · exact ringTo_lt R F s hs i fun j hj => h j (by omega)
theorem ringTo_max (R : Ar) (F : Fl) (m : Nat) (hO : cgO (R.sec F m) = true) (h : ∀ i, i < 4 → i ≠ m → cgO (R.sec F i) = true → cgS (R.sec F i) < cgS (R.sec F m)) (hs : 0 < cgS (R.sec F m)) :
    ∀ i, m < i → i ≤ 4 → R.ringTo F i = ⟨m, cgS (R.sec F m), cgB (R.sec F m), true⟩
  | 0, h1, _ => by omega
  | i + 1, h1, h2 => by
    unfold ringTo
    by_cases hi : i = m
    · subst hi
      rw [if_pos ⟨hO, R.ringTo_lt F _ hs i fun j hj => h j (by omega) (by omega)⟩]
    · have ih := ringTo_max R F m hO h hs i (by omega) (by omega)
      rw [ih, if_neg]
      rintro ⟨q1, q2⟩
      have := h i (by omega) hi q1
      have q3 : cgS (R.sec F m) < cgS (R.sec F i) := q2
      omega
theorem ringTo_none (R : Ar) (F : Fl) : ∀ i, (∀ j, j < i → cgO (R.sec F j) = false) → R.ringTo F i = ⟨0, 0, [], false⟩
  | 0, _ => rfl
  | i + 1, h => by
    unfold ringTo
    rw [if_neg (by rw [h i (by omega)]; simp)]
    exact ringTo_none R F i fun j hj => h j (by omega)
theorem ringF_max {R : Ar} {F : Fl} (h4 : 4 ≤ R.len) (m : Nat) (hm : m < 4) (hO : cgO (R.sec F m) = true) (h : ∀ i, i < 4 → i ≠ m → cgO (R.sec F i) = true → cgS (R.sec F i) < cgS (R.sec F m)) (hs : 0 < cgS (R.sec F m)) :
    R.ringF F = ⟨m, cgS (R.sec F m), cgB (R.sec F m), true⟩ := by unfold ringF; rw [if_pos h4]; exact R.ringTo_max F m hO h hs 4 hm (Nat.le_refl _)
theorem ringF_none {R : Ar} {F : Fl} (h : ∀ j, j < 4 → cgO (R.sec F j) = false) : R.ringF F = ⟨0, 0, [], false⟩ := by
  unfold ringF
  split
  · exact R.ringTo_none F 4 h
  · rfl
/-- A sector's bytes. -/
theorem sec_getD {R : Ar} {F : Fl} (hR : R.Ok F.wear.length) (ho : F.Ok) (s : Nat) (hs : s < R.len) : (R.sec F s).length = 320 ∧ ∀ j, j < 320 → (R.sec F s).getD j 0 = F.b.getD ((R.from_ + s) * 320 + j) 0 := by
  have hl := ho.len
  have hfit := hR.fit
  have hr := read_at hR ho s 320 hs (by omega) (by omega)
  have e : R.sec F s = (F.b.drop ((R.from_ + s) * 320)).take 320 := hr
  refine ⟨by rw [e, List.length_take, List.length_drop]; omega, fun j hj => ?_⟩
  rw [e, List.getD_eq_getElem?_getD, List.getElem?_take, if_pos hj, List.getElem?_drop, ← List.getD_eq_getElem?_getD]
theorem sec_is {R : Ar} {F : Fl} (hR : R.Ok F.wear.length) (ho : F.Ok) (s : Nat) (hs : s < R.len) (x : List UInt8) (hx : x.length = 320) (h : ∀ j, j < 320 → F.b.getD ((R.from_ + s) * 320 + j) 0 = x.getD j 0) : R.sec F s = x := by
  obtain ⟨h1, h2⟩ := sec_getD hR ho s hs
  apply List.ext_getElem (by omega)
  intro j g1 g2
  have := (h2 j (by omega)).trans (h j (by omega))
  rw [List.getD_eq_getElem?_getD, List.getElem?_eq_getElem g1, List.getD_eq_getElem?_getD, List.getElem?_eq_getElem g2] at this
  simpa using this
theorem sec_blank {R : Ar} {F : Fl} (hR : R.Ok F.wear.length) (ho : F.Ok) (s : Nat) (hs : s < R.len) (hb : F.blank ((R.from_ + s : Nat) : Int) = true) : cgO (R.sec F s) = false := by
  obtain ⟨h1, h2⟩ := sec_getD hR ho s hs
  have g0 := (h2 0 (by omega)).trans (Fl.blank_getD ho.len _ hb 0 (by omega))
  have g1 := (h2 1 (by omega)).trans (Fl.blank_getD ho.len _ hb 1 (by omega))
  unfold cgO
  rcases hX : R.sec F s with _ | ⟨a, _ | ⟨b, l⟩⟩
  · rw [hX] at h1; simp at h1
  · rw [hX] at h1; simp at h1
  · rw [hX] at g0 g1
    simp at g0 g1
    subst g0 g1
    simp [dualOk]
theorem sec_far {R : Ar} {F F' : Fl} {x : Nat} {bs : List UInt8} (hR : R.Ok F.wear.length) (ho : F.Ok) (hw : Wrote F F' x bs) (s : Nat) (hs : s < R.len) (hne : R.from_ + s ≠ x) : R.sec F' s = R.sec F s := by
  have hR' : R.Ok F'.wear.length := by rw [hw.len]; exact hR
  obtain ⟨h1, h2⟩ := sec_getD hR ho s hs
  refine sec_is hR' hw.ok s hs _ h1 fun j hj => ?_
  rw [hw.far _ (by omega), h2 j hj]
end Ar
/-- The ring of a calm flash of four sectors behind k puts, of v 0 .. v (k-1). -/
structure PutsAt (B : Nat) (F : Fl) (v : Nat → List UInt8) (k : Nat) : Prop where
  calm : F.Calm
  ok : F.Ok
  len : F.wear.length = 4
  held : ∀ i, i < 4 → i < k → (⟨0, 4, B⟩ : Ar).sec F i = cellP (i + 4 * ((k - 1 - i) / 4) + 1) (v (i + 4 * ((k - 1 - i) / 4)))
  blank : ∀ i, i < 4 → k ≤ i → F.blank (i : Int) = true
  full : ∀ i, i < 4 → i < k → F.blank (i : Int) = false
  wear : ∀ i, i < 4 → F.wear.getD i 0 = (((k + 3 - i) / 4 - 1 : Nat) : Int)
theorem puts_start (B : Nat) (v : Nat → List UInt8) : PutsAt B (Fl.new ((4 : Nat) : Int)) v 0 :=
  ⟨Fl.Calm.new _, Fl.new_ok _, new_wlen 4 (by omega), fun i _ h => absurd h (by omega), fun i hi _ => new_calm 4 (by omega) i hi, fun i _ h => absurd h (by omega), fun i hi => by rw [Fl.new_wearD 4 (by omega) i]; omega⟩
theorem puts_rok {B : Nat} {F : Fl} {v : Nat → List UInt8} {k : Nat} (h : PutsAt B F v k) (hB : B ≤ 1000) : (⟨0, 4, B⟩ : Ar).Ok F.wear.length := by
  rw [h.len]; exact ⟨by simp, by simp, by show (B : Int) ≤ 1000; omega⟩
theorem puts_F0 {B : Nat} {F : Fl} {v : Nat → List UInt8} (h : PutsAt B F v 0) (hB : B ≤ 1000) : (⟨0, 4, B⟩ : Ar).ringF F = ⟨0, 0, [], false⟩ :=
  Ar.ringF_none fun j hj => Ar.sec_blank (puts_rok h hB) h.ok j hj (by simpa using h.blank j hj (by omega))
theorem puts_F {B : Nat} {F : Fl} {v : Nat → List UInt8} {k : Nat} (h : PutsAt B F v k) (hB : B ≤ 1000) (hk : 1 ≤ k) (hk2 : k ≤ 1000000) : (⟨0, 4, B⟩ : Ar).ringF F = ⟨(k - 1) % 4, k, padTo (v (k - 1)) 156, true⟩ := by
  have hm : (k - 1) % 4 < 4 := Nat.mod_lt _ (by omega)
  have e1 := h.held ((k - 1) % 4) hm (by omega)
  have e2 : (k - 1) % 4 + 4 * ((k - 1 - (k - 1) % 4) / 4) = k - 1 := by omega
  rw [e2] at e1
  obtain ⟨c1, c2, c3⟩ := cell_of (k - 1 + 1) (v (k - 1)) (by omega) (by omega)
  rw [← e1] at c1 c2 c3
  rw [Ar.ringF_max (by show 4 ≤ 4; omega) ((k - 1) % 4) hm c1 (fun i hi hne hO => ?_) (by rw [c2]; omega), c2, c3]
  · congr 1
    omega
  · by_cases hik : i < k
    · have e3 := h.held i hi hik
      obtain ⟨d1, d2, d3⟩ := cell_of (i + 4 * ((k - 1 - i) / 4) + 1) (v (i + 4 * ((k - 1 - i) / 4))) (by omega) (by omega)
      rw [← e3] at d2
      rw [d2, c2]
      omega
    · have := Ar.sec_blank (R := ⟨0, 4, B⟩) (puts_rok h hB) h.ok i hi (by simpa using h.blank i hi (by omega))
      rw [this] at hO
      cases hO
theorem puts_N {B : Nat} {F : Fl} {v : Nat → List UInt8} {k : Nat} (h : PutsAt B F v k) (hB : B ≤ 1000) (hk2 : k ≤ 1000000) : (⟨0, 4, B⟩ : Ar).ringN F = k % 4 := by
  unfold Ar.ringN
  by_cases hk : k = 0
  · subst hk
    rw [puts_F0 h hB]
    rfl
  · rw [puts_F h hB (by omega) hk2]
    show ((k - 1) % 4 + 1) % 4 = k % 4
    omega
theorem puts_S {B : Nat} {F : Fl} {v : Nat → List UInt8} {k : Nat} (h : PutsAt B F v k) (hB : B ≤ 1000) (hk2 : k ≤ 1000000) : ((⟨0, 4, B⟩ : Ar).ringF F).seq = k := by
  by_cases hk : k = 0
  · subst hk
    rw [puts_F0 h hB]
  · rw [puts_F h hB (by omega) hk2]
theorem puts_worn {B : Nat} {F : Fl} {v : Nat → List UInt8} {k : Nat} (h : PutsAt B F v k) (hB : B ≤ 1000) (hk : k = 4 * (B + 1)) (b : List UInt8) (hb : b.length ≤ 156) :
    (⟨0, 4, B⟩ : Ar).ringM F = false ∧ (⟨0, 4, B⟩ : Ar).ringE F b = 5 ∧ (⟨0, 4, B⟩ : Ar).ringP F b = F := by
  have hN := puts_N h hB (by omega)
  have hm : (⟨0, 4, B⟩ : Ar).mayC F ((k % 4 : Nat) : Int) = false := (Ar.chunk_worn (puts_rok h hB) (k % 4) (by show k % 4 < 4; omega) [] (by simp) (by simpa using h.full (k % 4) (by omega) (by omega))
    (by show (B : Int) ≤ F.wear.getD (0 + k % 4) 0; rw [Nat.zero_add, h.wear _ (by omega)]; omega)).1
  have hM : (⟨0, 4, B⟩ : Ar).ringM F = false := by
    unfold Ar.ringM
    rw [hN, hm]
    simp
  refine ⟨hM, ?_, ?_⟩
  · unfold Ar.ringE
    rw [if_neg (by show ¬ 4 < 4; omega), if_neg (by omega), if_pos hM]
  · unfold Ar.ringP
    rw [if_neg (by show ¬ 4 < 4; omega), if_neg (by omega), if_pos hM]
theorem not_blank_cell {R : Ar} {F : Fl} (hR : R.Ok F.wear.length) (ho : F.Ok) (s : Nat) (hs : s < R.len) (h : cgO (R.sec F s) = true) : F.blank ((R.from_ + s : Nat) : Int) = false := by
  rw [Bool.eq_false_iff]
  intro hb
  rw [Ar.sec_blank hR ho s hs hb] at h
  cases h
theorem puts_step {B : Nat} {F : Fl} {v : Nat → List UInt8} {k : Nat} (h : PutsAt B F v k) (hB : B ≤ 1000) (hk : k < 4 * (B + 1)) (hv : (v k).length ≤ 156) :
    (⟨0, 4, B⟩ : Ar).ringM F = true ∧ (⟨0, 4, B⟩ : Ar).ringE F (v k) = 0 ∧ PutsAt B ((⟨0, 4, B⟩ : Ar).ringP F (v k)) v (k + 1) := by
  have hR := puts_rok h hB
  have hN := puts_N h hB (by omega)
  have hS := puts_S h hB (by omega)
  have hs : k % 4 < (⟨0, 4, B⟩ : Ar).len := by show k % 4 < 4; omega
  have hXl := cellP_len (k + 1) (v k)
  have hX0 : cellP (k + 1) (v k) ≠ [] := by intro e; rw [e] at hXl; simp at hXl
  have hw0 := h.wear (k % 4) (by omega)
  -- the chunk
  have key : (⟨0, 4, B⟩ : Ar).mayC F ((k % 4 : Nat) : Int) = true ∧ (⟨0, 4, B⟩ : Ar).chunkE F ((k % 4 : Nat) : Int) (cellP (k + 1) (v k)) = 0 ∧ Wrote F ((⟨0, 4, B⟩ : Ar).chunk F ((k % 4 : Nat) : Int) (cellP (k + 1) (v k))) (0 + k % 4) (cellP (k + 1) (v k)) ∧
      ((⟨0, 4, B⟩ : Ar).chunk F ((k % 4 : Nat) : Int) (cellP (k + 1) (v k))).wear.getD (k % 4) 0 = (((k + 1 + 3 - k % 4) / 4 - 1 : Nat) : Int) := by
    by_cases hk4 : k < 4
    · obtain ⟨p1, p2, p3, p4⟩ := Ar.chunk_blank hR h.calm h.ok (k % 4) hs _ (by omega) hX0 (by simpa using h.blank (k % 4) (by omega) (by omega))
      refine ⟨p1, p2, p4, ?_⟩
      rw [p3]
      show F.wear.getD (k % 4) 0 = _
      rw [hw0]
      omega
    · obtain ⟨p1, p2, p3, p4⟩ := Ar.chunk_full hR h.calm h.ok (k % 4) hs _ (by omega) hX0 (by simpa using h.full (k % 4) (by omega) (by omega))
        (by show F.wear.getD (0 + k % 4) 0 < (B : Int); rw [Nat.zero_add, hw0]; omega) (by show F.wear.getD (0 + k % 4) 0 ≤ _; rw [Nat.zero_add, hw0]; omega)
      refine ⟨p1, p2, p4, ?_⟩
      rw [p3]
      show (F.wear.set (0 + k % 4) (F.wear.getD (0 + k % 4) 0 + 1)).getD (k % 4) 0 = _
      rw [Nat.zero_add, List.getD_eq_getElem?_getD, List.getElem?_set, if_pos rfl, if_pos (by rw [h.len]; omega), Option.getD_some, hw0]
      omega
  obtain ⟨m1, m2, m3, m4⟩ := key
  have hM : (⟨0, 4, B⟩ : Ar).ringM F = true := by
    unfold Ar.ringM
    rw [hN, m1, hS]
    simp
    omega
  have hP : (⟨0, 4, B⟩ : Ar).ringP F (v k) = (⟨0, 4, B⟩ : Ar).chunk F ((k % 4 : Nat) : Int) (cellP (k + 1) (v k)) := by
    unfold Ar.ringP
    rw [if_neg (by show ¬ 4 < 4; omega), if_neg (by omega), if_neg (by rw [hM]; simp), hN, hS]
  have hE : (⟨0, 4, B⟩ : Ar).ringE F (v k) = 0 := by
    unfold Ar.ringE
    rw [if_neg (by show ¬ 4 < 4; omega), if_neg (by omega), if_neg (by rw [hM]; simp), hN, hS]
    exact m2
  refine ⟨hM, hE, ?_⟩
  rw [hP]
  generalize hF' : (⟨0, 4, B⟩ : Ar).chunk F ((k % 4 : Nat) : Int) (cellP (k + 1) (v k)) = F' at m3 m4 ⊢
  rw [Nat.zero_add] at m3
  have hR' : (⟨0, 4, B⟩ : Ar).Ok F'.wear.length := by rw [m3.len]; exact hR
  have hsec : (⟨0, 4, B⟩ : Ar).sec F' (k % 4) = cellP (k + 1) (v k) := Ar.sec_is hR' m3.ok (k % 4) hs _ hXl fun j hj => by
    show F'.b.getD ((0 + k % 4) * 320 + j) 0 = _
    rw [Nat.zero_add]
    exact m3.here j (by omega)
  have hfar : ∀ i, i < 4 → i ≠ k % 4 → (⟨0, 4, B⟩ : Ar).sec F' i = (⟨0, 4, B⟩ : Ar).sec F i := fun i hi hne => Ar.sec_far hR h.ok m3 i hi (by show 0 + i ≠ k % 4; omega)
  have hheld : ∀ i, i < 4 → i < k + 1 → (⟨0, 4, B⟩ : Ar).sec F' i = cellP (i + 4 * ((k + 1 - 1 - i) / 4) + 1) (v (i + 4 * ((k + 1 - 1 - i) / 4))) := fun i hi hik => by
    by_cases hne : i = k % 4
    · have e : i + 4 * ((k + 1 - 1 - i) / 4) = k := by omega
      rw [e, hne, hsec]
    · rw [hfar i hi hne, h.held i hi (by omega)]
      have e : i + 4 * ((k - 1 - i) / 4) = i + 4 * ((k + 1 - 1 - i) / 4) := by omega
      rw [e]
  refine ⟨m3.calm, m3.ok, m3.len.trans h.len, hheld, fun i hi hik => ?_, fun i hi hik => ?_, fun i hi => ?_⟩
  · have hb := h.blank i hi (by omega)
    refine Fl.blank_of m3.ok.len i (by rw [m3.len, h.len]; exact hi) fun j hj => ?_
    rw [m3.far _ (by omega)]
    exact Fl.blank_getD h.ok.len i hb j hj
  · have := not_blank_cell hR' m3.ok i hi (by rw [hheld i hi hik]; exact (cell_of _ _ (by omega) (by omega)).1)
    simpa using this
  · by_cases hne : i = k % 4
    · rw [hne, m4]
    · rw [m3.wfar i hne, h.wear i hi]
      congr 1
      omega
end Go.Proofs.YtlchlcjahndjgaaGreat
