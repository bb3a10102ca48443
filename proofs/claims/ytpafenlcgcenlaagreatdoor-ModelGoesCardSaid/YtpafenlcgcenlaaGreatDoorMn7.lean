/- Plain: a manifest that may be is read as it was written. -/
import Derived.Test.YtpafenlcgcenlaaGreatDoorMn6
import Derived.Test.YtpafenlcgcenlaaGreatDoorRwr
namespace Go.Proofs.YtpafenlcgcenlaaGreatDoor
open Go Go.RowKit
set_option linter.unusedVariables false
set_option linter.unusedSimpArgs false
theorem decode_may (s : ByteArray) (pos : Nat) (h : pos < s.size) (hm : mayR (Utf8.decode s pos).1 = true) :
    1 ≤ (Utf8.decode s pos).2 ∧ (Utf8.decode s pos).2 ≤ 2 ∧ pos + (Utf8.decode s pos).2 ≤ s.size ∧ (s.get! (pos + (Utf8.decode s pos).2 - 1)).toNat ≠ 0 := by
  have hmm : (97 ≤ (Utf8.decode s pos).1 ∧ (Utf8.decode s pos).1 ≤ 122) ∨ (48 ≤ (Utf8.decode s pos).1 ∧ (Utf8.decode s pos).1 ≤ 57) ∨ (945 ≤ (Utf8.decode s pos).1 ∧ (Utf8.decode s pos).1 ≤ 969) := by
    unfold mayR at hm
    simp only [Bool.or_eq_true, Bool.and_eq_true, decide_eq_true_eq] at hm
    omega
  revert hmm
  simp only [Utf8.decode]
  split
  · intro hmm
    dsimp only at hmm ⊢
    refine ⟨Nat.le_refl _, by omega, by omega, ?_⟩
    rw [show pos + 1 - 1 = pos + 0 by omega]
    omega
  · split
    · rename_i h1 h2
      simp only [Bool.and_eq_true, decide_eq_true_eq, beq_iff_eq] at h2
      split
      · intro hmm
        dsimp only at hmm ⊢
        refine ⟨by omega, Nat.le_refl _, by omega, ?_⟩
        rw [show pos + 2 - 1 = pos + 1 by omega]
        omega
      · intro hmm
        dsimp only [Utf8.runeError] at hmm
        omega
    · split
      · split
        · rename_i h4
          intro hmm
          simp only [Bool.and_eq_true, decide_eq_true_eq, ge_iff_le] at h4
          dsimp only at hmm
          omega
        · intro hmm
          dsimp only [Utf8.runeError] at hmm
          omega
      · split
        · split
          · rename_i h4
            intro hmm
            simp only [Bool.and_eq_true, decide_eq_true_eq, ge_iff_le] at h4
            dsimp only at hmm
            omega
          · intro hmm
            dsimp only [Utf8.runeError] at hmm
            omega
        · intro hmm
          dsimp only [Utf8.runeError] at hmm
          omega
theorem validGo_len (s : ByteArray) : ∀ (f pos n : Nat), validGo s f pos n = true → pos ≤ s.size → s.size ≤ pos + f →
    n ≤ 8 ∧ s.size ≤ pos + 2 * (8 - n) ∧ (pos < s.size → (s.get! (s.size - 1)).toNat ≠ 0)
  | 0, pos, n, h, hp, hf => by
    simp only [validGo, Bool.and_eq_true, decide_eq_true_eq] at h
    exact ⟨h.2, by omega, fun h' => absurd h' (by omega)⟩
  | f + 1, pos, n, h, hp, hf => by
    by_cases hlt : pos < s.size
    · unfold validGo at h
      rw [if_pos hlt] at h
      by_cases hm : mayR (Utf8.decode s pos).1 = true
      · rw [if_pos hm] at h
        obtain ⟨d1, d2, d3, d4⟩ := decode_may s pos hlt hm
        obtain ⟨i1, i2, i3⟩ := validGo_len s f _ _ h d3 (by omega)
        refine ⟨by omega, by omega, fun _ => ?_⟩
        by_cases he : pos + (Utf8.decode s pos).2 < s.size
        · exact i3 he
        · have e : pos + (Utf8.decode s pos).2 = s.size := by omega
          rw [e] at d4
          exact d4
      · rw [if_neg hm] at h
        cases h
    · have hpe : pos = s.size := by omega
      unfold validGo at h
      rw [if_neg hlt] at h
      simp only [Bool.and_eq_true, decide_eq_true_eq] at h
      exact ⟨h.2, by omega, fun h' => absurd h' hlt⟩
theorem validN_len (s : ByteArray) (h : validN s = true) : s.size ≤ 16 ∧ ∀ (hs : 0 < s.size), s.data.toList[s.size - 1]? ≠ Option.some 0 := by
  obtain ⟨_, h2, h3⟩ := validGo_len s s.size 0 0 h (Nat.zero_le _) (by omega)
  refine ⟨by omega, fun hs e => h3 hs ?_⟩
  have hlt : s.size - 1 < s.data.size := by show s.size - 1 < s.size; omega
  have e2 : s.get! (s.size - 1) = s.data.toList[s.size - 1]'(by simpa using hlt) := by
    show s.data[s.size - 1]! = _
    rw [getElem!_pos s.data (s.size - 1) hlt]
    simp
  rw [e2]
  rw [List.getElem?_eq_getElem (by simpa using hlt)] at e
  have e3 := Option.some.inj e
  rw [e3]
  rfl
theorem trim_pad (l : List UInt8) (hl : l.length ≤ 16) (hz : 0 < l.length → l[l.length - 1]? ≠ Option.some 0) : Lib.trimRightB (padTo l 16) 0 = l := by
  have e : padTo l 16 = l ++ List.replicate (16 - l.length) 0 := by unfold padTo; rw [List.take_of_length_le hl]
  rw [e, Lib.trimRightB_take _ 0 l.length (by simp) ?_ ?_, List.take_left']
  · rfl
  · intro j b hj hb
    rw [List.getElem?_append_right hj, List.getElem?_replicate] at hb
    split at hb
    · exact (Option.some.inj hb).symm
    · cases hb
  · intro b h0 hb hb0
    subst hb0
    rw [List.getElem?_append_left (by omega)] at hb
    exact hz h0 hb
theorem uN_of (n : Int) (h0 : 0 ≤ n) (h : n < 18446744073709551616) : uN n = n.toNat := by
  unfold uN
  congr 1
  unfold IntKind.wrap
  simp [IntKind.signed, IntKind.bits]
  omega
theorem body_parts (nm : ByteArray) (i : Img) : bodyB nm i = [87, 76, 77, 49] ++ (padTo nm.data.toList 16 ++ (be (uN i.v) 4 ++ (be (uN i.s) 4 ++ padTo i.d 32))) := by
  unfold bodyB
  simp only [List.append_assoc, List.nil_append]
  rfl
theorem body_back (nm : ByteArray) (i : Img) (hi : i.d.length = 32) (hn : validN nm = true) (hv : 1 ≤ i.v ∧ i.v ≤ 1073741824) (hs : 1 ≤ i.s ∧ i.s ≤ 1073741824) : Lim1 (nm, i) true := by
  obtain ⟨hl, hz⟩ := validN_len nm hn
  have hll : nm.data.toList.length = nm.size := Array.length_toList
  have e1 : (bodyB nm i).take 4 = [87, 76, 77, 49] := by rw [body_parts]; rfl
  have e2 : ((bodyB nm i).drop 4).take 16 = padTo nm.data.toList 16 := by
    rw [body_parts]
    show (padTo nm.data.toList 16 ++ _).take 16 = _
    exact List.take_left' (padTo_len _ _)
  have e3 : ((bodyB nm i).drop 20).take 4 = be (uN i.v) 4 := by
    rw [body_parts, show (20 : Nat) = 4 + 16 from rfl, ← List.drop_drop]
    show ((padTo nm.data.toList 16 ++ _).drop 16).take 4 = _
    rw [List.drop_left' (padTo_len _ _)]
    exact List.take_left' (be_len _ _)
  have e4 : ((bodyB nm i).drop 24).take 4 = be (uN i.s) 4 := by
    rw [body_parts, show (24 : Nat) = 4 + (16 + 4) from rfl, ← List.drop_drop, ← List.drop_drop]
    show (((padTo nm.data.toList 16 ++ _).drop 16).drop 4).take 4 = _
    rw [List.drop_left' (padTo_len _ _), List.drop_left' (be_len _ _)]
    exact List.take_left' (be_len _ _)
  have e5 : ((bodyB nm i).drop 28).take 32 = i.d := by
    rw [body_parts, show (28 : Nat) = 4 + (16 + (4 + 4)) from rfl, ← List.drop_drop, ← List.drop_drop, ← List.drop_drop]
    show ((((padTo nm.data.toList 16 ++ _).drop 16).drop 4).drop 4).take 32 = _
    rw [List.drop_left' (padTo_len _ _), List.drop_left' (be_len _ _), List.drop_left' (be_len _ _), List.take_of_length_le (by rw [padTo_len]; exact Nat.le_refl _)]
    unfold padTo
    rw [List.take_of_length_le (by omega), show 32 - i.d.length = 0 by omega]
    simp
  have en : mName (bodyB nm i) = nm.data.toList := by
    unfold mName
    rw [e2]
    exact trim_pad _ (by omega) (by rw [hll]; exact hz)
  have hnm : (⟨(mName (bodyB nm i)).toArray⟩ : ByteArray) = nm := by rw [en]
  have ei : mImg (bodyB nm i) = i := by
    unfold mImg
    rw [e3, e4, e5, ofBe_be4 _ (by rw [uN_of _ (by omega) (by omega)]; omega), ofBe_be4 _ (by rw [uN_of _ (by omega) (by omega)]; omega), uN_of _ (by omega) (by omega), uN_of _ (by omega) (by omega), Int.toNat_of_nonneg (by omega), Int.toNat_of_nonneg (by omega)]
  refine ⟨hi, by show nm.size ≤ 100; omega, ?_, fun _ => ⟨hnm, ei⟩⟩
  show mOk (bodyB nm i) = true
  unfold mOk
  rw [e1, hnm, ei, hn]
  unfold mNum
  simp [hv.1, hv.2, hs.1, hs.2]
end Go.Proofs.YtpafenlcgcenlaaGreatDoor
