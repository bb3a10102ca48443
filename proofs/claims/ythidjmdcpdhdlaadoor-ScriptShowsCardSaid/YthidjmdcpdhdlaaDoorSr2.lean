/- The reference's number. -/
import Derived.Test.YthidjmdcpdhdlaaDoorSr1
namespace Go.Proofs.YthidjmdcpdhdlaaDoor
open Go Go.RowKit
set_option linter.unusedVariables false
set_option linter.unusedSimpArgs false
def numF (l : List UInt8) : Nat := l.foldl (fun n b => n * 10 + (b.toNat - 48)) 0
theorem numF_snoc (l : List UInt8) (b : UInt8) : numF (l ++ [b]) = numF l * 10 + (b.toNat - 48) := by unfold numF; rw [List.foldl_append]; rfl
theorem decL_digits : ∀ (n : Nat), ∀ b ∈ decL n, 48 ≤ b.toNat ∧ b.toNat ≤ 57 := by
  intro n
  induction n using Nat.strongRecOn with
  | ind n ih =>
    intro b hb
    rw [decL] at hb
    split at hb
    · rcases List.mem_append.1 hb with hb | hb
      · exact ih (n / 10) (by omega) b hb
      · simp only [List.mem_cons, List.not_mem_nil, or_false] at hb
        subst hb
        rw [UInt8.toNat_ofNat']; omega
    · simp only [List.mem_cons, List.not_mem_nil, or_false] at hb
      subst hb
      rw [UInt8.toNat_ofNat']; omega
theorem numF_dec : ∀ n : Nat, numF (decL n) = n := by
  intro n
  induction n using Nat.strongRecOn with
  | ind n ih =>
    rw [decL]
    split
    · rw [numF_snoc, ih (n / 10) (by omega), UInt8.toNat_ofNat']; omega
    · show 0 * 10 + ((UInt8.ofNat (48 + n)).toNat - 48) = n
      rw [UInt8.toNat_ofNat']; omega
/-- What a word says that is a number; -1: none. -/
def rnumI (l : List UInt8) : Int := match numS l with | Option.some n => (n : Int) | Option.none => -1
theorem rnum_bad {l : List UInt8} (h : ∀ n : Nat, n ≤ 2147483647 → decL n ≠ l) : rnumI l = -1 := by
  unfold rnumI
  cases hn : numS l with
  | none => rfl
  | some n => obtain ⟨h1, h2⟩ := dec_numS hn; exact absurd h1 (h n h2)
theorem rnum_good {n : Nat} (hn : n ≤ 2147483647) : rnumI (decL n) = n := by unfold rnumI; rw [numS_dec n hn]
set_option maxRecDepth 100000 in
set_option maxHeartbeats 4000000 in
theorem rnumber_c (s : ByteArray) (hs : s.size ≤ 1000000) (w : World) : Calls Tryd.prog 29 #[.string s] w fun e w' => e = .returned (.int .i64 (rnumI s.data.toList)) ∧ Below w.heap.size w w' := by
  have hll : s.data.toList.length = s.size := Array.length_toList
  have HLL := Lib.hid hll
  obtain ⟨V, hV⟩ : ∃ V, rnumI s.data.toList = V := ⟨_, rfl⟩
  rw [hV]
  have HV := Lib.hid hV
  clear hll hV
  go_enter Tryd.func29, Tryd.ntmps29
  go_wp2_with fail
  go_loopw [3, 4] (fun z i wr => ∃ (k n : Nat), z = .int .i64 n ∧ i = .int .i64 k ∧ numF (s.data.toList.take k) = n ∧ n < 10 ^ k ∧ k ≤ 10 ∧ k ≤ s.size ∧ wr = w) (fun _ i wr => (match i with | .int _ x => (s.size : Int) - x | _ => 0).toNat)
  case atStart =>
    exact ⟨0, 0, rfl, rfl, rfl, by decide, Nat.zero_le _, Nat.zero_le _, rfl⟩
  case round =>
    obtain ⟨k, n, rfl, rfl, hnf, hn10, hk10, hks, rfl⟩ := hrel
    have HNF := Lib.hid hnf
    clear hnf
    have hpow : n < 10000000000 := Nat.lt_of_lt_of_le hn10 (Nat.pow_le_pow_right (by decide) hk10)
    by_cases hk : k < s.size
    · have htk := take_succ s k hk
      obtain ⟨b, hb⟩ : ∃ b, s[k]'hk = b := ⟨_, rfl⟩
      rw [hb] at htk
      have hbn : (s[k]'hk).toNat = b.toNat := by rw [hb]
      have hmem : b ∈ s.data.toList := by
        have : b ∈ s.data.toList.take (k + 1) := by rw [htk]; simp
        exact List.mem_of_mem_take this
      have HTK := Lib.hid htk
      have HMEM := Lib.hid hmem
      clear htk hmem
      by_cases h1 : b.toNat < 48
      · have hv : V = -1 := by rw [← HV.out]; exact rnum_bad (fun m hm e => by have := decL_digits m b (by rw [e]; exact HMEM.out); omega)
        subst hv
        have h1i : ((s[k]'hk).toNat : Int) < 48 := by omega
        clear hb
        go_wp2_with fail
        go_ret
        exact ⟨rfl, Below.refl _ _⟩
      have h1i : ¬ ((s[k]'hk).toNat : Int) < 48 := by omega
      by_cases h2 : 57 < b.toNat
      · have hv : V = -1 := by rw [← HV.out]; exact rnum_bad (fun m hm e => by have := decL_digits m b (by rw [e]; exact HMEM.out); omega)
        subst hv
        have h2i : ((s[k]'hk).toNat : Int) > 57 := by omega
        clear hb
        go_wp2_with fail
        go_ret
        exact ⟨rfl, Below.refl _ _⟩
      have h2i : ¬ ((s[k]'hk).toNat : Int) > 57 := by omega
      by_cases h3 : 9 < k
      · have hv : V = -1 := by rw [← HV.out]; exact rnum_bad (fun m hm e => by have h4 := decL_small m hm; rw [e, HLL.out] at h4; omega)
        subst hv
        have h3i : (k : Int) > 9 := by omega
        clear hb
        go_wp2_with fail
        go_ret
        exact ⟨rfl, Below.refl _ _⟩
      have h3i : ¬ (k : Int) > 9 := by omega
      have hn9 : n < 1000000000 := Nat.lt_of_lt_of_le hn10 (Nat.le_trans (Nat.pow_le_pow_right (by decide) (by omega : k ≤ 9)) (by decide))
      have hsub : ((s[k]'hk).toNat : Int) - 48 = ((b.toNat - 48 : Nat) : Int) := by omega
      have hnn : numF (s.data.toList.take (k + 1)) = n * 10 + (b.toNat - 48) := by rw [HTK.out, numF_snoc, HNF.out]
      have HNN := Lib.hid hnn
      have hpw : n * 10 + (b.toNat - 48) < 10 ^ (k + 1) := by rw [Nat.pow_succ]; omega
      have HPW := Lib.hid hpw
      clear hb hnn hpw hn10
      go_wp2_with fail
      go_roundw
      case rel =>
        refine ⟨k + 1, n * 10 + (b.toNat - 48), ?_, rfl, HNN.out, HPW.out, by omega, hk, trivial⟩
        congr 1
        omega
      case measure =>
        dsimp only
        omega
    · have hall : s.data.toList.take k = s.data.toList := List.take_of_length_le (by rw [HLL.out]; omega)
      rw [hall] at HNF
      clear hall
      by_cases h0 : s.size = 0
      · have hnil : s.data.toList = [] := List.eq_nil_of_length_eq_zero (by rw [HLL.out]; exact h0)
        have hS : s = ⟨#[]⟩ := ByteArray.ext (Array.toList_inj.mp hnil)
        have hv : V = -1 := by rw [← HV.out, hnil]; rfl
        subst hv hS
        clear hnil HNF HLL HV h0 hk hks hs
        go_wp2_with fail
        go_ret
        exact ⟨rfl, Below.refl _ _⟩
      have hne : ¬ s.data.toList = [] := fun e => h0 (by rw [← HLL.out, e]; rfl)
      have hn1 : ¬ s.toList = [] := by rw [ByteArray.toList_eq]; exact hne
      have hn2 : s.toList.isEmpty = false := by rw [List.isEmpty_eq_false_iff]; exact hn1
      have hn3 : (s.toList == []) = false := by rw [beq_eq_false_iff_ne]; exact hn1
      clear hne
      by_cases hmx : n ≤ 2147483647
      · have hmb : (decide (0 ≤ (n : Int)) && decide ((n : Int) ≤ 2147483647)) = true := by simp only [Bool.and_eq_true, decide_eq_true_eq]; omega
        by_cases hd : decL n = s.data.toList
        · have hv : V = n := by rw [← HV.out, ← hd]; exact rnum_good hmx
          subst hv
          have hse : s = ⟨(decL n).toArray⟩ := ByteArray.ext (Array.toList_inj.mp (by rw [← hd]))
          have hrd := rdec_c n (by omega) wr
          rw [← hse] at hrd
          clear hd HNF HLL HV hse
          go_wp2_with (go_at_call 17; refine (rmay21_c _ _).mono ?_; rw [hmb]; rintro e w' ⟨rfl, rfl⟩)
          refine hrd.mono ?_
          rintro e w1 ⟨rfl, hb1⟩
          have HB1 := Lib.hid hb1
          clear hb1 hrd
          go_wp2_with fail
          go_ret
          exact ⟨rfl, HB1.out⟩
        · have hv : V = -1 := by rw [← HV.out]; exact rnum_bad (fun m hm e => hd (by rw [← e, ← HNF.out, ← e, numF_dec]))
          subst hv
          have hrd := rdec_c n (by omega) wr
          obtain ⟨D, hD⟩ : ∃ D : ByteArray, (⟨(decL n).toArray⟩ : ByteArray) = D := ⟨_, rfl⟩
          rw [hD] at hrd
          have hdn : ¬ D.toList = s.toList := by rw [← hD, ByteArray.toList_eq, ByteArray.toList_eq]; exact hd
          have hdb : (D.toList == s.toList) = false := by rw [beq_eq_false_iff_ne]; exact hdn
          clear hd HNF HLL HV hD
          go_wp2_with (go_at_call 17; refine (rmay21_c _ _).mono ?_; rw [hmb]; rintro e w' ⟨rfl, rfl⟩)
          refine hrd.mono ?_
          rintro e w1 ⟨rfl, hb1⟩
          have HB1 := Lib.hid hb1
          clear hb1 hrd
          go_wp2_with fail
          go_ret
          exact ⟨rfl, HB1.out⟩
      · have hmb : (decide (0 ≤ (n : Int)) && decide ((n : Int) ≤ 2147483647)) = false := by rw [Bool.and_eq_false_iff]; exact .inr (decide_eq_false (by omega))
        have hv : V = -1 := by rw [← HV.out]; exact rnum_bad (fun m hm e => hmx (by rw [← HNF.out, ← e, numF_dec]; exact hm))
        subst hv
        clear HNF HLL HV
        go_wp2_with (go_at_call 17; refine (rmay21_c _ _).mono ?_; rw [hmb]; rintro e w' ⟨rfl, rfl⟩)
        go_ret
        exact ⟨rfl, Below.refl _ _⟩
end Go.Proofs.YthidjmdcpdhdlaaDoor
