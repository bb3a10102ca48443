/- waterlinelaw17.UpdateChunks: an image's chunks are as long as it, each a sector, but for the last one. -/
import Derived.Test.YtpbdglocfjbbfaaDoorL17a
namespace Go.Proofs.YtpbdglocfjbbfaaDoor
open Go Go.RowKit
set_option linter.unusedVariables false
set_option linter.unusedSimpArgs false
theorem chunk_facts (z k K : Int) (h0 : 0 ≤ z) (hK : chunksZ z = K) (hk : 0 ≤ k) (hlt : k < K) : ∃ n, lenZ z k = n ∧ 1 ≤ n ∧ n ≤ 320 ∧ (k < K - 1 → n = 320) ∧ min (320 * k) z + n = min (320 * (k + 1)) z := by
  unfold lenZ
  rw [hK, if_neg (by omega)]
  unfold chunksZ at hK
  refine ⟨_, rfl, ?_⟩
  split at hK
  · omega
  · omega
theorem len_out (z : Int) (n : Int) (h : n < 0 ∨ chunksZ z ≤ n) : lenZ z n = 0 := by
  unfold lenZ
  rw [if_pos h]
set_option maxRecDepth 100000 in
set_option maxHeartbeats 8000000 in
theorem updateChunks_c (z : Int) (hz : -9223372036854775808 ≤ z ∧ z ≤ 9223372036854775807) (w : World) : Calls Tryd.prog 8 #[.int .i64 z] w fun e w' => e = .returned (.bool true) ∧ Below w.heap.size w w' := by
  by_cases h0 : z < 0
  · go_enter Tryd.func8, Tryd.ntmps8
    go_wp2_with fail
    refine (alive17_c w).mono ?_
    rintro e w1 ⟨rfl, hb1⟩
    go_wp2_with fail
    go_ret
    exact ⟨rfl, hb1⟩
  by_cases h1 : 5000 < z
  · go_enter Tryd.func8, Tryd.ntmps8
    go_wp2_with fail
    refine (alive17_c w).mono ?_
    rintro e w1 ⟨rfl, hb1⟩
    go_wp2_with fail
    go_ret
    exact ⟨rfl, hb1⟩
  obtain ⟨K, hK⟩ : ∃ K, chunksZ z = K := ⟨_, rfl⟩
  have hKb : 0 ≤ K ∧ K ≤ z ∧ K ≤ 16 := by unfold chunksZ at hK; split at hK <;> omega
  have hKz : z ≤ 320 * K := by unfold chunksZ at hK; split at hK <;> omega
  have hch : ∀ w, Calls Tryd.prog 12 #[.int .i64 z] w fun e w' => e = .returned (.int .i64 K) ∧ w = w' := fun w => hK ▸ uchunks_c z hz w
  have hln : ∀ k n, lenZ z k = n → ∀ w, Calls Tryd.prog 14 #[.int .i64 z, .int .i64 k] w fun e w' => e = .returned (.int .i64 n) ∧ w = w' := fun k n hn w => hn ▸ ulen_c z k hz w
  have hcf := fun k => chunk_facts z k K (by omega) hK
  have hl1 := len_out z K (Or.inr (by rw [hK]; exact Int.le_refl _))
  have hl2 := len_out z (-1) (Or.inl (by omega))
  have HCH := Lib.hid hch
  have HLN := Lib.hid hln
  have HCF := Lib.hid hcf
  have HL1 := Lib.hid hl1
  have HL2 := Lib.hid hl2
  have HKB := Lib.hid hKb
  have HKZ := Lib.hid hKz
  have k0 : 0 ≤ K := hKb.1
  have k1 : K ≤ z := hKb.2.1
  clear hch hln hcf hl1 hl2 hKb hKz hK
  go_enter Tryd.func8, Tryd.ntmps8
  go_wp2_with fail
  refine (alive17_c w).mono ?_
  rintro e w1 ⟨rfl, hb1⟩
  go_wp2_with fail
  refine (HCH.out _).mono ?_
  rintro e w2 ⟨rfl, rfl⟩
  have HB := Lib.hid hb1
  clear hb1
  go_wp2_with fail
  go_loopw [5, 6] (fun a i wr => ∃ k : Nat, (k : Int) ≤ K ∧ i = .int .i64 k ∧ a = .int .i64 (min (320 * (k : Int)) z) ∧ w1 = wr) (fun _ i _ => (K - intOf i).toNat)
  case atStart => exact ⟨0, k0, rfl, by rw [show min (320 * ((0 : Nat) : Int)) z = 0 by omega], rfl⟩
  case round =>
    obtain ⟨k, hk, rfl, rfl, rfl⟩ := hrel
    by_cases hlt : (k : Int) < K
    · obtain ⟨n, hn, n1, n2, n3, hsum⟩ := HCF.out k (by omega) hlt
      have HN := Lib.hid hn
      have HSUM := Lib.hid hsum
      have hw1 : IntKind.i64.wrap (min (320 * (k : Int)) z + n) = min (320 * (k : Int)) z + n := IntWalk.i64_in _ (by omega)
      have hw2 : IntKind.i64.wrap ((k : Int) + 1) = (k : Int) + 1 := IntWalk.i64_in _ (by have := HKB.out; omega)
      have hw3 : IntKind.i64.wrap (K - 1) = K - 1 := IntWalk.i64_in _ (by have := HKB.out; omega)
      obtain ⟨A, hA⟩ : ∃ A, min (320 * (k : Int)) z = A := ⟨_, rfl⟩
      rw [hA] at hw1 ⊢
      have HA := Lib.hid hA
      clear hn hsum hA
      by_cases h3 : (k : Int) < K - 1
      · obtain rfl : n = 320 := n3 h3
        clear n1 n2 n3
        go_wp2_with fail
        refine (HLN.out _ _ HN.out _).mono ?_
        rintro e w2 ⟨rfl, rfl⟩
        go_wp2_with fail
        go_roundw
        case rel => exact ⟨k + 1, by omega, by go_num, by rw [← HA.out, HSUM.out]; congr 2, trivial⟩
        case measure => simp [intOf]; omega
      · clear n3
        go_wp2_with fail
        refine (HLN.out _ _ HN.out _).mono ?_
        rintro e w2 ⟨rfl, rfl⟩
        go_wp2_with fail
        go_roundw
        case rel => exact ⟨k + 1, by omega, by go_num, by rw [← HA.out, HSUM.out]; congr 2, trivial⟩
        case measure => simp [intOf]; omega
    · have hkK : (k : Int) = K := by omega
      have hmin : min (320 * (k : Int)) z = z := by have := HKZ.out; omega
      rw [hmin]
      clear hmin
      go_wp2_with fail
      refine (HLN.out _ _ HL1.out _).mono ?_
      rintro e w2 ⟨rfl, rfl⟩
      go_wp2_with fail
      refine (HLN.out _ _ HL2.out _).mono ?_
      rintro e w3 ⟨rfl, rfl⟩
      go_wp2_with fail
      go_ret
      exact ⟨rfl, HB.out⟩
end Go.Proofs.YtpbdglocfjbbfaaDoor
