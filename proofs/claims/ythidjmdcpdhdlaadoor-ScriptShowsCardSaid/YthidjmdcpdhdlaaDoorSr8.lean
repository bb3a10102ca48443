/- The reference's Line. -/
import Derived.Test.YthidjmdcpdhdlaaDoorSr7
namespace Go.Proofs.YthidjmdcpdhdlaaDoor
open Go Go.RowKit
set_option linter.unusedVariables false
set_option linter.unusedSimpArgs false
theorem rdecq_c : ∀ (n : Nat), n ≤ 9223372036854775807 → ∀ w : World, Calls Tryd.prog 18 #[.int .i64 (n : Int)] w fun e w' => e = .returned (.string ⟨(decL n).toArray⟩) ∧ w = w' := by
  intro n
  induction n using Nat.strongRecOn with
  | ind n ih =>
    intro hn w
    have hk10 : n % 10 < 10 := by omega
    have hdd := decD_at ⟨n % 10, hk10⟩
    dsimp only at hdd
    have HDD := Lib.hid (show (⟨#[48, 49, 50, 51, 52, 53, 54, 55, 56, 57]⟩ : ByteArray).extract (n % 10) (n % 10 + 1) = ⟨#[UInt8.ofNat (48 + n % 10)]⟩ from hdd)
    clear hdd
    by_cases h9 : 9 < n
    · have q := ih (n / 10) (by omega) (by omega)
      have e : ((n / 10 : Nat) : Int) = (n : Int) / 10 := by omega
      rw [e] at q
      have hd : decL n = decL (n / 10) ++ [UInt8.ofNat (48 + n % 10)] := by rw [decL, dif_pos h9]
      have HD := Lib.hid hd
      clear ih e hd
      go_enter Tryd.func18, Tryd.ntmps18
      go_wp2_with fail
      refine (q _).mono ?_
      rintro e w1 ⟨rfl, rfl⟩
      have hlen := decL_len (n / 10)
      have hsum : (⟨(decL (n / 10)).toArray⟩ : ByteArray).size + ((⟨#[48, 49, 50, 51, 52, 53, 54, 55, 56, 57]⟩ : ByteArray).extract (n % 10) (n % 10 + 1)).size ≤ 9223372036854775807 := by
        rw [HDD.out]
        show (decL (n / 10)).toArray.size + 1 ≤ _
        rw [List.size_toArray]
        omega
      have hadd := fun W => run_string_add_sum (P := Tryd.prog) W _ _ hsum
      clear hsum hlen
      go_wp2_with fail
      go_ret
      refine ⟨?_, rfl⟩
      rw [HDD.out, HD.out]
      congr 2
      try (apply ByteArray.ext; simp [ByteArray.data_append])
    · have hd : decL n = [UInt8.ofNat (48 + n % 10)] := by rw [decL, dif_neg h9, show n % 10 = n from by omega]
      rw [hd]
      clear ih hd
      go_enter Tryd.func18, Tryd.ntmps18
      go_wp2_with fail
      go_ret
      refine ⟨?_, rfl⟩
      rw [HDD.out]
      rfl
end Go.Proofs.YthidjmdcpdhdlaaDoor
