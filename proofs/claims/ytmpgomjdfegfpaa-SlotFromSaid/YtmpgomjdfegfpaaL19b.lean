/- waterlinelaw19.SlotFrom: no two chunks lie in one sector, and none in the ring. -/
import Derived.Test.YtmpgomjdfegfpaaL19a
namespace Go.Proofs.Ytmpgomjdfegfpaa
open Go.RowKit
set_option linter.unusedVariables false
set_option linter.unusedSimpArgs false
set_option maxRecDepth 100000 in
set_option maxHeartbeats 1000000 in
theorem slotFrom_off (n a i b k : Int) (w : World) (hg : n < 1 ∨ 6 < n ∨ a < 0 ∨ 1 < a ∨ b < 0 ∨ 1 < b ∨ i < 0 ∨ n ≤ i ∨ k < 0 ∨ n ≤ k) :
    Calls Try.prog 5 #[.int .i64 n, .int .i64 a, .int .i64 i, .int .i64 b, .int .i64 k] w fun e w' => e = .returned (.bool true) ∧ Below w.heap.size w w' := by
  by_cases g0 : n < 1
  · clear hg
    go_enter Try.func5, Try.ntmps5
    go_wp2_with (go_at_call 11; refine (alive19_c _).mono ?_; rintro e w1 ⟨rfl, hb⟩)
    go_ret
    exact ⟨rfl, hb⟩
  · by_cases g1 : 6 < n
    · clear hg
      go_enter Try.func5, Try.ntmps5
      go_wp2_with (go_at_call 11; refine (alive19_c _).mono ?_; rintro e w1 ⟨rfl, hb⟩)
      go_ret
      exact ⟨rfl, hb⟩
    · by_cases g2 : a < 0
      · clear hg
        go_enter Try.func5, Try.ntmps5
        go_wp2_with (go_at_call 11; refine (alive19_c _).mono ?_; rintro e w1 ⟨rfl, hb⟩)
        go_ret
        exact ⟨rfl, hb⟩
      · by_cases g3 : 1 < a
        · clear hg
          go_enter Try.func5, Try.ntmps5
          go_wp2_with (go_at_call 11; refine (alive19_c _).mono ?_; rintro e w1 ⟨rfl, hb⟩)
          go_ret
          exact ⟨rfl, hb⟩
        · by_cases g4 : b < 0
          · clear hg
            go_enter Try.func5, Try.ntmps5
            go_wp2_with (go_at_call 11; refine (alive19_c _).mono ?_; rintro e w1 ⟨rfl, hb⟩)
            go_ret
            exact ⟨rfl, hb⟩
          · by_cases g5 : 1 < b
            · clear hg
              go_enter Try.func5, Try.ntmps5
              go_wp2_with (go_at_call 11; refine (alive19_c _).mono ?_; rintro e w1 ⟨rfl, hb⟩)
              go_ret
              exact ⟨rfl, hb⟩
            · by_cases g6 : i < 0
              · clear hg
                go_enter Try.func5, Try.ntmps5
                go_wp2_with (go_at_call 11; refine (alive19_c _).mono ?_; rintro e w1 ⟨rfl, hb⟩)
                go_ret
                exact ⟨rfl, hb⟩
              · by_cases g7 : n ≤ i
                · clear hg
                  go_enter Try.func5, Try.ntmps5
                  go_wp2_with (go_at_call 11; refine (alive19_c _).mono ?_; rintro e w1 ⟨rfl, hb⟩)
                  go_ret
                  exact ⟨rfl, hb⟩
                · by_cases g8 : k < 0
                  · clear hg
                    go_enter Try.func5, Try.ntmps5
                    go_wp2_with (go_at_call 11; refine (alive19_c _).mono ?_; rintro e w1 ⟨rfl, hb⟩)
                    go_ret
                    exact ⟨rfl, hb⟩
                  · have g9 : n ≤ k := by omega
                    clear hg
                    go_enter Try.func5, Try.ntmps5
                    go_wp2_with (go_at_call 11; refine (alive19_c _).mono ?_; rintro e w1 ⟨rfl, hb⟩)
                    go_ret
                    exact ⟨rfl, hb⟩
theorem fromS_in {s k n : Int} (h : 0 ≤ s ∧ s ≤ 1 ∧ 1 ≤ n ∧ n ≤ 6 ∧ 0 ≤ k ∧ k < n) : (s = 0 → fromS s k n = 4 + k) ∧ (s = 1 → fromS s k n = 4 + n + k) := by
  unfold fromS
  rw [if_neg (by omega)]
  constructor <;> rintro rfl <;> omega
theorem fromS_out {s k n : Int} (h : s < 0 ∨ 1 < s ∨ n < 1 ∨ 6 < n ∨ k < 0 ∨ n ≤ k) : fromS s k n = -1 := if_pos h
set_option maxRecDepth 100000 in
set_option maxHeartbeats 1000000 in
theorem slotFrom_c (n a i b k : Int) (w : World) : Calls Try.prog 5 #[.int .i64 n, .int .i64 a, .int .i64 i, .int .i64 b, .int .i64 k] w fun e w' => e = .returned (.bool true) ∧ Below w.heap.size w w' := by
  by_cases hg : n < 1 ∨ 6 < n ∨ a < 0 ∨ 1 < a ∨ b < 0 ∨ 1 < b ∨ i < 0 ∨ n ≤ i ∨ k < 0 ∨ n ≤ k
  · exact slotFrom_off n a i b k w hg
  · obtain ⟨fr, hfr⟩ : ∃ fr : Int → Int → Int → Int, fromS = fr := ⟨_, rfl⟩
    have hf : ∀ s k n w, Calls Try.prog 20 #[.int .i64 s, .int .i64 k, .int .i64 n] w fun e w' => e = .returned (.int .i64 (fr s k n)) ∧ w = w' := fun s k n w => hfr ▸ from_c s k n w
    have hx0 := fromS_in (s := a) (k := i) (n := n) (by omega)
    have hy0 := fromS_in (s := b) (k := k) (n := n) (by omega)
    have e1 := fromS_out (s := a) (k := n) (n := n) (by omega)
    have e2 := fromS_out (s := 2) (k := i) (n := n) (by omega)
    have e3 := fromS_out (s := a) (k := -1) (n := n) (by omega)
    rw [hfr] at hx0 hy0 e1 e2 e3
    clear hfr
    have g1 : 4 ≤ fr a i n := by omega
    have g2 : fr a i n < 4 + 2 * n := by omega
    have c0 : ¬ n < 1 := by omega
    have c1 : ¬ 6 < n := by omega
    have c2 : ¬ a < 0 := by omega
    have c3 : ¬ 1 < a := by omega
    have c4 : ¬ b < 0 := by omega
    have c5 : ¬ 1 < b := by omega
    have c6 : ¬ i < 0 := by omega
    have c7 : ¬ n ≤ i := by omega
    have c8 : ¬ k < 0 := by omega
    have c9 : ¬ n ≤ k := by omega
    clear hg
    by_cases h1 : a = b
    · subst h1
      have k1 : (a == a) = true := by simp
      by_cases h2 : i = k
      · subst h2
        have k2 : (i == i) = true := by simp
        have k3 : (fr a i n == fr a i n) = true := by simp
        clear hx0 hy0
        go_enter Try.func5, Try.ntmps5
        go_wp2_with (first | (go_at_call 11; refine (alive19_c _).mono ?_; rintro e w1 ⟨rfl, hb⟩) | (go_at_call 20; refine (hf _ _ _ _).mono ?_; rintro e w' ⟨rfl, rfl⟩))
        go_ret
        exact ⟨rfl, hb⟩
      · have k2 : (i == k) = false := by rw [beq_eq_false_iff_ne]; exact h2
        have k3 : (fr a i n == fr a k n) = false := by rw [beq_eq_false_iff_ne]; omega
        clear hx0 hy0
        go_enter Try.func5, Try.ntmps5
        go_wp2_with (first | (go_at_call 11; refine (alive19_c _).mono ?_; rintro e w1 ⟨rfl, hb⟩) | (go_at_call 20; refine (hf _ _ _ _).mono ?_; rintro e w' ⟨rfl, rfl⟩))
        go_ret
        exact ⟨rfl, hb⟩
    · have k1 : (a == b) = false := by rw [beq_eq_false_iff_ne]; exact h1
      have k3 : (fr a i n == fr b k n) = false := by rw [beq_eq_false_iff_ne]; omega
      clear hx0 hy0
      go_enter Try.func5, Try.ntmps5
      go_wp2_with (first | (go_at_call 11; refine (alive19_c _).mono ?_; rintro e w1 ⟨rfl, hb⟩) | (go_at_call 20; refine (hf _ _ _ _).mono ?_; rintro e w' ⟨rfl, rfl⟩))
      go_ret
      exact ⟨rfl, hb⟩
end Go.Proofs.Ytmpgomjdfegfpaa
