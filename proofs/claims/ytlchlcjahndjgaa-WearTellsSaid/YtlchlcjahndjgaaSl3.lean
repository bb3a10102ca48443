/- slot.Image. -/
import Derived.Test.YtlchlcjahndjgaaSl2
namespace Go.Proofs.Ytlchlcjahndjgaa
open Go.RowKit
set_option linter.unusedVariables false
set_option linter.unusedSimpArgs false
namespace Ar
/-- The first bytes of a slot: chunk by chunk. -/
def imgGo (R : Ar) (F : Fl) (s n : Int) (size : Nat) : Nat → Nat → List UInt8 → List UInt8
  | 0, _, out => out
  | f + 1, k, out => if size ≤ out.length then out else if R.read F (fromS s k n) 0 (min 320 ((size : Int) - out.length)) = [] then [] else imgGo R F s n size f (k + 1) (out ++ R.read F (fromS s k n) 0 (min 320 ((size : Int) - out.length)))
def image (R : Ar) (F : Fl) (s n size : Int) : List UInt8 := if fromS s 0 n = -1 ∨ size < 1 ∨ n * 320 < size then [] else R.imgGo F s n size.toNat (size.toNat + 1) 0 []
theorem imgGo_lt (R : Ar) (F : Fl) (s n : Int) (z f k : Nat) (out b : List UInt8) (h : out.length < z) (hb : R.read F (fromS s k n) 0 (min 320 ((z : Int) - out.length)) = b) :
    R.imgGo F s n z (f + 1) k out = if b = [] then [] else R.imgGo F s n z f (k + 1) (out ++ b) := by
  subst hb
  show (if z ≤ out.length then out else _) = _
  rw [if_neg (by omega)]
theorem imgGo_ge (R : Ar) (F : Fl) (s n : Int) (z f k : Nat) (out : List UInt8) (h : z ≤ out.length) : R.imgGo F s n z (f + 1) k out = out := by
  show (if z ≤ out.length then out else _) = _
  rw [if_pos h]
theorem read_le (R : Ar) (F : Fl) (s a n : Int) : (R.read F s a n).length ≤ n.toNat := by
  unfold Ar.read Fl.read
  split
  · split
    · simp; omega
    · simp
  · simp
end Ar
theorem fromS_ok {s n : Int} (h : ¬ fromS s 0 n = -1) : 1 ≤ n ∧ n ≤ 6 := by
  unfold fromS at h
  split at h
  · exact absurd rfl h
  · omega
section
variable {w0 w : World} {ab fb bb wb : Nat} {R : Ar} {F : Fl}
set_option maxHeartbeats 1000000 in
theorem image_h (s n size : Int) (hsz : size ≤ 9223372036854775807) (L : List UInt8) (hL : R.image F s n size = L) (h : HasA w0 w ab fb bb wb R F) :
    Calls Try.prog 51 #[ptr ab, .int .i64 s, .int .i64 n, .int .i64 size] w fun e w' => ∃ A c, e = .returned (.slice A L.length c) ∧ w'.ownsRow w.heap.size 5 1 (.slice A L.length c) L.length (L.map u8v) ∧ HasA w0 w' ab fb bb wb R F ∧ Below w.heap.size w w' := by
  have H := Lib.hid h
  clear h
  by_cases h1 : fromS s 0 n = -1
  · have hfr : ∀ w, Calls Try.prog 47 #[.int .i64 s, .int .i64 0, .int .i64 n] w fun e w' => e = .returned (.int .i64 (-1)) ∧ w = w' := fun w => h1 ▸ from_c s 0 n w
    have k1 : R.image F s n size = [] := by unfold Ar.image; rw [if_pos (Or.inl h1)]
    obtain rfl := hL.symm.trans k1
    clear h1 k1 hL
    go_enter Try.func51, Try.ntmps51
    go_wp2_with (go_at_call 47; refine (hfr _).mono ?_; rintro e w' ⟨rfl, rfl⟩)
    go_ret
    exact ⟨none, 0, rfl, World.ownsRow_nil _ _ _ _, H.out, Below.refl _ _⟩
  · obtain ⟨n1, n2⟩ := fromS_ok h1
    obtain ⟨x0, hx0⟩ : ∃ x, fromS s 0 n = x := ⟨_, rfl⟩
    have hfr : ∀ w, Calls Try.prog 47 #[.int .i64 s, .int .i64 0, .int .i64 n] w fun e w' => e = .returned (.int .i64 x0) ∧ w = w' := fun w => hx0 ▸ from_c s 0 n w
    have hd0 : (x0 == -1) = false := by rw [beq_eq_false_iff_ne, ← hx0]; exact h1
    by_cases h2 : size < 1
    · have k1 : R.image F s n size = [] := by unfold Ar.image; rw [if_pos (Or.inr (Or.inl h2))]
      obtain rfl := hL.symm.trans k1
      clear h1 k1 hL hx0
      go_enter Try.func51, Try.ntmps51
      go_wp2_with (go_at_call 47; refine (hfr _).mono ?_; rintro e w' ⟨rfl, rfl⟩)
      go_ret
      exact ⟨none, 0, rfl, World.ownsRow_nil _ _ _ _, H.out, Below.refl _ _⟩
    · have e1 : IntKind.i64.wrap (n * 320) = n * 320 := IntWalk.i64_in _ (by omega)
      by_cases h3 : n * 320 < size
      · have k1 : R.image F s n size = [] := by unfold Ar.image; rw [if_pos (Or.inr (Or.inr h3))]
        obtain rfl := hL.symm.trans k1
        clear h1 k1 hL hx0
        go_enter Try.func51, Try.ntmps51
        go_wp2_with (go_at_call 47; refine (hfr _).mono ?_; rintro e w' ⟨rfl, rfl⟩)
        go_ret
        exact ⟨none, 0, rfl, World.ownsRow_nil _ _ _ _, H.out, Below.refl _ _⟩
      · have k1 : R.image F s n size = R.imgGo F s n size.toNat (size.toNat + 1) 0 [] := by unfold Ar.image; rw [if_neg (by omega)]
        have k2 := k1.symm.trans hL
        clear k1 hL h1 hx0
        obtain ⟨z, rfl⟩ : ∃ z : Nat, size = (z : Int) := ⟨size.toNat, by omega⟩
        have hz : z ≤ 1920 := by omega
        have k3 : R.imgGo F s n z (z + 1) 0 [] = L := k2
        clear k2
        have K3 := Lib.hid k3
        clear k3
        obtain ⟨i0, hi, hz0, hz1, hz2⟩ := info_parts info_u8
        have HI := Lib.hid hi
        have HZ0 := Lib.hid hz0
        have HZ1 := Lib.hid hz1
        have HZ2 := Lib.hid hz2
        clear hi hz0 hz1 hz2
        have hd1 : decide ((z : Int) < 1) = false := by rw [decide_eq_false_iff_not]; omega
        have hd2 : decide (n * 320 < (z : Int)) = false := by rw [decide_eq_false_iff_not]; omega
        have hd3 : ¬ (z : Int) < 1 := by omega
        have hd4 : ¬ n * 320 < (z : Int) := by omega
        clear h2 h3
        go_enter Try.func51, Try.ntmps51
        go_wp2_with (go_at_call 47; refine (hfr _).mono ?_; rintro e w' ⟨rfl, rfl⟩)
        go_loopw [9, 10] (fun v i wr => ∃ (k f : Nat) (out : List UInt8) (A' : Option Addr) (c' : Nat), k ≤ out.length ∧ out.length ≤ z ∧ z < f + out.length ∧ R.imgGo F s n z f k out = L ∧ v = .slice A' out.length c' ∧ i = .int .i64 k ∧ wr.ownsRow w.heap.size 5 1 (.slice A' out.length c') out.length (out.map u8v) ∧ Below w.heap.size w wr) (fun _ i _ => z - (intOf i).toNat)
        case atStart => exact ⟨0, z + 1, [], none, 0, Nat.zero_le _, Nat.zero_le _, by simp, K3.out, rfl, rfl, World.ownsRow_nil _ _ _ _, Below.refl _ _⟩
        case round =>
          clear K3 hfr
          obtain ⟨k, f, out, A', c', hk, hoz, hf, hgo, rfl, rfl, hown, hbel⟩ := hrel
          have HO := Lib.hid hown
          have HB := Lib.hid hbel
          have hbs := hbel.size
          clear hown hbel
          by_cases hlt : out.length < z
          · obtain ⟨f', rfl⟩ : ∃ f', f = f' + 1 := ⟨f - 1, by omega⟩
            obtain ⟨x, hx⟩ : ∃ x, fromS s k n = x := ⟨_, rfl⟩
            obtain ⟨M, hM⟩ : ∃ M : Int, (if (z : Int) - out.length < 320 then (z : Int) - out.length else 320) = M := ⟨_, rfl⟩
            have hM2 : min 320 ((z : Int) - out.length) = M := by rw [← hM]; split <;> omega
            obtain ⟨b, hb⟩ : ∃ b, R.read F x 0 M = b := ⟨_, rfl⟩
            have hgo2 : (if b = [] then [] else R.imgGo F s n z f' (k + 1) (out ++ b)) = L := by
              rw [← hgo, R.imgGo_lt F s n z f' k out b hlt (by rw [hx, hM2]; exact hb)]
            have hbl : b.length ≤ z - out.length := by
              have := R.read_le F x 0 M
              rw [hb] at this; omega
            have hfr : ∀ w, Calls Try.prog 47 #[.int .i64 s, .int .i64 k, .int .i64 n] w fun e w' => e = .returned (.int .i64 x) ∧ w = w' := fun w => hx ▸ from_c s k n w
            have HBV := Lib.hid hb
            have hM3 : M ≤ 320 := by omega
            clear hgo hx hb hM2
            have e2 : IntKind.i64.wrap ((z : Int) - (out.length : Int)) = (z : Int) - out.length := IntWalk.i64_in _ (by omega)
            by_cases hb0 : b.length = 0
            · have hb1 : b = [] := List.eq_nil_of_length_eq_zero hb0
              rw [if_pos hb1] at hgo2
              subst hgo2
              subst hb1
              go_wp2_with (first | (go_at_call 47; refine (hfr _).mono ?_; rintro e w' ⟨rfl, rfl⟩) | (go_at_call 86; refine (aread_h x 0 _ (by omega) [] HBV.out (H.out.later HB.out)).mono ?_; rintro e w5 ⟨A5, c5, rfl, hown5, h5, hb5⟩))
              go_ret
              exact ⟨none, 0, rfl, World.ownsRow_nil _ _ _ _, h5, HB.out.trans (hb5.mono hbs)⟩
            · have hb1 : ¬ b = [] := fun hh => hb0 (by rw [hh]; rfl)
              rw [if_neg hb1] at hgo2
              have hd5 : ((b.length : Int) == 0) = false := by rw [beq_eq_false_iff_ne]; omega
              go_wp2_with (first | (go_at_call 47; refine (hfr _).mono ?_; rintro e w' ⟨rfl, rfl⟩) | (go_at_call 86; refine (aread_h x 0 _ (by omega) b HBV.out (H.out.later HB.out)).mono ?_; rintro e w5 ⟨A5, c5, rfl, hown5, h5, hb5⟩; have hs5 := hb5.size; have hl1 := HO.out.lt; have HO5 := Lib.hid (own_only HO.out (Only.of_below (S := []) hb5) (by simp)); have HB5 := Lib.hid (HB.out.trans (hb5.mono hbs)); have HW5 := Lib.hid hown5; clear hown5 h5 hb5) | (at_builtin; refine wpList_append_any _ rfl (.tmp 46) (.tmp 47) _ rfl w.heap.size 5 i0 (.int .u8 0) 1 Try.underlying29 HI.out HZ0.out HZ1.out HZ2.out rfl _ out.length (out.map u8v) rfl HO5.out A5 b.length c5 (b.map u8v) rfl (Reads.of_own HW5.out) (u8v_one _) (by unfold maxLen; omega) (by omega) (by omega) ?_; intro A6 c6 w6 hown6 hgrow6 hat6; have HO6 := Lib.hid hown6; have HG6 := Lib.hid hgrow6; clear hown6 hgrow6 hat6))
              go_roundw
              case rel =>
                refine ⟨k + 1, f', out ++ b, A6, c6, by simp; omega, by simp; omega, by simp; omega, hgo2, by simp, by go_num, ?_, HB5.out.grown HG6.out (by omega) (fun g hg => (hl1 g hg).1)⟩
                rw [List.map_append, List.length_append]
                exact HO6.out
              case measure => simp [intOf]; omega
          · obtain ⟨f', rfl⟩ : ∃ f', f = f' + 1 := ⟨f - 1, by omega⟩
            rw [R.imgGo_ge F s n z f' k out (by omega)] at hgo
            subst hgo
            go_wp2_with fail
            go_ret
            exact ⟨A', c', rfl, HO.out, H.out.later HB.out, HB.out⟩
end
end Go.Proofs.Ytlchlcjahndjgaa
