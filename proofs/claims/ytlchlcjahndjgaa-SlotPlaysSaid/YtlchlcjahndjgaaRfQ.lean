/- The reference's ReadSlot; slot.Digest. -/
import Derived.Test.YtlchlcjahndjgaaRfP
import Derived.Test.YtlchlcjahndjgaaShaC
namespace Go.Proofs.Ytlchlcjahndjgaa
open Go Go.RowKit
set_option linter.unusedVariables false
set_option linter.unusedSimpArgs false
theorem Ar.read_full (R : Ar) (F : Fl) (ho : F.b.length = 320 * F.wear.length) (s a n : Int) (h : ¬ R.read F s a n = []) : (R.read F s a n).length = n.toNat := by
  unfold Ar.read Fl.read at h ⊢
  by_cases h1 : R.within s a n = true
  · rw [if_pos h1] at h ⊢
    by_cases h2 : 1 ≤ n ∧ F.within (((R.from_ : Int) + s) * 320 + a) n = true
    · rw [if_pos h2] at h ⊢
      obtain ⟨h3, h4⟩ := h2
      unfold Fl.within at h4
      simp at h4
      rw [List.length_take, List.length_drop]
      omega
    · rw [if_neg h2] at h
      exact absurd rfl h
  · rw [if_neg h1] at h
    exact absurd rfl h
theorem Ar.imgGo_len (R : Ar) (F : Fl) (s n : Int) (z : Nat) : ∀ f k out, out.length ≤ z → (R.imgGo F s n z f k out).length ≤ z
  | 0, _, _, h => h
  | f + 1, k, out, h => by
    by_cases hz : z ≤ out.length
    · rw [R.imgGo_ge F s n z f k out hz]; exact h
    · rw [R.imgGo_lt F s n z f k out _ (by omega) rfl]
      split
      · simp
      · refine Ar.imgGo_len R F s n z f (k + 1) _ ?_
        have := R.read_le F (fromS s k n) 0 (min 320 ((z : Int) - out.length))
        rw [List.length_append]
        omega
theorem Ar.image_len (R : Ar) (F : Fl) (s n size : Int) : (R.image F s n size).length ≤ 1920 := by
  unfold Ar.image
  split
  · simp
  · rename_i h
    obtain ⟨n1, n2⟩ := fromS_ok (s := s) (n := n) (fun hh => h (Or.inl hh))
    have := R.imgGo_len F s n size.toNat (size.toNat + 1) 0 [] (by simp)
    omega
section
variable {w0 w : World} {ab fb bb wb : Nat} {R : Ar} {G : RF}
set_option maxRecDepth 100000 in
set_option maxHeartbeats 1000000 in
theorem rreadslot_h (s n size : Int) (L : List UInt8) (hL : R.image G.fl s n size = L) (h : RHasA w0 w ab fb bb wb R G) :
    Calls Try.prog 50 #[ptr ab, .int .i64 s, .int .i64 n, .int .i64 size] w fun e w' => ∃ A c, e = .returned (.slice A L.length c) ∧ w'.ownsRow w.heap.size 5 1 (.slice A L.length c) L.length (L.map u8v) ∧ RHasA w0 w' ab fb bb wb R G ∧ Below w.heap.size w w' := by
  have hok : G.fl.b.length = 320 * G.fl.wear.length := h.flash.ok.len
  have HOK := Lib.hid hok
  have H := Lib.hid h
  clear h hok
  by_cases h2 : size < 1
  · have k1 : R.image G.fl s n size = [] := by unfold Ar.image; rw [if_pos (Or.inr (Or.inl h2))]
    obtain rfl := hL.symm.trans k1
    clear k1 hL
    go_enter Try.func50, Try.ntmps50
    go_wp2_with fail
    go_ret
    exact ⟨none, 0, rfl, World.ownsRow_nil _ _ _ _, H.out, Below.refl _ _⟩
  have hxb := fromS_b s 0 n
  obtain ⟨x0, hx0⟩ : ∃ x, fromS s 0 n = x := ⟨_, rfl⟩
  rw [hx0] at hxb
  have hfr : ∀ w, Calls Try.prog 48 #[.int .i64 s, .int .i64 0, .int .i64 n] w fun e w' => e = .returned (.int .i64 x0) ∧ w = w' := fun w => hx0 ▸ rfrom_c s 0 n w
  by_cases h1 : x0 = -1
  · have k1 : R.image G.fl s n size = [] := by unfold Ar.image; rw [if_pos (Or.inl (by omega))]
    obtain rfl := hL.symm.trans k1
    subst h1
    clear k1 hL hx0
    go_enter Try.func50, Try.ntmps50
    go_wp2_with (go_at_call 48; refine (hfr _).mono ?_; rintro e w' ⟨rfl, rfl⟩)
    go_ret
    exact ⟨none, 0, rfl, World.ownsRow_nil _ _ _ _, H.out, Below.refl _ _⟩
  · obtain ⟨n1, n2⟩ := fromS_ok (s := s) (n := n) (by rw [hx0]; exact h1)
    have e1 : IntKind.i64.wrap (n * 320) = n * 320 := IntWalk.i64_in _ (by omega)
    have hx1 : ¬ x0 < 0 := by omega
    by_cases h3 : n * 320 < size
    · have k1 : R.image G.fl s n size = [] := by unfold Ar.image; rw [if_pos (Or.inr (Or.inr h3))]
      obtain rfl := hL.symm.trans k1
      clear k1 hL hx0 h1
      go_enter Try.func50, Try.ntmps50
      go_wp2_with (go_at_call 48; refine (hfr _).mono ?_; rintro e w' ⟨rfl, rfl⟩)
      go_ret
      exact ⟨none, 0, rfl, World.ownsRow_nil _ _ _ _, H.out, Below.refl _ _⟩
    · have k1 : R.image G.fl s n size = R.imgGo G.fl s n size.toNat (size.toNat + 1) 0 [] := by unfold Ar.image; rw [if_neg (by omega)]
      have k2 := k1.symm.trans hL
      clear k1 hL hx0 h1
      obtain ⟨z, rfl⟩ : ∃ z : Nat, size = (z : Int) := ⟨size.toNat, by omega⟩
      have hz : z ≤ 1920 := by omega
      have hz1' : 1 ≤ z := by omega
      have k3 : R.imgGo G.fl s n z (z + 1) 0 [] = L := k2
      clear k2
      have K3 := Lib.hid k3
      clear k3
      obtain ⟨i0, hi, hz0, hz1, hz2⟩ := info_parts info_u8
      have HI := Lib.hid hi
      have HZ0 := Lib.hid hz0
      have HZ1 := Lib.hid hz1
      have HZ2 := Lib.hid hz2
      clear hi hz0 hz1 hz2
      obtain ⟨K, hK⟩ : ∃ K, (z + 319) / 320 = K := ⟨_, rfl⟩
      have hch : ∀ w, Calls Try.prog 92 #[.int .i64 (z : Int)] w fun e w' => e = .returned (.int .i64 (K : Int)) ∧ w = w' := fun w => hK ▸ chunks_c z hz1' (by omega) w
      have hK1 : z ≤ 320 * K := by omega
      have hK2 : 320 * K < z + 320 := by omega
      have HK1 := Lib.hid hK1
      have HK2 := Lib.hid hK2
      clear hK hK1 hK2
      go_enter Try.func50, Try.ntmps50
      go_wp2_with (go_at_call 48; refine (hfr _).mono ?_; rintro e w' ⟨rfl, rfl⟩)
      go_loopw [9, 10] (fun v i wr => ∃ (k f : Nat) (out : List UInt8) (A' : Option Addr) (c' : Nat), k ≤ K ∧ out.length = min z (320 * k) ∧ z < f + out.length ∧ R.imgGo G.fl s n z f k out = L ∧ v = .slice A' out.length c' ∧ i = .int .i64 (k : Int) ∧ wr.ownsRow w.heap.size 5 1 (.slice A' out.length c') out.length (out.map u8v) ∧ Below w.heap.size w wr) (fun _ i _ => K - (intOf i).toNat)
      case atStart => exact ⟨0, z + 1, [], none, 0, Nat.zero_le _, by simp, by simp, K3.out, rfl, rfl, World.ownsRow_nil _ _ _ _, Below.refl _ _⟩
      case round =>
        clear K3 hfr
        obtain ⟨k, f, out, A', c', hk, hoz, hf, hgo, rfl, rfl, hown, hbel⟩ := hrel
        have hk1 := HK1.out
        have hk2 := HK2.out
        have HO := Lib.hid hown
        have HB := Lib.hid hbel
        have hbs := hbel.size
        clear hown hbel
        by_cases hlt : k < K
        · obtain ⟨f', rfl⟩ : ∃ f', f = f' + 1 := ⟨f - 1, by omega⟩
          have hol : out.length = 320 * k := by omega
          obtain ⟨x, hx⟩ : ∃ x, fromS s k n = x := ⟨_, rfl⟩
          obtain ⟨M, hM⟩ : ∃ M : Nat, min 320 (z - k * 320) = M := ⟨_, rfl⟩
          have hM2 : min 320 ((z : Int) - out.length) = (M : Int) := by omega
          have hln : ∀ w, Calls Try.prog 94 #[.int .i64 (z : Int), .int .i64 (k : Int)] w fun e w' => e = .returned (.int .i64 (M : Int)) ∧ w = w' := fun w => hM ▸ len_c z k hz1' (by omega) (by omega) w
          obtain ⟨b, hb⟩ : ∃ b, R.read G.fl x 0 (M : Int) = b := ⟨_, rfl⟩
          have hgo2 : (if b = [] then [] else R.imgGo G.fl s n z f' (k + 1) (out ++ b)) = L := by
            rw [← hgo, R.imgGo_lt G.fl s n z f' k out b (by omega) (by rw [hx, hM2]; exact hb)]
          have hbl : ¬ b = [] → b.length = M := fun hne => by
            have := R.read_full G.fl HOK.out x 0 (M : Int) (by rw [hb]; exact hne)
            rw [hb] at this
            simpa using this
          have hfr : ∀ w, Calls Try.prog 48 #[.int .i64 s, .int .i64 k, .int .i64 n] w fun e w' => e = .returned (.int .i64 x) ∧ w = w' := fun w => hx ▸ rfrom_c s k n w
          have HBV := Lib.hid hb
          have hM3 : M ≤ 320 := by omega
          have HMV := Lib.hid hM
          have HOL := Lib.hid hol
          have HOZ := Lib.hid hoz
          clear hgo hx hb hM2 hM hol hoz
          by_cases hb0 : b.length = 0
          · have hb1 : b = [] := List.eq_nil_of_length_eq_zero hb0
            rw [if_pos hb1] at hgo2
            subst hgo2
            subst hb1
            clear hbl
            go_wp2_with (first | (go_at_call 92; refine (hch _).mono ?_; rintro e w' ⟨rfl, rfl⟩) | (go_at_call 48; refine (hfr _).mono ?_; rintro e w' ⟨rfl, rfl⟩) | (go_at_call 94; refine (hln _).mono ?_; rintro e w' ⟨rfl, rfl⟩) | (go_at_call 93; refine (raread_h x 0 (M : Int) [] HBV.out (H.out.later HB.out)).mono ?_; rintro e w5 ⟨A5, c5, rfl, hown5, h5, hb5⟩; have hs5 := hb5.size; have hl1 := HO.out.lt; have HO5 := Lib.hid (own_only HO.out (Only.of_below (S := []) hb5) (by simp)); have HB5 := Lib.hid (HB.out.trans (hb5.mono hbs)); have HW5 := Lib.hid hown5; clear hown5 h5 hb5))
            go_ret
            exact ⟨none, 0, rfl, World.ownsRow_nil _ _ _ _, H.out.later (HB5.out.mono (Nat.le_refl _)), HB5.out⟩
          · have hb1 : ¬ b = [] := fun hh => hb0 (by rw [hh]; rfl)
            rw [if_neg hb1] at hgo2
            have hbM := hbl hb1
            have HBM := Lib.hid hbM
            have hd5 : ((b.length : Int) == 0) = false := by rw [beq_eq_false_iff_ne]; omega
            have hsm : out.length + b.length ≤ 4000 := by have := HOL.out; omega
            clear hbM hbl
            go_wp2_with (first | (go_at_call 92; refine (hch _).mono ?_; rintro e w' ⟨rfl, rfl⟩) | (go_at_call 48; refine (hfr _).mono ?_; rintro e w' ⟨rfl, rfl⟩) | (go_at_call 94; refine (hln _).mono ?_; rintro e w' ⟨rfl, rfl⟩) | (go_at_call 93; refine (raread_h x 0 (M : Int) b HBV.out (H.out.later HB.out)).mono ?_; rintro e w5 ⟨A5, c5, rfl, hown5, h5, hb5⟩; have hs5 := hb5.size; have hl1 := HO.out.lt; have HO5 := Lib.hid (own_only HO.out (Only.of_below (S := []) hb5) (by simp)); have HB5 := Lib.hid (HB.out.trans (hb5.mono hbs)); have HW5 := Lib.hid hown5; clear hown5 h5 hb5) | (at_builtin; refine wpList_append_any _ rfl (.tmp 44) (.tmp 45) _ rfl w.heap.size 5 i0 (.int .u8 0) 1 Try.underlying29 HI.out HZ0.out HZ1.out HZ2.out rfl _ out.length (out.map u8v) rfl HO5.out A5 b.length c5 (b.map u8v) rfl (Reads.of_own HW5.out) (u8v_one _) (by unfold maxLen; omega) (by omega) (by omega) ?_; intro A6 c6 w6 hown6 hgrow6 hat6; have HO6 := Lib.hid hown6; have HG6 := Lib.hid hgrow6; clear hown6 hgrow6 hat6))
            go_roundw
            case rel =>
              have hbM := HBM.out
              have hol := HOL.out
              have hM := HMV.out
              refine ⟨k + 1, f', out ++ b, A6, c6, by omega, by rw [List.length_append]; omega, by rw [List.length_append]; omega, hgo2, by rw [List.length_append], by go_num, ?_, HB5.out.grown HG6.out (by omega) (fun g hg => (hl1 g hg).1)⟩
              rw [List.map_append, List.length_append]
              exact HO6.out
            case measure => simp [intOf]; omega
        · obtain rfl : k = K := by omega
          obtain ⟨f', rfl⟩ : ∃ f', f = f' + 1 := ⟨f - 1, by omega⟩
          rw [R.imgGo_ge G.fl s n z f' k out (by omega)] at hgo
          subst hgo
          have HOZ := Lib.hid hoz
          clear hoz
          go_wp2_with (go_at_call 92; refine (hch _).mono ?_; rintro e w' ⟨rfl, rfl⟩)
          go_ret
          exact ⟨A', c', rfl, HO.out, H.out.later HB.out, HB.out⟩
end
section
variable {w0 w : World} {ab fb bb wb : Nat} {R : Ar} {F : Fl}
set_option maxRecDepth 100000 in
set_option maxHeartbeats 1000000 in
theorem sdigest_h (s n size : Int) (hsz : size ≤ 9223372036854775807) (D : List UInt8) (hD : sha (R.image F s n size) = D) (h : HasA w0 w ab fb bb wb R F) :
    Calls Try.prog 52 #[ptr ab, .int .i64 s, .int .i64 n, .int .i64 size] w fun e w' => e = .returned (.agg (D.map u8v).toArray) ∧ Below w.heap.size w w' := by
  obtain ⟨L, hL⟩ : ∃ L, R.image F s n size = L := ⟨_, rfl⟩
  rw [hL] at hD
  have hDl : D.length = 32 := by rw [← hD]; exact sha_len _
  have H := Lib.hid h
  have hLl : L.length ≤ 100000 := by
    have := R.image_len F s n size
    rw [hL] at this
    omega
  go_enter Try.func52, Try.ntmps52
  go_upto_region 1 with fail
  have hZ : Blk (w.alloc (.cells zero32 32)) w.heap.size 32 zero32 := Blk.new w _ _
  have hb1 : Below w.heap.size w (w.alloc (.cells zero32 32)) := (Below.refl _ _).alloc (Nat.le_refl _) _
  generalize w.alloc (.cells zero32 32) = w1 at hZ hb1 ⊢
  have hs1 := hZ.lt
  go_wp2_with fail
  refine (image_h s n size hsz L hL (h.later hb1)).mono ?_
  rintro e w2 ⟨A2, c2, rfl, ho2, h2, hb2⟩
  have hZ2 := hZ.below hb2 hZ.lt
  have hb02 := hb1.trans (hb2.mono (by omega))
  go_wp2_with fail
  refine (sum_d w2 A2 L.length c2 L D hD rfl (Reads.of_own ho2) (by omega)).mono ?_
  rintro e w3 ⟨rfl, hb3⟩
  have hs2 := hb02.size
  have HZ3 := Lib.hid (hZ2.below hb3 hZ2.lt)
  have HB3 := Lib.hid (hb02.trans (hb3.mono hs2))
  have hcs : ((D.map u8v).toArray).size = 32 := by simp [hDl]
  clear hZ hZ2 hb1 hb2 hb3 hb02 ho2 h2 h H hL hD
  rename_i K hK
  refine hK _ _ ?_
  refine wpList_store_row rfl 32 (.tmp 8) (.tmp 14) rfl w.heap.size (D.map u8v).toArray rfl rfl 32 zero32 HZ3.out (by rw [hcs]; exact info_b32) (by rw [hcs]; rfl) (bytes_one D) ?_
  refine wpList_nil ?_
  rename_i K2 hK2
  show K2 _ _
  refine hK2 _ _ ?_
  go_wp2_with fail
  refine bodyPost_ret (results_cell_row rfl _ _ w.heap.size 32 (D.map u8v).toArray (0, 0) _ rfl (HZ3.out.setRow _) Try.underlying32 rfl (by rw [hcs]; exact info_b32)) rfl ?_
  exact ⟨rfl, below_setRow HB3.out (Nat.le_refl _) _⟩
end
end Go.Proofs.Ytlchlcjahndjgaa
