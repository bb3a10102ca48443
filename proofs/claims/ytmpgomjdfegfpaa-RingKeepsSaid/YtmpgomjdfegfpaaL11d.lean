/- waterlinelaw11.RingKeeps: whatever is cut in a Put, the last one is the one that was there ahead, or the one that was put, whole. -/
import Derived.Test.YtmpgomjdfegfpaaL11b
import Derived.Test.YtmpgomjdfegfpaaRkP
import Derived.Test.YtmpgomjdfegfpaaAppZ
import Derived.Test.YtmpgomjdfegfpaaRows2
import Derived.Test.YtmpgomjdfegfpaaBit
import Derived.Deep.RegionHeld3
namespace Go.Proofs.Ytmpgomjdfegfpaa
open Go.RowKit
set_option linter.unusedVariables false
set_option linter.unusedSimpArgs false
set_option maxRecDepth 100000 in
set_option maxHeartbeats 1000000 in
theorem ringKeeps_off (A0 A1 A2 : Option Addr) (n0 c0 n1 c1 n2 c2 : Nat) (w : World) (hg : 30 < n0 ∨ n1 < n0 ∨ n2 < n0) :
    Calls Try.prog 9 #[.slice A0 n0 c0, .slice A1 n1 c1, .slice A2 n2 c2] w fun e w' => e = .returned (.bool true) ∧ Below w.heap.size w w' := by
  by_cases g0 : 30 < n0
  · clear hg
    go_enter Try.func9, Try.ntmps9
    go_wp2_with (go_at_call 34; refine (alive11_c _).mono ?_; rintro e w1 ⟨rfl, hb⟩)
    go_ret
    exact ⟨rfl, hb⟩
  · by_cases g1 : n1 < n0
    · clear hg
      go_enter Try.func9, Try.ntmps9
      go_wp2_with (go_at_call 34; refine (alive11_c _).mono ?_; rintro e w1 ⟨rfl, hb⟩)
      go_ret
      exact ⟨rfl, hb⟩
    · have g2 : n2 < n0 := by omega
      clear hg
      go_enter Try.func9, Try.ntmps9
      go_wp2_with (go_at_call 34; refine (alive11_c _).mono ?_; rintro e w1 ⟨rfl, hb⟩)
      go_ret
      exact ⟨rfl, hb⟩
theorem held3 {W W' : World} {p0 p1 p2 : Addr} {v0 v1 v2 : Value} (hb : Below W.heap.size W W') (h0 : p0.block < W.heap.size) (h1 : p1.block < W.heap.size) (h2 : p2.block < W.heap.size) (k0 : W.cell? p0 = some v0) (k1 : W.cell? p1 = some v1) (k2 : W.cell? p2 = some v2) :
    W'.cell? p0 = some v0 ∧ W'.cell? p1 = some v1 ∧ W'.cell? p2 = some v2 := ⟨(hb.cell h0).trans k0, (hb.cell h1).trans k1, (hb.cell h2).trans k2⟩
section
variable {w0 w : World} {ab fb bb wb : Nat} {R : Ar} {F : Fl}
theorem acut_h (x : Int) (hx : x ≤ 9223372036854775807) (A : Option Addr) (n c : Nat) (m : List UInt8) (hm : n ≤ 140737488351232) (F' : Fl) (hF' : F.setCut x m = F') (hr : Reads w A n (m.map u8v)) (h : HasA w0 w ab fb bb wb R F) :
    Calls Try.prog 41 #[ptr fb, .int .i64 x, .slice A n c] w fun e w' => e = .returned (.tuple #[]) ∧ HasA w0 w' ab fb bb wb R F' := by
  subst hF'
  exact (cut_c w fb bb wb F x hx A n c m hm hr h.has.flash).mono fun e w' ⟨he, hf, ho⟩ => ⟨he, h.only rfl hf ho⟩
theorem apower_h (F' : Fl) (hF' : F.power = F') (h : HasA w0 w ab fb bb wb R F) :
    Calls Try.prog 42 #[ptr fb] w fun e w' => e = .returned (.tuple #[]) ∧ HasA w0 w' ab fb bb wb R F' := by
  subst hF'
  exact (power_c w fb bb wb F h.has.flash).mono fun e w' ⟨he, hf, ho⟩ => ⟨he, h.only rfl hf ho⟩
end
theorem ints_at11 {w : World} {b o n k : Nat} {l : List Int} (h : Reads w (some ⟨b, o, none⟩) n (l.map i64v)) (hk : k < n) : w.cell? ⟨b, o + k, none⟩ = some (i64v (l.getD k 0)) := by
  obtain ⟨b', o', u, e, hb, hu, hc⟩ := h.at_ hk
  cases e
  have hl : l.length = n := by simpa using h.len
  rw [List.getElem?_map, List.getElem?_eq_getElem (by omega)] at hu
  rw [hc, List.getD_eq_getElem?_getD, List.getElem?_eq_getElem (by omega), ← hu]
  rfl
set_option maxRecDepth 100000 in
set_option maxHeartbeats 4000000 in
theorem ringKeeps_some (b0 o0 b1 o1 b2 o2 n0 c0 n1 c1 n2 c2 : Nat) (ls ms : List (List UInt8)) (l1 : List Int) (w : World)
    (r0 : Rows2 w (some ⟨b0, o0, none⟩) n0 ls) (r1 : Reads w (some ⟨b1, o1, none⟩) n1 (l1.map i64v)) (r2 : Rows2 w (some ⟨b2, o2, none⟩) n2 ms) (z0 : n0 ≤ c0 ∧ c0 ≤ maxLen) (z1 : n1 ≤ c1 ∧ c1 ≤ maxLen) (z2 : n2 ≤ c2 ∧ c2 ≤ maxLen)
    (g0 : n0 ≤ 30) (g1 : n0 ≤ n1) (g2 : n0 ≤ n2) :
    Calls Try.prog 9 #[.slice (some ⟨b0, o0, none⟩) n0 c0, .slice (some ⟨b1, o1, none⟩) n1 c1, .slice (some ⟨b2, o2, none⟩) n2 c2] w fun e w' => e = .returned (.bool true) ∧ Below w.heap.size w w' := by
  obtain ⟨Z, hZ⟩ : ∃ Z : List UInt8, List.replicate 156 0 = Z := ⟨_, rfl⟩
  have hZl : Z.length = 156 := by rw [← hZ]; exact List.length_replicate
  obtain ⟨F0, hF0⟩ : ∃ F0, Fl.new ((4 : Nat) : Int) = F0 := ⟨_, rfl⟩
  have hlen0 : F0.wear.length = 4 := by rw [← hF0]; exact new_wlen 4 (by omega)
  have hst : PutsAt 1000 F0 (fun _ => Z) 0 := hF0 ▸ puts_start 1000 _
  obtain ⟨-, q1, q2⟩ := puts_step hst (by omega) (by omega) (by show Z.length ≤ 156; omega)
  obtain ⟨R, hR⟩ : ∃ R, Ar.new 4 0 4 1000 = R := ⟨_, rfl⟩
  have hR2 : R = RK := hR ▸ rg_new 1000 (by omega)
  obtain ⟨F1, hF1⟩ : ∃ F1, R.ringP F0 Z = F1 := ⟨_, rfl⟩
  have hE1 : R.ringE F0 Z = 0 := by rw [hR2]; exact q1
  have hK1 : Keep F1 1 Z 0 := by rw [← hF1, hR2]; exact keep_start q2
  have hpz : padTo Z 156 = Z := by unfold padTo; rw [List.take_of_length_le (by omega), hZl]; simp
  have hzr : (List.replicate 156 (u8v 0)) = Z.map u8v := by rw [← hZ, List.map_replicate]
  have hmk : ∀ W : World, (Instr.makeSlice 22 (.int .i64 156) (.int .i64 156)).run Try.prog W = .ok (.slice (some ⟨W.heap.size, 0, none⟩) 156 156) (W.alloc (.cells (Z.map u8v).toArray 5)) := fun W => by rw [← hzr]; exact make_bytes 156 (by omega) W
  obtain ⟨i0, hi, hz0, hz1, hz2⟩ := info_parts info_u8
  have HI := Lib.hid hi
  have HZ0 := Lib.hid hz0
  have HZ1 := Lib.hid hz1
  have HZ2 := Lib.hid hz2
  have HZl := Lib.hid hZl
  have G0 := Lib.hid hF0
  have G1 := Lib.hid hlen0
  have G2 := Lib.hid hR
  have G3 := Lib.hid hR2
  have G4 := Lib.hid hE1
  have G5 := Lib.hid hF1
  have G6 := Lib.hid hK1
  have G7 := Lib.hid hpz
  have M1 := Lib.hid (fun W => hmk W)
  clear hF0 hlen0 hst hR hR2 hF1 hE1 hK1 q1 q2 hi hz0 hz1 hz2 hzr hpz hmk hZl hZ
  go_enter Try.func9, Try.ntmps9
  go_wp2_with (go_at_call 34; refine (alive11_c _).mono ?_; rintro e w1 ⟨rfl, hb1⟩)
  refine (new_hf 4 (by omega) F0 G0.out hb1).mono ?_
  rintro e w2 ⟨fb, bb, wb, rfl, h2'⟩
  go_wp2_with fail
  refine (anew_h 0 0 4 1000 4 G1.out R G2.out h2').mono ?_
  rintro e w3 ⟨ab, rfl, h3, -, -⟩
  have H3 := Lib.hid h3
  have hmk := M1.out w3
  clear h2' h3 hb1
  obtain ⟨D0, hD0⟩ : ∃ D : ByteArray, (⟨Z.toArray⟩ : ByteArray) = D := ⟨_, rfl⟩
  have hrz : Reads (w3.alloc (.cells (Z.map u8v).toArray 5)) (some ⟨w3.heap.size, 0, none⟩) 156 (Z.map u8v) := by
    have h := rowReads w3 Z 5 (0, 0)
    rw [HZl.out] at h
    exact h
  have HRZ := Lib.hid hrz
  have HD0 := Lib.hid hD0
  clear hrz hD0
  go_wp2_with (first
    | (go_at_call 35; refine (rput_h _ 156 156 Z (by omega) HRZ.out H3.out.has.apart (H3.out.alloc _) 0 F1 G4.out G5.out).mono ?_; rintro e w4 ⟨rfl, h4, ho4⟩; have H4 := Lib.hid h4; have hcv : (convert 22 9 (.slice (some ⟨w3.heap.size, 0, none⟩) 156 156)).run Try.prog w4 = .ok (.string D0) w4 := HD0.out ▸ strAny w4 _ 156 156 Z (HRZ.out.only ho4 H3.out.has.apart); clear h4 ho4)
    | (go_at_call 36; refine (num11_c _ _).mono ?_; rintro e w' ⟨rfl, rfl⟩))
  clear hmk HRZ H3 G0 G1 G2 G4 G5 hcv M1
  have hr3 := G3.out
  subst hr3
  go_loopw [11, 12, 13] (fun a s t wr => ∃ (i q : Nat) (F : Fl) (cc : List UInt8) (D : ByteArray), i ≤ n0 ∧ a = .string D ∧ s = .int .i64 (q : Int) ∧ t = .int .i64 (i : Int) ∧ D = ⟨(padTo cc 156).toArray⟩ ∧ q ≤ i + 1 ∧ Keep F q cc i ∧ HasA w wr ab fb bb wb RK F) (fun _ _ t _ => n0 - (intOf t).toNat)
  case atStart => exact ⟨0, 1, F1, Z, D0, by omega, rfl, rfl, rfl, by rw [G7.out, ← HD0.out], by omega, G6.out, H4.out⟩
  case round =>
    clear H4 G6 G7 HD0 HZl
    obtain ⟨i, q, F, cc, D, hin, rfl, rfl, rfl, hD, hq, hk, hh⟩ := hrel
    have HK := Lib.hid hk
    have HH := Lib.hid hh
    have HD := Lib.hid hD
    have hq1 := hk.q1
    clear hk hh hD
    by_cases hlt : i < n0
    · obtain ⟨_, _, Ab, nb, cb, eA, _, kk0, hnc, hcm, hrb⟩ := r0.2 i hlt
      cases eA
      obtain ⟨_, _, Am, nm, cm, eA, _, kk2, hmc, hmm, hrm⟩ := r2.2 i (by omega)
      cases eA
      have kk1 := ints_at11 r1 (show i < n1 by omega)
      obtain ⟨v, hv⟩ : ∃ v, l1.getD i 0 = v := ⟨_, rfl⟩
      obtain ⟨bs, hbs⟩ : ∃ bs, ls.getD i [] = bs := ⟨_, rfl⟩
      obtain ⟨ks, hks⟩ : ∃ ks, ms.getD i [] = ks := ⟨_, rfl⟩
      rw [hv] at kk1
      rw [hbs] at hrb
      rw [hks] at hrm
      have hbl : bs.length = nb := by simpa using hrb.len
      have hkl : ks.length = nm := by simpa using hrm.len
      have b0lt := World.block_lt_of_cell? w _ kk0
      have b1lt := World.block_lt_of_cell? w _ kk1
      have b2lt := World.block_lt_of_cell? w _ kk2
      have hS : ∀ W : World, Below w.heap.size w W → W.cell? ⟨b0, o0 + i, none⟩ = some (.slice Ab nb cb) ∧ W.cell? ⟨b1, o1 + i, none⟩ = some (.int .i64 v) ∧ W.cell? ⟨b2, o2 + i, none⟩ = some (.slice Am nm cm) := fun W hb => held3 hb b0lt b1lt b2lt kk0 kk1 kk2
      have HS := Lib.hid hS
      obtain ⟨k0, k1, k2⟩ := hS wr HH.out.has.below
      have HBL := Lib.hid hbl
      have HKL := Lib.hid hkl
      have RB := Lib.hid hrb
      have RM := Lib.hid hrm
      clear kk0 kk1 kk2 hv hbs hks hbl hkl hrb hrm hS b0lt b1lt b2lt
      have i1 : (i : Int) < (n1 : Int) := by omega
      have i2 : (i : Int) < (n2 : Int) := by omega
      by_cases hlong : 156 < nb
      · have hl2 : (156 : Int) < (nb : Int) := by omega
        go_wp2_with fail
        go_ret
        exact ⟨rfl, HH.out.has.below⟩
      have hl2 : ¬ (156 : Int) < (nb : Int) := by omega
      by_cases hlong2 : 50 < nm
      · have hl3 : (50 : Int) < (nm : Int) := by omega
        go_wp2_with fail
        go_ret
        exact ⟨rfl, HH.out.has.below⟩
      have hl3 : ¬ (50 : Int) < (nm : Int) := by omega
      obtain ⟨m, hm⟩ : ∃ m : Nat, m = 156 - nb := ⟨_, rfl⟩
      have hm2 : (156 : Int) - (nb : Int) = (m : Int) := by omega
      have hmw : IntKind.i64.wrap (m : Int) = (m : Int) := IntWalk.i64_in _ (by omega)
      have HM := Lib.hid hm
      obtain ⟨DW, hDW⟩ : ∃ D : ByteArray, (⟨(padTo bs 156).toArray⟩ : ByteArray) = D := ⟨_, rfl⟩
      have hpad : (padTo bs 156).map u8v = bs.map u8v ++ List.replicate m (.int .u8 0) := by
        unfold padTo
        rw [List.take_of_length_le (by rw [HBL.out]; omega), List.map_append, List.map_replicate, HBL.out, ← hm]
        rfl
      have HDW := Lib.hid hDW
      have HPAD := Lib.hid hpad
      clear hm hDW hpad
      go_upto_region 16 with fail
      refine wp_region_held_drew (S := (fun W => W.cell? ⟨b0, o0 + i, none⟩ = some (.slice Ab nb cb) ∧ W.cell? ⟨b1, o1 + i, none⟩ = some (.int .i64 v) ∧ W.cell? ⟨b2, o2 + i, none⟩ = some (.slice Am nm cm))) (by kernel_rfl) ?_ (fun hHeld => ?_)
      · exact ⟨k0, k1, k2⟩
      refine wpAnyH_take (i := 0) (v := ?_) rfl (by kernel_rfl) (by kernel_rfl) (by kernel_rfl) (fun _ _ _ h => h) (Or.inl ⟨by rfl, ?_⟩) (by assumption) ?_
      rotate_left
      · intro w hSw
        (try dsimp only at hSw)
        go_simp
        all_goals with_reducible rfl
      try simp only [Act.put, List.getElem_toArray, List.getElem_cons_succ, List.getElem_cons_zero, List.setIfInBounds_toArray, List.set_cons_zero, List.set_cons_succ]
      refine wpAnyH_take (i := 1) (v := ?_) rfl (by kernel_rfl) (by kernel_rfl) (by kernel_rfl) (fun _ _ _ h => h) (Or.inl ⟨by rfl, ?_⟩) (by assumption) ?_
      rotate_left
      · intro w hSw
        (try dsimp only at hSw)
        go_simp
        all_goals with_reducible rfl
      try simp only [Act.put, List.getElem_toArray, List.getElem_cons_succ, List.getElem_cons_zero, List.setIfInBounds_toArray, List.set_cons_zero, List.set_cons_succ]
      refine wpAnyH_take (i := 2) (v := ?_) rfl (by kernel_rfl) (by kernel_rfl) (by kernel_rfl) (fun _ _ _ h => h) (Or.inl ⟨by rfl, ?_⟩) (by assumption) ?_
      rotate_left
      · intro w hSw
        (try dsimp only at hSw)
        go_simp
        all_goals with_reducible rfl
      try simp only [Act.put, List.getElem_toArray, List.getElem_cons_succ, List.getElem_cons_zero, List.setIfInBounds_toArray, List.set_cons_zero, List.set_cons_succ]
      refine wpAnyH_take (i := 3) (v := ?_) rfl (by kernel_rfl) (by kernel_rfl) (by kernel_rfl) (fun _ _ _ h => h) (Or.inl ⟨by rfl, ?_⟩) (by assumption) ?_
      rotate_left
      · intro w hSw
        (try dsimp only at hSw)
        go_simp
        all_goals with_reducible rfl
      try simp only [Act.put, List.getElem_toArray, List.getElem_cons_succ, List.getElem_cons_zero, List.setIfInBounds_toArray, List.set_cons_zero, List.set_cons_succ]
      refine wpAnyH_take (i := 5) (v := ?_) rfl (by kernel_rfl) (by kernel_rfl) (by kernel_rfl) (fun _ _ _ h => h) (Or.inl ⟨by rfl, ?_⟩) (by assumption) ?_
      rotate_left
      · intro w hSw
        (try dsimp only at hSw)
        go_simp
        all_goals with_reducible rfl
      try simp only [Act.put, List.getElem_toArray, List.getElem_cons_succ, List.getElem_cons_zero, List.setIfInBounds_toArray, List.set_cons_zero, List.set_cons_succ]
      refine wpAnyH_take (i := 6) (v := ?_) rfl (by kernel_rfl) (by kernel_rfl) (by kernel_rfl) (fun _ _ _ h => h) (Or.inl ⟨by rfl, ?_⟩) (by assumption) ?_
      rotate_left
      · intro w hSw
        (try dsimp only at hSw)
        go_simp
        all_goals with_reducible rfl
      try simp only [Act.put, List.getElem_toArray, List.getElem_cons_succ, List.getElem_cons_zero, List.setIfInBounds_toArray, List.set_cons_zero, List.set_cons_succ]
      refine wpAnyH_take (i := 7) (v := ?_) rfl (by kernel_rfl) (by kernel_rfl) (by kernel_rfl) (fun _ _ _ h => h) (Or.inl ⟨by rfl, ?_⟩) (by assumption) ?_
      rotate_left
      · intro w hSw
        (try dsimp only at hSw)
        go_simp
        all_goals with_reducible rfl
      try simp only [Act.put, List.getElem_toArray, List.getElem_cons_succ, List.getElem_cons_zero, List.setIfInBounds_toArray, List.set_cons_zero, List.set_cons_succ]
      refine wpAnyH_take (i := 8) (v := ?_) rfl (by kernel_rfl) (by kernel_rfl) (by kernel_rfl) (fun _ _ _ h => h) (Or.inl ⟨by rfl, ?_⟩) (by assumption) ?_
      rotate_left
      · intro w hSw
        (try dsimp only at hSw)
        go_simp
        all_goals with_reducible rfl
      try simp only [Act.put, List.getElem_toArray, List.getElem_cons_succ, List.getElem_cons_zero, List.setIfInBounds_toArray, List.set_cons_zero, List.set_cons_succ]
      refine wpAnyH_take (i := 9) (v := ?_) rfl (by kernel_rfl) (by kernel_rfl) (by kernel_rfl) (fun _ _ _ h => h) (Or.inl ⟨by rfl, ?_⟩) (by assumption) ?_
      rotate_left
      · intro w hSw
        (try dsimp only at hSw)
        go_simp
        all_goals with_reducible rfl
      try simp only [Act.put, List.getElem_toArray, List.getElem_cons_succ, List.getElem_cons_zero, List.setIfInBounds_toArray, List.set_cons_zero, List.set_cons_succ]
      refine wpAnyH_take (i := 10) (v := ?_) rfl (by kernel_rfl) (by kernel_rfl) (by kernel_rfl) (fun _ _ _ h => h) (Or.inl ⟨by rfl, ?_⟩) (by assumption) ?_
      rotate_left
      · intro w hSw
        (try dsimp only at hSw)
        go_simp
        all_goals with_reducible rfl
      try simp only [Act.put, List.getElem_toArray, List.getElem_cons_succ, List.getElem_cons_zero, List.setIfInBounds_toArray, List.set_cons_zero, List.set_cons_succ]
      refine wpAnyH_ready (rs := [4]) (by kernel_rfl) (by simp) ?_
      refine AllReadyH.cons rfl (fun K hK => ?_) AllReadyH.nil
      refine step_append_any _ (by rfl) (.const (.slice none 0 0)) (.tmp 77) 22 (by rfl) wr.heap.size 5 i0 (.int .u8 0) 1 Try.underlying22 HI.out HZ0.out HZ1.out HZ2.out (by rfl) _ 0 [] (by rfl) (World.ownsRow_nil _ _ _ _) Ab nb cb (bs.map u8v) (by rfl) (RB.out.below HH.out.has.below).drew (u8v_one _) (by unfold maxLen; omega) (by omega) (Nat.le_refl _) ?_
      intro A4 c4 w4 ho4 hg4 _
      simp only [Nat.zero_add, List.nil_append] at ho4 ⊢
      have HB4 := Lib.hid (show Below wr.heap.size wr w4 from (Below.refl wr.heap.size wr).drew.grown hg4 (Nat.le_refl _) (by intro k hk; cases hk))
      have HO4 := Lib.hid ho4
      have HH4 := Lib.hid (HH.out.later HB4.out)
      have HS4 := Lib.hid (HS.out w4 HH4.out.has.below)
      have hl4 := HO4.out.lt
      clear ho4 hg4
      refine hK.out _ _ ?_ (fun hHeld => ?_)
      · (try dsimp only)
        first | exact HS5.out | exact HS4.out
      clear hK K
      try simp only [Act.put, List.getElem_toArray, List.getElem_cons_succ, List.getElem_cons_zero, List.setIfInBounds_toArray, List.set_cons_zero, List.set_cons_succ]
      refine wpAnyH_ready (rs := [11]) (by kernel_rfl) (by simp) ?_
      refine AllReadyH.cons rfl (fun K hK => ?_) AllReadyH.nil
      refine step_append_zeros _ (by rfl) (.tmp 78) (.tmp 84) 22 3 (by rfl) wr.heap.size 5 i0 (.int .u8 0) Try.underlying22 Try.underlying3 HI.out HZ0.out HZ1.out HZ2.out (by rfl) (by rfl) (.slice A4 nb c4) nb (bs.map u8v) (by rfl) HO4.out m (by first | rfl | exact congrArg (Value.int .i64) hmw | exact congrArg (Value.int .i64) hm2) (by omega) HB4.out.size ?_
      intro A5 c5 w5 ho5 hg5
      have HB5 := Lib.hid (HB4.out.grown hg5 HB4.out.size (fun g hg => (hl4 g hg).1))
      have HH5 := Lib.hid (HH.out.later HB5.out)
      have HS5 := Lib.hid (HS.out w5 HH5.out.has.below)
      have hcv : (convert 22 9 (.slice A5 (nb + m) c5)).run Try.prog w5 = .ok (.string DW) w5 := by
        refine HDW.out ▸ strAny w5 A5 (nb + m) c5 (padTo bs 156) ?_
        have h := Reads.of_own ho5
        rw [HPAD.out]
        exact h
      clear ho5 hg5
      refine hK.out _ _ ?_ (fun hHeld => ?_)
      · (try dsimp only)
        first | exact HS5.out | exact HS4.out
      clear hK K
      try simp only [Act.put, List.getElem_toArray, List.getElem_cons_succ, List.getElem_cons_zero, List.setIfInBounds_toArray, List.set_cons_zero, List.set_cons_succ]
      refine wpAnyH_ready (rs := [12]) (by kernel_rfl) (by simp) ?_
      refine AllReadyH.cons rfl (fun K hK => ?_) AllReadyH.nil
      go_simp
      refine hK.out _ _ ?_ (fun hHeld => ?_)
      · (try dsimp only)
        first | exact HS5.out | exact HS4.out
      clear hK K
      try simp only [Act.put, List.getElem_toArray, List.getElem_cons_succ, List.getElem_cons_zero, List.setIfInBounds_toArray, List.set_cons_zero, List.set_cons_succ]
      refine wpAnyH_take (i := 13) (v := ?_) rfl (by kernel_rfl) (by kernel_rfl) (by kernel_rfl) (fun _ _ _ h => h) (Or.inl ⟨by rfl, ?_⟩) (by assumption) ?_
      rotate_left
      · intro w hSw
        (try dsimp only at hSw)
        go_simp
        all_goals with_reducible rfl
      try simp only [Act.put, List.getElem_toArray, List.getElem_cons_succ, List.getElem_cons_zero, List.setIfInBounds_toArray, List.set_cons_zero, List.set_cons_succ]
      refine wpAnyH_done (by kernel_rfl) ?_ _
      try simp only [Act.put, List.getElem_toArray, List.getElem_cons_succ, List.getElem_cons_zero, List.setIfInBounds_toArray, List.set_cons_zero, List.set_cons_succ]
      obtain ⟨x, hx3, hx⟩ := i64_mask v 3 (by omega)
      rw [show ((3 : Nat) : Int) = 3 from rfl] at hx
      have HX := Lib.hid hx
      obtain ⟨F2, hF2⟩ : ∃ F2, F.setCut (x : Int) ks = F2 := ⟨_, rfl⟩
      have hF2' : F.setCut (bits .and .i64 v 3) ks = F2 := by rw [hx, hF2]
      have hK2 : Keep F2 q cc i := hF2 ▸ HK.out.set_ x (by omega) ks (by rw [HKL.out]; omega)
      have hcut : F2.cut = (x : Int) := by rw [← hF2]; show max 0 (x : Int) = _; omega
      have hput := keep_put hK2 (by omega) (by omega) (by omega) (by omega) bs (by rw [HBL.out]; omega)
      obtain ⟨F3, hF3⟩ : ∃ F3, RK.ringP F2 bs = F3 := ⟨_, rfl⟩
      obtain ⟨F4, hF4⟩ : ∃ F4, F3.power = F4 := ⟨_, rfl⟩
      rw [hF3, hF4] at hput
      have HF2 := Lib.hid hF2'
      have HF3 := Lib.hid hF3
      have HF4 := Lib.hid hF4
      have HP := Lib.hid hput
      have k05 := HS5.out
      clear hx hF2 hF2' hK2 hcut hput hF3 hF4 k0 k1 k2 HB4 HO4 HH4 HS4 hl4 hcv
      go_upto_region 17 with fail
      refine wp_region_held_drew (S := (fun W => W.cell? ⟨b0, o0 + i, none⟩ = some (.slice Ab nb cb) ∧ W.cell? ⟨b1, o1 + i, none⟩ = some (.int .i64 v) ∧ W.cell? ⟨b2, o2 + i, none⟩ = some (.slice Am nm cm))) (by kernel_rfl) ?_ (fun hHeld => ?_)
      · exact k05
      refine wpAnyH_take (i := 0) (v := ?_) rfl (by kernel_rfl) (by kernel_rfl) (by kernel_rfl) (fun _ _ _ h => h) (Or.inl ⟨by rfl, ?_⟩) (by assumption) ?_
      rotate_left
      · intro w hSw
        (try dsimp only at hSw)
        go_simp
        all_goals with_reducible rfl
      try simp only [Act.put, List.getElem_toArray, List.getElem_cons_succ, List.getElem_cons_zero, List.setIfInBounds_toArray, List.set_cons_zero, List.set_cons_succ]
      refine wpAnyH_take (i := 1) (v := ?_) rfl (by kernel_rfl) (by kernel_rfl) (by kernel_rfl) (fun _ _ _ h => h) (Or.inl ⟨by rfl, ?_⟩) (by assumption) ?_
      rotate_left
      · intro w hSw
        (try dsimp only at hSw)
        go_simp
        all_goals with_reducible rfl
      try simp only [Act.put, List.getElem_toArray, List.getElem_cons_succ, List.getElem_cons_zero, List.setIfInBounds_toArray, List.set_cons_zero, List.set_cons_succ]
      refine wpAnyH_take (i := 2) (v := ?_) rfl (by kernel_rfl) (by kernel_rfl) (by kernel_rfl) (fun _ _ _ h => h) (Or.inl ⟨by rfl, ?_⟩) (by assumption) ?_
      rotate_left
      · intro w hSw
        (try dsimp only at hSw)
        go_simp
        all_goals with_reducible rfl
      try simp only [Act.put, List.getElem_toArray, List.getElem_cons_succ, List.getElem_cons_zero, List.setIfInBounds_toArray, List.set_cons_zero, List.set_cons_succ]
      refine wpAnyH_take (i := 3) (v := ?_) rfl (by kernel_rfl) (by kernel_rfl) (by kernel_rfl) (fun _ _ _ h => h) (Or.inl ⟨by rfl, ?_⟩) (by assumption) ?_
      rotate_left
      · intro w hSw
        (try dsimp only at hSw)
        go_simp
        all_goals with_reducible rfl
      try simp only [Act.put, List.getElem_toArray, List.getElem_cons_succ, List.getElem_cons_zero, List.setIfInBounds_toArray, List.set_cons_zero, List.set_cons_succ]
      refine wpAnyH_take (i := 4) (v := ?_) rfl (by kernel_rfl) (by kernel_rfl) (by kernel_rfl) (fun _ _ _ h => h) (Or.inl ⟨by rfl, ?_⟩) (by assumption) ?_
      rotate_left
      · intro w hSw
        (try dsimp only at hSw)
        go_simp
        all_goals with_reducible rfl
      try simp only [Act.put, List.getElem_toArray, List.getElem_cons_succ, List.getElem_cons_zero, List.setIfInBounds_toArray, List.set_cons_zero, List.set_cons_succ]
      refine wpAnyH_take (i := 5) (v := ?_) rfl (by kernel_rfl) (by kernel_rfl) (by kernel_rfl) (fun _ _ _ h => h) (Or.inl ⟨by rfl, ?_⟩) (by assumption) ?_
      rotate_left
      · intro w hSw
        (try dsimp only at hSw)
        go_simp
        all_goals with_reducible rfl
      try simp only [Act.put, List.getElem_toArray, List.getElem_cons_succ, List.getElem_cons_zero, List.setIfInBounds_toArray, List.set_cons_zero, List.set_cons_succ]
      refine wpAnyH_take (i := 6) (v := ?_) rfl (by kernel_rfl) (by kernel_rfl) (by kernel_rfl) (fun _ _ _ h => h) (Or.inl ⟨by rfl, ?_⟩) (by assumption) ?_
      rotate_left
      · intro w hSw
        (try dsimp only at hSw)
        go_simp
        all_goals with_reducible rfl
      try simp only [Act.put, List.getElem_toArray, List.getElem_cons_succ, List.getElem_cons_zero, List.setIfInBounds_toArray, List.set_cons_zero, List.set_cons_succ]
      refine wpAnyH_take (i := 7) (v := ?_) rfl (by kernel_rfl) (by kernel_rfl) (by kernel_rfl) (fun _ _ _ h => h) (Or.inl ⟨by rfl, ?_⟩) (by assumption) ?_
      rotate_left
      · intro w hSw
        (try dsimp only at hSw)
        go_simp
        all_goals with_reducible rfl
      try simp only [Act.put, List.getElem_toArray, List.getElem_cons_succ, List.getElem_cons_zero, List.setIfInBounds_toArray, List.set_cons_zero, List.set_cons_succ]
      refine wpAnyH_take (i := 8) (v := ?_) rfl (by kernel_rfl) (by kernel_rfl) (by kernel_rfl) (fun _ _ _ h => h) (Or.inl ⟨by rfl, ?_⟩) (by assumption) ?_
      rotate_left
      · intro w hSw
        (try dsimp only at hSw)
        go_simp
        all_goals with_reducible rfl
      try simp only [Act.put, List.getElem_toArray, List.getElem_cons_succ, List.getElem_cons_zero, List.setIfInBounds_toArray, List.set_cons_zero, List.set_cons_succ]
      refine wpAnyH_take (i := 9) (v := ?_) rfl (by kernel_rfl) (by kernel_rfl) (by kernel_rfl) (fun _ _ _ h => h) (Or.inl ⟨by rfl, ?_⟩) (by assumption) ?_
      rotate_left
      · intro w hSw
        (try dsimp only at hSw)
        go_simp
        all_goals with_reducible rfl
      try simp only [Act.put, List.getElem_toArray, List.getElem_cons_succ, List.getElem_cons_zero, List.setIfInBounds_toArray, List.set_cons_zero, List.set_cons_succ]
      refine wpAnyH_ready (rs := [10]) (by kernel_rfl) (by simp) ?_
      refine AllReadyH.cons rfl (fun K hK => ?_) AllReadyH.nil
      go_simp
      refine (acut_h (bits .and .i64 v 3) (by rw [HX.out]; omega) Am nm cm ks (by omega) F2 HF2.out (RM.out.below HH5.out.has.below).drew (HH5.out.drewN 1)).mono ?_; rintro e w6 ⟨rfl, h6⟩; have HH6 := Lib.hid h6; clear h6
      go_wp2_with fail
      refine hK.out _ _ ?_ (fun hHeld => ?_)
      · (try dsimp only)
        exact HS.out w6 HH6.out.has.below
      clear hK K
      try simp only [Act.put, List.getElem_toArray, List.getElem_cons_succ, List.getElem_cons_zero, List.setIfInBounds_toArray, List.set_cons_zero, List.set_cons_succ]
      refine wpAnyH_done (by kernel_rfl) ?_ _
      try simp only [Act.put, List.getElem_toArray, List.getElem_cons_succ, List.getElem_cons_zero, List.setIfInBounds_toArray, List.set_cons_zero, List.set_cons_succ]
      obtain ⟨k06, -, -⟩ := HS.out w6 HH6.out.has.below
      have hlast : ∀ (q' : Nat) (c' : List UInt8) (k' : Nat) (W : World) (D' : ByteArray), Keep F4 q' c' k' → q' ≤ 1000 → (⟨(padTo c' 156).toArray⟩ : ByteArray) = D' → HasA w W ab fb bb wb RK F4 → Calls Try.prog 37 #[ptr ab] W fun e w' => ∃ A c, e = .returned (.tuple #[.int .i64 (q' : Int), .slice A 156 c, .bool true]) ∧ (convert 22 9 (.slice A 156 c)).run Try.prog w' = .ok (.string D') w' ∧ HasA w w' ab fb bb wb RK F4 := fun q' c' k' W D' hk hq' hD' h => by
        refine (last_h h _ (hk.F_ (by omega))).mono ?_
        rintro e w' ⟨A, c, rfl, hown, hh, -⟩
        simp only at hown ⊢
        rw [padTo_len] at hown ⊢
        exact ⟨A, c, rfl, hD' ▸ strAny w' A 156 c _ (Reads.of_own hown), hh⟩
      rcases HP.out with ⟨hE | hE, hKn⟩ | ⟨hE, hKn⟩
      · obtain ⟨D', hD'⟩ : ∃ D : ByteArray, (⟨(padTo bs 156).toArray⟩ : ByteArray) = D := ⟨_, rfl⟩
        have hDD : (D'.toList == DW.toList) = true := by rw [← hD', HDW.out]; exact beq_self_eq_true _
        have hl2 := fun W => hlast (q + 1) bs (i + 1) W D' hKn (by omega) hD'
        rw [show ((q + 1 : Nat) : Int) = (q : Int) + 1 from by omega] at hl2
        have HKn := Lib.hid hKn
        have HE := Lib.hid hE
        clear hlast hKn hD' hE HP
        go_wp2_with (first
          | (go_at_call 35; refine (rput_h2 Ab nb cb bs (by omega) (RB.out.below HH6.out.has.below) HH6.out 0 F3 HE.out HF3.out).mono ?_; rintro e w7 ⟨rfl, h7, -⟩)
          | (go_at_call 42; refine (apower_h F4 HF4.out h7).mono ?_; rintro e w8 ⟨rfl, h8⟩)
          | (go_at_call 37; refine (hl2 _ h8).mono ?_; rintro e w9 ⟨A9, c9, rfl, hcv9, h9⟩)
          | (go_at_call 36; refine (num11_c _ _).mono ?_; rintro e w' ⟨rfl, rfl⟩))
        go_roundw
        case rel => exact ⟨i + 1, q + 1, F4, bs, DW, by omega, rfl, by go_num, by go_num, HDW.out.symm, by omega, HKn.out, h9⟩
        case measure => simp [intOf]; omega
      · obtain ⟨D', hD'⟩ : ∃ D : ByteArray, (⟨(padTo bs 156).toArray⟩ : ByteArray) = D := ⟨_, rfl⟩
        have hDD : (D'.toList == DW.toList) = true := by rw [← hD', HDW.out]; exact beq_self_eq_true _
        have hl2 := fun W => hlast (q + 1) bs (i + 1) W D' hKn (by omega) hD'
        rw [show ((q + 1 : Nat) : Int) = (q : Int) + 1 from by omega] at hl2
        have HKn := Lib.hid hKn
        have HE := Lib.hid hE
        clear hlast hKn hD' hE HP
        go_wp2_with (first
          | (go_at_call 35; refine (rput_h2 Ab nb cb bs (by omega) (RB.out.below HH6.out.has.below) HH6.out 4 F3 HE.out HF3.out).mono ?_; rintro e w7 ⟨rfl, h7, -⟩)
          | (go_at_call 42; refine (apower_h F4 HF4.out h7).mono ?_; rintro e w8 ⟨rfl, h8⟩)
          | (go_at_call 37; refine (hl2 _ h8).mono ?_; rintro e w9 ⟨A9, c9, rfl, hcv9, h9⟩)
          | (go_at_call 36; refine (num11_c _ _).mono ?_; rintro e w' ⟨rfl, rfl⟩))
        go_roundw
        case rel => exact ⟨i + 1, q + 1, F4, bs, DW, by omega, rfl, by go_num, by go_num, HDW.out.symm, by omega, HKn.out, h9⟩
        case measure => simp [intOf]; omega
      · obtain ⟨D', hD'⟩ : ∃ D : ByteArray, (⟨(padTo cc 156).toArray⟩ : ByteArray) = D := ⟨_, rfl⟩
        have hDD : (D'.toList == D.toList) = true := by rw [← hD', HD.out]; exact beq_self_eq_true _
        have hDD2 : (D'.toList != D.toList) = false := by unfold bne; rw [hDD]; rfl
        have hl2 := fun W => hlast q cc (i + 1) W D' hKn (by omega) hD'
        have HKn := Lib.hid hKn
        have HE := Lib.hid hE
        clear hlast hKn hD' hE HP
        go_wp2_with (first
          | (go_at_call 35; refine (rput_h2 Ab nb cb bs (by omega) (RB.out.below HH6.out.has.below) HH6.out 4 F3 HE.out HF3.out).mono ?_; rintro e w7 ⟨rfl, h7, -⟩)
          | (go_at_call 42; refine (apower_h F4 HF4.out h7).mono ?_; rintro e w8 ⟨rfl, h8⟩)
          | (go_at_call 37; refine (hl2 _ h8).mono ?_; rintro e w9 ⟨A9, c9, rfl, hcv9, h9⟩)
          | (go_at_call 36; refine (num11_c _ _).mono ?_; rintro e w' ⟨rfl, rfl⟩))
        go_roundw
        case rel => exact ⟨i + 1, q, F4, cc, D, by omega, rfl, rfl, by go_num, HD.out, by omega, HKn.out, h9⟩
        case measure => simp [intOf]; omega
    · obtain rfl : i = n0 := by omega
      go_wp2_with fail
      go_ret
      exact ⟨rfl, HH.out.has.below⟩
set_option maxRecDepth 100000 in
set_option maxHeartbeats 4000000 in
theorem ringKeeps_nil (A0 A1 A2 : Option Addr) (n0 c0 n1 c1 n2 c2 : Nat) (w : World) (gz : Hid (n0 = 0)) :
    Calls Try.prog 9 #[.slice A0 n0 c0, .slice A1 n1 c1, .slice A2 n2 c2] w fun e w' => e = .returned (.bool true) ∧ Below w.heap.size w w' := by
  have g0 : n0 ≤ 30 := by have := gz.out; omega
  have g1 : n0 ≤ n1 := by have := gz.out; omega
  have g2 : n0 ≤ n2 := by have := gz.out; omega
  obtain ⟨Z, hZ⟩ : ∃ Z : List UInt8, List.replicate 156 0 = Z := ⟨_, rfl⟩
  have hZl : Z.length = 156 := by rw [← hZ]; exact List.length_replicate
  obtain ⟨F0, hF0⟩ : ∃ F0, Fl.new ((4 : Nat) : Int) = F0 := ⟨_, rfl⟩
  have hlen0 : F0.wear.length = 4 := by rw [← hF0]; exact new_wlen 4 (by omega)
  have hst : PutsAt 1000 F0 (fun _ => Z) 0 := hF0 ▸ puts_start 1000 _
  obtain ⟨-, q1, q2⟩ := puts_step hst (by omega) (by omega) (by show Z.length ≤ 156; omega)
  obtain ⟨R, hR⟩ : ∃ R, Ar.new 4 0 4 1000 = R := ⟨_, rfl⟩
  have hR2 : R = RK := hR ▸ rg_new 1000 (by omega)
  obtain ⟨F1, hF1⟩ : ∃ F1, R.ringP F0 Z = F1 := ⟨_, rfl⟩
  have hE1 : R.ringE F0 Z = 0 := by rw [hR2]; exact q1
  have hK1 : Keep F1 1 Z 0 := by rw [← hF1, hR2]; exact keep_start q2
  have hpz : padTo Z 156 = Z := by unfold padTo; rw [List.take_of_length_le (by omega), hZl]; simp
  have hzr : (List.replicate 156 (u8v 0)) = Z.map u8v := by rw [← hZ, List.map_replicate]
  have hmk : ∀ W : World, (Instr.makeSlice 22 (.int .i64 156) (.int .i64 156)).run Try.prog W = .ok (.slice (some ⟨W.heap.size, 0, none⟩) 156 156) (W.alloc (.cells (Z.map u8v).toArray 5)) := fun W => by rw [← hzr]; exact make_bytes 156 (by omega) W
  obtain ⟨i0, hi, hz0, hz1, hz2⟩ := info_parts info_u8
  have HI := Lib.hid hi
  have HZ0 := Lib.hid hz0
  have HZ1 := Lib.hid hz1
  have HZ2 := Lib.hid hz2
  have HZl := Lib.hid hZl
  have G0 := Lib.hid hF0
  have G1 := Lib.hid hlen0
  have G2 := Lib.hid hR
  have G3 := Lib.hid hR2
  have G4 := Lib.hid hE1
  have G5 := Lib.hid hF1
  have G6 := Lib.hid hK1
  have G7 := Lib.hid hpz
  have M1 := Lib.hid (fun W => hmk W)
  clear hF0 hlen0 hst hR hR2 hF1 hE1 hK1 q1 q2 hi hz0 hz1 hz2 hzr hpz hmk hZl hZ
  go_enter Try.func9, Try.ntmps9
  go_wp2_with (go_at_call 34; refine (alive11_c _).mono ?_; rintro e w1 ⟨rfl, hb1⟩)
  refine (new_hf 4 (by omega) F0 G0.out hb1).mono ?_
  rintro e w2 ⟨fb, bb, wb, rfl, h2'⟩
  go_wp2_with fail
  refine (anew_h 0 0 4 1000 4 G1.out R G2.out h2').mono ?_
  rintro e w3 ⟨ab, rfl, h3, -, -⟩
  have H3 := Lib.hid h3
  have hmk := M1.out w3
  clear h2' h3 hb1
  obtain ⟨D0, hD0⟩ : ∃ D : ByteArray, (⟨Z.toArray⟩ : ByteArray) = D := ⟨_, rfl⟩
  have hrz : Reads (w3.alloc (.cells (Z.map u8v).toArray 5)) (some ⟨w3.heap.size, 0, none⟩) 156 (Z.map u8v) := by
    have h := rowReads w3 Z 5 (0, 0)
    rw [HZl.out] at h
    exact h
  have HRZ := Lib.hid hrz
  have HD0 := Lib.hid hD0
  clear hrz hD0
  go_wp2_with (first
    | (go_at_call 35; refine (rput_h _ 156 156 Z (by omega) HRZ.out H3.out.has.apart (H3.out.alloc _) 0 F1 G4.out G5.out).mono ?_; rintro e w4 ⟨rfl, h4, ho4⟩; have H4 := Lib.hid h4; have hcv : (convert 22 9 (.slice (some ⟨w3.heap.size, 0, none⟩) 156 156)).run Try.prog w4 = .ok (.string D0) w4 := HD0.out ▸ strAny w4 _ 156 156 Z (HRZ.out.only ho4 H3.out.has.apart); clear h4 ho4)
    | (go_at_call 36; refine (num11_c _ _).mono ?_; rintro e w' ⟨rfl, rfl⟩))
  clear hmk HRZ H3 G0 G1 G2 G4 G5 hcv M1
  have hr3 := G3.out
  subst hr3
  go_loopw [11, 12, 13] (fun a s t wr => ∃ (i q : Nat) (F : Fl) (cc : List UInt8) (D : ByteArray), i ≤ n0 ∧ a = .string D ∧ s = .int .i64 (q : Int) ∧ t = .int .i64 (i : Int) ∧ D = ⟨(padTo cc 156).toArray⟩ ∧ q ≤ i + 1 ∧ Keep F q cc i ∧ HasA w wr ab fb bb wb RK F) (fun _ _ t _ => n0 - (intOf t).toNat)
  case atStart => exact ⟨0, 1, F1, Z, D0, by omega, rfl, rfl, rfl, by rw [G7.out, ← HD0.out], by omega, G6.out, H4.out⟩
  case round =>
    clear H4 G6 G7 HD0 HZl
    obtain ⟨i, q, F, cc, D, hin, rfl, rfl, rfl, hD, hq, hk, hh⟩ := hrel
    have HK := Lib.hid hk
    have HH := Lib.hid hh
    have HD := Lib.hid hD
    have hq1 := hk.q1
    clear hk hh hD
    by_cases hlt : i < n0
    · exfalso
      have := gz.out
      omega
    · obtain rfl : i = n0 := by omega
      go_wp2_with fail
      go_ret
      exact ⟨rfl, HH.out.has.below⟩
theorem ringKeeps_c (A0 A1 A2 : Option Addr) (n0 c0 n1 c1 n2 c2 : Nat) (ls ms : List (List UInt8)) (l1 : List Int) (w : World)
    (r0 : Rows2 w A0 n0 ls) (r1 : Reads w A1 n1 (l1.map i64v)) (r2 : Rows2 w A2 n2 ms) (z0 : n0 ≤ c0 ∧ c0 ≤ maxLen) (z1 : n1 ≤ c1 ∧ c1 ≤ maxLen) (z2 : n2 ≤ c2 ∧ c2 ≤ maxLen) :
    Calls Try.prog 9 #[.slice A0 n0 c0, .slice A1 n1 c1, .slice A2 n2 c2] w fun e w' => e = .returned (.bool true) ∧ Below w.heap.size w w' := by
  by_cases hg : 30 < n0 ∨ n1 < n0 ∨ n2 < n0
  · exact ringKeeps_off A0 A1 A2 n0 c0 n1 c1 n2 c2 w hg
  · by_cases h0 : n0 = 0
    · exact ringKeeps_nil A0 A1 A2 n0 c0 n1 c1 n2 c2 w (Lib.hid h0)
    · obtain ⟨b0, o0, _, _, _, e0, _⟩ := r0.2 0 (by omega)
      obtain ⟨b1, o1, e1, _⟩ := r1.2 (by omega)
      obtain ⟨b2, o2, _, _, _, e2, _⟩ := r2.2 0 (by omega)
      subst e0 e1 e2
      exact ringKeeps_some b0 o0 b1 o1 b2 o2 n0 c0 n1 c1 n2 c2 ls ms l1 w r0 r1 r2 z0 z1 z2 (by omega) (by omega) (by omega)
end Go.Proofs.Ytmpgomjdfegfpaa
