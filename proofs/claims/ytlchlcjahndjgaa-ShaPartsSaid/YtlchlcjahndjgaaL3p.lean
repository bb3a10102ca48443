/- waterlinelaw3.ShaParts: the walk. -/
import Derived.Test.YtlchlcjahndjgaaSp1
import Derived.Test.YtlchlcjahndjgaaSp2
import Derived.Test.YtlchlcjahndjgaaSp4
import Derived.Test.YtlchlcjahndjgaaSld
import Derived.Test.YtlchlcjahndjgaaEq32
import Derived.Test.YtlchlcjahndjgaaRs7
import Derived.Test.YtlchlcjahndjgaaRows2
import Derived.Test.YtlchlcjahndjgaaStr
import Derived.Deep.RegionHeld3
import Derived.Deep.DrawnRows
namespace Go.Proofs.Ytlchlcjahndjgaa
open Go Go.RowKit
set_option linter.unusedVariables false
set_option linter.unusedSimpArgs false
attribute [local go_sem ↓] Go.wp_at_zero Go.wp_at_succ
theorem num3_c (n : Int) (w : World) : Calls Try.prog 17 #[.int .i64 n] w fun e w' => e = .returned (.int .i64 n) ∧ w = w' := by
  go_enter Try.func17, Try.ntmps17
  go_wp2
  go_ret
  exact ⟨rfl, rfl⟩
abbrev boolv (t : Bool) : Value := .bool t
theorem absorb_mod3 (s : St) (l : List UInt8) : (absorb s l).2.length = l.length % 64 := by
  induction h : l.length using Nat.strongRecOn generalizing s l with
  | _ n ih =>
    by_cases h64 : 64 ≤ l.length
    · rw [absorb_more s l h64, ih (l.drop 64).length (by rw [List.length_drop]; omega) _ _ rfl, List.length_drop]
      omega
    · rw [absorb_done s l h64]; show l.length = _; omega
/-- All of a stream that has had the bytes l. -/
def svd (l : List UInt8) : List UInt8 := saved (absorb St.first l).1 (UInt64.ofNat l.length) (absorb St.first l).2
theorem svd_len (l : List UInt8) : (svd l).length = 40 + l.length % 64 := by unfold svd; rw [saved_len, absorb_mod3]
theorem save_had3 (w : World) (sb : Nat) (l : List UInt8) (h : Had w sb l) :
    Calls Try.prog 12 #[.pointer (some ⟨sb, 0, none⟩)] w (MadeBytes w (svd l)) := by
  have := absorb_rest St.first l
  exact save_c w sb _ _ _ h (by omega)
theorem save_rhad (w : World) (sb : Nat) (l : List UInt8) (h : RHad w sb l) :
    Calls Try.prog 15 #[.pointer (some ⟨sb, 0, none⟩)] w (MadeBytes w (svd l)) := by
  have := absorb_rest St.first l
  exact rsave_c w sb _ _ _ h (by omega)
theorem restore_had (w : World) (bb bo c : Nat) (l : List UInt8) (hr : Reads w (some ⟨bb, bo, none⟩) (svd l).length ((svd l).map u8v)) (hc : (svd l).length ≤ c ∧ c ≤ maxLen) (hl : l.length ≤ 1000000) :
    Calls Try.prog 16 #[.slice (some ⟨bb, bo, none⟩) (svd l).length c] w fun e w' => ∃ sb, e = .returned (.tuple #[.pointer (some ⟨sb, 0, none⟩), .int .i64 0]) ∧ Had w' sb l ∧ w.heap.size ≤ sb ∧ Below w.heap.size w w' := by
  have h1 := absorb_rest St.first l
  have h2 := absorb_mod3 St.first l
  refine restore_c w bb bo _ c _ _ _ rfl hr hc (by omega) ?_ ?_
  · rw [UInt64.toNat_ofNat']; omega
  · rw [UInt64.toNat_ofNat', h2]; omega
theorem Parts.turn {w0 wr w' : World} {sb rb t : Nat} {Aa : Option Addr} {ca : Nat} {L : List UInt8} (h : Parts w0 wr sb rb Aa ca L) (hb : Below wr.heap.size wr w') (ht : Had w' t L) (h0 : wr.heap.size ≤ t) : Parts w0 w' t rb Aa ca L := by
  have h2 := h.later hb
  have := h.bel.size
  exact ⟨h2.bel, ht, h2.rhad, h2.own, by omega, h2.r0⟩
theorem bools_at {w : World} {b o n k : Nat} {l : List Bool} (h : Reads w (some ⟨b, o, none⟩) n (l.map boolv)) (hk : k < n) : w.cell? ⟨b, o + k, none⟩ = some (boolv (l.getD k false)) := by
  obtain ⟨b', o', u, e, hb, hu, hc⟩ := h.at_ hk
  cases e
  have hl : l.length = n := by simpa using h.len
  rw [List.getElem?_map, List.getElem?_eq_getElem (by omega)] at hu
  rw [hc, List.getD_eq_getElem?_getD, List.getElem?_eq_getElem (by omega), ← hu]
  rfl
set_option maxRecDepth 100000 in
theorem shaParts_off (A0 A1 : Option Addr) (n0 c0 n1 c1 : Nat) (w : World) (hg : 20 < n0 ∨ n1 < n0) :
    Calls Try.prog 3 #[.slice A0 n0 c0, .slice A1 n1 c1] w fun e w' => e = .returned (.bool true) ∧ Below w.heap.size w w' := by
  by_cases g0 : 20 < n0
  · clear hg
    go_enter Try.func3, Try.ntmps3
    go_wp2_with (go_at_call 7; refine (alive3_c _).mono ?_; rintro e w1 ⟨rfl, hb⟩)
    go_ret
    exact ⟨rfl, hb⟩
  · have g1 : n1 < n0 := by omega
    clear hg
    go_enter Try.func3, Try.ntmps3
    go_wp2_with (go_at_call 7; refine (alive3_c _).mono ?_; rintro e w1 ⟨rfl, hb⟩)
    go_ret
    exact ⟨rfl, hb⟩
set_option maxRecDepth 100000 in
set_option maxHeartbeats 4000000 in
theorem shaParts_none (A0 A1 : Option Addr) (c0 n1 c1 : Nat) (w : World) :
    Calls Try.prog 3 #[.slice A0 0 c0, .slice A1 n1 c1] w fun e w' => e = .returned (.bool true) ∧ Below w.heap.size w w' := by
  have hn1 : 0 ≤ n1 := Nat.zero_le _
  go_enter Try.func3, Try.ntmps3
  go_wp2_with (go_at_call 7; refine (alive3_c _).mono ?_; rintro e w1 ⟨rfl, hb⟩)
  refine (new_had w1).mono ?_
  rintro e w2 ⟨sb0, rfl, hh2, hsb, hb2⟩
  have s1 := hb.size
  have s2 := hb2.size
  have HB2 := Lib.hid (hb.trans (hb2.mono s1))
  have HH2 := Lib.hid hh2
  clear hb hb2 hh2
  go_wp2_with fail
  refine (new_rhad w2).mono ?_
  rintro e w3 ⟨rb, rfl, hr3, hrb, hb3⟩
  have hp3 : Parts w w3 sb0 rb none 0 [] := ⟨HB2.out.trans (hb3.mono (by omega)), HH2.out.below hb3 (Nat.le_refl _), hr3, World.ownsRow_nil _ _ _ _, by omega, by omega⟩
  have HP3 := Lib.hid hp3
  clear hp3 hr3 hb3 HB2 HH2
  go_wp2_with fail
  go_loopw [6, 8, 9] (fun ps al i wr => ∃ (sb : Nat) (Aa : Option Addr) (ca : Nat) (L : List UInt8), ps = .pointer (some ⟨sb, 0, none⟩) ∧ al = .slice Aa L.length ca ∧ i = .int .i64 0 ∧ L.length ≤ 300 ∧ Parts w wr sb rb Aa ca L) (fun _ _ _ _ => 0)
  case atStart => exact ⟨sb0, none, 0, [], rfl, rfl, rfl, by simp, HP3.out⟩
  case round =>
    clear HP3
    obtain ⟨sb, Aa, ca, L, rfl, rfl, rfl, hL, hp⟩ := hrel
    obtain ⟨d, hd⟩ : ∃ d, sha L = d := ⟨_, rfl⟩
    have hdl : d.length = 32 := by rw [← hd]; exact sha_len _
    have hs1 : ∀ W, Had W sb L → Calls Try.prog 13 #[.pointer (some ⟨sb, 0, none⟩)] W fun e w' => e = .returned (.agg (d.map u8v).toArray) ∧ Below W.heap.size W w' := fun W h => hd ▸ sum_had W sb L h
    have hs2 : ∀ W, Reads W Aa L.length (L.map u8v) → Calls Try.prog 18 #[.slice Aa L.length ca] W fun e w' => e = .returned (.agg (d.map u8v).toArray) ∧ Below W.heap.size W w' := fun W h => hd ▸ rsha_d W Aa _ ca L rfl h (by omega)
    have HS1 := Lib.hid hs1
    have HS2 := Lib.hid hs2
    have HP := Lib.hid hp
    have he := fun W => eql32 d d hdl hdl W
    rw [show (d == d) = true by simp] at he
    clear hd hs1 hs2 hp
    go_wp2_with (first
      | (go_at_call 13; refine (HS1.out _ HP.out.had).mono ?_; rintro e w4 ⟨rfl, hb4⟩; have HP4 := Lib.hid (HP.out.later hb4); clear hb4)
      | (go_at_call 18; refine (HS2.out _ (Reads.of_own HP4.out.own)).mono ?_; rintro e w5 ⟨rfl, hb5⟩; have HB5 := Lib.hid (HP4.out.later hb5).bel; clear hb5))
    go_ret
    exact ⟨rfl, HB5.out⟩
set_option maxRecDepth 100000 in
set_option maxHeartbeats 8000000 in
theorem shaParts_some (b0 o0 b1 o1 n0 c0 n1 c1 : Nat) (ls : List (List UInt8)) (l1 : List Bool) (w : World) (r0 : Rows2 w (some ⟨b0, o0, none⟩) n0 ls) (r1 : Reads w (some ⟨b1, o1, none⟩) n1 (l1.map boolv)) (g0 : n0 ≤ 20) (g1 : n0 ≤ n1) :
    Calls Try.prog 3 #[.slice (some ⟨b0, o0, none⟩) n0 c0, .slice (some ⟨b1, o1, none⟩) n1 c1] w fun e w' => e = .returned (.bool true) ∧ Below w.heap.size w w' := by
  obtain ⟨i0, hi, hz0, hz1, hz2⟩ := info_parts info_u8
  have HI := Lib.hid hi
  have HZ0 := Lib.hid hz0
  have HZ1 := Lib.hid hz1
  have HZ2 := Lib.hid hz2
  have R0 := Lib.hid r0
  have R1 := Lib.hid r1
  clear hi hz0 hz1 hz2 r0 r1
  go_enter Try.func3, Try.ntmps3
  go_wp2_with (go_at_call 7; refine (alive3_c _).mono ?_; rintro e w1 ⟨rfl, hb⟩)
  refine (new_had w1).mono ?_
  rintro e w2 ⟨sb0, rfl, hh2, hsb, hb2⟩
  have s1 := hb.size
  have s2 := hb2.size
  have HB2 := Lib.hid (hb.trans (hb2.mono s1))
  have HH2 := Lib.hid hh2
  clear hb hb2 hh2
  go_wp2_with fail
  refine (new_rhad w2).mono ?_
  rintro e w3 ⟨rb, rfl, hr3, hrb, hb3⟩
  have hp3 : Parts w w3 sb0 rb none 0 [] := ⟨HB2.out.trans (hb3.mono (by omega)), HH2.out.below hb3 (Nat.le_refl _), hr3, World.ownsRow_nil _ _ _ _, by omega, by omega⟩
  have HP3 := Lib.hid hp3
  clear hp3 hr3 hb3 HB2 HH2
  go_wp2_with fail
  go_loopw [6, 8, 9, 10, 11, 12] (fun ps al i x10 x11 x12 wr => ∃ (sb k : Nat) (Aa : Option Addr) (ca : Nat) (L : List UInt8), k ≤ n0 ∧ ps = .pointer (some ⟨sb, 0, none⟩) ∧ al = .slice Aa L.length ca ∧ i = .int .i64 (k : Int) ∧ L.length ≤ 300 * k ∧ Parts w wr sb rb Aa ca L) (fun _ _ i _ _ _ _ => n0 - (intOf i).toNat)
  case atStart => exact ⟨sb0, 0, none, 0, [], by omega, rfl, rfl, rfl, by simp, HP3.out⟩
  case round =>
    clear HP3
    obtain ⟨sb, k, Aa, ca, L, hk, rfl, rfl, rfl, hL, hp⟩ := hrel
    by_cases hlt : k < n0
    · obtain ⟨_, _, Aj, nj, cj, eA, hlt0, kk0, hnc, hcm, hrb⟩ := R0.out.2 k hlt
      cases eA
      obtain ⟨p, hp0⟩ : ∃ p, ls.getD k [] = p := ⟨_, rfl⟩
      rw [hp0] at hrb
      have hpl : p.length = nj := by simpa using hrb.len
      have HROW := Lib.hid (show ∀ W, Below w.heap.size w W → W.cell? ⟨b0, o0 + k, none⟩ = some (.slice Aj nj cj) ∧ Reads W Aj nj (p.map u8v) from fun W hW => ⟨(hW.cell (p := ⟨b0, o0 + k, none⟩) hlt0).trans kk0, hrb.below hW⟩)
      have hblt := hrb.lt
      have HBLT := Lib.hid hblt
      have HP := Lib.hid hp
      have HPL := Lib.hid hpl
      have hc1 := (HROW.out wr hp.bel).1
      have hws := hp.bel.size
      have hsb := hp.s0
      have hrbb := hp.r0
      clear hp kk0 hrb hp0 hpl hblt hlt0
      by_cases h300 : 300 < nj
      · go_wp2_with fail
        go_ret
        exact ⟨rfl, HP.out.bel⟩
      · go_upto_region 12 with fail
        go_upto_region 13 with (at_builtin; refine wpList_append_any _ rfl (.const (.slice none 0 0)) (.tmp 53) _ rfl wr.heap.size 5 i0 (.int .u8 0) 1 Try.underlying29 HI.out HZ0.out HZ1.out HZ2.out rfl _ 0 [] rfl (World.ownsRow_nil _ _ _ _) Aj nj cj (p.map u8v) rfl (HROW.out wr HP.out.bel).2 (u8v_one _) (by unfold maxLen; omega) (by omega) (Nat.le_refl _) ?_; intro A4 c4 w4 ho4 hg4 hat4; (try simp only [Nat.zero_add, List.nil_append] at ho4); have HO4 := Lib.hid ho4; have HB4 := Lib.hid (show Below wr.heap.size wr w4 from (Below.refl wr.heap.size wr).grown hg4 (Nat.le_refl _) (by intro k hk; cases hk)); clear ho4 hg4 hat4)
        have hp4 := HP.out.later HB4.out
        refine (write_hadx w4 sb L A4 nj c4 p HPL.out hp4.had (Reads.of_own HO4.out) (fun _ a ha => by subst ha; have := (HO4.out.lt a.block rfl).1; have := StreamAt.lt HP.out.had; omega) (by omega)).mono ?_
        rintro e w5 ⟨rfl, hh5, ho5, hf5⟩
        have HP4 := Lib.hid hp4
        have HH5 := Lib.hid hh5
        have HO5 := Lib.hid ho5
        have HF5 := Lib.hid hf5
        have hb5 := ho5.below hp4.bel hp4.bel.size (by intro j hj; simp at hj; omega)
        have HB5 := Lib.hid hb5
        have hc5 := (HROW.out w5 hb5).1
        clear hp4 hh5 ho5 hf5 hb5
        go_wp2_with fail
        refine (write_rhadx w5 rb L Aj nj cj p HPL.out (HP4.out.rhad5 HO5.out) (HROW.out w5 HB5.out).2 (fun h a ha => by have := HBLT.out h a ha; omega) (by omega)).mono ?_
        rintro e w6 ⟨rfl, hh6, ho6, hf6⟩
        have HH6 := Lib.hid hh6
        have HO6 := Lib.hid ho6
        have HF6 := Lib.hid hf6
        have OW6 := Lib.hid (HP4.out.own6 HO5.out ho6)
        have hb6 := ho6.below HB5.out HB5.out.size (by intro j hj; simp at hj; omega)
        have HB6 := Lib.hid hb6
        have hc6 := (HROW.out w6 hb6).1
        clear hh6 ho6 hf6 hb6 hc5 hc1
        go_upto_region 15 with (at_builtin; refine wpList_append_any _ rfl (.tmp 62) (.tmp 66) _ rfl w.heap.size 5 i0 (.int .u8 0) 1 Try.underlying29 HI.out HZ0.out HZ1.out HZ2.out rfl _ L.length (L.map u8v) rfl OW6.out Aj nj cj (p.map u8v) rfl (HROW.out w6 HB6.out).2 (u8v_one _) (by unfold maxLen; omega) (by omega) HB6.out.size ?_; intro A7 c7 w7 ho7 hg7 hat7; have HO7 := Lib.hid ho7; have HG7 := Lib.hid hg7; clear ho7 hg7 hat7)
        obtain ⟨M, hM⟩ : ∃ M, L ++ p = M := ⟨_, rfl⟩
        have hML : L.length + nj = M.length := by rw [← hM, List.length_append, HPL.out]
        have how := HO7.out
        rw [← List.map_append, hM, hML] at how
        have hp7 : Parts w w7 sb rb A7 c7 M := by
          rw [← hM]
          exact HP4.out.step HO5.out HH5.out HF5.out HO6.out HH6.out HF6.out HG7.out (by rw [hM]; exact how)
        rw [hML]
        have hMl : M.length ≤ 300 * (k + 1) := by omega
        have HP7 := Lib.hid hp7
        clear hML hM how hp7 HO7 HG7 HP4 HH5 HO5 HF5 HB5 HH6 HO6 HF6 OW6 HB6 HO4 HB4 HP HROW HBLT HPL hc6
        clear hL
        go_wp2_with fail
        refine (save_had3 w7 sb M HP7.out.had).mono ?_
        rintro e w8 ⟨A8, c8, rfl, ho8, hb8⟩
        have hp8 := HP7.out.later hb8
        have hsl := svd_len M
        obtain ⟨bb, bo, hA8⟩ : ∃ bb bo, A8 = some ⟨bb, bo, none⟩ := by
          obtain ⟨b, o, u, e, _⟩ := (Reads.of_own ho8).at_ (show 0 < (svd M).length by omega)
          exact ⟨b, o, e⟩
        subst hA8
        have hcaps := own_caps ho8
        have hrest : ∀ W, Reads W (some ⟨bb, bo, none⟩) (svd M).length ((svd M).map u8v) → Calls Try.prog 16 #[.slice (some ⟨bb, bo, none⟩) (svd M).length c8] W fun e w' => ∃ sb, e = .returned (.tuple #[.pointer (some ⟨sb, 0, none⟩), .int .i64 0]) ∧ Had w' sb M ∧ W.heap.size ≤ sb ∧ Below W.heap.size W w' := fun W h => restore_had W bb bo c8 M h hcaps (by omega)
        have hrsv : ∀ W, RHad W rb M → Calls Try.prog 15 #[.pointer (some ⟨rb, 0, none⟩)] W (MadeBytes W (svd M)) := fun W h => save_rhad W rb M h
        obtain ⟨SV, hSV⟩ : ∃ SV, svd M = SV := ⟨_, rfl⟩
        rw [hSV] at ho8 hcaps hrest hrsv hsl ⊢
        obtain ⟨D, hD⟩ : ∃ D : ByteArray, (⟨SV.toArray⟩ : ByteArray) = D := ⟨_, rfl⟩
        obtain ⟨E, hE⟩ : ∃ E : ByteArray, D = E := ⟨_, rfl⟩
        have hDE : (D.toList == E.toList) = true := by rw [← hE]; exact beq_self_eq_true _
        have hcv0 : ∀ (W : World) (A : Option Addr) (c : Nat), Reads W A SV.length (SV.map u8v) → (convert 29 9 (.slice A SV.length c)).run Try.prog W = .ok (.string E) W := fun W A c h => hE ▸ hD ▸ strAny W A _ c SV h
        have RD8 := Lib.hid (show ∀ W, Below w8.heap.size w8 W → Reads W (some ⟨bb, bo, none⟩) SV.length (SV.map u8v) from fun W hW => (Reads.of_own ho8).below hW)
        have HC8 := Lib.hid (show ∀ W, Below w8.heap.size w8 W → (convert 29 9 (.slice (some ⟨bb, bo, none⟩) SV.length c8)).run Try.prog W = .ok (.string D) W from fun W hW => hE.symm ▸ hcv0 W _ _ (RD8.out W hW))
        have HCV := Lib.hid hcv0
        obtain ⟨d, hd⟩ : ∃ d, sha M = d := ⟨_, rfl⟩
        have hdl : d.length = 32 := by rw [← hd]; exact sha_len _
        have hs1 : ∀ W, Had W sb M → Calls Try.prog 13 #[.pointer (some ⟨sb, 0, none⟩)] W fun e w' => e = .returned (.agg (d.map u8v).toArray) ∧ Below W.heap.size W w' := fun W h => hd ▸ sum_had W sb M h
        have hs2 : ∀ W, Reads W A7 M.length (M.map u8v) → Calls Try.prog 14 #[.slice A7 M.length c7] W fun e w' => e = .returned (.agg (d.map u8v).toArray) ∧ Below W.heap.size W w' := fun W h => hd ▸ sum_c W A7 c7 M h (by omega)
        have he := fun W => neq32 d d hdl hdl W
        rw [show (!(d == d)) = false by simp] at he
        have HRS := Lib.hid hrest
        have HRV := Lib.hid hrsv
        have HS1 := Lib.hid hs1
        have HS2 := Lib.hid hs2
        have HPc := Lib.hid (hp8.later (Below.refl w8.heap.size w8).drew)
        have HBc := Lib.hid ((Below.refl w8.heap.size w8).drew)
        have hcz := HC8.out w8.drew HBc.out
        clear hSV hD hE hcv0 hd hs1 hs2 hrest hrsv hb8 ho8 hp8 hsl hcaps HP7
        go_upto_region 16 with fail
        refine wp_region_held_drew (S := (fun W => (convert 29 9 (.slice (some ⟨bb, bo, none⟩) SV.length c8)).run Try.prog W = .ok (.string D) W)) (by kernel_rfl) ?_ (fun hHeld => ?_)
        · exact hcz
        refine wpAnyH_take (i := 0) (v := ?_) rfl (by kernel_rfl) (by kernel_rfl) (by kernel_rfl) (fun _ _ _ h => h) (Or.inl ⟨by rfl, ?_⟩) (by assumption) ?_
        rotate_left
        · intro w hSw
          (try dsimp only at hSw)
          go_simp
          all_goals with_reducible rfl
        try simp only [Act.put, List.getElem_toArray, List.getElem_cons_succ, List.getElem_cons_zero, List.setIfInBounds_toArray, List.set_cons_zero, List.set_cons_succ]
        refine wpAnyH_take (i := 2) (v := ?_) rfl (by kernel_rfl) (by kernel_rfl) (by kernel_rfl) (fun _ _ _ h => h) (Or.inl ⟨by rfl, ?_⟩) (by assumption) ?_
        rotate_left
        · intro w hSw
          (try dsimp only at hSw)
          go_simp
          all_goals with_reducible rfl
        try simp only [Act.put, List.getElem_toArray, List.getElem_cons_succ, List.getElem_cons_zero, List.setIfInBounds_toArray, List.set_cons_zero, List.set_cons_succ]
        refine wpAnyH_ready (rs := [1]) (by kernel_rfl) (by simp) ?_
        refine AllReadyH.cons rfl (fun K hK => ?_) AllReadyH.nil
        go_simp
        refine (HS1.out _ HPc.out.had).mono ?_; rintro e w9 ⟨rfl, hb9⟩; have HP9 := Lib.hid (HPc.out.later hb9); have HB9 := Lib.hid (HBc.out.trans (hb9.mono HBc.out.size)); have hc9 := HC8.out w9 HB9.out; clear hb9
        go_wp2_with fail
        refine hK.out _ _ ?_ (fun hHeld => ?_)
        · (try dsimp only)
          first | exact hc11 | exact hc10 | exact hc9
        clear hK K
        try simp only [Act.put, List.getElem_toArray, List.getElem_cons_succ, List.getElem_cons_zero, List.setIfInBounds_toArray, List.set_cons_zero, List.set_cons_succ]
        refine wpAnyH_ready (rs := [3]) (by kernel_rfl) (by simp) ?_
        refine AllReadyH.cons rfl (fun K hK => ?_) AllReadyH.nil
        go_simp
        refine (HS2.out _ (Reads.of_own HP9.out.own)).mono ?_; rintro e w10 ⟨rfl, hb10⟩; have HP10 := Lib.hid (HP9.out.later hb10); have HB10 := Lib.hid (HB9.out.trans (hb10.mono HB9.out.size)); have hc10 := HC8.out w10 HB10.out; clear hb10
        go_wp2_with fail
        refine hK.out _ _ ?_ (fun hHeld => ?_)
        · (try dsimp only)
          first | exact hc11 | exact hc10 | exact hc9
        clear hK K
        try simp only [Act.put, List.getElem_toArray, List.getElem_cons_succ, List.getElem_cons_zero, List.setIfInBounds_toArray, List.set_cons_zero, List.set_cons_succ]
        refine wpAnyH_take (i := 4) (v := ?_) rfl (by kernel_rfl) (by kernel_rfl) (by kernel_rfl) (fun _ _ _ h => h) (Or.inl ⟨by rfl, ?_⟩) (by assumption) ?_
        rotate_left
        · intro w hSw
          (try dsimp only at hSw)
          go_simp
          all_goals with_reducible rfl
        try simp only [Act.put, List.getElem_toArray, List.getElem_cons_succ, List.getElem_cons_zero, List.setIfInBounds_toArray, List.set_cons_zero, List.set_cons_succ]
        refine wpAnyH_take (i := 5) (v := ?_) rfl (by kernel_rfl) (by kernel_rfl) (by kernel_rfl) (fun _ _ _ h => h) (Or.inl ⟨by rfl, ?_⟩) (by assumption) ?_
        rotate_left
        · intro w hSw
          (try dsimp only at hSw)
          go_simp
          all_goals with_reducible rfl
        try simp only [Act.put, List.getElem_toArray, List.getElem_cons_succ, List.getElem_cons_zero, List.setIfInBounds_toArray, List.set_cons_zero, List.set_cons_succ]
        refine wpAnyH_take (i := 6) (v := ?_) rfl (by kernel_rfl) (by kernel_rfl) (by kernel_rfl) (fun _ _ _ h => h) (Or.inl ⟨by rfl, ?_⟩) (by assumption) ?_
        rotate_left
        · intro w hSw
          (try dsimp only at hSw)
          go_simp
          all_goals with_reducible rfl
        try simp only [Act.put, List.getElem_toArray, List.getElem_cons_succ, List.getElem_cons_zero, List.setIfInBounds_toArray, List.set_cons_zero, List.set_cons_succ]
        refine wpAnyH_take (i := 7) (v := ?_) rfl (by kernel_rfl) (by kernel_rfl) (by kernel_rfl) (fun _ _ _ h => h) (Or.inl ⟨by rfl, ?_⟩) (by assumption) ?_
        rotate_left
        · intro w hSw
          (try dsimp only at hSw)
          go_simp
          all_goals with_reducible rfl
        try simp only [Act.put, List.getElem_toArray, List.getElem_cons_succ, List.getElem_cons_zero, List.setIfInBounds_toArray, List.set_cons_zero, List.set_cons_succ]
        refine wpAnyH_take (i := 8) (v := ?_) rfl (by kernel_rfl) (by kernel_rfl) (by kernel_rfl) (fun _ _ _ h => h) (Or.inl ⟨by rfl, ?_⟩) (by assumption) ?_
        rotate_left
        · intro w hSw
          (try dsimp only at hSw)
          go_simp
          all_goals with_reducible rfl
        try simp only [Act.put, List.getElem_toArray, List.getElem_cons_succ, List.getElem_cons_zero, List.setIfInBounds_toArray, List.set_cons_zero, List.set_cons_succ]
        refine wpAnyH_ready (rs := [9]) (by kernel_rfl) (by simp) ?_
        refine AllReadyH.cons rfl (fun K hK => ?_) AllReadyH.nil
        go_simp
        refine (HRV.out _ HP10.out.rhad).mono ?_; rintro e w11 ⟨A11, c11, rfl, ho11, hb11⟩; have HP11 := Lib.hid (HP10.out.later hb11); have HB11 := Lib.hid (HB10.out.trans (hb11.mono HB10.out.size)); have hc11 := HC8.out w11 HB11.out; have hk11 := HCV.out w11 A11 c11 (Reads.of_own ho11); clear hb11 ho11
        go_wp2_with fail
        refine hK.out _ _ ?_ (fun hHeld => ?_)
        · (try dsimp only)
          first | exact hc11 | exact hc10 | exact hc9
        clear hK K
        try simp only [Act.put, List.getElem_toArray, List.getElem_cons_succ, List.getElem_cons_zero, List.setIfInBounds_toArray, List.set_cons_zero, List.set_cons_succ]
        refine wpAnyH_ready (rs := [10]) (by kernel_rfl) (by simp) ?_
        refine AllReadyH.cons rfl (fun K hK => ?_) AllReadyH.nil
        go_simp
        refine hK.out _ _ ?_ (fun hHeld => ?_)
        · (try dsimp only)
          first | exact hc11 | exact hc10 | exact hc9
        clear hK K
        try simp only [Act.put, List.getElem_toArray, List.getElem_cons_succ, List.getElem_cons_zero, List.setIfInBounds_toArray, List.set_cons_zero, List.set_cons_succ]
        refine wpAnyH_take (i := 11) (v := ?_) rfl (by kernel_rfl) (by kernel_rfl) (by kernel_rfl) (fun _ _ _ h => h) (Or.inl ⟨by rfl, ?_⟩) (by assumption) ?_
        rotate_left
        · intro w hSw
          (try dsimp only at hSw)
          go_simp
          all_goals with_reducible rfl
        try simp only [Act.put, List.getElem_toArray, List.getElem_cons_succ, List.getElem_cons_zero, List.setIfInBounds_toArray, List.set_cons_zero, List.set_cons_succ]
        refine wpAnyH_take (i := 12) (v := ?_) rfl (by kernel_rfl) (by kernel_rfl) (by kernel_rfl) (fun _ _ _ h => h) (Or.inl ⟨by rfl, ?_⟩) (by assumption) ?_
        rotate_left
        · intro w hSw
          (try dsimp only at hSw)
          go_simp
          all_goals with_reducible rfl
        try simp only [Act.put, List.getElem_toArray, List.getElem_cons_succ, List.getElem_cons_zero, List.setIfInBounds_toArray, List.set_cons_zero, List.set_cons_succ]
        refine wpAnyH_done (by kernel_rfl) ?_ _
        try simp only [Act.put, List.getElem_toArray, List.getElem_cons_succ, List.getElem_cons_zero, List.setIfInBounds_toArray, List.set_cons_zero, List.set_cons_succ]
        have hbw := HP11.out.bel
        obtain ⟨t, ht⟩ : ∃ t, l1.getD k false = t := ⟨_, rfl⟩
        have hsv : w11.cell? ⟨b1, o1 + k, none⟩ = some (.bool t) := ht ▸ bools_at (R1.out.below hbw) (by omega)
        clear ht hbw hc11 hk11 hc10 hc9 hcz he HS1 HS2 HRV HC8 HCV HP10 HP9 HB10 HB9 HPc HBc hDE
        cases t
        · go_wp2_with fail
          go_roundw
          case rel => exact ⟨sb, k + 1, A7, c7, M, by omega, rfl, rfl, by go_num, hMl, HP11.out⟩
          case measure => simp [intOf]; omega
        · go_wp2_with fail
          refine (HRS.out w11 (RD8.out w11 HB11.out)).mono ?_
          rintro e w12 ⟨t, rfl, ht, ht0, hb12⟩
          have HP12 := Lib.hid (HP11.out.turn hb12 ht ht0)
          clear ht ht0 hb12
          go_wp2_with (go_at_call 17; refine (num3_c _ _).mono ?_; rintro e w' ⟨rfl, rfl⟩)
          go_roundw
          case rel => exact ⟨t, k + 1, A7, c7, M, by omega, rfl, rfl, by go_num, hMl, HP12.out⟩
          case measure => simp [intOf]; omega
    · obtain rfl : k = n0 := by omega
      clear hlt hk
      obtain ⟨d, hd⟩ : ∃ d, sha L = d := ⟨_, rfl⟩
      have hdl : d.length = 32 := by rw [← hd]; exact sha_len _
      have hs1 : ∀ W, Had W sb L → Calls Try.prog 13 #[.pointer (some ⟨sb, 0, none⟩)] W fun e w' => e = .returned (.agg (d.map u8v).toArray) ∧ Below W.heap.size W w' := fun W h => hd ▸ sum_had W sb L h
      have hs2 : ∀ W, Reads W Aa L.length (L.map u8v) → Calls Try.prog 18 #[.slice Aa L.length ca] W fun e w' => e = .returned (.agg (d.map u8v).toArray) ∧ Below W.heap.size W w' := fun W h => hd ▸ rsha_d W Aa _ ca L rfl h (by omega)
      have HS1 := Lib.hid hs1
      have HS2 := Lib.hid hs2
      have HP := Lib.hid hp
      have he := fun W => eql32 d d hdl hdl W
      rw [show (d == d) = true by simp] at he
      clear hd hs1 hs2 hp
      go_wp2_with (first
        | (go_at_call 13; refine (HS1.out _ HP.out.had).mono ?_; rintro e w4 ⟨rfl, hb4⟩; have HP4 := Lib.hid (HP.out.later hb4); clear hb4)
        | (go_at_call 18; refine (HS2.out _ (Reads.of_own HP4.out.own)).mono ?_; rintro e w5 ⟨rfl, hb5⟩; have HB5 := Lib.hid (HP4.out.later hb5).bel; clear hb5))
      go_ret
      exact ⟨rfl, HB5.out⟩
end Go.Proofs.Ytlchlcjahndjgaa
