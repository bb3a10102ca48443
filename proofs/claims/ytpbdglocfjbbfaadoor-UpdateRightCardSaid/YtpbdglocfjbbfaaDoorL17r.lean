/- waterlinelaw17.UpdateRight: what is kept may be kept behind any requests, an error turns nothing, the least version never falls. -/
import Derived.Test.YtpbdglocfjbbfaaDoorUpR
import Derived.Test.YtpbdglocfjbbfaaDoorArg17b
import Derived.Test.YtpbdglocfjbbfaaDoorL17a
import Derived.Deep.RegionHeld3
import Derived.Deep.DrawnRows
namespace Go.Proofs.YtpbdglocfjbbfaaDoor
open Go Go.RowKit
set_option linter.unusedVariables false
set_option linter.unusedSimpArgs false
theorem Blk.newAt {B : Nat} {w0 W : World} (hb : Below B w0 W) (t : TypeId) (cs : Array Value) : Blk (W.alloc (.cells cs t)) W.heap.size t cs := Blk.new W t cs
theorem Bxs.setRowF {w0 W : World} {l : List (Nat × TypeId × Array Value)} {g : Nat} (h : Bxs w0 W l) (cs : Array Value) (hg : w0.heap.size ≤ g) (hl : ∀ x ∈ l, x.1 ≠ g) : Bxs w0 (W.setRow g cs) l :=
  ⟨fun x hx => (h.all x hx).setRow_mf _ (hl x hx), below_setRow_m h.bel hg _⟩
attribute [local go_sem ↓] sldI_seal sldM_seal sstM_seal sstI_seal sldF_seal sldQ_seal sldR_seal sstR_seal
theorem rangeAt_below {w w' : World} {B g o : Nat} {l : List Value} (h : w.rangeAt g o l) (hb : Below B w w') (hg : g < B) : w'.rangeAt g o l := fun j u hu => (hb.cell (p := ⟨g, o + j, none⟩) hg).trans (h j u hu)
theorem neqM2 (m : Mt) (h : m.Ok) (w : World) : (binOp .neq 27 (.agg m.cells.toArray) (.agg m.cells.toArray)).run Tryd.prog w = .ok (.bool false) w := neqM m h w
set_option maxRecDepth 100000 in
set_option maxHeartbeats 2000000 in
theorem updRight_c (w : World) (m0 : Mt) (h0 : m0.Ok) (LA : Option Addr) (ln lc : Nat) (hlc : ln ≤ lc ∧ lc ≤ maxLen) (hL : ReqsAt w LA ln) (FA : Option Addr) (fn fc : Nat) (hfc : fn ≤ fc ∧ fc ≤ maxLen) (hF : FactsAt w FA fn) (qu : Int) :
    Calls Tryd.prog 4 #[.agg m0.cells.toArray, .slice LA ln lc, .slice FA fn fc, .int .i64 qu] w fun e w' => e = .returned (.bool true) ∧ Below w.heap.size w w' := by
  have hX0 := (Bxs.nil w).new rfl 27 m0.cells.toArray
  obtain ⟨RT, hRT⟩ : ∃ RT, m0.rright = RT := ⟨_, rfl⟩
  have hrm : ∀ W, Calls Tryd.prog 16 #[.agg m0.cells.toArray] W fun e w' => e = .returned (.bool RT) ∧ Below W.heap.size W w' := fun W => hRT ▸ rright_c W m0 h0
  have hS : ∀ W (m : Mt), m.Ok → Bxs w W [(w.heap.size, 27, m.cells.toArray)] →
      (sldM (.pointer (some ⟨w.heap.size, 0, none⟩))).run Tryd.prog W = .ok (.agg m.cells.toArray) W ∧ W.cell? ⟨w.heap.size, 0, none⟩ = some (.int .i64 m.act) ∧ W.cell? ⟨w.heap.size, 69, none⟩ = some (.int .i64 m.mn) ∧ W.cell? ⟨w.heap.size, 70, none⟩ = some (.int .i64 m.ph) := fun W m h hX =>
    ⟨run_sldM (Mt.cells_len h) hX.hd.whole, by rw [hX.hd.cell, List.getElem?_toArray]; rfl, by rw [hX.hd.cell, List.getElem?_toArray, Mt.c69 h], by rw [hX.hd.cell, List.getElem?_toArray, Mt.c70 h]⟩
  obtain ⟨M0, hM0⟩ : ∃ M0, m0.cells.toArray = M0 := ⟨_, rfl⟩
  rw [hM0] at hrm hX0 ⊢
  have HX := Lib.hid hX0
  have HS := Lib.hid hS
  have HRM := Lib.hid hrm
  have HM0 := Lib.hid hM0
  have HRT := Lib.hid hRT
  have HL := Lib.hid hL
  have HF := Lib.hid hF
  clear hX0 hS hrm hM0 hRT hL hF
  go_enter Tryd.func4, Tryd.ntmps4
  go_wp2_with fail
  have hX0 := HX.out
  clear HX
  generalize w.alloc (.cells M0 27) = W3 at hX0 ⊢
  refine (alive17_c W3).mono ?_
  rintro e w1 ⟨rfl, hb1⟩
  have hX1 := hX0.later hb1
  have hld : (sldM (.pointer (some ⟨w.heap.size, 0, none⟩))).run Tryd.prog w1 = .ok (.agg M0) w1 := by
    have q := (HS.out w1 m0 h0 (HM0.out ▸ hX1)).1
    rw [HM0.out] at q
    exact q
  have HX := Lib.hid hX1
  clear hX0 hb1 hX1
  go_wp2_with fail
  refine (HRM.out _).mono ?_
  rintro e w2 ⟨rfl, hb2⟩
  have HX := Lib.hid (HX.out.later hb2)
  clear hb2 hld
  cases RT
  · go_wp2_with fail
    go_ret
    exact ⟨rfl, HX.out.bel⟩
  by_cases hl40 : (40 : Int) < (ln : Int)
  · go_wp2_with fail
    go_ret
    exact ⟨rfl, HX.out.bel⟩
  by_cases hfn : (fn : Int) < (ln : Int)
  · go_wp2_with fail
    go_ret
    exact ⟨rfl, HX.out.bel⟩
  have hright : m0.right = true := by rw [← Mt.rright_eq]; exact HRT.out
  have HRI := Lib.hid hright
  clear hright
  go_wp2_with fail
  go_loopw [10] (fun i wr => ∃ (k : Nat) (m : Mt), k ≤ ln ∧ i = .int .i64 k ∧ m.Ok ∧ m.right = true ∧ Bxs w wr [(w.heap.size, 27, m.cells.toArray)]) (fun i _ => ln - (intOf i).toNat)
  case atStart => exact ⟨0, m0, Nat.zero_le _, rfl, h0, HRI.out, HM0.out ▸ HX.out⟩
  case round =>
    clear HX
    have HL40 := Lib.hid hl40
    have HFN := Lib.hid hfn
    clear hl40 hfn
    have hanon : (ln : Int) ≤ 40 ∧ ¬ fn < ln := by assumption
    clear hanon
    clear ‹(ln : Int) ≤ 40 ∧ ¬ fn < ln›
    obtain ⟨k, m, hk, rfl, ho, hri, hX⟩ := hrel
    by_cases hlt : k < ln
    · obtain ⟨g, o, qk, qn, SB, sl, sc, l, rfl, hg, hra, hrs, hz⟩ := HL.out k hlt
      obtain ⟨g2, o2, f, rfl, hg2, hrf, hfd⟩ := HF.out k (by have := HFN.out; omega)
      have HRI := Lib.hid hri
      have HRS := Lib.hid hrs
      have HZ := Lib.hid hz
      have HRA := Lib.hid hra
      have HRF := Lib.hid hrf
      have HXm := Lib.hid hX
      have hlc1 := hlc.1
      have hlc2 := hlc.2
      have hfc1 := hfc.1
      have hfc2 := hfc.2
      have hkf : k < fn := by have := HFN.out; omega
      have cq : wr.cell? ⟨g, o + k * 3 + 2, none⟩ = some (.slice SB sl sc) := (rangeAt_below HRA.out HXm.out.bel hg) 2 _ rfl
      clear hri hrs hz hra hrf hX
      by_cases hs1 : (1000 : Int) < (sl : Int)
      · go_wp2_with fail
        go_ret
        exact ⟨rfl, HXm.out.bel⟩
      go_upto_region 9 with fail
      clear cq
      obtain ⟨D, hDD⟩ : ∃ D, doA m f qk qn l qu = D := ⟨_, rfl⟩
      have hDo : D.m.Ok := hDD ▸ doA_ok ho f qk qn l qu
      obtain ⟨kr, kmn, ke, ka⟩ := right_keeps HRI.out f qk qn l qu
      rw [hDD] at kr kmn ke ka
      have hdo : ∀ W, Reads W SB sl (l.map u8v) → Calls Tryd.prog 10 #[.agg m.cells.toArray, .agg #[.int .i64 qk, .int .i64 qn, .slice SB sl sc], .agg f.cells.toArray, .int .i64 qu] W fun e w' => e = .returned D.res ∧ Below W.heap.size W w' := fun W hW => by
        rw [← hDD]
        exact doA_c W m ho qk qn SB sl sc l hW (by omega) f hfd qu
      obtain ⟨dm, de, dn, dg⟩ := D
      simp only at hDo kr kmn ke ka
      have hS3 : ∀ W, Bxs w W [(w.heap.size, 27, m.cells.toArray)] →
          (sldM (.pointer (some ⟨w.heap.size, 0, none⟩))).run Tryd.prog W = .ok (.agg m.cells.toArray) W ∧ (sldQ (.pointer (some ⟨g, o + k * 3, none⟩))).run Tryd.prog W = .ok (.agg #[.int .i64 qk, .int .i64 qn, .slice SB sl sc]) W ∧ (sldF (.pointer (some ⟨g2, o2 + k * 35, none⟩))).run Tryd.prog W = .ok (.agg f.cells.toArray) W := fun W hX =>
        ⟨(HS.out W m ho hX).1, run_sldQ rfl (rangeAt_below HRA.out hX.bel hg), run_sldF (Fc.cells_len hfd) (rangeAt_below HRF.out hX.bel hg2)⟩
      have hstN : ∀ (W : World) (gg : Nat) (old : Array Value), Blk W gg 27 old → old.size = 107 → (sstM (.pointer (some ⟨gg, 0, none⟩)) (.agg dm.cells.toArray)).run Tryd.prog W = .ok () (W.setRow gg dm.cells.toArray) := fun W gg old hB hs => storeM hDo hB hs
      have hdo2 : ∀ W, Reads W SB sl (l.map u8v) → Calls Tryd.prog 10 #[.agg m.cells.toArray, .agg #[.int .i64 qk, .int .i64 qn, .slice SB sl sc], .agg f.cells.toArray, .int .i64 qu] W fun e w' => e = .returned (.tuple #[.agg dm.cells.toArray, .agg #[.int .i64 de, .int .i64 dn, .int .i64 dg]]) ∧ Below W.heap.size W w' := fun W hW => (hdo W hW).mono fun e w' hh => ⟨by (rw [hh.1]; unfold Ch.res; rfl), hh.2⟩
      obtain ⟨M, hM⟩ : ∃ M, m.cells.toArray = M := ⟨_, rfl⟩
      obtain ⟨FB, hFB⟩ : ∃ FB, f.cells.toArray = FB := ⟨_, rfl⟩
      obtain ⟨N, hN⟩ : ∃ N, dm.cells.toArray = N := ⟨_, rfl⟩
      rw [hM, hFB] at hS3
      rw [hM, hFB, hN] at hdo2
      rw [hN] at hstN
      have HX := Lib.hid (show Bxs w _ [(w.heap.size, 27, M)] from hM ▸ HXm.out)
      have HS3 := Lib.hid hS3
      have HDO := Lib.hid hdo2
      have HSN := Lib.hid hstN
      have HM := Lib.hid hM
      have HN := Lib.hid hN
      have HKR := Lib.hid kr
      have HKM := Lib.hid kmn
      have HKE := Lib.hid ke
      have HKA := Lib.hid ka
      clear hDD hdo hdo2 hS3 hstN hM hFB hN kr kmn ke ka HXm
      go_cut [11, 12] from 34 to 99 (fun va vb wx => ∃ nb rb, va = .pointer (some ⟨nb, 0, none⟩) ∧ vb = .pointer (some ⟨rb, 0, none⟩) ∧ Bxs w wx [(w.heap.size, 27, M)] ∧ Blk wx nb 27 N ∧ Blk wx rb 36 #[.int .i64 de, .int .i64 dn, .int .i64 dg] ∧ w.heap.size < nb ∧ w.heap.size < rb)
      case first =>
        have HX := Lib.hid HX.out.drew
        have hs0 := HS3.out _ HX.out
        refine wp_region_held_drew (S := (fun W => (sldM (.pointer (some ⟨w.heap.size, 0, none⟩))).run Tryd.prog W = .ok (.agg M) W ∧ (sldQ (.pointer (some ⟨g, o + k * 3, none⟩))).run Tryd.prog W = .ok (.agg #[.int .i64 qk, .int .i64 qn, .slice SB sl sc]) W ∧ (sldF (.pointer (some ⟨g2, o2 + k * 35, none⟩))).run Tryd.prog W = .ok (.agg FB) W)) (by kernel_rfl) ?_ (fun hHeld => ?_)
        · exact hs0
        generalize wr.drew = Wd at HX hs0 hHeld ⊢
        refine wpAnyH_take (i := 0) (v := ?_) rfl (by kernel_rfl) (by kernel_rfl) (by kernel_rfl) (fun _ _ _ h => h) (Or.inl ⟨by rfl, ?_⟩) (by assumption) ?_
        rotate_left
        · intro w hSw
          (try dsimp only at hSw)
          go_simp
          all_goals with_reducible rfl
        try simp only [Act.put, List.getElem_toArray, List.getElem_cons_succ, List.getElem_cons_zero, List.setIfInBounds_toArray, List.set_cons_zero, List.set_cons_succ]
        refine wpAnyH_take (i := 1) (v := ?_) rfl (by kernel_rfl) (by kernel_rfl) (by kernel_rfl) (fun _ _ _ h => h) (Or.inl ⟨by rfl, ?_⟩) (by assumption) ?_
        rotate_left
        · intro w hSw
          (try dsimp only at hSw)
          go_simp
          all_goals with_reducible rfl
        try simp only [Act.put, List.getElem_toArray, List.getElem_cons_succ, List.getElem_cons_zero, List.setIfInBounds_toArray, List.set_cons_zero, List.set_cons_succ]
        refine wpAnyH_take (i := 2) (v := ?_) rfl (by kernel_rfl) (by kernel_rfl) (by kernel_rfl) (fun _ _ _ h => h) (Or.inl ⟨by rfl, ?_⟩) (by assumption) ?_
        rotate_left
        · intro w hSw
          (try dsimp only at hSw)
          go_simp
          all_goals with_reducible rfl
        try simp only [Act.put, List.getElem_toArray, List.getElem_cons_succ, List.getElem_cons_zero, List.setIfInBounds_toArray, List.set_cons_zero, List.set_cons_succ]
        refine wpAnyH_take (i := 3) (v := ?_) rfl (by kernel_rfl) (by kernel_rfl) (by kernel_rfl) (fun _ _ _ h => h) (Or.inl ⟨by rfl, ?_⟩) (by assumption) ?_
        rotate_left
        · intro w hSw
          (try dsimp only at hSw)
          go_simp
          all_goals with_reducible rfl
        try simp only [Act.put, List.getElem_toArray, List.getElem_cons_succ, List.getElem_cons_zero, List.setIfInBounds_toArray, List.set_cons_zero, List.set_cons_succ]
        refine wpAnyH_take (i := 4) (v := ?_) rfl (by kernel_rfl) (by kernel_rfl) (by kernel_rfl) (fun _ _ _ h => h) (Or.inl ⟨by rfl, ?_⟩) (by assumption) ?_
        rotate_left
        · intro w hSw
          (try dsimp only at hSw)
          go_simp
          all_goals with_reducible rfl
        try simp only [Act.put, List.getElem_toArray, List.getElem_cons_succ, List.getElem_cons_zero, List.setIfInBounds_toArray, List.set_cons_zero, List.set_cons_succ]
        refine wpAnyH_take (i := 5) (v := ?_) rfl (by kernel_rfl) (by kernel_rfl) (by kernel_rfl) (fun _ _ _ h => h) (Or.inl ⟨by rfl, ?_⟩) (by assumption) ?_
        rotate_left
        · intro w hSw
          (try dsimp only at hSw)
          go_simp
          all_goals with_reducible rfl
        try simp only [Act.put, List.getElem_toArray, List.getElem_cons_succ, List.getElem_cons_zero, List.setIfInBounds_toArray, List.set_cons_zero, List.set_cons_succ]
        refine wpAnyH_take (i := 6) (v := ?_) rfl (by kernel_rfl) (by kernel_rfl) (by kernel_rfl) (fun _ _ _ h => h) (Or.inl ⟨by rfl, ?_⟩) (by assumption) ?_
        rotate_left
        · intro w hSw
          (try dsimp only at hSw)
          go_simp
          all_goals with_reducible rfl
        try simp only [Act.put, List.getElem_toArray, List.getElem_cons_succ, List.getElem_cons_zero, List.setIfInBounds_toArray, List.set_cons_zero, List.set_cons_succ]
        refine wpAnyH_take (i := 7) (v := ?_) rfl (by kernel_rfl) (by kernel_rfl) (by kernel_rfl) (fun _ _ _ h => h) (Or.inl ⟨by rfl, ?_⟩) (by assumption) ?_
        rotate_left
        · intro w hSw
          (try dsimp only at hSw)
          go_simp
          all_goals with_reducible rfl
        try simp only [Act.put, List.getElem_toArray, List.getElem_cons_succ, List.getElem_cons_zero, List.setIfInBounds_toArray, List.set_cons_zero, List.set_cons_succ]
        refine wpAnyH_take (i := 8) (v := ?_) rfl (by kernel_rfl) (by kernel_rfl) (by kernel_rfl) (fun _ _ _ h => h) (Or.inl ⟨by rfl, ?_⟩) (by assumption) ?_
        rotate_left
        · intro w hSw
          (try dsimp only at hSw)
          go_simp
          all_goals with_reducible rfl
        try simp only [Act.put, List.getElem_toArray, List.getElem_cons_succ, List.getElem_cons_zero, List.setIfInBounds_toArray, List.set_cons_zero, List.set_cons_succ]
        refine wpAnyH_take (i := 9) (v := ?_) rfl (by kernel_rfl) (by kernel_rfl) (by kernel_rfl) (fun _ _ _ h => h) (Or.inl ⟨by rfl, ?_⟩) (by assumption) ?_
        rotate_left
        · intro w hSw
          (try dsimp only at hSw)
          go_simp
          all_goals with_reducible rfl
        try simp only [Act.put, List.getElem_toArray, List.getElem_cons_succ, List.getElem_cons_zero, List.setIfInBounds_toArray, List.set_cons_zero, List.set_cons_succ]
        refine wpAnyH_ready (rs := [10, 14, 15]) (by kernel_rfl) (by simp) ?_
        refine AllReadyH.cons rfl (fun K hK => ?_) ?_
        · go_simp
          refine (HDO.out _ (HRS.out.below HX.out.bel)).mono ?_; rintro e w' ⟨rfl, hb⟩; have HX := Lib.hid (HX.out.later hb); clear hb
          go_wp2_with fail
          refine hK.out _ _ ?_ (fun hHeld => ?_)
          · (try dsimp only)
            exact HS3.out _ HX.out
          clear hK K
          try simp only [Act.put, List.getElem_toArray, List.getElem_cons_succ, List.getElem_cons_zero, List.setIfInBounds_toArray, List.set_cons_zero, List.set_cons_succ]
          refine wpAnyH_take (i := 11) (v := ?_) rfl (by kernel_rfl) (by kernel_rfl) (by kernel_rfl) (fun _ _ _ h => h) (Or.inl ⟨by rfl, ?_⟩) (by assumption) ?_
          rotate_left
          · intro w hSw
            (try dsimp only at hSw)
            go_simp
            all_goals with_reducible rfl
          try simp only [Act.put, List.getElem_toArray, List.getElem_cons_succ, List.getElem_cons_zero, List.setIfInBounds_toArray, List.set_cons_zero, List.set_cons_succ]
          refine wpAnyH_take (i := 12) (v := ?_) rfl (by kernel_rfl) (by kernel_rfl) (by kernel_rfl) (fun _ _ _ h => h) (Or.inl ⟨by rfl, ?_⟩) (by assumption) ?_
          rotate_left
          · intro w hSw
            (try dsimp only at hSw)
            go_simp
            all_goals with_reducible rfl
          try simp only [Act.put, List.getElem_toArray, List.getElem_cons_succ, List.getElem_cons_zero, List.setIfInBounds_toArray, List.set_cons_zero, List.set_cons_succ]
          refine wpAnyH_take (i := 13) (v := ?_) rfl (by kernel_rfl) (by kernel_rfl) (by kernel_rfl) (fun _ _ _ h => h) (Or.inl ⟨by rfl, ?_⟩) (by assumption) ?_
          rotate_left
          · intro w hSw
            (try dsimp only at hSw)
            go_simp
            all_goals with_reducible rfl
          try simp only [Act.put, List.getElem_toArray, List.getElem_cons_succ, List.getElem_cons_zero, List.setIfInBounds_toArray, List.set_cons_zero, List.set_cons_succ]
          refine wpAnyH_ready (rs := [14, 15]) (by kernel_rfl) (by simp) ?_
          refine AllReadyH.cons rfl (fun K hK => ?_) ?_
          · go_simp
            have HNL := Lib.hid HX.out.hd.lt
            have HNb := Lib.hid (Blk.newAt HX.out.bel 27 Tryd.zeroCells27)
            have HX := Lib.hid (HX.out.alloc (.cells Tryd.zeroCells27 27))
            generalize World.alloc _ (.cells Tryd.zeroCells27 27) = Wa at HX HNb  ⊢
            refine hK.out _ _ ?_ (fun hHeld => ?_)
            · (try dsimp only)
              exact HS3.out _ HX.out
            clear hK K
            try simp only [Act.put, List.getElem_toArray, List.getElem_cons_succ, List.getElem_cons_zero, List.setIfInBounds_toArray, List.set_cons_zero, List.set_cons_succ]
            refine wpAnyH_ready (rs := [15]) (by kernel_rfl) (by simp) ?_
            refine AllReadyH.cons rfl (fun K hK => ?_) ?_
            · go_simp
              have HRL := Lib.hid HX.out.hd.lt
              have HRb := Lib.hid (Blk.newAt HX.out.bel 36 #[.int .i64 0, .int .i64 0, .int .i64 0])
              have HX := Lib.hid (HX.out.alloc (.cells #[.int .i64 0, .int .i64 0, .int .i64 0] 36))
              have HNb := Lib.hid (HNb.out.alloc (.cells #[.int .i64 0, .int .i64 0, .int .i64 0] 36))
              generalize World.alloc _ (.cells #[.int .i64 0, .int .i64 0, .int .i64 0] 36) = Wb at HX HRb HNb ⊢
              refine hK.out _ _ ?_ (fun hHeld => ?_)
              · (try dsimp only)
                exact HS3.out _ HX.out
              clear hK K
              try simp only [Act.put, List.getElem_toArray, List.getElem_cons_succ, List.getElem_cons_zero, List.setIfInBounds_toArray, List.set_cons_zero, List.set_cons_succ]
              have hst := HSN.out _ _ _ HNb.out zeroM_size
              refine wpAnyH_ready (rs := [16]) (by kernel_rfl) (by simp) ?_
              refine AllReadyH.cons rfl (fun K hK => ?_) AllReadyH.nil
              go_simp
              have hne := Blk.ne_ HNb.out HRb.out (by decide)
              have HRb := Lib.hid (HRb.out.setRow_mf N (Ne.symm hne))
              have HX := Lib.hid (HX.out.setRowF N (Nat.le_of_lt HNL.out) (by have := HNL.out; intro x hx; simp only [List.mem_cons, List.not_mem_nil, or_false] at hx; rw [hx]; simp; omega))
              have HNb := Lib.hid (HNb.out.setRow_m N)
              clear hst
              refine hK.out _ _ ?_ (fun hHeld => ?_)
              · (try dsimp only)
                exact HS3.out _ HX.out
              clear hK K
              try simp only [Act.put, List.getElem_toArray, List.getElem_cons_succ, List.getElem_cons_zero, List.setIfInBounds_toArray, List.set_cons_zero, List.set_cons_succ]
              have hst := run_sstR de dn dg HRb.out rfl
              refine wpAnyH_ready (rs := [17]) (by kernel_rfl) (by simp) ?_
              refine AllReadyH.cons rfl (fun K hK => ?_) AllReadyH.nil
              go_simp
              have HNb := Lib.hid (HNb.out.setRow_mf #[.int .i64 de, .int .i64 dn, .int .i64 dg] hne)
              have HX := Lib.hid (HX.out.setRowF #[.int .i64 de, .int .i64 dn, .int .i64 dg] (Nat.le_of_lt HRL.out) (by have := HRL.out; intro x hx; simp only [List.mem_cons, List.not_mem_nil, or_false] at hx; rw [hx]; simp; omega))
              have HRb := Lib.hid (HRb.out.setRow_m #[.int .i64 de, .int .i64 dn, .int .i64 dg])
              clear hst
              refine hK.out _ _ ?_ (fun hHeld => ?_)
              · (try dsimp only)
                exact HS3.out _ HX.out
              clear hK K
              try simp only [Act.put, List.getElem_toArray, List.getElem_cons_succ, List.getElem_cons_zero, List.setIfInBounds_toArray, List.set_cons_zero, List.set_cons_succ]
              refine wpAnyH_done (by kernel_rfl) ?_ _
              try simp only [Act.put, List.getElem_toArray, List.getElem_cons_succ, List.getElem_cons_zero, List.setIfInBounds_toArray, List.set_cons_zero, List.set_cons_succ]
              go_wp2_with fail
              go_meet
              exact ⟨_, _, rfl, rfl, HX.out, HNb.out, HRb.out, HNL.out, HRL.out⟩
            exact AllReadyH.nil
          refine AllReadyH.cons rfl (fun K hK => ?_) ?_
          · go_simp
            have HRL := Lib.hid HX.out.hd.lt
            have HRb := Lib.hid (Blk.newAt HX.out.bel 36 #[.int .i64 0, .int .i64 0, .int .i64 0])
            have HX := Lib.hid (HX.out.alloc (.cells #[.int .i64 0, .int .i64 0, .int .i64 0] 36))
            generalize World.alloc _ (.cells #[.int .i64 0, .int .i64 0, .int .i64 0] 36) = Wb at HX HRb  ⊢
            refine hK.out _ _ ?_ (fun hHeld => ?_)
            · (try dsimp only)
              exact HS3.out _ HX.out
            clear hK K
            try simp only [Act.put, List.getElem_toArray, List.getElem_cons_succ, List.getElem_cons_zero, List.setIfInBounds_toArray, List.set_cons_zero, List.set_cons_succ]
            refine wpAnyH_ready (rs := [14]) (by kernel_rfl) (by simp) ?_
            refine AllReadyH.cons rfl (fun K hK => ?_) ?_
            · go_simp
              have HNL := Lib.hid HX.out.hd.lt
              have HNb := Lib.hid (Blk.newAt HX.out.bel 27 Tryd.zeroCells27)
              have HX := Lib.hid (HX.out.alloc (.cells Tryd.zeroCells27 27))
              have HRb := Lib.hid (HRb.out.alloc (.cells Tryd.zeroCells27 27))
              generalize World.alloc _ (.cells Tryd.zeroCells27 27) = Wa at HX HNb HRb ⊢
              refine hK.out _ _ ?_ (fun hHeld => ?_)
              · (try dsimp only)
                exact HS3.out _ HX.out
              clear hK K
              try simp only [Act.put, List.getElem_toArray, List.getElem_cons_succ, List.getElem_cons_zero, List.setIfInBounds_toArray, List.set_cons_zero, List.set_cons_succ]
              have hst := HSN.out _ _ _ HNb.out zeroM_size
              refine wpAnyH_ready (rs := [16]) (by kernel_rfl) (by simp) ?_
              refine AllReadyH.cons rfl (fun K hK => ?_) AllReadyH.nil
              go_simp
              have hne := Blk.ne_ HNb.out HRb.out (by decide)
              have HRb := Lib.hid (HRb.out.setRow_mf N (Ne.symm hne))
              have HX := Lib.hid (HX.out.setRowF N (Nat.le_of_lt HNL.out) (by have := HNL.out; intro x hx; simp only [List.mem_cons, List.not_mem_nil, or_false] at hx; rw [hx]; simp; omega))
              have HNb := Lib.hid (HNb.out.setRow_m N)
              clear hst
              refine hK.out _ _ ?_ (fun hHeld => ?_)
              · (try dsimp only)
                exact HS3.out _ HX.out
              clear hK K
              try simp only [Act.put, List.getElem_toArray, List.getElem_cons_succ, List.getElem_cons_zero, List.setIfInBounds_toArray, List.set_cons_zero, List.set_cons_succ]
              have hst := run_sstR de dn dg HRb.out rfl
              refine wpAnyH_ready (rs := [17]) (by kernel_rfl) (by simp) ?_
              refine AllReadyH.cons rfl (fun K hK => ?_) AllReadyH.nil
              go_simp
              have HNb := Lib.hid (HNb.out.setRow_mf #[.int .i64 de, .int .i64 dn, .int .i64 dg] hne)
              have HX := Lib.hid (HX.out.setRowF #[.int .i64 de, .int .i64 dn, .int .i64 dg] (Nat.le_of_lt HRL.out) (by have := HRL.out; intro x hx; simp only [List.mem_cons, List.not_mem_nil, or_false] at hx; rw [hx]; simp; omega))
              have HRb := Lib.hid (HRb.out.setRow_m #[.int .i64 de, .int .i64 dn, .int .i64 dg])
              clear hst
              refine hK.out _ _ ?_ (fun hHeld => ?_)
              · (try dsimp only)
                exact HS3.out _ HX.out
              clear hK K
              try simp only [Act.put, List.getElem_toArray, List.getElem_cons_succ, List.getElem_cons_zero, List.setIfInBounds_toArray, List.set_cons_zero, List.set_cons_succ]
              refine wpAnyH_done (by kernel_rfl) ?_ _
              try simp only [Act.put, List.getElem_toArray, List.getElem_cons_succ, List.getElem_cons_zero, List.setIfInBounds_toArray, List.set_cons_zero, List.set_cons_succ]
              go_wp2_with fail
              go_meet
              exact ⟨_, _, rfl, rfl, HX.out, HNb.out, HRb.out, HNL.out, HRL.out⟩
            exact AllReadyH.nil
          exact AllReadyH.nil
        refine AllReadyH.cons rfl (fun K hK => ?_) ?_
        · go_simp
          have HNL := Lib.hid HX.out.hd.lt
          have HNb := Lib.hid (Blk.newAt HX.out.bel 27 Tryd.zeroCells27)
          have HX := Lib.hid (HX.out.alloc (.cells Tryd.zeroCells27 27))
          generalize World.alloc _ (.cells Tryd.zeroCells27 27) = Wa at HX HNb  ⊢
          refine hK.out _ _ ?_ (fun hHeld => ?_)
          · (try dsimp only)
            exact HS3.out _ HX.out
          clear hK K
          try simp only [Act.put, List.getElem_toArray, List.getElem_cons_succ, List.getElem_cons_zero, List.setIfInBounds_toArray, List.set_cons_zero, List.set_cons_succ]
          refine wpAnyH_ready (rs := [10, 15]) (by kernel_rfl) (by simp) ?_
          refine AllReadyH.cons rfl (fun K hK => ?_) ?_
          · go_simp
            refine (HDO.out _ (HRS.out.below HX.out.bel)).mono ?_; rintro e w' ⟨rfl, hb⟩; have HX := Lib.hid (HX.out.later hb); have HNb := Lib.hid (HNb.out.below hb HNb.out.lt); clear hb
            go_wp2_with fail
            refine hK.out _ _ ?_ (fun hHeld => ?_)
            · (try dsimp only)
              exact HS3.out _ HX.out
            clear hK K
            try simp only [Act.put, List.getElem_toArray, List.getElem_cons_succ, List.getElem_cons_zero, List.setIfInBounds_toArray, List.set_cons_zero, List.set_cons_succ]
            refine wpAnyH_take (i := 11) (v := ?_) rfl (by kernel_rfl) (by kernel_rfl) (by kernel_rfl) (fun _ _ _ h => h) (Or.inl ⟨by rfl, ?_⟩) (by assumption) ?_
            rotate_left
            · intro w hSw
              (try dsimp only at hSw)
              go_simp
              all_goals with_reducible rfl
            try simp only [Act.put, List.getElem_toArray, List.getElem_cons_succ, List.getElem_cons_zero, List.setIfInBounds_toArray, List.set_cons_zero, List.set_cons_succ]
            refine wpAnyH_take (i := 12) (v := ?_) rfl (by kernel_rfl) (by kernel_rfl) (by kernel_rfl) (fun _ _ _ h => h) (Or.inl ⟨by rfl, ?_⟩) (by assumption) ?_
            rotate_left
            · intro w hSw
              (try dsimp only at hSw)
              go_simp
              all_goals with_reducible rfl
            try simp only [Act.put, List.getElem_toArray, List.getElem_cons_succ, List.getElem_cons_zero, List.setIfInBounds_toArray, List.set_cons_zero, List.set_cons_succ]
            refine wpAnyH_take (i := 13) (v := ?_) rfl (by kernel_rfl) (by kernel_rfl) (by kernel_rfl) (fun _ _ _ h => h) (Or.inl ⟨by rfl, ?_⟩) (by assumption) ?_
            rotate_left
            · intro w hSw
              (try dsimp only at hSw)
              go_simp
              all_goals with_reducible rfl
            try simp only [Act.put, List.getElem_toArray, List.getElem_cons_succ, List.getElem_cons_zero, List.setIfInBounds_toArray, List.set_cons_zero, List.set_cons_succ]
            refine wpAnyH_ready (rs := [15]) (by kernel_rfl) (by simp) ?_
            refine AllReadyH.cons rfl (fun K hK => ?_) ?_
            · go_simp
              have HRL := Lib.hid HX.out.hd.lt
              have HRb := Lib.hid (Blk.newAt HX.out.bel 36 #[.int .i64 0, .int .i64 0, .int .i64 0])
              have HX := Lib.hid (HX.out.alloc (.cells #[.int .i64 0, .int .i64 0, .int .i64 0] 36))
              have HNb := Lib.hid (HNb.out.alloc (.cells #[.int .i64 0, .int .i64 0, .int .i64 0] 36))
              generalize World.alloc _ (.cells #[.int .i64 0, .int .i64 0, .int .i64 0] 36) = Wb at HX HRb HNb ⊢
              refine hK.out _ _ ?_ (fun hHeld => ?_)
              · (try dsimp only)
                exact HS3.out _ HX.out
              clear hK K
              try simp only [Act.put, List.getElem_toArray, List.getElem_cons_succ, List.getElem_cons_zero, List.setIfInBounds_toArray, List.set_cons_zero, List.set_cons_succ]
              have hst := HSN.out _ _ _ HNb.out zeroM_size
              refine wpAnyH_ready (rs := [16]) (by kernel_rfl) (by simp) ?_
              refine AllReadyH.cons rfl (fun K hK => ?_) AllReadyH.nil
              go_simp
              have hne := Blk.ne_ HNb.out HRb.out (by decide)
              have HRb := Lib.hid (HRb.out.setRow_mf N (Ne.symm hne))
              have HX := Lib.hid (HX.out.setRowF N (Nat.le_of_lt HNL.out) (by have := HNL.out; intro x hx; simp only [List.mem_cons, List.not_mem_nil, or_false] at hx; rw [hx]; simp; omega))
              have HNb := Lib.hid (HNb.out.setRow_m N)
              clear hst
              refine hK.out _ _ ?_ (fun hHeld => ?_)
              · (try dsimp only)
                exact HS3.out _ HX.out
              clear hK K
              try simp only [Act.put, List.getElem_toArray, List.getElem_cons_succ, List.getElem_cons_zero, List.setIfInBounds_toArray, List.set_cons_zero, List.set_cons_succ]
              have hst := run_sstR de dn dg HRb.out rfl
              refine wpAnyH_ready (rs := [17]) (by kernel_rfl) (by simp) ?_
              refine AllReadyH.cons rfl (fun K hK => ?_) AllReadyH.nil
              go_simp
              have HNb := Lib.hid (HNb.out.setRow_mf #[.int .i64 de, .int .i64 dn, .int .i64 dg] hne)
              have HX := Lib.hid (HX.out.setRowF #[.int .i64 de, .int .i64 dn, .int .i64 dg] (Nat.le_of_lt HRL.out) (by have := HRL.out; intro x hx; simp only [List.mem_cons, List.not_mem_nil, or_false] at hx; rw [hx]; simp; omega))
              have HRb := Lib.hid (HRb.out.setRow_m #[.int .i64 de, .int .i64 dn, .int .i64 dg])
              clear hst
              refine hK.out _ _ ?_ (fun hHeld => ?_)
              · (try dsimp only)
                exact HS3.out _ HX.out
              clear hK K
              try simp only [Act.put, List.getElem_toArray, List.getElem_cons_succ, List.getElem_cons_zero, List.setIfInBounds_toArray, List.set_cons_zero, List.set_cons_succ]
              refine wpAnyH_done (by kernel_rfl) ?_ _
              try simp only [Act.put, List.getElem_toArray, List.getElem_cons_succ, List.getElem_cons_zero, List.setIfInBounds_toArray, List.set_cons_zero, List.set_cons_succ]
              go_wp2_with fail
              go_meet
              exact ⟨_, _, rfl, rfl, HX.out, HNb.out, HRb.out, HNL.out, HRL.out⟩
            exact AllReadyH.nil
          refine AllReadyH.cons rfl (fun K hK => ?_) ?_
          · go_simp
            have HRL := Lib.hid HX.out.hd.lt
            have HRb := Lib.hid (Blk.newAt HX.out.bel 36 #[.int .i64 0, .int .i64 0, .int .i64 0])
            have HX := Lib.hid (HX.out.alloc (.cells #[.int .i64 0, .int .i64 0, .int .i64 0] 36))
            have HNb := Lib.hid (HNb.out.alloc (.cells #[.int .i64 0, .int .i64 0, .int .i64 0] 36))
            generalize World.alloc _ (.cells #[.int .i64 0, .int .i64 0, .int .i64 0] 36) = Wb at HX HRb HNb ⊢
            refine hK.out _ _ ?_ (fun hHeld => ?_)
            · (try dsimp only)
              exact HS3.out _ HX.out
            clear hK K
            try simp only [Act.put, List.getElem_toArray, List.getElem_cons_succ, List.getElem_cons_zero, List.setIfInBounds_toArray, List.set_cons_zero, List.set_cons_succ]
            refine wpAnyH_ready (rs := [10]) (by kernel_rfl) (by simp) ?_
            refine AllReadyH.cons rfl (fun K hK => ?_) ?_
            · go_simp
              refine (HDO.out _ (HRS.out.below HX.out.bel)).mono ?_; rintro e w' ⟨rfl, hb⟩; have HX := Lib.hid (HX.out.later hb); have HNb := Lib.hid (HNb.out.below hb HNb.out.lt); have HRb := Lib.hid (HRb.out.below hb HRb.out.lt); clear hb
              go_wp2_with fail
              refine hK.out _ _ ?_ (fun hHeld => ?_)
              · (try dsimp only)
                exact HS3.out _ HX.out
              clear hK K
              try simp only [Act.put, List.getElem_toArray, List.getElem_cons_succ, List.getElem_cons_zero, List.setIfInBounds_toArray, List.set_cons_zero, List.set_cons_succ]
              refine wpAnyH_take (i := 11) (v := ?_) rfl (by kernel_rfl) (by kernel_rfl) (by kernel_rfl) (fun _ _ _ h => h) (Or.inl ⟨by rfl, ?_⟩) (by assumption) ?_
              rotate_left
              · intro w hSw
                (try dsimp only at hSw)
                go_simp
                all_goals with_reducible rfl
              try simp only [Act.put, List.getElem_toArray, List.getElem_cons_succ, List.getElem_cons_zero, List.setIfInBounds_toArray, List.set_cons_zero, List.set_cons_succ]
              refine wpAnyH_take (i := 12) (v := ?_) rfl (by kernel_rfl) (by kernel_rfl) (by kernel_rfl) (fun _ _ _ h => h) (Or.inl ⟨by rfl, ?_⟩) (by assumption) ?_
              rotate_left
              · intro w hSw
                (try dsimp only at hSw)
                go_simp
                all_goals with_reducible rfl
              try simp only [Act.put, List.getElem_toArray, List.getElem_cons_succ, List.getElem_cons_zero, List.setIfInBounds_toArray, List.set_cons_zero, List.set_cons_succ]
              refine wpAnyH_take (i := 13) (v := ?_) rfl (by kernel_rfl) (by kernel_rfl) (by kernel_rfl) (fun _ _ _ h => h) (Or.inl ⟨by rfl, ?_⟩) (by assumption) ?_
              rotate_left
              · intro w hSw
                (try dsimp only at hSw)
                go_simp
                all_goals with_reducible rfl
              try simp only [Act.put, List.getElem_toArray, List.getElem_cons_succ, List.getElem_cons_zero, List.setIfInBounds_toArray, List.set_cons_zero, List.set_cons_succ]
              have hst := HSN.out _ _ _ HNb.out zeroM_size
              refine wpAnyH_ready (rs := [16]) (by kernel_rfl) (by simp) ?_
              refine AllReadyH.cons rfl (fun K hK => ?_) AllReadyH.nil
              go_simp
              have hne := Blk.ne_ HNb.out HRb.out (by decide)
              have HRb := Lib.hid (HRb.out.setRow_mf N (Ne.symm hne))
              have HX := Lib.hid (HX.out.setRowF N (Nat.le_of_lt HNL.out) (by have := HNL.out; intro x hx; simp only [List.mem_cons, List.not_mem_nil, or_false] at hx; rw [hx]; simp; omega))
              have HNb := Lib.hid (HNb.out.setRow_m N)
              clear hst
              refine hK.out _ _ ?_ (fun hHeld => ?_)
              · (try dsimp only)
                exact HS3.out _ HX.out
              clear hK K
              try simp only [Act.put, List.getElem_toArray, List.getElem_cons_succ, List.getElem_cons_zero, List.setIfInBounds_toArray, List.set_cons_zero, List.set_cons_succ]
              have hst := run_sstR de dn dg HRb.out rfl
              refine wpAnyH_ready (rs := [17]) (by kernel_rfl) (by simp) ?_
              refine AllReadyH.cons rfl (fun K hK => ?_) AllReadyH.nil
              go_simp
              have HNb := Lib.hid (HNb.out.setRow_mf #[.int .i64 de, .int .i64 dn, .int .i64 dg] hne)
              have HX := Lib.hid (HX.out.setRowF #[.int .i64 de, .int .i64 dn, .int .i64 dg] (Nat.le_of_lt HRL.out) (by have := HRL.out; intro x hx; simp only [List.mem_cons, List.not_mem_nil, or_false] at hx; rw [hx]; simp; omega))
              have HRb := Lib.hid (HRb.out.setRow_m #[.int .i64 de, .int .i64 dn, .int .i64 dg])
              clear hst
              refine hK.out _ _ ?_ (fun hHeld => ?_)
              · (try dsimp only)
                exact HS3.out _ HX.out
              clear hK K
              try simp only [Act.put, List.getElem_toArray, List.getElem_cons_succ, List.getElem_cons_zero, List.setIfInBounds_toArray, List.set_cons_zero, List.set_cons_succ]
              refine wpAnyH_done (by kernel_rfl) ?_ _
              try simp only [Act.put, List.getElem_toArray, List.getElem_cons_succ, List.getElem_cons_zero, List.setIfInBounds_toArray, List.set_cons_zero, List.set_cons_succ]
              go_wp2_with fail
              go_meet
              exact ⟨_, _, rfl, rfl, HX.out, HNb.out, HRb.out, HNL.out, HRL.out⟩
            exact AllReadyH.nil
          exact AllReadyH.nil
        refine AllReadyH.cons rfl (fun K hK => ?_) ?_
        · go_simp
          have HRL := Lib.hid HX.out.hd.lt
          have HRb := Lib.hid (Blk.newAt HX.out.bel 36 #[.int .i64 0, .int .i64 0, .int .i64 0])
          have HX := Lib.hid (HX.out.alloc (.cells #[.int .i64 0, .int .i64 0, .int .i64 0] 36))
          generalize World.alloc _ (.cells #[.int .i64 0, .int .i64 0, .int .i64 0] 36) = Wb at HX HRb  ⊢
          refine hK.out _ _ ?_ (fun hHeld => ?_)
          · (try dsimp only)
            exact HS3.out _ HX.out
          clear hK K
          try simp only [Act.put, List.getElem_toArray, List.getElem_cons_succ, List.getElem_cons_zero, List.setIfInBounds_toArray, List.set_cons_zero, List.set_cons_succ]
          refine wpAnyH_ready (rs := [10, 14]) (by kernel_rfl) (by simp) ?_
          refine AllReadyH.cons rfl (fun K hK => ?_) ?_
          · go_simp
            refine (HDO.out _ (HRS.out.below HX.out.bel)).mono ?_; rintro e w' ⟨rfl, hb⟩; have HX := Lib.hid (HX.out.later hb); have HRb := Lib.hid (HRb.out.below hb HRb.out.lt); clear hb
            go_wp2_with fail
            refine hK.out _ _ ?_ (fun hHeld => ?_)
            · (try dsimp only)
              exact HS3.out _ HX.out
            clear hK K
            try simp only [Act.put, List.getElem_toArray, List.getElem_cons_succ, List.getElem_cons_zero, List.setIfInBounds_toArray, List.set_cons_zero, List.set_cons_succ]
            refine wpAnyH_take (i := 11) (v := ?_) rfl (by kernel_rfl) (by kernel_rfl) (by kernel_rfl) (fun _ _ _ h => h) (Or.inl ⟨by rfl, ?_⟩) (by assumption) ?_
            rotate_left
            · intro w hSw
              (try dsimp only at hSw)
              go_simp
              all_goals with_reducible rfl
            try simp only [Act.put, List.getElem_toArray, List.getElem_cons_succ, List.getElem_cons_zero, List.setIfInBounds_toArray, List.set_cons_zero, List.set_cons_succ]
            refine wpAnyH_take (i := 12) (v := ?_) rfl (by kernel_rfl) (by kernel_rfl) (by kernel_rfl) (fun _ _ _ h => h) (Or.inl ⟨by rfl, ?_⟩) (by assumption) ?_
            rotate_left
            · intro w hSw
              (try dsimp only at hSw)
              go_simp
              all_goals with_reducible rfl
            try simp only [Act.put, List.getElem_toArray, List.getElem_cons_succ, List.getElem_cons_zero, List.setIfInBounds_toArray, List.set_cons_zero, List.set_cons_succ]
            refine wpAnyH_take (i := 13) (v := ?_) rfl (by kernel_rfl) (by kernel_rfl) (by kernel_rfl) (fun _ _ _ h => h) (Or.inl ⟨by rfl, ?_⟩) (by assumption) ?_
            rotate_left
            · intro w hSw
              (try dsimp only at hSw)
              go_simp
              all_goals with_reducible rfl
            try simp only [Act.put, List.getElem_toArray, List.getElem_cons_succ, List.getElem_cons_zero, List.setIfInBounds_toArray, List.set_cons_zero, List.set_cons_succ]
            refine wpAnyH_ready (rs := [14]) (by kernel_rfl) (by simp) ?_
            refine AllReadyH.cons rfl (fun K hK => ?_) ?_
            · go_simp
              have HNL := Lib.hid HX.out.hd.lt
              have HNb := Lib.hid (Blk.newAt HX.out.bel 27 Tryd.zeroCells27)
              have HX := Lib.hid (HX.out.alloc (.cells Tryd.zeroCells27 27))
              have HRb := Lib.hid (HRb.out.alloc (.cells Tryd.zeroCells27 27))
              generalize World.alloc _ (.cells Tryd.zeroCells27 27) = Wa at HX HNb HRb ⊢
              refine hK.out _ _ ?_ (fun hHeld => ?_)
              · (try dsimp only)
                exact HS3.out _ HX.out
              clear hK K
              try simp only [Act.put, List.getElem_toArray, List.getElem_cons_succ, List.getElem_cons_zero, List.setIfInBounds_toArray, List.set_cons_zero, List.set_cons_succ]
              have hst := HSN.out _ _ _ HNb.out zeroM_size
              refine wpAnyH_ready (rs := [16]) (by kernel_rfl) (by simp) ?_
              refine AllReadyH.cons rfl (fun K hK => ?_) AllReadyH.nil
              go_simp
              have hne := Blk.ne_ HNb.out HRb.out (by decide)
              have HRb := Lib.hid (HRb.out.setRow_mf N (Ne.symm hne))
              have HX := Lib.hid (HX.out.setRowF N (Nat.le_of_lt HNL.out) (by have := HNL.out; intro x hx; simp only [List.mem_cons, List.not_mem_nil, or_false] at hx; rw [hx]; simp; omega))
              have HNb := Lib.hid (HNb.out.setRow_m N)
              clear hst
              refine hK.out _ _ ?_ (fun hHeld => ?_)
              · (try dsimp only)
                exact HS3.out _ HX.out
              clear hK K
              try simp only [Act.put, List.getElem_toArray, List.getElem_cons_succ, List.getElem_cons_zero, List.setIfInBounds_toArray, List.set_cons_zero, List.set_cons_succ]
              have hst := run_sstR de dn dg HRb.out rfl
              refine wpAnyH_ready (rs := [17]) (by kernel_rfl) (by simp) ?_
              refine AllReadyH.cons rfl (fun K hK => ?_) AllReadyH.nil
              go_simp
              have HNb := Lib.hid (HNb.out.setRow_mf #[.int .i64 de, .int .i64 dn, .int .i64 dg] hne)
              have HX := Lib.hid (HX.out.setRowF #[.int .i64 de, .int .i64 dn, .int .i64 dg] (Nat.le_of_lt HRL.out) (by have := HRL.out; intro x hx; simp only [List.mem_cons, List.not_mem_nil, or_false] at hx; rw [hx]; simp; omega))
              have HRb := Lib.hid (HRb.out.setRow_m #[.int .i64 de, .int .i64 dn, .int .i64 dg])
              clear hst
              refine hK.out _ _ ?_ (fun hHeld => ?_)
              · (try dsimp only)
                exact HS3.out _ HX.out
              clear hK K
              try simp only [Act.put, List.getElem_toArray, List.getElem_cons_succ, List.getElem_cons_zero, List.setIfInBounds_toArray, List.set_cons_zero, List.set_cons_succ]
              refine wpAnyH_done (by kernel_rfl) ?_ _
              try simp only [Act.put, List.getElem_toArray, List.getElem_cons_succ, List.getElem_cons_zero, List.setIfInBounds_toArray, List.set_cons_zero, List.set_cons_succ]
              go_wp2_with fail
              go_meet
              exact ⟨_, _, rfl, rfl, HX.out, HNb.out, HRb.out, HNL.out, HRL.out⟩
            exact AllReadyH.nil
          refine AllReadyH.cons rfl (fun K hK => ?_) ?_
          · go_simp
            have HNL := Lib.hid HX.out.hd.lt
            have HNb := Lib.hid (Blk.newAt HX.out.bel 27 Tryd.zeroCells27)
            have HX := Lib.hid (HX.out.alloc (.cells Tryd.zeroCells27 27))
            have HRb := Lib.hid (HRb.out.alloc (.cells Tryd.zeroCells27 27))
            generalize World.alloc _ (.cells Tryd.zeroCells27 27) = Wa at HX HNb HRb ⊢
            refine hK.out _ _ ?_ (fun hHeld => ?_)
            · (try dsimp only)
              exact HS3.out _ HX.out
            clear hK K
            try simp only [Act.put, List.getElem_toArray, List.getElem_cons_succ, List.getElem_cons_zero, List.setIfInBounds_toArray, List.set_cons_zero, List.set_cons_succ]
            refine wpAnyH_ready (rs := [10]) (by kernel_rfl) (by simp) ?_
            refine AllReadyH.cons rfl (fun K hK => ?_) ?_
            · go_simp
              refine (HDO.out _ (HRS.out.below HX.out.bel)).mono ?_; rintro e w' ⟨rfl, hb⟩; have HX := Lib.hid (HX.out.later hb); have HNb := Lib.hid (HNb.out.below hb HNb.out.lt); have HRb := Lib.hid (HRb.out.below hb HRb.out.lt); clear hb
              go_wp2_with fail
              refine hK.out _ _ ?_ (fun hHeld => ?_)
              · (try dsimp only)
                exact HS3.out _ HX.out
              clear hK K
              try simp only [Act.put, List.getElem_toArray, List.getElem_cons_succ, List.getElem_cons_zero, List.setIfInBounds_toArray, List.set_cons_zero, List.set_cons_succ]
              refine wpAnyH_take (i := 11) (v := ?_) rfl (by kernel_rfl) (by kernel_rfl) (by kernel_rfl) (fun _ _ _ h => h) (Or.inl ⟨by rfl, ?_⟩) (by assumption) ?_
              rotate_left
              · intro w hSw
                (try dsimp only at hSw)
                go_simp
                all_goals with_reducible rfl
              try simp only [Act.put, List.getElem_toArray, List.getElem_cons_succ, List.getElem_cons_zero, List.setIfInBounds_toArray, List.set_cons_zero, List.set_cons_succ]
              refine wpAnyH_take (i := 12) (v := ?_) rfl (by kernel_rfl) (by kernel_rfl) (by kernel_rfl) (fun _ _ _ h => h) (Or.inl ⟨by rfl, ?_⟩) (by assumption) ?_
              rotate_left
              · intro w hSw
                (try dsimp only at hSw)
                go_simp
                all_goals with_reducible rfl
              try simp only [Act.put, List.getElem_toArray, List.getElem_cons_succ, List.getElem_cons_zero, List.setIfInBounds_toArray, List.set_cons_zero, List.set_cons_succ]
              refine wpAnyH_take (i := 13) (v := ?_) rfl (by kernel_rfl) (by kernel_rfl) (by kernel_rfl) (fun _ _ _ h => h) (Or.inl ⟨by rfl, ?_⟩) (by assumption) ?_
              rotate_left
              · intro w hSw
                (try dsimp only at hSw)
                go_simp
                all_goals with_reducible rfl
              try simp only [Act.put, List.getElem_toArray, List.getElem_cons_succ, List.getElem_cons_zero, List.setIfInBounds_toArray, List.set_cons_zero, List.set_cons_succ]
              have hst := HSN.out _ _ _ HNb.out zeroM_size
              refine wpAnyH_ready (rs := [16]) (by kernel_rfl) (by simp) ?_
              refine AllReadyH.cons rfl (fun K hK => ?_) AllReadyH.nil
              go_simp
              have hne := Blk.ne_ HNb.out HRb.out (by decide)
              have HRb := Lib.hid (HRb.out.setRow_mf N (Ne.symm hne))
              have HX := Lib.hid (HX.out.setRowF N (Nat.le_of_lt HNL.out) (by have := HNL.out; intro x hx; simp only [List.mem_cons, List.not_mem_nil, or_false] at hx; rw [hx]; simp; omega))
              have HNb := Lib.hid (HNb.out.setRow_m N)
              clear hst
              refine hK.out _ _ ?_ (fun hHeld => ?_)
              · (try dsimp only)
                exact HS3.out _ HX.out
              clear hK K
              try simp only [Act.put, List.getElem_toArray, List.getElem_cons_succ, List.getElem_cons_zero, List.setIfInBounds_toArray, List.set_cons_zero, List.set_cons_succ]
              have hst := run_sstR de dn dg HRb.out rfl
              refine wpAnyH_ready (rs := [17]) (by kernel_rfl) (by simp) ?_
              refine AllReadyH.cons rfl (fun K hK => ?_) AllReadyH.nil
              go_simp
              have HNb := Lib.hid (HNb.out.setRow_mf #[.int .i64 de, .int .i64 dn, .int .i64 dg] hne)
              have HX := Lib.hid (HX.out.setRowF #[.int .i64 de, .int .i64 dn, .int .i64 dg] (Nat.le_of_lt HRL.out) (by have := HRL.out; intro x hx; simp only [List.mem_cons, List.not_mem_nil, or_false] at hx; rw [hx]; simp; omega))
              have HRb := Lib.hid (HRb.out.setRow_m #[.int .i64 de, .int .i64 dn, .int .i64 dg])
              clear hst
              refine hK.out _ _ ?_ (fun hHeld => ?_)
              · (try dsimp only)
                exact HS3.out _ HX.out
              clear hK K
              try simp only [Act.put, List.getElem_toArray, List.getElem_cons_succ, List.getElem_cons_zero, List.setIfInBounds_toArray, List.set_cons_zero, List.set_cons_succ]
              refine wpAnyH_done (by kernel_rfl) ?_ _
              try simp only [Act.put, List.getElem_toArray, List.getElem_cons_succ, List.getElem_cons_zero, List.setIfInBounds_toArray, List.set_cons_zero, List.set_cons_succ]
              go_wp2_with fail
              go_meet
              exact ⟨_, _, rfl, rfl, HX.out, HNb.out, HRb.out, HNL.out, HRL.out⟩
            exact AllReadyH.nil
          exact AllReadyH.nil
        exact AllReadyH.nil
      case rest =>
        obtain ⟨nb, rb, rfl, rfl, hX9, hNb, hRb, hnl, hrl⟩ := hcut
        have hstM := fun (W : World) (hB : Blk W w.heap.size 27 M) => HSN.out W w.heap.size M hB (by rw [← HM.out, List.size_toArray, Mt.cells_len ho])
        have hrr : dm.rright = true := by rw [Mt.rright_eq]; exact HKR.out
        have hrm : ∀ W, Calls Tryd.prog 16 #[.agg N] W fun e w' => e = .returned (.bool true) ∧ Below W.heap.size W w' := fun W => by rw [← HN.out, ← hrr]; exact rright_c W dm hDo
        have hld : (sldM (.pointer (some ⟨nb, 0, none⟩))).run Tryd.prog wc = .ok (.agg N) wc := by
          have q := hNb
          rw [← HN.out] at q ⊢
          exact run_sldM (Mt.cells_len hDo) q.whole
        have HX9 := Lib.hid hX9
        have HNb := Lib.hid hNb
        have HRb := Lib.hid hRb
        have HSM := Lib.hid hstM
        clear hX9 hNb hRb hrr hstM
        go_wp2_with fail
        refine (hrm _).mono ?_
        rintro e w10 ⟨rfl, hb10⟩
        have hX := HX9.out.later hb10
        have hNb := HNb.out.below hb10 HNb.out.lt
        have hRb := HRb.out.below hb10 HRb.out.lt
        clear hb10 HX9 HNb HRb hld hrm
        have hldN : (sldM (.pointer (some ⟨nb, 0, none⟩))).run Tryd.prog w10 = .ok (.agg N) w10 := by
          have q := hNb
          rw [← HN.out] at q ⊢
          exact run_sldM (Mt.cells_len hDo) q.whole
        obtain ⟨hldM, ca, cm, cp⟩ := HS.out w10 m ho (HM.out ▸ hX)
        rw [HM.out] at hldM
        have na : w10.cell? ⟨nb, 0, none⟩ = some (.int .i64 dm.act) := by rw [hNb.cell, ← HN.out, List.getElem?_toArray]; rfl
        have nm : w10.cell? ⟨nb, 69, none⟩ = some (.int .i64 dm.mn) := by rw [hNb.cell, ← HN.out, List.getElem?_toArray, Mt.c69 hDo]
        have nr : w10.cell? ⟨rb, 0, none⟩ = some (.int .i64 de) := hRb.cell 0
        have hkd : w10.cell? ⟨g, o + k * 3, none⟩ = some (.int .i64 qk) := (rangeAt_below HRA.out hX.bel hg) 0 _ rfl
        have hst := HSM.out _ hX.hd
        have hX14 := hX.put N (Nat.le_refl _) (by intro x hx; cases hx)
        have HX14 := Lib.hid hX14
        clear hX hX14 hNb hRb
        have hnot : ¬ dm.mn < m.mn := by have := HKM.out; omega
        have hnotb : (decide (dm.mn < m.mn)) = false := decide_eq_false hnot
        have hkb : IntKind.i64.wrap ((k : Int) + 1) = (k : Int) + 1 := IntWalk.i64_in _ (by have := HL40.out; omega)
        by_cases he : de = 0
        · subst he
          by_cases hact : dm.act = m.act
          · have hab : (dm.act != m.act) = false := by rw [hact]; simp
            generalize dm.act = a1 at *
            generalize dm.mn = mn1 at *
            generalize m.mn = mn0 at *
            generalize m.act = a0 at *
            go_wp2_with fail
            go_roundw
            case rel => exact ⟨k + 1, dm, by omega, by go_num, hDo, HKR.out, HN.out ▸ HX14.out⟩
            case measure => simp [intOf]; omega
          · have h6 := (HKA.out).resolve_left hact
            have hab : (dm.act != m.act) = true := by rw [bne_iff_ne]; exact hact
            rw [h6.1] at hkd
            rw [h6.2] at cp
            generalize dm.act = a1 at *
            generalize dm.mn = mn1 at *
            generalize m.mn = mn0 at *
            generalize m.act = a0 at *
            go_wp2_with fail
            go_roundw
            case rel => exact ⟨k + 1, dm, by omega, by go_num, hDo, HKR.out, HN.out ▸ HX14.out⟩
            case measure => simp [intOf]; omega
        · have hdm := HKE.out he
          have heb : (de != 0) = true := by rw [bne_iff_ne]; exact he
          have hNM : N = M := by rw [← HN.out, ← HM.out, hdm]
          rw [← hNM] at hldM
          have hneq : ∀ W, (binOp .neq 27 (.agg N) (.agg N)).run Tryd.prog W = .ok (.bool false) W := fun W => by rw [← HN.out]; exact neqM dm hDo W
          have hab : (dm.act != m.act) = false := by rw [hdm]; simp
          clear hNM hdm
          generalize dm.act = a1 at *
          generalize dm.mn = mn1 at *
          generalize m.mn = mn0 at *
          generalize m.act = a0 at *
          go_wp2_with fail
          go_roundw
          case rel => exact ⟨k + 1, dm, by omega, by go_num, hDo, HKR.out, HN.out ▸ HX14.out⟩
          case measure => simp [intOf]; omega
    · go_wp2_with fail
      go_ret
      exact ⟨rfl, hX.bel⟩
end Go.Proofs.YtpbdglocfjbbfaaDoor
