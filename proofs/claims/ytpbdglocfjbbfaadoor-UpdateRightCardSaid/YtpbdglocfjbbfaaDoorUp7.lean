/- update.rollback, update.abort. -/
import Derived.Test.YtpbdglocfjbbfaaDoorUp6
import Derived.Deep.RegionHeld3
import Derived.Deep.DrawnRows
namespace Go.Proofs.YtpbdglocfjbbfaaDoor
open Go Go.RowKit
set_option linter.unusedVariables false
set_option linter.unusedSimpArgs false
attribute [local go_sem ↓] sldI_seal sldM_seal sstM_seal sstI_seal sldC_seal sldF_seal sstC_seal sbC_seal
def wh (b : Bool) (e : Int) : Int := if b = true then e else 0
theorem Mt.alone_ok {m : Mt} (h : m.Ok) : m.alone.Ok := by
  unfold Mt.alone
  split
  · exact ⟨h.d0, rfl, h.d2, h.act⟩
  · exact ⟨rfl, h.d1, h.d2, h.act⟩
theorem oneM_len {m : Mt} (h : m.Ok) (l : List Int) : (oneM m l).length = 110 := by
  unfold oneM
  split
  · exact chg_len h _ _ _
  · exact chg_len Mt.zero_ok _ _ _
theorem oneM_one (m : Mt) (l : List Int) : ∀ u ∈ oneM m l, u.oneCell' = true := by
  unfold oneM
  split
  · exact chg_one _ _ _ _
  · exact chg_one _ _ _ _
/-- Some whole blocks, all of them new since w0. -/
structure Bxs (w0 W : World) (l : List (Nat × TypeId × Array Value)) : Prop where
  all : ∀ x ∈ l, Blk W x.1 x.2.1 x.2.2
  bel : Below w0.heap.size w0 W
section
variable {w0 W W' : World} {l : List (Nat × TypeId × Array Value)} {g : Nat} {t : TypeId} {cs : Array Value}
theorem Bxs.later (h : Bxs w0 W l) (hb : Below W.heap.size W W') : Bxs w0 W' l := ⟨fun x hx => (h.all x hx).below hb (h.all x hx).lt, h.bel.trans (hb.mono h.bel.size)⟩
theorem Bxs.alloc (h : Bxs w0 W l) (o : Obj) : Bxs w0 (W.alloc o) l := h.later ((Below.refl _ _).alloc (Nat.le_refl _) _)
theorem Bxs.drew (h : Bxs w0 W l) : Bxs w0 W.drew l := h.later (Below.refl W.heap.size W).drew
theorem Bxs.hd (h : Bxs w0 W ((g, t, cs) :: l)) : Blk W g t cs := h.all _ (List.mem_cons_self ..)
theorem Bxs.tl {x} (h : Bxs w0 W (x :: l)) : Bxs w0 W l := ⟨fun x hx => h.all x (List.mem_cons_of_mem _ hx), h.bel⟩
theorem Bxs.nil (w0 : World) : Bxs w0 w0 [] := ⟨fun _ h => (by cases h), Below.refl _ _⟩
theorem Bxs.new (h : Bxs w0 W l) (hg : W.heap.size = g) (t : TypeId) (cs : Array Value) : Bxs w0 (W.alloc (.cells cs t)) ((g, t, cs) :: l) := by
  subst hg
  refine ⟨fun x hx => ?_, (h.alloc _).bel⟩
  rcases List.mem_cons.1 hx with rfl | hx
  · exact Blk.new _ _ _
  · exact (h.alloc _).all x hx
theorem Bxs.put (h : Bxs w0 W ((g, t, cs) :: l)) (c2 : Array Value) (hg : w0.heap.size ≤ g) (hl : ∀ x ∈ l, x.1 ≠ g) : Bxs w0 (W.setRow g c2) ((g, t, c2) :: l) := by
  refine ⟨fun x hx => ?_, below_setRow_m h.bel hg _⟩
  rcases List.mem_cons.1 hx with rfl | hx
  · exact h.hd.setRow_m _
  · exact (h.tl.all x hx).setRow_mf _ (hl x hx)
end
theorem alloc_readsV (w : World) (l : List Value) (t : TypeId) : Reads (w.alloc (.cells l.toArray t)) (some ⟨w.heap.size, 0, none⟩) l.length l := by
  refine ⟨by simp, fun _ => ⟨w.heap.size, 0, rfl, by simp, fun j u hu => ?_⟩⟩
  rw [(Blk.new w t l.toArray).cell, List.getElem?_toArray]
  simpa using hu
theorem Bxs.build {w0 W : World} {L : List (Nat × TypeId × Array Value)} (h : Bxs w0 W L) (l : List Value) (t : TypeId) : Reads (W.alloc (.cells l.toArray t)) (some ⟨W.heap.size, 0, none⟩) l.length l ∧ Bxs w0 (W.alloc (.cells l.toArray t)) L :=
  ⟨alloc_readsV _ _ _, h.alloc _⟩
/-- How the last store of such a function ends. -/
theorem endC {W : World} {g : Nat} {old : Array Value} {R : List Value} (h : Blk W g 57 old) (ho : old.size = 110) (hl : R.length = 110) (h1 : ∀ u ∈ R, u.oneCell' = true) :
    (sstC (.pointer (some ⟨g, 0, none⟩)) (.agg R.toArray)).run Tryd.prog W = .ok () (W.setRow g R.toArray) :=
  run_sstC R h (by rw [ho, hl]) (by rw [hl]; exact info_sC) h1
theorem zeroC_size : Tryd.zeroCells57.size = 110 := by kernel_rfl
/-- The boxes that such a function begins with: a Meta, a Fact, the result. -/
theorem box3 (w : World) (M FA : Array Value) (B : Nat) (hB : w.heap.size = B) :
    Bxs w (((w.alloc (.cells M 27)).alloc (.cells FA 32)).alloc (.cells Tryd.zeroCells57 57)) [(B + 2, 57, Tryd.zeroCells57), (B + 1, 32, FA), (B, 27, M)] :=
  (((Bxs.nil w).new hB _ _).new (by simp [hB]) _ _).new (by simp [hB]) _ _
set_option maxRecDepth 100000 in
set_option maxHeartbeats 4000000 in
theorem rollback_c (w : World) (m : Mt) (h : m.Ok) (hact : m.act = 0 ∨ m.act = 1) (f : Fc) (hf : f.d.length = 32) :
    Calls Tryd.prog 39 #[.agg m.cells.toArray, .agg f.cells.toArray] w fun e w' => e = .returned (.agg (oneM m.idle.alone [wh (m.ph != 3) 11, wh f.wn 5]).toArray) ∧ Below w.heap.size w w' := by
  have hX0 := box3 w m.cells.toArray f.cells.toArray _ rfl
  have hrl := oneM_len (Mt.alone_ok (Mt.idle_ok h)) [wh (m.ph != 3) 11, wh f.wn 5]
  have hr1 := oneM_one (m.idle.alone) [wh (m.ph != 3) 11, wh f.wn 5]
  obtain ⟨x, hx⟩ : ∃ x, m.ph = x := ⟨_, rfl⟩
  obtain ⟨wn, hwn⟩ : ∃ wn, f.wn = wn := ⟨_, rfl⟩
  rw [hx, hwn] at hrl hr1 ⊢
  have hidle := fun W => idle_c W m h
  have halone := fun W => alone_c W m.idle (Mt.idle_ok h) hact
  have hS0 : ∀ W, Bxs w W [(w.heap.size + 1, 32, f.cells.toArray), (w.heap.size, 27, m.cells.toArray)] →
      (sldM (.pointer (some ⟨w.heap.size, 0, none⟩))).run Tryd.prog W = .ok (.agg m.cells.toArray) W ∧ W.cell? ⟨w.heap.size, 70, none⟩ = some (.int .i64 x) ∧ W.cell? ⟨w.heap.size + 1, 34, none⟩ = some (.bool wn) := fun W hX =>
    ⟨run_sldM (Mt.cells_len h) hX.tl.hd.whole, by rw [hX.tl.hd.cell, List.getElem?_toArray, Mt.c70 h, hx], by rw [hX.hd.cell, List.getElem?_toArray, Fc.c34 hf, hwn]⟩
  obtain ⟨M, hM⟩ : ∃ M, m.cells.toArray = M := ⟨_, rfl⟩
  obtain ⟨FA, hFA⟩ : ∃ FA, f.cells.toArray = FA := ⟨_, rfl⟩
  rw [hM] at hidle
  rw [hM, hFA] at hX0 hS0 ⊢
  have HID := Lib.hid hidle
  have HS := Lib.hid hS0
  clear hM hFA hx hwn hidle hS0
  obtain ⟨e1, he1⟩ : ∃ e1, wh (x != 3) 11 = e1 := ⟨_, rfl⟩
  obtain ⟨e2, he2⟩ : ∃ e2, wh wn 5 = e2 := ⟨_, rfl⟩
  rw [he1, he2] at hrl hr1 ⊢
  have hw1 : ∀ W, Calls Tryd.prog 54 #[.bool (x != 3), .int .i64 11] W fun en w' => en = .returned (.int .i64 e1) ∧ W = w' := fun W => he1 ▸ when_c _ _ W
  have hw2 : ∀ W, Calls Tryd.prog 54 #[.bool wn, .int .i64 5] W fun en w' => en = .returned (.int .i64 e2) ∧ W = w' := fun W => he2 ▸ when_c _ _ W
  have hone := fun (W : World) (b c : Nat) (hr : Reads W (some ⟨b, 0, none⟩) 2 [i64v e1, i64v e2]) => one_c W (m.idle.alone) (Mt.alone_ok (Mt.idle_ok h)) b 0 2 c [e1, e2] hr (by omega)
  obtain ⟨R, hR⟩ : ∃ R, oneM m.idle.alone [e1, e2] = R := ⟨_, rfl⟩
  rw [hR] at hrl hr1 hone ⊢
  obtain ⟨A, hA⟩ : ∃ A, (m.idle.alone).cells.toArray = A := ⟨_, rfl⟩
  rw [hA] at hone
  rw [hA] at halone
  have HAL := Lib.hid halone
  clear halone
  have HONE := Lib.hid hone
  have HW1 := Lib.hid hw1
  have HW2 := Lib.hid hw2
  have HRL := Lib.hid hrl
  have HR1 := Lib.hid hr1
  clear hR hA he1 he2 hone hw1 hw2 hrl hr1
  go_enter Tryd.func39, Tryd.ntmps39
  go_upto_region 1 with fail
  generalize ((w.alloc (.cells M 27)).alloc (.cells FA 32)).alloc (.cells Tryd.zeroCells57 57) = W3 at hX0 ⊢
  have HX := Lib.hid hX0.drew
  have hs0 := HS.out _ HX.out.tl
  clear hX0
  refine wp_region_held_drew (S := (fun W => (sldM (.pointer (some ⟨w.heap.size, 0, none⟩))).run Tryd.prog W = .ok (.agg M) W ∧ W.cell? ⟨w.heap.size, 70, none⟩ = some (.int .i64 x) ∧ W.cell? ⟨w.heap.size + 1, 34, none⟩ = some (.bool wn))) (by kernel_rfl) ?_ (fun hHeld => ?_)
  · exact hs0
  refine wpAnyH_take (i := 0) (v := ?_) rfl (by kernel_rfl) (by kernel_rfl) (by kernel_rfl) (fun _ _ _ h => h) (Or.inl ⟨by rfl, ?_⟩) (by assumption) ?_
  rotate_left
  · intro w hSw
    (try dsimp only at hSw)
    go_simp
    all_goals with_reducible rfl
  try simp only [Act.put, List.getElem_toArray, List.getElem_cons_succ, List.getElem_cons_zero, List.setIfInBounds_toArray, List.set_cons_zero, List.set_cons_succ]
  refine wpAnyH_take (i := 3) (v := ?_) rfl (by kernel_rfl) (by kernel_rfl) (by kernel_rfl) (fun _ _ _ h => h) (Or.inl ⟨by rfl, ?_⟩) (by assumption) ?_
  rotate_left
  · intro w hSw
    (try dsimp only at hSw)
    go_simp
    all_goals with_reducible rfl
  try simp only [Act.put, List.getElem_toArray, List.getElem_cons_succ, List.getElem_cons_zero, List.setIfInBounds_toArray, List.set_cons_zero, List.set_cons_succ]
  refine wpAnyH_take (i := 4) (v := ?_) rfl (by kernel_rfl) (by kernel_rfl) (by kernel_rfl) (fun _ _ _ h => h) (Or.inl ⟨by rfl, ?_⟩) (by assumption) ?_
  rotate_left
  · intro w hSw
    (try dsimp only at hSw)
    go_simp
    all_goals with_reducible rfl
  try simp only [Act.put, List.getElem_toArray, List.getElem_cons_succ, List.getElem_cons_zero, List.setIfInBounds_toArray, List.set_cons_zero, List.set_cons_succ]
  refine wpAnyH_take (i := 5) (v := ?_) rfl (by kernel_rfl) (by kernel_rfl) (by kernel_rfl) (fun _ _ _ h => h) (Or.inl ⟨by rfl, ?_⟩) (by assumption) ?_
  rotate_left
  · intro w hSw
    (try dsimp only at hSw)
    go_simp
    all_goals with_reducible rfl
  try simp only [Act.put, List.getElem_toArray, List.getElem_cons_succ, List.getElem_cons_zero, List.setIfInBounds_toArray, List.set_cons_zero, List.set_cons_succ]
  refine wpAnyH_take (i := 7) (v := ?_) rfl (by kernel_rfl) (by kernel_rfl) (by kernel_rfl) (fun _ _ _ h => h) (Or.inl ⟨by rfl, ?_⟩) (by assumption) ?_
  rotate_left
  · intro w hSw
    (try dsimp only at hSw)
    go_simp
    all_goals with_reducible rfl
  try simp only [Act.put, List.getElem_toArray, List.getElem_cons_succ, List.getElem_cons_zero, List.setIfInBounds_toArray, List.set_cons_zero, List.set_cons_succ]
  refine wpAnyH_take (i := 8) (v := ?_) rfl (by kernel_rfl) (by kernel_rfl) (by kernel_rfl) (fun _ _ _ h => h) (Or.inl ⟨by rfl, ?_⟩) (by assumption) ?_
  rotate_left
  · intro w hSw
    (try dsimp only at hSw)
    go_simp
    all_goals with_reducible rfl
  try simp only [Act.put, List.getElem_toArray, List.getElem_cons_succ, List.getElem_cons_zero, List.setIfInBounds_toArray, List.set_cons_zero, List.set_cons_succ]
  refine wpAnyH_ready (rs := [1]) (by kernel_rfl) (by simp) ?_
  refine AllReadyH.cons rfl (fun K hK => ?_) AllReadyH.nil
  go_simp
  refine (HID.out _).mono ?_; rintro e w' ⟨rfl, hb⟩; have HX := Lib.hid (HX.out.later hb); clear hb
  go_wp2_with fail
  refine hK.out _ _ ?_ (fun hHeld => ?_)
  · (try dsimp only)
    exact HS.out _ HX.out.tl
  clear hK K
  try simp only [Act.put, List.getElem_toArray, List.getElem_cons_succ, List.getElem_cons_zero, List.setIfInBounds_toArray, List.set_cons_zero, List.set_cons_succ]
  refine wpAnyH_ready (rs := [2]) (by kernel_rfl) (by simp) ?_
  refine AllReadyH.cons rfl (fun K hK => ?_) AllReadyH.nil
  go_simp
  refine (HAL.out _).mono ?_; rintro e w' ⟨rfl, hb⟩; have HX := Lib.hid (HX.out.later hb); clear hb
  go_wp2_with fail
  refine hK.out _ _ ?_ (fun hHeld => ?_)
  · (try dsimp only)
    exact HS.out _ HX.out.tl
  clear hK K
  try simp only [Act.put, List.getElem_toArray, List.getElem_cons_succ, List.getElem_cons_zero, List.setIfInBounds_toArray, List.set_cons_zero, List.set_cons_succ]
  refine wpAnyH_ready (rs := [6]) (by kernel_rfl) (by simp) ?_
  refine AllReadyH.cons rfl (fun K hK => ?_) AllReadyH.nil
  go_simp
  refine (HW1.out _).mono ?_; rintro e w' ⟨rfl, rfl⟩
  go_wp2_with fail
  refine hK.out _ _ ?_ (fun hHeld => ?_)
  · (try dsimp only)
    exact HS.out _ HX.out.tl
  clear hK K
  try simp only [Act.put, List.getElem_toArray, List.getElem_cons_succ, List.getElem_cons_zero, List.setIfInBounds_toArray, List.set_cons_zero, List.set_cons_succ]
  refine wpAnyH_ready (rs := [9]) (by kernel_rfl) (by simp) ?_
  refine AllReadyH.cons rfl (fun K hK => ?_) AllReadyH.nil
  go_simp
  refine (HW2.out _).mono ?_; rintro e w' ⟨rfl, rfl⟩
  go_wp2_with fail
  refine hK.out _ _ ?_ (fun hHeld => ?_)
  · (try dsimp only)
    exact HS.out _ HX.out.tl
  clear hK K
  try simp only [Act.put, List.getElem_toArray, List.getElem_cons_succ, List.getElem_cons_zero, List.setIfInBounds_toArray, List.set_cons_zero, List.set_cons_succ]
  refine wpAnyH_ready (rs := [10]) (by kernel_rfl) (by simp) ?_
  refine AllReadyH.cons rfl (fun K hK => ?_) AllReadyH.nil
  go_simp
  have HB2 := HX.out.build [i64v e1, i64v e2] 34
  have HRD := Lib.hid HB2.1
  have HX := Lib.hid HB2.2
  clear HB2
  refine hK.out _ _ ?_ (fun hHeld => ?_)
  · (try dsimp only)
    exact HS.out _ HX.out.tl
  clear hK K
  try simp only [Act.put, List.getElem_toArray, List.getElem_cons_succ, List.getElem_cons_zero, List.setIfInBounds_toArray, List.set_cons_zero, List.set_cons_succ]
  refine wpAnyH_ready (rs := [11]) (by kernel_rfl) (by simp) ?_
  refine AllReadyH.cons rfl (fun K hK => ?_) AllReadyH.nil
  go_simp
  refine (HONE.out _ _ _ HRD.out).mono ?_; rintro e w' ⟨rfl, hb⟩; have HX := Lib.hid (HX.out.later hb); clear hb HRD; have hst := endC HX.out.hd zeroC_size HRL.out HR1.out
  go_wp2_with fail
  refine hK.out _ _ ?_ (fun hHeld => ?_)
  · (try dsimp only)
    exact HS.out _ HX.out.tl
  clear hK K
  try simp only [Act.put, List.getElem_toArray, List.getElem_cons_succ, List.getElem_cons_zero, List.setIfInBounds_toArray, List.set_cons_zero, List.set_cons_succ]
  refine wpAnyH_ready (rs := [12]) (by kernel_rfl) (by simp) ?_
  refine AllReadyH.cons rfl (fun K hK => ?_) AllReadyH.nil
  go_simp
  have HX := Lib.hid (HX.out.put R.toArray (by omega) (by intro x hx; simp only [List.mem_cons, List.not_mem_nil, or_false] at hx; rcases hx with hx | hx <;> (rw [hx]; simp <;> omega)))
  clear hst
  refine hK.out _ _ ?_ (fun hHeld => ?_)
  · (try dsimp only)
    exact HS.out _ HX.out.tl
  clear hK K
  try simp only [Act.put, List.getElem_toArray, List.getElem_cons_succ, List.getElem_cons_zero, List.setIfInBounds_toArray, List.set_cons_zero, List.set_cons_succ]
  refine wpAnyH_done (by kernel_rfl) ?_ _
  try simp only [Act.put, List.getElem_toArray, List.getElem_cons_succ, List.getElem_cons_zero, List.setIfInBounds_toArray, List.set_cons_zero, List.set_cons_succ]
  go_wp2_with fail
  refine bodyPost_ret (results_cell_row rfl _ _ (w.heap.size + 2) 57 R.toArray (0, 0) _ rfl HX.out.hd Tryd.underlying57 rfl (by rw [List.size_toArray, HRL.out]; exact info_sC)) rfl ?_
  exact ⟨rfl, HX.out.bel⟩
set_option maxRecDepth 100000 in
set_option maxHeartbeats 4000000 in
theorem abort_c (w : World) (m : Mt) (h : m.Ok) (hact : m.act = 0 ∨ m.act = 1) (f : Fc) (hf : f.d.length = 32) :
    Calls Tryd.prog 40 #[.agg m.cells.toArray, .agg f.cells.toArray] w fun e w' => e = .returned (.agg (oneM m.idle [wh (m.ph == 0 || m.ph == 3) 11, wh f.wn 5]).toArray) ∧ Below w.heap.size w w' := by
  have hX0 := box3 w m.cells.toArray f.cells.toArray _ rfl
  have hrl := oneM_len (Mt.idle_ok h) [wh (m.ph == 0 || m.ph == 3) 11, wh f.wn 5]
  have hr1 := oneM_one (m.idle) [wh (m.ph == 0 || m.ph == 3) 11, wh f.wn 5]
  obtain ⟨x, hx⟩ : ∃ x, m.ph = x := ⟨_, rfl⟩
  obtain ⟨wn, hwn⟩ : ∃ wn, f.wn = wn := ⟨_, rfl⟩
  rw [hx, hwn] at hrl hr1 ⊢
  have hidle := fun W => idle_c W m h
  have hS0 : ∀ W, Bxs w W [(w.heap.size + 1, 32, f.cells.toArray), (w.heap.size, 27, m.cells.toArray)] →
      (sldM (.pointer (some ⟨w.heap.size, 0, none⟩))).run Tryd.prog W = .ok (.agg m.cells.toArray) W ∧ W.cell? ⟨w.heap.size, 70, none⟩ = some (.int .i64 x) ∧ W.cell? ⟨w.heap.size + 1, 34, none⟩ = some (.bool wn) := fun W hX =>
    ⟨run_sldM (Mt.cells_len h) hX.tl.hd.whole, by rw [hX.tl.hd.cell, List.getElem?_toArray, Mt.c70 h, hx], by rw [hX.hd.cell, List.getElem?_toArray, Fc.c34 hf, hwn]⟩
  obtain ⟨M, hM⟩ : ∃ M, m.cells.toArray = M := ⟨_, rfl⟩
  obtain ⟨FA, hFA⟩ : ∃ FA, f.cells.toArray = FA := ⟨_, rfl⟩
  rw [hM] at hidle
  rw [hM, hFA] at hX0 hS0 ⊢
  have HID := Lib.hid hidle
  have HS := Lib.hid hS0
  clear hM hFA hx hwn hidle hS0
  by_cases h0 : x = 0
  · subst h0
    simp only [show ((0 : Int) == 0 || (0 : Int) == 3) = true from rfl] at hrl hr1 ⊢
    obtain ⟨e1, he1⟩ : ∃ e1, wh (true) 11 = e1 := ⟨_, rfl⟩
    obtain ⟨e2, he2⟩ : ∃ e2, wh wn 5 = e2 := ⟨_, rfl⟩
    rw [he1, he2] at hrl hr1 ⊢
    have hw1 : ∀ W, Calls Tryd.prog 54 #[.bool (true), .int .i64 11] W fun en w' => en = .returned (.int .i64 e1) ∧ W = w' := fun W => he1 ▸ when_c _ _ W
    have hw2 : ∀ W, Calls Tryd.prog 54 #[.bool wn, .int .i64 5] W fun en w' => en = .returned (.int .i64 e2) ∧ W = w' := fun W => he2 ▸ when_c _ _ W
    have hone := fun (W : World) (b c : Nat) (hr : Reads W (some ⟨b, 0, none⟩) 2 [i64v e1, i64v e2]) => one_c W (m.idle) (Mt.idle_ok h) b 0 2 c [e1, e2] hr (by omega)
    obtain ⟨R, hR⟩ : ∃ R, oneM m.idle [e1, e2] = R := ⟨_, rfl⟩
    rw [hR] at hrl hr1 hone ⊢
    obtain ⟨A, hA⟩ : ∃ A, (m.idle).cells.toArray = A := ⟨_, rfl⟩
    rw [hA] at hone
    have hidle := HID.out
    rw [hA] at hidle
    have HID := Lib.hid hidle
    clear hidle
    have HONE := Lib.hid hone
    have HW1 := Lib.hid hw1
    have HW2 := Lib.hid hw2
    have HRL := Lib.hid hrl
    have HR1 := Lib.hid hr1
    clear hR hA he1 he2 hone hw1 hw2 hrl hr1
    go_enter Tryd.func40, Tryd.ntmps40
    go_upto_region 1 with fail
    generalize ((w.alloc (.cells M 27)).alloc (.cells FA 32)).alloc (.cells Tryd.zeroCells57 57) = W3 at hX0 ⊢
    have HX := Lib.hid hX0.drew
    have hs0 := HS.out _ HX.out.tl
    clear hX0
    refine wp_region_held_drew (S := (fun W => (sldM (.pointer (some ⟨w.heap.size, 0, none⟩))).run Tryd.prog W = .ok (.agg M) W ∧ W.cell? ⟨w.heap.size, 70, none⟩ = some (.int .i64 0) ∧ W.cell? ⟨w.heap.size + 1, 34, none⟩ = some (.bool wn))) (by kernel_rfl) ?_ (fun hHeld => ?_)
    · exact hs0
    refine wpAnyH_take (i := 0) (v := ?_) rfl (by kernel_rfl) (by kernel_rfl) (by kernel_rfl) (fun _ _ _ h => h) (Or.inl ⟨by rfl, ?_⟩) (by assumption) ?_
    rotate_left
    · intro w hSw
      (try dsimp only at hSw)
      go_simp
      all_goals with_reducible rfl
    try simp only [Act.put, List.getElem_toArray, List.getElem_cons_succ, List.getElem_cons_zero, List.setIfInBounds_toArray, List.set_cons_zero, List.set_cons_succ]
    refine wpAnyH_take (i := 2) (v := ?_) rfl (by kernel_rfl) (by kernel_rfl) (by kernel_rfl) (fun _ _ _ h => h) (Or.inl ⟨by rfl, ?_⟩) (by assumption) ?_
    rotate_left
    · intro w hSw
      (try dsimp only at hSw)
      go_simp
      all_goals with_reducible rfl
    try simp only [Act.put, List.getElem_toArray, List.getElem_cons_succ, List.getElem_cons_zero, List.setIfInBounds_toArray, List.set_cons_zero, List.set_cons_succ]
    refine wpAnyH_take (i := 3) (v := ?_) rfl (by kernel_rfl) (by kernel_rfl) (by kernel_rfl) (fun _ _ _ h => h) (Or.inl ⟨by rfl, ?_⟩) (by assumption) ?_
    rotate_left
    · intro w hSw
      (try dsimp only at hSw)
      go_simp
      all_goals with_reducible rfl
    try simp only [Act.put, List.getElem_toArray, List.getElem_cons_succ, List.getElem_cons_zero, List.setIfInBounds_toArray, List.set_cons_zero, List.set_cons_succ]
    refine wpAnyH_take (i := 4) (v := ?_) rfl (by kernel_rfl) (by kernel_rfl) (by kernel_rfl) (fun _ _ _ h => h) (Or.inl ⟨by rfl, ?_⟩) (by assumption) ?_
    rotate_left
    · intro w hSw
      (try dsimp only at hSw)
      go_simp
      all_goals with_reducible rfl
    try simp only [Act.put, List.getElem_toArray, List.getElem_cons_succ, List.getElem_cons_zero, List.setIfInBounds_toArray, List.set_cons_zero, List.set_cons_succ]
    refine wpAnyH_take (i := 11) (v := ?_) rfl (by kernel_rfl) (by kernel_rfl) (by kernel_rfl) (fun _ _ _ h => h) (Or.inl ⟨by rfl, ?_⟩) (by assumption) ?_
    rotate_left
    · intro w hSw
      (try dsimp only at hSw)
      go_simp
      all_goals with_reducible rfl
    try simp only [Act.put, List.getElem_toArray, List.getElem_cons_succ, List.getElem_cons_zero, List.setIfInBounds_toArray, List.set_cons_zero, List.set_cons_succ]
    refine wpAnyH_take (i := 12) (v := ?_) rfl (by kernel_rfl) (by kernel_rfl) (by kernel_rfl) (fun _ _ _ h => h) (Or.inl ⟨by rfl, ?_⟩) (by assumption) ?_
    rotate_left
    · intro w hSw
      (try dsimp only at hSw)
      go_simp
      all_goals with_reducible rfl
    try simp only [Act.put, List.getElem_toArray, List.getElem_cons_succ, List.getElem_cons_zero, List.setIfInBounds_toArray, List.set_cons_zero, List.set_cons_succ]
    refine wpAnyH_ready (rs := [1]) (by kernel_rfl) (by simp) ?_
    refine AllReadyH.cons rfl (fun K hK => ?_) AllReadyH.nil
    go_simp
    refine (HID.out _).mono ?_; rintro e w' ⟨rfl, hb⟩; have HX := Lib.hid (HX.out.later hb); clear hb
    go_wp2_with fail
    refine hK.out _ _ ?_ (fun hHeld => ?_)
    · (try dsimp only)
      exact HS.out _ HX.out.tl
    clear hK K
    try simp only [Act.put, List.getElem_toArray, List.getElem_cons_succ, List.getElem_cons_zero, List.setIfInBounds_toArray, List.set_cons_zero, List.set_cons_succ]
    refine wpAnyH_take (i := 5) (v := ?_) rfl (by kernel_rfl) (by kernel_rfl) (by kernel_rfl) (fun _ _ _ h => h) (Or.inl ⟨by rfl, ?_⟩) (by assumption) ?_
    rotate_left
    · intro w hSw
      (try dsimp only at hSw)
      go_simp
      all_goals with_reducible rfl
    try simp only [Act.put, List.getElem_toArray, List.getElem_cons_succ, List.getElem_cons_zero, List.setIfInBounds_toArray, List.set_cons_zero, List.set_cons_succ]
    refine wpAnyH_take (i := 6) (v := undef) rfl (by kernel_rfl) (by kernel_rfl) (by kernel_rfl) (fun _ _ _ h => h) (Or.inr ⟨by rfl, rfl⟩) (by assumption) ?_
    try simp only [Act.put, List.getElem_toArray, List.getElem_cons_succ, List.getElem_cons_zero, List.setIfInBounds_toArray, List.set_cons_zero, List.set_cons_succ]
    refine wpAnyH_take (i := 7) (v := undef) rfl (by kernel_rfl) (by kernel_rfl) (by kernel_rfl) (fun _ _ _ h => h) (Or.inr ⟨by rfl, rfl⟩) (by assumption) ?_
    try simp only [Act.put, List.getElem_toArray, List.getElem_cons_succ, List.getElem_cons_zero, List.setIfInBounds_toArray, List.set_cons_zero, List.set_cons_succ]
    refine wpAnyH_take (i := 8) (v := undef) rfl (by kernel_rfl) (by kernel_rfl) (by kernel_rfl) (fun _ _ _ h => h) (Or.inr ⟨by rfl, rfl⟩) (by assumption) ?_
    try simp only [Act.put, List.getElem_toArray, List.getElem_cons_succ, List.getElem_cons_zero, List.setIfInBounds_toArray, List.set_cons_zero, List.set_cons_succ]
    refine wpAnyH_take (i := 9) (v := ?_) rfl (by kernel_rfl) (by kernel_rfl) (by kernel_rfl) (fun _ _ _ h => h) (Or.inl ⟨by rfl, ?_⟩) (by assumption) ?_
    rotate_left
    · intro w hSw
      (try dsimp only at hSw)
      go_simp
      all_goals with_reducible rfl
    try simp only [Act.put, List.getElem_toArray, List.getElem_cons_succ, List.getElem_cons_zero, List.setIfInBounds_toArray, List.set_cons_zero, List.set_cons_succ]
    refine wpAnyH_ready (rs := [10]) (by kernel_rfl) (by simp) ?_
    refine AllReadyH.cons rfl (fun K hK => ?_) AllReadyH.nil
    go_simp
    refine (HW1.out _).mono ?_; rintro e w' ⟨rfl, rfl⟩
    go_wp2_with fail
    refine hK.out _ _ ?_ (fun hHeld => ?_)
    · (try dsimp only)
      exact HS.out _ HX.out.tl
    clear hK K
    try simp only [Act.put, List.getElem_toArray, List.getElem_cons_succ, List.getElem_cons_zero, List.setIfInBounds_toArray, List.set_cons_zero, List.set_cons_succ]
    refine wpAnyH_ready (rs := [13]) (by kernel_rfl) (by simp) ?_
    refine AllReadyH.cons rfl (fun K hK => ?_) AllReadyH.nil
    go_simp
    refine (HW2.out _).mono ?_; rintro e w' ⟨rfl, rfl⟩
    go_wp2_with fail
    refine hK.out _ _ ?_ (fun hHeld => ?_)
    · (try dsimp only)
      exact HS.out _ HX.out.tl
    clear hK K
    try simp only [Act.put, List.getElem_toArray, List.getElem_cons_succ, List.getElem_cons_zero, List.setIfInBounds_toArray, List.set_cons_zero, List.set_cons_succ]
    refine wpAnyH_ready (rs := [14]) (by kernel_rfl) (by simp) ?_
    refine AllReadyH.cons rfl (fun K hK => ?_) AllReadyH.nil
    go_simp
    have HB2 := HX.out.build [i64v e1, i64v e2] 34
    have HRD := Lib.hid HB2.1
    have HX := Lib.hid HB2.2
    clear HB2
    refine hK.out _ _ ?_ (fun hHeld => ?_)
    · (try dsimp only)
      exact HS.out _ HX.out.tl
    clear hK K
    try simp only [Act.put, List.getElem_toArray, List.getElem_cons_succ, List.getElem_cons_zero, List.setIfInBounds_toArray, List.set_cons_zero, List.set_cons_succ]
    refine wpAnyH_ready (rs := [15]) (by kernel_rfl) (by simp) ?_
    refine AllReadyH.cons rfl (fun K hK => ?_) AllReadyH.nil
    go_simp
    refine (HONE.out _ _ _ HRD.out).mono ?_; rintro e w' ⟨rfl, hb⟩; have HX := Lib.hid (HX.out.later hb); clear hb HRD; have hst := endC HX.out.hd zeroC_size HRL.out HR1.out
    go_wp2_with fail
    refine hK.out _ _ ?_ (fun hHeld => ?_)
    · (try dsimp only)
      exact HS.out _ HX.out.tl
    clear hK K
    try simp only [Act.put, List.getElem_toArray, List.getElem_cons_succ, List.getElem_cons_zero, List.setIfInBounds_toArray, List.set_cons_zero, List.set_cons_succ]
    refine wpAnyH_ready (rs := [16]) (by kernel_rfl) (by simp) ?_
    refine AllReadyH.cons rfl (fun K hK => ?_) AllReadyH.nil
    go_simp
    have HX := Lib.hid (HX.out.put R.toArray (by omega) (by intro x hx; simp only [List.mem_cons, List.not_mem_nil, or_false] at hx; rcases hx with hx | hx <;> (rw [hx]; simp <;> omega)))
    clear hst
    refine hK.out _ _ ?_ (fun hHeld => ?_)
    · (try dsimp only)
      exact HS.out _ HX.out.tl
    clear hK K
    try simp only [Act.put, List.getElem_toArray, List.getElem_cons_succ, List.getElem_cons_zero, List.setIfInBounds_toArray, List.set_cons_zero, List.set_cons_succ]
    refine wpAnyH_done (by kernel_rfl) ?_ _
    try simp only [Act.put, List.getElem_toArray, List.getElem_cons_succ, List.getElem_cons_zero, List.setIfInBounds_toArray, List.set_cons_zero, List.set_cons_succ]
    go_wp2_with fail
    refine bodyPost_ret (results_cell_row rfl _ _ (w.heap.size + 2) 57 R.toArray (0, 0) _ rfl HX.out.hd Tryd.underlying57 rfl (by rw [List.size_toArray, HRL.out]; exact info_sC)) rfl ?_
    exact ⟨rfl, HX.out.bel⟩
  · have h1 : (x == 0) = false := beq_eq_false_iff_ne.2 h0
    simp only [h1, Bool.false_or] at hrl hr1 ⊢
    obtain ⟨e1, he1⟩ : ∃ e1, wh (x == 3) 11 = e1 := ⟨_, rfl⟩
    obtain ⟨e2, he2⟩ : ∃ e2, wh wn 5 = e2 := ⟨_, rfl⟩
    rw [he1, he2] at hrl hr1 ⊢
    have hw1 : ∀ W, Calls Tryd.prog 54 #[.bool (x == 3), .int .i64 11] W fun en w' => en = .returned (.int .i64 e1) ∧ W = w' := fun W => he1 ▸ when_c _ _ W
    have hw2 : ∀ W, Calls Tryd.prog 54 #[.bool wn, .int .i64 5] W fun en w' => en = .returned (.int .i64 e2) ∧ W = w' := fun W => he2 ▸ when_c _ _ W
    have hone := fun (W : World) (b c : Nat) (hr : Reads W (some ⟨b, 0, none⟩) 2 [i64v e1, i64v e2]) => one_c W (m.idle) (Mt.idle_ok h) b 0 2 c [e1, e2] hr (by omega)
    obtain ⟨R, hR⟩ : ∃ R, oneM m.idle [e1, e2] = R := ⟨_, rfl⟩
    rw [hR] at hrl hr1 hone ⊢
    obtain ⟨A, hA⟩ : ∃ A, (m.idle).cells.toArray = A := ⟨_, rfl⟩
    rw [hA] at hone
    have hidle := HID.out
    rw [hA] at hidle
    have HID := Lib.hid hidle
    clear hidle
    have HONE := Lib.hid hone
    have HW1 := Lib.hid hw1
    have HW2 := Lib.hid hw2
    have HRL := Lib.hid hrl
    have HR1 := Lib.hid hr1
    clear hR hA he1 he2 hone hw1 hw2 hrl hr1
    go_enter Tryd.func40, Tryd.ntmps40
    go_upto_region 1 with fail
    generalize ((w.alloc (.cells M 27)).alloc (.cells FA 32)).alloc (.cells Tryd.zeroCells57 57) = W3 at hX0 ⊢
    have HX := Lib.hid hX0.drew
    have hs0 := HS.out _ HX.out.tl
    clear hX0
    refine wp_region_held_drew (S := (fun W => (sldM (.pointer (some ⟨w.heap.size, 0, none⟩))).run Tryd.prog W = .ok (.agg M) W ∧ W.cell? ⟨w.heap.size, 70, none⟩ = some (.int .i64 x) ∧ W.cell? ⟨w.heap.size + 1, 34, none⟩ = some (.bool wn))) (by kernel_rfl) ?_ (fun hHeld => ?_)
    · exact hs0
    refine wpAnyH_take (i := 0) (v := ?_) rfl (by kernel_rfl) (by kernel_rfl) (by kernel_rfl) (fun _ _ _ h => h) (Or.inl ⟨by rfl, ?_⟩) (by assumption) ?_
    rotate_left
    · intro w hSw
      (try dsimp only at hSw)
      go_simp
      all_goals with_reducible rfl
    try simp only [Act.put, List.getElem_toArray, List.getElem_cons_succ, List.getElem_cons_zero, List.setIfInBounds_toArray, List.set_cons_zero, List.set_cons_succ]
    refine wpAnyH_take (i := 2) (v := ?_) rfl (by kernel_rfl) (by kernel_rfl) (by kernel_rfl) (fun _ _ _ h => h) (Or.inl ⟨by rfl, ?_⟩) (by assumption) ?_
    rotate_left
    · intro w hSw
      (try dsimp only at hSw)
      go_simp
      all_goals with_reducible rfl
    try simp only [Act.put, List.getElem_toArray, List.getElem_cons_succ, List.getElem_cons_zero, List.setIfInBounds_toArray, List.set_cons_zero, List.set_cons_succ]
    refine wpAnyH_take (i := 3) (v := ?_) rfl (by kernel_rfl) (by kernel_rfl) (by kernel_rfl) (fun _ _ _ h => h) (Or.inl ⟨by rfl, ?_⟩) (by assumption) ?_
    rotate_left
    · intro w hSw
      (try dsimp only at hSw)
      go_simp
      all_goals with_reducible rfl
    try simp only [Act.put, List.getElem_toArray, List.getElem_cons_succ, List.getElem_cons_zero, List.setIfInBounds_toArray, List.set_cons_zero, List.set_cons_succ]
    refine wpAnyH_take (i := 4) (v := ?_) rfl (by kernel_rfl) (by kernel_rfl) (by kernel_rfl) (fun _ _ _ h => h) (Or.inl ⟨by rfl, ?_⟩) (by assumption) ?_
    rotate_left
    · intro w hSw
      (try dsimp only at hSw)
      go_simp
      all_goals with_reducible rfl
    try simp only [Act.put, List.getElem_toArray, List.getElem_cons_succ, List.getElem_cons_zero, List.setIfInBounds_toArray, List.set_cons_zero, List.set_cons_succ]
    refine wpAnyH_take (i := 11) (v := ?_) rfl (by kernel_rfl) (by kernel_rfl) (by kernel_rfl) (fun _ _ _ h => h) (Or.inl ⟨by rfl, ?_⟩) (by assumption) ?_
    rotate_left
    · intro w hSw
      (try dsimp only at hSw)
      go_simp
      all_goals with_reducible rfl
    try simp only [Act.put, List.getElem_toArray, List.getElem_cons_succ, List.getElem_cons_zero, List.setIfInBounds_toArray, List.set_cons_zero, List.set_cons_succ]
    refine wpAnyH_take (i := 12) (v := ?_) rfl (by kernel_rfl) (by kernel_rfl) (by kernel_rfl) (fun _ _ _ h => h) (Or.inl ⟨by rfl, ?_⟩) (by assumption) ?_
    rotate_left
    · intro w hSw
      (try dsimp only at hSw)
      go_simp
      all_goals with_reducible rfl
    try simp only [Act.put, List.getElem_toArray, List.getElem_cons_succ, List.getElem_cons_zero, List.setIfInBounds_toArray, List.set_cons_zero, List.set_cons_succ]
    refine wpAnyH_ready (rs := [1]) (by kernel_rfl) (by simp) ?_
    refine AllReadyH.cons rfl (fun K hK => ?_) AllReadyH.nil
    go_simp
    refine (HID.out _).mono ?_; rintro e w' ⟨rfl, hb⟩; have HX := Lib.hid (HX.out.later hb); clear hb
    go_wp2_with fail
    refine hK.out _ _ ?_ (fun hHeld => ?_)
    · (try dsimp only)
      exact HS.out _ HX.out.tl
    clear hK K
    try simp only [Act.put, List.getElem_toArray, List.getElem_cons_succ, List.getElem_cons_zero, List.setIfInBounds_toArray, List.set_cons_zero, List.set_cons_succ]
    refine wpAnyH_take (i := 5) (v := ?_) rfl (by kernel_rfl) (by kernel_rfl) (by kernel_rfl) (fun _ _ _ h => h) (Or.inl ⟨by rfl, ?_⟩) (by assumption) ?_
    rotate_left
    · intro w hSw
      (try dsimp only at hSw)
      go_simp
      all_goals with_reducible rfl
    try simp only [Act.put, List.getElem_toArray, List.getElem_cons_succ, List.getElem_cons_zero, List.setIfInBounds_toArray, List.set_cons_zero, List.set_cons_succ]
    refine wpAnyH_take (i := 6) (v := ?_) rfl (by kernel_rfl) (by kernel_rfl) (by kernel_rfl) (fun _ _ _ h => h) (Or.inl ⟨by rfl, ?_⟩) (by assumption) ?_
    rotate_left
    · intro w hSw
      (try dsimp only at hSw)
      go_simp
      all_goals with_reducible rfl
    try simp only [Act.put, List.getElem_toArray, List.getElem_cons_succ, List.getElem_cons_zero, List.setIfInBounds_toArray, List.set_cons_zero, List.set_cons_succ]
    refine wpAnyH_take (i := 7) (v := ?_) rfl (by kernel_rfl) (by kernel_rfl) (by kernel_rfl) (fun _ _ _ h => h) (Or.inl ⟨by rfl, ?_⟩) (by assumption) ?_
    rotate_left
    · intro w hSw
      (try dsimp only at hSw)
      go_simp
      all_goals with_reducible rfl
    try simp only [Act.put, List.getElem_toArray, List.getElem_cons_succ, List.getElem_cons_zero, List.setIfInBounds_toArray, List.set_cons_zero, List.set_cons_succ]
    refine wpAnyH_take (i := 8) (v := ?_) rfl (by kernel_rfl) (by kernel_rfl) (by kernel_rfl) (fun _ _ _ h => h) (Or.inl ⟨by rfl, ?_⟩) (by assumption) ?_
    rotate_left
    · intro w hSw
      (try dsimp only at hSw)
      go_simp
      all_goals with_reducible rfl
    try simp only [Act.put, List.getElem_toArray, List.getElem_cons_succ, List.getElem_cons_zero, List.setIfInBounds_toArray, List.set_cons_zero, List.set_cons_succ]
    refine wpAnyH_take (i := 9) (v := ?_) rfl (by kernel_rfl) (by kernel_rfl) (by kernel_rfl) (fun _ _ _ h => h) (Or.inl ⟨by rfl, ?_⟩) (by assumption) ?_
    rotate_left
    · intro w hSw
      (try dsimp only at hSw)
      go_simp
      all_goals with_reducible rfl
    try simp only [Act.put, List.getElem_toArray, List.getElem_cons_succ, List.getElem_cons_zero, List.setIfInBounds_toArray, List.set_cons_zero, List.set_cons_succ]
    refine wpAnyH_ready (rs := [10]) (by kernel_rfl) (by simp) ?_
    refine AllReadyH.cons rfl (fun K hK => ?_) AllReadyH.nil
    go_simp
    refine (HW1.out _).mono ?_; rintro e w' ⟨rfl, rfl⟩
    go_wp2_with fail
    refine hK.out _ _ ?_ (fun hHeld => ?_)
    · (try dsimp only)
      exact HS.out _ HX.out.tl
    clear hK K
    try simp only [Act.put, List.getElem_toArray, List.getElem_cons_succ, List.getElem_cons_zero, List.setIfInBounds_toArray, List.set_cons_zero, List.set_cons_succ]
    refine wpAnyH_ready (rs := [13]) (by kernel_rfl) (by simp) ?_
    refine AllReadyH.cons rfl (fun K hK => ?_) AllReadyH.nil
    go_simp
    refine (HW2.out _).mono ?_; rintro e w' ⟨rfl, rfl⟩
    go_wp2_with fail
    refine hK.out _ _ ?_ (fun hHeld => ?_)
    · (try dsimp only)
      exact HS.out _ HX.out.tl
    clear hK K
    try simp only [Act.put, List.getElem_toArray, List.getElem_cons_succ, List.getElem_cons_zero, List.setIfInBounds_toArray, List.set_cons_zero, List.set_cons_succ]
    refine wpAnyH_ready (rs := [14]) (by kernel_rfl) (by simp) ?_
    refine AllReadyH.cons rfl (fun K hK => ?_) AllReadyH.nil
    go_simp
    have HB2 := HX.out.build [i64v e1, i64v e2] 34
    have HRD := Lib.hid HB2.1
    have HX := Lib.hid HB2.2
    clear HB2
    refine hK.out _ _ ?_ (fun hHeld => ?_)
    · (try dsimp only)
      exact HS.out _ HX.out.tl
    clear hK K
    try simp only [Act.put, List.getElem_toArray, List.getElem_cons_succ, List.getElem_cons_zero, List.setIfInBounds_toArray, List.set_cons_zero, List.set_cons_succ]
    refine wpAnyH_ready (rs := [15]) (by kernel_rfl) (by simp) ?_
    refine AllReadyH.cons rfl (fun K hK => ?_) AllReadyH.nil
    go_simp
    refine (HONE.out _ _ _ HRD.out).mono ?_; rintro e w' ⟨rfl, hb⟩; have HX := Lib.hid (HX.out.later hb); clear hb HRD; have hst := endC HX.out.hd zeroC_size HRL.out HR1.out
    go_wp2_with fail
    refine hK.out _ _ ?_ (fun hHeld => ?_)
    · (try dsimp only)
      exact HS.out _ HX.out.tl
    clear hK K
    try simp only [Act.put, List.getElem_toArray, List.getElem_cons_succ, List.getElem_cons_zero, List.setIfInBounds_toArray, List.set_cons_zero, List.set_cons_succ]
    refine wpAnyH_ready (rs := [16]) (by kernel_rfl) (by simp) ?_
    refine AllReadyH.cons rfl (fun K hK => ?_) AllReadyH.nil
    go_simp
    have HX := Lib.hid (HX.out.put R.toArray (by omega) (by intro x hx; simp only [List.mem_cons, List.not_mem_nil, or_false] at hx; rcases hx with hx | hx <;> (rw [hx]; simp <;> omega)))
    clear hst
    refine hK.out _ _ ?_ (fun hHeld => ?_)
    · (try dsimp only)
      exact HS.out _ HX.out.tl
    clear hK K
    try simp only [Act.put, List.getElem_toArray, List.getElem_cons_succ, List.getElem_cons_zero, List.setIfInBounds_toArray, List.set_cons_zero, List.set_cons_succ]
    refine wpAnyH_done (by kernel_rfl) ?_ _
    try simp only [Act.put, List.getElem_toArray, List.getElem_cons_succ, List.getElem_cons_zero, List.setIfInBounds_toArray, List.set_cons_zero, List.set_cons_succ]
    go_wp2_with fail
    refine bodyPost_ret (results_cell_row rfl _ _ (w.heap.size + 2) 57 R.toArray (0, 0) _ rfl HX.out.hd Tryd.underlying57 rfl (by rw [List.size_toArray, HRL.out]; exact info_sC)) rfl ?_
    exact ⟨rfl, HX.out.bel⟩
end Go.Proofs.YtpbdglocfjbbfaaDoor
