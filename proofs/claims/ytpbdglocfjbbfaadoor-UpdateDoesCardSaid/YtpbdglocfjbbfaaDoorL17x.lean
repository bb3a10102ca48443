/- waterlinelaw17.UpdateDoes: what any request does to what is kept, whatever was found beside, and what is answered. -/
import Derived.Test.YtpbdglocfjbbfaaDoorRdB
import Derived.Test.YtpbdglocfjbbfaaDoorL17a
import Derived.Test.YtpbdglocfjbbfaaDoorUpC
namespace Go.Proofs.YtpbdglocfjbbfaaDoor
open Go Go.RowKit
set_option linter.unusedVariables false
set_option linter.unusedSimpArgs false
attribute [local go_sem ↓] sldI_seal sldM_seal sstM_seal sstI_seal sldF_seal sldQ_seal sldR_seal sstR_seal
theorem box3d (w : World) (M Q FA : Array Value) (B : Nat) (hB : w.heap.size = B) :
    Bxs w (((w.alloc (.cells M 27)).alloc (.cells Q 30)).alloc (.cells FA 32)) [(B + 2, 32, FA), (B + 1, 30, Q), (B, 27, M)] :=
  (((Bxs.nil w).new hB _ _).new (by simp [hB]) _ _).new (by simp [hB]) _ _
theorem ne_all {tb : Nat} {L : List (Nat × TypeId × Array Value)} {W : World} {w0 : World} (h : Bxs w0 W L) (ht : W.heap.size ≤ tb) : ∀ x ∈ L, x.1 ≠ tb := fun x hx e => by
  have := (h.all x hx).lt
  omega
theorem ne_cons {tb g : Nat} {t : TypeId} {cs : Array Value} {L : List (Nat × TypeId × Array Value)} (h : ∀ x ∈ L, x.1 ≠ tb) (hg : g ≠ tb) : ∀ x ∈ (g, t, cs) :: L, x.1 ≠ tb := fun x hx => by
  rcases List.mem_cons.1 hx with rfl | hx
  · exact hg
  · exact h x hx
/-- Both results of a request laid into new boxes. -/
theorem lay2 {w0 W : World} {L : List (Nat × TypeId × Array Value)} (h : Bxs w0 W L) (D : Mt) (hD : D.Ok) (E N G : Int) :
    let W1 := (W.alloc (.cells Tryd.zeroCells27 27)).alloc (.cells #[.int .i64 0, .int .i64 0, .int .i64 0] 36)
    (sstM (.pointer (some ⟨W.heap.size, 0, none⟩)) (.agg D.cells.toArray)).run Tryd.prog W1 = .ok () (W1.setRow W.heap.size D.cells.toArray) ∧
    (sstR (.pointer (some ⟨W.heap.size + 1, 0, none⟩)) (.agg #[.int .i64 E, .int .i64 N, .int .i64 G])).run Tryd.prog (W1.setRow W.heap.size D.cells.toArray) = .ok () ((W1.setRow W.heap.size D.cells.toArray).setRow (W.heap.size + 1) #[.int .i64 E, .int .i64 N, .int .i64 G]) ∧
    Bxs w0 ((W1.setRow W.heap.size D.cells.toArray).setRow (W.heap.size + 1) #[.int .i64 E, .int .i64 N, .int .i64 G]) ((W.heap.size + 1, 36, #[.int .i64 E, .int .i64 N, .int .i64 G]) :: (W.heap.size, 27, D.cells.toArray) :: L) := by
  intro W1
  have hsz := h.bel.size
  have h1 := h.new rfl 27 Tryd.zeroCells27
  have h2 : Bxs w0 W1 ((W.heap.size + 1, 36, #[.int .i64 0, .int .i64 0, .int .i64 0]) :: (W.heap.size, 27, Tryd.zeroCells27) :: L) := h1.new (by simp) 36 _
  have hs1 := storeM hD h2.tl.hd zeroM_size
  have h3 := h2.swap.put D.cells.toArray hsz (ne_cons (ne_all h (Nat.le_refl _)) (by omega))
  have hs2 := run_sstR E N G h3.tl.hd zeroR_size
  have h4 := h3.swap.put #[.int .i64 E, .int .i64 N, .int .i64 G] (by omega) (ne_cons (ne_all h (by omega)) (by omega))
  exact ⟨hs1, hs2, h4⟩
set_option maxRecDepth 100000 in
set_option maxHeartbeats 2000000 in
theorem updDoes_c (w : World) (m : Mt) (h : m.Ok) (qk qn : Int) (SB : Option Addr) (sl sc : Nat) (l : List UInt8) (hr : Reads w SB sl (l.map u8v)) (hsc : sl ≤ sc ∧ sc ≤ maxLen) (f : Fc) (hf : f.d.length = 32) (qu size n : Int) (hsize : -9223372036854775808 ≤ size ∧ size ≤ 9223372036854775807) :
    Calls Tryd.prog 3 #[.agg m.cells.toArray, .agg #[.int .i64 qk, .int .i64 qn, .slice SB sl sc], .agg f.cells.toArray, .int .i64 qu, .int .i64 size, .int .i64 n] w fun e w' => e = .returned (.bool true) ∧ Below w.heap.size w w' := by
  have hX0 := box3d w m.cells.toArray #[.int .i64 qk, .int .i64 qn, .slice SB sl sc] f.cells.toArray _ rfl
  have hS : ∀ W, Bxs w W [(w.heap.size + 2, 32, f.cells.toArray), (w.heap.size + 1, 30, #[.int .i64 qk, .int .i64 qn, .slice SB sl sc]), (w.heap.size, 27, m.cells.toArray)] →
      (sldM (.pointer (some ⟨w.heap.size, 0, none⟩))).run Tryd.prog W = .ok (.agg m.cells.toArray) W ∧ (sldQ (.pointer (some ⟨w.heap.size + 1, 0, none⟩))).run Tryd.prog W = .ok (.agg #[.int .i64 qk, .int .i64 qn, .slice SB sl sc]) W ∧ (sldF (.pointer (some ⟨w.heap.size + 2, 0, none⟩))).run Tryd.prog W = .ok (.agg f.cells.toArray) W ∧ W.cell? ⟨w.heap.size + 1, 2, none⟩ = some (.slice SB sl sc) := fun W hX =>
    ⟨run_sldM (Mt.cells_len h) hX.tl.tl.hd.whole, run_sldQ rfl (Blk.whole (l := [.int .i64 qk, .int .i64 qn, .slice SB sl sc]) hX.tl.hd), run_sldF (Fc.cells_len hf) hX.hd.whole, hX.tl.hd.cell 2⟩
  have hdo := fun (W : World) (hW : Below w.heap.size w W) (hs : sl ≤ 1000) => doA_c W m h qk qn SB sl sc l (hr.below hW) hs f hf qu
  have hrdo := fun (W : World) (hW : Below w.heap.size w W) (hs : sl ≤ 1000) => rdo_c W m h qk qn SB sl sc l (hr.below hW) hs hsc f hf qu
  have hok := doA_ok h f qk qn l qu
  simp only [rdo_eq] at hrdo
  obtain ⟨D, hD⟩ : ∃ D, doA m f qk qn l qu = D := ⟨_, rfl⟩
  simp only [hD] at hdo hrdo hok
  obtain ⟨DM, E, N, G⟩ := D
  simp only [Ch.res] at hdo hrdo hok
  have hlay := fun (W : World) (L : List (Nat × TypeId × Array Value)) (hX : Bxs w W L) => lay2 hX DM hok E N G
  have hldm := fun (W : World) (g : Nat) (hB : Blk W g 27 DM.cells.toArray) => run_sldM (Mt.cells_len hok) hB.whole
  have heq := eqlM DM hok
  have heqr := eqlR E N G E N G
  simp only [beq_self_eq_true, Bool.and_self] at heqr
  obtain ⟨M, hM⟩ : ∃ M, m.cells.toArray = M := ⟨_, rfl⟩
  obtain ⟨FA, hFA⟩ : ∃ FA, f.cells.toArray = FA := ⟨_, rfl⟩
  obtain ⟨DC, hDC⟩ : ∃ DC, DM.cells.toArray = DC := ⟨_, rfl⟩
  simp only [hM, hFA, hDC] at hX0 hS hdo hrdo hlay hldm heq ⊢
  have HX := Lib.hid hX0
  have HS := Lib.hid hS
  have HDO := Lib.hid hdo
  have HRDO := Lib.hid hrdo
  have HLAY := Lib.hid hlay
  have HLDM := Lib.hid hldm
  have HEQ := Lib.hid heq
  have HEQR := Lib.hid heqr
  have HSZ := Lib.hid hsize
  clear hX0 hS hdo hrdo hlay hldm heq heqr hsize hM hFA hDC hD hr hsc hok
  go_enter Tryd.func3, Tryd.ntmps3
  go_wp2_with fail
  generalize ((w.alloc (.cells M 27)).alloc (.cells #[.int .i64 qk, .int .i64 qn, .slice SB sl sc] 30)).alloc (.cells FA 32) = W3 at HX ⊢
  refine (alive17_c W3).mono ?_
  rintro e w1 ⟨rfl, hb1⟩
  have HX := Lib.hid (HX.out.later hb1)
  clear hb1
  obtain ⟨hldM, hldQ, hldF, hc2⟩ := HS.out _ HX.out
  by_cases h1 : (1000 : Int) < (sl : Int)
  · go_wp2_with fail
    go_ret
    exact ⟨rfl, HX.out.bel⟩
  go_wp2_with fail
  refine (HDO.out _ HX.out.bel (by omega)).mono ?_
  rintro e w4 ⟨rfl, hb4⟩
  obtain ⟨hst, hst2, hX2⟩ := HLAY.out _ _ (HX.out.later hb4)
  have HX := Lib.hid hX2
  clear hX2 hb4 hldM hldQ hldF hc2
  go_upto_region 5 with fail
  clear hst hst2
  have hX2 := HX.out
  clear HX
  generalize World.setRow _ _ _ = W5 at hX2 ⊢
  obtain ⟨t1, ht1⟩ : ∃ t1, w4.heap.size = t1 := ⟨_, rfl⟩
  rw [ht1] at hX2 ⊢
  have HX := Lib.hid hX2
  clear hX2 ht1
  obtain ⟨hldM, hldQ, hldF, _⟩ := HS.out _ HX.out.tl.tl
  go_wp2_with fail
  refine (HRDO.out _ HX.out.bel (by omega)).mono ?_
  rintro e w6 ⟨rfl, hb6⟩
  obtain ⟨hst, hst2, hX2⟩ := HLAY.out _ _ (HX.out.later hb6)
  have HX := Lib.hid hX2
  clear hX2 hb6 hldM hldQ hldF
  go_upto_region 6 with fail
  clear hst hst2
  have hX2 := HX.out
  clear HX
  generalize World.setRow _ _ _ = W7 at hX2 ⊢
  obtain ⟨t2, ht2⟩ : ∃ t2, w6.heap.size = t2 := ⟨_, rfl⟩
  rw [ht2] at hX2 ⊢
  have hl1 := HLDM.out _ _ hX2.tl.tl.tl.hd
  have hl2 := HLDM.out _ _ hX2.tl.hd
  have hr1 := run_sldR rfl (Blk.whole (l := [.int .i64 E, .int .i64 N, .int .i64 G]) hX2.tl.tl.hd)
  have hr2 := run_sldR rfl (Blk.whole (l := [.int .i64 E, .int .i64 N, .int .i64 G]) hX2.hd)
  have heq := HEQ.out
  have heqr := HEQR.out
  have HX := Lib.hid hX2
  clear hX2 ht2
  go_wp2_with fail
  refine (uchunks_c size HSZ.out _).mono ?_
  rintro e wx ⟨rfl, rfl⟩
  go_wp2_with fail
  refine (rchunks12_c size HSZ.out _).mono ?_
  rintro e wx ⟨rfl, rfl⟩
  go_wp2_with fail
  refine (ulen_c size n HSZ.out _).mono ?_
  rintro e wx ⟨rfl, rfl⟩
  go_wp2_with fail
  refine (rlen12_c size n HSZ.out _).mono ?_
  rintro e wx ⟨rfl, rfl⟩
  go_wp2_with fail
  go_ret
  exact ⟨rfl, HX.out.bel⟩
end Go.Proofs.YtpbdglocfjbbfaaDoor
