/- waterlinelaw17.UpdateWorn: where nothing can be written nothing is turned, and that what runs runs on. -/
import Derived.Test.YtpbdglocfjbbfaaDoorUpP
import Derived.Test.YtpbdglocfjbbfaaDoorL17a
namespace Go.Proofs.YtpbdglocfjbbfaaDoor
open Go Go.RowKit
set_option linter.unusedVariables false
set_option linter.unusedSimpArgs false
attribute [local go_sem ↓] sldI_seal sldM_seal sstM_seal sstI_seal sldF_seal sldQ_seal sldR_seal sstR_seal
theorem box3q (w : World) (M Q FA : Array Value) (B : Nat) (hB : w.heap.size = B) :
    Bxs w (((w.alloc (.cells M 27)).alloc (.cells Q 30)).alloc (.cells FA 32)) [(B + 2, 32, FA), (B + 1, 30, Q), (B, 27, M)] :=
  (((Bxs.nil w).new hB _ _).new (by simp [hB]) _ _).new (by simp [hB]) _ _
theorem Fc.setW {f : Fc} (hf : f.d.length = 32) (b : Bool) : f.cells.set 34 (.bool b) = ({ f with wn := b } : Fc).cells := by
  unfold Fc.cells
  simp only [List.set_cons_succ]
  rw [List.set_append_right _ _ (by rw [List.length_map, hf]; omega), List.length_map, hf]
  rfl
set_option maxRecDepth 100000 in
set_option maxHeartbeats 1000000 in
theorem updWorn_c (w : World) (m : Mt) (h : m.Ok) (qk qn : Int) (SB : Option Addr) (sl sc : Nat) (l : List UInt8) (hr : Reads w SB sl (l.map u8v)) (f : Fc) (hf : f.d.length = 32) (qu : Int) :
    Calls Tryd.prog 5 #[.agg m.cells.toArray, .agg #[.int .i64 qk, .int .i64 qn, .slice SB sl sc], .agg f.cells.toArray, .int .i64 qu] w fun e w' => e = .returned (.bool true) ∧ Below w.heap.size w w' := by
  have hX0 := box3q w m.cells.toArray #[.int .i64 qk, .int .i64 qn, .slice SB sl sc] f.cells.toArray _ rfl
  obtain ⟨RT, hRT⟩ : ∃ RT, m.rright = RT := ⟨_, rfl⟩
  have hrm : ∀ W, Calls Tryd.prog 16 #[.agg m.cells.toArray] W fun e w' => e = .returned (.bool RT) ∧ Below W.heap.size W w' := fun W => hRT ▸ rright_c W m h
  have hS : ∀ W FA, Bxs w W [(w.heap.size + 2, 32, FA), (w.heap.size + 1, 30, #[.int .i64 qk, .int .i64 qn, .slice SB sl sc]), (w.heap.size, 27, m.cells.toArray)] →
      (sldM (.pointer (some ⟨w.heap.size, 0, none⟩))).run Tryd.prog W = .ok (.agg m.cells.toArray) W ∧ (sldQ (.pointer (some ⟨w.heap.size + 1, 0, none⟩))).run Tryd.prog W = .ok (.agg #[.int .i64 qk, .int .i64 qn, .slice SB sl sc]) W ∧ W.cell? ⟨w.heap.size + 1, 2, none⟩ = some (.slice SB sl sc) ∧ W.cell? ⟨w.heap.size + 1, 0, none⟩ = some (.int .i64 qk) ∧ W.cell? ⟨w.heap.size, 0, none⟩ = some (.int .i64 m.act) := fun W FA hX =>
    ⟨run_sldM (Mt.cells_len h) hX.tl.tl.hd.whole, run_sldQ rfl (Blk.whole (l := [.int .i64 qk, .int .i64 qn, .slice SB sl sc]) hX.tl.hd), hX.tl.hd.cell 2, hX.tl.hd.cell 0, by rw [hX.tl.tl.hd.cell, List.getElem?_toArray]; rfl⟩
  obtain ⟨M, hM⟩ : ∃ M, m.cells.toArray = M := ⟨_, rfl⟩
  obtain ⟨FA, hFA⟩ : ∃ FA, f.cells.toArray = FA := ⟨_, rfl⟩
  rw [hM] at hrm hS
  rw [hM, hFA] at hX0 ⊢
  have HX := Lib.hid hX0
  have HS := Lib.hid hS
  have HRM := Lib.hid hrm
  have HM := Lib.hid hM
  have HFA := Lib.hid hFA
  have HRT := Lib.hid hRT
  have HR := Lib.hid hr
  clear hX0 hS hrm hM hFA hRT hr
  go_enter Tryd.func5, Tryd.ntmps5
  go_wp2_with fail
  have hX0 := HX.out
  clear HX
  generalize ((w.alloc (.cells M 27)).alloc (.cells #[.int .i64 qk, .int .i64 qn, .slice SB sl sc] 30)).alloc (.cells FA 32) = W3 at hX0 ⊢
  refine (alive17_c W3).mono ?_
  rintro e w1 ⟨rfl, hb1⟩
  have hX1 := hX0.later hb1
  obtain ⟨hldM, _, hc2, _, _⟩ := HS.out _ _ hX1
  have HX := Lib.hid hX1
  clear hX0 hb1 hX1
  go_wp2_with fail
  refine (HRM.out _).mono ?_
  rintro e w2 ⟨rfl, hb2⟩
  have hX2 := HX.out.later hb2
  clear HX hb2 hldM hc2
  obtain ⟨hldM, hldQ, hc2, hc0, hca⟩ := HS.out _ _ hX2
  cases RT
  · have HB := Lib.hid hX2.bel
    clear hX2
    go_wp2_with fail
    go_ret
    exact ⟨rfl, HB.out⟩
  by_cases hlen : 1000 < sl
  · have HB := Lib.hid hX2.bel
    have hlen2 : (1000 : Int) < (sl : Int) := by omega
    clear hX2
    go_wp2_with fail
    go_ret
    exact ⟨rfl, HB.out⟩
  have hright : m.right = true := by rw [← Mt.rright_eq]; exact HRT.out
  have hlen2 : ¬ (1000 : Int) < (sl : Int) := by omega
  obtain ⟨f2, hf2⟩ : ∃ f2 : Fc, { f with wn := true } = f2 := ⟨_, rfl⟩
  have hf2d : f2.d.length = 32 := by rw [← hf2]; exact hf
  have hf2w : f2.wn = true := by rw [← hf2]
  have hBf : Blk (w2.setCell ⟨w.heap.size + 2, 34, none⟩ (.bool true)) (w.heap.size + 2) 32 f2.cells.toArray := by
    have q := hX2.hd.set_ 34 (.bool true)
    rw [← HFA.out, List.setIfInBounds_toArray, Fc.setW hf true, hf2] at q
    exact q
  have k34 : w2.cell? ⟨w.heap.size + 2, 34, none⟩ = some (.bool f.wn) := by rw [hX2.hd.cell, ← HFA.out, List.getElem?_toArray, Fc.c34 hf]
  have f34 := hX2.hd.frozen 34
  have hX3 := hX2.set hBf (by omega) (by intro x hx; simp only [List.mem_cons, List.not_mem_nil, or_false] at hx; rcases hx with hx | hx <;> (rw [hx]; simp <;> omega))
  have HX3 := Lib.hid hX3
  have HRI := Lib.hid hright
  have HF2 := Lib.hid hf2w
  clear hX2 hBf hX3 hf2 hright hf2w hldM hldQ hc0 hca
  go_upto_region 5 with fail
  have hX3 := HX3.out
  clear HX3 k34 f34
  generalize World.setCell w2 (⟨w.heap.size + 2, 34, none⟩ : Addr) (.bool true) = W4 at hX3 ⊢
  obtain ⟨FB, hFB⟩ : ∃ FB, f2.cells.toArray = FB := ⟨_, rfl⟩
  rw [hFB] at hX3
  have hldF : (sldF (.pointer (some ⟨w.heap.size + 2, 0, none⟩))).run Tryd.prog W4 = .ok (.agg FB) W4 := by
    have q := hX3.hd
    rw [← hFB] at q ⊢
    exact run_sldF (Fc.cells_len hf2d) q.whole
  obtain ⟨hldM, hldQ, _, hc0, hca⟩ := HS.out _ _ hX3
  obtain ⟨D, hDD⟩ : ∃ D, doA m f2 qk qn l qu = D := ⟨_, rfl⟩
  have hDo : D.m.Ok := hDD ▸ doA_ok h f2 qk qn l qu
  obtain ⟨wm, w5, w9, wo⟩ := worn_A HRI.out f2 HF2.out qk qn l qu
  rw [hDD] at wm w5 w9 wo
  have hdo : ∀ W, Reads W SB sl (l.map u8v) → Calls Tryd.prog 10 #[.agg M, .agg #[.int .i64 qk, .int .i64 qn, .slice SB sl sc], .agg FB, .int .i64 qu] W fun e w' => e = .returned D.res ∧ Below W.heap.size W w' := fun W hW => by
    rw [← HM.out, ← hFB, ← hDD]
    exact doA_c W m h qk qn SB sl sc l hW (by omega) f2 hf2d qu
  obtain ⟨dm, de, dn, dg⟩ := D
  simp only at hDo wm w5 w9 wo
  have wm2 := wm.symm
  clear wm
  subst wm2
  have HDO := Lib.hid (show ∀ W, Reads W SB sl (l.map u8v) → Calls Tryd.prog 10 #[.agg M, .agg #[.int .i64 qk, .int .i64 qn, .slice SB sl sc], .agg FB, .int .i64 qu] W fun e w' => e = .returned (.tuple #[.agg M, .agg #[.int .i64 de, .int .i64 dn, .int .i64 dg]]) ∧ Below W.heap.size W w' from fun W hW => (hdo W hW).mono fun e w' hh => ⟨by (rw [hh.1]; unfold Ch.res; rw [HM.out]), hh.2⟩)
  have HX := Lib.hid hX3
  have H5 := Lib.hid w5
  have H9 := Lib.hid w9
  have HO := Lib.hid wo
  clear hdo hDD hX3 hFB w5 w9 wo
  go_wp2_with fail
  refine (HDO.out _ (HR.out.below HX.out.bel)).mono ?_
  rintro e w3 ⟨rfl, hb3⟩
  have hX3 := HX.out.later hb3
  have hlt3 := hX3.hd.lt
  have hN1 := hX3.new rfl 27 Tryd.zeroCells27
  have hN2 := hN1.new (g := w3.heap.size + 1) (by simp) 36 #[.int .i64 0, .int .i64 0, .int .i64 0]
  have hst1 := storeM h hN2.tl.hd zeroM_size
  rw [HM.out] at hst1
  have hP1 := hN2.swap.put M (by omega) (by intro x hx; simp only [List.mem_cons, List.not_mem_nil, or_false] at hx; rcases hx with hx | hx | hx | hx <;> (rw [hx]; simp <;> omega))
  have hst2 := run_sstR de dn dg hP1.tl.hd zeroR_size
  have hP2 := hP1.swap.put #[.int .i64 de, .int .i64 dn, .int .i64 dg] (by omega) (by intro x hx; simp only [List.mem_cons, List.not_mem_nil, or_false] at hx; rcases hx with hx | hx | hx | hx <;> (rw [hx]; simp <;> omega))
  have HP := Lib.hid hP2
  clear hb3 hX3 hN1 hN2 hP1 hP2 hldM hldQ hldF hc0 hca HX hlt3
  obtain ⟨nb, hnb⟩ : ∃ nb, w3.heap.size = nb := ⟨_, rfl⟩
  rw [hnb] at hst1 hst2 HP
  go_upto_region 6 with fail
  have hP := HP.out
  clear HP hst1 hst2 hnb HDO
  generalize World.setRow _ (nb + 1) _ = W7 at hP ⊢
  have hl1 : (sldM (.pointer (some ⟨nb, 0, none⟩))).run Tryd.prog W7 = .ok (.agg M) W7 := by
    have q := hP.tl.hd
    rw [← HM.out] at q ⊢
    exact run_sldM (Mt.cells_len h) q.whole
  have kr : W7.cell? ⟨nb + 1, 0, none⟩ = some (.int .i64 de) := hP.hd.cell 0
  have hl3 : (sldR (.pointer (some ⟨nb + 1, 0, none⟩))).run Tryd.prog W7 = .ok (.agg #[.int .i64 de, .int .i64 dn, .int .i64 dg]) W7 := run_sldR rfl (Blk.whole (l := [.int .i64 de, .int .i64 dn, .int .i64 dg]) hP.hd)
  obtain ⟨hl2, _, _, hc0, hca⟩ := HS.out _ _ hP.tl.tl
  have hne : ∀ W, (binOp .neq 27 (.agg M) (.agg M)).run Tryd.prog W = .ok (.bool false) W := fun W => by rw [← HM.out]; exact neqM m h W
  have HB := Lib.hid hP.bel
  clear hP
  by_cases h5 : qk = 5
  · have e := H5.out h5
    simp only [Ch.mk.injEq, true_and] at e
    obtain ⟨rfl, rfl, rfl⟩ := e
    have heq : ∀ W, (binOp .eql 36 (.agg #[.int .i64 0, .int .i64 m.act, .int .i64 0]) (.agg #[.int .i64 0, .int .i64 m.act, .int .i64 0])).run Tryd.prog W = .ok (.bool true) W := fun W => by rw [eqlR]; simp
    subst h5
    generalize m.act = act at *
    go_wp2_with fail
    go_ret
    exact ⟨rfl, HB.out⟩
  by_cases h9 : qk = 9
  · have e := H9.out h9
    try simp only at e
    subst h9 e
    go_wp2_with fail
    go_ret
    exact ⟨rfl, HB.out⟩
  have e := HO.out h5 h9
  try simp only at e
  have b5 : (qk == 5) = false := beq_eq_false_iff_ne.2 h5
  have b9 : (qk == 9) = false := beq_eq_false_iff_ne.2 h9
  have bn : (de != 0) = true := by rw [bne_iff_ne]; exact e
  go_wp2_with fail
  go_ret
  exact ⟨rfl, HB.out⟩
end Go.Proofs.YtpbdglocfjbbfaaDoor
