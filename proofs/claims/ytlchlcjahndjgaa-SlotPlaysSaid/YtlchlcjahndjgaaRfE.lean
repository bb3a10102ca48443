/- The reference's flash: Erase, Read, Blank. -/
import Derived.Test.YtlchlcjahndjgaaRfD
namespace Go.Proofs.Ytlchlcjahndjgaa
open Go.RowKit
set_option linter.unusedVariables false
set_option linter.unusedSimpArgs false
namespace RF
def worn (G : RF) (s : Nat) : RF := { G with wear := G.wear.set s (G.wear.getD s 0 + 1) }
def erase (G : RF) (s : Int) : RF := if G.off then G else if G.fl.is s then (G.worn s.toNat).turn (s.toNat * 320) (List.replicate 320 255) else G
theorem erase_fl (G : RF) (h : G.cutb = true → 0 ≤ G.left) (s : Int) : (G.erase s).fl = G.fl.erase s := by
  unfold erase Fl.erase
  show _ = (if G.off then _ else _)
  split
  · rfl
  · split
    · exact (turn_fl (G.worn s.toNat) h _ _).1
    · rfl
end RF
/-- k bytes 255, the rest 0. -/
def onesTo (k : Nat) : List UInt8 := (List.range 320).map fun j => if j < k then 255 else 0
theorem onesTo_len (k : Nat) : (onesTo k).length = 320 := by simp [onesTo]
theorem onesTo_set (k : Nat) (h : k < 320) : (onesTo k).set k 255 = onesTo (k + 1) := by
  apply List.ext_getElem
  · rw [List.length_set, onesTo_len, onesTo_len]
  · intro j h1 h2
    rw [List.getElem_set]
    simp only [onesTo, List.getElem_map, List.getElem_range]
    by_cases e : k = j
    · rw [if_pos e, if_pos (by omega)]
    · rw [if_neg e]
      by_cases hj : j < k
      · rw [if_pos hj, if_pos (by omega)]
      · rw [if_neg hj, if_neg (by omega)]
theorem onesTo_zero : onesTo 0 = List.replicate 320 0 := by
  apply List.ext_getElem
  · rw [onesTo_len, List.length_replicate]
  · intro j h1 h2
    simp only [onesTo, List.getElem_map, List.getElem_range, List.getElem_replicate]
    rw [if_neg (by omega)]
theorem onesTo_all : onesTo 320 = List.replicate 320 255 := by
  apply List.ext_getElem
  · rw [onesTo_len, List.length_replicate]
  · intro j h1 h2
    rw [onesTo_len] at h1
    simp only [onesTo, List.getElem_map, List.getElem_range, List.getElem_replicate]
    rw [if_pos h1]
set_option maxRecDepth 100000 in
set_option maxHeartbeats 1000000 in
theorem rerase_c (w : World) (fb bb wb : Nat) (G : RF) (s : Int) (h : RFAt w fb bb wb G) (h0 : G.cutb = true → 0 ≤ G.left) (hmw : G.fl.wearAt s ≤ 4611686018427387903) :
    Calls Try.prog 25 #[ptr fb, .int .i64 s] w fun e w' => e = .returned (.int .i64 (G.fl.eraseE s)) ∧ RFAt w' fb bb wb (G.erase s) ∧ Only [fb, bb, wb] w w' := by
  have H := Lib.hid h
  have c1 := h.c1
  have c2 := h.c2
  have hlen := h.ok.len
  have hmost := h.ok.most
  by_cases h1 : G.off = true
  · have e1 : G.fl.eraseE s = 4 := by unfold Fl.eraseE; rw [if_pos (show G.fl.off = true from h1)]
    have e2 : G.erase s = G := by unfold RF.erase; rw [if_pos h1]
    rw [e1, e2]
    rw [h1] at c2
    clear e1 e2 h hlen
    go_enter Try.func25, Try.ntmps25
    go_wp2
    go_ret
    exact ⟨rfl, H.out, Only.refl _ _⟩
  have h1' : G.off = false := by simpa using h1
  rw [h1'] at c2
  by_cases h2 : G.fl.is s = true
  · have hb : 0 ≤ s ∧ s < (G.wear.length : Int) := by
      have := h2
      unfold Fl.is at this
      simp at this
      exact this
    obtain ⟨a, rfl⟩ := Int.eq_ofNat_of_zero_le hb.1
    have ha : a < G.wear.length := by omega
    have hwa : G.fl.wearAt a = G.wear[a] := by
      unfold Fl.wearAt
      rw [if_pos h2]
      show G.wear.getD (a : Int).toNat 0 = _
      simp [ha]
    have hw0 := (h.ok.wear G.wear[a] (List.getElem_mem ha)).1
    rw [hwa] at hmw
    have e1 : G.fl.eraseE a = (G.worn a).turnE := by
      unfold Fl.eraseE
      rw [if_neg (show ¬ G.fl.off = true from h1), if_pos h2, ← (RF.turn_fl G h0 0 []).2]
      rfl
    have e2 : G.erase a = (G.worn a).turn (a * 320) (List.replicate 320 255) := by unfold RF.erase; rw [if_neg h1, if_pos h2]; rfl
    rw [e1, e2]
    have hcw := h.cw a ha
    have hfw := h.wears.frozen a
    have i1 : ¬ (G.wear.length : Int) ≤ (a : Int) := by omega
    have i2 : IntKind.i64.wrap (G.wear[a] + 1) = G.wear[a] + 1 := IntWalk.i64_in _ (by omega)
    have i3 : IntKind.i64.wrap ((a : Int) * 320) = (a : Int) * 320 := IntWalk.i64_in _ (by omega)
    have hG1 := h.setW a (G.wear[a] + 1) ⟨by omega, by omega⟩
    have hGe : ({ G with wear := G.wear.set a (G.wear[a] + 1) } : RF) = G.worn a := by
      unfold RF.worn
      rw [List.getD_eq_getElem?_getD, List.getElem?_eq_getElem ha, Option.getD_some]
    rw [hGe] at hG1
    have hfit : a * 320 + 320 ≤ (G.worn a).b.length := by show _ ≤ G.b.length; omega
    obtain ⟨W, hW⟩ : ∃ W, w.setCell ⟨wb, a, none⟩ (i64v (G.wear[a] + 1)) = W := ⟨_, rfl⟩
    rw [hW] at hG1
    have hOW : Only [fb, bb, wb] w W := hW ▸ (Only.refl _ _).setCell (by simp) _
    have hmk : (Instr.makeSlice 29 (.int .i64 320) (.int .i64 320)).run Try.prog W = .ok (.slice (some ⟨W.heap.size, 0, none⟩) 320 320) (W.alloc (.cells ((onesTo 0).map u8v).toArray 5)) := by
      have h := make_bytes 320 (by omega) W
      have e : (onesTo 0).map u8v = List.replicate 320 (u8v 0) := by rw [onesTo_zero, List.map_replicate]
      rw [e]
      exact h
    have HG1 := Lib.hid hG1
    have HOW := Lib.hid hOW
    have hW2 : w.setCell ⟨wb, a, none⟩ (.int .i64 (G.wear[a] + 1)) = W := hW
    clear h h1 h2 hb hlen e1 e2 hG1 hOW hGe hwa hW
    go_enter Try.func25, Try.ntmps25
    go_wp2_with fail
    have hB0 : Blk (W.alloc (.cells ((onesTo 0).map u8v).toArray 5)) W.heap.size 5 ((onesTo 0).map u8v).toArray := Blk.new W _ _
    go_loopw [6] (fun i wr => ∃ k : Nat, k ≤ 320 ∧ i = .int .i64 (k : Int) ∧ Blk wr W.heap.size 5 ((onesTo k).map u8v).toArray ∧ Below W.heap.size W wr) (fun i _ => 320 - (intOf i).toNat)
    case atStart => exact ⟨0, by omega, rfl, hB0, (Below.refl W.heap.size W).alloc (Nat.le_refl _) _⟩
    case round =>
      obtain ⟨k, hk, rfl, hB, hbe⟩ := hrel
      clear hB0 hmk hW2
      by_cases hlt : k < 320
      · have hc : wr.cell? ⟨W.heap.size, k, none⟩ = some (u8v ((onesTo k)[k]'(by rw [onesTo_len]; exact hlt))) := by
          rw [hB.cell]
          simp [onesTo_len, hlt]
        have hf := hB.frozen k
        have HB := Lib.hid hB
        have HBE := Lib.hid hbe
        clear hB hbe
        go_wp2
        go_roundw
        case rel =>
          refine ⟨k + 1, by omega, by go_num, ?_, HBE.out.setCell (Nat.le_refl _) _⟩
          have := HB.out.set_ k (u8v 255)
          rw [set_map, onesTo_set k hlt] at this
          exact this
        case measure => simp [intOf]; omega
      · obtain rfl : k = 320 := by omega
        have hrd := hB.row
        rw [List.length_map, onesTo_len, onesTo_all] at hrd
        have hlW := HG1.out.lt
        have hapW : Apart [fb, bb, wb] (some ⟨W.heap.size, 0, none⟩) := by
          intro x hx
          cases hx
          simp
          omega
        have HRD := Lib.hid hrd
        have HGr := Lib.hid (HG1.out.below hbe)
        have HOr := Lib.hid (HOW.out.after hbe)
        clear hB hbe hrd
        have ht := rturn_c wr fb bb wb (G.worn a) (a * 320) (some ⟨W.heap.size, 0, none⟩) 320 320 (List.replicate 320 255) HGr.out h0 HRD.out (fun _ => hapW) hfit
        rw [show ((a * 320 : Nat) : Int) = (a : Int) * 320 by omega] at ht
        go_wp2_with (go_at_call 73; refine ht.mono ?_; rintro e w' ⟨rfl, hf, ho⟩)
        go_ret
        exact ⟨rfl, hf, HOr.out.trans ho⟩
  · have e1 : G.fl.eraseE s = 2 := by
      unfold Fl.eraseE
      rw [if_neg (show ¬ G.fl.off = true from h1), if_neg h2]
    have e2 : G.erase s = G := by unfold RF.erase; rw [if_neg h1, if_neg h2]
    have hb : ¬ (0 ≤ s ∧ s < (G.wear.length : Int)) := by
      intro hh
      refine h2 ?_
      unfold Fl.is
      simp
      exact hh
    rw [e1, e2]
    clear e1 e2 h h2 h1 hlen
    by_cases j1 : s < 0
    · go_enter Try.func25, Try.ntmps25
      go_wp2
      go_ret
      exact ⟨rfl, H.out, Only.refl _ _⟩
    · have j2 : (G.wear.length : Int) ≤ s := by omega
      go_enter Try.func25, Try.ntmps25
      go_wp2
      go_ret
      exact ⟨rfl, H.out, Only.refl _ _⟩
end Go.Proofs.Ytlchlcjahndjgaa
