/- slices.Concat of three rows. -/
import Derived.Test.YtlchlcjahndjgaaShaB
namespace Go.Proofs.Ytlchlcjahndjgaa
open Go.RowKit
set_option linter.unusedVariables false
set_option linter.unusedSimpArgs false

def cat3To (l0 l1 l2 : List UInt8) (k : Nat) : List UInt8 := if k = 0 then [] else if k = 1 then l0 else if k = 2 then l0 ++ l1 else l0 ++ l1 ++ l2
set_option maxRecDepth 100000 in
theorem concat3_c (g c : Nat) (A0 A1 A2 : Option Addr) (n0 n1 n2 c0 c1 c2 : Nat) (l0 l1 l2 : List UInt8) (w : World) (h0 : w.cell? ⟨g, 0, none⟩ = some (.slice A0 n0 c0)) (h1 : w.cell? ⟨g, 1, none⟩ = some (.slice A1 n1 c1)) (h2 : w.cell? ⟨g, 2, none⟩ = some (.slice A2 n2 c2)) (hg : g < w.heap.size)
    (r0 : Reads w A0 n0 (l0.map u8v)) (r1 : Reads w A1 n1 (l1.map u8v)) (r2 : Reads w A2 n2 (l2.map u8v)) (hn0 : n0 ≤ 274877906944) (hn1 : n1 ≤ 274877906944) (hn2 : n2 ≤ 274877906944) :
    Calls Try.prog 56 #[.slice (some ⟨g, 0, none⟩) 3 c] w (MadeBytes w (l0 ++ l1 ++ l2)) := by
  obtain ⟨i0, hi, hz0, hz1, hz2⟩ := info_parts info_u8
  have HI := Lib.hid hi
  have HZ0 := Lib.hid hz0
  have HZ1 := Lib.hid hz1
  have HZ2 := Lib.hid hz2
  have e0 : l0.length = n0 := by simpa using r0.len
  have e1 : l1.length = n1 := by simpa using r1.len
  have e2 : l2.length = n2 := by simpa using r2.len
  have R0 := Lib.hid r0
  have R1 := Lib.hid r1
  have R2 := Lib.hid r2
  have E0 := Lib.hid e0
  have E1 := Lib.hid e1
  have E2 := Lib.hid e2
  have H0 := Lib.hid h0
  have H1 := Lib.hid h1
  have H2 := Lib.hid h2
  clear hi hz0 hz1 hz2 r0 r1 r2 e0 e1 e2
  go_enter Try.func56, Try.ntmps56
  go_wp2_with fail
  go_loopw [3, 11] (fun s i wr => ∃ k : Nat, k ≤ 3 ∧ s = .int .i64 ((if k = 0 then 0 else if k = 1 then n0 else if k = 2 then n0 + n1 else n0 + n1 + n2) : Nat) ∧ i = .int .i64 k ∧ w = wr) (fun _ i _ => 3 - (intOf i).toNat)
  case atStart => exact ⟨0, by omega, rfl, rfl, rfl⟩
  case round =>
    obtain ⟨k, hk, rfl, rfl, rfl⟩ := hrel
    have hk3 : k = 0 ∨ k = 1 ∨ k = 2 ∨ k = 3 := by omega
    rcases hk3 with rfl | rfl | rfl | rfl
    · go_wp2_with fail
      go_roundw
      case rel => exact ⟨1, by omega, by simp, rfl, trivial⟩
      case measure => simp [intOf]
    · go_wp2_with fail
      go_roundw
      case rel => exact ⟨2, by omega, by simp, rfl, trivial⟩
      case measure => simp [intOf]
    · go_wp2_with fail
      go_roundw
      case rel => exact ⟨3, by omega, by simp, rfl, trivial⟩
      case measure => simp [intOf]
    · go_wp2_with fail
      have hgr := grow_c (n0 + n1 + n2) (by omega) w
      rw [Int.natCast_add, Int.natCast_add] at hgr
      refine hgr.mono ?_
      rintro e w2 ⟨A', c', rfl, hown, hb⟩
      have HOW := Lib.hid hown
      have HBW := Lib.hid hb
      clear hown hb hgr
      go_wp2_with fail
      go_loopw [6, 27] (fun s i wr => ∃ (k : Nat) (A' : Option Addr) (c' : Nat), k ≤ 3 ∧ s = .slice A' (if k = 0 then 0 else if k = 1 then n0 else if k = 2 then n0 + n1 else n0 + n1 + n2) c' ∧ i = .int .i64 k ∧ wr.ownsRow w.heap.size 5 1 (.slice A' (if k = 0 then 0 else if k = 1 then n0 else if k = 2 then n0 + n1 else n0 + n1 + n2) c') (if k = 0 then 0 else if k = 1 then n0 else if k = 2 then n0 + n1 else n0 + n1 + n2) ((cat3To l0 l1 l2 k).map u8v) ∧ Below w.heap.size w wr) (fun _ i _ => 3 - (intOf i).toNat)
      case atStart => exact ⟨0, A', c', by omega, rfl, rfl, HOW.out, HBW.out⟩
      case round =>
        obtain ⟨k, A', c', hk, rfl, rfl, hown, hb⟩ := hrel
        have HO := Lib.hid hown
        have HB := Lib.hid hb
        clear hown hb HOW HBW
        have hk3 : k = 0 ∨ k = 1 ∨ k = 2 ∨ k = 3 := by omega
        have g0 : wr.cell? ⟨g, 0, none⟩ = some (.slice A0 n0 c0) := by rw [HB.out.cell (show (⟨g, 0, none⟩ : Addr).block < w.heap.size from hg)]; exact H0.out
        have g1 : wr.cell? ⟨g, 1, none⟩ = some (.slice A1 n1 c1) := by rw [HB.out.cell (show (⟨g, 1, none⟩ : Addr).block < w.heap.size from hg)]; exact H1.out
        have g2 : wr.cell? ⟨g, 2, none⟩ = some (.slice A2 n2 c2) := by rw [HB.out.cell (show (⟨g, 2, none⟩ : Addr).block < w.heap.size from hg)]; exact H2.out
        clear h0 h1 h2
        rcases hk3 with rfl | rfl | rfl | rfl
        · have hbs := HB.out.size
          go_wp2_with (at_builtin; refine wpList_append_any _ rfl (.tmp 31) (.tmp 32) _ rfl w.heap.size 5 i0 (.int .u8 0) 1 Try.underlying29 HI.out HZ0.out HZ1.out HZ2.out rfl _ 0 ([]) rfl HO.out A0 n0 c0 (l0.map u8v) rfl (R0.out.below HB.out) (u8v_one _) (by unfold maxLen; omega) (by omega) hbs ?_; intro A2' c2' w2' hown2 hgrow hat; have HO2 := Lib.hid hown2; have HG2 := Lib.hid hgrow; clear hown2 hgrow hat)
          go_roundw
          case rel =>
            have hl1 := (HO.out).lt
            refine ⟨1, A2', c2', by omega, ?_, rfl, ?_, HB.out.grown HG2.out hbs (fun g hg => (hl1 g hg).1)⟩
            · simp [cat3To]
            · have h := HO2.out
              simp [cat3To] at h ⊢
              exact h
          case measure => simp [intOf]
        · have hbs := HB.out.size
          go_wp2_with (at_builtin; refine wpList_append_any _ rfl (.tmp 31) (.tmp 32) _ rfl w.heap.size 5 i0 (.int .u8 0) 1 Try.underlying29 HI.out HZ0.out HZ1.out HZ2.out rfl _ n0 (l0.map u8v) rfl HO.out A1 n1 c1 (l1.map u8v) rfl (R1.out.below HB.out) (u8v_one _) (by unfold maxLen; omega) (by omega) hbs ?_; intro A2' c2' w2' hown2 hgrow hat; have HO2 := Lib.hid hown2; have HG2 := Lib.hid hgrow; clear hown2 hgrow hat)
          go_roundw
          case rel =>
            have hl1 := (HO.out).lt
            refine ⟨2, A2', c2', by omega, ?_, rfl, ?_, HB.out.grown HG2.out hbs (fun g hg => (hl1 g hg).1)⟩
            · simp [cat3To]
            · have h := HO2.out
              simp [cat3To] at h ⊢
              exact h
          case measure => simp [intOf]
        · have hbs := HB.out.size
          go_wp2_with (at_builtin; refine wpList_append_any _ rfl (.tmp 31) (.tmp 32) _ rfl w.heap.size 5 i0 (.int .u8 0) 1 Try.underlying29 HI.out HZ0.out HZ1.out HZ2.out rfl _ (n0 + n1) ((l0 ++ l1).map u8v) rfl HO.out A2 n2 c2 (l2.map u8v) rfl (R2.out.below HB.out) (u8v_one _) (by unfold maxLen; omega) (by omega) hbs ?_; intro A2' c2' w2' hown2 hgrow hat; have HO2 := Lib.hid hown2; have HG2 := Lib.hid hgrow; clear hown2 hgrow hat)
          go_roundw
          case rel =>
            have hl1 := (HO.out).lt
            refine ⟨3, A2', c2', by omega, ?_, rfl, ?_, HB.out.grown HG2.out hbs (fun g hg => (hl1 g hg).1)⟩
            · simp [cat3To]
            · have h := HO2.out
              simp [cat3To] at h ⊢
              exact h
          case measure => simp [intOf]
        · have hfin : (l0 ++ l1 ++ l2).length = n0 + n1 + n2 := by rw [List.length_append, List.length_append, E0.out, E1.out, E2.out]
          have HF := Lib.hid hfin
          clear hfin
          go_wp2_with fail
          go_ret
          refine ⟨A', c', ?_, ?_, HB.out⟩
          · rw [HF.out]; rfl
          · rw [HF.out]; exact HO.out
end Go.Proofs.Ytlchlcjahndjgaa
