/- sha.told: the words of a state as bytes. -/
import Derived.Test.YtgadnliogceecaaSha7
namespace Go.Proofs.Ytgadnliogceecaa
open Go.RowKit
set_option linter.unusedVariables false
set_option linter.unusedSimpArgs false

def toldTo (s : St) (k : Nat) : List UInt8 := (s.words.take k).flatMap bytes4
def told (s : St) : List UInt8 := s.words.flatMap bytes4
theorem told_len (s : St) : (told s).length = 32 := rfl
theorem info_u32 : (Try.prog.info? 61).map (fun i => (i.size)) = some 1 := by kernel_rfl
theorem run_index8 (a b c d e f g h : UInt32) (k : Nat) (hk : k < 8) (v : UInt32) (hv : [a, b, c, d, e, f, g, h][k]? = some v) (w : World) :
    (Instr.index 62 (.agg #[u32v a, u32v b, u32v c, u32v d, u32v e, u32v f, u32v g, u32v h]) (.int .i64 (k : Int))).run Try.prog w = .ok (u32v v) w := by
  obtain ⟨i, hi, hs⟩ : ∃ i, Try.prog.info? 61 = some i ∧ i.size = 1 := by
    have := info_u32
    cases hq : Try.prog.info? 61 with
    | none => rw [hq] at this; cases this
    | some i => rw [hq] at this; exact ⟨i, rfl, by simpa using this⟩
  have hk8 : k = 0 ∨ k = 1 ∨ k = 2 ∨ k = 3 ∨ k = 4 ∨ k = 5 ∨ k = 6 ∨ k = 7 := by omega
  rcases hk8 with rfl | rfl | rfl | rfl | rfl | rfl | rfl | rfl <;> simp at hv <;> subst hv <;> simp [Instr.index, run_underlying Try.underlying62, asIntOf, part, isAgg, run_underlying Try.underlying61, sizeOf, typeInfo, hi, hs, go_sem]
set_option maxRecDepth 100000 in
set_option maxHeartbeats 1000000 in
theorem told_c (s : St) (w : World) : Calls Try.prog 42 #[.agg s.vals] w (MadeBytes w (told s)) := by
  obtain ⟨a, b, c, d, e, f, g, h⟩ := s
  obtain ⟨i0, hi, hz0, hz1, hz2⟩ := info_parts info_u8
  have HI := Lib.hid hi
  have HZ0 := Lib.hid hz0
  have HZ1 := Lib.hid hz1
  have HZ2 := Lib.hid hz2
  clear hi hz0 hz1 hz2
  show Calls Try.prog 42 #[.agg #[u32v a, u32v b, u32v c, u32v d, u32v e, u32v f, u32v g, u32v h]] w _
  go_enter Try.func42, Try.ntmps42
  go_wp2_with fail
  go_loopw [3, 7] (fun v i wr => ∃ (k : Nat) (A : Option Addr) (cc : Nat), k ≤ 8 ∧ v = .slice A (4 * k) cc ∧ i = .int .i64 k ∧ wr.ownsRow w.heap.size 5 1 (.slice A (4 * k) cc) (4 * k) ((toldTo ⟨a, b, c, d, e, f, g, h⟩ k).map u8v) ∧ Below w.heap.size w wr) (fun _ i _ => 8 - (intOf i).toNat)
  case atStart => exact ⟨0, none, 0, by omega, rfl, rfl, World.ownsRow_nil _ _ _ _, (Below.refl _ _).alloc (Nat.le_refl _) _⟩
  case round =>
    obtain ⟨k, A, cc, hk, rfl, rfl, hown, hb⟩ := hrel
    have HO := Lib.hid hown
    have HB := Lib.hid hb
    have hbs := HB.out.size
    clear hown hb
    have hk8 : k = 0 ∨ k = 1 ∨ k = 2 ∨ k = 3 ∨ k = 4 ∨ k = 5 ∨ k = 6 ∨ k = 7 ∨ k = 8 := by omega
    rcases hk8 with rfl | rfl | rfl | rfl | rfl | rfl | rfl | rfl | rfl
    · have hix : ∀ ww : World, (Instr.index 62 (.agg #[u32v a, u32v b, u32v c, u32v d, u32v e, u32v f, u32v g, u32v h]) (.int .i64 0)).run Try.prog ww = .ok (u32v a) ww := run_index8 a b c d e f g h 0 (by omega) a rfl
      go_wp2_with fail
      refine (bytes_c a wr).mono ?_
      rintro e1 wy ⟨rfl, hB1, hb1⟩
      have HB1 := Lib.hid hB1
      have HY := Lib.hid hb1
      clear hB1 hb1
      go_wp2_with (at_builtin; refine wpList_append_any _ rfl (.tmp 10) (.tmp 12) _ rfl w.heap.size 5 i0 (.int .u8 0) 1 Try.underlying22 HI.out HZ0.out HZ1.out HZ2.out rfl _ (4 * 0) ((toldTo ⟨a, b, c, d, e, f, g, h⟩ 0).map u8v) rfl (own_only HO.out (Only.of_below (S := []) HY.out) (by simp)) (some ⟨wr.heap.size, 0, none⟩) 4 4 ((bytes4 a).map u8v) rfl (Reads.of_blk HB1.out) (u8v_one _) (by unfold maxLen; omega) (by omega) (Nat.le_trans hbs HY.out.size) ?_; intro A2' c2' w2' hown2 hgrow hat; have HO2 := Lib.hid hown2; have HG2 := Lib.hid hgrow; clear hown2 hgrow hat)
      go_roundw
      case rel =>
        have hl1 := (HO.out).lt
        refine ⟨1, A2', c2', by omega, rfl, rfl, ?_, (HB.out.trans (HY.out.mono hbs)).grown HG2.out (Nat.le_trans hbs HY.out.size) (fun g hg => (hl1 g hg).1)⟩
        have h := HO2.out
        rw [← List.map_append] at h
        exact h
      case measure => simp [intOf]
    · have hix : ∀ ww : World, (Instr.index 62 (.agg #[u32v a, u32v b, u32v c, u32v d, u32v e, u32v f, u32v g, u32v h]) (.int .i64 1)).run Try.prog ww = .ok (u32v b) ww := run_index8 a b c d e f g h 1 (by omega) b rfl
      go_wp2_with fail
      refine (bytes_c b wr).mono ?_
      rintro e1 wy ⟨rfl, hB1, hb1⟩
      have HB1 := Lib.hid hB1
      have HY := Lib.hid hb1
      clear hB1 hb1
      go_wp2_with (at_builtin; refine wpList_append_any _ rfl (.tmp 10) (.tmp 12) _ rfl w.heap.size 5 i0 (.int .u8 0) 1 Try.underlying22 HI.out HZ0.out HZ1.out HZ2.out rfl _ (4 * 1) ((toldTo ⟨a, b, c, d, e, f, g, h⟩ 1).map u8v) rfl (own_only HO.out (Only.of_below (S := []) HY.out) (by simp)) (some ⟨wr.heap.size, 0, none⟩) 4 4 ((bytes4 b).map u8v) rfl (Reads.of_blk HB1.out) (u8v_one _) (by unfold maxLen; omega) (by omega) (Nat.le_trans hbs HY.out.size) ?_; intro A2' c2' w2' hown2 hgrow hat; have HO2 := Lib.hid hown2; have HG2 := Lib.hid hgrow; clear hown2 hgrow hat)
      go_roundw
      case rel =>
        have hl1 := (HO.out).lt
        refine ⟨2, A2', c2', by omega, rfl, rfl, ?_, (HB.out.trans (HY.out.mono hbs)).grown HG2.out (Nat.le_trans hbs HY.out.size) (fun g hg => (hl1 g hg).1)⟩
        have h := HO2.out
        rw [← List.map_append] at h
        exact h
      case measure => simp [intOf]
    · have hix : ∀ ww : World, (Instr.index 62 (.agg #[u32v a, u32v b, u32v c, u32v d, u32v e, u32v f, u32v g, u32v h]) (.int .i64 2)).run Try.prog ww = .ok (u32v c) ww := run_index8 a b c d e f g h 2 (by omega) c rfl
      go_wp2_with fail
      refine (bytes_c c wr).mono ?_
      rintro e1 wy ⟨rfl, hB1, hb1⟩
      have HB1 := Lib.hid hB1
      have HY := Lib.hid hb1
      clear hB1 hb1
      go_wp2_with (at_builtin; refine wpList_append_any _ rfl (.tmp 10) (.tmp 12) _ rfl w.heap.size 5 i0 (.int .u8 0) 1 Try.underlying22 HI.out HZ0.out HZ1.out HZ2.out rfl _ (4 * 2) ((toldTo ⟨a, b, c, d, e, f, g, h⟩ 2).map u8v) rfl (own_only HO.out (Only.of_below (S := []) HY.out) (by simp)) (some ⟨wr.heap.size, 0, none⟩) 4 4 ((bytes4 c).map u8v) rfl (Reads.of_blk HB1.out) (u8v_one _) (by unfold maxLen; omega) (by omega) (Nat.le_trans hbs HY.out.size) ?_; intro A2' c2' w2' hown2 hgrow hat; have HO2 := Lib.hid hown2; have HG2 := Lib.hid hgrow; clear hown2 hgrow hat)
      go_roundw
      case rel =>
        have hl1 := (HO.out).lt
        refine ⟨3, A2', c2', by omega, rfl, rfl, ?_, (HB.out.trans (HY.out.mono hbs)).grown HG2.out (Nat.le_trans hbs HY.out.size) (fun g hg => (hl1 g hg).1)⟩
        have h := HO2.out
        rw [← List.map_append] at h
        exact h
      case measure => simp [intOf]
    · have hix : ∀ ww : World, (Instr.index 62 (.agg #[u32v a, u32v b, u32v c, u32v d, u32v e, u32v f, u32v g, u32v h]) (.int .i64 3)).run Try.prog ww = .ok (u32v d) ww := run_index8 a b c d e f g h 3 (by omega) d rfl
      go_wp2_with fail
      refine (bytes_c d wr).mono ?_
      rintro e1 wy ⟨rfl, hB1, hb1⟩
      have HB1 := Lib.hid hB1
      have HY := Lib.hid hb1
      clear hB1 hb1
      go_wp2_with (at_builtin; refine wpList_append_any _ rfl (.tmp 10) (.tmp 12) _ rfl w.heap.size 5 i0 (.int .u8 0) 1 Try.underlying22 HI.out HZ0.out HZ1.out HZ2.out rfl _ (4 * 3) ((toldTo ⟨a, b, c, d, e, f, g, h⟩ 3).map u8v) rfl (own_only HO.out (Only.of_below (S := []) HY.out) (by simp)) (some ⟨wr.heap.size, 0, none⟩) 4 4 ((bytes4 d).map u8v) rfl (Reads.of_blk HB1.out) (u8v_one _) (by unfold maxLen; omega) (by omega) (Nat.le_trans hbs HY.out.size) ?_; intro A2' c2' w2' hown2 hgrow hat; have HO2 := Lib.hid hown2; have HG2 := Lib.hid hgrow; clear hown2 hgrow hat)
      go_roundw
      case rel =>
        have hl1 := (HO.out).lt
        refine ⟨4, A2', c2', by omega, rfl, rfl, ?_, (HB.out.trans (HY.out.mono hbs)).grown HG2.out (Nat.le_trans hbs HY.out.size) (fun g hg => (hl1 g hg).1)⟩
        have h := HO2.out
        rw [← List.map_append] at h
        exact h
      case measure => simp [intOf]
    · have hix : ∀ ww : World, (Instr.index 62 (.agg #[u32v a, u32v b, u32v c, u32v d, u32v e, u32v f, u32v g, u32v h]) (.int .i64 4)).run Try.prog ww = .ok (u32v e) ww := run_index8 a b c d e f g h 4 (by omega) e rfl
      go_wp2_with fail
      refine (bytes_c e wr).mono ?_
      rintro e1 wy ⟨rfl, hB1, hb1⟩
      have HB1 := Lib.hid hB1
      have HY := Lib.hid hb1
      clear hB1 hb1
      go_wp2_with (at_builtin; refine wpList_append_any _ rfl (.tmp 10) (.tmp 12) _ rfl w.heap.size 5 i0 (.int .u8 0) 1 Try.underlying22 HI.out HZ0.out HZ1.out HZ2.out rfl _ (4 * 4) ((toldTo ⟨a, b, c, d, e, f, g, h⟩ 4).map u8v) rfl (own_only HO.out (Only.of_below (S := []) HY.out) (by simp)) (some ⟨wr.heap.size, 0, none⟩) 4 4 ((bytes4 e).map u8v) rfl (Reads.of_blk HB1.out) (u8v_one _) (by unfold maxLen; omega) (by omega) (Nat.le_trans hbs HY.out.size) ?_; intro A2' c2' w2' hown2 hgrow hat; have HO2 := Lib.hid hown2; have HG2 := Lib.hid hgrow; clear hown2 hgrow hat)
      go_roundw
      case rel =>
        have hl1 := (HO.out).lt
        refine ⟨5, A2', c2', by omega, rfl, rfl, ?_, (HB.out.trans (HY.out.mono hbs)).grown HG2.out (Nat.le_trans hbs HY.out.size) (fun g hg => (hl1 g hg).1)⟩
        have h := HO2.out
        rw [← List.map_append] at h
        exact h
      case measure => simp [intOf]
    · have hix : ∀ ww : World, (Instr.index 62 (.agg #[u32v a, u32v b, u32v c, u32v d, u32v e, u32v f, u32v g, u32v h]) (.int .i64 5)).run Try.prog ww = .ok (u32v f) ww := run_index8 a b c d e f g h 5 (by omega) f rfl
      go_wp2_with fail
      refine (bytes_c f wr).mono ?_
      rintro e1 wy ⟨rfl, hB1, hb1⟩
      have HB1 := Lib.hid hB1
      have HY := Lib.hid hb1
      clear hB1 hb1
      go_wp2_with (at_builtin; refine wpList_append_any _ rfl (.tmp 10) (.tmp 12) _ rfl w.heap.size 5 i0 (.int .u8 0) 1 Try.underlying22 HI.out HZ0.out HZ1.out HZ2.out rfl _ (4 * 5) ((toldTo ⟨a, b, c, d, e, f, g, h⟩ 5).map u8v) rfl (own_only HO.out (Only.of_below (S := []) HY.out) (by simp)) (some ⟨wr.heap.size, 0, none⟩) 4 4 ((bytes4 f).map u8v) rfl (Reads.of_blk HB1.out) (u8v_one _) (by unfold maxLen; omega) (by omega) (Nat.le_trans hbs HY.out.size) ?_; intro A2' c2' w2' hown2 hgrow hat; have HO2 := Lib.hid hown2; have HG2 := Lib.hid hgrow; clear hown2 hgrow hat)
      go_roundw
      case rel =>
        have hl1 := (HO.out).lt
        refine ⟨6, A2', c2', by omega, rfl, rfl, ?_, (HB.out.trans (HY.out.mono hbs)).grown HG2.out (Nat.le_trans hbs HY.out.size) (fun g hg => (hl1 g hg).1)⟩
        have h := HO2.out
        rw [← List.map_append] at h
        exact h
      case measure => simp [intOf]
    · have hix : ∀ ww : World, (Instr.index 62 (.agg #[u32v a, u32v b, u32v c, u32v d, u32v e, u32v f, u32v g, u32v h]) (.int .i64 6)).run Try.prog ww = .ok (u32v g) ww := run_index8 a b c d e f g h 6 (by omega) g rfl
      go_wp2_with fail
      refine (bytes_c g wr).mono ?_
      rintro e1 wy ⟨rfl, hB1, hb1⟩
      have HB1 := Lib.hid hB1
      have HY := Lib.hid hb1
      clear hB1 hb1
      go_wp2_with (at_builtin; refine wpList_append_any _ rfl (.tmp 10) (.tmp 12) _ rfl w.heap.size 5 i0 (.int .u8 0) 1 Try.underlying22 HI.out HZ0.out HZ1.out HZ2.out rfl _ (4 * 6) ((toldTo ⟨a, b, c, d, e, f, g, h⟩ 6).map u8v) rfl (own_only HO.out (Only.of_below (S := []) HY.out) (by simp)) (some ⟨wr.heap.size, 0, none⟩) 4 4 ((bytes4 g).map u8v) rfl (Reads.of_blk HB1.out) (u8v_one _) (by unfold maxLen; omega) (by omega) (Nat.le_trans hbs HY.out.size) ?_; intro A2' c2' w2' hown2 hgrow hat; have HO2 := Lib.hid hown2; have HG2 := Lib.hid hgrow; clear hown2 hgrow hat)
      go_roundw
      case rel =>
        have hl1 := (HO.out).lt
        refine ⟨7, A2', c2', by omega, rfl, rfl, ?_, (HB.out.trans (HY.out.mono hbs)).grown HG2.out (Nat.le_trans hbs HY.out.size) (fun g hg => (hl1 g hg).1)⟩
        have h := HO2.out
        rw [← List.map_append] at h
        exact h
      case measure => simp [intOf]
    · have hix : ∀ ww : World, (Instr.index 62 (.agg #[u32v a, u32v b, u32v c, u32v d, u32v e, u32v f, u32v g, u32v h]) (.int .i64 7)).run Try.prog ww = .ok (u32v h) ww := run_index8 a b c d e f g h 7 (by omega) h rfl
      go_wp2_with fail
      refine (bytes_c h wr).mono ?_
      rintro e1 wy ⟨rfl, hB1, hb1⟩
      have HB1 := Lib.hid hB1
      have HY := Lib.hid hb1
      clear hB1 hb1
      go_wp2_with (at_builtin; refine wpList_append_any _ rfl (.tmp 10) (.tmp 12) _ rfl w.heap.size 5 i0 (.int .u8 0) 1 Try.underlying22 HI.out HZ0.out HZ1.out HZ2.out rfl _ (4 * 7) ((toldTo ⟨a, b, c, d, e, f, g, h⟩ 7).map u8v) rfl (own_only HO.out (Only.of_below (S := []) HY.out) (by simp)) (some ⟨wr.heap.size, 0, none⟩) 4 4 ((bytes4 h).map u8v) rfl (Reads.of_blk HB1.out) (u8v_one _) (by unfold maxLen; omega) (by omega) (Nat.le_trans hbs HY.out.size) ?_; intro A2' c2' w2' hown2 hgrow hat; have HO2 := Lib.hid hown2; have HG2 := Lib.hid hgrow; clear hown2 hgrow hat)
      go_roundw
      case rel =>
        have hl1 := (HO.out).lt
        refine ⟨8, A2', c2', by omega, rfl, rfl, ?_, (HB.out.trans (HY.out.mono hbs)).grown HG2.out (Nat.le_trans hbs HY.out.size) (fun g hg => (hl1 g hg).1)⟩
        have h := HO2.out
        rw [← List.map_append] at h
        exact h
      case measure => simp [intOf]
    · go_wp2_with fail
      go_ret
      exact ⟨A, cc, rfl, HO.out, HB.out⟩
end Go.Proofs.Ytgadnliogceecaa
