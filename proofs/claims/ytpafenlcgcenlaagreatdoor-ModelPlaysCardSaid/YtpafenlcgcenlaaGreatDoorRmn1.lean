/- The reference's good and Valid. -/
import Derived.Test.YtpafenlcgcenlaaGreatDoorMnA
namespace Go.Proofs.YtpafenlcgcenlaaGreatDoor
open Go Go.RowKit
set_option linter.unusedVariables false
set_option linter.unusedSimpArgs false
theorem rgood_c (r : Int) (w : World) : Calls Tryz.prog 79 #[.int .i32 r] w fun e w' => e = .returned (.bool (mayR r)) ∧ w = w' := by
  unfold mayR
  by_cases h1 : 97 ≤ r
  · by_cases h2 : r ≤ 122
    · go_enter Tryz.func79, Tryz.ntmps79
      go_wp2_with fail
      all_goals (go_ret; exact ⟨bool_retN (by first | rfl | (simp [*]; done) | (simp; omega) | (rw [Bool.eq_iff_iff]; simp; omega)), rfl⟩)
    · by_cases h3 : 945 ≤ r
      · by_cases h4 : r ≤ 969
        · go_enter Tryz.func79, Tryz.ntmps79
          go_wp2_with fail
          all_goals (go_ret; exact ⟨bool_retN (by first | rfl | (simp [*]; done) | (simp; omega) | (rw [Bool.eq_iff_iff]; simp; omega)), rfl⟩)
        · go_enter Tryz.func79, Tryz.ntmps79
          go_wp2_with fail
          all_goals (go_ret; exact ⟨bool_retN (by first | rfl | (simp [*]; done) | (simp; omega) | (rw [Bool.eq_iff_iff]; simp; omega)), rfl⟩)
      · go_enter Tryz.func79, Tryz.ntmps79
        go_wp2_with fail
        all_goals (go_ret; exact ⟨bool_retN (by first | rfl | (simp [*]; done) | (simp; omega) | (rw [Bool.eq_iff_iff]; simp; omega)), rfl⟩)
  · by_cases h2 : 48 ≤ r
    · by_cases h3 : r ≤ 57
      · go_enter Tryz.func79, Tryz.ntmps79
        go_wp2_with fail
        all_goals (go_ret; exact ⟨bool_retN (by first | rfl | (simp [*]; done) | (simp; omega) | (rw [Bool.eq_iff_iff]; simp; omega)), rfl⟩)
      · go_enter Tryz.func79, Tryz.ntmps79
        go_wp2_with fail
        all_goals (go_ret; exact ⟨bool_retN (by first | rfl | (simp [*]; done) | (simp; omega) | (rw [Bool.eq_iff_iff]; simp; omega)), rfl⟩)
    · go_enter Tryz.func79, Tryz.ntmps79
      go_wp2_with fail
      all_goals (go_ret; exact ⟨bool_retN (by first | rfl | (simp [*]; done) | (simp; omega) | (rw [Bool.eq_iff_iff]; simp; omega)), rfl⟩)
set_option maxHeartbeats 1000000 in
theorem rvalid_c (s : ByteArray) (hs : s.size ≤ 9223372036854775807) (w : World) : Calls Tryz.prog 38 #[.string s] w fun e w' => e = .returned (.bool (validN s)) ∧ Below w.heap.size w w' := by
  obtain ⟨V, hV⟩ : ∃ V, validN s = V := ⟨_, rfl⟩
  rw [hV]
  have HV := Lib.hid hV
  clear hV
  go_enter Tryz.func38, Tryz.ntmps38
  go_wp2_with fail
  go_loopw [3] (fun i wr => ∃ (pos f n : Nat), i = .int .i64 n ∧ n ≤ pos ∧ s.size ≤ pos + f ∧ validGo s f pos n = V ∧ wr.heap[w.heap.size]? = some (.stringIter s pos) ∧ Below w.heap.size w wr) (fun _ wr => s.size - wr.iterPos w.heap.size)
  case atStart =>
    refine ⟨0, s.size, 0, rfl, Nat.le_refl _, by omega, HV.out, ?_, ?_⟩
    · exact World.iter_heap w s 0
    · exact (Below.refl _ w).alloc (Nat.le_refl _) _
  case round =>
    obtain ⟨pos, f, n, rfl, hn, hf, hg, hit, hb⟩ := hrel
    have HG := Lib.hid hg
    have HB := Lib.hid hb
    have HIT := Lib.hid hit
    clear hg hb
    by_cases hp : pos < s.size
    · have hnx : ∀ ty, (Instr.next (.pointer (some ⟨w.heap.size, 0, none⟩)) true ty).run Tryz.prog wr = _ := fun ty => Lib.run_next_any_at wr w.heap.size s pos ty hit hp
      have hwd := width_posN s pos hp
      have hd1 := decode_le s pos
      have hwr : IntKind.i64.wrap ((n : Int) + 1) = (n : Int) + 1 := IntWalk.i64_in _ (by omega)
      obtain ⟨g, rfl⟩ : ∃ g, f = g + 1 := ⟨f - 1, by omega⟩
      have hit2 := Lib.iterAt_heap wr w.heap.size s pos (pos + (Utf8.decode s pos).2) hit
      have hb2 := Lib.below_iterAt HB.out (Nat.le_refl _) s (pos + (Utf8.decode s pos).2)
      have HIT2 := Lib.hid hit2
      have HB2 := Lib.hid hb2
      have hgs : validGo s (g + 1) pos n = (if mayR (Utf8.decode s pos).1 = true then validGo s g (pos + (Utf8.decode s pos).2) (n + 1) else false) := by
        show (if pos < s.size then _ else _) = _
        rw [if_pos hp]
      have HGS := Lib.hid hgs
      have HWD := Lib.hid hwd
      have HD1 := Lib.hid hd1
      obtain ⟨M, hM⟩ : ∃ M, mayR (Utf8.decode s pos).1 = M := ⟨_, rfl⟩
      have hmy : ∀ W, Calls Tryz.prog 79 #[.int .i32 (Utf8.decode s pos).1] W fun e w' => e = .returned (.bool M) ∧ W = w' := fun W => hM ▸ rgood_c _ W
      have HM := Lib.hid hM
      clear hit hit2 hb2 hgs hwd hd1 hM
      cases M
      · go_wp2_with fail
        refine (hmy _).mono ?_
        rintro e w2 ⟨rfl, rfl⟩
        go_wp2_with fail
        go_ret
        exact ⟨bool_retN (by rw [← HG.out, HGS.out, if_neg (by rw [HM.out]; decide)]), HB2.out⟩
      · go_wp2_with fail
        refine (hmy _).mono ?_
        rintro e w2 ⟨rfl, rfl⟩
        go_wp2_with fail
        go_roundw
        case rel =>
          have := HWD.out
          have := HD1.out
          exact ⟨pos + (Utf8.decode s pos).2, g, n + 1, by go_num, by omega, by omega, by rw [← HG.out, HGS.out, if_pos HM.out], HIT2.out, HB2.out⟩
        case measure =>
          have := HWD.out
          simp only [World.iterPos, HIT2.out, HIT.out]
          omega
    · have hnx : ∀ ty, (Instr.next (.pointer (some ⟨w.heap.size, 0, none⟩)) true ty).run Tryz.prog wr = _ := fun ty => Lib.run_next_end_at wr w.heap.size s pos ty hit hp
      have hend : V = (decide (1 ≤ n) && decide (n ≤ 8)) := by rw [← HG.out, validGo_end s f pos n hp]
      have HEND := Lib.hid hend
      clear hit hend
      by_cases h1 : (1 : Int) ≤ (n : Int)
      · go_wp2_with fail
        go_ret
        exact ⟨bool_retN (by rw [HEND.out]; first | (simp; omega) | (simp; done) | (rw [Bool.eq_iff_iff]; simp; omega)), HB.out⟩
      · go_wp2_with fail
        go_ret
        exact ⟨bool_retN (by rw [HEND.out]; first | (simp; omega) | (simp; done) | (rw [Bool.eq_iff_iff]; simp; omega)), HB.out⟩
end Go.Proofs.YtpafenlcgcenlaaGreatDoor
