/- The reference's flash: NewFlash. -/
import Derived.Test.YtlchlcjahndjgaaRfF
import Derived.Test.YtlchlcjahndjgaaNorD
import Derived.Deep.CutRange
namespace Go.Proofs.Ytlchlcjahndjgaa
open Go.RowKit
set_option linter.unusedVariables false
set_option linter.unusedSimpArgs false
def filled (N k : Nat) : List UInt8 := (List.range N).map fun j => if j < k then 255 else 0
theorem filled_len (N k : Nat) : (filled N k).length = N := by simp [filled]
theorem filled_set (N k : Nat) (h : k < N) : (filled N k).set k 255 = filled N (k + 1) := by
  apply List.ext_getElem
  · rw [List.length_set, filled_len, filled_len]
  · intro j h1 h2
    rw [List.getElem_set]
    simp only [filled, List.getElem_map, List.getElem_range]
    by_cases e : k = j
    · rw [if_pos e, if_pos (by omega)]
    · rw [if_neg e]
      by_cases hj : j < k
      · rw [if_pos hj, if_pos (by omega)]
      · rw [if_neg hj, if_neg (by omega)]
theorem filled_zero (N : Nat) : filled N 0 = List.replicate N 0 := by
  apply List.ext_getElem
  · rw [filled_len, List.length_replicate]
  · intro j h1 h2
    simp only [filled, List.getElem_map, List.getElem_range, List.getElem_replicate]
    rw [if_neg (by omega)]
theorem filled_all (N : Nat) : filled N N = List.replicate N 255 := by
  apply List.ext_getElem
  · rw [filled_len, List.length_replicate]
  · intro j h1 h2
    rw [filled_len] at h1
    simp only [filled, List.getElem_map, List.getElem_range, List.getElem_replicate]
    rw [if_pos h1]
/-- A new flash of M sectors, k bytes of it filled. -/
def RF.made (M k : Nat) : RF := { b := filled (M * 320) k, wear := List.replicate M 0, off := false, cutb := false, left := 0, mask := [], ops := 0 }
def RF.new (n : Int) : RF := RF.made (max 0 (min n 400)).toNat ((max 0 (min n 400)).toNat * 320)
theorem RF.new_fl (n : Int) : (RF.new n).fl = Fl.new n := by
  unfold RF.new RF.made RF.fl Fl.new
  rw [filled_all]
  rfl
theorem RF.made_ok (M k : Nat) (h : M ≤ 400) : (RF.made M k).Ok := by
  refine ⟨?_, by show (List.replicate M (0:Int)).length ≤ 400; rw [List.length_replicate]; exact h, by show (-1 : Int) ≤ 0; omega, by show (0 : Int) ≤ _; omega, by show 0 ≤ _; omega, fun x hx => ?_⟩
  · show (filled (M * 320) k).length = 320 * (List.replicate M (0:Int)).length
    rw [filled_len, List.length_replicate]
    omega
  · have : x = 0 := (List.mem_replicate.1 hx).2
    omega
theorem RFAt.made {w : World} {fb bb wb : Nat} {M : Nat} (hM : M ≤ 400) (h1 : Blk w fb 101 #[.slice (some ⟨bb, 0, none⟩) (M * 320) (M * 320), .slice (some ⟨wb, 0, none⟩) M M, .bool false, .bool false, .int .i64 0, .slice none 0 0, .int .i64 0])
    (h2 : Blk w bb 5 (List.replicate (M * 320) (u8v 0)).toArray) (h3 : Blk w wb 3 (List.replicate M (i64v 0)).toArray) : RFAt w fb bb wb (RF.made M 0) := by
  refine ⟨RF.made_ok M 0 hM, ⟨none, 0, ?_, Reads.none_ _, fun _ a ha => by cases ha⟩, ?_, ?_, by intro k hk; cases hk⟩
  · show Blk w fb _ #[.slice _ (filled (M * 320) 0).length (filled (M * 320) 0).length, .slice _ (List.replicate M (0 : Int)).length (List.replicate M (0 : Int)).length, _, _, _, _, _]
    rw [filled_len, List.length_replicate]
    exact h1
  · show Blk w bb _ ((filled (M * 320) 0).map u8v).toArray
    rw [filled_zero, List.map_replicate]
    exact h2
  · show Blk w wb _ ((List.replicate M (0 : Int)).map i64v).toArray
    rw [List.map_replicate]
    exact h3
theorem made_a (w : World) (M : Nat) (hM : M ≤ 400) (BB WB : Array Value) (hB : (List.replicate (M * 320) (u8v 0)).toArray = BB) (hW : (List.replicate M (i64v 0)).toArray = WB) :
    RFAt (((w.alloc (.cells BB 5)).alloc (.cells WB 3)).alloc (.cells #[.slice (some ⟨w.heap.size, 0, none⟩) (M * 320) (M * 320), .slice (some ⟨w.heap.size + 1, 0, none⟩) M M, .bool false, .bool false, .int .i64 0, .slice none 0 0, .int .i64 0] 101)).drew
      (w.heap.size + 1 + 1) w.heap.size (w.heap.size + 1) (RF.made M 0) := by
  subst hB hW
  have s1 : (w.alloc (.cells (List.replicate (M * 320) (u8v 0)).toArray 5)).heap.size = w.heap.size + 1 := by simp
  have b1 := ((Blk.new w 5 (List.replicate (M * 320) (u8v 0)).toArray).alloc (.cells (List.replicate M (i64v 0)).toArray 3)).alloc (.cells #[.slice (some ⟨w.heap.size, 0, none⟩) (M * 320) (M * 320), .slice (some ⟨w.heap.size + 1, 0, none⟩) M M, .bool false, .bool false, .int .i64 0, .slice none 0 0, .int .i64 0] 101)
  have b2 := (Blk.new (w.alloc (.cells (List.replicate (M * 320) (u8v 0)).toArray 5)) 3 (List.replicate M (i64v 0)).toArray).alloc (.cells #[.slice (some ⟨w.heap.size, 0, none⟩) (M * 320) (M * 320), .slice (some ⟨w.heap.size + 1, 0, none⟩) M M, .bool false, .bool false, .int .i64 0, .slice none 0 0, .int .i64 0] 101)
  rw [s1] at b2
  have b3 := Blk.new ((w.alloc (.cells (List.replicate (M * 320) (u8v 0)).toArray 5)).alloc (.cells (List.replicate M (i64v 0)).toArray 3)) 101 #[.slice (some ⟨w.heap.size, 0, none⟩) (M * 320) (M * 320), .slice (some ⟨w.heap.size + 1, 0, none⟩) M M, .bool false, .bool false, .int .i64 0, .slice none 0 0, .int .i64 0]
  rw [show ((w.alloc (.cells (List.replicate (M * 320) (u8v 0)).toArray 5)).alloc (.cells (List.replicate M (i64v 0)).toArray 3)).heap.size = w.heap.size + 1 + 1 by simp] at b3
  exact (RFAt.made hM b3 b1 b2).drew
theorem made_b (w : World) (M : Nat) (hM : M ≤ 400) (BB WB : Array Value) (hB : (List.replicate (M * 320) (u8v 0)).toArray = BB) (hW : (List.replicate M (i64v 0)).toArray = WB) :
    RFAt (((w.alloc (.cells WB 3)).alloc (.cells BB 5)).alloc (.cells #[.slice (some ⟨w.heap.size + 1, 0, none⟩) (M * 320) (M * 320), .slice (some ⟨w.heap.size, 0, none⟩) M M, .bool false, .bool false, .int .i64 0, .slice none 0 0, .int .i64 0] 101)).drew
      (w.heap.size + 1 + 1) (w.heap.size + 1) w.heap.size (RF.made M 0) := by
  subst hB hW
  have s1 : (w.alloc (.cells (List.replicate M (i64v 0)).toArray 3)).heap.size = w.heap.size + 1 := by simp
  have b1 := ((Blk.new w 3 (List.replicate M (i64v 0)).toArray).alloc (.cells (List.replicate (M * 320) (u8v 0)).toArray 5)).alloc (.cells #[.slice (some ⟨w.heap.size + 1, 0, none⟩) (M * 320) (M * 320), .slice (some ⟨w.heap.size, 0, none⟩) M M, .bool false, .bool false, .int .i64 0, .slice none 0 0, .int .i64 0] 101)
  have b2 := (Blk.new (w.alloc (.cells (List.replicate M (i64v 0)).toArray 3)) 5 (List.replicate (M * 320) (u8v 0)).toArray).alloc (.cells #[.slice (some ⟨w.heap.size + 1, 0, none⟩) (M * 320) (M * 320), .slice (some ⟨w.heap.size, 0, none⟩) M M, .bool false, .bool false, .int .i64 0, .slice none 0 0, .int .i64 0] 101)
  rw [s1] at b2
  have b3 := Blk.new ((w.alloc (.cells (List.replicate M (i64v 0)).toArray 3)).alloc (.cells (List.replicate (M * 320) (u8v 0)).toArray 5)) 101 #[.slice (some ⟨w.heap.size + 1, 0, none⟩) (M * 320) (M * 320), .slice (some ⟨w.heap.size, 0, none⟩) M M, .bool false, .bool false, .int .i64 0, .slice none 0 0, .int .i64 0]
  rw [show ((w.alloc (.cells (List.replicate M (i64v 0)).toArray 3)).alloc (.cells (List.replicate (M * 320) (u8v 0)).toArray 5)).heap.size = w.heap.size + 1 + 1 by simp] at b3
  exact (RFAt.made hM b3 b2 b1).drew
set_option maxRecDepth 100000 in
set_option maxHeartbeats 1000000 in
theorem rnew_c (w : World) (n : Int) : Calls Try.prog 21 #[.int .i64 n] w fun e w' => ∃ fb bb wb, e = .returned (ptr fb) ∧ RFAt w' fb bb wb (RF.new n) ∧ w.heap.size ≤ fb ∧ w.heap.size ≤ bb ∧ w.heap.size ≤ wb ∧ Below w.heap.size w w' := by
  obtain ⟨M, hM⟩ : ∃ M, (max 0 (min n 400)).toNat = M := ⟨_, rfl⟩
  have hM4 : M ≤ 400 := by omega
  have hcut : ∀ W, Calls Try.prog 67 #[.int .i64 n, .int .i64 0, .int .i64 400] W fun e w' => e = .returned (.int .i64 (M : Int)) ∧ W = w' := fun W => by
    refine (refcut_c n 0 400 W).mono ?_
    rintro e w' ⟨rfl, rfl⟩
    refine ⟨?_, rfl⟩
    congr 2
    split <;> (try split) <;> omega
  have hnew : RF.new n = RF.made M (M * 320) := by unfold RF.new; rw [hM]
  rw [hnew]
  have hmb : ∀ W : World, (Instr.makeSlice 29 (.int .i64 ((M : Int) * 320)) (.int .i64 ((M : Int) * 320))).run Try.prog W = .ok (.slice (some ⟨W.heap.size, 0, none⟩) (M * 320) (M * 320)) (W.alloc (.cells (List.replicate (M * 320) (u8v 0)).toArray 5)) := fun W => by
    have h := make_bytes (M * 320) (by omega) W
    rw [show ((M * 320 : Nat) : Int) = (M : Int) * 320 by omega] at h
    exact h
  have hmi := fun W => make_ints M (by omega) W
  have i1 : IntKind.i64.wrap ((M : Int) * 320) = (M : Int) * 320 := IntWalk.i64_in _ (by omega)
  clear hM hnew
  go_enter Try.func21, Try.ntmps21
  go_upto_region 2 with (go_at_call 67; refine (hcut _).mono ?_; rintro e w' ⟨rfl, rfl⟩)
  obtain ⟨BB, hBB⟩ : ∃ BB, (List.replicate (M * 320) (u8v 0)).toArray = BB := ⟨_, rfl⟩
  obtain ⟨WB, hWB⟩ : ∃ WB, (List.replicate M (i64v 0)).toArray = WB := ⟨_, rfl⟩
  rw [hBB] at hmb
  rw [hWB] at hmi
  have HBB := Lib.hid hBB
  have HWB := Lib.hid hWB
  clear hBB hWB
  go_cut [3] from 7 to 13 (fun v wx => ∃ fb bb wb, v = ptr fb ∧ RFAt wx fb bb wb (RF.made M 0) ∧ w.heap.size ≤ fb ∧ w.heap.size ≤ bb ∧ w.heap.size ≤ wb ∧ Below w.heap.size w wx)
  case first =>
    go_region
    all_goals (go_wp2_with fail)
    all_goals go_meet
    · exact ⟨_, _, _, rfl, made_a w M hM4 BB WB HBB.out HWB.out, by omega, by omega, by omega, ((((Below.refl w.heap.size w).alloc (Nat.le_refl _) _).alloc (by simp) _).alloc (by simp; omega) _).drew⟩
    · exact ⟨_, _, _, rfl, made_b w M hM4 BB WB HBB.out HWB.out, by omega, by omega, by omega, ((((Below.refl w.heap.size w).alloc (Nat.le_refl _) _).alloc (by simp) _).alloc (by simp; omega) _).drew⟩
  case rest =>
    obtain ⟨fb, bb, wb, rfl, hG, h1, h2, h3, hb⟩ := hcut
    have HG := Lib.hid hG
    have HB := Lib.hid hb
    clear hG hb hmb hmi
    go_wp2_with fail
    go_loopw [4] (fun i wr => ∃ k : Nat, k ≤ M * 320 ∧ i = .int .i64 (k : Int) ∧ RFAt wr fb bb wb (RF.made M k) ∧ Below w.heap.size w wr) (fun i _ => M * 320 - (intOf i).toNat)
    case atStart => exact ⟨0, by omega, rfl, HG.out, HB.out⟩
    case round =>
      clear HG HB
      obtain ⟨k, hk, rfl, hF, hbe⟩ := hrel
      have c0 := hF.c0
      rw [show (RF.made M k).b.length = M * 320 from filled_len _ _] at c0
      have HF := Lib.hid hF
      have HBE := Lib.hid hbe
      by_cases hlt : k < M * 320
      · have hkl : k < (RF.made M k).b.length := by rw [show (RF.made M k).b.length = M * 320 from filled_len _ _]; exact hlt
        have kb := hF.cb k hkl
        obtain ⟨x, hx⟩ : ∃ x, (RF.made M k).b[k]'hkl = x := ⟨_, rfl⟩
        rw [hx] at kb
        have kf := hF.bytes.frozen k
        have i2 : (k : Int) < ((M * 320 : Nat) : Int) := by omega
        have i3 : (k : Int) < (M : Int) * 320 := by omega
        clear hF hbe hkl hx
        go_wp2
        go_roundw
        case rel =>
          refine ⟨k + 1, by omega, by go_num, ?_, HBE.out.setCell h2 _⟩
          have h := HF.out.setB k 255
          have e : ({ RF.made M k with b := (RF.made M k).b.set k 255 } : RF) = RF.made M (k + 1) := by
            show ({ RF.made M k with b := (filled (M * 320) k).set k 255 } : RF) = _
            rw [filled_set _ _ hlt]
            rfl
          rw [e] at h
          exact h
        case measure => simp [intOf]; omega
      · obtain rfl : k = M * 320 := by omega
        have i3 : ¬ ((M * 320 : Nat) : Int) < ((M * 320 : Nat) : Int) := by omega
        clear hF hbe
        go_wp2
        go_ret
        exact ⟨fb, rfl, bb, wb, HF.out, h1, h2, h3, HBE.out⟩
end Go.Proofs.Ytlchlcjahndjgaa
