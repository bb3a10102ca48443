/- The words of all rounds of a block: sha.spread. -/
import Derived.Test.YtgadnliogceecaaSha4
import Derived.Test.YtgadnliogceecaaQTail
namespace Go.Proofs.Ytgadnliogceecaa
open Go.RowKit
set_option linter.unusedVariables false
set_option linter.unusedSimpArgs false

def swVal (l : List UInt8) (W : List UInt32) (k : Nat) : UInt32 :=
  if k < 16 then big (l.drop (4 * k)) else W.getD (k - 16) 0 + sig0 (W.getD (k - 15) 0) + W.getD (k - 7) 0 + sig1 (W.getD (k - 2) 0)
def sw (l : List UInt8) : Nat → List UInt32
  | 0 => List.replicate 64 0
  | k + 1 => (sw l k).set k (swVal l (sw l k) k)
def spread (l : List UInt8) : List UInt32 := sw l 64
theorem sw_len (l : List UInt8) (k : Nat) : (sw l k).length = 64 := by
  induction k with
  | zero => simp only [sw, List.length_replicate]
  | succ k ih => simp only [sw, List.length_set, ih]
theorem cell32 {w : World} {g : Nat} {t : TypeId} {L : List UInt32} (h : Blk w g t (L.map u32v).toArray) (k : Nat) (hk : k < L.length) : w.cell? ⟨g, k, none⟩ = some (u32v (L.getD k 0)) := by
  rw [h.cell, List.getElem?_toArray, List.getElem?_map, List.getElem?_eq_getElem hk, List.getD_eq_getElem?_getD, List.getElem?_eq_getElem hk]; rfl

theorem shr3 (x : UInt32) : (x.toNat : Int) / (8 : Int) = ((x >>> 3).toNat : Int) := w32_shr x 3 (by omega)
theorem shr10 (x : UInt32) : (x.toNat : Int) / (1024 : Int) = ((x >>> 10).toNat : Int) := w32_shr x 10 (by omega)
theorem spread_val (x16 x15 x7 x2 : UInt32) : ((x16.toNat : Int) + bits .xor .u32 (bits .xor .u32 ((rotr x15 7).toNat : Int) ((rotr x15 18).toNat : Int)) ((x15.toNat : Int) / (8 : Int)) + (x7.toNat : Int) +
      bits .xor .u32 (bits .xor .u32 ((rotr x2 17).toNat : Int) ((rotr x2 19).toNat : Int)) ((x2.toNat : Int) / (1024 : Int))) % (4294967296 : Int) = ((x16 + sig0 x15 + x7 + sig1 x2).toNat : Int) := by
  rw [shr3, shr10, w32_xor, w32_xor, w32_xor, w32_xor]
  simp only [UInt32.toNat_add, sig0, sig1]
  omega
set_option maxRecDepth 100000 in
set_option maxHeartbeats 1000000 in
theorem spread_c (A : Option Addr) (c : Nat) (l : List UInt8) (w : World) (hc : 64 ≤ c) (hcm : (c : Int) ≤ 9223372036854775807) (r : Reads w A 64 (l.map u8v)) :
    Calls Try.prog 62 #[.slice A 64 c] w fun e w' => e = .returned (.agg ((spread l).map u32v).toArray) ∧ Below w.heap.size w w' := by
  have hl : l.length = 64 := by simpa using r.len
  have R := Lib.hid r
  clear r
  go_enter Try.func62, Try.ntmps62
  go_wp2_with fail
  go_loopw [7] (fun i wr => ∃ k : Nat, k ≤ 64 ∧ i = .int .i64 k ∧ Below w.heap.size w wr ∧ Blk wr (w.heap.size + 1) 89 ((sw l k).map u32v).toArray ∧ Blk wr w.heap.size 89 ((sw l 0).map u32v).toArray) (fun i _ => 64 - (intOf i).toNat)
  case atStart =>
    refine ⟨0, by omega, rfl, ((Below.refl _ _).alloc (Nat.le_refl _) _).alloc (by simp) _, ?_, ?_⟩
    · have h := Blk.new (w.alloc (.cells ((sw l 0).map u32v).toArray 89)) 89 ((sw l 0).map u32v).toArray
      rw [show (w.alloc (.cells ((sw l 0).map u32v).toArray 89)).heap.size = w.heap.size + 1 from by simp] at h
      exact h
    · exact (Blk.new w _ _).alloc _
  case round =>
    obtain ⟨k, hk, rfl, hbel, hB, hZ⟩ := hrel
    have HL := Lib.hid hbel
    have HB := Lib.hid hB
    have HZ := Lib.hid hZ
    clear hbel hB hZ
    by_cases hlt : k < 64
    · by_cases h16 : k < 16
      · have e4 : IntKind.i64.wrap ((k : Int) * 4) = (k : Int) * 4 := IntWalk.i64_in _ (by omega)
        have hck := cell32 HB.out k (by rw [sw_len]; omega)
        have hfk := HB.out.frozen k
        have hrd : Reads wr (Option.map (fun x => x.add (k * 4)) A) (64 - k * 4) ((l.drop (k * 4)).map u8v) := by
          have h := (R.out.below HL.out).drop (k := k * 4) (cap := c) (by omega) hc
          rw [if_neg (by omega), ← List.map_drop] at h
          exact h
        have HRD := Lib.hid hrd
        have hval : (sw l (k + 1)) = (sw l k).set k (big (l.drop (k * 4))) := by
          show (sw l k).set k (swVal l (sw l k) k) = _
          unfold swVal
          rw [if_pos h16, Nat.mul_comm]
        have HV := Lib.hid hval
        clear hrd hval
        go_wp2_with fail
        refine (big_c _ _ _ (l.drop (k * 4)) wr (by omega) HRD.out).mono ?_
        rintro e w' ⟨rfl, rfl⟩
        go_wp2_with fail
        go_roundw
        case rel =>
          refine ⟨k + 1, by omega, by go_num, HL.out.setCell (by simp) _, ?_, HZ.out.far (by simp) _⟩
          have h := HB.out.set_ k (u32v (big (l.drop (k * 4))))
          rw [set_map, ← HV.out] at h
          exact h
        case measure => simp [intOf]; omega
      · have hL := sw_len l k
        have hval : (sw l (k + 1)) = (sw l k).set k ((sw l k).getD (k - 16) 0 + sig0 ((sw l k).getD (k - 15) 0) + (sw l k).getD (k - 7) 0 + sig1 ((sw l k).getD (k - 2) 0)) := by
          show (sw l k).set k (swVal l (sw l k) k) = _
          unfold swVal
          rw [if_neg h16]
        have HV := Lib.hid hval
        clear hval
        have c16 := cell32 HB.out (k - 16) (by omega)
        have c15 := cell32 HB.out (k - 15) (by omega)
        have c7 := cell32 HB.out (k - 7) (by omega)
        have c2 := cell32 HB.out (k - 2) (by omega)
        have c0 := cell32 HB.out k (by omega)
        have f0 := HB.out.frozen k
        generalize (sw l k).getD (k - 16) 0 = x16 at *
        generalize (sw l k).getD (k - 15) 0 = x15 at *
        generalize (sw l k).getD (k - 7) 0 = x7 at *
        generalize (sw l k).getD (k - 2) 0 = x2 at *
        have e16 : IntKind.i64.wrap ((k : Int) - 16) = (k : Int) - 16 := IntWalk.i64_in _ (by omega)
        have e15 : IntKind.i64.wrap ((k : Int) - 15) = (k : Int) - 15 := IntWalk.i64_in _ (by omega)
        have e7 : IntKind.i64.wrap ((k : Int) - 7) = (k : Int) - 7 := IntWalk.i64_in _ (by omega)
        have e2 : IntKind.i64.wrap ((k : Int) - 2) = (k : Int) - 2 := IntWalk.i64_in _ (by omega)
        have t16 : ((k : Int) - 16).toNat = k - 16 := by omega
        have t15 : ((k : Int) - 15).toNat = k - 15 := by omega
        have t7 : ((k : Int) - 7).toNat = k - 7 := by omega
        have t2 : ((k : Int) - 2).toNat = k - 2 := by omega
        have p16 : 0 ≤ (k : Int) - 16 := by omega
        have p15 : 0 ≤ (k : Int) - 15 := by omega
        have p7 : 0 ≤ (k : Int) - 7 := by omega
        have p2 : 0 ≤ (k : Int) - 2 := by omega
        have q16 : (k : Int) - 16 < 64 := by omega
        have q15 : (k : Int) - 15 < 64 := by omega
        have q7 : (k : Int) - 7 < 64 := by omega
        have q2 : (k : Int) - 2 < 64 := by omega
        go_upto_region 7 with fail
        go_quiet (fail)
        go_upto_region 8 with fail
        refine wp_region_quiet_tail 29 (by kernel_rfl) (by kernel_rfl) ?_
        simp only [List.take_succ_cons, List.take_zero, List.drop_succ_cons, List.drop_zero]
        repeat (go_big_quiet_step ((go_at_call 74; exact (right_q _ _ (by omega) (by omega) _).mono fun _ _ h => ⟨h.1, _, h.2⟩)))
        refine wpQuiet_nil ?_
        intro nq2
        go_wp2
        go_roundw
        case rel =>
          rw [spread_val]
          refine ⟨k + 1, by omega, by go_num, (below_drewN HL.out _).setCell (by simp) _, ?_, (HZ.out.drewN _).far (by simp) _⟩
          have h := (HB.out.drewN (nq + nq2)).set_ k (u32v (x16 + sig0 x15 + x7 + sig1 x2))
          rw [set_map, ← HV.out] at h
          exact h
        case measure => simp [intOf]; omega
    · obtain rfl : k = 64 := by omega
      go_upto_region 10 with fail
      refine wp_region_lit ?_
      refine wpList_load_row rfl 89 _ rfl (w.heap.size + 1) rfl 89 _ (0, 0) _ HB.out Try.underlying89 rfl (by rw [List.size_toArray, List.length_map, sw_len]; exact info_64) ?_
      refine wpList_store_row rfl 89 _ _ rfl w.heap.size ((sw l 64).map u32v).toArray rfl rfl 89 _ HZ.out (by rw [List.size_toArray, List.length_map, sw_len]; exact info_64) (by rw [List.size_toArray, List.length_map, sw_len, List.size_toArray, List.length_map, sw_len]) (Array.all_eq_true_iff_forall_mem.2 (fun v hv => u32v_one _ v (by simpa using hv))) ?_
      refine wpList_nil ?_
      rename_i K hK
      have HW := Lib.hid (HZ.out.setRow ((sw l 64).map u32v).toArray)
      show K _ _
      refine hK _ _ ?_
      go_wp2_with fail
      refine bodyPost_ret (results_cell_row rfl _ _ w.heap.size 89 ((sw l 64).map u32v).toArray (0, 0) _ rfl HW.out Try.underlying89 rfl (by rw [List.size_toArray, List.length_map, sw_len]; exact info_64)) rfl ?_
      exact ⟨rfl, below_setRow HL.out (Nat.le_refl _) _⟩
end Go.Proofs.Ytgadnliogceecaa
