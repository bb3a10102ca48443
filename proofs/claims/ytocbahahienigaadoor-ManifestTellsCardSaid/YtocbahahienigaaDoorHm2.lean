/- hmac.pad. -/
import Derived.Test.YtocbahahienigaaDoorHm1
namespace Go.Proofs.YtocbahahienigaaDoor
open Go Go.RowKit
set_option linter.unusedVariables false
set_option linter.unusedSimpArgs false
/-- A key as a block of 64 bytes. -/
def keyOf (key : List UInt8) : List UInt8 := if 64 < key.length then sha key else key
def keyBlock (key : List UInt8) : List UInt8 := keyOf key ++ List.replicate (64 - (keyOf key).length) 0
def padL (key : List UInt8) (x : UInt8) : List UInt8 := (keyBlock key).map (fun c => c ^^^ x)
theorem keyOf_len (key : List UInt8) : (keyOf key).length ≤ 64 := by
  unfold keyOf; split
  · rw [sha_len]; omega
  · omega
theorem keyBlock_len (key : List UInt8) : (keyBlock key).length = 64 := by
  have := keyOf_len key
  unfold keyBlock; rw [List.length_append, List.length_replicate]; omega
theorem padL_len (key : List UInt8) (x : UInt8) : (padL key x).length = 64 := by unfold padL; rw [List.length_map, keyBlock_len]
def xorTo (l : List UInt8) (x : UInt8) (k : Nat) : List UInt8 := (l.take k).map (fun c => c ^^^ x) ++ l.drop k
theorem xorTo_len (l : List UInt8) (x : UInt8) (k : Nat) : (xorTo l x k).length = l.length := by
  unfold xorTo; rw [List.length_append, List.length_map, List.length_take, List.length_drop]; omega
theorem xorTo_zero (l : List UInt8) (x : UInt8) : xorTo l x 0 = l := by simp [xorTo]
theorem xorTo_all (l : List UInt8) (x : UInt8) : xorTo l x l.length = l.map (fun c => c ^^^ x) := by simp [xorTo]
theorem xorTo_at (l : List UInt8) (x : UInt8) (k : Nat) (hk : k < l.length) : (xorTo l x k).getD k 0 = l.getD k 0 := by
  unfold xorTo
  rw [List.getD_eq_getElem?_getD, List.getElem?_append_right (by simp; omega), List.getElem?_drop, List.length_map, List.length_take, List.getD_eq_getElem?_getD]
  congr 2
  omega
theorem xorTo_succ (l : List UInt8) (x : UInt8) (k : Nat) (hk : k < l.length) : xorTo l x (k + 1) = (xorTo l x k).set k (l.getD k 0 ^^^ x) := by
  apply List.ext_getElem?
  intro i
  rw [List.getElem?_set, xorTo_len]
  have hg : l.getD k 0 = l[k] := by rw [List.getD_eq_getElem?_getD, List.getElem?_eq_getElem hk]; rfl
  unfold xorTo
  by_cases h : k = i
  · subst h
    rw [if_pos rfl, if_pos hk, List.getElem?_append_left (by simp; omega), List.getElem?_map, List.getElem?_take, if_pos (by omega), List.getElem?_eq_getElem hk, hg]
    rfl
  · rw [if_neg h]
    by_cases h2 : i < k
    · rw [List.getElem?_append_left (by simp; omega), List.getElem?_append_left (by simp; omega), List.getElem?_map, List.getElem?_map, List.getElem?_take, List.getElem?_take, if_pos (by omega), if_pos (by omega)]
    · rw [List.getElem?_append_right (by simp; omega), List.getElem?_append_right (by simp; omega), List.getElem?_drop, List.getElem?_drop]
      simp only [List.length_map, List.length_take]
      congr 1
      omega
theorem set_bytes (l : List UInt8) (k : Nat) (v : UInt8) : ((l.map u8v).toArray).setIfInBounds k (u8v v) = (((l.set k v).map u8v)).toArray := by
  apply Array.ext'
  simp [List.map_set]
theorem u8_xorc (y z : UInt8) : bits .xor .u8 (y.toNat : Int) (z.toNat : Int) = ((y ^^^ z).toNat : Int) := by
  rw [u8_xor_nat _ _ y.toNat_lt z.toNat_lt, ← UInt8.toNat_xor]
theorem Reads.src {w : World} {A : Option Addr} {n : Nat} {xs : List Value} (h : Reads w A n xs) : 0 < xs.length → ∃ x, A = some x ∧ ∀ j v, xs[j]? = some v → w.cell? (x.add j) = some v := by
  intro hn
  obtain ⟨b, o, e, _, hc⟩ := h.2 (by have := h.1; omega)
  exact ⟨_, e, fun j v hv => by rw [add_off]; exact hc j v hv⟩
theorem info_s8 : (Tryd.prog.info? 5).map (·.size) = some 1 := by kernel_rfl
set_option maxRecDepth 100000 in
theorem pad_c (w : World) (A : Option Addr) (n c : Nat) (key : List UInt8) (x : UInt8) (r : Reads w A n (key.map u8v)) (hn : n ≤ 274877906944) :
    Calls Tryd.prog 50 #[.slice A n c, u8v x] w fun e w' => ∃ g, e = .returned (.slice (some ⟨g, 0, none⟩) 64 64) ∧ w.heap.size ≤ g ∧ Blk w' g 5 ((padL key x).map u8v).toArray ∧ Below w.heap.size w w' := by
  have hkn : key.length = n := by simpa using r.len
  have R := Lib.hid r
  clear r
  by_cases h64 : 64 < n
  · have hko : keyOf key = sha key := by unfold keyOf; rw [if_pos (by omega)]
    have hsl := sha_len key
    obtain ⟨kb, hkb0⟩ : ∃ kb, kb = keyBlock key := ⟨_, rfl⟩
    have hkb1 : kb = sha key ++ List.replicate (64 - (sha key).length) 0 := by rw [hkb0]; unfold keyBlock; rw [hko]
    have hpl : padL key x = kb.map (fun c => c ^^^ x) := by rw [hkb0]; rfl
    have hkbl : kb.length = 64 := by rw [hkb0, keyBlock_len]
    rw [hpl]
    obtain ⟨d, hd⟩ : ∃ d, sha key = d := ⟨_, rfl⟩
    have hkb : kb = d ++ List.replicate (64 - d.length) 0 := by rw [← hd]; exact hkb1
    have hdl : d.length = 32 := by rw [← hd]; exact hsl
    have HSD := Lib.hid hd
    clear hko hpl hkb0 hkb1 hsl hd
    go_enter Tryd.func50, Tryd.ntmps50
    go_wp2_with fail
    refine (sum_d w A n c key d HSD.out hkn R.out hn).mono ?_
    rintro e w1 ⟨rfl, hb1⟩
    have hsz : ((d.map u8v).toArray).size = 32 := by simp [hdl]
    have HB1 := Lib.hid hb1
    clear hb1
    rename_i K hK
    refine hK _ _ ?_
    refine wpList_alloc_store rfl rfl 23 rfl 5 rfl (.tmp 5) (.tmp 12) rfl rfl (.agg zero32) info_z32 (d.map u8v).toArray (by rw [hsz]; exact info_b32) (by rw [hsz]; rfl) (bytes_one d) rfl rfl ?_
    have hD := Blk.new w1 23 (d.map u8v).toArray
    have hb4 := HB1.out.alloc HB1.out.size (.cells (d.map u8v).toArray 23)
    have hr4 : Reads (w1.alloc (.cells (d.map u8v).toArray 23)) (some ⟨w1.heap.size, 0, none⟩) 32 (d.map u8v) := by
      have h := hD.row; rw [List.length_map, hdl] at h; exact h
    generalize w1.alloc (.cells (d.map u8v).toArray 23) = w4 at hD hb4 hr4 ⊢
    have HBW := Lib.hid hb4
    have R4 := Lib.hid hr4
    clear hb4 hr4 hD hsz
    refine wpList_nil ?_
    rename_i K2 hK2
    show K2 _ _
    refine hK2 _ _ ?_
    go_upto_region 4 with fail
    have hkl : d.length = 32 := by simpa using R4.out.len
    have hmk : (Instr.makeSlice 22 (.int .i64 64) (.int .i64 64)).run Tryd.prog w4 = .ok (.slice (some ⟨w4.heap.size, 0, none⟩) 64 64) (w4.alloc (.cells (List.replicate 64 (u8v 0)).toArray 5)) := make_bytes 64 (by omega) w4
    obtain ⟨R0, hR0⟩ : ∃ R, R = List.replicate 64 (u8v 0) := ⟨_, rfl⟩
    rw [← hR0] at hmk
    obtain ⟨C0, hC0⟩ : ∃ C, C = d.map u8v := ⟨_, rfl⟩
    have hl0 : C0.length = 32 := by rw [hC0, List.length_map, hkl]
    have hr0 : R0.length = 64 := by rw [hR0, List.length_replicate]
    have hone : ∀ v ∈ C0, v.oneCell' = true := by rw [hC0]; exact u8v_one _
    have hsp : splice R0 0 C0 = kb.map u8v := by
      rw [hR0, hC0, hkb, List.map_append, List.map_replicate]
      unfold splice
      rw [List.take_zero, List.nil_append, Nat.zero_add, List.length_map, List.drop_replicate]
    have hsrc : Reads (w4.alloc (.cells R0.toArray 5)) (some ⟨w1.heap.size, 0, none⟩) 32 C0 := by rw [hC0]; exact R4.out.alloc _
    have K1 := Lib.hid (heap_alloc_new w4 (Obj.cells R0.toArray 5))
    have K2 : Hid (C0.length = Nat.min 32 64) := Lib.hid (by rw [hl0]; show 32 = min 32 64; omega)
    have K3 := Lib.hid hsrc
    have K4 := Lib.hid (show Below w.heap.size w (w4.alloc (.cells R0.toArray 5)) from HBW.out.alloc HBW.out.size _)
    have hfit : 0 + C0.length ≤ R0.length := by rw [hl0, hr0]; omega
    have hbs := HBW.out.size
    have HP := Lib.hid hsp
    have HO := Lib.hid hone
    have HR0 := Lib.hid hR0
    clear hR0 hC0 hone hsp hsrc hr0 hkl
    go_upto_region 6 with (with_reducible refine wpList_copy_splice rfl (.tmp 15) (.tmp 16) 22 22 rfl 5 Tryd.underlying22 info_s8 (some ⟨w4.heap.size, 0, none⟩) (some ⟨w1.heap.size, 0, none⟩) 64 64 32 32 rfl rfl w4.heap.size 0 R0 5 K1.out C0 K2.out (fun h => ⟨rfl, K3.out.src h⟩) hfit HO.out w.heap.size w K4.out hbs ?_; intro w2 HG2 hB2)
    have hg2 : Blk w2 w4.heap.size 5 ((xorTo kb x 0).map u8v).toArray := by
      have h := HG2.out
      rw [HP.out] at h
      rw [xorTo_zero]
      exact h
    have HG3 := Lib.hid hg2
    have HB3 := Lib.hid (show Below w.heap.size w w2 from hB2)
    clear hg2 HG2 hB2 K1 K2 K3 K4 HP HO HR0 hfit hl0 hmk
    go_wp2_with fail
    go_loopw [20] (fun i wr => ∃ k : Nat, k ≤ 64 ∧ i = .int .i64 k ∧ Blk wr w4.heap.size 5 ((xorTo kb x k).map u8v).toArray ∧ Below w.heap.size w wr) (fun i _ => 64 - (intOf i).toNat)
    case atStart => exact ⟨0, by omega, rfl, HG3.out, HB3.out⟩
    case round =>
      obtain ⟨k, hk, rfl, hblk, hbel⟩ := hrel
      have H := Lib.hid hblk
      have HL := Lib.hid hbel
      clear hblk hbel HG3 HB3
      by_cases hlt : k < 64
      · have hrow : Reads wr (some ⟨w4.heap.size, 0, none⟩) 64 ((xorTo kb x k).map u8v) := by
          have h := H.out.row
          rw [List.length_map, xorTo_len, hkbl] at h
          exact h
        have hc := hrow.cellD k hlt
        rw [Nat.zero_add, xorTo_at _ _ _ (by omega)] at hc
        have hf := H.out.frozen k
        have hs := xorTo_succ kb x k (by omega)
        have HS := Lib.hid hs
        clear hrow hs
        generalize kb.getD k 0 = y at *
        go_wp2_with fail
        go_roundw
        case rel =>
          refine ⟨k + 1, by omega, by go_num, ?_, HL.out.setCell hbs _⟩
          have h := H.out.set_ k (u8v (y ^^^ x))
          rw [set_bytes, ← HS.out] at h
          rw [u8_xorc]
          exact h
        case measure => simp [intOf]; omega
      · obtain rfl : k = 64 := by omega
        go_wp2_with fail
        go_ret
        refine ⟨w4.heap.size, rfl, hbs, ?_, HL.out⟩
        have h := H.out
        have e : xorTo kb x 64 = kb.map (fun c => c ^^^ x) := by rw [← hkbl]; exact xorTo_all _ _
        rw [e] at h
        exact h
  · have hko : keyOf key = key := by unfold keyOf; rw [if_neg (by omega)]
    obtain ⟨kb, hkb0⟩ : ∃ kb, kb = keyBlock key := ⟨_, rfl⟩
    have hkb : kb = key ++ List.replicate (64 - key.length) 0 := by rw [hkb0]; unfold keyBlock; rw [hko]
    have hpl : padL key x = kb.map (fun c => c ^^^ x) := by rw [hkb0]; rfl
    have hkbl : kb.length = 64 := by rw [hkb0, keyBlock_len]
    rw [hpl]
    have HBW := Lib.hid (Below.refl w.heap.size w)
    clear hko hpl hkb0
    go_enter Tryd.func50, Tryd.ntmps50
    go_upto_region 4 with fail
    have hkl : key.length = n := by simpa using R.out.len
    have hmk : (Instr.makeSlice 22 (.int .i64 64) (.int .i64 64)).run Tryd.prog w = .ok (.slice (some ⟨w.heap.size, 0, none⟩) 64 64) (w.alloc (.cells (List.replicate 64 (u8v 0)).toArray 5)) := make_bytes 64 (by omega) w
    obtain ⟨R0, hR0⟩ : ∃ R, R = List.replicate 64 (u8v 0) := ⟨_, rfl⟩
    rw [← hR0] at hmk
    obtain ⟨C0, hC0⟩ : ∃ C, C = key.map u8v := ⟨_, rfl⟩
    have hl0 : C0.length = n := by rw [hC0, List.length_map, hkl]
    have hr0 : R0.length = 64 := by rw [hR0, List.length_replicate]
    have hone : ∀ v ∈ C0, v.oneCell' = true := by rw [hC0]; exact u8v_one _
    have hsp : splice R0 0 C0 = kb.map u8v := by
      rw [hR0, hC0, hkb, List.map_append, List.map_replicate]
      unfold splice
      rw [List.take_zero, List.nil_append, Nat.zero_add, List.length_map, List.drop_replicate]
    have hsrc : Reads (w.alloc (.cells R0.toArray 5)) A n C0 := by rw [hC0]; exact R.out.alloc _
    have K1 := Lib.hid (heap_alloc_new w (Obj.cells R0.toArray 5))
    have K2 : Hid (C0.length = Nat.min n 64) := Lib.hid (by rw [hl0]; show n = min n 64; omega)
    have K3 := Lib.hid hsrc
    have K4 := Lib.hid (show Below w.heap.size w (w.alloc (.cells R0.toArray 5)) from HBW.out.alloc HBW.out.size _)
    have hfit : 0 + C0.length ≤ R0.length := by rw [hl0, hr0]; omega
    have hbs := HBW.out.size
    have HP := Lib.hid hsp
    have HO := Lib.hid hone
    have HR0 := Lib.hid hR0
    clear hR0 hC0 hone hsp hsrc hr0 hkl
    go_upto_region 6 with (with_reducible refine wpList_copy_splice rfl (.tmp 15) (.tmp 16) 22 22 rfl 5 Tryd.underlying22 info_s8 (some ⟨w.heap.size, 0, none⟩) A 64 64 n c rfl rfl w.heap.size 0 R0 5 K1.out C0 K2.out (fun h => ⟨rfl, K3.out.src h⟩) hfit HO.out w.heap.size w K4.out hbs ?_; intro w2 HG2 hB2)
    have hg2 : Blk w2 w.heap.size 5 ((xorTo kb x 0).map u8v).toArray := by
      have h := HG2.out
      rw [HP.out] at h
      rw [xorTo_zero]
      exact h
    have HG3 := Lib.hid hg2
    have HB3 := Lib.hid (show Below w.heap.size w w2 from hB2)
    clear hg2 HG2 hB2 K1 K2 K3 K4 HP HO HR0 hfit hl0 hmk
    go_wp2_with fail
    go_loopw [20] (fun i wr => ∃ k : Nat, k ≤ 64 ∧ i = .int .i64 k ∧ Blk wr w.heap.size 5 ((xorTo kb x k).map u8v).toArray ∧ Below w.heap.size w wr) (fun i _ => 64 - (intOf i).toNat)
    case atStart => exact ⟨0, by omega, rfl, HG3.out, HB3.out⟩
    case round =>
      obtain ⟨k, hk, rfl, hblk, hbel⟩ := hrel
      have H := Lib.hid hblk
      have HL := Lib.hid hbel
      clear hblk hbel HG3 HB3
      by_cases hlt : k < 64
      · have hrow : Reads wr (some ⟨w.heap.size, 0, none⟩) 64 ((xorTo kb x k).map u8v) := by
          have h := H.out.row
          rw [List.length_map, xorTo_len, hkbl] at h
          exact h
        have hc := hrow.cellD k hlt
        rw [Nat.zero_add, xorTo_at _ _ _ (by omega)] at hc
        have hf := H.out.frozen k
        have hs := xorTo_succ kb x k (by omega)
        have HS := Lib.hid hs
        clear hrow hs
        generalize kb.getD k 0 = y at *
        go_wp2_with fail
        go_roundw
        case rel =>
          refine ⟨k + 1, by omega, by go_num, ?_, HL.out.setCell hbs _⟩
          have h := H.out.set_ k (u8v (y ^^^ x))
          rw [set_bytes, ← HS.out] at h
          rw [u8_xorc]
          exact h
        case measure => simp [intOf]; omega
      · obtain rfl : k = 64 := by omega
        go_wp2_with fail
        go_ret
        refine ⟨w.heap.size, rfl, hbs, ?_, HL.out⟩
        have h := H.out
        have e : xorTo kb x 64 = kb.map (fun c => c ^^^ x) := by rw [← hkbl]; exact xorTo_all _ _
        rw [e] at h
        exact h
end Go.Proofs.YtocbahahienigaaDoor
