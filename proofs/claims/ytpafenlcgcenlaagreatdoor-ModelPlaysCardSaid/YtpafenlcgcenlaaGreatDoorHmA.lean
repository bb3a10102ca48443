/- hmac.Same. · hmac.pad. · hmac.Tag. -/
import Derived.Test.YtpafenlcgcenlaaGreatDoorShaC
namespace Go.Proofs.YtpafenlcgcenlaaGreatDoor
open Go Go.RowKit
set_option linter.unusedVariables false
set_option linter.unusedSimpArgs false
def sameTo (a b : List UInt8) : Nat → UInt8
  | 0 => 0
  | k + 1 => sameTo a b k ||| (a.getD k 0 ^^^ b.getD k 0)
theorem sameTo_zero (a b : List UInt8) (k : Nat) : sameTo a b k = 0 ↔ ∀ i, i < k → a.getD i 0 = b.getD i 0 := by
  induction k with
  | zero => simp [sameTo]
  | succ k ih =>
    rw [sameTo, UInt8.or_eq_zero_iff, UInt8.xor_eq_zero_iff, ih]
    constructor
    · rintro ⟨h1, h2⟩ i hi
      by_cases h : i = k
      · subst h; exact h2
      · exact h1 i (by omega)
    · intro h
      exact ⟨fun i hi => h i (by omega), h k (by omega)⟩
theorem sameTo_eq (a b : List UInt8) (h : a.length = b.length) : (sameTo a b a.length == 0) = (a == b) := by
  rw [Bool.eq_iff_iff, beq_iff_eq, beq_iff_eq, sameTo_zero]
  constructor
  · intro hh
    apply List.ext_getElem h
    intro i h1 h2
    have := hh i h1
    rw [List.getD_eq_getElem?_getD, List.getD_eq_getElem?_getD, List.getElem?_eq_getElem h1, List.getElem?_eq_getElem h2] at this
    exact this
  · rintro rfl i hi; rfl
theorem u8_orxor (x y z : UInt8) : bits .or .u8 (x.toNat : Int) (bits .xor .u8 (y.toNat : Int) (z.toNat : Int)) = ((x ||| (y ^^^ z)).toNat : Int) := by
  rw [u8_xor_nat _ _ y.toNat_lt z.toNat_lt, ← UInt8.toNat_xor, u8_or_nat _ _ x.toNat_lt (y ^^^ z).toNat_lt, ← UInt8.toNat_or]
theorem Reads.cellD {w : World} {b o n : Nat} {l : List UInt8} (h : Reads w (some ⟨b, o, none⟩) n (l.map u8v)) (k : Nat) (hk : k < n) : w.cell? ⟨b, o + k, none⟩ = some (u8v (l.getD k 0)) := by
  have hl : l.length = n := by have := h.1; simpa using this
  refine h.rangeAt k _ ?_
  rw [List.getElem?_map, List.getD_eq_getElem?_getD, List.getElem?_eq_getElem (by omega : k < l.length)]
  rfl
theorem same_c (w : World) (A B : Option Addr) (n m c d : Nat) (a b : List UInt8) (ra : Reads w A n (a.map u8v)) (rb : Reads w B m (b.map u8v)) (hn : n ≤ maxLen) (hm : m ≤ maxLen) :
    Calls Tryz.prog 125 #[.slice A n c, .slice B m d] w fun e w' => e = .returned (.bool (a == b)) ∧ ∃ q, w' = w.drewN q := by
  have hla : a.length = n := by simpa using ra.len
  have hlb : b.length = m := by simpa using rb.len
  have RA := Lib.hid ra
  have RB := Lib.hid rb
  unfold maxLen at hn hm
  clear ra rb
  by_cases hnm : n = m
  · subst hnm
    have hab := sameTo_eq a b (by omega)
    rw [hla] at hab
    rw [← hab]
    have HLA := Lib.hid hla
    clear hla hlb hab
    go_enter Tryz.func125, Tryz.ntmps125
    go_wp2_with fail
    go_loopw [5, 14] (fun x i wr => ∃ k q : Nat, k ≤ n ∧ x = .int .u8 ((sameTo a b k).toNat : Int) ∧ i = .int .i64 k ∧ wr = w.drewN q) (fun _ i _ => n - (intOf i).toNat)
    case atStart => exact ⟨0, 0, by omega, rfl, rfl, rfl⟩
    case round =>
      obtain ⟨k, q, hk, rfl, rfl, rfl⟩ := hrel
      by_cases hlt : k < n
      · obtain ⟨g1, o1, rfl, _, _⟩ := RA.out.2 (by omega)
        obtain ⟨g2, o2, rfl, _, _⟩ := RB.out.2 (by omega)
        have c1 := RA.out.cellD k hlt
        have c2 := RB.out.cellD k hlt
        have hs : sameTo a b (k + 1) = sameTo a b k ||| (a.getD k 0 ^^^ b.getD k 0) := rfl
        have HS := Lib.hid hs
        clear hs
        generalize a.getD k 0 = y at *
        generalize b.getD k 0 = z at *
        generalize sameTo a b k = x at *
        go_upto_region 7 with fail
        go_quiet (fail)
        go_wp2_with fail
        go_roundw
        case rel => exact ⟨k + 1, q + nq, by omega, by rw [HS.out, ← u8_orxor], by go_num, rfl⟩
        case measure => simp [intOf]; omega
      · obtain rfl : k = n := by omega
        have hf : (((sameTo a b k).toNat : Int) == 0) = (sameTo a b k == 0) := by
          rw [Bool.eq_iff_iff, beq_iff_eq, beq_iff_eq]
          constructor
          · intro h; exact UInt8.toNat_inj.1 (by have : (sameTo a b k).toNat = 0 := by omega
                                                 simpa using this)
          · intro h; rw [h]; rfl
        go_wp2_with fail
        go_ret
        exact ⟨rfl, q, rfl⟩
  · have hab : (a == b) = false := by
      rw [beq_eq_false_iff_ne]; rintro rfl; omega
    have hi : ¬ ((n : Int) = (m : Int)) := by omega
    rw [hab]
    clear hab hla hlb
    go_enter Tryz.func125, Tryz.ntmps125
    go_wp2_with fail
    go_ret
    exact ⟨rfl, 0, rfl⟩
end Go.Proofs.YtpafenlcgcenlaaGreatDoor
namespace Go.Proofs.YtpafenlcgcenlaaGreatDoor
open Go Go.RowKit
set_option linter.unusedVariables false
set_option linter.unusedSimpArgs false
/-- A key as a block of 64 bytes. -/
def keyOf (key : List UInt8) : List UInt8 := if 64 < key.length then sha key else key
def keyBlock (key : List UInt8) : List UInt8 := keyOf key ++ List.replicate (64 - (keyOf key).length) 0
def padL (key : List UInt8) (x : UInt8) : List UInt8 := (keyBlock key).map (fun c => c ^^^ x)
theorem keyOf_len (key : List UInt8) : (keyOf key).length ≤ 64 := by
  unfold keyOf; split
  · rw [sha_len]; omega
  · omega
theorem keyBlock_len (key : List UInt8) : (keyBlock key).length = 64 := by
  have := keyOf_len key
  unfold keyBlock; rw [List.length_append, List.length_replicate]; omega
theorem padL_len (key : List UInt8) (x : UInt8) : (padL key x).length = 64 := by unfold padL; rw [List.length_map, keyBlock_len]
def xorTo (l : List UInt8) (x : UInt8) (k : Nat) : List UInt8 := (l.take k).map (fun c => c ^^^ x) ++ l.drop k
theorem xorTo_len (l : List UInt8) (x : UInt8) (k : Nat) : (xorTo l x k).length = l.length := by
  unfold xorTo; rw [List.length_append, List.length_map, List.length_take, List.length_drop]; omega
theorem xorTo_zero (l : List UInt8) (x : UInt8) : xorTo l x 0 = l := by simp [xorTo]
theorem xorTo_all (l : List UInt8) (x : UInt8) : xorTo l x l.length = l.map (fun c => c ^^^ x) := by simp [xorTo]
theorem xorTo_at (l : List UInt8) (x : UInt8) (k : Nat) (hk : k < l.length) : (xorTo l x k).getD k 0 = l.getD k 0 := by
  unfold xorTo
  rw [List.getD_eq_getElem?_getD, List.getElem?_append_right (by simp; omega), List.getElem?_drop, List.length_map, List.length_take, List.getD_eq_getElem?_getD]
  congr 2
  omega
theorem xorTo_succ (l : List UInt8) (x : UInt8) (k : Nat) (hk : k < l.length) : xorTo l x (k + 1) = (xorTo l x k).set k (l.getD k 0 ^^^ x) := by
  apply List.ext_getElem?
  intro i
  rw [List.getElem?_set, xorTo_len]
  have hg : l.getD k 0 = l[k] := by rw [List.getD_eq_getElem?_getD, List.getElem?_eq_getElem hk]; rfl
  unfold xorTo
  by_cases h : k = i
  · subst h
    rw [if_pos rfl, if_pos hk, List.getElem?_append_left (by simp; omega), List.getElem?_map, List.getElem?_take, if_pos (by omega), List.getElem?_eq_getElem hk, hg]
    rfl
  · rw [if_neg h]
    by_cases h2 : i < k
    · rw [List.getElem?_append_left (by simp; omega), List.getElem?_append_left (by simp; omega), List.getElem?_map, List.getElem?_map, List.getElem?_take, List.getElem?_take, if_pos (by omega), if_pos (by omega)]
    · rw [List.getElem?_append_right (by simp; omega), List.getElem?_append_right (by simp; omega), List.getElem?_drop, List.getElem?_drop]
      simp only [List.length_map, List.length_take]
      congr 1
      omega
theorem set_bytes (l : List UInt8) (k : Nat) (v : UInt8) : ((l.map u8v).toArray).setIfInBounds k (u8v v) = (((l.set k v).map u8v)).toArray := by
  apply Array.ext'
  simp [List.map_set]
theorem u8_xorc (y z : UInt8) : bits .xor .u8 (y.toNat : Int) (z.toNat : Int) = ((y ^^^ z).toNat : Int) := by
  rw [u8_xor_nat _ _ y.toNat_lt z.toNat_lt, ← UInt8.toNat_xor]
theorem Reads.src {w : World} {A : Option Addr} {n : Nat} {xs : List Value} (h : Reads w A n xs) : 0 < xs.length → ∃ x, A = some x ∧ ∀ j v, xs[j]? = some v → w.cell? (x.add j) = some v := by
  intro hn
  obtain ⟨b, o, e, _, hc⟩ := h.2 (by have := h.1; omega)
  exact ⟨_, e, fun j v hv => by rw [add_off]; exact hc j v hv⟩
theorem info_s8 : (Tryz.prog.info? 5).map (·.size) = some 1 := by kernel_rfl
set_option maxRecDepth 100000 in
theorem pad_c (w : World) (A : Option Addr) (n c : Nat) (key : List UInt8) (x : UInt8) (r : Reads w A n (key.map u8v)) (hn : n ≤ 274877906944) :
    Calls Tryz.prog 160 #[.slice A n c, u8v x] w fun e w' => ∃ g, e = .returned (.slice (some ⟨g, 0, none⟩) 64 64) ∧ w.heap.size ≤ g ∧ Blk w' g 5 ((padL key x).map u8v).toArray ∧ Below w.heap.size w w' := by
  have hkn : key.length = n := by simpa using r.len
  have R := Lib.hid r
  clear r
  by_cases h64 : 64 < n
  · have hko : keyOf key = sha key := by unfold keyOf; rw [if_pos (by omega)]
    have hsl := sha_len key
    obtain ⟨kb, hkb0⟩ : ∃ kb, kb = keyBlock key := ⟨_, rfl⟩
    have hkb1 : kb = sha key ++ List.replicate (64 - (sha key).length) 0 := by rw [hkb0]; unfold keyBlock; rw [hko]
    have hpl : padL key x = kb.map (fun c => c ^^^ x) := by rw [hkb0]; rfl
    have hkbl : kb.length = 64 := by rw [hkb0, keyBlock_len]
    rw [hpl]
    obtain ⟨d, hd⟩ : ∃ d, sha key = d := ⟨_, rfl⟩
    have hkb : kb = d ++ List.replicate (64 - d.length) 0 := by rw [← hd]; exact hkb1
    have hdl : d.length = 32 := by rw [← hd]; exact hsl
    have HSD := Lib.hid hd
    clear hko hpl hkb0 hkb1 hsl hd
    go_enter Tryz.func160, Tryz.ntmps160
    go_wp2_with fail
    refine (sum_d w A n c key d HSD.out hkn R.out hn).mono ?_
    rintro e w1 ⟨rfl, hb1⟩
    have hsz : ((d.map u8v).toArray).size = 32 := by simp [hdl]
    have HB1 := Lib.hid hb1
    clear hb1
    rename_i K hK
    refine hK _ _ ?_
    refine wpList_alloc_store rfl rfl 39 rfl 5 rfl (.tmp 5) (.tmp 12) rfl rfl (.agg zero32) info_z32 (d.map u8v).toArray (by rw [hsz]; exact info_b32) (by rw [hsz]; rfl) (bytes_one d) rfl rfl ?_
    have hD := Blk.new w1 39 (d.map u8v).toArray
    have hb4 := HB1.out.alloc HB1.out.size (.cells (d.map u8v).toArray 39)
    have hr4 : Reads (w1.alloc (.cells (d.map u8v).toArray 39)) (some ⟨w1.heap.size, 0, none⟩) 32 (d.map u8v) := by
      have h := hD.row; rw [List.length_map, hdl] at h; exact h
    generalize w1.alloc (.cells (d.map u8v).toArray 39) = w4 at hD hb4 hr4 ⊢
    have HBW := Lib.hid hb4
    have R4 := Lib.hid hr4
    clear hb4 hr4 hD hsz
    refine wpList_nil ?_
    rename_i K2 hK2
    show K2 _ _
    refine hK2 _ _ ?_
    go_upto_region 4 with fail
    have hkl : d.length = 32 := by simpa using R4.out.len
    have hmk : (Instr.makeSlice 22 (.int .i64 64) (.int .i64 64)).run Tryz.prog w4 = .ok (.slice (some ⟨w4.heap.size, 0, none⟩) 64 64) (w4.alloc (.cells (List.replicate 64 (u8v 0)).toArray 5)) := make_bytes 64 (by omega) w4
    obtain ⟨R0, hR0⟩ : ∃ R, R = List.replicate 64 (u8v 0) := ⟨_, rfl⟩
    rw [← hR0] at hmk
    obtain ⟨C0, hC0⟩ : ∃ C, C = d.map u8v := ⟨_, rfl⟩
    have hl0 : C0.length = 32 := by rw [hC0, List.length_map, hkl]
    have hr0 : R0.length = 64 := by rw [hR0, List.length_replicate]
    have hone : ∀ v ∈ C0, v.oneCell' = true := by rw [hC0]; exact u8v_one _
    have hsp : splice R0 0 C0 = kb.map u8v := by
      rw [hR0, hC0, hkb, List.map_append, List.map_replicate]
      unfold splice
      rw [List.take_zero, List.nil_append, Nat.zero_add, List.length_map, List.drop_replicate]
    have hsrc : Reads (w4.alloc (.cells R0.toArray 5)) (some ⟨w1.heap.size, 0, none⟩) 32 C0 := by rw [hC0]; exact R4.out.alloc _
    have K1 := Lib.hid (heap_alloc_new w4 (Obj.cells R0.toArray 5))
    have K2 : Hid (C0.length = Nat.min 32 64) := Lib.hid (by rw [hl0]; show 32 = min 32 64; omega)
    have K3 := Lib.hid hsrc
    have K4 := Lib.hid (show Below w.heap.size w (w4.alloc (.cells R0.toArray 5)) from HBW.out.alloc HBW.out.size _)
    have hfit : 0 + C0.length ≤ R0.length := by rw [hl0, hr0]; omega
    have hbs := HBW.out.size
    have HP := Lib.hid hsp
    have HO := Lib.hid hone
    have HR0 := Lib.hid hR0
    clear hR0 hC0 hone hsp hsrc hr0 hkl
    go_upto_region 6 with (with_reducible refine wpList_copy_splice rfl (.tmp 15) (.tmp 16) 22 22 rfl 5 Tryz.underlying22 info_s8 (some ⟨w4.heap.size, 0, none⟩) (some ⟨w1.heap.size, 0, none⟩) 64 64 32 32 rfl rfl w4.heap.size 0 R0 5 K1.out C0 K2.out (fun h => ⟨rfl, K3.out.src h⟩) hfit HO.out w.heap.size w K4.out hbs ?_; intro w2 HG2 hB2)
    have hg2 : Blk w2 w4.heap.size 5 ((xorTo kb x 0).map u8v).toArray := by
      have h := HG2.out
      rw [HP.out] at h
      rw [xorTo_zero]
      exact h
    have HG3 := Lib.hid hg2
    have HB3 := Lib.hid (show Below w.heap.size w w2 from hB2)
    clear hg2 HG2 hB2 K1 K2 K3 K4 HP HO HR0 hfit hl0 hmk
    go_wp2_with fail
    go_loopw [20] (fun i wr => ∃ k : Nat, k ≤ 64 ∧ i = .int .i64 k ∧ Blk wr w4.heap.size 5 ((xorTo kb x k).map u8v).toArray ∧ Below w.heap.size w wr) (fun i _ => 64 - (intOf i).toNat)
    case atStart => exact ⟨0, by omega, rfl, HG3.out, HB3.out⟩
    case round =>
      obtain ⟨k, hk, rfl, hblk, hbel⟩ := hrel
      have H := Lib.hid hblk
      have HL := Lib.hid hbel
      clear hblk hbel HG3 HB3
      by_cases hlt : k < 64
      · have hrow : Reads wr (some ⟨w4.heap.size, 0, none⟩) 64 ((xorTo kb x k).map u8v) := by
          have h := H.out.row
          rw [List.length_map, xorTo_len, hkbl] at h
          exact h
        have hc := hrow.cellD k hlt
        rw [Nat.zero_add, xorTo_at _ _ _ (by omega)] at hc
        have hf := H.out.frozen k
        have hs := xorTo_succ kb x k (by omega)
        have HS := Lib.hid hs
        clear hrow hs
        generalize kb.getD k 0 = y at *
        go_wp2_with fail
        go_roundw
        case rel =>
          refine ⟨k + 1, by omega, by go_num, ?_, HL.out.setCell hbs _⟩
          have h := H.out.set_ k (u8v (y ^^^ x))
          rw [set_bytes, ← HS.out] at h
          rw [u8_xorc]
          exact h
        case measure => simp [intOf]; omega
      · obtain rfl : k = 64 := by omega
        go_wp2_with fail
        go_ret
        refine ⟨w4.heap.size, rfl, hbs, ?_, HL.out⟩
        have h := H.out
        have e : xorTo kb x 64 = kb.map (fun c => c ^^^ x) := by rw [← hkbl]; exact xorTo_all _ _
        rw [e] at h
        exact h
  · have hko : keyOf key = key := by unfold keyOf; rw [if_neg (by omega)]
    obtain ⟨kb, hkb0⟩ : ∃ kb, kb = keyBlock key := ⟨_, rfl⟩
    have hkb : kb = key ++ List.replicate (64 - key.length) 0 := by rw [hkb0]; unfold keyBlock; rw [hko]
    have hpl : padL key x = kb.map (fun c => c ^^^ x) := by rw [hkb0]; rfl
    have hkbl : kb.length = 64 := by rw [hkb0, keyBlock_len]
    rw [hpl]
    have HBW := Lib.hid (Below.refl w.heap.size w)
    clear hko hpl hkb0
    go_enter Tryz.func160, Tryz.ntmps160
    go_upto_region 4 with fail
    have hkl : key.length = n := by simpa using R.out.len
    have hmk : (Instr.makeSlice 22 (.int .i64 64) (.int .i64 64)).run Tryz.prog w = .ok (.slice (some ⟨w.heap.size, 0, none⟩) 64 64) (w.alloc (.cells (List.replicate 64 (u8v 0)).toArray 5)) := make_bytes 64 (by omega) w
    obtain ⟨R0, hR0⟩ : ∃ R, R = List.replicate 64 (u8v 0) := ⟨_, rfl⟩
    rw [← hR0] at hmk
    obtain ⟨C0, hC0⟩ : ∃ C, C = key.map u8v := ⟨_, rfl⟩
    have hl0 : C0.length = n := by rw [hC0, List.length_map, hkl]
    have hr0 : R0.length = 64 := by rw [hR0, List.length_replicate]
    have hone : ∀ v ∈ C0, v.oneCell' = true := by rw [hC0]; exact u8v_one _
    have hsp : splice R0 0 C0 = kb.map u8v := by
      rw [hR0, hC0, hkb, List.map_append, List.map_replicate]
      unfold splice
      rw [List.take_zero, List.nil_append, Nat.zero_add, List.length_map, List.drop_replicate]
    have hsrc : Reads (w.alloc (.cells R0.toArray 5)) A n C0 := by rw [hC0]; exact R.out.alloc _
    have K1 := Lib.hid (heap_alloc_new w (Obj.cells R0.toArray 5))
    have K2 : Hid (C0.length = Nat.min n 64) := Lib.hid (by rw [hl0]; show n = min n 64; omega)
    have K3 := Lib.hid hsrc
    have K4 := Lib.hid (show Below w.heap.size w (w.alloc (.cells R0.toArray 5)) from HBW.out.alloc HBW.out.size _)
    have hfit : 0 + C0.length ≤ R0.length := by rw [hl0, hr0]; omega
    have hbs := HBW.out.size
    have HP := Lib.hid hsp
    have HO := Lib.hid hone
    have HR0 := Lib.hid hR0
    clear hR0 hC0 hone hsp hsrc hr0 hkl
    go_upto_region 6 with (with_reducible refine wpList_copy_splice rfl (.tmp 15) (.tmp 16) 22 22 rfl 5 Tryz.underlying22 info_s8 (some ⟨w.heap.size, 0, none⟩) A 64 64 n c rfl rfl w.heap.size 0 R0 5 K1.out C0 K2.out (fun h => ⟨rfl, K3.out.src h⟩) hfit HO.out w.heap.size w K4.out hbs ?_; intro w2 HG2 hB2)
    have hg2 : Blk w2 w.heap.size 5 ((xorTo kb x 0).map u8v).toArray := by
      have h := HG2.out
      rw [HP.out] at h
      rw [xorTo_zero]
      exact h
    have HG3 := Lib.hid hg2
    have HB3 := Lib.hid (show Below w.heap.size w w2 from hB2)
    clear hg2 HG2 hB2 K1 K2 K3 K4 HP HO HR0 hfit hl0 hmk
    go_wp2_with fail
    go_loopw [20] (fun i wr => ∃ k : Nat, k ≤ 64 ∧ i = .int .i64 k ∧ Blk wr w.heap.size 5 ((xorTo kb x k).map u8v).toArray ∧ Below w.heap.size w wr) (fun i _ => 64 - (intOf i).toNat)
    case atStart => exact ⟨0, by omega, rfl, HG3.out, HB3.out⟩
    case round =>
      obtain ⟨k, hk, rfl, hblk, hbel⟩ := hrel
      have H := Lib.hid hblk
      have HL := Lib.hid hbel
      clear hblk hbel HG3 HB3
      by_cases hlt : k < 64
      · have hrow : Reads wr (some ⟨w.heap.size, 0, none⟩) 64 ((xorTo kb x k).map u8v) := by
          have h := H.out.row
          rw [List.length_map, xorTo_len, hkbl] at h
          exact h
        have hc := hrow.cellD k hlt
        rw [Nat.zero_add, xorTo_at _ _ _ (by omega)] at hc
        have hf := H.out.frozen k
        have hs := xorTo_succ kb x k (by omega)
        have HS := Lib.hid hs
        clear hrow hs
        generalize kb.getD k 0 = y at *
        go_wp2_with fail
        go_roundw
        case rel =>
          refine ⟨k + 1, by omega, by go_num, ?_, HL.out.setCell hbs _⟩
          have h := H.out.set_ k (u8v (y ^^^ x))
          rw [set_bytes, ← HS.out] at h
          rw [u8_xorc]
          exact h
        case measure => simp [intOf]; omega
      · obtain rfl : k = 64 := by omega
        go_wp2_with fail
        go_ret
        refine ⟨w.heap.size, rfl, hbs, ?_, HL.out⟩
        have h := H.out
        have e : xorTo kb x 64 = kb.map (fun c => c ^^^ x) := by rw [← hkbl]; exact xorTo_all _ _
        rw [e] at h
        exact h
end Go.Proofs.YtpafenlcgcenlaaGreatDoor
namespace Go.Proofs.YtpafenlcgcenlaaGreatDoor
open Go Go.RowKit
set_option linter.unusedVariables false
set_option linter.unusedSimpArgs false
def tagL (key b : List UInt8) : List UInt8 := sha (padL key 92 ++ sha (padL key 54 ++ b))
theorem tagL_len (key b : List UInt8) : (tagL key b).length = 32 := sha_len _
structure TagI (w wi : World) (s1 s2 : Nat) (l1 l2 : List UInt8) (A : Option Addr) (n : Nat) (key : List UInt8) (B : Option Addr) (m : Nat) (b : List UInt8) : Prop where
  had1 : Had wi s1 l1
  had2 : Had wi s2 l2
  blk : Blk wi w.heap.size 39 zero32
  bel : Below w.heap.size w wi
  rk : Reads wi A n (key.map u8v)
  rb : Reads wi B m (b.map u8v)
  ak : 0 < n → ∀ a, A = some a → a.block < w.heap.size
  ab : 0 < m → ∀ a, B = some a → a.block < w.heap.size
  lt1 : w.heap.size < s1
  lt2 : w.heap.size < s2
  ne : s1 ≠ s2
section
variable {w wi wj : World} {s1 s2 : Nat} {l1 l2 : List UInt8} {A : Option Addr} {n : Nat} {key : List UInt8} {B : Option Addr} {m : Nat} {b : List UInt8}
theorem TagI.below (h : TagI w wi s1 s2 l1 l2 A n key B m b) (hb : Below wi.heap.size wi wj) : TagI w wj s1 s2 l1 l2 A n key B m b :=
  ⟨h.had1.below hb (Nat.le_refl _), h.had2.below hb (Nat.le_refl _), h.blk.below hb h.blk.lt, h.bel.trans (hb.mono h.bel.size), h.rk.below hb, h.rb.below hb, h.ak, h.ab, h.lt1, h.lt2, h.ne⟩
theorem TagI.one (h : TagI w wi s1 s2 l1 l2 A n key B m b) {l : List UInt8} (ho : Only [s1] wi wj) (hh : Had wj s1 l) : TagI w wj s1 s2 l l2 A n key B m b :=
  ⟨hh, h.had2.apart ho (Ne.symm h.ne) _ h.had1, h.blk.only ho (by have := h.lt1; simp; omega), ho.below h.bel h.bel.size (by have := h.lt1; intro k hk; simp at hk; omega),
    h.rk.only0 ho (by intro h0 a ha; have := h.ak h0 a ha; have := h.lt1; simp; omega), h.rb.only0 ho (by intro h0 a ha; have := h.ab h0 a ha; have := h.lt1; simp; omega), h.ak, h.ab, h.lt1, h.lt2, h.ne⟩
theorem TagI.two (h : TagI w wi s1 s2 l1 l2 A n key B m b) {l : List UInt8} (ho : Only [s2] wi wj) (hh : Had wj s2 l) : TagI w wj s1 s2 l1 l A n key B m b :=
  ⟨h.had1.apart ho h.ne _ h.had2, hh, h.blk.only ho (by have := h.lt2; simp; omega), ho.below h.bel h.bel.size (by have := h.lt2; intro k hk; simp at hk; omega),
    h.rk.only0 ho (by intro h0 a ha; have := h.ak h0 a ha; have := h.lt2; simp; omega), h.rb.only0 ho (by intro h0 a ha; have := h.ab h0 a ha; have := h.lt2; simp; omega), h.ak, h.ab, h.lt1, h.lt2, h.ne⟩
end
set_option maxRecDepth 100000 in
theorem tag_c (w : World) (A B : Option Addr) (n c m c2 : Nat) (key b : List UInt8) (rk : Reads w A n (key.map u8v)) (rb : Reads w B m (b.map u8v)) (hn : n ≤ 274877906944) (hm : m ≤ 274877906944) :
    Calls Tryz.prog 124 #[.slice A n c, .slice B m c2] w fun e w' => e = .returned (.agg ((tagL key b).map u8v).toArray) ∧ Below w.heap.size w w' := by
  have hbl : b.length = m := by simpa using rb.len
  have ak := rk.lt
  have ab := rb.lt
  have RK := Lib.hid rk
  have RB := Lib.hid rb
  clear rk rb
  go_enter Tryz.func124, Tryz.ntmps124
  go_wp2_with fail
  have hZ : Blk (w.alloc (.cells zero32 39)) w.heap.size 39 zero32 := Blk.new w _ _
  have hb1 : Below w.heap.size w (w.alloc (.cells zero32 39)) := (Below.refl _ _).alloc (Nat.le_refl _) _
  have hs1 : (w.alloc (.cells zero32 39)).heap.size = w.heap.size + 1 := by simp
  generalize w.alloc (.cells zero32 39) = w1 at hZ hb1 hs1 ⊢
  refine (new_had w1).mono ?_
  rintro e w2 ⟨s1, rfl, hh1, hsb1, hb2⟩
  have hh1lt := StreamAt.lt hh1
  go_wp2_with fail
  refine (new_had w2).mono ?_
  rintro e w3 ⟨s2, rfl, hh2, hsb2, hb3⟩
  have I3 : TagI w w3 s1 s2 [] [] A n key B m b := by
    have b12 := hb2.size
    have hb12 := hb1.trans (hb2.mono (by omega))
    have hb13 := hb12.trans (hb3.mono hb12.size)
    exact ⟨hh1.below hb3 (Nat.le_refl _), hh2, (hZ.below hb2 (by omega)).below hb3 (hZ.below hb2 (by omega)).lt, hb13, RK.out.below hb13, RB.out.below hb13, ak, ab, by omega, by omega, by omega⟩
  have H3 := Lib.hid I3
  clear I3 hh1 hh2 hZ hb1 hb2 hb3 hsb1 hsb2 hs1 hh1lt RK RB
  go_wp2_with fail
  refine (pad_c w3 A n c key 54 H3.out.rk hn).mono ?_
  rintro e w4 ⟨g4, rfl, hg4, hP4, hb4⟩
  have H4 := Lib.hid (H3.out.below hb4)
  have hs14 := StreamAt.lt H3.out.had1
  have HP4 := Lib.hid (hP4.bytes (padL_len key 54))
  clear H3 hP4 hb4
  go_wp2_with fail
  refine (write_had w4 s1 [] _ 64 64 (padL key 54) (padL_len _ _) H4.out.had1 HP4.out (fun _ a ha => by cases ha; simp; omega) (by omega)).mono ?_
  rintro e w5 ⟨rfl, hh5, ho5⟩
  rw [List.nil_append] at hh5
  have H5 := Lib.hid (H4.out.one ho5 hh5)
  clear H4 HP4 ho5 hh5 hg4 hs14
  go_wp2_with fail
  refine (write_had w5 s1 _ B m c2 b hbl H5.out.had1 H5.out.rb (fun h0 a ha => by have := ab h0 a ha; have := H5.out.lt1; omega) hm).mono ?_
  rintro e w6 ⟨rfl, hh6, ho6⟩
  have H6 := Lib.hid (H5.out.one ho6 hh6)
  clear H5 ho6 hh6
  go_wp2_with fail
  refine (sum_had w6 s1 _ H6.out.had1).mono ?_
  rintro e w7 ⟨rfl, hb7⟩
  have H7 := Lib.hid (H6.out.below hb7)
  obtain ⟨d, hd⟩ : ∃ d, sha (padL key 54 ++ b) = d := ⟨_, rfl⟩
  have hdl : d.length = 32 := by rw [← hd]; exact sha_len _
  have htl : tagL key b = sha (padL key 92 ++ d) := by rw [← hd]; rfl
  rw [hd]
  have HTL := Lib.hid htl
  have hsz : ((d.map u8v).toArray).size = 32 := by simp [hdl]
  clear H6 hb7 hd htl
  rename_i K hK
  refine hK _ _ ?_
  refine wpList_alloc_store rfl rfl 39 rfl 7 rfl (.tmp 7) (.tmp 18) rfl rfl (.agg zero32) info_z32 (d.map u8v).toArray (by rw [hsz]; exact info_b32) (by rw [hsz]; rfl) (bytes_one d) rfl rfl ?_
  have hD := (Blk.new w7 39 (d.map u8v).toArray)
  have hb8 : Below w7.heap.size w7 (w7.alloc (.cells (d.map u8v).toArray 39)) := (Below.refl _ _).alloc (Nat.le_refl _) _
  generalize w7.alloc (.cells (d.map u8v).toArray 39) = w8 at hD hb8 ⊢
  have H8 := Lib.hid (H7.out.below hb8)
  have HD := Lib.hid hD
  have hdlt := StreamAt.lt H7.out.had2
  clear H7 hb8 hD hsz
  refine wpList_nil ?_
  rename_i K2 hK2
  show K2 _ _
  refine hK2 _ _ ?_
  go_wp2_with fail
  refine (pad_c w8 A n c key 92 H8.out.rk hn).mono ?_
  rintro e w9 ⟨g9, rfl, hg9, hP9, hb9⟩
  have H9 := Lib.hid (H8.out.below hb9)
  have hs19 := StreamAt.lt H8.out.had2
  have HP9 := Lib.hid (hP9.bytes (padL_len key 92))
  have HD9 := Lib.hid (HD.out.below hb9 HD.out.lt)
  clear H8 hP9 hb9 HD
  go_wp2_with fail
  refine (write_had w9 s2 [] _ 64 64 (padL key 92) (padL_len _ _) H9.out.had2 HP9.out (fun _ a ha => by cases ha; simp; omega) (by omega)).mono ?_
  rintro e w10 ⟨rfl, hh10, ho10⟩
  rw [List.nil_append] at hh10
  have hne7 : w7.heap.size ≠ s2 := by omega
  have H10 := Lib.hid (H9.out.two ho10 hh10)
  have HD10 := Lib.hid (HD9.out.only ho10 (by simp; exact hne7))
  clear H9 HP9 ho10 hh10 hg9 hs19 HD9
  go_wp2_with fail
  refine (write_had w10 s2 _ (some ⟨w7.heap.size, 0, none⟩) 32 32 d hdl H10.out.had2 (HD10.out.bytes hdl) (fun _ a ha => by cases ha; exact hne7) (by omega)).mono ?_
  rintro e w11 ⟨rfl, hh11, ho11⟩
  have H11 := Lib.hid (H10.out.two ho11 hh11)
  clear H10 HD10 ho11 hh11
  go_wp2_with fail
  refine (sum_had w11 s2 _ H11.out.had2).mono ?_
  rintro e w12 ⟨rfl, hb12⟩
  have H12 := Lib.hid (H11.out.below hb12)
  rw [← HTL.out]
  obtain ⟨t, ht⟩ : ∃ t, tagL key b = t := ⟨_, rfl⟩
  have htl : t.length = 32 := by rw [← ht]; exact tagL_len _ _
  rw [ht]
  have HT := Lib.hid ht
  clear ht H11 hb12
  have hcs : ((t.map u8v).toArray).size = 32 := by simp [htl]
  rename_i K hK
  refine hK _ _ ?_
  refine wpList_store_row rfl 39 (.tmp 4) (.tmp 27) rfl w.heap.size (t.map u8v).toArray rfl rfl 39 zero32 H12.out.blk (by rw [hcs]; exact info_b32) (by rw [hcs]; rfl) (bytes_one t) ?_
  refine wpList_nil ?_
  rename_i K2 hK2
  show K2 _ _
  refine hK2 _ _ ?_
  go_wp2_with fail
  refine bodyPost_ret (results_cell_row rfl _ _ w.heap.size 39 (t.map u8v).toArray (0, 0) _ rfl (H12.out.blk.setRow _) Tryz.underlying39 rfl (by rw [hcs]; exact info_b32)) rfl ?_
  exact ⟨by rw [HT.out], below_setRow H12.out.bel (Nat.le_refl _) _⟩
end Go.Proofs.YtpafenlcgcenlaaGreatDoor
