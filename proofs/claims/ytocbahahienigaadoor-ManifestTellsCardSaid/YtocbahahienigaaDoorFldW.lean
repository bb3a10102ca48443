/- field.Writer: Num, Raw, Bytes. -/
import Derived.Test.YtocbahahienigaaDoorDual
import Derived.Deep.RegionLaw
import Derived.Laws.Shifts
import Derived.Laws.CopyOwn
namespace Go.Proofs.YtocbahahienigaaDoor
open Go.RowKit
set_option linter.unusedVariables false
set_option linter.unusedSimpArgs false
/-- The lowest bytes of a number, the highest first. -/
def be (N size : Nat) : List UInt8 := (List.range size).map fun j => UInt8.ofNat (N / 256 ^ (size - 1 - j))
theorem be_len (N size : Nat) : (be N size).length = size := by simp [be]
theorem be_step (N size k : Nat) (hk : k < size) : (be N size).take (k + 1) = (be N size).take k ++ [UInt8.ofNat (N / 256 ^ (size - 1 - k))] := by
  rw [List.take_add_one]
  congr 1
  unfold be
  rw [List.getElem?_map, List.getElem?_range hk]
  rfl
theorem be_val (N j : Nat) : IntKind.u8.wrap ((N : Int) / 2 ^ (8 * j)) = (((UInt8.ofNat (N / 256 ^ j)).toNat : Nat) : Int) := by
  have e : ((N : Int) / 2 ^ (8 * j)) = ((N / 256 ^ j : Nat) : Int) := by
    rw [Int.natCast_ediv, Int.pow_mul]
    norm_cast
  rw [e, UInt8.toNat_ofNat']
  simp [IntKind.wrap, IntKind.bits, IntKind.signed]
/-- A writer that has written l. -/
def WrAt (base : Nat) (w : World) (p : Nat) (l : List UInt8) : Prop :=
  ∃ A c, Blk w p 56 #[.slice A l.length c] ∧ w.ownsRow base 5 1 (.slice A l.length c) l.length (l.map u8v)
theorem WrAt.lt {base : Nat} {w : World} {p : Nat} {l : List UInt8} (h : WrAt base w p l) : p < w.heap.size := by obtain ⟨A, c, hb, -⟩ := h; exact hb.lt
theorem WrAt.below {base : Nat} {w w' : World} {p : Nat} {l : List UInt8} (h : WrAt base w p l) (hb : Below w.heap.size w w') : WrAt base w' p l := by
  obtain ⟨A, c, h1, h2⟩ := h
  exact ⟨A, c, h1.below hb h1.lt, own_only h2 (Only.of_below (S := []) hb) (by simp)⟩
theorem wr_put {base : Nat} {w : World} {p n c c2 : Nat} {A A2 : Option Addr} {xs l : List UInt8} {x : UInt8} (e : l = xs ++ [x]) (hn : xs.length = n) (hb : Blk w p 56 #[.slice A n c])
    (ho : w.ownsRow base 5 1 (.slice A2 (n + 1) c2) (n + 1) (xs.map u8v ++ [x].map u8v)) : WrAt base (w.setCell ⟨p, 0, none⟩ (.slice A2 (n + 1) c2)) p l := by
  subst e
  have hne := own_blk_ne ho hb (by decide)
  have hl : (xs ++ [x]).length = n + 1 := by simp [hn]
  refine ⟨A2, c2, ?_, ?_⟩
  · rw [hl]; exact hb.set_ 0 _
  · rw [hl, List.map_append]
    refine own_only ho (S := [p]) ((Only.refl _ _).setCell (.inl (by simp)) _) fun k hk => ?_
    simp
    rintro rfl
    exact hne hk
set_option maxRecDepth 100000 in
theorem wnum_c (base : Nat) (w : World) (p : Nat) (l : List UInt8) (n : Int) (N : Nat) (size : Nat) (hN : IntKind.u64.wrap n = (N : Int)) (hs : size ≤ 8) (hs1 : 1 ≤ size) (hp : base ≤ p) (hl : l.length ≤ 100000) (h : WrAt base w p l) :
    Calls Tryd.prog 31 #[ptr p, .int .i64 n, .int .i64 (size : Int)] w fun e w' => e = .returned (.tuple #[]) ∧ WrAt base w' p (l ++ be N size) ∧ Below base w w' := by
  obtain ⟨i0, hi, hz0, hz1, hz2⟩ := info_parts info_u8
  have HI := Lib.hid hi
  have HZ0 := Lib.hid hz0
  have HZ1 := Lib.hid hz1
  have HZ2 := Lib.hid hz2
  have H := Lib.hid h
  obtain ⟨M, hM⟩ : ∃ M : Int, (if (8 : Int) < (size : Int) then 8 else (size : Int)) = M := ⟨_, rfl⟩
  have hM2 : M = size := by rw [← hM, if_neg (by omega)]
  have hlt0 := h.lt
  clear hi hz0 hz1 hz2 h
  have hs2 : (0 : Int) < (size : Int) := by omega
  go_enter Tryd.func31, Tryd.ntmps31
  go_wp2_with fail

  go_loopw [6] (fun i wr => ∃ (k : Nat) (v : Int), k ≤ size ∧ v = (size : Int) - 1 - k ∧ i = .int .i64 v ∧ WrAt base wr p (l ++ (be N size).take k) ∧ Below base w wr) (fun i _ => (intOf i + 1).toNat)
  case atStart => exact ⟨0, (size : Int) - 1, by omega, by omega, rfl, by simpa using H.out, Below.refl _ _⟩
  case round =>
    clear H
    obtain ⟨k, v, hk, hv, rfl, hwr, hb⟩ := hrel
    obtain ⟨A, c, hblk, hown⟩ := hwr
    have hlen : (l ++ (be N size).take k).length = l.length + k := by rw [List.length_append, List.length_take, be_len]; omega
    rw [hlen] at hblk hown
    have HBK := Lib.hid hblk
    have HO := Lib.hid hown
    have HB := Lib.hid hb
    have hbs := hb.size
    clear hb hlen
    by_cases hlt : k < size
    · have hc : wr.cell? ⟨p, 0, none⟩ = some (.slice A (l.length + k) c) := by rw [hblk.cell]; rfl
      have hf := hblk.frozen 0
      obtain ⟨j, rfl⟩ : ∃ j : Nat, v = j := ⟨v.toNat, by omega⟩
      have HJ := Lib.hid (show j = size - 1 - k by omega)
      have hj8 : j < 8 := by omega
      have e1 : IntKind.i64.wrap (8 * (j : Int)) = 8 * j := IntWalk.i64_in _ (by omega)
      have e2 : (0 : Int) ≤ 8 * (j : Int) := by omega
      clear hblk hown hv
      obtain ⟨x, hx⟩ : ∃ x, UInt8.ofNat (N / 256 ^ j) = x := ⟨_, rfl⟩
      have hval : IntKind.u8.wrap ((N : Int) / 2 ^ (8 * (j : Int)).toNat) = ((x.toNat : Nat) : Int) := by
        rw [← hx, show (8 * (j : Int)).toNat = 8 * j by omega]
        exact be_val N j
      have HX := Lib.hid hx
      have hrd : ∀ W : World, Reads (W.alloc (.cells #[.int .u8 (IntKind.u8.wrap ((N : Int) / 2 ^ (8 * (j : Int)).toNat))] 5)) (some ⟨W.heap.size, 0, none⟩) 1 (([x] : List UInt8).map u8v) := fun W => by
        rw [hval]
        exact (Blk.new W 5 #[u8v x]).reads 0 (by simp)
      have HRD := Lib.hid hrd
      clear hx hval hrd
      have hne := own_blk_ne HO.out HBK.out (by decide)
      have hl1 := HO.out.lt
      have hlp := HBK.out.lt
      go_upto_region 4 with fail
      go_region_law (first
        | (refine step_append_any _ (by rfl) (.tmp 20) (.tmp 27) 22 (by rfl) base 5 i0 (.int .u8 0) 1 Tryd.underlying22 HI.out HZ0.out HZ1.out HZ2.out (by rfl) (.slice A (l.length + k) c) (l.length + k) ((l ++ (be N size).take k).map u8v) (by rfl) (own_only HO.out (Only.of_below (S := []) (by first | exact ((Below.refl _ wr).alloc (Nat.le_refl _) _).drew | exact ((Below.refl _ wr).drew.alloc (Nat.le_refl _) _))) (by simp)) (some ⟨wr.heap.size, 0, none⟩) 1 1 (([x] : List UInt8).map u8v) (by rfl) (by first | exact (HRD.out wr).drew | exact HRD.out wr.drew) (u8v_one _) (by unfold maxLen; omega) (by omega) (by have := hlp; simp; omega) ?_; intro A2 c2 w2 hown2 hgrow2 hat2
           have HBK2 := Lib.hid (Blk.grown (by first | exact (HBK.out.alloc _).drew | exact HBK.out.drew.alloc _) hgrow2 (Ne.symm hne))
           have hc2 : w2.cell? ⟨p, 0, none⟩ = some (.slice A (l.length + k) c) := by rw [HBK2.out.cell]; rfl
           have hf2 := HBK2.out.frozen 0
           have HO2 := Lib.hid hown2
           have HB2 := Lib.hid (Below.grown (by first | exact (HB.out.alloc (B := base) (by omega) _).drew | exact HB.out.drew.alloc (B := base) (by simp; omega) _) hgrow2 (by simp; omega) (fun g hg => (hl1 g hg).1))
           clear hown2 hgrow2 hat2))
      all_goals
        go_wp2_with fail
        go_roundw
        case rel => exact ⟨k + 1, (j : Int) - 1, by omega, by have := HJ.out; omega, by go_num, wr_put (by rw [be_step N size k hlt, ← List.append_assoc, ← HJ.out, HX.out]) (by simp [be_len]; omega) HBK2.out HO2.out, HB2.out.setCell hp _⟩
        case measure => simp [intOf] <;> omega
    · obtain rfl : k = size := by omega
      have hv2 : v = -1 := by omega
      subst hv2
      go_wp2_with fail
      go_end0
      have e : (be N k).take k = be N k := List.take_of_length_le (by rw [be_len]; exact Nat.le_refl _)
      have h2 := HO.out
      rw [e] at h2
      refine ⟨rfl, ⟨A, c, ?_, ?_⟩, HB.out⟩
      · rw [List.length_append, be_len]; exact HBK.out
      · rw [List.length_append, be_len]; exact h2
theorem Reads.srcf {w : World} {A : Option Addr} {n : Nat} {xs : List Value} (h : Reads w A n xs) : 0 < xs.length → ∃ x, A = some x ∧ ∀ j v, xs[j]? = some v → w.cell? (x.add j) = some v := by
  intro hn
  obtain ⟨b, o, e, _, hc⟩ := h.2 (by have := h.1; omega)
  exact ⟨_, e, fun j v hv => by rw [add_off]; exact hc j v hv⟩
theorem info_s8f : (Tryd.prog.info? 5).map (·.size) = some 1 := by kernel_rfl
/-- The first n of some bytes, then bytes 0. -/
def padTo (l : List UInt8) (n : Nat) : List UInt8 := l.take n ++ List.replicate (n - l.length) 0
theorem padTo_len (l : List UInt8) (n : Nat) : (padTo l n).length = n := by simp [padTo]; omega
set_option maxRecDepth 100000 in
theorem wraw_c (base : Nat) (w : World) (p : Nat) (l : List UInt8) (A : Option Addr) (n c : Nat) (b : List UInt8) (size : Nat) (hr : Reads w A n (b.map u8v)) (hn : n ≤ 100000) (hs : size ≤ 1000) (hs1 : 1 ≤ size) (hp : base ≤ p) (hl : l.length ≤ 100000) (h : WrAt base w p l) :
    Calls Tryd.prog 30 #[ptr p, .slice A n c, .int .i64 (size : Int)] w fun e w' => e = .returned (.tuple #[]) ∧ WrAt base w' p (l ++ padTo b size) ∧ Below base w w' := by
  obtain ⟨i0, hi, hz0, hz1, hz2⟩ := info_parts info_u8
  have hs2 : (0 : Int) < (size : Int) := by omega
  have hbl : b.length = n := by simpa using hr.len
  have HI := Lib.hid hi
  have HZ0 := Lib.hid hz0
  have HZ1 := Lib.hid hz1
  have HZ2 := Lib.hid hz2
  obtain ⟨A0, c0, hblk, hown⟩ := h
  have hlp := hblk.lt
  have hmk := make_bytes size (by omega) w
  obtain ⟨R0, hR0⟩ : ∃ R, R = List.replicate size (u8v 0) := ⟨_, rfl⟩
  rw [← hR0] at hmk
  obtain ⟨C0, hC0⟩ : ∃ C, C = (b.take (min n size)).map u8v := ⟨_, rfl⟩
  have hl0 : C0.length = min n size := by rw [hC0, List.length_map, List.length_take, hbl]; omega
  have hr0 : R0.length = size := by rw [hR0, List.length_replicate]
  have hone : ∀ v ∈ C0, v.oneCell' = true := by rw [hC0]; exact u8v_one _
  have hsp : splice R0 0 C0 = (padTo b size).map u8v := by
    rw [hR0]
    unfold splice padTo
    rw [List.take_zero, List.nil_append, Nat.zero_add, List.drop_replicate, hl0, hC0, hbl, List.map_append, List.map_replicate]
    congr 1
    · congr 1
      rw [List.take_eq_take_iff]
      omega
    · congr 1
      omega
  have hsrc : Reads (w.alloc (.cells R0.toArray 5)) A (min n size) C0 := by
    rw [hC0, List.map_take]
    exact (hr.alloc _).take (by omega)
  have K1 := Lib.hid (heap_alloc_new w (Obj.cells R0.toArray 5))
  have K2 : Hid (C0.length = Nat.min n size) := Lib.hid hl0
  have K3 := Lib.hid hsrc
  have K4 := Lib.hid (show Below w.heap.size w (w.alloc (.cells R0.toArray 5)) from (Below.refl _ w).alloc (Nat.le_refl _) _)
  have hfit : 0 + C0.length ≤ R0.length := by rw [hl0, hr0]; omega
  have HP := Lib.hid hsp
  have HO := Lib.hid hone
  have HBK := Lib.hid hblk
  have HOW := Lib.hid hown
  clear hR0 hC0 hone hsp hsrc hr0 hblk hown hr hi hz0 hz1 hz2 hl0
  go_enter Tryd.func30, Tryd.ntmps30
  go_upto_region 2 with (with_reducible refine wpList_copy_splice rfl (.tmp 11) (.tmp 12) 22 22 rfl 5 Tryd.underlying22 info_s8f (some ⟨w.heap.size, 0, none⟩) A size size n c rfl rfl w.heap.size 0 R0 5 K1.out C0 K2.out (fun h => ⟨rfl, K3.out.srcf h⟩) hfit HO.out w.heap.size w K4.out (Nat.le_refl _) ?_; intro w2 HG2 hB2)
  have hg2 : Blk w2 w.heap.size 5 ((padTo b size).map u8v).toArray := by
    have h := HG2.out
    rw [HP.out] at h
    exact h
  have hb2 := HBK.out.below hB2 hlp
  have hc2 : w2.cell? ⟨p, 0, none⟩ = some (.slice A0 l.length c0) := by rw [hb2.cell]; rfl
  have hf2 := hb2.frozen 0
  have ho2 := own_only HOW.out (Only.of_below (S := []) hB2) (by simp)
  have hrd := hg2.row
  rw [List.length_map, padTo_len] at hrd
  have HG := Lib.hid hrd
  have HB2 := Lib.hid hb2
  have HO2 := Lib.hid ho2
  have HBB := Lib.hid (hB2.mono (show base ≤ w.heap.size by omega))
  have hne := own_blk_ne ho2 hb2 (by decide)
  have hbs := hB2.size
  have hl1 := ho2.lt
  clear hg2 hb2 ho2 hrd HG2 hB2 K1 K2 K3 K4 HP HO HBK HOW hmk
  go_wp2_with (at_builtin; (refine wpList_append_any _ rfl (.tmp 18) (.tmp 19) _ rfl base 5 i0 (.int .u8 0) 1 Tryd.underlying22 HI.out HZ0.out HZ1.out HZ2.out rfl (.slice A0 l.length c0) l.length (l.map u8v) rfl HO2.out (some ⟨w.heap.size, 0, none⟩) size size ((padTo b size).map u8v) rfl HG.out (u8v_one _) (by unfold maxLen; omega) (by omega) (by omega) ?_); (intro A2 c2 w3 hown3 hgrow3 hat3; have HBK3 := Lib.hid (HB2.out.grown hgrow3 (Ne.symm hne)); have hc3 : w3.cell? ⟨p, 0, none⟩ = some (.slice A0 l.length c0) := (HBK3.out.cell 0).trans rfl; have hf3 := HBK3.out.frozen 0; have HO3 := Lib.hid hown3; have HB3 := Lib.hid (Below.grown HBB.out hgrow3 (by omega) (fun g hg => (hl1 g hg).1)); clear hown3 hgrow3 hat3))
  go_end0
  refine ⟨rfl, ⟨A2, c2, ?_, ?_⟩, HB3.out.setCell hp _⟩
  · rw [List.length_append, padTo_len]; exact HBK3.out.set_ 0 _
  · rw [List.length_append, padTo_len, List.map_append]
    have hne3 := own_blk_ne HO3.out HBK3.out (by decide)
    refine own_only HO3.out (S := [p]) ((Only.refl _ _).setCell (.inl (by simp)) _) fun k hk => ?_
    simp
    rintro rfl
    exact hne3 hk
set_option maxRecDepth 100000 in
theorem wbytes_c (base : Nat) (w : World) (p : Nat) (l : List UInt8) (hl : l.length ≤ 100000) (h : WrAt base w p l) :
    Calls Tryd.prog 32 #[ptr p] w (MadeBytes w l) := by
  obtain ⟨A, c, hb, ho⟩ := h
  have hc : w.cell? ⟨p, 0, none⟩ = some (.slice A l.length c) := by rw [hb.cell]; rfl
  have HR := Lib.hid (Reads.of_own ho)
  clear hb ho
  go_enter Tryd.func32, Tryd.ntmps32
  go_wp2_with (go_at_call 40; refine (clone_n _ A l.length c l HR.out (by omega)).mono ?_; rintro e w2 ⟨A2, c2, rfl, hown2, hb2⟩)
  go_ret
  exact ⟨A2, c2, rfl, hown2, hb2⟩
end Go.Proofs.YtocbahahienigaaDoor
