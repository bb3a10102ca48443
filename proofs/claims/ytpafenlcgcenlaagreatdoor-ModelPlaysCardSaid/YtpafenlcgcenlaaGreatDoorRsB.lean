/- The reference's words: Right, Big, Bytes4, first. · The reference's constants. · The reference's block. · The reference's streams: NewStream, Write. · The reference's eight. · The reference's Sum. · The reference's Sha. -/
import Derived.Test.YtpafenlcgcenlaaGreatDoorShaC
import Derived.Great.Walk
namespace Go.Proofs.YtpafenlcgcenlaaGreatDoor
open Go Go.RowKit
set_option linter.unusedVariables false
set_option linter.unusedSimpArgs false
theorem u64_31 (n : Nat) (h : n ≤ 31) : bits .and .u64 (n : Int) 31 = (n : Int) := by
 rw [u64_and _ 31 (by omega) (by omega) (by omega) (by omega), show ((31 : Int).toNat) = 2 ^ 5 - 1 from rfl, Nat.and_two_pow_sub_one_eq_mod]
 omega
theorem rright_c (x : UInt32) (n : Nat) (h1 : 1 ≤ n) (h2 : n ≤ 31) (w : World) : Calls Tryz.prog 145 #[u32v x, .int .i64 (n : Int)] w fun e w' => e = .returned (u32v (rotr x n)) ∧ w = w' := by
 have hx := u32_b x
 have hs := u64_31 n h2
 have h3 : (32 - n : Nat) ≤ 31 := by omega
 obtain ⟨m, hm⟩ : ∃ m : Nat, m = 32 - n := ⟨_, rfl⟩
 have hmi : (32 : Int) - (n : Int) = (m : Int) := by omega
 have m1 : 1 ≤ m := by omega
 have m2 : m ≤ 31 := by omega
 have HM := Lib.hid hm
 have hn0 : ¬ ((n : Int) = 0) := by omega
 clear hm h3
 go_enter Tryz.func145, Tryz.ntmps145
 go_wp2_with fail
 go_ret
 have hv : bits .or .u32 ((x.toNat : Int) / 2 ^ n) ((x.toNat : Int) * 2 ^ m % 4294967296) = ((rotr x n).toNat : Int) := by
  rw [w32_shl x m (by omega), w32_shr x n (by omega), w32_or, HM.out, UInt32.or_comm]
  rfl
 exact ⟨u32_ret hv, rfl⟩
theorem rright_q (x : UInt32) (n : Int) (h1 : 1 ≤ n) (h2 : n ≤ 31) (w : World) : Calls Tryz.prog 145 #[u32v x, .int .i64 n] w fun e w' => e = .returned (u32v (rotr x n.toNat)) ∧ w' = w := by
 obtain ⟨m, rfl⟩ := Int.eq_ofNat_of_zero_le (show 0 ≤ n by omega)
 exact (rright_c x m (by omega) (by omega) w).mono fun _ _ h => ⟨h.1, h.2.symm⟩
theorem rbig_c (A : Option Addr) (n c : Nat) (l : List UInt8) (w : World) (hn : (n : Int) ≤ 9223372036854775807) (r : Reads w A n (l.map u8v)) :
  Calls Tryz.prog 144 #[.slice A n c] w fun e w' => e = .returned (u32v (big l)) ∧ w = w' := by
 have hl : l.length = n := by simpa using r.len
 subst hl
 have R := Lib.hid r
 clear r
 go_enter Tryz.func144, Tryz.ntmps144
 go_wp2_with fail
 go_loopw [3, 4] (fun v i wr => ∃ k : Nat, k ≤ 4 ∧ v = u32v (bigTo l k) ∧ i = .int .i64 k ∧ w = wr) (fun _ i _ => 4 - (intOf i).toNat)
 case atStart => exact ⟨0, by omega, rfl, rfl, rfl⟩
 case round =>
  obtain ⟨k, hk, rfl, rfl, rfl⟩ := hrel
  have hs : bigTo l (k + 1) = bigTo l k <<< 8 ||| (l.getD k 0).toUInt32 := rfl
  generalize hx : bigTo l k = x at *
  have HX := Lib.hid hx
  have HS := Lib.hid hs
  have hxb := u32_b x
  clear hx hs
  by_cases hlt : k < 4
  ·
   by_cases hlen : k < l.length
   ·
    obtain ⟨g, o, hA, hg, hcell⟩ := byte_at R.out hlen
    have hc : l.getD k 0 = l[k] := by rw [List.getD_eq_getElem?_getD, List.getElem?_eq_getElem hlen]; rfl
    generalize l[k] = y at hcell hc
    have HC := Lib.hid hc
    clear hc
    subst hA
    go_wp2_with fail
    go_roundw
    case rel =>
     refine ⟨k + 1, by omega, ?_, by go_num, trivial⟩
     rw [HS.out, HC.out]
     exact u32v_eq (by rw [w32_shl8, show ((y.toNat : Int) % 4294967296) = (y.toNat : Int) from by have := y.toNat_lt; omega, or_u8])
    case measure => simp [intOf]; omega
   ·
    go_wp2_with fail
    go_roundw
    case rel =>
     refine ⟨k + 1, by omega, ?_, by go_num, trivial⟩
     rw [HS.out, List.getD_eq_getElem?_getD, List.getElem?_eq_none (by omega), Option.getD_none, or_zero32]
     exact u32v_eq (w32_shl8 x)
    case measure => simp [intOf]; omega
  ·
   obtain rfl : k = 4 := by omega
   go_wp2_with fail
   go_ret
   exact ⟨by rw [big, HX.out]; rfl, rfl⟩
theorem and255 (x : UInt32) : bits .and .u32 (x.toNat : Int) 255 % 256 = ((x.toUInt8).toNat : Int) := by
 have h := u32_and_nat x.toNat 255 x.toNat_lt (by omega)
 rw [show ((255 : Nat) : Int) = 255 from rfl] at h
 rw [h, show (255 : Nat) = 2 ^ 8 - 1 from rfl, Nat.and_two_pow_sub_one_eq_mod, UInt32.toNat_toUInt8]
 omega
theorem rbytes_c (x : UInt32) (w : World) : Calls Tryz.prog 106 #[u32v x] w fun e w' => e = .returned (.slice (some ⟨w.heap.size, 0, none⟩) 4 4) ∧ Blk w' w.heap.size 5 ((bytes4 x).map u8v).toArray ∧ Below w.heap.size w w' := by
 have hx := u32_b x
 go_enter Tryz.func106, Tryz.ntmps106
 go_wp2_with fail
 go_ret
 have v3 : (x.toNat : Int) / (16777216 : Int) = (((x >>> 24).toUInt8).toNat : Int) := by
  have h := w32_byte x 24 (by omega)
  rw [show ((2 : Int) ^ 24) = 16777216 from rfl] at h
  rw [show (x >>> 24) = x >>> UInt32.ofNat 24 from rfl, ← h]; omega
 have v2 : bits .and .u32 ((x.toNat : Int) / (65536 : Int)) 255 % (256 : Int) = (((x >>> 16).toUInt8).toNat : Int) := by
  have h := w32_shr x 16 (by omega)
  rw [show ((2 : Int) ^ 16) = 65536 from rfl] at h
  rw [h]; exact and255 _
 have v1 : bits .and .u32 ((x.toNat : Int) / (256 : Int)) 255 % (256 : Int) = (((x >>> 8).toUInt8).toNat : Int) := by
  have h := w32_shr x 8 (by omega)
  rw [show ((2 : Int) ^ 8) = 256 from rfl] at h
  rw [h]; exact and255 _
 have v0 := and255 x
 rw [v3, v2, v1, v0]
 exact ⟨rfl, Blk.new w _ _, (Below.refl _ _).alloc (Nat.le_refl _) _⟩
theorem rfirst_c (w : World) : Calls Tryz.prog 103 #[] w fun e w' => e = .returned (.agg St.first.vals) ∧ Below w.heap.size w w' := by
 go_enter Tryz.func103, Tryz.ntmps103
 go_wp2_with fail
 refine bodyPost_ret (results_cell_row rfl _ _ w.heap.size 154 _ (0, 0) _ rfl (Blk.new w _ _) Tryz.underlying154 rfl info_8) rfl ?_
 exact ⟨rfl, (Below.refl _ _).alloc (Nat.le_refl _) _⟩
end Go.Proofs.YtpafenlcgcenlaaGreatDoor
namespace Go.Proofs.YtpafenlcgcenlaaGreatDoor
open Go Go.RowKit
set_option linter.unusedVariables false
set_option linter.unusedSimpArgs false
set_option maxRecDepth 100000 in
theorem rconsts_c (w : World) : Calls Tryz.prog 143 #[] w fun e w' => e = .returned (.slice (some ⟨w.heap.size, 0, none⟩) 64 64) ∧ Blk w' w.heap.size 148 kVals ∧ Below w.heap.size w w' := by
 go_enter Tryz.func143, Tryz.ntmps143
 go_upto_region 1 with fail
 refine wp_region_lit ?_
 refine Great.wpList_buildSliceTo rfl 185 148 64 _ rfl w.heap.size rfl _ rfl Tryz.underlying185 kVals (by kernel_rfl) ?_
 have hB := Blk.new w 148 kVals
 have hb := (Below.refl w.heap.size w).alloc (Nat.le_refl _) (.cells kVals 148)
 generalize w.alloc (.cells kVals 148) = w1 at hB hb ⊢
 go_wp2_with fail
 go_ret
 exact ⟨rfl, hB, hb⟩
end Go.Proofs.YtpafenlcgcenlaaGreatDoor
namespace Go.Proofs.YtpafenlcgcenlaaGreatDoor
open Go Go.RowKit
set_option linter.unusedVariables false
set_option linter.unusedSimpArgs false
theorem one_valr (e f g h k y : UInt32) : ((h.toNat : Int) + bits .xor .u32 (bits .xor .u32 ((rotr e 6).toNat : Int) ((rotr e 11).toNat : Int)) ((rotr e 25).toNat : Int) +
   bits .xor .u32 (bits .and .u32 (e.toNat : Int) (f.toNat : Int)) (bits .and .u32 (bits .xor .u32 (e.toNat : Int) 4294967295) (g.toNat : Int)) + (k.toNat : Int) + (y.toNat : Int)) % 4294967296 =
  ((h + (rotr e 6 ^^^ rotr e 11 ^^^ rotr e 25) + (e &&& f ^^^ ~~~e &&& g) + (k + y)).toNat : Int) := by
 rw [w32_not, w32_xor, w32_xor, w32_and, w32_and, w32_xor]
 simp only [UInt32.toNat_add]
 omega
theorem two_valr (a b c : UInt32) : (bits .xor .u32 (bits .xor .u32 ((rotr a 2).toNat : Int) ((rotr a 13).toNat : Int)) ((rotr a 22).toNat : Int) +
   bits .xor .u32 (bits .xor .u32 (bits .and .u32 (a.toNat : Int) (b.toNat : Int)) (bits .and .u32 (a.toNat : Int) (c.toNat : Int))) (bits .and .u32 (b.toNat : Int) (c.toNat : Int))) % 4294967296 =
  (((rotr a 2 ^^^ rotr a 13 ^^^ rotr a 22) + (a &&& b ^^^ a &&& c ^^^ b &&& c)).toNat : Int) := by
 rw [w32_xor, w32_xor, w32_and, w32_and, w32_and, w32_xor, w32_xor]
 simp only [UInt32.toNat_add]
 omega
set_option maxRecDepth 100000 in
set_option maxHeartbeats 4000000 in
theorem rblock_c (s : St) (A : Option Addr) (c : Nat) (l : List UInt8) (w : World) (hc : 64 ≤ c) (hcm : (c : Int) ≤ 9223372036854775807) (r : Reads w A 64 (l.map u8v)) :
  Calls Tryz.prog 104 #[.agg s.vals, .slice A 64 c] w fun e w' => e = .returned (.agg (mixS s l).vals) ∧ Below w.heap.size w w' := by
 have hl : l.length = 64 := by simpa using r.len
 have R := Lib.hid r
 clear r
 obtain ⟨sa, sb, sc, sd, se, sf, sg, sh⟩ := s
 obtain ⟨S0, hS0⟩ : ∃ S0 : St, S0 = ⟨sa, sb, sc, sd, se, sf, sg, sh⟩ := ⟨_, rfl⟩
 have HS0 := Lib.hid hS0
 clear hS0
 go_enter Tryz.func104, Tryz.ntmps104
 go_upto_region 1 with fail
 have hv0 : Blk ((w.alloc (.cells (St.vals ⟨sa, sb, sc, sd, se, sf, sg, sh⟩) 154)).alloc (.cells zero8 154)) w.heap.size 154 (St.vals ⟨sa, sb, sc, sd, se, sf, sg, sh⟩) := (Blk.new w _ _).alloc _
 have hr0 : Blk ((w.alloc (.cells (St.vals ⟨sa, sb, sc, sd, se, sf, sg, sh⟩) 154)).alloc (.cells zero8 154)) (w.heap.size + 1) 154 zero8 := by
  have h := Blk.new (w.alloc (.cells (St.vals ⟨sa, sb, sc, sd, se, sf, sg, sh⟩) 154)) 154 zero8
  rw [show (w.alloc (.cells (St.vals ⟨sa, sb, sc, sd, se, sf, sg, sh⟩) 154)).heap.size = w.heap.size + 1 from by simp] at h
  exact h
 have hb0 : Below w.heap.size w ((w.alloc (.cells (St.vals ⟨sa, sb, sc, sd, se, sf, sg, sh⟩) 154)).alloc (.cells zero8 154)) := ((Below.refl _ _).alloc (Nat.le_refl _) _).alloc (by simp) _
 have hs0 : ((w.alloc (.cells (St.vals ⟨sa, sb, sc, sd, se, sf, sg, sh⟩) 154)).alloc (.cells zero8 154)).heap.size = w.heap.size + 2 := by simp
 change Code.wp _ _ _ _ ((w.alloc (.cells (St.vals ⟨sa, sb, sc, sd, se, sf, sg, sh⟩) 154)).alloc (.cells zero8 154))
 generalize (w.alloc (.cells (St.vals ⟨sa, sb, sc, sd, se, sf, sg, sh⟩) 154)).alloc (.cells zero8 154) = w1 at hv0 hr0 hb0 hs0 ⊢
 go_wp2_with fail
 refine (rconsts_c w1).mono ?_
 rintro e w2 ⟨rfl, hk2, hb2⟩
 have hs2 := hk2.lt
 have hv2 := hv0.below hb2 (by omega)
 have hr2 := hr0.below hb2 (by omega)
 have hb02 := hb0.trans (hb2.mono (by omega))
 rw [hs0] at hk2 hs2 ⊢
 clear hv0 hr0 hb0 hb2 hs0
 go_upto_region 3 with fail
 have hw3 := Blk.new w2 181 ((sw l 0).map u32v).toArray
 have hv3 := hv2.alloc (.cells ((sw l 0).map u32v).toArray 181)
 have hr3 := hr2.alloc (.cells ((sw l 0).map u32v).toArray 181)
 have hk3 := hk2.alloc (.cells ((sw l 0).map u32v).toArray 181)
 have hb3 := hb02.alloc hb02.size (.cells ((sw l 0).map u32v).toArray 181)
 change Code.wp _ _ _ _ (w2.alloc (.cells ((sw l 0).map u32v).toArray 181))
 generalize w2.alloc (.cells ((sw l 0).map u32v).toArray 181) = w3 at hw3 hv3 hr3 hk3 hb3 ⊢
 have hgw : w.heap.size + 2 < w2.heap.size := hs2
 generalize w2.heap.size = gw at hw3 hgw ⊢
 have HW3 := Lib.hid hw3
 have HV3 := Lib.hid hv3
 have HR3 := Lib.hid hr3
 have HK3 := Lib.hid hk3
 have HB3 := Lib.hid hb3
 clear hw3 hv3 hr3 hk3 hb3 hs2 hk2 hv2 hr2 hb02
 go_wp2_with fail
 go_loopw [7] (fun i wr => ∃ k : Nat, k ≤ 64 ∧ i = .int .i64 k ∧ Below w.heap.size w wr ∧ Blk wr gw 181 ((sw l k).map u32v).toArray ∧ Blk wr w.heap.size 154 (St.vals ⟨sa, sb, sc, sd, se, sf, sg, sh⟩) ∧ Blk wr (w.heap.size + 1) 154 zero8 ∧ Blk wr (w.heap.size + 2) 148 kVals) (fun i _ => 64 - (intOf i).toNat)
 case atStart => exact ⟨0, by omega, rfl, HB3.out, HW3.out, HV3.out, HR3.out, HK3.out⟩
 case round =>
  clear HB3 HW3 HV3 HR3 HK3
  obtain ⟨k, hk, rfl, hbel, hB, hV, hZ, hK⟩ := hrel
  have HL := Lib.hid hbel
  have HB := Lib.hid hB
  have HV := Lib.hid hV
  have HZ := Lib.hid hZ
  have HK := Lib.hid hK
  clear hbel hB hZ hV hK
  by_cases hlt : k < 64
  ·
   by_cases h16 : k < 16
   ·
    have e4 : IntKind.i64.wrap (4 * (k : Int)) = (k : Int) * 4 := by rw [Int.mul_comm]; exact IntWalk.i64_in _ (by omega)
    have hck := cell32 HB.out k (by rw [sw_len]; omega)
    have hfk := HB.out.frozen k
    have hrd : Reads wr (Option.map (fun x => x.add (k * 4)) A) (64 - k * 4) ((l.drop (k * 4)).map u8v) := by
     have h := (R.out.below HL.out).drop (k := k * 4) (cap := c) (by omega) hc
     rw [if_neg (by omega), ← List.map_drop] at h
     exact h
    have HRD := Lib.hid hrd
    have hval : (sw l (k + 1)) = (sw l k).set k (big (l.drop (k * 4))) := by
     show (sw l k).set k (swVal l (sw l k) k) = _
     unfold swVal
     rw [if_pos h16, Nat.mul_comm]
    have HVL := Lib.hid hval
    clear hrd hval
    go_wp2_with fail
    refine (rbig_c _ _ _ (l.drop (k * 4)) wr (by omega) HRD.out).mono ?_
    rintro e w' ⟨rfl, rfl⟩
    go_wp2_with fail
    go_roundw
    case rel =>
     refine ⟨k + 1, by omega, by go_num, HL.out.setCell (by show _ ≤ gw; omega) _, ?_, HV.out.far (by show w.heap.size ≠ gw; omega) _, HZ.out.far (by show w.heap.size + 1 ≠ gw; omega) _, HK.out.far (by show w.heap.size + 2 ≠ gw; omega) _⟩
     have h := HB.out.set_ k (u32v (big (l.drop (k * 4))))
     rw [set_map, ← HVL.out] at h
     exact h
    case measure => simp [intOf]; omega
   ·
    have hL := sw_len l k
    have hval : (sw l (k + 1)) = (sw l k).set k ((sw l k).getD (k - 16) 0 + sig0 ((sw l k).getD (k - 15) 0) + (sw l k).getD (k - 7) 0 + sig1 ((sw l k).getD (k - 2) 0)) := by
     show (sw l k).set k (swVal l (sw l k) k) = _
     unfold swVal
     rw [if_neg h16]
    have HVL := Lib.hid hval
    clear hval
    have c16 := cell32 HB.out (k - 16) (by omega)
    have c15 := cell32 HB.out (k - 15) (by omega)
    have c7 := cell32 HB.out (k - 7) (by omega)
    have c2 := cell32 HB.out (k - 2) (by omega)
    have c0 := cell32 HB.out k (by omega)
    have f0 := HB.out.frozen k
    generalize (sw l k).getD (k - 16) 0 = x16 at *
    generalize (sw l k).getD (k - 15) 0 = x15 at *
    generalize (sw l k).getD (k - 7) 0 = x7 at *
    generalize (sw l k).getD (k - 2) 0 = x2 at *
    have e16 : IntKind.i64.wrap ((k : Int) - 16) = (k : Int) - 16 := IntWalk.i64_in _ (by omega)
    have e15 : IntKind.i64.wrap ((k : Int) - 15) = (k : Int) - 15 := IntWalk.i64_in _ (by omega)
    have e7 : IntKind.i64.wrap ((k : Int) - 7) = (k : Int) - 7 := IntWalk.i64_in _ (by omega)
    have e2 : IntKind.i64.wrap ((k : Int) - 2) = (k : Int) - 2 := IntWalk.i64_in _ (by omega)
    have t16 : ((k : Int) - 16).toNat = k - 16 := by omega
    have t15 : ((k : Int) - 15).toNat = k - 15 := by omega
    have t7 : ((k : Int) - 7).toNat = k - 7 := by omega
    have t2 : ((k : Int) - 2).toNat = k - 2 := by omega
    have p16 : 0 ≤ (k : Int) - 16 := by omega
    have p15 : 0 ≤ (k : Int) - 15 := by omega
    have p7 : 0 ≤ (k : Int) - 7 := by omega
    have p2 : 0 ≤ (k : Int) - 2 := by omega
    have q16 : (k : Int) - 16 < 64 := by omega
    have q15 : (k : Int) - 15 < 64 := by omega
    have q7 : (k : Int) - 7 < 64 := by omega
    have q2 : (k : Int) - 2 < 64 := by omega
    go_upto_region 10 with fail
    refine wp_region_quiet_tail 29 (by kernel_rfl) (by kernel_rfl) ?_
    simp only [List.take_succ_cons, List.take_zero, List.drop_succ_cons, List.drop_zero]
    repeat (go_big_quiet_step ((go_at_call 145; exact (rright_q _ _ (by omega) (by omega) _).mono fun _ _ h => ⟨h.1, _, h.2⟩)))
    refine wpQuiet_nil ?_
    intro nq2
    go_wp2
    go_roundw
    case rel =>
     rw [spread_val]
     refine ⟨k + 1, by omega, by go_num, (below_drewN HL.out _).setCell (by show _ ≤ gw; omega) _, ?_, (HV.out.drewN _).far (by show w.heap.size ≠ gw; omega) _, (HZ.out.drewN _).far (by show w.heap.size + 1 ≠ gw; omega) _, (HK.out.drewN _).far (by show w.heap.size + 2 ≠ gw; omega) _⟩
     have h := (HB.out.drewN nq2).set_ k (u32v (x16 + sig0 x15 + x7 + sig1 x2))
     rw [set_map, ← HVL.out] at h
     exact h
    case measure => simp [intOf]; omega
  ·
   obtain rfl : k = 64 := by omega
   have c0 : wr.cell? ⟨w.heap.size, 0, none⟩ = some (u32v sa) := by rw [HV.out.cell]; rfl
   have c1 : wr.cell? ⟨w.heap.size, 1, none⟩ = some (u32v sb) := by rw [HV.out.cell]; rfl
   have c2 : wr.cell? ⟨w.heap.size, 2, none⟩ = some (u32v sc) := by rw [HV.out.cell]; rfl
   have c3 : wr.cell? ⟨w.heap.size, 3, none⟩ = some (u32v sd) := by rw [HV.out.cell]; rfl
   have c4 : wr.cell? ⟨w.heap.size, 4, none⟩ = some (u32v se) := by rw [HV.out.cell]; rfl
   have c5 : wr.cell? ⟨w.heap.size, 5, none⟩ = some (u32v sf) := by rw [HV.out.cell]; rfl
   have c6 : wr.cell? ⟨w.heap.size, 6, none⟩ = some (u32v sg) := by rw [HV.out.cell]; rfl
   have c7 : wr.cell? ⟨w.heap.size, 7, none⟩ = some (u32v sh) := by rw [HV.out.cell]; rfl
   go_upto_region 12 with fail
   have hsz := HL.out.size
   have ht4 : Blk (wr.alloc (.cells (St.vals ⟨sa, sb, sc, sd, se, sf, sg, sh⟩) 154)) wr.heap.size 154 (roundsTo S0 l 0).vals := by
    have h := Blk.new wr 154 (St.vals ⟨sa, sb, sc, sd, se, sf, sg, sh⟩)
    show Blk _ _ _ S0.vals
    rw [HS0.out]
    exact h
   have hw4 := HB.out.alloc (.cells (St.vals ⟨sa, sb, sc, sd, se, sf, sg, sh⟩) 154)
   have hv4 := HV.out.alloc (.cells (St.vals ⟨sa, sb, sc, sd, se, sf, sg, sh⟩) 154)
   have hr4 := HZ.out.alloc (.cells (St.vals ⟨sa, sb, sc, sd, se, sf, sg, sh⟩) 154)
   have hk4 := HK.out.alloc (.cells (St.vals ⟨sa, sb, sc, sd, se, sf, sg, sh⟩) 154)
   have hb4 := HL.out.alloc hsz (.cells (St.vals ⟨sa, sb, sc, sd, se, sf, sg, sh⟩) 154)
   have hgt : gw < wr.heap.size := HB.out.lt
   change Code.wp _ _ _ _ (wr.alloc (.cells (St.vals ⟨sa, sb, sc, sd, se, sf, sg, sh⟩) 154))
   generalize wr.alloc (.cells (St.vals ⟨sa, sb, sc, sd, se, sf, sg, sh⟩) 154) = w4 at ht4 hw4 hv4 hr4 hk4 hb4 ⊢
   generalize wr.heap.size = gt at ht4 hgt ⊢
   have HT4 := Lib.hid ht4
   have HW4 := Lib.hid hw4
   have HV4 := Lib.hid hv4
   have HR4 := Lib.hid hr4
   have HK4 := Lib.hid hk4
   have HB4 := Lib.hid hb4
   clear ht4 hw4 hv4 hr4 hk4 hb4 HB HV HZ HK HL c0 c1 c2 c3 c4 c5 c6 c7 hsz
   obtain ⟨WS, hWS⟩ : ∃ L : List UInt32, L = sw l 64 := ⟨_, rfl⟩
   have HWS := Lib.hid hWS
   rw [← hWS] at HW4
   clear hWS
   go_wp2_with fail
   go_loopw [11] (fun i wr => ∃ k : Nat, k ≤ 64 ∧ i = .int .i64 k ∧ Below w.heap.size w wr ∧ Blk wr gw 181 (WS.map u32v).toArray ∧ Blk wr w.heap.size 154 (St.vals ⟨sa, sb, sc, sd, se, sf, sg, sh⟩) ∧ Blk wr (w.heap.size + 1) 154 zero8 ∧ Blk wr (w.heap.size + 2) 148 kVals ∧ Blk wr gt 154 (roundsTo S0 l k).vals) (fun i _ => 64 - (intOf i).toNat)
   case atStart => exact ⟨0, by omega, rfl, HB4.out, HW4.out, HV4.out, HR4.out, HK4.out, HT4.out⟩
   case round =>
    clear HB4 HW4 HV4 HR4 HK4 HT4
    obtain ⟨k, hk, rfl, hbel, hW, hV, hZ, hK, hT⟩ := hrel
    have HL := Lib.hid hbel
    have HW := Lib.hid hW
    have HV := Lib.hid hV
    have HZ := Lib.hid hZ
    have HK := Lib.hid hK
    have HT := Lib.hid hT
    clear hbel hW hV hZ hK hT
    by_cases hlt : k < 64
    ·
     have hn : roundsTo S0 l (k + 1) = (roundsTo S0 l k).round (kList.getD k 0 + WS.getD k 0) := by rw [HWS.out]; rfl
     have HN := Lib.hid hn
     clear hn
     have d6 : wr.cell? ⟨w.heap.size + 2, k, none⟩ = some (u32v (kList.getD k 0)) := cell32 HK.out k (by rw [kList_len]; exact hlt)
     have d5 : wr.cell? ⟨gw, k, none⟩ = some (u32v (WS.getD k 0)) := cell32 HW.out k (by rw [HWS.out, sw_len]; exact hlt)
     generalize kList.getD k 0 = x at *
     generalize WS.getD k 0 = y at *
     generalize hst : roundsTo S0 l k = st at *
     have HST := Lib.hid hst
     clear hst
     obtain ⟨ta, tb, tc, td, te, tf, tg, th⟩ := st
     have z0 : wr.cell? ⟨gt, 0, none⟩ = some (u32v ta) := by rw [HT.out.cell]; rfl
     have z1 : wr.cell? ⟨gt, 1, none⟩ = some (u32v tb) := by rw [HT.out.cell]; rfl
     have z2 : wr.cell? ⟨gt, 2, none⟩ = some (u32v tc) := by rw [HT.out.cell]; rfl
     have z3 : wr.cell? ⟨gt, 3, none⟩ = some (u32v td) := by rw [HT.out.cell]; rfl
     have z4 : wr.cell? ⟨gt, 4, none⟩ = some (u32v te) := by rw [HT.out.cell]; rfl
     have z5 : wr.cell? ⟨gt, 5, none⟩ = some (u32v tf) := by rw [HT.out.cell]; rfl
     have z6 : wr.cell? ⟨gt, 6, none⟩ = some (u32v tg) := by rw [HT.out.cell]; rfl
     have z7 : wr.cell? ⟨gt, 7, none⟩ = some (u32v th) := by rw [HT.out.cell]; rfl
     have x0 := HT.out.frozen 0
     have x1 := HT.out.frozen 1
     have x2 := HT.out.frozen 2
     have x3 := HT.out.frozen 3
     have x4 := HT.out.frozen 4
     have x5 := HT.out.frozen 5
     have x6 := HT.out.frozen 6
     have x7 := HT.out.frozen 7
     go_upto_region 17 with fail
     go_quiet ((go_at_call 145; exact (rright_q _ _ (by omega) (by omega) _).mono fun _ _ h => ⟨h.1, _, h.2⟩))
     go_upto_region 18 with fail
     go_quiet ((go_at_call 145; exact (rright_q _ _ (by omega) (by omega) _).mono fun _ _ h => ⟨h.1, _, h.2⟩))
     go_wp2_with fail
     rw [mod_add (one_valr te tf tg th x y) (two_valr ta tb tc), mod_add (mod_self td) (one_valr te tf tg th x y)]
     go_roundw
     case rel =>
      refine ⟨k + 1, by omega, by go_num, below_set8 (below_drewN HL.out _) (by omega), (HW.out.drewN _).far8 (by omega), (HV.out.drewN _).far8 (by omega), (HZ.out.drewN _).far8 (by omega), (HK.out.drewN _).far8 (by omega), ?_⟩
      rw [HN.out]
      exact Blk.set8 (show Blk _ gt 154 #[u32v ta, u32v tb, u32v tc, u32v td, u32v te, u32v tf, u32v tg, u32v th] from HT.out.drewN _)
     case measure => simp [intOf]; omega
    ·
     obtain rfl : k = 64 := by omega
     have hV : Blk wr w.heap.size 154 ((plusTo S0 (roundsTo S0 l 64) 0).map u32v).toArray := by
      have h := HV.out
      rw [← HS0.out] at h
      exact h
     have hT : Blk wr gt 154 ((roundsTo S0 l 64).words.map u32v).toArray := HT.out
     have hfin : S0.plus (roundsTo S0 l 64) = mixS S0 l := rfl
     generalize roundsTo S0 l 64 = t at hV hT hfin
     have HV2 := Lib.hid hV
     have HT2 := Lib.hid hT
     have HFN := Lib.hid hfin
     clear hV hT hfin HW HK HV HT
     go_wp2_with fail
     go_loopw [16] (fun i wx => ∃ k : Nat, k ≤ 8 ∧ i = .int .i64 k ∧ Below w.heap.size w wx ∧ Blk wx w.heap.size 154 ((plusTo S0 t k).map u32v).toArray ∧ Blk wx (w.heap.size + 1) 154 zero8 ∧ Blk wx gt 154 (t.words.map u32v).toArray) (fun i _ => 8 - (intOf i).toNat)
     case atStart => exact ⟨0, by omega, rfl, HL.out, HV2.out, HZ.out, HT2.out⟩
     case round =>
      clear HL HV2 HZ HT2
      obtain ⟨k, hk, rfl, hbel, c0, c1, c2⟩ := hrel
      have HL2 := Lib.hid hbel
      have C0 := Lib.hid c0
      have C1 := Lib.hid c1
      have C2 := Lib.hid c2
      clear hbel c0 c1 c2
      by_cases hlt2 : k < 8
      ·
       have e0 := cell32 C0.out k (by rw [plusTo_len]; exact hlt2)
       have f0 := C0.out.frozen k
       have e2 := cell32 C2.out k (by exact hlt2)
       have hn : plusTo S0 t (k + 1) = (plusTo S0 t k).set k ((plusTo S0 t k).getD k 0 + t.words.getD k 0) := rfl
       have HN := Lib.hid hn
       clear hn
       generalize (plusTo S0 t k).getD k 0 = x at *
       generalize t.words.getD k 0 = y at *
       go_upto_region 23 with fail
       refine wp_region_quiet_tail 8 (by kernel_rfl) (by kernel_rfl) ?_
       simp only [List.take_succ_cons, List.take_zero, List.drop_succ_cons, List.drop_zero]
       repeat (go_big_quiet_step (fail))
       refine wpQuiet_nil ?_
       intro nq
       rw [w32_addm]
       go_wp2_with fail
       go_roundw
       case rel =>
        refine ⟨k + 1, by omega, by go_num, (below_drewN HL2.out nq).setCell (Nat.le_refl _) _, ?_, (C1.out.drewN nq).far (by simp) _, (C2.out.drewN nq).far (by show gt ≠ w.heap.size; omega) _⟩
        have h := (C0.out.drewN nq).set_ k (u32v (x + y))
        rw [set_map, ← HN.out] at h
        exact h
       case measure => simp [intOf]; omega
      ·
       obtain rfl : k = 8 := by omega
       have hfv : Blk wr w.heap.size 154 (mixS S0 l).vals := by rw [← HFN.out]; exact C0.out
       obtain ⟨m, hmm⟩ : ∃ m, mixS S0 l = m := ⟨_, rfl⟩
       rw [hmm] at hfv
       have HMM := Lib.hid hmm
       clear hmm
       have HM := Lib.hid hfv
       clear hfv HFN C0
       go_upto_region 24 with fail
       refine wp_region_lit ?_
       refine wpList_load_row rfl 154 _ rfl w.heap.size rfl 154 m.vals (0, 0) _ HM.out Tryz.underlying154 rfl info_8 ?_
       refine wpList_store_row rfl 154 _ _ rfl (w.heap.size + 1) m.vals rfl rfl 154 _ C1.out info_8 (by rw [zero8_one]; rfl) (vals_one m) ?_
       refine wpList_nil ?_
       rename_i K hK
       have HW := Lib.hid (C1.out.setRow m.vals)
       show K _ _
       refine hK _ _ ?_
       go_wp2_with fail
       refine bodyPost_ret (results_cell_row rfl _ _ (w.heap.size + 1) 154 m.vals (0, 0) _ rfl HW.out Tryz.underlying154 rfl info_8) rfl ?_
       exact ⟨by rw [← HMM.out, HS0.out], below_setRow HL2.out (Nat.le_succ _) _⟩
end Go.Proofs.YtpafenlcgcenlaaGreatDoor
namespace Go.Proofs.YtpafenlcgcenlaaGreatDoor
open Go Go.RowKit
set_option linter.unusedVariables false
set_option linter.unusedSimpArgs false
/-- A stream of the reference lies at block sb. -/
structure RStreamAt (w : World) (sb : Nat) (s : St) (n : UInt64) (rest : List UInt8) : Prop where
 obj : ∃ A c, Blk w sb 163 (strm s n (.slice A rest.length c)) ∧ Reads w A rest.length (rest.map u8v) ∧ (∀ a, A = some a → a.block ≠ sb ∧ ∃ cs fr, w.heap[a.block]? = some (.cells cs 5 fr))
theorem rsnew_c (w : World) : Calls Tryz.prog 60 #[] w fun e w' => ∃ sb, e = .returned (.pointer (some ⟨sb, 0, none⟩)) ∧ RStreamAt w' sb St.first 0 [] ∧ w.heap.size ≤ sb ∧ Below w.heap.size w w' := by
 go_enter Tryz.func60, Tryz.ntmps60
 go_wp2_with fail
 refine (rfirst_c w).mono ?_
 rintro e w1 ⟨rfl, hb⟩
 have HB := Lib.hid hb
 clear hb
 have hv : St.first.vals = #[.int .u32 1779033703, .int .u32 3144134277, .int .u32 1013904242, .int .u32 2773480762, .int .u32 1359893119, .int .u32 2600822924, .int .u32 528734635, .int .u32 1541459225] := by kernel_rfl
 rw [hv]
 clear hv
 go_wp2_with fail
 go_ret
 exact ⟨w1.heap.size, rfl, ⟨none, 0, Blk.new w1 _ _, Reads.none_ _, fun a ha => by cases ha⟩, HB.out.size, HB.out.alloc HB.out.size _⟩
set_option maxRecDepth 100000 in
theorem rwrite_c (w : World) (sb : Nat) (s : St) (n : UInt64) (rest : List UInt8) (B : Option Addr) (c : Nat) (b : List UInt8) (h : RStreamAt w sb s n rest) (r : Reads w B b.length (b.map u8v)) (hbp : 0 < b.length → ∀ a, B = some a → a.block ≠ sb) (hr : rest.length ≤ 64) (hb : b.length ≤ 274877906944) :
  Calls Tryz.prog 61 #[.pointer (some ⟨sb, 0, none⟩), .slice B b.length c] w fun e w' => e = .returned (.tuple #[]) ∧ RStreamAt w' sb (absorb s (rest ++ b)).1 (n + UInt64.ofNat b.length) (absorb s (rest ++ b)).2 ∧ Only [sb] w w' := by
 obtain ⟨i0, hi, hz0, hz1, hz2⟩ := info_parts info_u8
 have HI := Lib.hid hi
 have HZ0 := Lib.hid hz0
 have HZ1 := Lib.hid hz1
 have HZ2 := Lib.hid hz2
 clear hi hz0 hz1 hz2
 obtain ⟨A, c2, hB0, hR, hap⟩ := h.obj
 have hB : Blk w sb 163 (strm s n (.slice A rest.length c2)) := hB0
 have c8 := strm_c8 hB
 have c9 := strm_c9 hB
 have f8 := hB.frozen 8
 have HB := Lib.hid hB
 have HR := Lib.hid hR
 have RB := Lib.hid r
 clear h hB hR r hB0
 go_enter Tryz.func61, Tryz.ntmps61
 go_upto_region 1 with fail
 have hcnt : IntKind.u64.wrap ((n.toNat : Int) + (b.length : Int)) = ((n + UInt64.ofNat b.length).toNat : Int) := by
  rw [← w64_len n b.length (by omega)]
  simp [IntKind.wrap, IntKind.bits, IntKind.signed]
 rw [hcnt]
 clear hcnt
 obtain ⟨n', hn'⟩ : ∃ n', n + UInt64.ofNat b.length = n' := ⟨_, rfl⟩
 rw [hn']
 have HN := Lib.hid hn'
 clear hn'
 have hB2 := HB.out.strm8 n'
 have hR2 : Reads (w.setCell ⟨sb, 8, none⟩ (u64v n')) A rest.length (rest.map u8v) := HR.out.setCell (fun a ha => (hap a ha).1) _
 have hb2 : Reads (w.setCell ⟨sb, 8, none⟩ (u64v n')) B b.length (b.map u8v) := RB.out.setCell0 hbp _
 have ho2 : Only [sb] w (w.setCell ⟨sb, 8, none⟩ (u64v n')) := (Only.refl _ _).setCell (by simp) _
 have hsz : (w.setCell ⟨sb, 8, none⟩ (u64v n')).heap.size = w.heap.size := by simp [World.setCell]
 generalize w.setCell ⟨sb, 8, none⟩ (.int .u64 n'.toNat) = w1 at hB2 hR2 hb2 ho2 hsz ⊢
 have c9 := strm_c9 hB2
 have hlt2 := hB2.lt
 have HB2 := Lib.hid hB2
 have HR2 := Lib.hid hR2
 have Hb2 := Lib.hid hb2
 have HO2 := Lib.hid ho2
 clear hB2 hR2 hb2 ho2 c8 f8 HB HR RB
 go_wp2_with (first | (at_builtin; refine wpList_append_any _ rfl (.const (.slice none 0 0)) (.tmp 19) _ rfl w1.heap.size 5 i0 (.int .u8 0) 1 Tryz.underlying22 HI.out HZ0.out HZ1.out HZ2.out rfl _ 0 [] rfl (World.ownsRow_nil _ _ _ _) A rest.length c2 (rest.map u8v) rfl HR2.out (u8v_one _) (by unfold maxLen; omega) (by omega) (Nat.le_refl _) ?_; intro A3 c3 w3 hown3 hgrow3 hat3; simp only [Nat.zero_add, List.nil_append] at hown3; have HOw3 := Lib.hid hown3; have hb3 := (Below.refl w1.heap.size w1).grown hgrow3 (Nat.le_refl _) (by intro g hg; cases hg); have hs3 := hb3.size; have Hb3 := Lib.hid hb3; have HB3 := Lib.hid (HB2.out.below hb3 hlt2); have HRb3 := Lib.hid (Hb2.out.below hb3); clear hown3 hgrow3 hat3 hb3) | (at_builtin; refine wpList_append_any _ rfl (.tmp 20) (.tmp 21) _ rfl w1.heap.size 5 i0 (.int .u8 0) 1 Tryz.underlying22 HI.out HZ0.out HZ1.out HZ2.out rfl _ rest.length (rest.map u8v) rfl HOw3.out B b.length c (b.map u8v) rfl HRb3.out (u8v_one _) (by unfold maxLen; omega) (by omega) hs3 ?_; intro A2 c3 w2 hown2 hgrow2 hat2; have HO4 := Lib.hid hown2; have HG4 := Lib.hid hgrow2; clear hown2 hgrow2 hat2))
 have hl3 := HOw3.out.lt
 have hown : w2.ownsRow w1.heap.size 5 1 (.slice A2 (rest ++ b).length c3) (rest ++ b).length ((rest ++ b).map u8v) := by
  rw [List.length_append, List.map_append]; exact HO4.out
 have hbl := Hb3.out.grown HG4.out hs3 (fun g hg => (hl3 g hg).1)
 have hB3 := HB2.out.below hbl hlt2
 have ho3 := HO2.out.after hbl
 have hcap := own_caps hown
 have hap2 : ∀ a, A2 = some a → a.block ≠ sb := fun a ha e => by
  subst ha
  have h1 := (hown.lt a.block rfl).1
  omega
 have hrd := Reads.of_own hown
 have HO := Lib.hid hrd
 have HAP := Lib.hid hap2
 have HB3 := Lib.hid hB3
 have HO3 := Lib.hid ho3
 have HCP := Lib.hid hcap
 clear hown hB3 ho3 HB2 HR2 Hb2 HO2 HOw3 Hb3 HRb3 HO4 HG4 c9 hcap hap2 hbl hsz hrd hap hbp hl3
 go_loopw [4] (fun v wr => ∃ (t : St) (l : List UInt8) (A' : Option Addr) (c' : Nat), v = .slice A' l.length c' ∧ absorb s (rest ++ b) = absorb t l ∧ Blk wr sb 163 (strm t n' (.slice A rest.length c2)) ∧ Reads wr A' l.length (l.map u8v) ∧ (∀ a, A' = some a → a.block ≠ sb) ∧ l.length ≤ c' ∧ c' ≤ maxLen ∧ l.length ≤ (rest ++ b).length ∧ Only [sb] w wr) (fun v _ => match v with | .slice _ k _ => k | _ => 0)
 case atStart => exact ⟨s, rest ++ b, A2, c3, by rw [List.length_append], rfl, HB3.out, HO.out, HAP.out, HCP.out.1, HCP.out.2, Nat.le_refl _, HO3.out⟩
 case round =>
  clear HB3 HO HAP HCP HO3
  obtain ⟨t, l, A', c', rfl, hab, hB, hR, hap, hc1, hc2, hl, ho⟩ := hrel
  have HAB := Lib.hid hab
  have HB := Lib.hid hB
  have HR := Lib.hid hR
  have HAP := Lib.hid hap
  have HO := Lib.hid ho
  unfold maxLen at hc2
  clear hab hR hap ho
  by_cases hlt : 64 ≤ l.length
  ·
   have hbs := hB.lt
   clear hB
   go_upto_region 3 with fail
   obtain ⟨T, F, hF, hFs⟩ := family (Below wr.heap.size wr)
   have d0 : ∀ x, (F x).cell? ⟨sb, 0, none⟩ = some (u32v t.a) := fun x => strm_c0 (HB.out.below (hF x) hbs)
   have d1 : ∀ x, (F x).cell? ⟨sb, 1, none⟩ = some (u32v t.b) := fun x => strm_c1 (HB.out.below (hF x) hbs)
   have d2 : ∀ x, (F x).cell? ⟨sb, 2, none⟩ = some (u32v t.c) := fun x => strm_c2 (HB.out.below (hF x) hbs)
   have d3 : ∀ x, (F x).cell? ⟨sb, 3, none⟩ = some (u32v t.d) := fun x => strm_c3 (HB.out.below (hF x) hbs)
   have d4 : ∀ x, (F x).cell? ⟨sb, 4, none⟩ = some (u32v t.e) := fun x => strm_c4 (HB.out.below (hF x) hbs)
   have d5 : ∀ x, (F x).cell? ⟨sb, 5, none⟩ = some (u32v t.f) := fun x => strm_c5 (HB.out.below (hF x) hbs)
   have d6 : ∀ x, (F x).cell? ⟨sb, 6, none⟩ = some (u32v t.g) := fun x => strm_c6 (HB.out.below (hF x) hbs)
   have d7 : ∀ x, (F x).cell? ⟨sb, 7, none⟩ = some (u32v t.h) := fun x => strm_c7 (HB.out.below (hF x) hbs)
   have HF := Lib.hid hF
   have HFS := Lib.hid hFs
   have h0 : ∃ x, F x = wr.drew := (hFs _ (Below.refl _ _).drew).imp fun _ h => h.symm
   have hmix := fun x => (rblock_c t A' c' (l.take 64) (F x) (by omega) (by omega) (by rw [List.map_take]; exact (HR.out.below (HF.out x)).take (by omega))).mono fun e w' h => (⟨h.1, HFS.out _ ((HF.out x).trans (h.2.mono (HF.out x).size))⟩ : e = _ ∧ ∃ y, w' = F y)
   have HM := Lib.hid hmix
   clear hF hFs hmix
   refine wp_region_fam_tail F 8 (by kernel_rfl) (by kernel_rfl) h0 ?_
   simp only [List.take_succ_cons, List.take_zero, List.drop_succ_cons, List.drop_zero]
   haveI : Nonempty T := by obtain ⟨x, _⟩ := h0; exact ⟨x⟩
   repeat (go_big_quiet_step (exact HM.out _))
   refine wpQuiet_nil ?_
   intro x
   have hb3 := HB.out.below (HF.out x) hbs
   have hr3 := HR.out.below (HF.out x)
   have ho3 := HO.out.after (HF.out x)
   have g0 := strm_c0 hb3
   have f0 := hb3.frozen 0
   have f1 := hb3.frozen 1
   have f2 := hb3.frozen 2
   have f3 := hb3.frozen 3
   have f4 := hb3.frozen 4
   have f5 := hb3.frozen 5
   have f6 := hb3.frozen 6
   have f7 := hb3.frozen 7
   have e0 := strm_c0 hb3
   have e1 := strm_c1 hb3
   have e2 := strm_c2 hb3
   have e3 := strm_c3 hb3
   have e4 := strm_c4 hb3
   have e5 := strm_c5 hb3
   have e6 := strm_c6 hb3
   have e7 := strm_c7 hb3
   have HB3 := Lib.hid hb3
   have HR3 := Lib.hid hr3
   have HO3 := Lib.hid ho3
   clear hb3 hr3 ho3 d0 d1 d2 d3 d4 d5 d6 d7 h0
   clear HM HFS
   have hab2 := absorb_more t l hlt
   have HAB2 := Lib.hid hab2
   clear hab2
   generalize F x = w5 at *
   clear HF
   generalize mixS t (l.take 64) = t2 at *
   obtain ⟨ma, mb, mc, md, me, mf, mg, mh⟩ := t2
   have hv : (St.mk ma mb mc md me mf mg mh).vals = #[u32v ma, u32v mb, u32v mc, u32v md, u32v me, u32v mf, u32v mg, u32v mh] := rfl
   rw [hv]
   clear hv
   go_wp2_with fail
   go_roundw
   case rel =>
    refine ⟨⟨ma, mb, mc, md, me, mf, mg, mh⟩, l.drop 64, _, _, by rw [List.length_drop], HAB.out.trans HAB2.out, HB3.out.strmh ⟨ma, mb, mc, md, me, mf, mg, mh⟩, ?_, apart_drop HAP.out, by rw [List.length_drop]; omega, by unfold maxLen; omega, by rw [List.length_drop]; omega, only_set8w HO3.out (by simp) ⟨ma, mb, mc, md, me, mf, mg, mh⟩⟩
    rw [List.map_drop, List.length_drop]
    exact (HR3.out.drop_ (by omega) hc1).set8w (apart_drop HAP.out) ⟨ma, mb, mc, md, me, mf, mg, mh⟩
   case measure => simp; omega
  ·
   have d9 := strm_c9 hB
   clear hB
   have hl300 : l.length ≤ 140737488351232 := by rw [List.length_append] at hl; omega
   go_upto_region 6 with (at_builtin; refine wpList_append_any _ rfl (.const (.slice none 0 0)) (.tmp 39) _ rfl wr.heap.size 5 i0 (.int .u8 0) 1 Tryz.underlying22 HI.out HZ0.out HZ1.out HZ2.out rfl _ 0 [] rfl (World.ownsRow_nil _ _ _ _) A' l.length c' (l.map u8v) rfl HR.out (u8v_one _) ?_ ?_ (Nat.le_refl _) ?_)
   ·
    unfold maxLen; omega
   ·
    omega
   intro A5 c5 w5 hown hgrow5 hat5
   try simp only [Nat.zero_add, List.nil_append] at hown
   have hbl := (Below.refl wr.heap.size wr).grown hgrow5 (Nat.le_refl _) (by intro g hg; cases hg)
   clear hgrow5 hat5
   have hlt5 := HB.out.lt
   have hb5 := HB.out.below hbl HB.out.lt
   have f9 := hb5.frozen 9
   have k9 := strm_c9 hb5
   have HB5 := Lib.hid hb5
   have hap5 : ∀ a, A5 = some a → a.block ≠ sb := fun a ha e => by
    subst ha
    have h1 := (hown.lt a.block rfl).1
    omega
   have HAP5 := Lib.hid hap5
   have hty : ∀ a, A5 = some a → ∃ cs fr, w5.heap[a.block]? = some (.cells cs 5 fr) := fun a ha => by
    subst ha
    rcases hown.2 with ⟨h, _⟩ | ⟨g, cap, cur, h, _, hh, _⟩
    ·
     injection h with h; cases h
    ·
     injection h with h; cases h; exact ⟨_, _, hh⟩
   have HTY := Lib.hid hty
   clear hty
   have HR5 := Lib.hid (Reads.of_own hown)
   have HO5 := Lib.hid (HO.out.after hbl)
   have hd := absorb_done t l hlt
   have HD := Lib.hid (HAB.out.trans hd)
   clear hown hbl hb5 hap5 hd HAB HB HR HAP HO
   try simp only [Nat.zero_add]
   go_wp2_with fail
   go_end0
   refine ⟨rfl, ?_, HO5.out.setCell (by simp) _⟩
   rw [HD.out, HN.out]
   exact ⟨A5, c5, HB5.out.strm9 _, HR5.out.setCell (fun a ha => HAP5.out a ha) _, fun a ha => ⟨HAP5.out a ha, by obtain ⟨cs, fr, h⟩ := HTY.out a ha; exact ⟨cs, fr, by rw [Below.heap_setCell w5 _ _ _ (HAP5.out a ha)]; exact h⟩⟩⟩
end Go.Proofs.YtpafenlcgcenlaaGreatDoor
namespace Go.Proofs.YtpafenlcgcenlaaGreatDoor
open Go Go.RowKit
set_option linter.unusedVariables false
set_option linter.unusedSimpArgs false
theorem u64_mask32n (n : UInt64) : bits .and .u64 (n.toNat : Int) 4294967295 % 4294967296 = ((n.toUInt32).toNat : Int) := by
 have hn := n.toNat_lt
 rw [u64_and _ 4294967295 (by omega) (by omega) (by omega) (by omega), show ((4294967295 : Int).toNat) = 2 ^ 32 - 1 from rfl, Int.toNat_natCast, Nat.and_two_pow_sub_one_eq_mod, UInt64.toNat_toUInt32]
 omega
theorem reight_c (n : UInt64) (w : World) : Calls Tryz.prog 105 #[u64v n] w (MadeBytes w (long8 n)) := by
 obtain ⟨i0, hi, hz0, hz1, hz2⟩ := info_parts info_u8
 have HI := Lib.hid hi
 have HZ0 := Lib.hid hz0
 have HZ1 := Lib.hid hz1
 have HZ2 := Lib.hid hz2
 clear hi hz0 hz1 hz2
 have hn : (n.toNat : Int) < 18446744073709551616 := by have := n.toNat_lt; omega
 have v1 : (n.toNat : Int) / (4294967296 : Int) = (((n >>> 32).toUInt32).toNat : Int) := by
  rw [UInt64.toNat_toUInt32, UInt64.toNat_shiftRight, show ((32 : UInt64).toNat % 64) = 32 from rfl, Nat.shiftRight_eq_div_pow]
  omega
 have v2 := u64_mask32n n
 have V1 := Lib.hid v1
 have V2 := Lib.hid v2
 clear v1 v2
 go_enter Tryz.func105, Tryz.ntmps105
 go_wp2_with fail
 rw [V1.out]
 refine (rbytes_c _ w).mono ?_
 rintro e w1 ⟨rfl, hB1, hb1⟩
 go_wp2_with fail
 rw [V2.out]
 refine (rbytes_c _ w1).mono ?_
 rintro e w2 ⟨rfl, hB2, hb2⟩
 have s1 := hb1.size
 have hB1' := hB1.below hb2 hB1.lt
 have hown := hB1'.own (base := w.heap.size) (Nat.le_refl _) (by simp [bytes4]; unfold maxLen; omega)
 have hown2 : w2.ownsRow w.heap.size 5 1 (.slice (some ⟨w.heap.size, 0, none⟩) 4 4) 4 ((bytes4 (n >>> 32).toUInt32).map u8v) := hown
 have HO := Lib.hid hown2
 have HR := Lib.hid (hB2.bytes (n := 4) rfl)
 have hbs := Lib.hid (hb1.trans (hb2.mono s1))
 have hsz := hbs.out.size
 clear hown hown2 hB1 hB2 hB1' hb1 hb2
 go_wp2_with (at_builtin; refine wpList_append_any _ rfl (.tmp 6) (.tmp 10) _ rfl w.heap.size 5 i0 (.int .u8 0) 1 Tryz.underlying22 HI.out HZ0.out HZ1.out HZ2.out rfl _ 4 ((bytes4 (n >>> 32).toUInt32).map u8v) rfl HO.out (some ⟨w1.heap.size, 0, none⟩) 4 4 ((bytes4 n.toUInt32).map u8v) rfl HR.out (u8v_one _) (by unfold maxLen; omega) (by omega) hsz ?_; intro A3 c3 w3 hown3 hgrow3 hat3; have HO3 := Lib.hid hown3; have HG3 := Lib.hid hgrow3; clear hown3 hgrow3 hat3)
 go_ret
 refine ⟨A3, c3, rfl, ?_, hbs.out.grown HG3.out hsz (fun g hg => (HO.out.lt g hg).1)⟩
 have h := HO3.out
 simp only [← List.map_append] at h
 exact h
end Go.Proofs.YtpafenlcgcenlaaGreatDoor
namespace Go.Proofs.YtpafenlcgcenlaaGreatDoor
open Go Go.RowKit
set_option linter.unusedVariables false
set_option linter.unusedSimpArgs false
theorem info_s8 : (Tryz.prog.info? 5).map (·.size) = some 1 := by kernel_rfl
theorem Reads.src4 {w : World} {A d : Option Addr} {n : Nat} {xs : List Value} (h : Reads w A n xs) : 0 < xs.length → d = d ∧ ∃ x, A = some x ∧ ∀ j v, xs[j]? = some v → w.cell? (x.add j) = some v := by
 intro hn
 obtain ⟨b, o, e, _, hc⟩ := h.2 (by have := h.1; omega)
 exact ⟨rfl, _, e, fun j v hv => by rw [add_off]; exact hc j v hv⟩
theorem below_undrew {B : Nat} {w w' : World} (h : Below B w.drew w') : Below B w w' := ⟨h.os, h.tape, h.output, h.size, h.block⟩
def outTo (t : St) (k : Nat) : List UInt8 := toldTo t k ++ List.replicate (32 - k * 4) 0
theorem toldTo_len (t : St) (k : Nat) (hk : k ≤ 8) : (toldTo t k).length = k * 4 := by
 unfold toldTo
 obtain ⟨a, b, c, d, e, f, g, h⟩ := t
 have h9 : k = 0 ∨ k = 1 ∨ k = 2 ∨ k = 3 ∨ k = 4 ∨ k = 5 ∨ k = 6 ∨ k = 7 ∨ k = 8 := by omega
 rcases h9 with rfl | rfl | rfl | rfl | rfl | rfl | rfl | rfl | rfl <;> rfl
theorem outTo_len (t : St) (k : Nat) (hk : k ≤ 8) : (outTo t k).length = 32 := by
 unfold outTo; rw [List.length_append, toldTo_len t k hk, List.length_replicate]; omega
theorem toldTo_succ (t : St) (k : Nat) (hk : k < 8) : toldTo t (k + 1) = toldTo t k ++ bytes4 (t.words.getD k 0) := by
 unfold toldTo
 obtain ⟨a, b, c, d, e, f, g, h⟩ := t
 have h9 : k = 0 ∨ k = 1 ∨ k = 2 ∨ k = 3 ∨ k = 4 ∨ k = 5 ∨ k = 6 ∨ k = 7 := by omega
 rcases h9 with rfl | rfl | rfl | rfl | rfl | rfl | rfl | rfl <;> rfl
theorem outTo_splice (t : St) (k : Nat) (hk : k < 8) : splice ((outTo t k).map u8v) (k * 4) ((bytes4 (t.words.getD k 0)).map u8v) = (outTo t (k + 1)).map u8v := by
 have hl := toldTo_len t k (by omega)
 unfold splice outTo
 rw [toldTo_succ t k hk, List.map_append, List.map_append, List.map_append, List.take_append_of_le_length (by rw [List.length_map, hl]; exact Nat.le_refl _), List.take_of_length_le (by rw [List.length_map, hl]; exact Nat.le_refl _)]
 rw [List.length_map, bytes4_len, List.drop_append, List.drop_eq_nil_of_le (by rw [List.length_map, hl]; omega), List.nil_append, List.length_map, hl, List.map_replicate, List.map_replicate, List.drop_replicate, List.append_assoc]
 congr 3
 omega
set_option maxRecDepth 100000 in
theorem rsum_c (w : World) (sb : Nat) (s : St) (n : UInt64) (rest : List UInt8) (h : RStreamAt w sb s n rest) (hr : rest.length ≤ 64) :
  Calls Tryz.prog 62 #[.pointer (some ⟨sb, 0, none⟩)] w fun e w' => e = .returned (.agg ((digest s n rest).map u8v).toArray) ∧ Below w.heap.size w w' := by
 obtain ⟨i0, hi, hz0, hz1, hz2⟩ := info_parts info_u8
 have HI := Lib.hid hi
 have HZ0 := Lib.hid hz0
 have HZ1 := Lib.hid hz1
 have HZ2 := Lib.hid hz2
 obtain ⟨A, c2, hB0, hR, hap⟩ := h.obj
 have hB : Blk w sb 163 (strm s n (.slice A rest.length c2)) := hB0
 have hlt := hB.lt
 have c8 := strm_c8 hB
 have c9 := strm_c9 hB
 have HB := Lib.hid hB
 have HR := Lib.hid hR
 clear h hB hR hB0 hi hz0 hz1 hz2
 go_enter Tryz.func62, Tryz.ntmps62
 go_upto_region 1 with fail
 have hZ : Blk (w.alloc (.cells zero32 39)) w.heap.size 39 zero32 := Blk.new w _ _
 have hb1 : Below w.heap.size w (w.alloc (.cells zero32 39)) := (Below.refl _ _).alloc (Nat.le_refl _) _
 have hs1 : (w.alloc (.cells zero32 39)).heap.size = w.heap.size + 1 := by simp
 generalize w.alloc (.cells zero32 39) = w1 at hZ hb1 hs1 ⊢
 have R1 := Lib.hid (HR.out.below hb1)
 have k9 : w1.cell? ⟨sb, 9, none⟩ = some (.slice A rest.length c2) := by rw [hb1.cell hlt]; exact c9
 clear c9 c8
 go_upto_region 2 with (at_builtin; refine wpList_append_any _ rfl (.const (.slice none 0 0)) (.tmp 10) _ rfl w1.heap.size 5 i0 (.int .u8 0) 1 Tryz.underlying22 HI.out HZ0.out HZ1.out HZ2.out rfl _ 0 [] rfl (World.ownsRow_nil _ _ _ _) A rest.length c2 (rest.map u8v) rfl R1.out (u8v_one _) ?_ ?_ (Nat.le_refl _) ?_)
 ·
  unfold maxLen; omega
 ·
  omega
 intro A2 c3 w2 hown hgrow hat
 try simp only [Nat.zero_add, List.nil_append] at hown
 try simp only [Nat.zero_add]
 have hbl := (Below.refl w1.heap.size w1).grown hgrow (Nat.le_refl _) (by intro g hg; cases hg)
 clear hgrow hat
 have hs2 := hbl.size
 have hb2 : Below (w.heap.size + 1) w1 w2 := hbl.mono (by omega)
 have hZ2 := hZ.below hb2 (by omega)
 have hb02 := hb1.trans (hb2.mono (by omega))
 have HO := Lib.hid (own_base hown (base' := w.heap.size + 1) (by omega))
 have HZ3 := Lib.hid hZ2
 have HB2 := Lib.hid hb02
 clear hZ hb1 hown hbl hb2 hZ2 hb02 k9 R1
 go_wp2_with (at_builtin; refine wpList_append_any _ rfl (.tmp 12) (.tmp 13) _ rfl (w.heap.size + 1) 5 i0 (.int .u8 0) 1 Tryz.underlying22 HI.out HZ0.out HZ1.out HZ2.out rfl _ rest.length (rest.map u8v) rfl (HO.out.alloc _) (some ⟨w2.heap.size, 0, none⟩) 1 1 [u8v 128] rfl ((Blk.new w2 5 #[u8v 128]).reads 0 (by simp)) (by intro u hu; simp at hu; subst hu; rfl) (by unfold maxLen; omega) (by omega) (by simp; omega) ?_; intro A3 c4 w3 hown3 hgrow3 hat3; have HO3 := Lib.hid hown3; have HG3 := Lib.hid hgrow3; clear hown3 hgrow3 hat3)
 have hl2 := HO.out.lt
 have hb3 := (HB2.out.alloc (by have := HB2.out.size; omega) (.cells #[u8v 128] 5)).grown HG3.out (by have := HB2.out.size; simp; omega) (fun g hg => by have := (hl2 g hg).1; omega)
 have hz3 := (HZ3.out.alloc (.cells #[u8v 128] 5)).grown HG3.out (fun e => by have := (hl2 w.heap.size e.symm).1; omega)
 have ho3 : w3.ownsRow (w.heap.size + 1) 5 1 (.slice A3 (rest.length + 1) c4) (rest.length + 1) ((rest ++ 128 :: List.replicate 0 0).map u8v) := by
  have := HO3.out
  simp at this ⊢
  exact this
 have HO4 := Lib.hid ho3
 have HB4 := Lib.hid hb3
 have HZ4 := Lib.hid hz3
 clear HO3 HG3 HZ3 HB2 HO hl2 hb3 hz3 ho3
 go_loopw [3] (fun v wr => ∃ (k : Nat) (A' : Option Addr) (c' : Nat), k ≤ zk rest.length ∧ v = .slice A' (rest.length + 1 + k) c' ∧ wr.ownsRow (w.heap.size + 1) 5 1 (.slice A' (rest.length + 1 + k) c') (rest.length + 1 + k) ((rest ++ 128 :: List.replicate k 0).map u8v) ∧ Below w.heap.size w wr ∧ Blk wr w.heap.size 39 zero32) (fun v _ => rest.length + 1 + zk rest.length - (match v with | .slice _ k _ => k | _ => 0))
 case atStart => exact ⟨0, A3, c4, Nat.zero_le _, rfl, HO4.out, HB4.out, HZ4.out⟩
 case round =>
  clear HO4 HB4 HZ4
  obtain ⟨k, A', c', hk, rfl, ho, hb, hz⟩ := hrel
  have HO := Lib.hid ho
  have HBW := Lib.hid hb
  have HZ := Lib.hid hz
  clear ho hb hz
  have hzk : zk rest.length < 64 := by unfold zk; omega
  by_cases hlt2 : k < zk rest.length
  ·
   have hq : (((rest.length : Int) + 1 + (k : Int)) % 64 != 56) = true := by
    have h1 : ¬ (((rest.length : Int) + 1 + (k : Int)) % 64 = 56) := by unfold zk at hlt2; omega
    simpa using h1
   have hbs := HBW.out.size
   go_wp2_with (at_builtin; refine wpList_append_any _ rfl (.tmp 19) (.tmp 20) _ rfl (w.heap.size + 1) 5 i0 (.int .u8 0) 1 Tryz.underlying22 HI.out HZ0.out HZ1.out HZ2.out rfl _ (rest.length + 1 + k) ((rest ++ 128 :: List.replicate k 0).map u8v) rfl (HO.out.alloc _) (some ⟨wr.heap.size, 0, none⟩) 1 1 [u8v 0] rfl ((Blk.new wr 5 #[u8v 0]).reads 0 (by simp)) (by intro u hu; simp at hu; subst hu; rfl) (by unfold maxLen; omega) (by omega) (by have := HZ.out.lt; simp; omega) ?_; intro A3 c4 w3 hown3 hgrow3 hat3; have HO3 := Lib.hid hown3; have HG3 := Lib.hid hgrow3; clear hown3 hgrow3 hat3)
   have hl2 := HO.out.lt
   have hb3 := (HBW.out.alloc (by omega) (.cells #[u8v 0] 5)).grown HG3.out (by simp; omega) (fun g hg => by have := (hl2 g hg).1; omega)
   have hz3 := (HZ.out.alloc (.cells #[u8v 0] 5)).grown HG3.out (fun e => by have := (hl2 w.heap.size e.symm).1; omega)
   go_roundw
   case rel =>
    refine ⟨k + 1, A3, c4, hlt2, rfl, ?_, hb3, hz3⟩
    have e : (rest ++ 128 :: List.replicate (k + 1) 0).map u8v = (rest ++ 128 :: List.replicate k 0).map u8v ++ [u8v 0] := by rw [List.replicate_succ']; simp
    rw [e]
    exact HO3.out
   case measure => simp; omega
  ·
   obtain rfl : k = zk rest.length := by omega
   have hq : (((rest.length : Int) + 1 + (zk rest.length : Nat)) % 64) = 56 := by unfold zk; omega
   have d8 := strm_c8 (HB.out.below HBW.out hlt)
   go_wp2_with fail
   have hmul : IntKind.u64.wrap ((n.toNat : Int) * 8) = ((n * 8).toNat : Int) := by
    rw [UInt64.toNat_mul]
    simp [IntKind.wrap, IntKind.bits, IntKind.signed]
   rw [hmul]
   clear hmul
   have hs0 := HBW.out.size
   have hzl := HZ.out.lt
   refine (reight_c (n * 8) wr).mono ?_
   rintro e w5 ⟨A5, c5, rfl, hown5, hbl5⟩
   have hs5 := hbl5.size
   have hll : (long8 (n * 8)).length = 8 := rfl
   have hz5 := HZ.out.below hbl5 (by omega)
   have hb5 := HBW.out.trans (hbl5.mono (by omega))
   have ho5 := own_only HO.out (Only.of_below (S := []) hbl5) (by simp)
   have hr5 := Reads.of_own hown5
   rw [hll] at hr5 hown5 ⊢
   have HZ5 := Lib.hid hz5
   have HB5 := Lib.hid hb5
   have HO5 := Lib.hid ho5
   have HR5 := Lib.hid hr5
   clear hown5 hbl5 hll hz5 hb5 ho5 hr5 d8
   go_upto_region 6 with (at_builtin; refine wpList_append_any _ rfl (.tmp 22) (.tmp 28) _ rfl (w.heap.size + 1) 5 i0 (.int .u8 0) 1 Tryz.underlying22 HI.out HZ0.out HZ1.out HZ2.out rfl _ (rest.length + 1 + zk rest.length) ((rest ++ 128 :: List.replicate (zk rest.length) 0).map u8v) ?_ HO5.out A5 8 c5 ((long8 (n * 8)).map u8v) ?_ HR5.out (u8v_one _) ?_ ?_ ?_ ?_)
   ·
    rfl
   ·
    rfl
   ·
    unfold maxLen; omega
   ·
    omega
   ·
    omega
   intro A6 c6 w6 hown6 hgrow6 hat6
   have hl5 := HO5.out.lt
   have hb6 := HB5.out.grown hgrow6 (by omega) (fun g hg => by have := (hl5 g hg).1; omega)
   have hz6 := HZ5.out.grown hgrow6 (fun e => by have := (hl5 w.heap.size e.symm).1; omega)
   have hs6 := hgrow6.size
   have d0 := strm_c0 (HB.out.below hb6 hlt)
   have d1 := strm_c1 (HB.out.below hb6 hlt)
   have d2 := strm_c2 (HB.out.below hb6 hlt)
   have d3 := strm_c3 (HB.out.below hb6 hlt)
   have d4 := strm_c4 (HB.out.below hb6 hlt)
   have d5 := strm_c5 (HB.out.below hb6 hlt)
   have d6 := strm_c6 (HB.out.below hb6 hlt)
   have d7 := strm_c7 (HB.out.below hb6 hlt)
   have HO6 := Lib.hid hown6
   have HB6 := Lib.hid hb6
   have HZ6 := Lib.hid hz6
   clear hown6 hb6 hz6 hgrow6 hat6 hl5 HO5 HB5 HZ5 HR5 HO HBW HZ
   go_upto_region 7 with fail
   have hown6 := HO6.out.alloc (.cells s.vals 154)
   have hz6 := HZ6.out.alloc (.cells s.vals 154)
   have hb6 := HB6.out.alloc HB6.out.size (.cells s.vals 154)
   have hv6 : Blk (w6.alloc (.cells s.vals 154)) w6.heap.size 154 s.vals := Blk.new w6 _ _
   have ha6 : ∀ a, A6 = some a → a.block ≠ w6.heap.size := fun a ha e => by
    subst ha
    have := (HO6.out.lt a.block rfl).2; omega
   have hzl6 := HZ6.out.lt
   change Code.wp _ _ _ _ (w6.alloc (.cells s.vals 154))
   generalize w6.alloc (.cells s.vals 154) = w7 at hown6 hz6 hb6 hv6 ⊢
   have hpl : (padded n rest).length = rest.length + 1 + zk rest.length + 8 := by
    have hll : (long8 (n * 8)).length = 8 := rfl
    simp only [padded, List.length_append, List.length_cons, List.length_replicate, hll]; omega
   have hc6 := own_caps hown6
   have hr6 : Reads w7 A6 (padded n rest).length ((padded n rest).map u8v) := by
    have h := Reads.of_own hown6
    have e : (padded n rest).map u8v = (rest.map u8v ++ u8v 128 :: (List.replicate (zk rest.length) (u8v 0) ++ (long8 (n * 8)).map u8v)) := by simp [padded]
    rw [hpl, e]
    exact h
   rw [← hpl] at hc6 ⊢
   have HV6 := Lib.hid hv6
   have HZ6 := Lib.hid hz6
   have HB6 := Lib.hid hb6
   have HR6 := Lib.hid hr6
   have HA6 := Lib.hid ha6
   have HC6 := Lib.hid hc6
   have hzb : w.heap.size < w6.heap.size := hzl6
   clear hv6 hz6 hb6 hr6 ha6 hc6 hown6 HO6 d0 d1 d2 d3 d4 d5 d6 d7 HB HR hs6 hs5
   generalize w6.heap.size = hb at *
   have hpm : (padded n rest).length % 64 = 0 := by rw [hpl]; unfold zk; omega
   have hpl2 : (padded n rest).length ≤ 1000 := by rw [hpl]; omega
   clear hpl hq
   generalize hpe : padded n rest = pl at *
   have HPE := Lib.hid hpe
   clear hpe
   go_loopw [3] (fun v wx => ∃ (t : St) (l : List UInt8) (A' : Option Addr) (c' : Nat), v = .slice A' l.length c' ∧ absorb s pl = absorb t l ∧ l.length % 64 = 0 ∧ l.length ≤ 1000 ∧ Reads wx A' l.length (l.map u8v) ∧ (∀ a, A' = some a → a.block ≠ hb) ∧ l.length ≤ c' ∧ c' ≤ maxLen ∧ Blk wx hb 154 t.vals ∧ Blk wx w.heap.size 39 zero32 ∧ Below w.heap.size w wx) (fun v _ => match v with | .slice _ k _ => k | _ => 0)
   case atStart => exact ⟨s, pl, A6, c6, rfl, rfl, hpm, hpl2, HR6.out, HA6.out, HC6.out.1, HC6.out.2, HV6.out, HZ6.out, HB6.out⟩
   case round =>
    clear HR6 HA6 HC6 HV6 HZ6 HB6 hpm hpl2
    obtain ⟨t, l, A', c', rfl, hab, hmod, hl, hR, hap, hc1, hc2, hv, hz, hbw⟩ := hrel
    have HAB := Lib.hid hab
    have HR := Lib.hid hR
    have HAP := Lib.hid hap
    have HV := Lib.hid hv
    have HZ := Lib.hid hz
    have HBW := Lib.hid hbw
    unfold maxLen at hc2
    have hbs := hv.lt
    clear hab hR hap hv hz hbw
    by_cases hlt : 64 ≤ l.length
    ·
     have hpos : 0 < l.length := by omega
     go_upto_region 8 with fail
     obtain ⟨T, F, hF, hFs⟩ := family (Below wr.heap.size wr)
     have d0 : ∀ x, (F x).cell? ⟨hb, 0, none⟩ = some (u32v t.a) := fun x => by rw [(HV.out.below (hF x) hbs).cell]; rfl
     have d1 : ∀ x, (F x).cell? ⟨hb, 1, none⟩ = some (u32v t.b) := fun x => by rw [(HV.out.below (hF x) hbs).cell]; rfl
     have d2 : ∀ x, (F x).cell? ⟨hb, 2, none⟩ = some (u32v t.c) := fun x => by rw [(HV.out.below (hF x) hbs).cell]; rfl
     have d3 : ∀ x, (F x).cell? ⟨hb, 3, none⟩ = some (u32v t.d) := fun x => by rw [(HV.out.below (hF x) hbs).cell]; rfl
     have d4 : ∀ x, (F x).cell? ⟨hb, 4, none⟩ = some (u32v t.e) := fun x => by rw [(HV.out.below (hF x) hbs).cell]; rfl
     have d5 : ∀ x, (F x).cell? ⟨hb, 5, none⟩ = some (u32v t.f) := fun x => by rw [(HV.out.below (hF x) hbs).cell]; rfl
     have d6 : ∀ x, (F x).cell? ⟨hb, 6, none⟩ = some (u32v t.g) := fun x => by rw [(HV.out.below (hF x) hbs).cell]; rfl
     have d7 : ∀ x, (F x).cell? ⟨hb, 7, none⟩ = some (u32v t.h) := fun x => by rw [(HV.out.below (hF x) hbs).cell]; rfl
     have HF := Lib.hid hF
     have HFS := Lib.hid hFs
     have h0 : ∃ x, F x = wr.drew := (hFs _ (Below.refl _ _).drew).imp fun _ h => h.symm
     haveI : Nonempty T := by obtain ⟨x, _⟩ := h0; exact ⟨x⟩
     have hmix := fun x => (rblock_c t A' c' (l.take 64) (F x) (by omega) (by omega) (by rw [List.map_take]; exact (HR.out.below (HF.out x)).take (by omega))).mono fun e w' h => (⟨h.1, HFS.out _ ((HF.out x).trans (h.2.mono (HF.out x).size))⟩ : e = _ ∧ ∃ y, w' = F y)
     have HM := Lib.hid hmix
     clear hF hFs hmix
     refine wp_region_fam_tail F 4 (by kernel_rfl) (by kernel_rfl) h0 ?_
     simp only [List.take_succ_cons, List.take_zero, List.drop_succ_cons, List.drop_zero]
     repeat (go_big_quiet_step (exact HM.out _))
     refine wpQuiet_nil ?_
     intro x
     have hb3 := HV.out.below (HF.out x) hbs
     have hr3 := HR.out.below (HF.out x)
     have hz3 := HZ.out.below (HF.out x) (by omega)
     have hw3 := HBW.out.trans ((HF.out x).mono HBW.out.size)
     have f0 := hb3.frozen 0
     have f1 := hb3.frozen 1
     have f2 := hb3.frozen 2
     have f3 := hb3.frozen 3
     have f4 := hb3.frozen 4
     have f5 := hb3.frozen 5
     have f6 := hb3.frozen 6
     have f7 := hb3.frozen 7
     have e0 := d0 x
     have e1 := d1 x
     have e2 := d2 x
     have e3 := d3 x
     have e4 := d4 x
     have e5 := d5 x
     have e6 := d6 x
     have e7 := d7 x
     have HB3 := Lib.hid hb3
     have HR3 := Lib.hid hr3
     have HZ3 := Lib.hid hz3
     have HW3 := Lib.hid hw3
     clear hb3 hr3 hz3 hw3 d0 d1 d2 d3 d4 d5 d6 d7 h0
     clear HM HFS
     have hab2 := absorb_more t l hlt
     have HAB2 := Lib.hid hab2
     clear hab2
     generalize F x = w7 at *
     clear HF
     generalize mixS t (l.take 64) = t2 at *
     obtain ⟨ma, mb, mc, md, me, mf, mg, mh⟩ := t2
     have hv : (St.mk ma mb mc md me mf mg mh).vals = #[u32v ma, u32v mb, u32v mc, u32v md, u32v me, u32v mf, u32v mg, u32v mh] := rfl
     rw [hv]
     clear hv
     go_wp2_with fail
     go_roundw
     case rel =>
      refine ⟨⟨ma, mb, mc, md, me, mf, mg, mh⟩, l.drop 64, _, _, by rw [List.length_drop], HAB.out.trans HAB2.out, by rw [List.length_drop]; omega, by rw [List.length_drop]; omega, ?_, apart_drop HAP.out, by rw [List.length_drop]; omega, by unfold maxLen; omega, ?_, HZ3.out.far8 (by omega), below_set8 HW3.out (by omega)⟩
      ·
       rw [List.map_drop, List.length_drop]
       exact (HR3.out.drop_ (by omega) hc1).set8w (apart_drop HAP.out) ⟨ma, mb, mc, md, me, mf, mg, mh⟩
      ·
       exact Blk.set8 (show Blk w7 hb 154 #[u32v t.a, u32v t.b, u32v t.c, u32v t.d, u32v t.e, u32v t.f, u32v t.g, u32v t.h] from HB3.out)
     case measure => simp; omega
    ·
     have hl0 : l.length = 0 := by omega
     have hln : l = [] := List.eq_nil_of_length_eq_zero hl0
     subst hln
     have hd := absorb_done t [] (by simp)
     have HD := Lib.hid (HAB.out.trans hd)
     clear hd HAB
     have hsw := HBW.out.size
     rw [List.length_nil]
     go_upto_region 11 with fail
     have ho7 : Blk (wr.alloc (.cells zero32 39)) wr.heap.size 39 ((outTo t 0).map u8v).toArray := Blk.new wr 39 zero32
     have hv7 := HV.out.alloc (.cells zero32 39)
     have hz7 := HZ.out.alloc (.cells zero32 39)
     have hb7 := HBW.out.alloc hsw (.cells zero32 39)
     have hhb : hb < wr.heap.size := HV.out.lt
     change Code.wp _ _ _ _ (wr.alloc (.cells zero32 39))
     generalize wr.alloc (.cells zero32 39) = w8 at ho7 hv7 hz7 hb7 ⊢
     generalize wr.heap.size = ob at ho7 hhb ⊢
     have HO7 := Lib.hid ho7
     have HV7 := Lib.hid hv7
     have HZ7 := Lib.hid hz7
     have HB7 := Lib.hid hb7
     clear ho7 hv7 hz7 hb7 HV HZ HBW HR HAP hsw
     go_wp2_with fail
     go_loopw [6] (fun i wx => ∃ k : Nat, k ≤ 8 ∧ i = .int .i64 k ∧ Blk wx ob 39 ((outTo t k).map u8v).toArray ∧ Blk wx hb 154 t.vals ∧ Blk wx w.heap.size 39 zero32 ∧ Below w.heap.size w wx) (fun i _ => 8 - (intOf i).toNat)
     case atStart => exact ⟨0, by omega, rfl, HO7.out, HV7.out, HZ7.out, HB7.out⟩
     case round =>
      clear HO7 HV7 HZ7 HB7
      obtain ⟨k, hk, rfl, ho, hv, hz, hbw⟩ := hrel
      have HO := Lib.hid ho
      have HV := Lib.hid hv
      have HZ := Lib.hid hz
      have HBW := Lib.hid hbw
      have hvl := hv.lt
      have hol := ho.lt
      clear ho hv hz hbw
      by_cases hlt : k < 8
      ·
       have dk : wr.cell? ⟨hb, k, none⟩ = some (u32v (t.words.getD k 0)) := cell32 (L := t.words) HV.out k hlt
       have hsp : splice ((outTo t k).map u8v) (k * 4) ((bytes4 (t.words.getD k 0)).map u8v) = (outTo t (k + 1)).map u8v := outTo_splice t k hlt
       have hfit : k * 4 + ((bytes4 (t.words.getD k 0)).map u8v).length ≤ ((outTo t k).map u8v).length := by
        rw [List.length_map, List.length_map, bytes4_len, outTo_len t k hk]; omega
       have HSP := Lib.hid hsp
       clear hsp
       have hmin : ((bytes4 (t.words.getD k 0)).map u8v).length = Nat.min 4 (32 - k * 4) := by
        rw [List.length_map, bytes4_len]; show 4 = min 4 (32 - k * 4); omega
       have hwo : w.heap.size ≤ ob := by omega
       have e4 : IntKind.i64.wrap (4 * (k : Int)) = (k : Int) * 4 := by rw [Int.mul_comm]; exact IntWalk.i64_in _ (by omega)
       have b0 : 0 ≤ (k : Int) * 4 := by omega
       have b1 : (k : Int) * 4 ≤ 32 := by omega
       have b2 : ((k : Int) * 4).toNat = k * 4 := by omega
       have b3 : ¬ (32 = k * 4) := by omega
       generalize t.words.getD k 0 = x at *
       go_upto_region 14 with fail
       go_region_law (first
        | (refine step_copy_splice (by rfl) (.tmp 49) (.tmp 53) 22 22 (by rfl) 5 Tryz.underlying22 info_s8 (some ⟨ob, k * 4, none⟩) (some ⟨wr.heap.size, 0, none⟩) (32 - k * 4) (32 - k * 4) 4 4 (by rfl) (by rfl) ob (k * 4) ((outTo t k).map u8v) 39 HO9.out ((bytes4 x).map u8v) hmin HR9.out hfit (u8v_one _) ob _ (Below.refl _ _) (Nat.le_refl _) ?_; intro w10 hg10 hb10)
        | (go_simp; go_at_call 106; refine (rbytes_c x _).mono ?_; rintro e w9 ⟨rfl, hB9, hb9⟩; have hbn : Below wr.heap.size wr w9 := below_undrew hb9; have HO9 := Lib.hid (HO.out.below hbn hol); have HR9 := Lib.hid ((Reads.of_blk hB9).src4 (d := some ⟨ob, k * 4, none⟩)); have HL9 := Lib.hid (HBW.out.trans (hbn.mono HBW.out.size)); have HV9 := Lib.hid (HV.out.below hbn hvl); have HZ9 := Lib.hid (HZ.out.below hbn HZ.out.lt); clear hB9 hb9 hbn))
       have hg11 : Blk w10 ob 39 ((outTo t (k + 1)).map u8v).toArray := by
        have h := hg10.out
        rw [HSP.out] at h
        exact h
       have HG := Lib.hid hg11
       have HV10 := Lib.hid (HV9.out.below hb10 hhb)
       have HZ10 := Lib.hid (HZ9.out.below hb10 (by omega))
       have HL10 := Lib.hid (HL9.out.trans (hb10.mono hwo))
       clear hg10 hg11 hb10 HO9 HR9 HL9 HV9 HZ9 HO HV HZ HBW
       go_wp2_with fail
       go_roundw
       case rel => exact ⟨k + 1, by omega, by go_num, HG.out, HV10.out, HZ10.out, HL10.out⟩
       case measure => simp [intOf]; omega
      ·
       obtain rfl : k = 8 := by omega
       have hoe : outTo t 8 = told t := by
        have hz : (32 - 8 * 4 : Nat) = 0 := rfl
        unfold outTo
        rw [hz, List.replicate_zero, List.append_nil]
        rfl
       have hfin : told t = digest s n rest := by unfold digest; rw [HPE.out, HD.out]
       have hd8 : Blk wr ob 39 ((digest s n rest).map u8v).toArray := by rw [← hfin, ← hoe]; exact HO.out
       have hdl : (digest s n rest).length = 32 := told_len _
       obtain ⟨d, hdd⟩ : ∃ d, digest s n rest = d := ⟨_, rfl⟩
       rw [hdd] at hd8 hdl
       have HDD := Lib.hid hdd
       clear hdd
       have HD8 := Lib.hid hd8
       have hcs : ((d.map u8v).toArray).size = 32 := by simp [hdl]
       clear hoe hfin hd8 HO HD HPE
       go_upto_region 15 with fail
       refine wp_region_lit ?_
       refine wpList_load_row rfl 39 _ rfl ob rfl 39 (d.map u8v).toArray (0, 0) _ HD8.out Tryz.underlying39 rfl (by rw [hcs]; exact info_b32) ?_
       refine wpList_store_row rfl 39 _ _ rfl w.heap.size (d.map u8v).toArray rfl rfl 39 zero32 HZ.out (by rw [hcs]; exact info_b32) (by rw [hcs]; rfl) (bytes_one d) ?_
       refine wpList_nil ?_
       rename_i K2 hK2
       show K2 _ _
       refine hK2 _ _ ?_
       go_wp2_with fail
       refine bodyPost_ret (results_cell_row rfl _ _ w.heap.size 39 (d.map u8v).toArray (0, 0) _ rfl (HZ.out.setRow _) Tryz.underlying39 rfl (by rw [hcs]; exact info_b32)) rfl ?_
       exact ⟨by rw [HDD.out], below_setRow HBW.out (Nat.le_refl _) _⟩
end Go.Proofs.YtpafenlcgcenlaaGreatDoor
namespace Go.Proofs.YtpafenlcgcenlaaGreatDoor
open Go Go.RowKit
set_option linter.unusedVariables false
set_option linter.unusedSimpArgs false
set_option maxRecDepth 100000 in
theorem rsha_c (w : World) (B : Option Addr) (c : Nat) (b : List UInt8) (r : Reads w B b.length (b.map u8v)) (hb : b.length ≤ 274877906944) :
    Calls Tryz.prog 28 #[.slice B b.length c] w fun e w' => e = .returned (.agg ((sha b).map u8v).toArray) ∧ Below w.heap.size w w' := by
  have R := Lib.hid r
  clear r
  go_enter Tryz.func28, Tryz.ntmps28
  go_wp2_with fail
  have hZ : Blk (w.alloc (.cells zero32 39)) w.heap.size 39 zero32 := Blk.new w _ _
  have hb1 : Below w.heap.size w (w.alloc (.cells zero32 39)) := (Below.refl _ _).alloc (Nat.le_refl _) _
  have hs1 : (w.alloc (.cells zero32 39)).heap.size = w.heap.size + 1 := by simp
  generalize w.alloc (.cells zero32 39) = w1 at hZ hb1 hs1 ⊢
  refine (rsnew_c w1).mono ?_
  rintro e w2 ⟨sb, rfl, hst, hsb, hb2⟩
  have hs2 := hb2.size
  have HZ2 := Lib.hid (hZ.below hb2 (by omega))
  have HB2 := Lib.hid (hb1.trans (hb2.mono (by omega)))
  have HR2 := Lib.hid (R.out.below (hb1.trans (hb2.mono (by omega))))
  have HST := Lib.hid hst
  clear hZ hb1 hb2 hst
  go_wp2_with fail
  refine (rwrite_c w2 sb St.first 0 [] B c b HST.out HR2.out (fun h0 a ha => by have := R.out.lt h0 a ha; omega) (by simp) hb).mono ?_
  rintro e w3 ⟨rfl, hst3, ho3⟩
  have hz3 := HZ2.out.only ho3 (by simp; omega)
  have hb3 := ho3.below HB2.out (by omega) (fun k hk => by simp at hk; omega)
  have hlen := absorb_rest St.first b
  have hst4 : RStreamAt w3 sb (absorb St.first b).1 (UInt64.ofNat b.length) (absorb St.first b).2 := by
    have := hst3
    rw [List.nil_append, UInt64.zero_add] at this
    exact this
  have HZ3 := Lib.hid hz3
  have HB3 := Lib.hid hb3
  have HST4 := Lib.hid hst4
  clear hz3 hb3 hst4 hst3 ho3 HZ2 HB2 HST HR2 R
  go_wp2_with fail
  refine (rsum_c w3 sb _ _ _ HST4.out (by omega)).mono ?_
  rintro e w4 ⟨rfl, hb4⟩
  have hs3 := HB3.out.size
  have hz4 := HZ3.out.below hb4 HZ3.out.lt
  have hb5 := HB3.out.trans (hb4.mono hs3)
  have HZ4 := Lib.hid hz4
  have HB4 := Lib.hid hb5
  clear hz4 hb5 hb4 HZ3 HB3 HST4
  change Hid _ at HZ4
  obtain ⟨d, hd⟩ : ∃ d, digest (absorb St.first b).1 (UInt64.ofNat b.length) (absorb St.first b).2 = d := ⟨_, rfl⟩
  have hdl : d.length = 32 := by rw [← hd]; exact told_len _
  have hsd : sha b = d := hd
  rw [hd]
  have HSD := Lib.hid hsd
  clear hd hsd
  rename_i K hK
  refine hK _ _ ?_
  have hcs : ((d.map u8v).toArray).size = 32 := by simp [hdl]
  refine wpList_store_row rfl 39 (.tmp 2) (.tmp 9) rfl w.heap.size (d.map u8v).toArray rfl rfl 39 zero32 HZ4.out (by rw [hcs]; exact info_b32) (by rw [hcs]; rfl) (bytes_one d) ?_
  refine wpList_nil ?_
  rename_i K2 hK2
  show K2 _ _
  refine hK2 _ _ ?_
  go_wp2_with fail
  refine bodyPost_ret (results_cell_row rfl _ _ w.heap.size 39 (d.map u8v).toArray (0, 0) _ rfl (HZ4.out.setRow _) Tryz.underlying39 rfl (by rw [hcs]; exact info_b32)) rfl ?_
  exact ⟨by rw [HSD.out], below_setRow HB4.out (Nat.le_refl _) _⟩
theorem rsha_d (w : World) (B : Option Addr) (n c : Nat) (b : List UInt8) (hn : b.length = n) (r : Reads w B n (b.map u8v)) (hb : n ≤ 274877906944) :
    Calls Tryz.prog 28 #[.slice B n c] w fun e w' => e = .returned (.agg ((sha b).map u8v).toArray) ∧ Below w.heap.size w w' := by
  subst hn
  exact rsha_c w B c b r hb
end Go.Proofs.YtpafenlcgcenlaaGreatDoor
