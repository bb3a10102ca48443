/- The reference's block. -/
import Derived.Test.YtgadnliogceecaaRs2
namespace Go.Proofs.Ytgadnliogceecaa
open Go Go.RowKit
set_option linter.unusedVariables false
set_option linter.unusedSimpArgs false
theorem one_valr (e f g h k y : UInt32) : ((h.toNat : Int) + bits .xor .u32 (bits .xor .u32 ((rotr e 6).toNat : Int) ((rotr e 11).toNat : Int)) ((rotr e 25).toNat : Int) +
      bits .xor .u32 (bits .and .u32 (e.toNat : Int) (f.toNat : Int)) (bits .and .u32 (bits .xor .u32 (e.toNat : Int) 4294967295) (g.toNat : Int)) + (k.toNat : Int) + (y.toNat : Int)) % 4294967296 =
    ((h + (rotr e 6 ^^^ rotr e 11 ^^^ rotr e 25) + (e &&& f ^^^ ~~~e &&& g) + (k + y)).toNat : Int) := by
  rw [w32_not, w32_xor, w32_xor, w32_and, w32_and, w32_xor]
  simp only [UInt32.toNat_add]
  omega
theorem two_valr (a b c : UInt32) : (bits .xor .u32 (bits .xor .u32 ((rotr a 2).toNat : Int) ((rotr a 13).toNat : Int)) ((rotr a 22).toNat : Int) +
      bits .xor .u32 (bits .xor .u32 (bits .and .u32 (a.toNat : Int) (b.toNat : Int)) (bits .and .u32 (a.toNat : Int) (c.toNat : Int))) (bits .and .u32 (b.toNat : Int) (c.toNat : Int))) % 4294967296 =
    (((rotr a 2 ^^^ rotr a 13 ^^^ rotr a 22) + (a &&& b ^^^ a &&& c ^^^ b &&& c)).toNat : Int) := by
  rw [w32_xor, w32_xor, w32_and, w32_and, w32_and, w32_xor, w32_xor]
  simp only [UInt32.toNat_add]
  omega
set_option maxRecDepth 100000 in
set_option maxHeartbeats 4000000 in
theorem rblock_c (s : St) (A : Option Addr) (c : Nat) (l : List UInt8) (w : World) (hc : 64 ≤ c) (hcm : (c : Int) ≤ 9223372036854775807) (r : Reads w A 64 (l.map u8v)) :
    Calls Try.prog 44 #[.agg s.vals, .slice A 64 c] w fun e w' => e = .returned (.agg (mixS s l).vals) ∧ Below w.heap.size w w' := by
  have hl : l.length = 64 := by simpa using r.len
  have R := Lib.hid r
  clear r
  obtain ⟨sa, sb, sc, sd, se, sf, sg, sh⟩ := s
  obtain ⟨S0, hS0⟩ : ∃ S0 : St, S0 = ⟨sa, sb, sc, sd, se, sf, sg, sh⟩ := ⟨_, rfl⟩
  have HS0 := Lib.hid hS0
  clear hS0
  go_enter Try.func44, Try.ntmps44
  go_upto_region 1 with fail
  have hv0 : Blk ((w.alloc (.cells (St.vals ⟨sa, sb, sc, sd, se, sf, sg, sh⟩) 62)).alloc (.cells zero8 62)) w.heap.size 62 (St.vals ⟨sa, sb, sc, sd, se, sf, sg, sh⟩) := (Blk.new w _ _).alloc _
  have hr0 : Blk ((w.alloc (.cells (St.vals ⟨sa, sb, sc, sd, se, sf, sg, sh⟩) 62)).alloc (.cells zero8 62)) (w.heap.size + 1) 62 zero8 := by
    have h := Blk.new (w.alloc (.cells (St.vals ⟨sa, sb, sc, sd, se, sf, sg, sh⟩) 62)) 62 zero8
    rw [show (w.alloc (.cells (St.vals ⟨sa, sb, sc, sd, se, sf, sg, sh⟩) 62)).heap.size = w.heap.size + 1 from by simp] at h
    exact h
  have hb0 : Below w.heap.size w ((w.alloc (.cells (St.vals ⟨sa, sb, sc, sd, se, sf, sg, sh⟩) 62)).alloc (.cells zero8 62)) := ((Below.refl _ _).alloc (Nat.le_refl _) _).alloc (by simp) _
  have hs0 : ((w.alloc (.cells (St.vals ⟨sa, sb, sc, sd, se, sf, sg, sh⟩) 62)).alloc (.cells zero8 62)).heap.size = w.heap.size + 2 := by simp
  change Code.wp _ _ _ _ ((w.alloc (.cells (St.vals ⟨sa, sb, sc, sd, se, sf, sg, sh⟩) 62)).alloc (.cells zero8 62))
  generalize (w.alloc (.cells (St.vals ⟨sa, sb, sc, sd, se, sf, sg, sh⟩) 62)).alloc (.cells zero8 62) = w1 at hv0 hr0 hb0 hs0 ⊢
  go_wp2_with fail
  refine (rconsts_c w1).mono ?_
  rintro e w2 ⟨rfl, hk2, hb2⟩
  have hs2 := hk2.lt
  have hv2 := hv0.below hb2 (by omega)
  have hr2 := hr0.below hb2 (by omega)
  have hb02 := hb0.trans (hb2.mono (by omega))
  rw [hs0] at hk2 hs2 ⊢
  clear hv0 hr0 hb0 hb2 hs0
  go_upto_region 3 with fail
  have hw3 := Blk.new w2 89 ((sw l 0).map u32v).toArray
  have hv3 := hv2.alloc (.cells ((sw l 0).map u32v).toArray 89)
  have hr3 := hr2.alloc (.cells ((sw l 0).map u32v).toArray 89)
  have hk3 := hk2.alloc (.cells ((sw l 0).map u32v).toArray 89)
  have hb3 := hb02.alloc hb02.size (.cells ((sw l 0).map u32v).toArray 89)
  change Code.wp _ _ _ _ (w2.alloc (.cells ((sw l 0).map u32v).toArray 89))
  generalize w2.alloc (.cells ((sw l 0).map u32v).toArray 89) = w3 at hw3 hv3 hr3 hk3 hb3 ⊢
  have hgw : w.heap.size + 2 < w2.heap.size := hs2
  generalize w2.heap.size = gw at hw3 hgw ⊢
  have HW3 := Lib.hid hw3
  have HV3 := Lib.hid hv3
  have HR3 := Lib.hid hr3
  have HK3 := Lib.hid hk3
  have HB3 := Lib.hid hb3
  clear hw3 hv3 hr3 hk3 hb3 hs2 hk2 hv2 hr2 hb02
  go_wp2_with fail
  go_loopw [7] (fun i wr => ∃ k : Nat, k ≤ 64 ∧ i = .int .i64 k ∧ Below w.heap.size w wr ∧ Blk wr gw 89 ((sw l k).map u32v).toArray ∧ Blk wr w.heap.size 62 (St.vals ⟨sa, sb, sc, sd, se, sf, sg, sh⟩) ∧ Blk wr (w.heap.size + 1) 62 zero8 ∧ Blk wr (w.heap.size + 2) 61 kVals) (fun i _ => 64 - (intOf i).toNat)
  case atStart => exact ⟨0, by omega, rfl, HB3.out, HW3.out, HV3.out, HR3.out, HK3.out⟩
  case round =>
    clear HB3 HW3 HV3 HR3 HK3
    obtain ⟨k, hk, rfl, hbel, hB, hV, hZ, hK⟩ := hrel
    have HL := Lib.hid hbel
    have HB := Lib.hid hB
    have HV := Lib.hid hV
    have HZ := Lib.hid hZ
    have HK := Lib.hid hK
    clear hbel hB hZ hV hK
    by_cases hlt : k < 64
    · by_cases h16 : k < 16
      · have e4 : IntKind.i64.wrap (4 * (k : Int)) = (k : Int) * 4 := by rw [Int.mul_comm]; exact IntWalk.i64_in _ (by omega)
        have hck := cell32 HB.out k (by rw [sw_len]; omega)
        have hfk := HB.out.frozen k
        have hrd : Reads wr (Option.map (fun x => x.add (k * 4)) A) (64 - k * 4) ((l.drop (k * 4)).map u8v) := by
          have h := (R.out.below HL.out).drop (k := k * 4) (cap := c) (by omega) hc
          rw [if_neg (by omega), ← List.map_drop] at h
          exact h
        have HRD := Lib.hid hrd
        have hval : (sw l (k + 1)) = (sw l k).set k (big (l.drop (k * 4))) := by
          show (sw l k).set k (swVal l (sw l k) k) = _
          unfold swVal
          rw [if_pos h16, Nat.mul_comm]
        have HVL := Lib.hid hval
        clear hrd hval
        go_wp2_with fail
        refine (rbig_c _ _ _ (l.drop (k * 4)) wr (by omega) HRD.out).mono ?_
        rintro e w' ⟨rfl, rfl⟩
        go_wp2_with fail
        go_roundw
        case rel =>
          refine ⟨k + 1, by omega, by go_num, HL.out.setCell (by show _ ≤ gw; omega) _, ?_, HV.out.far (by show w.heap.size ≠ gw; omega) _, HZ.out.far (by show w.heap.size + 1 ≠ gw; omega) _, HK.out.far (by show w.heap.size + 2 ≠ gw; omega) _⟩
          have h := HB.out.set_ k (u32v (big (l.drop (k * 4))))
          rw [set_map, ← HVL.out] at h
          exact h
        case measure => simp [intOf]; omega
      · have hL := sw_len l k
        have hval : (sw l (k + 1)) = (sw l k).set k ((sw l k).getD (k - 16) 0 + sig0 ((sw l k).getD (k - 15) 0) + (sw l k).getD (k - 7) 0 + sig1 ((sw l k).getD (k - 2) 0)) := by
          show (sw l k).set k (swVal l (sw l k) k) = _
          unfold swVal
          rw [if_neg h16]
        have HVL := Lib.hid hval
        clear hval
        have c16 := cell32 HB.out (k - 16) (by omega)
        have c15 := cell32 HB.out (k - 15) (by omega)
        have c7 := cell32 HB.out (k - 7) (by omega)
        have c2 := cell32 HB.out (k - 2) (by omega)
        have c0 := cell32 HB.out k (by omega)
        have f0 := HB.out.frozen k
        generalize (sw l k).getD (k - 16) 0 = x16 at *
        generalize (sw l k).getD (k - 15) 0 = x15 at *
        generalize (sw l k).getD (k - 7) 0 = x7 at *
        generalize (sw l k).getD (k - 2) 0 = x2 at *
        have e16 : IntKind.i64.wrap ((k : Int) - 16) = (k : Int) - 16 := IntWalk.i64_in _ (by omega)
        have e15 : IntKind.i64.wrap ((k : Int) - 15) = (k : Int) - 15 := IntWalk.i64_in _ (by omega)
        have e7 : IntKind.i64.wrap ((k : Int) - 7) = (k : Int) - 7 := IntWalk.i64_in _ (by omega)
        have e2 : IntKind.i64.wrap ((k : Int) - 2) = (k : Int) - 2 := IntWalk.i64_in _ (by omega)
        have t16 : ((k : Int) - 16).toNat = k - 16 := by omega
        have t15 : ((k : Int) - 15).toNat = k - 15 := by omega
        have t7 : ((k : Int) - 7).toNat = k - 7 := by omega
        have t2 : ((k : Int) - 2).toNat = k - 2 := by omega
        have p16 : 0 ≤ (k : Int) - 16 := by omega
        have p15 : 0 ≤ (k : Int) - 15 := by omega
        have p7 : 0 ≤ (k : Int) - 7 := by omega
        have p2 : 0 ≤ (k : Int) - 2 := by omega
        have q16 : (k : Int) - 16 < 64 := by omega
        have q15 : (k : Int) - 15 < 64 := by omega
        have q7 : (k : Int) - 7 < 64 := by omega
        have q2 : (k : Int) - 2 < 64 := by omega
        go_upto_region 10 with fail
        refine wp_region_quiet_tail 29 (by kernel_rfl) (by kernel_rfl) ?_
        simp only [List.take_succ_cons, List.take_zero, List.drop_succ_cons, List.drop_zero]
        repeat (go_big_quiet_step ((go_at_call 67; exact (rright_q _ _ (by omega) (by omega) _).mono fun _ _ h => ⟨h.1, _, h.2⟩)))
        refine wpQuiet_nil ?_
        intro nq2
        go_wp2
        go_roundw
        case rel =>
          rw [spread_val]
          refine ⟨k + 1, by omega, by go_num, (below_drewN HL.out _).setCell (by show _ ≤ gw; omega) _, ?_, (HV.out.drewN _).far (by show w.heap.size ≠ gw; omega) _, (HZ.out.drewN _).far (by show w.heap.size + 1 ≠ gw; omega) _, (HK.out.drewN _).far (by show w.heap.size + 2 ≠ gw; omega) _⟩
          have h := (HB.out.drewN nq2).set_ k (u32v (x16 + sig0 x15 + x7 + sig1 x2))
          rw [set_map, ← HVL.out] at h
          exact h
        case measure => simp [intOf]; omega
    · obtain rfl : k = 64 := by omega
      have c0 : wr.cell? ⟨w.heap.size, 0, none⟩ = some (u32v sa) := by rw [HV.out.cell]; rfl
      have c1 : wr.cell? ⟨w.heap.size, 1, none⟩ = some (u32v sb) := by rw [HV.out.cell]; rfl
      have c2 : wr.cell? ⟨w.heap.size, 2, none⟩ = some (u32v sc) := by rw [HV.out.cell]; rfl
      have c3 : wr.cell? ⟨w.heap.size, 3, none⟩ = some (u32v sd) := by rw [HV.out.cell]; rfl
      have c4 : wr.cell? ⟨w.heap.size, 4, none⟩ = some (u32v se) := by rw [HV.out.cell]; rfl
      have c5 : wr.cell? ⟨w.heap.size, 5, none⟩ = some (u32v sf) := by rw [HV.out.cell]; rfl
      have c6 : wr.cell? ⟨w.heap.size, 6, none⟩ = some (u32v sg) := by rw [HV.out.cell]; rfl
      have c7 : wr.cell? ⟨w.heap.size, 7, none⟩ = some (u32v sh) := by rw [HV.out.cell]; rfl
      go_upto_region 12 with fail
      have hsz := HL.out.size
      have ht4 : Blk (wr.alloc (.cells (St.vals ⟨sa, sb, sc, sd, se, sf, sg, sh⟩) 62)) wr.heap.size 62 (roundsTo S0 l 0).vals := by
        have h := Blk.new wr 62 (St.vals ⟨sa, sb, sc, sd, se, sf, sg, sh⟩)
        show Blk _ _ _ S0.vals
        rw [HS0.out]
        exact h
      have hw4 := HB.out.alloc (.cells (St.vals ⟨sa, sb, sc, sd, se, sf, sg, sh⟩) 62)
      have hv4 := HV.out.alloc (.cells (St.vals ⟨sa, sb, sc, sd, se, sf, sg, sh⟩) 62)
      have hr4 := HZ.out.alloc (.cells (St.vals ⟨sa, sb, sc, sd, se, sf, sg, sh⟩) 62)
      have hk4 := HK.out.alloc (.cells (St.vals ⟨sa, sb, sc, sd, se, sf, sg, sh⟩) 62)
      have hb4 := HL.out.alloc hsz (.cells (St.vals ⟨sa, sb, sc, sd, se, sf, sg, sh⟩) 62)
      have hgt : gw < wr.heap.size := HB.out.lt
      change Code.wp _ _ _ _ (wr.alloc (.cells (St.vals ⟨sa, sb, sc, sd, se, sf, sg, sh⟩) 62))
      generalize wr.alloc (.cells (St.vals ⟨sa, sb, sc, sd, se, sf, sg, sh⟩) 62) = w4 at ht4 hw4 hv4 hr4 hk4 hb4 ⊢
      generalize wr.heap.size = gt at ht4 hgt ⊢
      have HT4 := Lib.hid ht4
      have HW4 := Lib.hid hw4
      have HV4 := Lib.hid hv4
      have HR4 := Lib.hid hr4
      have HK4 := Lib.hid hk4
      have HB4 := Lib.hid hb4
      clear ht4 hw4 hv4 hr4 hk4 hb4 HB HV HZ HK HL c0 c1 c2 c3 c4 c5 c6 c7 hsz
      obtain ⟨WS, hWS⟩ : ∃ L : List UInt32, L = sw l 64 := ⟨_, rfl⟩
      have HWS := Lib.hid hWS
      rw [← hWS] at HW4
      clear hWS
      go_wp2_with fail
      go_loopw [11] (fun i wr => ∃ k : Nat, k ≤ 64 ∧ i = .int .i64 k ∧ Below w.heap.size w wr ∧ Blk wr gw 89 (WS.map u32v).toArray ∧ Blk wr w.heap.size 62 (St.vals ⟨sa, sb, sc, sd, se, sf, sg, sh⟩) ∧ Blk wr (w.heap.size + 1) 62 zero8 ∧ Blk wr (w.heap.size + 2) 61 kVals ∧ Blk wr gt 62 (roundsTo S0 l k).vals) (fun i _ => 64 - (intOf i).toNat)
      case atStart => exact ⟨0, by omega, rfl, HB4.out, HW4.out, HV4.out, HR4.out, HK4.out, HT4.out⟩
      case round =>
        clear HB4 HW4 HV4 HR4 HK4 HT4
        obtain ⟨k, hk, rfl, hbel, hW, hV, hZ, hK, hT⟩ := hrel
        have HL := Lib.hid hbel
        have HW := Lib.hid hW
        have HV := Lib.hid hV
        have HZ := Lib.hid hZ
        have HK := Lib.hid hK
        have HT := Lib.hid hT
        clear hbel hW hV hZ hK hT
        by_cases hlt : k < 64
        · have hn : roundsTo S0 l (k + 1) = (roundsTo S0 l k).round (kList.getD k 0 + WS.getD k 0) := by rw [HWS.out]; rfl
          have HN := Lib.hid hn
          clear hn
          have d6 : wr.cell? ⟨w.heap.size + 2, k, none⟩ = some (u32v (kList.getD k 0)) := cell32 HK.out k (by rw [kList_len]; exact hlt)
          have d5 : wr.cell? ⟨gw, k, none⟩ = some (u32v (WS.getD k 0)) := cell32 HW.out k (by rw [HWS.out, sw_len]; exact hlt)
          generalize kList.getD k 0 = x at *
          generalize WS.getD k 0 = y at *
          generalize hst : roundsTo S0 l k = st at *
          have HST := Lib.hid hst
          clear hst
          obtain ⟨ta, tb, tc, td, te, tf, tg, th⟩ := st
          have z0 : wr.cell? ⟨gt, 0, none⟩ = some (u32v ta) := by rw [HT.out.cell]; rfl
          have z1 : wr.cell? ⟨gt, 1, none⟩ = some (u32v tb) := by rw [HT.out.cell]; rfl
          have z2 : wr.cell? ⟨gt, 2, none⟩ = some (u32v tc) := by rw [HT.out.cell]; rfl
          have z3 : wr.cell? ⟨gt, 3, none⟩ = some (u32v td) := by rw [HT.out.cell]; rfl
          have z4 : wr.cell? ⟨gt, 4, none⟩ = some (u32v te) := by rw [HT.out.cell]; rfl
          have z5 : wr.cell? ⟨gt, 5, none⟩ = some (u32v tf) := by rw [HT.out.cell]; rfl
          have z6 : wr.cell? ⟨gt, 6, none⟩ = some (u32v tg) := by rw [HT.out.cell]; rfl
          have z7 : wr.cell? ⟨gt, 7, none⟩ = some (u32v th) := by rw [HT.out.cell]; rfl
          have x0 := HT.out.frozen 0
          have x1 := HT.out.frozen 1
          have x2 := HT.out.frozen 2
          have x3 := HT.out.frozen 3
          have x4 := HT.out.frozen 4
          have x5 := HT.out.frozen 5
          have x6 := HT.out.frozen 6
          have x7 := HT.out.frozen 7
          go_upto_region 17 with fail
          go_quiet ((go_at_call 67; exact (rright_q _ _ (by omega) (by omega) _).mono fun _ _ h => ⟨h.1, _, h.2⟩))
          go_upto_region 18 with fail
          go_quiet ((go_at_call 67; exact (rright_q _ _ (by omega) (by omega) _).mono fun _ _ h => ⟨h.1, _, h.2⟩))
          go_wp2_with fail
          rw [mod_add (one_valr te tf tg th x y) (two_valr ta tb tc), mod_add (mod_self td) (one_valr te tf tg th x y)]
          go_roundw
          case rel =>
            refine ⟨k + 1, by omega, by go_num, below_set8 (below_drewN HL.out _) (by omega), (HW.out.drewN _).far8 (by omega), (HV.out.drewN _).far8 (by omega), (HZ.out.drewN _).far8 (by omega), (HK.out.drewN _).far8 (by omega), ?_⟩
            rw [HN.out]
            exact Blk.set8 (show Blk _ gt 62 #[u32v ta, u32v tb, u32v tc, u32v td, u32v te, u32v tf, u32v tg, u32v th] from HT.out.drewN _)
          case measure => simp [intOf]; omega
        · obtain rfl : k = 64 := by omega
          have hV : Blk wr w.heap.size 62 ((plusTo S0 (roundsTo S0 l 64) 0).map u32v).toArray := by
            have h := HV.out
            rw [← HS0.out] at h
            exact h
          have hT : Blk wr gt 62 ((roundsTo S0 l 64).words.map u32v).toArray := HT.out
          have hfin : S0.plus (roundsTo S0 l 64) = mixS S0 l := rfl
          generalize roundsTo S0 l 64 = t at hV hT hfin
          have HV2 := Lib.hid hV
          have HT2 := Lib.hid hT
          have HFN := Lib.hid hfin
          clear hV hT hfin HW HK HV HT
          go_wp2_with fail
          go_loopw [16] (fun i wx => ∃ k : Nat, k ≤ 8 ∧ i = .int .i64 k ∧ Below w.heap.size w wx ∧ Blk wx w.heap.size 62 ((plusTo S0 t k).map u32v).toArray ∧ Blk wx (w.heap.size + 1) 62 zero8 ∧ Blk wx gt 62 (t.words.map u32v).toArray) (fun i _ => 8 - (intOf i).toNat)
          case atStart => exact ⟨0, by omega, rfl, HL.out, HV2.out, HZ.out, HT2.out⟩
          case round =>
            clear HL HV2 HZ HT2
            obtain ⟨k, hk, rfl, hbel, c0, c1, c2⟩ := hrel
            have HL2 := Lib.hid hbel
            have C0 := Lib.hid c0
            have C1 := Lib.hid c1
            have C2 := Lib.hid c2
            clear hbel c0 c1 c2
            by_cases hlt2 : k < 8
            · have e0 := cell32 C0.out k (by rw [plusTo_len]; exact hlt2)
              have f0 := C0.out.frozen k
              have e2 := cell32 C2.out k (by exact hlt2)
              have hn : plusTo S0 t (k + 1) = (plusTo S0 t k).set k ((plusTo S0 t k).getD k 0 + t.words.getD k 0) := rfl
              have HN := Lib.hid hn
              clear hn
              generalize (plusTo S0 t k).getD k 0 = x at *
              generalize t.words.getD k 0 = y at *
              go_upto_region 23 with fail
              refine wp_region_quiet_tail 8 (by kernel_rfl) (by kernel_rfl) ?_
              simp only [List.take_succ_cons, List.take_zero, List.drop_succ_cons, List.drop_zero]
              repeat (go_big_quiet_step (fail))
              refine wpQuiet_nil ?_
              intro nq
              rw [w32_addm]
              go_wp2_with fail
              go_roundw
              case rel =>
                refine ⟨k + 1, by omega, by go_num, (below_drewN HL2.out nq).setCell (Nat.le_refl _) _, ?_, (C1.out.drewN nq).far (by simp) _, (C2.out.drewN nq).far (by show gt ≠ w.heap.size; omega) _⟩
                have h := (C0.out.drewN nq).set_ k (u32v (x + y))
                rw [set_map, ← HN.out] at h
                exact h
              case measure => simp [intOf]; omega
            · obtain rfl : k = 8 := by omega
              have hfv : Blk wr w.heap.size 62 (mixS S0 l).vals := by rw [← HFN.out]; exact C0.out
              obtain ⟨m, hmm⟩ : ∃ m, mixS S0 l = m := ⟨_, rfl⟩
              rw [hmm] at hfv
              have HMM := Lib.hid hmm
              clear hmm
              have HM := Lib.hid hfv
              clear hfv HFN C0
              go_upto_region 24 with fail
              refine wp_region_lit ?_
              refine wpList_load_row rfl 62 _ rfl w.heap.size rfl 62 m.vals (0, 0) _ HM.out Try.underlying62 rfl info_8 ?_
              refine wpList_store_row rfl 62 _ _ rfl (w.heap.size + 1) m.vals rfl rfl 62 _ C1.out info_8 (by rw [zero8_one]; rfl) (vals_one m) ?_
              refine wpList_nil ?_
              rename_i K hK
              have HW := Lib.hid (C1.out.setRow m.vals)
              show K _ _
              refine hK _ _ ?_
              go_wp2_with fail
              refine bodyPost_ret (results_cell_row rfl _ _ (w.heap.size + 1) 62 m.vals (0, 0) _ rfl HW.out Try.underlying62 rfl info_8) rfl ?_
              exact ⟨by rw [← HMM.out, HS0.out], below_setRow HL2.out (Nat.le_succ _) _⟩
end Go.Proofs.Ytgadnliogceecaa
