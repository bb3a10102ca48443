/- The reference's flash: the walk of turn. -/
import Derived.Test.YtlchlcjahndjgaaRfB
import Derived.Test.YtlchlcjahndjgaaQTail
namespace Go.Proofs.Ytlchlcjahndjgaa
open Go.RowKit
set_option linter.unusedVariables false
set_option linter.unusedSimpArgs false
theorem RF.part_zero (G : RF) (a : Nat) (bs : List UInt8) : G.part a bs 0 = { G with left := if G.cutb then G.left - 1 else G.left, ops := wrap64 (G.ops + 1) } := by
  simp [RF.part, laid_nil]
theorem RF.part_len (G : RF) (a : Nat) (bs : List UInt8) (k : Nat) : (G.part a bs k).b.length = G.b.length := by simp [RF.part, laid_length]
theorem RFAt.part_cells {w : World} {fb bb wb : Nat} {G : RF} {a k : Nat} {bs : List UInt8} (h : RFAt w fb bb wb (G.part a bs k)) (hlt : k < bs.length) (hfit : a + bs.length ≤ G.b.length) :
    w.cell? ⟨fb, 0, none⟩ = some (.slice (some ⟨bb, 0, none⟩) G.b.length G.b.length) ∧ w.cell? ⟨bb, a + k, none⟩ = some (u8v (G.b[a + k]'(by omega))) ∧ w.frozen? ⟨bb, a + k, none⟩ = false := by
  have k0 := h.c0
  rw [RF.part_len] at k0
  have kb := h.cb (a + k) (by rw [RF.part_len]; omega)
  have hnow : (G.part a bs k).b[a + k]'(by rw [RF.part_len]; omega) = G.b[a + k]'(by omega) := laid_now G.b a bs G.stay k hlt hfit
  rw [hnow] at kb
  exact ⟨k0, kb, h.bytes.frozen (a + k)⟩
theorem RFAt.part_next {w : World} {fb bb wb : Nat} {G : RF} {a k : Nat} {bs : List UInt8} (h : RFAt w fb bb wb (G.part a bs k)) (hlt : k < bs.length) (hfit : a + bs.length ≤ G.b.length) (v : Int)
    (hv : v = ((mixB (G.b[a + k]'(by omega)) bs[k] (G.stay k)).toNat : Int)) : RFAt (w.setCell ⟨bb, a + k, none⟩ (.int .u8 v)) fb bb wb (G.part a bs (k + 1)) := by
  have h1 := h.setB (a + k) (mixB (G.b[a + k]'(by omega)) bs[k] (G.stay k))
  have h2 : ({ G.part a bs k with b := (G.part a bs k).b.set (a + k) (mixB (G.b[a + k]'(by omega)) bs[k] (G.stay k)) } : RF) = G.part a bs (k + 1) := by
    have := laid_step G.b a bs G.stay k hlt hfit
    simp only [RF.part, RF.mk.injEq, and_true, true_and]
    exact this
  rw [← h2, hv]
  exact h1
/-- Round k of a turn. -/
def TurnI (w : World) (fb bb wb : Nat) (G : RF) (a : Nat) (bs : List UInt8) (i : Value) (wr : World) : Prop :=
  ∃ k, k ≤ bs.length ∧ i = .int .i64 (k : Int) ∧ RFAt wr fb bb wb (G.part a bs k) ∧ Only [fb, bb, wb] w wr
set_option maxRecDepth 100000 in
set_option maxHeartbeats 1000000 in
theorem rturn_calm (w : World) (fb bb wb : Nat) (G : RF) (a : Nat) (A : Option Addr) (n c : Nat) (bs : List UInt8) (h : RFAt w fb bb wb G) (hr : Reads w A n (bs.map u8v)) (hap : 0 < n → Apart [fb, bb, wb] A) (hfit : a + n ≤ G.b.length)
    (hc : G.cutb = false) :
    Calls Try.prog 73 #[ptr fb, .int .i64 (a : Int), .slice A n c] w fun e w' => e = .returned (.int .i64 G.turnE) ∧ RFAt w' fb bb wb (G.turn a bs) ∧ Only [fb, bb, wb] w w' := by
  have hn : bs.length = n := by simpa using hr.len
  subst hn
  have hbl : G.b.length ≤ 128000 := by have := h.ok.len; have := h.ok.most; omega
  have hl1 := h.ok.left1
  have hl2 := h.ok.left2
  have c3 := h.c3
  have c4 := h.c4
  have c6 := h.c6
  have f2 := h.fr 2
  have f3 := h.fr 3
  have f4 := h.fr 4
  have f6 := h.fr 6
  have H := Lib.hid h
  rw [hc] at c3
  have hnow : G.now = false := by unfold RF.now; rw [hc]; rfl
  have HN := Lib.hid hnow
  have HC := Lib.hid hc
  have hE : G.turnE = 0 := by unfold RF.turnE; rw [hnow]; rfl
  rw [hE]
  clear h hE hnow hc
  go_enter Try.func73, Try.ntmps73
  go_wp2_with fail
  go_loopw [8] (fun i wr => TurnI w fb bb wb G a bs i wr) (fun i _ => bs.length - (intOf i).toNat)
  case atStart =>
    refine ⟨0, Nat.zero_le _, rfl, ?_, (Only.refl _ _).setCell (by simp) _⟩
    rw [RF.part_zero]
    have k := H.out.ok
    have e : (if G.cutb = true then G.left - 1 else G.left) = G.left := by rw [HC.out]; rfl
    rw [e]
    exact H.out.set6 (wrap64 (G.ops + 1)) ⟨k.len, k.most, k.left1, k.left2, k.mask, k.wear⟩
  case round =>
    obtain ⟨k, hk, rfl, hF, hO⟩ := hrel
    by_cases hlt : k < bs.length
    · have hrO : Reads wr A bs.length (bs.map u8v) := hr.only hO (hap (by omega))
      obtain ⟨b, o, rfl, hb, hcell⟩ := bytes_at hrO hlt
      obtain ⟨k0, kb, kf⟩ := hF.part_cells hlt hfit
      have hst : G.stay k = 0 := by unfold RF.stay; rw [HN.out]; simp
      have HFk := Lib.hid hF
      have HOk := Lib.hid hO
      clear hF hO hrO
      have e2 : (0 : Int) ≤ (a : Int) + (k : Int) := by omega
      have e3 : (a : Int) + (k : Int) < (G.b.length : Int) := by omega
      have e4 : ((a : Int) + (k : Int)).toNat = a + k := by omega
      have e1 : IntKind.i64.wrap ((a : Int) + (k : Int)) = (a : Int) + (k : Int) := IntWalk.i64_in _ (by omega)
      
      go_upto_region 11 with fail
      refine wp_region_quiet_tail 27 (by kernel_rfl) (by kernel_rfl) ?_
      simp only [List.take_succ_cons, List.take_zero, List.drop_succ_cons, List.drop_zero]
      repeat (go_big_quiet_step (fail))
      refine wpQuiet_nil ?_
      intro nq
      go_wp2
      go_roundw
      case rel => exact ⟨k + 1, by omega, by go_num, (HFk.out.drewN _).part_next hlt hfit _ (by rw [hst]; exact u8_mixr _ _ 0), (HOk.out.drewN _).setCell (by simp) _⟩
      case measure => simp [intOf]; omega
    · obtain rfl : k = bs.length := by omega
      have g2 := hF.fr 2
      have g3 := hF.fr 3
      have d2 := hF.c2
      have d3 := hF.c3
      have HFk := Lib.hid hF
      have HOk := Lib.hid hO
      clear hF hO
      go_wp2
      go_ret
      refine ⟨rfl, ?_, HOk.out⟩
      have e : G.turn a bs = G.part a bs bs.length := by
        unfold RF.turn
        rw [HN.out]
        simp [RF.part]
      rw [e]
      exact HFk.out
set_option maxRecDepth 100000 in
set_option maxHeartbeats 1000000 in
theorem rturn_later (w : World) (fb bb wb : Nat) (G : RF) (a : Nat) (A : Option Addr) (n c : Nat) (bs : List UInt8) (h : RFAt w fb bb wb G) (hr : Reads w A n (bs.map u8v)) (hap : 0 < n → Apart [fb, bb, wb] A) (hfit : a + n ≤ G.b.length)
    (hc : G.cutb = true) (hleft : 0 < G.left) :
    Calls Try.prog 73 #[ptr fb, .int .i64 (a : Int), .slice A n c] w fun e w' => e = .returned (.int .i64 G.turnE) ∧ RFAt w' fb bb wb (G.turn a bs) ∧ Only [fb, bb, wb] w w' := by
  have hn : bs.length = n := by simpa using hr.len
  subst hn
  have hbl : G.b.length ≤ 128000 := by have := h.ok.len; have := h.ok.most; omega
  have hl1 := h.ok.left1
  have hl2 := h.ok.left2
  have c3 := h.c3
  have c4 := h.c4
  have c6 := h.c6
  have f2 := h.fr 2
  have f3 := h.fr 3
  have f4 := h.fr 4
  have f6 := h.fr 6
  have H := Lib.hid h
  rw [hc] at c3
  have hnow : G.now = false := by unfold RF.now; rw [hc]; simp; omega
  have HN := Lib.hid hnow
  have HC := Lib.hid hc
  have hE : G.turnE = 0 := by unfold RF.turnE; rw [hnow]; rfl
  rw [hE]
  clear h hE hnow hc
  go_enter Try.func73, Try.ntmps73
  go_wp2_with fail
  go_loopw [8] (fun i wr => TurnI w fb bb wb G a bs i wr) (fun i _ => bs.length - (intOf i).toNat)
  case atStart =>
    refine ⟨0, Nat.zero_le _, rfl, ?_, ((Only.refl _ _).setCell (by simp) _).setCell (by simp) _⟩
    rw [RF.part_zero]
    have k := H.out.ok
    have e : (if G.cutb = true then G.left - 1 else G.left) = G.left - 1 := by rw [HC.out]; rfl
    rw [e]
    have h6 := H.out.set6 (wrap64 (G.ops + 1)) ⟨k.len, k.most, k.left1, k.left2, k.mask, k.wear⟩
    exact h6.set4 (G.left - 1) ⟨k.len, k.most, by show -1 ≤ G.left - 1; omega, by show G.left - 1 ≤ _; omega, k.mask, k.wear⟩
  case round =>
    obtain ⟨k, hk, rfl, hF, hO⟩ := hrel
    by_cases hlt : k < bs.length
    · have hrO : Reads wr A bs.length (bs.map u8v) := hr.only hO (hap (by omega))
      obtain ⟨b, o, rfl, hb, hcell⟩ := bytes_at hrO hlt
      obtain ⟨k0, kb, kf⟩ := hF.part_cells hlt hfit
      have hst : G.stay k = 0 := by unfold RF.stay; rw [HN.out]; simp
      have HFk := Lib.hid hF
      have HOk := Lib.hid hO
      clear hF hO hrO
      have e2 : (0 : Int) ≤ (a : Int) + (k : Int) := by omega
      have e3 : (a : Int) + (k : Int) < (G.b.length : Int) := by omega
      have e4 : ((a : Int) + (k : Int)).toNat = a + k := by omega
      have e1 : IntKind.i64.wrap ((a : Int) + (k : Int)) = (a : Int) + (k : Int) := IntWalk.i64_in _ (by omega)
      
      go_upto_region 11 with fail
      refine wp_region_quiet_tail 27 (by kernel_rfl) (by kernel_rfl) ?_
      simp only [List.take_succ_cons, List.take_zero, List.drop_succ_cons, List.drop_zero]
      repeat (go_big_quiet_step (fail))
      refine wpQuiet_nil ?_
      intro nq
      go_wp2
      go_roundw
      case rel => exact ⟨k + 1, by omega, by go_num, (HFk.out.drewN _).part_next hlt hfit _ (by rw [hst]; exact u8_mixr _ _ 0), (HOk.out.drewN _).setCell (by simp) _⟩
      case measure => simp [intOf]; omega
    · obtain rfl : k = bs.length := by omega
      have g2 := hF.fr 2
      have g3 := hF.fr 3
      have d2 := hF.c2
      have d3 := hF.c3
      have HFk := Lib.hid hF
      have HOk := Lib.hid hO
      clear hF hO
      go_wp2
      go_ret
      refine ⟨rfl, ?_, HOk.out⟩
      have e : G.turn a bs = G.part a bs bs.length := by
        unfold RF.turn
        rw [HN.out]
        simp [RF.part]
      rw [e]
      exact HFk.out
set_option maxRecDepth 100000 in
set_option maxHeartbeats 1000000 in
theorem rturn_bare (w : World) (fb bb wb : Nat) (G : RF) (a : Nat) (A : Option Addr) (n c : Nat) (bs : List UInt8) (h : RFAt w fb bb wb G) (hr : Reads w A n (bs.map u8v)) (hap : 0 < n → Apart [fb, bb, wb] A) (hfit : a + n ≤ G.b.length)
    (hc : G.cutb = true) (hleft : G.left = 0) (hmask : G.mask = []) :
    Calls Try.prog 73 #[ptr fb, .int .i64 (a : Int), .slice A n c] w fun e w' => e = .returned (.int .i64 G.turnE) ∧ RFAt w' fb bb wb (G.turn a bs) ∧ Only [fb, bb, wb] w w' := by
  have hn : bs.length = n := by simpa using hr.len
  subst hn
  have hbl : G.b.length ≤ 128000 := by have := h.ok.len; have := h.ok.most; omega
  have hl1 := h.ok.left1
  have hl2 := h.ok.left2
  have c3 := h.c3
  have c4 := h.c4
  have c6 := h.c6
  have f2 := h.fr 2
  have f3 := h.fr 3
  have f4 := h.fr 4
  have f6 := h.fr 6
  have H := Lib.hid h
  rw [hc] at c3
  have hnow : G.now = true := by unfold RF.now; rw [hc, hleft]; rfl
  have HN := Lib.hid hnow
  have HC := Lib.hid hc
  have hE : G.turnE = 4 := by unfold RF.turnE; rw [hnow]; rfl
  rw [hE]
  clear h hE hnow hc
  go_enter Try.func73, Try.ntmps73
  go_wp2_with fail
  go_loopw [8] (fun i wr => TurnI w fb bb wb G a bs i wr) (fun i _ => bs.length - (intOf i).toNat)
  case atStart =>
    refine ⟨0, Nat.zero_le _, rfl, ?_, ((Only.refl _ _).setCell (by simp) _).setCell (by simp) _⟩
    rw [RF.part_zero]
    have k := H.out.ok
    have e : (if G.cutb = true then G.left - 1 else G.left) = -1 := by rw [HC.out, hleft]; rfl
    rw [e]
    have h6 := H.out.set6 (wrap64 (G.ops + 1)) ⟨k.len, k.most, k.left1, k.left2, k.mask, k.wear⟩
    exact h6.set4 (-1) ⟨k.len, k.most, by show (-1 : Int) ≤ -1; omega, by show (-1 : Int) ≤ _; omega, k.mask, k.wear⟩
  case round =>
    obtain ⟨k, hk, rfl, hF, hO⟩ := hrel
    by_cases hlt : k < bs.length
    · have hrO : Reads wr A bs.length (bs.map u8v) := hr.only hO (hap (by omega))
      obtain ⟨b, o, rfl, hb, hcell⟩ := bytes_at hrO hlt
      obtain ⟨k0, kb, kf⟩ := hF.part_cells hlt hfit
      have hst : G.stay k = 0 := by unfold RF.stay; rw [HN.out]; simp [hmask]
      obtain ⟨Am, cm, c5, -, -⟩ := hF.c5
      have hml : (G.part a bs k).mask.length = 0 := by show G.mask.length = 0; rw [hmask]; rfl
      rw [hml] at c5
      have HFk := Lib.hid hF
      have HOk := Lib.hid hO
      clear hF hO hrO
      have e2 : (0 : Int) ≤ (a : Int) + (k : Int) := by omega
      have e3 : (a : Int) + (k : Int) < (G.b.length : Int) := by omega
      have e4 : ((a : Int) + (k : Int)).toNat = a + k := by omega
      have e1 : IntKind.i64.wrap ((a : Int) + (k : Int)) = (a : Int) + (k : Int) := IntWalk.i64_in _ (by omega)
      
      go_upto_region 11 with fail
      refine wp_region_quiet_tail 27 (by kernel_rfl) (by kernel_rfl) ?_
      simp only [List.take_succ_cons, List.take_zero, List.drop_succ_cons, List.drop_zero]
      repeat (go_big_quiet_step (fail))
      refine wpQuiet_nil ?_
      intro nq
      go_wp2
      go_roundw
      case rel => exact ⟨k + 1, by omega, by go_num, (HFk.out.drewN _).part_next hlt hfit _ (by rw [hst]; exact u8_mixr _ _ 0), (HOk.out.drewN _).setCell (by simp) _⟩
      case measure => simp [intOf]; omega
    · obtain rfl : k = bs.length := by omega
      have g2 := hF.fr 2
      have g3 := hF.fr 3
      have d2 := hF.c2
      have d3 := hF.c3
      have HFk := Lib.hid hF
      have HOk := Lib.hid hO
      clear hF hO
      go_wp2
      go_ret
      refine ⟨rfl, ?_, (HOk.out.setCell (by simp) _).setCell (by simp) _⟩
      have k := HFk.out.ok
      have h2 := HFk.out.set2 true ⟨k.len, k.most, k.left1, k.left2, k.mask, k.wear⟩
      have h3 := h2.set3 false ⟨k.len, k.most, k.left1, k.left2, k.mask, k.wear⟩
      have e : G.turn a bs = { G.part a bs bs.length with off := true, cutb := false } := by
        unfold RF.turn
        rw [HN.out]
        simp [RF.part]
      rw [e]
      exact h3
set_option maxRecDepth 100000 in
set_option maxHeartbeats 1000000 in
theorem rturn_mask (w : World) (fb bb wb : Nat) (G : RF) (a : Nat) (A : Option Addr) (n c : Nat) (bs : List UInt8) (h : RFAt w fb bb wb G) (hr : Reads w A n (bs.map u8v)) (hap : 0 < n → Apart [fb, bb, wb] A) (hfit : a + n ≤ G.b.length)
    (hc : G.cutb = true) (hleft : G.left = 0) (hmask : G.mask ≠ []) :
    Calls Try.prog 73 #[ptr fb, .int .i64 (a : Int), .slice A n c] w fun e w' => e = .returned (.int .i64 G.turnE) ∧ RFAt w' fb bb wb (G.turn a bs) ∧ Only [fb, bb, wb] w w' := by
  have hn : bs.length = n := by simpa using hr.len
  subst hn
  have hbl : G.b.length ≤ 128000 := by have := h.ok.len; have := h.ok.most; omega
  have hl1 := h.ok.left1
  have hl2 := h.ok.left2
  have c3 := h.c3
  have c4 := h.c4
  have c6 := h.c6
  have f2 := h.fr 2
  have f3 := h.fr 3
  have f4 := h.fr 4
  have f6 := h.fr 6
  have H := Lib.hid h
  rw [hc] at c3
  have hnow : G.now = true := by unfold RF.now; rw [hc, hleft]; rfl
  have HN := Lib.hid hnow
  have HC := Lib.hid hc
  have hE : G.turnE = 4 := by unfold RF.turnE; rw [hnow]; rfl
  rw [hE]
  clear h hE hnow hc
  go_enter Try.func73, Try.ntmps73
  go_wp2_with fail
  go_loopw [8] (fun i wr => TurnI w fb bb wb G a bs i wr) (fun i _ => bs.length - (intOf i).toNat)
  case atStart =>
    refine ⟨0, Nat.zero_le _, rfl, ?_, ((Only.refl _ _).setCell (by simp) _).setCell (by simp) _⟩
    rw [RF.part_zero]
    have k := H.out.ok
    have e : (if G.cutb = true then G.left - 1 else G.left) = -1 := by rw [HC.out, hleft]; rfl
    rw [e]
    have h6 := H.out.set6 (wrap64 (G.ops + 1)) ⟨k.len, k.most, k.left1, k.left2, k.mask, k.wear⟩
    exact h6.set4 (-1) ⟨k.len, k.most, by show (-1 : Int) ≤ -1; omega, by show (-1 : Int) ≤ _; omega, k.mask, k.wear⟩
  case round =>
    obtain ⟨k, hk, rfl, hF, hO⟩ := hrel
    by_cases hlt : k < bs.length
    · have hrO : Reads wr A bs.length (bs.map u8v) := hr.only hO (hap (by omega))
      obtain ⟨b, o, rfl, hb, hcell⟩ := bytes_at hrO hlt
      obtain ⟨k0, kb, kf⟩ := hF.part_cells hlt hfit
      obtain ⟨Am, cm, c5, hrm, -⟩ := hF.c5
      obtain ⟨ml, hml⟩ : ∃ ml, G.mask.length = ml := ⟨_, rfl⟩
      have hml0 : 0 < ml := by rw [← hml]; exact List.length_pos_iff.2 hmask
      have hmlb : ml ≤ 140737488351232 := by rw [← hml]; exact H.out.ok.mask
      rw [show (G.part a bs k).mask = G.mask from rfl, hml] at c5 hrm
      obtain ⟨km, hkm⟩ : ∃ km, k % ml = km := ⟨_, rfl⟩
      have hkml : km < ml := by rw [← hkm]; exact Nat.mod_lt _ hml0
      obtain ⟨bm, om, rfl, hbm, hcm⟩ := bytes_at hrm (k := km) (by rw [hml]; exact hkml)
      obtain ⟨xm, hxm⟩ : ∃ xm, G.mask[km]'(by rw [hml]; exact hkml) = xm := ⟨_, rfl⟩
      rw [hxm] at hcm
      have hst : G.stay k = xm := by
        unfold RF.stay
        rw [if_pos ⟨HN.out, hmask⟩, hml, hkm, List.getD_eq_getElem?_getD, List.getElem?_eq_getElem (by rw [hml]; exact hkml), Option.getD_some, hxm]
      have hmi : (k : Int) % (ml : Int) = (km : Int) := by rw [← hkm]; omega
      have hml1 : (0 : Int) < (ml : Int) := by omega
      have hkm1 : (km : Int) < (ml : Int) := by omega
      clear hrm hkm hxm hml
      have HFk := Lib.hid hF
      have HOk := Lib.hid hO
      clear hF hO hrO
      have e2 : (0 : Int) ≤ (a : Int) + (k : Int) := by omega
      have e3 : (a : Int) + (k : Int) < (G.b.length : Int) := by omega
      have e4 : ((a : Int) + (k : Int)).toNat = a + k := by omega
      have e1 : IntKind.i64.wrap ((a : Int) + (k : Int)) = (a : Int) + (k : Int) := IntWalk.i64_in _ (by omega)
      go_upto_region 10 with fail
      go_quiet (fail)
      go_upto_region 11 with fail
      refine wp_region_quiet_tail 27 (by kernel_rfl) (by kernel_rfl) ?_
      simp only [List.take_succ_cons, List.take_zero, List.drop_succ_cons, List.drop_zero]
      repeat (go_big_quiet_step (fail))
      refine wpQuiet_nil ?_
      intro nq
      go_wp2
      go_roundw
      case rel => exact ⟨k + 1, by omega, by go_num, (HFk.out.drewN _).part_next hlt hfit _ (by rw [hst]; exact u8_mixr _ _ xm), (HOk.out.drewN _).setCell (by simp) _⟩
      case measure => simp [intOf]; omega
    · obtain rfl : k = bs.length := by omega
      have g2 := hF.fr 2
      have g3 := hF.fr 3
      have d2 := hF.c2
      have d3 := hF.c3
      have HFk := Lib.hid hF
      have HOk := Lib.hid hO
      clear hF hO
      go_wp2
      go_ret
      refine ⟨rfl, ?_, (HOk.out.setCell (by simp) _).setCell (by simp) _⟩
      have k := HFk.out.ok
      have h2 := HFk.out.set2 true ⟨k.len, k.most, k.left1, k.left2, k.mask, k.wear⟩
      have h3 := h2.set3 false ⟨k.len, k.most, k.left1, k.left2, k.mask, k.wear⟩
      have e : G.turn a bs = { G.part a bs bs.length with off := true, cutb := false } := by
        unfold RF.turn
        rw [HN.out]
        simp [RF.part]
      rw [e]
      exact h3
end Go.Proofs.Ytlchlcjahndjgaa
