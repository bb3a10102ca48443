/- waterlinelaw12.ManifestLimits: which manifests may be. -/
import Derived.Test.YtocbahahienigaaDoorMn6
namespace Go.Proofs.YtocbahahienigaaDoor
open Go Go.RowKit
set_option linter.unusedVariables false
set_option linter.unusedSimpArgs false
attribute [local go_sem ↓] sbN_seal sldN_seal sstN_seal sbsN_seal
theorem limOk_get (k : Nat) (b : Bool) (h : limOk[k]? = some b) : (limOk.map Value.bool)[k]? = some (.bool b) := by rw [List.getElem?_map, h]; rfl
/-- What reading back one of the ten answers. -/
theorem lim_read (w : World) (A : Option Addr) (c : Nat) (x : ByteArray × Img) (b : Bool) (hx : Lim1 x b) (key : List UInt8) (hr : Reads w A 92 ((bytesB key x.1 x.2).map u8v)) :
    Calls Tryd.prog 8 #[.slice A 92 c] w fun e w' =>
      (∃ v, e = .returned (.tuple #[.agg (if b = true then (manC x.1 x.2).toArray else litN), v, .int .i64 (if b = true then 0 else 6)])) ∧ Below w.heap.size w w' := by
  have hl := bytesB_len key x.1 x.2
  refine (mread_full w A c _ hr hl).mono ?_
  rintro e w' ⟨hret, hb⟩
  obtain ⟨h1, h2, h3⟩ := mOk_app (bodyB x.1 x.2) (tagL key (bodyB x.1 x.2)) (bodyB_len _ _)
  refine ⟨?_, hb⟩
  unfold ManRet bytesB at hret
  rw [h1, h2, h3, hx.ok] at hret
  cases b with
  | true =>
    obtain ⟨e1, e2⟩ := hx.back rfl
    rcases hret with ⟨hh, _⟩ | ⟨_, _, A', c', he, _⟩
    · rcases hh with hh | hh
      · exact absurd hl hh
      · cases hh
    · rw [e1, e2] at he
      exact ⟨_, he⟩
  | false =>
    rcases hret with ⟨_, he⟩ | ⟨_, hh, _⟩
    · rw [← zeroN_eq] at he
      exact ⟨_, he⟩
    · cases hh
theorem storeX (w : World) (cs : List Value) (hl : cs.length = 35) (h1 : ∀ u ∈ cs, u.oneCell' = true) : (sstN (.pointer (some ⟨w.heap.size, 0, none⟩)) (.agg cs.toArray)).run Tryd.prog (w.alloc (.cells litN 27)) = .ok () ((w.alloc (.cells litN 27)).setRow w.heap.size cs.toArray) := by
  have hN := Blk.new w 27 zeroN.toArray
  have hst := run_sstN cs hN (by rw [List.size_toArray]; rfl) hl h1
  rw [← zeroN_eq] at hst
  exact hst
theorem storeZ (w : World) : (sstN (.pointer (some ⟨w.heap.size, 0, none⟩)) (.agg litN)).run Tryd.prog (w.alloc (.cells litN 27)) = .ok () ((w.alloc (.cells litN 27)).setRow w.heap.size litN) := by
  have q := storeX w zeroN rfl (manC_one _ _)
  rw [← zeroN_eq] at q
  exact q
theorem ldX (w : World) (cs : List Value) (hl : cs.length = 35) (q : Nat) : (sldN (.pointer (some ⟨w.heap.size, 0, none⟩))).run Tryd.prog (((w.alloc (.cells litN 27)).setRow w.heap.size cs.toArray).drewN q) = .ok (.agg cs.toArray) (((w.alloc (.cells litN 27)).setRow w.heap.size cs.toArray).drewN q) := by
  have hN := (Blk.new w 27 litN).setRow_m cs.toArray
  exact run_sldN hl (Blk.whole (hN.drewN q))
theorem ldZ (w : World) (q : Nat) : (sldN (.pointer (some ⟨w.heap.size, 0, none⟩))).run Tryd.prog (((w.alloc (.cells litN 27)).setRow w.heap.size litN).drewN q) = .ok (.agg litN) (((w.alloc (.cells litN 27)).setRow w.heap.size litN).drewN q) := by
  have z := ldX w zeroN rfl q
  rw [← zeroN_eq] at z
  exact z
theorem eqlZ (w : World) : (binOp .eql 27 (.agg litN) (.agg litN)).run Tryd.prog w = .ok (.bool true) w := by
  have q := eqlN ⟨#[]⟩ Img.zero rfl w
  rw [show (manC ⟨#[]⟩ Img.zero).toArray = litN from zeroN_eq.symm] at q
  exact q
theorem litBools : #[Value.bool true, .bool false, .bool false, .bool true, .bool false, .bool false, .bool false, .bool false, .bool true, .bool false] = (limOk.map Value.bool).toArray := by rfl
set_option maxRecDepth 100000 in
set_option maxHeartbeats 2000000 in
theorem manifestLimits_c (w : World) (n : Int) (hn0 : -9223372036854775808 ≤ n) (hn : n ≤ 9223372036854775807) :
    Calls Tryd.prog 6 #[.int .i64 n] w fun e w' => e = .returned (.bool true) ∧ Below w.heap.size w w' := by
  have kc := fun (w : World) (C : Array Value) (n c : Nat) => Lib.run_convert_bytes_const (P := Tryd.prog) w 22 5 C n c Tryd.underlying22 Tryd.underlying5
  have b0 := fun W => run_sbN3 ⟨#[97]⟩ 1 1 W
  have b1 := fun W => run_sbN3 ⟨#[97]⟩ 0 1 W
  have b2 := fun W => run_sbN3 ⟨#[97]⟩ 1 0 W
  have b3 := fun W => run_sbN3 ⟨#[97]⟩ 1073741824 1073741824 W
  have b4 := fun W => run_sbN3 ⟨#[97]⟩ 1073741825 1 W
  have b5 := fun W => run_sbN3 ⟨#[97]⟩ 1 1073741825 W
  have b6 := fun W => run_sbN4 1 1 W
  have b7 := fun W => run_sbN3 ⟨#[65]⟩ 1 1 W
  have b8 := fun W => run_sbN3 ⟨#[206, 177, 206, 178, 206, 179, 206, 180, 206, 181, 206, 182, 206, 183, 206, 184]⟩ 1 1 W
  have b9 := fun W => run_sbN3 ⟨#[97, 98, 99, 100, 101, 102, 103, 104, 105]⟩ 1 1 W
  have hrl := fun W => run_lim W
  obtain ⟨M0, h0⟩ : ∃ M0, (manC ⟨#[97]⟩ ⟨1, 1, z32u⟩).toArray = M0 := ⟨_, rfl⟩
  obtain ⟨M1, h1⟩ : ∃ M1, (manC ⟨#[97]⟩ ⟨0, 1, z32u⟩).toArray = M1 := ⟨_, rfl⟩
  obtain ⟨M2, h2⟩ : ∃ M2, (manC ⟨#[97]⟩ ⟨1, 0, z32u⟩).toArray = M2 := ⟨_, rfl⟩
  obtain ⟨M3, h3⟩ : ∃ M3, (manC ⟨#[97]⟩ ⟨1073741824, 1073741824, z32u⟩).toArray = M3 := ⟨_, rfl⟩
  obtain ⟨M4, h4⟩ : ∃ M4, (manC ⟨#[97]⟩ ⟨1073741825, 1, z32u⟩).toArray = M4 := ⟨_, rfl⟩
  obtain ⟨M5, h5⟩ : ∃ M5, (manC ⟨#[97]⟩ ⟨1, 1073741825, z32u⟩).toArray = M5 := ⟨_, rfl⟩
  obtain ⟨M6, h6⟩ : ∃ M6, (manC ⟨#[]⟩ ⟨1, 1, z32u⟩).toArray = M6 := ⟨_, rfl⟩
  obtain ⟨M7, h7⟩ : ∃ M7, (manC ⟨#[65]⟩ ⟨1, 1, z32u⟩).toArray = M7 := ⟨_, rfl⟩
  obtain ⟨M8, h8⟩ : ∃ M8, (manC ⟨#[206, 177, 206, 178, 206, 179, 206, 180, 206, 181, 206, 182, 206, 183, 206, 184]⟩ ⟨1, 1, z32u⟩).toArray = M8 := ⟨_, rfl⟩
  obtain ⟨M9, h9⟩ : ∃ M9, (manC ⟨#[97, 98, 99, 100, 101, 102, 103, 104, 105]⟩ ⟨1, 1, z32u⟩).toArray = M9 := ⟨_, rfl⟩
  rw [h0, h1, h2, h3, h4, h5, h6, h7, h8, h9] at hrl
  rw [h0] at b0
  rw [h1] at b1
  rw [h2] at b2
  rw [h3] at b3
  rw [h4] at b4
  rw [h5] at b5
  rw [h6] at b6
  rw [h7] at b7
  rw [h8] at b8
  rw [h9] at b9
  clear h0 h1 h2 h3 h4 h5 h6 h7 h8 h9
  obtain ⟨LL, hLL⟩ : ∃ LL, lim350 = LL := ⟨_, rfl⟩
  have hall := lim_all
  have hlen := lim350_len
  rw [hLL] at hrl hall hlen
  have HALL := Lib.hid hall
  have HLEN := Lib.hid hlen
  clear hall hlen hLL
  go_enter Tryd.func6, Tryd.ntmps6
  go_wp2_with fail
  refine (alive12_c w).mono ?_
  rintro e w1 ⟨rfl, hb1⟩
  have HB1 := Lib.hid hb1
  clear hb1
  go_upto_region 3 with fail
  have HL := Lib.hid (Blk.new w1 27 LL.toArray)
  have HB2 := Lib.hid (HB1.out.alloc HB1.out.size (.cells LL.toArray 27))
  clear hrl b0 b1 b2 b3 b4 b5 b6 b7 b8 b9
  generalize hW2 : w1.alloc (.cells LL.toArray 27) = W2 at HL HB2 ⊢
  go_upto_region 4 with fail
  have hB := Blk.new W2 4 (limOk.map Value.bool).toArray
  rw [← litBools] at hB
  have hb3 := (Below.refl W2.heap.size W2).alloc (Nat.le_refl _) (.cells #[Value.bool true, .bool false, .bool false, .bool true, .bool false, .bool false, .bool false, .bool false, .bool true, .bool false] 4)
  have HL3 := Lib.hid (HL.out.below hb3 HL.out.lt)
  have HB3 := Lib.hid (HB2.out.trans (hb3.mono HB2.out.size))
  have hcell : ∀ (k : Nat) b, limOk[k]? = some b → (W2.alloc (.cells #[Value.bool true, .bool false, .bool false, .bool true, .bool false, .bool false, .bool false, .bool false, .bool true, .bool false] 4)).cell? ⟨W2.heap.size, k, none⟩ = some (.bool b) := fun k b h => by
    rw [hB.cell]
    have q := limOk_get k b h
    simpa [litBools] using q
  obtain ⟨BL, hBL⟩ : ∃ BL, W2.heap.size = BL := ⟨_, rfl⟩
  rw [hBL] at hB hcell ⊢
  have hBLlt := hB.lt
  generalize W2.alloc (.cells #[Value.bool true, .bool false, .bool false, .bool true, .bool false, .bool false, .bool false, .bool false, .bool true, .bool false] 4) = W3 at HL3 HB3 hcell hBLlt ⊢
  have HCELL := Lib.hid hcell
  have HLT := Lib.hid hBLlt
  clear hB hb3 hcell hBLlt HL HB2 hW2 hBL
  by_cases c0 : n < 0
  · go_wp2_with fail
    go_ret
    exact ⟨rfl, HB3.out⟩
  obtain ⟨k, rfl⟩ : ∃ k : Nat, n = (k : Int) := ⟨n.toNat, by omega⟩
  by_cases c1 : (10 : Int) ≤ (k : Int)
  · go_wp2_with fail
    go_ret
    exact ⟨rfl, HB3.out⟩
  obtain ⟨x, b, hx, hb, hsub, hx1⟩ := HALL.out k (by omega)
  have hld : ∀ W, Blk W w1.heap.size 27 LL.toArray → (sldN (.pointer (some ⟨w1.heap.size, k * 35, none⟩))).run Tryd.prog W = .ok (.agg (manC x.1 x.2).toArray) W := fun W h => by
    have q := h.range (k * 35) 35 (by rw [HLEN.out]; omega)
    rw [hsub] at q
    exact run_sldN (manC_len hx1.d x.1) q
  have hby : ∀ (W : World) (b c : Nat), Reads W (some ⟨b, 0, none⟩) 1 (([107] : List UInt8).map u8v) → Calls Tryd.prog 12 #[.slice (some ⟨b, 0, none⟩) 1 c, .agg (manC x.1 x.2).toArray] W fun e w' => ∃ A c, e = .returned (.slice A 92 c) ∧ w'.ownsRow W.heap.size 5 1 (.slice A 92 c) 92 ((bytesB [107] x.1 x.2).map u8v) ∧ Below W.heap.size W w' := fun W b c h => 
    mbytes_c W (some ⟨b, 0, none⟩) 1 c [107] h (by omega) x.1 x.2 hx1.d (by have := hx1.nm; omega)
  have hrd := fun W A c => lim_read W A c x b hx1 [107]
  have heq := eqlN x.1 x.2 hx1.d
  have hstX := fun W => storeX W (manC x.1 x.2) (manC_len hx1.d _) (manC_one _ _)
  have hldX := fun W => ldX W (manC x.1 x.2) (manC_len hx1.d _)
  obtain ⟨MC, hMC⟩ : ∃ MC, (manC x.1 x.2).toArray = MC := ⟨_, rfl⟩
  rw [hMC] at heq
  simp only [hMC] at hld hby hrd hstX hldX
  have HLD := Lib.hid hld
  have HBY := Lib.hid hby
  have HRD := Lib.hid hrd
  have HEQ := Lib.hid heq
  have HST := Lib.hid hstX
  have HLDX := Lib.hid hldX
  have HX := Lib.hid hx1
  have HOKB := Lib.hid hb
  clear hld hby hrd heq hstX hldX hMC hsub hx hx1 hb
  have hba : Below W3.heap.size W3 (W3.alloc (.cells #[.int .u8 107] 5 (1, 2))) := (Below.refl _ _).alloc (Nat.le_refl _) _
  have hld6 := HLD.out _ (HL3.out.below hba HL3.out.lt)
  go_wp2_with fail
  refine (HBY.out _ W3.heap.size 1 (rowReads W3 [107] 5 (1, 2))).mono ?_
  rintro e w4 ⟨A, c, rfl, ho4, hb4⟩
  have HR4 := Lib.hid (Reads.of_own ho4)
  have HL4 := Lib.hid ((HL3.out.below hba HL3.out.lt).below hb4 (HL3.out.below hba HL3.out.lt).lt)
  have HB4 := Lib.hid ((HB3.out.trans (hba.mono HB3.out.size)).trans (hb4.mono (Nat.le_trans HB3.out.size hba.size)))
  have HC4 := Lib.hid (fun k b h => (Below.cell hb4 (p := ⟨BL, k, none⟩) (Nat.lt_of_lt_of_le HLT.out hba.size)).trans ((Below.cell hba (p := ⟨BL, k, none⟩) HLT.out).trans (HCELL.out k b h)))
  have HLT4 := Lib.hid (Nat.lt_of_lt_of_le HLT.out (Nat.le_trans hba.size hb4.size))
  clear ho4 hb4 hba hld6 HCELL HLT
  go_wp2_with fail
  refine (HRD.out _ A c HR4.out).mono ?_
  rintro e w5 ⟨⟨v, rfl⟩, hb5⟩
  have HL5 := Lib.hid (HL4.out.below hb5 HL4.out.lt)
  have HB5 := Lib.hid (HB4.out.trans (hb5.mono HB4.out.size))
  have HC5 := Lib.hid (fun k b h => (Below.cell hb5 (p := ⟨BL, k, none⟩) HLT4.out).trans (HC4.out k b h))
  have HLT5 := Lib.hid (Nat.lt_of_lt_of_le HLT4.out hb5.size)
  clear hb5 HR4 HL4 HB4 HC4 HLT4
  cases b with
  | true =>
    have hst := HST.out w5
    have hlx := HLDX.out w5
    simp only [if_true]
    have hb6 := below_setRow_m ((Below.refl w5.heap.size w5).alloc (Nat.le_refl _) (.cells litN 27)) (Nat.le_refl _) MC
    have hL6 := HL5.out.below hb6 HL5.out.lt
    have hld6 := fun q => HLD.out _ (hL6.drewN q)
    have hB6 := HB5.out.trans (hb6.mono HB5.out.size)
    have hcl := (Below.cell hb6 (p := ⟨BL, k, none⟩) HLT5.out).trans (HC5.out k true HOKB.out)
    clear hb6 hL6
    go_upto_region 7 with fail
    have heq6 := HEQ.out
    generalize (w5.alloc (.cells litN 27)).setRow w5.heap.size MC = W6 at hlx hld6 hB6 hcl ⊢
    clear hst
    have HB6 := Lib.hid hB6
    clear hB6
    go_wp2_with fail
    go_quiet ((go_at_call 14; exact Calls.quiet_of_same ((num12_c _ _).mono fun _ _ hh => ⟨hh.1, hh.2.symm⟩)))
    go_wp2_with fail
    go_ret
    exact ⟨rfl, below_drewN HB6.out _⟩
  | false =>
    have hst := storeZ w5
    have hlx := ldZ w5
    have heq6 := eqlZ
    have hbd := run_sbN0
    simp only [← zeroN_eq] at hbd
    have hb6 := below_setRow_m ((Below.refl w5.heap.size w5).alloc (Nat.le_refl _) (.cells litN 27)) (Nat.le_refl _) litN
    have hB6 := HB5.out.trans (hb6.mono HB5.out.size)
    have hcl := (Below.cell hb6 (p := ⟨BL, k, none⟩) HLT5.out).trans (HC5.out k false HOKB.out)
    clear hb6
    simp only [Bool.false_eq_true, if_false]
    go_upto_region 7 with fail
    generalize (w5.alloc (.cells litN 27)).setRow w5.heap.size litN = W6 at hlx hB6 hcl ⊢
    clear hst
    have hl0 : (sldN (.pointer (some ⟨w5.heap.size, 0, none⟩))).run Tryd.prog W6 = .ok (.agg litN) W6 := hlx 0
    have HB6 := Lib.hid hB6
    clear hB6
    go_wp2_with fail
    refine (num12_c _ _).mono ?_
    rintro e wx ⟨rfl, rfl⟩
    go_wp2_with fail
    go_ret
    exact ⟨rfl, HB6.out⟩
end Go.Proofs.YtocbahahienigaaDoor
