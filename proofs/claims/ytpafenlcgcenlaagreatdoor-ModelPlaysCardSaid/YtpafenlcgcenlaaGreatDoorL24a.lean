/- waterlinelaw24.alive. -/
import Derived.Test.YtpafenlcgcenlaaGreatDoorMdY
namespace Go.Proofs.YtpafenlcgcenlaaGreatDoor
open Go Go.RowKit
set_option linter.unusedVariables false
set_option linter.unusedSimpArgs false
theorem validA : validN ⟨#[97]⟩ = true := by kernel_rfl
def cfgA (r : Int) : Cf := ⟨⟨#[97]⟩, [107], 1, 0, 1, r, [120]⟩
theorem cfgA_right {r : Int} (h0 : 0 ≤ r) (h1 : r ≤ 1023) : (cfgA r).right = true := by
  unfold Cf.right cfgA
  dsimp only
  rw [validA, decide_eq_true h0, decide_eq_true h1]
  rfl
theorem num24_c (n : Int) (w : World) : Calls Tryz.prog 23 #[.int .i64 n] w fun e w' => e = .returned (.int .i64 n) ∧ w = w' := by
  go_enter Tryz.func23, Tryz.ntmps23
  go_wp2_with fail
  go_ret
  exact ⟨rfl, rfl⟩
theorem stA_status : stepM (cfgA 1022) (st0 (cfgA 1022)) 9 0 [] = (st0 (cfgA 1022), 0, 0, 0) :=
  stepM_status (st0_inv (cfgA_right (by decide) (by decide))) (by decide) 0 []
theorem stA_run (r : Int) : (st0 (cfgA r)).run.take ((st0 (cfgA r)).m.have_ (st0 (cfgA r)).m.act).s.toNat = [120] := by
  unfold MSt.run
  rw [if_pos (show (st0 (cfgA r)).m.act = 0 from rfl)]
  show ([120] ++ _ : List UInt8).take 1 = [120]
  rfl
set_option maxRecDepth 100000 in
set_option maxHeartbeats 8000000 in
theorem alive24_c (w : World) : Calls Tryz.prog 6 #[] w fun e w' => e = .returned (.bool true) ∧ Below w.heap.size w w' := by
  have kc := fun (w : World) (C : Array Value) (n c : Nat) => Lib.run_convert_bytes_const (P := Tryz.prog) w 22 5 C n c Tryz.underlying22 Tryz.underlying5
  have kc2 : ∀ (w : World) (o : Obj) (C : Array Value) (n c : Nat), (convert 22 22 (.slice (some ⟨w.heap.size + 1, 0, none⟩) n c)).run Tryz.prog ((w.alloc o).alloc (.cells C 5)) = .ok (.slice (some ⟨w.heap.size + 1, 0, none⟩) n c) ((w.alloc o).alloc (.cells C 5 (C.size, C.size + 1))) := fun w o C n c => by
    have q := kc (w.alloc o) C n c
    rw [show (w.alloc o).heap.size = w.heap.size + 1 from by simp] at q
    exact q
  go_enter Tryz.func6, Tryz.ntmps6
  go_wp2_with fail
  refine (mdo_nil w 0 0 none 0 0).mono ?_
  rintro e w1 ⟨rfl, hb1⟩
  have hR := Blk.new w1 37 #[.int .i64 1, .int .i64 0, .int .i64 0]
  have hB := hb1.trans (((Below.refl _ w1).alloc (Nat.le_refl _) (.cells #[.int .i64 1, .int .i64 0, .int .i64 0] 37)).mono hb1.size)
  have HR := Lib.hid hR
  have HB := Lib.hid hB
  have HL := Lib.hid (show w.heap.size ≤ w1.heap.size from hb1.size)
  clear hR hB hb1
  go_upto_region 3 with fail
  have hR := HR.out
  have hB := HB.out
  clear HR HB
  have hsz : (w1.alloc (.cells #[.int .i64 1, .int .i64 0, .int .i64 0] 37)).heap.size = w1.heap.size + 1 := by simp
  have HSZ := Lib.hid hsz
  clear hsz
  generalize w1.alloc (.cells #[.int .i64 1, .int .i64 0, .int .i64 0] 37) = W2 at hR hB HSZ ⊢
  have hK := (rowReads W2 [107] 5 (1, 2)).alloc (.cells #[.int .u8 120] 5 (1, 2))
  have hF := rowReads (W2.alloc (.cells #[.int .u8 107] 5 (1, 2))) [120] 5 (1, 2)
  rw [show (W2.alloc (.cells #[.int .u8 107] 5 (1, 2))).heap.size = W2.heap.size + 1 from by simp] at hF
  have hb2 : Below W2.heap.size W2 ((W2.alloc (.cells #[.int .u8 107] 5 (1, 2))).alloc (.cells #[.int .u8 120] 5 (1, 2))) := ((Below.refl _ W2).alloc (Nat.le_refl _) _).alloc (by simp) _
  have hnew := mnewB ((W2.alloc (.cells #[.int .u8 107] 5 (1, 2))).alloc (.cells #[.int .u8 120] 5 (1, 2))) (cfgA 1022) (some ⟨W2.heap.size, 0, none⟩) 1 (some ⟨W2.heap.size + 1, 0, none⟩) 1 (by decide) hK hF (cfgA_right (by decide) (by decide))
  have HR := Lib.hid (hR.below hb2 hR.lt)
  have HB := Lib.hid (hB.trans (hb2.mono hB.size))
  have HRL := Lib.hid (show w1.heap.size < W2.heap.size from hR.lt)
  have HW2 := Lib.hid hb2.size
  have HN := Lib.hid hnew
  clear hR hB hK hF hb2 hnew
  go_wp2_with fail
  refine HN.out.mono ?_
  rintro e w3 ⟨b, rfl, hmd, hb3⟩
  have hR := HR.out.below hb3 HR.out.lt
  have hB := HB.out.trans (hb3.mono HB.out.size)
  have hinv := st0_inv (c := cfgA 1022) (cfgA_right (by decide) (by decide))
  have hst := stA_status
  obtain ⟨S, hS⟩ : ∃ S, st0 (cfgA 1022) = S := ⟨_, rfl⟩
  have hrun := stA_run 1022
  rw [hS] at hmd hinv hst hrun
  obtain ⟨C, hC⟩ : ∃ C, cfgA 1022 = C := ⟨_, rfl⟩
  have hcr : C.right = true := by rw [← hC]; exact cfgA_right (by decide) (by decide)
  rw [hC] at hmd hinv hst
  have hdo := mdoB w3 _ _ b C S hcr hinv hmd 9 0 none 0 0 [] (Reads.none_ _) (by omega) ⟨by omega, by omega⟩
  rw [hst] at hdo
  have hr0 : Below w3.heap.size w3 w3 := Below.refl _ _
  have HR := Lib.hid hR
  have HB := Lib.hid hB
  have HDO := Lib.hid hdo
  have HBG := Lib.hid (show w.heap.size ≤ ((W2.alloc (.cells #[.int .u8 107] 5 (1, 2))).alloc (.cells #[.int .u8 120] 5 (1, 2))).heap.size from Nat.le_trans (Nat.le_trans HL.out (Nat.le_of_lt HRL.out)) HW2.out)
  have HRG := Lib.hid (show w1.heap.size < ((W2.alloc (.cells #[.int .u8 107] 5 (1, 2))).alloc (.cells #[.int .u8 120] 5 (1, 2))).heap.size from Nat.lt_of_lt_of_le HRL.out HW2.out)
  generalize ((W2.alloc (.cells #[.int .u8 107] 5 (1, 2))).alloc (.cells #[.int .u8 120] 5 (1, 2))).heap.size = BB at hmd HDO HBG HRG
  have HIN := Lib.hid hinv
  have HRUN := Lib.hid hrun
  have HCR := Lib.hid hcr
  clear hR hB hdo hmd hinv hst hrun hcr hS hC hb3 HN HSZ hr0 HRL HW2 HL
  go_wp2_with fail
  refine HDO.out.mono ?_
  rintro e w4 ⟨rfl, hmd4, ho4⟩
  have hR := HR.out.only ho4 (fun q => by have := (mem_win.1 q).1; have := HRG.out; omega)
  have hB := ho4.below HB.out HB.out.size (fun k q => by have := (mem_win.1 q).1; have := HBG.out; omega)
  have q0 : (w4.alloc (.cells #[.int .i64 0, .int .i64 0, .int .i64 0] 37)).cell? ⟨w1.heap.size, 0, none⟩ = some (.int .i64 1) := (hR.alloc _).cell 0
  have HMD := Lib.hid hmd4
  have HB := Lib.hid hB
  clear hmd4 ho4 hR hB HR HDO
  have hact : ∀ W, Below w4.heap.size w4 W → Calls Tryz.prog 13 #[.pointer (some ⟨b, 0, none⟩)] W (MadeBytes W [120]) := fun W hW => by
    have q := mactB W BB _ b C S HCR.out HIN.out (HMD.out.later hW)
    rw [HRUN.out] at q
    exact q
  have heq : ∀ W, (binOp .eql 37 (.agg #[.int .i64 0, .int .i64 0, .int .i64 0]) (.agg #[.int .i64 0, .int .i64 0, .int .i64 0])).run Tryz.prog W = .ok (.bool true) W := fun W => eqlR 0 0 0 0 0 0 W
  have HACT := Lib.hid hact
  clear hact
  go_wp2_with fail
  refine (num24_c 1 _).mono ?_
  rintro e w5 ⟨rfl, rfl⟩
  go_wp2_with fail
  refine (HACT.out _ ((Below.refl _ _).alloc (Nat.le_refl _) _)).mono ?_
  rintro e w6 ⟨A6, c6, rfl, ho6, hb6⟩
  have hstr := strAny w6 A6 1 c6 [120] (Reads.of_own ho6)
  have HB := Lib.hid ((HB.out.alloc HB.out.size _).trans (hb6.mono (Nat.le_trans HB.out.size (by simp))))
  clear ho6 hb6
  go_wp2_with fail
  go_ret
  exact ⟨rfl, HB.out⟩
end Go.Proofs.YtpafenlcgcenlaaGreatDoor
