/- waterlinelaw24.ModelRights: a tenant without a flash may just what its rights say. -/
import Derived.Test.YtpafenlcgcenlaaDoorL24a
namespace Go.Proofs.YtpafenlcgcenlaaDoor
open Go Go.RowKit
set_option linter.unusedVariables false
set_option linter.unusedSimpArgs false
theorem stepM_e14 (c : Cf) (s : MSt) (k n : Int) (l : List UInt8) : (stepM c s k n l).2.1 = 14 ↔ mayK c.rights.toNat k = false := by
  unfold stepM
  cases h : mayK c.rights.toNat k
  · rw [if_neg (by simp)]
    exact ⟨fun _ => rfl, fun _ => rfl⟩
  · rw [if_pos rfl]
    exact ⟨fun q => absurd q (doA_ne14 _ _ _ _ _), fun q => by cases q⟩
set_option maxRecDepth 100000 in
set_option maxHeartbeats 8000000 in
theorem mdRights_c (w : World) (rights kind : Int) : Calls Tryd.prog 3 #[.int .i64 rights, .int .i64 kind] w fun e w' => e = .returned (.bool true) ∧ Below w.heap.size w w' := by
  have kc := fun (w : World) (C : Array Value) (n c : Nat) => Lib.run_convert_bytes_const (P := Tryd.prog) w 25 5 C n c Tryd.underlying25 Tryd.underlying5
  have kc2 : ∀ (w : World) (o : Obj) (C : Array Value) (n c : Nat), (convert 25 25 (.slice (some ⟨w.heap.size + 1, 0, none⟩) n c)).run Tryd.prog ((w.alloc o).alloc (.cells C 5)) = .ok (.slice (some ⟨w.heap.size + 1, 0, none⟩) n c) ((w.alloc o).alloc (.cells C 5 (C.size, C.size + 1))) := fun w o C n c => by
    have q := kc (w.alloc o) C n c
    rw [show (w.alloc o).heap.size = w.heap.size + 1 from by simp] at q
    exact q
  go_enter Tryd.func3, Tryd.ntmps3
  go_wp2_with fail
  refine (alive24_c _).mono ?_
  rintro e W2 ⟨rfl, hB⟩
  have HB := Lib.hid hB
  clear hB
  by_cases h0 : rights < 0
  · go_wp2_with fail
    go_ret
    exact ⟨rfl, HB.out⟩
  by_cases h1 : 1023 < rights
  · go_wp2_with fail
    go_ret
    exact ⟨rfl, HB.out⟩
  go_upto_region 4 with fail
  clear h0 h1
  obtain ⟨r, hr⟩ : ∃ r : Nat, rights = (r : Int) := ⟨rights.toNat, by omega⟩
  have hr2 : r ≤ 1023 := by omega
  subst hr
  have hcr0 : (cfgA (r : Int)).right = true := cfgA_right (by omega) (by omega)
  have hK := (rowReads W2 [107] 5 (1, 2)).alloc (.cells #[.int .u8 120] 5 (1, 2))
  have hF := rowReads (W2.alloc (.cells #[.int .u8 107] 5 (1, 2))) [120] 5 (1, 2)
  rw [show (W2.alloc (.cells #[.int .u8 107] 5 (1, 2))).heap.size = W2.heap.size + 1 from by simp] at hF
  have hb2 : Below W2.heap.size W2 ((W2.alloc (.cells #[.int .u8 107] 5 (1, 2))).alloc (.cells #[.int .u8 120] 5 (1, 2))) := ((Below.refl _ W2).alloc (Nat.le_refl _) _).alloc (by simp) _
  have hnew := mnewB ((W2.alloc (.cells #[.int .u8 107] 5 (1, 2))).alloc (.cells #[.int .u8 120] 5 (1, 2))) (cfgA (r : Int)) (some ⟨W2.heap.size, 0, none⟩) 1 (some ⟨W2.heap.size + 1, 0, none⟩) 1 (by show (1 : Nat) ≤ 1000000; decide) hK hF hcr0
  have HB := Lib.hid (HB.out.trans (hb2.mono HB.out.size))
  have HN := Lib.hid hnew
  have HSZ0 := Lib.hid HB.out.size
  clear hK hF hb2 hnew
  have hanon : ¬ (r : Int) < 0 := by omega
  go_wp2_with fail
  refine HN.out.mono ?_
  rintro e w3 ⟨b, rfl, hmd, hb3⟩
  have hB := HB.out.trans (hb3.mono HB.out.size)
  have hinv := st0_inv hcr0
  obtain ⟨S, hS⟩ : ∃ S, st0 (cfgA (r : Int)) = S := ⟨_, rfl⟩
  rw [hS] at hmd hinv
  have hrt : (cfgA (r : Int)).rights.toNat = r := rfl
  obtain ⟨C, hC⟩ : ∃ C, cfgA (r : Int) = C := ⟨_, rfl⟩
  rw [hC] at hmd hinv hcr0 hrt
  have hdo := mdoB w3 _ _ b C S hcr0 hinv hmd kind 0 none 0 0 [] (Reads.none_ _) (by omega) ⟨by omega, by omega⟩
  have he := stepM_e14 C S kind 0 []
  rw [hrt] at he
  obtain ⟨E, hE⟩ : ∃ E, (stepM C S kind 0 []).2.1 = E := ⟨_, rfl⟩
  obtain ⟨E1, hE1⟩ : ∃ E, (stepM C S kind 0 []).2.2.1 = E := ⟨_, rfl⟩
  obtain ⟨E2, hE2⟩ : ∃ E, (stepM C S kind 0 []).2.2.2 = E := ⟨_, rfl⟩
  rw [hE, hE1, hE2] at hdo
  rw [hE] at he
  have HB := Lib.hid hB
  have HDO := Lib.hid hdo
  have HE := Lib.hid he
  have HR2 := Lib.hid hr2
  have HSZ := HSZ0
  clear hB hdo hmd hinv hcr0 hS hC hb3 HN hE hE1 hE2 hrt hr2 he hanon
  go_wp2_with fail
  refine HDO.out.mono ?_
  rintro e w4 ⟨rfl, hmd4, ho4⟩
  have hB := ho4.below HB.out HB.out.size (fun k q => by have := (mem_win.1 q).1; have := HSZ.out; omega)
  have HB := Lib.hid hB
  clear hmd4 ho4 hB HDO HSZ HSZ0
  by_cases k1 : 1 ≤ kind
  rotate_left
  · have hm : mayK r kind = false := by unfold mayK; rw [decide_eq_false k1]; rfl
    have hE : E = 14 := HE.out.2 hm
    subst hE
    have h1b : ¬ kind ≥ 1 := k1
    have h1d : decide (1 ≤ kind) = false := decide_eq_false k1
    clear hm
    go_wp2_with fail
    go_ret
    exact ⟨rfl, HB.out.alloc HB.out.size _⟩
  by_cases k9 : kind ≤ 9
  rotate_left
  · have hm : mayK r kind = false := by unfold mayK; rw [decide_eq_true k1, decide_eq_false k9]; rfl
    have hE : E = 14 := HE.out.2 hm
    subst hE
    have h9d : decide (kind ≤ 9) = false := decide_eq_false k9
    clear hm
    go_wp2_with fail
    go_ret
    exact ⟨rfl, HB.out.alloc HB.out.size _⟩
  have h10 : kind = 1 ∨ kind = 2 ∨ kind = 3 ∨ kind = 4 ∨ kind = 5 ∨ kind = 6 ∨ kind = 7 ∨ kind = 8 ∨ kind = 9 := by omega
  clear k1 k9
  rcases h10 with rfl | rfl | rfl | rfl | rfl | rfl | rfl | rfl | rfl
  · have hb15 : bits BinOp.and IntKind.i64 1 15 = 1 := by kernel_rfl
    have hx : r / 2 < 512 := by have := HR2.out; omega
    have hand := and1 ⟨r / 2, hx⟩
    dsimp only at hand
    have e1 : ((r / 2 : Nat) : Int) = (r : Int) / 2 := by omega
    have e2 : ((r / 2 % 2 : Nat) : Int) = (r : Int) / 2 % 2 := by omega
    rw [e1, e2] at hand
    by_cases h : r / 2 % 2 = 1
    · have hm : mayK r 1 = true := decide_eq_true (p := r / 2 % 2 = 1) h
      have hE : (E == 14) = false := by rw [beq_eq_false_iff_ne]; intro q; have := HE.out.1 q; rw [hm] at this; cases this
      have hi : (r : Int) / 2 % 2 = 1 := by omega
      clear e1 e2 hm
      go_wp2_with fail
      go_ret
      exact ⟨rfl, HB.out.alloc HB.out.size _⟩
    · have hm : mayK r 1 = false := decide_eq_false (p := r / 2 % 2 = 1) h
      have hE : E = 14 := HE.out.2 hm
      subst hE
      have hi : (r : Int) / 2 % 2 = 0 := by omega
      clear e1 e2 hm
      go_wp2_with fail
      go_ret
      exact ⟨rfl, HB.out.alloc HB.out.size _⟩
  · have hb15 : bits BinOp.and IntKind.i64 2 15 = 2 := by kernel_rfl
    have hx : r / 4 < 512 := by have := HR2.out; omega
    have hand := and1 ⟨r / 4, hx⟩
    dsimp only at hand
    have e1 : ((r / 4 : Nat) : Int) = (r : Int) / 4 := by omega
    have e2 : ((r / 4 % 2 : Nat) : Int) = (r : Int) / 4 % 2 := by omega
    rw [e1, e2] at hand
    by_cases h : r / 4 % 2 = 1
    · have hm : mayK r 2 = true := decide_eq_true (p := r / 4 % 2 = 1) h
      have hE : (E == 14) = false := by rw [beq_eq_false_iff_ne]; intro q; have := HE.out.1 q; rw [hm] at this; cases this
      have hi : (r : Int) / 4 % 2 = 1 := by omega
      clear e1 e2 hm
      go_wp2_with fail
      go_ret
      exact ⟨rfl, HB.out.alloc HB.out.size _⟩
    · have hm : mayK r 2 = false := decide_eq_false (p := r / 4 % 2 = 1) h
      have hE : E = 14 := HE.out.2 hm
      subst hE
      have hi : (r : Int) / 4 % 2 = 0 := by omega
      clear e1 e2 hm
      go_wp2_with fail
      go_ret
      exact ⟨rfl, HB.out.alloc HB.out.size _⟩
  · have hb15 : bits BinOp.and IntKind.i64 3 15 = 3 := by kernel_rfl
    have hx : r / 8 < 512 := by have := HR2.out; omega
    have hand := and1 ⟨r / 8, hx⟩
    dsimp only at hand
    have e1 : ((r / 8 : Nat) : Int) = (r : Int) / 8 := by omega
    have e2 : ((r / 8 % 2 : Nat) : Int) = (r : Int) / 8 % 2 := by omega
    rw [e1, e2] at hand
    by_cases h : r / 8 % 2 = 1
    · have hm : mayK r 3 = true := decide_eq_true (p := r / 8 % 2 = 1) h
      have hE : (E == 14) = false := by rw [beq_eq_false_iff_ne]; intro q; have := HE.out.1 q; rw [hm] at this; cases this
      have hi : (r : Int) / 8 % 2 = 1 := by omega
      clear e1 e2 hm
      go_wp2_with fail
      go_ret
      exact ⟨rfl, HB.out.alloc HB.out.size _⟩
    · have hm : mayK r 3 = false := decide_eq_false (p := r / 8 % 2 = 1) h
      have hE : E = 14 := HE.out.2 hm
      subst hE
      have hi : (r : Int) / 8 % 2 = 0 := by omega
      clear e1 e2 hm
      go_wp2_with fail
      go_ret
      exact ⟨rfl, HB.out.alloc HB.out.size _⟩
  · have hb15 : bits BinOp.and IntKind.i64 4 15 = 4 := by kernel_rfl
    have hx : r / 16 < 512 := by have := HR2.out; omega
    have hand := and1 ⟨r / 16, hx⟩
    dsimp only at hand
    have e1 : ((r / 16 : Nat) : Int) = (r : Int) / 16 := by omega
    have e2 : ((r / 16 % 2 : Nat) : Int) = (r : Int) / 16 % 2 := by omega
    rw [e1, e2] at hand
    by_cases h : r / 16 % 2 = 1
    · have hm : mayK r 4 = true := decide_eq_true (p := r / 16 % 2 = 1) h
      have hE : (E == 14) = false := by rw [beq_eq_false_iff_ne]; intro q; have := HE.out.1 q; rw [hm] at this; cases this
      have hi : (r : Int) / 16 % 2 = 1 := by omega
      clear e1 e2 hm
      go_wp2_with fail
      go_ret
      exact ⟨rfl, HB.out.alloc HB.out.size _⟩
    · have hm : mayK r 4 = false := decide_eq_false (p := r / 16 % 2 = 1) h
      have hE : E = 14 := HE.out.2 hm
      subst hE
      have hi : (r : Int) / 16 % 2 = 0 := by omega
      clear e1 e2 hm
      go_wp2_with fail
      go_ret
      exact ⟨rfl, HB.out.alloc HB.out.size _⟩
  · have hb15 : bits BinOp.and IntKind.i64 5 15 = 5 := by kernel_rfl
    have hx : r / 32 < 512 := by have := HR2.out; omega
    have hand := and1 ⟨r / 32, hx⟩
    dsimp only at hand
    have e1 : ((r / 32 : Nat) : Int) = (r : Int) / 32 := by omega
    have e2 : ((r / 32 % 2 : Nat) : Int) = (r : Int) / 32 % 2 := by omega
    rw [e1, e2] at hand
    by_cases h : r / 32 % 2 = 1
    · have hm : mayK r 5 = true := decide_eq_true (p := r / 32 % 2 = 1) h
      have hE : (E == 14) = false := by rw [beq_eq_false_iff_ne]; intro q; have := HE.out.1 q; rw [hm] at this; cases this
      have hi : (r : Int) / 32 % 2 = 1 := by omega
      clear e1 e2 hm
      go_wp2_with fail
      go_ret
      exact ⟨rfl, HB.out.alloc HB.out.size _⟩
    · have hm : mayK r 5 = false := decide_eq_false (p := r / 32 % 2 = 1) h
      have hE : E = 14 := HE.out.2 hm
      subst hE
      have hi : (r : Int) / 32 % 2 = 0 := by omega
      clear e1 e2 hm
      go_wp2_with fail
      go_ret
      exact ⟨rfl, HB.out.alloc HB.out.size _⟩
  · have hb15 : bits BinOp.and IntKind.i64 6 15 = 6 := by kernel_rfl
    have hx : r / 64 < 512 := by have := HR2.out; omega
    have hand := and1 ⟨r / 64, hx⟩
    dsimp only at hand
    have e1 : ((r / 64 : Nat) : Int) = (r : Int) / 64 := by omega
    have e2 : ((r / 64 % 2 : Nat) : Int) = (r : Int) / 64 % 2 := by omega
    rw [e1, e2] at hand
    by_cases h : r / 64 % 2 = 1
    · have hm : mayK r 6 = true := decide_eq_true (p := r / 64 % 2 = 1) h
      have hE : (E == 14) = false := by rw [beq_eq_false_iff_ne]; intro q; have := HE.out.1 q; rw [hm] at this; cases this
      have hi : (r : Int) / 64 % 2 = 1 := by omega
      clear e1 e2 hm
      go_wp2_with fail
      go_ret
      exact ⟨rfl, HB.out.alloc HB.out.size _⟩
    · have hm : mayK r 6 = false := decide_eq_false (p := r / 64 % 2 = 1) h
      have hE : E = 14 := HE.out.2 hm
      subst hE
      have hi : (r : Int) / 64 % 2 = 0 := by omega
      clear e1 e2 hm
      go_wp2_with fail
      go_ret
      exact ⟨rfl, HB.out.alloc HB.out.size _⟩
  · have hb15 : bits BinOp.and IntKind.i64 7 15 = 7 := by kernel_rfl
    have hx : r / 128 < 512 := by have := HR2.out; omega
    have hand := and1 ⟨r / 128, hx⟩
    dsimp only at hand
    have e1 : ((r / 128 : Nat) : Int) = (r : Int) / 128 := by omega
    have e2 : ((r / 128 % 2 : Nat) : Int) = (r : Int) / 128 % 2 := by omega
    rw [e1, e2] at hand
    by_cases h : r / 128 % 2 = 1
    · have hm : mayK r 7 = true := decide_eq_true (p := r / 128 % 2 = 1) h
      have hE : (E == 14) = false := by rw [beq_eq_false_iff_ne]; intro q; have := HE.out.1 q; rw [hm] at this; cases this
      have hi : (r : Int) / 128 % 2 = 1 := by omega
      clear e1 e2 hm
      go_wp2_with fail
      go_ret
      exact ⟨rfl, HB.out.alloc HB.out.size _⟩
    · have hm : mayK r 7 = false := decide_eq_false (p := r / 128 % 2 = 1) h
      have hE : E = 14 := HE.out.2 hm
      subst hE
      have hi : (r : Int) / 128 % 2 = 0 := by omega
      clear e1 e2 hm
      go_wp2_with fail
      go_ret
      exact ⟨rfl, HB.out.alloc HB.out.size _⟩
  · have hb15 : bits BinOp.and IntKind.i64 8 15 = 8 := by kernel_rfl
    have hx : r / 256 < 512 := by have := HR2.out; omega
    have hand := and1 ⟨r / 256, hx⟩
    dsimp only at hand
    have e1 : ((r / 256 : Nat) : Int) = (r : Int) / 256 := by omega
    have e2 : ((r / 256 % 2 : Nat) : Int) = (r : Int) / 256 % 2 := by omega
    rw [e1, e2] at hand
    by_cases h : r / 256 % 2 = 1
    · have hm : mayK r 8 = true := decide_eq_true (p := r / 256 % 2 = 1) h
      have hE : (E == 14) = false := by rw [beq_eq_false_iff_ne]; intro q; have := HE.out.1 q; rw [hm] at this; cases this
      have hi : (r : Int) / 256 % 2 = 1 := by omega
      clear e1 e2 hm
      go_wp2_with fail
      go_ret
      exact ⟨rfl, HB.out.alloc HB.out.size _⟩
    · have hm : mayK r 8 = false := decide_eq_false (p := r / 256 % 2 = 1) h
      have hE : E = 14 := HE.out.2 hm
      subst hE
      have hi : (r : Int) / 256 % 2 = 0 := by omega
      clear e1 e2 hm
      go_wp2_with fail
      go_ret
      exact ⟨rfl, HB.out.alloc HB.out.size _⟩
  · have hb15 : bits BinOp.and IntKind.i64 9 15 = 9 := by kernel_rfl
    have hx : r / 512 < 512 := by have := HR2.out; omega
    have hand := and1 ⟨r / 512, hx⟩
    dsimp only at hand
    have e1 : ((r / 512 : Nat) : Int) = (r : Int) / 512 := by omega
    have e2 : ((r / 512 % 2 : Nat) : Int) = (r : Int) / 512 % 2 := by omega
    rw [e1, e2] at hand
    by_cases h : r / 512 % 2 = 1
    · have hm : mayK r 9 = true := decide_eq_true (p := r / 512 % 2 = 1) h
      have hE : (E == 14) = false := by rw [beq_eq_false_iff_ne]; intro q; have := HE.out.1 q; rw [hm] at this; cases this
      have hi : (r : Int) / 512 % 2 = 1 := by omega
      clear e1 e2 hm
      go_wp2_with fail
      go_ret
      exact ⟨rfl, HB.out.alloc HB.out.size _⟩
    · have hm : mayK r 9 = false := decide_eq_false (p := r / 512 % 2 = 1) h
      have hE : E = 14 := HE.out.2 hm
      subst hE
      have hi : (r : Int) / 512 % 2 = 0 := by omega
      clear e1 e2 hm
      go_wp2_with fail
      go_ret
      exact ⟨rfl, HB.out.alloc HB.out.size _⟩
end Go.Proofs.YtpafenlcgcenlaaDoor
