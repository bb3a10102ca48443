/- The reference's Line and Show. -/
import Derived.Test.YthidjmdcpdhdlaaDoorSr8
import Derived.BigQuiet
import Derived.Deep.QuietTactic
namespace Go.Proofs.YthidjmdcpdhdlaaDoor
open Go Go.RowKit
set_option linter.unusedVariables false
set_option linter.unusedSimpArgs false
attribute [local go_sem ↓] sbS_seal sldS_seal sstS_seal
theorem cat_ex (a b : List UInt8) (A B : ByteArray) (hA : A = ⟨a.toArray⟩) (hB : B = ⟨b.toArray⟩) (h : a.length + b.length ≤ 1000000000) : ∃ C : ByteArray, C = ⟨(a ++ b).toArray⟩ ∧ ∀ W, (Op.stringOp .add A B).run Tryd.prog W = .ok (.string C) W := by
  subst hA hB
  refine ⟨_, rfl, fun W => ?_⟩
  rw [run_string_add_sum (P := Tryd.prog) W _ _ (by show a.toArray.size + b.toArray.size ≤ _; rw [List.size_toArray, List.size_toArray]; omega), arr_add]
theorem say_ok {word : List UInt8} {ls : List Int} {more : List (List UInt8)} (h : ls.all okN = true) : sayS word ls more = Lib.join (word :: (ls.map decZ ++ more)) [32] ++ [10] := by unfold sayS; rw [if_pos h]
theorem say_no {word : List UInt8} {ls : List Int} {more : List (List UInt8)} (h : ls.all okN = false) : sayS word ls more = [] := by unfold sayS; rw [if_neg (by rw [h]; decide)]
theorem okN_nat {n : Int} (h : okN n = true) : ∃ k : Nat, n = k ∧ k ≤ 2147483647 := by
  unfold okN at h
  simp only [Bool.and_eq_true, decide_eq_true_eq] at h
  exact ⟨n.toNat, by omega, by omega⟩
theorem may_c (n : Int) (b : Bool) (h : okN n = b) (w : World) : Calls Tryd.prog 17 #[.int .i64 n] w fun e w' => e = .returned (.bool b) ∧ w = w' := by
  subst h; exact rmay21_c n w
theorem hexS_len (l : List UInt8) (h : l.length ≤ 10000) : (hexS l).length ≤ 20001 := by
  unfold hexS
  split
  · simp
  · rw [hexOf_len]; omega
theorem decZ_nat (k : Nat) : decZ (k : Int) = decL k := by unfold decZ; rw [Int.toNat_natCast]
set_option maxRecDepth 100000 in
set_option maxHeartbeats 1000000 in
theorem rline_c (x : Sp) (cs : List Value) (w : World) (hx : StepC w x cs) (hb1 : x.bytes.length ≤ 10000) (hb2 : x.mask.length ≤ 10000) : Calls Tryd.prog 11 #[.agg cs.toArray] w fun e w' => e = .returned (.string ⟨(showL x).toArray⟩) ∧ Below w.heap.size w w' := by
  obtain ⟨A, c, B, d, rfl, hA, hB, hA2, hB2⟩ := hx
  rw [show (stC x.kind x.tenant x.n x.rk x.rn (.slice A x.bytes.length c) (.slice B x.mask.length d)).toArray = #[.int .i64 x.kind, .int .i64 x.tenant, .int .i64 x.n, .int .i64 x.rk, .int .i64 x.rn, .slice A x.bytes.length c, .slice B x.mask.length d] from rfl]
  obtain ⟨V, hV⟩ : ∃ V, showL x = V := ⟨_, rfl⟩
  rw [hV]
  unfold showL at hV
  by_cases hk : x.kind = 0
  · rw [if_pos hk] at hV
    rw [hk]
    clear hk
    have hxx := x
    clear hxx
    obtain ⟨t, ht⟩ : ∃ t, x.tenant = t := ⟨_, rfl⟩
    obtain ⟨r1, hr1⟩ : ∃ t, x.rk = t := ⟨_, rfl⟩
    obtain ⟨r2, hr2⟩ : ∃ t, x.rn = t := ⟨_, rfl⟩
    rw [ht, hr1, hr2] at hV ⊢
    clear ht hr1 hr2
    cases o1 : okN t with
    | false =>
      rw [say_no (by simp [o1])] at hV
      subst hV
      have hm1 := may_c t false o1
      clear hA hB hA2 hB2 o1
      have hblk := Blk.new w 36 #[.int .i64 0, .int .i64 t, .int .i64 x.n, .int .i64 r1, .int .i64 r2, .slice A x.bytes.length c, .slice B x.mask.length d]
      have k0 : (w.alloc (.cells #[.int .i64 0, .int .i64 t, .int .i64 x.n, .int .i64 r1, .int .i64 r2, .slice A x.bytes.length c, .slice B x.mask.length d] 36)).cell? ⟨w.heap.size, 0, none⟩ = some (.int .i64 0) := hblk.cell 0
      have k1 : (w.alloc (.cells #[.int .i64 0, .int .i64 t, .int .i64 x.n, .int .i64 r1, .int .i64 r2, .slice A x.bytes.length c, .slice B x.mask.length d] 36)).cell? ⟨w.heap.size, 1, none⟩ = some (.int .i64 t) := hblk.cell 1
      go_enter Tryd.func11, Tryd.ntmps11
      go_wp2_with fail
      refine (hm1 _).mono ?_
      rintro e w' ⟨rfl, rfl⟩
      go_wp2_with fail
      go_ret
      exact ⟨rfl, (Below.refl w.heap.size w).alloc (Nat.le_refl _) _⟩
    | true =>
      cases o2 : okN r1 with
      | false =>
        rw [say_no (by simp [o2])] at hV
        subst hV
        have hm1 := may_c t true o1
        have hm2 := may_c r1 false o2
        clear hA hB hA2 hB2 o1 o2
        have hblk := Blk.new w 36 #[.int .i64 0, .int .i64 t, .int .i64 x.n, .int .i64 r1, .int .i64 r2, .slice A x.bytes.length c, .slice B x.mask.length d]
        have k0 : (w.alloc (.cells #[.int .i64 0, .int .i64 t, .int .i64 x.n, .int .i64 r1, .int .i64 r2, .slice A x.bytes.length c, .slice B x.mask.length d] 36)).cell? ⟨w.heap.size, 0, none⟩ = some (.int .i64 0) := hblk.cell 0
        have k1 : (w.alloc (.cells #[.int .i64 0, .int .i64 t, .int .i64 x.n, .int .i64 r1, .int .i64 r2, .slice A x.bytes.length c, .slice B x.mask.length d] 36)).cell? ⟨w.heap.size, 1, none⟩ = some (.int .i64 t) := hblk.cell 1
        have k3 : (w.alloc (.cells #[.int .i64 0, .int .i64 t, .int .i64 x.n, .int .i64 r1, .int .i64 r2, .slice A x.bytes.length c, .slice B x.mask.length d] 36)).cell? ⟨w.heap.size, 3, none⟩ = some (.int .i64 r1) := hblk.cell 3
        go_enter Tryd.func11, Tryd.ntmps11
        go_wp2_with fail
        refine (hm1 _).mono ?_
        rintro e w' ⟨rfl, rfl⟩
        go_wp2_with fail
        refine (hm2 _).mono ?_
        rintro e w' ⟨rfl, rfl⟩
        go_wp2_with fail
        go_ret
        exact ⟨rfl, (Below.refl w.heap.size w).alloc (Nat.le_refl _) _⟩
      | true =>
        cases o3 : okN r2 with
        | false =>
          rw [say_no (by simp [o3])] at hV
          subst hV
          have hm1 := may_c t true o1
          have hm2 := may_c r1 true o2
          have hm3 := may_c r2 false o3
          clear hA hB hA2 hB2 o1 o2 o3
          have hblk := Blk.new w 36 #[.int .i64 0, .int .i64 t, .int .i64 x.n, .int .i64 r1, .int .i64 r2, .slice A x.bytes.length c, .slice B x.mask.length d]
          have k0 : (w.alloc (.cells #[.int .i64 0, .int .i64 t, .int .i64 x.n, .int .i64 r1, .int .i64 r2, .slice A x.bytes.length c, .slice B x.mask.length d] 36)).cell? ⟨w.heap.size, 0, none⟩ = some (.int .i64 0) := hblk.cell 0
          have k1 : (w.alloc (.cells #[.int .i64 0, .int .i64 t, .int .i64 x.n, .int .i64 r1, .int .i64 r2, .slice A x.bytes.length c, .slice B x.mask.length d] 36)).cell? ⟨w.heap.size, 1, none⟩ = some (.int .i64 t) := hblk.cell 1
          have k3 : (w.alloc (.cells #[.int .i64 0, .int .i64 t, .int .i64 x.n, .int .i64 r1, .int .i64 r2, .slice A x.bytes.length c, .slice B x.mask.length d] 36)).cell? ⟨w.heap.size, 3, none⟩ = some (.int .i64 r1) := hblk.cell 3
          have k4 : (w.alloc (.cells #[.int .i64 0, .int .i64 t, .int .i64 x.n, .int .i64 r1, .int .i64 r2, .slice A x.bytes.length c, .slice B x.mask.length d] 36)).cell? ⟨w.heap.size, 4, none⟩ = some (.int .i64 r2) := hblk.cell 4
          go_enter Tryd.func11, Tryd.ntmps11
          go_wp2_with fail
          refine (hm1 _).mono ?_
          rintro e w' ⟨rfl, rfl⟩
          go_wp2_with fail
          refine (hm2 _).mono ?_
          rintro e w' ⟨rfl, rfl⟩
          go_wp2_with fail
          refine (hm3 _).mono ?_
          rintro e w' ⟨rfl, rfl⟩
          go_wp2_with fail
          go_ret
          exact ⟨rfl, (Below.refl w.heap.size w).alloc (Nat.le_refl _) _⟩
        | true =>
          rw [say_ok (by simp [o1, o2, o3])] at hV
          have hm1 := may_c t true o1
          have hm2 := may_c r1 true o2
          have hm3 := may_c r2 true o3
          obtain ⟨T, rfl, hT⟩ := okN_nat o1
          obtain ⟨K, rfl, hK⟩ := okN_nat o2
          obtain ⟨N, rfl, hN⟩ := okN_nat o3
          have lT := decL_small T hT
          have lK := decL_small K hK
          have lN := decL_small N hN
          have lH := hexS_len x.bytes hb1
          obtain ⟨S1, e1, q1⟩ := cat_ex [97, 115, 107, 32] (decL T) ⟨#[97, 115, 107, 32]⟩ _ rfl rfl (by simp; omega)
          obtain ⟨S2, e2, q2⟩ := cat_ex _ [32] S1 ⟨#[32]⟩ e1 rfl (by simp; omega)
          obtain ⟨S3, e3, q3⟩ := cat_ex _ (decL K) S2 _ e2 rfl (by simp; omega)
          obtain ⟨S4, e4, q4⟩ := cat_ex _ [32] S3 ⟨#[32]⟩ e3 rfl (by simp; omega)
          obtain ⟨S5, e5, q5⟩ := cat_ex _ (decL N) S4 _ e4 rfl (by simp; omega)
          obtain ⟨S6, e6, q6⟩ := cat_ex _ [32] S5 ⟨#[32]⟩ e5 rfl (by simp; omega)
          obtain ⟨S7, e7, q7⟩ := cat_ex _ (hexS x.bytes) S6 _ e6 rfl (by simp; omega)
          obtain ⟨S8, e8, q8⟩ := cat_ex _ [10] S7 ⟨#[10]⟩ e7 rfl (by simp; omega)
          have hfin : S8 = ⟨V.toArray⟩ := by
            rw [e8, ← hV]
            simp only [List.map_cons, List.map_nil, decZ_nat, Lib.join_cons, Lib.joinTail, askL]
            simp
          have HF := Lib.hid hfin
          have HA := Lib.hid (hA.alloc (.cells #[.int .i64 0, .int .i64 (T : Int), .int .i64 x.n, .int .i64 (K : Int), .int .i64 (N : Int), .slice A x.bytes.length c, .slice B x.mask.length d] 36))
          have hdq := fun n W (h : n ≤ 2147483647) => rdecq_c n (by omega) W
          have hbb := Lib.hid hb1
          clear hA hB hA2 hB2 o1 o2 o3 e1 e2 e3 e4 e5 e6 e7 e8 hV hfin lT lK lN lH hb1 hb2
          have hblk := Blk.new w 36 #[.int .i64 0, .int .i64 (T : Int), .int .i64 x.n, .int .i64 (K : Int), .int .i64 (N : Int), .slice A x.bytes.length c, .slice B x.mask.length d]
          have k0 : (w.alloc (.cells #[.int .i64 0, .int .i64 (T : Int), .int .i64 x.n, .int .i64 (K : Int), .int .i64 (N : Int), .slice A x.bytes.length c, .slice B x.mask.length d] 36)).cell? ⟨w.heap.size, 0, none⟩ = some (.int .i64 0) := hblk.cell 0
          have k1 : (w.alloc (.cells #[.int .i64 0, .int .i64 (T : Int), .int .i64 x.n, .int .i64 (K : Int), .int .i64 (N : Int), .slice A x.bytes.length c, .slice B x.mask.length d] 36)).cell? ⟨w.heap.size, 1, none⟩ = some (.int .i64 (T : Int)) := hblk.cell 1
          have k3 : (w.alloc (.cells #[.int .i64 0, .int .i64 (T : Int), .int .i64 x.n, .int .i64 (K : Int), .int .i64 (N : Int), .slice A x.bytes.length c, .slice B x.mask.length d] 36)).cell? ⟨w.heap.size, 3, none⟩ = some (.int .i64 (K : Int)) := hblk.cell 3
          have k4 : (w.alloc (.cells #[.int .i64 0, .int .i64 (T : Int), .int .i64 x.n, .int .i64 (K : Int), .int .i64 (N : Int), .slice A x.bytes.length c, .slice B x.mask.length d] 36)).cell? ⟨w.heap.size, 4, none⟩ = some (.int .i64 (N : Int)) := hblk.cell 4
          have k5 : (w.alloc (.cells #[.int .i64 0, .int .i64 (T : Int), .int .i64 x.n, .int .i64 (K : Int), .int .i64 (N : Int), .slice A x.bytes.length c, .slice B x.mask.length d] 36)).cell? ⟨w.heap.size, 5, none⟩ = some (.slice A x.bytes.length c) := hblk.cell 5
          go_enter Tryd.func11, Tryd.ntmps11
          go_wp2_with fail
          refine (hm1 _).mono ?_
          rintro e w' ⟨rfl, rfl⟩
          go_wp2_with fail
          refine (hm2 _).mono ?_
          rintro e w' ⟨rfl, rfl⟩
          go_wp2_with fail
          refine (hm3 _).mono ?_
          rintro e w' ⟨rfl, rfl⟩
          go_upto_region 4 with fail
          go_quiet (first | (go_at_call 18; exact Calls.quiet_of_same ((hdq _ _ (by assumption)).mono fun _ _ hh => ⟨hh.1, hh.2.symm⟩)) | (go_at_call 19; exact Calls.quiet_of (rhex_c _ _ _ x.bytes _ (HA.out.drewN _) hbb.out)))
          go_wp2_with fail
          go_ret
          refine ⟨by rw [HF.out]; rfl, ?_⟩
          exact ((Below.refl w.heap.size w).alloc (Nat.le_refl _) _).trans ⟨rfl, rfl, rfl, Nat.le_refl _, fun _ _ => rfl⟩
  rw [if_neg hk] at hV
  by_cases hk1 : x.kind = 1
  · rw [if_pos hk1] at hV
    rw [hk1]
    clear hk hk1 hA hB hA2 hB2
    have hv : V = [116, 105, 99, 107, 10] := by rw [← hV]; rfl
    subst hv
    clear hV
    have hblk := Blk.new w 36 #[.int .i64 1, .int .i64 x.tenant, .int .i64 x.n, .int .i64 x.rk, .int .i64 x.rn, .slice A x.bytes.length c, .slice B x.mask.length d]
    have k0 : (w.alloc (.cells #[.int .i64 1, .int .i64 x.tenant, .int .i64 x.n, .int .i64 x.rk, .int .i64 x.rn, .slice A x.bytes.length c, .slice B x.mask.length d] 36)).cell? ⟨w.heap.size, 0, none⟩ = some (.int .i64 1) := hblk.cell 0
    go_enter Tryd.func11, Tryd.ntmps11
    go_wp2_with fail
    go_ret
    exact ⟨rfl, (Below.refl w.heap.size w).alloc (Nat.le_refl _) _⟩
  rw [if_neg hk1] at hV
  by_cases hk2 : x.kind = 2
  · rw [if_pos hk2] at hV
    rw [hk2]
    clear hk hk1 hk2
    obtain ⟨t, ht⟩ : ∃ t, x.n = t := ⟨_, rfl⟩
    rw [ht] at hV ⊢
    clear ht
    cases o1 : okN t with
    | false =>
      rw [say_no (by simp [o1])] at hV
      subst hV
      have hm1 := may_c t false o1
      clear hA hB hA2 hB2 o1
      have hblk := Blk.new w 36 #[.int .i64 2, .int .i64 x.tenant, .int .i64 t, .int .i64 x.rk, .int .i64 x.rn, .slice A x.bytes.length c, .slice B x.mask.length d]
      have k0 : (w.alloc (.cells #[.int .i64 2, .int .i64 x.tenant, .int .i64 t, .int .i64 x.rk, .int .i64 x.rn, .slice A x.bytes.length c, .slice B x.mask.length d] 36)).cell? ⟨w.heap.size, 0, none⟩ = some (.int .i64 2) := hblk.cell 0
      have k2 : (w.alloc (.cells #[.int .i64 2, .int .i64 x.tenant, .int .i64 t, .int .i64 x.rk, .int .i64 x.rn, .slice A x.bytes.length c, .slice B x.mask.length d] 36)).cell? ⟨w.heap.size, 2, none⟩ = some (.int .i64 t) := hblk.cell 2
      go_enter Tryd.func11, Tryd.ntmps11
      go_wp2_with fail
      refine (hm1 _).mono ?_
      rintro e w' ⟨rfl, rfl⟩
      go_wp2_with fail
      go_ret
      exact ⟨rfl, (Below.refl w.heap.size w).alloc (Nat.le_refl _) _⟩
    | true =>
      rw [say_ok (by simp [o1])] at hV
      have hm1 := may_c t true o1
      obtain ⟨T, rfl, hT⟩ := okN_nat o1
      have lT := decL_small T hT
      have lH := hexS_len x.mask hb2
      obtain ⟨S1, e1, q1⟩ := cat_ex [99, 117, 116, 32] (decL T) ⟨#[99, 117, 116, 32]⟩ _ rfl rfl (by simp; omega)
      obtain ⟨S2, e2, q2⟩ := cat_ex _ [32] S1 ⟨#[32]⟩ e1 rfl (by simp; omega)
      obtain ⟨S3, e3, q3⟩ := cat_ex _ (hexS x.mask) S2 _ e2 rfl (by simp; omega)
      obtain ⟨S4, e4, q4⟩ := cat_ex _ [10] S3 ⟨#[10]⟩ e3 rfl (by simp; omega)
      have hfin : S4 = ⟨V.toArray⟩ := by
        rw [e4, ← hV]
        simp only [List.map_cons, List.map_nil, decZ_nat, Lib.join_cons, Lib.joinTail, cutL]
        simp
      have HF := Lib.hid hfin
      have HA := Lib.hid (hB.alloc (.cells #[.int .i64 2, .int .i64 x.tenant, .int .i64 (T : Int), .int .i64 x.rk, .int .i64 x.rn, .slice A x.bytes.length c, .slice B x.mask.length d] 36))
      have hd1 := fun W => rdecq_c T (by omega) W
      have hbb := Lib.hid hb2
      clear hA hB hA2 hB2 o1 e1 e2 e3 e4 hV hfin lT lH hb1 hb2
      have hblk := Blk.new w 36 #[.int .i64 2, .int .i64 x.tenant, .int .i64 (T : Int), .int .i64 x.rk, .int .i64 x.rn, .slice A x.bytes.length c, .slice B x.mask.length d]
      have k0 : (w.alloc (.cells #[.int .i64 2, .int .i64 x.tenant, .int .i64 (T : Int), .int .i64 x.rk, .int .i64 x.rn, .slice A x.bytes.length c, .slice B x.mask.length d] 36)).cell? ⟨w.heap.size, 0, none⟩ = some (.int .i64 2) := hblk.cell 0
      have k2 : (w.alloc (.cells #[.int .i64 2, .int .i64 x.tenant, .int .i64 (T : Int), .int .i64 x.rk, .int .i64 x.rn, .slice A x.bytes.length c, .slice B x.mask.length d] 36)).cell? ⟨w.heap.size, 2, none⟩ = some (.int .i64 (T : Int)) := hblk.cell 2
      have k6 : (w.alloc (.cells #[.int .i64 2, .int .i64 x.tenant, .int .i64 (T : Int), .int .i64 x.rk, .int .i64 x.rn, .slice A x.bytes.length c, .slice B x.mask.length d] 36)).cell? ⟨w.heap.size, 6, none⟩ = some (.slice B x.mask.length d) := hblk.cell 6
      go_enter Tryd.func11, Tryd.ntmps11
      go_wp2_with fail
      refine (hm1 _).mono ?_
      rintro e w' ⟨rfl, rfl⟩
      go_upto_region 9 with fail
      go_quiet (first | (go_at_call 18; exact Calls.quiet_of_same ((hd1 _).mono fun _ _ hh => ⟨hh.1, hh.2.symm⟩)) | (go_at_call 19; exact Calls.quiet_of (rhex_c _ _ _ x.mask _ (HA.out.drewN _) hbb.out)))
      go_wp2_with fail
      go_ret
      refine ⟨by rw [HF.out]; rfl, ?_⟩
      exact ((Below.refl w.heap.size w).alloc (Nat.le_refl _) _).trans ⟨rfl, rfl, rfl, Nat.le_refl _, fun _ _ => rfl⟩
  rw [if_neg hk2] at hV
  by_cases hk3 : x.kind = 3
  · rw [if_pos hk3] at hV
    rw [hk3]
    clear hk hk1 hk2 hk3
    obtain ⟨t, ht⟩ : ∃ t, x.n = t := ⟨_, rfl⟩
    rw [ht] at hV ⊢
    clear ht
    cases o1 : okN t with
    | false =>
      rw [say_no (by simp [o1])] at hV
      subst hV
      have hm1 := may_c t false o1
      clear hA hB hA2 hB2 o1
      have hblk := Blk.new w 36 #[.int .i64 3, .int .i64 x.tenant, .int .i64 t, .int .i64 x.rk, .int .i64 x.rn, .slice A x.bytes.length c, .slice B x.mask.length d]
      have k0 : (w.alloc (.cells #[.int .i64 3, .int .i64 x.tenant, .int .i64 t, .int .i64 x.rk, .int .i64 x.rn, .slice A x.bytes.length c, .slice B x.mask.length d] 36)).cell? ⟨w.heap.size, 0, none⟩ = some (.int .i64 3) := hblk.cell 0
      have k2 : (w.alloc (.cells #[.int .i64 3, .int .i64 x.tenant, .int .i64 t, .int .i64 x.rk, .int .i64 x.rn, .slice A x.bytes.length c, .slice B x.mask.length d] 36)).cell? ⟨w.heap.size, 2, none⟩ = some (.int .i64 t) := hblk.cell 2
      go_enter Tryd.func11, Tryd.ntmps11
      go_wp2_with fail
      refine (hm1 _).mono ?_
      rintro e w' ⟨rfl, rfl⟩
      go_wp2_with fail
      go_ret
      exact ⟨rfl, (Below.refl w.heap.size w).alloc (Nat.le_refl _) _⟩
    | true =>
      rw [say_ok (by simp [o1])] at hV
      have hm1 := may_c t true o1
      obtain ⟨T, rfl, hT⟩ := okN_nat o1
      have lT := decL_small T hT
      obtain ⟨S1, e1, q1⟩ := cat_ex [112, 97, 115, 115, 32] (decL T) ⟨#[112, 97, 115, 115, 32]⟩ _ rfl rfl (by simp; omega)
      obtain ⟨S2, e2, q2⟩ := cat_ex _ [10] S1 ⟨#[10]⟩ e1 rfl (by simp; omega)
      have hfin : S2 = ⟨V.toArray⟩ := by
        rw [e2, ← hV]
        simp only [List.map_cons, List.map_nil, decZ_nat, Lib.join_cons, Lib.joinTail, passL]
        simp
      have HF := Lib.hid hfin
      have hd1 := fun W => rdecq_c T (by omega) W
      clear hA hB hA2 hB2 o1 e1 e2 hV hfin lT hb1 hb2
      have hblk := Blk.new w 36 #[.int .i64 3, .int .i64 x.tenant, .int .i64 (T : Int), .int .i64 x.rk, .int .i64 x.rn, .slice A x.bytes.length c, .slice B x.mask.length d]
      have k0 : (w.alloc (.cells #[.int .i64 3, .int .i64 x.tenant, .int .i64 (T : Int), .int .i64 x.rk, .int .i64 x.rn, .slice A x.bytes.length c, .slice B x.mask.length d] 36)).cell? ⟨w.heap.size, 0, none⟩ = some (.int .i64 3) := hblk.cell 0
      have k2 : (w.alloc (.cells #[.int .i64 3, .int .i64 x.tenant, .int .i64 (T : Int), .int .i64 x.rk, .int .i64 x.rn, .slice A x.bytes.length c, .slice B x.mask.length d] 36)).cell? ⟨w.heap.size, 2, none⟩ = some (.int .i64 (T : Int)) := hblk.cell 2
      go_enter Tryd.func11, Tryd.ntmps11
      go_wp2_with fail
      refine (hm1 _).mono ?_
      rintro e w' ⟨rfl, rfl⟩
      go_wp2_with fail
      refine (hd1 _).mono ?_
      rintro e w' ⟨rfl, rfl⟩
      go_wp2_with fail
      go_ret
      refine ⟨by rw [HF.out]; rfl, ?_⟩
      exact (Below.refl w.heap.size w).alloc (Nat.le_refl _) _
  rw [if_neg hk3] at hV
  subst hV
  clear hA hB hA2 hB2
  have hblk := Blk.new w 36 #[.int .i64 x.kind, .int .i64 x.tenant, .int .i64 x.n, .int .i64 x.rk, .int .i64 x.rn, .slice A x.bytes.length c, .slice B x.mask.length d]
  have k0 : (w.alloc (.cells #[.int .i64 x.kind, .int .i64 x.tenant, .int .i64 x.n, .int .i64 x.rk, .int .i64 x.rn, .slice A x.bytes.length c, .slice B x.mask.length d] 36)).cell? ⟨w.heap.size, 0, none⟩ = some (.int .i64 x.kind) := hblk.cell 0
  go_enter Tryd.func11, Tryd.ntmps11
  go_wp2_with fail
  go_ret
  exact ⟨rfl, (Below.refl w.heap.size w).alloc (Nat.le_refl _) _⟩
end Go.Proofs.YthidjmdcpdhdlaaDoor
