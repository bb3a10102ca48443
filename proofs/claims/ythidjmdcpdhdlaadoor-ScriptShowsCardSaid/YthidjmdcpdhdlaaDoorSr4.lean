/- The reference's step: the step that a line says. -/
import Derived.Test.YthidjmdcpdhdlaaDoorSr3
namespace Go.Proofs.YthidjmdcpdhdlaaDoor
open Go Go.RowKit
set_option linter.unusedVariables false
set_option linter.unusedSimpArgs false
attribute [local go_sem ↓] sbS_seal sldS_seal sstS_seal
theorem run_sbSk (t rk rn : Int) (A : Option Addr) (k c : Nat) (w : World) : (sbS #[(1, .int .i64 t), (3, .agg #[.int .i64 rk, .int .i64 rn, .slice A k c])]).run Tryd.prog w = .ok (.agg (stC 0 t 0 rk rn (.slice A k c) (.slice none 0 0)).toArray) w := by
  refine run_build w _ _ _ ?_
  have h : Tryd.prog.built 36 [(1, .int .i64 t), (3, .agg #[.int .i64 rk, .int .i64 rn, .slice A k c])] = Instr.fill (#[(0, 1), (1, 1), (2, 1), (3, 3), (6, 1)][·]?) litS [(1, .int .i64 t), (3, .agg #[.int .i64 rk, .int .i64 rn, .slice A k c])] := by kernel_rfl
  rw [h]
  rfl
/-- What the reference's step answers. -/
def rstepRet (V : Option Sp) (e : Ending) (w' : World) : Prop :=
  match V with
  | Option.none => ∃ cs : List Value, e = .returned (.tuple #[.agg cs.toArray, .bool false]) ∧ cs.length = 7 ∧ (∀ u ∈ cs, u.oneCell' = true)
  | Option.some x => ∃ cs : List Value, e = .returned (.tuple #[.agg cs.toArray, .bool true]) ∧ StepO w' x cs
theorem rnumI_some {l : List UInt8} (h : 0 ≤ rnumI l) : ∃ n : Nat, numS l = Option.some n ∧ rnumI l = n := by
  unfold rnumI at h ⊢
  cases hn : numS l with
  | none => rw [hn] at h; exact absurd h (by decide)
  | some n => exact ⟨n, rfl, rfl⟩
theorem rnumI_none {l : List UInt8} (h : ¬ 0 ≤ rnumI l) : numS l = Option.none := by
  unfold rnumI at h
  cases hn : numS l with
  | none => rfl
  | some n => rw [hn] at h; exact absurd (Int.natCast_nonneg n) h
theorem ask_bad {a0 a b c d : List UInt8} (h0 : a0 = askL) (h : numS a = Option.none ∨ numS b = Option.none ∨ numS c = Option.none) : stepW [a0, a, b, c, d] = Option.none := by
  refine ask_none1 h0 ?_
  unfold numsG numsG numsG numsG
  cases ha : numS a with
  | none => rfl
  | some x =>
    cases hb : numS b with
    | none => rfl
    | some y =>
      cases hc : numS c with
      | none => rfl
      | some z => rcases h with h | h | h <;> simp_all
set_option maxRecDepth 100000 in
set_option maxHeartbeats 8000000 in
theorem rstep_c (s : ByteArray) (hs : s.size ≤ 200000) (w : World) : Calls Tryd.prog 16 #[.string s] w fun e w' => rstepRet (stepW (splitG s.data.toList [])) e w' ∧ Below w.heap.size w w' := by
  obtain ⟨V, hV0⟩ : ∃ V, stepW (splitG s.data.toList []) = V := ⟨_, rfl⟩
  rw [hV0]
  have hb0 := Blk.new w 36 litS
  have hl0 : Ln w (w.alloc (.cells litS 36)) := ⟨hb0, (Below.refl _ _).alloc (Nat.le_refl _) _⟩
  have HL0 := Lib.hid hl0
  have hsz : s.size ≤ 1000000 := by omega
  have hll : s.data.toList.length = s.size := Array.length_toList
  have HLL := Lib.hid hll
  have HV0 := Lib.hid hV0
  clear hb0 hl0 hll hV0
  go_enter Tryd.func16, Tryd.ntmps16
  go_wp2_with fail
  refine (rwords_c s hsz _).mono ?_
  rintro e w1 ⟨A, c, rfl, ho, hb⟩
  have hVq := HV0.out
  have hwl : ∀ x ∈ splitG s.data.toList [], x.length ≤ 200000 := fun x hx => by have := splitG_len _ [] x hx; have h2 := HLL.out; simp at this h2; omega
  have hne := splitG_ne s.data.toList
  generalize splitG s.data.toList [] = ws at ho hwl hne hVq ⊢
  have hR := Reads.of_own ho
  have hcap := own_capR ho
  have hL1 := HL0.out.later hb
  have HLn := Lib.hid hL1
  clear ho hb HL0 HLL hL1
  obtain ⟨a0, rest, rfl⟩ : ∃ a0 rest, ws = a0 :: rest := by
    cases ws with
    | nil => exact absurd rfl hne
    | cons a0 rest => exact ⟨a0, rest, rfl⟩
  obtain ⟨bk, o, rfl, hbk, hcs⟩ := hR.2 (Nat.succ_pos _)
  have c0 : w1.cell? ⟨bk, o, none⟩ = some (.string ⟨a0.toArray⟩) := hcs 0 _ rfl
  obtain ⟨S0, hS⟩ : ∃ S0 : ByteArray, (⟨a0.toArray⟩ : ByteArray) = S0 := ⟨_, rfl⟩
  have hS0 : S0.toList = a0 := by rw [← hS, ByteArray.toList_eq]
  rw [hS] at c0
  have HW := Lib.hid hwl
  have HBK := Lib.hid hbk
  have HCS := Lib.hid hcs
  have HS0 := Lib.hid hS0
  have HVQ := Lib.hid hVq
  have hml : (a0 :: rest).length = rest.length + 1 := rfl
  rw [hml] at hcap ⊢
  clear hne hS hbk hR hwl hcs hS0 hml hVq HV0
  by_cases hk : a0 = [116, 105, 99, 107]
  · have hnk : S0.toList = [116, 105, 99, 107] := by rw [HS0.out]; exact hk
    by_cases hl : rest.length = 0
    · obtain rfl : rest = [] := by exact List.eq_nil_of_length_eq_zero hl
      clear hl
      dsimp only [List.length_cons, List.length_nil] at hcap ⊢
      have hV2 := HVQ.out
      rw [show stepW [a0] = Option.some ⟨1, 0, 0, 0, 0, [], []⟩ from if_pos hk] at hV2
      subst hV2
      clear HVQ
      clear HW HCS HS0
      have hbd := fun W => run_sbSt W
      have hst := run_sstS (stC 1 0 0 0 0 (.slice none 0 0) (.slice none 0 0)) HLn.out.res rfl rfl (stC_one _ _ _ _ _ _ _ _ _ _ _)
      go_wp2_with fail
      refine bodyPost_ret (results_cell_tmp1 rfl _ _ w.heap.size 36 (stC 1 0 0 0 0 (.slice none 0 0) (.slice none 0 0)).toArray (0, 0) _ rfl (HLn.out.res.setRow_s _) Tryd.underlying36 rfl info_sS) rfl ?_
      exact ⟨⟨stC 1 0 0 0 0 (.slice none 0 0) (.slice none 0 0), rfl, none, 0, none, 0, rfl, OwnB.nil _, OwnB.nil _⟩, HLn.out.fin _⟩
    · have hm : ¬ ((rest.length : Int) + 1) = 1 := by omega
      have hm2 : ¬ ((rest.length + 1 : Nat) : Int) = 1 := by omega
      have hV2 := HVQ.out
      rw [stepW_none a0 rest (fun e => by rw [hk] at e; exact absurd e (by decide)) (fun _ => hl) (fun e => by rw [hk] at e; exact absurd e (by decide)) (fun e => by rw [hk] at e; exact absurd e (by decide))] at hV2
      subst hV2
      clear HVQ HW HCS HS0
      have hbd := fun W => run_sbS0 W
      have hst := run_sstS (stC 0 0 0 0 0 (.slice none 0 0) (.slice none 0 0)) HLn.out.res rfl rfl (stC_one _ _ _ _ _ _ _ _ _ _ _)
      rw [← litS_eq] at hst
      go_wp2_with fail
      refine bodyPost_ret (results_cell_tmp1 rfl _ _ w.heap.size 36 litS (0, 0) _ rfl (HLn.out.res.setRow_s _) Tryd.underlying36 rfl info_sS) rfl ?_
      exact ⟨⟨stC 0 0 0 0 0 (.slice none 0 0) (.slice none 0 0), rfl, rfl, stC_one _ _ _ _ _ _ _ _ _ _ _⟩, HLn.out.fin _⟩
  have ntick : ¬ S0.toList = [116, 105, 99, 107] := by rw [HS0.out]; exact hk
  have btick : (S0.toList == [116, 105, 99, 107]) = false := by rw [beq_eq_false_iff_ne]; exact ntick
  have ktick := Lib.hid hk
  clear hk
  by_cases hk : a0 = [112, 97, 115, 115]
  · have hnk : S0.toList = [112, 97, 115, 115] := by rw [HS0.out]; exact hk
    by_cases hl : rest.length = 1
    · obtain ⟨a1, rfl⟩ : ∃ a1, rest = [a1] := by match rest, hl with | [a1], _ => exact ⟨a1, rfl⟩
      clear hl
      dsimp only [List.length_cons, List.length_nil] at hcap ⊢
      have HK := Lib.hid hk
      clear hk
      have z1 : (⟨a1.toArray⟩ : ByteArray).size ≤ 1000000 := by have h := HW.out a1 (by simp); show a1.toArray.size ≤ _; rw [List.size_toArray]; omega
      have c1 : w1.cell? ⟨bk, o + 1, none⟩ = some (.string ⟨a1.toArray⟩) := HCS.out 1 _ rfl
      go_wp2_with fail
      refine (rnumber_c _ z1 _).mono ?_
      rintro e w2 ⟨rfl, hb⟩
      rw [show (⟨a1.toArray⟩ : ByteArray).data.toList = a1 from List.toList_toArray ..]
      have hl2 := HLn.out.later hb
      clear HLn
      have HLn := Lib.hid hl2
      clear hl2
      have hbb := hb
      have HBB := Lib.hid hbb
      obtain ⟨N1, hN1⟩ : ∃ N, rnumI a1 = N := ⟨_, rfl⟩
      rw [hN1]
      have HN1 := Lib.hid hN1
      clear hN1
      clear hbb hb HBB HW HCS HS0
      by_cases hp : 0 ≤ N1
      · have hp2 : N1 ≥ 0 := hp
        obtain ⟨n1, e1, e2⟩ := rnumI_some (l := a1) (by rw [HN1.out]; exact hp)
        have e3 : N1 = (n1 : Int) := by rw [← HN1.out]; exact e2
        have hV2 := HVQ.out
        rw [show stepW [a0, a1] = Option.some ⟨3, 0, n1, 0, 0, [], []⟩ from (by show (if a0 = _ then _ else _) = _; rw [if_pos (show a0 = passL from HK.out), e1]; rfl)] at hV2
        subst hV2
        clear HVQ
        clear HN1 e2
        subst e3
        have hbd := fun W => run_sbSp (n1 : Int) W
        have hst := run_sstS (stC 3 0 (n1 : Int) 0 0 (.slice none 0 0) (.slice none 0 0)) HLn.out.res rfl rfl (stC_one _ _ _ _ _ _ _ _ _ _ _)
        go_wp2_with fail
        refine bodyPost_ret (results_cell_tmp1 rfl _ _ w.heap.size 36 (stC 3 0 (n1 : Int) 0 0 (.slice none 0 0) (.slice none 0 0)).toArray (0, 0) _ rfl (HLn.out.res.setRow_s _) Tryd.underlying36 rfl info_sS) rfl ?_
        exact ⟨⟨stC 3 0 (n1 : Int) 0 0 (.slice none 0 0) (.slice none 0 0), rfl, none, 0, none, 0, rfl, OwnB.nil _, OwnB.nil _⟩, HLn.out.fin _⟩
      · have hp2 : ¬ N1 ≥ 0 := hp
        have hdf : decide (0 ≤ N1) = false := decide_eq_false hp
        have hV2 := HVQ.out
        rw [show stepW [a0, a1] = Option.none from (by show (if a0 = _ then _ else _) = _; rw [if_pos (show a0 = passL from HK.out), rnumI_none (by rw [HN1.out]; exact hp)]; rfl)] at hV2
        subst hV2
        clear HVQ
        clear HN1
        have hbd := fun W => run_sbSp N1 W
        have hst := run_sstS (stC 3 0 N1 0 0 (.slice none 0 0) (.slice none 0 0)) HLn.out.res rfl rfl (stC_one _ _ _ _ _ _ _ _ _ _ _)
        go_wp2_with fail
        refine bodyPost_ret (results_cell_tmp1 rfl _ _ w.heap.size 36 (stC 3 0 N1 0 0 (.slice none 0 0) (.slice none 0 0)).toArray (0, 0) _ rfl (HLn.out.res.setRow_s _) Tryd.underlying36 rfl info_sS) rfl ?_
        exact ⟨⟨stC 3 0 N1 0 0 (.slice none 0 0) (.slice none 0 0), rfl, rfl, stC_one _ _ _ _ _ _ _ _ _ _ _⟩, HLn.out.fin _⟩
    · have hm : ¬ ((rest.length : Int) + 1) = 2 := by omega
      have hm2 : ¬ ((rest.length + 1 : Nat) : Int) = 2 := by omega
      have hV2 := HVQ.out
      rw [stepW_none a0 rest (fun e => by rw [hk] at e; exact absurd e (by decide)) (fun e => by rw [hk] at e; exact absurd e (by decide)) (fun e => by rw [hk] at e; exact absurd e (by decide)) (fun _ => hl)] at hV2
      subst hV2
      clear HVQ HW HCS HS0
      have hbd := fun W => run_sbS0 W
      have hst := run_sstS (stC 0 0 0 0 0 (.slice none 0 0) (.slice none 0 0)) HLn.out.res rfl rfl (stC_one _ _ _ _ _ _ _ _ _ _ _)
      rw [← litS_eq] at hst
      go_wp2_with fail
      refine bodyPost_ret (results_cell_tmp1 rfl _ _ w.heap.size 36 litS (0, 0) _ rfl (HLn.out.res.setRow_s _) Tryd.underlying36 rfl info_sS) rfl ?_
      exact ⟨⟨stC 0 0 0 0 0 (.slice none 0 0) (.slice none 0 0), rfl, rfl, stC_one _ _ _ _ _ _ _ _ _ _ _⟩, HLn.out.fin _⟩
  have npass : ¬ S0.toList = [112, 97, 115, 115] := by rw [HS0.out]; exact hk
  have bpass : (S0.toList == [112, 97, 115, 115]) = false := by rw [beq_eq_false_iff_ne]; exact npass
  have kpass := Lib.hid hk
  clear hk
  by_cases hk : a0 = [99, 117, 116]
  · have hnk : S0.toList = [99, 117, 116] := by rw [HS0.out]; exact hk
    by_cases hl : rest.length = 2
    · obtain ⟨a1, a2, rfl⟩ : ∃ a1 a2, rest = [a1, a2] := by match rest, hl with | [a1, a2], _ => exact ⟨a1, a2, rfl⟩
      clear hl
      dsimp only [List.length_cons, List.length_nil] at hcap ⊢
      have HK := Lib.hid hk
      clear hk
      have z1 : (⟨a1.toArray⟩ : ByteArray).size ≤ 1000000 := by have h := HW.out a1 (by simp); show a1.toArray.size ≤ _; rw [List.size_toArray]; omega
      have z2 : (⟨a2.toArray⟩ : ByteArray).size ≤ 1000000 := by have h := HW.out a2 (by simp); show a2.toArray.size ≤ _; rw [List.size_toArray]; omega
      have c1 : w1.cell? ⟨bk, o + 1, none⟩ = some (.string ⟨a1.toArray⟩) := HCS.out 1 _ rfl
      go_wp2_with fail
      refine (rnumber_c _ z1 _).mono ?_
      rintro e w2 ⟨rfl, hb⟩
      rw [show (⟨a1.toArray⟩ : ByteArray).data.toList = a1 from List.toList_toArray ..]
      have hl2 := HLn.out.later hb
      clear HLn
      have HLn := Lib.hid hl2
      clear hl2
      have hbb := hb
      have HBB := Lib.hid hbb
      obtain ⟨N1, hN1⟩ : ∃ N, rnumI a1 = N := ⟨_, rfl⟩
      rw [hN1]
      have HN1 := Lib.hid hN1
      clear hN1
      have c2 : w2.cell? ⟨bk, o + 2, none⟩ = some (.string ⟨a2.toArray⟩) := by refine Eq.trans (?_ : w2.cell? ⟨bk, o + 2, none⟩ = w1.cell? ⟨bk, o + 2, none⟩) (HCS.out 2 _ rfl); simp only [World.cell?, hbb.block bk HBK.out]
      clear hbb hb HBB HW HS0
      go_wp2_with fail
      refine (runhex_c _ z2 _).mono ?_
      rintro e w3 ⟨hr, hb⟩
      rw [show (⟨a2.toArray⟩ : ByteArray).data.toList = a2 from List.toList_toArray ..] at hr
      have hl2 := HLn.out.later hb
      clear HLn
      have HLn := Lib.hid hl2
      clear hl2 hb
      rcases hx2 : rawS a2 with _ | l2
      · have he := rawRet_none hr hx2
        subst he
        have hV2 := HVQ.out
        rw [show stepW [a0, a1, a2] = Option.none from (by show (if a0 = _ then _ else _) = _; rw [if_pos (show a0 = cutL from HK.out), hx2]; cases numS a1 <;> rfl)] at hV2
        subst hV2
        clear HVQ
        clear hr HN1
        have hbd := fun W => run_sbSc N1 none 0 0 W
        have hst := run_sstS (stC 2 0 N1 0 0 (.slice none 0 0) (.slice none 0 0)) HLn.out.res rfl rfl (stC_one _ _ _ _ _ _ _ _ _ _ _)
        go_wp2_with fail
        refine bodyPost_ret (results_cell_tmp1 rfl _ _ w.heap.size 36 (stC 2 0 N1 0 0 (.slice none 0 0) (.slice none 0 0)).toArray (0, 0) _ rfl (HLn.out.res.setRow_s _) Tryd.underlying36 rfl info_sS) rfl ?_
        exact ⟨⟨stC 2 0 N1 0 0 (.slice none 0 0) (.slice none 0 0), rfl, rfl, stC_one _ _ _ _ _ _ _ _ _ _ _⟩, HLn.out.fin _⟩
      · obtain ⟨A3, c3, he, hr4⟩ := rawRet_some hr hx2
        subst he
        have HR4 := Lib.hid hr4
        clear hr hr4
        by_cases hp : 0 ≤ N1
        · have hp2 : N1 ≥ 0 := hp
          obtain ⟨n1, e1, e2⟩ := rnumI_some (l := a1) (by rw [HN1.out]; exact hp)
          have e3 : N1 = (n1 : Int) := by rw [← HN1.out]; exact e2
          have hV2 := HVQ.out
          rw [show stepW [a0, a1, a2] = Option.some ⟨2, 0, n1, 0, 0, [], l2⟩ from (by show (if a0 = _ then _ else _) = _; rw [if_pos (show a0 = cutL from HK.out), e1, hx2]; rfl)] at hV2
          subst hV2
          clear HVQ
          clear HN1 e2
          subst e3
          have hbd := fun W => run_sbSc (n1 : Int) A3 l2.length c3 W
          have hst := run_sstS (stC 2 0 (n1 : Int) 0 0 (.slice none 0 0) (.slice A3 l2.length c3)) HLn.out.res rfl rfl (stC_one _ _ _ _ _ _ _ _ _ _ _)
          go_wp2_with fail
          refine bodyPost_ret (results_cell_tmp1 rfl _ _ w.heap.size 36 (stC 2 0 (n1 : Int) 0 0 (.slice none 0 0) (.slice A3 l2.length c3)).toArray (0, 0) _ rfl (HLn.out.res.setRow_s _) Tryd.underlying36 rfl info_sS) rfl ?_
          exact ⟨⟨stC 2 0 (n1 : Int) 0 0 (.slice none 0 0) (.slice A3 l2.length c3), rfl, none, 0, A3, c3, rfl, OwnB.nil _, HR4.out.setRow HLn.out.res _⟩, HLn.out.fin _⟩
        · have hp2 : ¬ N1 ≥ 0 := hp
          have hdf : decide (0 ≤ N1) = false := decide_eq_false hp
          have hV2 := HVQ.out
          rw [show stepW [a0, a1, a2] = Option.none from (by show (if a0 = _ then _ else _) = _; rw [if_pos (show a0 = cutL from HK.out), rnumI_none (by rw [HN1.out]; exact hp)]; rfl)] at hV2
          subst hV2
          clear HVQ
          clear HN1
          have hbd := fun W => run_sbSc N1 A3 l2.length c3 W
          have hst := run_sstS (stC 2 0 N1 0 0 (.slice none 0 0) (.slice A3 l2.length c3)) HLn.out.res rfl rfl (stC_one _ _ _ _ _ _ _ _ _ _ _)
          go_wp2_with fail
          refine bodyPost_ret (results_cell_tmp1 rfl _ _ w.heap.size 36 (stC 2 0 N1 0 0 (.slice none 0 0) (.slice A3 l2.length c3)).toArray (0, 0) _ rfl (HLn.out.res.setRow_s _) Tryd.underlying36 rfl info_sS) rfl ?_
          exact ⟨⟨stC 2 0 N1 0 0 (.slice none 0 0) (.slice A3 l2.length c3), rfl, rfl, stC_one _ _ _ _ _ _ _ _ _ _ _⟩, HLn.out.fin _⟩
    · have hm : ¬ ((rest.length : Int) + 1) = 3 := by omega
      have hm2 : ¬ ((rest.length + 1 : Nat) : Int) = 3 := by omega
      have hV2 := HVQ.out
      rw [stepW_none a0 rest (fun e => by rw [hk] at e; exact absurd e (by decide)) (fun e => by rw [hk] at e; exact absurd e (by decide)) (fun _ => hl) (fun e => by rw [hk] at e; exact absurd e (by decide))] at hV2
      subst hV2
      clear HVQ HW HCS HS0
      have hbd := fun W => run_sbS0 W
      have hst := run_sstS (stC 0 0 0 0 0 (.slice none 0 0) (.slice none 0 0)) HLn.out.res rfl rfl (stC_one _ _ _ _ _ _ _ _ _ _ _)
      rw [← litS_eq] at hst
      go_wp2_with fail
      refine bodyPost_ret (results_cell_tmp1 rfl _ _ w.heap.size 36 litS (0, 0) _ rfl (HLn.out.res.setRow_s _) Tryd.underlying36 rfl info_sS) rfl ?_
      exact ⟨⟨stC 0 0 0 0 0 (.slice none 0 0) (.slice none 0 0), rfl, rfl, stC_one _ _ _ _ _ _ _ _ _ _ _⟩, HLn.out.fin _⟩
  have ncut : ¬ S0.toList = [99, 117, 116] := by rw [HS0.out]; exact hk
  have bcut : (S0.toList == [99, 117, 116]) = false := by rw [beq_eq_false_iff_ne]; exact ncut
  have kcut := Lib.hid hk
  clear hk
  by_cases hk : a0 = [97, 115, 107]
  · have hnk : S0.toList = [97, 115, 107] := by rw [HS0.out]; exact hk
    by_cases hl : rest.length = 4
    · obtain ⟨a1, a2, a3, a4, rfl⟩ : ∃ a1 a2 a3 a4, rest = [a1, a2, a3, a4] := by match rest, hl with | [a1, a2, a3, a4], _ => exact ⟨a1, a2, a3, a4, rfl⟩
      clear hl
      dsimp only [List.length_cons, List.length_nil] at hcap ⊢
      have HK := Lib.hid hk
      clear hk
      have z1 : (⟨a1.toArray⟩ : ByteArray).size ≤ 1000000 := by have h := HW.out a1 (by simp); show a1.toArray.size ≤ _; rw [List.size_toArray]; omega
      have z2 : (⟨a2.toArray⟩ : ByteArray).size ≤ 1000000 := by have h := HW.out a2 (by simp); show a2.toArray.size ≤ _; rw [List.size_toArray]; omega
      have z3 : (⟨a3.toArray⟩ : ByteArray).size ≤ 1000000 := by have h := HW.out a3 (by simp); show a3.toArray.size ≤ _; rw [List.size_toArray]; omega
      have z4 : (⟨a4.toArray⟩ : ByteArray).size ≤ 1000000 := by have h := HW.out a4 (by simp); show a4.toArray.size ≤ _; rw [List.size_toArray]; omega
      have c1 : w1.cell? ⟨bk, o + 1, none⟩ = some (.string ⟨a1.toArray⟩) := HCS.out 1 _ rfl
      go_wp2_with fail
      refine (rnumber_c _ z1 _).mono ?_
      rintro e w2 ⟨rfl, hb⟩
      rw [show (⟨a1.toArray⟩ : ByteArray).data.toList = a1 from List.toList_toArray ..]
      have hl2 := HLn.out.later hb
      clear HLn
      have HLn := Lib.hid hl2
      clear hl2
      have hbb := hb
      have HBB := Lib.hid hbb
      obtain ⟨N1, hN1⟩ : ∃ N, rnumI a1 = N := ⟨_, rfl⟩
      rw [hN1]
      have HN1 := Lib.hid hN1
      clear hN1
      have c2 : w2.cell? ⟨bk, o + 2, none⟩ = some (.string ⟨a2.toArray⟩) := by refine Eq.trans (?_ : w2.cell? ⟨bk, o + 2, none⟩ = w1.cell? ⟨bk, o + 2, none⟩) (HCS.out 2 _ rfl); simp only [World.cell?, hbb.block bk HBK.out]
      clear hbb hb c1
      go_wp2_with fail
      refine (rnumber_c _ z2 _).mono ?_
      rintro e w3 ⟨rfl, hb⟩
      rw [show (⟨a2.toArray⟩ : ByteArray).data.toList = a2 from List.toList_toArray ..]
      have hl2 := HLn.out.later hb
      clear HLn
      have HLn := Lib.hid hl2
      clear hl2
      have hbb := HBB.out.trans (hb.mono HBB.out.size)
      have HBB := Lib.hid hbb
      obtain ⟨N2, hN2⟩ : ∃ N, rnumI a2 = N := ⟨_, rfl⟩
      rw [hN2]
      have HN2 := Lib.hid hN2
      clear hN2
      have c3 : w3.cell? ⟨bk, o + 3, none⟩ = some (.string ⟨a3.toArray⟩) := by refine Eq.trans (?_ : w3.cell? ⟨bk, o + 3, none⟩ = w1.cell? ⟨bk, o + 3, none⟩) (HCS.out 3 _ rfl); simp only [World.cell?, hbb.block bk HBK.out]
      clear hbb hb c2
      go_wp2_with fail
      refine (rnumber_c _ z3 _).mono ?_
      rintro e w4 ⟨rfl, hb⟩
      rw [show (⟨a3.toArray⟩ : ByteArray).data.toList = a3 from List.toList_toArray ..]
      have hl2 := HLn.out.later hb
      clear HLn
      have HLn := Lib.hid hl2
      clear hl2
      have hbb := HBB.out.trans (hb.mono HBB.out.size)
      have HBB := Lib.hid hbb
      obtain ⟨N3, hN3⟩ : ∃ N, rnumI a3 = N := ⟨_, rfl⟩
      rw [hN3]
      have HN3 := Lib.hid hN3
      clear hN3
      have c4 : w4.cell? ⟨bk, o + 4, none⟩ = some (.string ⟨a4.toArray⟩) := by refine Eq.trans (?_ : w4.cell? ⟨bk, o + 4, none⟩ = w1.cell? ⟨bk, o + 4, none⟩) (HCS.out 4 _ rfl); simp only [World.cell?, hbb.block bk HBK.out]
      clear hbb hb c3 HBB HW HS0
      go_wp2_with fail
      refine (runhex_c _ z4 _).mono ?_
      rintro e w5 ⟨hr, hb⟩
      rw [show (⟨a4.toArray⟩ : ByteArray).data.toList = a4 from List.toList_toArray ..] at hr
      have hl2 := HLn.out.later hb
      clear HLn
      have HLn := Lib.hid hl2
      clear hl2 hb
      rcases hx4 : rawS a4 with _ | l4
      · have he := rawRet_none hr hx4
        subst he
        have hV2 := HVQ.out
        rw [ask_none2 HK.out hx4] at hV2
        subst hV2
        clear HVQ
        clear hr HN1 HN2 HN3
        have hbd := fun W => run_sbSk N1 N2 N3 none 0 0 W
        have hst := run_sstS (stC 0 N1 0 N2 N3 (.slice none 0 0) (.slice none 0 0)) HLn.out.res rfl rfl (stC_one _ _ _ _ _ _ _ _ _ _ _)
        go_wp2_with fail
        refine bodyPost_ret (results_cell_tmp1 rfl _ _ w.heap.size 36 (stC 0 N1 0 N2 N3 (.slice none 0 0) (.slice none 0 0)).toArray (0, 0) _ rfl (HLn.out.res.setRow_s _) Tryd.underlying36 rfl info_sS) rfl ?_
        exact ⟨⟨stC 0 N1 0 N2 N3 (.slice none 0 0) (.slice none 0 0), rfl, rfl, stC_one _ _ _ _ _ _ _ _ _ _ _⟩, HLn.out.fin _⟩
      · obtain ⟨A3, c3, he, hr4⟩ := rawRet_some hr hx4
        subst he
        have HR4 := Lib.hid hr4
        clear hr hr4
        by_cases p1 : N1 ≥ 0
        rotate_left
        · have hn := rnumI_none (l := a1) (by rw [HN1.out]; exact p1)
          have hdf : decide (0 ≤ N1) = false := decide_eq_false p1
          have hV2 := HVQ.out
          rw [ask_bad HK.out (.inl hn)] at hV2
          subst hV2
          clear HVQ
          clear HN1 HN2 HN3 hn
          have hbd := fun W => run_sbSk N1 N2 N3 A3 l4.length c3 W
          have hst := run_sstS (stC 0 N1 0 N2 N3 (.slice A3 l4.length c3) (.slice none 0 0)) HLn.out.res rfl rfl (stC_one _ _ _ _ _ _ _ _ _ _ _)
          go_wp2_with fail
          refine bodyPost_ret (results_cell_tmp1 rfl _ _ w.heap.size 36 (stC 0 N1 0 N2 N3 (.slice A3 l4.length c3) (.slice none 0 0)).toArray (0, 0) _ rfl (HLn.out.res.setRow_s _) Tryd.underlying36 rfl info_sS) rfl ?_
          exact ⟨⟨stC 0 N1 0 N2 N3 (.slice A3 l4.length c3) (.slice none 0 0), rfl, rfl, stC_one _ _ _ _ _ _ _ _ _ _ _⟩, HLn.out.fin _⟩
        by_cases p2 : N2 ≥ 0
        rotate_left
        · have hn := rnumI_none (l := a2) (by rw [HN2.out]; exact p2)
          have hdf : decide (0 ≤ N2) = false := decide_eq_false p2
          have hV2 := HVQ.out
          rw [ask_bad HK.out (.inr (.inl hn))] at hV2
          subst hV2
          clear HVQ
          clear HN1 HN2 HN3 hn
          have hbd := fun W => run_sbSk N1 N2 N3 A3 l4.length c3 W
          have hst := run_sstS (stC 0 N1 0 N2 N3 (.slice A3 l4.length c3) (.slice none 0 0)) HLn.out.res rfl rfl (stC_one _ _ _ _ _ _ _ _ _ _ _)
          go_wp2_with fail
          refine bodyPost_ret (results_cell_tmp1 rfl _ _ w.heap.size 36 (stC 0 N1 0 N2 N3 (.slice A3 l4.length c3) (.slice none 0 0)).toArray (0, 0) _ rfl (HLn.out.res.setRow_s _) Tryd.underlying36 rfl info_sS) rfl ?_
          exact ⟨⟨stC 0 N1 0 N2 N3 (.slice A3 l4.length c3) (.slice none 0 0), rfl, rfl, stC_one _ _ _ _ _ _ _ _ _ _ _⟩, HLn.out.fin _⟩
        by_cases p3 : N3 ≥ 0
        rotate_left
        · have hn := rnumI_none (l := a3) (by rw [HN3.out]; exact p3)
          have hdf : decide (0 ≤ N3) = false := decide_eq_false p3
          have hV2 := HVQ.out
          rw [ask_bad HK.out (.inr (.inr hn))] at hV2
          subst hV2
          clear HVQ
          clear HN1 HN2 HN3 hn
          have hbd := fun W => run_sbSk N1 N2 N3 A3 l4.length c3 W
          have hst := run_sstS (stC 0 N1 0 N2 N3 (.slice A3 l4.length c3) (.slice none 0 0)) HLn.out.res rfl rfl (stC_one _ _ _ _ _ _ _ _ _ _ _)
          go_wp2_with fail
          refine bodyPost_ret (results_cell_tmp1 rfl _ _ w.heap.size 36 (stC 0 N1 0 N2 N3 (.slice A3 l4.length c3) (.slice none 0 0)).toArray (0, 0) _ rfl (HLn.out.res.setRow_s _) Tryd.underlying36 rfl info_sS) rfl ?_
          exact ⟨⟨stC 0 N1 0 N2 N3 (.slice A3 l4.length c3) (.slice none 0 0), rfl, rfl, stC_one _ _ _ _ _ _ _ _ _ _ _⟩, HLn.out.fin _⟩
        obtain ⟨n1, e1, f1⟩ := rnumI_some (l := a1) (by rw [HN1.out]; exact p1)
        rw [HN1.out] at f1
        obtain ⟨n2, e2, f2⟩ := rnumI_some (l := a2) (by rw [HN2.out]; exact p2)
        rw [HN2.out] at f2
        obtain ⟨n3, e3, f3⟩ := rnumI_some (l := a3) (by rw [HN3.out]; exact p3)
        rw [HN3.out] at f3
        have hV2 := HVQ.out
        rw [ask_some HK.out e1 e2 e3 hx4] at hV2
        subst hV2
        clear HVQ
        clear HN1 HN2 HN3
        subst f1
        subst f2
        subst f3
        have hbd := fun W => run_sbSk (n1 : Int) (n2 : Int) (n3 : Int) A3 l4.length c3 W
        have hst := run_sstS (stC 0 (n1 : Int) 0 (n2 : Int) (n3 : Int) (.slice A3 l4.length c3) (.slice none 0 0)) HLn.out.res rfl rfl (stC_one _ _ _ _ _ _ _ _ _ _ _)
        go_wp2_with fail
        refine bodyPost_ret (results_cell_tmp1 rfl _ _ w.heap.size 36 (stC 0 (n1 : Int) 0 (n2 : Int) (n3 : Int) (.slice A3 l4.length c3) (.slice none 0 0)).toArray (0, 0) _ rfl (HLn.out.res.setRow_s _) Tryd.underlying36 rfl info_sS) rfl ?_
        exact ⟨⟨stC 0 (n1 : Int) 0 (n2 : Int) (n3 : Int) (.slice A3 l4.length c3) (.slice none 0 0), rfl, A3, c3, none, 0, rfl, HR4.out.setRow HLn.out.res _, OwnB.nil _⟩, HLn.out.fin _⟩
    · have hm : ¬ ((rest.length : Int) + 1) = 5 := by omega
      have hm2 : ¬ ((rest.length + 1 : Nat) : Int) = 5 := by omega
      have hV2 := HVQ.out
      rw [stepW_none a0 rest (fun _ => hl) (fun e => by rw [hk] at e; exact absurd e (by decide)) (fun e => by rw [hk] at e; exact absurd e (by decide)) (fun e => by rw [hk] at e; exact absurd e (by decide))] at hV2
      subst hV2
      clear HVQ HW HCS HS0
      have hbd := fun W => run_sbS0 W
      have hst := run_sstS (stC 0 0 0 0 0 (.slice none 0 0) (.slice none 0 0)) HLn.out.res rfl rfl (stC_one _ _ _ _ _ _ _ _ _ _ _)
      rw [← litS_eq] at hst
      go_wp2_with fail
      refine bodyPost_ret (results_cell_tmp1 rfl _ _ w.heap.size 36 litS (0, 0) _ rfl (HLn.out.res.setRow_s _) Tryd.underlying36 rfl info_sS) rfl ?_
      exact ⟨⟨stC 0 0 0 0 0 (.slice none 0 0) (.slice none 0 0), rfl, rfl, stC_one _ _ _ _ _ _ _ _ _ _ _⟩, HLn.out.fin _⟩
  have nask : ¬ S0.toList = [97, 115, 107] := by rw [HS0.out]; exact hk
  have bask : (S0.toList == [97, 115, 107]) = false := by rw [beq_eq_false_iff_ne]; exact nask
  have kask := Lib.hid hk
  clear hk
  have hV2 := HVQ.out
  rw [stepW_none a0 rest (fun e => absurd e kask.out) (fun e => absurd e ktick.out) (fun e => absurd e kcut.out) (fun e => absurd e kpass.out)] at hV2
  subst hV2
  clear HVQ HW HCS HS0
  have hbd := fun W => run_sbS0 W
  have hst := run_sstS (stC 0 0 0 0 0 (.slice none 0 0) (.slice none 0 0)) HLn.out.res rfl rfl (stC_one _ _ _ _ _ _ _ _ _ _ _)
  rw [← litS_eq] at hst
  go_wp2_with fail
  refine bodyPost_ret (results_cell_tmp1 rfl _ _ w.heap.size 36 litS (0, 0) _ rfl (HLn.out.res.setRow_s _) Tryd.underlying36 rfl info_sS) rfl ?_
  exact ⟨⟨stC 0 0 0 0 0 (.slice none 0 0) (.slice none 0 0), rfl, rfl, stC_one _ _ _ _ _ _ _ _ _ _ _⟩, HLn.out.fin _⟩
end Go.Proofs.YthidjmdcpdhdlaaDoor
