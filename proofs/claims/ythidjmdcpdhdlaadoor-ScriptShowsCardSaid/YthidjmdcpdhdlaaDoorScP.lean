/- script.line: the step that a line says. -/
import Derived.Test.YthidjmdcpdhdlaaDoorScO
import Derived.StillTail
import Derived.Test.YthidjmdcpdhdlaaDoorQTail
namespace Go.Proofs.YthidjmdcpdhdlaaDoor
open Go Go.RowKit
set_option linter.unusedVariables false
set_option linter.unusedSimpArgs false
attribute [local go_sem ↓] sbS_seal sldS_seal sstS_seal
/-- What stands in line: the result's variable. -/
structure Ln (w0 W : World) : Prop where
  res : Blk W w0.heap.size 36 litS
  bel : Below w0.heap.size w0 W
theorem Ln.later {w0 W W' : World} (h : Ln w0 W) (hb : Below W.heap.size W W') : Ln w0 W' := ⟨h.res.below hb h.res.lt, h.bel.trans (hb.mono h.bel.size)⟩
theorem Ln.fin {w0 W : World} (h : Ln w0 W) (cs : Array Value) : Below w0.heap.size w0 (W.setRow w0.heap.size cs) := below_setRow_s h.bel (Nat.le_refl _) _
theorem Ln.lt {w0 W : World} (h : Ln w0 W) : w0.heap.size < W.heap.size := h.res.lt
theorem rawRet_some {V : Option (List UInt8)} {l : List UInt8} {e : Ending} {w' : World} (h : rawRet V e w') (hv : V = Option.some l) : ∃ A c, e = .returned (.tuple #[.slice A l.length c, .bool true]) ∧ OwnB w' A c l := by subst hv; exact h
theorem rawRet_none {V : Option (List UInt8)} {e : Ending} {w' : World} (h : rawRet V e w') (hv : V = Option.none) : e = .returned (.tuple #[.slice none 0 0, .bool false]) := by subst hv; exact h
theorem numsRet_some {V : Option (List Nat)} {l : List Nat} {e : Ending} {w w' : World} (h : numsRet V w e w') (hv : V = Option.some l) : ∃ A c, e = .returned (.tuple #[.slice A l.length c, .bool true]) ∧ w'.ownsRow w.heap.size 3 1 (.slice A l.length c) l.length (l.map natv) := by subst hv; exact h
theorem numsRet_none {V : Option (List Nat)} {e : Ending} {w w' : World} (h : numsRet V w e w') (hv : V = Option.none) : e = .returned (.tuple #[.slice none 0 0, .bool false]) := by subst hv; exact h
theorem stepW_none (a0 : List UInt8) (rest : List (List UInt8)) (h1 : a0 = askL → rest.length ≠ 4) (h2 : a0 = tickL → rest.length ≠ 0) (h3 : a0 = cutL → rest.length ≠ 2) (h4 : a0 = passL → rest.length ≠ 1) : stepW (a0 :: rest) = Option.none := by
  match rest with
  | [] => exact if_neg (fun e => h2 e rfl)
  | [_] => exact if_neg (fun e => h4 e rfl)
  | [_, _] => exact if_neg (fun e => h3 e rfl)
  | [_, _, _] => rfl
  | [_, _, _, _] => exact if_neg (fun e => h1 e rfl)
  | _ :: _ :: _ :: _ :: _ :: _ => rfl
theorem nums3 {a b c : List UInt8} {l : List Nat} (h : numsG [a, b, c] = Option.some l) : ∃ x y z, l = [x, y, z] ∧ numS a = Option.some x ∧ numS b = Option.some y ∧ numS c = Option.some z := by
  unfold numsG numsG numsG numsG at h
  cases ha : numS a with
  | none => rw [ha] at h; cases h
  | some x =>
    cases hb : numS b with
    | none => rw [ha, hb] at h; cases h
    | some y =>
      cases hc : numS c with
      | none => rw [ha, hb, hc] at h; cases h
      | some z => rw [ha, hb, hc] at h; cases h; exact ⟨x, y, z, rfl, rfl, rfl, rfl⟩
theorem ask_none1 {a0 a b c d : List UInt8} (h0 : a0 = askL) (h : numsG [a, b, c] = Option.none) : stepW [a0, a, b, c, d] = Option.none := by
  show (if a0 = _ then _ else _) = _
  rw [if_pos h0]
  unfold numsG numsG numsG numsG at h
  cases ha : numS a with
  | none => rfl
  | some x =>
    cases hb : numS b with
    | none => rfl
    | some y =>
      cases hc : numS c with
      | none => rfl
      | some z => rw [ha, hb, hc] at h; cases h
theorem ask_none2 {a0 a b c d : List UInt8} (h0 : a0 = askL) (h : rawS d = Option.none) : stepW [a0, a, b, c, d] = Option.none := by
  show (if a0 = _ then _ else _) = _
  rw [if_pos h0, h]
  cases numS a with
  | none => rfl
  | some x =>
    cases numS b with
    | none => rfl
    | some y =>
      cases numS c with
      | none => rfl
      | some z => rfl
theorem ask_some {a0 a b c d m : List UInt8} {x y z : Nat} (h0 : a0 = askL) (ha : numS a = Option.some x) (hb : numS b = Option.some y) (hc : numS c = Option.some z) (h : rawS d = Option.some m) : stepW [a0, a, b, c, d] = Option.some ⟨0, x, 0, y, z, m, []⟩ := by
  show (if a0 = _ then _ else _) = _
  rw [if_pos h0, h, ha, hb, hc]
  rfl
set_option maxRecDepth 100000 in
set_option maxHeartbeats 8000000 in
theorem sline_c (s : ByteArray) (hs : s.size ≤ 200000) (w : World) : Calls Tryd.prog 15 #[.string s] w fun e w' => lineRet (stepW (splitG s.data.toList [])) e w' ∧ Below w.heap.size w w' := by
  obtain ⟨V, hV0⟩ : ∃ V, stepW (splitG s.data.toList []) = V := ⟨_, rfl⟩
  rw [hV0]
  have hb0 := Blk.new w 36 litS
  have hl0 : Ln w (w.alloc (.cells litS 36)) := ⟨hb0, (Below.refl _ _).alloc (Nat.le_refl _) _⟩
  have HL0 := Lib.hid hl0
  have hsz : s.size ≤ 1000000 := by omega
  have hll : s.data.toList.length = s.size := Array.length_toList
  have HLL := Lib.hid hll
  have HV0 := Lib.hid hV0
  clear hb0 hl0 hll hV0
  go_enter Tryd.func15, Tryd.ntmps15
  go_wp2_with fail
  refine (swords_c s hsz _).mono ?_
  rintro e w1 ⟨q, A, c, hq, rfl, ho, hb⟩
  have hVq : stepW (splitG q []) = V := by rw [← hq.step]; exact HV0.out
  have hql := hq.len
  rw [HLL.out] at hql
  have hwl : ∀ x ∈ splitG q [], x.length ≤ 800000 := fun x hx => by have := splitG_len q [] x hx; simp at this; omega
  have hne := splitG_ne q
  generalize splitG q [] = ws at ho hwl hne hVq ⊢
  have hR := Reads.of_own ho
  have hcap := own_capR ho
  have hL1 := HL0.out.later hb
  have hlo := (hL1.lt)
  have hge : ∀ a, A = some a → w.heap.size + 1 ≤ a.block := fun a ha => by have := (ho.lt a.block (by rw [ha]; rfl)).1; simpa using this
  have HLn := Lib.hid hL1
  clear ho hb hq hql HL0 HLL hL1
  obtain ⟨a0, rest, rfl⟩ : ∃ a0 rest, ws = a0 :: rest := by
    cases ws with
    | nil => exact absurd rfl hne
    | cons a0 rest => exact ⟨a0, rest, rfl⟩
  obtain ⟨bk, o, rfl, hbk, hcs⟩ := hR.2 (Nat.succ_pos _)
  have c0 : w1.cell? ⟨bk, o, none⟩ = some (.string ⟨a0.toArray⟩) := hcs 0 _ rfl
  obtain ⟨S0, hS⟩ : ∃ S0 : ByteArray, (⟨a0.toArray⟩ : ByteArray) = S0 := ⟨_, rfl⟩
  have hS0 : S0.toList = a0 := by rw [← hS, ByteArray.toList_eq]
  rw [hS] at c0
  have HW := Lib.hid hwl
  have HR := Lib.hid hR
  have HBK := Lib.hid hbk
  have HCS := Lib.hid hcs
  have HS0 := Lib.hid hS0
  have HVQ := Lib.hid hVq
  have hml : (a0 :: rest).length = rest.length + 1 := rfl
  rw [hml] at hcap HR ⊢
  clear hne hS hbk hR hwl hcs hS0 hml hlo hVq HV0
  by_cases hk : a0 = [97, 115, 107]
  · have hnk : S0.toList = [97, 115, 107] := by rw [HS0.out]; exact hk
    by_cases hl : rest.length = 4
    · obtain ⟨a1, a2, a3, a4, rfl⟩ : ∃ a1 a2 a3 a4, rest = [a1, a2, a3, a4] := by match rest, hl with | [a1, a2, a3, a4], _ => exact ⟨a1, a2, a3, a4, rfl⟩
      clear hl
      dsimp only [List.length_cons, List.length_nil] at hcap HR ⊢
      have HK := Lib.hid hk
      clear hk
      have c4 : w1.cell? ⟨bk, o + 4, none⟩ = some (.string ⟨a4.toArray⟩) := HCS.out 4 _ rfl
      have z4 : (⟨a4.toArray⟩ : ByteArray).size ≤ 1000000 := by have h := HW.out a4 (by simp); show a4.toArray.size ≤ _; rw [List.size_toArray]; omega
      have hr3 : Reads w1 (some ⟨bk, o + 1, none⟩) 3 ([a1, a2, a3].map strv) := by
        refine ⟨rfl, fun _ => ⟨bk, o + 1, rfl, HBK.out, fun j u hj => ?_⟩⟩
        have hj3 : j < 3 := by
          by_cases q : j < 3
          · exact q
          · rw [List.getElem?_eq_none (by simp; omega)] at hj; cases hj
        have h := HCS.out (1 + j) u (by rw [← hj]; rcases (by omega : j = 0 ∨ j = 1 ∨ j = 2) with rfl | rfl | rfl <;> rfl)
        rwa [← Nat.add_assoc] at h
      have hl3 : ∀ x ∈ [a1, a2, a3], x.length ≤ 4000000 := fun x hx => by
        have h := HW.out x (by simp only [List.mem_cons, List.not_mem_nil, or_false] at hx ⊢; rcases hx with h | h | h <;> simp [h])
        omega
      have HR3 := Lib.hid hr3
      have HL3 := Lib.hid hl3
      have HC4 := Lib.hid c4
      clear HR HW HS0 hge hr3 hl3 c4
      obtain ⟨hc1, hc2⟩ := hcap
      go_wp2_with fail
      refine (snumbers_c _ 3 _ [a1, a2, a3] _ HR3.out (by omega) HL3.out).mono ?_
      rintro e w2 ⟨hr2, hb2⟩
      have hl2 := HLn.out.later hb2
      clear HLn
      have HLn := Lib.hid hl2
      clear hl2
      have c4 : w2.cell? ⟨bk, o + 4, none⟩ = some (.string ⟨a4.toArray⟩) := by refine Eq.trans (?_ : w2.cell? ⟨bk, o + 4, none⟩ = w1.cell? ⟨bk, o + 4, none⟩) (HCS.out 4 _ rfl); simp only [World.cell?, hb2.block bk HBK.out]
      rcases hN : numsG [a1, a2, a3] with _ | l3
      · have he := numsRet_none hr2 hN
        subst he
        clear hr2 hb2
        go_wp2_with fail
        refine (sraw_c _ z4 _).mono ?_
        rintro e w3 ⟨hr3, hb3⟩
        rw [show (⟨a4.toArray⟩ : ByteArray).data.toList = a4 from List.toList_toArray ..] at hr3
        have hl3 := HLn.out.later hb3
        clear HLn
        have HLn := Lib.hid hl3
        clear hl3
        rcases hR : rawS a4 with _ | l2
        · have he := rawRet_none hr3 hR
          subst he
          clear hr3 hb3
          have hV2 := HVQ.out
          rw [ask_none2 HK.out hR] at hV2
          subst hV2
          clear HVQ
          have hbd := fun W => run_sbS0 W
          have hst := run_sstS (stC 0 0 0 0 0 (.slice none 0 0) (.slice none 0 0)) HLn.out.res rfl rfl (stC_one _ _ _ _ _ _ _ _ _ _ _)
          rw [← litS_eq] at hst
          go_wp2_with fail
          refine bodyPost_ret (results_cell_tmp1 rfl _ _ w.heap.size 36 litS (0, 0) _ rfl (HLn.out.res.setRow_s _) Tryd.underlying36 rfl info_sS) rfl ?_
          exact ⟨rfl, HLn.out.fin _⟩
        · obtain ⟨A3, c3, he, hr4⟩ := rawRet_some hr3 hR
          subst he
          clear hr3 hb3 hr4
          have hV2 := HVQ.out
          rw [ask_none1 HK.out hN] at hV2
          subst hV2
          clear HVQ
          have hbd := fun W => run_sbS0 W
          have hst := run_sstS (stC 0 0 0 0 0 (.slice none 0 0) (.slice none 0 0)) HLn.out.res rfl rfl (stC_one _ _ _ _ _ _ _ _ _ _ _)
          rw [← litS_eq] at hst
          go_wp2_with fail
          refine bodyPost_ret (results_cell_tmp1 rfl _ _ w.heap.size 36 litS (0, 0) _ rfl (HLn.out.res.setRow_s _) Tryd.underlying36 rfl info_sS) rfl ?_
          exact ⟨rfl, HLn.out.fin _⟩
      · obtain ⟨A2, c2, he, ho2⟩ := numsRet_some hr2 hN
        subst he
        obtain ⟨x1, x2, x3, rfl, hx1, hx2, hx3⟩ := nums3 hN
        have HO2 := Lib.hid (Reads.of_own ho2)
        clear ho2
        clear hr2 hb2
        go_wp2_with fail
        refine (sraw_c _ z4 _).mono ?_
        rintro e w3 ⟨hr3, hb3⟩
        rw [show (⟨a4.toArray⟩ : ByteArray).data.toList = a4 from List.toList_toArray ..] at hr3
        have hl3 := HLn.out.later hb3
        clear HLn
        have HLn := Lib.hid hl3
        clear hl3
        rcases hR : rawS a4 with _ | l2
        · have he := rawRet_none hr3 hR
          subst he
          clear hr3 hb3
          have hV2 := HVQ.out
          rw [ask_none2 HK.out hR] at hV2
          subst hV2
          clear HVQ
          have hbd := fun W => run_sbS0 W
          have hst := run_sstS (stC 0 0 0 0 0 (.slice none 0 0) (.slice none 0 0)) HLn.out.res rfl rfl (stC_one _ _ _ _ _ _ _ _ _ _ _)
          rw [← litS_eq] at hst
          go_wp2_with fail
          refine bodyPost_ret (results_cell_tmp1 rfl _ _ w.heap.size 36 litS (0, 0) _ rfl (HLn.out.res.setRow_s _) Tryd.underlying36 rfl info_sS) rfl ?_
          exact ⟨rfl, HLn.out.fin _⟩
        · obtain ⟨A3, c3, he, hr4⟩ := rawRet_some hr3 hR
          subst he
          have HR4 := Lib.hid hr4
          have hV2 := HVQ.out
          rw [ask_some HK.out hx1 hx2 hx3 hR] at hV2
          subst hV2
          clear HVQ
          have hrn := HO2.out.below hb3
          obtain ⟨b2, o2, rfl, -, hd⟩ := hrn.2 (by simp)
          have d0 : w3.cell? ⟨b2, o2, none⟩ = some (.int .i64 (x1 : Int)) := hd 0 _ rfl
          have d1 : w3.cell? ⟨b2, o2 + 1, none⟩ = some (.int .i64 (x2 : Int)) := hd 1 _ rfl
          have d2 : w3.cell? ⟨b2, o2 + 2, none⟩ = some (.int .i64 (x3 : Int)) := hd 2 _ rfl
          clear hr3 hb3 hr4 HO2 hrn hd hN hx1 hx2 hx3 hR HC4 HR3 HL3 HCS HBK HK c0 c4
          have hbd := fun W => run_sbSa (x1 : Int) (x2 : Int) (x3 : Int) A3 l2.length c3 W
          go_upto_region 7 with fail
          refine wp_region_quiet_tail 11 (by kernel_rfl) (by kernel_rfl) ?_
          simp only [List.take_succ_cons, List.take_zero, List.drop_succ_cons, List.drop_zero]
          repeat (go_big_quiet_step (fail))
          refine wpQuiet_nil ?_
          intro nq
          have hln := HLn.out.later (below_drewN (Below.refl _ w3) nq)
          have hr4 : OwnB (w3.drewN nq) A3 c3 l2 := HR4.out
          generalize w3.drewN nq = w4 at hln hr4 ⊢
          clear HLn HR4
          have HLn := Lib.hid hln
          have HR4 := Lib.hid hr4
          have hst := run_sstS (stC 0 (x1 : Int) 0 (x2 : Int) (x3 : Int) (.slice A3 l2.length c3) (.slice none 0 0)) HLn.out.res rfl rfl (stC_one _ _ _ _ _ _ _ _ _ _ _)
          clear hln hr4
          go_wp2_with fail
          refine bodyPost_ret (results_cell_tmp1 rfl _ _ w.heap.size 36 (stC 0 (x1 : Int) 0 (x2 : Int) (x3 : Int) (.slice A3 l2.length c3) (.slice none 0 0)).toArray (0, 0) _ rfl (HLn.out.res.setRow_s _) Tryd.underlying36 rfl info_sS) rfl ?_
          exact ⟨⟨stC 0 (x1 : Int) 0 (x2 : Int) (x3 : Int) (.slice A3 l2.length c3) (.slice none 0 0), rfl, A3, c3, none, 0, rfl, HR4.out.setRow HLn.out.res _, OwnB.nil _⟩, HLn.out.fin _⟩
    · have hm : ¬ ((rest.length : Int) + 1) = 5 := by omega
      have hm2 : ¬ ((rest.length + 1 : Nat) : Int) = 5 := by omega
      have hV : stepW (a0 :: rest) = Option.none := stepW_none a0 rest (fun _ => hl) (fun e => by rw [hk] at e; exact absurd e (by decide)) (fun e => by rw [hk] at e; exact absurd e (by decide)) (fun e => by rw [hk] at e; exact absurd e (by decide))
      have hV2 := HVQ.out
      rw [hV] at hV2
      subst hV2
      clear HVQ
      have hbd := fun W => run_sbS0 W
      have hst := run_sstS (stC 0 0 0 0 0 (.slice none 0 0) (.slice none 0 0)) HLn.out.res rfl rfl (stC_one _ _ _ _ _ _ _ _ _ _ _)
      rw [← litS_eq] at hst
      clear hV HR HW HCS HS0 hge
      go_wp2_with fail
      refine bodyPost_ret (results_cell_tmp1 rfl _ _ w.heap.size 36 litS (0, 0) _ rfl (HLn.out.res.setRow_s _) Tryd.underlying36 rfl info_sS) rfl ?_
      exact ⟨rfl, HLn.out.fin _⟩
  have nask : ¬ S0.toList = [97, 115, 107] := by rw [HS0.out]; exact hk
  have bask : (S0.toList == [97, 115, 107]) = false := by rw [beq_eq_false_iff_ne]; exact nask
  have kask := Lib.hid hk
  clear hk
  by_cases hk : a0 = [116, 105, 99, 107]
  · have hnk : S0.toList = [116, 105, 99, 107] := by rw [HS0.out]; exact hk
    by_cases hl : rest.length = 0
    · obtain rfl : rest = [] := by exact List.eq_nil_of_length_eq_zero hl
      clear hl
      dsimp only [List.length_cons, List.length_nil] at hcap HR ⊢
      have hV : stepW [a0] = Option.some ⟨1, 0, 0, 0, 0, [], []⟩ := by show (if a0 = _ then _ else _) = _; exact if_pos hk
      have hV2 := HVQ.out
      rw [hV] at hV2
      subst hV2
      clear HVQ
      have hbd := fun W => run_sbSt W
      have hst := run_sstS (stC 1 0 0 0 0 (.slice none 0 0) (.slice none 0 0)) HLn.out.res rfl rfl (stC_one _ _ _ _ _ _ _ _ _ _ _)
      clear hV HR HW HCS HS0 hge
      go_wp2_with fail
      refine bodyPost_ret (results_cell_tmp1 rfl _ _ w.heap.size 36 (stC 1 0 0 0 0 (.slice none 0 0) (.slice none 0 0)).toArray (0, 0) _ rfl (HLn.out.res.setRow_s _) Tryd.underlying36 rfl info_sS) rfl ?_
      exact ⟨⟨stC 1 0 0 0 0 (.slice none 0 0) (.slice none 0 0), rfl, none, 0, none, 0, rfl, OwnB.nil _, OwnB.nil _⟩, HLn.out.fin _⟩
    · have hm : ¬ ((rest.length : Int) + 1) = 1 := by omega
      have hm2 : ¬ ((rest.length + 1 : Nat) : Int) = 1 := by omega
      have hV : stepW (a0 :: rest) = Option.none := stepW_none a0 rest (fun e => by rw [hk] at e; exact absurd e (by decide)) (fun _ => hl) (fun e => by rw [hk] at e; exact absurd e (by decide)) (fun e => by rw [hk] at e; exact absurd e (by decide))
      have hV2 := HVQ.out
      rw [hV] at hV2
      subst hV2
      clear HVQ
      have hbd := fun W => run_sbS0 W
      have hst := run_sstS (stC 0 0 0 0 0 (.slice none 0 0) (.slice none 0 0)) HLn.out.res rfl rfl (stC_one _ _ _ _ _ _ _ _ _ _ _)
      rw [← litS_eq] at hst
      clear hV HR HW HCS HS0 hge
      go_wp2_with fail
      refine bodyPost_ret (results_cell_tmp1 rfl _ _ w.heap.size 36 litS (0, 0) _ rfl (HLn.out.res.setRow_s _) Tryd.underlying36 rfl info_sS) rfl ?_
      exact ⟨rfl, HLn.out.fin _⟩
  have ntick : ¬ S0.toList = [116, 105, 99, 107] := by rw [HS0.out]; exact hk
  have btick : (S0.toList == [116, 105, 99, 107]) = false := by rw [beq_eq_false_iff_ne]; exact ntick
  have ktick := Lib.hid hk
  clear hk
  by_cases hk : a0 = [99, 117, 116]
  · have hnk : S0.toList = [99, 117, 116] := by rw [HS0.out]; exact hk
    by_cases hl : rest.length = 2
    · obtain ⟨a1, a2, rfl⟩ : ∃ a1 a2, rest = [a1, a2] := by match rest, hl with | [a1, a2], _ => exact ⟨a1, a2, rfl⟩
      clear hl
      dsimp only [List.length_cons, List.length_nil] at hcap HR ⊢
      have HK := Lib.hid hk
      clear hk
      have c1 : w1.cell? ⟨bk, o + 1, none⟩ = some (.string ⟨a1.toArray⟩) := HCS.out 1 _ rfl
      have z1 : (⟨a1.toArray⟩ : ByteArray).size ≤ 1000000 := by have h := HW.out a1 (by simp); show a1.toArray.size ≤ _; rw [List.size_toArray]; omega
      have z2 : (⟨a2.toArray⟩ : ByteArray).size ≤ 1000000 := by have h := HW.out a2 (by simp); show a2.toArray.size ≤ _; rw [List.size_toArray]; omega
      clear HW HS0
      go_wp2_with fail
      refine (snumber_c _ (Nat.le_trans z1 (by unfold maxLen; omega)) _).mono ?_
      rintro e w2 ⟨rfl, hb2⟩
      rw [show (⟨a1.toArray⟩ : ByteArray).data.toList = a1 from List.toList_toArray ..]
      have hl2 := HLn.out.later hb2
      clear HLn
      have HLn := Lib.hid hl2
      clear hl2
      have c2 : w2.cell? ⟨bk, o + 2, none⟩ = some (.string ⟨a2.toArray⟩) := by refine Eq.trans (?_ : w2.cell? ⟨bk, o + 2, none⟩ = w1.cell? ⟨bk, o + 2, none⟩) (HCS.out 2 _ rfl); simp only [World.cell?, hb2.block bk HBK.out]
      rcases hx1 : numS a1 with _ | n1
      · rw [show numV Option.none = .tuple #[.int .i64 0, .bool false] from rfl]
        go_wp2_with fail
        refine (sraw_c _ z2 _).mono ?_
        rintro e w3 ⟨hr3, hb3⟩
        rw [show (⟨a2.toArray⟩ : ByteArray).data.toList = a2 from List.toList_toArray ..] at hr3
        have hl3 := HLn.out.later hb3
        have hlt3 := HLn.out.lt
        clear HLn
        have HLn := Lib.hid hl3
        clear hl3
        rcases hx2 : rawS a2 with _ | l2
        · have he := rawRet_none hr3 hx2
          subst he
          clear hr3 hb3
          have hV : stepW [a0, a1, a2] = Option.none := by
            show (if a0 = _ then _ else _) = _
            rw [if_pos (show a0 = cutL from HK.out), hx1]
            rfl
          have hV2 := HVQ.out
          rw [hV] at hV2
          subst hV2
          clear HVQ hV
          have hbd := fun W => run_sbS0 W
          have hst := run_sstS (stC 0 0 0 0 0 (.slice none 0 0) (.slice none 0 0)) HLn.out.res rfl rfl (stC_one _ _ _ _ _ _ _ _ _ _ _)
          rw [← litS_eq] at hst
          go_wp2_with fail
          refine bodyPost_ret (results_cell_tmp1 rfl _ _ w.heap.size 36 litS (0, 0) _ rfl (HLn.out.res.setRow_s _) Tryd.underlying36 rfl info_sS) rfl ?_
          exact ⟨rfl, HLn.out.fin _⟩
        · obtain ⟨A3, c3, he, hr4⟩ := rawRet_some hr3 hx2
          subst he
          clear hr3 hb3 hr4
          have hV : stepW [a0, a1, a2] = Option.none := by
            show (if a0 = _ then _ else _) = _
            rw [if_pos (show a0 = cutL from HK.out), hx1]
            rfl
          have hV2 := HVQ.out
          rw [hV] at hV2
          subst hV2
          clear HVQ hV
          have hbd := fun W => run_sbS0 W
          have hst := run_sstS (stC 0 0 0 0 0 (.slice none 0 0) (.slice none 0 0)) HLn.out.res rfl rfl (stC_one _ _ _ _ _ _ _ _ _ _ _)
          rw [← litS_eq] at hst
          go_wp2_with fail
          refine bodyPost_ret (results_cell_tmp1 rfl _ _ w.heap.size 36 litS (0, 0) _ rfl (HLn.out.res.setRow_s _) Tryd.underlying36 rfl info_sS) rfl ?_
          exact ⟨rfl, HLn.out.fin _⟩
      · rw [show numV (Option.some n1) = .tuple #[.int .i64 (n1 : Int), .bool true] from rfl]
        go_wp2_with fail
        refine (sraw_c _ z2 _).mono ?_
        rintro e w3 ⟨hr3, hb3⟩
        rw [show (⟨a2.toArray⟩ : ByteArray).data.toList = a2 from List.toList_toArray ..] at hr3
        have hl3 := HLn.out.later hb3
        have hlt3 := HLn.out.lt
        clear HLn
        have HLn := Lib.hid hl3
        clear hl3
        rcases hx2 : rawS a2 with _ | l2
        · have he := rawRet_none hr3 hx2
          subst he
          clear hr3 hb3
          have hV : stepW [a0, a1, a2] = Option.none := by
            show (if a0 = _ then _ else _) = _
            rw [if_pos (show a0 = cutL from HK.out), hx1, Option.bind_some, hx2]
            rfl
          have hV2 := HVQ.out
          rw [hV] at hV2
          subst hV2
          clear HVQ hV
          have hbd := fun W => run_sbS0 W
          have hst := run_sstS (stC 0 0 0 0 0 (.slice none 0 0) (.slice none 0 0)) HLn.out.res rfl rfl (stC_one _ _ _ _ _ _ _ _ _ _ _)
          rw [← litS_eq] at hst
          go_wp2_with fail
          refine bodyPost_ret (results_cell_tmp1 rfl _ _ w.heap.size 36 litS (0, 0) _ rfl (HLn.out.res.setRow_s _) Tryd.underlying36 rfl info_sS) rfl ?_
          exact ⟨rfl, HLn.out.fin _⟩
        · obtain ⟨A3, c3, he, hr4⟩ := rawRet_some hr3 hx2
          subst he
          have HR4 := Lib.hid hr4
          have HB3 := Lib.hid hb3
          clear hr3 hb3 hr4
          have hV : stepW [a0, a1, a2] = Option.some ⟨2, 0, n1, 0, 0, [], l2⟩ := by
            show (if a0 = _ then _ else _) = _
            rw [if_pos (show a0 = cutL from HK.out), hx1, Option.bind_some, hx2]
            rfl
          have hV2 := HVQ.out
          rw [hV] at hV2
          subst hV2
          clear HVQ hV
          have hbd := fun W => run_sbSc (n1 : Int) A3 l2.length c3 W
          have hst := run_sstS (stC 2 0 (n1 : Int) 0 0 (.slice none 0 0) (.slice A3 l2.length c3)) HLn.out.res rfl rfl (stC_one _ _ _ _ _ _ _ _ _ _ _)
          go_wp2_with fail
          refine bodyPost_ret (results_cell_tmp1 rfl _ _ w.heap.size 36 (stC 2 0 (n1 : Int) 0 0 (.slice none 0 0) (.slice A3 l2.length c3)).toArray (0, 0) _ rfl (HLn.out.res.setRow_s _) Tryd.underlying36 rfl info_sS) rfl ?_
          exact ⟨⟨stC 2 0 (n1 : Int) 0 0 (.slice none 0 0) (.slice A3 l2.length c3), rfl, none, 0, A3, c3, rfl, OwnB.nil _, HR4.out.setRow HLn.out.res _⟩, HLn.out.fin _⟩
    · have hm : ¬ ((rest.length : Int) + 1) = 3 := by omega
      have hm2 : ¬ ((rest.length + 1 : Nat) : Int) = 3 := by omega
      have hV : stepW (a0 :: rest) = Option.none := stepW_none a0 rest (fun e => by rw [hk] at e; exact absurd e (by decide)) (fun e => by rw [hk] at e; exact absurd e (by decide)) (fun _ => hl) (fun e => by rw [hk] at e; exact absurd e (by decide))
      have hV2 := HVQ.out
      rw [hV] at hV2
      subst hV2
      clear HVQ
      have hbd := fun W => run_sbS0 W
      have hst := run_sstS (stC 0 0 0 0 0 (.slice none 0 0) (.slice none 0 0)) HLn.out.res rfl rfl (stC_one _ _ _ _ _ _ _ _ _ _ _)
      rw [← litS_eq] at hst
      clear hV HR HW HCS HS0 hge
      go_wp2_with fail
      refine bodyPost_ret (results_cell_tmp1 rfl _ _ w.heap.size 36 litS (0, 0) _ rfl (HLn.out.res.setRow_s _) Tryd.underlying36 rfl info_sS) rfl ?_
      exact ⟨rfl, HLn.out.fin _⟩
  have ncut : ¬ S0.toList = [99, 117, 116] := by rw [HS0.out]; exact hk
  have bcut : (S0.toList == [99, 117, 116]) = false := by rw [beq_eq_false_iff_ne]; exact ncut
  have kcut := Lib.hid hk
  clear hk
  by_cases hk : a0 = [112, 97, 115, 115]
  · have hnk : S0.toList = [112, 97, 115, 115] := by rw [HS0.out]; exact hk
    by_cases hl : rest.length = 1
    · obtain ⟨a1, rfl⟩ : ∃ a1, rest = [a1] := by match rest, hl with | [a1], _ => exact ⟨a1, rfl⟩
      clear hl
      dsimp only [List.length_cons, List.length_nil] at hcap HR ⊢
      have HK := Lib.hid hk
      clear hk
      have c1 : w1.cell? ⟨bk, o + 1, none⟩ = some (.string ⟨a1.toArray⟩) := HCS.out 1 _ rfl
      have z1 : (⟨a1.toArray⟩ : ByteArray).size ≤ 1000000 := by have h := HW.out a1 (by simp); show a1.toArray.size ≤ _; rw [List.size_toArray]; omega
      clear HR HW HCS HS0 hge
      go_wp2_with fail
      refine (snumber_c _ (Nat.le_trans z1 (by unfold maxLen; omega)) _).mono ?_
      rintro e w2 ⟨rfl, hb2⟩
      rw [show (⟨a1.toArray⟩ : ByteArray).data.toList = a1 from List.toList_toArray ..]
      have hl2 := HLn.out.later hb2
      clear HLn
      have HLn := Lib.hid hl2
      clear hl2
      cases hx1 : numS a1 with
      | none =>
        rw [show numV Option.none = .tuple #[.int .i64 0, .bool false] from rfl]
        have hV : stepW [a0, a1] = Option.none := by
          show (if a0 = _ then _ else _) = _
          rw [if_pos (show a0 = passL from HK.out), hx1]
          rfl
        have hV2 := HVQ.out
        rw [hV] at hV2
        subst hV2
        clear HVQ hV
        have hbd := fun W => run_sbS0 W
        have hst := run_sstS (stC 0 0 0 0 0 (.slice none 0 0) (.slice none 0 0)) HLn.out.res rfl rfl (stC_one _ _ _ _ _ _ _ _ _ _ _)
        rw [← litS_eq] at hst
        go_wp2_with fail
        refine bodyPost_ret (results_cell_tmp1 rfl _ _ w.heap.size 36 litS (0, 0) _ rfl (HLn.out.res.setRow_s _) Tryd.underlying36 rfl info_sS) rfl ?_
        exact ⟨rfl, HLn.out.fin _⟩
      | some n1 =>
        rw [show numV (Option.some n1) = .tuple #[.int .i64 (n1 : Int), .bool true] from rfl]
        have hV : stepW [a0, a1] = Option.some ⟨3, 0, n1, 0, 0, [], []⟩ := by
          show (if a0 = _ then _ else _) = _
          rw [if_pos (show a0 = passL from HK.out), hx1]
          rfl
        have hV2 := HVQ.out
        rw [hV] at hV2
        subst hV2
        clear HVQ hV
        have hbd := fun W => run_sbSp (n1 : Int) W
        have hst := run_sstS (stC 3 0 (n1 : Int) 0 0 (.slice none 0 0) (.slice none 0 0)) HLn.out.res rfl rfl (stC_one _ _ _ _ _ _ _ _ _ _ _)
        go_wp2_with fail
        refine bodyPost_ret (results_cell_tmp1 rfl _ _ w.heap.size 36 (stC 3 0 (n1 : Int) 0 0 (.slice none 0 0) (.slice none 0 0)).toArray (0, 0) _ rfl (HLn.out.res.setRow_s _) Tryd.underlying36 rfl info_sS) rfl ?_
        exact ⟨⟨stC 3 0 (n1 : Int) 0 0 (.slice none 0 0) (.slice none 0 0), rfl, none, 0, none, 0, rfl, OwnB.nil _, OwnB.nil _⟩, HLn.out.fin _⟩
    · have hm : ¬ ((rest.length : Int) + 1) = 2 := by omega
      have hm2 : ¬ ((rest.length + 1 : Nat) : Int) = 2 := by omega
      have hV : stepW (a0 :: rest) = Option.none := stepW_none a0 rest (fun e => by rw [hk] at e; exact absurd e (by decide)) (fun e => by rw [hk] at e; exact absurd e (by decide)) (fun e => by rw [hk] at e; exact absurd e (by decide)) (fun _ => hl)
      have hV2 := HVQ.out
      rw [hV] at hV2
      subst hV2
      clear HVQ
      have hbd := fun W => run_sbS0 W
      have hst := run_sstS (stC 0 0 0 0 0 (.slice none 0 0) (.slice none 0 0)) HLn.out.res rfl rfl (stC_one _ _ _ _ _ _ _ _ _ _ _)
      rw [← litS_eq] at hst
      clear hV HR HW HCS HS0 hge
      go_wp2_with fail
      refine bodyPost_ret (results_cell_tmp1 rfl _ _ w.heap.size 36 litS (0, 0) _ rfl (HLn.out.res.setRow_s _) Tryd.underlying36 rfl info_sS) rfl ?_
      exact ⟨rfl, HLn.out.fin _⟩
  have npass : ¬ S0.toList = [112, 97, 115, 115] := by rw [HS0.out]; exact hk
  have bpass : (S0.toList == [112, 97, 115, 115]) = false := by rw [beq_eq_false_iff_ne]; exact npass
  have kpass := Lib.hid hk
  clear hk
  have hV : stepW (a0 :: rest) = Option.none := stepW_none a0 rest (fun e => absurd e kask.out) (fun e => absurd e ktick.out) (fun e => absurd e kcut.out) (fun e => absurd e kpass.out)
  have hV2 := HVQ.out
  rw [hV] at hV2
  subst hV2
  clear HVQ
  have hbd := fun W => run_sbS0 W
  have hst := run_sstS (stC 0 0 0 0 0 (.slice none 0 0) (.slice none 0 0)) HLn.out.res rfl rfl (stC_one _ _ _ _ _ _ _ _ _ _ _)
  rw [← litS_eq] at hst
  clear hV HR HW HCS HS0 hge
  go_wp2_with fail
  refine bodyPost_ret (results_cell_tmp1 rfl _ _ w.heap.size 36 litS (0, 0) _ rfl (HLn.out.res.setRow_s _) Tryd.underlying36 rfl info_sS) rfl ?_
  exact ⟨rfl, HLn.out.fin _⟩
end Go.Proofs.YthidjmdcpdhdlaaDoor
