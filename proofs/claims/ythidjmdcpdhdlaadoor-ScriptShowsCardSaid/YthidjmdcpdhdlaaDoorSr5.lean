/- The reference's Read. -/
import Derived.Test.YthidjmdcpdhdlaaDoorSr4
namespace Go.Proofs.YthidjmdcpdhdlaaDoor
open Go Go.RowKit
set_option linter.unusedVariables false
set_option linter.unusedSimpArgs false
attribute [local go_sem ↓] sbS_seal sldS_seal sstS_seal
def midL (s : ByteArray) (a k : Nat) : List UInt8 := (s.data.toList.drop a).take (k - a)
theorem ext_mid (s : ByteArray) (a k : Nat) : (s.extract a k).data.toList = midL s a k := by
  rw [ByteArray.data_extract, Array.toList_extract]; rfl
theorem midL_snoc (s : ByteArray) (a k : Nat) (ha : a ≤ k) (h : k < s.size) : midL s a (k + 1) = midL s a k ++ [s[k]'h] := by
  unfold midL
  rw [show k + 1 - a = (k - a) + 1 from by omega, List.take_add, List.drop_drop, show a + (k - a) = k from by omega, drop_cons s k h]
  rfl
theorem midL_nil (s : ByteArray) (a : Nat) : midL s a a = [] := by unfold midL; rw [Nat.sub_self]; rfl
theorem midL_len (s : ByteArray) (a k : Nat) (ha : a ≤ k) (h : k ≤ s.size) : (midL s a k).length = k - a := by
  have : s.data.toList.length = s.size := Array.length_toList
  unfold midL
  rw [List.length_take, List.length_drop, this]; omega
theorem rstepRet_any {V : Option Sp} {e : Ending} {w' : World} (h : rstepRet V e w') (hv : V = Option.none) : ∃ cs : List Value, e = .returned (.tuple #[.agg cs.toArray, .bool false]) ∧ cs.length = 7 ∧ (∀ u ∈ cs, u.oneCell' = true) := by subst hv; exact h
theorem rstepRet_some {V : Option Sp} {x : Sp} {e : Ending} {w' : World} (h : rstepRet V e w') (hv : V = Option.some x) : ∃ cs : List Value, e = .returned (.tuple #[.agg cs.toArray, .bool true]) ∧ StepO w' x cs := by subst hv; exact h
theorem many_grow {W W' : World} {acc : List Sp} {xs : List Value} {x : Sp} {A B : Option Addr} {c d : Nat} (h : Many (StepO W) acc xs) (hA : StepO W x (stC x.kind x.tenant x.n x.rk x.rn (.slice A x.bytes.length c) (.slice B x.mask.length d))) {row : Option Nat} (hg : W.grownBy W' row) (hr : ∀ g, row = some g → ∃ cs fr, W.heap[g]? = some (.cells cs 36 fr)) : Many (StepO W') (acc ++ [x]) (xs ++ stC x.kind x.tenant x.n x.rk x.rn (.slice A x.bytes.length c) (.slice B x.mask.length d)) :=
  Many.snoc (hA.grown hg hr) rfl (h.mono fun _ _ q => q.grown hg hr)
set_option maxRecDepth 100000 in
set_option maxHeartbeats 4000000 in
theorem rread_c (s : ByteArray) (hs : s.size ≤ 200000) (w : World) : Calls Tryd.prog 8 #[.string s] w fun e w' => readRet (readS s.data.toList) w e w' ∧ Below w.heap.size w w' := by
  obtain ⟨V, hV⟩ : ∃ V, readS s.data.toList = V := ⟨_, rfl⟩
  rw [hV]
  have HV := Lib.hid hV
  obtain ⟨i0, hi, hz0, hz1, hz2⟩ := info_parts info_step
  have HI := Lib.hid hi
  have HZ0 := Lib.hid hz0
  have HZ1 := Lib.hid hz1
  have HZ2 := Lib.hid hz2
  clear hV hi hz0 hz1 hz2
  go_enter Tryd.func8, Tryd.ntmps8
  go_wp2_with fail
  go_loopw [5, 6, 7, 8] (fun o ln at_ i wr => ∃ (k a n : Nat) (acc : List Sp) (xs : List Value) (A' : Option Addr) (c' : Nat), o = .slice A' acc.length c' ∧ ln = .int .i64 n ∧ at_ = .int .i64 a ∧ i = .int .i64 k ∧ acc.length = n ∧ n ≤ k ∧ a ≤ k ∧ k ≤ s.size ∧ readG (s.data.toList.drop k) (midL s a k) n acc = V ∧ wr.ownsRow w.heap.size 36 7 (.slice A' acc.length c') acc.length xs ∧ Many (StepO wr) acc xs ∧ Below w.heap.size w wr) (fun _ _ _ i wr => (match i with | .int _ x => (s.size : Int) - x | _ => 0).toNat)
  case atStart =>
    refine ⟨0, 0, 0, [], [], none, 0, rfl, rfl, rfl, rfl, rfl, Nat.le_refl _, Nat.le_refl _, Nat.zero_le _, ?_, World.ownsRow_nil _ _ _ _, rfl, Below.refl _ w⟩
    rw [List.drop_zero, midL_nil]; exact HV.out
  case round =>
    obtain ⟨k, a, n, acc, xs, A1, c1, rfl, rfl, rfl, rfl, hal, hnk, hak, hks, hg, hown, hmany, hb⟩ := hrel
    have HG := Lib.hid hg
    have HO := Lib.hid hown
    have HMY := Lib.hid hmany
    have HB := Lib.hid hb
    have HAL := Lib.hid hal
    clear hg hown hmany hb hal
    by_cases hk : k < s.size
    · have hgs := HG.out
      rw [drop_cons s k hk] at hgs
      by_cases h10 : (s[k]'hk) = 10
      · have h10i : ((s[k]'hk).toNat : Int) = 10 := by rw [h10]; rfl
        have hgs2 : (match stepW (splitG (midL s a k) []) with | Option.none => (Option.none, n) | Option.some x => readG (s.data.toList.drop (k + 1)) [] (n + 1) (acc ++ [x])) = V := by
          rw [← hgs]
          show _ = if (s[k]'hk) = 10 then _ else _
          rw [if_pos h10]
          cases stepW (splitG (midL s a k) []) <;> rfl
        have HGS := Lib.hid hgs2
        have hst := fun W => rstep_c (s.extract a k) (by rw [ByteArray.size_extract]; omega) W
        simp only [ext_mid] at hst
        clear hgs hgs2 h10 HG
        go_wp2_with fail
        refine (hst _).mono ?_
        rintro e w2 ⟨hr, hb2⟩
        have HBW := Lib.hid hb2
        clear hb2 hst
        cases hx : stepW (splitG (midL s a k) []) with
        | none =>
          obtain ⟨cs, rfl, hcl, h1⟩ := rstepRet_any hr hx
          have hv : V = (Option.none, n) := by rw [← HGS.out, hx]
          subst hv
          have hst := run_sstS cs (Blk.new w2 36 litS) rfl hcl h1
          clear hx hr hcl h1
          go_wp2_with fail
          go_ret3
          have hb2 := HB.out.trans (HBW.out.mono HB.out.size)
          exact ⟨rfl, hb2.trans (below_setRow_s ((Below.refl _ w2).alloc hb2.size _) hb2.size _)⟩
        | some x =>
          obtain ⟨cs, rfl, hso⟩ := rstepRet_some hr hx
          have hgs : readG (s.data.toList.drop (k + 1)) [] (n + 1) (acc ++ [x]) = V := by have q := HGS.out; rw [hx] at q; exact q
          have HGR := Lib.hid hgs
          have hst := run_sstS cs (Blk.new w2 36 litS) rfl hso.len hso.one
          have hb3 : Below w2.heap.size w2 ((w2.alloc (.cells litS 36)).setRow w2.heap.size cs.toArray) := below_setRow_s ((Below.refl _ w2).alloc (Nat.le_refl _) _) (Nat.le_refl _) _
          have hx3 : Blk ((w2.alloc (.cells litS 36)).setRow w2.heap.size cs.toArray) w2.heap.size 36 cs.toArray := (Blk.new w2 36 litS).setRow_s _
          have HX3 := Lib.hid hx3
          have HB3 := Lib.hid hb3
          have HSO := Lib.hid hso
          clear hx hr hgs hb3 hx3 HGS hso
          go_upto_region 9 with fail
          have hb3 := HB3.out
          have hx3 := HX3.out
          generalize (w2.alloc (.cells litS 36)).setRow w2.heap.size cs.toArray = w3 at hb3 hx3 ⊢
          clear HB3 HX3 hst
          have hbw := HBW.out.trans (hb3.mono HBW.out.size)
          have HO3 := Lib.hid (own_only HO.out (Only.of_below (S := []) hbw) (by simp))
          have HM3 := Lib.hid (HMY.out.mono (fun _ _ h => StepO.below h hbw))
          have HS3 := Lib.hid (HSO.out.below hb3)
          have HB3 := Lib.hid (HB.out.trans (hbw.mono HB.out.size))
          have hlt3 : w.heap.size ≤ w3.heap.size := HB3.out.size
          clear HO HMY HSO HB HBW hbw hb3
          obtain ⟨A, c, B, d, hcs, hA, hB⟩ := HS3.out
          subst hcs
          have hld : (sldS (.pointer (some ⟨w2.heap.size, 0, none⟩))).run Tryd.prog w3 = .ok (.agg #[.int .i64 x.kind, .int .i64 x.tenant, .int .i64 x.n, .int .i64 x.rk, .int .i64 x.rn, .slice A x.bytes.length c, .slice B x.mask.length d]) w3 := run_sldS rfl (blk_whole hx3)
          have hnew := Blk.new w3 36 #[.int .i64 x.kind, .int .i64 x.tenant, .int .i64 x.n, .int .i64 x.rk, .int .i64 x.rn, .slice A x.bytes.length c, .slice B x.mask.length d]
          have hcl : ∀ j u, (stC x.kind x.tenant x.n x.rk x.rn (.slice A x.bytes.length c) (.slice B x.mask.length d))[j]? = some u → (w3.alloc (.cells #[.int .i64 x.kind, .int .i64 x.tenant, .int .i64 x.n, .int .i64 x.rk, .int .i64 x.rn, .slice A x.bytes.length c, .slice B x.mask.length d] 36)).cell? ((⟨w3.heap.size, 0, none⟩ : Addr).add j) = some u := fun j u hj => by
            rw [add_off, Nat.zero_add, hnew.cell j]
            rw [← hj, List.getElem?_toArray]
            rfl
          have hac : acc.length ≤ 200000 := by rw [HAL.out]; omega
          have HCL := Lib.hid hcl
          have HOL := Lib.hid (own_only HO3.out (Only.of_below (S := []) ((Below.refl _ w3).alloc (Nat.le_refl _) (.cells #[.int .i64 x.kind, .int .i64 x.tenant, .int .i64 x.n, .int .i64 x.rk, .int .i64 x.rn, .slice A x.bytes.length c, .slice B x.mask.length d] 36))) (by simp))
          clear hA hB hnew hx3 hcl
          go_wp2_with (at_builtin; refine wpList_append_own _ rfl (.tmp 32) (.tmp 34) _ rfl w.heap.size 36 i0 (.agg litS) 7 88 Tryd.underlying23 HI.out HZ0.out HZ1.out HZ2.out rfl (by decide) _ acc.length xs rfl HOL.out ⟨w3.heap.size, 0, none⟩ 1 1 _ rfl rfl HCL.out (stC_one _ _ _ _ _ _ _ _ _ _ _) (by unfold maxLen; omega) (by omega) (by simp; omega) ?_; intro v2 w4 hown2 hgrow2 hat; obtain ⟨g2, c2, rfl⟩ := own_pos hown2; have HOA := Lib.hid hown2; have HGA := Lib.hid hgrow2; clear hown2 hgrow2 hat)
          go_roundw
          case rel =>
            have hbl : Below w3.heap.size w3 (w3.alloc (.cells #[.int .i64 x.kind, .int .i64 x.tenant, .int .i64 x.n, .int .i64 x.rk, .int .i64 x.rn, .slice A x.bytes.length c, .slice B x.mask.length d] 36)) := (Below.refl _ w3).alloc (Nat.le_refl _) _
            have hcell := own_cells HOL.out
            have hba := (hbl.mono hlt3).grown HGA.out (by simp; omega) (fun g hg => (HOL.out.lt g hg).1)
            refine ⟨k + 1, k + 1, n + 1, acc ++ [x], _, _, c2, by rw [List.length_append]; rfl, rfl, rfl, rfl, by rw [List.length_append, HAL.out]; rfl, by omega, Nat.le_refl _, hk, ?_, ?_, many_grow (HM3.out.mono fun _ _ h => h.below hbl) (HS3.out.below hbl) HGA.out hcell, HB3.out.trans hba⟩
            · rw [midL_nil]; exact HGR.out
            · rw [List.length_append]; exact HOA.out
          case measure =>
            dsimp only
            omega
      · have h10i : ¬ ((s[k]'hk).toNat : Int) = 10 := fun e => h10 (UInt8.toNat_inj.1 (by show (s[k]'hk).toNat = 10; omega))
        have hgs2 : readG (s.data.toList.drop (k + 1)) (midL s a (k + 1)) n acc = V := by
          rw [← hgs, midL_snoc s a k hak hk]
          show _ = if (s[k]'hk) = 10 then _ else _
          rw [if_neg h10]
        have HGS := Lib.hid hgs2
        clear hgs hgs2 h10 HG
        go_wp2_with fail
        go_roundw
        case rel =>
          exact ⟨k + 1, a, n, acc, xs, A1, c1, rfl, rfl, rfl, rfl, HAL.out, by omega, by omega, hk, HGS.out, HO.out, HMY.out, HB.out⟩
        case measure =>
          dsimp only
          omega
    · have hgs := HG.out
      rw [drop_end s k hk] at hgs
      have hml := midL_len s a k hak hks
      by_cases hat : a < s.size
      · have hv : V = (Option.none, n) := by
          rw [← hgs]
          show (if midL s a k = [] then _ else _) = _
          rw [if_neg (fun e => by rw [e] at hml; simp at hml; omega)]
        subst hv
        clear hgs hml HG
        go_wp2_with fail
        go_ret3
        exact ⟨rfl, HB.out⟩
      · have hv : V = (Option.some acc, 0) := by
          rw [← hgs]
          show (if midL s a k = [] then _ else _) = _
          rw [if_pos (List.eq_nil_of_length_eq_zero (by rw [hml]; omega))]
        subst hv
        clear hgs hml HG
        go_wp2_with fail
        go_ret3
        exact ⟨⟨A1, c1, xs, rfl, HO.out, HMY.out⟩, HB.out⟩
end Go.Proofs.YthidjmdcpdhdlaaDoor
