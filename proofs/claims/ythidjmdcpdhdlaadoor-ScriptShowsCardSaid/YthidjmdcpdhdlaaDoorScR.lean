/- script.Read: the steps that a text says. -/
import Derived.Test.YthidjmdcpdhdlaaDoorScQ
namespace Go.Proofs.YthidjmdcpdhdlaaDoor
open Go Go.RowKit
set_option linter.unusedVariables false
set_option linter.unusedSimpArgs false
attribute [local go_sem ↓] sbS_seal sldS_seal sstS_seal
theorem info_step : (Tryd.prog.info? 36).map (fun i => (i.zero, i.size, i.bytes)) = some (some (.agg litS), 7, 88) := by kernel_rfl
theorem own_pos {w : World} {base : Nat} {e : TypeId} {size n : Nat} {v : Value} {xs : List Value} (h : w.ownsRow base e size v (n + 1) xs) : ∃ g c, v = .slice (some ⟨g, 0, none⟩) (n + 1) c := by
  rcases h.2 with ⟨_, h⟩ | ⟨g, cap, cur, h, _⟩
  · omega
  · exact ⟨g, cap, h⟩
theorem own_cells {w : World} {base : Nat} {e : TypeId} {size n : Nat} {v : Value} {xs : List Value} (h : w.ownsRow base e size v n xs) (g : Nat) (hg : v.ownBlock = some g) : ∃ cs fr, w.heap[g]? = some (.cells cs e fr) := by
  rcases h.2 with ⟨rfl, _⟩ | ⟨g', cap, cur, rfl, _, hh, _⟩
  · simp [Value.ownBlock] at hg
  · have : g' = g := by simpa [Value.ownBlock] using hg
    subst this
    exact ⟨cur, _, hh⟩
theorem blk_whole {w : World} {g : Nat} {t : TypeId} {l : List Value} (h : Blk w g t l.toArray) : w.rangeAt g 0 l := by
  intro j u hu
  rw [h.cell, Nat.zero_add, ← hu]
  simp
/-- What line answers, whatever it says. -/
theorem lineRet_any {V : Option Sp} {e : Ending} {w' : World} (h : lineRet V e w') : ∃ (cs : List Value) (b : Bool), e = .returned (.tuple #[.agg cs.toArray, .bool b]) ∧ cs.length = 7 ∧ (∀ u ∈ cs, u.oneCell' = true) := by
  cases V with
  | none => exact ⟨stC 0 0 0 0 0 (.slice none 0 0) (.slice none 0 0), false, h, rfl, stC_one _ _ _ _ _ _ _ _ _ _ _⟩
  | some x => obtain ⟨cs, h1, h2⟩ := h; exact ⟨cs, true, h1, h2.len, h2.one⟩
theorem cut_size (a : List UInt8) (n : Nat) (h : a.length ≤ n) : (⟨a.toArray⟩ : ByteArray).size ≤ n := by
  show a.toArray.size ≤ n
  rw [List.size_toArray]; exact h
set_option maxRecDepth 100000 in
set_option maxHeartbeats 8000000 in
theorem sread_c (s : ByteArray) (hs : s.size ≤ 200000) (w : World) (m : Int) (hm : w.cell? ⟨0, 0, none⟩ = some (.int .i64 m)) : Calls Tryd.prog 7 #[.string s] w fun e w' => readRet (readS s.data.toList) w e w' ∧ Below w.heap.size w w' := by
  obtain ⟨V, hV⟩ : ∃ V, readS s.data.toList = V := ⟨_, rfl⟩
  rw [hV]
  have HV := Lib.hid hV
  obtain ⟨i0, hi, hz0, hz1, hz2⟩ := info_parts info_step
  have HI := Lib.hid hi
  have HZ0 := Lib.hid hz0
  have HZ1 := Lib.hid hz1
  have HZ2 := Lib.hid hz2
  have h0lt : 0 < w.heap.size := by
    by_cases q : 0 < w.heap.size
    · exact q
    · simp only [World.cell?] at hm
      rw [Array.getElem?_eq_none (by omega)] at hm
      cases hm
  have hmw : ∀ W, Below w.heap.size w W → W.cell? ⟨0, 0, none⟩ = some (.int .i64 m) := fun W hb => by
    rw [← hm]; simp only [World.cell?, hb.block 0 h0lt]
  have HM := Lib.hid hmw
  clear hV hi hz0 hz1 hz2 h0lt hmw hm
  go_enter Tryd.func7, Tryd.ntmps7
  go_wp2_with fail
  go_loopw [0, 5, 6] (fun z o i wr => ∃ (S : ByteArray) (k : Nat) (acc : List Sp) (xs : List Value) (A' : Option Addr) (c' : Nat), z = .string S ∧ o = .slice A' acc.length c' ∧ i = .int .i64 k ∧ acc.length = k ∧ k + S.size ≤ s.size ∧ readG S.data.toList [] k acc = V ∧ wr.ownsRow w.heap.size 36 7 (.slice A' acc.length c') acc.length xs ∧ Many (StepO wr) acc xs ∧ Below w.heap.size w wr) (fun z _ _ wr => (match z with | .string b => b.size | _ => 0))
  case atStart =>
    refine ⟨s, 0, [], [], none, 0, rfl, rfl, rfl, rfl, by omega, HV.out, World.ownsRow_nil _ _ _ _, rfl, Below.refl _ w⟩
  case round =>
    obtain ⟨S, k, acc, xs, A1, c1, rfl, rfl, rfl, hal, hks, hg, hown, hmany, hb⟩ := hrel
    have HG := Lib.hid hg
    have HO := Lib.hid hown
    have HMY := Lib.hid hmany
    have HB := Lib.hid hb
    have HAL := Lib.hid hal
    have hSl : S.data.toList.length = S.size := Array.length_toList
    clear hg hown hmany hb hal
    by_cases h0 : S.size = 0
    · have hnil : S.data.toList = [] := List.eq_nil_of_length_eq_zero (by rw [hSl]; exact h0)
      have hS : S = ⟨#[]⟩ := ByteArray.ext (Array.toList_inj.mp hnil)
      have hv : V = (Option.some acc, 0) := by rw [← HG.out, hnil]; rfl
      subst hv hS
      clear hSl hnil h0
      go_wp2_with fail
      go_ret3
      exact ⟨⟨A1, c1, xs, rfl, HO.out, HMY.out⟩, HB.out⟩
    have hne : ¬ S.data.toList = [] := fun e => h0 (by rw [← hSl, e]; rfl)
    have hn1 : ¬ S.toList = [] := by rw [ByteArray.toList_eq]; exact hne
    have hn2 : S.toList.isEmpty = false := by rw [List.isEmpty_eq_false_iff]; exact hn1
    have hn3 : (S.toList == []) = false := by rw [beq_eq_false_iff_ne]; exact hn1
    have hS4 : S.size < 4294967281 := by omega
    rcases cut10 S.data.toList with ⟨hc, hno⟩ | ⟨a, r, hc, he, hno⟩
    · have hcut := Tryd.strings_Cut S ⟨#[10]⟩ m wr hS4 (HM.out wr HB.out)
      rw [show (⟨#[10]⟩ : ByteArray).data.toList = [10] from rfl, hc] at hcut
      have hv : V = (Option.none, k) := by rw [← HG.out, readG_end _ _ _ _ hno, List.nil_append, if_neg hne]
      subst hv
      have hln := fun W => sline_c ⟨S.data.toList.toArray⟩ (cut_size _ _ (by rw [hSl]; omega)) W
      clear hne hno hc hS4 hSl
      go_wp2_with fail
      refine hcut.mono ?_
      rintro e w1 ⟨rfl, nq, rfl⟩
      clear hcut
      go_wp2_with fail
      refine (hln _).mono ?_
      rintro e w2 ⟨hr, hb2⟩
      obtain ⟨cs, b, rfl, hl, h1⟩ := lineRet_any hr
      have hst := run_sstS cs (Blk.new w2 36 litS) rfl hl h1
      have HB2 := Lib.hid (HB.out.trans (((below_drewN (Below.refl _ wr) nq).trans hb2).mono HB.out.size))
      clear hr hb2 hln hl h1
      go_wp2_with fail
      go_ret3
      exact ⟨rfl, HB2.out.trans (below_setRow_s ((Below.refl _ w2).alloc HB2.out.size _) (by have := HB2.out.size; omega) _)⟩
    · have hcut := Tryd.strings_Cut S ⟨#[10]⟩ m wr hS4 (HM.out wr HB.out)
      rw [show (⟨#[10]⟩ : ByteArray).data.toList = [10] from rfl, hc] at hcut
      have hgs := HG.out
      rw [he, readG_cut a r [] k acc hno, List.nil_append] at hgs
      have hlen : a.length + r.length + 1 = S.size := by rw [← hSl, he, List.length_append, List.length_cons]; omega
      have hln := fun W => sline_c ⟨a.toArray⟩ (cut_size _ _ (by omega)) W
      rw [show (⟨a.toArray⟩ : ByteArray).data.toList = a from List.toList_toArray ..] at hln
      have HGS := Lib.hid hgs
      clear hne hno hc hS4 hSl he hgs HG h0
      go_wp2_with fail
      refine hcut.mono ?_
      rintro e w1 ⟨rfl, nq, rfl⟩
      clear hcut
      go_wp2_with fail
      refine (hln _).mono ?_
      rintro e w2 ⟨hr, hb2⟩
      have hbw := (below_drewN (Below.refl wr.heap.size wr) nq).trans hb2
      have HBW := Lib.hid hbw
      clear hb2 hbw hln
      cases hx : stepW (splitG a []) with
      | none =>
        rw [hx] at hr
        obtain rfl := hr
        have hv : V = (Option.none, k) := by rw [← HGS.out, hx]
        subst hv
        have hst := run_sstS (stC 0 0 0 0 0 (.slice none 0 0) (.slice none 0 0)) (Blk.new w2 36 litS) rfl rfl (stC_one _ _ _ _ _ _ _ _ _ _ _)
        rw [← litS_eq] at hst
        clear hx
        go_wp2_with fail
        go_ret3
        have hb2 := HB.out.trans (HBW.out.mono HB.out.size)
        exact ⟨rfl, hb2.trans (below_setRow_s ((Below.refl _ w2).alloc hb2.size _) hb2.size _)⟩
      | some x =>
        rw [hx] at hr
        obtain ⟨cs, rfl, hso⟩ := hr
        have hgs : readG r [] (k + 1) (acc ++ [x]) = V := by have q := HGS.out; rw [hx] at q; exact q
        have HGR := Lib.hid hgs
        have hst := run_sstS cs (Blk.new w2 36 litS) rfl hso.len hso.one
        have hb3 : Below w2.heap.size w2 ((w2.alloc (.cells litS 36)).setRow w2.heap.size cs.toArray) := below_setRow_s ((Below.refl _ w2).alloc (Nat.le_refl _) _) (Nat.le_refl _) _
        have hx3 : Blk ((w2.alloc (.cells litS 36)).setRow w2.heap.size cs.toArray) w2.heap.size 36 cs.toArray := (Blk.new w2 36 litS).setRow_s _
        have HX3 := Lib.hid hx3
        have HB3 := Lib.hid hb3
        have HSO := Lib.hid hso
        clear hx hgs hb3 hx3 HGS hso
        go_upto_region 7 with fail
        have hb3 := HB3.out
        have hx3 := HX3.out
        generalize (w2.alloc (.cells litS 36)).setRow w2.heap.size cs.toArray = w3 at hb3 hx3 ⊢
        clear HB3 HX3 hst
        have hbw := HBW.out.trans (hb3.mono HBW.out.size)
        have HO3 := Lib.hid (own_only HO.out (Only.of_below (S := []) hbw) (by simp))
        have HM3 := Lib.hid (HMY.out.mono (fun _ _ h => StepO.below h hbw))
        have HS3 := Lib.hid (HSO.out.below hb3)
        have HB3 := Lib.hid (HB.out.trans (hbw.mono HB.out.size))
        have hlt3 : w.heap.size ≤ w3.heap.size := HB3.out.size
        clear HO HMY HSO HB HBW hbw hb3
        obtain ⟨A, c, B, d, hcs, hA, hB⟩ := HS3.out
        subst hcs
        have hld : (sldS (.pointer (some ⟨w2.heap.size, 0, none⟩))).run Tryd.prog w3 = .ok (.agg #[.int .i64 x.kind, .int .i64 x.tenant, .int .i64 x.n, .int .i64 x.rk, .int .i64 x.rn, .slice A x.bytes.length c, .slice B x.mask.length d]) w3 := run_sldS rfl (blk_whole hx3)
        have hnew := Blk.new w3 36 #[.int .i64 x.kind, .int .i64 x.tenant, .int .i64 x.n, .int .i64 x.rk, .int .i64 x.rn, .slice A x.bytes.length c, .slice B x.mask.length d]
        have hcl : ∀ j u, (stC x.kind x.tenant x.n x.rk x.rn (.slice A x.bytes.length c) (.slice B x.mask.length d))[j]? = some u → (w3.alloc (.cells #[.int .i64 x.kind, .int .i64 x.tenant, .int .i64 x.n, .int .i64 x.rk, .int .i64 x.rn, .slice A x.bytes.length c, .slice B x.mask.length d] 36)).cell? ((⟨w3.heap.size, 0, none⟩ : Addr).add j) = some u := fun j u hj => by
          rw [add_off, Nat.zero_add, hnew.cell j]
          rw [← hj, List.getElem?_toArray]
          rfl
        have hac : acc.length ≤ 200000 := by rw [HAL.out]; omega
        have HCL := Lib.hid hcl
        have HOL := Lib.hid (own_only HO3.out (Only.of_below (S := []) ((Below.refl _ w3).alloc (Nat.le_refl _) (.cells #[.int .i64 x.kind, .int .i64 x.tenant, .int .i64 x.n, .int .i64 x.rk, .int .i64 x.rn, .slice A x.bytes.length c, .slice B x.mask.length d] 36))) (by simp))
        clear hA hB hnew hx3 hcl
        go_wp2_with (at_builtin; refine wpList_append_own _ rfl (.tmp 34) (.tmp 36) _ rfl w.heap.size 36 i0 (.agg litS) 7 88 Tryd.underlying23 HI.out HZ0.out HZ1.out HZ2.out rfl (by decide) _ acc.length xs rfl HOL.out ⟨w3.heap.size, 0, none⟩ 1 1 _ rfl rfl HCL.out (stC_one _ _ _ _ _ _ _ _ _ _ _) (by unfold maxLen; omega) (by omega) (by simp; omega) ?_; intro v2 w4 hown2 hgrow2 hat; obtain ⟨g2, c2, rfl⟩ := own_pos hown2; have HOA := Lib.hid hown2; have HGA := Lib.hid hgrow2; clear hown2 hgrow2 hat)
        go_roundw
        case rel =>
          have hbl : Below w3.heap.size w3 (w3.alloc (.cells #[.int .i64 x.kind, .int .i64 x.tenant, .int .i64 x.n, .int .i64 x.rk, .int .i64 x.rn, .slice A x.bytes.length c, .slice B x.mask.length d] 36)) := (Below.refl _ w3).alloc (Nat.le_refl _) _
          have hcell := own_cells HOL.out
          have hba := (hbl.mono hlt3).grown HGA.out (by simp; omega) (fun g hg => (HOL.out.lt g hg).1)
          refine ⟨⟨r.toArray⟩, k + 1, acc ++ [x], _, _, c2, rfl, by rw [List.length_append]; rfl, rfl, by rw [List.length_append, HAL.out]; rfl, ?_, ?_, ?_, Many.snoc (ds := stC x.kind x.tenant x.n x.rk x.rn (.slice A x.bytes.length c) (.slice B x.mask.length d)) ?_ rfl (HM3.out.mono fun _ _ h => (h.below hbl).grown HGA.out hcell), HB3.out.trans hba⟩
          · show k + 1 + r.toArray.size ≤ s.size; rw [List.size_toArray]; omega
          · rw [show (⟨r.toArray⟩ : ByteArray).data.toList = r from List.toList_toArray ..]; exact HGR.out
          · rw [List.length_append]; exact HOA.out
          · exact (HS3.out.below hbl).grown HGA.out hcell
        case measure =>
          show r.toArray.size < S.size
          rw [List.size_toArray]; omega
end Go.Proofs.YthidjmdcpdhdlaaDoor
