/- ScriptShows: how any steps are written, and that those that a line says are read as they were. -/
import Derived.Test.YthidjmdcpdhdlaaDoorSrb
namespace Go.Proofs.YthidjmdcpdhdlaaDoor
open Go Go.RowKit
set_option linter.unusedVariables false
set_option linter.unusedSimpArgs false
attribute [local go_sem ↓] sbS_seal sldS_seal sstS_seal
theorem stepLn_is (x : Sp) : stepLn x = !(showL x).isEmpty := rfl
set_option maxRecDepth 100000 in
set_option maxHeartbeats 2000000 in
theorem l26s (A : Option Addr) (n c : Nat) (l : List Sp) (w : World) (hr : ReadsS w A n l) (h : Env26 w) : Calls Tryd.prog 4 #[.slice A n c] w fun e w' => e = .returned (.bool true) ∧ Below w.heap.size w w' := by
  have hlen := hr.1
  have HR := Lib.hid hr
  have HLN := Lib.hid hlen
  have HH := Lib.hid h
  clear h hr hlen
  go_enter Tryd.func4, Tryd.ntmps4
  go_wp2_with fail
  refine (alive26_c _ HH.out).mono ?_
  rintro e w1 ⟨rfl, hb1⟩
  have HB1 := Lib.hid hb1
  clear hb1
  by_cases hn : 60 < n
  · have hn2 : (n : Int) > 60 := by omega
    go_wp2_with fail
    go_ret
    exact ⟨rfl, HB1.out⟩
  have hn2 : ¬ (n : Int) > 60 := by omega
  have hnd : decide ((60 : Int) < (n : Int)) = false := decide_eq_false (by omega)
  go_wp2_with fail
  go_loopw [4, 5] (fun b i wr => ∃ (k : Nat), b = .bool ((l.take k).all stepLn) ∧ i = .int .i64 k ∧ k ≤ n ∧ (∀ x ∈ l.take k, x.bytes.length ≤ 200 ∧ x.mask.length ≤ 200) ∧ Below w.heap.size w wr) (fun _ i wr => (match i with | .int _ x => (n : Int) - x | _ => 0).toNat)
  case atStart => exact ⟨0, by rw [List.take_zero]; rfl, rfl, Nat.zero_le _, (by rw [List.take_zero]; intro x hx; simp at hx), HB1.out⟩
  case round =>
    obtain ⟨k, rfl, rfl, hkn, hsm, hb⟩ := hrel
    have HB := Lib.hid hb
    have HSM := Lib.hid hsm
    clear hb hsm
    by_cases hk : k < n
    · obtain ⟨bk, o, eA, hbk, hcs⟩ := (HR.out.below HB.out).2 (by omega)
      obtain ⟨x, hx⟩ : ∃ x, l[k]? = Option.some x := ⟨l[k]'(by rw [HLN.out]; exact hk), List.getElem?_eq_getElem _⟩
      obtain ⟨cs, hcl, hsc, hrg⟩ := hcs k x hx
      have htk : l.take (k + 1) = l.take k ++ [x] := by rw [List.take_add_one, hx]; rfl
      have HTK := Lib.hid htk
      have hld := run_sldS hcl hrg
      have hsc0 := hsc
      obtain ⟨X, xc, M, mc, hcse, -, -, hx1, hx2⟩ := hsc0
      have k5 : wr.cell? ⟨bk, o + k * 7 + 5, none⟩ = some (.slice X x.bytes.length xc) := hrg 5 _ (by rw [hcse]; rfl)
      have k6 : wr.cell? ⟨bk, o + k * 7 + 6, none⟩ = some (.slice M x.mask.length mc) := hrg 6 _ (by rw [hcse]; rfl)
      have k5b : wr.cell? ⟨bk, o + k * 7 + 3 + 2, none⟩ = some (.slice X x.bytes.length xc) := k5
      have HSC := Lib.hid hsc
      clear htk hx hcs hrg hsc hcl hcse hx1 hx2
      by_cases h1 : 200 < x.bytes.length
      · have h1i : (x.bytes.length : Int) > 200 := by omega
        clear HSC hld
        go_wp2_with fail
        go_ret
        exact ⟨rfl, HB.out⟩
      have h1i : ¬ (x.bytes.length : Int) > 200 := by omega
      by_cases h2 : 200 < x.mask.length
      · have h2i : (x.mask.length : Int) > 200 := by omega
        clear HSC hld
        go_wp2_with fail
        go_ret
        exact ⟨rfl, HB.out⟩
      have h2i : ¬ (x.mask.length : Int) > 200 := by omega
      have hln := rline_c x cs wr HSC.out (by omega) (by omega)
      obtain ⟨S, hS⟩ : ∃ S : ByteArray, (⟨(showL x).toArray⟩ : ByteArray) = S := ⟨_, rfl⟩
      rw [hS] at hln
      have hSl : S.toList = showL x := by rw [← hS, ByteArray.toList_eq]
      have HLI := Lib.hid hln
      have hsm2 : ∀ y ∈ l.take (k + 1), y.bytes.length ≤ 200 ∧ y.mask.length ≤ 200 := by
        rw [HTK.out]
        intro y hy
        rcases List.mem_append.1 hy with hy | hy
        · exact HSM.out y hy
        · simp only [List.mem_cons, List.not_mem_nil, or_false] at hy
          subst hy
          exact ⟨by omega, by omega⟩
      have HSM2 := Lib.hid hsm2
      have hall : (l.take (k + 1)).all stepLn = ((l.take k).all stepLn && stepLn x) := by rw [HTK.out, List.all_append]; simp
      have HALL := Lib.hid hall
      clear hln hsm2 hS hall h1 h2
      cases ha : (l.take k).all stepLn with
      | false =>
        have hfin : (l.take (k + 1)).all stepLn = false := by rw [HALL.out, ha]; rfl
        have HF := Lib.hid hfin
        clear hfin hSl HALL
        go_upto_region 10 with fail
        try rw [← eA]
        clear eA hld HLI k5 k6 k5b HSC
        go_wp2_with fail
        go_roundw
        case rel => exact ⟨k + 1, by rw [HF.out], rfl, hk, HSM2.out, HB.out⟩
        case measure =>
          dsimp only
          omega
      | true =>
        by_cases hs : showL x = []
        · have hst : stepLn x = false := by unfold stepLn; rw [hs]; rfl
          have hfin : (l.take (k + 1)).all stepLn = false := by rw [HALL.out, hst, Bool.and_false]
          have hs1 : S.toList = [] := by rw [hSl]; exact hs
          have hs2 : S.toList.isEmpty = true := by rw [hs1]; rfl
          have HF := Lib.hid hfin
          clear hfin hSl HALL hst hs
          go_wp2_with fail
          refine HLI.out.mono ?_
          rintro e w2 ⟨rfl, hb2⟩
          have HB2 := Lib.hid (HB.out.trans (hb2.mono HB.out.size))
          try rw [← eA]
          clear eA hld HLI k5 k6 k5b HSC hb2
          go_wp2_with fail
          go_roundw
          case rel => exact ⟨k + 1, by rw [HF.out], rfl, hk, HSM2.out, HB2.out⟩
          case measure =>
            dsimp only
            omega
        · have hst : stepLn x = true := by unfold stepLn; rw [show (showL x).isEmpty = false from List.isEmpty_eq_false_iff.2 hs]; rfl
          have hfin : (l.take (k + 1)).all stepLn = true := by rw [HALL.out, hst, ha]; rfl
          have hs1 : ¬ S.toList = [] := by rw [hSl]; exact hs
          have hs2 : S.toList.isEmpty = false := by rw [List.isEmpty_eq_false_iff]; exact hs1
          have hs3 : (S.toList == []) = false := by rw [beq_eq_false_iff_ne]; exact hs1
          have HF := Lib.hid hfin
          clear hfin hSl HALL hst hs
          go_wp2_with fail
          refine HLI.out.mono ?_
          rintro e w2 ⟨rfl, hb2⟩
          have HB2 := Lib.hid (HB.out.trans (hb2.mono HB.out.size))
          try rw [← eA]
          clear eA hld HLI k5 k6 k5b HSC hb2
          go_wp2_with fail
          go_roundw
          case rel => exact ⟨k + 1, by rw [HF.out], rfl, hk, HSM2.out, HB2.out⟩
          case measure =>
            dsimp only
            omega
    · have hkn2 : k = n := by omega
      have hall : l.take k = l := List.take_of_length_le (by rw [HLN.out]; omega)
      rw [hall] at HSM ⊢
      have hl60 : l.length ≤ 60 := by rw [HLN.out]; omega
      have hsz := showA_small l HSM.out
      have h17 : l.length * 1700 ≤ 60 * 1700 := Nat.mul_le_mul_right _ hl60
      have hbig : ∀ x ∈ l, x.bytes.length ≤ 10000 ∧ x.mask.length ≤ 10000 := fun x hx => by have := HSM.out x hx; omega
      have HBIG := Lib.hid hbig
      have hcan : ∀ x ∈ l.filterMap canon, x.bytes.length ≤ 10000 ∧ x.mask.length ≤ 10000 := fun x hx => by have := canon_mem hx HSM.out; omega
      have HCAN := Lib.hid hcan
      have hsA : (⟨(showA l).toArray⟩ : ByteArray).size ≤ 200000 := by show (showA l).toArray.size ≤ _; rw [List.size_toArray]; omega
      have HSA := Lib.hid hsA
      have hlc : l.all stepLn = true → (l.filterMap canon).length = n := fun h => by rw [canon_len l h, HLN.out]
      have HLC := Lib.hid hlc
      have hlm : (l.filterMap canon).length ≤ 60 := Nat.le_trans (List.length_filterMap_le ..) hl60
      have hsc := show_canon l
      have HSC := Lib.hid hsc
      have HLM := Lib.hid hlm
      clear hall hl60 hsz h17 hbig hcan hsA hlc hlm hsc
      obtain ⟨b, hb⟩ : ∃ b, l.all stepLn = b := ⟨_, rfl⟩
      rw [hb] at HLC ⊢
      clear hb
      go_wp2_with fail
      refine (sshowall_c A n c l _ (HR.out.below HB.out) (by omega) HBIG.out (HH.out.below HB.out).tab).mono ?_
      rintro e w2 ⟨rfl, hb2⟩
      have HB2 := Lib.hid (HB.out.trans (hb2.mono HB.out.size))
      clear hb2
      go_wp2_with fail
      refine (rshow_c A n c l _ (HR.out.below HB2.out) (by omega) HBIG.out).mono ?_
      rintro e w3 ⟨rfl, hb3⟩
      have HB3 := Lib.hid (HB2.out.trans (hb3.mono HB2.out.size))
      obtain ⟨S, hS⟩ : ∃ S : ByteArray, (⟨(showA l).toArray⟩ : ByteArray) = S := ⟨_, rfl⟩
      have hrs : (readS S.data.toList).1 = Option.some (l.filterMap canon) := by
        rw [← hS, show (⟨(showA l).toArray⟩ : ByteArray).data.toList = showA l from List.toList_toArray ..]
        unfold readS
        rw [read_show l 0 [], List.nil_append]
      have HRS := Lib.hid hrs
      have hsA : S.size ≤ 200000 := by rw [← hS]; exact HSA.out
      have HSZ := Lib.hid hsA
      rw [hS]
      have hS2 := Lib.hid hS
      clear hb3 hS hrs hsA HSA
      go_wp2_with fail
      refine (read26 (HH.out.below HB3.out) S HSZ.out).mono ?_
      rintro e w4 ⟨hr4, hb4⟩
      have HB4 := Lib.hid (HB3.out.trans (hb4.mono HB3.out.size))
      obtain ⟨A4, c4, xs, rfl, ho, hm⟩ := readRet_some hr4 HRS.out
      have HR4 := Lib.hid (readsS_of ho hm)
      clear hr4 hb4 ho hm
      obtain ⟨m, hmm⟩ : ∃ m, (l.filterMap canon).length = m := ⟨_, rfl⟩
      rw [hmm] at HR4 HLC HLM ⊢
      go_wp2_with (go_at_call 10; refine (num26_c 0 _).mono ?_; rintro e w' ⟨rfl, rfl⟩)
      refine (sshowall_c A4 m c4 (l.filterMap canon) _ HR4.out (by have := HLM.out; omega) HCAN.out (HH.out.below HB4.out).tab).mono ?_
      rintro e w5 ⟨rfl, hb5⟩
      rw [HSC.out, hS2.out]
      have HB5 := Lib.hid (HB4.out.trans (hb5.mono HB4.out.size))
      clear hb5
      cases b with
      | false =>
        go_wp2_with fail
        go_ret
        exact ⟨rfl, HB5.out⟩
      | true =>
        have hmn : m = n := HLC.out rfl
        have hmi : (m : Int) = n := by omega
        go_wp2_with fail
        go_ret
        exact ⟨rfl, HB5.out⟩
end Go.Proofs.YthidjmdcpdhdlaaDoor
