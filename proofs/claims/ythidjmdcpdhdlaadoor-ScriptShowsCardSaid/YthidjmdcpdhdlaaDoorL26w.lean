/- alive of chapter 26; ScriptWrong: which lines are none. -/
import Derived.Test.YthidjmdcpdhdlaaDoorScW
namespace Go.Proofs.YthidjmdcpdhdlaaDoor
open Go Go.RowKit
set_option linter.unusedVariables false
set_option linter.unusedSimpArgs false
theorem readsS_of {w : World} {base : Nat} {A : Option Addr} {c : Nat} {l : List Sp} {xs : List Value} (h : w.ownsRow base 36 7 (.slice A l.length c) l.length xs) (hm : Many (StepO w) l xs) : ReadsS w A l.length l := by
  refine ⟨rfl, fun hn => ?_⟩
  rcases h.2 with ⟨_, h0⟩ | ⟨g, cap, cur, hv, _, hh, _⟩
  · omega
  · injection hv with hv
    subst hv
    refine ⟨g, 0, rfl, lt_of_get hh, fun k x hx => ?_⟩
    obtain ⟨cs, e1, e2, e3⟩ := hm.at_ k hx
    refine ⟨cs, e1, e2.toC, fun j v hj => ?_⟩
    have hj7 : j < 7 := by
      by_cases q : j < 7
      · exact q
      · rw [List.getElem?_eq_none (by omega)] at hj; cases hj
    have hk : k < l.length := by
      by_cases q : k < l.length
      · exact q
      · rw [List.getElem?_eq_none (by omega)] at hx; cases hx
    rw [Nat.zero_add, World.ownsRow.cellAt h (k * 7 + j) (by omega)]
    exact e3 j v hj
theorem readRet_some {V : Option (List Sp) × Nat} {l : List Sp} {e : Ending} {w w' : World} (h : readRet V w e w') (hv : V.1 = Option.some l) : ∃ A c xs, e = .returned (.tuple #[.slice A l.length c, .int .i64 0, .int .i64 0]) ∧ w'.ownsRow w.heap.size 36 7 (.slice A l.length c) l.length xs ∧ Many (StepO w') l xs := by
  unfold readRet at h
  rw [hv] at h
  exact h
theorem readRet_none {V : Option (List Sp) × Nat} {e : Ending} {w w' : World} (h : readRet V w e w') (hv : V.1 = Option.none) : e = .returned (.tuple #[.slice none 0 0, .int .i64 (V.2 : Int), .int .i64 6]) := by
  unfold readRet at h
  rw [hv] at h
  exact h
/-- What a law of chapter 26 finds in the world: the library's variables. -/
structure Env26 (w : World) : Prop where
  tab : Tab w
  max : ∃ m : Int, w.cell? ⟨0, 0, none⟩ = some (.int .i64 m)
theorem Env26.below {w w' : World} (h : Env26 w) (hb : Below w.heap.size w w') : Env26 w' := by
  refine ⟨h.tab.below hb, ?_⟩
  obtain ⟨m, hm⟩ := h.max
  refine ⟨m, ?_⟩
  have h0lt : 0 < w.heap.size := by
    by_cases q : 0 < w.heap.size
    · exact q
    · simp only [World.cell?] at hm
      rw [Array.getElem?_eq_none (by omega)] at hm
      cases hm
  rw [← hm]; simp only [World.cell?, hb.block 0 h0lt]
theorem read26 {w : World} (h : Env26 w) (s : ByteArray) (hs : s.size ≤ 200000) : Calls Tryd.prog 7 #[.string s] w fun e w' => readRet (readS s.data.toList) w e w' ∧ Below w.heap.size w w' := by
  obtain ⟨m, hm⟩ := h.max
  exact sread_c s hs w m hm
theorem cell_keep {w w' : World} {g j : Nat} {v : Value} (h : w.cell? ⟨g, j, none⟩ = some v) (hb : Below w.heap.size w w') : w'.cell? ⟨g, j, none⟩ = some v := by
  have hlt : g < w.heap.size := by
    by_cases q : g < w.heap.size
    · exact q
    · simp only [World.cell?] at h
      rw [Array.getElem?_eq_none (by omega)] at h
      cases h
  rw [← h]; simp only [World.cell?, hb.block g hlt]
theorem num26_c (n : Int) (w : World) : Calls Tryd.prog 10 #[.int .i64 n] w fun e w' => e = .returned (.int .i64 n) ∧ w = w' := by
  go_enter Tryd.func10, Tryd.ntmps10
  go_wp2_with fail
  go_ret
  exact ⟨rfl, rfl⟩
theorem read_tick : (readS [116, 105, 99, 107, 10]).1 = Option.some [⟨1, 0, 0, 0, 0, [], []⟩] := by rfl
theorem read_nil : (readS []).1 = Option.some [] := by rfl
theorem show_tick : showA [⟨1, 0, 0, 0, 0, [], []⟩] = [116, 105, 99, 107, 10] := by rfl
set_option maxRecDepth 100000 in
set_option maxHeartbeats 2000000 in
theorem alive26_c (w : World) (h : Env26 w) : Calls Tryd.prog 6 #[] w fun e w' => e = .returned (.bool true) ∧ Below w.heap.size w w' := by
  have HH := Lib.hid h
  clear h
  go_enter Tryd.func6, Tryd.ntmps6
  go_wp2_with fail
  refine (read26 HH.out _ (by decide)).mono ?_
  rintro e w1 ⟨hr, hb1⟩
  obtain ⟨A1, c1, xs1, rfl, ho1, hm1⟩ := readRet_some hr read_nil
  have HB1 := Lib.hid hb1
  clear hr hb1 ho1 hm1
  go_wp2_with fail
  refine (read26 (HH.out.below HB1.out) _ (by decide)).mono ?_
  rintro e w2 ⟨hr, hb2⟩
  obtain ⟨A2, c2, xs2, rfl, ho2, hm2⟩ := readRet_some hr read_tick
  have HB2 := Lib.hid (HB1.out.trans (hb2.mono HB1.out.size))
  have HRS := Lib.hid (readsS_of ho2 hm2)
  clear hr hb2 ho2 hm2
  dsimp only [List.length_nil, List.length_cons] at HRS ⊢
  go_wp2_with fail
  refine (num26_c 0 _).mono ?_
  rintro e w' ⟨rfl, rfl⟩
  go_wp2_with fail
  refine (num26_c 0 _).mono ?_
  rintro e w' ⟨rfl, rfl⟩
  go_wp2_with fail
  refine (sshowall_c A2 _ c2 _ _ HRS.out (by omega) (by intro x hx; simp only [List.mem_cons, List.not_mem_nil, or_false] at hx; subst hx; exact ⟨Nat.zero_le _, Nat.zero_le _⟩) (HH.out.below HB2.out).tab).mono ?_
  rintro e w3 ⟨rfl, hb3⟩
  rw [show_tick]
  have HB3 := Lib.hid (HB2.out.trans (hb3.mono HB2.out.size))
  clear hb3
  go_wp2_with fail
  go_ret
  exact ⟨rfl, HB3.out⟩
@[reducible] def strs26 : Array Value := #[.string ⟨#[116, 105, 99, 107, 10]⟩, .string ⟨#[116, 105, 99, 107]⟩, .string ⟨#[116, 105, 99, 107, 32, 10]⟩, .string ⟨#[32, 116, 105, 99, 107, 10]⟩, .string ⟨#[10]⟩, .string ⟨#[84, 105, 99, 107, 10]⟩, .string ⟨#[112, 97, 115, 115, 32, 48, 10]⟩, .string ⟨#[112, 97, 115, 115, 32, 48, 48, 10]⟩, .string ⟨#[112, 97, 115, 115, 32, 45, 49, 10]⟩, .string ⟨#[112, 97, 115, 115, 32, 50, 49, 52, 55, 52, 56, 51, 54, 52, 55, 10]⟩, .string ⟨#[112, 97, 115, 115, 32, 50, 49, 52, 55, 52, 56, 51, 54, 52, 56, 10]⟩, .string ⟨#[112, 97, 115, 115, 10]⟩, .string ⟨#[99, 117, 116, 32, 48, 32, 45, 10]⟩, .string ⟨#[99, 117, 116, 32, 48, 32, 102, 102, 10]⟩, .string ⟨#[99, 117, 116, 32, 48, 32, 102, 10]⟩, .string ⟨#[99, 117, 116, 32, 48, 32, 70, 70, 10]⟩, .string ⟨#[99, 117, 116, 32, 48, 32, 10]⟩, .string ⟨#[99, 117, 116, 32, 48, 10]⟩, .string ⟨#[97, 115, 107, 32, 48, 32, 57, 32, 48, 32, 45, 10]⟩, .string ⟨#[97, 115, 107, 32, 48, 32, 57, 32, 48, 32, 48, 97, 10]⟩, .string ⟨#[97, 115, 107, 32, 48, 32, 57, 32, 48, 10]⟩, .string ⟨#[97, 115, 107, 32, 48, 32, 57, 32, 45, 10]⟩, .string ⟨#[97, 115, 107, 32, 32, 48, 32, 57, 32, 48, 32, 45, 10]⟩, .string ⟨#[112, 97, 115, 115, 32, 217, 163, 10]⟩]
@[reducible] def bools26 : Array Value := #[.bool true, .bool false, .bool false, .bool false, .bool false, .bool false, .bool true, .bool false, .bool false, .bool true, .bool false, .bool false, .bool true, .bool true, .bool false, .bool false, .bool false, .bool false, .bool true, .bool true, .bool false, .bool false, .bool false, .bool false]
theorem strs26_eq : strs26 = (wrongL.map strv).toArray := by rfl
theorem bools26_eq : bools26 = (wrongOk.map Value.bool).toArray := by rfl
theorem wrongL_len : wrongL.length = 24 := rfl
theorem wrong_size : ∀ k : Fin 24, (wrongL.getD k.val []).length ≤ 100 := by decide
theorem strv_at : ∀ k : Fin 24, (wrongL.map strv)[k.val]? = some (strv (wrongL.getD k.val [])) := fun k => by
  have h : k.val < wrongL.length := by rw [wrongL_len]; exact k.isLt
  rw [List.getElem?_map, List.getD_eq_getElem?_getD, List.getElem?_eq_getElem h]; rfl
theorem bool_at : ∀ k : Fin 24, (wrongOk.map Value.bool)[k.val]? = some (.bool (wrongOk.getD k.val false)) := fun k => by
  have h : k.val < wrongOk.length := k.isLt
  rw [List.getElem?_map, List.getD_eq_getElem?_getD, List.getElem?_eq_getElem h]; rfl
theorem strv_is (l : List UInt8) : strv l = .string ⟨l.toArray⟩ := rfl
set_option maxRecDepth 100000 in
set_option maxHeartbeats 4000000 in
theorem l26w (k : Int) (w : World) (h : Env26 w) : Calls Tryd.prog 5 #[.int .i64 k] w fun e w' => e = .returned (.bool true) ∧ Below w.heap.size w w' := by
  have HH := Lib.hid h
  clear h
  go_enter Tryd.func5, Tryd.ntmps5
  go_wp2_with fail
  refine (alive26_c _ HH.out).mono ?_
  rintro e w1 ⟨rfl, hb1⟩
  have hs1 := Blk.new w1 9 strs26
  have hs2 := (hs1.alloc (.cells bools26 4))
  have hb2 := Blk.new (w1.alloc (.cells strs26 9)) 4 bools26
  have hbel : Below w.heap.size w ((w1.alloc (.cells strs26 9)).alloc (.cells bools26 4)) := (hb1.alloc hb1.size _).alloc (by simp; have := hb1.size; omega) _
  have HS2 := Lib.hid hs2
  have HBB := Lib.hid hb2
  have HBL := Lib.hid hbel
  have hsz : (w1.alloc (.cells strs26 9)).heap.size = w1.heap.size + 1 := by simp
  have HSZ := Lib.hid hsz
  clear hs1 hs2 hb1 hb2 hbel hsz
  go_upto_region 4 with fail
  have hs2 := HS2.out
  have hb2 := HBB.out
  have hbel := HBL.out
  rw [HSZ.out] at hb2
  clear HS2 HBB HBL HSZ
  generalize (w1.alloc (.cells strs26 9)).alloc (.cells bools26 4) = W at hs2 hb2 hbel ⊢
  generalize w1.heap.size = g at hs2 hb2 ⊢
  rw [strs26_eq] at hs2
  rw [bools26_eq] at hb2
  have HB := Lib.hid hbel
  clear hbel
  by_cases h0 : k < 0
  · clear hs2 hb2
    go_wp2_with fail
    go_ret
    exact ⟨rfl, HB.out⟩
  by_cases h24 : (24 : Int) ≤ k
  · have h25 : k ≥ 24 := h24
    clear hs2 hb2
    go_wp2_with fail
    go_ret
    exact ⟨rfl, HB.out⟩
  obtain ⟨K, rfl⟩ : ∃ K : Nat, k = K := ⟨k.toNat, by omega⟩
  have hK : K < 24 := by omega
  have hcs := hs2.cell K
  have hcb := hb2.cell K
  rw [List.getElem?_toArray, strv_at ⟨K, hK⟩, strv_is] at hcs
  rw [List.getElem?_toArray, bool_at ⟨K, hK⟩] at hcb
  have hwr := wrong_all ⟨K, hK⟩
  have hws := wrong_size ⟨K, hK⟩
  unfold wrong1 at hwr
  dsimp only at hwr hcs hcb hws
  generalize wrongL.getD K [] = L at hwr hcs hws
  obtain ⟨b, hb⟩ : ∃ b, wrongOk.getD K false = b := ⟨_, rfl⟩
  rw [hb] at hwr hcb
  have h25 : ¬ (K : Int) ≥ 24 := by omega
  have hsum : (⟨#[116, 105, 99, 107, 10]⟩ : ByteArray).size + (⟨L.toArray⟩ : ByteArray).size ≤ 9223372036854775807 := by
    show 5 + L.toArray.size ≤ _
    rw [List.size_toArray]; omega
  have hadd := fun W => run_string_add_sum (P := Tryd.prog) W _ _ hsum
  have hS : (⟨#[116, 105, 99, 107, 10]⟩ ++ ⟨L.toArray⟩ : ByteArray).data.toList = [116, 105, 99, 107, 10] ++ L := by
    rw [ByteArray.data_append, Array.toList_append]
  have hSs : (⟨#[116, 105, 99, 107, 10]⟩ ++ ⟨L.toArray⟩ : ByteArray).size ≤ 200000 := by
    rw [ByteArray.size_append]
    show 5 + L.toArray.size ≤ _
    rw [List.size_toArray]; omega
  have hrd := read26 (HH.out.below HB.out) _ hSs
  rw [hS] at hrd
  have HRD := Lib.hid hrd
  have HWR := Lib.hid hwr
  clear hs2 hb2 hsum hS hSs hrd hwr hb hws
  go_wp2_with fail
  refine HRD.out.mono ?_
  rintro e w2 ⟨hr, hb2⟩
  have hwr := HWR.out
  generalize readS ([116, 105, 99, 107, 10] ++ L) = R at hr hwr
  have hcb2 : w2.cell? ⟨g + 1, K, none⟩ = some (.bool b) := cell_keep hcb hb2
  have HB2 := Lib.hid (HB.out.trans (hb2.mono HB.out.size))
  clear HWR HRD hcs hcb hb2 hadd
  cases b with
  | true =>
    rw [if_pos rfl, Bool.and_eq_true] at hwr
    cases hR : R.1 with
    | none => rw [hR] at hwr; exact absurd hwr.1 (by decide)
    | some l =>
      obtain ⟨A, c, xs, rfl, ho, hm⟩ := readRet_some hr hR
      have hl : l.length = 2 := by
        have q := hwr.1
        rw [hR] at q
        have q2 : Option.some l.length = Option.some 2 := by simpa using q
        injection q2
      rw [hl]
      clear hr hwr ho hm
      go_wp2_with (go_at_call 10; refine (num26_c 0 _).mono ?_; rintro e w' ⟨rfl, rfl⟩)
      go_ret
      exact ⟨rfl, HB2.out⟩
  | false =>
    rw [if_neg (by decide), Bool.and_eq_true] at hwr
    have hR : R.1 = Option.none := by
      cases hR : R.1 with
      | none => rfl
      | some l => rw [hR] at hwr; exact absurd hwr.1 (by simp)
    have h1 : R.2 = 1 := by simpa using hwr.2
    obtain rfl := readRet_none hr hR
    rw [h1]
    clear hr hwr
    go_wp2_with (go_at_call 10; refine (num26_c 6 _).mono ?_; rintro e w' ⟨rfl, rfl⟩)
    go_ret
    exact ⟨rfl, HB2.out⟩
end Go.Proofs.YthidjmdcpdhdlaaDoor
