/- ScriptReads: which steps any text says, or which line is none. -/
import Derived.Test.YthidjmdcpdhdlaaDoorSr6
namespace Go.Proofs.YthidjmdcpdhdlaaDoor
open Go Go.RowKit
set_option linter.unusedVariables false
set_option linter.unusedSimpArgs false
theorem readG_len : ∀ (l cur : List UInt8) (k : Nat) (acc r : List Sp), (readG l cur k acc).1 = Option.some r → r.length ≤ acc.length + l.length
  | [], cur, k, acc, r, h => by
    unfold readG at h
    split at h
    · cases h; simp
    · cases h
  | b :: l, cur, k, acc, r, h => by
    unfold readG at h
    split at h
    · split at h
      · cases h
      · have := readG_len l [] (k + 1) _ r h
        simp at this ⊢; omega
    · have := readG_len l _ k acc r h
      simp at this ⊢; omega
theorem readsS_nil (w : World) : ReadsS w none 0 [] := ⟨rfl, fun h => absurd h (by omega)⟩
set_option maxRecDepth 100000 in
set_option maxHeartbeats 4000000 in
theorem l26r (s : ByteArray) (w : World) (h : Env26 w) : Calls Tryd.prog 3 #[.string s] w fun e w' => e = .returned (.bool true) ∧ Below w.heap.size w w' := by
  have HH := Lib.hid h
  clear h
  go_enter Tryd.func3, Tryd.ntmps3
  go_wp2_with fail
  refine (alive26_c _ HH.out).mono ?_
  rintro e w1 ⟨rfl, hb1⟩
  have HB1 := Lib.hid hb1
  clear hb1
  by_cases hs : 2000 < s.size
  · have hs2 : (s.size : Int) > 2000 := by omega
    go_wp2_with fail
    go_ret
    exact ⟨rfl, HB1.out⟩
  have hs2 : ¬ (s.size : Int) > 2000 := by omega
  go_wp2_with fail
  refine (read26 (HH.out.below HB1.out) s (by omega)).mono ?_
  rintro e w2 ⟨hr2, hb2⟩
  have HB2 := Lib.hid (HB1.out.trans (hb2.mono HB1.out.size))
  clear hb2
  have hrr := fun W => rread_c s (by omega) W
  have hrl : ∀ r, (readS s.data.toList).1 = Option.some r → r.length ≤ 2000 := fun r hr => by
    have := readG_len _ _ _ _ r hr
    have hll : s.data.toList.length = s.size := Array.length_toList
    simp only [List.length_nil] at this
    omega
  generalize readS s.data.toList = V at hr2 hrr hrl
  have HRR := Lib.hid hrr
  clear hrr
  cases hV : V.1 with
  | none =>
    obtain rfl := readRet_none hr2 hV
    clear hr2
    go_wp2_with fail
    refine (HRR.out _).mono ?_
    rintro e w3 ⟨hr3, hb3⟩
    obtain rfl := readRet_none hr3 hV
    have HB3 := Lib.hid (HB2.out.trans (hb3.mono HB2.out.size))
    clear hr3 hb3 HRR
    go_wp2_with fail
    refine (rsame_c none none 0 0 0 [] _ (readsS_nil _) (readsS_nil _) (by omega)).mono ?_
    rintro e w4 ⟨rfl, hb4⟩
    have HB4 := Lib.hid (HB3.out.trans (hb4.mono HB3.out.size))
    clear hb4
    go_wp2_with (go_at_call 10; refine (num26_c 6 _).mono ?_; rintro e w' ⟨rfl, rfl⟩)
    go_ret
    exact ⟨rfl, HB4.out⟩
  | some l =>
    obtain ⟨A, c, xs, rfl, ho, hm⟩ := readRet_some hr2 hV
    have HA := Lib.hid (readsS_of ho hm)
    clear hr2 ho hm
    go_wp2_with fail
    refine (HRR.out _).mono ?_
    rintro e w3 ⟨hr3, hb3⟩
    obtain ⟨B, d, ys, rfl, ho, hm⟩ := readRet_some hr3 hV
    have HB := Lib.hid (readsS_of ho hm)
    have HA3 := Lib.hid (HA.out.below hb3)
    have HB3 := Lib.hid (HB2.out.trans (hb3.mono HB2.out.size))
    have hl := hrl l hV
    clear hr3 hb3 HRR ho hm HA
    go_wp2_with fail
    refine (rsame_c A B _ c d l _ HA3.out HB.out (by omega)).mono ?_
    rintro e w4 ⟨rfl, hb4⟩
    have HB4 := Lib.hid (HB3.out.trans (hb4.mono HB3.out.size))
    clear hb4
    go_wp2_with (go_at_call 10; refine (num26_c 0 _).mono ?_; rintro e w' ⟨rfl, rfl⟩)
    go_ret
    exact ⟨rfl, HB4.out⟩
end Go.Proofs.YthidjmdcpdhdlaaDoor
