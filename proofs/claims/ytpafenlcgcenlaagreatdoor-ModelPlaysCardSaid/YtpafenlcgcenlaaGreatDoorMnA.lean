/- names.may, names.Valid; strings.TrimRight at one byte; manifest.number. · strings.TrimRight at the byte 0. -/
import Derived.Test.YtpafenlcgcenlaaGreatDoorBase
import Derived.Lib.OthersKept
import Derived.Lib.TrimByte
import Derived.WalkKit
namespace Go.Proofs.YtpafenlcgcenlaaGreatDoor
open Go Go.RowKit
set_option linter.unusedVariables false
set_option linter.unusedSimpArgs false
/-- May a rune be in a name? -/
def mayR (r : Int) : Bool := (decide (97 ≤ r) && decide (r ≤ 122)) || ((decide (48 ≤ r) && decide (r ≤ 57)) || (decide (945 ≤ r) && decide (r ≤ 969)))
theorem bool_retN {a b : Bool} (h : a = b) : Ending.returned (Value.bool a) = .returned (.bool b) := by rw [h]
theorem nmay_c (r : Int) (w : World) : Calls Tryz.prog 95 #[.int .i32 r] w fun e w' => e = .returned (.bool (mayR r)) ∧ w = w' := by
  unfold mayR
  by_cases h1 : 97 ≤ r
  · by_cases h2 : r ≤ 122
    · go_enter Tryz.func95, Tryz.ntmps95
      go_wp2_with fail
      all_goals (go_ret; exact ⟨bool_retN (by first | rfl | (simp [*]; done) | (simp; omega) | (rw [Bool.eq_iff_iff]; simp; omega)), rfl⟩)
    · by_cases h3 : 945 ≤ r
      · by_cases h4 : r ≤ 969
        · go_enter Tryz.func95, Tryz.ntmps95
          go_wp2_with fail
          all_goals (go_ret; exact ⟨bool_retN (by first | rfl | (simp [*]; done) | (simp; omega) | (rw [Bool.eq_iff_iff]; simp; omega)), rfl⟩)
        · go_enter Tryz.func95, Tryz.ntmps95
          go_wp2_with fail
          all_goals (go_ret; exact ⟨bool_retN (by first | rfl | (simp [*]; done) | (simp; omega) | (rw [Bool.eq_iff_iff]; simp; omega)), rfl⟩)
      · go_enter Tryz.func95, Tryz.ntmps95
        go_wp2_with fail
        all_goals (go_ret; exact ⟨bool_retN (by first | rfl | (simp [*]; done) | (simp; omega) | (rw [Bool.eq_iff_iff]; simp; omega)), rfl⟩)
  · by_cases h2 : 48 ≤ r
    · by_cases h3 : r ≤ 57
      · go_enter Tryz.func95, Tryz.ntmps95
        go_wp2_with fail
        all_goals (go_ret; exact ⟨bool_retN (by first | rfl | (simp [*]; done) | (simp; omega) | (rw [Bool.eq_iff_iff]; simp; omega)), rfl⟩)
      · go_enter Tryz.func95, Tryz.ntmps95
        go_wp2_with fail
        all_goals (go_ret; exact ⟨bool_retN (by first | rfl | (simp [*]; done) | (simp; omega) | (rw [Bool.eq_iff_iff]; simp; omega)), rfl⟩)
    · go_enter Tryz.func95, Tryz.ntmps95
      go_wp2_with fail
      all_goals (go_ret; exact ⟨bool_retN (by first | rfl | (simp [*]; done) | (simp; omega) | (rw [Bool.eq_iff_iff]; simp; omega)), rfl⟩)
/-- Is what is left of a text, from pos on, fit behind n runes? -/
def validGo (s : ByteArray) : Nat → Nat → Nat → Bool
  | 0, _, n => decide (1 ≤ n) && decide (n ≤ 8)
  | f + 1, pos, n => if pos < s.size then (if mayR (Utf8.decode s pos).1 = true then validGo s f (pos + (Utf8.decode s pos).2) (n + 1) else false) else decide (1 ≤ n) && decide (n ≤ 8)
def validN (s : ByteArray) : Bool := validGo s s.size 0 0
theorem validGo_end (s : ByteArray) (f pos n : Nat) (h : ¬ pos < s.size) : validGo s f pos n = (decide (1 ≤ n) && decide (n ≤ 8)) := by
  cases f with
  | zero => rfl
  | succ f => simp [validGo, h]
theorem width_posN (s : ByteArray) (pos : Nat) (h : pos < s.size) : 1 ≤ (Utf8.decode s pos).2 := by
  by_cases ha : (s[pos]'h).toNat < 128
  · rw [decode_ascii s pos h ha]
    exact Nat.le_refl _
  · exact (decode_high s pos h (by omega)).2
set_option maxHeartbeats 1000000 in
theorem nvalid_c (s : ByteArray) (hs : s.size ≤ 1000000) (w : World) : Calls Tryz.prog 55 #[.string s] w fun e w' => e = .returned (.bool (validN s)) ∧ Below w.heap.size w w' := by
  obtain ⟨V, hV⟩ : ∃ V, validN s = V := ⟨_, rfl⟩
  rw [hV]
  have HV := Lib.hid hV
  clear hV
  go_enter Tryz.func55, Tryz.ntmps55
  go_wp2_with fail
  go_loopw [3] (fun i wr => ∃ (pos f n : Nat), i = .int .i64 n ∧ n ≤ pos ∧ s.size ≤ pos + f ∧ validGo s f pos n = V ∧ wr.heap[w.heap.size]? = some (.stringIter s pos) ∧ Below w.heap.size w wr) (fun _ wr => s.size - wr.iterPos w.heap.size)
  case atStart =>
    refine ⟨0, s.size, 0, rfl, Nat.le_refl _, by omega, HV.out, ?_, ?_⟩
    · exact World.iter_heap w s 0
    · exact (Below.refl _ w).alloc (Nat.le_refl _) _
  case round =>
    obtain ⟨pos, f, n, rfl, hn, hf, hg, hit, hb⟩ := hrel
    have HG := Lib.hid hg
    have HB := Lib.hid hb
    have HIT := Lib.hid hit
    clear hg hb
    by_cases hp : pos < s.size
    · have hnx : ∀ ty, (Instr.next (.pointer (some ⟨w.heap.size, 0, none⟩)) true ty).run Tryz.prog wr = _ := fun ty => Lib.run_next_any_at wr w.heap.size s pos ty hit hp
      have hwd := width_posN s pos hp
      have hd1 := decode_le s pos
      have hwr : IntKind.i64.wrap ((n : Int) + 1) = (n : Int) + 1 := IntWalk.i64_in _ (by omega)
      obtain ⟨g, rfl⟩ : ∃ g, f = g + 1 := ⟨f - 1, by omega⟩
      have hit2 := Lib.iterAt_heap wr w.heap.size s pos (pos + (Utf8.decode s pos).2) hit
      have hb2 := Lib.below_iterAt HB.out (Nat.le_refl _) s (pos + (Utf8.decode s pos).2)
      have HIT2 := Lib.hid hit2
      have HB2 := Lib.hid hb2
      have hgs : validGo s (g + 1) pos n = (if mayR (Utf8.decode s pos).1 = true then validGo s g (pos + (Utf8.decode s pos).2) (n + 1) else false) := by
        show (if pos < s.size then _ else _) = _
        rw [if_pos hp]
      have HGS := Lib.hid hgs
      have HWD := Lib.hid hwd
      have HD1 := Lib.hid hd1
      obtain ⟨M, hM⟩ : ∃ M, mayR (Utf8.decode s pos).1 = M := ⟨_, rfl⟩
      have hmy : ∀ W, Calls Tryz.prog 95 #[.int .i32 (Utf8.decode s pos).1] W fun e w' => e = .returned (.bool M) ∧ W = w' := fun W => hM ▸ nmay_c _ W
      have HM := Lib.hid hM
      clear hit hit2 hb2 hgs hwd hd1 hM
      cases M
      · go_wp2_with fail
        refine (hmy _).mono ?_
        rintro e w2 ⟨rfl, rfl⟩
        go_wp2_with fail
        go_ret
        exact ⟨bool_retN (by rw [← HG.out, HGS.out, if_neg (by rw [HM.out]; decide)]), HB2.out⟩
      · go_wp2_with fail
        refine (hmy _).mono ?_
        rintro e w2 ⟨rfl, rfl⟩
        go_wp2_with fail
        go_roundw
        case rel =>
          have := HWD.out
          have := HD1.out
          exact ⟨pos + (Utf8.decode s pos).2, g, n + 1, by go_num, by omega, by omega, by rw [← HG.out, HGS.out, if_pos HM.out], HIT2.out, HB2.out⟩
        case measure =>
          have := HWD.out
          simp only [World.iterPos, HIT2.out, HIT.out]
          omega
    · have hnx : ∀ ty, (Instr.next (.pointer (some ⟨w.heap.size, 0, none⟩)) true ty).run Tryz.prog wr = _ := fun ty => Lib.run_next_end_at wr w.heap.size s pos ty hit hp
      have hend : V = (decide (1 ≤ n) && decide (n ≤ 8)) := by rw [← HG.out, validGo_end s f pos n hp]
      have HEND := Lib.hid hend
      clear hit hend
      by_cases h1 : (1 : Int) ≤ (n : Int)
      · go_wp2_with fail
        go_ret
        exact ⟨bool_retN (by rw [HEND.out]; first | (simp; omega) | (simp; done) | (rw [Bool.eq_iff_iff]; simp; omega)), HB.out⟩
      · go_wp2_with fail
        go_ret
        exact ⟨bool_retN (by rw [HEND.out]; first | (simp; omega) | (simp; done) | (rw [Bool.eq_iff_iff]; simp; omega)), HB.out⟩
theorem mnumber_c (n : Int) (w : World) : Calls Tryz.prog 123 #[.int .i64 n] w fun e w' => e = .returned (.bool (decide (1 ≤ n) && decide (n ≤ 1073741824))) ∧ w = w' := by
  by_cases h1 : 1 ≤ n
  · go_enter Tryz.func123, Tryz.ntmps123
    go_wp2_with fail
    go_ret
    exact ⟨bool_retN (by first | rfl | (simp [h1]; done) | (simp; omega)), rfl⟩
  · go_enter Tryz.func123, Tryz.ntmps123
    go_wp2_with fail
    go_ret
    exact ⟨bool_retN (by first | rfl | (simp [h1]; done) | (simp; omega)), rfl⟩
end Go.Proofs.YtpafenlcgcenlaaGreatDoor
namespace Go.Proofs.YtpafenlcgcenlaaGreatDoor
open Go Go.RowKit
set_option linter.unusedVariables false
set_option linter.unusedSimpArgs false
set_option maxHeartbeats 2000000 in
theorem trimByte_c (s : ByteArray) (w : World) (hs : s.size ≤ 1000000) :
    Calls Tryz.prog 156 #[.string s, .int .u8 0] w fun e w' => e = .returned (.string ⟨(Lib.trimRightB s.data.toList 0).toArray⟩) ∧ w = w' := by
  go_enter Tryz.func156, Tryz.ntmps156
  go_wp2_with fail
  go_loopw [0] (fun v wr => ∃ k : Nat, k ≤ s.size ∧ v = .string ⟨(s.data.toList.take k).toArray⟩ ∧ Lib.Kept (∀ (j : Nat) b, k ≤ j → s.data.toList[j]? = some b → b = 0) ∧ w = wr) (fun v _ => Lib.strSize v)
  case atStart =>
    refine ⟨s.size, Nat.le_refl _, ?_, fun j b hj hb => ?_, rfl⟩
    · rw [Lib.size_eq, List.take_length, Lib.mk_data]
    · have : s.data.toList.length ≤ j := by rw [← Lib.size_eq]; exact hj
      simp [List.getElem?_eq_none this] at hb
  case round =>
    obtain ⟨k, hk, rfl, hK, rfl⟩ := hrel
    have hkl : k ≤ s.data.toList.length := by rw [← Lib.size_eq]; exact hk
    have hts : (⟨(s.data.toList.take k).toArray⟩ : ByteArray).size = k := by rw [Lib.size_mk, List.length_take]; omega
    have hb0 : ∀ h, s.data.toList[k - 1]? = some ((⟨(s.data.toList.take k).toArray⟩ : ByteArray)[k - 1]'h) := by
      intro h
      rw [← Lib.getElem_mk (s.data.toList.take k) (k - 1) h, List.getElem?_take]
      rw [hts] at h
      rw [if_pos h]
    have hx1 : (⟨(s.data.toList.take k).toArray⟩ : ByteArray).extract 0 (k - 1) = ⟨(s.data.toList.take (k - 1)).toArray⟩ := by
      rw [Lib.extract_mk, List.drop_zero, List.take_take]
      congr 3
      omega
    have hkl' : Lib.Kept (k ≤ s.data.toList.length) := hkl
    clear hkl
    generalize ht : (⟨(s.data.toList.take k).toArray⟩ : ByteArray) = t at hts hb0 hx1 ⊢
    have hK3 : Lib.Kept ((⟨(s.data.toList.take k).toArray⟩ : ByteArray) = t) := ht
    clear ht
    by_cases h0 : 0 < k
    · have h1 : k - 1 < t.size := by omega
      have hwr : ((k : Int) - 1 + 9223372036854775808) % 18446744073709551616 - 9223372036854775808 = ((k - 1 : Nat) : Int) := by omega
      have hwr2 : IntKind.i64.wrap ((k : Int) - 1) = ((k - 1 : Nat) : Int) := by rw [IntWalk.i64_in _ (by omega)]; omega
      have hbk := hb0 h1
      clear hb0
      by_cases heq : t[k - 1]'h1 = 0
      · have heq' : ((t[k - 1]'h1).toNat : Int) = 0 := by rw [heq]; rfl
        have hK2 : Lib.Kept (s.data.toList[k - 1]? = some (t[k - 1]'h1)) := hbk
        clear hbk
        go_wp2_with fail
        go_roundw
        case rel =>
          refine ⟨k - 1, by omega, rfl, fun j b hj hb => ?_, trivial⟩
          by_cases e : j = k - 1
          · subst e
            have h2 : s.data.toList[k - 1]? = some (t[k - 1]'h1) := hK2
            have h3 : s.data.toList[k - 1]? = some b := by simpa using hb
            rw [h2] at h3
            rw [← Option.some.inj h3, heq]
          · exact hK j b (by omega) (by simpa using hb)
        case measure =>
          have hkl : k ≤ s.data.toList.length := hkl'
          rw [Lib.strSize_string, Lib.strSize_string, Lib.size_mk, List.length_take]
          omega
      · have hne' : ¬ ((t[k - 1]'h1).toNat : Int) = 0 := by
          intro e
          exact heq (UInt8.toNat_inj.1 (by simpa using e))
        have hbeq : (((t[k - 1]'h1).toNat : Int) == 0) = false := by simpa using hne'
        have hK2 : Lib.Kept (s.data.toList[k - 1]? = some (t[k - 1]'h1)) := hbk
        clear hbk
        go_wp2_with fail
        go_ret
        refine ⟨?_, rfl⟩
        have ht' : (⟨(s.data.toList.take k).toArray⟩ : ByteArray) = t := hK3
        show Ending.returned (Value.string t) = _
        rw [Lib.trimRightB_take s.data.toList 0 k hkl' hK (fun b _ hb => by
          have h2 : s.data.toList[k - 1]? = some (t[k - 1]'h1) := hK2
          rw [h2] at hb
          rw [← Option.some.inj hb]
          exact heq), ht']
    · clear hb0
      go_wp2_with fail
      go_ret
      refine ⟨?_, rfl⟩
      have ht' : (⟨(s.data.toList.take k).toArray⟩ : ByteArray) = t := hK3
      show Ending.returned (Value.string t) = _
      rw [Lib.trimRightB_take s.data.toList 0 k hkl' hK (fun b hk0 _ => absurd hk0 h0), ht']
set_option maxRecDepth 100000 in
set_option maxHeartbeats 2000000 in
theorem trimRight_c (s : ByteArray) (w : World) (hs : s.size ≤ 1000000) :
    Calls Tryz.prog 121 #[.string s, .string ⟨#[0]⟩] w fun e w' => e = .returned (.string ⟨(Lib.trimRightB s.data.toList 0).toArray⟩) ∧ w = w' := by
  go_enter Tryz.func121, Tryz.ntmps121
  go_wp2_with (go_at_call 156; refine (trimByte_c s _ hs).mono ?_; rintro e w' ⟨rfl, rfl⟩)
  · have hl : s.data.toList = [] := by rw [← Lib.toList_data]; assumption
    go_ret
    refine ⟨?_, rfl⟩
    show Ending.returned (Value.string s) = _
    have hs0 : s = ⟨#[]⟩ := by rw [← Lib.mk_data s, hl]
    rw [hl]
    simp [Lib.trimRightB, hs0]
  all_goals first
    | (go_ret; exact ⟨rfl, by first | rfl | trivial⟩)
    | (exfalso; have h1 : ¬ s.toList = [] := by assumption
       have h2 : s.toList.isEmpty = true := by assumption
       exact h1 (by simpa using h2))
end Go.Proofs.YtpafenlcgcenlaaGreatDoor
