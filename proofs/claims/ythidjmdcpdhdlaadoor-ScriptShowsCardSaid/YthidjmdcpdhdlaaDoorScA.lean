/- Package script: what number a word is. -/
import Derived.Test.YthidjmdcpdhdlaaDoorStr
import Derived.Lib.OthersKept
import Derived.WalkKit
import Derived.Lib.SlicesS
import Derived.Laws.RangeAny
namespace Go.Proofs.YthidjmdcpdhdlaaDoor
open Go Go.RowKit
set_option linter.unusedVariables false
set_option linter.unusedSimpArgs false
theorem width_posS (s : ByteArray) (pos : Nat) (h : pos < s.size) : 1 ≤ (Utf8.decode s pos).2 := by
  by_cases ha : (s[pos]'h).toNat < 128
  · rw [decode_ascii s pos h ha]
    exact Nat.le_refl _
  · exact (decode_high s pos h (by omega)).2
theorem drop_cons (s : ByteArray) (pos : Nat) (h : pos < s.size) : s.data.toList.drop pos = (s[pos]'h) :: s.data.toList.drop (pos + 1) := by
  have hl : pos < s.data.toList.length := by rw [Array.length_toList]; exact h
  rw [List.drop_eq_getElem_cons hl]
  rfl
theorem drop_end (s : ByteArray) (pos : Nat) (h : ¬ pos < s.size) : s.data.toList.drop pos = [] := List.drop_eq_nil_of_le (by rw [Array.length_toList]; exact Nat.le_of_not_lt h)
/-- The number that digits say, behind a number. -/
def numL : List UInt8 → Nat → Option Nat
  | [], n => some n
  | b :: l, n => if b.toNat < 48 ∨ 57 < b.toNat then Option.none else if 2147483647 < n * 10 + (b.toNat - 48) then Option.none else numL l (n * 10 + (b.toNat - 48))
/-- The number that a word is. -/
def numS (l : List UInt8) : Option Nat := if l = [] then Option.none else if 1 < l.length ∧ l.getD 0 0 = 48 then Option.none else numL l 0
def numV : Option Nat → Value
  | Option.none => .tuple #[.int .i64 0, .bool false]
  | Option.some n => .tuple #[.int .i64 (n : Int), .bool true]
set_option maxHeartbeats 1000000 in
theorem snumber_c (s : ByteArray) (hs : s.size ≤ maxLen) (w : World) : Calls Tryd.prog 27 #[.string s] w fun e w' => e = .returned (numV (numS s.data.toList)) ∧ Below w.heap.size w w' := by
  obtain ⟨V, hV⟩ : ∃ V, numS s.data.toList = V := ⟨_, rfl⟩
  rw [hV]
  by_cases h0 : s.size = 0
  · have he : s = ⟨#[]⟩ := by
      obtain ⟨d⟩ := s
      have : d = #[] := Array.eq_empty_of_size_eq_zero h0
      rw [this]
    subst he
    have hn : V = Option.none := by rw [← hV]; rfl
    subst hn
    clear hV
    go_enter Tryd.func27, Tryd.ntmps27
    go_wp2_with fail
    go_ret2
    exact ⟨rfl, Below.refl _ _⟩
  have hlt0 : 0 < s.size := by omega
  have hd0 := drop_cons s 0 hlt0
  rw [List.drop_zero] at hd0
  have hll : s.data.toList.length = s.size := Array.length_toList
  have hidx : s.data.toList.getD 0 0 = s[0]'hlt0 := by rw [hd0]; rfl
  have hnl : s.data.toList ≠ [] := by rw [hd0]; exact List.cons_ne_nil _ _
  have hne : ¬ s.toList = [] := by rw [ByteArray.toList_eq]; exact hnl
  have hgo : ¬ (1 < s.size ∧ s[0]'hlt0 = 48) → numL s.data.toList 0 = V := fun hh => by
    rw [← hV]
    unfold numS
    rw [if_neg hnl, hll, hidx, if_neg hh]
  have hbad : (1 < s.size ∧ s[0]'hlt0 = 48) → V = Option.none := fun hh => by
    rw [← hV]
    unfold numS
    rw [if_neg hnl, hll, hidx, if_pos hh]
  have HGO := Lib.hid hgo
  have HBAD := Lib.hid hbad
  have HNL := Lib.hid hnl
  clear hgo hbad hd0 hidx hnl hV
  go_enter Tryd.func27, Tryd.ntmps27
  have hbyte : s.get! 0 = s[0]'hlt0 := by
    simp [ByteArray.get!, getElem!_pos, hlt0]
    rfl
  by_cases h1 : (1 : Int) < (s.size : Int)
  · by_cases h2 : s[0]'hlt0 = 48
    · have hv := HBAD.out ⟨by omega, h2⟩
      subst hv
      have h2n : (s[0]'hlt0).toNat = 48 := by rw [h2]; rfl
      clear hbyte
      go_wp2_with fail
      all_goals (go_ret2; exact ⟨rfl, Below.refl _ _⟩)
    · have HV0 := Lib.hid (HGO.out (fun q => h2 q.2))
      have h2n : ¬ (s[0]'hlt0).toNat = 48 := fun q => h2 (by apply UInt8.toNat_inj.1; rw [q]; rfl)
      have h2b : (((s[0]'hlt0).toNat : Int) == 48) = false := by rw [beq_eq_false_iff_ne]; omega
      have hne2 : s.toList.isEmpty = false := by rw [ByteArray.toList_eq, List.isEmpty_eq_false_iff]; exact HNL.out
      clear hbyte
      go_wp2_with fail
      go_loopw [4] (fun i wr => ∃ (pos n : Nat), i = .int .i64 n ∧ n ≤ 2147483647 ∧ numL (s.data.toList.drop pos) n = V ∧ wr.heap[w.heap.size]? = some (.stringIter s pos) ∧ Below w.heap.size w wr) (fun _ wr => s.size - wr.iterPos w.heap.size)
      case atStart =>
        refine ⟨0, 0, rfl, by omega, HV0.out, ?_, ?_⟩
        · exact World.iter_heap w s 0
        · exact (Below.refl _ w).alloc (Nat.le_refl _) _
      case round =>
        obtain ⟨pos, n, rfl, hn, hg, hit, hb⟩ := hrel
        have HG := Lib.hid hg
        have HB := Lib.hid hb
        have HIT := Lib.hid hit
        clear hg hb
        by_cases hp : pos < s.size
        · have hnx : ∀ ty, (Instr.next (.pointer (some ⟨w.heap.size, 0, none⟩)) true ty).run Tryd.prog wr = _ := fun ty => Lib.run_next_any_at wr w.heap.size s pos ty hit hp
          have hit2 := Lib.iterAt_heap wr w.heap.size s pos (pos + (Utf8.decode s pos).2) hit
          have hb2 := Lib.below_iterAt HB.out (Nat.le_refl _) s (pos + (Utf8.decode s pos).2)
          have HWD := Lib.hid (width_posS s pos hp)
          have HIT2 := Lib.hid hit2
          have HB2 := Lib.hid hb2
          have hdc := drop_cons s pos hp
          have hgs : numL (s.data.toList.drop pos) n = if (s[pos]'hp).toNat < 48 ∨ 57 < (s[pos]'hp).toNat then Option.none else if 2147483647 < n * 10 + ((s[pos]'hp).toNat - 48) then Option.none else numL (s.data.toList.drop (pos + 1)) (n * 10 + ((s[pos]'hp).toNat - 48)) := by
            rw [hdc]; rfl
          rw [HG.out] at hgs
          obtain ⟨b, hbv⟩ : ∃ b, (s[pos]'hp).toNat = b := ⟨_, rfl⟩
          have hlow := fun (hlt : (s[pos]'hp).toNat < 128) => decode_ascii s pos hp hlt
          have hhigh := fun (hge : 128 ≤ (s[pos]'hp).toNat) => (decode_high s pos hp hge).1
          rw [hbv] at hgs hlow hhigh
          have HGS := Lib.hid hgs
          obtain ⟨r, hr⟩ : ∃ r, (Utf8.decode s pos).1 = r := ⟨_, rfl⟩
          have hr1 : b < 128 → r = b ∧ (Utf8.decode s pos).2 = 1 := fun hlt => by rw [← hr, hlow hlt]; exact ⟨rfl, rfl⟩
          have hr2 : 128 ≤ b → 128 ≤ r := fun hge => by rw [← hr]; exact hhigh hge
          simp only [hr] at hnx
          have HR1 := Lib.hid hr1
          have HR2 := Lib.hid hr2
          clear hr1 hr2 hit hit2 hb2 hgs hdc hbv hlow hhigh
          by_cases c1 : (r : Int) < 48
          · have hv : V = Option.none := by rw [HGS.out, if_pos]; have := HR1.out; omega
            subst hv
            go_wp2_with fail
            go_ret2
            exact ⟨rfl, HB2.out⟩
          by_cases c2 : (57 : Int) < (r : Int)
          · have hv : V = Option.none := by rw [HGS.out, if_pos]; have := HR1.out; omega
            subst hv
            go_wp2_with fail
            go_ret2
            exact ⟨rfl, HB2.out⟩
          have hb128 : b < 128 := by
            by_cases q : b < 128
            · exact q
            · have := HR2.out (by omega); omega
          obtain ⟨hrb, hwd⟩ := HR1.out hb128
          have HWD1 := Lib.hid hwd
          clear hwd
          have e1 : IntKind.i32.wrap ((r : Int) - 48) = (r : Int) - 48 := IntWalk.i32_in _ (by omega)
          have e2 : IntKind.i64.wrap ((n : Int) * 10) = (n : Int) * 10 := IntWalk.i64_in _ (by omega)
          have e3 : IntKind.i64.wrap ((r : Int) - 48) = (r : Int) - 48 := IntWalk.i64_in _ (by omega)
          have e4 : IntKind.i64.wrap ((n : Int) * 10 + ((r : Int) - 48)) = (n : Int) * 10 + ((r : Int) - 48) := IntWalk.i64_in _ (by omega)
          by_cases c3 : (2147483647 : Int) < (n : Int) * 10 + ((r : Int) - 48)
          · have hv : V = Option.none := by rw [HGS.out, if_neg (by omega), if_pos (by omega)]
            subst hv
            go_wp2_with fail
            go_ret2
            exact ⟨rfl, HB2.out⟩
          · have hv : V = numL (s.data.toList.drop (pos + 1)) (n * 10 + (b - 48)) := by rw [HGS.out, if_neg (by omega), if_neg (by omega)]
            have HVV := Lib.hid hv
            have HRB := Lib.hid hrb
            clear hv hrb
            go_wp2_with fail
            go_roundw
            case rel =>
              have h48 : 48 ≤ b := by have := HRB.out; omega
              refine ⟨pos + (Utf8.decode s pos).2, n * 10 + (b - 48), ?_, ?_, ?_, HIT2.out, HB2.out⟩
              · have := HRB.out
                congr 1
                omega
              · have := HRB.out; omega
              · rw [HWD1.out]; exact HVV.out.symm
            case measure =>
              have := HWD.out
              simp only [World.iterPos, HIT2.out, HIT.out]
              omega
        · have hnx : ∀ ty, (Instr.next (.pointer (some ⟨w.heap.size, 0, none⟩)) true ty).run Tryd.prog wr = _ := fun ty => Lib.run_next_end_at wr w.heap.size s pos ty hit hp
          have hv : V = Option.some n := by rw [← HG.out, drop_end s pos hp]; rfl
          subst hv
          clear hit
          go_wp2_with fail
          go_ret2
          exact ⟨rfl, HB.out⟩
  · have HV0 := Lib.hid (HGO.out (fun q => h1 (by omega)))
    have hne2 : s.toList.isEmpty = false := by rw [ByteArray.toList_eq, List.isEmpty_eq_false_iff]; exact HNL.out
    clear hbyte
    go_wp2_with fail
    go_loopw [4] (fun i wr => ∃ (pos n : Nat), i = .int .i64 n ∧ n ≤ 2147483647 ∧ numL (s.data.toList.drop pos) n = V ∧ wr.heap[w.heap.size]? = some (.stringIter s pos) ∧ Below w.heap.size w wr) (fun _ wr => s.size - wr.iterPos w.heap.size)
    case atStart =>
      refine ⟨0, 0, rfl, by omega, HV0.out, ?_, ?_⟩
      · exact World.iter_heap w s 0
      · exact (Below.refl _ w).alloc (Nat.le_refl _) _
    case round =>
      obtain ⟨pos, n, rfl, hn, hg, hit, hb⟩ := hrel
      have HG := Lib.hid hg
      have HB := Lib.hid hb
      have HIT := Lib.hid hit
      clear hg hb
      by_cases hp : pos < s.size
      · have hnx : ∀ ty, (Instr.next (.pointer (some ⟨w.heap.size, 0, none⟩)) true ty).run Tryd.prog wr = _ := fun ty => Lib.run_next_any_at wr w.heap.size s pos ty hit hp
        have hit2 := Lib.iterAt_heap wr w.heap.size s pos (pos + (Utf8.decode s pos).2) hit
        have hb2 := Lib.below_iterAt HB.out (Nat.le_refl _) s (pos + (Utf8.decode s pos).2)
        have HWD := Lib.hid (width_posS s pos hp)
        have HIT2 := Lib.hid hit2
        have HB2 := Lib.hid hb2
        have hdc := drop_cons s pos hp
        have hgs : numL (s.data.toList.drop pos) n = if (s[pos]'hp).toNat < 48 ∨ 57 < (s[pos]'hp).toNat then Option.none else if 2147483647 < n * 10 + ((s[pos]'hp).toNat - 48) then Option.none else numL (s.data.toList.drop (pos + 1)) (n * 10 + ((s[pos]'hp).toNat - 48)) := by
          rw [hdc]; rfl
        rw [HG.out] at hgs
        obtain ⟨b, hbv⟩ : ∃ b, (s[pos]'hp).toNat = b := ⟨_, rfl⟩
        have hlow := fun (hlt : (s[pos]'hp).toNat < 128) => decode_ascii s pos hp hlt
        have hhigh := fun (hge : 128 ≤ (s[pos]'hp).toNat) => (decode_high s pos hp hge).1
        rw [hbv] at hgs hlow hhigh
        have HGS := Lib.hid hgs
        obtain ⟨r, hr⟩ : ∃ r, (Utf8.decode s pos).1 = r := ⟨_, rfl⟩
        have hr1 : b < 128 → r = b ∧ (Utf8.decode s pos).2 = 1 := fun hlt => by rw [← hr, hlow hlt]; exact ⟨rfl, rfl⟩
        have hr2 : 128 ≤ b → 128 ≤ r := fun hge => by rw [← hr]; exact hhigh hge
        simp only [hr] at hnx
        have HR1 := Lib.hid hr1
        have HR2 := Lib.hid hr2
        clear hr1 hr2 hit hit2 hb2 hgs hdc hbv hlow hhigh
        by_cases c1 : (r : Int) < 48
        · have hv : V = Option.none := by rw [HGS.out, if_pos]; have := HR1.out; omega
          subst hv
          go_wp2_with fail
          go_ret2
          exact ⟨rfl, HB2.out⟩
        by_cases c2 : (57 : Int) < (r : Int)
        · have hv : V = Option.none := by rw [HGS.out, if_pos]; have := HR1.out; omega
          subst hv
          go_wp2_with fail
          go_ret2
          exact ⟨rfl, HB2.out⟩
        have hb128 : b < 128 := by
          by_cases q : b < 128
          · exact q
          · have := HR2.out (by omega); omega
        obtain ⟨hrb, hwd⟩ := HR1.out hb128
        have HWD1 := Lib.hid hwd
        clear hwd
        have e1 : IntKind.i32.wrap ((r : Int) - 48) = (r : Int) - 48 := IntWalk.i32_in _ (by omega)
        have e2 : IntKind.i64.wrap ((n : Int) * 10) = (n : Int) * 10 := IntWalk.i64_in _ (by omega)
        have e3 : IntKind.i64.wrap ((r : Int) - 48) = (r : Int) - 48 := IntWalk.i64_in _ (by omega)
        have e4 : IntKind.i64.wrap ((n : Int) * 10 + ((r : Int) - 48)) = (n : Int) * 10 + ((r : Int) - 48) := IntWalk.i64_in _ (by omega)
        by_cases c3 : (2147483647 : Int) < (n : Int) * 10 + ((r : Int) - 48)
        · have hv : V = Option.none := by rw [HGS.out, if_neg (by omega), if_pos (by omega)]
          subst hv
          go_wp2_with fail
          go_ret2
          exact ⟨rfl, HB2.out⟩
        · have hv : V = numL (s.data.toList.drop (pos + 1)) (n * 10 + (b - 48)) := by rw [HGS.out, if_neg (by omega), if_neg (by omega)]
          have HVV := Lib.hid hv
          have HRB := Lib.hid hrb
          clear hv hrb
          go_wp2_with fail
          go_roundw
          case rel =>
            have h48 : 48 ≤ b := by have := HRB.out; omega
            refine ⟨pos + (Utf8.decode s pos).2, n * 10 + (b - 48), ?_, ?_, ?_, HIT2.out, HB2.out⟩
            · have := HRB.out
              congr 1
              omega
            · have := HRB.out; omega
            · rw [HWD1.out]; exact HVV.out.symm
          case measure =>
            have := HWD.out
            simp only [World.iterPos, HIT2.out, HIT.out]
            omega
      · have hnx : ∀ ty, (Instr.next (.pointer (some ⟨w.heap.size, 0, none⟩)) true ty).run Tryd.prog wr = _ := fun ty => Lib.run_next_end_at wr w.heap.size s pos ty hit hp
        have hv : V = Option.some n := by rw [← HG.out, drop_end s pos hp]; rfl
        subst hv
        clear hit
        go_wp2_with fail
        go_ret2
        exact ⟨rfl, HB.out⟩
end Go.Proofs.YthidjmdcpdhdlaaDoor
