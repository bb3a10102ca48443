/- script.say: words as a line. -/
import Derived.Test.YthidjmdcpdhdlaaDoorScT
import Derived.Lib.LaidTab
import Derived.Lib.Join
import Derived.Laws.OwnMore
namespace Go.Proofs.YthidjmdcpdhdlaaDoor
open Go Go.RowKit
set_option linter.unusedVariables false
set_option linter.unusedSimpArgs false
theorem dec_eq : ∀ n : Nat, Lib.decDigits n = decL n := by
  intro n
  induction n using Nat.strongRecOn with
  | ind n ih =>
    rw [decL, Lib.decDigits]
    by_cases h : n < 10
    · rw [dif_pos h, dif_neg (by omega)]
    · rw [dif_neg h, dif_pos (by omega), ih (n / 10) (by omega)]
theorem decL_small : ∀ (n : Nat), n ≤ 2147483647 → (decL n).length ≤ 10 := by
  have key : ∀ (k n : Nat), n < 10 ^ k → (decL n).length ≤ k + 1 := by
    intro k
    induction k with
    | zero => intro n h; rw [decL, dif_neg (by omega)]; simp
    | succ k ih =>
      intro n h
      rw [decL]
      split
      · have := ih (n / 10) (by rw [Nat.pow_succ] at h; omega)
        rw [List.length_append]
        simp; omega
      · simp
  have key2 : ∀ (k n : Nat), n < 10 ^ (k + 1) → (decL n).length ≤ k + 1 := by
    intro k
    induction k with
    | zero => intro n h; rw [decL, dif_neg (by omega)]; simp
    | succ k ih =>
      intro n h
      rw [decL]
      split
      · have := ih (n / 10) (by rw [Nat.pow_succ] at h; omega)
        rw [List.length_append]
        simp; omega
      · simp
  intro n h
  exact key2 9 n (by omega)
def Tab (w : World) : Prop := Lib.TabIs Tryd.prog w "internal/strconv.uint64pow10" .u64 Lib.pow10Tab
theorem Tab.below {w w' : World} (h : Tab w) (hb : Below w.heap.size w w') : Tab w' := by
  unfold Tab Lib.TabIs World.var? at h ⊢
  cases hg : Tryd.prog.globalNamed "internal/strconv.uint64pow10" with
  | none => rw [hg] at h; cases h
  | some g =>
    rw [hg] at h
    simp only [Option.bind_some] at h ⊢
    have hlt : g < w.heap.size := by
      rcases Nat.lt_or_ge g w.heap.size with h' | h'
      · exact h'
      · rw [Array.getElem?_eq_none h'] at h; cases h
    rw [hb.block g hlt]
    exact h
theorem below_growD (w : World) (k : Nat) (os : Array Obj) : Below w.heap.size w (Go.Sort.grow (w.drewN k) os) := by
  have h := below_drewN (Below.refl w.heap.size w) k
  refine ⟨h.os, h.tape, h.output, ?_, fun b hb => ?_⟩
  · show w.heap.size ≤ (w.heap ++ os).size
    simp
  · show (w.heap ++ os)[b]? = _
    rw [Array.getElem?_append_left hb]
theorem itoa_c (n : Nat) (hn : n ≤ 2147483647) (w : World) (ht : Tab w) : Calls Tryd.prog 38 #[.int .i64 (n : Int)] w fun e w' => e = .returned (.string ⟨(decL n).toArray⟩) ∧ Below w.heap.size w w' := by
  refine (Tryd.strconv_Itoa (n : Int) (by omega) (by omega) w ht).mono ?_
  rintro e w' ⟨rfl, k, os, rfl⟩
  refine ⟨?_, below_growD w k os⟩
  unfold Lib.itoa
  rw [if_neg (by omega), Int.toNat_natCast, dec_eq]
/-- Words as a line; a number that no line holds: nothing. -/
def okN (n : Int) : Bool := decide (0 ≤ n) && decide (n ≤ 2147483647)
def decZ (n : Int) : List UInt8 := decL n.toNat
def sayS (word : List UInt8) (ls : List Int) (more : List (List UInt8)) : List UInt8 := if ls.all okN = true then Lib.join (word :: (ls.map decZ ++ more)) [32] ++ [10] else []
theorem join_len (x : List UInt8) (r : List (List UInt8)) : (Lib.join (x :: r) [32]).length = x.length + (r.map (fun y => y.length + 1)).sum := by
  rw [Lib.join_cons]
  unfold Lib.joinTail
  rw [List.length_append, List.length_flatten, List.map_map]
  congr 2
theorem sum_le {l : List Nat} {m : Nat} (h : ∀ x ∈ l, x ≤ m) : l.sum ≤ l.length * m := by
  induction l with
  | nil => simp
  | cons x l ih =>
    have h1 := h x (List.mem_cons_self ..)
    have h2 := ih (fun y hy => h y (List.mem_cons_of_mem _ hy))
    rw [List.sum_cons, List.length_cons, Nat.add_mul]
    omega
theorem zv_one (l : List Int) : ∀ u ∈ l.map (fun z => Value.int .i64 z), u.oneCell' = true := by
  intro u hu
  obtain ⟨z, _, rfl⟩ := List.mem_map.1 hu
  rfl
def zv (z : Int) : Value := .int .i64 z
set_option maxRecDepth 100000 in
set_option maxHeartbeats 4000000 in
theorem ssay_c (word : List UInt8) (hwd : word.length ≤ 10) (A : Option Addr) (n c : Nat) (ls : List Int) (B : Option Addr) (m d : Nat) (more : List (List UInt8)) (w : World) (hA : Reads w A n (ls.map zv)) (hn : n ≤ 10) (hB : Reads w B m (more.map strv)) (hm : m ≤ 10) (hml : ∀ x ∈ more, x.length ≤ 100000) (ht : Tab w) :
    Calls Tryd.prog 32 #[.string ⟨word.toArray⟩, .slice A n c, .slice B m d] w fun e w' => e = .returned (.string ⟨(sayS word ls more).toArray⟩) ∧ Below w.heap.size w w' := by
  obtain ⟨i0, hi, hz0, hz1, hz2⟩ := info_parts info_str
  have HI := Lib.hid hi
  have HZ0 := Lib.hid hz0
  have HZ1 := Lib.hid hz1
  have HZ2 := Lib.hid hz2
  have hal : ls.length = n := by have := hA.len; rwa [List.length_map] at this
  have hbl : more.length = m := by have := hB.len; rwa [List.length_map] at this
  have HA := Lib.hid hA
  have HBM := Lib.hid hB
  have HAL := Lib.hid hal
  have HBL := Lib.hid hbl
  have HML := Lib.hid hml
  have HT := Lib.hid ht
  have HWD := Lib.hid hwd
  obtain ⟨V, hV⟩ : ∃ V, sayS word ls more = V := ⟨_, rfl⟩
  rw [hV]
  have HV := Lib.hid hV
  have hout0 : (w.alloc (.cells #[.string ⟨word.toArray⟩] 9)).ownsRow w.heap.size 9 1 (.slice (some ⟨w.heap.size, 0, none⟩) 1 1) 1 ([word].map strv) := World.ownsRow_lit w #[.string ⟨word.toArray⟩] 1 (Nat.le_refl _) (by unfold maxLen; omega) rfl
  have HO0 := Lib.hid hout0
  clear hi hz0 hz1 hz2 hA hB hal hbl hml ht hV hout0 hwd
  go_enter Tryd.func32, Tryd.ntmps32
  go_wp2_with fail
  go_loopw [7, 14] (fun o i wr => ∃ (k : Nat) (A' : Option Addr) (c' : Nat), o = .slice A' (k + 1) c' ∧ i = .int .i64 k ∧ k ≤ n ∧ (ls.take k).all okN = true ∧ wr.ownsRow w.heap.size 9 1 (.slice A' (k + 1) c') (k + 1) ((word :: (ls.take k).map decZ).map strv) ∧ Below w.heap.size w wr) (fun _ i wr => (match i with | .int _ x => (n : Int) - x | _ => 0).toNat)
  case atStart =>
    exact ⟨0, _, _, rfl, rfl, Nat.zero_le _, by rw [List.take_zero]; rfl, by rw [List.take_zero]; exact HO0.out, (Below.refl _ w).alloc (Nat.le_refl _) _⟩
  case round =>
    obtain ⟨k, A1, c1, rfl, rfl, hkn, hok, hown, hb⟩ := hrel
    have HOK := Lib.hid hok
    have HO := Lib.hid hown
    have HB := Lib.hid hb
    clear hok hown hb
    by_cases hk : k < n
    · obtain ⟨bk, o, u, hAe, hbl, hu, hcell⟩ := ((HA.out.below HB.out).at_ hk)
      rw [List.getElem?_map] at hu
      obtain ⟨x, hx⟩ : ∃ x, ls[k]? = Option.some x := ⟨ls[k]'(by rw [HAL.out]; exact hk), List.getElem?_eq_getElem _⟩
      rw [hx] at hu
      cases hu
      have hcell2 : wr.cell? ⟨bk, o + k, none⟩ = some (.int .i64 x) := hcell
      have htk : ls.take (k + 1) = ls.take k ++ [x] := by rw [List.take_add_one, hx]; rfl
      have hxm : x ∈ ls := List.mem_of_getElem? hx
      have HTK := Lib.hid htk
      have HXM := Lib.hid hxm
      clear hcell hx htk hxm
      subst hAe
      by_cases hx0 : x < 0
      · have hv : V = [] := by
          rw [← HV.out]
          unfold sayS
          rw [if_neg]
          intro h
          have := List.all_eq_true.1 h x HXM.out
          unfold okN at this
          simp only [Bool.and_eq_true, decide_eq_true_eq] at this
          omega
        subst hv
        go_wp2_with fail
        go_ret
        exact ⟨rfl, HB.out⟩
      by_cases hx1 : 2147483647 < x
      · have hv : V = [] := by
          rw [← HV.out]
          unfold sayS
          rw [if_neg]
          intro h
          have := List.all_eq_true.1 h x HXM.out
          unfold okN at this
          simp only [Bool.and_eq_true, decide_eq_true_eq] at this
          omega
        subst hv
        have hx2 : x > 2147483647 := hx1
        go_wp2_with fail
        go_ret
        exact ⟨rfl, HB.out⟩
      have hokx : okN x = true := by unfold okN; simp only [Bool.and_eq_true, decide_eq_true_eq]; omega
      obtain ⟨X, rfl⟩ : ∃ X : Nat, x = X := ⟨x.toNat, by omega⟩
      have hit := fun W h => itoa_c X (by omega) W h
      have HOKX := Lib.hid hokx
      have hx2 : ¬ (X : Int) > 2147483647 := by omega
      clear hokx
      go_wp2_with fail
      refine (hit _ (HT.out.below HB.out)).mono ?_
      rintro e w1 ⟨rfl, hb1⟩
      have HB1 := Lib.hid (HB.out.trans (hb1.mono HB.out.size))
      have HO1 := Lib.hid (own_only HO.out (Only.of_below (S := []) hb1) (by simp))
      have hrd : Reads (w1.alloc (.cells #[.string ⟨(decL X).toArray⟩] 9)) (some ⟨w1.heap.size, 0, none⟩) 1 (([decL X] : List (List UInt8)).map strv) := (Blk.new w1 9 #[strv (decL X)]).reads 0 (by simp)
      have hsz := HB1.out.size
      have hl3 := HO1.out.lt
      clear hb1 hit
      go_wp2_with (at_builtin; refine wpList_append_any _ rfl (.tmp 24) (.tmp 27) _ rfl w.heap.size 9 i0 (.string ⟨#[]⟩) 16 Tryd.underlying40 HI.out HZ0.out HZ1.out HZ2.out rfl _ (k + 1) _ rfl (own_only HO1.out (Only.of_below (S := []) ((Below.refl _ w1).alloc (Nat.le_refl _) _)) (by simp)) (some ⟨w1.heap.size, 0, none⟩) 1 1 (([decL X] : List (List UInt8)).map strv) rfl hrd (strv_one _) (by unfold maxLen; omega) (by omega) (by simp; omega) ?_; intro A2 c2 w4 hown2 hgrow2 hat; have HOA := Lib.hid hown2; have HGA := Lib.hid hgrow2; clear hown2 hgrow2 hat)
      go_roundw
      case rel =>
        have hbal := (Below.refl w.heap.size w1).alloc (by omega) (.cells #[.string ⟨(decL X).toArray⟩] 9)
        have hba := hbal.grown HGA.out (by simp; omega) (fun g hg => (hl3 g hg).1)
        refine ⟨k + 1, A2, c2, rfl, rfl, hk, ?_, ?_, HB1.out.trans hba⟩
        · rw [HTK.out, List.all_append, HOK.out, List.all_cons, HOKX.out]; rfl
        · rw [HTK.out]
          have := HOA.out
          rw [← List.map_append] at this
          rw [List.map_append, ← List.cons_append]
          exact this
      case measure =>
        dsimp only
        omega
    · have hkn2 : k = n := by omega
      subst hkn2
      have hall : ls.take k = ls := List.take_of_length_le (by rw [HAL.out]; omega)
      rw [hall] at HOK HO
      have hv : V = Lib.join (word :: (ls.map decZ ++ more)) [32] ++ [10] := by rw [← HV.out]; unfold sayS; rw [if_pos HOK.out]
      have HVV := Lib.hid hv
      have hsz := HB.out.size
      have hl3 := HO.out.lt
      have HRB := Lib.hid (HBM.out.below HB.out)
      clear hall hv
      go_wp2_with (at_builtin; refine wpList_append_any _ rfl (.tmp 30) (.tmp 31) _ rfl w.heap.size 9 i0 (.string ⟨#[]⟩) 16 Tryd.underlying40 HI.out HZ0.out HZ1.out HZ2.out rfl _ (k + 1) _ rfl HO.out B m d (more.map strv) rfl HRB.out (strv_one _) (by unfold maxLen; omega) (by omega) (by omega) ?_; intro A2 c2 w4 hown2 hgrow2 hat; have HOA := Lib.hid hown2; have HGA := Lib.hid hgrow2; clear hown2 hgrow2 hat)
      have ho4 := HOA.out
      rw [← List.map_append, List.cons_append] at ho4
      obtain ⟨L, hL⟩ : ∃ L, word :: (ls.map decZ ++ more) = L := ⟨_, rfl⟩
      rw [hL] at ho4
      have hr4 := Reads.of_own ho4
      have hcp4 := (own_capR ho4).1
      have hLl : L.length = k + 1 + m := by have := hr4.len; rwa [List.length_map] at this
      obtain ⟨b4, o4, hA4, hb4, hc4⟩ := hr4.2 (by omega)
      obtain ⟨xs, hxs⟩ : ∃ xs : List ByteArray, L.map (fun l => (⟨l.toArray⟩ : ByteArray)) = xs := ⟨_, rfl⟩
      have hxl : xs.length = k + 1 + m := by rw [← hxs, List.length_map, hLl]
      have hxm : xs.map (·.data.toList) = L := by
        rw [← hxs, List.map_map]
        conv => rhs; rw [← List.map_id L]
        apply List.map_congr_left
        intro y _
        exact List.toList_toArray ..
      have hjl : (Lib.join L [32]).length ≤ 10000000 := by
        rw [← hL, join_len]
        have h1 := sum_le (l := (ls.map decZ ++ more).map (fun y => y.length + 1)) (m := 100001) (fun z hz => by
          obtain ⟨y, hy, rfl⟩ := List.mem_map.1 hz
          rcases List.mem_append.1 hy with hy | hy
          · obtain ⟨q, hq, rfl⟩ := List.mem_map.1 hy
            have := List.all_eq_true.1 HOK.out q hq
            unfold okN at this
            simp only [Bool.and_eq_true, decide_eq_true_eq] at this
            have := decL_small q.toNat (by omega)
            show (decL q.toNat).length + 1 ≤ _
            omega
          · have := HML.out y hy; omega)
        rw [List.length_map, List.length_append, List.length_map, HAL.out, HBL.out] at h1
        have := HWD.out
        have h2 : (k + m) * 100001 ≤ 20 * 100001 := Nat.mul_le_mul_right _ (by omega)
        omega
      have hj := Tryd.strings_Join b4 o4 c2 xs ⟨#[32]⟩ w4 (fun j x hx => by
        rw [← hxs, List.getElem?_map] at hx
        obtain ⟨y, hy, rfl⟩ := Option.map_eq_some_iff.1 hx
        exact hc4 j _ (by rw [List.getElem?_map, hy]; rfl)) hb4 (by omega) (by omega) (by rw [hxm]; exact Nat.le_trans hjl (by omega))
      rw [hxl, hxm, show (⟨#[32]⟩ : ByteArray).data.toList = [32] from rfl] at hj
      have HJ := Lib.hid hj
      have hsum : (⟨(Lib.join L [32]).toArray⟩ : ByteArray).size + (⟨#[10]⟩ : ByteArray).size ≤ 9223372036854775807 := by
        show (Lib.join L [32]).toArray.size + 1 ≤ _
        rw [List.size_toArray]; omega
      have hadd := fun W => run_string_add_sum (P := Tryd.prog) W _ _ hsum
      have hba := (Below.refl w.heap.size wr).grown HGA.out hsz (fun g hg => (hl3 g hg).1)
      have HBA := Lib.hid (HB.out.trans hba)
      rw [hL] at HVV
      subst hA4
      clear hj hsum hxm hjl hc4 hr4 ho4 hba hxs hL HOA
      refine HJ.out.mono ?_
      rintro e w5 ⟨rfl, hb5⟩
      have HB5 := Lib.hid (HBA.out.trans (hb5.mono HBA.out.size))
      clear hb5
      go_wp2_with fail
      go_ret
      refine ⟨?_, HB5.out⟩
      rw [HVV.out]
      congr 2
      try (apply ByteArray.ext; simp [ByteArray.data_append])
end Go.Proofs.YthidjmdcpdhdlaaDoor
