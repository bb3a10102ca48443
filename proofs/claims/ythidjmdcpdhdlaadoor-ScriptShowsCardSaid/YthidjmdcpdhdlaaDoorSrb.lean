/- What a shown text reads as (plain). -/
import Derived.Test.YthidjmdcpdhdlaaDoorSra
namespace Go.Proofs.YthidjmdcpdhdlaaDoor
open Go Go.RowKit
set_option linter.unusedVariables false
set_option linter.unusedSimpArgs false
/-- No blank and no line's end. -/
def plainW (l : List UInt8) : Prop := ∀ b ∈ l, b ≠ 32 ∧ b ≠ 10
theorem plain_dec (n : Nat) : plainW (decL n) := fun b hb => by
  have h := decL_digits n b hb
  constructor <;> (rintro rfl; revert h; decide)
theorem plain_decZ (n : Int) : plainW (decZ n) := plain_dec _
theorem dig_ok : ∀ n : Fin 16, dig n.val ≠ 32 ∧ dig n.val ≠ 10 := by decide
theorem plain_hexOf : ∀ l : List UInt8, plainW (hexOf l)
  | [] => fun b hb => by simp [hexOf] at hb
  | c :: l => fun b hb => by
    have hc : c.toNat < 256 := c.toNat_lt
    have h1 := dig_ok ⟨c.toNat / 16, by omega⟩
    have h2 := dig_ok ⟨c.toNat % 16, by omega⟩
    simp only [hexOf, List.mem_cons] at hb
    rcases hb with rfl | rfl | hb
    · exact h1
    · exact h2
    · exact plain_hexOf l b hb
theorem plain_hexS (l : List UInt8) : plainW (hexS l) := by
  unfold hexS
  split
  · intro b hb; simp only [List.mem_cons, List.not_mem_nil, or_false] at hb; subst hb; decide
  · exact plain_hexOf l
theorem splitG_word : ∀ (a r cur : List UInt8), plainW a → splitG (a ++ 32 :: r) cur = (cur ++ a) :: splitG r []
  | [], r, cur, _ => by rw [List.append_nil]; rfl
  | b :: a, r, cur, h => by
    show (if b = 32 then _ else splitG (a ++ 32 :: r) (cur ++ [b])) = _
    rw [if_neg (h b (List.mem_cons_self ..)).1, splitG_word a r (cur ++ [b]) (fun c hc => h c (List.mem_cons_of_mem _ hc)), List.append_assoc]
    rfl
theorem splitG_last : ∀ (a cur : List UInt8), plainW a → splitG a cur = [cur ++ a]
  | [], cur, _ => by rw [List.append_nil]; rfl
  | b :: a, cur, h => by
    show (if b = 32 then _ else splitG a (cur ++ [b])) = _
    rw [if_neg (h b (List.mem_cons_self ..)).1, splitG_last a (cur ++ [b]) (fun c hc => h c (List.mem_cons_of_mem _ hc)), List.append_assoc]
    rfl
theorem join_two (a b : List UInt8) (r : List (List UInt8)) : Lib.join (a :: b :: r) [32] = a ++ 32 :: Lib.join (b :: r) [32] := by
  rw [Lib.join_cons, Lib.join_cons]
  unfold Lib.joinTail
  simp
theorem splitG_join : ∀ (r : List (List UInt8)) (a : List UInt8), plainW a → (∀ x ∈ r, plainW x) → splitG (Lib.join (a :: r) [32]) [] = a :: r
  | [], a, ha, _ => by rw [Lib.join_one, splitG_last a [] ha]; rfl
  | b :: r, a, ha, hr => by
    rw [join_two, splitG_word a _ [] ha, splitG_join r b (hr b (List.mem_cons_self ..)) (fun x hx => hr x (List.mem_cons_of_mem _ hx))]
    rfl
theorem join_no10 : ∀ (r : List (List UInt8)) (a : List UInt8), plainW a → (∀ x ∈ r, plainW x) → ∀ b ∈ Lib.join (a :: r) [32], b ≠ 10
  | [], a, ha, _ => fun b hb => by rw [Lib.join_one] at hb; exact (ha b hb).2
  | c :: r, a, ha, hr => fun b hb => by
    rw [join_two] at hb
    rcases List.mem_append.1 hb with hb | hb
    · exact (ha b hb).2
    · rcases List.mem_cons.1 hb with rfl | hb
      · decide
      · exact join_no10 r c (hr c (List.mem_cons_self ..)) (fun x hx => hr x (List.mem_cons_of_mem _ hx)) b hb
theorem numS_decZ {n : Int} (h : okN n = true) : numS (decZ n) = Option.some n.toNat := by
  obtain ⟨k, rfl, hk⟩ := okN_nat h
  rw [decZ_nat, numS_dec k hk, Int.toNat_natCast]
theorem okN_toNat {n : Int} (h : okN n = true) : ((n.toNat : Nat) : Int) = n := by
  obtain ⟨k, rfl, hk⟩ := okN_nat h
  rw [Int.toNat_natCast]
theorem cut_some {a0 a b m : List UInt8} {n : Nat} (h0 : a0 = cutL) (ha : numS a = Option.some n) (h : rawS b = Option.some m) : stepW [a0, a, b] = Option.some ⟨2, 0, n, 0, 0, [], m⟩ := by
  show (if a0 = _ then _ else _) = _
  rw [if_pos h0, ha, h]
  rfl
theorem pass_some {a0 a : List UInt8} {n : Nat} (h0 : a0 = passL) (ha : numS a = Option.some n) : stepW [a0, a] = Option.some ⟨3, 0, n, 0, 0, [], []⟩ := by
  show (if a0 = _ then _ else _) = _
  rw [if_pos h0, ha]
  rfl
/-- A step that has a line: the line, and what it says. -/
theorem canon_some {x y : Sp} (h : canon x = Option.some y) : ∃ ln, showL x = ln ++ [10] ∧ (∀ b ∈ ln, b ≠ 10) ∧ stepW (splitG ln []) = Option.some y ∧ showL y = showL x := by
  have kw : ∀ {k : List UInt8}, (∀ b ∈ k, b ≠ 32 ∧ b ≠ 10) → plainW k := fun h => h
  unfold canon at h
  split at h
  · rename_i h0
    split at h
    · rename_i hok
      simp only [Bool.and_eq_true] at hok
      obtain ⟨⟨o1, o2⟩, o3⟩ := hok
      cases h
      have hall : [x.tenant, x.rk, x.rn].all okN = true := by simp [o1, o2, o3]
      have hs : showL x = Lib.join (askL :: [decZ x.tenant, decZ x.rk, decZ x.rn, hexS x.bytes]) [32] ++ [10] := by
        unfold showL; rw [if_pos h0, say_ok hall]; rfl
      have hp : ∀ z ∈ [decZ x.tenant, decZ x.rk, decZ x.rn, hexS x.bytes], plainW z := by
        intro z hz
        simp only [List.mem_cons, List.not_mem_nil, or_false] at hz
        rcases hz with rfl | rfl | rfl | rfl
        · exact plain_decZ _
        · exact plain_decZ _
        · exact plain_decZ _
        · exact plain_hexS _
      refine ⟨_, hs, join_no10 _ _ (by unfold plainW; decide) hp, ?_, ?_⟩
      · rw [splitG_join _ _ (by unfold plainW; decide) hp, ask_some rfl (numS_decZ o1) (numS_decZ o2) (numS_decZ o3) (rawS_hex _), okN_toNat o1, okN_toNat o2, okN_toNat o3]
      · rw [hs]; unfold showL; rw [if_pos rfl, say_ok hall]; rfl
    · cases h
  · rename_i h0
    split at h
    · rename_i h1
      cases h
      have hs : showL x = tickL ++ [10] := by unfold showL; rw [if_neg h0, if_pos h1]; rfl
      refine ⟨_, hs, by decide, by rfl, ?_⟩
      rw [hs]; rfl
    · rename_i h1
      split at h
      · rename_i h2
        split at h
        · rename_i o1
          cases h
          have hall : [x.n].all okN = true := by simp [o1]
          have hs : showL x = Lib.join (cutL :: [decZ x.n, hexS x.mask]) [32] ++ [10] := by
            unfold showL; rw [if_neg h0, if_neg h1, if_pos h2, say_ok hall]; rfl
          have hp : ∀ z ∈ [decZ x.n, hexS x.mask], plainW z := by
            intro z hz
            simp only [List.mem_cons, List.not_mem_nil, or_false] at hz
            rcases hz with rfl | rfl
            · exact plain_decZ _
            · exact plain_hexS _
          refine ⟨_, hs, join_no10 _ _ (by unfold plainW; decide) hp, ?_, ?_⟩
          · rw [splitG_join _ _ (by unfold plainW; decide) hp, cut_some rfl (numS_decZ o1) (rawS_hex _), okN_toNat o1]
          · rw [hs]; unfold showL; rw [if_neg (show ¬ (2 : Int) = 0 by decide), if_neg (show ¬ (2 : Int) = 1 by decide), if_pos rfl, say_ok hall]; rfl
        · cases h
      · rename_i h2
        split at h
        · rename_i h3
          split at h
          · rename_i o1
            cases h
            have hall : [x.n].all okN = true := by simp [o1]
            have hs : showL x = Lib.join (passL :: [decZ x.n]) [32] ++ [10] := by
              unfold showL; rw [if_neg h0, if_neg h1, if_neg h2, if_pos h3, say_ok hall]; rfl
            have hp : ∀ z ∈ [decZ x.n], plainW z := by
              intro z hz
              simp only [List.mem_cons, List.not_mem_nil, or_false] at hz
              subst hz
              exact plain_decZ _
            refine ⟨_, hs, join_no10 _ _ (by unfold plainW; decide) hp, ?_, ?_⟩
            · rw [splitG_join _ _ (by unfold plainW; decide) hp, pass_some rfl (numS_decZ o1), okN_toNat o1]
            · rw [hs]; unfold showL; rw [if_neg (show ¬ (3 : Int) = 0 by decide), if_neg (show ¬ (3 : Int) = 1 by decide), if_neg (show ¬ (3 : Int) = 2 by decide), if_pos rfl, say_ok hall]; rfl
          · cases h
        · cases h
theorem canon_none {x : Sp} (h : canon x = Option.none) : showL x = [] := by
  unfold canon at h
  unfold showL
  split at h
  · rename_i h0
    rw [if_pos h0]
    split at h
    · cases h
    · rename_i hok
      exact say_no (by
        rw [Bool.not_eq_true] at hok
        simp only [List.all_cons, List.all_nil, Bool.and_true]
        rw [← hok, Bool.and_assoc])
  · rename_i h0
    rw [if_neg h0]
    split at h
    · cases h
    · rename_i h1
      rw [if_neg h1]
      split at h
      · rename_i h2
        rw [if_pos h2]
        split at h
        · cases h
        · rename_i o1; exact say_no (by simpa using o1)
      · rename_i h2
        rw [if_neg h2]
        split at h
        · rename_i h3
          rw [if_pos h3]
          split at h
          · cases h
          · rename_i o1; exact say_no (by simpa using o1)
        · rename_i h3; rw [if_neg h3]
theorem showA_cons (x : Sp) (l : List Sp) : showA (x :: l) = showL x ++ showA l := rfl
theorem read_show : ∀ (l : List Sp) (k : Nat) (acc : List Sp), readG (showA l) [] k acc = (Option.some (acc ++ l.filterMap canon), 0)
  | [], k, acc => by show (if ([] : List UInt8) = [] then (Option.some acc, 0) else _) = _; rw [if_pos rfl]; simp
  | x :: l, k, acc => by
    rw [showA_cons]
    cases hc : canon x with
    | none =>
      rw [canon_none hc, List.nil_append, read_show l k acc, List.filterMap_cons, hc]
    | some y =>
      obtain ⟨ln, h1, h2, h3, h4⟩ := canon_some hc
      rw [h1, List.append_assoc]
      show readG (ln ++ 10 :: showA l) [] k acc = _
      rw [readG_cut ln (showA l) [] k acc h2, List.nil_append, h3]
      show readG (showA l) [] (k + 1) (acc ++ [y]) = _
      rw [read_show l (k + 1) (acc ++ [y]), List.filterMap_cons, hc, List.append_assoc]
      rfl
theorem show_canon : ∀ l : List Sp, showA (l.filterMap canon) = showA l
  | [] => rfl
  | x :: l => by
    rw [List.filterMap_cons, showA_cons x l]
    cases hc : canon x with
    | none => rw [canon_none hc]; exact show_canon l
    | some y =>
      obtain ⟨ln, h1, h2, h3, h4⟩ := canon_some hc
      show showA (y :: l.filterMap canon) = _
      rw [showA_cons, h4, show_canon l]
/-- Is there a line of a step? -/
def stepLn (x : Sp) : Bool := !(showL x).isEmpty
theorem canon_len : ∀ l : List Sp, l.all stepLn = true → (l.filterMap canon).length = l.length
  | [], _ => rfl
  | x :: l, h => by
    rw [List.all_cons, Bool.and_eq_true] at h
    rw [List.filterMap_cons]
    cases hc : canon x with
    | none =>
      have h1 := h.1
      unfold stepLn at h1
      rw [canon_none hc] at h1
      exact absurd h1 (by decide)
    | some y => show (l.filterMap canon).length + 1 = l.length + 1; rw [canon_len l h.2]
theorem canon_small {x y : Sp} (h : canon x = Option.some y) {m : Nat} (h1 : x.bytes.length ≤ m) (h2 : x.mask.length ≤ m) : y.bytes.length ≤ m ∧ y.mask.length ≤ m := by
  unfold canon at h
  split at h
  · split at h
    · cases h; exact ⟨h1, Nat.zero_le _⟩
    · cases h
  · split at h
    · cases h; exact ⟨Nat.zero_le _, Nat.zero_le _⟩
    · split at h
      · split at h
        · cases h; exact ⟨Nat.zero_le _, h2⟩
        · cases h
      · split at h
        · split at h
          · cases h; exact ⟨Nat.zero_le _, Nat.zero_le _⟩
          · cases h
        · cases h
theorem canon_mem {l : List Sp} {y : Sp} (hy : y ∈ l.filterMap canon) {m : Nat} (h : ∀ x ∈ l, x.bytes.length ≤ m ∧ x.mask.length ≤ m) : y.bytes.length ≤ m ∧ y.mask.length ≤ m := by
  obtain ⟨x, hx, hc⟩ := List.mem_filterMap.1 hy
  exact canon_small hc (h x hx).1 (h x hx).2
theorem say_len (w : List UInt8) (ls : List Int) (more : List (List UInt8)) (hw : w.length ≤ 10) (hl : ls.length ≤ 3) (hm : more.length ≤ 1) (hy : ∀ y ∈ more, y.length ≤ 401) : (sayS w ls more).length ≤ 1700 := by
  unfold sayS
  split
  · rename_i hok
    rw [List.length_append, join_len]
    have h1 := sum_le (l := (ls.map decZ ++ more).map (fun y => y.length + 1)) (m := 402) (fun z hz => by
      obtain ⟨y, hy2, rfl⟩ := List.mem_map.1 hz
      rcases List.mem_append.1 hy2 with hy2 | hy2
      · obtain ⟨q, hq, rfl⟩ := List.mem_map.1 hy2
        have := List.all_eq_true.1 hok q hq
        unfold okN at this
        simp only [Bool.and_eq_true, decide_eq_true_eq] at this
        have := decL_small q.toNat (by omega)
        show (decL q.toNat).length + 1 ≤ _
        omega
      · have := hy y hy2; omega)
    rw [List.length_map, List.length_append, List.length_map] at h1
    have h2 : (ls.length + more.length) * 402 ≤ 4 * 402 := Nat.mul_le_mul_right _ (by omega)
    simp only [List.length_cons, List.length_nil]
    omega
  · simp
theorem showL_small (x : Sp) (h1 : x.bytes.length ≤ 200) (h2 : x.mask.length ≤ 200) : (showL x).length ≤ 1700 := by
  have hx : ∀ l : List UInt8, l.length ≤ 200 → ∀ y ∈ [hexS l], y.length ≤ 401 := by
    intro l hl y hy
    simp only [List.mem_cons, List.not_mem_nil, or_false] at hy
    subst hy
    unfold hexS
    split
    · simp
    · rw [hexOf_len]; omega
  unfold showL
  split
  · exact say_len _ _ _ (by decide) (by simp) (by simp) (hx _ h1)
  · split
    · exact say_len _ _ _ (by decide) (by simp) (by simp) (by simp)
    · split
      · exact say_len _ _ _ (by decide) (by simp) (by simp) (hx _ h2)
      · split
        · exact say_len _ _ _ (by decide) (by simp) (by simp) (by simp)
        · simp
theorem showA_small : ∀ (l : List Sp), (∀ x ∈ l, x.bytes.length ≤ 200 ∧ x.mask.length ≤ 200) → (showA l).length ≤ l.length * 1700
  | [], _ => by simp [showA]
  | x :: l, h => by
    have h1 := showL_small x (h x (List.mem_cons_self ..)).1 (h x (List.mem_cons_self ..)).2
    have h2 := showA_small l (fun y hy => h y (List.mem_cons_of_mem _ hy))
    rw [showA_cons, List.length_append, List.length_cons]
    omega
end Go.Proofs.YthidjmdcpdhdlaaDoor
