/- Words of a line: runes put together again against bytes (plain). -/
import Derived.Test.YthidjmdcpdhdlaaDoorScG
namespace Go.Proofs.YthidjmdcpdhdlaaDoor
open Go Go.RowKit
set_option linter.unusedVariables false
set_option linter.unusedSimpArgs false
theorem enc_hi (r : Int) (h : 128 ≤ r) : (Utf8.encode r).data.toList ≠ [] ∧ (Utf8.encode r).data.toList.length ≤ 4 ∧ ∀ b ∈ (Utf8.encode r).data.toList, 128 ≤ b.toNat := by
  obtain ⟨c, hc⟩ : ∃ c, (if Utf8.valid r then r.toNat else Utf8.runeError) = c := ⟨_, rfl⟩
  have h128 : 128 ≤ c ∧ c < 1114112 := by
    rw [← hc]
    split
    · rename_i hv
      rw [validRune_eq] at hv
      unfold validRune at hv
      have := of_decide_eq_true hv
      omega
    · unfold Utf8.runeError; omega
  unfold Utf8.encode
  simp only [hc]
  rw [if_neg (by omega)]
  split
  · refine ⟨by simp, by simp, ?_⟩
    intro b hb
    simp only [List.mem_cons, List.not_mem_nil, or_false] at hb
    rcases hb with rfl | rfl
    all_goals (rw [UInt8.toNat_ofNat']; omega)
  · split
    · refine ⟨by simp, by simp, ?_⟩
      intro b hb
      simp only [List.mem_cons, List.not_mem_nil, or_false] at hb
      rcases hb with rfl | rfl | rfl
      all_goals (rw [UInt8.toNat_ofNat']; omega)
    · refine ⟨by simp, by simp, ?_⟩
      intro b hb
      simp only [List.mem_cons, List.not_mem_nil, or_false] at hb
      rcases hb with rfl | rfl | rfl | rfl
      all_goals (rw [UInt8.toNat_ofNat']; omega)
theorem enc_lo (r : Nat) (h : r < 128) : (Utf8.encode (r : Int)).data.toList = [UInt8.ofNat r] := by
  have hv : Utf8.valid (r : Int) = true := by rw [validRune_eq]; unfold validRune; exact decide_eq_true (by omega)
  unfold Utf8.encode
  simp only [hv, if_true, Int.toNat_natCast]
  rw [if_pos (by omega)]
theorem dec_all (s : ByteArray) (pos : Nat) (h : pos < s.size) (hg : 128 ≤ (s.get! pos).toNat) : 1 ≤ (Utf8.decode s pos).2 ∧ ∀ k, k < (Utf8.decode s pos).2 → pos + k < s.size ∧ 128 ≤ (s.get! (pos + k)).toNat := by
  have h0 : (s.get! (pos + 0)).toNat = (s.get! pos).toNat := rfl
  simp only [Utf8.decode]
  split
  · omega
  · split
    · rename_i h1 h2
      simp only [Bool.and_eq_true, decide_eq_true_eq, beq_iff_eq] at h2
      split
      · refine ⟨by dsimp only; omega, ?_⟩
        intro k hk
        dsimp only at hk
        rcases (by omega : k = 0 ∨ k = 1) with rfl | rfl
        · omega
        · omega
      · refine ⟨Nat.le_refl _, ?_⟩
        intro k hk
        dsimp only at hk
        obtain rfl : k = 0 := by omega
        omega
    · split
      · rename_i h1 h2 h3
        simp only [Bool.and_eq_true, decide_eq_true_eq, beq_iff_eq] at h3
        split
        · refine ⟨by dsimp only; omega, ?_⟩
          intro k hk
          dsimp only at hk
          rcases (by omega : k = 0 ∨ k = 1 ∨ k = 2) with rfl | rfl | rfl <;> omega
        · refine ⟨Nat.le_refl _, ?_⟩
          intro k hk
          dsimp only at hk
          obtain rfl : k = 0 := by omega
          omega
      · split
        · rename_i h1 h2 h3 h4
          simp only [Bool.and_eq_true, decide_eq_true_eq, beq_iff_eq] at h4
          split
          · refine ⟨by dsimp only; omega, ?_⟩
            intro k hk
            dsimp only at hk
            rcases (by omega : k = 0 ∨ k = 1 ∨ k = 2 ∨ k = 3) with rfl | rfl | rfl | rfl <;> omega
          · refine ⟨Nat.le_refl _, ?_⟩
            intro k hk
            dsimp only at hk
            obtain rfl : k = 0 := by omega
            omega
        · refine ⟨Nat.le_refl _, ?_⟩
          intro k hk
          dsimp only at hk
          obtain rfl : k = 0 := by omega
          omega
theorem get!_get (s : ByteArray) (i : Nat) (h : i < s.size) : s.get! i = s[i]'h := by
  show s.data[i]! = s.data[i]
  exact getElem!_pos s.data i h
theorem dec_hi (s : ByteArray) (pos : Nat) (h : pos < s.size) (hg : 128 ≤ (s[pos]'h).toNat) : 1 ≤ (Utf8.decode s pos).2 ∧ pos + (Utf8.decode s pos).2 ≤ s.size ∧ ∀ b ∈ (s.data.toList.drop pos).take (Utf8.decode s pos).2, 128 ≤ b.toNat := by
  rw [← get!_get s pos h] at hg
  obtain ⟨h1, h2⟩ := dec_all s pos h hg
  refine ⟨h1, ?_, ?_⟩
  · have := (h2 ((Utf8.decode s pos).2 - 1) (by omega)).1
    omega
  · intro b hb
    obtain ⟨i, hi, rfl⟩ := List.getElem_of_mem hb
    rw [List.length_take] at hi
    have := h2 i (by omega)
    rw [List.getElem_take, List.getElem_drop]
    rw [get!_get s (pos + i) this.1] at this
    exact this.2
/-- Bytes against the bytes of their runes. -/
inductive Rc : List UInt8 → List UInt8 → Prop
  | nil : Rc [] []
  | low (a b : List UInt8) (c : UInt8) : Rc a b → c.toNat < 128 → Rc (a ++ [c]) (b ++ [c])
  | high (a b p q : List UInt8) : Rc a b → p ≠ [] → q ≠ [] → (∀ x ∈ p, 128 ≤ x.toNat) → (∀ x ∈ q, 128 ≤ x.toNat) → q.length ≤ 4 → Rc (a ++ p) (b ++ q)
theorem Rc.len : ∀ {a b : List UInt8}, Rc a b → b.length ≤ 4 * a.length := by
  intro a b h
  induction h with
  | nil => simp
  | low a b c h hc ih => rw [List.length_append, List.length_append]; simp; omega
  | high a b p q h hp hq h1 h2 h3 ih =>
    have := List.length_pos_iff.2 hp
    rw [List.length_append, List.length_append]
    omega
/-- A line on the way: words behind a blank, and the word under way. -/
def splB (x : List (List UInt8) × List UInt8) (b : UInt8) : List (List UInt8) × List UInt8 := if b = 32 then (x.1 ++ [x.2], []) else (x.1, x.2 ++ [b])
def splF (l : List UInt8) : List (List UInt8) × List UInt8 := l.foldl splB ([], [])
theorem splF_low (l : List UInt8) (b : UInt8) : splF (l ++ [b]) = splB (splF l) b := by unfold splF; rw [List.foldl_append]; rfl
theorem foldl_hi : ∀ (q : List UInt8) (x : List (List UInt8) × List UInt8), (∀ b ∈ q, 128 ≤ b.toNat) → q.foldl splB x = (x.1, x.2 ++ q)
  | [], x, _ => by rw [List.append_nil]; rfl
  | b :: q, x, h => by
    have hb := h b (List.mem_cons_self ..)
    show q.foldl splB (splB x b) = _
    rw [foldl_hi q _ (fun c hc => h c (List.mem_cons_of_mem _ hc))]
    unfold splB
    rw [if_neg (fun e => by subst e; revert hb; decide), List.append_assoc]
    rfl
theorem splF_high (l q : List UInt8) (h : ∀ b ∈ q, 128 ≤ b.toNat) : splF (l ++ q) = ((splF l).1, (splF l).2 ++ q) := by
  unfold splF; rw [List.foldl_append, foldl_hi q _ h]
theorem splitG_foldl : ∀ (l : List UInt8) (acc : List (List UInt8)) (cur : List UInt8), acc ++ splitG l cur = (l.foldl splB (acc, cur)).1 ++ [(l.foldl splB (acc, cur)).2]
  | [], acc, cur => rfl
  | b :: l, acc, cur => by
    show acc ++ (if b = 32 then cur :: splitG l [] else splitG l (cur ++ [b])) = (l.foldl splB (splB (acc, cur) b)).1 ++ [(l.foldl splB (splB (acc, cur) b)).2]
    by_cases hb : b = 32
    · have := splitG_foldl l (acc ++ [cur]) []
      rw [if_pos hb, show splB (acc, cur) b = (acc ++ [cur], []) from if_pos hb, ← this]; simp
    · rw [if_neg hb, show splB (acc, cur) b = (acc, cur ++ [b]) from if_neg hb]
      exact splitG_foldl l acc (cur ++ [b])
theorem splitG_eq (l : List UInt8) : splitG l [] = (splF l).1 ++ [(splF l).2] := by
  have := splitG_foldl l [] []
  rw [List.nil_append] at this
  exact this
def hiW (l : List UInt8) : Prop := ∃ b ∈ l, 128 ≤ b.toNat
def Wd (a b : List UInt8) : Prop := a = b ∨ (hiW a ∧ hiW b)
inductive Wds : List (List UInt8) → List (List UInt8) → Prop
  | nil : Wds [] []
  | cons (a b : List UInt8) (x y : List (List UInt8)) : Wd a b → Wds x y → Wds (a :: x) (b :: y)
theorem Wds.snoc {x y : List (List UInt8)} {a b : List UInt8} (h : Wds x y) (hw : Wd a b) : Wds (x ++ [a]) (y ++ [b]) := by
  induction h with
  | nil => exact .cons _ _ _ _ hw .nil
  | cons c d x y h1 h2 ih => exact .cons _ _ _ _ h1 ih
theorem Wd.low {a b : List UInt8} (h : Wd a b) (c : UInt8) : Wd (a ++ [c]) (b ++ [c]) := by
  rcases h with rfl | ⟨⟨x, hx, hx1⟩, ⟨y, hy, hy1⟩⟩
  · exact .inl rfl
  · exact .inr ⟨⟨x, List.mem_append_left _ hx, hx1⟩, ⟨y, List.mem_append_left _ hy, hy1⟩⟩
theorem hiW_app {p : List UInt8} (a : List UInt8) (hp : p ≠ []) (h : ∀ x ∈ p, 128 ≤ x.toNat) : hiW (a ++ p) := by
  cases p with
  | nil => exact absurd rfl hp
  | cons b p => exact ⟨b, List.mem_append_right _ (List.mem_cons_self ..), h b (List.mem_cons_self ..)⟩
theorem Rc.words {a b : List UInt8} (h : Rc a b) : Wds (splF a).1 (splF b).1 ∧ Wd (splF a).2 (splF b).2 := by
  induction h with
  | nil => exact ⟨.nil, .inl rfl⟩
  | low a b c h hc ih =>
    rw [splF_low, splF_low]
    unfold splB
    split
    · exact ⟨ih.1.snoc ih.2, .inl rfl⟩
    · exact ⟨ih.1, ih.2.low c⟩
  | high a b p q h hp hq h1 h2 h3 ih =>
    rw [splF_high _ _ h1, splF_high _ _ h2]
    exact ⟨ih.1, .inr ⟨hiW_app _ hp h1, hiW_app _ hq h2⟩⟩
theorem Rc.split {a b : List UInt8} (h : Rc a b) : Wds (splitG a []) (splitG b []) := by
  rw [splitG_eq, splitG_eq]
  exact h.words.1.snoc h.words.2
theorem numL_hi : ∀ (l : List UInt8) (n : Nat), hiW l → numL l n = Option.none
  | [], n, ⟨b, hb, _⟩ => by simp at hb
  | c :: l, n, ⟨b, hb, h1⟩ => by
    show (if c.toNat < 48 ∨ 57 < c.toNat then Option.none else if 2147483647 < n * 10 + (c.toNat - 48) then Option.none else numL l (n * 10 + (c.toNat - 48))) = _
    split
    · rfl
    · split
      · rfl
      · refine numL_hi l _ ?_
        simp only [List.mem_cons] at hb
        rcases hb with rfl | hb
        · omega
        · exact ⟨b, hb, h1⟩
theorem hexI_hi (b : UInt8) (h : 128 ≤ b.toNat) : hexI (b.toNat : Int) < 0 := by
  unfold hexI; rw [if_neg (by omega), if_neg (by omega)]; decide
theorem rawL_hi : ∀ l : List UInt8, hiW l → rawL l = Option.none
  | [], ⟨b, hb, _⟩ => by simp at hb
  | [_], _ => rfl
  | a :: b :: l, ⟨c, hc, h1⟩ => by
    unfold rawL
    split
    · rfl
    · rename_i h
      simp only [List.mem_cons] at hc
      rcases hc with rfl | rfl | hc
      · exact absurd (.inl (hexI_hi _ h1)) h
      · exact absurd (.inr (hexI_hi _ h1)) h
      · rw [rawL_hi l ⟨c, hc, h1⟩]; rfl
theorem numS_hi (l : List UInt8) (h : hiW l) : numS l = Option.none := by
  unfold numS
  split
  · rfl
  · split
    · rfl
    · exact numL_hi l 0 h
theorem rawS_hi (l : List UInt8) (h : hiW l) : rawS l = Option.none := by
  unfold rawS
  split
  · rename_i e; subst e; obtain ⟨b, hb, h1⟩ := h; simp only [List.mem_cons, List.not_mem_nil, or_false] at hb; subst hb; exact absurd h1 (by decide)
  · split
    · rfl
    · exact rawL_hi l h
theorem Wd.num {a b : List UInt8} (h : Wd a b) : numS a = numS b := by
  rcases h with rfl | ⟨h1, h2⟩
  · rfl
  · rw [numS_hi a h1, numS_hi b h2]
theorem Wd.raw {a b : List UInt8} (h : Wd a b) : rawS a = rawS b := by
  rcases h with rfl | ⟨h1, h2⟩
  · rfl
  · rw [rawS_hi a h1, rawS_hi b h2]
theorem Wd.key {a b k : List UInt8} (h : Wd a b) (hk : ∀ x ∈ k, x.toNat < 128) : a = k ↔ b = k := by
  rcases h with rfl | ⟨⟨x, hx, h1⟩, ⟨y, hy, h2⟩⟩
  · exact Iff.rfl
  · constructor
    · rintro rfl; exact absurd (hk x hx) (by omega)
    · rintro rfl; exact absurd (hk y hy) (by omega)
theorem Wds.step {x y : List (List UInt8)} (h : Wds x y) : stepW x = stepW y := by
  cases h with
  | nil => rfl
  | cons a b x y h1 h =>
    cases h with
    | nil =>
      show (if a = tickL then _ else _) = (if b = tickL then _ else _)
      simp only [h1.key (k := tickL) (by decide)]
    | cons a2 b2 x y h2 h =>
      cases h with
      | nil =>
        show (if a = passL then _ else _) = (if b = passL then _ else _)
        simp only [h1.key (k := passL) (by decide), h2.num]
      | cons a3 b3 x y h3 h =>
        cases h with
        | nil =>
          show (if a = cutL then _ else _) = (if b = cutL then _ else _)
          simp only [h1.key (k := cutL) (by decide), h2.num, h3.raw]
        | cons a4 b4 x y h4 h =>
          cases h with
          | nil => rfl
          | cons a5 b5 x y h5 h =>
            cases h with
            | nil =>
              show (if a = askL then _ else _) = (if b = askL then _ else _)
              simp only [h1.key (k := askL) (by decide), h2.num, h3.num, h4.num, h5.raw]
            | cons a6 b6 x y h6 h => rfl
theorem Rc.step {a b : List UInt8} (h : Rc a b) : stepW (splitG a []) = stepW (splitG b []) := h.split.step
end Go.Proofs.YthidjmdcpdhdlaaDoor
