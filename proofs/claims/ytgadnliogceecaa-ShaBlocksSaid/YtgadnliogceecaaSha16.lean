/- A stream as the bytes that were written to it. -/
import Derived.Test.YtgadnliogceecaaSha15
namespace Go.Proofs.Ytgadnliogceecaa
open Go Go.RowKit
set_option linter.unusedVariables false
set_option linter.unusedSimpArgs false
theorem absorb_append (s : St) (l1 l2 : List UInt8) : absorb s (l1 ++ l2) = absorb (absorb s l1).1 ((absorb s l1).2 ++ l2) := by
  induction h : l1.length using Nat.strongRecOn generalizing s l1 with
  | _ n ih =>
    by_cases h64 : 64 ≤ l1.length
    · rw [absorb_more s l1 h64, absorb_more s (l1 ++ l2) (by rw [List.length_append]; omega)]
      rw [List.take_append_of_le_length h64, List.drop_append_of_le_length h64]
      exact ih (l1.drop 64).length (by rw [List.length_drop]; omega) _ _ rfl
    · rw [absorb_done s l1 h64]
theorem Blk.bytes {w : World} {g : Nat} {t : TypeId} {l : List UInt8} {n : Nat} (h : Blk w g t (l.map u8v).toArray) (hn : l.length = n) : Reads w (some ⟨g, 0, none⟩) n (l.map u8v) := by
  have := h.row; rw [List.length_map, hn] at this; exact this
/-- The stream at block sb has had the bytes l. -/
def Had (w : World) (sb : Nat) (l : List UInt8) : Prop := StreamAt w sb (absorb St.first l).1 (UInt64.ofNat l.length) (absorb St.first l).2
theorem StreamAt.below {w w' : World} {sb B : Nat} {s : St} {n : UInt64} {rest : List UInt8} (h : StreamAt w sb s n rest) (hb : Below B w w') (hB : w.heap.size ≤ B) : StreamAt w' sb s n rest := by
  obtain ⟨A, c, h1, h2, h3⟩ := h.obj
  have hb2 := hb.mono hB
  refine ⟨A, c, h1.below hb2 h1.lt, h2.below hb2, fun a ha => ⟨(h3 a ha).1, ?_⟩⟩
  obtain ⟨cs, fr, h⟩ := (h3 a ha).2
  exact ⟨cs, fr, by rw [hb2.block a.block (Array.getElem?_eq_some_iff.1 h).1]; exact h⟩
theorem StreamAt.only {w w' : World} {sb : Nat} {S : List Nat} {s : St} {n : UInt64} {rest : List UInt8} (h : StreamAt w sb s n rest) (ho : Only S w w') (hs : sb ∉ S) (hS : ∀ k, k ∈ S → ∃ cs t fr, w.heap[k]? = some (.cells cs t fr) ∧ t ≠ 5) : StreamAt w' sb s n rest := by
  obtain ⟨A, c, h1, h2, h3⟩ := h.obj
  have hap : ∀ a, A = some a → a.block ∉ S := fun a ha hm => by
    obtain ⟨cs, fr, h⟩ := (h3 a ha).2
    obtain ⟨cs', t, fr', h', hne⟩ := hS _ hm
    rw [h] at h'
    injection h' with h'
    injection h' with _ h'
    exact hne h'.symm
  refine ⟨A, c, h1.only ho hs, h2.only ho hap, fun a ha => ⟨(h3 a ha).1, ?_⟩⟩
  obtain ⟨cs, fr, h⟩ := (h3 a ha).2
  exact ⟨cs, fr, by rw [ho.block a.block (Array.getElem?_eq_some_iff.1 h).1 (hap a ha)]; exact h⟩
theorem StreamAt.typed {w : World} {sb : Nat} {s : St} {n : UInt64} {rest : List UInt8} (h : StreamAt w sb s n rest) : ∃ cs, Blk w sb 66 cs := by
  obtain ⟨A, c, h1, h2, h3⟩ := h.obj
  exact ⟨_, h1⟩
theorem StreamAt.lt {w : World} {sb : Nat} {s : St} {n : UInt64} {rest : List UInt8} (h : StreamAt w sb s n rest) : sb < w.heap.size := by
  obtain ⟨cs, h⟩ := h.typed; exact h.lt
theorem Had.below {w w' : World} {sb B : Nat} {l : List UInt8} (h : Had w sb l) (hb : Below B w w') (hB : w.heap.size ≤ B) : Had w' sb l := StreamAt.below h hb hB
theorem Had.apart {w w' : World} {sb sb2 : Nat} {l : List UInt8} (h : Had w sb l) (ho : Only [sb2] w w') (hs : sb ≠ sb2) (l2 : List UInt8) (h2 : Had w sb2 l2) : Had w' sb l := by
  refine StreamAt.only h ho (by simp; exact hs) (fun k hk => ?_)
  simp at hk
  subst hk
  obtain ⟨cs, hb⟩ := StreamAt.typed h2
  exact ⟨cs, _, _, hb, by decide⟩
theorem new_had (w : World) : Calls Try.prog 15 #[] w fun e w' => ∃ sb, e = .returned (.pointer (some ⟨sb, 0, none⟩)) ∧ Had w' sb [] ∧ w.heap.size ≤ sb ∧ Below w.heap.size w w' := by
  refine (snew_c w).mono ?_
  rintro e w' ⟨sb, h1, h2, h3, h4⟩
  refine ⟨sb, h1, ?_, h3, h4⟩
  unfold Had
  rw [absorb_done St.first [] (by simp)]
  exact h2
theorem write_had (w : World) (sb : Nat) (l : List UInt8) (B : Option Addr) (n c : Nat) (b : List UInt8) (hbn : b.length = n) (h : Had w sb l) (r : Reads w B n (b.map u8v)) (hbp : 0 < n → ∀ a, B = some a → a.block ≠ sb) (hb : n ≤ 274877906944) :
    Calls Try.prog 16 #[.pointer (some ⟨sb, 0, none⟩), .slice B n c] w fun e w' => e = .returned (.tuple #[]) ∧ Had w' sb (l ++ b) ∧ Only [sb] w w' := by
  subst hbn
  have := absorb_rest St.first l
  refine (swrite_c w sb _ _ _ B c b h r hbp (by omega) hb).mono ?_
  rintro e w' ⟨h1, h2, h3⟩
  refine ⟨h1, ?_, h3⟩
  unfold Had
  rw [absorb_append, List.length_append, UInt64.ofNat_add]
  exact h2
theorem sum_had (w : World) (sb : Nat) (l : List UInt8) (h : Had w sb l) :
    Calls Try.prog 17 #[.pointer (some ⟨sb, 0, none⟩)] w fun e w' => e = .returned (.agg ((sha l).map u8v).toArray) ∧ Below w.heap.size w w' := by
  have := absorb_rest St.first l
  exact ssum_c w sb _ _ _ h (by omega)
end Go.Proofs.Ytgadnliogceecaa
