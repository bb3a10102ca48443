/- A stream of bytes: its ten cells. -/
import Derived.Test.YtgadnliogceecaaSha10
namespace Go.Proofs.Ytgadnliogceecaa
open Go.RowKit
set_option linter.unusedVariables false
set_option linter.unusedSimpArgs false
/-- The cells of a stream. -/
def strm (s : St) (n : UInt64) (v : Value) : Array Value := #[u32v s.a, u32v s.b, u32v s.c, u32v s.d, u32v s.e, u32v s.f, u32v s.g, u32v s.h, u64v n, v]
theorem strm_8 (s : St) (n m : UInt64) (v : Value) : (strm s n v).setIfInBounds 8 (u64v m) = strm s m v := rfl
theorem strm_9 (s : St) (n : UInt64) (v u : Value) : (strm s n v).setIfInBounds 9 u = strm s n u := rfl
theorem strm_h (s t : St) (n : UInt64) (v : Value) : ((((((((strm s n v).setIfInBounds 0 (u32v t.a)).setIfInBounds 1 (u32v t.b)).setIfInBounds 2 (u32v t.c)).setIfInBounds 3 (u32v t.d)).setIfInBounds 4 (u32v t.e)).setIfInBounds 5 (u32v t.f)).setIfInBounds 6 (u32v t.g)).setIfInBounds 7 (u32v t.h) = strm t n v := by kernel_rfl
section
variable {w : World} {sb : Nat} {t : TypeId} {s : St} {n : UInt64} {v : Value}
theorem strm_c0 (h : Blk w sb t (strm s n v)) : w.cell? ⟨sb, 0, none⟩ = some (u32v s.a) := by rw [h.cell]; rfl
theorem strm_c1 (h : Blk w sb t (strm s n v)) : w.cell? ⟨sb, 1, none⟩ = some (u32v s.b) := by rw [h.cell]; rfl
theorem strm_c2 (h : Blk w sb t (strm s n v)) : w.cell? ⟨sb, 2, none⟩ = some (u32v s.c) := by rw [h.cell]; rfl
theorem strm_c3 (h : Blk w sb t (strm s n v)) : w.cell? ⟨sb, 3, none⟩ = some (u32v s.d) := by rw [h.cell]; rfl
theorem strm_c4 (h : Blk w sb t (strm s n v)) : w.cell? ⟨sb, 4, none⟩ = some (u32v s.e) := by rw [h.cell]; rfl
theorem strm_c5 (h : Blk w sb t (strm s n v)) : w.cell? ⟨sb, 5, none⟩ = some (u32v s.f) := by rw [h.cell]; rfl
theorem strm_c6 (h : Blk w sb t (strm s n v)) : w.cell? ⟨sb, 6, none⟩ = some (u32v s.g) := by rw [h.cell]; rfl
theorem strm_c7 (h : Blk w sb t (strm s n v)) : w.cell? ⟨sb, 7, none⟩ = some (u32v s.h) := by rw [h.cell]; rfl
theorem strm_c8 (h : Blk w sb t (strm s n v)) : w.cell? ⟨sb, 8, none⟩ = some (u64v n) := by rw [h.cell]; rfl
theorem strm_c9 (h : Blk w sb t (strm s n v)) : w.cell? ⟨sb, 9, none⟩ = some v := by rw [h.cell]; rfl
theorem Blk.strm8 (h : Blk w sb t (strm s n v)) (m : UInt64) : Blk (w.setCell ⟨sb, 8, none⟩ (u64v m)) sb t (strm s m v) := by
  have := h.set_ 8 (u64v m); rw [strm_8] at this; exact this
theorem Blk.strm9 (h : Blk w sb t (strm s n v)) (u : Value) : Blk (w.setCell ⟨sb, 9, none⟩ u) sb t (strm s n u) := by
  have := h.set_ 9 u; rw [strm_9] at this; exact this
def set8w (w : World) (g : Nat) (t : St) : World := ((((((((w.setCell ⟨g, 0, none⟩ (u32v t.a)).setCell ⟨g, 1, none⟩ (u32v t.b)).setCell ⟨g, 2, none⟩ (u32v t.c)).setCell ⟨g, 3, none⟩ (u32v t.d)).setCell ⟨g, 4, none⟩ (u32v t.e)).setCell ⟨g, 5, none⟩ (u32v t.f)).setCell ⟨g, 6, none⟩ (u32v t.g)).setCell ⟨g, 7, none⟩ (u32v t.h))
theorem Blk.strmh (h : Blk w sb t (strm s n v)) (t' : St) : Blk (set8w w sb t') sb t (strm t' n v) := by
  have := (((((((h.set_ 0 (u32v t'.a)).set_ 1 (u32v t'.b)).set_ 2 (u32v t'.c)).set_ 3 (u32v t'.d)).set_ 4 (u32v t'.e)).set_ 5 (u32v t'.f)).set_ 6 (u32v t'.g)).set_ 7 (u32v t'.h)
  rw [strm_h] at this; exact this
theorem only_set8w {S : List Nat} {w0 : World} (h : Only S w0 w) {g : Nat} (hg : g ∈ S ∨ w0.heap.size ≤ g) (t' : St) : Only S w0 (set8w w g t') :=
  (((((((h.setCell (p := ⟨g, 0, none⟩) hg _).setCell (p := ⟨g, 1, none⟩) hg _).setCell (p := ⟨g, 2, none⟩) hg _).setCell (p := ⟨g, 3, none⟩) hg _).setCell (p := ⟨g, 4, none⟩) hg _).setCell (p := ⟨g, 5, none⟩) hg _).setCell (p := ⟨g, 6, none⟩) hg _).setCell (p := ⟨g, 7, none⟩) hg _
theorem Reads.set8w {A : Option Addr} {k : Nat} {xs : List Value} (h : Reads w A k xs) {g : Nat} (hg : ∀ a, A = some a → a.block ≠ g) (t' : St) : Reads (set8w w g t') A k xs :=
  (((((((h.setCell (p := ⟨g, 0, none⟩) hg _).setCell (p := ⟨g, 1, none⟩) hg _).setCell (p := ⟨g, 2, none⟩) hg _).setCell (p := ⟨g, 3, none⟩) hg _).setCell (p := ⟨g, 4, none⟩) hg _).setCell (p := ⟨g, 5, none⟩) hg _).setCell (p := ⟨g, 6, none⟩) hg _).setCell (p := ⟨g, 7, none⟩) hg _
theorem Reads.drop_ {A : Option Addr} {n k cap : Nat} {xs : List Value} (h : Reads w A n xs) (hk : k ≤ n) (hc : n ≤ cap) :
    Reads w (if cap = k then A else Option.map (fun x => (⟨x.block, x.off + k, none⟩ : Addr)) A) (n - k) (xs.drop k) := by
  refine ⟨by rw [List.length_drop, h.1], fun hn => ?_⟩
  obtain ⟨b, o, rfl, hb, hcell⟩ := h.2 (by omega)
  rw [if_neg (by omega)]
  refine ⟨b, o + k, by simp, hb, fun j u hu => ?_⟩
  rw [Nat.add_assoc]
  exact hcell _ u (by rw [← hu, List.getElem?_drop])
theorem Reads.lt {A : Option Addr} {n : Nat} {xs : List Value} (h : Reads w A n xs) : 0 < n → ∀ a, A = some a → a.block < w.heap.size := by
  intro hn a ha
  obtain ⟨b, o, e, hb, _⟩ := h.2 hn
  rw [ha] at e; cases e; exact hb
theorem Reads.setCell0 {A : Option Addr} {n : Nat} {xs : List Value} (h : Reads w A n xs) {p : Addr} (hp : 0 < n → ∀ a, A = some a → a.block ≠ p.block) (u : Value) : Reads (w.setCell p u) A n xs := by
  rcases Nat.eq_zero_or_pos n with h0 | h0
  · exact ⟨h.1, fun hn => by omega⟩
  · exact h.setCell (hp h0) u
theorem Reads.only0 {w' : World} {S : List Nat} {A : Option Addr} {n : Nat} {xs : List Value} (h : Reads w A n xs) (ho : Only S w w') (ha : 0 < n → Apart S A) : Reads w' A n xs := by
  rcases Nat.eq_zero_or_pos n with h0 | h0
  · exact ⟨h.1, fun hn => by omega⟩
  · exact h.only ho (ha h0)
theorem apart_drop {A : Option Addr} {k cap g : Nat} (h : ∀ a, A = some a → a.block ≠ g) : ∀ a, (if cap = k then A else Option.map (fun x => (⟨x.block, x.off + k, none⟩ : Addr)) A) = some a → a.block ≠ g := by
  intro a ha
  by_cases hc : cap = k
  · rw [if_pos hc] at ha; exact h a ha
  · rw [if_neg hc] at ha
    cases A with
    | none => simp at ha
    | some x => simp at ha; subst ha; exact h x rfl
end
end Go.Proofs.Ytgadnliogceecaa
