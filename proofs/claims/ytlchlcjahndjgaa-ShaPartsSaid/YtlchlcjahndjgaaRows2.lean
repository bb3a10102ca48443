/- A slice of slices of bytes that came in: what it reads as. -/
import Derived.Test.YtlchlcjahndjgaaRowKit
import Derived.Deep.Matrix
namespace Go.Proofs.Ytlchlcjahndjgaa
open Go.ChangeShapes Go.WideShapes Go.ChangeAt Go.RowKit
set_option linter.unusedVariables false
/-- The slice '.slice A n c' of slices reads as the rows ls. -/
def Rows2 (w : World) (A : Option Addr) (n : Nat) (ls : List (List UInt8)) : Prop :=
  ls.length = n ∧ ∀ j, j < n → ∃ b o Aj nj cj, A = some ⟨b, o, none⟩ ∧ b < w.heap.size ∧ w.cell? ⟨b, o + j, none⟩ = some (.slice Aj nj cj) ∧ nj ≤ cj ∧ cj ≤ maxLen ∧ Reads w Aj nj ((ls.getD j []).map u8v)
theorem Rows2.below {w w' : World} {A : Option Addr} {n : Nat} {ls : List (List UInt8)} (h : Rows2 w A n ls) (hb : Below w.heap.size w w') : Rows2 w' A n ls :=
  ⟨h.1, fun j hj => by
    obtain ⟨b, o, Aj, nj, cj, h1, h2, h3, h4, h5, h6⟩ := h.2 j hj
    exact ⟨b, o, Aj, nj, cj, h1, Nat.lt_of_lt_of_le h2 hb.size, (hb.cell (p := ⟨b, o + j, none⟩) h2).trans h3, h4, h5, h6.below hb⟩⟩
theorem rows2_of {w : World} {x : Addr} {l c : Nat} {A : Nat → Option Addr} {L C : Nat → Nat} {Z : Nat → List Int} (hl : l ≤ c)
    (hrow : ∀ r, r < c → w.cell? (x.add r) = some (.slice (A r) (L r) (C r)) ∧ L r ≤ C r ∧ C r ≤ maxLen ∧ (Z r).length = C r ∧ (∀ n ∈ Z r, (Lit.int .u8 n).wf = true) ∧ (A r = none → C r = 0) ∧
      ∀ a', A r = some a' → 0 ≤ a'.block ∧ ∀ i, i < C r → w.cell? (a'.add i) = some (.int .u8 ((Z r).getD i 0))) :
    ∃ ls, Rows2 w (some x) l ls := by
  refine ⟨(List.range l).map fun j => ((Z j).take (L j)).map (fun z => UInt8.ofNat z.toNat), by simp, fun j hj => ?_⟩
  obtain ⟨b, off, spot⟩ := x
  obtain ⟨h1, h2, h3, h4, h5, h6, h7⟩ := hrow j (by omega)
  have hspot : spot = none := by simpa [Addr.add] using World.cell?_spot (hrow 0 (by omega)).1
  subst hspot
  have hlt := World.block_lt_of_cell? w _ h1
  rw [add_off] at h1 hlt
  refine ⟨b, off, A j, L j, C j, rfl, hlt, h1, h2, h3, ?_⟩
  rw [List.getD_eq_getElem?_getD, List.getElem?_map, List.getElem?_range hj]
  show Reads w (A j) (L j) ((((Z j).take (L j)).map (fun z => UInt8.ofNat z.toNat)).map u8v)
  rw [u8_map (fun z hz => h5 z (List.mem_of_mem_take hz))]
  rcases hA : A j with _ | a'
  · have hc := h6 hA
    have hL : L j = 0 := by omega
    rw [hL]
    exact Reads.none_ _
  · exact reads_of_cells h2 h4 (fun i hi => (h7 a' hA).2 i (by omega))
end Go.Proofs.Ytlchlcjahndjgaa
