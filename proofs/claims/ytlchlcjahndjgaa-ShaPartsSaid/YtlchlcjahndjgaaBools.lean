/- A slice of bools that came in: what it reads as. -/
import Derived.Test.YtlchlcjahndjgaaL3p
import Derived.Test.YtlchlcjahndjgaaRowKit
import Derived.Deep.Slices
namespace Go.Proofs.Ytlchlcjahndjgaa
open Go.ChangeShapes Go.WideShapes Go.ChangeAt Go.RowKit
set_option linter.unusedVariables false
set_option linter.unusedSimpArgs false
section
variable {H : Type} {enc : TypeId × Value → H} {W : World} {sp : Nat → Bool} {held : Bool}
theorem bools_of {fuel : Nat} {cs : List Value} {y : DataW H × List MemPlace} (h : DataW.trod enc Try.prog W 0 (fun _ => true) held fuel 23 cs = some y) :
    cs = [.slice none 0 0] ∨ ∃ a len cap, cs = [.slice (some a) len cap] ∧ len ≤ cap ∧ cap ≤ maxLen ∧ ∃ l : List Bool, Reads W (some a) len (l.map boolv) := by
  rcases Go.Deep.open_slice Try.underlying23 h with ⟨h0, _⟩ | ⟨a, len, cap, m, n, D, Pl, hcs, hb, hl, hm, hmm, hx, hi⟩
  · exact .inl h0
  · refine .inr ⟨a, len, cap, hcs, hl, hm, ?_⟩
    have hmk : len ≤ m := by rw [hmm]; simp only [if_true]; omega
    have hC : Try.prog.cellsOf 4 = 1 := by kernel_rfl
    rw [hC] at hi
    have hex : ∀ k, k < len → ∃ t : Bool, W.cell? (a.add k) = some (.bool t) := fun k hk => by
      obtain ⟨ds, hc, ht⟩ := hi k (by omega)
      obtain ⟨_, hlen, hat⟩ := World.cells?_some hc
      have k0 := hat 0 (by omega)
      obtain ⟨tb, e5, _⟩ := DataW.trod_bool Try.underlying4 ht
      subst e5
      refine ⟨tb, ?_⟩
      simpa [Addr.add] using k0
    have hl2 : ∃ l : List Bool, l.length = len ∧ ∀ k, k < len → W.cell? (a.add k) = some (.bool (l.getD k false)) := by
      clear hi hx hmm hmk hl hm hcs h hb
      induction len with
      | zero => exact ⟨[], rfl, fun k hk => absurd hk (by omega)⟩
      | succ j ih =>
        obtain ⟨l, h1, h2⟩ := ih (fun k hk => hex k (by omega))
        obtain ⟨t, ht⟩ := hex j (by omega)
        refine ⟨l ++ [t], by simp [h1], fun k hk => ?_⟩
        by_cases hkj : k < j
        · rw [h2 k hkj, List.getD_eq_getElem?_getD, List.getD_eq_getElem?_getD, List.getElem?_append_left (by omega)]
        · obtain rfl : k = j := by omega
          rw [ht, List.getD_eq_getElem?_getD, List.getElem?_append_right (by omega), h1]
          simp
    obtain ⟨l, h1, h2⟩ := hl2
    refine ⟨l, by simp [h1], fun hn => ?_⟩
    have hc0 := h2 0 hn
    obtain ⟨b, off, spot⟩ := a
    have hspot : spot = none := by simpa [Addr.add] using World.cell?_spot hc0
    subst hspot
    have hlt := World.block_lt_of_cell? W _ hc0
    refine ⟨b, off, rfl, hlt, fun j u hu => ?_⟩
    have hj : j < l.length := by
      have := (List.getElem?_eq_some_iff.1 hu).1
      simpa using this
    have h3 := h2 j (by omega)
    rw [add_off] at h3
    rw [h3, ← hu, List.getElem?_map, List.getD_eq_getElem?_getD, List.getElem?_eq_getElem hj]
    rfl
end
theorem shaParts_c (A0 A1 : Option Addr) (n0 c0 n1 c1 : Nat) (ls : List (List UInt8)) (l1 : List Bool) (w : World) (r0 : Rows2 w A0 n0 ls) (r1 : Reads w A1 n1 (l1.map boolv)) :
    Calls Try.prog 3 #[.slice A0 n0 c0, .slice A1 n1 c1] w fun e w' => e = .returned (.bool true) ∧ Below w.heap.size w w' := by
  by_cases hg : 20 < n0 ∨ n1 < n0
  · exact shaParts_off A0 A1 n0 c0 n1 c1 w hg
  · by_cases h0 : n0 = 0
    · subst h0
      exact shaParts_none A0 A1 c0 n1 c1 w
    · obtain ⟨b0, o0, _, _, _, e0, _⟩ := r0.2 0 (by omega)
      obtain ⟨b1, o1, _, e1, _⟩ := r1.at_ (show 0 < n1 by omega)
      subst e0 e1
      exact shaParts_some b0 o0 b1 o1 n0 c0 n1 c1 ls l1 w r0 r1 (by omega) (by omega)
end Go.Proofs.Ytlchlcjahndjgaa
