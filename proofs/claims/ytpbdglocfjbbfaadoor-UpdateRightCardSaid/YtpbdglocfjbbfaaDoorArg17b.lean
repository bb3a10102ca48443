/- Rows of requests and of facts that came in: what they read as. -/
import Derived.Test.YtpbdglocfjbbfaaDoorArg17
import Derived.Deep.Slices
namespace Go.Proofs.YtpbdglocfjbbfaaDoor
open Go Go.ChangeShapes Go.WideShapes Go.ChangeAt Go.RowKit
set_option linter.unusedVariables false
set_option linter.unusedSimpArgs false
def ReqsAt (w : World) (A : Option Addr) (n : Nat) : Prop :=
  ∀ k, k < n → ∃ (g o : Nat) (qk qn : Int) (SB : Option Addr) (sl sc : Nat) (l : List UInt8), A = some ⟨g, o, none⟩ ∧ g < w.heap.size ∧ w.rangeAt g (o + k * 3) [i64v qk, i64v qn, .slice SB sl sc] ∧ Reads w SB sl (l.map u8v) ∧ (sl ≤ sc ∧ sc ≤ maxLen)
def FactsAt (w : World) (A : Option Addr) (n : Nat) : Prop :=
  ∀ k, k < n → ∃ (g o : Nat) (f : Fc), A = some ⟨g, o, none⟩ ∧ g < w.heap.size ∧ w.rangeAt g (o + k * 35) f.cells ∧ f.d.length = 32
section
variable {H : Type} {enc : TypeId × Value → H} {W : World} {held : Bool}
theorem reqs_of {fuel : Nat} {cs : List Value} {y : DataW H × List MemPlace} (h : DataW.trod enc Tryd.prog W 0 (fun _ => true) held fuel 42 cs = some y) :
    cs = [.slice none 0 0] ∨ ∃ a len cap, cs = [.slice (some a) len cap] ∧ len ≤ cap ∧ cap ≤ maxLen ∧ ReqsAt W (some a) len := by
  rcases Go.Deep.open_slice Tryd.underlying42 h with ⟨h0, _⟩ | ⟨a, len, cap, m, n, D, Pl, hcs, hb, hl, hm, hmm, hx, hi⟩
  · exact .inl h0
  · refine .inr ⟨a, len, cap, hcs, hl, hm, fun k hk => ?_⟩
    have hmk : k < m := by rw [hmm]; simp only [if_true]; omega
    have hC : Tryd.prog.cellsOf 30 = 3 := by kernel_rfl
    rw [hC] at hi
    obtain ⟨ds, hc, ht⟩ := hi k hmk
    obtain ⟨_, hlen, hat⟩ := World.cells?_some hc
    obtain ⟨qk, qn, SB, sl, sc, l, rfl, hr, hz⟩ := req_of ht
    have hsp : a.spot = none := by
      obtain ⟨ds', hc', -⟩ := hi 0 (Nat.lt_of_le_of_lt (Nat.zero_le _) hmk)
      obtain ⟨-, hlen', hat'⟩ := World.cells?_some hc'
      have h0 := hat' 0 (Nat.zero_lt_succ _)
      rw [List.getElem?_eq_getElem (by omega), Nat.zero_mul] at h0
      have h1 := World.cell?_spot h0
      simpa [Addr.add] using h1
    obtain ⟨g, o, spot⟩ := a
    have hspot : spot = none := hsp
    subst hspot
    have hcell : ∀ j, j < 3 → W.cell? ⟨g, o + k * 3 + j, none⟩ = [i64v qk, i64v qn, .slice SB sl sc][j]? := fun j hj => by
      have q := hat j hj
      rw [add_off, add_off] at q
      exact q
    have hlt := World.block_lt_of_cell? W _ (hcell 0 (by omega))
    refine ⟨g, o, qk, qn, SB, sl, sc, l, rfl, hlt, fun j u hu => ?_, hr, hz⟩
    have hj : j < 3 := by
      rcases Nat.lt_or_ge j 3 with h1 | h1
      · exact h1
      · rw [List.getElem?_eq_none (by simpa using h1)] at hu; cases hu
    rw [hcell j hj]
    exact hu
theorem facts_of {fuel : Nat} {cs : List Value} {y : DataW H × List MemPlace} (h : DataW.trod enc Tryd.prog W 0 (fun _ => true) held fuel 43 cs = some y) :
    cs = [.slice none 0 0] ∨ ∃ a len cap, cs = [.slice (some a) len cap] ∧ len ≤ cap ∧ cap ≤ maxLen ∧ FactsAt W (some a) len := by
  rcases Go.Deep.open_slice Tryd.underlying43 h with ⟨h0, _⟩ | ⟨a, len, cap, m, n, D, Pl, hcs, hb, hl, hm, hmm, hx, hi⟩
  · exact .inl h0
  · refine .inr ⟨a, len, cap, hcs, hl, hm, fun k hk => ?_⟩
    have hmk : k < m := by rw [hmm]; simp only [if_true]; omega
    have hC : Tryd.prog.cellsOf 32 = 35 := by kernel_rfl
    rw [hC] at hi
    obtain ⟨ds, hc, ht⟩ := hi k hmk
    obtain ⟨_, hlen, hat⟩ := World.cells?_some hc
    obtain ⟨f, rfl, hd⟩ := fact_of ht
    have hsp : a.spot = none := by
      obtain ⟨ds', hc', -⟩ := hi 0 (Nat.lt_of_le_of_lt (Nat.zero_le _) hmk)
      obtain ⟨-, hlen', hat'⟩ := World.cells?_some hc'
      have h0 := hat' 0 (by omega)
      rw [List.getElem?_eq_getElem (by omega), Nat.zero_mul] at h0
      have h1 := World.cell?_spot h0
      simpa [Addr.add] using h1
    obtain ⟨g, o, spot⟩ := a
    have hspot : spot = none := hsp
    subst hspot
    have hcell : ∀ j, j < 35 → W.cell? ⟨g, o + k * 35 + j, none⟩ = f.cells[j]? := fun j hj => by
      have q := hat j hj
      rw [add_off, add_off] at q
      exact q
    have hlt := World.block_lt_of_cell? W _ (hcell 0 (by omega))
    refine ⟨g, o, f, rfl, hlt, fun j u hu => ?_, hd⟩
    have hj : j < 35 := by
      rcases Nat.lt_or_ge j 35 with h1 | h1
      · exact h1
      · rw [List.getElem?_eq_none (by rw [Fc.cells_len hd]; exact h1)] at hu; cases hu
    rw [hcell j hj]
    exact hu
end
end Go.Proofs.YtpbdglocfjbbfaaDoor
