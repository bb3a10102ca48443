/- The rows of acts of chapter 19 that came in: what they read as. -/
import Derived.Test.YtlchlcjahndjgaaRowKit
import Derived.Test.YtlchlcjahndjgaaLib
import Derived.Deep.Slices
namespace Go.Proofs.Ytlchlcjahndjgaa
open Go.ChangeShapes Go.WideShapes Go.ChangeAt Go.RowKit
set_option linter.unusedVariables false
set_option linter.unusedSimpArgs false
/-- An act: which way, where, a number, bytes, a mask. -/
structure RAct19 where
  slot : Int
  k : Int
  n : Int
  b : List UInt8
  mask : List UInt8
def ActsAt19 (w : World) (A : Option Addr) (n : Nat) : Prop :=
  ∀ k, k < n → ∃ (g o : Nat) (x : RAct19) (AB : Option Addr) (nb cb : Nat) (AM : Option Addr) (nm cm : Nat) (t : Bool), A = some ⟨g, o, none⟩ ∧ g < w.heap.size ∧
    w.cell? ⟨g, o + k * 6, none⟩ = some (.int .i64 x.slot) ∧ w.cell? ⟨g, o + k * 6 + 1, none⟩ = some (.int .i64 x.k) ∧ w.cell? ⟨g, o + k * 6 + 2, none⟩ = some (.int .i64 x.n) ∧ w.cell? ⟨g, o + k * 6 + 3, none⟩ = some (.slice AB nb cb) ∧ w.cell? ⟨g, o + k * 6 + 4, none⟩ = some (.slice AM nm cm) ∧ w.cell? ⟨g, o + k * 6 + 5, none⟩ = some (.bool t) ∧
    (-9223372036854775808 ≤ x.slot ∧ x.slot ≤ 9223372036854775807) ∧ (-9223372036854775808 ≤ x.k ∧ x.k ≤ 9223372036854775807) ∧ (-9223372036854775808 ≤ x.n ∧ x.n ≤ 9223372036854775807) ∧ (nb ≤ cb ∧ cb ≤ maxLen) ∧ (nm ≤ cm ∧ cm ≤ maxLen) ∧ Reads w AB nb (x.b.map u8v) ∧ Reads w AM nm (x.mask.map u8v)
theorem list6n {α : Type} (l : List α) (h : l.length = 6) : ∃ a b c d e f, l = [a, b, c, d, e, f] := by
  rcases l with _ | ⟨a, _ | ⟨b, _ | ⟨c, _ | ⟨d, _ | ⟨e, _ | ⟨f, _ | ⟨g, l⟩⟩⟩⟩⟩⟩⟩ <;> simp at h
  exact ⟨a, b, c, d, e, f, rfl⟩
section
variable {H : Type} {enc : TypeId × Value → H} {W : World} {sp : Nat → Bool} {held : Bool}
theorem u8s19_of {fuel : Nat} {cs : List Value} {y : DataW H × List MemPlace} (h : DataW.trod enc Try.prog W 0 sp held fuel 29 cs = some y) : ∃ A n c, cs = [.slice A n c] ∧ ∃ l : List UInt8, Reads W A n (l.map u8v) ∧ (n ≤ c ∧ c ≤ maxLen) := by
  rcases open_ints Try.underlying29 Try.underlying5 (by kernel_rfl) h with ⟨hcs, _⟩ | ⟨x, l, c, zs, hcs, _, hl, hm, hz, _, hcell, hwz⟩
  · exact ⟨none, 0, 0, hcs, [], Reads.none_ _, Nat.le_refl _, Nat.zero_le _⟩
  · refine ⟨some x, l, c, hcs, ?_⟩
    have hz2 : l ≤ zs.length := by rw [hz]; split <;> omega
    refine ⟨(zs.take l).map (fun z => UInt8.ofNat z.toNat), ?_, hl, hm⟩
    rw [u8_map (fun z hz' => hwz z (List.mem_of_mem_take hz'))]
    exact reads_of_cells hz2 rfl hcell
theorem acts19_of {fuel : Nat} {cs : List Value} {y : DataW H × List MemPlace} (h : DataW.trod enc Try.prog W 0 (fun _ => true) held fuel 69 cs = some y) :
    cs = [.slice none 0 0] ∨ ∃ a len cap, cs = [.slice (some a) len cap] ∧ len ≤ cap ∧ cap ≤ maxLen ∧ ActsAt19 W (some a) len := by
  rcases Go.Deep.open_slice Try.underlying69 h with ⟨h0, _⟩ | ⟨a, len, cap, m, n, D, Pl, hcs, hb, hl, hm, hmm, hx, hi⟩
  · exact .inl h0
  · refine .inr ⟨a, len, cap, hcs, hl, hm, fun k hk => ?_⟩
    have hmk : k < m := by rw [hmm]; simp only [if_true]; omega
    have hC : Try.prog.cellsOf 71 = 6 := by kernel_rfl
    rw [hC] at hi
    obtain ⟨ds, hc, ht⟩ := hi k hmk
    have c1 : Try.prog.cellsOf 3 = 1 := by kernel_rfl
    have c2 : Try.prog.cellsOf 29 = 1 := by kernel_rfl
    obtain ⟨_, hlen, hat⟩ := World.cells?_some hc
    obtain ⟨xs, q, _, _, _, hxl, hf⟩ := DataW.trod_struct Try.underlying71 ht
    obtain ⟨d0, d1, d2, d3, d4, d5, rfl⟩ := list6n ds hlen
    obtain ⟨x0, x1, x2, x3, x4, x5, rfl⟩ := list6n xs hxl
    have f0 := hf 0 _ rfl
    have f1 := hf 1 _ rfl
    have f2 := hf 2 _ rfl
    have f3 := hf 3 _ rfl
    have f4 := hf 4 _ rfl
    have f5 := hf 5 _ rfl
    have c3 : Try.prog.cellsOf 4 = 1 := by kernel_rfl
    simp [c1, c2, c3] at f0 f1 f2 f3 f4 f5
    obtain ⟨z0, e0, _, w0⟩ := DataW.trod_int Try.underlying3 f0
    obtain ⟨z1, e1, _, w1⟩ := DataW.trod_int Try.underlying3 f1
    obtain ⟨z2, e2, _, w2⟩ := DataW.trod_int Try.underlying3 f2
    obtain ⟨AB, nb, cb, e3, lb, rb, zb⟩ := u8s19_of f3
    obtain ⟨AM, nm, cm, e4, lm, rm, zm⟩ := u8s19_of f4
    obtain ⟨tb, e5, _⟩ := DataW.trod_bool Try.underlying4 f5
    simp only [List.cons.injEq, and_true] at e0 e1 e2 e3 e4 e5
    subst e0 e1 e2 e3 e4 e5
    have k0 := hat 0 (Nat.zero_lt_succ _)
    have k1 := hat 1 (by decide)
    have k2 := hat 2 (by decide)
    have k3 := hat 3 (by decide)
    have k4 := hat 4 (by decide)
    have k5 := hat 5 (by decide)
    clear hf f0 f1 f2 f3 f4 f5 ht hc
    have hsp : a.spot = none := by
      obtain ⟨ds', hc', -⟩ := hi 0 (Nat.lt_of_le_of_lt (Nat.zero_le _) hmk)
      obtain ⟨-, hlen', hat'⟩ := World.cells?_some hc'
      have h0 := hat' 0 (Nat.zero_lt_succ _)
      rw [List.getElem?_eq_getElem (by omega), Nat.zero_mul] at h0
      have h1 := World.cell?_spot h0
      simpa [Addr.add] using h1
    obtain ⟨g, o, spot⟩ := a
    have hspot : spot = none := hsp
    subst hspot
    rw [add_off, add_off] at k0 k1 k2 k3 k4 k5
    have hlt := World.block_lt_of_cell? W _ k0
    exact ⟨g, o, ⟨z0, z1, z2, lb, lm⟩, AB, nb, cb, AM, nm, cm, tb, rfl, hlt, k0, k1, k2, k3, k4, k5, bounds_i64 w0, bounds_i64 w1, bounds_i64 w2, zb, zm, rb, rm⟩
end
end Go.Proofs.Ytlchlcjahndjgaa
