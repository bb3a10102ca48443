/- The rows of acts of chapter 11 that came in: what they read as. -/
import Derived.Test.YtlchlcjahndjgaaGreatRowKit
import Derived.Test.YtlchlcjahndjgaaGreatLib
import Derived.Deep.Slices
namespace Go.Proofs.YtlchlcjahndjgaaGreat
open Go.ChangeShapes Go.WideShapes Go.ChangeAt Go.RowKit
set_option linter.unusedVariables false
set_option linter.unusedSimpArgs false
/-- An act: which way, a number, bytes, a mask. -/
structure RAct where
  way : Int
  n : Int
  b : List UInt8
  mask : List UInt8
def ActsAt (w : World) (A : Option Addr) (n : Nat) : Prop :=
  ∀ k, k < n → ∃ (g o : Nat) (x : RAct) (AB : Option Addr) (nb cb : Nat) (AM : Option Addr) (nm cm : Nat), A = some ⟨g, o, none⟩ ∧ g < w.heap.size ∧
    w.cell? ⟨g, o + k * 4, none⟩ = some (.int .i64 x.way) ∧ w.cell? ⟨g, o + k * 4 + 1, none⟩ = some (.int .i64 x.n) ∧ w.cell? ⟨g, o + k * 4 + 2, none⟩ = some (.slice AB nb cb) ∧ w.cell? ⟨g, o + k * 4 + 3, none⟩ = some (.slice AM nm cm) ∧
    (-9223372036854775808 ≤ x.way ∧ x.way ≤ 9223372036854775807) ∧ (-9223372036854775808 ≤ x.n ∧ x.n ≤ 9223372036854775807) ∧ (nb ≤ cb ∧ cb ≤ maxLen) ∧ (nm ≤ cm ∧ cm ≤ maxLen) ∧ Reads w AB nb (x.b.map u8v) ∧ Reads w AM nm (x.mask.map u8v)
theorem list4 {α : Type} (l : List α) (h : l.length = 4) : ∃ a b c d, l = [a, b, c, d] := by
  rcases l with _ | ⟨a, _ | ⟨b, _ | ⟨c, _ | ⟨d, _ | ⟨e, l⟩⟩⟩⟩⟩ <;> simp at h
  exact ⟨a, b, c, d, rfl⟩
section
variable {H : Type} {enc : TypeId × Value → H} {W : World} {sp : Nat → Bool} {held : Bool}
theorem u8s_of {fuel : Nat} {cs : List Value} {y : DataW H × List MemPlace} (h : DataW.trod enc Tryz.prog W 0 sp held fuel 34 cs = some y) : ∃ A n c, cs = [.slice A n c] ∧ ∃ l : List UInt8, Reads W A n (l.map u8v) ∧ (n ≤ c ∧ c ≤ maxLen) := by
  rcases open_ints Tryz.underlying34 Tryz.underlying5 (by kernel_rfl) h with ⟨hcs, _⟩ | ⟨x, l, c, zs, hcs, _, hl, hm, hz, _, hcell, hwz⟩
  · exact ⟨none, 0, 0, hcs, [], Reads.none_ _, Nat.le_refl _, Nat.zero_le _⟩
  · refine ⟨some x, l, c, hcs, ?_⟩
    have hz2 : l ≤ zs.length := by rw [hz]; split <;> omega
    refine ⟨(zs.take l).map (fun z => UInt8.ofNat z.toNat), ?_, hl, hm⟩
    rw [u8_map (fun z hz' => hwz z (List.mem_of_mem_take hz'))]
    exact reads_of_cells hz2 rfl hcell
theorem acts_of {fuel : Nat} {cs : List Value} {y : DataW H × List MemPlace} (h : DataW.trod enc Tryz.prog W 0 (fun _ => true) held fuel 22 cs = some y) :
    cs = [.slice none 0 0] ∨ ∃ a len cap, cs = [.slice (some a) len cap] ∧ len ≤ cap ∧ cap ≤ maxLen ∧ ActsAt W (some a) len := by
  rcases Go.Deep.open_slice Tryz.underlying22 h with ⟨h0, _⟩ | ⟨a, len, cap, m, n, D, Pl, hcs, hb, hl, hm, hmm, hx, hi⟩
  · exact .inl h0
  · refine .inr ⟨a, len, cap, hcs, hl, hm, fun k hk => ?_⟩
    have hmk : k < m := by rw [hmm]; simp only [if_true]; omega
    have hC : Tryz.prog.cellsOf 36 = 4 := by kernel_rfl
    rw [hC] at hi
    obtain ⟨ds, hc, ht⟩ := hi k hmk
    have c1 : Tryz.prog.cellsOf 3 = 1 := by kernel_rfl
    have c2 : Tryz.prog.cellsOf 34 = 1 := by kernel_rfl
    obtain ⟨_, hlen, hat⟩ := World.cells?_some hc
    obtain ⟨xs, q, _, _, _, hxl, hf⟩ := DataW.trod_struct Tryz.underlying36 ht
    obtain ⟨d0, d1, d2, d3, rfl⟩ := list4 ds hlen
    obtain ⟨x0, x1, x2, x3, rfl⟩ := list4 xs hxl
    have f0 := hf 0 _ rfl
    have f1 := hf 1 _ rfl
    have f2 := hf 2 _ rfl
    have f3 := hf 3 _ rfl
    simp [c1, c2] at f0 f1 f2 f3
    obtain ⟨z0, e0, _, w0⟩ := DataW.trod_int Tryz.underlying3 f0
    obtain ⟨z1, e1, _, w1⟩ := DataW.trod_int Tryz.underlying3 f1
    obtain ⟨AB, nb, cb, e2, lb, rb, zb⟩ := u8s_of f2
    obtain ⟨AM, nm, cm, e3, lm, rm, zm⟩ := u8s_of f3
    simp only [List.cons.injEq, and_true] at e0 e1 e2 e3
    subst e0 e1 e2 e3
    have k0 := hat 0 (by omega)
    have k1 := hat 1 (by omega)
    have k2 := hat 2 (by omega)
    have k3 := hat 3 (by omega)
    clear hf f0 f1 f2 f3 ht hc
    have hsp : a.spot = none := by
      obtain ⟨ds', hc', -⟩ := hi 0 (Nat.lt_of_le_of_lt (Nat.zero_le _) hmk)
      obtain ⟨-, hlen', hat'⟩ := World.cells?_some hc'
      have h0 := hat' 0 (Nat.zero_lt_succ _)
      rw [List.getElem?_eq_getElem (by omega), Nat.zero_mul] at h0
      have h1 := World.cell?_spot h0
      simpa [Addr.add] using h1
    obtain ⟨g, o, spot⟩ := a
    have hspot : spot = none := hsp
    subst hspot
    rw [add_off, add_off] at k0 k1 k2 k3
    have hlt := World.block_lt_of_cell? W _ k0
    exact ⟨g, o, ⟨z0, z1, lb, lm⟩, AB, nb, cb, AM, nm, cm, rfl, hlt, k0, k1, k2, k3, bounds_i64 w0, bounds_i64 w1, zb, zm, rb, rm⟩
end
end Go.Proofs.YtlchlcjahndjgaaGreat
