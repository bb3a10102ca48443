/- A row of steps that came in: what it reads as. -/
import Derived.Test.YthidjmdcpdhdlaaDoorL26s
import Derived.Test.YthidjmdcpdhdlaaDoorRowKit
import Derived.Laws.StructEq
import Derived.ChangeArms
import Derived.OpenShut
import Derived.Deep.Slices
namespace Go.Proofs.YthidjmdcpdhdlaaDoor
open Go Go.ChangeShapes Go.WideShapes Go.ChangeAt Go.RowKit
set_option linter.unusedVariables false
set_option linter.unusedSimpArgs false
theorem split26 (cs : List Value) (a b : Nat) : cs.drop a = (cs.drop a).take b ++ cs.drop (a + b) := by
  rw [← List.drop_drop, List.take_append_drop]
theorem field26 {fs : Array Field} {l : List Field} (h : fs.toList = l) (i : Nat) (f : Field) (hi : l[i]? = some f) : fs[i]? = some f := by
  rw [← h, Array.getElem?_toList] at hi
  exact hi
theorem fieldsS : Tryd.prog.underlying 36 = some (.struct (Tryd.prog.fieldsOf 36)) := by kernel_rfl
theorem fieldsS_is : ∃ f0 f1 f2 f3 f4 : Field, (Tryd.prog.fieldsOf 36).toList = [f0, f1, f2, f3, f4] ∧ (f0.type = 3 ∧ f0.offset = 0) ∧ (f1.type = 3 ∧ f1.offset = 1) ∧ (f2.type = 3 ∧ f2.offset = 2) ∧ (f3.type = 34 ∧ f3.offset = 3) ∧ (f4.type = 32 ∧ f4.offset = 6) :=
  ⟨{ name := "Kind", type := 3, offset := 0, embedded := false, tag := "", pkgPath := "", byteOffset := 0 }, { name := "Tenant", type := 3, offset := 1, embedded := false, tag := "", pkgPath := "", byteOffset := 8 }, { name := "N", type := 3, offset := 2, embedded := false, tag := "", pkgPath := "", byteOffset := 16 }, { name := "Req", type := 34, offset := 3, embedded := false, tag := "", pkgPath := "", byteOffset := 24 }, { name := "Mask", type := 32, offset := 6, embedded := false, tag := "", pkgPath := "", byteOffset := 64 },
    by kernel_rfl, ⟨rfl, rfl⟩, ⟨rfl, rfl⟩, ⟨rfl, rfl⟩, ⟨rfl, rfl⟩, ⟨rfl, rfl⟩⟩
theorem fieldsR : Tryd.prog.underlying 34 = some (.struct (Tryd.prog.fieldsOf 34)) := by kernel_rfl
theorem fieldsR_is : ∃ f0 f1 f2 : Field, (Tryd.prog.fieldsOf 34).toList = [f0, f1, f2] ∧ (f0.type = 3 ∧ f0.offset = 0) ∧ (f1.type = 3 ∧ f1.offset = 1) ∧ (f2.type = 32 ∧ f2.offset = 2) :=
  ⟨{ name := "Kind", type := 3, offset := 0, embedded := false, tag := "", pkgPath := "", byteOffset := 0 }, { name := "N", type := 3, offset := 1, embedded := false, tag := "", pkgPath := "", byteOffset := 8 }, { name := "Bytes", type := 32, offset := 2, embedded := false, tag := "", pkgPath := "", byteOffset := 16 },
    by kernel_rfl, ⟨rfl, rfl⟩, ⟨rfl, rfl⟩, ⟨rfl, rfl⟩⟩
section
variable {H : Type} {enc : TypeId × Value → H} {W : World} {held : Bool}
theorem int26 {fuel : Nat} {cs : List Value} {y : DataW H × List MemPlace} (h : DataW.trod enc Tryd.prog W 0 (fun _ => true) held fuel 3 cs = some y) : ∃ z : Int, cs = [.int .i64 z] := by
  obtain ⟨z, e, _, wz⟩ := DataW.trod_int Tryd.underlying3 h
  exact ⟨z, e⟩
theorem u8s26 {fuel : Nat} {cs : List Value} {y : DataW H × List MemPlace} (h : DataW.trod enc Tryd.prog W 0 (fun _ => true) held fuel 32 cs = some y) : ∃ (A : Option Addr) (sl sc : Nat), cs = [.slice A sl sc] ∧ ∃ l : List UInt8, Reads W A sl (l.map u8v) ∧ (sl ≤ sc ∧ sc ≤ maxLen) := by
  rcases open_ints Tryd.underlying32 Tryd.underlying5 (by kernel_rfl) h with ⟨hcs, _⟩ | ⟨x, l, c, zs, hcs, _, hl, hm, hz, _, hcell, hwz⟩
  · exact ⟨none, 0, 0, hcs, [], Reads.none_ _, Nat.le_refl _, Nat.zero_le _⟩
  · obtain ⟨lx, lx1, lx2⟩ := row_u8 hl hm (by simpa using hz) hcell hwz
    exact ⟨_, _, _, hcs, lx, lx1, hl, hm⟩
theorem req26 {fuel : Nat} {cs : List Value} {y : DataW H × List MemPlace} (h : DataW.trod enc Tryd.prog W 0 (fun _ => true) held fuel 34 cs = some y) : ∃ (k n : Int) (A : Option Addr) (sl sc : Nat) (l : List UInt8), cs = [.int .i64 k, .int .i64 n, .slice A sl sc] ∧ Reads W A sl (l.map u8v) ∧ (sl ≤ sc ∧ sc ≤ maxLen) := by
  obtain ⟨xs, n, _, _, hlen, hxl, hf⟩ := DataW.trod_struct fieldsR h
  obtain ⟨f0, f1, f2, hfs, ⟨t0, o0⟩, ⟨t1, o1⟩, t2, o2⟩ := fieldsR_is
  have c3 : Tryd.prog.cellsOf 34 = 3 := by kernel_rfl
  have ci : Tryd.prog.cellsOf 3 = 1 := by kernel_rfl
  have cl : Tryd.prog.cellsOf 32 = 1 := by kernel_rfl
  have hs : (Tryd.prog.fieldsOf 34).size = 3 := by rw [← Array.length_toList, hfs]; rfl
  rw [hs] at hxl
  rw [c3] at hlen
  have g0 := hf 0 f0 (field26 hfs 0 f0 rfl)
  have g1 := hf 1 f1 (field26 hfs 1 f1 rfl)
  have g2 := hf 2 f2 (field26 hfs 2 f2 rfl)
  rw [t0, o0, ci, List.getElem?_eq_getElem (by omega)] at g0
  rw [t1, o1, ci, List.getElem?_eq_getElem (by omega)] at g1
  rw [t2, o2, cl, List.getElem?_eq_getElem (by omega)] at g2
  obtain ⟨a, e0⟩ := int26 g0
  obtain ⟨b, e1⟩ := int26 g1
  obtain ⟨A, sl, sc, e2, l, hr, hb⟩ := u8s26 g2
  refine ⟨a, b, A, sl, sc, l, ?_, hr, hb⟩
  have q0 := split26 cs 0 1
  have q1 := split26 cs 1 1
  have q2 := split26 cs 2 1
  rw [List.drop_of_length_le (show cs.length ≤ 2 + 1 by omega), e2] at q2
  rw [e1, q2] at q1
  rw [e0, q1] at q0
  simpa using q0
theorem step26 {fuel : Nat} {cs : List Value} {y : DataW H × List MemPlace} (h : DataW.trod enc Tryd.prog W 0 (fun _ => true) held fuel 36 cs = some y) : ∃ x : Sp, StepC W x cs := by
  obtain ⟨xs, n, _, _, hlen, hxl, hf⟩ := DataW.trod_struct fieldsS h
  obtain ⟨f0, f1, f2, f3, f4, hfs, ⟨t0, o0⟩, ⟨t1, o1⟩, ⟨t2, o2⟩, ⟨t3, o3⟩, t4, o4⟩ := fieldsS_is
  have c7 : Tryd.prog.cellsOf 36 = 7 := by kernel_rfl
  have c3 : Tryd.prog.cellsOf 34 = 3 := by kernel_rfl
  have ci : Tryd.prog.cellsOf 3 = 1 := by kernel_rfl
  have cl : Tryd.prog.cellsOf 32 = 1 := by kernel_rfl
  have hs : (Tryd.prog.fieldsOf 36).size = 5 := by rw [← Array.length_toList, hfs]; rfl
  rw [hs] at hxl
  rw [c7] at hlen
  have g0 := hf 0 f0 (field26 hfs 0 f0 rfl)
  have g1 := hf 1 f1 (field26 hfs 1 f1 rfl)
  have g2 := hf 2 f2 (field26 hfs 2 f2 rfl)
  have g3 := hf 3 f3 (field26 hfs 3 f3 rfl)
  have g4 := hf 4 f4 (field26 hfs 4 f4 rfl)
  rw [t0, o0, ci, List.getElem?_eq_getElem (by omega)] at g0
  rw [t1, o1, ci, List.getElem?_eq_getElem (by omega)] at g1
  rw [t2, o2, ci, List.getElem?_eq_getElem (by omega)] at g2
  rw [t3, o3, c3, List.getElem?_eq_getElem (by omega)] at g3
  rw [t4, o4, cl, List.getElem?_eq_getElem (by omega)] at g4
  obtain ⟨a, e0⟩ := int26 g0
  obtain ⟨b, e1⟩ := int26 g1
  obtain ⟨c, e2⟩ := int26 g2
  obtain ⟨rk, rn, A, sl, sc, l, e3, hr, hb⟩ := req26 g3
  obtain ⟨B, ml, mc, e4, m, hr2, hb2⟩ := u8s26 g4
  have hl1 : l.length = sl := by simpa using hr.len
  have hl2 : m.length = ml := by simpa using hr2.len
  subst hl1 hl2
  refine ⟨⟨a, b, c, rk, rn, l, m⟩, A, sc, B, mc, ?_, hr, hr2, hb, hb2⟩
  have q0 := split26 cs 0 1
  have q1 := split26 cs 1 1
  have q2 := split26 cs 2 1
  have q3 := split26 cs 3 3
  have q4 := split26 cs 6 1
  rw [List.drop_of_length_le (show cs.length ≤ 6 + 1 by omega), e4] at q4
  rw [e3, q4] at q3
  rw [e2, q3] at q2
  rw [e1, q2] at q1
  rw [e0, q1] at q0
  simpa [stC] using q0
/-- Of each place one thing: a list of them. -/
theorem list_of {α : Type} (P : Nat → α → Prop) : ∀ n : Nat, (∀ k, k < n → ∃ x, P k x) → ∃ l : List α, l.length = n ∧ ∀ k x, l[k]? = Option.some x → P k x
  | 0, _ => ⟨[], rfl, fun k x h => by simp at h⟩
  | n + 1, h => by
    obtain ⟨l, h1, h2⟩ := list_of P n (fun k hk => h k (by omega))
    obtain ⟨x, hx⟩ := h n (Nat.lt_succ_self n)
    refine ⟨l ++ [x], by simp [h1], fun k y hy => ?_⟩
    rcases Nat.lt_or_ge k l.length with hk | hk
    · rw [List.getElem?_append_left hk] at hy; exact h2 k y hy
    · rw [List.getElem?_append_right hk] at hy
      have hk0 : k - l.length = 0 := by
        rcases Nat.eq_zero_or_pos (k - l.length) with h0 | h0
        · exact h0
        · rw [List.getElem?_eq_none (by simp; omega)] at hy; cases hy
      rw [hk0] at hy
      have e : x = y := by simpa using hy
      subst e
      rw [show k = n from by omega]
      exact hx
theorem steps_of {fuel : Nat} {cs : List Value} {y : DataW H × List MemPlace} (h : DataW.trod enc Tryd.prog W 0 (fun _ => true) held fuel 23 cs = some y) :
    ∃ (A : Option Addr) (len cap : Nat), cs = [.slice A len cap] ∧ len ≤ cap ∧ cap ≤ maxLen ∧ ∃ l, ReadsS W A len l := by
  rcases Go.Deep.open_slice Tryd.underlying23 h with ⟨h0, _⟩ | ⟨a, len, cap, m, n, D, Pl, hcs, hb, hl, hm, hmm, hx, hi⟩
  · exact ⟨none, 0, 0, h0, Nat.le_refl _, Nat.zero_le _, [], readsS_nil _⟩
  · refine ⟨some a, len, cap, hcs, hl, hm, ?_⟩
    have hC : Tryd.prog.cellsOf 36 = 7 := by kernel_rfl
    rw [hC] at hi
    rcases Nat.eq_zero_or_pos len with h0 | h0
    · subst h0
      exact ⟨[], rfl, fun h => absurd h (by omega)⟩
    have hmk : ∀ k, k < len → k < m := fun k hk => by rw [hmm]; simp only [if_true]; omega
    have hsp : a.spot = none := by
      obtain ⟨ds', hc', -⟩ := hi 0 (hmk 0 h0)
      obtain ⟨-, hlen', hat'⟩ := World.cells?_some hc'
      have h0 := hat' 0 (Nat.zero_lt_succ _)
      rw [List.getElem?_eq_getElem (by omega), Nat.zero_mul] at h0
      have h1 := World.cell?_spot h0
      simpa [Addr.add] using h1
    obtain ⟨g, o, spot⟩ := a
    have hspot : spot = none := hsp
    subst hspot
    have hat : ∀ k, k < len → ∃ x : Sp, ∃ cs, cs.length = 7 ∧ StepC W x cs ∧ W.rangeAt g (o + k * 7) cs := fun k hk => by
      obtain ⟨ds, hc, ht⟩ := hi k (hmk k hk)
      obtain ⟨_, hlen, hat⟩ := World.cells?_some hc
      obtain ⟨x, hxc⟩ := step26 ht
      have h7 : ds.length = 7 := by obtain ⟨A, c, B, d, e, _⟩ := hxc; rw [e]; rfl
      refine ⟨x, ds, h7, hxc, fun j u hu => ?_⟩
      have hj : j < 7 := by
        rcases Nat.lt_or_ge j 7 with h1 | h1
        · exact h1
        · rw [List.getElem?_eq_none (by omega)] at hu; cases hu
      have q := hat j hj
      rw [add_off, add_off] at q
      rw [q, ← hu]
    obtain ⟨l, h1, h2⟩ := list_of _ len hat
    refine ⟨l, h1, fun _ => ⟨g, o, rfl, ?_, h2⟩⟩
    obtain ⟨x, cs0, h7, _, hr⟩ := hat 0 h0
    cases cs0 with
    | nil => simp at h7
    | cons u cs0 => exact World.block_lt_of_cell? W _ (hr 0 u rfl)
end
end Go.Proofs.YthidjmdcpdhdlaaDoor
