/- A Model as data: its hundred and sixteen cells, its two slots. -/
import Derived.Test.YtpafenlcgcenlaaDoorCpB
import Derived.Test.YtpafenlcgcenlaaDoorUpP
namespace Go.Proofs.YtpafenlcgcenlaaDoor
open Go Go.RowKit
set_option linter.unusedVariables false
set_option linter.unusedSimpArgs false
theorem Cf.cells_len (c : Cf) (K : Option Addr) (kc : Nat) (F : Option Addr) (fc : Nat) : (c.cells K kc F fc).length = 7 := rfl
/-- A Model's cells. -/
def mdC (cf : List Value) (m : Mt) (s0 s1 : Value) : List Value := cf ++ (m.cells ++ [s0, s1])
theorem mdC_len {cf : List Value} (hc : cf.length = 7) {m : Mt} (h : m.Ok) (s0 s1 : Value) : (mdC cf m s0 s1).length = 116 := by
  unfold mdC
  rw [List.length_append, List.length_append, hc, Mt.cells_len h]
  rfl
theorem info_sMd : (Tryd.prog.info? 48).map (·.size) = some 116 := by kernel_rfl
theorem info_sCf : (Tryd.prog.info? 27).map (·.size) = some 7 := by kernel_rfl
/-- A Model in the world: its block, its key, its slots in rows of their own. -/
structure MdAt (w : World) (B b : Nat) (c : Cf) (m : Mt) (l0 l1 : List UInt8) (K : Option Addr) (kc : Nat) (F : Option Addr) (fc : Nat) (S0 : Option Addr) (c0 : Nat) (S1 : Option Addr) (c1 : Nat) : Prop where
  blk : Blk w b 48 (mdC (c.cells K kc F fc) m (.slice S0 l0.length c0) (.slice S1 l1.length c1)).toArray
  ok : m.Ok
  key : w.ownsRow B 5 1 (.slice K c.key.length kc) c.key.length (c.key.map u8v)
  s0 : w.ownsRow B 5 1 (.slice S0 l0.length c0) l0.length (l0.map u8v)
  s1 : w.ownsRow B 5 1 (.slice S1 l1.length c1) l1.length (l1.map u8v)
  ge : B ≤ b
  ap0 : ∀ k, (Value.slice S0 l0.length c0).ownBlock = some k → (Value.slice K c.key.length kc).ownBlock ≠ some k ∧ (Value.slice S1 l1.length c1).ownBlock ≠ some k
  ap1 : ∀ k, (Value.slice S1 l1.length c1).ownBlock = some k → (Value.slice K c.key.length kc).ownBlock ≠ some k
section
variable {w w' : World} {B b : Nat} {c : Cf} {m : Mt} {l0 l1 : List UInt8} {K F S0 S1 : Option Addr} {kc fc c0 c1 : Nat}
theorem MdAt.below (h : MdAt w B b c m l0 l1 K kc F fc S0 c0 S1 c1) (hb : Below w.heap.size w w') : MdAt w' B b c m l0 l1 K kc F fc S0 c0 S1 c1 :=
  ⟨h.blk.below hb h.blk.lt, h.ok, own_only h.key (Only.of_below (S := []) hb) (by simp), own_only h.s0 (Only.of_below (S := []) hb) (by simp), own_only h.s1 (Only.of_below (S := []) hb) (by simp), h.ge, h.ap0, h.ap1⟩
/-- A new block is none of its rows. -/
theorem MdAt.fresh (h : MdAt w B b c m l0 l1 K kc F fc S0 c0 S1 c1) (k : Nat) (hk : w.heap.size ≤ k) : (Value.slice K c.key.length kc).ownBlock ≠ some k ∧ (Value.slice S0 l0.length c0).ownBlock ≠ some k ∧ (Value.slice S1 l1.length c1).ownBlock ≠ some k :=
  ⟨fun e => by have := (h.key.lt k e).2; omega, fun e => by have := (h.s0.lt k e).2; omega, fun e => by have := (h.s1.lt k e).2; omega⟩
/-- The cells ahead of the Meta. -/
theorem MdAt.cellC (h : MdAt w B b c m l0 l1 K kc F fc S0 c0 S1 c1) (k : Nat) (hk : k < 7) : w.cell? ⟨b, k, none⟩ = (c.cells K kc F fc)[k]? := by
  rw [h.blk.cell k, List.getElem?_toArray]
  unfold mdC
  rw [List.getElem?_append_left (by rw [Cf.cells_len]; exact hk)]
theorem MdAt.cellM (h : MdAt w B b c m l0 l1 K kc F fc S0 c0 S1 c1) (k : Nat) (hk : k < 107) : w.cell? ⟨b, 7 + k, none⟩ = m.cells[k]? := by
  have hm := Mt.cells_len h.ok
  rw [h.blk.cell (7 + k), List.getElem?_toArray]
  unfold mdC
  rw [List.getElem?_append_right (by rw [Cf.cells_len]; omega), Cf.cells_len, show 7 + k - 7 = k from by omega, List.getElem?_append_left (by omega)]
theorem MdAt.cell0 (h : MdAt w B b c m l0 l1 K kc F fc S0 c0 S1 c1) : w.cell? ⟨b, 114, none⟩ = some (.slice S0 l0.length c0) := by
  have hm := Mt.cells_len h.ok
  rw [h.blk.cell 114, List.getElem?_toArray]
  unfold mdC
  rw [List.getElem?_append_right (by rw [Cf.cells_len]; omega), Cf.cells_len, List.getElem?_append_right (by omega), hm]
  rfl
theorem MdAt.cell1 (h : MdAt w B b c m l0 l1 K kc F fc S0 c0 S1 c1) : w.cell? ⟨b, 115, none⟩ = some (.slice S1 l1.length c1) := by
  have hm := Mt.cells_len h.ok
  rw [h.blk.cell 115, List.getElem?_toArray]
  unfold mdC
  rw [List.getElem?_append_right (by rw [Cf.cells_len]; omega), Cf.cells_len, List.getElem?_append_right (by omega), hm]
  rfl
theorem MdAt.range (h : MdAt w B b c m l0 l1 K kc F fc S0 c0 S1 c1) : w.rangeAt b 7 m.cells := fun j v hj => by
  have hm := Mt.cells_len h.ok
  have hlt : j < 107 := by
    rcases Nat.lt_or_ge j 107 with q | q
    · exact q
    · rw [List.getElem?_eq_none (by omega)] at hj; cases hj
  rw [h.cellM j hlt, hj]
end
end Go.Proofs.YtpafenlcgcenlaaDoor
