/- update.idle, update.alone. -/
import Derived.Test.YtocbahahienigaaDoorUpA
namespace Go.Proofs.YtocbahahienigaaDoor
open Go Go.RowKit
set_option linter.unusedVariables false
set_option linter.unusedSimpArgs false
attribute [local go_sem ↓] sldI_seal sstI_seal
def Mt.idle (m : Mt) : Mt := { m with ph := 0, cm := Img.zero, got := 0, tr := 0 }
theorem Mt.idle_ok {m : Mt} (h : m.Ok) : m.idle.Ok := ⟨h.d0, h.d1, rfl, h.act⟩
theorem Blk.setCells_far {g k : Nat} {t : TypeId} {cs : Array Value} (hk : g ≠ k) : ∀ (l : List Value) (o : Nat) (W : World), Blk W k t cs → Blk (W.setCells g o l) k t cs
  | [], _, _, h => h
  | v :: r, o, W, h => Blk.setCells_far hk r (o + 1) _ (h.far (fun e => hk e.symm) v)
theorem Blk.some {W : World} {g : Nat} {t : TypeId} {m : Mt} (B : Blk W g t m.cells.toArray) (o : m.Ok) (k : Nat) (hk : k < 107) : ∃ u, W.cell? ⟨g, k, none⟩ = some u := by
  rw [B.cell]
  exact ⟨_, Array.getElem?_eq_getElem (by rw [List.size_toArray, Mt.cells_len o]; exact hk)⟩
/-- The other slot has no image. -/
def Mt.alone (m : Mt) : Mt := if m.act = 0 then { m with h1 := Img.zero } else { m with h0 := Img.zero }
end Go.Proofs.YtocbahahienigaaDoor
