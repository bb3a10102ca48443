/- update.rollback, update.abort. -/
import Derived.Test.YtocbahahienigaaDoorUp6
import Derived.Deep.RegionHeld3
import Derived.Deep.DrawnRows
namespace Go.Proofs.YtocbahahienigaaDoor
open Go Go.RowKit
set_option linter.unusedVariables false
set_option linter.unusedSimpArgs false
attribute [local go_sem ↓] sldI_seal sstI_seal
def wh (b : Bool) (e : Int) : Int := if b = true then e else 0
theorem Mt.alone_ok {m : Mt} (h : m.Ok) : m.alone.Ok := by
  unfold Mt.alone
  split
  · exact ⟨h.d0, rfl, h.d2, h.act⟩
  · exact ⟨rfl, h.d1, h.d2, h.act⟩
theorem oneM_len {m : Mt} (h : m.Ok) (l : List Int) : (oneM m l).length = 110 := by
  unfold oneM
  split
  · exact chg_len h _ _ _
  · exact chg_len Mt.zero_ok _ _ _
theorem oneM_one (m : Mt) (l : List Int) : ∀ u ∈ oneM m l, u.oneCell' = true := by
  unfold oneM
  split
  · exact chg_one _ _ _ _
  · exact chg_one _ _ _ _
/-- Some whole blocks, all of them new since w0. -/
structure Bxs (w0 W : World) (l : List (Nat × TypeId × Array Value)) : Prop where
  all : ∀ x ∈ l, Blk W x.1 x.2.1 x.2.2
  bel : Below w0.heap.size w0 W
section
variable {w0 W W' : World} {l : List (Nat × TypeId × Array Value)} {g : Nat} {t : TypeId} {cs : Array Value}
theorem Bxs.later (h : Bxs w0 W l) (hb : Below W.heap.size W W') : Bxs w0 W' l := ⟨fun x hx => (h.all x hx).below hb (h.all x hx).lt, h.bel.trans (hb.mono h.bel.size)⟩
theorem Bxs.alloc (h : Bxs w0 W l) (o : Obj) : Bxs w0 (W.alloc o) l := h.later ((Below.refl _ _).alloc (Nat.le_refl _) _)
theorem Bxs.drew (h : Bxs w0 W l) : Bxs w0 W.drew l := h.later (Below.refl W.heap.size W).drew
theorem Bxs.hd (h : Bxs w0 W ((g, t, cs) :: l)) : Blk W g t cs := h.all _ (List.mem_cons_self ..)
theorem Bxs.tl {x} (h : Bxs w0 W (x :: l)) : Bxs w0 W l := ⟨fun x hx => h.all x (List.mem_cons_of_mem _ hx), h.bel⟩
theorem Bxs.nil (w0 : World) : Bxs w0 w0 [] := ⟨fun _ h => (by cases h), Below.refl _ _⟩
theorem Bxs.new (h : Bxs w0 W l) (hg : W.heap.size = g) (t : TypeId) (cs : Array Value) : Bxs w0 (W.alloc (.cells cs t)) ((g, t, cs) :: l) := by
  subst hg
  refine ⟨fun x hx => ?_, (h.alloc _).bel⟩
  rcases List.mem_cons.1 hx with rfl | hx
  · exact Blk.new _ _ _
  · exact (h.alloc _).all x hx
theorem Bxs.put (h : Bxs w0 W ((g, t, cs) :: l)) (c2 : Array Value) (hg : w0.heap.size ≤ g) (hl : ∀ x ∈ l, x.1 ≠ g) : Bxs w0 (W.setRow g c2) ((g, t, c2) :: l) := by
  refine ⟨fun x hx => ?_, below_setRow_m h.bel hg _⟩
  rcases List.mem_cons.1 hx with rfl | hx
  · exact h.hd.setRow_m _
  · exact (h.tl.all x hx).setRow_mf _ (hl x hx)
end
theorem alloc_readsV (w : World) (l : List Value) (t : TypeId) : Reads (w.alloc (.cells l.toArray t)) (some ⟨w.heap.size, 0, none⟩) l.length l := by
  refine ⟨by simp, fun _ => ⟨w.heap.size, 0, rfl, by simp, fun j u hu => ?_⟩⟩
  rw [(Blk.new w t l.toArray).cell, List.getElem?_toArray]
  simpa using hu
theorem Bxs.build {w0 W : World} {L : List (Nat × TypeId × Array Value)} (h : Bxs w0 W L) (l : List Value) (t : TypeId) : Reads (W.alloc (.cells l.toArray t)) (some ⟨W.heap.size, 0, none⟩) l.length l ∧ Bxs w0 (W.alloc (.cells l.toArray t)) L :=
  ⟨alloc_readsV _ _ _, h.alloc _⟩
end Go.Proofs.YtocbahahienigaaDoor
