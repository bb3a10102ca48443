/- A drawn region with held facts: one operation taken first, in few words. · A drawn region with held facts: the condition made stronger on the way. -/
import Derived.Deep.RegionHeld3
import Derived.Deep.DrawnRows
namespace Go.Proofs.YtpafenlcgcenlaaGreatDoor
open Go
section
variable {P : Program} {ops : Array Oper} {Q : Exit → Act → World → Prop} {S : World → Prop}
theorem tk (i : Nat) {oi : Oper} {v : Value} {fuel : Nat} {listed : Array Bool} {a b : Act} {w : World} (hi : ops[i]? = some oi := by exact rfl)
    (hs : Region.noSelect ops = true := by kernel_rfl) (hf : Region.free .any ops listed i = true := by kernel_rfl) (hr : (Region.ready .any ops listed).contains i = true := by kernel_rfl)
    (hQ : ∀ c a w, Q (.panic c) (a.put oi.dst v) w → Q (.panic c) a w := by exact fun _ _ _ h => h) (hg : Region.wanted oi (yielded ops a.tmps) = true := by exact rfl) (hS : S w := by assumption)
    (hy : ∀ w, S w → (execOp a.eval oi).run P w = Result.ok (Next.value v) w := by (intro w hSw; (try dsimp only at hSw); go_simp; all_goals with_reducible rfl))
    (hb : a.put oi.dst v = b := by (simp only [Act.put, List.getElem_toArray, List.getElem_cons_succ, List.getElem_cons_zero, List.setIfInBounds_toArray, List.set_cons_zero, List.set_cons_succ]; rfl))
    (h : wpAnyH P .any ops Q S fuel (listed.setIfInBounds i true) b w) : wpAnyH P .any ops Q S (fuel + 1) listed a w := by
  subst hb
  exact wpAnyH_take hi hs hf hr hQ (Or.inl ⟨hg, hy⟩) hS h
/-- An operation whose guard is off. -/
theorem sk (i : Nat) {oi : Oper} {fuel : Nat} {listed : Array Bool} {a b : Act} {w : World} (hi : ops[i]? = some oi := by exact rfl)
    (hs : Region.noSelect ops = true := by kernel_rfl) (hf : Region.free .any ops listed i = true := by kernel_rfl) (hr : (Region.ready .any ops listed).contains i = true := by kernel_rfl)
    (hQ : ∀ c a w, Q (.panic c) (a.put oi.dst undef) w → Q (.panic c) a w := by exact fun _ _ _ h => h) (hg : Region.wanted oi (yielded ops a.tmps) = false := by exact rfl) (hS : S w := by assumption)
    (hb : a.put oi.dst undef = b := by (simp only [Act.put, List.getElem_toArray, List.getElem_cons_succ, List.getElem_cons_zero, List.setIfInBounds_toArray, List.set_cons_zero, List.set_cons_succ]; rfl))
    (h : wpAnyH P .any ops Q S fuel (listed.setIfInBounds i true) b w) : wpAnyH P .any ops Q S (fuel + 1) listed a w := by
  subst hb
  exact wpAnyH_take hi hs hf hr hQ (Or.inr ⟨hg, rfl⟩) hS h
/-- The one operation that may come up. -/
theorem rd (i : Nat) {o : Oper} {fuel : Nat} {listed : Array Bool} {a : Act} {w : World} (hi : ops[i]? = some o := by exact rfl) (hr : Region.ready .any ops listed = [i] := by kernel_rfl)
    (h : ∀ K' : Act → World → Prop, Shut (∀ a w, S w → (S w → wpAnyH P .any ops Q S fuel (listed.setIfInBounds i true) a w) → K' a w) → if Region.wanted o (yielded ops a.tmps) = true then Oper.wp P o a w K' Q else K' (a.put o.dst undef) w) : wpAnyH P .any ops Q S (fuel + 1) listed a w :=
  wpAnyH_ready hr (by simp) (AllReadyH.cons hi h AllReadyH.nil)
/-- Back into the region. -/
theorem so {K : Act → World → Prop} {fuel : Nat} {listed : Array Bool} {a b : Act} {w : World} (hK : Shut (∀ a w, S w → (S w → wpAnyH P .any ops Q S fuel listed a w) → K a w)) (hS : S w)
    (hb : a = b := by ((try simp only [Act.put, List.getElem_toArray, List.getElem_cons_succ, List.getElem_cons_zero, List.setIfInBounds_toArray, List.set_cons_zero, List.set_cons_succ]); rfl))
    (h : S w → wpAnyH P .any ops Q S fuel listed b w) : K a w := by
  subst hb
  exact hK.out _ _ hS h
end
end Go.Proofs.YtpafenlcgcenlaaGreatDoor
namespace Go.Proofs.YtpafenlcgcenlaaGreatDoor
open Go
section
variable {P : Program} {ops : Array Oper} {Q : Exit → Act → World → Prop} {md : Region.Mode} {S S' : World → Prop}
theorem wpAnyH_more (hss : ∀ w, S' w → S w) : ∀ (fuel : Nat) (listed : Array Bool) (a : Act) (w : World), wpAnyH P md ops Q S' fuel listed a w → wpAnyH P md ops Q S fuel listed a w
  | 0, _, _, _, h => h
  | fuel + 1, _, _, _, h => ⟨h.1, fun i hi => wpOp_mono (fun a' w' h' => ⟨hss _ h'.1, wpAnyH_more hss fuel _ a' w' h'.2⟩) (h.2 i hi)⟩
end
end Go.Proofs.YtpafenlcgcenlaaGreatDoor
