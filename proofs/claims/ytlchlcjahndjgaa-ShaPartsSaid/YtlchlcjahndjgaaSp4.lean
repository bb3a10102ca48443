/- Both streams beside the bytes that were written: plain steps. -/
import Derived.Test.YtlchlcjahndjgaaSp3
import Derived.Test.YtlchlcjahndjgaaDg2
namespace Go.Proofs.Ytlchlcjahndjgaa
open Go Go.RowKit
set_option linter.unusedVariables false
set_option linter.unusedSimpArgs false
theorem write_hadx (w : World) (sb : Nat) (l : List UInt8) (B : Option Addr) (n c : Nat) (b : List UInt8) (hbn : b.length = n) (h : Had w sb l) (r : Reads w B n (b.map u8v)) (hbp : 0 < n → ∀ a, B = some a → a.block ≠ sb) (hb : n ≤ 274877906944) :
    Calls Try.prog 10 #[.pointer (some ⟨sb, 0, none⟩), .slice B n c] w fun e w' => e = .returned (.tuple #[]) ∧ Had w' sb (l ++ b) ∧ Only [sb] w w' ∧ FarRest w.heap.size w' sb := by
  subst hbn
  have := absorb_rest St.first l
  refine (swrite_x w sb _ _ _ B c b h r hbp (by omega) hb).mono ?_
  rintro e w' ⟨h1, h2, h3, h4⟩
  refine ⟨h1, ?_, h3, h4⟩
  unfold Had
  rw [absorb_append, List.length_append, UInt64.ofNat_add]
  exact h2
theorem write_rhadx (w : World) (sb : Nat) (l : List UInt8) (B : Option Addr) (n c : Nat) (b : List UInt8) (hbn : b.length = n) (h : RHad w sb l) (r : Reads w B n (b.map u8v)) (hbp : 0 < n → ∀ a, B = some a → a.block ≠ sb) (hb : n ≤ 274877906944) :
    Calls Try.prog 11 #[.pointer (some ⟨sb, 0, none⟩), .slice B n c] w fun e w' => e = .returned (.tuple #[]) ∧ RHad w' sb (l ++ b) ∧ Only [sb] w w' ∧ FarRest w.heap.size w' sb := by
  subst hbn
  have := absorb_rest St.first l
  refine (rwrite_x w sb _ _ _ B c b h r hbp (by omega) hb).mono ?_
  rintro e w' ⟨h1, h2, h3, h4⟩
  refine ⟨h1, ?_, h3, h4⟩
  unfold RHad
  rw [absorb_append, List.length_append, UInt64.ofNat_add]
  exact h2
theorem RStreamAt.typed {w : World} {sb : Nat} {s : St} {n : UInt64} {rest : List UInt8} (h : RStreamAt w sb s n rest) : ∃ cs, Blk w sb 88 cs := by
  obtain ⟨A, c, h1, h2, h3⟩ := h.obj
  exact ⟨_, h1⟩
theorem RStreamAt.only {w w' : World} {sb : Nat} {S : List Nat} {s : St} {n : UInt64} {rest : List UInt8} (h : RStreamAt w sb s n rest) (ho : Only S w w') (hs : sb ∉ S) (hS : ∀ k, k ∈ S → ∃ cs t fr, w.heap[k]? = some (.cells cs t fr) ∧ t ≠ 5) : RStreamAt w' sb s n rest := by
  obtain ⟨A, c, h1, h2, h3⟩ := h.obj
  have hap : ∀ a, A = some a → a.block ∉ S := fun a ha hm => by
    obtain ⟨cs, fr, h⟩ := (h3 a ha).2
    obtain ⟨cs', t, fr', h', hne⟩ := hS _ hm
    rw [h] at h'
    injection h' with h'
    injection h' with _ h'
    exact hne h'.symm
  refine ⟨A, c, h1.only ho hs, h2.only ho hap, fun a ha => ⟨(h3 a ha).1, ?_⟩⟩
  obtain ⟨cs, fr, h⟩ := (h3 a ha).2
  exact ⟨cs, fr, by rw [ho.block a.block (Array.getElem?_eq_some_iff.1 h).1 (hap a ha)]; exact h⟩
theorem StreamAt.far {w w' : World} {sb B : Nat} {S : List Nat} {s : St} {n : UInt64} {rest : List UInt8} (h : StreamAt w sb s n rest) (hf : FarRest B w sb) (ho : Only S w w') (hs : sb ∉ S) (hS : ∀ k, k ∈ S → k < B) : StreamAt w' sb s n rest := by
  obtain ⟨A, c, h1, h2, h3⟩ := h.obj
  have hap : ∀ a, A = some a → a.block ∉ S := fun a ha hm => by
    have := hf A rest.length c (by rw [h1.cell]; rfl) a ha
    have := hS _ hm
    omega
  refine ⟨A, c, h1.only ho hs, h2.only ho hap, fun a ha => ⟨(h3 a ha).1, ?_⟩⟩
  obtain ⟨cs, fr, h⟩ := (h3 a ha).2
  exact ⟨cs, fr, by rw [ho.block a.block (Array.getElem?_eq_some_iff.1 h).1 (hap a ha)]; exact h⟩
theorem RStreamAt.far {w w' : World} {sb B : Nat} {S : List Nat} {s : St} {n : UInt64} {rest : List UInt8} (h : RStreamAt w sb s n rest) (hf : FarRest B w sb) (ho : Only S w w') (hs : sb ∉ S) (hS : ∀ k, k ∈ S → k < B) : RStreamAt w' sb s n rest := by
  obtain ⟨A, c, h1, h2, h3⟩ := h.obj
  have hap : ∀ a, A = some a → a.block ∉ S := fun a ha hm => by
    have := hf A rest.length c (by rw [h1.cell]; rfl) a ha
    have := hS _ hm
    omega
  refine ⟨A, c, h1.only ho hs, h2.only ho hap, fun a ha => ⟨(h3 a ha).1, ?_⟩⟩
  obtain ⟨cs, fr, h⟩ := (h3 a ha).2
  exact ⟨cs, fr, by rw [ho.block a.block (Array.getElem?_eq_some_iff.1 h).1 (hap a ha)]; exact h⟩
theorem FarRest.only {w w' : World} {sb B : Nat} {S : List Nat} {t : TypeId} {cs : Array Value} (h : FarRest B w sb) (hb : Blk w sb t cs) (ho : Only S w w') (hs : sb ∉ S) : FarRest B w' sb := fun A n c hc a ha => by
  refine h A n c ?_ a ha
  rw [(hb.only ho hs).cell] at hc
  rw [hb.cell]; exact hc
/-- Both streams have had the bytes L; the slice of them all is the call's own. -/
structure Parts (w0 wr : World) (sb rb : Nat) (Aa : Option Addr) (ca : Nat) (L : List UInt8) : Prop where
  bel : Below w0.heap.size w0 wr
  had : Had wr sb L
  rhad : RHad wr rb L
  own : wr.ownsRow w0.heap.size 5 1 (.slice Aa L.length ca) L.length (L.map u8v)
  s0 : w0.heap.size ≤ sb
  r0 : w0.heap.size ≤ rb
section
variable {w0 wr : World} {sb rb : Nat} {Aa : Option Addr} {ca : Nat} {L : List UInt8}
theorem Parts.ne (h : Parts w0 wr sb rb Aa ca L) : sb ≠ rb := fun e => by
  obtain ⟨c1, h1⟩ := StreamAt.typed h.had
  obtain ⟨c2, h2⟩ := RStreamAt.typed h.rhad
  subst e
  unfold Blk at h1 h2
  rw [h1] at h2
  injection h2 with h2
  injection h2 with _ h2
  exact absurd h2 (by decide)
theorem Parts.later {w' : World} (h : Parts w0 wr sb rb Aa ca L) (hb : Below wr.heap.size wr w') : Parts w0 w' sb rb Aa ca L :=
  ⟨h.bel.trans (hb.mono h.bel.size), h.had.below hb (Nat.le_refl _), h.rhad.below hb (Nat.le_refl _), own_only h.own (Only.of_below (S := []) hb) (by simp), h.s0, h.r0⟩
theorem Parts.rhad5 {w5 : World} (h : Parts w0 wr sb rb Aa ca L) (ho : Only [sb] wr w5) : RHad w5 rb L := by
  refine RStreamAt.only h.rhad ho (by simp; exact fun e => h.ne e.symm) (fun k hk => ?_)
  simp at hk
  subst hk
  obtain ⟨cs, hb⟩ := StreamAt.typed h.had
  exact ⟨cs, _, _, hb, by decide⟩
theorem Parts.own6 {w5 w6 : World} (h : Parts w0 wr sb rb Aa ca L) (ho : Only [sb] wr w5) (ho2 : Only [rb] w5 w6) : w6.ownsRow w0.heap.size 5 1 (.slice Aa L.length ca) L.length (L.map u8v) := by
  obtain ⟨c1, h1⟩ := StreamAt.typed h.had
  have o5 := own_only h.own ho (fun k hk hm => by
    simp at hm
    subst hm
    exact own_blk_ne h.own h1 (by decide) hk)
  obtain ⟨c2, h2⟩ := RStreamAt.typed (h.rhad5 ho)
  exact own_only o5 ho2 (fun k hk hm => by
    simp at hm
    subst hm
    exact own_blk_ne o5 h2 (by decide) hk)
theorem Parts.step {w5 w6 w7 : World} {p : List UInt8} {A7 : Option Addr} {c7 : Nat} (h : Parts w0 wr sb rb Aa ca L) (ho : Only [sb] wr w5) (hh : Had w5 sb (L ++ p)) (hf : FarRest wr.heap.size w5 sb)
    (ho2 : Only [rb] w5 w6) (hh2 : RHad w6 rb (L ++ p)) (hf2 : FarRest w5.heap.size w6 rb) (hg : w6.grownBy w7 (Value.slice Aa L.length ca).ownBlock)
    (how : w7.ownsRow w0.heap.size 5 1 (.slice A7 (L ++ p).length c7) (L ++ p).length ((L ++ p).map u8v)) : Parts w0 w7 sb rb A7 c7 (L ++ p) := by
  have o6 := h.own6 ho ho2
  have hne := h.ne
  have z5 := ho.size
  have z6 := ho2.size
  have zz := h.bel.size
  have hlt := h.own.lt
  have o7 : Only (Value.slice Aa L.length ca).ownBlock.toList w6 w7 := (Only.refl _ _).grown hg (fun g hg => Or.inl (by rw [hg]; simp))
  have hS : ∀ k, k ∈ (Value.slice Aa L.length ca).ownBlock.toList → k < wr.heap.size := fun k hk => by
    have hk2 : (Value.slice Aa L.length ca).ownBlock = some k := by simpa using hk
    exact (hlt k hk2).2
  obtain ⟨c5, b5⟩ := StreamAt.typed hh
  obtain ⟨c6, b6⟩ := RStreamAt.typed hh2
  have h6 : Had w6 sb (L ++ p) := StreamAt.only hh ho2 (by simp; exact hne) (fun k hk => by
    simp at hk
    subst hk
    obtain ⟨cs, hb⟩ := RStreamAt.typed (h.rhad5 ho)
    exact ⟨cs, _, _, hb, by decide⟩)
  have b56 := b5.only ho2 (by simp; exact hne)
  have f6 := hf.only b5 ho2 (by simp; exact hne)
  refine ⟨?_, StreamAt.far h6 f6 o7 (fun hm => ?_) hS, RStreamAt.far hh2 hf2 o7 (fun hm => ?_) (fun k hk => by have := hS k hk; omega), how, h.s0, h.r0⟩
  · have e5 := ho.below h.bel zz (by intro j hj; simp at hj; have := h.s0; omega)
    have e6 := ho2.below e5 e5.size (by intro j hj; simp at hj; have := h.r0; omega)
    exact e6.grown hg e6.size (fun g hg => (o6.lt g hg).1)
  · exact own_blk_ne o6 b56 (by decide) (by simpa using hm)
  · exact own_blk_ne o6 b6 (by decide) (by simpa using hm)
end
end Go.Proofs.Ytlchlcjahndjgaa
