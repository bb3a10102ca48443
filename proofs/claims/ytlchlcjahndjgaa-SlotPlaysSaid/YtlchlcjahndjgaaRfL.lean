/- Two flashes beside one another: the program's and the reference's. -/
import Derived.Test.YtlchlcjahndjgaaRfK
namespace Go.Proofs.Ytlchlcjahndjgaa
open Go.RowKit
set_option linter.unusedVariables false
set_option linter.unusedSimpArgs false
theorem Fl.work_mask (F : Fl) (a : Nat) (bs : List UInt8) : (F.work a bs).mask = F.mask ∧ (F.work a bs).far = F.far ∧ (F.work a bs).wear = F.wear := ⟨rfl, rfl, rfl⟩
theorem Fl.program_mask (F : Fl) (x : Int) (bs : List UInt8) : (F.program x bs).mask = F.mask ∧ (F.program x bs).far = F.far ∧ (F.program x bs).wear = F.wear := by
  unfold Fl.program
  split
  · exact ⟨rfl, rfl, rfl⟩
  · split
    · split
      · exact ⟨rfl, rfl, rfl⟩
      · exact ⟨rfl, rfl, rfl⟩
    · exact ⟨rfl, rfl, rfl⟩
theorem Fl.erase_mask (F : Fl) (s : Int) : (F.erase s).mask = F.mask ∧ (F.erase s).far = F.far ∧ (F.erase s).wear.length = F.wear.length := by
  unfold Fl.erase
  split
  · exact ⟨rfl, rfl, rfl⟩
  · split
    · refine ⟨rfl, rfl, ?_⟩
      show (F.wear.set _ _).length = _
      rw [List.length_set]
    · exact ⟨rfl, rfl, rfl⟩
theorem RF.turn_mask (G : RF) (a : Nat) (bs : List UInt8) : (G.turn a bs).mask = G.mask ∧ (G.turn a bs).far = G.far ∧ (G.turn a bs).wear = G.wear := ⟨rfl, rfl, rfl⟩
theorem RF.program_mask (G : RF) (x : Int) (bs : List UInt8) : (G.program x bs).mask = G.mask ∧ (G.program x bs).far = G.far ∧ (G.program x bs).wear = G.wear := by
  unfold RF.program
  split
  · exact ⟨rfl, rfl, rfl⟩
  · split
    · split
      · exact ⟨rfl, rfl, rfl⟩
      · exact ⟨rfl, rfl, rfl⟩
    · exact ⟨rfl, rfl, rfl⟩
theorem RF.erase_mask (G : RF) (s : Int) : (G.erase s).mask = G.mask ∧ (G.erase s).far = G.far ∧ (G.erase s).wear.length = G.wear.length := by
  unfold RF.erase
  split
  · exact ⟨rfl, rfl, rfl⟩
  · split
    · refine ⟨rfl, rfl, ?_⟩
      show (G.wear.set _ _).length = _
      rw [List.length_set]
    · exact ⟨rfl, rfl, rfl⟩
theorem RF.turn_calm (G : RF) (h : G.cutb = true → 0 ≤ G.left) (a : Nat) (bs : List UInt8) : (G.turn a bs).cutb = true → 0 ≤ (G.turn a bs).left := by
  show (G.cutb && !G.now) = true → 0 ≤ (if G.cutb then G.left - 1 else G.left)
  unfold RF.now
  cases hc : G.cutb
  · simp
  · have := h hc
    intro h2
    have h3 : ¬ G.left = 0 := by simpa using h2
    rw [if_pos rfl]
    omega
theorem RF.program_calm (G : RF) (h : G.cutb = true → 0 ≤ G.left) (x : Int) (bs : List UInt8) : (G.program x bs).cutb = true → 0 ≤ (G.program x bs).left := by
  unfold RF.program
  split
  · exact h
  · split
    · split
      · exact RF.turn_calm G h _ _
      · exact h
    · exact h
theorem RF.erase_calm (G : RF) (h : G.cutb = true → 0 ≤ G.left) (s : Int) : (G.erase s).cutb = true → 0 ≤ (G.erase s).left := by
  unfold RF.erase
  split
  · exact h
  · split
    · exact RF.turn_calm (G.worn s.toNat) h _ _
    · exact h
theorem Ar.rprogram_keep (R : Ar) (G : RF) (h : G.cutb = true → 0 ≤ G.left) (s a : Int) (bs : List UInt8) : (R.rprogram G s a bs).mask = G.mask ∧ (R.rprogram G s a bs).far = G.far ∧ (R.rprogram G s a bs).wear = G.wear ∧ ((R.rprogram G s a bs).cutb = true → 0 ≤ (R.rprogram G s a bs).left) := by
  unfold Ar.rprogram
  split
  · obtain ⟨h1, h2, h3⟩ := RF.program_mask G (((R.from_ : Int) + s) * 320 + a) bs
    exact ⟨h1, h2, h3, RF.program_calm G h _ _⟩
  · exact ⟨rfl, rfl, rfl, h⟩
theorem Ar.rerase_keep (R : Ar) (G : RF) (h : G.cutb = true → 0 ≤ G.left) (s : Int) : (R.rerase G s).mask = G.mask ∧ (R.rerase G s).far = G.far ∧ (R.rerase G s).wear.length = G.wear.length ∧ ((R.rerase G s).cutb = true → 0 ≤ (R.rerase G s).left) := by
  unfold Ar.rerase
  split
  · split
    · exact ⟨rfl, rfl, rfl, h⟩
    · obtain ⟨h1, h2, h3⟩ := RF.erase_mask G ((R.from_ : Int) + s)
      exact ⟨h1, h2, h3, RF.erase_calm G h _⟩
  · exact ⟨rfl, rfl, rfl, h⟩
theorem Ar.program_keep (R : Ar) (F : Fl) (s a : Int) (bs : List UInt8) : (R.program F s a bs).mask = F.mask ∧ (R.program F s a bs).far = F.far ∧ (R.program F s a bs).wear = F.wear := by
  unfold Ar.program
  split
  · exact Fl.program_mask F _ _
  · exact ⟨rfl, rfl, rfl⟩
theorem Ar.erase_keep (R : Ar) (F : Fl) (s : Int) : (R.erase F s).mask = F.mask ∧ (R.erase F s).far = F.far ∧ (R.erase F s).wear.length = F.wear.length := by
  unfold Ar.erase
  split
  · split
    · exact ⟨rfl, rfl, rfl⟩
    · exact Fl.erase_mask F _
  · exact ⟨rfl, rfl, rfl⟩
/-- Every sector was erased k times at most. -/
def Fl.upTo (F : Fl) (k : Nat) : Prop := ∀ x ∈ F.wear, x ≤ (k : Int)
theorem Fl.upTo_at {F : Fl} {k : Nat} (h : F.upTo k) (s : Int) : F.wearAt s ≤ (k : Int) := by
  unfold Fl.wearAt
  split
  · rw [List.getD_eq_getElem?_getD]
    by_cases hs : s.toNat < F.wear.length
    · rw [List.getElem?_eq_getElem hs]
      exact h _ (List.getElem_mem hs)
    · rw [List.getElem?_eq_none (by omega)]
      simp
  · omega
theorem Fl.upTo_erase {F : Fl} {k : Nat} (h : F.upTo k) (s : Int) : (F.erase s).upTo (k + 1) := by
  have h0 : F.upTo (k + 1) := fun x hx => by have := h x hx; omega
  unfold Fl.erase
  split
  · exact h0
  · split
    · intro x hx
      have hx2 : x ∈ F.wear.set s.toNat (F.wear.getD s.toNat 0 + 1) := hx
      rcases List.mem_or_eq_of_mem_set hx2 with h4 | h4
      · exact h0 x h4
      · rw [h4, List.getD_eq_getElem?_getD]
        by_cases hs : s.toNat < F.wear.length
        · rw [List.getElem?_eq_getElem hs]
          have := h _ (List.getElem_mem hs)
          simp only [Option.getD_some]
          omega
        · rw [List.getElem?_eq_none (by omega)]
          simp only [Option.getD_none]
          omega
    · exact h0
theorem Fl.upTo_program {F : Fl} {k : Nat} (h : F.upTo k) (x : Int) (bs : List UInt8) : (F.program x bs).upTo k := by
  unfold Fl.upTo
  rw [(Fl.program_mask F x bs).2.2]
  exact h
theorem Fl.upTo_new (n : Int) : (Fl.new n).upTo 0 := by
  intro x hx
  have : x = 0 := (List.mem_replicate.1 hx).2
  omega
/-- The program's area and the reference's, over a flash each. -/
structure Two (w0 w : World) (ab fb bb wb rab rfb rbb rwb : Nat) (R Q : Ar) (F : Fl) (G : RF) : Prop where
  p : HasA w0 w ab fb bb wb R F
  r : RHasA w0 w rab rfb rbb rwb Q G
  d : ∀ k ∈ [ab, fb, bb, wb], k ∉ [rab, rfb, rbb, rwb]
  m1 : F.mask = [] ∨ ∀ k ∈ [rfb, rbb, rwb], k ∈ F.far
  m2 : G.mask = [] ∨ ∀ k ∈ [fb, bb, wb], k ∈ G.far
section
variable {w0 w w' : World} {ab fb bb wb rab rfb rbb rwb : Nat} {R Q : Ar} {F F' : Fl} {G G' : RF}
theorem Two.pop (h : Two w0 w ab fb bb wb rab rfb rbb rwb R Q F G) (hp : HasA w0 w' ab fb bb wb R F') (ho : Only [fb, bb, wb] w w') (hm : F'.mask = [] ∨ ∀ k ∈ [rfb, rbb, rwb], k ∈ F'.far) :
    Two w0 w' ab fb bb wb rab rfb rbb rwb R Q F' G := by
  have d := h.d
  simp only [List.mem_cons, List.not_mem_nil, or_false, forall_eq_or_imp, forall_eq, not_or] at d
  obtain ⟨⟨d11, d12, d13, d14⟩, ⟨d21, d22, d23, d24⟩, ⟨d31, d32, d33, d34⟩, d41, d42, d43, d44⟩ := d
  refine ⟨hp, ⟨h.r.flash.only2 ho ⟨?_, ?_, ?_⟩ h.m2, h.r.calm, h.r.area.only ho ?_, hp.has.below, h.r.ab_, h.r.fb_, h.r.bb_, h.r.wb_, h.r.far⟩, h.d, hm, h.m2⟩
  · simp only [List.mem_cons, List.not_mem_nil, or_false, not_or]; exact ⟨Ne.symm d22, Ne.symm d32, Ne.symm d42⟩
  · simp only [List.mem_cons, List.not_mem_nil, or_false, not_or]; exact ⟨Ne.symm d23, Ne.symm d33, Ne.symm d43⟩
  · simp only [List.mem_cons, List.not_mem_nil, or_false, not_or]; exact ⟨Ne.symm d24, Ne.symm d34, Ne.symm d44⟩
  · simp only [List.mem_cons, List.not_mem_nil, or_false, not_or]; exact ⟨Ne.symm d21, Ne.symm d31, Ne.symm d41⟩
theorem Two.rop (h : Two w0 w ab fb bb wb rab rfb rbb rwb R Q F G) (hr : RHasA w0 w' rab rfb rbb rwb Q G') (ho : Only [rfb, rbb, rwb] w w') (hm : G'.mask = [] ∨ ∀ k ∈ [fb, bb, wb], k ∈ G'.far) :
    Two w0 w' ab fb bb wb rab rfb rbb rwb R Q F G' := by
  have d := h.d
  simp only [List.mem_cons, List.not_mem_nil, or_false, forall_eq_or_imp, forall_eq, not_or] at d
  obtain ⟨⟨d11, d12, d13, d14⟩, ⟨d21, d22, d23, d24⟩, ⟨d31, d32, d33, d34⟩, d41, d42, d43, d44⟩ := d
  refine ⟨⟨⟨h.p.has.flash.only2 ho ⟨?_, ?_, ?_⟩ h.m1, hr.below, h.p.has.fb_, h.p.has.bb_, h.p.has.wb_⟩, h.p.area.only ho ?_, h.p.ab_, h.p.far⟩, hr, h.d, h.m1, hm⟩
  · simp only [List.mem_cons, List.not_mem_nil, or_false, not_or]; exact ⟨d22, d23, d24⟩
  · simp only [List.mem_cons, List.not_mem_nil, or_false, not_or]; exact ⟨d32, d33, d34⟩
  · simp only [List.mem_cons, List.not_mem_nil, or_false, not_or]; exact ⟨d42, d43, d44⟩
  · simp only [List.mem_cons, List.not_mem_nil, or_false, not_or]; exact ⟨d12, d13, d14⟩
theorem Two.later (h : Two w0 w ab fb bb wb rab rfb rbb rwb R Q F G) (hb : Below w.heap.size w w') : Two w0 w' ab fb bb wb rab rfb rbb rwb R Q F G :=
  ⟨h.p.later hb, h.r.later hb, h.d, h.m1, h.m2⟩
theorem Two.alloc (h : Two w0 w ab fb bb wb rab rfb rbb rwb R Q F G) (o : Obj) : Two w0 (w.alloc o) ab fb bb wb rab rfb rbb rwb R Q F G := h.later ((Below.refl _ _).alloc (Nat.le_refl _) o)
theorem Two.drewN (h : Two w0 w ab fb bb wb rab rfb rbb rwb R Q F G) (n : Nat) : Two w0 (w.drewN n) ab fb bb wb rab rfb rbb rwb R Q F G := h.later (below_drewN (Below.refl _ _) n)
theorem Two.lt (h : Two w0 w ab fb bb wb rab rfb rbb rwb R Q F G) : ab < w.heap.size ∧ fb < w.heap.size ∧ bb < w.heap.size ∧ wb < w.heap.size ∧ rab < w.heap.size ∧ rfb < w.heap.size ∧ rbb < w.heap.size ∧ rwb < w.heap.size := by
  obtain ⟨h1, h2, h3⟩ := h.p.has.flash.lt
  obtain ⟨h4, h5, h6⟩ := h.r.flash.lt
  exact ⟨h.p.area.obj.lt, h1, h2, h3, h.r.area.obj.lt, h4, h5, h6⟩
/-- Both, made one behind another. -/
theorem Two.mk1 {w1 w2 w3 w4 : World} (hf : Has w0 w1 fb bb wb F) (hr : RFAt w2 rfb rbb rwb G) (hb2 : Below w1.heap.size w1 w2) (l1 : w1.heap.size ≤ rfb) (l2 : w1.heap.size ≤ rbb) (l3 : w1.heap.size ≤ rwb)
    (hp : HasA w0 w3 ab fb bb wb R F) (hb3 : Below w2.heap.size w2 w3) (l4 : w2.heap.size ≤ ab) (ha : RAt w4 rab rfb Q G.wear.length) (hb4 : Below w3.heap.size w3 w4) (l5 : w3.heap.size ≤ rab) (hc : G.cutb = true → 0 ≤ G.left) (hm1 : F.mask = []) (hm2 : G.mask = []) :
    Two w0 w4 ab fb bb wb rab rfb rbb rwb R Q F G := by
  obtain ⟨a1, a2, a3⟩ := hf.flash.lt
  obtain ⟨a4, a5, a6⟩ := hr.lt
  have s1 := hf.below.size
  have s2 := hb2.size
  have s3 := hb3.size
  have a7 := hp.area.obj.lt
  refine ⟨hp.later hb4, ⟨(hr.below hb3).below hb4, hc, ha, hp.has.below.trans (hb4.mono hp.has.below.size), ?_, ?_, ?_, ?_, ?_⟩, ?_, Or.inl hm1, Or.inl hm2⟩
  · omega
  · omega
  · omega
  · omega
  · simp only [List.mem_cons, List.not_mem_nil, or_false, not_or]; omega
  · intro k hk
    simp only [List.mem_cons, List.not_mem_nil, or_false, not_or] at hk ⊢
    omega
/-- The masks of both lie apart from the other's cells from now on. -/
theorem Two.farther (h : Two w0 w ab fb bb wb rab rfb rbb rwb R Q F G) (hm1 : F.mask = []) (hm2 : G.mask = []) : Two w0 w ab fb bb wb rab rfb rbb rwb R Q { F with far := [rfb, rbb, rwb] } { G with far := [fb, bb, wb] } := by
  obtain ⟨l0, l1, l2, l3, l4, l5, l6, l7⟩ := h.lt
  refine ⟨⟨⟨h.p.has.flash.farther hm1 _ ?_, h.p.has.below, h.p.has.fb_, h.p.has.bb_, h.p.has.wb_⟩, h.p.area, h.p.ab_, h.p.far⟩, ⟨h.r.flash.farther hm2 _ ?_, h.r.calm, h.r.area, h.r.below, h.r.ab_, h.r.fb_, h.r.bb_, h.r.wb_, h.r.far⟩, h.d, Or.inr fun k hk => hk, Or.inr fun k hk => hk⟩
  · intro k hk
    simp only [List.mem_cons, List.not_mem_nil, or_false] at hk
    omega
  · intro k hk
    simp only [List.mem_cons, List.not_mem_nil, or_false] at hk
    omega
end
theorem ints_at {w : World} {b o n k : Nat} {l : List Int} (h : Reads w (some ⟨b, o, none⟩) n (l.map i64v)) (hk : k < l.length) : w.cell? ⟨b, o + k, none⟩ = some (.int .i64 l[k]) := by
  have hl : l.length = n := by simpa using h.len
  obtain ⟨b', o', u, e, -, hu, hcell⟩ := h.at_ (show k < n by omega)
  cases e
  rw [List.getElem?_map, List.getElem?_eq_getElem hk] at hu
  obtain rfl : i64v l[k] = u := by simpa using hu
  exact hcell
end Go.Proofs.Ytlchlcjahndjgaa
