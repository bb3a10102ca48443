/- A Model on the way: its slots laid, its first image told. -/
import Derived.Test.YtpafenlcgcenlaaDoorMdD
import Derived.Laws.CopyOwn
namespace Go.Proofs.YtpafenlcgcenlaaDoor
open Go Go.RowKit
set_option linter.unusedVariables false
set_option linter.unusedSimpArgs false
/-- A copy as one step of a drawn region: only the row turns that is copied into. -/
theorem step_copy_only {P : Program} {ops : Array Oper} {o : Oper} {a : Act} {w : World} {K : Act → World → Prop} {Q : Exit → Act → World → Prop} {E : Prop} (hgd : o.guard = none) (d s : Operand) (dT sT : TypeId)
    (ho : o.op = .call { callee := .builtin .copy, args := #[d, s], argTypes := #[dT, sT] }) (elem : TypeId) (hu : P.underlying dT = some (.slice elem)) (hsz : (P.info? elem).map (·.size) = some 1)
    (dp sp : Option Addr) (dLen dCap sLen sCap : Nat) (hd : a.eval d = .slice dp dLen dCap) (hs : a.eval s = .slice sp sLen sCap)
    (g off : Nat) (cur : List Value) (t : TypeId) (hg : w.heap[g]? = some (.cells cur.toArray t (0, 0))) (cs : List Value) (hn : cs.length = Nat.min sLen dLen)
    (hpos : 0 < cs.length → dp = some ⟨g, off, none⟩ ∧ ∃ ad, sp = some ad ∧ ∀ j v, cs[j]? = some v → w.cell? (ad.add j) = some v)
    (hfit : off + cs.length ≤ cur.length) (h1 : ∀ v ∈ cs, v.oneCell' = true)
    (h : ∀ w', w'.heap[g]? = some (.cells (splice cur off cs).toArray t (0, 0)) → Only [g] w w' → K (a.put o.dst (goInt cs.length)) w') :
    if Region.wanted o (yielded ops a.tmps) = true then Oper.wp P o a w K Q else E := by
  have hw : Region.wanted o (yielded ops a.tmps) = true := by simp [Region.wanted, hgd]
  rw [if_pos hw]
  by_cases h0 : cs.length = 0
  · obtain rfl : cs = [] := List.eq_nil_of_length_eq_zero h0
    have hrun := run_copy_none (P := P) w dT sT o.type elem dp sp dLen dCap sLen sCap hu hsz (by simpa using hn.symm)
    unfold Oper.wp
    simp [execOp, ho, resolve, invoke, builtin, hd, hs, hrun, Result.andThen]
    exact h w (show _ = _ by simpa [splice] using hg) (Only.refl _ _)
  · obtain ⟨rfl, ad, rfl, hsrc⟩ := hpos (by omega)
    have hrun := run_copy_row (P := P) w dT sT o.type elem g off dLen dCap ad sLen sCap cur.toArray t cs hu hsz hg hn hsrc (by simpa using hfit) h1
    unfold Oper.wp
    simp [execOp, ho, resolve, invoke, builtin, hd, hs, hrun, Result.andThen]
    exact h _ (show _ = _ by simpa [splice] using setRow_heap w g _ _ t _ hg) ⟨rfl, rfl, rfl, by simp [World.setRow], fun b _ hb => setRow_other w g b _ (by simpa using hb)⟩
theorem mdC_set0 {cf : List Value} (hc : cf.length = 7) {m : Mt} (h : m.Ok) (s0 s1 v : Value) : (mdC cf m s0 s1).toArray.setIfInBounds 114 v = (mdC cf m v s1).toArray := by
  have hm := Mt.cells_len h
  rw [List.setIfInBounds_toArray]
  congr 1
  unfold mdC
  rw [List.set_append_right _ _ (show cf.length ≤ 114 by omega), hc, List.set_append_right _ _ (show m.cells.length ≤ 114 - 7 by omega), hm]
  rfl
theorem mdC_set1 {cf : List Value} (hc : cf.length = 7) {m : Mt} (h : m.Ok) (s0 s1 v : Value) : (mdC cf m s0 s1).toArray.setIfInBounds 115 v = (mdC cf m s0 v).toArray := by
  have hm := Mt.cells_len h
  rw [List.setIfInBounds_toArray]
  congr 1
  unfold mdC
  rw [List.set_append_right _ _ (show cf.length ≤ 115 by omega), hc, List.set_append_right _ _ (show m.cells.length ≤ 115 - 7 by omega), hm]
  rfl
/-- A repeated byte, in a row of its own. -/
theorem own_rep {w : World} {base g n : Nat} {x : UInt8} (h : Blk w g 5 (List.replicate n (u8v x)).toArray) (hb : base ≤ g) (hn : n ≤ maxLen) : w.ownsRow base 5 1 (.slice (some ⟨g, 0, none⟩) n n) n ((List.replicate n x).map u8v) := by
  refine ⟨by simp, .inr ⟨g, n, _, rfl, hb, h, Nat.le_refl _, hn, by simp, ?_⟩⟩
  rw [List.map_replicate, Nat.mul_one]
  exact List.take_of_length_le (by simp)
theorem own_noneM {w : World} {base : Nat} {e : TypeId} : w.ownsRow base e 1 (.slice none 0 0) 0 (([] : List UInt8).map u8v) := World.ownsRow_nil _ _ _ _
/-- Only one cell of a block that is no row of bytes turns: rows of bytes stand. -/
theorem own_setM {w : World} {base b j n c : Nat} {A : Option Addr} {xs : List Value} {cs : Array Value} {t : TypeId} (h : w.ownsRow base 5 1 (.slice A n c) n xs) (hb : Blk w b t cs) (ht : t ≠ 5) (v : Value) : (w.setCell ⟨b, j, none⟩ v).ownsRow base 5 1 (.slice A n c) n xs :=
  own_only h ((Only.refl [b] w).setCell (.inl (by simp)) v) (fun k hk => by
    simp only [List.mem_cons, List.not_mem_nil, or_false]
    rintro rfl
    exact own_blk_ne h hb (Ne.symm ht) hk)
section
variable {w w' : World} {B b : Nat} {c : Cf} {m : Mt} {l0 l1 : List UInt8} {K F S0 S1 : Option Addr} {kc fc c0 c1 : Nat}
theorem MdAt.setS0 (h : MdAt w B b c m l0 l1 K kc F fc S0 c0 S1 c1) {A : Option Addr} {n cc : Nat} {l : List UInt8} (hl : l.length = n) (ho : w.ownsRow B 5 1 (.slice A n cc) n (l.map u8v)) (hf : ∀ k, (Value.slice A n cc).ownBlock = some k → (Value.slice K c.key.length kc).ownBlock ≠ some k ∧ (Value.slice S1 l1.length c1).ownBlock ≠ some k) : MdAt (w.setCell ⟨b, 114, none⟩ (.slice A n cc)) B b c m l l1 K kc F fc A cc S1 c1 := by
  subst hl
  refine ⟨?_, h.ok, own_setM h.key h.blk (by decide) _, own_setM ho h.blk (by decide) _, own_setM h.s1 h.blk (by decide) _, h.ge, hf, h.ap1⟩
  have := h.blk.set_ 114 (.slice A l.length cc)
  rwa [mdC_set0 (c.cells_len K kc F fc) h.ok] at this
theorem MdAt.setS1 (h : MdAt w B b c m l0 l1 K kc F fc S0 c0 S1 c1) {A : Option Addr} {n cc : Nat} {l : List UInt8} (hl : l.length = n) (ho : w.ownsRow B 5 1 (.slice A n cc) n (l.map u8v)) (hf : ∀ k, (Value.slice A n cc).ownBlock = some k → (Value.slice K c.key.length kc).ownBlock ≠ some k ∧ (Value.slice S0 l0.length c0).ownBlock ≠ some k) : MdAt (w.setCell ⟨b, 115, none⟩ (.slice A n cc)) B b c m l0 l K kc F fc S0 c0 A cc := by
  subst hl
  refine ⟨?_, h.ok, own_setM h.key h.blk (by decide) _, own_setM h.s0 h.blk (by decide) _, own_setM ho h.blk (by decide) _, h.ge, fun k hk => ⟨(h.ap0 k hk).1, fun e => (hf k e).2 hk⟩, fun k hk => (hf k hk).1⟩
  have := h.blk.set_ 115 (.slice A l.length cc)
  rwa [mdC_set1 (c.cells_len K kc F fc) h.ok] at this
end
/-- A row of bytes that was copied into. -/
theorem own_splice {w w' : World} {base g n cap off : Nat} {l f : List UInt8} {cur : List Value} (h : w.ownsRow base 5 1 (.slice (some ⟨g, 0, none⟩) n cap) n (l.map u8v)) (hc : w.heap[g]? = some (.cells cur.toArray 5 (0, 0))) (hf : off + f.length ≤ n) (hg : w'.heap[g]? = some (.cells (splice cur off (f.map u8v)).toArray 5 (0, 0))) : w'.ownsRow base 5 1 (.slice (some ⟨g, 0, none⟩) n cap) n ((l.take off ++ f ++ l.drop (off + f.length)).map u8v) := by
  have hl : l.length = n := by have := h.1; rw [List.length_map, Nat.mul_one] at this; exact this
  rcases h.2 with ⟨h1, _⟩ | ⟨g', cap', cur', hv, hb, hh, hn, hm, hs, ht⟩
  · cases h1
  · injection hv with e1 _ e2
    injection e1 with e1
    injection e1 with e1
    subst e1 e2
    rw [hc] at hh
    injection hh with hh
    injection hh with hh
    subst hh
    rw [List.size_toArray, Nat.mul_one] at hs
    rw [Nat.mul_one] at ht
    have ht2 : cur.take n = l.map u8v := ht
    refine ⟨by simp; omega, .inr ⟨g, cap, _, rfl, hb, hg, hn, hm, ?_, ?_⟩⟩
    · rw [List.size_toArray]; unfold splice; simp; omega
    · show (splice cur off (f.map u8v)).take (n * 1) = _
      rw [Nat.mul_one]
      unfold splice
      have e1 : cur.take off = (l.take off).map u8v := by
        rw [List.map_take, ← ht2, List.take_take, Nat.min_eq_left (by omega)]
      have e2 : (cur.drop (off + f.length)).take (n - (off + f.length)) = (l.drop (off + f.length)).map u8v := by
        rw [List.map_drop, ← ht2, List.drop_take]
      rw [List.length_map, List.map_append, List.map_append, ← e1, ← e2, List.take_append, List.take_append]
      have q1 : (cur.take off).length = off := by rw [List.length_take]; omega
      rw [q1, List.length_map, List.take_of_length_le (l := cur.take off) (by rw [q1]; omega), List.take_of_length_le (l := f.map u8v) (by rw [List.length_map]; omega), List.append_assoc]
      congr 2
      congr 1
      omega
end Go.Proofs.YtpafenlcgcenlaaDoor
