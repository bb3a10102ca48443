/- Memory words for this seat's walks: slices that read as lists, blocks known whole, frames over a list of blocks. · Contracts of the library's functions that this seat's programs call, at rows of bytes. · Rows and strings: what a slice reads as a string; a row of the call's own. -/
import Derived.Below
import Derived.Laws.OwnMore
import Derived.Deep.AppendLies
import Derived.Deep.Draws
import Derived.Laws.Rows
import Derived.Maps.AppendAt
import Derived.RegionTactic
import Derived.OwnWalk
import Derived.Test.YtpafenlcgcenlaaGreatDoorProg
import Derived.WalkKit
import Derived.WalkSpells
import Derived.WalkLawsBesides
import Derived.Outline
import Derived.Laws.CopyOwn
import Derived.Deep.QuietTactic
import Derived.BigQuiet
import Derived.Lib.Hide
import Derived.Deep.RegionLaw
import Derived.KernelRfl
import Derived.Deep.DeepCutAuto
import Derived.Lib.SlBytesConst
import Derived.Stop.BytesEq
import Derived.Lib.SmallJoins
import Derived.Lib.BufferRead
namespace Go.Proofs.YtpafenlcgcenlaaGreatDoor
open Go.RowKit
set_option linter.unusedVariables false

theorem block_of_add (a : Addr) (n : Nat) : (a.add n).block = a.block := by unfold Addr.add; split <;> rfl
theorem add_zero_off (g j : Nat) : (⟨g, 0, none⟩ : Addr).add j = ⟨g, j, none⟩ := by
  unfold Addr.add; split <;> simp_all
theorem add_off (g o j : Nat) : (⟨g, o, none⟩ : Addr).add j = ⟨g, o + j, none⟩ := by
  unfold Addr.add; split <;> simp_all

/-- The slice value '.slice A n c' reads as the cells xs. -/
def Reads (w : World) (A : Option Addr) (n : Nat) (xs : List Value) : Prop :=
  xs.length = n ∧ (0 < n → ∃ b o, A = some ⟨b, o, none⟩ ∧ b < w.heap.size ∧ ∀ j u, xs[j]? = some u → w.cell? ⟨b, o + j, none⟩ = some u)

/-- The block of a slice is none of these. -/
def Apart (S : List Nat) (A : Option Addr) : Prop := ∀ a, A = some a → a.block ∉ S

/-- Only the blocks of S, and new ones, have turned. -/
structure Only (S : List Nat) (w w' : World) : Prop where
  os : w'.os = w.os
  tape : w'.tape = w.tape
  output : w'.output = w.output
  size : w.heap.size ≤ w'.heap.size
  block : ∀ k, k < w.heap.size → k ∉ S → w'.heap[k]? = w.heap[k]?

section
variable {w w' w'' : World} {S S' : List Nat}
theorem Only.refl (S : List Nat) (w : World) : Only S w w := ⟨rfl, rfl, rfl, Nat.le_refl _, fun _ _ _ => rfl⟩
theorem Only.trans (h : Only S w w') (k : Only S w' w'') : Only S w w'' :=
  ⟨k.os.trans h.os, k.tape.trans h.tape, k.output.trans h.output, Nat.le_trans h.size k.size, fun i hi hn => (k.block i (Nat.lt_of_lt_of_le hi h.size) hn).trans (h.block i hi hn)⟩
theorem Only.mono (h : Only S w w') (hs : ∀ k, k ∈ S → k ∈ S' ∨ w.heap.size ≤ k) : Only S' w w' :=
  ⟨h.os, h.tape, h.output, h.size, fun i hi hn => h.block i hi (fun hm => by rcases hs i hm with h1 | h1; exact hn h1; omega)⟩
theorem Only.drew (h : Only S w w') : Only S w w'.drew := ⟨h.os, h.tape, h.output, h.size, h.block⟩
theorem Only.drewN (h : Only S w w') (n : Nat) : Only S w (w'.drewN n) := ⟨h.os, h.tape, h.output, h.size, h.block⟩
theorem Only.alloc (h : Only S w w') (o : Obj) : Only S w (w'.alloc o) :=
  ⟨h.os, h.tape, h.output, Nat.le_trans h.size (by simp), fun i hi hn => (Below.heap_alloc w' o i (Nat.lt_of_lt_of_le hi h.size)).trans (h.block i hi hn)⟩
theorem Only.setCell (h : Only S w w') {p : Addr} (hp : p.block ∈ S ∨ w.heap.size ≤ p.block) (u : Value) : Only S w (w'.setCell p u) :=
  ⟨h.os, h.tape, h.output, by simpa [World.setCell] using h.size, fun i hi hn => (Below.heap_setCell w' p u i (by
    rintro rfl
    rcases hp with hp | hp
    · exact hn hp
    · omega)).trans (h.block i hi hn)⟩
theorem Only.below (h : Only S w w') {B : Nat} {w0 : World} (h0 : Below B w0 w) (hB : B ≤ w.heap.size) (hS : ∀ k, k ∈ S → B ≤ k) : Below B w0 w' :=
  h0.trans ⟨h.os, h.tape, h.output, h.size, fun k hk => h.block k (by omega) (fun hm => by have := hS k hm; omega)⟩
theorem Only.of_below (h : Below w.heap.size w w') : Only S w w' := ⟨h.os, h.tape, h.output, h.size, fun k hk _ => h.block k hk⟩
theorem Only.after (h0 : Only S w w') (h : Below w'.heap.size w' w'') : Only S w w'' := h0.trans (Only.of_below h)
theorem Only.grown (h : Only S w w') {row : Option Nat} (hg : w'.grownBy w'' row) (hr : ∀ g, row = some g → g ∈ S ∨ w.heap.size ≤ g) : Only S w w'' :=
  ⟨hg.os.trans h.os, hg.tape.trans h.tape, hg.output.trans h.output, Nat.le_trans h.size hg.size, fun i hi hn => (hg.block i (Nat.lt_of_lt_of_le hi h.size) (fun e => by
    rcases hr i e.symm with h1 | h1
    · exact hn h1
    · omega)).trans (h.block i hi hn)⟩

theorem Reads.none_ (w : World) : Reads w none 0 [] := ⟨by simp, fun h => absurd h (by omega)⟩
theorem Reads.len {A : Option Addr} {n : Nat} {xs : List Value} (h : Reads w A n xs) : xs.length = n := h.1
theorem Reads.keep {A : Option Addr} {n : Nat} {xs : List Value} (h : Reads w A n xs) (hs : w.heap.size ≤ w'.heap.size)
    (hk : ∀ b, b < w.heap.size → (∃ o, A = some ⟨b, o, none⟩) → w'.heap[b]? = w.heap[b]?) : Reads w' A n xs :=
  ⟨h.1, fun hn => by
    obtain ⟨b, o, e, hb, hc⟩ := h.2 hn
    exact ⟨b, o, e, by omega, fun j u hu => (World.cell?_of_block (a := ⟨b, o + j, none⟩) (hk b hb ⟨o, e⟩)).trans (hc j u hu)⟩⟩
theorem Reads.only {A : Option Addr} {n : Nat} {xs : List Value} (h : Reads w A n xs) (ho : Only S w w') (ha : Apart S A) : Reads w' A n xs :=
  h.keep ho.size fun b hb ⟨_, e⟩ => ho.block b hb (ha _ e)
theorem Reads.below {A : Option Addr} {n : Nat} {xs : List Value} (h : Reads w A n xs) (hb : Below w.heap.size w w') : Reads w' A n xs :=
  h.keep hb.size fun b h1 _ => hb.block b h1
theorem Reads.below' {B : Nat} {A : Option Addr} {n : Nat} {xs : List Value} (h : Reads w A n xs) (hb : Below B w w') (hA : ∀ a, A = some a → a.block < B) : Reads w' A n xs :=
  h.keep hb.size fun b _ ⟨_, e⟩ => hb.block b (hA _ e)
theorem Reads.drew {A : Option Addr} {n : Nat} {xs : List Value} (h : Reads w A n xs) : Reads w.drew A n xs := h
theorem Reads.drewN {A : Option Addr} {n : Nat} {xs : List Value} (h : Reads w A n xs) (k : Nat) : Reads (w.drewN k) A n xs := h
theorem Reads.alloc {A : Option Addr} {n : Nat} {xs : List Value} (h : Reads w A n xs) (o : Obj) : Reads (w.alloc o) A n xs :=
  h.keep (by simp) fun b hb _ => Below.heap_alloc w o b hb
theorem Reads.setCell {A : Option Addr} {n : Nat} {xs : List Value} (h : Reads w A n xs) {p : Addr} (hp : ∀ a, A = some a → a.block ≠ p.block) (u : Value) : Reads (w.setCell p u) A n xs :=
  h.keep (by simp [World.setCell]) fun b _ ⟨_, e⟩ => Below.heap_setCell w p u b (fun e2 => hp _ e e2)
theorem Reads.setCellC {A : Option Addr} {n : Nat} {xs : List Value} (h : Reads w A n xs) {p : Addr} (hp : 0 < n → ∀ a, A = some a → a.block ≠ p.block) (u : Value) : Reads (w.setCell p u) A n xs := by
  by_cases hn : 0 < n
  · exact h.setCell (hp hn) u
  · exact ⟨h.1, fun h' => absurd h' hn⟩
theorem Reads.at_ {A : Option Addr} {n k : Nat} {xs : List Value} (h : Reads w A n xs) (hk : k < n) : ∃ b o u, A = some ⟨b, o, none⟩ ∧ b < w.heap.size ∧ xs[k]? = some u ∧ w.cell? ⟨b, o + k, none⟩ = some u := by
  obtain ⟨b, o, e, hb, hc⟩ := h.2 (by omega)
  have hl : k < xs.length := by have := h.1; omega
  exact ⟨b, o, xs[k], e, hb, List.getElem?_eq_getElem hl, hc k _ (List.getElem?_eq_getElem hl)⟩
theorem Reads.of_own {base : Nat} {e : TypeId} {A : Option Addr} {c n : Nat} {xs : List Value} (h : w.ownsRow base e 1 (.slice A n c) n xs) : Reads w A n xs := by
  refine ⟨by simpa using h.1, fun hn => ?_⟩
  obtain ⟨g, cap, hv, _, hlt⟩ := h.form hn
  have hA : A = some ⟨g, 0, none⟩ := by injection hv
  subst hA
  refine ⟨g, 0, rfl, hlt, fun j u hu => ?_⟩
  have := h.cells (g := g) rfl j u hu
  rw [add_zero_off] at this
  simpa using this
theorem Reads.drop {A : Option Addr} {n k cap : Nat} {xs : List Value} (h : Reads w A n xs) (hk : k ≤ n) (hc : n ≤ cap) :
    Reads w (if cap = k then A else A.map (·.add k)) (n - k) (xs.drop k) := by
  refine ⟨by rw [List.length_drop, h.1], fun hn => ?_⟩
  obtain ⟨b, o, rfl, hb, hcell⟩ := h.2 (by omega)
  rw [if_neg (by omega)]
  refine ⟨b, o + k, by simp [add_off], hb, fun j u hu => ?_⟩
  rw [Nat.add_assoc]
  exact hcell _ u (by rw [← hu, List.getElem?_drop])
theorem Reads.take {A : Option Addr} {n k : Nat} {xs : List Value} (h : Reads w A n xs) (hk : k ≤ n) : Reads w A k (xs.take k) := by
  refine ⟨by rw [List.length_take, h.1]; omega, fun hn => ?_⟩
  obtain ⟨b, o, rfl, hb, hcell⟩ := h.2 (by omega)
  refine ⟨b, o, rfl, hb, fun j u hu => hcell _ u ?_⟩
  rw [List.getElem?_take] at hu
  split at hu
  · exact hu
  · cases hu
end

/-- A block known whole, none of it frozen. -/
def Blk (w : World) (g : Nat) (t : TypeId) (cs : Array Value) : Prop := w.heap[g]? = some (.cells cs t (0, 0))

section
variable {w w' : World} {g : Nat} {t : TypeId} {cs : Array Value} {S : List Nat}
theorem Blk.lt (h : Blk w g t cs) : g < w.heap.size := by
  rcases Nat.lt_or_ge g w.heap.size with hlt | hge
  · exact hlt
  · unfold Blk at h; rw [Array.getElem?_eq_none hge] at h; cases h
theorem Blk.cell (h : Blk w g t cs) (i : Nat) : w.cell? ⟨g, i, none⟩ = cs[i]? := cell_of_row w g i cs t (0, 0) h
theorem Blk.frozen (h : Blk w g t cs) (i : Nat) : w.frozen? ⟨g, i, none⟩ = false := by
  unfold Blk at h
  simp [World.frozen?, h]
theorem Blk.new (w : World) (t : TypeId) (cs : Array Value) : Blk (w.alloc (.cells cs t)) w.heap.size t cs := heap_alloc_new w _
theorem Blk.drew (h : Blk w g t cs) : Blk w.drew g t cs := h
theorem Blk.drewN (h : Blk w g t cs) (n : Nat) : Blk (w.drewN n) g t cs := h
theorem Blk.alloc (h : Blk w g t cs) (o : Obj) : Blk (w.alloc o) g t cs := (Below.heap_alloc w o g h.lt).trans h
theorem Blk.set_ (h : Blk w g t cs) (i : Nat) (u : Value) : Blk (w.setCell ⟨g, i, none⟩ u) g t (cs.setIfInBounds i u) := by
  unfold Blk at h ⊢
  simp [World.setCell, Array.getElem?_modify, h]
theorem Blk.far (h : Blk w g t cs) {p : Addr} (hp : g ≠ p.block) (u : Value) : Blk (w.setCell p u) g t cs := (Below.heap_setCell w p u g hp).trans h
theorem Blk.below {B : Nat} (h : Blk w g t cs) (hb : Below B w w') (hg : g < B) : Blk w' g t cs := (hb.block g hg).trans h
theorem Blk.only (h : Blk w g t cs) (hb : Only S w w') (hg : g ∉ S) : Blk w' g t cs := (hb.block g h.lt hg).trans h
theorem Blk.grown {row : Option Nat} (h : Blk w g t cs) (hb : w.grownBy w' row) (hg : some g ≠ row) : Blk w' g t cs := (hb.block g h.lt hg).trans h
theorem Blk.ne_ {g' : Nat} {t' : TypeId} {cs' : Array Value} (h : Blk w g t cs) (h' : Blk w g' t' cs') (hne : t ≠ t') : g ≠ g' := by
  rintro rfl
  unfold Blk at h h'
  rw [h] at h'
  injection h' with h'
  injection h' with _ ht
  exact hne ht
theorem Blk.reads (h : Blk w g t cs) {n : Nat} (o : Nat) (hn : o + n ≤ cs.size) : Reads w (some ⟨g, o, none⟩) n ((cs.toList.drop o).take n) := by
  refine ⟨by simp; omega, fun _ => ⟨g, o, rfl, h.lt, fun j u hu => ?_⟩⟩
  rw [h.cell]
  rw [List.getElem?_take] at hu
  split at hu
  · rw [List.getElem?_drop] at hu
    simpa using hu
  · cases hu
theorem Blk.own (h : Blk w g t cs) {base : Nat} (hb : base ≤ g) (hm : cs.size ≤ maxLen) : w.ownsRow base t 1 (.slice (some ⟨g, 0, none⟩) cs.size cs.size) cs.size cs.toList :=
  ⟨by simp, .inr ⟨g, cs.size, cs, rfl, hb, h, Nat.le_refl _, hm, by simp, by rw [Nat.mul_one, ← Array.length_toList, List.take_length]⟩⟩
theorem own_blk_ne {base : Nat} {e : TypeId} {size n : Nat} {v : Value} {xs : List Value} (h : w.ownsRow base e size v n xs) (hg : Blk w g t cs) (hne : e ≠ t) : v.ownBlock ≠ some g := by
  rcases h.2 with ⟨rfl, _⟩ | ⟨g', cap, cur, rfl, _, hh, _⟩
  · simp [Value.ownBlock]
  · intro he
    have : g' = g := by simpa [Value.ownBlock] using he
    subst this
    exact Blk.ne_ (t := e) hh hg hne rfl
theorem own_only {base : Nat} {e : TypeId} {size n : Nat} {v : Value} {xs : List Value} (h : w.ownsRow base e size v n xs) (ho : Only S w w') (hn : ∀ k, v.ownBlock = some k → k ∉ S) : w'.ownsRow base e size v n xs := by
  refine ⟨h.1, ?_⟩
  rcases h.2 with h0 | ⟨g', cap, cur, rfl, hb, hg, rest⟩
  · exact .inl h0
  · refine .inr ⟨g', cap, cur, rfl, hb, ?_, rest⟩
    rw [ho.block g' (Array.getElem?_eq_some_iff.1 hg).1 (hn g' rfl)]
    exact hg
theorem own_base {base base' : Nat} {e : TypeId} {size n : Nat} {v : Value} {xs : List Value} (h : w.ownsRow base e size v n xs) (hb : base' ≤ base) : w.ownsRow base' e size v n xs :=
  ⟨h.1, h.2.imp id fun ⟨g', cap, cur, hv, hg, rest⟩ => ⟨g', cap, cur, hv, by omega, rest⟩⟩
end

theorem Blk.row {w : World} {g : Nat} {t : TypeId} {l : List Value} (h : Blk w g t l.toArray) : Reads w (some ⟨g, 0, none⟩) l.length l := by
  have := h.reads (n := l.length) 0 (by simp)
  simpa using this

/-! ### append of whatever source onto a row of the call's own -/
section
variable {P : Program} (w : World)
theorem run_append_of_nil (base : Nat) (t ty e : TypeId) (i : TypeInfo) (size : Nat) (ht : P.underlying t = some (.slice e)) (hi : P.info? e = some i)
    (v : Value) (n : Nat) (xs : List Value) (hown : w.ownsRow base e size v n xs) (c : Nat) : (Builtin.append_ #[t, t] ty #[v, .slice none 0 c]).run P w = .ok v w := by
  rcases hown.2 with ⟨rfl, rfl⟩ | ⟨g, cap, cur, rfl, _, _, hnc, _⟩
  · simp [Builtin.append_, run_underlying ht, sizeOf, typeInfo, hi, Builtin.lenOf, Builtin.firstCells]
  · simp [Builtin.append_, run_underlying ht, sizeOf, typeInfo, hi, Builtin.lenOf, Builtin.firstCells, hnc, storeCells]

theorem run_append_any (base : Nat) (t ty e : TypeId) (i : TypeInfo) (z : Value) (bytes : Nat) (ht : P.underlying t = some (.slice e)) (hi : P.info? e = some i) (hz : i.zero = some z)
    (hsize : i.size = 1) (hby : i.bytes = bytes) (hzs : z.cells.size = 1)
    (v : Value) (n : Nat) (xs : List Value) (hown : w.ownsRow base e 1 v n xs)
    (A : Option Addr) (m c : Nat) (news : List Value) (hr : Reads w A m news) (h1 : ∀ u ∈ news, u.oneCell' = true)
    (h63 : n + m ≤ maxLen) (hbytes : (n + m) * bytes ≤ 140737488355328) (hbase : base ≤ w.heap.size) :
    ∃ A' c' w', (Builtin.append_ #[t, t] ty #[v, .slice A m c]).run P w = .ok (.slice A' (n + m) c') w' ∧ w'.ownsRow base e 1 (.slice A' (n + m) c') (n + m) (xs ++ news) ∧ w.grownBy w' v.ownBlock ∧
      (∀ a, A' = some a → v.ownBlock = some a.block ∨ a.block = w.heap.size) := by
  have key : ∃ v' w', (Builtin.append_ #[t, t] ty #[v, .slice A m c]).run P w = .ok v' w' ∧ w'.ownsRow base e 1 v' (n + m) (xs ++ news) ∧ w.grownBy w' v.ownBlock ∧
      (v'.ownBlock = v.ownBlock ∨ v'.ownBlock = some w.heap.size) := by
    rcases A with _ | ad
    · have hm : m = 0 := by
        rcases Nat.eq_zero_or_pos m with h0 | h0
        · exact h0
        · obtain ⟨b, o, h, _⟩ := hr.2 h0
          cases h
      subst hm
      have hn : news = [] := List.eq_nil_of_length_eq_zero (by simpa using hr.1)
      subst hn
      exact ⟨v, w, run_append_of_nil w base t ty e i 1 ht hi v n xs hown c, by simpa using hown, World.grownBy.refl w _, .inl rfl⟩
    · have hcells : ∀ j u, news[j]? = some u → w.cell? (ad.add j) = some u := by
        intro j u hu
        rcases Nat.eq_zero_or_pos m with h0 | h0
        · subst h0
          have hn : news = [] := List.eq_nil_of_length_eq_zero (by simpa using hr.1)
          subst hn
          simp at hu
        · obtain ⟨b, o, h, _, hc⟩ := hr.2 h0
          injection h with h
          subst h
          rw [add_off]
          exact hc j u hu
      obtain ⟨v', w', hrun, h2, h3, _, h5⟩ := run_append_own_at (P := P) w base t ty e i z 1 bytes ht hi hz hsize hby hzs (by omega) v n xs hown ad m c news (by simpa using hr.1) hcells h1 h63 hbytes hbase
      exact ⟨v', w', hrun, h2, h3, h5⟩
  obtain ⟨v', w', hrun, h2, h3, h4⟩ := key
  rcases h2.2 with ⟨rfl, hz0⟩ | ⟨g, cap, cur, rfl, hb, hg, rest⟩
  · exact ⟨none, 0, w', by rw [hz0]; exact hrun, by rw [hz0] at h2 ⊢; exact h2, h3, fun a ha => by cases ha⟩
  · refine ⟨_, _, w', hrun, h2, h3, fun a ha => ?_⟩
    injection ha with ha
    subst ha
    rcases h4 with h4 | h4
    · exact .inl h4.symm
    · right
      simpa [Value.ownBlock] using h4

theorem wp_append_any {o : Oper} {a : Act} {K : Act → World → Prop} {Q : Exit → Act → World → Prop} (s x : Operand) (t : TypeId)
    (ho : o.op = .call { callee := .builtin .append, args := #[s, x], argTypes := #[t, t] })
    (base : Nat) (e : TypeId) (i : TypeInfo) (z : Value) (bytes : Nat) (ht : P.underlying t = some (.slice e)) (hi : P.info? e = some i) (hz : i.zero = some z)
    (hsize : i.size = 1) (hby : i.bytes = bytes) (hzs : z.cells.size = 1)
    (v : Value) (n : Nat) (xs : List Value) (hs : a.eval s = v) (hown : w.ownsRow base e 1 v n xs)
    (A : Option Addr) (m c : Nat) (news : List Value) (hx : a.eval x = .slice A m c) (hr : Reads w A m news) (h1 : ∀ u ∈ news, u.oneCell' = true)
    (h63 : n + m ≤ maxLen) (hbytes : (n + m) * bytes ≤ 140737488355328) (hbase : base ≤ w.heap.size)
    (h : ∀ A' c' w', w'.ownsRow base e 1 (.slice A' (n + m) c') (n + m) (xs ++ news) → w.grownBy w' v.ownBlock → (∀ a, A' = some a → v.ownBlock = some a.block ∨ a.block = w.heap.size) → K (a.put o.dst (.slice A' (n + m) c')) w') : o.wp P a w K Q := by
  obtain ⟨A', c', w', hrun, h2, h3, h4⟩ := run_append_any (P := P) w base t o.type e i z bytes ht hi hz hsize hby hzs v n xs hown A m c news hr h1 h63 hbytes hbase
  unfold Oper.wp execOp
  simp only [ho, resolve, invoke, builtin, Sem.run_bind, Sem.run_pure, Result.andThen_ok, List.map_toArray, List.map_cons, List.map_nil, hs, hx, hrun]
  exact h A' c' w' h2 h3 h4

theorem wpList_append_any {ops : Array Oper} {rest : List Oper} {o : Oper} {a : Act} {Q : Exit → Act → World → Prop} (hgd : o.guard = none) (s x : Operand) (t : TypeId)
    (ho : o.op = .call { callee := .builtin .append, args := #[s, x], argTypes := #[t, t] })
    (base : Nat) (e : TypeId) (i : TypeInfo) (z : Value) (bytes : Nat) (ht : P.underlying t = some (.slice e)) (hi : P.info? e = some i) (hz : i.zero = some z)
    (hsize : i.size = 1) (hby : i.bytes = bytes) (hzs : z.cells.size = 1)
    (v : Value) (n : Nat) (xs : List Value) (hs : a.eval s = v) (hown : w.ownsRow base e 1 v n xs)
    (A : Option Addr) (m c : Nat) (news : List Value) (hx : a.eval x = .slice A m c) (hr : Reads w A m news) (h1 : ∀ u ∈ news, u.oneCell' = true)
    (h63 : n + m ≤ maxLen) (hbytes : (n + m) * bytes ≤ 140737488355328) (hbase : base ≤ w.heap.size)
    (h : ∀ A' c' w', w'.ownsRow base e 1 (.slice A' (n + m) c') (n + m) (xs ++ news) → w.grownBy w' v.ownBlock → (∀ a, A' = some a → v.ownBlock = some a.block ∨ a.block = w.heap.size) → wpList P ops Q rest (a.put o.dst (.slice A' (n + m) c')) w') : wpList P ops Q (o :: rest) a w :=
  wpList_plain hgd fun _ hK => wp_append_any w s x t ho base e i z bytes ht hi hz hsize hby hzs v n xs hs hown A m c news hx hr h1 h63 hbytes hbase fun A' c' w' h2 h3 h4 => hK _ _ (h A' c' w' h2 h3 h4)

theorem step_append_any {ops : Array Oper} {o : Oper} {a : Act} {K : Act → World → Prop} {Q : Exit → Act → World → Prop} {E : Prop} (hgd : o.guard = none) (s x : Operand) (t : TypeId)
    (ho : o.op = .call { callee := .builtin .append, args := #[s, x], argTypes := #[t, t] })
    (base : Nat) (e : TypeId) (i : TypeInfo) (z : Value) (bytes : Nat) (ht : P.underlying t = some (.slice e)) (hi : P.info? e = some i) (hz : i.zero = some z)
    (hsize : i.size = 1) (hby : i.bytes = bytes) (hzs : z.cells.size = 1)
    (v : Value) (n : Nat) (xs : List Value) (hs : a.eval s = v) (hown : w.ownsRow base e 1 v n xs)
    (A : Option Addr) (m c : Nat) (news : List Value) (hx : a.eval x = .slice A m c) (hr : Reads w A m news) (h1 : ∀ u ∈ news, u.oneCell' = true)
    (h63 : n + m ≤ maxLen) (hbytes : (n + m) * bytes ≤ 140737488355328) (hbase : base ≤ w.heap.size)
    (h : ∀ A' c' w', w'.ownsRow base e 1 (.slice A' (n + m) c') (n + m) (xs ++ news) → w.grownBy w' v.ownBlock → (∀ a, A' = some a → v.ownBlock = some a.block ∨ a.block = w.heap.size) → K (a.put o.dst (.slice A' (n + m) c')) w') :
    if Region.wanted o (yielded ops a.tmps) = true then Oper.wp P o a w K Q else E := by
  have hw : Region.wanted o (yielded ops a.tmps) = true := by simp [Region.wanted, hgd]
  rw [if_pos hw]
  exact wp_append_any w s x t ho base e i z bytes ht hi hz hsize hby hzs v n xs hs hown A m c news hx hr h1 h63 hbytes hbase h
end

/-! ### bytes -/
abbrev u8v (c : UInt8) : Value := .int .u8 (c.toNat : Int)
abbrev i64v (n : Int) : Value := .int .i64 n
theorem u8v_one (l : List UInt8) : ∀ u ∈ l.map u8v, u.oneCell' = true := by
  intro u hu; simp only [List.mem_map] at hu; obtain ⟨c, _, rfl⟩ := hu; rfl
theorem set_map {α : Type} (l : List α) (f : α → Value) (i : Nat) (x : α) : (l.map f).toArray.setIfInBounds i (f x) = ((l.set i x).map f).toArray := by
  rw [List.setIfInBounds_toArray, List.map_set]
end Go.Proofs.YtpafenlcgcenlaaGreatDoor
namespace Go.Proofs.YtpafenlcgcenlaaGreatDoor
open Go.RowKit
set_option linter.unusedVariables false
set_option linter.unusedSimpArgs false

theorem info_u8 : (Tryz.prog.info? 5).map (fun i => (i.zero, i.size, i.bytes)) = some (some (.int .u8 0), 1, 1) := by kernel_rfl

/-- A new slice of n bytes that is the call's own. -/
def MadeBytes (w : World) (bs : List UInt8) (e : Ending) (w' : World) : Prop :=
  ∃ A c, e = .returned (.slice A bs.length c) ∧ w'.ownsRow w.heap.size 5 1 (.slice A bs.length c) bs.length (bs.map u8v) ∧ Below w.heap.size w w'

theorem clone_c (w : World) (A : Option Addr) (c : Nat) (bs : List UInt8) (hr : Reads w A bs.length (bs.map u8v)) (hn : bs.length ≤ 140737488351232) :
    Calls Tryz.prog 25 #[.slice A bs.length c] w (MadeBytes w bs) := by
  obtain ⟨i0, hi, hz0, hz1, hz2⟩ := info_parts info_u8
  have heq : ∀ (n : Nat) (wx : World), (binOp .eql 22 (.slice A n c) (.slice none 0 0)).run Tryz.prog wx = .ok (.bool A.isNone) wx := fun n wx => Lib.run_eql_slice_nil (P := Tryz.prog) wx 22 5 A n c 0 0 Tryz.underlying22
  rcases A with _ | ad
  · have h0 : bs.length = 0 := by
      rcases Nat.eq_zero_or_pos bs.length with h | h
      · exact h
      · obtain ⟨b, o, h, _⟩ := hr.2 h; cases h
    have hb : bs = [] := List.eq_nil_of_length_eq_zero h0
    subst hb
    clear hr
    go_enter Tryz.func25, Tryz.ntmps25
    go_wp2
    go_ret
    exact ⟨none, 0, rfl, World.ownsRow_nil _ _ _ _, Below.refl _ _⟩
  · go_enter Tryz.func25, Tryz.ntmps25
    go_wp2_with (at_builtin; refine wpList_append_any _ rfl (.tmp 5) (.tmp 6) _ rfl w.heap.size 5 i0 (.int .u8 0) 1 Tryz.underlying22 hi hz0 hz1 hz2 rfl _ 0 [] rfl (World.ownsRow_made w #[] 0 (Nat.le_refl _) (by unfold maxLen; omega) rfl) (some ad) bs.length c (bs.map u8v) rfl (hr.alloc _) (u8v_one bs) (by unfold maxLen; omega) (by omega) (by simp) ?_; intro A' c' w1 hown hgrow hat; simp only [Nat.zero_add, List.nil_append] at hown)
    go_ret
    exact ⟨A', c', rfl, hown, ((Below.refl _ _).alloc (Nat.le_refl _) _).grown hgrow (by simp) (by intro k hk; cases hk; exact Nat.le_refl _)⟩

theorem clone_n (w : World) (A : Option Addr) (n c : Nat) (bs : List UInt8) (hr : Reads w A n (bs.map u8v)) (hn : n ≤ 140737488351232) :
    Calls Tryz.prog 25 #[.slice A n c] w (MadeBytes w bs) := by
  have h : bs.length = n := by simpa using hr.len
  subst h
  exact clone_c w A c bs hr hn

/-! ### ContainsFunc, IndexFunc at the tests that the programs hand over -/

/-! ### Repeat, of one byte -/
theorem u64_mask32 (n : Int) (h0 : 0 ≤ n) (h1 : n ≤ 9223372036854775807) : bits .and .u64 n 4294967295 = n % 4294967296 := by
  rw [u64_and n _ h0 (by omega) (by omega) (by omega)]
  rw [show ((4294967295 : Int).toNat) = 4294967295 from rfl, nat_mask32]
  omega
theorem mul64_c (w : World) (n : Int) (h0 : 0 ≤ n) (h1 : n ≤ 9223372036854775807) : Calls Tryz.prog 97 #[.int .u64 1, .int .u64 n] w fun e w' => e = .returned (.tuple #[.int .u64 0, .int .u64 n]) ∧ w = w' := by
  go_enter Tryz.func97, Tryz.ntmps97
  go_wp2
  go_ret2
  refine ⟨?_, rfl⟩
  have e1 : bits .and .u64 1 4294967295 = 1 := by rw [u64_mask32 1 (by omega) (by omega)]; rfl
  have e3 : ∀ x, IntKind.u64.wrap x = x % 18446744073709551616 := fun x => by simp [IntKind.wrap, IntKind.bits, IntKind.signed]
  simp
  rw [e1, u64_mask32 n h0 h1]
  simp only [e3]
  rw [show 1 * (n % 4294967296) % 18446744073709551616 / 4294967296 % 18446744073709551616 = 0 by omega, u64_mask32 0 (by omega) (by omega)]
  omega
theorem mul_c (w : World) (n : Int) (h0 : 0 ≤ n) (h1 : n ≤ 9223372036854775807) : Calls Tryz.prog 56 #[.int .u64 1, .int .u64 n] w fun e w' => e = .returned (.tuple #[.int .u64 0, .int .u64 n]) ∧ w = w' := by
  go_enter Tryz.func56, Tryz.ntmps56
  go_wp2_with (go_at_call 97; refine (mul64_c _ n h0 h1).mono ?_; rintro e w' ⟨rfl, rfl⟩)
  go_ret2
  exact ⟨rfl, rfl⟩

theorem rep_made (n : Nat) : madeCells (Value.int .u8 0).cells (n * 1) = (List.replicate n (u8v 0)).toArray := by
  rw [Nat.mul_one]
  apply Array.ext
  · simp [madeCells]
  · intro i h1 h2
    simp [madeCells, Value.cells, Nat.mod_one]
theorem make_bytes (n : Nat) (hn : n ≤ 1099511627776) (W : World) : (Instr.makeSlice 22 (.int .i64 (n : Int)) (.int .i64 (n : Int))).run Tryz.prog W = .ok (.slice (some ⟨W.heap.size, 0, none⟩) n n) (W.alloc (.cells (List.replicate n (u8v 0)).toArray 5)) := by
  obtain ⟨i0, hi, hz0, hz1, hz2⟩ := info_parts info_u8
  have h := run_make (P := Tryz.prog) W 22 5 i0 _ Tryz.underlying22 hi hz0 .i64 .i64 n n (by omega) (by omega) (by rw [hz2]; omega) (by omega)
  rw [hz1] at h
  simp only [Int.toNat_natCast] at h
  rw [rep_made] at h
  exact h
/-- The row of a Repeat behind m of n bytes. -/
def repRow (c : UInt8) (n m : Nat) : List Value := List.replicate m (u8v c) ++ List.replicate (n - m) (u8v 0)
theorem repRow_len (c : UInt8) (n m : Nat) (h : m ≤ n) : (repRow c n m).length = n := by simp [repRow]; omega
theorem repRow_splice (c : UInt8) (n m k : Nat) (h : m + k ≤ n) : splice (repRow c n m) m (List.replicate k (u8v c)) = repRow c n (m + k) := by
  unfold splice repRow
  rw [List.take_left' (by simp), List.length_replicate, List.drop_append, List.drop_eq_nil_of_le (by simp), List.nil_append, List.length_replicate, List.drop_replicate, ← List.append_assoc, List.replicate_append_replicate]
  congr 2
  omega

set_option maxHeartbeats 400000 in
set_option maxRecDepth 100000 in
theorem repeat_c (w : World) (ch : UInt8) (b o c n : Nat) (hx : w.cell? ⟨b, o, none⟩ = some (u8v ch)) (hn : n ≤ 1099511627776) :
    Calls Tryz.prog 26 #[.slice (some ⟨b, o, none⟩) 1 c, .int .i64 (n : Int)] w fun e w' =>
      e = .returned (.slice (some ⟨w.heap.size, 0, none⟩) n n) ∧ Blk w' w.heap.size 5 (List.replicate n (u8v ch)).toArray ∧ Below w.heap.size w w' := by
  obtain ⟨i0, hi, hz0, hz1, hz2⟩ := info_parts info_u8
  have hsz : (Tryz.prog.info? 5).map (·.size) = some 1 := by rw [hi]; simp [hz1]
  have hmk : ∀ W : World, (Instr.makeSlice 22 (.int .i64 (n : Int)) (.int .i64 (n : Int))).run Tryz.prog W = .ok (.slice (some ⟨W.heap.size, 0, none⟩) n n) (W.alloc (.cells (List.replicate n (u8v 0)).toArray 5)) := by
    intro W
    have h := run_make (P := Tryz.prog) W 22 5 i0 _ Tryz.underlying22 hi hz0 .i64 .i64 n n (by omega) (by omega) (by rw [hz2]; omega) (by omega)
    rw [hz1] at h
    simp only [Int.toNat_natCast] at h
    rw [rep_made] at h
    exact h
  obtain ⟨R0, hR0⟩ : ∃ R, R = (List.replicate n (u8v 0)) := ⟨_, rfl⟩
  obtain ⟨C0, hC0⟩ : ∃ R, R = (List.replicate (min 1 n) (u8v ch)) := ⟨_, rfl⟩
  rw [← hR0] at hmk
  have hbx : b < w.heap.size := World.block_lt_of_cell? w _ hx
  have hl0 : C0.length = min 1 n := by rw [hC0]; simp
  have hfit : 0 + C0.length ≤ R0.length := by rw [hl0, hR0]; simp; omega
  have hone : ∀ v ∈ C0, v.oneCell' = true := by rw [hC0]; intro v hv; rw [List.mem_replicate] at hv; rw [hv.2]; rfl
  have hsrc : ∀ (W : World), W.cell? ⟨b, o, none⟩ = some (u8v ch) → ∀ j v, C0[j]? = some v → W.cell? ((⟨b, o, none⟩ : Addr).add j) = some v := by
    intro W hW j v hj
    have hj0 : j < C0.length := by
      rcases Nat.lt_or_ge j C0.length with h | h
      · exact h
      · rw [List.getElem?_eq_none h] at hj; cases hj
    have : j = 0 := by omega
    subst this
    rw [List.getElem?_eq_getElem hj0] at hj
    simp only [Option.some.injEq] at hj
    subst hj
    simp only [hC0, List.getElem_replicate]
    exact hW
  have hsp : splice R0 0 C0 = repRow ch n (min 1 n) := by
    rw [hR0, hC0]
    have := repRow_splice ch n 0 (min 1 n) (by omega)
    simp only [repRow, List.replicate_zero, List.nil_append, Nat.sub_zero, Nat.zero_add] at this
    rw [this]; rfl
  have HR := Lib.hid hR0
  have HC := Lib.hid hC0
  have HL := Lib.hid hl0
  have HP := Lib.hid hsp
  have HO := Lib.hid hone
  have HS := Lib.hid hsrc
  clear hR0 hC0 hl0 hsp hone hsrc
  have hlt0 : ¬ ((n : Int) < 0) := by omega
  have K1 := Lib.hid (heap_alloc_new w (Obj.cells R0.toArray 5))
  have K2 : Hid (C0.length = Nat.min 1 n) := HL.out
  have K3 : Hid (∀ j v, C0[j]? = some v → (w.alloc (.cells R0.toArray 5)).cell? ((⟨b, o, none⟩ : Addr).add j) = some v) :=
    HS.out _ (by rw [World.cell?_alloc_lt w _ ⟨b, o, none⟩ hbx]; exact hx)
  have K4 := Lib.hid (show Below w.heap.size w (w.alloc (.cells R0.toArray 5)) from (Below.refl _ _).alloc (Nat.le_refl _) _)
  clear HS
  go_enter Tryz.func26, Tryz.ntmps26
  go_wp2_with (first
    | (go_at_call 56; refine (mul_c _ n (by omega) (by omega)).mono ?_; rintro e w' ⟨rfl, rfl⟩)
    | ((with_reducible refine wpList_copy_splice rfl (.tmp 31) (.tmp 32) 22 22 rfl 5 Tryz.underlying22 hsz (some ⟨w.heap.size, 0, none⟩) (some ⟨b, o, none⟩) n n 1 c rfl rfl w.heap.size 0 R0 5 K1.out C0 K2.out (fun _ => ⟨rfl, _, rfl, K3.out⟩) hfit HO.out w.heap.size w K4.out (Nat.le_refl _) ?_); intro w2 HG2 hB2))
  have H0 : Hid (w2.heap[w.heap.size]? = some (.cells (repRow ch n C0.length).toArray 5 (0, 0))) := by
    have h := HG2.out
    rw [HP.out, ← HL.out] at h
    exact h
  have hc0 : C0.length ≤ n := by have := HL.out; omega
  have hc1 : 0 < n → 0 < C0.length := by have := HL.out; omega
  clear HG2 HP HL HC HR K1 K2 K3 K4 hfit HO
  go_loopw [8] (fun m wr => ∃ k : Nat, k ≤ n ∧ (0 < n → 0 < k) ∧ m = .int .i64 k ∧ Hid (wr.heap[w.heap.size]? = some (.cells (repRow ch n k).toArray 5 (0, 0))) ∧ Below w.heap.size w wr) (fun m _ => n - (intOf m).toNat)
  case atStart => exact ⟨C0.length, hc0, hc1, rfl, H0, hB2⟩
  case round =>
    clear H0 hB2 hc0 hc1
    obtain ⟨k, hk, hk0, rfl, hg, hb⟩ := hrel
    by_cases hlt : k < n
    · obtain ⟨C, hC⟩ : ∃ C, C = List.replicate (min k (n - k)) (u8v ch) := ⟨_, rfl⟩
      have hCl : C.length = min k (n - k) := by rw [hC]; simp
      have hone : ∀ v ∈ C, v.oneCell' = true := by rw [hC]; intro v hv; rw [List.mem_replicate] at hv; rw [hv.2]; rfl
      have hfit : k + C.length ≤ (repRow ch n k).length := by rw [hCl, repRow_len _ _ _ hk]; omega
      have hsp : splice (repRow ch n k) k C = repRow ch n (k + C.length) := by
        rw [hCl, hC]; exact repRow_splice ch n k _ (by omega)
      have hsrc : ∀ j v, C[j]? = some v → wr.drew.cell? ((⟨w.heap.size, 0, none⟩ : Addr).add j) = some v := by
        intro j v hj
        have hjl : j < C.length := by
          rcases Nat.lt_or_ge j C.length with h | h
          · exact h
          · rw [List.getElem?_eq_none h] at hj; cases hj
        rw [add_zero_off]
        show wr.cell? _ = _
        rw [cell_of_row wr _ _ _ _ _ hg.out]
        have : v = u8v ch := by
          rw [hC, List.getElem?_replicate] at hj
          split at hj <;> simp at hj
          exact hj.symm
        subst this
        simp only [repRow, List.getElem?_toArray]
        rw [List.getElem?_append_left (by simp; omega), List.getElem?_replicate, if_pos (by omega)]
      have hmin : C.length = Nat.min k (n - k) := hCl
      have hne : ¬ (n = k) := by omega
      have HC := Lib.hid hC
      have HL := Lib.hid hmin
      have HO := Lib.hid hone
      have HP := Lib.hid hsp
      have HS := Lib.hid hsrc
      clear hC hmin hone hsp hsrc hCl
      have hfit2 : k + C.length ≤ n := by rw [repRow_len _ _ _ hk] at hfit; exact hfit
      have hw : IntKind.i64.wrap ((k : Int) + (C.length : Int)) = (k : Int) + (C.length : Int) := IntWalk.i64_in _ (by omega)
      go_upto_region 9 with fail
      go_region_law ((refine step_copy_splice (by rfl) (.tmp 41) (.tmp 44) 22 22 (by rfl) 5 Tryz.underlying22 hsz (some ⟨w.heap.size, k, none⟩) (some ⟨w.heap.size, 0, none⟩) (n - k) (n - k) k n (by kernel_rfl) (by kernel_rfl) w.heap.size k (repRow ch n k) 5 hg.out C HL.out (fun _ => ⟨rfl, _, rfl, HS.out⟩) hfit HO.out w.heap.size w hb.drew (Nat.le_refl _) ?_); intro w4 hg4 hb4)
      have h4 : Hid (w4.heap[w.heap.size]? = some (.cells (repRow ch n (k + C.length)).toArray 5 (0, 0))) := by
        have h := hg4.out
        rw [HP.out] at h
        exact h
      simp only [Act.put, List.getElem_toArray, List.getElem_cons_succ, List.getElem_cons_zero, List.setIfInBounds_toArray, List.set_cons_succ, List.set_cons_zero, hw, goInt]
      clear hw
      go_wp2
      go_roundw
      case rel => exact ⟨k + C.length, hfit2, by omega, by go_num, h4, hb4⟩
      case measure => have := HL.out; have : Nat.min k (n - k) = min k (n - k) := rfl; simp [intOf]; omega
    · obtain rfl : k = n := by omega
      have hr : repRow ch k k = List.replicate k (u8v ch) := by simp [repRow]
      rw [hr] at hg
      have HR := Lib.hid hr
      clear hr
      go_wp2
      go_ret
      exact ⟨rfl, hg.out, hb⟩
end Go.Proofs.YtpafenlcgcenlaaGreatDoor
namespace Go.Proofs.YtpafenlcgcenlaaGreatDoor
open Go Go.RowKit
set_option linter.unusedVariables false
/-- A string of what a slice reads. -/
theorem strAny (w : World) (A : Option Addr) (n cap : Nat) (d : List UInt8) (h : Reads w A n (d.map u8v)) :
    (convert 22 9 (.slice A n cap)).run Tryz.prog w = .ok (.string ⟨d.toArray⟩) w := by
  have hn : d.length = n := by simpa using h.len
  rcases Nat.eq_zero_or_pos n with h0 | h0
  · subst h0
    have hd : d = [] := List.eq_nil_of_length_eq_zero hn
    subst hd
    rcases A with _ | a
    · exact Lib.run_convert_nil_bytes w 22 9 5 cap Tryz.underlying22 Tryz.underlying5 Tryz.underlying9
    · exact run_convert_bytes_back w 22 9 5 a cap [] Tryz.underlying22 Tryz.underlying5 Tryz.underlying9 (fun j hj => by simp at hj)
  · obtain ⟨b, o, rfl, _, hc⟩ := h.2 h0
    subst hn
    refine run_convert_bytes_back w 22 9 5 ⟨b, o, none⟩ cap d Tryz.underlying22 Tryz.underlying5 Tryz.underlying9 (fun j hj => ?_)
    rw [add_off]
    have := hc j (u8v d[j]) (by simp [hj])
    simpa using this
theorem rowReads (w : World) (l : List UInt8) (t : TypeId) (fr : Nat × Nat) : Reads (w.alloc (.cells (l.map u8v).toArray t fr)) (some ⟨w.heap.size, 0, none⟩) l.length (l.map u8v) := by
  refine ⟨by simp, fun _ => ⟨w.heap.size, 0, rfl, by simp, fun j u hu => ?_⟩⟩
  rw [cell_of_row _ w.heap.size (0 + j) (l.map u8v).toArray t fr (by show (w.heap.push _)[w.heap.size]? = _; simp)]
  simpa using hu
end Go.Proofs.YtpafenlcgcenlaaGreatDoor
