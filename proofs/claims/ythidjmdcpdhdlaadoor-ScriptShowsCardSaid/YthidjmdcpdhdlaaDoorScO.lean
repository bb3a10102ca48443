/- A step as data: its seven cells. -/
import Derived.Test.YthidjmdcpdhdlaaDoorScM
import Derived.Laws.Rows
import Derived.Laws.Tables
import Derived.Deep.MidRow
namespace Go.Proofs.YthidjmdcpdhdlaaDoor
open Go Go.RowKit
set_option linter.unusedVariables false
set_option linter.unusedSimpArgs false
noncomputable def sbS (parts : Array (Nat × Value)) : Sem Value := Instr.build 36 parts
theorem sbS_seal (parts : Array (Nat × Value)) : Instr.build 36 parts = sbS parts := rfl
noncomputable def sldS (x : Value) : Sem Value := Instr.loadAt 36 x
theorem sldS_seal (x : Value) : Instr.loadAt 36 x = sldS x := rfl
noncomputable def sstS (x v : Value) : Sem Unit := Instr.storeAt 36 x v
theorem sstS_seal (x v : Value) : Instr.storeAt 36 x v = sstS x v := rfl
theorem info_sS : (Tryd.prog.info? 36).map (·.size) = some 7 := by kernel_rfl
/-- A step's seven cells. -/
def stC (k t n rk rn : Int) (a b : Value) : List Value := [.int .i64 k, .int .i64 t, .int .i64 n, .int .i64 rk, .int .i64 rn, a, b]
@[reducible] def litS : Array Value := #[.int .i64 0, .int .i64 0, .int .i64 0, .int .i64 0, .int .i64 0, .slice none 0 0, .slice none 0 0]
theorem litS_eq : litS = (stC 0 0 0 0 0 (.slice none 0 0) (.slice none 0 0)).toArray := rfl
theorem run_sbS0 (w : World) : (sbS #[]).run Tryd.prog w = .ok (.agg litS) w := by
  refine run_build w _ _ _ ?_
  have h : Tryd.prog.built 36 [] = Instr.fill (#[(0, 1), (1, 1), (2, 1), (3, 3), (6, 1)][·]?) litS [] := by kernel_rfl
  rw [h]
  rfl
theorem run_sbSt (w : World) : (sbS #[(0, .int .i64 1)]).run Tryd.prog w = .ok (.agg (stC 1 0 0 0 0 (.slice none 0 0) (.slice none 0 0)).toArray) w := by
  refine run_build w _ _ _ ?_
  have h : Tryd.prog.built 36 [(0, .int .i64 1)] = Instr.fill (#[(0, 1), (1, 1), (2, 1), (3, 3), (6, 1)][·]?) litS [(0, .int .i64 1)] := by kernel_rfl
  rw [h]
  rfl
theorem run_sbSp (n : Int) (w : World) : (sbS #[(0, .int .i64 3), (2, .int .i64 n)]).run Tryd.prog w = .ok (.agg (stC 3 0 n 0 0 (.slice none 0 0) (.slice none 0 0)).toArray) w := by
  refine run_build w _ _ _ ?_
  have h : Tryd.prog.built 36 [(0, .int .i64 3), (2, .int .i64 n)] = Instr.fill (#[(0, 1), (1, 1), (2, 1), (3, 3), (6, 1)][·]?) litS [(0, .int .i64 3), (2, .int .i64 n)] := by kernel_rfl
  rw [h]
  rfl
theorem run_sbSc (n : Int) (A : Option Addr) (k c : Nat) (w : World) : (sbS #[(0, .int .i64 2), (2, .int .i64 n), (4, .slice A k c)]).run Tryd.prog w = .ok (.agg (stC 2 0 n 0 0 (.slice none 0 0) (.slice A k c)).toArray) w := by
  refine run_build w _ _ _ ?_
  have h : Tryd.prog.built 36 [(0, .int .i64 2), (2, .int .i64 n), (4, .slice A k c)] = Instr.fill (#[(0, 1), (1, 1), (2, 1), (3, 3), (6, 1)][·]?) litS [(0, .int .i64 2), (2, .int .i64 n), (4, .slice A k c)] := by kernel_rfl
  rw [h]
  rfl
theorem run_sbSa (t rk rn : Int) (A : Option Addr) (k c : Nat) (w : World) : (sbS #[(0, .int .i64 0), (1, .int .i64 t), (3, .agg #[.int .i64 rk, .int .i64 rn, .slice A k c])]).run Tryd.prog w = .ok (.agg (stC 0 t 0 rk rn (.slice A k c) (.slice none 0 0)).toArray) w := by
  refine run_build w _ _ _ ?_
  have h : Tryd.prog.built 36 [(0, .int .i64 0), (1, .int .i64 t), (3, .agg #[.int .i64 rk, .int .i64 rn, .slice A k c])] = Instr.fill (#[(0, 1), (1, 1), (2, 1), (3, 3), (6, 1)][·]?) litS [(0, .int .i64 0), (1, .int .i64 t), (3, .agg #[.int .i64 rk, .int .i64 rn, .slice A k c])] := by kernel_rfl
  rw [h]
  rfl
theorem run_sldS {W : World} {g o : Nat} {cs : List Value} (hs : cs.length = 7) (h : W.rangeAt g o cs) : (sldS (.pointer (some ⟨g, o, none⟩))).run Tryd.prog W = .ok (.agg cs.toArray) W :=
  run_loadAt_mid (P := Tryd.prog) W g o 36 cs _ h Tryd.underlying36 rfl (by rw [hs]; exact info_sS)
theorem run_sstS {W : World} {g : Nat} {old : Array Value} (cs : List Value) (h : Blk W g 36 old) (ho : old.size = 7) (hl : cs.length = 7) (h1 : ∀ u ∈ cs, u.oneCell' = true) :
    (sstS (.pointer (some ⟨g, 0, none⟩)) (.agg cs.toArray)).run Tryd.prog W = .ok () (W.setRow g cs.toArray) := by
  unfold sstS
  simp only [Instr.storeAt, Instr.sureAddr, Sem.run_bind, Sem.run_pure, Result.andThen_ok, run_storeVar_row (P := Tryd.prog) W g 36 36 old cs.toArray h (by rw [List.size_toArray, hl]; exact info_sS) (by rw [ho, List.size_toArray, hl]) (by simpa using h1)]
theorem Blk.setRow_s {w : World} {g : Nat} {t : TypeId} {old : Array Value} (h : Blk w g t old) (cs : Array Value) : Blk (w.setRow g cs) g t cs := setRow_heap w g old cs t _ h
theorem below_setRow_s {B g : Nat} {w0 w : World} (hb : Below B w0 w) (hBg : B ≤ g) (cs : Array Value) : Below B w0 (w.setRow g cs) :=
  ⟨hb.os, hb.tape, hb.output, by simpa [World.setRow] using hb.size, fun k hk => (setRow_other w g k cs (by omega)).trans (hb.block k hk)⟩
/-- A step's cells and what they read as. -/
def StepC (w : World) (x : Sp) (cs : List Value) : Prop :=
  ∃ (A : Option Addr) (c : Nat) (B : Option Addr) (d : Nat), cs = stC x.kind x.tenant x.n x.rk x.rn (.slice A x.bytes.length c) (.slice B x.mask.length d) ∧ Reads w A x.bytes.length (x.bytes.map u8v) ∧ Reads w B x.mask.length (x.mask.map u8v) ∧ (x.bytes.length ≤ c ∧ c ≤ maxLen) ∧ (x.mask.length ≤ d ∧ d ≤ maxLen)
theorem StepC.below {w w' : World} {x : Sp} {cs : List Value} (h : StepC w x cs) (hb : Below w.heap.size w w') : StepC w' x cs := by
  obtain ⟨A, c, B, d, h1, h2, h3, h4⟩ := h
  exact ⟨A, c, B, d, h1, h2.below hb, h3.below hb, h4⟩
/-- Bytes in a row of their own. -/
def OwnB (w : World) (A : Option Addr) (c : Nat) (l : List UInt8) : Prop := w.ownsRow 0 5 1 (.slice A l.length c) l.length (l.map u8v)
theorem OwnB.nil (w : World) : OwnB w none 0 [] := World.ownsRow_nil _ _ _ _
theorem OwnB.ne {w : World} {A : Option Addr} {c g : Nat} {l : List UInt8} {cs : Array Value} {fr : Nat × Nat} (h : OwnB w A c l) (hg : w.heap[g]? = some (.cells cs 36 fr)) : (Value.slice A l.length c).ownBlock ≠ some g := by
  rcases h.2 with ⟨h1, _⟩ | ⟨g', cap, cur, h1, _, h3, _⟩
  · injection h1 with h1
    rw [h1]; simp [Value.ownBlock]
  · injection h1 with h1
    rw [h1]
    intro he
    have : g' = g := by simpa [Value.ownBlock] using he
    subst this
    rw [h3] at hg
    injection hg with hg
    injection hg with _ hg
    exact absurd hg (by decide)
theorem OwnB.below {w w' : World} {A : Option Addr} {c : Nat} {l : List UInt8} (h : OwnB w A c l) (hb : Below w.heap.size w w') : OwnB w' A c l := own_only h (Only.of_below (S := []) hb) (by simp)
theorem OwnB.only {w w' : World} {A : Option Addr} {c g : Nat} {l : List UInt8} {cs : Array Value} {fr : Nat × Nat} (h : OwnB w A c l) (ho : Only [g] w w') (hg : w.heap[g]? = some (.cells cs 36 fr)) : OwnB w' A c l := own_only h ho (fun k hk => by
  have := h.ne hg
  rw [hk] at this
  simp only [List.mem_cons, List.not_mem_nil, or_false]
  rintro rfl
  exact this rfl)
theorem OwnB.setRow {w : World} {A : Option Addr} {c g : Nat} {l : List UInt8} {cs : Array Value} {fr : Nat × Nat} (h : OwnB w A c l) (hg : w.heap[g]? = some (.cells cs 36 fr)) (ds : Array Value) : OwnB (w.setRow g ds) A c l := h.only ⟨rfl, rfl, rfl, by simp [World.setRow], fun b _ hb => setRow_other w g b ds (by simpa using hb)⟩ hg
theorem OwnB.grown {w w' : World} {A : Option Addr} {c : Nat} {l : List UInt8} {row : Option Nat} (h : OwnB w A c l) (hg : w.grownBy w' row) (hr : ∀ g, row = some g → ∃ cs fr, w.heap[g]? = some (.cells cs 36 fr)) : OwnB w' A c l := by
  refine World.ownsRow.kept h hg ?_
  cases row with
  | none => cases hv : (Value.slice A l.length c).ownBlock with
    | none => exact .inl rfl
    | some k => exact .inr (by simp)
  | some g => obtain ⟨cs, fr, hh⟩ := hr g rfl; exact .inr (h.ne hh)
/-- A step's cells, its bytes in rows of their own. -/
def StepO (w : World) (x : Sp) (cs : List Value) : Prop :=
  ∃ (A : Option Addr) (c : Nat) (B : Option Addr) (d : Nat), cs = stC x.kind x.tenant x.n x.rk x.rn (.slice A x.bytes.length c) (.slice B x.mask.length d) ∧ OwnB w A c x.bytes ∧ OwnB w B d x.mask
theorem StepO.below {w w' : World} {x : Sp} {cs : List Value} (h : StepO w x cs) (hb : Below w.heap.size w w') : StepO w' x cs := by
  obtain ⟨A, c, B, d, h1, h2, h3⟩ := h
  exact ⟨A, c, B, d, h1, h2.below hb, h3.below hb⟩
theorem StepO.setRow {w : World} {x : Sp} {cs : List Value} {g : Nat} {os : Array Value} {fr : Nat × Nat} (h : StepO w x cs) (hg : w.heap[g]? = some (.cells os 36 fr)) (ds : Array Value) : StepO (w.setRow g ds) x cs := by
  obtain ⟨A, c, B, d, h1, h2, h3⟩ := h
  exact ⟨A, c, B, d, h1, h2.setRow hg ds, h3.setRow hg ds⟩
theorem StepO.grown {w w' : World} {x : Sp} {cs : List Value} {row : Option Nat} (h : StepO w x cs) (hg : w.grownBy w' row) (hr : ∀ g, row = some g → ∃ cs fr, w.heap[g]? = some (.cells cs 36 fr)) : StepO w' x cs := by
  obtain ⟨A, c, B, d, h1, h2, h3⟩ := h
  exact ⟨A, c, B, d, h1, h2.grown hg hr, h3.grown hg hr⟩
theorem StepO.toC {w : World} {x : Sp} {cs : List Value} (h : StepO w x cs) : StepC w x cs := by
  obtain ⟨A, c, B, d, h1, h2, h3⟩ := h
  exact ⟨A, c, B, d, h1, Reads.of_own h2, Reads.of_own h3, own_capR h2, own_capR h3⟩
theorem stC_one (k t n rk rn : Int) (A B : Option Addr) (i c j d : Nat) : ∀ u ∈ stC k t n rk rn (.slice A i c) (.slice B j d), u.oneCell' = true := by
  intro u hu
  simp only [stC, List.mem_cons, List.not_mem_nil, or_false] at hu
  rcases hu with rfl | rfl | rfl | rfl | rfl | rfl | rfl <;> rfl
theorem results_cell_tmp1 {P : Program} {fn : Func} {p q : Tmp} {ty : TypeId} (h : fn.results = #[.cell p ty, .tmp q]) (tmps : Array Value) (w : World) (g : Nat) (t : TypeId) (cs : Array Value) (fr : Nat × Nat) (d : TypeDesc)
    (hp : tmps.getD p undef = .pointer (some ⟨g, 0, none⟩)) (hg : w.heap[g]? = some (.cells cs t fr))
    (hu : P.underlying ty = some d) (hd : (match d with | .struct _ | .array _ _ => true | _ => false) = true) (hi : (P.info? ty).map (·.size) = some cs.size) :
    (results fn tmps).run P w = .ok (.tuple #[.agg cs, tmps.getD q undef]) w := by
  have hp' : tmps[p]?.getD undef = .pointer (some ⟨g, 0, none⟩) := by simpa using hp
  simp [results, h, hp', asAddr, run_loadVar_row w g t ty cs fr d hg hu hd hi]
theorem splitG_len : ∀ (l cur x : List UInt8), x ∈ splitG l cur → x.length ≤ cur.length + l.length
  | [], cur, x, h => by
    simp only [splitG, List.mem_cons, List.not_mem_nil, or_false] at h
    subst h; simp
  | b :: l, cur, x, h => by
    unfold splitG at h
    split at h
    · rcases List.mem_cons.1 h with rfl | h
      · omega
      · have := splitG_len l [] x h; simp at this ⊢; omega
    · have := splitG_len l (cur ++ [b]) x h; simp at this ⊢; omega
theorem splitG_ne (l : List UInt8) : splitG l [] ≠ [] := by rw [splitG_eq]; simp
/-- What line answers. -/
def lineRet (V : Option Sp) (e : Ending) (w' : World) : Prop :=
  match V with
  | Option.none => e = .returned (.tuple #[.agg litS, .bool false])
  | Option.some x => ∃ cs, e = .returned (.tuple #[.agg cs.toArray, .bool true]) ∧ StepO w' x cs
end Go.Proofs.YthidjmdcpdhdlaaDoor
