/- A region that draws its order: its first operations, in a class of worlds that is the image of a function, each give one value; the others stand in one forced order. · A stream of bytes: Write. · A stream of bytes: Sum. · sha.Sum. · A new variable that is an array, and a value that is stored into it whole: one step. · The hash, reckoned by steps that are counted. · A stream as the bytes that were written to it. -/
import Derived.Test.YtpbdglocfjbbfaaDoorQFam
import Derived.Test.YtpbdglocfjbbfaaDoorQTail
import Derived.Test.YtpbdglocfjbbfaaDoorShaB
import Derived.Deep.MidRow
import Derived.Laws.Cover3
import Derived.Test.YtpbdglocfjbbfaaDoorMem
import Derived.Laws.Tables
import Derived.Lib.SlBytesConst
namespace Go.Proofs.YtpbdglocfjbbfaaDoor
open Go Go.RowKit
set_option linter.unusedVariables false
set_option linter.unusedSimpArgs false
theorem own_caps {w : World} {base : Nat} {e : TypeId} {A : Option Addr} {n c : Nat} {xs : List Value} (h : w.ownsRow base e 1 (.slice A n c) n xs) : n ≤ c ∧ c ≤ maxLen := by
  rcases h.2 with ⟨h1, h2⟩ | ⟨g, cap, cur, hv, _, _, h3, h4, _⟩
  · injection h1 with _ _ h1; subst h1; subst h2; exact ⟨Nat.le_refl _, by unfold maxLen; omega⟩
  · injection hv with _ _ hv; subst hv; exact ⟨h3, h4⟩
end Go.Proofs.YtpbdglocfjbbfaaDoor
namespace Go.Proofs.YtpbdglocfjbbfaaDoor
open Go Go.RowKit
set_option linter.unusedVariables false
set_option linter.unusedSimpArgs false
theorem info_b32 : (Tryd.prog.info? 22).map (·.size) = some 32 := by kernel_rfl
section
variable {P : Program}
theorem wpList_arrayAt {ops : Array Oper} {rest : List Oper} {op : Oper} {a : Act} {w : World} {Q : Exit → Act → World → Prop} (hgd : op.guard = none) (arr : TypeId) (x : Operand) (ho : op.op = .sliceToArrayPointer arr x)
    (A : Option Addr) (n len cap : Nat) (e : TypeId) (hx : a.eval x = .slice A len cap) (hu : P.underlying arr = some (.array n e)) (hn : n ≤ len)
    (h : wpList P ops Q rest (a.put op.dst (.pointer A)) w) : wpList P ops Q (op :: rest) a w :=
  wpList_plain hgd fun _ hK => by
    unfold Oper.wp execOp
    simp only [ho, hx, Sem.run_bind, run_arrayAt (P := P) w arr e n A len cap hu hn, Result.andThen_ok]
    exact hK _ _ h
end
theorem Reads.rangeAt {w : World} {b o n : Nat} {xs : List Value} (h : Reads w (some ⟨b, o, none⟩) n xs) : w.rangeAt b o xs := by
  intro j u hu
  by_cases hn : 0 < n
  · obtain ⟨b', o', e, _, hc⟩ := h.2 hn
    cases e
    exact hc j u hu
  · have : xs = [] := List.eq_nil_of_length_eq_zero (by have := h.1; omega)
    subst this
    simp at hu
/-- How many bytes 0 stand behind the byte 128. -/
def zk (r : Nat) : Nat := (119 - r % 64) % 64
/-- What is mixed in at the end. -/
def padded (n : UInt64) (rest : List UInt8) : List UInt8 := rest ++ (128 :: List.replicate (zk rest.length) 0) ++ long8 (n * 8)
def digest (s : St) (n : UInt64) (rest : List UInt8) : List UInt8 := told (absorb s (padded n rest)).1
@[reducible] def zero32 : Array Value := #[.int .u8 0, .int .u8 0, .int .u8 0, .int .u8 0, .int .u8 0, .int .u8 0, .int .u8 0, .int .u8 0, .int .u8 0, .int .u8 0, .int .u8 0, .int .u8 0, .int .u8 0, .int .u8 0, .int .u8 0, .int .u8 0, .int .u8 0, .int .u8 0, .int .u8 0, .int .u8 0, .int .u8 0, .int .u8 0, .int .u8 0, .int .u8 0, .int .u8 0, .int .u8 0, .int .u8 0, .int .u8 0, .int .u8 0, .int .u8 0, .int .u8 0, .int .u8 0]
end Go.Proofs.YtpbdglocfjbbfaaDoor
namespace Go.Proofs.YtpbdglocfjbbfaaDoor
open Go Go.RowKit
set_option linter.unusedVariables false
set_option linter.unusedSimpArgs false
theorem absorb_rest (s : St) (l : List UInt8) : (absorb s l).2.length < 64 := by
  induction h : l.length using Nat.strongRecOn generalizing s l with
  | _ n ih =>
    by_cases h64 : 64 ≤ l.length
    · rw [absorb_more s l h64]
      exact ih (l.drop 64).length (by rw [List.length_drop]; omega) _ _ rfl
    · rw [absorb_done s l h64]; show l.length < 64; omega
/-- The hash of some bytes. -/
def sha (b : List UInt8) : List UInt8 := digest (absorb St.first b).1 (UInt64.ofNat b.length) (absorb St.first b).2
theorem sha_len (b : List UInt8) : (sha b).length = 32 := told_len _
theorem bytes_one (l : List UInt8) : ((l.map u8v).toArray).all (·.oneCell') = true := by
  simp only [List.all_toArray, List.all_map, List.all_eq_true, Function.comp]
  intro x _
  rfl
end Go.Proofs.YtpbdglocfjbbfaaDoor
namespace Go.Proofs.YtpbdglocfjbbfaaDoor
open Go Go.RowKit
set_option linter.unusedVariables false
section
variable {P : Program}
theorem run_alloc_z (w : World) (ty : TypeId) (z : Value) (hz : (P.info? ty).map (·.zero) = some (some z)) :
    (Instr.alloc ty true (.tuple #[])).run P w = .ok (.pointer (some ⟨w.heap.size, 0, none⟩)) (w.alloc (.cells z.cells ty)) := by
  cases hq : P.info? ty with
  | none => simp [hq] at hz
  | some i =>
    have hz' : i.zero = some z := by simpa [hq] using hz
    simp [Instr.alloc, zeroValue, typeInfo, hq, hz', newVar, newRow]
theorem alloc_setRow (w : World) (t : TypeId) (a b : Array Value) : (w.alloc (.cells a t)).setRow w.heap.size b = w.alloc (.cells b t) := by
  unfold World.setRow World.alloc
  simp only
  congr 1
  apply Array.ext
  · simp
  · intro i h1 h2
    simp only [Array.getElem_modify, Array.getElem_push]
    by_cases h : w.heap.size = i
    · subst h; simp
    · have : i < w.heap.size := by simp at h1; omega
      simp [h, this]
theorem wpList_alloc_store {ops : Array Oper} {rest : List Oper} {o1 o2 : Oper} {a : Act} {w : World} {Q : Exit → Act → World → Prop} (hg1 : o1.guard = none) (hg2 : o2.guard = none) (ty : TypeId) (ho1 : o1.op = .alloc ty) (p : Tmp) (hd1 : o1.dst = some p)
    (x y : Operand) (ho2 : o2.op = .store ty x y) (hd2 : o2.dst = none) (z : Value) (hz : (P.info? ty).map (·.zero) = some (some z)) (cells : Array Value) (hi : (P.info? ty).map (·.size) = some cells.size) (hold : z.cells.size = cells.size) (h1 : cells.all (·.oneCell') = true)
    (hx : (a.put (some p) (.pointer (some ⟨w.heap.size, 0, none⟩))).eval x = .pointer (some ⟨w.heap.size, 0, none⟩)) (hy : (a.put (some p) (.pointer (some ⟨w.heap.size, 0, none⟩))).eval y = .agg cells)
    (h : wpList P ops Q rest (a.put (some p) (.pointer (some ⟨w.heap.size, 0, none⟩))) (w.alloc (.cells cells ty))) : wpList P ops Q (o1 :: o2 :: rest) a w := by
  refine wpList_plain hg1 fun K hK => ?_
  unfold Oper.wp execOp
  simp only [ho1, Sem.run_bind, run_alloc_z w ty z hz, Result.andThen_ok, Sem.run_pure, Oper.upon_value, hd1]
  refine hK _ _ ?_
  refine wpList_store_row hg2 ty x y ho2 w.heap.size cells hx hy ty z.cells (Blk.new w ty z.cells) hi hold h1 ?_
  rw [alloc_setRow, hd2]
  exact h
end
end Go.Proofs.YtpbdglocfjbbfaaDoor
namespace Go.Proofs.YtpbdglocfjbbfaaDoor
open Go Go.RowKit
set_option linter.unusedVariables false
set_option linter.unusedSimpArgs false
def absorbF : Nat → St → List UInt8 → St × List UInt8
  | 0, s, l => (s, l)
  | f + 1, s, l => if 64 ≤ l.length then absorbF f (mixS s (l.take 64)) (l.drop 64) else (s, l)
theorem absorbF_eq (f : Nat) : ∀ (s : St) (l : List UInt8), l.length < 64 * (f + 1) → absorb s l = absorbF f s l := by
  induction f with
  | zero => intro s l h; exact absorb_done s l (by omega)
  | succ f ih =>
    intro s l h
    unfold absorbF
    by_cases h64 : 64 ≤ l.length
    · rw [absorb_more s l h64, if_pos h64]
      exact ih _ _ (by rw [List.length_drop]; omega)
    · rw [absorb_done s l h64, if_neg h64]
/-- The hash of few bytes. -/
def shaF (b : List UInt8) : List UInt8 :=
  let p := absorbF 4 St.first b
  told (absorbF 4 p.1 (padded (UInt64.ofNat b.length) p.2)).1
theorem padded_len (n : UInt64) (l : List UInt8) : (padded n l).length = l.length + 1 + zk l.length + 8 := by
  have hll : (long8 (n * 8)).length = 8 := rfl
  simp only [padded, List.length_append, List.length_cons, List.length_replicate, hll]; omega
theorem zk_lt (n : Nat) : zk n < 64 := by unfold zk; omega
theorem sha_F (b : List UInt8) (h : b.length < 320) : sha b = shaF b := by
  unfold sha shaF digest
  rw [absorbF_eq 4 St.first b (by omega)]
  rw [absorbF_eq 4 _ (padded _ _)]
  have h1 := absorb_rest St.first b
  rw [absorbF_eq 4 St.first b (by omega)] at h1
  have := zk_lt (absorbF 4 St.first b).2.length
  rw [padded_len]; omega
theorem sha_abc : sha [97, 98, 99] = [186, 120, 22, 191, 143, 1, 207, 234, 65, 65, 64, 222, 93, 174, 34, 35, 176, 3, 97, 163, 150, 23, 122, 156, 180, 16, 255, 97, 242, 0, 21, 173] := by
  rw [sha_F _ (by decide)]; kernel_rfl
theorem sha_nil : sha [] = [227, 176, 196, 66, 152, 252, 28, 20, 154, 251, 244, 200, 153, 111, 185, 36, 39, 174, 65, 228, 100, 155, 147, 76, 164, 149, 153, 27, 120, 82, 184, 85] := by
  rw [sha_F _ (by decide)]; kernel_rfl
theorem sha_56 : sha [97, 98, 99, 100, 98, 99, 100, 101, 99, 100, 101, 102, 100, 101, 102, 103, 101, 102, 103, 104, 102, 103, 104, 105, 103, 104, 105, 106, 104, 105, 106, 107, 105, 106, 107, 108, 106, 107, 108, 109, 107, 108, 109, 110, 108, 109, 110, 111, 109, 110, 111, 112, 110, 111, 112, 113] = [36, 141, 106, 97, 210, 6, 56, 184, 229, 192, 38, 147, 12, 62, 96, 57, 163, 60, 228, 89, 100, 255, 33, 103, 246, 236, 237, 212, 25, 219, 6, 193] := by
  rw [sha_F _ (by decide)]; kernel_rfl
theorem alloc_reads (w : World) (l : List UInt8) (t : TypeId) (fr : Nat × Nat) : Reads (w.alloc (.cells (l.map u8v).toArray t fr)) (some ⟨w.heap.size, 0, none⟩) l.length (l.map u8v) := by
  refine ⟨by simp, fun _ => ⟨w.heap.size, 0, rfl, by simp, fun j u hu => ?_⟩⟩
  rw [cell_of_row _ w.heap.size (0 + j) (l.map u8v).toArray t fr (by show (w.heap.push _)[w.heap.size]? = _; simp)]
  simpa using hu
theorem info_z32 : (Tryd.prog.info? 22).map (·.zero) = some (some (.agg zero32)) := by kernel_rfl
end Go.Proofs.YtpbdglocfjbbfaaDoor
namespace Go.Proofs.YtpbdglocfjbbfaaDoor
open Go Go.RowKit
set_option linter.unusedVariables false
set_option linter.unusedSimpArgs false
theorem absorb_append (s : St) (l1 l2 : List UInt8) : absorb s (l1 ++ l2) = absorb (absorb s l1).1 ((absorb s l1).2 ++ l2) := by
  induction h : l1.length using Nat.strongRecOn generalizing s l1 with
  | _ n ih =>
    by_cases h64 : 64 ≤ l1.length
    · rw [absorb_more s l1 h64, absorb_more s (l1 ++ l2) (by rw [List.length_append]; omega)]
      rw [List.take_append_of_le_length h64, List.drop_append_of_le_length h64]
      exact ih (l1.drop 64).length (by rw [List.length_drop]; omega) _ _ rfl
    · rw [absorb_done s l1 h64]
theorem Blk.bytes {w : World} {g : Nat} {t : TypeId} {l : List UInt8} {n : Nat} (h : Blk w g t (l.map u8v).toArray) (hn : l.length = n) : Reads w (some ⟨g, 0, none⟩) n (l.map u8v) := by
  have := h.row; rw [List.length_map, hn] at this; exact this
end Go.Proofs.YtpbdglocfjbbfaaDoor
