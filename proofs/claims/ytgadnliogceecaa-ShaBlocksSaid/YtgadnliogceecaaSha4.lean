/- The constants of the rounds. -/
import Derived.Test.YtgadnliogceecaaSha3
import Derived.Laws.Tables
namespace Go.Proofs.Ytgadnliogceecaa
open Go.RowKit
set_option linter.unusedVariables false
set_option linter.unusedSimpArgs false

def kList : List UInt32 := [1116352408, 1899447441, 3049323471, 3921009573, 961987163, 1508970993, 2453635748, 2870763221, 3624381080, 310598401, 607225278, 1426881987, 1925078388, 2162078206, 2614888103, 3248222580, 3835390401, 4022224774, 264347078, 604807628, 770255983, 1249150122, 1555081692, 1996064986, 2554220882, 2821834349, 2952996808, 3210313671, 3336571891, 3584528711, 113926993, 338241895, 666307205, 773529912, 1294757372, 1396182291, 1695183700, 1986661051, 2177026350, 2456956037, 2730485921, 2820302411, 3259730800, 3345764771, 3516065817, 3600352804, 4094571909, 275423344, 430227734, 506948616, 659060556, 883997877, 958139571, 1322822218, 1537002063, 1747873779, 1955562222, 2024104815, 2227730452, 2361852424, 2428436474, 2756734187, 3204031479, 3329325298]
def kVals : Array Value := (kList.map u32v).toArray
theorem info_64 : (Try.prog.info? 89).map (·.size) = some 64 := by kernel_rfl
theorem kVals_one : kVals.all (·.oneCell') = true := by kernel_rfl
theorem below_setRow {B : Nat} {a w : World} (h : Below B a w) {g : Nat} (hg : B ≤ g) (cs : Array Value) : Below B a (w.setRow g cs) :=
  ⟨h.os, h.tape, h.output, by rw [setRow_size]; exact h.size, fun k hk => (setRow_other w g k cs (by omega)).trans (h.block k hk)⟩
theorem Blk.setRow {w : World} {g : Nat} {t : TypeId} {old : Array Value} (h : Blk w g t old) (cs : Array Value) : Blk (w.setRow g cs) g t cs := setRow_heap w g old cs t _ h
theorem Blk.setRow_far {w : World} {g k : Nat} {t : TypeId} {old : Array Value} (h : Blk w k t old) (cs : Array Value) (hk : k ≠ g) : Blk (w.setRow g cs) k t old := (setRow_other w g k cs hk).trans h
set_option maxRecDepth 100000 in
theorem constants_c (w : World) : Calls Try.prog 63 #[] w fun e w' => e = .returned (.agg kVals) ∧ Below w.heap.size w w' := by
  go_enter Try.func63, Try.ntmps63
  go_upto_region 1 with fail
  refine wp_region_lit ?_
  refine wpList_build rfl 89 _ rfl (by kernel_rfl) ?_
  refine wpList_store_row rfl 89 _ _ rfl w.heap.size kVals rfl (by kernel_rfl) 89 _ (heap_alloc_new w _) info_64 rfl kVals_one ?_
  refine wpList_nil ?_
  rename_i K hK
  show K _ _
  generalize hA : Act.put _ _ undef = fr
  have hfr : fr = ⟨#[.pointer (some ⟨w.heap.size, 0, none⟩), .agg kVals], []⟩ := by rw [← hA]; kernel_rfl
  clear hA
  subst hfr
  refine hK _ _ ?_
  have HW := Lib.hid ((Blk.new w 89 (Array.replicate 64 (Value.int .u32 0))).setRow kVals)
  go_wp2_with fail
  refine bodyPost_ret (results_cell_row rfl _ _ w.heap.size 89 kVals (0, 0) _ (by kernel_rfl) ((Blk.new w _ _).setRow kVals) Try.underlying89 rfl info_64) rfl ?_
  exact ⟨rfl, below_setRow ((Below.refl _ _).alloc (Nat.le_refl _) _) (Nat.le_refl _) _⟩
end Go.Proofs.Ytgadnliogceecaa
