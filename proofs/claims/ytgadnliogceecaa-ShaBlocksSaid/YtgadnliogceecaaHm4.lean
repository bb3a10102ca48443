/- The laws of chapter 4: alive; whole arrays of bytes compared. -/
import Derived.Test.YtgadnliogceecaaHm3
import Derived.Stop.BytesEq
import Derived.Lib.SmallJoins
namespace Go.Proofs.Ytgadnliogceecaa
open Go Go.RowKit
set_option linter.unusedVariables false
set_option linter.unusedSimpArgs false
def jefe : List UInt8 := [74, 101, 102, 101]
def want : List UInt8 := [119, 104, 97, 116, 32, 100, 111, 32, 121, 97, 32, 119, 97, 110, 116, 32, 102, 111, 114, 32, 110, 111, 116, 104, 105, 110, 103, 63]
def jefeTag : List UInt8 := [91, 220, 193, 70, 191, 96, 117, 78, 106, 4, 36, 38, 8, 149, 117, 199, 90, 0, 63, 8, 157, 39, 57, 131, 157, 236, 88, 185, 100, 236, 56, 67]
theorem tag_jefe : tagL jefe want = jefeTag := by
  have hp : ∀ x, padL jefe x = (jefe ++ List.replicate 60 0).map (fun c => c ^^^ x) := by
    intro x; unfold padL keyBlock keyOf; rw [if_neg (by decide)]; rfl
  unfold tagL
  have e1 : sha ((jefe ++ List.replicate 60 0).map (fun c => c ^^^ 54) ++ want) = [162, 228, 133, 134, 61, 39, 249, 216, 100, 172, 141, 128, 36, 50, 161, 237, 71, 125, 140, 76, 111, 52, 157, 22, 212, 231, 233, 23, 198, 41, 202, 215] := by
    rw [sha_F _ (by decide)]; kernel_rfl
  have e2 : sha ((jefe ++ List.replicate 60 0).map (fun c => c ^^^ 92) ++ [162, 228, 133, 134, 61, 39, 249, 216, 100, 172, 141, 128, 36, 50, 161, 237, 71, 125, 140, 76, 111, 52, 157, 22, 212, 231, 233, 23, 198, 41, 202, 215]) = jefeTag := by
    rw [sha_F _ (by decide)]; kernel_rfl
  rw [hp, hp, e1]
  exact e2
theorem sizeOf_u8 (w : World) : (sizeOf 5).run Try.prog w = .ok 1 w := by
  obtain ⟨i0, hi, hz0, hz1, hz2⟩ := info_parts info_u8
  simp [sizeOf, typeInfo, hi, hz1]
theorem eql32 (xs ys : List UInt8) (hx : xs.length = 32) (hy : ys.length = 32) (w : World) :
    (binOp .eql 24 (.agg (xs.map u8v).toArray) (.agg (ys.map u8v).toArray)).run Try.prog w = .ok (.bool (xs == ys)) w :=
  run_eql_bytes w 24 5 32 Try.underlying24 Try.underlying5 sizeOf_u8 xs ys hx hy
theorem neq32 (xs ys : List UInt8) (hx : xs.length = 32) (hy : ys.length = 32) (w : World) :
    (binOp .neq 24 (.agg (xs.map u8v).toArray) (.agg (ys.map u8v).toArray)).run Try.prog w = .ok (.bool (!(xs == ys))) w := by
  rw [run_neq_struct]
  have h := run_equalIn_bytes (P := Try.prog) w 9998 24 5 32 Try.underlying24 Try.underlying5 sizeOf_u8 xs ys hx hy
  have h2 : (Op.equalIn 10000 24 (.agg (xs.map u8v).toArray) (.agg (ys.map u8v).toArray)).run Try.prog w = .ok (xs == ys) w := h
  rw [h2]
  rfl
set_option maxRecDepth 100000 in
set_option maxHeartbeats 1000000 in
theorem alive4_c (w : World) : Calls Try.prog 24 #[] w fun e w' => e = .returned (.bool true) ∧ Below w.heap.size w w' := by
  have kc := fun (w : World) (C : Array Value) (n c : Nat) => Lib.run_convert_bytes_const (P := Try.prog) w 22 5 C n c Try.underlying22 Try.underlying5
  have kc1 := fun (w : World) (o : Obj) (C : Array Value) (n c g : Nat) (hg : g = (w.alloc o).heap.size) => Joins.run_convert_bytes_const_at (P := Try.prog) (w.alloc o) 22 5 C n c g hg Try.underlying22 Try.underlying5
  go_enter Try.func24, Try.ntmps24
  go_wp2_with fail
  clear kc kc1
  have hr1 := (alloc_reads w jefe 5 (4, 5)).alloc (.cells (want.map u8v).toArray 5 (28, 29))
  have hs : (w.alloc (.cells (jefe.map u8v).toArray 5 (4, 5))).heap.size = w.heap.size + 1 := by simp
  have hr2 := alloc_reads (w.alloc (.cells (jefe.map u8v).toArray 5 (4, 5))) want 5 (28, 29)
  rw [hs] at hr2
  have hb := ((Below.refl w.heap.size w).alloc (Nat.le_refl _) (.cells (jefe.map u8v).toArray 5 (4, 5))).alloc (by rw [hs]; omega) (.cells (want.map u8v).toArray 5 (28, 29))
  have hs2 : ((w.alloc (.cells (jefe.map u8v).toArray 5 (4, 5))).alloc (.cells (want.map u8v).toArray 5 (28, 29))).heap.size = w.heap.size + 2 := by simp
  change Calls _ _ _ ((w.alloc (.cells (jefe.map u8v).toArray 5 (4, 5))).alloc (.cells (want.map u8v).toArray 5 (28, 29))) _
  generalize (w.alloc (.cells (jefe.map u8v).toArray 5 (4, 5))).alloc (.cells (want.map u8v).toArray 5 (28, 29)) = w1 at hr1 hr2 hb hs2 ⊢
  refine (tag_c w1 (some ⟨w.heap.size, 0, none⟩) (some ⟨w.heap.size + 1, 0, none⟩) 4 4 28 28 jefe want hr1 hr2 (by omega) (by omega)).mono ?_
  rintro e w2 ⟨rfl, hb2⟩
  obtain ⟨d, hd⟩ : ∃ d, tagL jefe want = d := ⟨_, rfl⟩
  have hdl : d = jefeTag := by rw [← hd]; exact tag_jefe
  rw [hd]
  have HB := Lib.hid (hb.trans (hb2.mono hb.size))
  have hsz : ((d.map u8v).toArray).size = 32 := by rw [hdl]; rfl
  clear hr1 hr2 hb hs2 hs hb2 hd
  rename_i K hK
  refine hK _ _ ?_
  refine wpList_alloc_store rfl rfl 24 rfl 1 rfl (.tmp 1) (.tmp 6) rfl rfl (.agg zero32) info_z32 (d.map u8v).toArray (by rw [hsz]; exact info_b32) (by rw [hsz]; rfl) (bytes_one d) rfl rfl ?_
  have hB := Blk.new w2 24 (d.map u8v).toArray
  have c0 := hB.cell 0
  have c31 := hB.cell 31
  have e0 : ((d.map u8v).toArray)[0]? = some (.int .u8 91) := by rw [hdl]; rfl
  have e31 : ((d.map u8v).toArray)[31]? = some (.int .u8 67) := by rw [hdl]; rfl
  rw [e0] at c0
  rw [e31] at c31
  have HB2 := Lib.hid (HB.out.alloc HB.out.size (.cells (d.map u8v).toArray 24))
  clear e0 e31 hB hdl HB
  generalize w2.alloc (.cells (d.map u8v).toArray 24) = w3 at *
  refine wpList_nil ?_
  rename_i K2 hK2
  show K2 _ _
  refine hK2 _ _ ?_
  go_wp2_with fail
  refine (same_c w3 none none 0 0 0 0 [] [] (Reads.none_ _) (Reads.none_ _) (Nat.zero_le _) (Nat.zero_le _)).mono ?_
  rintro e w4 ⟨rfl, q, rfl⟩
  go_wp2_with fail
  go_ret
  exact ⟨rfl, below_drewN HB2.out _⟩
end Go.Proofs.Ytgadnliogceecaa
