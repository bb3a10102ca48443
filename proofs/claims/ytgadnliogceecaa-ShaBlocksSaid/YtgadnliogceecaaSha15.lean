/- The hash, reckoned by steps that are counted. -/
import Derived.Test.YtgadnliogceecaaSha14
import Derived.Test.YtgadnliogceecaaLay
import Derived.Lib.SlBytesConst
namespace Go.Proofs.Ytgadnliogceecaa
open Go Go.RowKit
set_option linter.unusedVariables false
set_option linter.unusedSimpArgs false
def absorbF : Nat → St → List UInt8 → St × List UInt8
  | 0, s, l => (s, l)
  | f + 1, s, l => if 64 ≤ l.length then absorbF f (mixS s (l.take 64)) (l.drop 64) else (s, l)
theorem absorbF_eq (f : Nat) : ∀ (s : St) (l : List UInt8), l.length < 64 * (f + 1) → absorb s l = absorbF f s l := by
  induction f with
  | zero => intro s l h; exact absorb_done s l (by omega)
  | succ f ih =>
    intro s l h
    unfold absorbF
    by_cases h64 : 64 ≤ l.length
    · rw [absorb_more s l h64, if_pos h64]
      exact ih _ _ (by rw [List.length_drop]; omega)
    · rw [absorb_done s l h64, if_neg h64]
/-- The hash of few bytes. -/
def shaF (b : List UInt8) : List UInt8 :=
  let p := absorbF 4 St.first b
  told (absorbF 4 p.1 (padded (UInt64.ofNat b.length) p.2)).1
theorem padded_len (n : UInt64) (l : List UInt8) : (padded n l).length = l.length + 1 + zk l.length + 8 := by
  have hll : (long8 (n * 8)).length = 8 := rfl
  simp only [padded, List.length_append, List.length_cons, List.length_replicate, hll]; omega
theorem zk_lt (n : Nat) : zk n < 64 := by unfold zk; omega
theorem sha_F (b : List UInt8) (h : b.length < 320) : sha b = shaF b := by
  unfold sha shaF digest
  rw [absorbF_eq 4 St.first b (by omega)]
  rw [absorbF_eq 4 _ (padded _ _)]
  have h1 := absorb_rest St.first b
  rw [absorbF_eq 4 St.first b (by omega)] at h1
  have := zk_lt (absorbF 4 St.first b).2.length
  rw [padded_len]; omega
theorem sha_abc : sha [97, 98, 99] = [186, 120, 22, 191, 143, 1, 207, 234, 65, 65, 64, 222, 93, 174, 34, 35, 176, 3, 97, 163, 150, 23, 122, 156, 180, 16, 255, 97, 242, 0, 21, 173] := by
  rw [sha_F _ (by decide)]; kernel_rfl
theorem sha_nil : sha [] = [227, 176, 196, 66, 152, 252, 28, 20, 154, 251, 244, 200, 153, 111, 185, 36, 39, 174, 65, 228, 100, 155, 147, 76, 164, 149, 153, 27, 120, 82, 184, 85] := by
  rw [sha_F _ (by decide)]; kernel_rfl
theorem sha_56 : sha [97, 98, 99, 100, 98, 99, 100, 101, 99, 100, 101, 102, 100, 101, 102, 103, 101, 102, 103, 104, 102, 103, 104, 105, 103, 104, 105, 106, 104, 105, 106, 107, 105, 106, 107, 108, 106, 107, 108, 109, 107, 108, 109, 110, 108, 109, 110, 111, 109, 110, 111, 112, 110, 111, 112, 113] = [36, 141, 106, 97, 210, 6, 56, 184, 229, 192, 38, 147, 12, 62, 96, 57, 163, 60, 228, 89, 100, 255, 33, 103, 246, 236, 237, 212, 25, 219, 6, 193] := by
  rw [sha_F _ (by decide)]; kernel_rfl
theorem alloc_reads (w : World) (l : List UInt8) (t : TypeId) (fr : Nat × Nat) : Reads (w.alloc (.cells (l.map u8v).toArray t fr)) (some ⟨w.heap.size, 0, none⟩) l.length (l.map u8v) := by
  refine ⟨by simp, fun _ => ⟨w.heap.size, 0, rfl, by simp, fun j u hu => ?_⟩⟩
  rw [cell_of_row _ w.heap.size (0 + j) (l.map u8v).toArray t fr (by show (w.heap.push _)[w.heap.size]? = _; simp)]
  simpa using hu
theorem sum_d (w : World) (B : Option Addr) (n c : Nat) (b d : List UInt8) (hd : sha b = d) (hn : b.length = n) (r : Reads w B n (b.map u8v)) (hb : n ≤ 274877906944) :
    Calls Try.prog 13 #[.slice B n c] w fun e w' => e = .returned (.agg (d.map u8v).toArray) ∧ Below w.heap.size w w' := by
  subst hn
  subst hd
  exact sum_c w B c b r hb
theorem info_z32 : (Try.prog.info? 24).map (·.zero) = some (some (.agg zero32)) := by kernel_rfl
set_option maxRecDepth 100000 in
theorem alive3_c (w : World) : Calls Try.prog 12 #[] w fun e w' => e = .returned (.bool true) ∧ Below w.heap.size w w' := by
  have kc := fun (w : World) (C : Array Value) (n c : Nat) => Lib.run_convert_bytes_const (P := Try.prog) w 22 5 C n c Try.underlying22 Try.underlying5
  go_enter Try.func12, Try.ntmps12
  go_wp2_with fail
  clear kc
  obtain ⟨d, hd⟩ : ∃ d, d = sha [97, 98, 99] := ⟨_, rfl⟩
  have hdl : d = [186, 120, 22, 191, 143, 1, 207, 234, 65, 65, 64, 222, 93, 174, 34, 35, 176, 3, 97, 163, 150, 23, 122, 156, 180, 16, 255, 97, 242, 0, 21, 173] := by rw [hd]; exact sha_abc
  refine (sum_d (w.alloc (.cells #[u8v 97, u8v 98, u8v 99] 5 (3, 4))) (some ⟨w.heap.size, 0, none⟩) 3 3 [97, 98, 99] d hd.symm rfl (alloc_reads w [97, 98, 99] _ _) (by omega)).mono ?_
  rintro e w1 ⟨rfl, hb⟩
  have hb1 := ((Below.refl w.heap.size w).alloc (Nat.le_refl _) (.cells #[u8v 97, u8v 98, u8v 99] 5 (3, 4))).trans (hb.mono (by simp))
  have HB1 := Lib.hid hb1
  clear hb hb1
  have hsz : ((d.map u8v).toArray).size = 32 := by rw [hdl]; rfl
  rename_i K hK
  refine hK _ _ ?_
  refine wpList_alloc_store rfl rfl 24 rfl 1 rfl (.tmp 1) (.tmp 4) rfl rfl (.agg zero32) info_z32 (d.map u8v).toArray (by rw [hsz]; exact info_b32) (by rw [hsz]; rfl) (bytes_one d) rfl rfl ?_
  have hB := Blk.new w1 24 (d.map u8v).toArray
  have c0 := hB.cell 0
  have c1 := hB.cell 1
  have c31 := hB.cell 31
  have e0 : ((d.map u8v).toArray)[0]? = some (.int .u8 186) := by rw [hdl]; rfl
  have e1 : ((d.map u8v).toArray)[1]? = some (.int .u8 120) := by rw [hdl]; rfl
  have e31 : ((d.map u8v).toArray)[31]? = some (.int .u8 173) := by rw [hdl]; rfl
  rw [e0] at c0
  rw [e1] at c1
  rw [e31] at c31
  have hB2 := HB1.out.alloc HB1.out.size (.cells (d.map u8v).toArray 24)
  have HB2 := Lib.hid hB2
  clear e0 e1 e31 hB hB2 hd hdl
  generalize w1.alloc (.cells (d.map u8v).toArray 24) = w2 at *
  refine wpList_nil ?_
  rename_i K2 hK2
  show K2 _ _
  refine hK2 _ _ ?_
  go_wp2_with fail
  go_ret
  exact ⟨rfl, HB2.out⟩
end Go.Proofs.Ytgadnliogceecaa
