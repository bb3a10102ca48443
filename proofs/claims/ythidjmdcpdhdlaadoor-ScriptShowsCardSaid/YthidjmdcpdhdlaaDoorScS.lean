/- strings.Builder: copyCheck, WriteByte and WriteString, walked at this seat (here the panic behind copyCheck holds no operation). -/
import Derived.Test.YthidjmdcpdhdlaaDoorScR
namespace Go.Proofs.YthidjmdcpdhdlaaDoor
open Go Go.RowKit
set_option linter.unusedVariables false
set_option linter.unusedSimpArgs false
theorem size_bld : (Tryd.prog.info? 51).map (·.size) = some 2 := by kernel_rfl
theorem lies_bld : liesAt Tryd.prog Tryd.prog.depth 51 (2 / Tryd.prog.cellsOf 51) 0 51 1 = true := by kernel_rfl
/-- A builder that holds these bytes. -/
def BldAt (w : World) (B b : Nat) (l : List UInt8) : Prop := Lib.IsBuilder 51 5 B b (l.map u8v) w
def BldUsed (w : World) (B b : Nat) (l : List UInt8) : Prop := Lib.BuilderAt 51 5 B b (.pointer (some ⟨b, 0, none⟩)) (l.map u8v) w
theorem BldUsed.at_ {w : World} {B b : Nat} {l : List UInt8} (h : BldUsed w B b l) : BldAt w B b l := .inr h
set_option maxRecDepth 100000 in
theorem bcheck_c (B b : Nat) (l : List UInt8) (w : World) (h : BldAt w B b l) : Calls Tryd.prog 31 #[.pointer (some ⟨b, 0, none⟩)] w fun e w' => e = .returned (.tuple #[]) ∧ BldUsed w' B b l ∧ Below B w w' := by
  obtain ⟨j, hj, hjs⟩ := Option.map_eq_some_iff.1 size_bld
  rcases h with h | h
  · have h0 := h.cell0
    have hsh := h.shape
    have hfz := h.frozen0
    have HH := Lib.hid h
    clear h
    go_enter Tryd.func31, Tryd.ntmps31
    go_wp2
    rw [Lib.run_to_unsafe w ⟨b, 0, none⟩ Tryd.underlying49 Tryd.underlying72 hj (by rw [hjs]; decide) hsh (Nat.zero_lt_succ 1)]
    simp only [Result.andThen]
    rw [Oper.upon_value]
    go_wp2
    rw [run_callFunc_extern Tryd.func37 (by kernel_rfl) (by kernel_rfl) (by kernel_rfl) (e := Extern.AbiNoEscape.same) (by kernel_rfl), Lib.run_noEscape]
    simp only [Result.andThen]
    rw [Oper.upon_value]
    go_wp2
    rw [Lib.run_from_unsafe w ⟨b, 0, none⟩ Tryd.underlying72 Tryd.underlying49 hj hsh lies_bld]
    simp only [Result.andThen]
    rw [Oper.upon_value]
    go_wp2
    go_end0
    exact ⟨rfl, HH.out.used _, (Below.refl B w).setCell (p := ⟨b, 0, none⟩) HH.out.1 _⟩
  · have h0 := h.cell0
    have HH := Lib.hid h
    clear h
    go_enter Tryd.func31, Tryd.ntmps31
    go_wp2
    rw [Lib.run_neq_ptr_same w _ Tryd.underlying49 hj]
    go_wp2
    go_end0
    exact ⟨rfl, HH.out, Below.refl B _⟩
set_option maxRecDepth 100000 in
set_option maxHeartbeats 2000000 in
theorem bwstr_c (B b : Nat) (l : List UInt8) (s : ByteArray) (w : World) (h : BldAt w B b l) (hlen : l.length + s.size ≤ 100000000) (hBw : B ≤ w.heap.size) : Calls Tryd.prog 20 #[.pointer (some ⟨b, 0, none⟩), .string s] w fun e w' => e = .returned (.tuple #[.int .i64 s.size, .nilIface]) ∧ BldAt w' B b (l ++ s.data.toList) ∧ Below B w w' := by
  obtain ⟨i0, hi, hz0, hz1, hz2⟩ := info_parts info_u8
  go_enter Tryd.func20, Tryd.ntmps20
  go_wp2_with fail
  refine (bcheck_c B b l _ h).mono ?_
  rintro e w1 ⟨rfl, ⟨hB, v, hbk, hown, hne⟩, hb1⟩
  have c0 : w1.cell? ⟨b, 0, none⟩ = some (.pointer (some ⟨b, 0, none⟩)) := by rw [Lib.cell_of_heap hbk]; rfl
  have c1 : w1.cell? ⟨b, 1, none⟩ = some v := by rw [Lib.cell_of_heap hbk]; rfl
  have hsz := hb1.size
  have hml : (l.map u8v).length = l.length := List.length_map ..
  go_wp2_with (at_builtin; refine Lib.wpList_append_own_string _ rfl _ _ 32 9 rfl B 5 i0 Tryd.underlying32 Tryd.underlying9 hi hz0 hz1 hz2 _ _ _ rfl hown s rfl ?c3 ?c4 ?c5 ?_)
  case c3 => rw [hml]; unfold maxLen; omega
  case c4 => rw [hml]; omega
  case c5 => omega
  intro v' w2 hown' hgrow _
  have hlt : b < w1.heap.size := lt_of_get hbk
  have hb2 : w2.heap[b]? = some (.cells #[.pointer (some ⟨b, 0, none⟩), v] 51 (0, 0)) := by
    rw [hgrow.block b hlt (fun e => hne e.symm)]
    exact hbk
  have d0 : w2.cell? ⟨b, 0, none⟩ = some (.pointer (some ⟨b, 0, none⟩)) := by rw [Lib.cell_of_heap hb2]; rfl
  have d1 : w2.cell? ⟨b, 1, none⟩ = some v := by rw [Lib.cell_of_heap hb2]; rfl
  have f1 : w2.frozen? ⟨b, 1, none⟩ = false := Lib.frozen_of_heap hb2 1
  have hmm : (l ++ s.data.toList).map u8v = l.map u8v ++ Lib.strCells s := by rw [List.map_append]; rfl
  have hown2 : w2.ownsRow B 5 1 v' ((l ++ s.data.toList).map u8v).length ((l ++ s.data.toList).map u8v) := by
    rw [hmm, List.length_append, Lib.strCells_length, hml]; exact hown'
  obtain ⟨ao, n', cap, rfl⟩ : ∃ ao n' cap, v' = .slice ao n' cap := by
    rcases hown2.2 with ⟨hv, _⟩ | ⟨g, cap, cur, hv, _⟩
    · exact ⟨_, _, _, hv⟩
    · exact ⟨_, _, _, hv⟩
  have HO2 := Lib.hid hown2
  clear hown' hmm hown2
  go_wp2
  go_ret2
  exact ⟨rfl, .inr (Lib.BuilderAt.put (T := 51) (e := 5) hB hb2 HO2.out (by decide)), (hb1.grown hgrow (by omega) (fun k hk => (hown.lt k hk).1)).setCell (p := ⟨b, 1, none⟩) hB _⟩
set_option maxRecDepth 100000 in
set_option maxHeartbeats 2000000 in
theorem bwbyte_c (B b : Nat) (l : List UInt8) (x : UInt8) (w : World) (h : BldAt w B b l) (hlen : l.length ≤ 100000000) (hBw : B ≤ w.heap.size) : Calls Tryd.prog 40 #[.pointer (some ⟨b, 0, none⟩), .int .u8 (x.toNat : Int)] w fun e w' => e = .returned .nilIface ∧ BldAt w' B b (l ++ [x]) ∧ Below B w w' := by
  obtain ⟨i0, hi, hz0, hz1, hz2⟩ := info_parts info_u8
  go_enter Tryd.func40, Tryd.ntmps40
  go_wp2_with fail
  refine (bcheck_c B b l _ h).mono ?_
  rintro e w1 ⟨rfl, ⟨hB, v, hbk, hown, hne⟩, hb1⟩
  have c0 : w1.cell? ⟨b, 0, none⟩ = some (.pointer (some ⟨b, 0, none⟩)) := by rw [Lib.cell_of_heap hbk]; rfl
  have c1 : w1.cell? ⟨b, 1, none⟩ = some v := by rw [Lib.cell_of_heap hbk]; rfl
  have hsz := hb1.size
  have hml : (l.map u8v).length = l.length := List.length_map ..
  have hrd : Reads (w1.alloc (.cells #[.int .u8 (x.toNat : Int)] 5)) (some ⟨w1.heap.size, 0, none⟩) 1 (([x] : List UInt8).map u8v) := (Blk.new w1 5 #[u8v x]).reads 0 (by simp)
  go_wp2_with (at_builtin; refine wpList_append_any _ rfl _ _ _ rfl B 5 i0 (.int .u8 0) 1 Tryd.underlying32 hi hz0 hz1 hz2 rfl _ _ _ rfl (hown.alloc _) (some ⟨w1.heap.size, 0, none⟩) 1 1 (([x] : List UInt8).map u8v) rfl hrd (u8v_one _) ?c3 ?c4 ?c5 ?_)
  case c3 => rw [hml]; unfold maxLen; omega
  case c4 => rw [hml]; omega
  case c5 => simp; omega
  intro A2 cc2 w2 hown' hgrow _
  have hlt : b < w1.heap.size := lt_of_get hbk
  have hb2 : w2.heap[b]? = some (.cells #[.pointer (some ⟨b, 0, none⟩), v] 51 (0, 0)) := by
    rw [hgrow.block b (by simp; omega) (fun e => hne e.symm), Lib.alloc_old w1 _ b hlt]
    exact hbk
  have d0 : w2.cell? ⟨b, 0, none⟩ = some (.pointer (some ⟨b, 0, none⟩)) := by rw [Lib.cell_of_heap hb2]; rfl
  have d1 : w2.cell? ⟨b, 1, none⟩ = some v := by rw [Lib.cell_of_heap hb2]; rfl
  have f1 : w2.frozen? ⟨b, 1, none⟩ = false := Lib.frozen_of_heap hb2 1
  have hown2 : w2.ownsRow B 5 1 (.slice A2 (l.length + 1) cc2) ((l ++ [x]).map u8v).length ((l ++ [x]).map u8v) := by
    have e : ((l ++ [x]).map u8v).length = l.length + 1 := by simp
    rw [e, List.map_append]
    exact hown'
  have HO2 := Lib.hid hown2
  clear hown' hown2
  go_wp2
  go_ret
  refine ⟨rfl, .inr (Lib.BuilderAt.put (T := 51) (e := 5) hB hb2 ?_ (by decide)), ((hb1.alloc (by omega) _).grown hgrow (by simp; omega) (fun k hk => (hown.lt k hk).1)).setCell (p := ⟨b, 1, none⟩) hB _⟩
  exact HO2.out
/-- String of a builder. -/
theorem bstr_c (B b : Nat) (l : List UInt8) (w : World) (h : BldAt w B b l) (hBw : B ≤ w.heap.size) : Calls Tryd.prog 22 #[.pointer (some ⟨b, 0, none⟩)] w fun e w' => e = .returned (.string ⟨l.toArray⟩) ∧ Below B w w' := Tryd.Builder_String_any B b l w h hBw
theorem bld_new (w : World) : BldAt (w.alloc (.cells #[.pointer none, .slice none 0 0] 51)) w.heap.size w.heap.size [] := Lib.fresh_isBuilder _ _ w
end Go.Proofs.YthidjmdcpdhdlaaDoor
