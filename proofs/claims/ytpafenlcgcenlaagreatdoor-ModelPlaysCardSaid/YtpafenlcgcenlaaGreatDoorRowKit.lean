/- From the form's reading of a slice argument to 'Reads'. -/
import Derived.Test.YtpafenlcgcenlaaGreatDoorBase
import Derived.ProofKit
import Derived.OpenShut
namespace Go.Proofs.YtpafenlcgcenlaaGreatDoor
open Go.ChangeShapes Go.WideShapes Go.ChangeAt Go.RowKit
set_option linter.unusedVariables false

theorem reads_of_cells {w : World} {x : Addr} {n c : Nat} {k : IntKind} {zs : List Int} (hl : n ≤ c) (hz : zs.length = c) (hcell : ∀ i, i < zs.length → w.cell? (x.add i) = some (.int k (zs.getD i 0))) :
    Reads w (some x) n ((zs.take n).map (Value.int k)) := by
  refine ⟨by simp; omega, fun hn => ?_⟩
  obtain ⟨b, off, spot⟩ := x
  have h0 := hcell 0 (by omega)
  have hspot : spot = none := by simpa [Addr.add] using World.cell?_spot h0
  subst hspot
  refine ⟨b, off, rfl, ?_, fun j u hu => ?_⟩
  · have := World.block_lt_of_cell? w _ h0
    simpa [Addr.add] using this
  · rw [List.getElem?_map] at hu
    have hj : j < n ∧ j < zs.length := by
      rcases Nat.lt_or_ge j n with h | h
      · exact ⟨h, by omega⟩
      · rw [List.getElem?_eq_none (by simp; omega)] at hu; cases hu
    have h1 := hcell j hj.2
    rw [add_off] at h1
    rw [h1]
    rw [List.getElem?_take, if_pos hj.1, List.getElem?_eq_getElem hj.2] at hu
    simp only [Option.map_some, Option.some.injEq] at hu
    subst hu
    simp [hj.2]
theorem u8_map {zs : List Int} (h : ∀ z ∈ zs, (Lit.int .u8 z).wf = true) : (zs.map (fun z => UInt8.ofNat z.toNat)).map u8v = zs.map (Value.int .u8) := by
  rw [List.map_map]
  apply List.map_congr_left
  intro z hz
  have hb := bounds_u8 (h z hz)
  show Value.int .u8 _ = _
  congr 1
  rw [UInt8.toNat_ofNat']
  omega
theorem row_u8 {w : World} {x : Addr} {n c : Nat} {zs : List Int} (hl : n ≤ c) (hm : c ≤ maxLen) (hz : zs.length = c) (hcell : ∀ i, i < zs.length → w.cell? (x.add i) = some (.int .u8 (zs.getD i 0))) (hw : ∀ z ∈ zs, (Lit.int .u8 z).wf = true) :
    ∃ l : List UInt8, Reads w (some x) n (l.map u8v) ∧ n ≤ maxLen := by
  refine ⟨(zs.take n).map (fun z => UInt8.ofNat z.toNat), ?_, by omega⟩
  rw [u8_map (fun z hz' => hw z (List.mem_of_mem_take hz'))]
  exact reads_of_cells hl hz hcell
theorem row_i64 {w : World} {x : Addr} {n c : Nat} {zs : List Int} (hl : n ≤ c) (hm : c ≤ maxLen) (hz : zs.length = c) (hcell : ∀ i, i < zs.length → w.cell? (x.add i) = some (.int .i64 (zs.getD i 0))) (hw : ∀ z ∈ zs, (Lit.int .i64 z).wf = true) :
    ∃ l : List Int, Reads w (some x) n (l.map i64v) ∧ n ≤ maxLen :=
  ⟨zs.take n, reads_of_cells hl hz hcell, by omega⟩
end Go.Proofs.YtpafenlcgcenlaaGreatDoor
