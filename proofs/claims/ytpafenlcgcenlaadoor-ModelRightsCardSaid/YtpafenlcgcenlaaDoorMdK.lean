/- A Fact built. -/
import Derived.Test.YtpafenlcgcenlaaDoorMdJ
namespace Go.Proofs.YtpafenlcgcenlaaDoor
open Go Go.RowKit
set_option linter.unusedVariables false
set_option linter.unusedSimpArgs false
noncomputable def sbFc (parts : Array (Nat × Value)) : Sem Value := Instr.build 57 parts
theorem sbFc_seal (parts : Array (Nat × Value)) : Instr.build 57 parts = sbFc parts := rfl
def zeroFc : List Value := .bool false :: .bool false :: (List.replicate 32 (u8v 0) ++ [.bool false])
theorem builtFc (parts : List (Nat × Value)) : Tryd.prog.built 57 parts = Instr.fill (#[(0, 1), (1, 1), (2, 32), (34, 1)][·]?) zeroFc.toArray parts := by kernel_rfl
theorem run_sbFc (a t : Bool) (d : List UInt8) (hd : d.length = 32) (w : World) : (sbFc #[(0, .bool a), (1, .bool t), (2, .agg (d.map u8v).toArray)]).run Tryd.prog w = .ok (.agg (Fc.cells ⟨a, t, d, false⟩).toArray) w := by
  refine run_build w _ _ _ ?_
  rw [builtFc]
  have h1 : Instr.fill (#[(0, 1), (1, 1), (2, 32), (34, 1)][·]?) zeroFc.toArray [(0, .bool a), (1, .bool t), (2, .agg (d.map u8v).toArray)] = Instr.fill (#[(0, 1), (1, 1), (2, 32), (34, 1)][·]?) (.bool a :: .bool t :: (List.replicate 32 (u8v 0) ++ [.bool false]) : List Value).toArray [(2, .agg (d.map u8v).toArray)] := by rfl
  rw [h1]
  have h2 := fill_one (#[(0, 1), (1, 1), (2, 32), (34, 1)][·]?) (.bool a :: .bool t :: (List.replicate 32 (u8v 0) ++ [.bool false])) (d.map u8v) 2 2 [] (by rw [List.length_map, hd]; rfl) (by rw [List.length_map, hd]; simp)
  refine Eq.trans h2 ?_
  rw [List.length_map, hd]
  show some _ = some _
  congr 2
end Go.Proofs.YtpafenlcgcenlaaDoor
