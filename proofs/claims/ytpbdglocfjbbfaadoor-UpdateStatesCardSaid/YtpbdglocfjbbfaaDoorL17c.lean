/- UpdateStates: what it begins with. -/
import Derived.Test.YtpbdglocfjbbfaaDoorRm
import Derived.Test.YtpbdglocfjbbfaaDoorL17a
namespace Go.Proofs.YtpbdglocfjbbfaaDoor
open Go Go.RowKit
set_option linter.unusedVariables false
set_option linter.unusedSimpArgs false
attribute [local go_sem ↓] sldI_seal sldM_seal sstM_seal sstI_seal sldF_seal sldQ_seal sldR_seal sstR_seal
noncomputable def sbM (parts : Array (Nat × Value)) : Sem Value := Instr.build 27 parts
theorem sbM_seal (parts : Array (Nat × Value)) : Instr.build 27 parts = sbM parts := rfl
noncomputable def sstQ (x v : Value) : Sem Unit := Instr.storeAt 30 x v
theorem sstQ_seal (x v : Value) : Instr.storeAt 30 x v = sstQ x v := rfl
theorem run_sstQ {W : World} {g : Nat} {old : Array Value} (k n : Int) (A : Option Addr) (l c : Nat) (h : Blk W g 30 old) (ho : old.size = 3) :
    (sstQ (.pointer (some ⟨g, 0, none⟩)) (.agg #[.int .i64 k, .int .i64 n, .slice A l c])).run Tryd.prog W = .ok () (W.setRow g #[.int .i64 k, .int .i64 n, .slice A l c]) := by
  unfold sstQ
  simp only [Instr.storeAt, Instr.sureAddr, Sem.run_bind, Sem.run_pure, Result.andThen_ok, run_storeVar_row (P := Tryd.prog) W g 30 30 old #[.int .i64 k, .int .i64 n, .slice A l c] h info_sQ ho (by simp [Value.oneCell'])]
theorem act0 : -9223372036854775808 ≤ (0 : Int) ∧ (0 : Int) ≤ 9223372036854775807 := by decide
def litM (p : Int) : Mt := { Mt.zero with ph := p, mn := 4 }
theorem litM_ok (p : Int) : (litM p).Ok := ⟨rfl, rfl, rfl, act0⟩
theorem run_sbM (p : Int) (w : World) : (sbM #[(3, .int .i64 p), (2, .int .i64 4)]).run Tryd.prog w = .ok (.agg (litM p).cells.toArray) w := by
  refine run_build w _ _ _ ?_
  have h : Tryd.prog.built 27 [(3, .int .i64 p), (2, .int .i64 4)] = Instr.fill (#[(0, 1), (1, 68), (69, 1), (70, 1), (71, 34), (105, 1), (106, 1)][·]?) Tryd.zeroCells27 [(3, .int .i64 p), (2, .int .i64 4)] := by kernel_rfl
  rw [h, zeroC_M]
  rfl
def mS (p t : Int) : Mt :=
  if p = 0 then { litM 0 with h0 := ⟨1, 5, List.replicate 32 0⟩ }
  else if p = 3 then { litM 3 with h0 := ⟨1, 5, List.replicate 32 0⟩, h1 := ⟨5, 7, List.replicate 32 0⟩, tr := t }
  else { litM p with h0 := ⟨1, 5, List.replicate 32 0⟩, cm := ⟨5, 7, List.replicate 32 0⟩, got := p - 1 }
def B0 : Ch := ⟨Mt.zero, 0, 0, 0⟩
theorem mS_ok (p t : Int) : (mS p t).Ok := by
  unfold mS
  repeat' split
  · exact ⟨rfl, rfl, rfl, act0⟩
  · exact ⟨rfl, rfl, rfl, act0⟩
  · exact ⟨rfl, rfl, rfl, act0⟩
end Go.Proofs.YtpbdglocfjbbfaaDoor
