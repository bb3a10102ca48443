/- A load of 32 bytes, sealed. -/
import Derived.Test.YtlchlcjahndjgaaShaC
namespace Go.Proofs.Ytlchlcjahndjgaa
open Go Go.RowKit
set_option linter.unusedVariables false
/-- A load of 32 bytes, sealed. -/
noncomputable def sld (x : Value) : Sem Value := Instr.loadAt 32 x
theorem sld_seal (x : Value) : Instr.loadAt 32 x = sld x := rfl
theorem run_sld {W : World} {g : Nat} {d : List UInt8} (hd : d.length = 32) (h : Blk W g 32 (d.map u8v).toArray) : (sld (.pointer (some ⟨g, 0, none⟩))).run Try.prog W = .ok (.agg (d.map u8v).toArray) W :=
  run_loadAt_mid (P := Try.prog) W g 0 32 (d.map u8v) _ ((h.bytes hd).rangeAt) Try.underlying32 rfl (by rw [List.length_map, hd]; exact info_b32)
end Go.Proofs.Ytlchlcjahndjgaa
