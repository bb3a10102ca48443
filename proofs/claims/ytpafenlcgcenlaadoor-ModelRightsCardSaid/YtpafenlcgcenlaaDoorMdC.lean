/- A Config and a Model as wholes: sealed loads, stores, the build of a Model. -/
import Derived.Test.YtpafenlcgcenlaaDoorMdB
namespace Go.Proofs.YtpafenlcgcenlaaDoor
open Go Go.RowKit
set_option linter.unusedVariables false
set_option linter.unusedSimpArgs false
noncomputable def sldK (x : Value) : Sem Value := Instr.loadAt 27 x
theorem sldK_seal (x : Value) : Instr.loadAt 27 x = sldK x := rfl
noncomputable def sbMd (parts : Array (Nat × Value)) : Sem Value := Instr.build 48 parts
theorem sbMd_seal (parts : Array (Nat × Value)) : Instr.build 48 parts = sbMd parts := rfl
theorem run_sldK {W : World} {g o : Nat} {cs : List Value} (hs : cs.length = 7) (h : W.rangeAt g o cs) : (sldK (.pointer (some ⟨g, o, none⟩))).run Tryd.prog W = .ok (.agg cs.toArray) W :=
  run_loadAt_mid (P := Tryd.prog) W g o 27 cs _ h Tryd.underlying27 rfl (by rw [hs]; exact info_sCf)
def zeroCf : List Value := [.string ⟨#[]⟩, .slice none 0 0, .int .i64 0, .int .i64 0, .int .i64 0, .int .i64 0, .slice none 0 0]
theorem zeroMd : Tryd.zeroCells48 = (mdC zeroCf Mt.zero (.slice none 0 0) (.slice none 0 0)).toArray := by kernel_rfl
theorem builtMd (parts : List (Nat × Value)) : Tryd.prog.built 48 parts = Instr.fill (#[(0, 7), (7, 107), (114, 2)][·]?) Tryd.zeroCells48 parts := by kernel_rfl
theorem run_sbMd (cf : List Value) (hc : cf.length = 7) (w : World) : (sbMd #[(0, .agg cf.toArray)]).run Tryd.prog w = .ok (.agg (mdC cf Mt.zero (.slice none 0 0) (.slice none 0 0)).toArray) w := by
  refine run_build w _ _ _ ?_
  rw [builtMd, zeroMd, fill_one _ _ cf 0 0 [] (by rw [hc]; rfl) (by rw [hc, mdC_len (cf := zeroCf) rfl Mt.zero_ok]; decide)]
  rw [hc]
  rfl
theorem mdC_one {cf : List Value} (hc : ∀ u ∈ cf, u.oneCell' = true) (m : Mt) {s0 s1 : Value} (h0 : s0.oneCell' = true) (h1 : s1.oneCell' = true) : ∀ u ∈ mdC cf m s0 s1, u.oneCell' = true := by
  intro u hu
  unfold mdC at hu
  simp only [List.mem_append, List.mem_cons, List.not_mem_nil, or_false] at hu
  rcases hu with hu | hu | rfl | rfl
  · exact hc u hu
  · exact Mt.one m u hu
  · exact h0
  · exact h1
theorem Cf.one (c : Cf) (K : Option Addr) (kc : Nat) (F : Option Addr) (fc : Nat) : ∀ u ∈ c.cells K kc F fc, u.oneCell' = true := by
  intro u hu
  simp only [Cf.cells, List.mem_cons, List.not_mem_nil, or_false] at hu
  rcases hu with rfl | rfl | rfl | rfl | rfl | rfl | rfl <;> rfl
end Go.Proofs.YtpafenlcgcenlaaDoor
