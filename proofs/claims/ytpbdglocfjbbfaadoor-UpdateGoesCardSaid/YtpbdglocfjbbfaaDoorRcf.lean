/- The reference's RightConfig, of a config whose name alone is open. -/
import Derived.Test.YtpbdglocfjbbfaaDoorRmn1
namespace Go.Proofs.YtpbdglocfjbbfaaDoor
open Go Go.RowKit
set_option linter.unusedVariables false
set_option linter.unusedSimpArgs false
set_option maxRecDepth 100000 in
set_option maxHeartbeats 1000000 in
theorem rconfig_c (w : World) (nm : ByteArray) (hs : nm.size ≤ 9223372036854775807) (KA FA : Option Addr) (kc fc : Nat) :
    Calls Tryd.prog 17 #[.agg #[.string nm, .slice KA 1 kc, .int .i64 1, .int .i64 0, .int .i64 1, .int .i64 0, .slice FA 1 fc]] w fun e w' => e = .returned (.bool (validN nm)) ∧ Below w.heap.size w w' := by
  have hB0 := Blk.new w 49 #[.string nm, .slice KA 1 kc, .int .i64 1, .int .i64 0, .int .i64 1, .int .i64 0, .slice FA 1 fc]
  have hb0 : Below w.heap.size w (w.alloc (.cells #[.string nm, .slice KA 1 kc, .int .i64 1, .int .i64 0, .int .i64 1, .int .i64 0, .slice FA 1 fc] 49)) := (Below.refl _ _).alloc (Nat.le_refl _) _
  have hval := fun W => rvalid_c nm hs W
  obtain ⟨V, hV⟩ : ∃ V, validN nm = V := ⟨_, rfl⟩
  simp only [hV] at hval ⊢
  have HB := Lib.hid hB0
  have HL := Lib.hid hb0
  have HV := Lib.hid hval
  clear hB0 hb0 hval hV
  go_enter Tryd.func17, Tryd.ntmps17
  go_wp2_with fail
  refine (HV.out _).mono ?_
  rintro e w1 ⟨rfl, hb1⟩
  have hB := HB.out.below hb1 HB.out.lt
  have k1 : w1.cell? ⟨w.heap.size, 1, none⟩ = some (.slice KA 1 kc) := hB.cell 1
  have k2 : w1.cell? ⟨w.heap.size, 2, none⟩ = some (.int .i64 1) := hB.cell 2
  have k3 : w1.cell? ⟨w.heap.size, 3, none⟩ = some (.int .i64 0) := hB.cell 3
  have k4 : w1.cell? ⟨w.heap.size, 4, none⟩ = some (.int .i64 1) := hB.cell 4
  have k5 : w1.cell? ⟨w.heap.size, 5, none⟩ = some (.int .i64 0) := hB.cell 5
  have k6 : w1.cell? ⟨w.heap.size, 6, none⟩ = some (.slice FA 1 fc) := hB.cell 6
  have HL := Lib.hid (HL.out.trans (hb1.mono HL.out.size))
  clear hb1 hB HB
  cases V
  · go_wp2_with fail
    go_ret
    exact ⟨rfl, HL.out⟩
  · go_wp2_with fail
    go_ret
    exact ⟨rfl, HL.out⟩
end Go.Proofs.YtpbdglocfjbbfaaDoor
