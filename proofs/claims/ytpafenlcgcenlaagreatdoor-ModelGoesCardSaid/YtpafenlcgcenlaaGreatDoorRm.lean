/- The reference's RightMeta: may a Meta be? -/
import Derived.Test.YtpafenlcgcenlaaGreatDoorUpC
namespace Go.Proofs.YtpafenlcgcenlaaGreatDoor
open Go Go.RowKit
set_option linter.unusedVariables false
set_option linter.unusedSimpArgs false
attribute [local go_sem ↓] sldI_seal sldM_seal
theorem rchunks12_c (n : Int) (hn : -9223372036854775808 ≤ n ∧ n ≤ 9223372036854775807) (w : World) : Calls Tryz.prog 42 #[.int .i64 n] w fun e w' => e = .returned (.int .i64 (chunksZ n)) ∧ w = w' := by
  unfold chunksZ
  by_cases h : n < 1
  · rw [if_pos h]
    go_enter Tryz.func42, Tryz.ntmps42
    go_wp2_with fail
    go_ret
    exact ⟨rfl, rfl⟩
  · rw [if_neg h]
    go_enter Tryz.func42, Tryz.ntmps42
    go_wp2_with fail
    go_ret
    exact ⟨rfl, rfl⟩
def Img.rmay (i : Img) (no : Bool) : Bool := if i.none = true then true else !no && (decide (1 ≤ i.v) && (decide (i.v ≤ 1073741824) && (decide (1 ≤ i.s) && decide (i.s ≤ 1920))))
def rphase (ph got tr K : Int) (C O : Bool) : Bool :=
  if ph = 0 then !C && (got == 0 && tr == 0) else if ph = 1 then C && (!O && (tr == 0 && decide (got ≤ K))) else if ph = 2 then C && (!O && (tr == 0 && got == K)) else if ph = 3 then !C && (got == 0 && O) else false
def Mt.rright (m : Mt) : Bool :=
  decide (0 ≤ m.act) && (decide (m.act ≤ 1) && (m.h0.rmay false && (m.h1.rmay false && (!((m.have_ m.act).v == 0) && (decide (0 ≤ m.mn) && (decide (m.mn ≤ 1073741824) && (decide (0 ≤ m.got) && (decide (m.got ≤ 6) && (decide (0 ≤ m.tr) && (decide (m.tr ≤ 2) &&
    (m.cm.rmay (!decide (0 < m.cm.v)) && rphase m.ph m.got m.tr (chunksZ m.cm.s) (decide (0 < m.cm.v)) (decide (0 < m.oth.v)))))))))))))
end Go.Proofs.YtpafenlcgcenlaaGreatDoor
