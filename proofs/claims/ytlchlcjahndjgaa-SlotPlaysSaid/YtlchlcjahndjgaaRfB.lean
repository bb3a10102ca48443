/- The reference's flash: turn. -/
import Derived.Test.YtlchlcjahndjgaaRfA
namespace Go.Proofs.Ytlchlcjahndjgaa
open Go.RowKit
set_option linter.unusedVariables false
set_option linter.unusedSimpArgs false
theorem u8_ortn (a b : UInt8) : bits .or .u8 (a.toNat : Int) (b.toNat : Int) = ((a ||| b).toNat : Int) := by
  rw [u8_or_nat _ _ a.toNat_lt b.toNat_lt, UInt8.toNat_or]
theorem u8_andtn (a b : UInt8) : bits .and .u8 (a.toNat : Int) (b.toNat : Int) = ((a &&& b).toNat : Int) := by
  rw [u8_and_nat _ _ a.toNat_lt b.toNat_lt, UInt8.toNat_and]
theorem u8_xortn (a : UInt8) : bits .xor .u8 (a.toNat : Int) 255 = ((a ^^^ 255).toNat : Int) := by
  have := u8_xor_nat a.toNat 255 a.toNat_lt (by omega)
  rw [UInt8.toNat_xor]
  exact this
theorem rf_ext (x y : UInt8) (h : ∀ i, i < 8 → x.toBitVec.getLsbD i = y.toBitVec.getLsbD i) : x = y := by
  rw [← UInt8.toBitVec_inj]
  exact BitVec.eq_of_getLsbD_eq fun i hi => h i hi
theorem rf_bit255 (i : Nat) (hi : i < 8) : ((255 : UInt8).toBitVec).getLsbD i = true := by
  have h0 : ∀ j : Fin 8, ((255 : UInt8).toBitVec).getLsbD j = true := by decide
  exact h0 ⟨i, hi⟩
theorem rf_mix (x c m : UInt8) : x &&& m ||| c &&& (m ^^^ 255) = mixB x c m := by
  unfold mixB
  refine rf_ext _ _ fun i hi => ?_
  simp only [UInt8.toBitVec_and, UInt8.toBitVec_or, UInt8.toBitVec_not, UInt8.toBitVec_xor, BitVec.getLsbD_and, BitVec.getLsbD_or, BitVec.getLsbD_not, BitVec.getLsbD_xor, rf_bit255 i hi, hi, decide_true, Bool.true_and]
  cases x.toBitVec.getLsbD i <;> cases m.toBitVec.getLsbD i <;> cases c.toBitVec.getLsbD i <;> rfl
theorem u8_mixr (x c m : UInt8) : bits .or .u8 (bits .and .u8 (x.toNat : Int) (m.toNat : Int)) (bits .and .u8 (c.toNat : Int) (bits .xor .u8 (m.toNat : Int) 255)) = ((mixB x c m).toNat : Int) := by
  rw [u8_xortn, u8_andtn, u8_andtn, u8_ortn, rf_mix]
namespace RF
def now (G : RF) : Bool := G.cutb && (G.left == 0)
def stay (G : RF) (i : Nat) : UInt8 := if G.now = true ∧ G.mask ≠ [] then G.mask.getD (i % G.mask.length) 0 else 0
def part (G : RF) (a : Nat) (bs : List UInt8) (k : Nat) : RF :=
  { G with b := laid G.b a (bs.take k) G.stay, left := if G.cutb then G.left - 1 else G.left, ops := wrap64 (G.ops + 1) }
def turn (G : RF) (a : Nat) (bs : List UInt8) : RF := { G.part a bs bs.length with off := G.off || G.now, cutb := G.cutb && !G.now }
def turnE (G : RF) : Int := if G.now then 4 else 0
theorem turn_fl (G : RF) (h : G.cutb = true → 0 ≤ G.left) (a : Nat) (bs : List UInt8) : (G.turn a bs).fl = G.fl.work a bs ∧ G.turnE = G.fl.workE := by
  have hc : (G.fl.cut == 0) = G.now := by
    show ((if G.cutb then G.left else -1) == 0) = (G.cutb && (G.left == 0))
    cases G.cutb <;> simp
  have hs : ∀ i, G.fl.stays i (G.fl.cut == 0) = G.stay i := fun i => by
    rw [hc]
    rfl
  constructor
  · have e : G.fl.work a bs = { b := laid G.b a bs G.stay, wear := G.wear, cut := if 0 ≤ G.fl.cut then G.fl.cut - 1 else G.fl.cut, mask := G.mask, off := G.off || G.now, ops := wrap64 (G.ops + 1) } := by
      unfold Fl.work
      rw [show (fun i => G.fl.stays i (G.fl.cut == 0)) = G.stay from funext hs, hc]
      rfl
    have e2 : (G.turn a bs).fl = { b := laid G.b a bs G.stay, wear := G.wear, cut := if (G.cutb && !G.now) = true then (if G.cutb then G.left - 1 else G.left) else -1, mask := G.mask, off := G.off || G.now, ops := wrap64 (G.ops + 1) } := by
      unfold turn part fl
      rw [List.take_length]
    have e3 : (if (G.cutb && !G.now) = true then (if G.cutb then G.left - 1 else G.left) else -1) = (if 0 ≤ G.fl.cut then G.fl.cut - 1 else G.fl.cut) := by
      show _ = (if 0 ≤ (if G.cutb then G.left else -1) then (if G.cutb then G.left else -1) - 1 else (if G.cutb then G.left else -1))
      have h0 := h
      have hn : G.now = (G.cutb && (G.left == 0)) := rfl
      rw [hn]
      cases hcb : G.cutb
      · simp
      · have := h0 hcb
        by_cases hl : G.left = 0
        · simp [hl]
        · have hl2 : (G.left == 0) = false := by rw [beq_eq_false_iff_ne]; exact hl
          simp [hl2, this]
    rw [e, e2, e3]
  · unfold turnE Fl.workE
    rw [hc]
end RF
end Go.Proofs.Ytlchlcjahndjgaa
