/- Plain laws of a flash that is not cut: no program in sight. -/
import Derived.Test.YtlchlcjahndjgaaNorSpec
namespace Go.Proofs.Ytlchlcjahndjgaa
open Go.RowKit
set_option linter.unusedVariables false
set_option linter.unusedSimpArgs false

theorem mixB_zero (x c : UInt8) : mixB x c 0 = c := by
  unfold mixB
  rw [← UInt8.toBitVec_inj]
  simp only [UInt8.toBitVec_xor, UInt8.toBitVec_and, UInt8.toBitVec_not]
  apply BitVec.eq_of_getLsbD_eq
  intro i hi
  have h0 : ∀ j : Fin 8, ((0 : UInt8).toBitVec).getLsbD j = false := by decide
  have h1 := h0 ⟨i, hi⟩
  simp only at h1
  rw [BitVec.getLsbD_xor, BitVec.getLsbD_and, BitVec.getLsbD_xor, BitVec.getLsbD_not, h1]
  simp only [hi, decide_true, Bool.not_false, Bool.and_true]
  cases x.toBitVec.getLsbD i <;> cases c.toBitVec.getLsbD i <;> rfl
namespace Fl
structure Calm (F : Fl) : Prop where
  off : F.off = false
  cut : F.cut < 0
theorem Calm.new (n : Int) : (Fl.new n).Calm := ⟨rfl, by show (-1 : Int) < 0; omega⟩
/-- The bytes of bs from place a on. -/
def over (b : List UInt8) (a : Nat) (bs : List UInt8) : List UInt8 := laid b a bs (fun _ => 0)
theorem over_length (b : List UInt8) (a : Nat) (bs : List UInt8) : (over b a bs).length = b.length := laid_length _ _ _ _
theorem over_getD (b : List UInt8) (a : Nat) (bs : List UInt8) (j : Nat) : (over b a bs).getD j 0 = if a ≤ j ∧ j < a + bs.length ∧ j < b.length then bs.getD (j - a) 0 else b.getD j 0 := by
  by_cases hj : j < b.length
  · have h1 : j < (laid b a bs (fun _ => 0)).length := by rw [laid_length]; exact hj
    rw [List.getD_eq_getElem?_getD]
    unfold over
    rw [List.getElem?_eq_getElem h1, Option.getD_some, laid_get]
    by_cases h2 : a ≤ j ∧ j < a + bs.length
    · rw [if_pos h2, if_pos ⟨h2.1, h2.2, hj⟩, mixB_zero]
    · rw [if_neg h2, if_neg (by omega), List.getD_eq_getElem?_getD, List.getElem?_eq_getElem hj, Option.getD_some]
  · rw [if_neg (by omega), List.getD_eq_getElem?_getD, List.getD_eq_getElem?_getD, List.getElem?_eq_none (by rw [over_length]; omega), List.getElem?_eq_none (by omega)]
theorem Calm.stays {F : Fl} (h : F.Calm) (i : Nat) : F.stays i (F.cut == 0) = 0 := by
  have : (F.cut == 0) = false := by rw [beq_eq_false_iff_ne]; have := h.cut; omega
  unfold Fl.stays
  rw [this]; rfl
theorem Calm.work {F : Fl} (h : F.Calm) (a : Nat) (bs : List UInt8) : F.work a bs = { F with b := over F.b a bs, ops := wrap64 (F.ops + 1) } := by
  have hc := h.cut
  have h0 : (F.cut == 0) = false := by rw [beq_eq_false_iff_ne]; omega
  unfold Fl.work
  simp only [h.stays, h.off, h0]
  rw [if_neg (by omega)]
  rfl
theorem Calm.workE {F : Fl} (h : F.Calm) : F.workE = 0 := by
  have hc := h.cut
  have h0 : (F.cut == 0) = false := by rw [beq_eq_false_iff_ne]; omega
  unfold Fl.workE; rw [h0]; rfl
def put (F : Fl) (a : Nat) (bs : List UInt8) : Fl := { F with b := over F.b a bs, ops := wrap64 (F.ops + 1) }
theorem Calm.put {F : Fl} (h : F.Calm) (a : Nat) (bs : List UInt8) : (F.put a bs).Calm := ⟨h.off, h.cut⟩
theorem put_ok {F : Fl} (h : F.Ok) (a : Nat) (bs : List UInt8) : (F.put a bs).Ok := ⟨by simp [Fl.put, over_length, h.len], h.most, h.cut0, h.cut1, h.mask, h.wear⟩
theorem Calm.prog {F : Fl} (h : F.Calm) (x : Int) (bs : List UInt8) (hw : F.within x bs.length = true) :
    F.programE x bs = (if F.may x.toNat bs then 0 else 3) ∧ F.program x bs = (if F.may x.toNat bs then F.put x.toNat bs else F) := by
  unfold Fl.programE Fl.program
  rw [h.off, hw, h.workE, h.work]
  exact ⟨rfl, rfl⟩
theorem prog_out (F : Fl) (h : F.off = false) (x : Int) (bs : List UInt8) (hw : F.within x bs.length = false) : F.programE x bs = 2 ∧ F.program x bs = F := by
  unfold Fl.programE Fl.program
  rw [h, hw]
  exact ⟨rfl, rfl⟩
theorem may_one (F : Fl) (a : Nat) (c : UInt8) : F.may a [c] = (c &&& ~~~(F.b.getD a 0) == 0) := by
  simp [Fl.may]
def ers (F : Fl) (s : Nat) : Fl := { F with b := over F.b (s * 320) (List.replicate 320 255), wear := F.wear.set s (F.wear.getD s 0 + 1), ops := wrap64 (F.ops + 1) }
theorem ers_b (F : Fl) (s : Nat) : (F.ers s).b = over F.b (s * 320) (List.replicate 320 255) := rfl
theorem ers_wear (F : Fl) (s : Nat) : (F.ers s).wear = F.wear.set s (F.wear.getD s 0 + 1) := rfl
theorem Calm.ers {F : Fl} (h : F.Calm) (s : Nat) : (F.ers s).Calm := ⟨h.off, h.cut⟩
theorem Calm.erase {F : Fl} (h : F.Calm) (x : Int) (hi : F.is x = true) : F.eraseE x = 0 ∧ F.erase x = F.ers x.toNat := by
  unfold Fl.eraseE Fl.erase
  have h2 : (F.worn x.toNat).Calm := ⟨h.off, h.cut⟩
  rw [h.off, hi, h.workE, h2.work]
  exact ⟨rfl, rfl⟩
theorem erase_out (F : Fl) (h : F.off = false) (x : Int) (hi : F.is x = false) : F.eraseE x = 2 ∧ F.erase x = F := by
  unfold Fl.eraseE Fl.erase
  rw [h, hi]
  exact ⟨rfl, rfl⟩
theorem read_one (F : Fl) (h : F.Ok) (x : Int) (hx0 : 0 ≤ x) (hx : x < (F.b.length : Int)) : F.read x 1 = [F.b.getD x.toNat 0] := by
  have hl := h.len
  unfold Fl.read
  rw [if_pos ⟨by omega, by unfold Fl.within; simp; omega⟩]
  have hx' : x.toNat < F.b.length := by omega
  apply List.ext_getElem (by simp; omega)
  intro i h1 h2
  simp at h2
  subst h2
  simp [List.getD_eq_getElem?_getD, hx']
theorem blank_ers (F : Fl) (h : F.Ok) (s : Nat) (hs : s < F.wear.length) : (F.ers s).blank s = true := by
  have hl := h.len
  have hlen : (F.ers s).b.length = F.b.length := by rw [ers_b, over_length]
  unfold Fl.blank
  rw [Bool.and_eq_true]
  refine ⟨by unfold Fl.is; rw [ers_wear]; simp [hs], ?_⟩
  rw [List.all_eq_true]
  intro x hx
  obtain ⟨i, hi, rfl⟩ := List.mem_iff_getElem.1 hx
  simp at hi
  have hlt : s * 320 + i < (F.ers s).b.length := by omega
  have h2 : (F.ers s).b.getD (s * 320 + i) 0 = 255 := by
    show (over F.b (s * 320) (List.replicate 320 255)).getD _ 0 = 255
    rw [over_getD, if_pos (by rw [List.length_replicate]; omega), List.getD_eq_getElem?_getD, List.getElem?_replicate, if_pos (by omega)]
    rfl
  rw [List.getD_eq_getElem?_getD, List.getElem?_eq_getElem hlt, Option.getD_some] at h2
  rw [beq_iff_eq]
  simp only [Int.toNat_natCast, List.getElem_take, List.getElem_drop]
  exact h2
theorem wear_ers (F : Fl) (s : Nat) (hs : s < F.wear.length) : (F.ers s).wearAt s = F.wear.getD s 0 + 1 := by
  unfold Fl.wearAt
  rw [if_pos (by unfold Fl.is; rw [ers_wear]; simp [hs]), ers_wear]
  simp [List.getD_eq_getElem?_getD, hs]
theorem ers_ok {F : Fl} (h : F.Ok) (s : Nat) (hm : F.wear.getD s 0 ≤ 4611686018427387903) : (F.ers s).Ok := by
  have h1 := Fl.worn_ok h s hm
  exact ⟨by rw [ers_b, ers_wear, over_length, List.length_set]; exact h.len, h1.most, h.cut0, h.cut1, h.mask, h1.wear⟩
theorem new_b (n : Nat) (hn : n ≤ 400) : (Fl.new n).b = List.replicate (n * 320) 255 ∧ (Fl.new n).wear = List.replicate n 0 := by
  unfold Fl.new
  rw [show (max (0 : Int) (min (n : Int) 400)).toNat = n by omega]
  exact ⟨rfl, rfl⟩
theorem new_getD (n : Nat) (hn : n ≤ 400) (k : Nat) (hk : k < n * 320) : (Fl.new n).b.getD k 0 = 255 := by
  rw [(new_b n hn).1, List.getD_eq_getElem?_getD, List.getElem?_replicate, if_pos hk]; rfl
theorem new_wearD (n : Nat) (hn : n ≤ 400) (k : Nat) : (Fl.new n).wear.getD k 0 = 0 := by
  rw [(new_b n hn).2, List.getD_eq_getElem?_getD, List.getElem?_replicate]; split <;> rfl
end Fl

theorem and_not_255 (c : UInt8) : c &&& ~~~(255 : UInt8) = 0 := by
  rw [show ~~~(255 : UInt8) = 0 from by decide]
  rw [← UInt8.toNat_inj]; simp
theorem xor_255 (c : UInt8) : c ^^^ 255 = ~~~c := by
  rw [← UInt8.toBitVec_inj]
  simp only [UInt8.toBitVec_xor, UInt8.toBitVec_not]
  apply BitVec.eq_of_getLsbD_eq
  intro i hi
  have h0 : ∀ j : Fin 8, ((255 : UInt8).toBitVec).getLsbD j = true := by decide
  have h1 := h0 ⟨i, hi⟩
  simp only at h1
  rw [BitVec.getLsbD_xor, BitVec.getLsbD_not, h1]
  simp [hi]
end Go.Proofs.Ytlchlcjahndjgaa
