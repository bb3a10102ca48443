/- waterlinelaw6.NorOps: which operation a cut is for: the plain law, and the walk. -/
import Derived.Test.YtaanefgkmjdknaaL6a
import Derived.Test.YtaanefgkmjdknaaNorE
namespace Go.Proofs.Ytaanefgkmjdknaa
open Go.RowKit
set_option linter.unusedVariables false
set_option linter.unusedSimpArgs false

theorem i64_mask (x : Int) (m : Nat) (hm : m < 4611686018427387904) : ∃ j : Nat, j ≤ m ∧ bits .and .i64 x (m : Int) = (j : Int) := by
  refine ⟨(BitVec.ofInt 64 x &&& BitVec.ofInt 64 (m : Int)).toNat, ?_, ?_⟩
  · rw [BitVec.toNat_and]
    have : (BitVec.ofInt 64 (m : Int)).toNat = m := by rw [BitVec.ofInt_natCast, BitVec.toNat_ofNat]; omega
    rw [this]
    exact Nat.and_le_right
  · show IntKind.i64.wrap ((BitVec.ofInt 64 x &&& BitVec.ofInt 64 (m : Int)).toNat : Int) = _
    have h1 : (BitVec.ofInt 64 x &&& BitVec.ofInt 64 (m : Int)).toNat ≤ m := by
      rw [BitVec.toNat_and]
      have : (BitVec.ofInt 64 (m : Int)).toNat = m := by rw [BitVec.ofInt_natCast, BitVec.toNat_ofNat]; omega
      rw [this]
      exact Nat.and_le_right
    exact IntWalk.i64_in _ (by omega)

structure OpsAt (F : Fl) (left done : Int) (k : Nat) : Prop where
  ok : F.Ok
  len : F.wear.length = 2
  cut : F.cut = left
  off : F.off = decide (left < 0)
  ops : F.ops = done
  d0 : 1 ≤ done
  d1 : done ≤ k + 1
  l0 : -1 ≤ left
  l1 : left ≤ 20
  wear : ∀ i, F.wear.getD i 0 ≤ k + 1
  k40 : k ≤ 40

theorem OpsAt.up {F : Fl} {left done : Int} {k : Nat} (h : OpsAt F left done k) (hk : k < 40) : OpsAt F left done (k + 1) :=
  ⟨h.ok, h.len, h.cut, h.off, h.ops, h.d0, by have := h.d1; omega, h.l0, h.l1, fun i => by have := h.wear i; omega, by omega⟩
theorem OpsAt.off_ {F : Fl} {left done : Int} {k : Nat} (h : OpsAt F left done k) (hl : left < 0) : F.off = true := by rw [h.off]; simpa using hl
theorem OpsAt.on_ {F : Fl} {left done : Int} {k : Nat} (h : OpsAt F left done k) (hl : 0 ≤ left) : F.off = false := by rw [h.off]; simpa using hl
theorem OpsAt.workE_ {F : Fl} {left done : Int} {k : Nat} (h : OpsAt F left done k) : F.workE = if left = 0 then 4 else 0 := by
  unfold Fl.workE; rw [h.cut]; by_cases c : left = 0
  · subst c; rfl
  · rw [if_neg c, if_neg (by rw [beq_iff_eq]; exact c)]
theorem OpsAt.work_ {F G : Fl} {left done : Int} {k : Nat} (h : OpsAt F left done k) (hl : 0 ≤ left) (hk : k < 40) (a : Nat) (bs : List UInt8)
    (hG : G.Ok) (h1 : G.cut = F.cut) (h2 : G.off = F.off) (h3 : G.ops = F.ops) (h4 : G.wear.length = 2) (h5 : ∀ i, G.wear.getD i 0 ≤ k + 1 + 1) : OpsAt (G.work a bs) (left - 1) (done + 1) (k + 1) := by
  have hc := h.cut
  have hd0 := h.d0
  have hd1 := h.d1
  refine ⟨Fl.work_ok hG a bs, h4, ?_, ?_, ?_, by omega, by omega, by omega, by have := h.l1; omega, fun i => by have := h5 i; exact_mod_cast this, by omega⟩
  · show (if 0 ≤ G.cut then G.cut - 1 else G.cut) = _
    rw [h1, hc, if_pos hl]
  · show (G.off || G.cut == 0) = _
    rw [h1, h2, hc, h.on_ hl, Bool.false_or]
    by_cases c : left = 0
    · subst c; rfl
    · rw [show (left == 0) = false from by rw [beq_eq_false_iff_ne]; exact c]
      symm; rw [decide_eq_false_iff_not]; omega
  · show wrap64 (G.ops + 1) = _
    rw [h3, h.ops]
    unfold wrap64; omega

/-- What a call of the round leaves: e is its answer. -/
structure OpsDid (F F' : Fl) (E left done : Int) (k : Nat) (good : Bool) : Prop where
  gone : left < 0 → E = 4 ∧ F' = F
  bad : 0 ≤ left → good = false → E = 2 ∧ F' = F
  last : left = 0 → good = true → E = 4 ∧ OpsAt F' (-1) (done + 1) (k + 1) ∧ F'.off = true
  more : 0 < left → good = true → E = 0 ∧ OpsAt F' (left - 1) (done + 1) (k + 1) ∧ F'.off = false

theorem OpsDid.of_work {F G F' : Fl} {E left done : Int} {k : Nat} (h : OpsAt F left done k) (hk : k < 40) (a : Nat) (bs : List UInt8)
    (hg : left < 0 → E = 4 ∧ F' = F) (hE : 0 ≤ left → E = F.workE) (hF : 0 ≤ left → F' = G.work a bs)
    (hG : G.Ok) (h1 : G.cut = F.cut) (h2 : G.off = F.off) (h3 : G.ops = F.ops) (h4 : G.wear.length = 2) (h5 : ∀ i, G.wear.getD i 0 ≤ k + 1 + 1) : OpsDid F F' E left done k true := by
  refine ⟨hg, fun _ h => (by cases h), fun hl _ => ?_, fun hl _ => ?_⟩
  · have h6 := h.work_ (by omega) hk a bs hG h1 h2 h3 h4 h5
    rw [hE (by omega), hF (by omega), h.workE_, if_pos hl]
    subst hl
    exact ⟨rfl, h6, h6.off_ (by omega)⟩
  · have h6 := h.work_ (by omega) hk a bs hG h1 h2 h3 h4 h5
    rw [hE (by omega), hF (by omega), h.workE_, if_neg (by omega)]
    exact ⟨rfl, h6, h6.on_ (by omega)⟩
theorem ops_erase {F : Fl} {left done : Int} {k : Nat} (h : OpsAt F left done k) (hk : k < 40) (s : Nat) (hs : s < 2) : OpsDid F (F.erase s) (F.eraseE s) left done k true := by
  have hi : F.is s = true := by unfold Fl.is; rw [h.len]; simp; omega
  have hw := h.wear s
  refine OpsDid.of_work (G := F.worn s) h hk (s * 320) (List.replicate 320 255) (fun hl => ?_) (fun hl => ?_) (fun hl => ?_) (Fl.worn_ok h.ok s (by omega)) rfl rfl rfl (by simp [Fl.worn, h.len]) ?_
  · unfold Fl.eraseE Fl.erase; rw [h.off_ hl]; exact ⟨rfl, rfl⟩
  · unfold Fl.eraseE; rw [h.on_ hl, hi]; rfl
  · unfold Fl.erase; rw [h.on_ hl, hi]; rfl
  · intro i
    show (F.wear.set s (F.wear.getD s 0 + 1)).getD i 0 ≤ _
    rw [List.getD_eq_getElem?_getD, List.getElem?_set]
    have := h.wear i
    split
    · split
      · simp only [Option.getD_some]; omega
      · simp; omega
    · rw [← List.getD_eq_getElem?_getD]; omega
theorem ops_prog {F : Fl} {left done : Int} {k : Nat} (h : OpsAt F left done k) (hk : k < 40) : OpsDid F (F.program 0 [0]) (F.programE 0 [0]) left done k true := by
  have hi : F.within 0 ([0] : List UInt8).length = true := by unfold Fl.within; rw [h.len]; simp
  have hm : F.may (0 : Int).toNat [0] = true := by
    rw [Fl.may_one]; simp
  refine OpsDid.of_work (G := F) h hk (0 : Int).toNat [0] (fun hl => ?_) (fun hl => ?_) (fun hl => ?_) h.ok rfl rfl rfl h.len (fun i => by have := h.wear i; omega)
  · unfold Fl.programE Fl.program; rw [h.off_ hl]; exact ⟨rfl, rfl⟩
  · unfold Fl.programE; rw [h.on_ hl, hi, hm]; rfl
  · unfold Fl.program; rw [h.on_ hl, hi, hm]; rfl
theorem ops_erase2 {F : Fl} {left done : Int} {k : Nat} (h : OpsAt F left done k) : OpsDid F (F.erase 2) (F.eraseE 2) left done k false := by
  have hi : F.is 2 = false := by unfold Fl.is; rw [h.len]; rfl
  refine ⟨fun hl => ?_, fun hl _ => Fl.erase_out F (h.on_ hl) 2 hi, fun _ h => (by cases h), fun _ h => (by cases h)⟩
  unfold Fl.eraseE Fl.erase; rw [h.off_ hl]; exact ⟨rfl, rfl⟩
theorem ops_prog2 {F : Fl} {left done : Int} {k : Nat} (h : OpsAt F left done k) : OpsDid F (F.program 640 [0]) (F.programE 640 [0]) left done k false := by
  have hi : F.within 640 ([0] : List UInt8).length = false := by unfold Fl.within; rw [h.len]; rfl
  refine ⟨fun hl => ?_, fun hl _ => Fl.prog_out F (h.on_ hl) 640 _ hi, fun _ h => (by cases h), fun _ h => (by cases h)⟩
  unfold Fl.programE Fl.program; rw [h.off_ hl]; exact ⟨rfl, rfl⟩

theorem ops_start (n : Nat) (hn : n ≤ 20) : ∃ F1 F2, (Fl.new 2).eraseE 0 = 0 ∧ (Fl.new 2).erase 0 = F1 ∧ (Fl.new 2).wearAt 0 ≤ 4611686018427387903 ∧ F1.setCut n [] = F2 ∧ OpsAt F2 n 1 0 := by
  obtain ⟨hB, hW⟩ := Fl.new_b 2 (by omega)
  have hi : (Fl.new 2).is 0 = true := by kernel_rfl
  have q := (Fl.Calm.new 2).erase 0 hi
  have k1 : ((Fl.new 2).ers (0 : Int).toNat).Ok := Fl.ers_ok (Fl.new_ok 2) _ (by decide)
  refine ⟨_, _, q.1, rfl, by decide, rfl, ?_⟩
  rw [q.2]
  refine ⟨Fl.setCut_ok k1 _ (by omega) [] (by simp), by kernel_rfl, ?_, ?_, by kernel_rfl, by omega, by omega, by omega, by omega, ?_, by omega⟩
  · show max 0 (n : Int) = n; omega
  · show false = _
    symm; rw [decide_eq_false_iff_not]; omega
  · intro i
    show (((Fl.new 2).ers (0 : Int).toNat).wear).getD i 0 ≤ _
    have : ((Fl.new 2).ers (0 : Int).toNat).wear = [1, 0] := by kernel_rfl
    rw [this]
    match i with
    | 0 => decide
    | 1 => decide
    | (j + 2) => simp
end Go.Proofs.Ytaanefgkmjdknaa
