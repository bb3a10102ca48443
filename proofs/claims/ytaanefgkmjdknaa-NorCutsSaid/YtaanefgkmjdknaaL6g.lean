/- waterlinelaw6.NorCuts: what is left of what is cut: the plain law. -/
import Derived.Test.YtaanefgkmjdknaaL6a
import Derived.Test.YtaanefgkmjdknaaNorE
namespace Go.Proofs.Ytaanefgkmjdknaa
open Go.RowKit
set_option linter.unusedVariables false
set_option linter.unusedSimpArgs false

theorem u8_ext (x y : UInt8) (h : ∀ i, i < 8 → x.toBitVec.getLsbD i = y.toBitVec.getLsbD i) : x = y := by
  rw [← UInt8.toBitVec_inj]
  exact BitVec.eq_of_getLsbD_eq fun i hi => h i hi
theorem u8_bit255 (i : Nat) (hi : i < 8) : ((255 : UInt8).toBitVec).getLsbD i = true := by
  have h0 : ∀ j : Fin 8, ((255 : UInt8).toBitVec).getLsbD j = true := by decide
  exact h0 ⟨i, hi⟩
theorem u8_bit0 (i : Nat) (hi : i < 8) : ((0 : UInt8).toBitVec).getLsbD i = false := by
  have h0 : ∀ j : Fin 8, ((0 : UInt8).toBitVec).getLsbD j = false := by decide
  exact h0 ⟨i, hi⟩
theorem u8_and_and_not (b o : UInt8) : (b &&& o) &&& ~~~o = 0 := by
  refine u8_ext _ _ fun i hi => ?_
  simp only [UInt8.toBitVec_and, UInt8.toBitVec_not, BitVec.getLsbD_and, BitVec.getLsbD_not, u8_bit0 i hi, hi, decide_true, Bool.true_and]
  cases b.toBitVec.getLsbD i <;> cases o.toBitVec.getLsbD i <;> rfl
theorem u8_full (o : UInt8) (h : (255 : UInt8) &&& ~~~o = 0) : o = 255 := by
  refine u8_ext _ _ fun i hi => ?_
  have := congrArg (fun z : UInt8 => z.toBitVec.getLsbD i) h
  simp only [UInt8.toBitVec_and, UInt8.toBitVec_not, BitVec.getLsbD_and, BitVec.getLsbD_not, u8_bit0 i hi, u8_bit255 i hi, hi, decide_true, Bool.true_and] at this ⊢
  cases h2 : o.toBitVec.getLsbD i <;> simp [h2] at this ⊢
theorem mixB_same (x m : UInt8) : mixB x x m = x := by
  unfold mixB
  refine u8_ext _ _ fun i hi => ?_
  simp only [UInt8.toBitVec_and, UInt8.toBitVec_not, UInt8.toBitVec_xor, BitVec.getLsbD_and, BitVec.getLsbD_not, BitVec.getLsbD_xor, hi, decide_true, Bool.true_and]
  cases x.toBitVec.getLsbD i <;> cases m.toBitVec.getLsbD i <;> rfl
theorem mixB_or (x c m : UInt8) : mixB x c m = x &&& m ||| c &&& (m ^^^ 255) := by
  unfold mixB
  refine u8_ext _ _ fun i hi => ?_
  simp only [UInt8.toBitVec_and, UInt8.toBitVec_or, UInt8.toBitVec_not, UInt8.toBitVec_xor, BitVec.getLsbD_and, BitVec.getLsbD_or, BitVec.getLsbD_not, BitVec.getLsbD_xor, u8_bit255 i hi, hi, decide_true, Bool.true_and]
  cases x.toBitVec.getLsbD i <;> cases m.toBitVec.getLsbD i <;> cases c.toBitVec.getLsbD i <;> rfl

theorem put_bytes (F : Fl) (k : Nat) (l : List UInt8) : (F.put k l).b = Fl.over F.b k l := rfl
theorem put_wear (F : Fl) (k : Nat) (l : List UInt8) : (F.put k l).wear = F.wear := rfl
theorem work_bytes (F : Fl) (k : Nat) (l : List UInt8) : (F.work k l).b = laid F.b k l (fun i => F.stays i (F.cut == 0)) := rfl
def keepM (mask : List UInt8) (i : Nat) : UInt8 := if mask = [] then 0 else mask.getD (i % mask.length) 0
def cutNow (old b : List UInt8) : List UInt8 := old.take b.length
def cutNext (old b : List UInt8) (er : Bool) : List UInt8 := (List.range b.length).map fun i => if er then 255 else b.getD i 0 &&& old.getD i 0
def cutWant (old b mask : List UInt8) (er : Bool) : List UInt8 := (List.range b.length).map fun i => mixB (old.getD i 0) ((cutNext old b er).getD i 0) (keepM mask i)
theorem cutNext_len (old b : List UInt8) (er : Bool) : (cutNext old b er).length = b.length := by simp [cutNext]
theorem cutNext_getD (old b : List UInt8) (er : Bool) (i : Nat) (hi : i < b.length) : (cutNext old b er).getD i 0 = if er then 255 else b.getD i 0 &&& old.getD i 0 := by
  unfold cutNext
  rw [List.getD_eq_getElem?_getD, List.getElem?_map, List.getElem?_range hi]
  rfl
theorem cutWant_len (old b mask : List UInt8) (er : Bool) : (cutWant old b mask er).length = b.length := by simp [cutWant]
theorem cutNow_len (old b : List UInt8) (h : b.length ≤ old.length) : (cutNow old b).length = b.length := by simp [cutNow]; omega
theorem cutNow_getD (old b : List UInt8) (i : Nat) (hi : i < b.length) : (cutNow old b).getD i 0 = old.getD i 0 := by
  unfold cutNow
  rw [List.getD_eq_getElem?_getD, List.getElem?_take, if_pos hi, List.getD_eq_getElem?_getD]

/-- The flash of one sector whose first bytes are those. -/
structure OneAt (F : Fl) (now : List UInt8) : Prop where
  ok : F.Ok
  len : F.wear.length = 1
  wear : F.wear.getD 0 0 ≤ 1
  byte : ∀ i, i < now.length → F.b.getD i 0 = now.getD i 0
theorem OneAt.blen {F : Fl} {now : List UInt8} (h : OneAt F now) : F.b.length = 320 := by have := h.ok.len; rw [h.len] at this; omega
theorem OneAt.within {F : Fl} {now : List UInt8} (h : OneAt F now) (k : Nat) (hk : k ≤ 320) : F.within 0 k = true := by unfold Fl.within; rw [h.len]; simp; omega

structure CutEnd (G : Fl) (want : List UInt8) : Prop where
  off : G.off = true
  read : G.read 0 (want.length : Int) = want
  ge : G.eraseE 0 = 4
  g : G.erase 0 = G
  m : G.wearAt 0 ≤ 4611686018427387903
  he : G.programE 0 [] = 4
  h : G.program 0 [] = G
  pe : G.power.eraseE 0 = 0
  poff : G.power.off = false
  pm : G.power.wearAt 0 ≤ 4611686018427387903

theorem cut_end {G : Fl} {want : List UInt8} (h1 : 1 ≤ want.length) (h2 : want.length ≤ 320) (hoff : G.off = true) (h : OneAt G want) (hw : G.wear.getD 0 0 ≤ 2) : CutEnd G want := by
  have hi : G.is 0 = true := by unfold Fl.is; rw [h.len]; rfl
  have hm : G.wearAt 0 ≤ 4611686018427387903 := by
    unfold Fl.wearAt; rw [if_pos hi]; show G.wear.getD 0 0 ≤ _; omega
  have hc : (G.power.cut == 0) = false := rfl
  refine ⟨hoff, ?_, ?_, ?_, hm, ?_, ?_, ?_, rfl, hm⟩
  · unfold Fl.read
    rw [if_pos ⟨by omega, h.within _ h2⟩]
    show (G.b.drop 0).take want.length = want
    rw [List.drop_zero]
    apply List.ext_getElem (by rw [List.length_take, h.blen]; omega)
    intro i g1 g2
    rw [List.getElem_take]
    have := h.byte i g2
    rw [List.getD_eq_getElem?_getD, List.getD_eq_getElem?_getD, List.getElem?_eq_getElem g2, List.getElem?_eq_getElem (by rw [h.blen]; omega)] at this
    exact this
  · unfold Fl.eraseE; rw [hoff]; rfl
  · unfold Fl.erase; rw [hoff]; rfl
  · unfold Fl.programE; rw [hoff]; rfl
  · unfold Fl.program; rw [hoff]; rfl
  · have hi2 : G.power.is 0 = true := hi
    unfold Fl.eraseE Fl.workE
    rw [hi2, hc]; rfl

theorem laid_getD (b : List UInt8) (a : Nat) (bs : List UInt8) (m : Nat → UInt8) (j : Nat) (hj : j < b.length) :
    (laid b a bs m).getD j 0 = if a ≤ j ∧ j < a + bs.length then mixB (b.getD j 0) (bs.getD (j - a) 0) (m (j - a)) else b.getD j 0 := by
  have h1 : j < (laid b a bs m).length := by rw [laid_length]; exact hj
  rw [List.getD_eq_getElem?_getD, List.getElem?_eq_getElem h1, Option.getD_some, laid_get]
  rw [List.getD_eq_getElem?_getD (l := b), List.getElem?_eq_getElem hj, Option.getD_some]

theorem one_start (now : List UInt8) (hn : now.length ≤ 320) : (Fl.new 1).programE 0 now = 0 ∧ (Fl.new 1).program 0 now = (Fl.new 1).put 0 now ∧ OneAt ((Fl.new 1).put 0 now) now ∧ ((Fl.new 1).put 0 now).wear.getD 0 0 = 0 := by
  have hw0 : (Fl.new 1).wear = [0] := by kernel_rfl
  have hbl : (Fl.new 1).b.length = 320 := by rw [(Fl.new_ok 1).len, hw0]; rfl
  have hw : (Fl.new 1).within 0 now.length = true := by unfold Fl.within; rw [hw0]; simp; omega
  have q := (Fl.Calm.new 1).prog 0 now hw
  have hm : (Fl.new 1).may (0 : Int).toNat now = true := by
    unfold Fl.may
    rw [List.all_eq_true]
    intro i hi
    rw [List.mem_range] at hi
    rw [show ((0 : Int).toNat + i) = i from by simp, show (Fl.new 1).b.getD i 0 = 255 from Fl.new_getD 1 (by omega) i (by omega), and_not_255]
    rfl
  rw [hm] at q
  refine ⟨q.1, q.2, ⟨Fl.put_ok (Fl.new_ok 1) 0 now, ?_, ?_, ?_⟩, ?_⟩
  · rw [put_wear, hw0]; rfl
  · rw [put_wear, hw0]; decide
  · intro i hi
    rw [put_bytes]
    rw [Fl.over_getD, if_pos (by rw [hbl]; omega)]; rfl
  · rw [put_wear, hw0]; rfl

theorem stays_keep (F : Fl) (i : Nat) (hc : F.cut = 0) : F.stays i (F.cut == 0) = keepM F.mask i := by
  unfold Fl.stays keepM
  rw [hc]
  by_cases h : F.mask = []
  · rw [if_pos h, if_neg (by simp [h])]
  · rw [if_neg h, if_pos ⟨rfl, h⟩]

theorem one_may {F : Fl} {now next : List UInt8} (h : OneAt F now) (hl : next.length = now.length) (hn : now.length ≤ 320) :
    F.may 0 next = true ↔ ∀ i, i < now.length → next.getD i 0 &&& ~~~(now.getD i 0) = 0 := by
  unfold Fl.may
  rw [List.all_eq_true]
  constructor
  · intro h1 i hi
    have := h1 i (by rw [List.mem_range]; omega)
    rw [Nat.zero_add, h.byte i hi, beq_iff_eq] at this
    exact this
  · intro h1 i hi
    rw [List.mem_range, hl] at hi
    rw [Nat.zero_add, h.byte i hi, beq_iff_eq]
    exact h1 i hi

theorem cut_work {F G : Fl} {now next : List UInt8} {k : Nat} (bs : List UInt8) (h : OneAt F now) (hn : now.length ≤ 320) (hc : F.cut = 0) (hmk : F.mask.length ≤ 140737488351232) (hk : now.length ≤ bs.length)
    (hbs : ∀ i, i < now.length → bs.getD i 0 = next.getD i 0) (hnx : next.length = now.length) :
    OneAt (F.work 0 bs) ((List.range now.length).map fun i => mixB (now.getD i 0) (next.getD i 0) (keepM F.mask i)) ∧ (F.work 0 bs).off = true ∧ F.workE = 4 := by
  refine ⟨⟨Fl.work_ok h.ok 0 bs, h.len, h.wear, ?_⟩, ?_, ?_⟩
  · intro i hi
    rw [List.length_map, List.length_range] at hi
    rw [work_bytes]
    rw [laid_getD _ _ _ _ _ (by rw [h.blen]; omega), if_pos (by omega), Nat.sub_zero, stays_keep F i hc, h.byte i hi, hbs i hi]
    rw [List.getD_eq_getElem?_getD (l := List.map _ _), List.getElem?_map, List.getElem?_range hi]
    rfl
  · show (F.off || F.cut == 0) = true
    rw [hc]; simp
  · unfold Fl.workE; rw [hc]; rfl

structure CutFacts (old b mask : List UInt8) (F1 F2 F3 G : Fl) (E3 : Int) : Prop where
  e1 : (Fl.new 1).programE 0 (cutNow old b) = 0
  p1 : (Fl.new 1).program 0 (cutNow old b) = F1
  c2 : F1.setCut 0 mask = F2
  e3 : F2.programE 0 (cutNext old b false) = 4
  p3 : F2.program 0 (cutNext old b false) = G
  ends : CutEnd G (cutWant old b mask false)

theorem one_set {F : Fl} {now : List UInt8} (h : OneAt F now) (mask : List UInt8) (hmk : mask.length ≤ 40) : OneAt (F.setCut 0 mask) now :=
  ⟨Fl.setCut_ok h.ok 0 (by omega) mask (by omega), h.len, h.wear, h.byte⟩
theorem one_power {F : Fl} {now : List UInt8} (h : OneAt F now) : OneAt F.power now := ⟨Fl.power_ok h.ok, h.len, h.wear, h.byte⟩

theorem want_eq (old b mask : List UInt8) (er : Bool) (h : b.length ≤ old.length) :
    ((List.range (cutNow old b).length).map fun i => mixB ((cutNow old b).getD i 0) ((cutNext old b er).getD i 0) (keepM mask i)) = cutWant old b mask er := by
  unfold cutWant
  rw [cutNow_len old b h]
  apply List.map_congr_left
  intro i hi
  rw [List.mem_range] at hi
  rw [cutNow_getD old b i hi]

theorem cut_facts (old b mask : List UInt8) (h1 : 1 ≤ b.length) (h2 : b.length ≤ 320) (h3 : b.length ≤ old.length) (h4 : mask.length ≤ 40) :
    ∃ F1 F2 G, CutFacts old b mask F1 F2 F2 G 0 := by
  have hl := cutNow_len old b h3
  obtain ⟨q1, q2, o1, w1⟩ := one_start (cutNow old b) (by omega)
  have o2 := one_set o1 mask h4
  have hnl := cutNext_len old b false
  have hm : (((Fl.new 1).put 0 (cutNow old b)).setCut 0 mask).may 0 (cutNext old b false) = true := by
    rw [one_may o2 (by omega) (by omega)]
    intro i hi
    rw [cutNext_getD old b false i (by omega), cutNow_getD old b i (by omega), if_neg (by simp)]
    exact u8_and_and_not _ _
  have cw := cut_work (G := Fl.new 1) (next := cutNext old b false) (k := 0) (cutNext old b false) o2 (by omega) rfl (by show mask.length ≤ _; omega) (by omega) (fun _ _ => rfl) (by omega)
  rw [show (((Fl.new 1).put 0 (cutNow old b)).setCut 0 mask).mask = mask from rfl, want_eq old b mask false h3] at cw
  refine ⟨_, _, _, q1, q2, rfl, ?_, rfl, ?_⟩
  · unfold Fl.programE
    rw [show (((Fl.new 1).put 0 (cutNow old b)).setCut 0 mask).off = false from rfl, o2.within _ (by omega), show (0 : Int).toNat = 0 from rfl, hm]
    exact cw.2.2
  · have : (((Fl.new 1).put 0 (cutNow old b)).setCut 0 mask).program 0 (cutNext old b false) = (((Fl.new 1).put 0 (cutNow old b)).setCut 0 mask).work 0 (cutNext old b false) := by
      unfold Fl.program
      rw [show (((Fl.new 1).put 0 (cutNow old b)).setCut 0 mask).off = false from rfl, o2.within _ (by omega), show (0 : Int).toNat = 0 from rfl, hm]
      rfl
    rw [this]
    have hwl := cutWant_len old b mask false
    exact cut_end (by omega) (by omega) cw.2.1 cw.1 (by have := cw.1.wear; omega)

structure CutFactsE (old b mask : List UInt8) (F1 F2 F3 F4 F5 G : Fl) (E3 : Int) : Prop where
  e1 : (Fl.new 1).programE 0 (cutNow old b) = 0
  p1 : (Fl.new 1).program 0 (cutNow old b) = F1
  c2 : F1.setCut 0 mask = F2
  e3 : F2.programE 0 (cutNext old b true) = E3
  p3 : F2.program 0 (cutNext old b true) = F3
  p4 : F3.power = F4
  c5 : F4.setCut 0 mask = F5
  e6 : F5.eraseE 0 = 4
  p6 : F5.erase 0 = G
  m6 : F5.wearAt 0 ≤ 4611686018427387903
  ends : CutEnd G (cutWant old b mask true)

theorem one_worn {F : Fl} {now : List UInt8} (h : OneAt F now) (hw : F.wear.getD 0 0 = 0) : OneAt (F.worn 0) now := by
  refine ⟨Fl.worn_ok h.ok 0 (by omega), by simp [Fl.worn, h.len], ?_, h.byte⟩
  show (F.wear.set 0 (F.wear.getD 0 0 + 1)).getD 0 0 ≤ 1
  rw [hw, List.getD_eq_getElem?_getD, List.getElem?_set, if_pos rfl]
  split
  · simp
  · simp

theorem cut_factsE (old b mask : List UInt8) (h1 : 1 ≤ b.length) (h2 : b.length ≤ 320) (h3 : b.length ≤ old.length) (h4 : mask.length ≤ 40) :
    ∃ F1 F2 F3 F4 F5 G E3, CutFactsE old b mask F1 F2 F3 F4 F5 G E3 := by
  have hl := cutNow_len old b h3
  obtain ⟨q1, q2, o1, w1⟩ := one_start (cutNow old b) (by omega)
  have o2 := one_set o1 mask h4
  have hnl := cutNext_len old b true
  generalize hF2 : ((Fl.new 1).put 0 (cutNow old b)).setCut 0 mask = F2 at o2
  have g1 : F2.off = false := by rw [← hF2]; rfl
  have g2 : F2.cut = 0 := by rw [← hF2]; rfl
  have g3 : F2.mask = mask := by rw [← hF2]; rfl
  have g4 : F2.wear.getD 0 0 = 0 := by rw [← hF2]; exact w1
  have st3 : OneAt (F2.program 0 (cutNext old b true)) (cutNow old b) ∧ (F2.program 0 (cutNext old b true)).wear.getD 0 0 = 0 := by
    unfold Fl.program
    rw [g1, o2.within _ (by omega), show (0 : Int).toNat = 0 from rfl]
    by_cases hm : F2.may 0 (cutNext old b true) = true
    · rw [hm]
      show OneAt (F2.work 0 (cutNext old b true)) (cutNow old b) ∧ (F2.work 0 (cutNext old b true)).wear.getD 0 0 = 0
      refine ⟨⟨Fl.work_ok o2.ok 0 _, o2.len, o2.wear, ?_⟩, g4⟩
      intro i hi
      rw [one_may o2 (by omega) (by omega)] at hm
      have hmi := hm i hi
      rw [cutNext_getD old b true i (by omega), if_pos rfl] at hmi
      have hfull := u8_full _ hmi
      rw [work_bytes]
      rw [laid_getD _ _ _ _ _ (by rw [o2.blen]; omega), if_pos (by omega), Nat.sub_zero, o2.byte i hi, hfull, cutNext_getD old b true i (by omega), if_pos rfl, mixB_same]
    · rw [Bool.not_eq_true] at hm
      rw [hm]
      exact ⟨o2, g4⟩
  generalize hF3 : F2.program 0 (cutNext old b true) = F3 at st3
  have o4 := one_power st3.1
  have o5 := one_set o4 mask h4
  generalize hF5 : F3.power.setCut 0 mask = F5 at o5
  have k1 : F5.off = false := by rw [← hF5]; rfl
  have k2 : F5.cut = 0 := by rw [← hF5]; rfl
  have k3 : F5.mask = mask := by rw [← hF5]; rfl
  have k4 : F5.wear.getD 0 0 = 0 := by rw [← hF5]; exact st3.2
  have ki : F5.is 0 = true := by unfold Fl.is; rw [o5.len]; rfl
  have o6 := one_worn o5 k4
  have cw := cut_work (G := F5) (next := cutNext old b true) (k := 0) (List.replicate 320 255) o6 (by omega) k2 (by show F5.mask.length ≤ _; rw [k3]; omega) (by rw [List.length_replicate]; omega)
    (fun i hi => by rw [cutNext_getD old b true i (by omega), if_pos rfl, List.getD_eq_getElem?_getD, List.getElem?_replicate, if_pos (by omega)]; rfl) (by omega)
  rw [show (F5.worn 0).mask = mask from k3, want_eq old b mask true h3] at cw
  have er : F5.erase 0 = (F5.worn 0).work 0 (List.replicate 320 255) := by
    unfold Fl.erase; rw [k1, ki]; rfl
  refine ⟨_, _, _, _, _, _, _, q1, q2, hF2, rfl, hF3, rfl, hF5, ?_, er, ?_, ?_⟩
  · unfold Fl.eraseE; rw [k1, ki]
    exact cw.2.2
  · unfold Fl.wearAt; rw [if_pos ki]; show F5.wear.getD 0 0 ≤ _; omega
  · have hwl := cutWant_len old b mask true
    exact cut_end (by omega) (by omega) cw.2.1 cw.1 (by have := cw.1.wear; omega)
end Go.Proofs.Ytaanefgkmjdknaa
