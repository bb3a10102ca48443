/- What a Model's Do turns (plain), and its Meta stored whole. -/
import Derived.Test.YtpafenlcgcenlaaDoorMdL
import Derived.Test.YtpafenlcgcenlaaDoorUpR
namespace Go.Proofs.YtpafenlcgcenlaaDoor
open Go Go.RowKit
set_option linter.unusedVariables false
set_option linter.unusedSimpArgs false
theorem doA_split {m : Mt} (hr : m.right = true) (f : Fc) (k n : Int) (l : List UInt8) (qu : Int) (he : (doA m f k n l qu).e = 0) : doA m f k n l qu = doesD m f k n (l.length : Int) (beginD m f l qu) ∧ (doesD m f k n (l.length : Int) (beginD m f l qu)).e = 0 := by
  obtain ⟨a1, a2⟩ := doA_right hr f k n l qu
  by_cases h : (doesD m f k n (l.length : Int) (beginD m f l qu)).e = 0
  · exact ⟨a1 h, h⟩
  · exact absurd he (a2 h).2
/-- What a write that is allowed says. -/
theorem wr_facts {m : Mt} (hr : m.right = true) (f : Fc) (n : Int) (l : List UInt8) (qu : Int) (he : (doA m f 2 n l qu).e = 0) : m.ph = 1 ∧ n = m.got ∧ 0 ≤ m.got ∧ m.got < chunksZ m.cm.s ∧ (l.length : Int) = lenZ m.cm.s m.got ∧ f.wn = false ∧ doA m f 2 n l qu = ⟨{ m with got := m.got + 1 }, 0, 0, 0⟩ := by
  obtain ⟨q, h⟩ := doA_split hr f 2 n l qu he
  have hd : doesD m f 2 n (l.length : Int) (beginD m f l qu) = oneD { m with got := m.got + 1 } [wh (m.ph != 1) 11, wh (n != m.got || decide (chunksZ m.cm.s ≤ m.got)) 12, wh ((l.length : Int) != lenZ m.cm.s m.got) 6, wh f.wn 5] := by
    unfold doesD
    rw [if_neg (by decide), if_pos rfl]
  rw [hd] at h q
  obtain ⟨e0, hz⟩ := oneD_zero h
  have z1 := wh_zero (hz (wh (m.ph != 1) 11) (by simp)) (by decide)
  have z2 := wh_zero (hz (wh (n != m.got || decide (chunksZ m.cm.s ≤ m.got)) 12) (by simp)) (by decide)
  have z3 := wh_zero (hz (wh ((l.length : Int) != lenZ m.cm.s m.got) 6) (by simp)) (by decide)
  have z4 := wh_zero (hz (wh f.wn 5) (by simp)) (by decide)
  simp only [bne_eq_false_iff_eq, Bool.or_eq_false_iff, decide_eq_false_iff_not, Int.not_le] at z1 z2 z3
  have hg := ((right_iff m).1 hr).got
  exact ⟨z1, z2.1, hg.1, z2.2, z3, z4, q.trans e0⟩
/-- An image that comes has no more chunks than the quota. -/
def QuotaP (m : Mt) (qu : Int) : Prop := m.ph = 1 → chunksZ m.cm.s ≤ qu
theorem quota_keeps {m : Mt} (hr : m.right = true) (f : Fc) (k n : Int) (l : List UInt8) (qu : Int) (h : QuotaP m qu) : QuotaP (doA m f k n l qu).m qu := by
  obtain ⟨a1, a2⟩ := doA_right hr f k n l qu
  by_cases he : (doesD m f k n (l.length : Int) (beginD m f l qu)).e = 0
  · rw [a1 he]
    intro hp
    unfold doesD at he hp ⊢
    by_cases h1 : k = 1
    · rw [if_pos h1] at he hp ⊢
      unfold beginD at he hp ⊢
      obtain ⟨e0, hz⟩ := oneD_zero he
      have z6 := wh_zero (hz (wh (decide (min qu 6 < chunksZ (mX l).s)) 10) (by simp)) (by decide)
      rw [decide_eq_false_iff_not] at z6
      rw [e0]
      show chunksZ (mX l).s ≤ qu
      omega
    rw [if_neg h1] at he hp ⊢
    by_cases h2 : k = 2
    · rw [if_pos h2] at he hp ⊢
      obtain ⟨e0, hz⟩ := oneD_zero he
      rw [e0] at hp ⊢
      exact h hp
    rw [if_neg h2] at he hp ⊢
    by_cases h3 : k = 3
    · rw [if_pos h3] at he hp
      obtain ⟨e0, hz⟩ := oneD_zero he
      rw [e0] at hp
      exact absurd (show (2 : Int) = 1 from hp) (by decide)
    rw [if_neg h3] at he hp ⊢
    by_cases h4 : k = 4
    · rw [if_pos h4] at he hp
      obtain ⟨e0, hz⟩ := oneD_zero he
      rw [e0] at hp
      have h3 : m.commitT.ph = 3 := by unfold Mt.commitT; split <;> rfl
      have hp' : m.commitT.ph = 1 := hp
      omega
    rw [if_neg h4] at he hp ⊢
    by_cases h5 : k = 5
    · rw [if_pos h5] at he hp ⊢
      unfold Mt.bootD at he hp ⊢
      by_cases hb : m.ph = 3 ∧ f.wn = false
      · rw [if_pos hb] at hp
        by_cases ht : m.tr = 0
        · rw [if_pos ht] at hp
          have : m.idle.alone.ph = 0 := (alone_have (m := m.idle) ((right_iff m).1 hr).idle.act).2.2.2.2.2.1
          have hp' : m.idle.alone.ph = 1 := hp
          omega
        · rw [if_neg ht] at hp
          have hp' : m.ph = 1 := hp
          omega
      · rw [if_neg hb] at hp ⊢
        exact h hp
    rw [if_neg h5] at he hp ⊢
    by_cases h6 : k = 6
    · rw [if_pos h6] at he hp
      obtain ⟨e0, hz⟩ := oneD_zero he
      rw [e0] at hp
      exact absurd (show (0 : Int) = 1 from hp) (by decide)
    rw [if_neg h6] at he hp ⊢
    by_cases h7 : k = 7
    · rw [if_pos h7] at he hp
      obtain ⟨e0, hz⟩ := oneD_zero he
      rw [e0] at hp
      have : m.idle.alone.ph = 0 := (alone_have (m := m.idle) ((right_iff m).1 hr).idle.act).2.2.2.2.2.1
      have hp' : m.idle.alone.ph = 1 := hp
      omega
    rw [if_neg h7] at he hp ⊢
    by_cases h8 : k = 8
    · rw [if_pos h8] at he hp
      obtain ⟨e0, hz⟩ := oneD_zero he
      rw [e0] at hp
      exact absurd (show (0 : Int) = 1 from hp) (by decide)
    rw [if_neg h8] at he hp ⊢
    by_cases h9 : k = 9
    · rw [if_pos h9] at hp ⊢
      exact h hp
    rw [if_neg h9] at he
    cases he
  · rw [(a2 he).1]
    exact h
/-- A slot behind a write. -/
def wrB (lo : List UInt8) (n : Int) (l : List UInt8) : List UInt8 := lo.take (n * 320).toNat ++ (l ++ lo.drop ((n * 320).toNat + l.length))
def slotA (e k n : Int) (l lo : List UInt8) : List UInt8 := if e = 0 ∧ k = 2 then wrB lo n l else lo
/-- A write that is allowed lies within its slot. -/
theorem wr_fits {m : Mt} {qu sz : Int} {l : List UInt8} (hq : chunksZ m.cm.s ≤ qu) (hs : qu ≤ sz) (hg : 0 ≤ m.got) (hlt : m.got < chunksZ m.cm.s) (hl : (l.length : Int) = lenZ m.cm.s m.got) : m.got * 320 + (l.length : Int) ≤ sz * 320 ∧ 0 < l.length := by
  have h : lenZ m.cm.s m.got = min 320 (m.cm.s - m.got * 320) := by unfold lenZ; rw [if_neg (by omega)]
  have hc : 0 < m.cm.s - m.got * 320 := by
    unfold chunksZ at hlt
    split at hlt <;> omega
  omega
theorem wrB_len {lo l : List UInt8} {n : Int} (h : (n * 320).toNat + l.length ≤ lo.length) : (wrB lo n l).length = lo.length := by
  unfold wrB
  rw [List.length_append, List.length_append, List.length_take, List.length_drop]
  omega
theorem run_sstMo {W : World} {g o : Nat} {t : TypeId} {cs : Array Value} (B : Blk W g t cs) (ho : o + 107 ≤ cs.size) (m : Mt) (h : m.Ok) :
    (sstM (.pointer (some ⟨g, o, none⟩)) (.agg m.cells.toArray)).run Tryd.prog W = .ok () (W.setCells g o m.cells) := by
  have hl := Mt.cells_len h
  refine run_storeAt_mid (P := Tryd.prog) W g o 45 m.cells.toArray ?_ (by rw [List.size_toArray, hl]; kernel_rfl) (by simpa using Mt.one m)
  intro j hj
  rw [List.size_toArray, hl] at hj
  refine ⟨?_, B.frozen _⟩
  rw [B.cell, Array.getElem?_eq_getElem (by omega)]
  rfl
section
variable {w w' : World} {B b : Nat} {c : Cf} {m : Mt} {l0 l1 : List UInt8} {K F S0 S1 : Option Addr} {kc fc c0 c1 : Nat}
theorem mdC_putM {cf : List Value} (hc : cf.length = 7) {m m' : Mt} (h : m.Ok) (h' : m'.Ok) (s0 s1 : Value) : (mdC cf m s0 s1).take 7 ++ (m'.cells ++ (mdC cf m s0 s1).drop (7 + m'.cells.length)) = mdC cf m' s0 s1 := by
  have hm := Mt.cells_len h
  have hm' := Mt.cells_len h'
  unfold mdC
  rw [List.take_append_of_le_length (by omega), List.take_of_length_le (by omega), List.drop_append, hc, List.drop_of_length_le (l := cf) (by omega), hm', show 7 + 107 - 7 = 107 from rfl, List.drop_append, hm, List.drop_of_length_le (l := m.cells) (by omega)]
  rfl
theorem MdAt.putM (h : MdAt w B b c m l0 l1 K kc F fc S0 c0 S1 c1) (m' : Mt) (h' : m'.Ok) : MdAt (w.setCells b 7 m'.cells) B b c m' l0 l1 K kc F fc S0 c0 S1 c1 := by
  have ho : Only [b] w (w.setCells b 7 m'.cells) := only_setCells _ _ _ (Only.refl _ _)
  have hb := Blk.setCells m'.cells 7 w _ h.blk (by rw [mdC_len (c.cells_len K kc F fc) h.ok, Mt.cells_len h']; omega)
  rw [mdC_putM (c.cells_len K kc F fc) h.ok h'] at hb
  have hn : ∀ {n cc : Nat} {A : Option Addr} {xs : List Value}, w.ownsRow B 5 1 (.slice A n cc) n xs → (w.setCells b 7 m'.cells).ownsRow B 5 1 (.slice A n cc) n xs := fun hw => own_only hw ho (fun k hk => by
    simp only [List.mem_cons, List.not_mem_nil, or_false]
    rintro rfl
    exact own_blk_ne hw h.blk (by decide) hk)
  exact ⟨hb, h', hn h.key, hn h.s0, hn h.s1, h.ge, h.ap0, h.ap1⟩
end
theorem Only.cellsM {S : List Nat} {w : World} {g : Nat} (hp : g ∈ S ∨ w.heap.size ≤ g) : ∀ (l : List Value) (o : Nat) {w' : World} (_ : Only S w w'), Only S w (w'.setCells g o l)
  | [], _, _, h => h
  | u :: l, o, _, h => Only.cellsM hp l (o + 1) (h.setCell hp u)
section
variable {w w' : World} {B b : Nat} {c : Cf} {m : Mt} {l0 l1 l2 : List UInt8} {K F S0 S1 : Option Addr} {kc fc c0 c1 g : Nat}
theorem own_spliceM {base n cap off : Nat} {l f : List UInt8} {cur : Array Value} (h : w.ownsRow base 5 1 (.slice (some ⟨g, 0, none⟩) n cap) n (l.map u8v)) (hc : Blk w g 5 cur) (hf : off * 320 + f.length ≤ n) (hg : w'.heap[g]? = some (.cells (splice cur.toList (off * 320) (f.map u8v)).toArray 5 (0, 0))) : w'.ownsRow base 5 1 (.slice (some ⟨g, 0, none⟩) n cap) n ((wrB l (off : Int) f).map u8v) := by
  have q := own_splice (cur := cur.toList) h (by rw [Array.toArray_toList]; exact hc) hf hg
  unfold wrB
  rw [show ((off : Int) * 320).toNat = off * 320 from by omega, ← List.append_assoc]
  exact q
theorem MdAt.copy0 {cur : Array Value} (h : MdAt w B b c m l0 l1 K kc F fc (some ⟨g, 0, none⟩) c0 S1 c1) (hb : Blk w g 5 cur) (hS : (some ⟨g, 0, none⟩ : Option Addr) = some ⟨g, 0, none⟩) (ho : Only [g] w w') (hge : B ≤ g) (hl : l2.length = l0.length) (hown : w'.ownsRow B 5 1 (.slice (some ⟨g, 0, none⟩) l0.length c0) l0.length (l2.map u8v)) : MdAt w' B b c m l2 l1 K kc F fc (some ⟨g, 0, none⟩) c0 S1 c1 := by
  have hk : (Value.slice (some ⟨g, 0, none⟩) l0.length c0).ownBlock = some g := rfl
  have n2 := Blk.ne_ h.blk hb (by decide)
  have a0 := h.ap0 g hk
  refine ⟨by rw [hl]; exact h.blk.only ho (by simpa using n2), h.ok, own_only h.key ho ?_, by rw [hl]; exact hown, own_only h.s1 ho ?_, h.ge, ?_, h.ap1⟩
  · intro k hk2; simp only [List.mem_cons, List.not_mem_nil, or_false]; rintro rfl; exact a0.1 hk2
  · intro k hk2; simp only [List.mem_cons, List.not_mem_nil, or_false]; rintro rfl; exact a0.2 hk2
  · intro k hk2; exact h.ap0 k hk2
theorem MdAt.copy1 {cur : Array Value} (h : MdAt w B b c m l0 l1 K kc F fc S0 c0 (some ⟨g, 0, none⟩) c1) (hb : Blk w g 5 cur) (hS : (some ⟨g, 0, none⟩ : Option Addr) = some ⟨g, 0, none⟩) (ho : Only [g] w w') (hge : B ≤ g) (hl : l2.length = l1.length) (hown : w'.ownsRow B 5 1 (.slice (some ⟨g, 0, none⟩) l1.length c1) l1.length (l2.map u8v)) : MdAt w' B b c m l0 l2 K kc F fc S0 c0 (some ⟨g, 0, none⟩) c1 := by
  have hk : (Value.slice (some ⟨g, 0, none⟩) l1.length c1).ownBlock = some g := rfl
  have n2 := Blk.ne_ h.blk hb (by decide)
  have a1 := h.ap1 g hk
  refine ⟨by rw [hl]; exact h.blk.only ho (by simpa using n2), h.ok, own_only h.key ho ?_, own_only h.s0 ho ?_, by rw [hl]; exact hown, h.ge, ?_, ?_⟩
  · intro k hk2; simp only [List.mem_cons, List.not_mem_nil, or_false]; rintro rfl; exact a1 hk2
  · intro k hk2; simp only [List.mem_cons, List.not_mem_nil, or_false]; rintro rfl; exact (h.ap0 _ hk2).2 hk
  · intro k hk2; exact h.ap0 k hk2
  · intro k hk2; exact h.ap1 k hk2
end
end Go.Proofs.YtpafenlcgcenlaaDoor
