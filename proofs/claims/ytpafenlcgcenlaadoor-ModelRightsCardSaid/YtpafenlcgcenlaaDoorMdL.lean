/- (*model.Model).fact. -/
import Derived.Test.YtpafenlcgcenlaaDoorMdK
import Derived.Test.YtpafenlcgcenlaaDoorMn5
namespace Go.Proofs.YtpafenlcgcenlaaDoor
open Go Go.RowKit
set_option linter.unusedVariables false
set_option linter.unusedSimpArgs false
noncomputable def sstFm (x v : Value) : Sem Unit := Instr.storeAt 57 x v
theorem sstFm_seal (x v : Value) : Instr.storeAt 57 x v = sstFm x v := rfl
theorem info_sFm : (Tryd.prog.info? 57).map (·.size) = some 35 := by kernel_rfl
theorem run_sstFm {W : World} {g : Nat} {old : Array Value} (cs : List Value) (h : Blk W g 57 old) (ho : old.size = cs.length) (hs : cs.length = 35) (h1 : ∀ u ∈ cs, u.oneCell' = true) :
    (sstFm (.pointer (some ⟨g, 0, none⟩)) (.agg cs.toArray)).run Tryd.prog W = .ok () (W.setRow g cs.toArray) := by
  unfold sstFm
  simp only [Instr.storeAt, Instr.sureAddr, Sem.run_bind, Sem.run_pure, Result.andThen_ok, run_storeVar_row (P := Tryd.prog) W g 57 57 old cs.toArray h (by simpa [hs] using info_sFm) (by simpa using ho) (by simpa using h1)]
@[reducible] def zeroFm : Array Value := #[.bool false, .bool false, .int .u8 0, .int .u8 0, .int .u8 0, .int .u8 0, .int .u8 0, .int .u8 0, .int .u8 0, .int .u8 0, .int .u8 0, .int .u8 0, .int .u8 0, .int .u8 0, .int .u8 0, .int .u8 0, .int .u8 0, .int .u8 0, .int .u8 0, .int .u8 0, .int .u8 0, .int .u8 0, .int .u8 0, .int .u8 0, .int .u8 0, .int .u8 0, .int .u8 0, .int .u8 0, .int .u8 0, .int .u8 0, .int .u8 0, .int .u8 0, .int .u8 0, .int .u8 0, .bool false]
theorem Fc.one (f : Fc) : ∀ u ∈ f.cells, u.oneCell' = true := by
  intro u hu
  unfold Fc.cells at hu
  simp only [List.mem_cons, List.mem_append, List.mem_map, List.not_mem_nil, or_false] at hu
  rcases hu with rfl | rfl | ⟨b, _, rfl⟩ | rfl <;> rfl
def mNm (l : List UInt8) : ByteArray := if l.length = 92 ∧ mOk l = true then ⟨(mName l).toArray⟩ else ⟨#[]⟩
theorem ManRet.any2 {l : List UInt8} {e : Ending} {w' : World} (h : ManRet l e w') : ∃ A n c, e = .returned (.tuple #[.agg (manC (mNm l) (mX l)).toArray, .slice A n c, .int .i64 (mE l)]) := by
  rcases h with ⟨h1, h2⟩ | ⟨h1, h2, A, c, h3, _⟩
  · have hx : ¬ (l.length = 92 ∧ mOk l = true) := by
      rintro ⟨a, b⟩
      rcases h1 with h1 | h1
      · exact h1 a
      · rw [h1] at b; cases b
    exact ⟨none, 0, 0, by rw [h2]; unfold mNm mX mE; rw [if_neg hx, if_neg hx, if_neg hx]; rfl⟩
  · exact ⟨A, 32, c, by rw [h3]; unfold mNm mX mE; rw [if_pos ⟨h1, h2⟩, if_pos ⟨h1, h2⟩, if_pos ⟨h1, h2⟩]⟩
/-- What is found beside. -/
def factD (c : Cf) (m : Mt) (lo l : List UInt8) : Fc := ⟨decide (mE l = 0) && ((mNm l).toList == c.nm.toList), signedB c.key l, sha (lo.take m.cm.s.toNat), false⟩
theorem factD_len (c : Cf) (m : Mt) (lo l : List UInt8) : (factD c m lo l).d.length = 32 := sha_len _
theorem Only.rowM {S : List Nat} {w w' : World} (h : Only S w w') {g : Nat} (hp : g ∈ S ∨ w.heap.size ≤ g) (cs : Array Value) : Only S w (w'.setRow g cs) :=
  ⟨h.os, h.tape, h.output, by simpa [World.setRow] using h.size, fun k hk hn => (setRow_other w' g k cs (by
    rintro rfl
    rcases hp with a | a
    · exact hn a
    · omega)).trans (h.block k hk hn)⟩
/-- The frame of fact. -/
structure FaAt (w0 W : World) (B b : Nat) (c : Cf) (m : Mt) (l0 l1 : List UInt8) (K : Option Addr) (kc : Nat) (F : Option Addr) (fc : Nat) (S0 : Option Addr) (c0 : Nat) (S1 : Option Addr) (c1 : Nat) (QA MA FA : Array Value) (mb : Nat) : Prop where
  md : MdAt W B b c m l0 l1 K kc F fc S0 c0 S1 c1
  q : Blk W w0.heap.size 33 QA
  f : Blk W (w0.heap.size + 1) 57 FA
  mn : Blk W mb 73 MA
  bel : Below w0.heap.size w0 W
theorem FaAt.later {w0 W W' : World} {B b : Nat} {c : Cf} {m : Mt} {l0 l1 : List UInt8} {K : Option Addr} {kc : Nat} {F : Option Addr} {fc : Nat} {S0 : Option Addr} {c0 : Nat} {S1 : Option Addr} {c1 : Nat} {QA MA FA : Array Value} {mb : Nat} (h : FaAt w0 W B b c m l0 l1 K kc F fc S0 c0 S1 c1 QA MA FA mb) (hb : Below W.heap.size W W') : FaAt w0 W' B b c m l0 l1 K kc F fc S0 c0 S1 c1 QA MA FA mb :=
  ⟨h.md.below hb, h.q.below hb h.q.lt, h.f.below hb h.f.lt, h.mn.below hb h.mn.lt, h.bel.trans (hb.mono h.bel.size)⟩
section
variable {w w' : World} {g : Nat} {B b : Nat} {c : Cf} {m : Mt} {l0 l1 : List UInt8} {K : Option Addr} {kc : Nat} {F : Option Addr} {fc : Nat} {S0 : Option Addr} {c0 : Nat} {S1 : Option Addr} {c1 : Nat}
theorem MdAt.putR (h : MdAt w B b c m l0 l1 K kc F fc S0 c0 S1 c1) {t : TypeId} {old : Array Value} (hB : Blk w g t old) (ht : t ≠ 5) (ht2 : t ≠ 48) (cs : Array Value) : MdAt (w.setRow g cs) B b c m l0 l1 K kc F fc S0 c0 S1 c1 := by
  have ho : Only [g] w (w.setRow g cs) := (Only.refl [g] w).rowM (.inl (by simp)) cs
  have hn : ∀ {n cc : Nat} {A : Option Addr} {xs : List Value}, w.ownsRow B 5 1 (.slice A n cc) n xs → (w.setRow g cs).ownsRow B 5 1 (.slice A n cc) n xs := fun hw => own_only hw ho (fun k hk => by
    simp only [List.mem_cons, List.not_mem_nil, or_false]
    rintro rfl
    exact own_blk_ne hw hB (Ne.symm ht) hk)
  exact ⟨h.blk.setRow_mf cs (Blk.ne_ h.blk hB (Ne.symm ht2)), h.ok, hn h.key, hn h.s0, hn h.s1, h.ge, h.ap0, h.ap1⟩
end
theorem FaAt.setF {w0 W : World} {B b : Nat} {c : Cf} {m : Mt} {l0 l1 : List UInt8} {K : Option Addr} {kc : Nat} {F : Option Addr} {fc : Nat} {S0 : Option Addr} {c0 : Nat} {S1 : Option Addr} {c1 : Nat} {QA MA FA : Array Value} {mb : Nat} (h : FaAt w0 W B b c m l0 l1 K kc F fc S0 c0 S1 c1 QA MA FA mb) (cs : Array Value) : FaAt w0 (W.setRow (w0.heap.size + 1) cs) B b c m l0 l1 K kc F fc S0 c0 S1 c1 QA MA cs mb :=
  ⟨h.md.putR h.f (by decide) (by decide) cs, h.q.setRow_mf cs (by omega), h.f.setRow_m cs, h.mn.setRow_mf cs (Blk.ne_ h.mn h.f (by decide)), below_setRow_m h.bel (Nat.le_succ _) cs⟩
attribute [local go_sem ↓] sldM_seal sbN_seal sldN_seal sstN_seal sbFc_seal sstFm_seal
set_option maxRecDepth 100000 in
set_option maxHeartbeats 8000000 in
theorem mfact_c (w : World) (B b : Nat) (c : Cf) (m : Mt) (l0 l1 : List UInt8) (K : Option Addr) (kc : Nat) (F : Option Addr) (fc : Nat) (S0 : Option Addr) (c0 : Nat) (S1 : Option Addr) (c1 : Nat) (h : MdAt w B b c m l0 l1 K kc F fc S0 c0 S1 c1) (hkl : c.key.length ≤ 100000) (ha : m.act = 0 ∨ m.act = 1) (hl0 : l0.length ≤ 100000) (hl1 : l1.length ≤ 100000) (qk qn : Int) (SB : Option Addr) (sl sc : Nat) (l : List UInt8) (hr : Reads w SB sl (l.map u8v)) (hsl : sl ≤ 1000) (hsc : sl ≤ sc ∧ sc ≤ maxLen) :
    Calls Tryd.prog 15 #[.pointer (some ⟨b, 0, none⟩), .agg #[.int .i64 qk, .int .i64 qn, .slice SB sl sc]] w fun e w' => e = .returned (.agg (factD c m (if m.act = 0 then l1 else l0) l).cells.toArray) ∧ Below w.heap.size w w' := by
  have hlen : l.length = sl := by simpa using hr.len
  have hmr := fun (W : World) (hW : Reads W SB sl (l.map u8v)) => mread_c W SB sl sc l hW hlen (by omega)
  have hsg := fun (W : World) (hK : Reads W K c.key.length (c.key.map u8v)) (hW : Reads W SB sl (l.map u8v)) => msigned_c W K c.key.length kc c.key hK hkl SB sl sc l hW (by omega) hsc
  have hoth := fun W => other_c W m h.ok (by omega)
  have him : ∀ W, MdAt W B b c m l0 l1 K kc F fc S0 c0 S1 c1 → Calls Tryd.prog 17 #[.pointer (some ⟨b, 0, none⟩), .int .i64 (1 - m.act), .int .i64 m.cm.s] W fun e w' => MadeBytes W ((if m.act = 0 then l1 else l0).take m.cm.s.toNat) e w' := fun W hW => by
    rcases ha with h0 | h0
    · rw [h0]
      exact mimage1_c W B b c m l0 l1 K kc F fc S0 c0 S1 c1 hW m.cm.s hl1
    · rw [h0]
      exact mimage0_c W B b c m l0 l1 K kc F fc S0 c0 S1 c1 hW m.cm.s hl0
  obtain ⟨lo, hlo⟩ : ∃ lo, (if m.act = 0 then l1 else l0) = lo := ⟨_, rfl⟩
  have hlol : lo.length ≤ 100000 := by rw [← hlo]; split <;> assumption
  rw [hlo] at him ⊢
  obtain ⟨TK, hTK⟩ : ∃ TK, lo.take m.cm.s.toNat = TK := ⟨_, rfl⟩
  have htk : TK.length ≤ 100000 := by rw [← hTK, List.length_take]; omega
  obtain ⟨EE, hEE⟩ : ∃ EE, mE l = EE := ⟨_, rfl⟩
  obtain ⟨NM, hNM⟩ : ∃ NM, mNm l = NM := ⟨_, rfl⟩
  have hany := fun e w' => ManRet.any2 (l := l) (e := e) (w' := w')
  have hxd := (mX_b l).1
  obtain ⟨XX, hXX⟩ : ∃ XX, mX l = XX := ⟨_, rfl⟩
  rw [hXX] at hxd
  simp only [hEE, hNM, hXX] at hany
  rw [hTK] at him
  have hFD : factD c m lo l = ⟨decide (EE = 0) && (NM.toList == c.nm.toList), signedB c.key l, sha TK, false⟩ := by
    unfold factD
    rw [hEE, hNM, hTK]
  rw [hFD]
  clear hFD hTK hlo hEE hNM hXX
  obtain ⟨SG, hSG⟩ : ∃ SG, signedB c.key l = SG := ⟨_, rfl⟩
  rw [hSG] at hsg ⊢
  clear hSG
  have k72 := Mt.c72 h.ok
  have hfa : ∀ MA mb W, Blk W mb 73 MA → Below ((w.alloc (.cells #[.int .i64 qk, .int .i64 qn, .slice SB sl sc] 33)).alloc (.cells zeroFm 57)).heap.size ((w.alloc (.cells #[.int .i64 qk, .int .i64 qn, .slice SB sl sc] 33)).alloc (.cells zeroFm 57)) W → FaAt w W B b c m l0 l1 K kc F fc S0 c0 S1 c1 #[.int .i64 qk, .int .i64 qn, .slice SB sl sc] MA zeroFm mb := fun MA mb W hM hB => by
    have q1 := ((Blk.new w 33 #[.int .i64 qk, .int .i64 qn, .slice SB sl sc]).alloc (.cells zeroFm 57))
    have q2 := Blk.new (w.alloc (.cells #[.int .i64 qk, .int .i64 qn, .slice SB sl sc] 33)) 57 zeroFm
    have hs1 : (w.alloc (.cells #[.int .i64 qk, .int .i64 qn, .slice SB sl sc] 33)).heap.size = w.heap.size + 1 := by simp
    rw [hs1] at q2
    have hb : Below w.heap.size w ((w.alloc (.cells #[.int .i64 qk, .int .i64 qn, .slice SB sl sc] 33)).alloc (.cells zeroFm 57)) := ((Below.refl _ w).alloc (Nat.le_refl _) _).alloc (by simp) _
    exact ⟨(h.below hb).below hB, q1.below hB q1.lt, q2.below hB q2.lt, hM, hb.trans (hB.mono hb.size)⟩
  have hq := ((Blk.new w 33 #[.int .i64 qk, .int .i64 qn, .slice SB sl sc]).alloc (.cells zeroFm 57)).cell 2
  have hq2 : ((w.alloc (.cells #[.int .i64 qk, .int .i64 qn, .slice SB sl sc] 33)).alloc (.cells zeroFm 57)).cell? ⟨w.heap.size, 2, none⟩ = some (.slice SB sl sc) := hq
  have hr2 := hmr _ (hr.below (((Below.refl _ w).alloc (Nat.le_refl _) (.cells #[.int .i64 qk, .int .i64 qn, .slice SB sl sc] 33)).alloc (by simp) (.cells zeroFm 57)))
  have HR := Lib.hid hr
  have HFA := Lib.hid hfa
  have HR2 := Lib.hid hr2
  have HSG := Lib.hid hsg
  have HIM := Lib.hid him
  have HOT := Lib.hid hoth
  have HANY := Lib.hid hany
  have HSZ := Lib.hid (show (w.alloc (.cells #[.int .i64 qk, .int .i64 qn, .slice SB sl sc] 33)).heap.size = w.heap.size + 1 from by simp)
  have HOK := Lib.hid h.ok
  have HK72 := Lib.hid k72
  have HTK := Lib.hid htk
  clear h hq hr hmr hsg hoth him hany hfa hr2 hlen hsl k72 ha hl0 hl1 hlol htk hsc hkl
  go_enter Tryd.func15, Tryd.ntmps15
  go_wp2_with fail
  refine HR2.out.mono ?_
  rintro e w1 ⟨hman, hb1⟩
  obtain ⟨ma, mn, mc, rfl⟩ := HANY.out _ _ hman
  clear hman HR2
  have hN := Blk.new w1 73 zeroN.toArray
  have hst := run_sstN (manC NM XX) hN rfl (manC_len hxd _) (manC_one _ _)
  have hN2 := hN.setRow_m (manC NM XX).toArray
  have hb2 := hb1.trans ((below_setRow_m ((Below.refl _ w1).alloc (Nat.le_refl _) (.cells zeroN.toArray 73)) (Nat.le_refl _) (manC NM XX).toArray).mono hb1.size)
  have hfa := HFA.out _ _ _ hN2 hb2
  clear hN hN2 hb1 hb2 HFA hxd hq2
  rw [← zeroN_eq] at hst hfa
  have HST := Lib.hid hfa
  clear hfa
  go_upto_region 2 with fail
  have hfa := HST.out
  clear HST hst
  generalize World.setRow _ _ _ = W2 at hfa ⊢
  obtain ⟨mb, hmb⟩ : ∃ mb, w1.heap.size = mb := ⟨_, rfl⟩
  rw [hmb] at hfa ⊢
  clear hmb
  have HS : ∀ W, (∃ FA, FaAt w W B b c m l0 l1 K kc F fc S0 c0 S1 c1 #[.int .i64 qk, .int .i64 qn, .slice SB sl sc] (manC NM XX).toArray FA mb) → (W.cell? ⟨w.heap.size, 2, none⟩ = some (.slice SB sl sc) ∧ W.cell? ⟨b, 1, none⟩ = some (.slice K c.key.length kc) ∧ W.cell? ⟨b, 0, none⟩ = some (.string c.nm) ∧ W.cell? ⟨b, 79, none⟩ = some (.int .i64 m.cm.s) ∧ W.cell? ⟨mb, 0, none⟩ = some (.string NM) ∧ (sldM (.pointer (some ⟨b, 7, none⟩))).run Tryd.prog W = .ok (.agg m.cells.toArray) W) := fun W ⟨_, hW⟩ =>
    ⟨hW.q.cell 2, hW.md.cellC 1 (by omega), hW.md.cellC 0 (by omega), by have q := hW.md.cellM 72 (by omega); rw [HK72.out] at q; exact q, hW.mn.cell 0, run_sldM (Mt.cells_len HOK.out) hW.md.range⟩
  have hs0 := HS _ ⟨_, hfa.later ((Below.refl _ W2).drew)⟩
  have HSS := Lib.hid HS
  have HST := Lib.hid hfa
  clear hfa HS
  have hbf := fun (x : Bool) => run_sbFc x SG (sha TK) (sha_len TK)
  by_cases hE : EE = 0
  · subst hE
    refine wp_region_held_drew (S := (fun W => (W.cell? ⟨w.heap.size, 2, none⟩ = some (.slice SB sl sc) ∧ W.cell? ⟨b, 1, none⟩ = some (.slice K c.key.length kc) ∧ W.cell? ⟨b, 0, none⟩ = some (.string c.nm) ∧ W.cell? ⟨b, 79, none⟩ = some (.int .i64 m.cm.s) ∧ W.cell? ⟨mb, 0, none⟩ = some (.string NM) ∧ (sldM (.pointer (some ⟨b, 7, none⟩))).run Tryd.prog W = .ok (.agg m.cells.toArray) W))) (by kernel_rfl) ?_ (fun hHeld => ?_)
    · exact hs0
    generalize hwd : W2.drew = Wd at hs0 hHeld ⊢
    have hst := HST.out.later ((Below.refl _ W2).drew)
    rw [hwd] at hst
    clear HST hwd
    have HST := Lib.hid hst
    clear hst
    refine wpAnyH_take (i := 0) (v := ?_) rfl (by kernel_rfl) (by kernel_rfl) (by kernel_rfl) (fun _ _ _ h => h) (Or.inl ⟨by rfl, ?_⟩) (by assumption) ?_
    rotate_left
    · intro w hSw
      (try dsimp only at hSw)
      go_simp
      all_goals with_reducible rfl
    try simp only [Act.put, List.getElem_toArray, List.getElem_cons_succ, List.getElem_cons_zero, List.setIfInBounds_toArray, List.set_cons_zero, List.set_cons_succ]
    refine wpAnyH_take (i := 1) (v := ?_) rfl (by kernel_rfl) (by kernel_rfl) (by kernel_rfl) (fun _ _ _ h => h) (Or.inl ⟨by rfl, ?_⟩) (by assumption) ?_
    rotate_left
    · intro w hSw
      (try dsimp only at hSw)
      go_simp
      all_goals with_reducible rfl
    try simp only [Act.put, List.getElem_toArray, List.getElem_cons_succ, List.getElem_cons_zero, List.setIfInBounds_toArray, List.set_cons_zero, List.set_cons_succ]
    refine wpAnyH_take (i := 2) (v := ?_) rfl (by kernel_rfl) (by kernel_rfl) (by kernel_rfl) (fun _ _ _ h => h) (Or.inl ⟨by rfl, ?_⟩) (by assumption) ?_
    rotate_left
    · intro w hSw
      (try dsimp only at hSw)
      go_simp
      all_goals with_reducible rfl
    try simp only [Act.put, List.getElem_toArray, List.getElem_cons_succ, List.getElem_cons_zero, List.setIfInBounds_toArray, List.set_cons_zero, List.set_cons_succ]
    refine wpAnyH_take (i := 3) (v := ?_) rfl (by kernel_rfl) (by kernel_rfl) (by kernel_rfl) (fun _ _ _ h => h) (Or.inl ⟨by rfl, ?_⟩) (by assumption) ?_
    rotate_left
    · intro w hSw
      (try dsimp only at hSw)
      go_simp
      all_goals with_reducible rfl
    try simp only [Act.put, List.getElem_toArray, List.getElem_cons_succ, List.getElem_cons_zero, List.setIfInBounds_toArray, List.set_cons_zero, List.set_cons_succ]
    refine wpAnyH_take (i := 4) (v := ?_) rfl (by kernel_rfl) (by kernel_rfl) (by kernel_rfl) (fun _ _ _ h => h) (Or.inl ⟨by rfl, ?_⟩) (by assumption) ?_
    rotate_left
    · intro w hSw
      (try dsimp only at hSw)
      go_simp
      all_goals with_reducible rfl
    try simp only [Act.put, List.getElem_toArray, List.getElem_cons_succ, List.getElem_cons_zero, List.setIfInBounds_toArray, List.set_cons_zero, List.set_cons_succ]
    refine wpAnyH_take (i := 5) (v := ?_) rfl (by kernel_rfl) (by kernel_rfl) (by kernel_rfl) (fun _ _ _ h => h) (Or.inl ⟨by rfl, ?_⟩) (by assumption) ?_
    rotate_left
    · intro w hSw
      (try dsimp only at hSw)
      go_simp
      all_goals with_reducible rfl
    try simp only [Act.put, List.getElem_toArray, List.getElem_cons_succ, List.getElem_cons_zero, List.setIfInBounds_toArray, List.set_cons_zero, List.set_cons_succ]
    refine wpAnyH_take (i := 6) (v := ?_) rfl (by kernel_rfl) (by kernel_rfl) (by kernel_rfl) (fun _ _ _ h => h) (Or.inl ⟨by rfl, ?_⟩) (by assumption) ?_
    rotate_left
    · intro w hSw
      (try dsimp only at hSw)
      go_simp
      all_goals with_reducible rfl
    try simp only [Act.put, List.getElem_toArray, List.getElem_cons_succ, List.getElem_cons_zero, List.setIfInBounds_toArray, List.set_cons_zero, List.set_cons_succ]
    refine wpAnyH_take (i := 7) (v := ?_) rfl (by kernel_rfl) (by kernel_rfl) (by kernel_rfl) (fun _ _ _ h => h) (Or.inl ⟨by rfl, ?_⟩) (by assumption) ?_
    rotate_left
    · intro w hSw
      (try dsimp only at hSw)
      go_simp
      all_goals with_reducible rfl
    try simp only [Act.put, List.getElem_toArray, List.getElem_cons_succ, List.getElem_cons_zero, List.setIfInBounds_toArray, List.set_cons_zero, List.set_cons_succ]
    refine wpAnyH_take (i := 8) (v := ?_) rfl (by kernel_rfl) (by kernel_rfl) (by kernel_rfl) (fun _ _ _ h => h) (Or.inl ⟨by rfl, ?_⟩) (by assumption) ?_
    rotate_left
    · intro w hSw
      (try dsimp only at hSw)
      go_simp
      all_goals with_reducible rfl
    try simp only [Act.put, List.getElem_toArray, List.getElem_cons_succ, List.getElem_cons_zero, List.setIfInBounds_toArray, List.set_cons_zero, List.set_cons_succ]
    refine wpAnyH_take (i := 9) (v := ?_) rfl (by kernel_rfl) (by kernel_rfl) (by kernel_rfl) (fun _ _ _ h => h) (Or.inl ⟨by rfl, ?_⟩) (by assumption) ?_
    rotate_left
    · intro w hSw
      (try dsimp only at hSw)
      go_simp
      all_goals with_reducible rfl
    try simp only [Act.put, List.getElem_toArray, List.getElem_cons_succ, List.getElem_cons_zero, List.setIfInBounds_toArray, List.set_cons_zero, List.set_cons_succ]
    refine wpAnyH_take (i := 10) (v := ?_) rfl (by kernel_rfl) (by kernel_rfl) (by kernel_rfl) (fun _ _ _ h => h) (Or.inl ⟨by rfl, ?_⟩) (by assumption) ?_
    rotate_left
    · intro w hSw
      (try dsimp only at hSw)
      go_simp
      all_goals with_reducible rfl
    try simp only [Act.put, List.getElem_toArray, List.getElem_cons_succ, List.getElem_cons_zero, List.setIfInBounds_toArray, List.set_cons_zero, List.set_cons_succ]
    refine wpAnyH_take (i := 11) (v := ?_) rfl (by kernel_rfl) (by kernel_rfl) (by kernel_rfl) (fun _ _ _ h => h) (Or.inl ⟨by rfl, ?_⟩) (by assumption) ?_
    rotate_left
    · intro w hSw
      (try dsimp only at hSw)
      go_simp
      all_goals with_reducible rfl
    try simp only [Act.put, List.getElem_toArray, List.getElem_cons_succ, List.getElem_cons_zero, List.setIfInBounds_toArray, List.set_cons_zero, List.set_cons_succ]
    refine wpAnyH_take (i := 12) (v := ?_) rfl (by kernel_rfl) (by kernel_rfl) (by kernel_rfl) (fun _ _ _ h => h) (Or.inl ⟨by rfl, ?_⟩) (by assumption) ?_
    rotate_left
    · intro w hSw
      (try dsimp only at hSw)
      go_simp
      all_goals with_reducible rfl
    try simp only [Act.put, List.getElem_toArray, List.getElem_cons_succ, List.getElem_cons_zero, List.setIfInBounds_toArray, List.set_cons_zero, List.set_cons_succ]
    refine wpAnyH_take (i := 13) (v := ?_) rfl (by kernel_rfl) (by kernel_rfl) (by kernel_rfl) (fun _ _ _ h => h) (Or.inl ⟨by rfl, ?_⟩) (by assumption) ?_
    rotate_left
    · intro w hSw
      (try dsimp only at hSw)
      go_simp
      all_goals with_reducible rfl
    try simp only [Act.put, List.getElem_toArray, List.getElem_cons_succ, List.getElem_cons_zero, List.setIfInBounds_toArray, List.set_cons_zero, List.set_cons_succ]
    refine wpAnyH_take (i := 14) (v := ?_) rfl (by kernel_rfl) (by kernel_rfl) (by kernel_rfl) (fun _ _ _ h => h) (Or.inl ⟨by rfl, ?_⟩) (by assumption) ?_
    rotate_left
    · intro w hSw
      (try dsimp only at hSw)
      go_simp
      all_goals with_reducible rfl
    try simp only [Act.put, List.getElem_toArray, List.getElem_cons_succ, List.getElem_cons_zero, List.setIfInBounds_toArray, List.set_cons_zero, List.set_cons_succ]
    refine wpAnyH_take (i := 15) (v := ?_) rfl (by kernel_rfl) (by kernel_rfl) (by kernel_rfl) (fun _ _ _ h => h) (Or.inl ⟨by rfl, ?_⟩) (by assumption) ?_
    rotate_left
    · intro w hSw
      (try dsimp only at hSw)
      go_simp
      all_goals with_reducible rfl
    try simp only [Act.put, List.getElem_toArray, List.getElem_cons_succ, List.getElem_cons_zero, List.setIfInBounds_toArray, List.set_cons_zero, List.set_cons_succ]
    refine wpAnyH_take (i := 16) (v := ?_) rfl (by kernel_rfl) (by kernel_rfl) (by kernel_rfl) (fun _ _ _ h => h) (Or.inl ⟨by rfl, ?_⟩) (by assumption) ?_
    rotate_left
    · intro w hSw
      (try dsimp only at hSw)
      go_simp
      all_goals with_reducible rfl
    try simp only [Act.put, List.getElem_toArray, List.getElem_cons_succ, List.getElem_cons_zero, List.setIfInBounds_toArray, List.set_cons_zero, List.set_cons_succ]
    refine wpAnyH_take (i := 17) (v := ?_) rfl (by kernel_rfl) (by kernel_rfl) (by kernel_rfl) (fun _ _ _ h => h) (Or.inl ⟨by rfl, ?_⟩) (by assumption) ?_
    rotate_left
    · intro w hSw
      (try dsimp only at hSw)
      go_simp
      all_goals with_reducible rfl
    try simp only [Act.put, List.getElem_toArray, List.getElem_cons_succ, List.getElem_cons_zero, List.setIfInBounds_toArray, List.set_cons_zero, List.set_cons_succ]
    refine wpAnyH_take (i := 18) (v := ?_) rfl (by kernel_rfl) (by kernel_rfl) (by kernel_rfl) (fun _ _ _ h => h) (Or.inl ⟨by rfl, ?_⟩) (by assumption) ?_
    rotate_left
    · intro w hSw
      (try dsimp only at hSw)
      go_simp
      all_goals with_reducible rfl
    try simp only [Act.put, List.getElem_toArray, List.getElem_cons_succ, List.getElem_cons_zero, List.setIfInBounds_toArray, List.set_cons_zero, List.set_cons_succ]
    refine wpAnyH_take (i := 20) (v := ?_) rfl (by kernel_rfl) (by kernel_rfl) (by kernel_rfl) (fun _ _ _ h => h) (Or.inl ⟨by rfl, ?_⟩) (by assumption) ?_
    rotate_left
    · intro w hSw
      (try dsimp only at hSw)
      go_simp
      all_goals with_reducible rfl
    try simp only [Act.put, List.getElem_toArray, List.getElem_cons_succ, List.getElem_cons_zero, List.setIfInBounds_toArray, List.set_cons_zero, List.set_cons_succ]
    refine wpAnyH_take (i := 21) (v := ?_) rfl (by kernel_rfl) (by kernel_rfl) (by kernel_rfl) (fun _ _ _ h => h) (Or.inl ⟨by rfl, ?_⟩) (by assumption) ?_
    rotate_left
    · intro w hSw
      (try dsimp only at hSw)
      go_simp
      all_goals with_reducible rfl
    try simp only [Act.put, List.getElem_toArray, List.getElem_cons_succ, List.getElem_cons_zero, List.setIfInBounds_toArray, List.set_cons_zero, List.set_cons_succ]
    refine wpAnyH_take (i := 22) (v := ?_) rfl (by kernel_rfl) (by kernel_rfl) (by kernel_rfl) (fun _ _ _ h => h) (Or.inl ⟨by rfl, ?_⟩) (by assumption) ?_
    rotate_left
    · intro w hSw
      (try dsimp only at hSw)
      go_simp
      all_goals with_reducible rfl
    try simp only [Act.put, List.getElem_toArray, List.getElem_cons_succ, List.getElem_cons_zero, List.setIfInBounds_toArray, List.set_cons_zero, List.set_cons_succ]
    refine wpAnyH_take (i := 23) (v := ?_) rfl (by kernel_rfl) (by kernel_rfl) (by kernel_rfl) (fun _ _ _ h => h) (Or.inl ⟨by rfl, ?_⟩) (by assumption) ?_
    rotate_left
    · intro w hSw
      (try dsimp only at hSw)
      go_simp
      all_goals with_reducible rfl
    try simp only [Act.put, List.getElem_toArray, List.getElem_cons_succ, List.getElem_cons_zero, List.setIfInBounds_toArray, List.set_cons_zero, List.set_cons_succ]
    refine wpAnyH_take (i := 24) (v := ?_) rfl (by kernel_rfl) (by kernel_rfl) (by kernel_rfl) (fun _ _ _ h => h) (Or.inl ⟨by rfl, ?_⟩) (by assumption) ?_
    rotate_left
    · intro w hSw
      (try dsimp only at hSw)
      go_simp
      all_goals with_reducible rfl
    try simp only [Act.put, List.getElem_toArray, List.getElem_cons_succ, List.getElem_cons_zero, List.setIfInBounds_toArray, List.set_cons_zero, List.set_cons_succ]
    refine wpAnyH_take (i := 26) (v := ?_) rfl (by kernel_rfl) (by kernel_rfl) (by kernel_rfl) (fun _ _ _ h => h) (Or.inl ⟨by rfl, ?_⟩) (by assumption) ?_
    rotate_left
    · intro w hSw
      (try dsimp only at hSw)
      go_simp
      all_goals with_reducible rfl
    try simp only [Act.put, List.getElem_toArray, List.getElem_cons_succ, List.getElem_cons_zero, List.setIfInBounds_toArray, List.set_cons_zero, List.set_cons_succ]
    refine wpAnyH_take (i := 27) (v := ?_) rfl (by kernel_rfl) (by kernel_rfl) (by kernel_rfl) (fun _ _ _ h => h) (Or.inl ⟨by rfl, ?_⟩) (by assumption) ?_
    rotate_left
    · intro w hSw
      (try dsimp only at hSw)
      go_simp
      all_goals with_reducible rfl
    try simp only [Act.put, List.getElem_toArray, List.getElem_cons_succ, List.getElem_cons_zero, List.setIfInBounds_toArray, List.set_cons_zero, List.set_cons_succ]
    refine wpAnyH_take (i := 28) (v := ?_) rfl (by kernel_rfl) (by kernel_rfl) (by kernel_rfl) (fun _ _ _ h => h) (Or.inl ⟨by rfl, ?_⟩) (by assumption) ?_
    rotate_left
    · intro w hSw
      (try dsimp only at hSw)
      go_simp
      all_goals with_reducible rfl
    try simp only [Act.put, List.getElem_toArray, List.getElem_cons_succ, List.getElem_cons_zero, List.setIfInBounds_toArray, List.set_cons_zero, List.set_cons_succ]
    refine wpAnyH_take (i := 29) (v := ?_) rfl (by kernel_rfl) (by kernel_rfl) (by kernel_rfl) (fun _ _ _ h => h) (Or.inl ⟨by rfl, ?_⟩) (by assumption) ?_
    rotate_left
    · intro w hSw
      (try dsimp only at hSw)
      go_simp
      all_goals with_reducible rfl
    try simp only [Act.put, List.getElem_toArray, List.getElem_cons_succ, List.getElem_cons_zero, List.setIfInBounds_toArray, List.set_cons_zero, List.set_cons_succ]
    refine wpAnyH_take (i := 30) (v := ?_) rfl (by kernel_rfl) (by kernel_rfl) (by kernel_rfl) (fun _ _ _ h => h) (Or.inl ⟨by rfl, ?_⟩) (by assumption) ?_
    rotate_left
    · intro w hSw
      (try dsimp only at hSw)
      go_simp
      all_goals with_reducible rfl
    try simp only [Act.put, List.getElem_toArray, List.getElem_cons_succ, List.getElem_cons_zero, List.setIfInBounds_toArray, List.set_cons_zero, List.set_cons_succ]
    refine wpAnyH_take (i := 31) (v := ?_) rfl (by kernel_rfl) (by kernel_rfl) (by kernel_rfl) (fun _ _ _ h => h) (Or.inl ⟨by rfl, ?_⟩) (by assumption) ?_
    rotate_left
    · intro w hSw
      (try dsimp only at hSw)
      go_simp
      all_goals with_reducible rfl
    try simp only [Act.put, List.getElem_toArray, List.getElem_cons_succ, List.getElem_cons_zero, List.setIfInBounds_toArray, List.set_cons_zero, List.set_cons_succ]
    refine wpAnyH_ready (rs := [19]) (by kernel_rfl) (by simp) ?_
    refine AllReadyH.cons rfl (fun K hK => ?_) AllReadyH.nil
    go_simp
    refine (HSG.out _ (Reads.of_own HST.out.md.key) (HR.out.below HST.out.bel)).mono ?_
    rintro e w5 ⟨rfl, hb5⟩
    have hst := HST.out.later hb5
    clear HST
    have HST := Lib.hid hst
    clear hst hb5
    go_wp2_with fail
    refine hK.out _ _ ?_ (fun hHeld => ?_)
    · (try dsimp only)
      first | exact HSS.out _ ⟨_, HST.out⟩ | exact HSS.out _ ⟨_, hst2⟩
    clear hK K
    try simp only [Act.put, List.getElem_toArray, List.getElem_cons_succ, List.getElem_cons_zero, List.setIfInBounds_toArray, List.set_cons_zero, List.set_cons_succ]
    refine wpAnyH_ready (rs := [25]) (by kernel_rfl) (by simp) ?_
    refine AllReadyH.cons rfl (fun K hK => ?_) AllReadyH.nil
    go_simp
    refine (HOT.out _).mono ?_
    rintro e w6 ⟨rfl, hb6⟩
    have hst := HST.out.later hb6
    clear HST
    have HST := Lib.hid hst
    clear hst hb6
    go_wp2_with fail
    refine hK.out _ _ ?_ (fun hHeld => ?_)
    · (try dsimp only)
      first | exact HSS.out _ ⟨_, HST.out⟩ | exact HSS.out _ ⟨_, hst2⟩
    clear hK K
    try simp only [Act.put, List.getElem_toArray, List.getElem_cons_succ, List.getElem_cons_zero, List.setIfInBounds_toArray, List.set_cons_zero, List.set_cons_succ]
    refine wpAnyH_ready (rs := [32]) (by kernel_rfl) (by simp) ?_
    refine AllReadyH.cons rfl (fun K hK => ?_) AllReadyH.nil
    go_simp
    refine (HIM.out _ HST.out.md).mono ?_
    rintro e w7 hmb
    obtain ⟨A7, c7, rfl, ho7, hb7⟩ := hmb
    have HRD := Lib.hid (Reads.of_own ho7)
    have hst := HST.out.later hb7
    clear HST
    have HST := Lib.hid hst
    clear hst hb7 ho7
    go_wp2_with fail
    refine hK.out _ _ ?_ (fun hHeld => ?_)
    · (try dsimp only)
      first | exact HSS.out _ ⟨_, HST.out⟩ | exact HSS.out _ ⟨_, hst2⟩
    clear hK K
    try simp only [Act.put, List.getElem_toArray, List.getElem_cons_succ, List.getElem_cons_zero, List.setIfInBounds_toArray, List.set_cons_zero, List.set_cons_succ]
    refine wpAnyH_ready (rs := [33]) (by kernel_rfl) (by simp) ?_
    refine AllReadyH.cons rfl (fun K hK => ?_) AllReadyH.nil
    go_simp
    refine (sum_c _ A7 c7 TK HRD.out (by have := HTK.out; omega)).mono ?_
    rintro e w8 ⟨rfl, hb8⟩
    have hst := HST.out.later hb8
    clear HST
    have HST := Lib.hid hst
    clear hst hb8
    go_wp2_with fail
    refine hK.out _ _ ?_ (fun hHeld => ?_)
    · (try dsimp only)
      first | exact HSS.out _ ⟨_, HST.out⟩ | exact HSS.out _ ⟨_, hst2⟩
    clear hK K
    try simp only [Act.put, List.getElem_toArray, List.getElem_cons_succ, List.getElem_cons_zero, List.setIfInBounds_toArray, List.set_cons_zero, List.set_cons_succ]
    refine wpAnyH_take (i := 34) (v := ?_) rfl (by kernel_rfl) (by kernel_rfl) (by kernel_rfl) (fun _ _ _ h => h) (Or.inl ⟨by rfl, ?_⟩) (by assumption) ?_
    rotate_left
    · intro w hSw
      (try dsimp only at hSw)
      go_simp
      all_goals with_reducible rfl
    try simp only [Act.put, List.getElem_toArray, List.getElem_cons_succ, List.getElem_cons_zero, List.setIfInBounds_toArray, List.set_cons_zero, List.set_cons_succ]
    have hfl : (⟨NM.toList == c.nm.toList, SG, sha TK, false⟩ : Fc).cells.length = 35 := Fc.cells_len (f := ⟨NM.toList == c.nm.toList, SG, sha TK, false⟩) (sha_len TK)
    have hsf := run_sstFm (Fc.cells ⟨NM.toList == c.nm.toList, SG, sha TK, false⟩) HST.out.f (by rw [hfl]; rfl) hfl (Fc.one _)
    have hfin := HST.out.f.setRow_m (Fc.cells ⟨NM.toList == c.nm.toList, SG, sha TK, false⟩).toArray
    have hbel := below_setRow_m HST.out.bel (Nat.le_succ _) (Fc.cells ⟨NM.toList == c.nm.toList, SG, sha TK, false⟩).toArray
    have HFIN := Lib.hid hfin
    have HBEL := Lib.hid hbel
    have hst2 := HST.out.setF (Fc.cells ⟨NM.toList == c.nm.toList, SG, sha TK, false⟩).toArray
    clear hfin hbel
    refine wpAnyH_ready (rs := [35]) (by kernel_rfl) (by simp) ?_
    refine AllReadyH.cons rfl (fun K hK => ?_) AllReadyH.nil
    go_simp
    refine hK.out _ _ ?_ (fun hHeld => ?_)
    · (try dsimp only)
      first | exact HSS.out _ ⟨_, HST.out⟩ | exact HSS.out _ ⟨_, hst2⟩
    clear hK K
    try simp only [Act.put, List.getElem_toArray, List.getElem_cons_succ, List.getElem_cons_zero, List.setIfInBounds_toArray, List.set_cons_zero, List.set_cons_succ]
    refine wpAnyH_done (by kernel_rfl) ?_ _
    try simp only [Act.put, List.getElem_toArray, List.getElem_cons_succ, List.getElem_cons_zero, List.setIfInBounds_toArray, List.set_cons_zero, List.set_cons_succ]
    go_wp2_with fail
    refine bodyPost_ret (results_cell_row rfl _ _ (w.heap.size + 1) 57 (Fc.cells ⟨NM.toList == c.nm.toList, SG, sha TK, false⟩).toArray (0, 0) _ rfl HFIN.out Tryd.underlying57 rfl (by rw [List.size_toArray, hfl]; exact info_sFm)) rfl ?_
    exact ⟨by first | rfl | (rw [decide_eq_true rfl, Bool.true_and]) | (rw [decide_eq_false hE, Bool.false_and]), HBEL.out⟩
  · have hEb : (EE == 0) = false := by simpa using hE
    refine wp_region_held_drew (S := (fun W => (W.cell? ⟨w.heap.size, 2, none⟩ = some (.slice SB sl sc) ∧ W.cell? ⟨b, 1, none⟩ = some (.slice K c.key.length kc) ∧ W.cell? ⟨b, 0, none⟩ = some (.string c.nm) ∧ W.cell? ⟨b, 79, none⟩ = some (.int .i64 m.cm.s) ∧ W.cell? ⟨mb, 0, none⟩ = some (.string NM) ∧ (sldM (.pointer (some ⟨b, 7, none⟩))).run Tryd.prog W = .ok (.agg m.cells.toArray) W))) (by kernel_rfl) ?_ (fun hHeld => ?_)
    · exact hs0
    generalize hwd : W2.drew = Wd at hs0 hHeld ⊢
    have hst := HST.out.later ((Below.refl _ W2).drew)
    rw [hwd] at hst
    clear HST hwd
    have HST := Lib.hid hst
    clear hst
    refine wpAnyH_take (i := 0) (v := ?_) rfl (by kernel_rfl) (by kernel_rfl) (by kernel_rfl) (fun _ _ _ h => h) (Or.inl ⟨by rfl, ?_⟩) (by assumption) ?_
    rotate_left
    · intro w hSw
      (try dsimp only at hSw)
      go_simp
      all_goals with_reducible rfl
    try simp only [Act.put, List.getElem_toArray, List.getElem_cons_succ, List.getElem_cons_zero, List.setIfInBounds_toArray, List.set_cons_zero, List.set_cons_succ]
    refine wpAnyH_take (i := 1) (v := ?_) rfl (by kernel_rfl) (by kernel_rfl) (by kernel_rfl) (fun _ _ _ h => h) (Or.inl ⟨by rfl, ?_⟩) (by assumption) ?_
    rotate_left
    · intro w hSw
      (try dsimp only at hSw)
      go_simp
      all_goals with_reducible rfl
    try simp only [Act.put, List.getElem_toArray, List.getElem_cons_succ, List.getElem_cons_zero, List.setIfInBounds_toArray, List.set_cons_zero, List.set_cons_succ]
    refine wpAnyH_take (i := 2) (v := ?_) rfl (by kernel_rfl) (by kernel_rfl) (by kernel_rfl) (fun _ _ _ h => h) (Or.inl ⟨by rfl, ?_⟩) (by assumption) ?_
    rotate_left
    · intro w hSw
      (try dsimp only at hSw)
      go_simp
      all_goals with_reducible rfl
    try simp only [Act.put, List.getElem_toArray, List.getElem_cons_succ, List.getElem_cons_zero, List.setIfInBounds_toArray, List.set_cons_zero, List.set_cons_succ]
    refine wpAnyH_take (i := 3) (v := undef) rfl (by kernel_rfl) (by kernel_rfl) (by kernel_rfl) (fun _ _ _ h => h) (Or.inr ⟨by rfl, rfl⟩) (by assumption) ?_
    try simp only [Act.put, List.getElem_toArray, List.getElem_cons_succ, List.getElem_cons_zero, List.setIfInBounds_toArray, List.set_cons_zero, List.set_cons_succ]
    refine wpAnyH_take (i := 4) (v := undef) rfl (by kernel_rfl) (by kernel_rfl) (by kernel_rfl) (fun _ _ _ h => h) (Or.inr ⟨by rfl, rfl⟩) (by assumption) ?_
    try simp only [Act.put, List.getElem_toArray, List.getElem_cons_succ, List.getElem_cons_zero, List.setIfInBounds_toArray, List.set_cons_zero, List.set_cons_succ]
    refine wpAnyH_take (i := 5) (v := undef) rfl (by kernel_rfl) (by kernel_rfl) (by kernel_rfl) (fun _ _ _ h => h) (Or.inr ⟨by rfl, rfl⟩) (by assumption) ?_
    try simp only [Act.put, List.getElem_toArray, List.getElem_cons_succ, List.getElem_cons_zero, List.setIfInBounds_toArray, List.set_cons_zero, List.set_cons_succ]
    refine wpAnyH_take (i := 6) (v := undef) rfl (by kernel_rfl) (by kernel_rfl) (by kernel_rfl) (fun _ _ _ h => h) (Or.inr ⟨by rfl, rfl⟩) (by assumption) ?_
    try simp only [Act.put, List.getElem_toArray, List.getElem_cons_succ, List.getElem_cons_zero, List.setIfInBounds_toArray, List.set_cons_zero, List.set_cons_succ]
    refine wpAnyH_take (i := 7) (v := undef) rfl (by kernel_rfl) (by kernel_rfl) (by kernel_rfl) (fun _ _ _ h => h) (Or.inr ⟨by rfl, rfl⟩) (by assumption) ?_
    try simp only [Act.put, List.getElem_toArray, List.getElem_cons_succ, List.getElem_cons_zero, List.setIfInBounds_toArray, List.set_cons_zero, List.set_cons_succ]
    refine wpAnyH_take (i := 8) (v := undef) rfl (by kernel_rfl) (by kernel_rfl) (by kernel_rfl) (fun _ _ _ h => h) (Or.inr ⟨by rfl, rfl⟩) (by assumption) ?_
    try simp only [Act.put, List.getElem_toArray, List.getElem_cons_succ, List.getElem_cons_zero, List.setIfInBounds_toArray, List.set_cons_zero, List.set_cons_succ]
    refine wpAnyH_take (i := 9) (v := undef) rfl (by kernel_rfl) (by kernel_rfl) (by kernel_rfl) (fun _ _ _ h => h) (Or.inr ⟨by rfl, rfl⟩) (by assumption) ?_
    try simp only [Act.put, List.getElem_toArray, List.getElem_cons_succ, List.getElem_cons_zero, List.setIfInBounds_toArray, List.set_cons_zero, List.set_cons_succ]
    refine wpAnyH_take (i := 10) (v := undef) rfl (by kernel_rfl) (by kernel_rfl) (by kernel_rfl) (fun _ _ _ h => h) (Or.inr ⟨by rfl, rfl⟩) (by assumption) ?_
    try simp only [Act.put, List.getElem_toArray, List.getElem_cons_succ, List.getElem_cons_zero, List.setIfInBounds_toArray, List.set_cons_zero, List.set_cons_succ]
    refine wpAnyH_take (i := 11) (v := ?_) rfl (by kernel_rfl) (by kernel_rfl) (by kernel_rfl) (fun _ _ _ h => h) (Or.inl ⟨by rfl, ?_⟩) (by assumption) ?_
    rotate_left
    · intro w hSw
      (try dsimp only at hSw)
      go_simp
      all_goals with_reducible rfl
    try simp only [Act.put, List.getElem_toArray, List.getElem_cons_succ, List.getElem_cons_zero, List.setIfInBounds_toArray, List.set_cons_zero, List.set_cons_succ]
    refine wpAnyH_take (i := 12) (v := ?_) rfl (by kernel_rfl) (by kernel_rfl) (by kernel_rfl) (fun _ _ _ h => h) (Or.inl ⟨by rfl, ?_⟩) (by assumption) ?_
    rotate_left
    · intro w hSw
      (try dsimp only at hSw)
      go_simp
      all_goals with_reducible rfl
    try simp only [Act.put, List.getElem_toArray, List.getElem_cons_succ, List.getElem_cons_zero, List.setIfInBounds_toArray, List.set_cons_zero, List.set_cons_succ]
    refine wpAnyH_take (i := 13) (v := ?_) rfl (by kernel_rfl) (by kernel_rfl) (by kernel_rfl) (fun _ _ _ h => h) (Or.inl ⟨by rfl, ?_⟩) (by assumption) ?_
    rotate_left
    · intro w hSw
      (try dsimp only at hSw)
      go_simp
      all_goals with_reducible rfl
    try simp only [Act.put, List.getElem_toArray, List.getElem_cons_succ, List.getElem_cons_zero, List.setIfInBounds_toArray, List.set_cons_zero, List.set_cons_succ]
    refine wpAnyH_take (i := 14) (v := ?_) rfl (by kernel_rfl) (by kernel_rfl) (by kernel_rfl) (fun _ _ _ h => h) (Or.inl ⟨by rfl, ?_⟩) (by assumption) ?_
    rotate_left
    · intro w hSw
      (try dsimp only at hSw)
      go_simp
      all_goals with_reducible rfl
    try simp only [Act.put, List.getElem_toArray, List.getElem_cons_succ, List.getElem_cons_zero, List.setIfInBounds_toArray, List.set_cons_zero, List.set_cons_succ]
    refine wpAnyH_take (i := 15) (v := ?_) rfl (by kernel_rfl) (by kernel_rfl) (by kernel_rfl) (fun _ _ _ h => h) (Or.inl ⟨by rfl, ?_⟩) (by assumption) ?_
    rotate_left
    · intro w hSw
      (try dsimp only at hSw)
      go_simp
      all_goals with_reducible rfl
    try simp only [Act.put, List.getElem_toArray, List.getElem_cons_succ, List.getElem_cons_zero, List.setIfInBounds_toArray, List.set_cons_zero, List.set_cons_succ]
    refine wpAnyH_take (i := 16) (v := ?_) rfl (by kernel_rfl) (by kernel_rfl) (by kernel_rfl) (fun _ _ _ h => h) (Or.inl ⟨by rfl, ?_⟩) (by assumption) ?_
    rotate_left
    · intro w hSw
      (try dsimp only at hSw)
      go_simp
      all_goals with_reducible rfl
    try simp only [Act.put, List.getElem_toArray, List.getElem_cons_succ, List.getElem_cons_zero, List.setIfInBounds_toArray, List.set_cons_zero, List.set_cons_succ]
    refine wpAnyH_take (i := 17) (v := ?_) rfl (by kernel_rfl) (by kernel_rfl) (by kernel_rfl) (fun _ _ _ h => h) (Or.inl ⟨by rfl, ?_⟩) (by assumption) ?_
    rotate_left
    · intro w hSw
      (try dsimp only at hSw)
      go_simp
      all_goals with_reducible rfl
    try simp only [Act.put, List.getElem_toArray, List.getElem_cons_succ, List.getElem_cons_zero, List.setIfInBounds_toArray, List.set_cons_zero, List.set_cons_succ]
    refine wpAnyH_take (i := 18) (v := ?_) rfl (by kernel_rfl) (by kernel_rfl) (by kernel_rfl) (fun _ _ _ h => h) (Or.inl ⟨by rfl, ?_⟩) (by assumption) ?_
    rotate_left
    · intro w hSw
      (try dsimp only at hSw)
      go_simp
      all_goals with_reducible rfl
    try simp only [Act.put, List.getElem_toArray, List.getElem_cons_succ, List.getElem_cons_zero, List.setIfInBounds_toArray, List.set_cons_zero, List.set_cons_succ]
    refine wpAnyH_take (i := 20) (v := ?_) rfl (by kernel_rfl) (by kernel_rfl) (by kernel_rfl) (fun _ _ _ h => h) (Or.inl ⟨by rfl, ?_⟩) (by assumption) ?_
    rotate_left
    · intro w hSw
      (try dsimp only at hSw)
      go_simp
      all_goals with_reducible rfl
    try simp only [Act.put, List.getElem_toArray, List.getElem_cons_succ, List.getElem_cons_zero, List.setIfInBounds_toArray, List.set_cons_zero, List.set_cons_succ]
    refine wpAnyH_take (i := 21) (v := ?_) rfl (by kernel_rfl) (by kernel_rfl) (by kernel_rfl) (fun _ _ _ h => h) (Or.inl ⟨by rfl, ?_⟩) (by assumption) ?_
    rotate_left
    · intro w hSw
      (try dsimp only at hSw)
      go_simp
      all_goals with_reducible rfl
    try simp only [Act.put, List.getElem_toArray, List.getElem_cons_succ, List.getElem_cons_zero, List.setIfInBounds_toArray, List.set_cons_zero, List.set_cons_succ]
    refine wpAnyH_take (i := 22) (v := ?_) rfl (by kernel_rfl) (by kernel_rfl) (by kernel_rfl) (fun _ _ _ h => h) (Or.inl ⟨by rfl, ?_⟩) (by assumption) ?_
    rotate_left
    · intro w hSw
      (try dsimp only at hSw)
      go_simp
      all_goals with_reducible rfl
    try simp only [Act.put, List.getElem_toArray, List.getElem_cons_succ, List.getElem_cons_zero, List.setIfInBounds_toArray, List.set_cons_zero, List.set_cons_succ]
    refine wpAnyH_take (i := 23) (v := ?_) rfl (by kernel_rfl) (by kernel_rfl) (by kernel_rfl) (fun _ _ _ h => h) (Or.inl ⟨by rfl, ?_⟩) (by assumption) ?_
    rotate_left
    · intro w hSw
      (try dsimp only at hSw)
      go_simp
      all_goals with_reducible rfl
    try simp only [Act.put, List.getElem_toArray, List.getElem_cons_succ, List.getElem_cons_zero, List.setIfInBounds_toArray, List.set_cons_zero, List.set_cons_succ]
    refine wpAnyH_take (i := 24) (v := ?_) rfl (by kernel_rfl) (by kernel_rfl) (by kernel_rfl) (fun _ _ _ h => h) (Or.inl ⟨by rfl, ?_⟩) (by assumption) ?_
    rotate_left
    · intro w hSw
      (try dsimp only at hSw)
      go_simp
      all_goals with_reducible rfl
    try simp only [Act.put, List.getElem_toArray, List.getElem_cons_succ, List.getElem_cons_zero, List.setIfInBounds_toArray, List.set_cons_zero, List.set_cons_succ]
    refine wpAnyH_take (i := 26) (v := ?_) rfl (by kernel_rfl) (by kernel_rfl) (by kernel_rfl) (fun _ _ _ h => h) (Or.inl ⟨by rfl, ?_⟩) (by assumption) ?_
    rotate_left
    · intro w hSw
      (try dsimp only at hSw)
      go_simp
      all_goals with_reducible rfl
    try simp only [Act.put, List.getElem_toArray, List.getElem_cons_succ, List.getElem_cons_zero, List.setIfInBounds_toArray, List.set_cons_zero, List.set_cons_succ]
    refine wpAnyH_take (i := 27) (v := ?_) rfl (by kernel_rfl) (by kernel_rfl) (by kernel_rfl) (fun _ _ _ h => h) (Or.inl ⟨by rfl, ?_⟩) (by assumption) ?_
    rotate_left
    · intro w hSw
      (try dsimp only at hSw)
      go_simp
      all_goals with_reducible rfl
    try simp only [Act.put, List.getElem_toArray, List.getElem_cons_succ, List.getElem_cons_zero, List.setIfInBounds_toArray, List.set_cons_zero, List.set_cons_succ]
    refine wpAnyH_take (i := 28) (v := ?_) rfl (by kernel_rfl) (by kernel_rfl) (by kernel_rfl) (fun _ _ _ h => h) (Or.inl ⟨by rfl, ?_⟩) (by assumption) ?_
    rotate_left
    · intro w hSw
      (try dsimp only at hSw)
      go_simp
      all_goals with_reducible rfl
    try simp only [Act.put, List.getElem_toArray, List.getElem_cons_succ, List.getElem_cons_zero, List.setIfInBounds_toArray, List.set_cons_zero, List.set_cons_succ]
    refine wpAnyH_take (i := 29) (v := ?_) rfl (by kernel_rfl) (by kernel_rfl) (by kernel_rfl) (fun _ _ _ h => h) (Or.inl ⟨by rfl, ?_⟩) (by assumption) ?_
    rotate_left
    · intro w hSw
      (try dsimp only at hSw)
      go_simp
      all_goals with_reducible rfl
    try simp only [Act.put, List.getElem_toArray, List.getElem_cons_succ, List.getElem_cons_zero, List.setIfInBounds_toArray, List.set_cons_zero, List.set_cons_succ]
    refine wpAnyH_take (i := 30) (v := ?_) rfl (by kernel_rfl) (by kernel_rfl) (by kernel_rfl) (fun _ _ _ h => h) (Or.inl ⟨by rfl, ?_⟩) (by assumption) ?_
    rotate_left
    · intro w hSw
      (try dsimp only at hSw)
      go_simp
      all_goals with_reducible rfl
    try simp only [Act.put, List.getElem_toArray, List.getElem_cons_succ, List.getElem_cons_zero, List.setIfInBounds_toArray, List.set_cons_zero, List.set_cons_succ]
    refine wpAnyH_take (i := 31) (v := ?_) rfl (by kernel_rfl) (by kernel_rfl) (by kernel_rfl) (fun _ _ _ h => h) (Or.inl ⟨by rfl, ?_⟩) (by assumption) ?_
    rotate_left
    · intro w hSw
      (try dsimp only at hSw)
      go_simp
      all_goals with_reducible rfl
    try simp only [Act.put, List.getElem_toArray, List.getElem_cons_succ, List.getElem_cons_zero, List.setIfInBounds_toArray, List.set_cons_zero, List.set_cons_succ]
    refine wpAnyH_ready (rs := [19]) (by kernel_rfl) (by simp) ?_
    refine AllReadyH.cons rfl (fun K hK => ?_) AllReadyH.nil
    go_simp
    refine (HSG.out _ (Reads.of_own HST.out.md.key) (HR.out.below HST.out.bel)).mono ?_
    rintro e w5 ⟨rfl, hb5⟩
    have hst := HST.out.later hb5
    clear HST
    have HST := Lib.hid hst
    clear hst hb5
    go_wp2_with fail
    refine hK.out _ _ ?_ (fun hHeld => ?_)
    · (try dsimp only)
      first | exact HSS.out _ ⟨_, HST.out⟩ | exact HSS.out _ ⟨_, hst2⟩
    clear hK K
    try simp only [Act.put, List.getElem_toArray, List.getElem_cons_succ, List.getElem_cons_zero, List.setIfInBounds_toArray, List.set_cons_zero, List.set_cons_succ]
    refine wpAnyH_ready (rs := [25]) (by kernel_rfl) (by simp) ?_
    refine AllReadyH.cons rfl (fun K hK => ?_) AllReadyH.nil
    go_simp
    refine (HOT.out _).mono ?_
    rintro e w6 ⟨rfl, hb6⟩
    have hst := HST.out.later hb6
    clear HST
    have HST := Lib.hid hst
    clear hst hb6
    go_wp2_with fail
    refine hK.out _ _ ?_ (fun hHeld => ?_)
    · (try dsimp only)
      first | exact HSS.out _ ⟨_, HST.out⟩ | exact HSS.out _ ⟨_, hst2⟩
    clear hK K
    try simp only [Act.put, List.getElem_toArray, List.getElem_cons_succ, List.getElem_cons_zero, List.setIfInBounds_toArray, List.set_cons_zero, List.set_cons_succ]
    refine wpAnyH_ready (rs := [32]) (by kernel_rfl) (by simp) ?_
    refine AllReadyH.cons rfl (fun K hK => ?_) AllReadyH.nil
    go_simp
    refine (HIM.out _ HST.out.md).mono ?_
    rintro e w7 hmb
    obtain ⟨A7, c7, rfl, ho7, hb7⟩ := hmb
    have HRD := Lib.hid (Reads.of_own ho7)
    have hst := HST.out.later hb7
    clear HST
    have HST := Lib.hid hst
    clear hst hb7 ho7
    go_wp2_with fail
    refine hK.out _ _ ?_ (fun hHeld => ?_)
    · (try dsimp only)
      first | exact HSS.out _ ⟨_, HST.out⟩ | exact HSS.out _ ⟨_, hst2⟩
    clear hK K
    try simp only [Act.put, List.getElem_toArray, List.getElem_cons_succ, List.getElem_cons_zero, List.setIfInBounds_toArray, List.set_cons_zero, List.set_cons_succ]
    refine wpAnyH_ready (rs := [33]) (by kernel_rfl) (by simp) ?_
    refine AllReadyH.cons rfl (fun K hK => ?_) AllReadyH.nil
    go_simp
    refine (sum_c _ A7 c7 TK HRD.out (by have := HTK.out; omega)).mono ?_
    rintro e w8 ⟨rfl, hb8⟩
    have hst := HST.out.later hb8
    clear HST
    have HST := Lib.hid hst
    clear hst hb8
    go_wp2_with fail
    refine hK.out _ _ ?_ (fun hHeld => ?_)
    · (try dsimp only)
      first | exact HSS.out _ ⟨_, HST.out⟩ | exact HSS.out _ ⟨_, hst2⟩
    clear hK K
    try simp only [Act.put, List.getElem_toArray, List.getElem_cons_succ, List.getElem_cons_zero, List.setIfInBounds_toArray, List.set_cons_zero, List.set_cons_succ]
    refine wpAnyH_take (i := 34) (v := ?_) rfl (by kernel_rfl) (by kernel_rfl) (by kernel_rfl) (fun _ _ _ h => h) (Or.inl ⟨by rfl, ?_⟩) (by assumption) ?_
    rotate_left
    · intro w hSw
      (try dsimp only at hSw)
      go_simp
      all_goals with_reducible rfl
    try simp only [Act.put, List.getElem_toArray, List.getElem_cons_succ, List.getElem_cons_zero, List.setIfInBounds_toArray, List.set_cons_zero, List.set_cons_succ]
    have hfl : (⟨false, SG, sha TK, false⟩ : Fc).cells.length = 35 := Fc.cells_len (f := ⟨false, SG, sha TK, false⟩) (sha_len TK)
    have hsf := run_sstFm (Fc.cells ⟨false, SG, sha TK, false⟩) HST.out.f (by rw [hfl]; rfl) hfl (Fc.one _)
    have hfin := HST.out.f.setRow_m (Fc.cells ⟨false, SG, sha TK, false⟩).toArray
    have hbel := below_setRow_m HST.out.bel (Nat.le_succ _) (Fc.cells ⟨false, SG, sha TK, false⟩).toArray
    have HFIN := Lib.hid hfin
    have HBEL := Lib.hid hbel
    have hst2 := HST.out.setF (Fc.cells ⟨false, SG, sha TK, false⟩).toArray
    clear hfin hbel
    refine wpAnyH_ready (rs := [35]) (by kernel_rfl) (by simp) ?_
    refine AllReadyH.cons rfl (fun K hK => ?_) AllReadyH.nil
    go_simp
    refine hK.out _ _ ?_ (fun hHeld => ?_)
    · (try dsimp only)
      first | exact HSS.out _ ⟨_, HST.out⟩ | exact HSS.out _ ⟨_, hst2⟩
    clear hK K
    try simp only [Act.put, List.getElem_toArray, List.getElem_cons_succ, List.getElem_cons_zero, List.setIfInBounds_toArray, List.set_cons_zero, List.set_cons_succ]
    refine wpAnyH_done (by kernel_rfl) ?_ _
    try simp only [Act.put, List.getElem_toArray, List.getElem_cons_succ, List.getElem_cons_zero, List.setIfInBounds_toArray, List.set_cons_zero, List.set_cons_succ]
    go_wp2_with fail
    refine bodyPost_ret (results_cell_row rfl _ _ (w.heap.size + 1) 57 (Fc.cells ⟨false, SG, sha TK, false⟩).toArray (0, 0) _ rfl HFIN.out Tryd.underlying57 rfl (by rw [List.size_toArray, hfl]; exact info_sFm)) rfl ?_
    exact ⟨by first | rfl | (rw [decide_eq_true rfl, Bool.true_and]) | (rw [decide_eq_false hE, Bool.false_and]), HBEL.out⟩

end Go.Proofs.YtpafenlcgcenlaaDoor
