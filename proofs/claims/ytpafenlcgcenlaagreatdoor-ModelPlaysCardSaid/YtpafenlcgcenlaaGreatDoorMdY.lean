/- (*model.Model).fact. · What a Model's Do turns (plain), and its Meta stored whole. · (*model.Model).Do of a request that the rights allow. · A Model as a whole: made, asked, looked at; what it is then (plain). · (*model.Model).Meta. · A Model of which another Meta, and the slot that is not active, are these (plain). -/
import Derived.Test.YtpafenlcgcenlaaGreatDoorHeldTk
import Derived.Test.YtpafenlcgcenlaaGreatDoorMdX
import Derived.Test.YtpafenlcgcenlaaGreatDoorMnB
import Derived.Test.YtpafenlcgcenlaaGreatDoorUpP
import Derived.Deep.RegionHeld3
import Derived.Deep.DrawnRows
import Derived.Test.YtpafenlcgcenlaaGreatDoorBase
namespace Go.Proofs.YtpafenlcgcenlaaGreatDoor
open Go Go.RowKit
set_option linter.unusedVariables false
set_option linter.unusedSimpArgs false
noncomputable def sstFm (x v : Value) : Sem Unit := Instr.storeAt 78 x v
theorem sstFm_seal (x v : Value) : Instr.storeAt 78 x v = sstFm x v := rfl
theorem info_sFm : (Tryz.prog.info? 78).map (·.size) = some 35 := by kernel_rfl
theorem run_sstFm {W : World} {g : Nat} {old : Array Value} (cs : List Value) (h : Blk W g 78 old) (ho : old.size = cs.length) (hs : cs.length = 35) (h1 : ∀ u ∈ cs, u.oneCell' = true) :
  (sstFm (.pointer (some ⟨g, 0, none⟩)) (.agg cs.toArray)).run Tryz.prog W = .ok () (W.setRow g cs.toArray) := by
 unfold sstFm
 simp only [Instr.storeAt, Instr.sureAddr, Sem.run_bind, Sem.run_pure, Result.andThen_ok, run_storeVar_row (P := Tryz.prog) W g 78 78 old cs.toArray h (by simpa [hs] using info_sFm) (by simpa using ho) (by simpa using h1)]
@[reducible] def zeroFm : Array Value := #[.bool false, .bool false, .int .u8 0, .int .u8 0, .int .u8 0, .int .u8 0, .int .u8 0, .int .u8 0, .int .u8 0, .int .u8 0, .int .u8 0, .int .u8 0, .int .u8 0, .int .u8 0, .int .u8 0, .int .u8 0, .int .u8 0, .int .u8 0, .int .u8 0, .int .u8 0, .int .u8 0, .int .u8 0, .int .u8 0, .int .u8 0, .int .u8 0, .int .u8 0, .int .u8 0, .int .u8 0, .int .u8 0, .int .u8 0, .int .u8 0, .int .u8 0, .int .u8 0, .int .u8 0, .bool false]
theorem Fc.one (f : Fc) : ∀ u ∈ f.cells, u.oneCell' = true := by
 intro u hu
 unfold Fc.cells at hu
 simp only [List.mem_cons, List.mem_append, List.mem_map, List.not_mem_nil, or_false] at hu
 rcases hu with rfl | rfl | ⟨b, _, rfl⟩ | rfl <;> rfl
def mNm (l : List UInt8) : ByteArray := if l.length = 92 ∧ mOk l = true then ⟨(mName l).toArray⟩ else ⟨#[]⟩
theorem ManRet.any2 {l : List UInt8} {e : Ending} {w' : World} (h : ManRet l e w') : ∃ A n c, e = .returned (.tuple #[.agg (manC (mNm l) (mX l)).toArray, .slice A n c, .int .i64 (mE l)]) := by
 rcases h with ⟨h1, h2⟩ | ⟨h1, h2, A, c, h3, _⟩
 ·
  have hx : ¬ (l.length = 92 ∧ mOk l = true) := by
   rintro ⟨a, b⟩
   rcases h1 with h1 | h1
   ·
    exact h1 a
   ·
    rw [h1] at b; cases b
  exact ⟨none, 0, 0, by rw [h2]; unfold mNm mX mE; rw [if_neg hx, if_neg hx, if_neg hx]; rfl⟩
 ·
  exact ⟨A, 32, c, by rw [h3]; unfold mNm mX mE; rw [if_pos ⟨h1, h2⟩, if_pos ⟨h1, h2⟩, if_pos ⟨h1, h2⟩]⟩
/-- What is found beside. -/
def factD (c : Cf) (m : Mt) (lo l : List UInt8) : Fc := ⟨decide (mE l = 0) && ((mNm l).toList == c.nm.toList), signedB c.key l, sha (lo.take m.cm.s.toNat), false⟩
theorem factD_len (c : Cf) (m : Mt) (lo l : List UInt8) : (factD c m lo l).d.length = 32 := sha_len _
theorem Only.rowM {S : List Nat} {w w' : World} (h : Only S w w') {g : Nat} (hp : g ∈ S ∨ w.heap.size ≤ g) (cs : Array Value) : Only S w (w'.setRow g cs) :=
 ⟨h.os, h.tape, h.output, by simpa [World.setRow] using h.size, fun k hk hn => (setRow_other w' g k cs (by
  rintro rfl
  rcases hp with a | a
  ·
   exact hn a
  ·
   omega)).trans (h.block k hk hn)⟩
/-- The frame of fact. -/
structure FaAt (w0 W : World) (B b : Nat) (c : Cf) (m : Mt) (l0 l1 : List UInt8) (K : Option Addr) (kc : Nat) (F : Option Addr) (fc : Nat) (S0 : Option Addr) (c0 : Nat) (S1 : Option Addr) (c1 : Nat) (QA MA FA : Array Value) (mb : Nat) : Prop where
 md : MdAt W B b c m l0 l1 K kc F fc S0 c0 S1 c1
 q : Blk W w0.heap.size 34 QA
 f : Blk W (w0.heap.size + 1) 78 FA
 mn : Blk W mb 82 MA
 bel : Below w0.heap.size w0 W
theorem FaAt.later {w0 W W' : World} {B b : Nat} {c : Cf} {m : Mt} {l0 l1 : List UInt8} {K : Option Addr} {kc : Nat} {F : Option Addr} {fc : Nat} {S0 : Option Addr} {c0 : Nat} {S1 : Option Addr} {c1 : Nat} {QA MA FA : Array Value} {mb : Nat} (h : FaAt w0 W B b c m l0 l1 K kc F fc S0 c0 S1 c1 QA MA FA mb) (hb : Below W.heap.size W W') : FaAt w0 W' B b c m l0 l1 K kc F fc S0 c0 S1 c1 QA MA FA mb :=
 ⟨h.md.below hb, h.q.below hb h.q.lt, h.f.below hb h.f.lt, h.mn.below hb h.mn.lt, h.bel.trans (hb.mono h.bel.size)⟩
section
variable {w w' : World} {g : Nat} {B b : Nat} {c : Cf} {m : Mt} {l0 l1 : List UInt8} {K : Option Addr} {kc : Nat} {F : Option Addr} {fc : Nat} {S0 : Option Addr} {c0 : Nat} {S1 : Option Addr} {c1 : Nat}
theorem MdAt.putR (h : MdAt w B b c m l0 l1 K kc F fc S0 c0 S1 c1) {t : TypeId} {old : Array Value} (hB : Blk w g t old) (ht : t ≠ 5) (ht2 : t ≠ 71) (cs : Array Value) : MdAt (w.setRow g cs) B b c m l0 l1 K kc F fc S0 c0 S1 c1 := by
 have ho : Only [g] w (w.setRow g cs) := (Only.refl [g] w).rowM (.inl (by simp)) cs
 have hn : ∀ {n cc : Nat} {A : Option Addr} {xs : List Value}, w.ownsRow B 5 1 (.slice A n cc) n xs → (w.setRow g cs).ownsRow B 5 1 (.slice A n cc) n xs := fun hw => own_only hw ho (fun k hk => by
  simp only [List.mem_cons, List.not_mem_nil, or_false]
  rintro rfl
  exact own_blk_ne hw hB (Ne.symm ht) hk)
 exact ⟨h.blk.setRow_mf cs (Blk.ne_ h.blk hB (Ne.symm ht2)), h.ok, hn h.key, hn h.s0, hn h.s1, h.ge, h.ap0, h.ap1⟩
end
theorem FaAt.setF {w0 W : World} {B b : Nat} {c : Cf} {m : Mt} {l0 l1 : List UInt8} {K : Option Addr} {kc : Nat} {F : Option Addr} {fc : Nat} {S0 : Option Addr} {c0 : Nat} {S1 : Option Addr} {c1 : Nat} {QA MA FA : Array Value} {mb : Nat} (h : FaAt w0 W B b c m l0 l1 K kc F fc S0 c0 S1 c1 QA MA FA mb) (cs : Array Value) : FaAt w0 (W.setRow (w0.heap.size + 1) cs) B b c m l0 l1 K kc F fc S0 c0 S1 c1 QA MA cs mb :=
 ⟨h.md.putR h.f (by decide) (by decide) cs, h.q.setRow_mf cs (by omega), h.f.setRow_m cs, h.mn.setRow_mf cs (Blk.ne_ h.mn h.f (by decide)), below_setRow_m h.bel (Nat.le_succ _) cs⟩
attribute [local go_sem ↓] sldM_seal sbN_seal sldN_seal sstN_seal sbFc_seal sstFm_seal
set_option maxRecDepth 100000 in
set_option maxHeartbeats 8000000 in
theorem mfact_c (w : World) (B b : Nat) (c : Cf) (m : Mt) (l0 l1 : List UInt8) (K : Option Addr) (kc : Nat) (F : Option Addr) (fc : Nat) (S0 : Option Addr) (c0 : Nat) (S1 : Option Addr) (c1 : Nat) (h : MdAt w B b c m l0 l1 K kc F fc S0 c0 S1 c1) (hkl : c.key.length ≤ 100000) (ha : m.act = 0 ∨ m.act = 1) (hl0 : l0.length ≤ 100000) (hl1 : l1.length ≤ 100000) (qk qn : Int) (SB : Option Addr) (sl sc : Nat) (l : List UInt8) (hr : Reads w SB sl (l.map u8v)) (hsl : sl ≤ 1000) (hsc : sl ≤ sc ∧ sc ≤ maxLen) :
  Calls Tryz.prog 31 #[.pointer (some ⟨b, 0, none⟩), .agg #[.int .i64 qk, .int .i64 qn, .slice SB sl sc]] w fun e w' => e = .returned (.agg (factD c m (if m.act = 0 then l1 else l0) l).cells.toArray) ∧ Below w.heap.size w w' := by
 have hlen : l.length = sl := by simpa using hr.len
 have hmr := fun (W : World) (hW : Reads W SB sl (l.map u8v)) => mread_c W SB sl sc l hW hlen (by omega)
 have hsg := fun (W : World) (hK : Reads W K c.key.length (c.key.map u8v)) (hW : Reads W SB sl (l.map u8v)) => msigned_c W K c.key.length kc c.key hK hkl SB sl sc l hW (by omega) hsc
 have hoth := fun W => other_c W m h.ok (by omega)
 have him : ∀ W, MdAt W B b c m l0 l1 K kc F fc S0 c0 S1 c1 → Calls Tryz.prog 37 #[.pointer (some ⟨b, 0, none⟩), .int .i64 (1 - m.act), .int .i64 m.cm.s] W fun e w' => MadeBytes W ((if m.act = 0 then l1 else l0).take m.cm.s.toNat) e w' := fun W hW => by
  rcases ha with h0 | h0
  ·
   rw [h0]
   exact mimage1_c W B b c m l0 l1 K kc F fc S0 c0 S1 c1 hW m.cm.s hl1
  ·
   rw [h0]
   exact mimage0_c W B b c m l0 l1 K kc F fc S0 c0 S1 c1 hW m.cm.s hl0
 obtain ⟨lo, hlo⟩ : ∃ lo, (if m.act = 0 then l1 else l0) = lo := ⟨_, rfl⟩
 have hlol : lo.length ≤ 100000 := by rw [← hlo]; split <;> assumption
 rw [hlo] at him ⊢
 obtain ⟨TK, hTK⟩ : ∃ TK, lo.take m.cm.s.toNat = TK := ⟨_, rfl⟩
 have htk : TK.length ≤ 100000 := by rw [← hTK, List.length_take]; omega
 obtain ⟨EE, hEE⟩ : ∃ EE, mE l = EE := ⟨_, rfl⟩
 obtain ⟨NM, hNM⟩ : ∃ NM, mNm l = NM := ⟨_, rfl⟩
 have hany := fun e w' => ManRet.any2 (l := l) (e := e) (w' := w')
 have hxd := (mX_b l).1
 obtain ⟨XX, hXX⟩ : ∃ XX, mX l = XX := ⟨_, rfl⟩
 rw [hXX] at hxd
 simp only [hEE, hNM, hXX] at hany
 rw [hTK] at him
 have hFD : factD c m lo l = ⟨decide (EE = 0) && (NM.toList == c.nm.toList), signedB c.key l, sha TK, false⟩ := by
  unfold factD
  rw [hEE, hNM, hTK]
 rw [hFD]
 clear hFD hTK hlo hEE hNM hXX
 obtain ⟨SG, hSG⟩ : ∃ SG, signedB c.key l = SG := ⟨_, rfl⟩
 rw [hSG] at hsg ⊢
 clear hSG
 have k72 := Mt.c72 h.ok
 have hfa : ∀ MA mb W, Blk W mb 82 MA → Below ((w.alloc (.cells #[.int .i64 qk, .int .i64 qn, .slice SB sl sc] 34)).alloc (.cells zeroFm 78)).heap.size ((w.alloc (.cells #[.int .i64 qk, .int .i64 qn, .slice SB sl sc] 34)).alloc (.cells zeroFm 78)) W → FaAt w W B b c m l0 l1 K kc F fc S0 c0 S1 c1 #[.int .i64 qk, .int .i64 qn, .slice SB sl sc] MA zeroFm mb := fun MA mb W hM hB => by
  have q1 := ((Blk.new w 34 #[.int .i64 qk, .int .i64 qn, .slice SB sl sc]).alloc (.cells zeroFm 78))
  have q2 := Blk.new (w.alloc (.cells #[.int .i64 qk, .int .i64 qn, .slice SB sl sc] 34)) 78 zeroFm
  have hs1 : (w.alloc (.cells #[.int .i64 qk, .int .i64 qn, .slice SB sl sc] 34)).heap.size = w.heap.size + 1 := by simp
  rw [hs1] at q2
  have hb : Below w.heap.size w ((w.alloc (.cells #[.int .i64 qk, .int .i64 qn, .slice SB sl sc] 34)).alloc (.cells zeroFm 78)) := ((Below.refl _ w).alloc (Nat.le_refl _) _).alloc (by simp) _
  exact ⟨(h.below hb).below hB, q1.below hB q1.lt, q2.below hB q2.lt, hM, hb.trans (hB.mono hb.size)⟩
 have hq := ((Blk.new w 34 #[.int .i64 qk, .int .i64 qn, .slice SB sl sc]).alloc (.cells zeroFm 78)).cell 2
 have hq2 : ((w.alloc (.cells #[.int .i64 qk, .int .i64 qn, .slice SB sl sc] 34)).alloc (.cells zeroFm 78)).cell? ⟨w.heap.size, 2, none⟩ = some (.slice SB sl sc) := hq
 have hr2 := hmr _ (hr.below (((Below.refl _ w).alloc (Nat.le_refl _) (.cells #[.int .i64 qk, .int .i64 qn, .slice SB sl sc] 34)).alloc (by simp) (.cells zeroFm 78)))
 have HR := Lib.hid hr
 have HFA := Lib.hid hfa
 have HR2 := Lib.hid hr2
 have HSG := Lib.hid hsg
 have HIM := Lib.hid him
 have HOT := Lib.hid hoth
 have HANY := Lib.hid hany
 have HSZ := Lib.hid (show (w.alloc (.cells #[.int .i64 qk, .int .i64 qn, .slice SB sl sc] 34)).heap.size = w.heap.size + 1 from by simp)
 have HOK := Lib.hid h.ok
 have HK72 := Lib.hid k72
 have HTK := Lib.hid htk
 clear h hq hr hmr hsg hoth him hany hfa hr2 hlen hsl k72 ha hl0 hl1 hlol htk hsc hkl
 go_enter Tryz.func31, Tryz.ntmps31
 go_wp2_with fail
 refine HR2.out.mono ?_
 rintro e w1 ⟨hman, hb1⟩
 obtain ⟨ma, mn, mc, rfl⟩ := HANY.out _ _ hman
 clear hman HR2
 have hN := Blk.new w1 82 zeroN.toArray
 have hst := run_sstN (manC NM XX) hN rfl (manC_len hxd _) (manC_one _ _)
 have hN2 := hN.setRow_m (manC NM XX).toArray
 have hb2 := hb1.trans ((below_setRow_m ((Below.refl _ w1).alloc (Nat.le_refl _) (.cells zeroN.toArray 82)) (Nat.le_refl _) (manC NM XX).toArray).mono hb1.size)
 have hfa := HFA.out _ _ _ hN2 hb2
 clear hN hN2 hb1 hb2 HFA hxd hq2
 rw [← zeroN_eq] at hst hfa
 have HST := Lib.hid hfa
 clear hfa
 go_upto_region 2 with fail
 have hfa := HST.out
 clear HST hst
 generalize World.setRow _ _ _ = W2 at hfa ⊢
 obtain ⟨mb, hmb⟩ : ∃ mb, w1.heap.size = mb := ⟨_, rfl⟩
 rw [hmb] at hfa ⊢
 clear hmb
 have HS : ∀ W, (∃ FA, FaAt w W B b c m l0 l1 K kc F fc S0 c0 S1 c1 #[.int .i64 qk, .int .i64 qn, .slice SB sl sc] (manC NM XX).toArray FA mb) → (W.cell? ⟨w.heap.size, 2, none⟩ = some (.slice SB sl sc) ∧ W.cell? ⟨b, 1, none⟩ = some (.slice K c.key.length kc) ∧ W.cell? ⟨b, 0, none⟩ = some (.string c.nm) ∧ W.cell? ⟨b, 79, none⟩ = some (.int .i64 m.cm.s) ∧ W.cell? ⟨mb, 0, none⟩ = some (.string NM) ∧ (sldM (.pointer (some ⟨b, 7, none⟩))).run Tryz.prog W = .ok (.agg m.cells.toArray) W) := fun W ⟨_, hW⟩ =>
  ⟨hW.q.cell 2, hW.md.cellC 1 (by omega), hW.md.cellC 0 (by omega), by have q := hW.md.cellM 72 (by omega); rw [HK72.out] at q; exact q, hW.mn.cell 0, run_sldM (Mt.cells_len HOK.out) hW.md.range⟩
 have hs0 := HS _ ⟨_, hfa.later ((Below.refl _ W2).drew)⟩
 have HSS := Lib.hid HS
 have HST := Lib.hid hfa
 clear hfa HS
 have hbf := fun (x : Bool) => run_sbFc x SG (sha TK) (sha_len TK)
 by_cases hE : EE = 0
 ·
  subst hE
  refine wp_region_held_drew (S := (fun W => (W.cell? ⟨w.heap.size, 2, none⟩ = some (.slice SB sl sc) ∧ W.cell? ⟨b, 1, none⟩ = some (.slice K c.key.length kc) ∧ W.cell? ⟨b, 0, none⟩ = some (.string c.nm) ∧ W.cell? ⟨b, 79, none⟩ = some (.int .i64 m.cm.s) ∧ W.cell? ⟨mb, 0, none⟩ = some (.string NM) ∧ (sldM (.pointer (some ⟨b, 7, none⟩))).run Tryz.prog W = .ok (.agg m.cells.toArray) W))) (by kernel_rfl) ?_ (fun hHeld => ?_)
  ·
   exact hs0
  generalize hwd : W2.drew = Wd at hs0 hHeld ⊢
  have hst := HST.out.later ((Below.refl _ W2).drew)
  rw [hwd] at hst
  clear HST hwd
  have HST := Lib.hid hst
  clear hst
  refine tk 0 (h := ?_)
  refine tk 1 (h := ?_)
  refine tk 2 (h := ?_)
  refine tk 3 (h := ?_)
  refine tk 4 (h := ?_)
  refine tk 5 (h := ?_)
  refine tk 6 (h := ?_)
  refine tk 7 (h := ?_)
  refine tk 8 (h := ?_)
  refine tk 9 (h := ?_)
  refine tk 10 (h := ?_)
  refine tk 11 (h := ?_)
  refine tk 12 (h := ?_)
  refine tk 13 (h := ?_)
  refine tk 14 (h := ?_)
  refine tk 15 (h := ?_)
  refine tk 16 (h := ?_)
  refine tk 17 (h := ?_)
  refine tk 18 (h := ?_)
  refine tk 20 (h := ?_)
  refine tk 21 (h := ?_)
  refine tk 22 (h := ?_)
  refine tk 23 (h := ?_)
  refine tk 24 (h := ?_)
  refine tk 26 (h := ?_)
  refine tk 27 (h := ?_)
  refine tk 28 (h := ?_)
  refine tk 29 (h := ?_)
  refine tk 30 (h := ?_)
  refine tk 31 (h := ?_)
  refine rd 19 (h := fun K hK => ?_)
  go_simp
  refine (HSG.out _ (Reads.of_own HST.out.md.key) (HR.out.below HST.out.bel)).mono ?_
  rintro e w5 ⟨rfl, hb5⟩
  have hst := HST.out.later hb5
  clear HST
  have HST := Lib.hid hst
  clear hst hb5
  go_wp2_with fail
  refine so hK (by (try dsimp only); (first | exact HSS.out _ ⟨_, HST.out⟩ | exact HSS.out _ ⟨_, hst2⟩)) (h := fun hHeld => ?_)
  clear hK K
  refine rd 25 (h := fun K hK => ?_)
  go_simp
  refine (HOT.out _).mono ?_
  rintro e w6 ⟨rfl, hb6⟩
  have hst := HST.out.later hb6
  clear HST
  have HST := Lib.hid hst
  clear hst hb6
  go_wp2_with fail
  refine so hK (by (try dsimp only); (first | exact HSS.out _ ⟨_, HST.out⟩ | exact HSS.out _ ⟨_, hst2⟩)) (h := fun hHeld => ?_)
  clear hK K
  refine rd 32 (h := fun K hK => ?_)
  go_simp
  refine (HIM.out _ HST.out.md).mono ?_
  rintro e w7 hmb
  obtain ⟨A7, c7, rfl, ho7, hb7⟩ := hmb
  have HRD := Lib.hid (Reads.of_own ho7)
  have hst := HST.out.later hb7
  clear HST
  have HST := Lib.hid hst
  clear hst hb7 ho7
  go_wp2_with fail
  refine so hK (by (try dsimp only); (first | exact HSS.out _ ⟨_, HST.out⟩ | exact HSS.out _ ⟨_, hst2⟩)) (h := fun hHeld => ?_)
  clear hK K
  refine rd 33 (h := fun K hK => ?_)
  go_simp
  refine (sum_c _ A7 c7 TK HRD.out (by have := HTK.out; omega)).mono ?_
  rintro e w8 ⟨rfl, hb8⟩
  have hst := HST.out.later hb8
  clear HST
  have HST := Lib.hid hst
  clear hst hb8
  go_wp2_with fail
  refine so hK (by (try dsimp only); (first | exact HSS.out _ ⟨_, HST.out⟩ | exact HSS.out _ ⟨_, hst2⟩)) (h := fun hHeld => ?_)
  clear hK K
  refine tk 34 (h := ?_)
  have hfl : (⟨NM.toList == c.nm.toList, SG, sha TK, false⟩ : Fc).cells.length = 35 := Fc.cells_len (f := ⟨NM.toList == c.nm.toList, SG, sha TK, false⟩) (sha_len TK)
  have hsf := run_sstFm (Fc.cells ⟨NM.toList == c.nm.toList, SG, sha TK, false⟩) HST.out.f (by rw [hfl]; rfl) hfl (Fc.one _)
  have hfin := HST.out.f.setRow_m (Fc.cells ⟨NM.toList == c.nm.toList, SG, sha TK, false⟩).toArray
  have hbel := below_setRow_m HST.out.bel (Nat.le_succ _) (Fc.cells ⟨NM.toList == c.nm.toList, SG, sha TK, false⟩).toArray
  have HFIN := Lib.hid hfin
  have HBEL := Lib.hid hbel
  have hst2 := HST.out.setF (Fc.cells ⟨NM.toList == c.nm.toList, SG, sha TK, false⟩).toArray
  clear hfin hbel
  refine rd 35 (h := fun K hK => ?_)
  go_simp
  refine so hK (by (try dsimp only); (first | exact HSS.out _ ⟨_, HST.out⟩ | exact HSS.out _ ⟨_, hst2⟩)) (h := fun hHeld => ?_)
  clear hK K
  refine wpAnyH_done (by kernel_rfl) ?_ _
  try simp only [Act.put, List.getElem_toArray, List.getElem_cons_succ, List.getElem_cons_zero, List.setIfInBounds_toArray, List.set_cons_zero, List.set_cons_succ]
  go_wp2_with fail
  refine bodyPost_ret (results_cell_row rfl _ _ (w.heap.size + 1) 78 (Fc.cells ⟨NM.toList == c.nm.toList, SG, sha TK, false⟩).toArray (0, 0) _ rfl HFIN.out Tryz.underlying78 rfl (by rw [List.size_toArray, hfl]; exact info_sFm)) rfl ?_
  exact ⟨by first | rfl | (rw [decide_eq_true rfl, Bool.true_and]) | (rw [decide_eq_false hE, Bool.false_and]), HBEL.out⟩
 ·
  have hEb : (EE == 0) = false := by simpa using hE
  refine wp_region_held_drew (S := (fun W => (W.cell? ⟨w.heap.size, 2, none⟩ = some (.slice SB sl sc) ∧ W.cell? ⟨b, 1, none⟩ = some (.slice K c.key.length kc) ∧ W.cell? ⟨b, 0, none⟩ = some (.string c.nm) ∧ W.cell? ⟨b, 79, none⟩ = some (.int .i64 m.cm.s) ∧ W.cell? ⟨mb, 0, none⟩ = some (.string NM) ∧ (sldM (.pointer (some ⟨b, 7, none⟩))).run Tryz.prog W = .ok (.agg m.cells.toArray) W))) (by kernel_rfl) ?_ (fun hHeld => ?_)
  ·
   exact hs0
  generalize hwd : W2.drew = Wd at hs0 hHeld ⊢
  have hst := HST.out.later ((Below.refl _ W2).drew)
  rw [hwd] at hst
  clear HST hwd
  have HST := Lib.hid hst
  clear hst
  refine tk 0 (h := ?_)
  refine tk 1 (h := ?_)
  refine tk 2 (h := ?_)
  refine sk 3 (h := ?_)
  refine sk 4 (h := ?_)
  refine sk 5 (h := ?_)
  refine sk 6 (h := ?_)
  refine sk 7 (h := ?_)
  refine sk 8 (h := ?_)
  refine sk 9 (h := ?_)
  refine sk 10 (h := ?_)
  refine tk 11 (h := ?_)
  refine tk 12 (h := ?_)
  refine tk 13 (h := ?_)
  refine tk 14 (h := ?_)
  refine tk 15 (h := ?_)
  refine tk 16 (h := ?_)
  refine tk 17 (h := ?_)
  refine tk 18 (h := ?_)
  refine tk 20 (h := ?_)
  refine tk 21 (h := ?_)
  refine tk 22 (h := ?_)
  refine tk 23 (h := ?_)
  refine tk 24 (h := ?_)
  refine tk 26 (h := ?_)
  refine tk 27 (h := ?_)
  refine tk 28 (h := ?_)
  refine tk 29 (h := ?_)
  refine tk 30 (h := ?_)
  refine tk 31 (h := ?_)
  refine rd 19 (h := fun K hK => ?_)
  go_simp
  refine (HSG.out _ (Reads.of_own HST.out.md.key) (HR.out.below HST.out.bel)).mono ?_
  rintro e w5 ⟨rfl, hb5⟩
  have hst := HST.out.later hb5
  clear HST
  have HST := Lib.hid hst
  clear hst hb5
  go_wp2_with fail
  refine so hK (by (try dsimp only); (first | exact HSS.out _ ⟨_, HST.out⟩ | exact HSS.out _ ⟨_, hst2⟩)) (h := fun hHeld => ?_)
  clear hK K
  refine rd 25 (h := fun K hK => ?_)
  go_simp
  refine (HOT.out _).mono ?_
  rintro e w6 ⟨rfl, hb6⟩
  have hst := HST.out.later hb6
  clear HST
  have HST := Lib.hid hst
  clear hst hb6
  go_wp2_with fail
  refine so hK (by (try dsimp only); (first | exact HSS.out _ ⟨_, HST.out⟩ | exact HSS.out _ ⟨_, hst2⟩)) (h := fun hHeld => ?_)
  clear hK K
  refine rd 32 (h := fun K hK => ?_)
  go_simp
  refine (HIM.out _ HST.out.md).mono ?_
  rintro e w7 hmb
  obtain ⟨A7, c7, rfl, ho7, hb7⟩ := hmb
  have HRD := Lib.hid (Reads.of_own ho7)
  have hst := HST.out.later hb7
  clear HST
  have HST := Lib.hid hst
  clear hst hb7 ho7
  go_wp2_with fail
  refine so hK (by (try dsimp only); (first | exact HSS.out _ ⟨_, HST.out⟩ | exact HSS.out _ ⟨_, hst2⟩)) (h := fun hHeld => ?_)
  clear hK K
  refine rd 33 (h := fun K hK => ?_)
  go_simp
  refine (sum_c _ A7 c7 TK HRD.out (by have := HTK.out; omega)).mono ?_
  rintro e w8 ⟨rfl, hb8⟩
  have hst := HST.out.later hb8
  clear HST
  have HST := Lib.hid hst
  clear hst hb8
  go_wp2_with fail
  refine so hK (by (try dsimp only); (first | exact HSS.out _ ⟨_, HST.out⟩ | exact HSS.out _ ⟨_, hst2⟩)) (h := fun hHeld => ?_)
  clear hK K
  refine tk 34 (h := ?_)
  have hfl : (⟨false, SG, sha TK, false⟩ : Fc).cells.length = 35 := Fc.cells_len (f := ⟨false, SG, sha TK, false⟩) (sha_len TK)
  have hsf := run_sstFm (Fc.cells ⟨false, SG, sha TK, false⟩) HST.out.f (by rw [hfl]; rfl) hfl (Fc.one _)
  have hfin := HST.out.f.setRow_m (Fc.cells ⟨false, SG, sha TK, false⟩).toArray
  have hbel := below_setRow_m HST.out.bel (Nat.le_succ _) (Fc.cells ⟨false, SG, sha TK, false⟩).toArray
  have HFIN := Lib.hid hfin
  have HBEL := Lib.hid hbel
  have hst2 := HST.out.setF (Fc.cells ⟨false, SG, sha TK, false⟩).toArray
  clear hfin hbel
  refine rd 35 (h := fun K hK => ?_)
  go_simp
  refine so hK (by (try dsimp only); (first | exact HSS.out _ ⟨_, HST.out⟩ | exact HSS.out _ ⟨_, hst2⟩)) (h := fun hHeld => ?_)
  clear hK K
  refine wpAnyH_done (by kernel_rfl) ?_ _
  try simp only [Act.put, List.getElem_toArray, List.getElem_cons_succ, List.getElem_cons_zero, List.setIfInBounds_toArray, List.set_cons_zero, List.set_cons_succ]
  go_wp2_with fail
  refine bodyPost_ret (results_cell_row rfl _ _ (w.heap.size + 1) 78 (Fc.cells ⟨false, SG, sha TK, false⟩).toArray (0, 0) _ rfl HFIN.out Tryz.underlying78 rfl (by rw [List.size_toArray, hfl]; exact info_sFm)) rfl ?_
  exact ⟨by first | rfl | (rw [decide_eq_true rfl, Bool.true_and]) | (rw [decide_eq_false hE, Bool.false_and]), HBEL.out⟩

end Go.Proofs.YtpafenlcgcenlaaGreatDoor
namespace Go.Proofs.YtpafenlcgcenlaaGreatDoor
open Go Go.RowKit
set_option linter.unusedVariables false
set_option linter.unusedSimpArgs false
theorem doA_split {m : Mt} (hr : m.right = true) (f : Fc) (k n : Int) (l : List UInt8) (qu : Int) (he : (doA m f k n l qu).e = 0) : doA m f k n l qu = doesD m f k n (l.length : Int) (beginD m f l qu) ∧ (doesD m f k n (l.length : Int) (beginD m f l qu)).e = 0 := by
 obtain ⟨a1, a2⟩ := doA_right hr f k n l qu
 by_cases h : (doesD m f k n (l.length : Int) (beginD m f l qu)).e = 0
 ·
  exact ⟨a1 h, h⟩
 ·
  exact absurd he (a2 h).2
/-- What a write that is allowed says. -/
theorem wr_facts {m : Mt} (hr : m.right = true) (f : Fc) (n : Int) (l : List UInt8) (qu : Int) (he : (doA m f 2 n l qu).e = 0) : m.ph = 1 ∧ n = m.got ∧ 0 ≤ m.got ∧ m.got < chunksZ m.cm.s ∧ (l.length : Int) = lenZ m.cm.s m.got ∧ f.wn = false ∧ doA m f 2 n l qu = ⟨{ m with got := m.got + 1 }, 0, 0, 0⟩ := by
 obtain ⟨q, h⟩ := doA_split hr f 2 n l qu he
 have hd : doesD m f 2 n (l.length : Int) (beginD m f l qu) = oneD { m with got := m.got + 1 } [wh (m.ph != 1) 11, wh (n != m.got || decide (chunksZ m.cm.s ≤ m.got)) 12, wh ((l.length : Int) != lenZ m.cm.s m.got) 6, wh f.wn 5] := by
  unfold doesD
  rw [if_neg (by decide), if_pos rfl]
 rw [hd] at h q
 obtain ⟨e0, hz⟩ := oneD_zero h
 have z1 := wh_zero (hz (wh (m.ph != 1) 11) (by simp)) (by decide)
 have z2 := wh_zero (hz (wh (n != m.got || decide (chunksZ m.cm.s ≤ m.got)) 12) (by simp)) (by decide)
 have z3 := wh_zero (hz (wh ((l.length : Int) != lenZ m.cm.s m.got) 6) (by simp)) (by decide)
 have z4 := wh_zero (hz (wh f.wn 5) (by simp)) (by decide)
 simp only [bne_eq_false_iff_eq, Bool.or_eq_false_iff, decide_eq_false_iff_not, Int.not_le] at z1 z2 z3
 have hg := ((right_iff m).1 hr).got
 exact ⟨z1, z2.1, hg.1, z2.2, z3, z4, q.trans e0⟩
/-- An image that comes has no more chunks than the quota. -/
def QuotaP (m : Mt) (qu : Int) : Prop := m.ph = 1 → chunksZ m.cm.s ≤ qu
theorem quota_keeps {m : Mt} (hr : m.right = true) (f : Fc) (k n : Int) (l : List UInt8) (qu : Int) (h : QuotaP m qu) : QuotaP (doA m f k n l qu).m qu := by
 obtain ⟨a1, a2⟩ := doA_right hr f k n l qu
 by_cases he : (doesD m f k n (l.length : Int) (beginD m f l qu)).e = 0
 ·
  rw [a1 he]
  intro hp
  unfold doesD at he hp ⊢
  by_cases h1 : k = 1
  ·
   rw [if_pos h1] at he hp ⊢
   unfold beginD at he hp ⊢
   obtain ⟨e0, hz⟩ := oneD_zero he
   have z6 := wh_zero (hz (wh (decide (min qu 6 < chunksZ (mX l).s)) 10) (by simp)) (by decide)
   rw [decide_eq_false_iff_not] at z6
   rw [e0]
   show chunksZ (mX l).s ≤ qu
   omega
  rw [if_neg h1] at he hp ⊢
  by_cases h2 : k = 2
  ·
   rw [if_pos h2] at he hp ⊢
   obtain ⟨e0, hz⟩ := oneD_zero he
   rw [e0] at hp ⊢
   exact h hp
  rw [if_neg h2] at he hp ⊢
  by_cases h3 : k = 3
  ·
   rw [if_pos h3] at he hp
   obtain ⟨e0, hz⟩ := oneD_zero he
   rw [e0] at hp
   exact absurd (show (2 : Int) = 1 from hp) (by decide)
  rw [if_neg h3] at he hp ⊢
  by_cases h4 : k = 4
  ·
   rw [if_pos h4] at he hp
   obtain ⟨e0, hz⟩ := oneD_zero he
   rw [e0] at hp
   have h3 : m.commitT.ph = 3 := by unfold Mt.commitT; split <;> rfl
   have hp' : m.commitT.ph = 1 := hp
   omega
  rw [if_neg h4] at he hp ⊢
  by_cases h5 : k = 5
  ·
   rw [if_pos h5] at he hp ⊢
   unfold Mt.bootD at he hp ⊢
   by_cases hb : m.ph = 3 ∧ f.wn = false
   ·
    rw [if_pos hb] at hp
    by_cases ht : m.tr = 0
    ·
     rw [if_pos ht] at hp
     have : m.idle.alone.ph = 0 := (alone_have (m := m.idle) ((right_iff m).1 hr).idle.act).2.2.2.2.2.1
     have hp' : m.idle.alone.ph = 1 := hp
     omega
    ·
     rw [if_neg ht] at hp
     have hp' : m.ph = 1 := hp
     omega
   ·
    rw [if_neg hb] at hp ⊢
    exact h hp
  rw [if_neg h5] at he hp ⊢
  by_cases h6 : k = 6
  ·
   rw [if_pos h6] at he hp
   obtain ⟨e0, hz⟩ := oneD_zero he
   rw [e0] at hp
   exact absurd (show (0 : Int) = 1 from hp) (by decide)
  rw [if_neg h6] at he hp ⊢
  by_cases h7 : k = 7
  ·
   rw [if_pos h7] at he hp
   obtain ⟨e0, hz⟩ := oneD_zero he
   rw [e0] at hp
   have : m.idle.alone.ph = 0 := (alone_have (m := m.idle) ((right_iff m).1 hr).idle.act).2.2.2.2.2.1
   have hp' : m.idle.alone.ph = 1 := hp
   omega
  rw [if_neg h7] at he hp ⊢
  by_cases h8 : k = 8
  ·
   rw [if_pos h8] at he hp
   obtain ⟨e0, hz⟩ := oneD_zero he
   rw [e0] at hp
   exact absurd (show (0 : Int) = 1 from hp) (by decide)
  rw [if_neg h8] at he hp ⊢
  by_cases h9 : k = 9
  ·
   rw [if_pos h9] at hp ⊢
   exact h hp
  rw [if_neg h9] at he
  cases he
 ·
  rw [(a2 he).1]
  exact h
/-- A slot behind a write. -/
def wrB (lo : List UInt8) (n : Int) (l : List UInt8) : List UInt8 := lo.take (n * 320).toNat ++ (l ++ lo.drop ((n * 320).toNat + l.length))
def slotA (e k n : Int) (l lo : List UInt8) : List UInt8 := if e = 0 ∧ k = 2 then wrB lo n l else lo
/-- A write that is allowed lies within its slot. -/
theorem wr_fits {m : Mt} {qu sz : Int} {l : List UInt8} (hq : chunksZ m.cm.s ≤ qu) (hs : qu ≤ sz) (hg : 0 ≤ m.got) (hlt : m.got < chunksZ m.cm.s) (hl : (l.length : Int) = lenZ m.cm.s m.got) : m.got * 320 + (l.length : Int) ≤ sz * 320 ∧ 0 < l.length := by
 have h : lenZ m.cm.s m.got = min 320 (m.cm.s - m.got * 320) := by unfold lenZ; rw [if_neg (by omega)]
 have hc : 0 < m.cm.s - m.got * 320 := by
  unfold chunksZ at hlt
  split at hlt <;> omega
 omega
theorem wrB_len {lo l : List UInt8} {n : Int} (h : (n * 320).toNat + l.length ≤ lo.length) : (wrB lo n l).length = lo.length := by
 unfold wrB
 rw [List.length_append, List.length_append, List.length_take, List.length_drop]
 omega
theorem run_sstMo {W : World} {g o : Nat} {t : TypeId} {cs : Array Value} (B : Blk W g t cs) (ho : o + 107 ≤ cs.size) (m : Mt) (h : m.Ok) :
  (sstM (.pointer (some ⟨g, o, none⟩)) (.agg m.cells.toArray)).run Tryz.prog W = .ok () (W.setCells g o m.cells) := by
 have hl := Mt.cells_len h
 refine run_storeAt_mid (P := Tryz.prog) W g o 44 m.cells.toArray ?_ (by rw [List.size_toArray, hl]; kernel_rfl) (by simpa using Mt.one m)
 intro j hj
 rw [List.size_toArray, hl] at hj
 refine ⟨?_, B.frozen _⟩
 rw [B.cell, Array.getElem?_eq_getElem (by omega)]
 rfl
section
variable {w w' : World} {B b : Nat} {c : Cf} {m : Mt} {l0 l1 : List UInt8} {K F S0 S1 : Option Addr} {kc fc c0 c1 : Nat}
theorem mdC_putM {cf : List Value} (hc : cf.length = 7) {m m' : Mt} (h : m.Ok) (h' : m'.Ok) (s0 s1 : Value) : (mdC cf m s0 s1).take 7 ++ (m'.cells ++ (mdC cf m s0 s1).drop (7 + m'.cells.length)) = mdC cf m' s0 s1 := by
 have hm := Mt.cells_len h
 have hm' := Mt.cells_len h'
 unfold mdC
 rw [List.take_append_of_le_length (by omega), List.take_of_length_le (by omega), List.drop_append, hc, List.drop_of_length_le (l := cf) (by omega), hm', show 7 + 107 - 7 = 107 from rfl, List.drop_append, hm, List.drop_of_length_le (l := m.cells) (by omega)]
 rfl
theorem MdAt.putM (h : MdAt w B b c m l0 l1 K kc F fc S0 c0 S1 c1) (m' : Mt) (h' : m'.Ok) : MdAt (w.setCells b 7 m'.cells) B b c m' l0 l1 K kc F fc S0 c0 S1 c1 := by
 have ho : Only [b] w (w.setCells b 7 m'.cells) := only_setCells _ _ _ (Only.refl _ _)
 have hb := Blk.setCells m'.cells 7 w _ h.blk (by rw [mdC_len (c.cells_len K kc F fc) h.ok, Mt.cells_len h']; omega)
 rw [mdC_putM (c.cells_len K kc F fc) h.ok h'] at hb
 have hn : ∀ {n cc : Nat} {A : Option Addr} {xs : List Value}, w.ownsRow B 5 1 (.slice A n cc) n xs → (w.setCells b 7 m'.cells).ownsRow B 5 1 (.slice A n cc) n xs := fun hw => own_only hw ho (fun k hk => by
  simp only [List.mem_cons, List.not_mem_nil, or_false]
  rintro rfl
  exact own_blk_ne hw h.blk (by decide) hk)
 exact ⟨hb, h', hn h.key, hn h.s0, hn h.s1, h.ge, h.ap0, h.ap1⟩
end
theorem Only.cellsM {S : List Nat} {w : World} {g : Nat} (hp : g ∈ S ∨ w.heap.size ≤ g) : ∀ (l : List Value) (o : Nat) {w' : World} (_ : Only S w w'), Only S w (w'.setCells g o l)
 | [], _, _, h => h
 | u :: l, o, _, h => Only.cellsM hp l (o + 1) (h.setCell hp u)
section
variable {w w' : World} {B b : Nat} {c : Cf} {m : Mt} {l0 l1 l2 : List UInt8} {K F S0 S1 : Option Addr} {kc fc c0 c1 g : Nat}
theorem own_spliceM {base n cap off : Nat} {l f : List UInt8} {cur : Array Value} (h : w.ownsRow base 5 1 (.slice (some ⟨g, 0, none⟩) n cap) n (l.map u8v)) (hc : Blk w g 5 cur) (hf : off * 320 + f.length ≤ n) (hg : w'.heap[g]? = some (.cells (splice cur.toList (off * 320) (f.map u8v)).toArray 5 (0, 0))) : w'.ownsRow base 5 1 (.slice (some ⟨g, 0, none⟩) n cap) n ((wrB l (off : Int) f).map u8v) := by
 have q := own_splice (cur := cur.toList) h (by rw [Array.toArray_toList]; exact hc) hf hg
 unfold wrB
 rw [show ((off : Int) * 320).toNat = off * 320 from by omega, ← List.append_assoc]
 exact q
theorem MdAt.copy0 {cur : Array Value} (h : MdAt w B b c m l0 l1 K kc F fc (some ⟨g, 0, none⟩) c0 S1 c1) (hb : Blk w g 5 cur) (hS : (some ⟨g, 0, none⟩ : Option Addr) = some ⟨g, 0, none⟩) (ho : Only [g] w w') (hge : B ≤ g) (hl : l2.length = l0.length) (hown : w'.ownsRow B 5 1 (.slice (some ⟨g, 0, none⟩) l0.length c0) l0.length (l2.map u8v)) : MdAt w' B b c m l2 l1 K kc F fc (some ⟨g, 0, none⟩) c0 S1 c1 := by
 have hk : (Value.slice (some ⟨g, 0, none⟩) l0.length c0).ownBlock = some g := rfl
 have n2 := Blk.ne_ h.blk hb (by decide)
 have a0 := h.ap0 g hk
 refine ⟨by rw [hl]; exact h.blk.only ho (by simpa using n2), h.ok, own_only h.key ho ?_, by rw [hl]; exact hown, own_only h.s1 ho ?_, h.ge, ?_, h.ap1⟩
 ·
  intro k hk2; simp only [List.mem_cons, List.not_mem_nil, or_false]; rintro rfl; exact a0.1 hk2
 ·
  intro k hk2; simp only [List.mem_cons, List.not_mem_nil, or_false]; rintro rfl; exact a0.2 hk2
 ·
  intro k hk2; exact h.ap0 k hk2
theorem MdAt.copy1 {cur : Array Value} (h : MdAt w B b c m l0 l1 K kc F fc S0 c0 (some ⟨g, 0, none⟩) c1) (hb : Blk w g 5 cur) (hS : (some ⟨g, 0, none⟩ : Option Addr) = some ⟨g, 0, none⟩) (ho : Only [g] w w') (hge : B ≤ g) (hl : l2.length = l1.length) (hown : w'.ownsRow B 5 1 (.slice (some ⟨g, 0, none⟩) l1.length c1) l1.length (l2.map u8v)) : MdAt w' B b c m l0 l2 K kc F fc S0 c0 (some ⟨g, 0, none⟩) c1 := by
 have hk : (Value.slice (some ⟨g, 0, none⟩) l1.length c1).ownBlock = some g := rfl
 have n2 := Blk.ne_ h.blk hb (by decide)
 have a1 := h.ap1 g hk
 refine ⟨by rw [hl]; exact h.blk.only ho (by simpa using n2), h.ok, own_only h.key ho ?_, own_only h.s0 ho ?_, by rw [hl]; exact hown, h.ge, ?_, ?_⟩
 ·
  intro k hk2; simp only [List.mem_cons, List.not_mem_nil, or_false]; rintro rfl; exact a1 hk2
 ·
  intro k hk2; simp only [List.mem_cons, List.not_mem_nil, or_false]; rintro rfl; exact (h.ap0 _ hk2).2 hk
 ·
  intro k hk2; exact h.ap0 k hk2
 ·
  intro k hk2; exact h.ap1 k hk2
end
end Go.Proofs.YtpafenlcgcenlaaGreatDoor
namespace Go.Proofs.YtpafenlcgcenlaaGreatDoor
open Go Go.RowKit
set_option linter.unusedVariables false
set_option linter.unusedSimpArgs false
/-- The frame of Do. -/
structure DoAt (w0 W : World) (B b : Nat) (c : Cf) (m : Mt) (l0 l1 : List UInt8) (K : Option Addr) (kc : Nat) (F : Option Addr) (fc : Nat) (S0 : Option Addr) (c0 : Nat) (S1 : Option Addr) (c1 : Nat) (QA : Array Value) : Prop where
 md : MdAt W B b c m l0 l1 K kc F fc S0 c0 S1 c1
 q : Blk W w0.heap.size 34 QA
 r : Blk W (w0.heap.size + 1) 37 #[.int .i64 0, .int .i64 0, .int .i64 0]
 bel : Below w0.heap.size w0 W
section
variable {w0 W W' : World} {B b : Nat} {c : Cf} {m : Mt} {l0 l1 : List UInt8} {K : Option Addr} {kc : Nat} {F : Option Addr} {fc : Nat} {S0 : Option Addr} {c0 : Nat} {S1 : Option Addr} {c1 : Nat} {QA : Array Value}
theorem DoAt.later (h : DoAt w0 W B b c m l0 l1 K kc F fc S0 c0 S1 c1 QA) (hb : Below W.heap.size W W') : DoAt w0 W' B b c m l0 l1 K kc F fc S0 c0 S1 c1 QA :=
 ⟨h.md.below hb, h.q.below hb h.q.lt, h.r.below hb h.r.lt, h.bel.trans (hb.mono h.bel.size)⟩
theorem DoAt.alloc (h : DoAt w0 W B b c m l0 l1 K kc F fc S0 c0 S1 c1 QA) (ob : Obj) : DoAt w0 (W.alloc ob) B b c m l0 l1 K kc F fc S0 c0 S1 c1 QA := h.later ((Below.refl _ _).alloc (Nat.le_refl _) _)
theorem DoAt.setRow (h : DoAt w0 W B b c m l0 l1 K kc F fc S0 c0 S1 c1 QA) {g : Nat} (cs : Array Value) (hg : w0.heap.size + 1 < g) (hb : g ≠ b) (hk : ∀ k, (Value.slice K c.key.length kc).ownBlock = some k → k ≠ g) (h0 : ∀ k, (Value.slice S0 l0.length c0).ownBlock = some k → k ≠ g) (h1 : ∀ k, (Value.slice S1 l1.length c1).ownBlock = some k → k ≠ g) : DoAt w0 (W.setRow g cs) B b c m l0 l1 K kc F fc S0 c0 S1 c1 QA := by
 have ho : Only [g] W (W.setRow g cs) := ⟨rfl, rfl, rfl, by simp [World.setRow], fun k _ hn => setRow_other W g k _ (by simpa using hn)⟩
 refine ⟨⟨h.md.blk.setRow_mf _ (Ne.symm hb), h.md.ok, own_only h.md.key ho ?_, own_only h.md.s0 ho ?_, own_only h.md.s1 ho ?_, h.md.ge, h.md.ap0, h.md.ap1⟩, h.q.setRow_mf _ (by omega), h.r.setRow_mf _ (by omega), below_setRow_m h.bel (by omega) _⟩
 ·
  intro k e; simpa using hk k e
 ·
  intro k e; simpa using h0 k e
 ·
  intro k e; simpa using h1 k e
/-- A block that is no row of bytes is none of a Model's rows. -/
theorem MdAt.rows_ne (h : MdAt W B b c m l0 l1 K kc F fc S0 c0 S1 c1) {g : Nat} {t : TypeId} {cs : Array Value} (hg : Blk W g t cs) (ht : t ≠ 5) : (∀ k, (Value.slice K c.key.length kc).ownBlock = some k → k ≠ g) ∧ (∀ k, (Value.slice S0 l0.length c0).ownBlock = some k → k ≠ g) ∧ (∀ k, (Value.slice S1 l1.length c1).ownBlock = some k → k ≠ g) :=
 ⟨fun k e e2 => own_blk_ne h.key hg (Ne.symm ht) (e2 ▸ e), fun k e e2 => own_blk_ne h.s0 hg (Ne.symm ht) (e2 ▸ e), fun k e e2 => own_blk_ne h.s1 hg (Ne.symm ht) (e2 ▸ e)⟩
/-- A Meta, or an answer, that is new is stored whole. -/
theorem DoAt.put (h : DoAt w0 W B b c m l0 l1 K kc F fc S0 c0 S1 c1 QA) {g : Nat} {t : TypeId} {old : Array Value} (cs : Array Value) (hB : Blk W g t old) (hg : w0.heap.size + 1 < g) (ht : t ≠ 5) (ht2 : t ≠ 71) : DoAt w0 (W.setRow g cs) B b c m l0 l1 K kc F fc S0 c0 S1 c1 QA := by
 obtain ⟨a, b2, d⟩ := h.md.rows_ne hB ht
 exact h.setRow cs hg (Blk.ne_ hB h.md.blk ht2) a b2 d
end
theorem Blk.newAtM {B : Nat} {w0 W : World} (hb : Below B w0 W) (t : TypeId) (cs : Array Value) : Blk (W.alloc (.cells cs t)) W.heap.size t cs := Blk.new W t cs
attribute [local go_sem ↓] sldM_seal sstM_seal sldQ_seal sldR_seal sstR_seal
set_option maxRecDepth 100000 in
set_option maxHeartbeats 16000000 in
theorem mdo_yes (w : World) (B b : Nat) (c : Cf) (m : Mt) (l0 l1 : List UInt8) (K : Option Addr) (kc : Nat) (F : Option Addr) (fc : Nat) (S0 : Option Addr) (c0 : Nat) (S1 : Option Addr) (c1 : Nat) (h : MdAt w B b c m l0 l1 K kc F fc S0 c0 S1 c1) (r : Nat) (hr : c.rights = (r : Int)) (hr2 : r ≤ 1023) (S : List Nat) (hSb : b ∈ S) (hS0 : ∀ k, (Value.slice S0 l0.length c0).ownBlock = some k → k ∈ S) (hS1 : ∀ k, (Value.slice S1 l1.length c1).ownBlock = some k → k ∈ S)
  (hri : m.right = true) (hqp : QuotaP m c.quota) (hqs : c.quota ≤ c.slot) (hsl6 : 1 ≤ c.slot ∧ c.slot ≤ 6) (hl0 : (l0.length : Int) = c.slot * 320) (hl1 : (l1.length : Int) = c.slot * 320) (hkl : c.key.length ≤ 100000)
  (qk qn : Int) (SB : Option Addr) (sl sc : Nat) (l : List UInt8) (hrd : Reads w SB sl (l.map u8v)) (hsl : sl ≤ 1000) (hsc : sl ≤ sc ∧ sc ≤ maxLen) (hyes : mayK r qk = true) (dm : Mt) (de dn dg : Int) (hD : doA m (factD c m (if m.act = 0 then l1 else l0) l) qk qn l c.quota = ⟨dm, de, dn, dg⟩) :
  Calls Tryz.prog 10 #[.pointer (some ⟨b, 0, none⟩), .agg #[.int .i64 qk, .int .i64 qn, .slice SB sl sc]] w fun e w' => e = .returned (.agg #[.int .i64 de, .int .i64 dn, .int .i64 dg]) ∧ MdAt w' B b c dm (if m.act = 0 then l0 else slotA de qk qn l l0) (if m.act = 0 then slotA de qk qn l l1 else l1) K kc F fc S0 c0 S1 c1 ∧ Only S w w' := by
 have hlen : l.length = sl := by simpa using hrd.len
 obtain ⟨N0, hN0⟩ : ∃ N0, (if m.act = 0 then l0 else slotA de qk qn l l0) = N0 := ⟨_, rfl⟩
 obtain ⟨N1, hN1⟩ : ∃ N1, (if m.act = 0 then slotA de qk qn l l1 else l1) = N1 := ⟨_, rfl⟩
 rw [hN0, hN1]
 have HN0 := Lib.hid hN0
 have HN1 := Lib.hid hN1
 clear hN0 hN1
 have hact := ((right_iff m).1 hri).act
 have hq := (Blk.new w 34 #[.int .i64 qk, .int .i64 qn, .slice SB sl sc]).alloc (.cells #[.int .i64 0, .int .i64 0, .int .i64 0] 37)
 have hx := (Blk.new (w.alloc (.cells #[.int .i64 qk, .int .i64 qn, .slice SB sl sc] 34)) 37 #[.int .i64 0, .int .i64 0, .int .i64 0])
 rw [show (w.alloc (.cells #[.int .i64 qk, .int .i64 qn, .slice SB sl sc] 34)).heap.size = w.heap.size + 1 from by simp] at hx
 have hb : Below w.heap.size w ((w.alloc (.cells #[.int .i64 qk, .int .i64 qn, .slice SB sl sc] 34)).alloc (.cells #[.int .i64 0, .int .i64 0, .int .i64 0] 37)) := ((Below.refl _ w).alloc (Nat.le_refl _) _).alloc (by simp) _
 have hdoat : DoAt w ((w.alloc (.cells #[.int .i64 qk, .int .i64 qn, .slice SB sl sc] 34)).alloc (.cells #[.int .i64 0, .int .i64 0, .int .i64 0] 37)) B b c m l0 l1 K kc F fc S0 c0 S1 c1 #[.int .i64 qk, .int .i64 qn, .slice SB sl sc] := ⟨h.below hb, hq, hx, hb⟩
 have k5 : ((w.alloc (.cells #[.int .i64 qk, .int .i64 qn, .slice SB sl sc] 34)).alloc (.cells #[.int .i64 0, .int .i64 0, .int .i64 0] 37)).cell? ⟨b, 5, none⟩ = some (.int .i64 (r : Int)) := by
  rw [hdoat.md.cellC 5 (by omega)]
  show some (Value.int .i64 c.rights) = _
  rw [hr]
 have hmay := fun W => cmay_c W r hr2 0 0 qk
 rw [hyes] at hmay
 have hfl : (factD c m (if m.act = 0 then l1 else l0) l).d.length = 32 := factD_len _ _ _ _
 have hfa := fun (W : World) (hW : MdAt W B b c m l0 l1 K kc F fc S0 c0 S1 c1) (hR : Reads W SB sl (l.map u8v)) => mfact_c W B b c m l0 l1 K kc F fc S0 c0 S1 c1 hW hkl hact (by omega) (by omega) qk qn SB sl sc l hR hsl hsc
 obtain ⟨FD, hFD⟩ : ∃ FD, factD c m (if m.act = 0 then l1 else l0) l = FD := ⟨_, rfl⟩
 rw [hFD] at hfa hfl hD
 have hdo : ∀ W, Reads W SB sl (l.map u8v) → Calls Tryz.prog 30 #[.agg m.cells.toArray, .agg #[.int .i64 qk, .int .i64 qn, .slice SB sl sc], .agg FD.cells.toArray, .int .i64 c.quota] W fun e w' => e = .returned (.tuple #[.agg dm.cells.toArray, .agg #[.int .i64 de, .int .i64 dn, .int .i64 dg]]) ∧ Below W.heap.size W w' := fun W hW => by
  have q := doA_c W m h.ok qk qn SB sl sc l hW hsl FD hfl c.quota
  rw [hD] at q
  exact q
 have hDo : dm.Ok := by
  have q := doA_ok h.ok FD qk qn l c.quota
  rw [hD] at q
  exact q
 have hwr : de = 0 → qk = 2 → m.ph = 1 ∧ qn = m.got ∧ 0 ≤ m.got ∧ m.got < chunksZ m.cm.s ∧ (l.length : Int) = lenZ m.cm.s m.got := fun he hk => by
  subst he hk
  obtain ⟨a1, a2, a3, a4, a5, _⟩ := wr_facts hri FD qn l c.quota (by rw [hD])
  exact ⟨a1, a2, a3, a4, a5⟩
 have hfit : de = 0 → qk = 2 → 0 ≤ qn ∧ qn * 320 + (l.length : Int) ≤ c.slot * 320 ∧ 0 < l.length := fun he hk => by
  obtain ⟨a1, a2, a3, a4, a5⟩ := hwr he hk
  have q := wr_fits (hqp a1) hqs a3 a4 a5
  rw [← a2] at q a3
  exact ⟨a3, q⟩
 have hoth := fun W => other_c W m h.ok (by omega)
 have HO := Lib.hid hdoat
 have HK5 := Lib.hid k5
 have HMAY := Lib.hid hmay
 have HFA := Lib.hid hfa
 have HDO := Lib.hid hdo
 have HDOK := Lib.hid hDo
 have HFIT := Lib.hid hfit
 have HACT := Lib.hid hact
 have HOTH := Lib.hid hoth
 have HRD := Lib.hid hrd
 have HSB := Lib.hid hSb
 have HSS0 := Lib.hid hS0
 have HSS1 := Lib.hid hS1
 have HL0 := Lib.hid hl0
 have HL1 := Lib.hid hl1
 have HSL := Lib.hid hsl6
 have HOK := Lib.hid h.ok
 have HLEN := Lib.hid hlen
 clear h hq hx hb hdoat k5 hmay hfa hdo hDo hwr hfit hact hoth hrd hSb hS0 hS1 hl0 hl1 hsl6 hri hqp hqs hkl hsl hsc hyes hD hFD hfl hr hr2 hlen
 go_enter Tryz.func10, Tryz.ntmps10
 go_upto_region 3 with fail
 have hdoat := HO.out
 have k5 := HK5.out
 clear HO HK5
 generalize ((w.alloc (.cells #[.int .i64 qk, .int .i64 qn, .slice SB sl sc] 34)).alloc (.cells #[.int .i64 0, .int .i64 0, .int .i64 0] 37)) = W at hdoat k5 ⊢
 have hs0 : W.cell? ⟨b, 5, none⟩ = some (.int .i64 (r : Int)) ∧ W.cell? ⟨w.heap.size, 0, none⟩ = some (.int .i64 qk) := ⟨k5, hdoat.q.cell 0⟩
 have HO := Lib.hid hdoat
 clear hdoat k5
 refine wp_region_held_drew (S := (fun W => W.cell? ⟨b, 5, none⟩ = some (.int .i64 (r : Int)) ∧ W.cell? ⟨w.heap.size, 0, none⟩ = some (.int .i64 qk))) (by kernel_rfl) ?_ (fun hHeld => ?_)
 ·
  exact hs0
 refine tk 0 (h := ?_)
 refine tk 1 (h := ?_)
 refine tk 2 (h := ?_)
 refine tk 3 (h := ?_)
 refine tk 4 (h := ?_)
 refine tk 5 (h := ?_)
 refine tk 6 (h := ?_)
 refine tk 7 (h := ?_)
 refine rd 8 (h := fun K hK => ?_)
 go_simp
 refine (HMAY.out _).mono ?_
 rintro e w9 ⟨rfl, hb9⟩
 go_wp2_with fail
 refine so hK (by (try dsimp only); (exact ⟨cell_keepM hHeld.1 hb9, cell_keepM hHeld.2 hb9⟩)) (h := fun hHeld => ?_)
 clear hK K
 refine tk 9 (h := ?_)
 refine wpAnyH_done (by kernel_rfl) ?_ _
 try simp only [Act.put, List.getElem_toArray, List.getElem_cons_succ, List.getElem_cons_zero, List.setIfInBounds_toArray, List.set_cons_zero, List.set_cons_succ]
 have hdoat := HO.out.later ((Below.refl _ W).drew.trans hb9)
 clear HO hb9 hHeld hs0
 have HO := Lib.hid hdoat
 clear hdoat
 go_upto_region 5 with fail
 have hqq : ∀ W, DoAt w W B b c m l0 l1 K kc F fc S0 c0 S1 c1 #[.int .i64 qk, .int .i64 qn, .slice SB sl sc] → (sldM (.pointer (some ⟨b, 7, none⟩))).run Tryz.prog W = .ok (.agg m.cells.toArray) W ∧ (sldQ (.pointer (some ⟨w.heap.size, 0, none⟩))).run Tryz.prog W = .ok (.agg #[.int .i64 qk, .int .i64 qn, .slice SB sl sc]) W ∧ W.cell? ⟨b, 4, none⟩ = some (.int .i64 c.quota) := fun W hW => ⟨run_sldM (Mt.cells_len HOK.out) hW.md.range, run_sldQ rfl hW.q.whole, hW.md.cellC 4 (by omega)⟩
 have HS5 := Lib.hid hqq
 clear hqq
 obtain ⟨DA, hDA⟩ : ∃ DA, dm.cells.toArray = DA := ⟨_, rfl⟩
 have hds : DA.size = 107 := by rw [← hDA, List.size_toArray, Mt.cells_len HDOK.out]
 have hstN : ∀ (W : World) (gg : Nat) (old : Array Value), Blk W gg 44 old → old.size = 107 → (sstM (.pointer (some ⟨gg, 0, none⟩)) (.agg DA)).run Tryz.prog W = .ok () (W.setRow gg DA) := fun W gg old hB hs => by rw [← hDA]; exact storeM HDOK.out hB hs
 have HSN := Lib.hid hstN
 have HDA := Lib.hid hDA
 have hdo := HDO.out
 rw [hDA] at hdo
 have HDO2 := Lib.hid hdo
 clear hstN hDA hdo HDO hds
 go_cut [5, 6] from 21 (fun va vb wx => ∃ nb rb, va = .pointer (some ⟨nb, 0, none⟩) ∧ vb = .pointer (some ⟨rb, 0, none⟩) ∧ DoAt w wx B b c m l0 l1 K kc F fc S0 c0 S1 c1 #[.int .i64 qk, .int .i64 qn, .slice SB sl sc] ∧ Blk wx nb 44 DA ∧ Blk wx rb 37 #[.int .i64 de, .int .i64 dn, .int .i64 dg] ∧ w.heap.size + 1 < nb ∧ w.heap.size + 1 < rb)
 case first =>
  have hs0 := HS5.out _ (HO.out.later ((Below.refl _ _).drew))
  have HO := Lib.hid (HO.out.later ((Below.refl _ _).drew))
  refine wp_region_held_drew (S := (fun W => (sldM (.pointer (some ⟨b, 7, none⟩))).run Tryz.prog W = .ok (.agg m.cells.toArray) W ∧ (sldQ (.pointer (some ⟨w.heap.size, 0, none⟩))).run Tryz.prog W = .ok (.agg #[.int .i64 qk, .int .i64 qn, .slice SB sl sc]) W ∧ W.cell? ⟨b, 4, none⟩ = some (.int .i64 c.quota))) (by kernel_rfl) ?_ (fun hHeld => ?_)
  ·
   exact hs0
  generalize World.drew _ = Wd at HO hs0 hHeld ⊢
  refine tk 0 (h := ?_)
  refine tk 1 (h := ?_)
  refine tk 2 (h := ?_)
  refine tk 3 (h := ?_)
  refine tk 4 (h := ?_)
  refine tk 5 (h := ?_)
  refine tk 6 (h := ?_)
  refine tk 8 (h := ?_)
  refine tk 9 (h := ?_)
  refine tk 10 (h := ?_)
  refine tk 11 (h := ?_)
  refine tk 12 (h := ?_)
  refine wpAnyH_ready (rs := [7, 17, 18]) (by kernel_rfl) (by simp) ?_
  refine AllReadyH.cons rfl (fun K hK => ?_) ?_
  ·
   go_simp
   refine (HFA.out _ HO.out.md (HRD.out.below HO.out.bel)).mono ?_; rintro e w' ⟨rfl, hb⟩; have HO := Lib.hid (HO.out.later hb); clear hb
   go_wp2_with fail
   refine so hK (by (try dsimp only); (exact HS5.out _ HO.out)) (h := fun hHeld => ?_)
   clear hK K
   refine wpAnyH_ready (rs := [13, 17, 18]) (by kernel_rfl) (by simp) ?_
   refine AllReadyH.cons rfl (fun K hK => ?_) ?_
   ·
    go_simp
    refine (HDO2.out _ (HRD.out.below HO.out.bel)).mono ?_; rintro e w' ⟨rfl, hb⟩; have HO := Lib.hid (HO.out.later hb); clear hb
    go_wp2_with fail
    refine so hK (by (try dsimp only); (exact HS5.out _ HO.out)) (h := fun hHeld => ?_)
    clear hK K
    refine tk 14 (h := ?_)
    refine tk 15 (h := ?_)
    refine tk 16 (h := ?_)
    refine wpAnyH_ready (rs := [17, 18]) (by kernel_rfl) (by simp) ?_
    refine AllReadyH.cons rfl (fun K hK => ?_) ?_
    ·
     go_simp
     have HNL := Lib.hid HO.out.r.lt
     have HNb := Lib.hid (Blk.newAtM HO.out.bel 44 Tryz.zeroCells44)
     have HO := Lib.hid (HO.out.alloc (.cells Tryz.zeroCells44 44))
     generalize World.alloc _ (.cells Tryz.zeroCells44 44) = Wa at HO HNb  ⊢
     refine so hK (by (try dsimp only); (exact HS5.out _ HO.out)) (h := fun hHeld => ?_)
     clear hK K
     refine wpAnyH_ready (rs := [18]) (by kernel_rfl) (by simp) ?_
     refine AllReadyH.cons rfl (fun K hK => ?_) ?_
     ·
      go_simp
      have HRL := Lib.hid HO.out.r.lt
      have HRb := Lib.hid (Blk.newAtM HO.out.bel 37 #[.int .i64 0, .int .i64 0, .int .i64 0])
      have HO := Lib.hid (HO.out.alloc (.cells #[.int .i64 0, .int .i64 0, .int .i64 0] 37))
      have HNb := Lib.hid (HNb.out.alloc (.cells #[.int .i64 0, .int .i64 0, .int .i64 0] 37))
      generalize World.alloc _ (.cells #[.int .i64 0, .int .i64 0, .int .i64 0] 37) = Wb at HO HRb HNb ⊢
      refine so hK (by (try dsimp only); (exact HS5.out _ HO.out)) (h := fun hHeld => ?_)
      clear hK K
      have hst := HSN.out _ _ _ HNb.out zeroM_size
      refine rd 19 (h := fun K hK => ?_)
      go_simp
      have hne := Blk.ne_ HNb.out HRb.out (by decide)
      have HRb := Lib.hid (HRb.out.setRow_mf DA (Ne.symm hne))
      have HO := Lib.hid (HO.out.put DA HNb.out HNL.out (by decide) (by decide))
      have HNb := Lib.hid (HNb.out.setRow_m DA)
      clear hst
      refine so hK (by (try dsimp only); (exact HS5.out _ HO.out)) (h := fun hHeld => ?_)
      clear hK K
      have hst := run_sstR de dn dg HRb.out rfl
      refine rd 20 (h := fun K hK => ?_)
      go_simp
      have HNb := Lib.hid (HNb.out.setRow_mf #[.int .i64 de, .int .i64 dn, .int .i64 dg] hne)
      have HO := Lib.hid (HO.out.put #[.int .i64 de, .int .i64 dn, .int .i64 dg] HRb.out HRL.out (by decide) (by decide))
      have HRb := Lib.hid (HRb.out.setRow_m #[.int .i64 de, .int .i64 dn, .int .i64 dg])
      clear hst
      refine so hK (by (try dsimp only); (exact HS5.out _ HO.out)) (h := fun hHeld => ?_)
      clear hK K
      refine wpAnyH_done (by kernel_rfl) ?_ _
      try simp only [Act.put, List.getElem_toArray, List.getElem_cons_succ, List.getElem_cons_zero, List.setIfInBounds_toArray, List.set_cons_zero, List.set_cons_succ]
      go_wp2_with fail
      go_meet
      exact ⟨_, _, rfl, rfl, HO.out, HNb.out, HRb.out, HNL.out, HRL.out⟩
     exact AllReadyH.nil
    refine AllReadyH.cons rfl (fun K hK => ?_) ?_
    ·
     go_simp
     have HRL := Lib.hid HO.out.r.lt
     have HRb := Lib.hid (Blk.newAtM HO.out.bel 37 #[.int .i64 0, .int .i64 0, .int .i64 0])
     have HO := Lib.hid (HO.out.alloc (.cells #[.int .i64 0, .int .i64 0, .int .i64 0] 37))
     generalize World.alloc _ (.cells #[.int .i64 0, .int .i64 0, .int .i64 0] 37) = Wb at HO HRb  ⊢
     refine so hK (by (try dsimp only); (exact HS5.out _ HO.out)) (h := fun hHeld => ?_)
     clear hK K
     refine wpAnyH_ready (rs := [17]) (by kernel_rfl) (by simp) ?_
     refine AllReadyH.cons rfl (fun K hK => ?_) ?_
     ·
      go_simp
      have HNL := Lib.hid HO.out.r.lt
      have HNb := Lib.hid (Blk.newAtM HO.out.bel 44 Tryz.zeroCells44)
      have HO := Lib.hid (HO.out.alloc (.cells Tryz.zeroCells44 44))
      have HRb := Lib.hid (HRb.out.alloc (.cells Tryz.zeroCells44 44))
      generalize World.alloc _ (.cells Tryz.zeroCells44 44) = Wa at HO HNb HRb ⊢
      refine so hK (by (try dsimp only); (exact HS5.out _ HO.out)) (h := fun hHeld => ?_)
      clear hK K
      have hst := HSN.out _ _ _ HNb.out zeroM_size
      refine rd 19 (h := fun K hK => ?_)
      go_simp
      have hne := Blk.ne_ HNb.out HRb.out (by decide)
      have HRb := Lib.hid (HRb.out.setRow_mf DA (Ne.symm hne))
      have HO := Lib.hid (HO.out.put DA HNb.out HNL.out (by decide) (by decide))
      have HNb := Lib.hid (HNb.out.setRow_m DA)
      clear hst
      refine so hK (by (try dsimp only); (exact HS5.out _ HO.out)) (h := fun hHeld => ?_)
      clear hK K
      have hst := run_sstR de dn dg HRb.out rfl
      refine rd 20 (h := fun K hK => ?_)
      go_simp
      have HNb := Lib.hid (HNb.out.setRow_mf #[.int .i64 de, .int .i64 dn, .int .i64 dg] hne)
      have HO := Lib.hid (HO.out.put #[.int .i64 de, .int .i64 dn, .int .i64 dg] HRb.out HRL.out (by decide) (by decide))
      have HRb := Lib.hid (HRb.out.setRow_m #[.int .i64 de, .int .i64 dn, .int .i64 dg])
      clear hst
      refine so hK (by (try dsimp only); (exact HS5.out _ HO.out)) (h := fun hHeld => ?_)
      clear hK K
      refine wpAnyH_done (by kernel_rfl) ?_ _
      try simp only [Act.put, List.getElem_toArray, List.getElem_cons_succ, List.getElem_cons_zero, List.setIfInBounds_toArray, List.set_cons_zero, List.set_cons_succ]
      go_wp2_with fail
      go_meet
      exact ⟨_, _, rfl, rfl, HO.out, HNb.out, HRb.out, HNL.out, HRL.out⟩
     exact AllReadyH.nil
    exact AllReadyH.nil
   refine AllReadyH.cons rfl (fun K hK => ?_) ?_
   ·
    go_simp
    have HNL := Lib.hid HO.out.r.lt
    have HNb := Lib.hid (Blk.newAtM HO.out.bel 44 Tryz.zeroCells44)
    have HO := Lib.hid (HO.out.alloc (.cells Tryz.zeroCells44 44))
    generalize World.alloc _ (.cells Tryz.zeroCells44 44) = Wa at HO HNb  ⊢
    refine so hK (by (try dsimp only); (exact HS5.out _ HO.out)) (h := fun hHeld => ?_)
    clear hK K
    refine wpAnyH_ready (rs := [13, 18]) (by kernel_rfl) (by simp) ?_
    refine AllReadyH.cons rfl (fun K hK => ?_) ?_
    ·
     go_simp
     refine (HDO2.out _ (HRD.out.below HO.out.bel)).mono ?_; rintro e w' ⟨rfl, hb⟩; have HO := Lib.hid (HO.out.later hb); have HNb := Lib.hid (HNb.out.below hb HNb.out.lt); clear hb
     go_wp2_with fail
     refine so hK (by (try dsimp only); (exact HS5.out _ HO.out)) (h := fun hHeld => ?_)
     clear hK K
     refine tk 14 (h := ?_)
     refine tk 15 (h := ?_)
     refine tk 16 (h := ?_)
     refine wpAnyH_ready (rs := [18]) (by kernel_rfl) (by simp) ?_
     refine AllReadyH.cons rfl (fun K hK => ?_) ?_
     ·
      go_simp
      have HRL := Lib.hid HO.out.r.lt
      have HRb := Lib.hid (Blk.newAtM HO.out.bel 37 #[.int .i64 0, .int .i64 0, .int .i64 0])
      have HO := Lib.hid (HO.out.alloc (.cells #[.int .i64 0, .int .i64 0, .int .i64 0] 37))
      have HNb := Lib.hid (HNb.out.alloc (.cells #[.int .i64 0, .int .i64 0, .int .i64 0] 37))
      generalize World.alloc _ (.cells #[.int .i64 0, .int .i64 0, .int .i64 0] 37) = Wb at HO HRb HNb ⊢
      refine so hK (by (try dsimp only); (exact HS5.out _ HO.out)) (h := fun hHeld => ?_)
      clear hK K
      have hst := HSN.out _ _ _ HNb.out zeroM_size
      refine rd 19 (h := fun K hK => ?_)
      go_simp
      have hne := Blk.ne_ HNb.out HRb.out (by decide)
      have HRb := Lib.hid (HRb.out.setRow_mf DA (Ne.symm hne))
      have HO := Lib.hid (HO.out.put DA HNb.out HNL.out (by decide) (by decide))
      have HNb := Lib.hid (HNb.out.setRow_m DA)
      clear hst
      refine so hK (by (try dsimp only); (exact HS5.out _ HO.out)) (h := fun hHeld => ?_)
      clear hK K
      have hst := run_sstR de dn dg HRb.out rfl
      refine rd 20 (h := fun K hK => ?_)
      go_simp
      have HNb := Lib.hid (HNb.out.setRow_mf #[.int .i64 de, .int .i64 dn, .int .i64 dg] hne)
      have HO := Lib.hid (HO.out.put #[.int .i64 de, .int .i64 dn, .int .i64 dg] HRb.out HRL.out (by decide) (by decide))
      have HRb := Lib.hid (HRb.out.setRow_m #[.int .i64 de, .int .i64 dn, .int .i64 dg])
      clear hst
      refine so hK (by (try dsimp only); (exact HS5.out _ HO.out)) (h := fun hHeld => ?_)
      clear hK K
      refine wpAnyH_done (by kernel_rfl) ?_ _
      try simp only [Act.put, List.getElem_toArray, List.getElem_cons_succ, List.getElem_cons_zero, List.setIfInBounds_toArray, List.set_cons_zero, List.set_cons_succ]
      go_wp2_with fail
      go_meet
      exact ⟨_, _, rfl, rfl, HO.out, HNb.out, HRb.out, HNL.out, HRL.out⟩
     exact AllReadyH.nil
    refine AllReadyH.cons rfl (fun K hK => ?_) ?_
    ·
     go_simp
     have HRL := Lib.hid HO.out.r.lt
     have HRb := Lib.hid (Blk.newAtM HO.out.bel 37 #[.int .i64 0, .int .i64 0, .int .i64 0])
     have HO := Lib.hid (HO.out.alloc (.cells #[.int .i64 0, .int .i64 0, .int .i64 0] 37))
     have HNb := Lib.hid (HNb.out.alloc (.cells #[.int .i64 0, .int .i64 0, .int .i64 0] 37))
     generalize World.alloc _ (.cells #[.int .i64 0, .int .i64 0, .int .i64 0] 37) = Wb at HO HRb HNb ⊢
     refine so hK (by (try dsimp only); (exact HS5.out _ HO.out)) (h := fun hHeld => ?_)
     clear hK K
     refine wpAnyH_ready (rs := [13]) (by kernel_rfl) (by simp) ?_
     refine AllReadyH.cons rfl (fun K hK => ?_) ?_
     ·
      go_simp
      refine (HDO2.out _ (HRD.out.below HO.out.bel)).mono ?_; rintro e w' ⟨rfl, hb⟩; have HO := Lib.hid (HO.out.later hb); have HNb := Lib.hid (HNb.out.below hb HNb.out.lt); have HRb := Lib.hid (HRb.out.below hb HRb.out.lt); clear hb
      go_wp2_with fail
      refine so hK (by (try dsimp only); (exact HS5.out _ HO.out)) (h := fun hHeld => ?_)
      clear hK K
      refine tk 14 (h := ?_)
      refine tk 15 (h := ?_)
      refine tk 16 (h := ?_)
      have hst := HSN.out _ _ _ HNb.out zeroM_size
      refine rd 19 (h := fun K hK => ?_)
      go_simp
      have hne := Blk.ne_ HNb.out HRb.out (by decide)
      have HRb := Lib.hid (HRb.out.setRow_mf DA (Ne.symm hne))
      have HO := Lib.hid (HO.out.put DA HNb.out HNL.out (by decide) (by decide))
      have HNb := Lib.hid (HNb.out.setRow_m DA)
      clear hst
      refine so hK (by (try dsimp only); (exact HS5.out _ HO.out)) (h := fun hHeld => ?_)
      clear hK K
      have hst := run_sstR de dn dg HRb.out rfl
      refine rd 20 (h := fun K hK => ?_)
      go_simp
      have HNb := Lib.hid (HNb.out.setRow_mf #[.int .i64 de, .int .i64 dn, .int .i64 dg] hne)
      have HO := Lib.hid (HO.out.put #[.int .i64 de, .int .i64 dn, .int .i64 dg] HRb.out HRL.out (by decide) (by decide))
      have HRb := Lib.hid (HRb.out.setRow_m #[.int .i64 de, .int .i64 dn, .int .i64 dg])
      clear hst
      refine so hK (by (try dsimp only); (exact HS5.out _ HO.out)) (h := fun hHeld => ?_)
      clear hK K
      refine wpAnyH_done (by kernel_rfl) ?_ _
      try simp only [Act.put, List.getElem_toArray, List.getElem_cons_succ, List.getElem_cons_zero, List.setIfInBounds_toArray, List.set_cons_zero, List.set_cons_succ]
      go_wp2_with fail
      go_meet
      exact ⟨_, _, rfl, rfl, HO.out, HNb.out, HRb.out, HNL.out, HRL.out⟩
     exact AllReadyH.nil
    exact AllReadyH.nil
   refine AllReadyH.cons rfl (fun K hK => ?_) ?_
   ·
    go_simp
    have HRL := Lib.hid HO.out.r.lt
    have HRb := Lib.hid (Blk.newAtM HO.out.bel 37 #[.int .i64 0, .int .i64 0, .int .i64 0])
    have HO := Lib.hid (HO.out.alloc (.cells #[.int .i64 0, .int .i64 0, .int .i64 0] 37))
    generalize World.alloc _ (.cells #[.int .i64 0, .int .i64 0, .int .i64 0] 37) = Wb at HO HRb  ⊢
    refine so hK (by (try dsimp only); (exact HS5.out _ HO.out)) (h := fun hHeld => ?_)
    clear hK K
    refine wpAnyH_ready (rs := [13, 17]) (by kernel_rfl) (by simp) ?_
    refine AllReadyH.cons rfl (fun K hK => ?_) ?_
    ·
     go_simp
     refine (HDO2.out _ (HRD.out.below HO.out.bel)).mono ?_; rintro e w' ⟨rfl, hb⟩; have HO := Lib.hid (HO.out.later hb); have HRb := Lib.hid (HRb.out.below hb HRb.out.lt); clear hb
     go_wp2_with fail
     refine so hK (by (try dsimp only); (exact HS5.out _ HO.out)) (h := fun hHeld => ?_)
     clear hK K
     refine tk 14 (h := ?_)
     refine tk 15 (h := ?_)
     refine tk 16 (h := ?_)
     refine wpAnyH_ready (rs := [17]) (by kernel_rfl) (by simp) ?_
     refine AllReadyH.cons rfl (fun K hK => ?_) ?_
     ·
      go_simp
      have HNL := Lib.hid HO.out.r.lt
      have HNb := Lib.hid (Blk.newAtM HO.out.bel 44 Tryz.zeroCells44)
      have HO := Lib.hid (HO.out.alloc (.cells Tryz.zeroCells44 44))
      have HRb := Lib.hid (HRb.out.alloc (.cells Tryz.zeroCells44 44))
      generalize World.alloc _ (.cells Tryz.zeroCells44 44) = Wa at HO HNb HRb ⊢
      refine so hK (by (try dsimp only); (exact HS5.out _ HO.out)) (h := fun hHeld => ?_)
      clear hK K
      have hst := HSN.out _ _ _ HNb.out zeroM_size
      refine rd 19 (h := fun K hK => ?_)
      go_simp
      have hne := Blk.ne_ HNb.out HRb.out (by decide)
      have HRb := Lib.hid (HRb.out.setRow_mf DA (Ne.symm hne))
      have HO := Lib.hid (HO.out.put DA HNb.out HNL.out (by decide) (by decide))
      have HNb := Lib.hid (HNb.out.setRow_m DA)
      clear hst
      refine so hK (by (try dsimp only); (exact HS5.out _ HO.out)) (h := fun hHeld => ?_)
      clear hK K
      have hst := run_sstR de dn dg HRb.out rfl
      refine rd 20 (h := fun K hK => ?_)
      go_simp
      have HNb := Lib.hid (HNb.out.setRow_mf #[.int .i64 de, .int .i64 dn, .int .i64 dg] hne)
      have HO := Lib.hid (HO.out.put #[.int .i64 de, .int .i64 dn, .int .i64 dg] HRb.out HRL.out (by decide) (by decide))
      have HRb := Lib.hid (HRb.out.setRow_m #[.int .i64 de, .int .i64 dn, .int .i64 dg])
      clear hst
      refine so hK (by (try dsimp only); (exact HS5.out _ HO.out)) (h := fun hHeld => ?_)
      clear hK K
      refine wpAnyH_done (by kernel_rfl) ?_ _
      try simp only [Act.put, List.getElem_toArray, List.getElem_cons_succ, List.getElem_cons_zero, List.setIfInBounds_toArray, List.set_cons_zero, List.set_cons_succ]
      go_wp2_with fail
      go_meet
      exact ⟨_, _, rfl, rfl, HO.out, HNb.out, HRb.out, HNL.out, HRL.out⟩
     exact AllReadyH.nil
    refine AllReadyH.cons rfl (fun K hK => ?_) ?_
    ·
     go_simp
     have HNL := Lib.hid HO.out.r.lt
     have HNb := Lib.hid (Blk.newAtM HO.out.bel 44 Tryz.zeroCells44)
     have HO := Lib.hid (HO.out.alloc (.cells Tryz.zeroCells44 44))
     have HRb := Lib.hid (HRb.out.alloc (.cells Tryz.zeroCells44 44))
     generalize World.alloc _ (.cells Tryz.zeroCells44 44) = Wa at HO HNb HRb ⊢
     refine so hK (by (try dsimp only); (exact HS5.out _ HO.out)) (h := fun hHeld => ?_)
     clear hK K
     refine wpAnyH_ready (rs := [13]) (by kernel_rfl) (by simp) ?_
     refine AllReadyH.cons rfl (fun K hK => ?_) ?_
     ·
      go_simp
      refine (HDO2.out _ (HRD.out.below HO.out.bel)).mono ?_; rintro e w' ⟨rfl, hb⟩; have HO := Lib.hid (HO.out.later hb); have HNb := Lib.hid (HNb.out.below hb HNb.out.lt); have HRb := Lib.hid (HRb.out.below hb HRb.out.lt); clear hb
      go_wp2_with fail
      refine so hK (by (try dsimp only); (exact HS5.out _ HO.out)) (h := fun hHeld => ?_)
      clear hK K
      refine tk 14 (h := ?_)
      refine tk 15 (h := ?_)
      refine tk 16 (h := ?_)
      have hst := HSN.out _ _ _ HNb.out zeroM_size
      refine rd 19 (h := fun K hK => ?_)
      go_simp
      have hne := Blk.ne_ HNb.out HRb.out (by decide)
      have HRb := Lib.hid (HRb.out.setRow_mf DA (Ne.symm hne))
      have HO := Lib.hid (HO.out.put DA HNb.out HNL.out (by decide) (by decide))
      have HNb := Lib.hid (HNb.out.setRow_m DA)
      clear hst
      refine so hK (by (try dsimp only); (exact HS5.out _ HO.out)) (h := fun hHeld => ?_)
      clear hK K
      have hst := run_sstR de dn dg HRb.out rfl
      refine rd 20 (h := fun K hK => ?_)
      go_simp
      have HNb := Lib.hid (HNb.out.setRow_mf #[.int .i64 de, .int .i64 dn, .int .i64 dg] hne)
      have HO := Lib.hid (HO.out.put #[.int .i64 de, .int .i64 dn, .int .i64 dg] HRb.out HRL.out (by decide) (by decide))
      have HRb := Lib.hid (HRb.out.setRow_m #[.int .i64 de, .int .i64 dn, .int .i64 dg])
      clear hst
      refine so hK (by (try dsimp only); (exact HS5.out _ HO.out)) (h := fun hHeld => ?_)
      clear hK K
      refine wpAnyH_done (by kernel_rfl) ?_ _
      try simp only [Act.put, List.getElem_toArray, List.getElem_cons_succ, List.getElem_cons_zero, List.setIfInBounds_toArray, List.set_cons_zero, List.set_cons_succ]
      go_wp2_with fail
      go_meet
      exact ⟨_, _, rfl, rfl, HO.out, HNb.out, HRb.out, HNL.out, HRL.out⟩
     exact AllReadyH.nil
    exact AllReadyH.nil
   exact AllReadyH.nil
  refine AllReadyH.cons rfl (fun K hK => ?_) ?_
  ·
   go_simp
   have HNL := Lib.hid HO.out.r.lt
   have HNb := Lib.hid (Blk.newAtM HO.out.bel 44 Tryz.zeroCells44)
   have HO := Lib.hid (HO.out.alloc (.cells Tryz.zeroCells44 44))
   generalize World.alloc _ (.cells Tryz.zeroCells44 44) = Wa at HO HNb  ⊢
   refine so hK (by (try dsimp only); (exact HS5.out _ HO.out)) (h := fun hHeld => ?_)
   clear hK K
   refine wpAnyH_ready (rs := [7, 18]) (by kernel_rfl) (by simp) ?_
   refine AllReadyH.cons rfl (fun K hK => ?_) ?_
   ·
    go_simp
    refine (HFA.out _ HO.out.md (HRD.out.below HO.out.bel)).mono ?_; rintro e w' ⟨rfl, hb⟩; have HO := Lib.hid (HO.out.later hb); have HNb := Lib.hid (HNb.out.below hb HNb.out.lt); clear hb
    go_wp2_with fail
    refine so hK (by (try dsimp only); (exact HS5.out _ HO.out)) (h := fun hHeld => ?_)
    clear hK K
    refine wpAnyH_ready (rs := [13, 18]) (by kernel_rfl) (by simp) ?_
    refine AllReadyH.cons rfl (fun K hK => ?_) ?_
    ·
     go_simp
     refine (HDO2.out _ (HRD.out.below HO.out.bel)).mono ?_; rintro e w' ⟨rfl, hb⟩; have HO := Lib.hid (HO.out.later hb); have HNb := Lib.hid (HNb.out.below hb HNb.out.lt); clear hb
     go_wp2_with fail
     refine so hK (by (try dsimp only); (exact HS5.out _ HO.out)) (h := fun hHeld => ?_)
     clear hK K
     refine tk 14 (h := ?_)
     refine tk 15 (h := ?_)
     refine tk 16 (h := ?_)
     refine wpAnyH_ready (rs := [18]) (by kernel_rfl) (by simp) ?_
     refine AllReadyH.cons rfl (fun K hK => ?_) ?_
     ·
      go_simp
      have HRL := Lib.hid HO.out.r.lt
      have HRb := Lib.hid (Blk.newAtM HO.out.bel 37 #[.int .i64 0, .int .i64 0, .int .i64 0])
      have HO := Lib.hid (HO.out.alloc (.cells #[.int .i64 0, .int .i64 0, .int .i64 0] 37))
      have HNb := Lib.hid (HNb.out.alloc (.cells #[.int .i64 0, .int .i64 0, .int .i64 0] 37))
      generalize World.alloc _ (.cells #[.int .i64 0, .int .i64 0, .int .i64 0] 37) = Wb at HO HRb HNb ⊢
      refine so hK (by (try dsimp only); (exact HS5.out _ HO.out)) (h := fun hHeld => ?_)
      clear hK K
      have hst := HSN.out _ _ _ HNb.out zeroM_size
      refine rd 19 (h := fun K hK => ?_)
      go_simp
      have hne := Blk.ne_ HNb.out HRb.out (by decide)
      have HRb := Lib.hid (HRb.out.setRow_mf DA (Ne.symm hne))
      have HO := Lib.hid (HO.out.put DA HNb.out HNL.out (by decide) (by decide))
      have HNb := Lib.hid (HNb.out.setRow_m DA)
      clear hst
      refine so hK (by (try dsimp only); (exact HS5.out _ HO.out)) (h := fun hHeld => ?_)
      clear hK K
      have hst := run_sstR de dn dg HRb.out rfl
      refine rd 20 (h := fun K hK => ?_)
      go_simp
      have HNb := Lib.hid (HNb.out.setRow_mf #[.int .i64 de, .int .i64 dn, .int .i64 dg] hne)
      have HO := Lib.hid (HO.out.put #[.int .i64 de, .int .i64 dn, .int .i64 dg] HRb.out HRL.out (by decide) (by decide))
      have HRb := Lib.hid (HRb.out.setRow_m #[.int .i64 de, .int .i64 dn, .int .i64 dg])
      clear hst
      refine so hK (by (try dsimp only); (exact HS5.out _ HO.out)) (h := fun hHeld => ?_)
      clear hK K
      refine wpAnyH_done (by kernel_rfl) ?_ _
      try simp only [Act.put, List.getElem_toArray, List.getElem_cons_succ, List.getElem_cons_zero, List.setIfInBounds_toArray, List.set_cons_zero, List.set_cons_succ]
      go_wp2_with fail
      go_meet
      exact ⟨_, _, rfl, rfl, HO.out, HNb.out, HRb.out, HNL.out, HRL.out⟩
     exact AllReadyH.nil
    refine AllReadyH.cons rfl (fun K hK => ?_) ?_
    ·
     go_simp
     have HRL := Lib.hid HO.out.r.lt
     have HRb := Lib.hid (Blk.newAtM HO.out.bel 37 #[.int .i64 0, .int .i64 0, .int .i64 0])
     have HO := Lib.hid (HO.out.alloc (.cells #[.int .i64 0, .int .i64 0, .int .i64 0] 37))
     have HNb := Lib.hid (HNb.out.alloc (.cells #[.int .i64 0, .int .i64 0, .int .i64 0] 37))
     generalize World.alloc _ (.cells #[.int .i64 0, .int .i64 0, .int .i64 0] 37) = Wb at HO HRb HNb ⊢
     refine so hK (by (try dsimp only); (exact HS5.out _ HO.out)) (h := fun hHeld => ?_)
     clear hK K
     refine wpAnyH_ready (rs := [13]) (by kernel_rfl) (by simp) ?_
     refine AllReadyH.cons rfl (fun K hK => ?_) ?_
     ·
      go_simp
      refine (HDO2.out _ (HRD.out.below HO.out.bel)).mono ?_; rintro e w' ⟨rfl, hb⟩; have HO := Lib.hid (HO.out.later hb); have HNb := Lib.hid (HNb.out.below hb HNb.out.lt); have HRb := Lib.hid (HRb.out.below hb HRb.out.lt); clear hb
      go_wp2_with fail
      refine so hK (by (try dsimp only); (exact HS5.out _ HO.out)) (h := fun hHeld => ?_)
      clear hK K
      refine tk 14 (h := ?_)
      refine tk 15 (h := ?_)
      refine tk 16 (h := ?_)
      have hst := HSN.out _ _ _ HNb.out zeroM_size
      refine rd 19 (h := fun K hK => ?_)
      go_simp
      have hne := Blk.ne_ HNb.out HRb.out (by decide)
      have HRb := Lib.hid (HRb.out.setRow_mf DA (Ne.symm hne))
      have HO := Lib.hid (HO.out.put DA HNb.out HNL.out (by decide) (by decide))
      have HNb := Lib.hid (HNb.out.setRow_m DA)
      clear hst
      refine so hK (by (try dsimp only); (exact HS5.out _ HO.out)) (h := fun hHeld => ?_)
      clear hK K
      have hst := run_sstR de dn dg HRb.out rfl
      refine rd 20 (h := fun K hK => ?_)
      go_simp
      have HNb := Lib.hid (HNb.out.setRow_mf #[.int .i64 de, .int .i64 dn, .int .i64 dg] hne)
      have HO := Lib.hid (HO.out.put #[.int .i64 de, .int .i64 dn, .int .i64 dg] HRb.out HRL.out (by decide) (by decide))
      have HRb := Lib.hid (HRb.out.setRow_m #[.int .i64 de, .int .i64 dn, .int .i64 dg])
      clear hst
      refine so hK (by (try dsimp only); (exact HS5.out _ HO.out)) (h := fun hHeld => ?_)
      clear hK K
      refine wpAnyH_done (by kernel_rfl) ?_ _
      try simp only [Act.put, List.getElem_toArray, List.getElem_cons_succ, List.getElem_cons_zero, List.setIfInBounds_toArray, List.set_cons_zero, List.set_cons_succ]
      go_wp2_with fail
      go_meet
      exact ⟨_, _, rfl, rfl, HO.out, HNb.out, HRb.out, HNL.out, HRL.out⟩
     exact AllReadyH.nil
    exact AllReadyH.nil
   refine AllReadyH.cons rfl (fun K hK => ?_) ?_
   ·
    go_simp
    have HRL := Lib.hid HO.out.r.lt
    have HRb := Lib.hid (Blk.newAtM HO.out.bel 37 #[.int .i64 0, .int .i64 0, .int .i64 0])
    have HO := Lib.hid (HO.out.alloc (.cells #[.int .i64 0, .int .i64 0, .int .i64 0] 37))
    have HNb := Lib.hid (HNb.out.alloc (.cells #[.int .i64 0, .int .i64 0, .int .i64 0] 37))
    generalize World.alloc _ (.cells #[.int .i64 0, .int .i64 0, .int .i64 0] 37) = Wb at HO HRb HNb ⊢
    refine so hK (by (try dsimp only); (exact HS5.out _ HO.out)) (h := fun hHeld => ?_)
    clear hK K
    refine wpAnyH_ready (rs := [7]) (by kernel_rfl) (by simp) ?_
    refine AllReadyH.cons rfl (fun K hK => ?_) ?_
    ·
     go_simp
     refine (HFA.out _ HO.out.md (HRD.out.below HO.out.bel)).mono ?_; rintro e w' ⟨rfl, hb⟩; have HO := Lib.hid (HO.out.later hb); have HNb := Lib.hid (HNb.out.below hb HNb.out.lt); have HRb := Lib.hid (HRb.out.below hb HRb.out.lt); clear hb
     go_wp2_with fail
     refine so hK (by (try dsimp only); (exact HS5.out _ HO.out)) (h := fun hHeld => ?_)
     clear hK K
     refine wpAnyH_ready (rs := [13]) (by kernel_rfl) (by simp) ?_
     refine AllReadyH.cons rfl (fun K hK => ?_) ?_
     ·
      go_simp
      refine (HDO2.out _ (HRD.out.below HO.out.bel)).mono ?_; rintro e w' ⟨rfl, hb⟩; have HO := Lib.hid (HO.out.later hb); have HNb := Lib.hid (HNb.out.below hb HNb.out.lt); have HRb := Lib.hid (HRb.out.below hb HRb.out.lt); clear hb
      go_wp2_with fail
      refine so hK (by (try dsimp only); (exact HS5.out _ HO.out)) (h := fun hHeld => ?_)
      clear hK K
      refine tk 14 (h := ?_)
      refine tk 15 (h := ?_)
      refine tk 16 (h := ?_)
      have hst := HSN.out _ _ _ HNb.out zeroM_size
      refine rd 19 (h := fun K hK => ?_)
      go_simp
      have hne := Blk.ne_ HNb.out HRb.out (by decide)
      have HRb := Lib.hid (HRb.out.setRow_mf DA (Ne.symm hne))
      have HO := Lib.hid (HO.out.put DA HNb.out HNL.out (by decide) (by decide))
      have HNb := Lib.hid (HNb.out.setRow_m DA)
      clear hst
      refine so hK (by (try dsimp only); (exact HS5.out _ HO.out)) (h := fun hHeld => ?_)
      clear hK K
      have hst := run_sstR de dn dg HRb.out rfl
      refine rd 20 (h := fun K hK => ?_)
      go_simp
      have HNb := Lib.hid (HNb.out.setRow_mf #[.int .i64 de, .int .i64 dn, .int .i64 dg] hne)
      have HO := Lib.hid (HO.out.put #[.int .i64 de, .int .i64 dn, .int .i64 dg] HRb.out HRL.out (by decide) (by decide))
      have HRb := Lib.hid (HRb.out.setRow_m #[.int .i64 de, .int .i64 dn, .int .i64 dg])
      clear hst
      refine so hK (by (try dsimp only); (exact HS5.out _ HO.out)) (h := fun hHeld => ?_)
      clear hK K
      refine wpAnyH_done (by kernel_rfl) ?_ _
      try simp only [Act.put, List.getElem_toArray, List.getElem_cons_succ, List.getElem_cons_zero, List.setIfInBounds_toArray, List.set_cons_zero, List.set_cons_succ]
      go_wp2_with fail
      go_meet
      exact ⟨_, _, rfl, rfl, HO.out, HNb.out, HRb.out, HNL.out, HRL.out⟩
     exact AllReadyH.nil
    exact AllReadyH.nil
   exact AllReadyH.nil
  refine AllReadyH.cons rfl (fun K hK => ?_) ?_
  ·
   go_simp
   have HRL := Lib.hid HO.out.r.lt
   have HRb := Lib.hid (Blk.newAtM HO.out.bel 37 #[.int .i64 0, .int .i64 0, .int .i64 0])
   have HO := Lib.hid (HO.out.alloc (.cells #[.int .i64 0, .int .i64 0, .int .i64 0] 37))
   generalize World.alloc _ (.cells #[.int .i64 0, .int .i64 0, .int .i64 0] 37) = Wb at HO HRb  ⊢
   refine so hK (by (try dsimp only); (exact HS5.out _ HO.out)) (h := fun hHeld => ?_)
   clear hK K
   refine wpAnyH_ready (rs := [7, 17]) (by kernel_rfl) (by simp) ?_
   refine AllReadyH.cons rfl (fun K hK => ?_) ?_
   ·
    go_simp
    refine (HFA.out _ HO.out.md (HRD.out.below HO.out.bel)).mono ?_; rintro e w' ⟨rfl, hb⟩; have HO := Lib.hid (HO.out.later hb); have HRb := Lib.hid (HRb.out.below hb HRb.out.lt); clear hb
    go_wp2_with fail
    refine so hK (by (try dsimp only); (exact HS5.out _ HO.out)) (h := fun hHeld => ?_)
    clear hK K
    refine wpAnyH_ready (rs := [13, 17]) (by kernel_rfl) (by simp) ?_
    refine AllReadyH.cons rfl (fun K hK => ?_) ?_
    ·
     go_simp
     refine (HDO2.out _ (HRD.out.below HO.out.bel)).mono ?_; rintro e w' ⟨rfl, hb⟩; have HO := Lib.hid (HO.out.later hb); have HRb := Lib.hid (HRb.out.below hb HRb.out.lt); clear hb
     go_wp2_with fail
     refine so hK (by (try dsimp only); (exact HS5.out _ HO.out)) (h := fun hHeld => ?_)
     clear hK K
     refine tk 14 (h := ?_)
     refine tk 15 (h := ?_)
     refine tk 16 (h := ?_)
     refine wpAnyH_ready (rs := [17]) (by kernel_rfl) (by simp) ?_
     refine AllReadyH.cons rfl (fun K hK => ?_) ?_
     ·
      go_simp
      have HNL := Lib.hid HO.out.r.lt
      have HNb := Lib.hid (Blk.newAtM HO.out.bel 44 Tryz.zeroCells44)
      have HO := Lib.hid (HO.out.alloc (.cells Tryz.zeroCells44 44))
      have HRb := Lib.hid (HRb.out.alloc (.cells Tryz.zeroCells44 44))
      generalize World.alloc _ (.cells Tryz.zeroCells44 44) = Wa at HO HNb HRb ⊢
      refine so hK (by (try dsimp only); (exact HS5.out _ HO.out)) (h := fun hHeld => ?_)
      clear hK K
      have hst := HSN.out _ _ _ HNb.out zeroM_size
      refine rd 19 (h := fun K hK => ?_)
      go_simp
      have hne := Blk.ne_ HNb.out HRb.out (by decide)
      have HRb := Lib.hid (HRb.out.setRow_mf DA (Ne.symm hne))
      have HO := Lib.hid (HO.out.put DA HNb.out HNL.out (by decide) (by decide))
      have HNb := Lib.hid (HNb.out.setRow_m DA)
      clear hst
      refine so hK (by (try dsimp only); (exact HS5.out _ HO.out)) (h := fun hHeld => ?_)
      clear hK K
      have hst := run_sstR de dn dg HRb.out rfl
      refine rd 20 (h := fun K hK => ?_)
      go_simp
      have HNb := Lib.hid (HNb.out.setRow_mf #[.int .i64 de, .int .i64 dn, .int .i64 dg] hne)
      have HO := Lib.hid (HO.out.put #[.int .i64 de, .int .i64 dn, .int .i64 dg] HRb.out HRL.out (by decide) (by decide))
      have HRb := Lib.hid (HRb.out.setRow_m #[.int .i64 de, .int .i64 dn, .int .i64 dg])
      clear hst
      refine so hK (by (try dsimp only); (exact HS5.out _ HO.out)) (h := fun hHeld => ?_)
      clear hK K
      refine wpAnyH_done (by kernel_rfl) ?_ _
      try simp only [Act.put, List.getElem_toArray, List.getElem_cons_succ, List.getElem_cons_zero, List.setIfInBounds_toArray, List.set_cons_zero, List.set_cons_succ]
      go_wp2_with fail
      go_meet
      exact ⟨_, _, rfl, rfl, HO.out, HNb.out, HRb.out, HNL.out, HRL.out⟩
     exact AllReadyH.nil
    refine AllReadyH.cons rfl (fun K hK => ?_) ?_
    ·
     go_simp
     have HNL := Lib.hid HO.out.r.lt
     have HNb := Lib.hid (Blk.newAtM HO.out.bel 44 Tryz.zeroCells44)
     have HO := Lib.hid (HO.out.alloc (.cells Tryz.zeroCells44 44))
     have HRb := Lib.hid (HRb.out.alloc (.cells Tryz.zeroCells44 44))
     generalize World.alloc _ (.cells Tryz.zeroCells44 44) = Wa at HO HNb HRb ⊢
     refine so hK (by (try dsimp only); (exact HS5.out _ HO.out)) (h := fun hHeld => ?_)
     clear hK K
     refine wpAnyH_ready (rs := [13]) (by kernel_rfl) (by simp) ?_
     refine AllReadyH.cons rfl (fun K hK => ?_) ?_
     ·
      go_simp
      refine (HDO2.out _ (HRD.out.below HO.out.bel)).mono ?_; rintro e w' ⟨rfl, hb⟩; have HO := Lib.hid (HO.out.later hb); have HNb := Lib.hid (HNb.out.below hb HNb.out.lt); have HRb := Lib.hid (HRb.out.below hb HRb.out.lt); clear hb
      go_wp2_with fail
      refine so hK (by (try dsimp only); (exact HS5.out _ HO.out)) (h := fun hHeld => ?_)
      clear hK K
      refine tk 14 (h := ?_)
      refine tk 15 (h := ?_)
      refine tk 16 (h := ?_)
      have hst := HSN.out _ _ _ HNb.out zeroM_size
      refine rd 19 (h := fun K hK => ?_)
      go_simp
      have hne := Blk.ne_ HNb.out HRb.out (by decide)
      have HRb := Lib.hid (HRb.out.setRow_mf DA (Ne.symm hne))
      have HO := Lib.hid (HO.out.put DA HNb.out HNL.out (by decide) (by decide))
      have HNb := Lib.hid (HNb.out.setRow_m DA)
      clear hst
      refine so hK (by (try dsimp only); (exact HS5.out _ HO.out)) (h := fun hHeld => ?_)
      clear hK K
      have hst := run_sstR de dn dg HRb.out rfl
      refine rd 20 (h := fun K hK => ?_)
      go_simp
      have HNb := Lib.hid (HNb.out.setRow_mf #[.int .i64 de, .int .i64 dn, .int .i64 dg] hne)
      have HO := Lib.hid (HO.out.put #[.int .i64 de, .int .i64 dn, .int .i64 dg] HRb.out HRL.out (by decide) (by decide))
      have HRb := Lib.hid (HRb.out.setRow_m #[.int .i64 de, .int .i64 dn, .int .i64 dg])
      clear hst
      refine so hK (by (try dsimp only); (exact HS5.out _ HO.out)) (h := fun hHeld => ?_)
      clear hK K
      refine wpAnyH_done (by kernel_rfl) ?_ _
      try simp only [Act.put, List.getElem_toArray, List.getElem_cons_succ, List.getElem_cons_zero, List.setIfInBounds_toArray, List.set_cons_zero, List.set_cons_succ]
      go_wp2_with fail
      go_meet
      exact ⟨_, _, rfl, rfl, HO.out, HNb.out, HRb.out, HNL.out, HRL.out⟩
     exact AllReadyH.nil
    exact AllReadyH.nil
   refine AllReadyH.cons rfl (fun K hK => ?_) ?_
   ·
    go_simp
    have HNL := Lib.hid HO.out.r.lt
    have HNb := Lib.hid (Blk.newAtM HO.out.bel 44 Tryz.zeroCells44)
    have HO := Lib.hid (HO.out.alloc (.cells Tryz.zeroCells44 44))
    have HRb := Lib.hid (HRb.out.alloc (.cells Tryz.zeroCells44 44))
    generalize World.alloc _ (.cells Tryz.zeroCells44 44) = Wa at HO HNb HRb ⊢
    refine so hK (by (try dsimp only); (exact HS5.out _ HO.out)) (h := fun hHeld => ?_)
    clear hK K
    refine wpAnyH_ready (rs := [7]) (by kernel_rfl) (by simp) ?_
    refine AllReadyH.cons rfl (fun K hK => ?_) ?_
    ·
     go_simp
     refine (HFA.out _ HO.out.md (HRD.out.below HO.out.bel)).mono ?_; rintro e w' ⟨rfl, hb⟩; have HO := Lib.hid (HO.out.later hb); have HNb := Lib.hid (HNb.out.below hb HNb.out.lt); have HRb := Lib.hid (HRb.out.below hb HRb.out.lt); clear hb
     go_wp2_with fail
     refine so hK (by (try dsimp only); (exact HS5.out _ HO.out)) (h := fun hHeld => ?_)
     clear hK K
     refine wpAnyH_ready (rs := [13]) (by kernel_rfl) (by simp) ?_
     refine AllReadyH.cons rfl (fun K hK => ?_) ?_
     ·
      go_simp
      refine (HDO2.out _ (HRD.out.below HO.out.bel)).mono ?_; rintro e w' ⟨rfl, hb⟩; have HO := Lib.hid (HO.out.later hb); have HNb := Lib.hid (HNb.out.below hb HNb.out.lt); have HRb := Lib.hid (HRb.out.below hb HRb.out.lt); clear hb
      go_wp2_with fail
      refine so hK (by (try dsimp only); (exact HS5.out _ HO.out)) (h := fun hHeld => ?_)
      clear hK K
      refine tk 14 (h := ?_)
      refine tk 15 (h := ?_)
      refine tk 16 (h := ?_)
      have hst := HSN.out _ _ _ HNb.out zeroM_size
      refine rd 19 (h := fun K hK => ?_)
      go_simp
      have hne := Blk.ne_ HNb.out HRb.out (by decide)
      have HRb := Lib.hid (HRb.out.setRow_mf DA (Ne.symm hne))
      have HO := Lib.hid (HO.out.put DA HNb.out HNL.out (by decide) (by decide))
      have HNb := Lib.hid (HNb.out.setRow_m DA)
      clear hst
      refine so hK (by (try dsimp only); (exact HS5.out _ HO.out)) (h := fun hHeld => ?_)
      clear hK K
      have hst := run_sstR de dn dg HRb.out rfl
      refine rd 20 (h := fun K hK => ?_)
      go_simp
      have HNb := Lib.hid (HNb.out.setRow_mf #[.int .i64 de, .int .i64 dn, .int .i64 dg] hne)
      have HO := Lib.hid (HO.out.put #[.int .i64 de, .int .i64 dn, .int .i64 dg] HRb.out HRL.out (by decide) (by decide))
      have HRb := Lib.hid (HRb.out.setRow_m #[.int .i64 de, .int .i64 dn, .int .i64 dg])
      clear hst
      refine so hK (by (try dsimp only); (exact HS5.out _ HO.out)) (h := fun hHeld => ?_)
      clear hK K
      refine wpAnyH_done (by kernel_rfl) ?_ _
      try simp only [Act.put, List.getElem_toArray, List.getElem_cons_succ, List.getElem_cons_zero, List.setIfInBounds_toArray, List.set_cons_zero, List.set_cons_succ]
      go_wp2_with fail
      go_meet
      exact ⟨_, _, rfl, rfl, HO.out, HNb.out, HRb.out, HNL.out, HRL.out⟩
     exact AllReadyH.nil
    exact AllReadyH.nil
   exact AllReadyH.nil
  exact AllReadyH.nil
 case rest =>
  obtain ⟨nb, rb, rfl, rfl, hO, hNb, hRb, hnl, hrl⟩ := hcut
  have HO := Lib.hid hO
  have HNb := Lib.hid hNb
  have HRb := Lib.hid hRb
  have HNL := Lib.hid hnl
  have HRL := Lib.hid hrl
  clear HS5 HSN HDO2 hO hNb hRb hnl hrl HFA HMAY
  have c0' := HRb.out.cell 0
  have cq := HO.out.q.cell 0
  have cr0 : wc.cell? ⟨rb, 0, none⟩ = some (.int .i64 de) := HRb.out.cell 0
  have cq0 : wc.cell? ⟨w.heap.size, 0, none⟩ = some (.int .i64 qk) := HO.out.q.cell 0
  clear c0' cq
  by_cases he : de = 0
  ·
   by_cases hk : qk = 2
   ·
    obtain ⟨f1, f2, f3⟩ := HFIT.out he hk
    obtain ⟨N, hN⟩ : ∃ N : Nat, qn = (N : Int) := ⟨qn.toNat, by omega⟩
    subst hN he hk
    rcases HACT.out with ha | ha
    ·
     have hoth : ∀ W, Calls Tryz.prog 32 #[.agg m.cells.toArray] W fun e w' => e = .returned (.int .i64 1) ∧ Below W.heap.size W w' := fun W => by have q := HOTH.out W; rw [ha] at q; exact q
     obtain ⟨g0, cap, cur, hv, hge, hcell, hncap, hcm, hcs, htk⟩ : ∃ g cap cur, Value.slice S1 l1.length c1 = .slice (some ⟨g, 0, none⟩) l1.length cap ∧ B ≤ g ∧ Blk wc g 5 cur ∧ l1.length ≤ cap ∧ cap ≤ maxLen ∧ cur.size = cap * 1 ∧ cur.toList.take (l1.length * 1) = l1.map u8v := by
      rcases HO.out.md.s1.2 with ⟨_, h0⟩ | h
      ·
       have := HL1.out; have := HSL.out; omega
      ·
       exact h
     injection hv with e1 _ e2
     subst e1 e2
     have HOTH2 := Lib.hid hoth
     have HC := Lib.hid hcell
     have HCS := Lib.hid hcs
     have HTK := Lib.hid htk
     have HGE := Lib.hid hge
     have HF2 := Lib.hid f2
     have hN32 : IntKind.i64.wrap ((N : Int) * 320) = ((N * 320 : Nat) : Int) := by rw [IntWalk.i64_in _ (by have := HSL.out; omega)]; omega
     have hNl : N * 320 + l.length ≤ l1.length := by have := HL1.out; omega
     have HNLE := Lib.hid hNl
     have HLP := Lib.hid f3
     clear hoth hcell hcs htk hge f1 f2 f3
     go_upto_region 7 with fail
     clear cr0 cq0
     have HO := Lib.hid (HO.out.later ((Below.refl _ _).drew))
     have HC := Lib.hid (HC.out.below ((Below.refl _ wc).drew) HC.out.lt)
     have HNb := Lib.hid (HNb.out.below ((Below.refl _ wc).drew) HNb.out.lt)
     have HRb := Lib.hid (HRb.out.below ((Below.refl _ wc).drew) HRb.out.lt)
     have hqq : ∀ W, DoAt w W B b c m l0 l1 K kc F fc S0 c0 (some ⟨g0, 0, none⟩) c1 #[.int .i64 2, .int .i64 (N : Int), .slice SB sl sc] → (sldM (.pointer (some ⟨b, 7, none⟩))).run Tryz.prog W = .ok (.agg m.cells.toArray) W ∧ W.cell? ⟨b, 114, none⟩ = some (.slice S0 l0.length c0) ∧ W.cell? ⟨b, 115, none⟩ = some (.slice (some ⟨g0, 0, none⟩) l1.length c1) ∧ W.cell? ⟨w.heap.size, 1, none⟩ = some (.int .i64 (N : Int)) ∧ W.cell? ⟨w.heap.size, 2, none⟩ = some (.slice SB sl sc) := fun W hW => ⟨run_sldM (Mt.cells_len HOK.out) hW.md.range, hW.md.cell0, hW.md.cell1, hW.q.cell 1, hW.q.cell 2⟩
     have HS7 := Lib.hid hqq
     have hs0 := hqq _ HO.out
     clear hqq
     refine wp_region_held_drew (S := (fun W => (sldM (.pointer (some ⟨b, 7, none⟩))).run Tryz.prog W = .ok (.agg m.cells.toArray) W ∧ W.cell? ⟨b, 114, none⟩ = some (.slice S0 l0.length c0) ∧ W.cell? ⟨b, 115, none⟩ = some (.slice (some ⟨g0, 0, none⟩) l1.length c1) ∧ W.cell? ⟨w.heap.size, 1, none⟩ = some (.int .i64 (N : Int)) ∧ W.cell? ⟨w.heap.size, 2, none⟩ = some (.slice SB sl sc))) (by kernel_rfl) ?_ (fun hHeld => ?_)
     ·
      exact hs0
     generalize World.drew _ = Wd at HO HC HNb HRb hs0 hHeld ⊢
     refine tk 0 (h := ?_)
     refine tk 1 (h := ?_)
     refine tk 2 (h := ?_)
     refine tk 3 (h := ?_)
     refine tk 4 (h := ?_)
     refine tk 6 (h := ?_)
     refine tk 7 (h := ?_)
     refine tk 10 (h := ?_)
     refine tk 11 (h := ?_)
     refine tk 12 (h := ?_)
     refine tk 14 (h := ?_)
     refine tk 15 (h := ?_)
     refine rd 5 (h := fun K hK => ?_)
     go_simp
     refine (HOTH2.out _).mono ?_
     rintro e w6 ⟨rfl, hb6⟩
     have hO := HO.out.later hb6
     have hC := HC.out.below hb6 HC.out.lt
     have HNb := Lib.hid (HNb.out.below hb6 HNb.out.lt)
     have HRb := Lib.hid (HRb.out.below hb6 HRb.out.lt)
     clear HO HC
     have HO := Lib.hid hO
     have HC := Lib.hid hC
     clear hO hC hb6
     go_wp2_with fail
     refine so hK (by (try dsimp only); (exact HS7.out _ HO.out)) (h := fun hHeld => ?_)
     clear hK K
     refine tk 8 (h := ?_)
     refine tk 9 (h := ?_)
     have hcd : 0 ≤ (N : Int) * 320 ∧ (N : Int) * 320 ≤ (l1.length : Int) := by have := HNLE.out; omega
     have htn : ((N : Int) * 320).toNat = N * 320 := by omega
     have hnc : ¬ (c1 = N * 320) := by have := HNLE.out; have := HLP.out; omega
     refine tk 13 (h := ?_)
     refine rd 16 (h := fun K hK => ?_)
     refine step_copy_only rfl (.tmp 59) (.tmp 61) 22 22 (by rfl) 5 Tryz.underlying22 info_s8n (some ⟨g0, N * 320, none⟩) SB (l1.length - N * 320) (c1 - N * 320) sl sc (by rfl) (by rfl) g0 (N * 320) cur.toList 5 (by rw [Array.toArray_toList]; exact HC.out) (l.map u8v) (by rw [List.length_map, HLEN.out]; exact (Nat.min_eq_left (by have := HNLE.out; have := HLEN.out; omega)).symm) (fun h => ⟨rfl, srcfN (HRD.out.below HO.out.bel) h⟩) (by rw [List.length_map]; have hcl : cur.toList.length = cur.size := Array.length_toList; have := HNLE.out; have := HCS.out; omega) (u8v_one _) ?_
     intro w6 hg6 ho6
     have hmd := HO.out.md.copy1 (cur := cur) HC.out rfl ho6 HGE.out (l2 := wrB l1 N l) (wrB_len (by have := HNLE.out; omega)) (own_spliceM HO.out.md.s1 HC.out HNLE.out hg6)
     have HR := Lib.hid (HO.out.r.only ho6 (by have := Blk.ne_ HO.out.r HC.out (by decide); simpa using this))
     have HNb := Lib.hid (HNb.out.only ho6 (by have := Blk.ne_ HNb.out HC.out (by decide); simpa using this))
     have HRb := Lib.hid (HRb.out.only ho6 (by have := Blk.ne_ HRb.out HC.out (by decide); simpa using this))
     have HQ := Lib.hid (HO.out.q.only ho6 (by have := Blk.ne_ HO.out.q HC.out (by decide); simpa using this))
     have HON := Lib.hid ((Only.of_below (S := S) HO.out.bel).trans (ho6.mono (fun k hk => by rw [List.mem_singleton.1 hk]; exact .inl (HSS1.out g0 rfl))))
     have HMD := Lib.hid hmd
     clear hmd HO HC
     refine so hK (by (try dsimp only); (exact ⟨run_sldM (Mt.cells_len HOK.out) HMD.out.range, by have q := HMD.out.cell0; (try rw [wrB_len (show ((N : Int) * 320).toNat + l.length ≤ l1.length from by have := HNLE.out; omega)] at q); exact q, by have q := HMD.out.cell1; (try rw [wrB_len (show ((N : Int) * 320).toNat + l.length ≤ l1.length from by have := HNLE.out; omega)] at q); exact q, HQ.out.cell 1, HQ.out.cell 2⟩)) (h := fun hHeld => ?_)
     clear hK K
     refine wpAnyH_done (by kernel_rfl) ?_ _
     try simp only [Act.put, List.getElem_toArray, List.getElem_cons_succ, List.getElem_cons_zero, List.setIfInBounds_toArray, List.set_cons_zero, List.set_cons_succ]
     go_upto_region 8 with fail
     have hmd := HMD.out
     have hld : (sldM (.pointer (some ⟨nb, 0, none⟩))).run Tryz.prog w6 = .ok (.agg DA) w6 := by
      have q := HNb.out
      rw [← HDA.out] at q ⊢
      exact run_sldM (Mt.cells_len HDOK.out) q.whole
     have hst := run_sstMo (o := 7) hmd.blk (by rw [List.size_toArray, mdC_len (c.cells_len K kc F fc) hmd.ok]; omega) dm HDOK.out
     have hmd2 := hmd.putM dm HDOK.out
     have ho2 : Only [b] w6 (w6.setCells b 7 dm.cells) := only_setCells _ _ _ (Only.refl _ _)
     have n1 : rb ∉ [b] := by have := Blk.ne_ HRb.out hmd.blk (by decide); simpa using this
     have n2 : w.heap.size + 1 ∉ [b] := by have := Blk.ne_ HR.out hmd.blk (by decide); simpa using this
     have hrb2 := HRb.out.only ho2 n1
     have hr2 := HR.out.only ho2 n2
     have hldr := run_sldR rfl hrb2.whole
     have hstr := run_sstR 0 dn dg hr2 rfl
     have hfin := hr2.setRow_m #[.int .i64 0, .int .i64 dn, .int .i64 dg]
     have hmd3 := hmd2.putR hr2 (by decide) (by decide) #[.int .i64 0, .int .i64 dn, .int .i64 dg]
     have hon := (HON.out.cellsM (.inl HSB.out) dm.cells 7).rowM (.inr (Nat.le_succ _)) #[.int .i64 0, .int .i64 dn, .int .i64 dg]
     have HFIN := Lib.hid hfin
     have HMD3 := Lib.hid hmd3
     have HON3 := Lib.hid hon
     clear hfin hmd3 hon hr2 hrb2 n1 n2 ho2 hmd2 hmd
     rw [HDA.out] at hst
     obtain ⟨DL, hDL⟩ : ∃ DL, dm.cells = DL := ⟨_, rfl⟩
     rw [hDL] at hst hldr hstr HMD3 HON3 HFIN
     clear hDL
     go_wp2_with fail
     refine bodyPost_ret (results_cell_row rfl _ _ (w.heap.size + 1) 37 #[.int .i64 0, .int .i64 dn, .int .i64 dg] (0, 0) _ rfl HFIN.out Tryz.underlying37 rfl info_sRp) rfl ?_
     have e1 : slotA 0 2 (N : Int) l l1 = wrB l1 N l := by unfold slotA; rw [if_pos ⟨rfl, rfl⟩]
     rw [← HN0.out, ← HN1.out, if_pos ha, if_pos ha, e1]
     exact ⟨rfl, HMD3.out, HON3.out⟩
    ·
     have hoth : ∀ W, Calls Tryz.prog 32 #[.agg m.cells.toArray] W fun e w' => e = .returned (.int .i64 0) ∧ Below W.heap.size W w' := fun W => by have q := HOTH.out W; rw [ha] at q; exact q
     obtain ⟨g0, cap, cur, hv, hge, hcell, hncap, hcm, hcs, htk⟩ : ∃ g cap cur, Value.slice S0 l0.length c0 = .slice (some ⟨g, 0, none⟩) l0.length cap ∧ B ≤ g ∧ Blk wc g 5 cur ∧ l0.length ≤ cap ∧ cap ≤ maxLen ∧ cur.size = cap * 1 ∧ cur.toList.take (l0.length * 1) = l0.map u8v := by
      rcases HO.out.md.s0.2 with ⟨_, h0⟩ | h
      ·
       have := HL0.out; have := HSL.out; omega
      ·
       exact h
     injection hv with e1 _ e2
     subst e1 e2
     have HOTH2 := Lib.hid hoth
     have HC := Lib.hid hcell
     have HCS := Lib.hid hcs
     have HTK := Lib.hid htk
     have HGE := Lib.hid hge
     have HF2 := Lib.hid f2
     have hN32 : IntKind.i64.wrap ((N : Int) * 320) = ((N * 320 : Nat) : Int) := by rw [IntWalk.i64_in _ (by have := HSL.out; omega)]; omega
     have hNl : N * 320 + l.length ≤ l0.length := by have := HL0.out; omega
     have HNLE := Lib.hid hNl
     have HLP := Lib.hid f3
     clear hoth hcell hcs htk hge f1 f2 f3
     go_upto_region 7 with fail
     clear cr0 cq0
     have HO := Lib.hid (HO.out.later ((Below.refl _ _).drew))
     have HC := Lib.hid (HC.out.below ((Below.refl _ wc).drew) HC.out.lt)
     have HNb := Lib.hid (HNb.out.below ((Below.refl _ wc).drew) HNb.out.lt)
     have HRb := Lib.hid (HRb.out.below ((Below.refl _ wc).drew) HRb.out.lt)
     have hqq : ∀ W, DoAt w W B b c m l0 l1 K kc F fc (some ⟨g0, 0, none⟩) c0 S1 c1 #[.int .i64 2, .int .i64 (N : Int), .slice SB sl sc] → (sldM (.pointer (some ⟨b, 7, none⟩))).run Tryz.prog W = .ok (.agg m.cells.toArray) W ∧ W.cell? ⟨b, 114, none⟩ = some (.slice (some ⟨g0, 0, none⟩) l0.length c0) ∧ W.cell? ⟨b, 115, none⟩ = some (.slice S1 l1.length c1) ∧ W.cell? ⟨w.heap.size, 1, none⟩ = some (.int .i64 (N : Int)) ∧ W.cell? ⟨w.heap.size, 2, none⟩ = some (.slice SB sl sc) := fun W hW => ⟨run_sldM (Mt.cells_len HOK.out) hW.md.range, hW.md.cell0, hW.md.cell1, hW.q.cell 1, hW.q.cell 2⟩
     have HS7 := Lib.hid hqq
     have hs0 := hqq _ HO.out
     clear hqq
     refine wp_region_held_drew (S := (fun W => (sldM (.pointer (some ⟨b, 7, none⟩))).run Tryz.prog W = .ok (.agg m.cells.toArray) W ∧ W.cell? ⟨b, 114, none⟩ = some (.slice (some ⟨g0, 0, none⟩) l0.length c0) ∧ W.cell? ⟨b, 115, none⟩ = some (.slice S1 l1.length c1) ∧ W.cell? ⟨w.heap.size, 1, none⟩ = some (.int .i64 (N : Int)) ∧ W.cell? ⟨w.heap.size, 2, none⟩ = some (.slice SB sl sc))) (by kernel_rfl) ?_ (fun hHeld => ?_)
     ·
      exact hs0
     generalize World.drew _ = Wd at HO HC HNb HRb hs0 hHeld ⊢
     refine tk 0 (h := ?_)
     refine tk 1 (h := ?_)
     refine tk 2 (h := ?_)
     refine tk 3 (h := ?_)
     refine tk 4 (h := ?_)
     refine tk 6 (h := ?_)
     refine tk 7 (h := ?_)
     refine tk 10 (h := ?_)
     refine tk 11 (h := ?_)
     refine tk 12 (h := ?_)
     refine tk 14 (h := ?_)
     refine tk 15 (h := ?_)
     refine rd 5 (h := fun K hK => ?_)
     go_simp
     refine (HOTH2.out _).mono ?_
     rintro e w6 ⟨rfl, hb6⟩
     have hO := HO.out.later hb6
     have hC := HC.out.below hb6 HC.out.lt
     have HNb := Lib.hid (HNb.out.below hb6 HNb.out.lt)
     have HRb := Lib.hid (HRb.out.below hb6 HRb.out.lt)
     clear HO HC
     have HO := Lib.hid hO
     have HC := Lib.hid hC
     clear hO hC hb6
     go_wp2_with fail
     refine so hK (by (try dsimp only); (exact HS7.out _ HO.out)) (h := fun hHeld => ?_)
     clear hK K
     refine tk 8 (h := ?_)
     refine tk 9 (h := ?_)
     have hcd : 0 ≤ (N : Int) * 320 ∧ (N : Int) * 320 ≤ (l0.length : Int) := by have := HNLE.out; omega
     have htn : ((N : Int) * 320).toNat = N * 320 := by omega
     have hnc : ¬ (c0 = N * 320) := by have := HNLE.out; have := HLP.out; omega
     refine tk 13 (h := ?_)
     refine rd 16 (h := fun K hK => ?_)
     refine step_copy_only rfl (.tmp 59) (.tmp 61) 22 22 (by rfl) 5 Tryz.underlying22 info_s8n (some ⟨g0, N * 320, none⟩) SB (l0.length - N * 320) (c0 - N * 320) sl sc (by rfl) (by rfl) g0 (N * 320) cur.toList 5 (by rw [Array.toArray_toList]; exact HC.out) (l.map u8v) (by rw [List.length_map, HLEN.out]; exact (Nat.min_eq_left (by have := HNLE.out; have := HLEN.out; omega)).symm) (fun h => ⟨rfl, srcfN (HRD.out.below HO.out.bel) h⟩) (by rw [List.length_map]; have hcl : cur.toList.length = cur.size := Array.length_toList; have := HNLE.out; have := HCS.out; omega) (u8v_one _) ?_
     intro w6 hg6 ho6
     have hmd := HO.out.md.copy0 (cur := cur) HC.out rfl ho6 HGE.out (l2 := wrB l0 N l) (wrB_len (by have := HNLE.out; omega)) (own_spliceM HO.out.md.s0 HC.out HNLE.out hg6)
     have HR := Lib.hid (HO.out.r.only ho6 (by have := Blk.ne_ HO.out.r HC.out (by decide); simpa using this))
     have HNb := Lib.hid (HNb.out.only ho6 (by have := Blk.ne_ HNb.out HC.out (by decide); simpa using this))
     have HRb := Lib.hid (HRb.out.only ho6 (by have := Blk.ne_ HRb.out HC.out (by decide); simpa using this))
     have HQ := Lib.hid (HO.out.q.only ho6 (by have := Blk.ne_ HO.out.q HC.out (by decide); simpa using this))
     have HON := Lib.hid ((Only.of_below (S := S) HO.out.bel).trans (ho6.mono (fun k hk => by rw [List.mem_singleton.1 hk]; exact .inl (HSS0.out g0 rfl))))
     have HMD := Lib.hid hmd
     clear hmd HO HC
     refine so hK (by (try dsimp only); (exact ⟨run_sldM (Mt.cells_len HOK.out) HMD.out.range, by have q := HMD.out.cell0; (try rw [wrB_len (show ((N : Int) * 320).toNat + l.length ≤ l0.length from by have := HNLE.out; omega)] at q); exact q, by have q := HMD.out.cell1; (try rw [wrB_len (show ((N : Int) * 320).toNat + l.length ≤ l0.length from by have := HNLE.out; omega)] at q); exact q, HQ.out.cell 1, HQ.out.cell 2⟩)) (h := fun hHeld => ?_)
     clear hK K
     refine wpAnyH_done (by kernel_rfl) ?_ _
     try simp only [Act.put, List.getElem_toArray, List.getElem_cons_succ, List.getElem_cons_zero, List.setIfInBounds_toArray, List.set_cons_zero, List.set_cons_succ]
     go_upto_region 8 with fail
     have hmd := HMD.out
     have hld : (sldM (.pointer (some ⟨nb, 0, none⟩))).run Tryz.prog w6 = .ok (.agg DA) w6 := by
      have q := HNb.out
      rw [← HDA.out] at q ⊢
      exact run_sldM (Mt.cells_len HDOK.out) q.whole
     have hst := run_sstMo (o := 7) hmd.blk (by rw [List.size_toArray, mdC_len (c.cells_len K kc F fc) hmd.ok]; omega) dm HDOK.out
     have hmd2 := hmd.putM dm HDOK.out
     have ho2 : Only [b] w6 (w6.setCells b 7 dm.cells) := only_setCells _ _ _ (Only.refl _ _)
     have n1 : rb ∉ [b] := by have := Blk.ne_ HRb.out hmd.blk (by decide); simpa using this
     have n2 : w.heap.size + 1 ∉ [b] := by have := Blk.ne_ HR.out hmd.blk (by decide); simpa using this
     have hrb2 := HRb.out.only ho2 n1
     have hr2 := HR.out.only ho2 n2
     have hldr := run_sldR rfl hrb2.whole
     have hstr := run_sstR 0 dn dg hr2 rfl
     have hfin := hr2.setRow_m #[.int .i64 0, .int .i64 dn, .int .i64 dg]
     have hmd3 := hmd2.putR hr2 (by decide) (by decide) #[.int .i64 0, .int .i64 dn, .int .i64 dg]
     have hon := (HON.out.cellsM (.inl HSB.out) dm.cells 7).rowM (.inr (Nat.le_succ _)) #[.int .i64 0, .int .i64 dn, .int .i64 dg]
     have HFIN := Lib.hid hfin
     have HMD3 := Lib.hid hmd3
     have HON3 := Lib.hid hon
     clear hfin hmd3 hon hr2 hrb2 n1 n2 ho2 hmd2 hmd
     rw [HDA.out] at hst
     obtain ⟨DL, hDL⟩ : ∃ DL, dm.cells = DL := ⟨_, rfl⟩
     rw [hDL] at hst hldr hstr HMD3 HON3 HFIN
     clear hDL
     go_wp2_with fail
     refine bodyPost_ret (results_cell_row rfl _ _ (w.heap.size + 1) 37 #[.int .i64 0, .int .i64 dn, .int .i64 dg] (0, 0) _ rfl HFIN.out Tryz.underlying37 rfl info_sRp) rfl ?_
     have e1 : slotA 0 2 (N : Int) l l0 = wrB l0 N l := by unfold slotA; rw [if_pos ⟨rfl, rfl⟩]
     rw [← HN0.out, ← HN1.out, if_neg (by rw [ha]; decide), if_neg (by rw [ha]; decide), e1]
     exact ⟨rfl, HMD3.out, HON3.out⟩
   ·
    subst he
    have HMD := Lib.hid HO.out.md
    have HON := Lib.hid (Only.of_below (S := S) HO.out.bel)
    have HR := Lib.hid HO.out.r
    clear HO
    have hmd := HMD.out
    have hld : (sldM (.pointer (some ⟨nb, 0, none⟩))).run Tryz.prog wc = .ok (.agg DA) wc := by
     have q := HNb.out
     rw [← HDA.out] at q ⊢
     exact run_sldM (Mt.cells_len HDOK.out) q.whole
    have hst := run_sstMo (o := 7) hmd.blk (by rw [List.size_toArray, mdC_len (c.cells_len K kc F fc) hmd.ok]; omega) dm HDOK.out
    have hmd2 := hmd.putM dm HDOK.out
    have ho2 : Only [b] wc (wc.setCells b 7 dm.cells) := only_setCells _ _ _ (Only.refl _ _)
    have n1 : rb ∉ [b] := by have := Blk.ne_ HRb.out hmd.blk (by decide); simpa using this
    have n2 : w.heap.size + 1 ∉ [b] := by have := Blk.ne_ HR.out hmd.blk (by decide); simpa using this
    have hrb2 := HRb.out.only ho2 n1
    have hr2 := HR.out.only ho2 n2
    have hldr := run_sldR rfl hrb2.whole
    have hstr := run_sstR 0 dn dg hr2 rfl
    have hfin := hr2.setRow_m #[.int .i64 0, .int .i64 dn, .int .i64 dg]
    have hmd3 := hmd2.putR hr2 (by decide) (by decide) #[.int .i64 0, .int .i64 dn, .int .i64 dg]
    have hon := (HON.out.cellsM (.inl HSB.out) dm.cells 7).rowM (.inr (Nat.le_succ _)) #[.int .i64 0, .int .i64 dn, .int .i64 dg]
    have HFIN := Lib.hid hfin
    have HMD3 := Lib.hid hmd3
    have HON3 := Lib.hid hon
    clear hfin hmd3 hon hr2 hrb2 n1 n2 ho2 hmd2 hmd
    rw [HDA.out] at hst
    obtain ⟨DL, hDL⟩ : ∃ DL, dm.cells = DL := ⟨_, rfl⟩
    rw [hDL] at hst hldr hstr HMD3 HON3 HFIN
    clear hDL
    go_wp2_with fail
    refine bodyPost_ret (results_cell_row rfl _ _ (w.heap.size + 1) 37 #[.int .i64 0, .int .i64 dn, .int .i64 dg] (0, 0) _ rfl HFIN.out Tryz.underlying37 rfl info_sRp) rfl ?_
    have e0 : ∀ lo, slotA 0 qk qn l lo = lo := fun lo => by unfold slotA; rw [if_neg (fun q => hk q.2)]
    rw [← HN0.out, ← HN1.out, e0, e0, ite_self, ite_self]
    exact ⟨rfl, HMD3.out, HON3.out⟩
  ·
   have HMD := Lib.hid HO.out.md
   have HON := Lib.hid (Only.of_below (S := S) HO.out.bel)
   have HR := Lib.hid HO.out.r
   clear HO
   have hmd := HMD.out
   have hld : (sldM (.pointer (some ⟨nb, 0, none⟩))).run Tryz.prog wc = .ok (.agg DA) wc := by
    have q := HNb.out
    rw [← HDA.out] at q ⊢
    exact run_sldM (Mt.cells_len HDOK.out) q.whole
   have hst := run_sstMo (o := 7) hmd.blk (by rw [List.size_toArray, mdC_len (c.cells_len K kc F fc) hmd.ok]; omega) dm HDOK.out
   have hmd2 := hmd.putM dm HDOK.out
   have ho2 : Only [b] wc (wc.setCells b 7 dm.cells) := only_setCells _ _ _ (Only.refl _ _)
   have n1 : rb ∉ [b] := by have := Blk.ne_ HRb.out hmd.blk (by decide); simpa using this
   have n2 : w.heap.size + 1 ∉ [b] := by have := Blk.ne_ HR.out hmd.blk (by decide); simpa using this
   have hrb2 := HRb.out.only ho2 n1
   have hr2 := HR.out.only ho2 n2
   have hldr := run_sldR rfl hrb2.whole
   have hstr := run_sstR de dn dg hr2 rfl
   have hfin := hr2.setRow_m #[.int .i64 de, .int .i64 dn, .int .i64 dg]
   have hmd3 := hmd2.putR hr2 (by decide) (by decide) #[.int .i64 de, .int .i64 dn, .int .i64 dg]
   have hon := (HON.out.cellsM (.inl HSB.out) dm.cells 7).rowM (.inr (Nat.le_succ _)) #[.int .i64 de, .int .i64 dn, .int .i64 dg]
   have HFIN := Lib.hid hfin
   have HMD3 := Lib.hid hmd3
   have HON3 := Lib.hid hon
   clear hfin hmd3 hon hr2 hrb2 n1 n2 ho2 hmd2 hmd
   rw [HDA.out] at hst
   obtain ⟨DL, hDL⟩ : ∃ DL, dm.cells = DL := ⟨_, rfl⟩
   rw [hDL] at hst hldr hstr HMD3 HON3 HFIN
   clear hDL
   go_wp2_with fail
   refine bodyPost_ret (results_cell_row rfl _ _ (w.heap.size + 1) 37 #[.int .i64 de, .int .i64 dn, .int .i64 dg] (0, 0) _ rfl HFIN.out Tryz.underlying37 rfl info_sRp) rfl ?_
   have e0 : ∀ lo, slotA de qk qn l lo = lo := fun lo => by unfold slotA; rw [if_neg (fun q => he q.1)]
   rw [← HN0.out, ← HN1.out, e0, e0, ite_self, ite_self]
   exact ⟨rfl, HMD3.out, HON3.out⟩
end Go.Proofs.YtpafenlcgcenlaaGreatDoor
namespace Go.Proofs.YtpafenlcgcenlaaGreatDoor
open Go Go.RowKit
set_option linter.unusedVariables false
set_option linter.unusedSimpArgs false
/-- The blocks from B on, below N. -/
def win (B N : Nat) : List Nat := List.range' B (N - B)
theorem mem_win {B N k : Nat} : k ∈ win B N ↔ B ≤ k ∧ k < N := by
 unfold win
 rw [List.mem_range'_1]
 omega
structure MSt where
 m : Mt
 l0 : List UInt8
 l1 : List UInt8
def MSt.oth (s : MSt) : List UInt8 := if s.m.act = 0 then s.l1 else s.l0
def MSt.run (s : MSt) : List UInt8 := if s.m.act = 0 then s.l0 else s.l1
/-- What holds of a Model. -/
structure MInv (c : Cf) (s : MSt) : Prop where
 right : s.m.right = true
 quo : QuotaP s.m c.quota
 l0 : (s.l0.length : Int) = c.slot * 320
 l1 : (s.l1.length : Int) = c.slot * 320
/-- A Model in the world. -/
def MdB (w : World) (B N b : Nat) (c : Cf) (s : MSt) : Prop := ∃ (K : Option Addr) (kc : Nat) (F : Option Addr) (fc : Nat) (S0 : Option Addr) (c0 : Nat) (S1 : Option Addr) (c1 : Nat), MdAt w B b c s.m s.l0 s.l1 K kc F fc S0 c0 S1 c1 ∧ b < N ∧ (∀ k, (Value.slice K c.key.length kc).ownBlock = some k → k < N) ∧ (∀ k, (Value.slice S0 s.l0.length c0).ownBlock = some k → k < N) ∧ (∀ k, (Value.slice S1 s.l1.length c1).ownBlock = some k → k < N)
section
variable {w w' : World} {B N b : Nat} {c : Cf} {s : MSt}
theorem MdB.only (h : MdB w B N b c s) {S : List Nat} (ho : Only S w w') (hS : ∀ k, k ∈ S → ¬ (B ≤ k ∧ k < N)) : MdB w' B N b c s := by
 obtain ⟨K, kc, F, fc, S0, c0, S1, c1, hm, hb, hk, h0, h1⟩ := h
 have hge : ∀ {v : Value} {n : Nat} {xs : List Value}, w.ownsRow B 5 1 v n xs → ∀ k, v.ownBlock = some k → B ≤ k := fun ho k e => (ho.lt k e).1
 exact ⟨K, kc, F, fc, S0, c0, S1, c1, ⟨hm.blk.only ho (fun q => hS b q ⟨hm.ge, hb⟩), hm.ok, own_only hm.key ho (fun k e q => hS k q ⟨hge hm.key k e, hk k e⟩), own_only hm.s0 ho (fun k e q => hS k q ⟨hge hm.s0 k e, h0 k e⟩), own_only hm.s1 ho (fun k e q => hS k q ⟨hge hm.s1 k e, h1 k e⟩), hm.ge, hm.ap0, hm.ap1⟩, hb, hk, h0, h1⟩
theorem MdB.later (h : MdB w B N b c s) (hb : Below w.heap.size w w') : MdB w' B N b c s := h.only (S := []) (Only.of_below hb) (fun k q => by cases q)
end
/-- A new Model. -/
def st0 (c : Cf) : MSt := ⟨newM c, newS c, repB c⟩
theorem newM_right {c : Cf} (h : c.right = true) : (newM c).right = true := by
 have hs := Cf.slot_b h
 have hf := Cf.first_b h
 refine (right_iff _).2 ⟨Or.inl rfl, ?_, zero_may, zero_may, ?_, ⟨Int.le_refl 0, show (0 : Int) ≤ 1073741824 by decide⟩, got0, tr0, ?_⟩
 ·
  unfold newM Img.may
  dsimp only
  rw [if_neg (by decide), if_neg (by omega)]
  simp
  omega
 ·
  show (Img.mk 1 (c.first.length : Int) (sha c.first)).none = false
  rw [Img.may_v]
  ·
   simp
  ·
   unfold Img.may
   dsimp only
   rw [if_neg (by decide), if_neg (by omega)]
   simp
   omega
 ·
  rw [phase0 rfl]
  rfl
theorem Cf.quota_b {c : Cf} (h : c.right = true) : 1 ≤ c.quota ∧ c.quota ≤ c.slot := by
 unfold Cf.right at h
 simp only [Bool.and_eq_true, decide_eq_true_eq] at h
 omega
theorem Cf.rights_b {c : Cf} (h : c.right = true) : 0 ≤ c.rights ∧ c.rights ≤ 1023 := by
 unfold Cf.right at h
 simp only [Bool.and_eq_true, decide_eq_true_eq] at h
 omega
theorem Cf.key_b {c : Cf} (h : c.right = true) : 1 ≤ c.key.length ∧ c.key.length ≤ 64 := by
 unfold Cf.right at h
 simp only [Bool.and_eq_true, decide_eq_true_eq] at h
 omega
theorem repB_len (c : Cf) : (repB c).length = (c.slot * 320).toNat := by unfold repB; rw [List.length_replicate]
theorem st0_inv {c : Cf} (h : c.right = true) : MInv c (st0 c) := by
 have hs := Cf.slot_b h
 have hf := Cf.first_b h
 have hr := repB_len c
 refine ⟨newM_right h, fun hp => absurd (show (0 : Int) = 1 from hp) (by decide), ?_, ?_⟩
 ·
  show ((newS c).length : Int) = _
  unfold newS
  rw [List.length_append, List.length_drop]
  omega
 ·
  show ((repB c).length : Int) = _
  omega
/-- What a Model's Do turns, and answers. -/
def stepM (c : Cf) (s : MSt) (k n : Int) (l : List UInt8) : MSt × Int × Int × Int :=
 if mayK c.rights.toNat k = true then
  (⟨(doA s.m (factD c s.m s.oth l) k n l c.quota).m, if s.m.act = 0 then s.l0 else slotA (doA s.m (factD c s.m s.oth l) k n l c.quota).e k n l s.l0, if s.m.act = 0 then slotA (doA s.m (factD c s.m s.oth l) k n l c.quota).e k n l s.l1 else s.l1⟩, (doA s.m (factD c s.m s.oth l) k n l c.quota).e, (doA s.m (factD c s.m s.oth l) k n l c.quota).n, (doA s.m (factD c s.m s.oth l) k n l c.quota).g)
 else (s, 14, 0, 0)
theorem slotA_len {c : Cf} {s : MSt} (hc : c.right = true) (h : MInv c s) (f : Fc) (k n : Int) (l lo : List UInt8) (hlo : (lo.length : Int) = c.slot * 320) : (slotA (doA s.m f k n l c.quota).e k n l lo).length = lo.length := by
 unfold slotA
 split
 ·
  rename_i hq
  obtain ⟨he, rfl⟩ := hq
  obtain ⟨a1, a2, a3, a4, a5, _⟩ := wr_facts h.right f n l c.quota he
  have q := wr_fits (h.quo a1) (Cf.quota_b hc).2 a3 a4 a5
  exact wrB_len (by rw [a2]; omega)
 ·
  rfl
theorem MInv.step {c : Cf} {s : MSt} (hc : c.right = true) (h : MInv c s) (k n : Int) (l : List UInt8) : MInv c (stepM c s k n l).1 := by
 unfold stepM
 split
 ·
  refine ⟨(right_keeps h.right _ k n l c.quota).1, quota_keeps h.right _ k n l c.quota h.quo, ?_, ?_⟩
  ·
   dsimp only
   split
   ·
    exact h.l0
   ·
    rw [slotA_len hc h _ k n l s.l0 h.l0]; exact h.l0
  ·
   dsimp only
   split
   ·
    rw [slotA_len hc h _ k n l s.l1 h.l1]; exact h.l1
   ·
    exact h.l1
 ·
  exact h
theorem mnewB (w : World) (c : Cf) (K : Option Addr) (kc : Nat) (F : Option Addr) (fc : Nat) (hs : c.nm.size ≤ 1000000) (hK : Reads w K c.key.length (c.key.map u8v)) (hF : Reads w F c.first.length (c.first.map u8v)) (hyes : c.right = true) : Calls Tryz.prog 8 #[.agg (c.cells K kc F fc).toArray] w fun e w' => ∃ (b : Nat), e = .returned (.pointer (some ⟨b, 0, none⟩)) ∧ MdB w' w.heap.size w'.heap.size b c (st0 c) ∧ Below w.heap.size w w' := by
 have h1 := Cf.slot_b hyes
 have h2 := Cf.first_b hyes
 have h3 := Cf.key_b hyes
 refine (mnew_yes w c K kc F fc hs hK (by omega) hF (by omega) hyes).mono ?_
 rintro e w' ⟨b, K', kc', S0, c0, S1, c1, rfl, hm, hb⟩
 exact ⟨b, rfl, ⟨K', kc', F, fc, S0, c0, S1, c1, hm, hm.blk.lt, fun k e => (hm.key.lt k e).2, fun k e => (hm.s0.lt k e).2, fun k e => (hm.s1.lt k e).2⟩, hb⟩
theorem mdoB (w : World) (B N b : Nat) (c : Cf) (s : MSt) (hc : c.right = true) (hi : MInv c s) (h : MdB w B N b c s) (qk qn : Int) (SB : Option Addr) (sl sc : Nat) (l : List UInt8) (hrd : Reads w SB sl (l.map u8v)) (hsl : sl ≤ 1000) (hsc : sl ≤ sc ∧ sc ≤ maxLen) :
  Calls Tryz.prog 10 #[.pointer (some ⟨b, 0, none⟩), .agg #[.int .i64 qk, .int .i64 qn, .slice SB sl sc]] w fun e w' => e = .returned (.agg #[.int .i64 (stepM c s qk qn l).2.1, .int .i64 (stepM c s qk qn l).2.2.1, .int .i64 (stepM c s qk qn l).2.2.2]) ∧ MdB w' B N b c (stepM c s qk qn l).1 ∧ Only (win B N) w w' := by
 obtain ⟨K, kc, F, fc, S0, c0, S1, c1, hm, hb, hk, h0, h1⟩ := h
 obtain ⟨r0, r1⟩ := Cf.rights_b hc
 have hr : c.rights = ((c.rights.toNat : Nat) : Int) := by omega
 unfold stepM
 by_cases hy : mayK c.rights.toNat qk = true
 ·
  rw [if_pos hy]
  obtain ⟨D, hD⟩ : ∃ D, doA s.m (factD c s.m s.oth l) qk qn l c.quota = D := ⟨_, rfl⟩
  have hl0 := slotA_len hc hi (factD c s.m s.oth l) qk qn l s.l0 hi.l0
  have hl1 := slotA_len hc hi (factD c s.m s.oth l) qk qn l s.l1 hi.l1
  rw [hD] at hl0 hl1
  rw [hD]
  obtain ⟨dm, de, dn, dg⟩ := D
  have h3 := Cf.key_b hc
  refine (mdo_yes w B b c s.m s.l0 s.l1 K kc F fc S0 c0 S1 c1 hm c.rights.toNat hr (by omega) (win B N) (mem_win.2 ⟨hm.ge, hb⟩) (fun k e => mem_win.2 ⟨(hm.s0.lt k e).1, h0 k e⟩) (fun k e => mem_win.2 ⟨(hm.s1.lt k e).1, h1 k e⟩) hi.right hi.quo (Cf.quota_b hc).2 (Cf.slot_b hc) hi.l0 hi.l1 (by omega) qk qn SB sl sc l hrd hsl hsc hy dm de dn dg hD).mono ?_
  rintro e w' ⟨rfl, hm2, ho2⟩
  refine ⟨rfl, ⟨K, kc, F, fc, S0, c0, S1, c1, hm2, hb, hk, ?_, ?_⟩, ho2⟩
  ·
   intro k e
   refine h0 k ?_
   rw [← e]
   dsimp only
   split
   ·
    rfl
   ·
    dsimp only at hl0; rw [hl0]
  ·
   intro k e
   refine h1 k ?_
   rw [← e]
   dsimp only
   split
   ·
    dsimp only at hl1; rw [hl1]
   ·
    rfl
 ·
  rw [if_neg hy]
  refine (mdo_no w B b c s.m s.l0 s.l1 K kc F fc S0 c0 S1 c1 hm c.rights.toNat hr (by omega) qk qn SB sl sc (by simpa using hy)).mono ?_
  rintro e w' ⟨rfl, hb2⟩
  exact ⟨rfl, ⟨K, kc, F, fc, S0, c0, S1, c1, hm.below hb2, hb, hk, h0, h1⟩, Only.of_below hb2⟩
theorem mactB (w : World) (B N b : Nat) (c : Cf) (s : MSt) (hc : c.right = true) (hi : MInv c s) (h : MdB w B N b c s) :
  Calls Tryz.prog 13 #[.pointer (some ⟨b, 0, none⟩)] w (MadeBytes w (s.run.take (s.m.have_ s.m.act).s.toNat)) := by
 obtain ⟨K, kc, F, fc, S0, c0, S1, c1, hm, _⟩ := h
 have hs := Cf.slot_b hc
 have ha := ((right_iff _).1 hi.right).act
 have e0 := hi.l0
 have e1 := hi.l1
 unfold MSt.run
 rcases ha with ha | ha
 ·
  rw [if_pos ha, ha]
  exact mactive0_c w B b c s.m s.l0 s.l1 K kc F fc S0 c0 S1 c1 hm ha (by omega)
 ·
  rw [if_neg (by omega), ha]
  exact mactive1_c w B b c s.m s.l0 s.l1 K kc F fc S0 c0 S1 c1 hm ha (by omega)
/-! ### A status; what errors there are -/
theorem doA_status {m : Mt} (h : m.right = true) (f : Fc) (n : Int) (l : List UInt8) (qu : Int) : doA m f 9 n l qu = ⟨m, 0, m.ph, m.got⟩ := by
 have hd : doesD m f 9 n (l.length : Int) (beginD m f l qu) = ⟨m, 0, m.ph, m.got⟩ := by
  unfold doesD
  rw [if_neg (by decide), if_neg (by decide), if_neg (by decide), if_neg (by decide), if_neg (by decide), if_neg (by decide), if_neg (by decide), if_neg (by decide), if_pos rfl]
 rw [(doA_right h f 9 n l qu).1 (by rw [hd]), hd]
theorem stepM_status {c : Cf} {s : MSt} (hi : MInv c s) (hm : mayK c.rights.toNat 9 = true) (n : Int) (l : List UInt8) : stepM c s 9 n l = (s, 0, s.m.ph, s.m.got) := by
 have e := doA_status hi.right (factD c s.m s.oth l) n l c.quota
 unfold stepM
 rw [if_pos hm, e]
 have q : ∀ lo, slotA 0 9 n l lo = lo := fun lo => by unfold slotA; rw [if_neg (fun h => absurd h.2 (by decide))]
 dsimp only
 rw [q, q, ite_self, ite_self]
end Go.Proofs.YtpafenlcgcenlaaGreatDoor
namespace Go.Proofs.YtpafenlcgcenlaaGreatDoor
open Go Go.RowKit
set_option linter.unusedVariables false
set_option linter.unusedSimpArgs false
attribute [local go_sem ↓] sldM_seal sstM_seal
set_option maxRecDepth 100000 in
set_option maxHeartbeats 2000000 in
theorem mmeta_c (w : World) (B b : Nat) (c : Cf) (m : Mt) (l0 l1 : List UInt8) (K : Option Addr) (kc : Nat) (F : Option Addr) (fc : Nat) (S0 : Option Addr) (c0 : Nat) (S1 : Option Addr) (c1 : Nat) (h : MdAt w B b c m l0 l1 K kc F fc S0 c0 S1 c1) : Calls Tryz.prog 12 #[.pointer (some ⟨b, 0, none⟩)] w fun e w' => e = .returned (.agg m.cells.toArray) ∧ Below w.heap.size w w' := by
 have hn := Blk.new w 44 Tryz.zeroCells44
 have hst := storeM h.ok hn zeroM_size
 have hb0 : Below w.heap.size w (w.alloc (.cells Tryz.zeroCells44 44)) := (Below.refl _ _).alloc (Nat.le_refl _) _
 have hld := run_sldM (Mt.cells_len h.ok) (h.below hb0).range
 have hfin := hn.setRow_m m.cells.toArray
 have hb := below_setRow_m hb0 (Nat.le_refl _) m.cells.toArray
 have HF := Lib.hid hfin
 have HB := Lib.hid hb
 have HL := Lib.hid (Mt.cells_len h.ok)
 clear h hn hb0 hfin hb
 obtain ⟨M, hM⟩ : ∃ M, m.cells.toArray = M := ⟨_, rfl⟩
 have hs : M.size = 107 := by rw [← hM, List.size_toArray]; exact HL.out
 rw [hM] at hst hld HF HB ⊢
 have HS := Lib.hid hs
 clear hM hs HL
 go_enter Tryz.func12, Tryz.ntmps12
 go_wp2_with fail
 refine bodyPost_ret (results_cell_row rfl _ _ w.heap.size 44 M (0, 0) _ rfl HF.out Tryz.underlying44 rfl (by rw [HS.out]; exact info_sM107)) rfl ?_
 exact ⟨rfl, HB.out⟩
theorem mmetaB (w : World) (B N b : Nat) (c : Cf) (s : MSt) (h : MdB w B N b c s) : Calls Tryz.prog 12 #[.pointer (some ⟨b, 0, none⟩)] w fun e w' => e = .returned (.agg s.m.cells.toArray) ∧ Below w.heap.size w w' := by
 obtain ⟨K, kc, F, fc, S0, c0, S1, c1, hm, _⟩ := h
 exact mmeta_c w B b c s.m s.l0 s.l1 K kc F fc S0 c0 S1 c1 hm
end Go.Proofs.YtpafenlcgcenlaaGreatDoor
namespace Go.Proofs.YtpafenlcgcenlaaGreatDoor
open Go Go.RowKit
set_option linter.unusedVariables false
set_option linter.unusedSimpArgs false
/-- A Model of which another Meta, and the slot that is not active, are these. -/
def setO (s : MSt) (m' : Mt) (lo : List UInt8) : MSt := if s.m.act = 0 then ⟨m', s.l0, lo⟩ else ⟨m', lo, s.l1⟩
theorem setO_id (s : MSt) : setO s s.m s.oth = s := by
  unfold setO MSt.oth
  split <;> rfl
theorem setO_m (s : MSt) (m' : Mt) (lo : List UInt8) : (setO s m' lo).m = m' := by unfold setO; split <;> rfl
theorem setO_oth (s : MSt) (m' : Mt) (lo : List UInt8) (h : m'.act = s.m.act) : (setO s m' lo).oth = lo := by
  unfold MSt.oth
  rw [setO_m, h]
  unfold setO
  split <;> rfl
theorem stepM_go (c : Cf) (s : MSt) (m' : Mt) (lo : List UInt8) (h : m'.act = s.m.act) (k n : Int) (l : List UInt8) (hk : mayK c.rights.toNat k = true) (d : Mt) (e a b : Int) (hD : doA m' (factD c m' lo l) k n l c.quota = ⟨d, e, a, b⟩) : stepM c (setO s m' lo) k n l = (setO s d (slotA e k n l lo), e, a, b) := by
  unfold stepM
  rw [if_pos hk, setO_oth s m' lo h, setO_m, hD]
  dsimp only
  rw [h]
  unfold setO
  split
  · rfl
  · rfl
theorem setO_run (s : MSt) (m' : Mt) (lo : List UInt8) (h : m'.act = s.m.act) : (setO s m' lo).run = s.run := by
  unfold MSt.run
  rw [setO_m, h]
  unfold setO
  split <;> rfl
theorem setO_flip (s : MSt) (m' : Mt) (lo : List UInt8) (ha : s.m.act = 0 ∨ s.m.act = 1) (h : m'.act = 1 - s.m.act) : (setO s m' lo).run = lo ∧ (setO s m' lo).oth = s.run := by
  unfold MSt.run MSt.oth
  rw [setO_m, h]
  unfold setO
  rcases ha with a | a <;> simp [a]
theorem stepM_set (c : Cf) (s : MSt) (k n : Int) (l : List UInt8) (hk : mayK c.rights.toNat k = true) : stepM c s k n l = (setO s (doA s.m (factD c s.m s.oth l) k n l c.quota).m (slotA (doA s.m (factD c s.m s.oth l) k n l c.quota).e k n l s.oth), (doA s.m (factD c s.m s.oth l) k n l c.quota).e, (doA s.m (factD c s.m s.oth l) k n l c.quota).n, (doA s.m (factD c s.m s.oth l) k n l c.quota).g) := by
  have q := stepM_go c s s.m s.oth rfl k n l hk _ _ _ _ (rfl : doA s.m (factD c s.m s.oth l) k n l c.quota = ⟨(doA s.m (factD c s.m s.oth l) k n l c.quota).m, (doA s.m (factD c s.m s.oth l) k n l c.quota).e, (doA s.m (factD c s.m s.oth l) k n l c.quota).n, (doA s.m (factD c s.m s.oth l) k n l c.quota).g⟩)
  rw [setO_id] at q
  exact q
end Go.Proofs.YtpafenlcgcenlaaGreatDoor
