/- (*waterlineref21.Model).Do. -/
import Derived.Test.YtpafenlcgcenlaaGreatDoorHeldTk
import Derived.Test.YtpafenlcgcenlaaGreatDoorRmdA
import Derived.Test.YtpafenlcgcenlaaGreatDoorRdB
import Derived.Deep.CutBlock
namespace Go.Proofs.YtpafenlcgcenlaaGreatDoor
open Go Go.RowKit
set_option linter.unusedVariables false
set_option linter.unusedSimpArgs false
theorem Blk.setNm {W : World} {g : Nat} {f : Fc} (h : Blk W g 78 f.cells.toArray) (x : Bool) : Blk (W.setCell ⟨g, 0, none⟩ (.bool x)) g 78 ({ f with nm := x } : Fc).cells.toArray := by
 have q := h.set_ 0 (.bool x)
 rw [List.setIfInBounds_toArray] at q
 exact q
theorem Blk.setTg {W : World} {g : Nat} {f : Fc} (h : Blk W g 78 f.cells.toArray) (x : Bool) : Blk (W.setCell ⟨g, 1, none⟩ (.bool x)) g 78 ({ f with tg := x } : Fc).cells.toArray := by
 have q := h.set_ 1 (.bool x)
 rw [List.setIfInBounds_toArray] at q
 exact q
theorem Blk.setDg {W : World} {g : Nat} {f : Fc} (hf : f.d.length = 32) (h : Blk W g 78 f.cells.toArray) (d : List UInt8) (hd : d.length = 32) : Blk (W.setCells g 2 (d.map u8v)) g 78 ({ f with d := d } : Fc).cells.toArray := by
 have q := Blk.setCells (d.map u8v) 2 W f.cells h (by rw [Fc.cells_len hf, List.length_map, hd]; decide)
 have e : f.cells.take 2 ++ (d.map u8v ++ f.cells.drop (2 + (d.map u8v).length)) = ({ f with d := d } : Fc).cells := by
  rw [List.length_map, hd]
  unfold Fc.cells
  simp [hf]
 rw [e] at q
 exact q
theorem info_b32o : (Tryz.prog.info? 39).map (·.size) = some 32 := by kernel_rfl
theorem run_sstDo {W : World} {g o : Nat} {t : TypeId} {cs : Array Value} (B : Blk W g t cs) (ho : o + 32 ≤ cs.size) (d : List UInt8) (hd : d.length = 32) :
  (sstDg (.pointer (some ⟨g, o, none⟩)) (.agg (d.map u8v).toArray)).run Tryz.prog W = .ok () (W.setCells g o (d.map u8v)) := by
 refine run_storeAt_mid (P := Tryz.prog) W g o 39 (d.map u8v).toArray ?_ (by rw [List.size_toArray, List.length_map, hd]; exact info_b32o) (by simpa using u8v_one d)
 intro j hj
 rw [List.size_toArray, List.length_map, hd] at hj
 refine ⟨?_, B.frozen _⟩
 rw [B.cell, Array.getElem?_eq_getElem (by omega)]
 rfl
theorem zeroFm_eq : zeroFm = (⟨false, false, List.replicate 32 0, false⟩ : Fc).cells.toArray := by rfl
theorem run_sbFc0 (w : World) : (sbFc #[]).run Tryz.prog w = .ok (.agg zeroFm) w := by
 refine run_build w _ _ _ ?_
 rw [builtFc]
 rfl
/-- What the reference's Model finds beside. -/
def factR (c : Cf) (ro : List UInt8) (k : Int) (l : List UInt8) : Fc :=
 if k = 1 then ⟨decide (mE l = 0) && ((mNm l).toList == c.nm.toList), signedB c.key l, List.replicate 32 0, false⟩ else if k = 3 then ⟨false, false, sha ro, false⟩ else ⟨false, false, List.replicate 32 0, false⟩
theorem factR_len (c : Cf) (ro : List UInt8) (k : Int) (l : List UInt8) : (factR c ro k l).d.length = 32 := by
 unfold factR
 split
 ·
  rfl
 split
 ·
  exact sha_len _
 ·
  rfl
def slotR (e k : Int) (l ro : List UInt8) : List UInt8 := if e = 0 ∧ k = 1 then [] else if e = 0 ∧ k = 2 then ro ++ l else ro
/-- The frame of Do. -/
structure RdFr (w0 W : World) (B b : Nat) (c : Cf) (m : Mt) (l0 l1 : List UInt8) (K : Option Addr) (kc : Nat) (F : Option Addr) (fc : Nat) (S0 : Option Addr) (c0 : Nat) (S1 : Option Addr) (c1 : Nat) (QA FA : Array Value) (fb : Nat) : Prop where
 md : RmAt W B b c m l0 l1 K kc F fc S0 c0 S1 c1
 q : Blk W w0.heap.size 34 QA
 r : Blk W (w0.heap.size + 1) 37 #[.int .i64 0, .int .i64 0, .int .i64 0]
 f : Blk W fb 78 FA
 lt : w0.heap.size + 1 < fb
 bel : Below w0.heap.size w0 W
section
variable {w0 W W' : World} {B b : Nat} {c : Cf} {m : Mt} {l0 l1 : List UInt8} {K : Option Addr} {kc : Nat} {F : Option Addr} {fc : Nat} {S0 : Option Addr} {c0 : Nat} {S1 : Option Addr} {c1 : Nat} {QA FA : Array Value} {fb : Nat}
theorem RdFr.later (h : RdFr w0 W B b c m l0 l1 K kc F fc S0 c0 S1 c1 QA FA fb) (hb : Below W.heap.size W W') : RdFr w0 W' B b c m l0 l1 K kc F fc S0 c0 S1 c1 QA FA fb :=
 ⟨h.md.below hb, h.q.below hb h.q.lt, h.r.below hb h.r.lt, h.f.below hb h.f.lt, h.lt, h.bel.trans (hb.mono h.bel.size)⟩
theorem RdFr.alloc (h : RdFr w0 W B b c m l0 l1 K kc F fc S0 c0 S1 c1 QA FA fb) (ob : Obj) : RdFr w0 (W.alloc ob) B b c m l0 l1 K kc F fc S0 c0 S1 c1 QA FA fb := h.later ((Below.refl _ _).alloc (Nat.le_refl _) _)
theorem RdFr.put (h : RdFr w0 W B b c m l0 l1 K kc F fc S0 c0 S1 c1 QA FA fb) (hB0 : B ≤ w0.heap.size) {g : Nat} {t : TypeId} {old : Array Value} (cs : Array Value) (hB : Blk W g t old) (hg : w0.heap.size + 1 < g) (hgf : g ≠ fb) (ht : t ≠ 5) (ht2 : t ≠ 49) : RdFr w0 (W.setRow g cs) B b c m l0 l1 K kc F fc S0 c0 S1 c1 QA FA fb :=
 ⟨h.md.putR hB (by omega) ht ht2 cs, h.q.setRow_mf cs (by omega), h.r.setRow_mf cs (by omega), h.f.setRow_mf cs (Ne.symm hgf), h.lt, below_setRow_m h.bel (by omega) _⟩
/-- The Fact is told anew. -/
theorem RdFr.fact (h : RdFr w0 W B b c m l0 l1 K kc F fc S0 c0 S1 c1 QA FA fb) (hB0 : B ≤ w0.heap.size) {FB : Array Value} (hf : Blk W' fb 78 FB) (ho : Only [fb] W W') : RdFr w0 W' B b c m l0 l1 K kc F fc S0 c0 S1 c1 QA FB fb := by
 have hne := Blk.ne_ h.md.blk h.f (by decide)
 have hrow : ∀ {n cc : Nat} {A : Option Addr} {xs : List Value}, W.ownsRow B 5 1 (.slice A n cc) n xs → W'.ownsRow B 5 1 (.slice A n cc) n xs := fun hw => own_only hw ho (fun k hk => by
  simp only [List.mem_cons, List.not_mem_nil, or_false]
  rintro rfl
  exact own_blk_ne hw h.f (by decide) hk)
 exact ⟨⟨h.md.blk.only ho (by simpa using hne), h.md.ok, h.md.key.only ho (fun a e => by have := h.md.kb a e; have := h.lt; simp; omega), hrow h.md.s0, hrow h.md.s1, h.md.ge, h.md.kb, h.md.ap⟩, h.q.only ho (by have := h.lt; simp; omega), h.r.only ho (by have := h.lt; simp; omega), hf, h.lt, ho.below h.bel h.bel.size (fun k hk => by have := h.lt; simp at hk; omega)⟩
end
theorem RmAt.app0 {w w' : World} {B b : Nat} {c : Cf} {m : Mt} {l0 l1 : List UInt8} {K : Option Addr} {kc : Nat} {F : Option Addr} {fc : Nat} {S0 : Option Addr} {c0 : Nat} {S1 : Option Addr} {c1 : Nat} (h : RmAt w B b c m l0 l1 K kc F fc S0 c0 S1 c1) {A : Option Addr} {n cc : Nat} {l : List UInt8} (hl : l.length = n) (hg : w.grownBy w' (Value.slice S0 l0.length c0).ownBlock) (ho : w'.ownsRow B 5 1 (.slice A n cc) n (l.map u8v)) (hat : ∀ a, A = some a → (Value.slice S0 l0.length c0).ownBlock = some a.block ∨ a.block = w.heap.size) : RmAt (w'.setCell ⟨b, 114, none⟩ (.slice A n cc)) B b c m l l1 K kc F fc A cc S1 c1 := by
 subst hl
 have hrb : ∀ k, (Value.slice S0 l0.length c0).ownBlock = some k → k ≠ b := fun k e e2 => own_blk_ne h.s0 h.blk (by decide) (e2 ▸ e)
 have hb2 := h.blk.grown hg (fun e => hrb b e.symm rfl)
 have hb3 := hb2.set_ 114 (.slice A l.length cc)
 rw [mdC_set0 (c.cells_len K kc F fc) h.ok] at hb3
 have hk2 := (h.key.keep hg.size (fun g hg2 ⟨o, e⟩ => hg.block g hg2 (fun e2 => by have h1 := h.kb _ e; have h2 := (h.s0.lt g e2.symm).1; dsimp only at h1; omega))).setCell (p := ⟨b, 114, none⟩) (fun a e => by have := h.kb a e; have := h.ge; show a.block ≠ b; omega) (.slice A l.length cc)
 have hother : w'.ownsRow B 5 1 (.slice S1 l1.length c1) l1.length (l1.map u8v) := own_only h.s1 ((Only.refl (match (Value.slice S0 l0.length c0).ownBlock with | some k => [k] | none => []) w).grown hg (fun g e => by rw [e]; exact .inl (by simp))) (fun k e => by
  have hne : ∀ j, (Value.slice S0 l0.length c0).ownBlock = some j → k ≠ j := fun j e2 e3 => by
   subst e3
   exact h.ap k e2 e
  revert hne
  cases (Value.slice S0 l0.length c0).ownBlock with
  | none => intro _; simp
  | some j => intro hne; simp; exact hne j rfl)
 refine ⟨hb3, h.ok, hk2, ?_, ?_, h.ge, h.kb, ?_⟩
 ·
  exact own_setM ho hb2 (by decide) _
 ·
  exact own_setM hother hb2 (by decide) _
 ·
  intro k e e2
  cases A with
  | none => cases e
  | some a =>
   injection e with e
   rcases hat a rfl with q | q
   ·
    exact h.ap k (by rw [q, e]) e2
   ·
    have := (h.s1.lt k e2).2
    omega
theorem RmAt.app1 {w w' : World} {B b : Nat} {c : Cf} {m : Mt} {l0 l1 : List UInt8} {K : Option Addr} {kc : Nat} {F : Option Addr} {fc : Nat} {S0 : Option Addr} {c0 : Nat} {S1 : Option Addr} {c1 : Nat} (h : RmAt w B b c m l0 l1 K kc F fc S0 c0 S1 c1) {A : Option Addr} {n cc : Nat} {l : List UInt8} (hl : l.length = n) (hg : w.grownBy w' (Value.slice S1 l1.length c1).ownBlock) (ho : w'.ownsRow B 5 1 (.slice A n cc) n (l.map u8v)) (hat : ∀ a, A = some a → (Value.slice S1 l1.length c1).ownBlock = some a.block ∨ a.block = w.heap.size) : RmAt (w'.setCell ⟨b, 115, none⟩ (.slice A n cc)) B b c m l0 l K kc F fc S0 c0 A cc := by
 subst hl
 have hrb : ∀ k, (Value.slice S1 l1.length c1).ownBlock = some k → k ≠ b := fun k e e2 => own_blk_ne h.s1 h.blk (by decide) (e2 ▸ e)
 have hb2 := h.blk.grown hg (fun e => hrb b e.symm rfl)
 have hb3 := hb2.set_ 115 (.slice A l.length cc)
 rw [mdC_set1 (c.cells_len K kc F fc) h.ok] at hb3
 have hk2 := (h.key.keep hg.size (fun g hg2 ⟨o, e⟩ => hg.block g hg2 (fun e2 => by have h1 := h.kb _ e; have h2 := (h.s1.lt g e2.symm).1; dsimp only at h1; omega))).setCell (p := ⟨b, 115, none⟩) (fun a e => by have := h.kb a e; have := h.ge; show a.block ≠ b; omega) (.slice A l.length cc)
 have hother : w'.ownsRow B 5 1 (.slice S0 l0.length c0) l0.length (l0.map u8v) := own_only h.s0 ((Only.refl (match (Value.slice S1 l1.length c1).ownBlock with | some k => [k] | none => []) w).grown hg (fun g e => by rw [e]; exact .inl (by simp))) (fun k e => by
  have hne : ∀ j, (Value.slice S1 l1.length c1).ownBlock = some j → k ≠ j := fun j e2 e3 => by
   subst e3
   exact h.ap k e e2
  revert hne
  cases (Value.slice S1 l1.length c1).ownBlock with
  | none => intro _; simp
  | some j => intro hne; simp; exact hne j rfl)
 refine ⟨hb3, h.ok, hk2, ?_, ?_, h.ge, h.kb, ?_⟩
 ·
  exact own_setM hother hb2 (by decide) _
 ·
  exact own_setM ho hb2 (by decide) _
 ·
  intro k e e2
  cases A with
  | none => cases e2
  | some a =>
   injection e2 with e2
   rcases hat a rfl with q | q
   ·
    exact h.ap k e (by rw [q, e2])
   ·
    have := (h.s0.lt k e).2
    omega
theorem Blk.newAtR {B : Nat} {w0 W : World} (hb : Below B w0 W) (t : TypeId) (cs : Array Value) : Blk (W.alloc (.cells cs t)) W.heap.size t cs := Blk.new W t cs
attribute [local go_sem ↓] sldM_seal sstM_seal sldQ_seal sldR_seal sstR_seal sldF_seal sbFc_seal sstFm_seal sstDg_seal sldN_seal sstN_seal
set_option maxRecDepth 100000 in
set_option maxHeartbeats 2000000 in
theorem rmdo_nil (w : World) (qk qn : Int) (SB : Option Addr) (sl sc : Nat) : Calls Tryz.prog 11 #[.pointer none, .agg #[.int .i64 qk, .int .i64 qn, .slice SB sl sc]] w fun e w' => e = .returned (.agg #[.int .i64 1, .int .i64 0, .int .i64 0]) ∧ Below w.heap.size w w' := by
 have hb0 : Below w.heap.size w (w.alloc (.cells #[.int .i64 qk, .int .i64 qn, .slice SB sl sc] 34)) := (Below.refl _ _).alloc (Nat.le_refl _) _
 have hn := Blk.new (w.alloc (.cells #[.int .i64 qk, .int .i64 qn, .slice SB sl sc] 34)) 37 #[.int .i64 0, .int .i64 0, .int .i64 0]
 rw [show (w.alloc (.cells #[.int .i64 qk, .int .i64 qn, .slice SB sl sc] 34)).heap.size = w.heap.size + 1 from by simp] at hn
 have hst := run_sstR 1 0 0 hn rfl
 have hfin := hn.setRow_m #[.int .i64 1, .int .i64 0, .int .i64 0]
 have hbe := below_setRow_m ((hb0.alloc hb0.size (.cells #[.int .i64 0, .int .i64 0, .int .i64 0] 37))) (Nat.le_succ w.heap.size) #[.int .i64 1, .int .i64 0, .int .i64 0]
 have HF := Lib.hid hfin
 have HB := Lib.hid hbe
 clear hb0 hn hfin hbe
 go_enter Tryz.func11, Tryz.ntmps11
 go_wp2_with fail
 refine bodyPost_ret (results_cell_row rfl _ _ (w.heap.size + 1) 37 #[.int .i64 1, .int .i64 0, .int .i64 0] (0, 0) _ rfl HF.out Tryz.underlying37 rfl info_sRp) rfl ?_
 exact ⟨rfl, HB.out⟩
set_option maxRecDepth 100000 in
set_option maxHeartbeats 2000000 in
theorem rmdo_no (w : World) (B b : Nat) (c : Cf) (m : Mt) (l0 l1 : List UInt8) (K : Option Addr) (kc : Nat) (F : Option Addr) (fc : Nat) (S0 : Option Addr) (c0 : Nat) (S1 : Option Addr) (c1 : Nat) (h : RmAt w B b c m l0 l1 K kc F fc S0 c0 S1 c1) (r : Nat) (hr : c.rights = (r : Int)) (hr2 : r ≤ 1023) (qk qn : Int) (SB : Option Addr) (sl sc : Nat) (hno : mayK r qk = false) : Calls Tryz.prog 11 #[.pointer (some ⟨b, 0, none⟩), .agg #[.int .i64 qk, .int .i64 qn, .slice SB sl sc]] w fun e w' => e = .returned (.agg #[.int .i64 14, .int .i64 0, .int .i64 0]) ∧ Below w.heap.size w w' := by
 have hq := (Blk.new w 34 #[.int .i64 qk, .int .i64 qn, .slice SB sl sc]).alloc (.cells #[.int .i64 0, .int .i64 0, .int .i64 0] 37)
 have hx := (Blk.new (w.alloc (.cells #[.int .i64 qk, .int .i64 qn, .slice SB sl sc] 34)) 37 #[.int .i64 0, .int .i64 0, .int .i64 0])
 rw [show (w.alloc (.cells #[.int .i64 qk, .int .i64 qn, .slice SB sl sc] 34)).heap.size = w.heap.size + 1 from by simp] at hx
 have hb : Below w.heap.size w ((w.alloc (.cells #[.int .i64 qk, .int .i64 qn, .slice SB sl sc] 34)).alloc (.cells #[.int .i64 0, .int .i64 0, .int .i64 0] 37)) := ((Below.refl _ w).alloc (Nat.le_refl _) _).alloc (by simp) _
 have hmd := h.below hb
 have k5 : ((w.alloc (.cells #[.int .i64 qk, .int .i64 qn, .slice SB sl sc] 34)).alloc (.cells #[.int .i64 0, .int .i64 0, .int .i64 0] 37)).cell? ⟨b, 5, none⟩ = some (.int .i64 (r : Int)) := by
  rw [hmd.cellC 5 (by omega)]
  show some (Value.int .i64 c.rights) = _
  rw [hr]
 have hmay := fun W => rmaydo_c W r hr2 0 0 qk
 have hsz1 : ((w.alloc (.cells #[.int .i64 qk, .int .i64 qn, .slice SB sl sc] 34)).alloc (.cells #[.int .i64 0, .int .i64 0, .int .i64 0] 37)).heap.size = w.heap.size + 2 := by simp
 rw [hno] at hmay
 have HQ := Lib.hid hq
 have HX := Lib.hid hx
 have HB := Lib.hid hb
 have HK5 := Lib.hid k5
 clear h hq hx hb hno k5 hr hmd hsz1
 go_enter Tryz.func11, Tryz.ntmps11
 go_upto_region 3 with fail
 have hq := HQ.out
 have hx := HX.out
 have hb := HB.out
 have k5 := HK5.out
 clear HQ HX HB HK5
 generalize ((w.alloc (.cells #[.int .i64 qk, .int .i64 qn, .slice SB sl sc] 34)).alloc (.cells #[.int .i64 0, .int .i64 0, .int .i64 0] 37)) = W at hq hx hb k5 ⊢
 have HB := Lib.hid hb
 have HX := Lib.hid hx
 have hs0 : W.drew.cell? ⟨b, 5, none⟩ = some (.int .i64 (r : Int)) ∧ W.drew.cell? ⟨w.heap.size, 0, none⟩ = some (.int .i64 qk) := ⟨k5, hq.cell 0⟩
 clear hb hx hq
 refine wp_region_held_drew (S := (fun W => W.cell? ⟨b, 5, none⟩ = some (.int .i64 (r : Int)) ∧ W.cell? ⟨w.heap.size, 0, none⟩ = some (.int .i64 qk))) (by kernel_rfl) ?_ (fun hHeld => ?_)
 ·
  exact hs0
 refine tk 0 (h := ?_)
 refine tk 1 (h := ?_)
 refine tk 2 (h := ?_)
 refine tk 3 (h := ?_)
 refine tk 4 (h := ?_)
 refine tk 5 (h := ?_)
 refine tk 6 (h := ?_)
 refine tk 7 (h := ?_)
 refine rd 8 (h := fun K hK => ?_)
 go_simp
 refine (hmay _).mono ?_
 rintro e w9 ⟨rfl, hb9⟩
 go_wp2_with fail
 refine so hK (by (try dsimp only); (exact ⟨cell_keepM hHeld.1 hb9, cell_keepM hHeld.2 hb9⟩)) (h := fun hHeld => ?_)
 clear hK K
 refine tk 9 (h := ?_)
 refine wpAnyH_done (by kernel_rfl) ?_ _
 try simp only [Act.put, List.getElem_toArray, List.getElem_cons_succ, List.getElem_cons_zero, List.setIfInBounds_toArray, List.set_cons_zero, List.set_cons_succ]
 have hb2 := (Below.refl W.heap.size W).drew.trans hb9
 have hx2 := HX.out.below hb2 HX.out.lt
 have hst := run_sstR 14 0 0 hx2 rfl
 have HF := Lib.hid (hx2.setRow_m #[.int .i64 14, .int .i64 0, .int .i64 0])
 have HB2 := Lib.hid (below_setRow_m (HB.out.trans (hb2.mono HB.out.size)) (Nat.le_succ w.heap.size) #[.int .i64 14, .int .i64 0, .int .i64 0])
 clear hb2 hx2
 go_wp2_with fail
 refine bodyPost_ret (results_cell_row rfl _ _ (w.heap.size + 1) 37 #[.int .i64 14, .int .i64 0, .int .i64 0] (0, 0) _ rfl HF.out Tryz.underlying37 rfl info_sRp) rfl ?_
 exact ⟨rfl, HB2.out⟩
set_option maxRecDepth 100000 in
set_option maxHeartbeats 32000000 in
theorem rmdo_yes0 (w : World) (B b : Nat) (c : Cf) (m : Mt) (l0 l1 : List UInt8) (K : Option Addr) (kc : Nat) (F : Option Addr) (fc : Nat) (S0 : Option Addr) (c0 : Nat) (S1 : Option Addr) (c1 : Nat) (h : RmAt w B b c m l0 l1 K kc F fc S0 c0 S1 c1) (hB0 : B ≤ w.heap.size) (r : Nat) (hr : c.rights = (r : Int)) (hr2 : r ≤ 1023) (S : List Nat) (hSb : b ∈ S) (hS0 : ∀ k, (Value.slice S0 l0.length c0).ownBlock = some k → k ∈ S) (hS1 : ∀ k, (Value.slice S1 l1.length c1).ownBlock = some k → k ∈ S)
  (hact : m.act = 0) (hl0 : l0.length ≤ 1000000) (hl1 : l1.length ≤ 1000000) (hkl : c.key.length ≤ 100000)
  (qk qn : Int) (SB : Option Addr) (sl sc : Nat) (l : List UInt8) (hrd : Reads w SB sl (l.map u8v)) (hsl : sl ≤ 1000) (hsc : sl ≤ sc ∧ sc ≤ maxLen) (hyes : mayK r qk = true) (dm : Mt) (de dn dg : Int) (hD : doA m (factR c l1 qk l) qk qn l c.quota = ⟨dm, de, dn, dg⟩) (hsame : de ≠ 0 → dm = m) :
  Calls Tryz.prog 11 #[.pointer (some ⟨b, 0, none⟩), .agg #[.int .i64 qk, .int .i64 qn, .slice SB sl sc]] w fun e w' => e = .returned (.agg #[.int .i64 de, .int .i64 dn, .int .i64 dg]) ∧ (∃ T0 d0 T1 d1, RmAt w' B b c dm l0 (slotR de qk l l1) K kc F fc T0 d0 T1 d1) ∧ Only S w w' := by
 have hlen : l.length = sl := by simpa using hrd.len
 have hq := (Blk.new w 34 #[.int .i64 qk, .int .i64 qn, .slice SB sl sc]).alloc (.cells #[.int .i64 0, .int .i64 0, .int .i64 0] 37)
 have hx := (Blk.new (w.alloc (.cells #[.int .i64 qk, .int .i64 qn, .slice SB sl sc] 34)) 37 #[.int .i64 0, .int .i64 0, .int .i64 0])
 rw [show (w.alloc (.cells #[.int .i64 qk, .int .i64 qn, .slice SB sl sc] 34)).heap.size = w.heap.size + 1 from by simp] at hx
 have hb : Below w.heap.size w ((w.alloc (.cells #[.int .i64 qk, .int .i64 qn, .slice SB sl sc] 34)).alloc (.cells #[.int .i64 0, .int .i64 0, .int .i64 0] 37)) := ((Below.refl _ w).alloc (Nat.le_refl _) _).alloc (by simp) _
 have hmd := h.below hb
 have k5 : ((w.alloc (.cells #[.int .i64 qk, .int .i64 qn, .slice SB sl sc] 34)).alloc (.cells #[.int .i64 0, .int .i64 0, .int .i64 0] 37)).cell? ⟨b, 5, none⟩ = some (.int .i64 (r : Int)) := by
  rw [hmd.cellC 5 (by omega)]
  show some (Value.int .i64 c.rights) = _
  rw [hr]
 have hmay := fun W => rmaydo_c W r hr2 0 0 qk
 have hsz1 : ((w.alloc (.cells #[.int .i64 qk, .int .i64 qn, .slice SB sl sc] 34)).alloc (.cells #[.int .i64 0, .int .i64 0, .int .i64 0] 37)).heap.size = w.heap.size + 2 := by simp
 rw [hyes] at hmay
 have hfl : (factR c l1 qk l).d.length = 32 := factR_len _ _ _ _
 obtain ⟨NL, hNL⟩ : ∃ NL, slotR de qk l l1 = NL := ⟨_, rfl⟩
 rw [hNL]
 obtain ⟨FR, hFR⟩ : ∃ FR, factR c l1 qk l = FR := ⟨_, rfl⟩
 rw [hFR] at hfl hD
 have hdo : ∀ W, Reads W SB sl (l.map u8v) → Calls Tryz.prog 36 #[.agg m.cells.toArray, .agg #[.int .i64 qk, .int .i64 qn, .slice SB sl sc], .agg FR.cells.toArray, .int .i64 c.quota] W fun e w' => e = .returned (.tuple #[.agg dm.cells.toArray, .agg #[.int .i64 de, .int .i64 dn, .int .i64 dg]]) ∧ Below W.heap.size W w' := fun W hW => by
  have q := rdo_c W m h.ok qk qn SB sl sc l hW hsl hsc _ hfl c.quota
  rw [rdo_eq, hD] at q
  exact q
 have hDo : dm.Ok := by
  have q := doA_ok h.ok FR qk qn l c.quota
  rw [hD] at q
  exact q
 have hread := fun (W : World) (hW : Reads W SB sl (l.map u8v)) => rmread_c W SB sl sc l hW (by omega) hsc
 have hany := fun e w' => ManRet.any2 (l := l) (e := e) (w' := w')
 have hsign := fun (W : World) (hK : Reads W K c.key.length (c.key.map u8v)) (hW : Reads W SB sl (l.map u8v)) => rmsigned_c W K c.key.length kc c.key hK hkl SB sl sc l hW (by omega) hsc
 have hsha := fun (W : World) (A : Option Addr) (cc : Nat) (hW : Reads W A l1.length (l1.map u8v)) => rsha_c W A cc l1 hW (by omega)
 obtain ⟨i0, hi8, hz0, hz1, hz2⟩ := info_parts info_u8
 have HI8 := Lib.hid hi8
 have HZ0 := Lib.hid hz0
 have HZ1 := Lib.hid hz1
 have HZ2 := Lib.hid hz2
 have HQ := Lib.hid hq
 have HX := Lib.hid hx
 have HB := Lib.hid hb
 have HK5 := Lib.hid k5
 have HMAY := Lib.hid hmay
 have HMD := Lib.hid hmd
 have HDO := Lib.hid hdo
 have HDOK := Lib.hid hDo
 have HRD := Lib.hid hrd
 have HSB := Lib.hid hSb
 have HSS0 := Lib.hid hS0
 have HSS1 := Lib.hid hS1
 have HREAD := Lib.hid hread
 have HANY := Lib.hid hany
 have HSIGN := Lib.hid hsign
 have HSHA := Lib.hid hsha
 have HFR := Lib.hid hFR
 have HFL := Lib.hid hfl
 have HNL := Lib.hid hNL
 have HACT := Lib.hid hact
 have HSAME := Lib.hid hsame
 have HBB := Lib.hid hB0
 have HLEN := Lib.hid hlen
 have HSZ := Lib.hid (show l1.length ≤ 1000000 ∧ sl ≤ 1000 from by omega)
 have HOK := Lib.hid h.ok
 clear h hq hx hb hyes k5 hr hmd hsz1 hmay hdo hDo hrd hSb hS0 hS1 hread hany hsign hsha hFR hfl hNL hact hsame hB0 hD hr2 hi8 hz0 hz1 hz2 hlen hsl hsc hl0 hl1 hkl
 go_enter Tryz.func11, Tryz.ntmps11
 go_upto_region 3 with fail
 have hq := HQ.out
 have hx := HX.out
 have hb := HB.out
 have k5 := HK5.out
 have hmd := HMD.out
 clear HQ HX HB HK5 HMD
 generalize ((w.alloc (.cells #[.int .i64 qk, .int .i64 qn, .slice SB sl sc] 34)).alloc (.cells #[.int .i64 0, .int .i64 0, .int .i64 0] 37)) = W at hq hx hb k5 hmd ⊢
 have HB := Lib.hid hb
 have HX := Lib.hid hx
 have HQ := Lib.hid hq
 have HMD := Lib.hid hmd
 have hmay := HMAY.out
 have hs0 : W.drew.cell? ⟨b, 5, none⟩ = some (.int .i64 (r : Int)) ∧ W.drew.cell? ⟨w.heap.size, 0, none⟩ = some (.int .i64 qk) := ⟨k5, hq.cell 0⟩
 clear hb hx hq hmd HMAY k5
 refine wp_region_held_drew (S := (fun W => W.cell? ⟨b, 5, none⟩ = some (.int .i64 (r : Int)) ∧ W.cell? ⟨w.heap.size, 0, none⟩ = some (.int .i64 qk))) (by kernel_rfl) ?_ (fun hHeld => ?_)
 ·
  exact hs0
 refine tk 0 (h := ?_)
 refine tk 1 (h := ?_)
 refine tk 2 (h := ?_)
 refine tk 3 (h := ?_)
 refine tk 4 (h := ?_)
 refine tk 5 (h := ?_)
 refine tk 6 (h := ?_)
 refine tk 7 (h := ?_)
 refine rd 8 (h := fun K hK => ?_)
 go_simp
 refine (hmay _).mono ?_
 rintro e w9 ⟨rfl, hb9⟩
 go_wp2_with fail
 refine so hK (by (try dsimp only); (exact ⟨cell_keepM hHeld.1 hb9, cell_keepM hHeld.2 hb9⟩)) (h := fun hHeld => ?_)
 clear hK K
 refine tk 9 (h := ?_)
 refine wpAnyH_done (by kernel_rfl) ?_ _
 try simp only [Act.put, List.getElem_toArray, List.getElem_cons_succ, List.getElem_cons_zero, List.setIfInBounds_toArray, List.set_cons_zero, List.set_cons_succ]
 have hb2 := (Below.refl W.heap.size W).drew.trans hb9
 have hz := Blk.new w9 78 zeroFm
 have hfl0 : (Fc.cells ⟨false, false, List.replicate 32 0, false⟩).length = 35 := Fc.cells_len rfl
 have hst := run_sstFm (Fc.cells ⟨false, false, List.replicate 32 0, false⟩) hz rfl hfl0 (Fc.one _)
 have hb3 : Below w9.heap.size w9 ((w9.alloc (.cells zeroFm 78)).setRow w9.heap.size zeroFm) := below_setRow_m ((Below.refl _ _).alloc (Nat.le_refl _) _) (Nat.le_refl _) _
 have hz2 := hz.setRow_m zeroFm
 rw [← zeroFm_eq] at hst
 have hbz := run_sbFc0
 have hx2 := HX.out.below hb2 HX.out.lt
 have hO : RdFr w ((w9.alloc (.cells zeroFm 78)).setRow w9.heap.size zeroFm) B b c m l0 l1 K kc F fc S0 c0 S1 c1 #[.int .i64 qk, .int .i64 qn, .slice SB sl sc] zeroFm w9.heap.size :=
  ⟨(HMD.out.below hb2).below hb3, (HQ.out.below hb2 HQ.out.lt).below hb3 (HQ.out.below hb2 HQ.out.lt).lt, hx2.below hb3 hx2.lt, hz2, hx2.lt, (HB.out.trans (hb2.mono HB.out.size)).trans (hb3.mono (HB.out.trans (hb2.mono HB.out.size)).size)⟩
 have HO := Lib.hid hO
 clear hb2 hb9 hz hfl0 hb3 hz2 hx2 hO HX HB HQ HMD hHeld hs0 hmay
 go_upto_region 6 with fail
 have hO := HO.out
 clear HO hst hbz
 generalize World.setRow _ _ zeroFm = W6 at hO ⊢
 generalize w9.heap.size = fb at hO ⊢
 have c7 : W6.cell? ⟨b, 7, none⟩ = some (.int .i64 0) := by
  have q := hO.md.cellM 0 (by omega)
  rw [show 7 + 0 = 7 from rfl] at q
  rw [q]
  show some (i64v m.act) = _
  rw [HACT.out]
 have cq0 : W6.cell? ⟨w.heap.size, 0, none⟩ = some (.int .i64 qk) := hO.q.cell 0
 have HO := Lib.hid hO
 clear hO
 go_upto_block 0 with fail
 go_cut [7, 8, 9] from 35 (fun v7 v8 v9 wx => RdFr w wx B b c m l0 l1 K kc F fc S0 c0 S1 c1 #[.int .i64 qk, .int .i64 qn, .slice SB sl sc] FR.cells.toArray fb)
 case first =>
  by_cases h1 : qk = 1
  ·
   subst h1
   have hr := HREAD.out W6 (HRD.out.below HO.out.bel)
   have cq2 : W6.cell? ⟨w.heap.size, 2, none⟩ = some (.slice SB sl sc) := HO.out.q.cell 2
   have HR := Lib.hid hr
   obtain ⟨EE, hEE⟩ : ∃ EE, mE l = EE := ⟨_, rfl⟩
   obtain ⟨NM, hNM⟩ : ∃ NM, mNm l = NM := ⟨_, rfl⟩
   obtain ⟨XX, hXX⟩ : ∃ XX, mX l = XX := ⟨_, rfl⟩
   have hxd : XX.d.length = 32 := by rw [← hXX]; exact (mX_b l).1
   have hfr : FR = ⟨decide (EE = 0) && (NM.toList == c.nm.toList), signedB c.key l, List.replicate 32 0, false⟩ := by rw [← HFR.out, ← hEE, ← hNM]; unfold factR; rw [if_pos rfl]
   have hany := HANY.out
   simp only [hEE, hNM, hXX] at hany
   have HAN := Lib.hid hany
   have HF1 := Lib.hid hfr
   clear hr hEE hNM hXX hfr hany
   go_wp2_with fail
   refine HR.out.mono ?_
   rintro e w2 ⟨hman, hb2⟩
   obtain ⟨ma, mn, mc, rfl⟩ := HAN.out _ _ hman
   have hN := Blk.new w2 82 zeroN.toArray
   have hst := run_sstN (manC NM XX) hN rfl (manC_len hxd _) (manC_one _ _)
   have hN2 := hN.setRow_m (manC NM XX).toArray
   have hbn : Below w2.heap.size w2 ((w2.alloc (.cells zeroN.toArray 82)).setRow w2.heap.size (manC NM XX).toArray) := below_setRow_m ((Below.refl _ w2).alloc (Nat.le_refl _) _) (Nat.le_refl _) _
   have hO := (HO.out.later hb2).later hbn
   rw [← zeroN_eq] at hst hN2 hO
   have HO := Lib.hid hO
   have HN2 := Lib.hid hN2
   clear hman hb2 hN hN2 hbn hO HAN HR hxd c7 cq2
   go_upto_region 10 with fail
   clear hst
   have hO := HO.out
   have hN2 := HN2.out
   clear HO HN2
   generalize World.setRow _ _ (manC NM XX).toArray = W7 at hO hN2 ⊢
   generalize w2.heap.size = mb at hN2 ⊢
   have HO := Lib.hid hO
   have HN2 := Lib.hid hN2
   clear hO hN2
   by_cases hE : EE = 0
   ·
    subst hE
    have hs0 : W7.drew.cell? ⟨mb, 0, none⟩ = some (.string NM) ∧ W7.drew.cell? ⟨b, 0, none⟩ = some (.string c.nm) := ⟨HN2.out.cell 0, HO.out.md.cellC 0 (by omega)⟩
    refine wp_region_held_drew (S := (fun W => W.cell? ⟨mb, 0, none⟩ = some (.string NM) ∧ W.cell? ⟨b, 0, none⟩ = some (.string c.nm))) (by kernel_rfl) ?_ (fun hHeld => ?_)
    ·
     exact hs0
    generalize hwd : W7.drew = Wd at hs0 hHeld ⊢
    have hO := HO.out.later ((Below.refl _ W7).drew)
    have hN2 := HN2.out.below ((Below.refl _ W7).drew) HN2.out.lt
    rw [hwd] at hO hN2
    clear HO HN2 hwd
    have HO := Lib.hid hO
    have HN2 := Lib.hid hN2
    clear hO hN2
    refine tk 0 (h := ?_)
    refine tk 1 (h := ?_)
    refine tk 2 (h := ?_)
    refine tk 3 (h := ?_)
    refine tk 4 (h := ?_)
    refine tk 5 (h := ?_)
    refine tk 6 (h := ?_)
    refine tk 7 (h := ?_)
    refine tk 8 (h := ?_)
    refine tk 9 (h := ?_)
    refine tk 10 (h := ?_)
    refine tk 11 (h := ?_)
    refine tk 12 (h := ?_)
    have q0 : Wd.cell? ⟨fb, 0, none⟩ = some (.bool false) := HO.out.f.cell 0
    have fz := HO.out.f.frozen 0
    have hzf := HO.out.f
    rw [zeroFm_eq] at hzf
    have hO := HO.out.fact HBB.out (hzf.setNm (NM.toList == c.nm.toList)) ((Only.refl [fb] Wd).setCell (p := ⟨fb, 0, none⟩) (.inl (by simp)) (.bool (NM.toList == c.nm.toList)))
    have hN2 := HN2.out.only ((Only.refl [fb] Wd).setCell (p := ⟨fb, 0, none⟩) (.inl (by simp)) (.bool (NM.toList == c.nm.toList))) (by have := Blk.ne_ HN2.out HO.out.f (by decide); simpa using this)
    have HO2 := Lib.hid hO
    have HN3 := Lib.hid hN2
    clear hzf hO hN2
    refine rd 13 (h := fun K hK => ?_)
    go_simp
    refine so hK (by (try dsimp only); (exact ⟨HN3.out.cell 0, HO2.out.md.cellC 0 (by omega)⟩)) (h := fun hHeld => ?_)
    clear hK K
    refine wpAnyH_done (by kernel_rfl) ?_ _
    try simp only [Act.put, List.getElem_toArray, List.getElem_cons_succ, List.getElem_cons_zero, List.setIfInBounds_toArray, List.set_cons_zero, List.set_cons_succ]
    clear HO HN2 HN3 q0 fz hs0 hHeld
    go_upto_region 11 with fail
    have hO := HO2.out
    clear HO2
    generalize World.setCell _ _ _ = W8 at hO ⊢
    have HO := Lib.hid hO
    clear hO
    have hs1 : W8.drew.cell? ⟨b, 1, none⟩ = some (.slice K c.key.length kc) ∧ W8.drew.cell? ⟨w.heap.size, 2, none⟩ = some (.slice SB sl sc) := ⟨HO.out.md.cellC 1 (by omega), HO.out.q.cell 2⟩
    refine wp_region_held_drew (S := (fun W => W.cell? ⟨b, 1, none⟩ = some (.slice K c.key.length kc) ∧ W.cell? ⟨w.heap.size, 2, none⟩ = some (.slice SB sl sc))) (by kernel_rfl) ?_ (fun hHeld => ?_)
    ·
     exact hs1
    generalize hwd : W8.drew = We at hs1 hHeld ⊢
    have hO := HO.out.later ((Below.refl _ W8).drew)
    rw [hwd] at hO
    clear HO hwd
    have HO := Lib.hid hO
    clear hO
    refine tk 0 (h := ?_)
    refine tk 1 (h := ?_)
    refine tk 2 (h := ?_)
    refine tk 3 (h := ?_)
    refine tk 4 (h := ?_)
    refine tk 5 (h := ?_)
    refine tk 6 (h := ?_)
    refine rd 7 (h := fun K hK => ?_)
    go_simp
    refine (HSIGN.out _ HO.out.md.key (HRD.out.below HO.out.bel)).mono ?_
    rintro e w5 ⟨rfl, hb5⟩
    have hO := HO.out.later hb5
    clear HO
    have HO := Lib.hid hO
    clear hO hb5
    go_wp2_with fail
    refine so hK (by (try dsimp only); (first | exact ⟨HO2.out.md.cellC 1 (by omega), HO2.out.q.cell 2⟩ | exact ⟨HO.out.md.cellC 1 (by omega), HO.out.q.cell 2⟩)) (h := fun hHeld => ?_)
    clear hK K
    refine tk 8 (h := ?_)
    have q0 : w5.cell? ⟨fb, 1, none⟩ = some (.bool false) := HO.out.f.cell 1
    have fz := HO.out.f.frozen 1
    have hO := HO.out.fact HBB.out (HO.out.f.setTg (signedB c.key l)) ((Only.refl [fb] w5).setCell (p := ⟨fb, 1, none⟩) (.inl (by simp)) (.bool (signedB c.key l)))
    have HO2 := Lib.hid hO
    clear hO
    refine rd 9 (h := fun K hK => ?_)
    go_simp
    refine so hK (by (try dsimp only); (first | exact ⟨HO2.out.md.cellC 1 (by omega), HO2.out.q.cell 2⟩ | exact ⟨HO.out.md.cellC 1 (by omega), HO.out.q.cell 2⟩)) (h := fun hHeld => ?_)
    clear hK K
    refine wpAnyH_done (by kernel_rfl) ?_ _
    try simp only [Act.put, List.getElem_toArray, List.getElem_cons_succ, List.getElem_cons_zero, List.setIfInBounds_toArray, List.set_cons_zero, List.set_cons_succ]
    go_wp2_with fail
    go_meet
    have e : FR = ⟨NM.toList == c.nm.toList, signedB c.key l, List.replicate 32 0, false⟩ := by rw [HF1.out]; simp
    rw [e]
    exact HO2.out
   ·
    have hEb : (EE == 0) = false := by simpa using hE
    have hs0 : W7.drew.cell? ⟨mb, 0, none⟩ = some (.string NM) ∧ W7.drew.cell? ⟨b, 0, none⟩ = some (.string c.nm) := ⟨HN2.out.cell 0, HO.out.md.cellC 0 (by omega)⟩
    refine wp_region_held_drew (S := (fun W => W.cell? ⟨mb, 0, none⟩ = some (.string NM) ∧ W.cell? ⟨b, 0, none⟩ = some (.string c.nm))) (by kernel_rfl) ?_ (fun hHeld => ?_)
    ·
     exact hs0
    generalize hwd : W7.drew = Wd at hs0 hHeld ⊢
    have hO := HO.out.later ((Below.refl _ W7).drew)
    have hN2 := HN2.out.below ((Below.refl _ W7).drew) HN2.out.lt
    rw [hwd] at hO hN2
    clear HO HN2 hwd
    have HO := Lib.hid hO
    have HN2 := Lib.hid hN2
    clear hO hN2
    refine tk 0 (h := ?_)
    refine tk 1 (h := ?_)
    refine tk 2 (h := ?_)
    refine sk 3 (h := ?_)
    refine sk 4 (h := ?_)
    refine sk 5 (h := ?_)
    refine sk 6 (h := ?_)
    refine sk 7 (h := ?_)
    refine sk 8 (h := ?_)
    refine sk 9 (h := ?_)
    refine sk 10 (h := ?_)
    refine tk 11 (h := ?_)
    refine tk 12 (h := ?_)
    have q0 : Wd.cell? ⟨fb, 0, none⟩ = some (.bool false) := HO.out.f.cell 0
    have fz := HO.out.f.frozen 0
    have hzf := HO.out.f
    rw [zeroFm_eq] at hzf
    have hO := HO.out.fact HBB.out (hzf.setNm (false)) ((Only.refl [fb] Wd).setCell (p := ⟨fb, 0, none⟩) (.inl (by simp)) (.bool (false)))
    have hN2 := HN2.out.only ((Only.refl [fb] Wd).setCell (p := ⟨fb, 0, none⟩) (.inl (by simp)) (.bool (false))) (by have := Blk.ne_ HN2.out HO.out.f (by decide); simpa using this)
    have HO2 := Lib.hid hO
    have HN3 := Lib.hid hN2
    clear hzf hO hN2
    refine rd 13 (h := fun K hK => ?_)
    go_simp
    refine so hK (by (try dsimp only); (exact ⟨HN3.out.cell 0, HO2.out.md.cellC 0 (by omega)⟩)) (h := fun hHeld => ?_)
    clear hK K
    refine wpAnyH_done (by kernel_rfl) ?_ _
    try simp only [Act.put, List.getElem_toArray, List.getElem_cons_succ, List.getElem_cons_zero, List.setIfInBounds_toArray, List.set_cons_zero, List.set_cons_succ]
    clear HO HN2 HN3 q0 fz hs0 hHeld
    go_upto_region 11 with fail
    have hO := HO2.out
    clear HO2
    generalize World.setCell _ _ _ = W8 at hO ⊢
    have HO := Lib.hid hO
    clear hO
    have hs1 : W8.drew.cell? ⟨b, 1, none⟩ = some (.slice K c.key.length kc) ∧ W8.drew.cell? ⟨w.heap.size, 2, none⟩ = some (.slice SB sl sc) := ⟨HO.out.md.cellC 1 (by omega), HO.out.q.cell 2⟩
    refine wp_region_held_drew (S := (fun W => W.cell? ⟨b, 1, none⟩ = some (.slice K c.key.length kc) ∧ W.cell? ⟨w.heap.size, 2, none⟩ = some (.slice SB sl sc))) (by kernel_rfl) ?_ (fun hHeld => ?_)
    ·
     exact hs1
    generalize hwd : W8.drew = We at hs1 hHeld ⊢
    have hO := HO.out.later ((Below.refl _ W8).drew)
    rw [hwd] at hO
    clear HO hwd
    have HO := Lib.hid hO
    clear hO
    refine tk 0 (h := ?_)
    refine tk 1 (h := ?_)
    refine tk 2 (h := ?_)
    refine tk 3 (h := ?_)
    refine tk 4 (h := ?_)
    refine tk 5 (h := ?_)
    refine tk 6 (h := ?_)
    refine rd 7 (h := fun K hK => ?_)
    go_simp
    refine (HSIGN.out _ HO.out.md.key (HRD.out.below HO.out.bel)).mono ?_
    rintro e w5 ⟨rfl, hb5⟩
    have hO := HO.out.later hb5
    clear HO
    have HO := Lib.hid hO
    clear hO hb5
    go_wp2_with fail
    refine so hK (by (try dsimp only); (first | exact ⟨HO2.out.md.cellC 1 (by omega), HO2.out.q.cell 2⟩ | exact ⟨HO.out.md.cellC 1 (by omega), HO.out.q.cell 2⟩)) (h := fun hHeld => ?_)
    clear hK K
    refine tk 8 (h := ?_)
    have q0 : w5.cell? ⟨fb, 1, none⟩ = some (.bool false) := HO.out.f.cell 1
    have fz := HO.out.f.frozen 1
    have hO := HO.out.fact HBB.out (HO.out.f.setTg (signedB c.key l)) ((Only.refl [fb] w5).setCell (p := ⟨fb, 1, none⟩) (.inl (by simp)) (.bool (signedB c.key l)))
    have HO2 := Lib.hid hO
    clear hO
    refine rd 9 (h := fun K hK => ?_)
    go_simp
    refine so hK (by (try dsimp only); (first | exact ⟨HO2.out.md.cellC 1 (by omega), HO2.out.q.cell 2⟩ | exact ⟨HO.out.md.cellC 1 (by omega), HO.out.q.cell 2⟩)) (h := fun hHeld => ?_)
    clear hK K
    refine wpAnyH_done (by kernel_rfl) ?_ _
    try simp only [Act.put, List.getElem_toArray, List.getElem_cons_succ, List.getElem_cons_zero, List.setIfInBounds_toArray, List.set_cons_zero, List.set_cons_succ]
    go_wp2_with fail
    go_meet
    have e : FR = ⟨false, signedB c.key l, List.replicate 32 0, false⟩ := by rw [HF1.out]; rw [decide_eq_false hE]; rfl
    rw [e]
    exact HO2.out
  by_cases h3 : qk = 3
  ·
   subst h3
   have cs := HO.out.md.cell1
   have hsh := HSHA.out W6 S1 c1 (Reads.of_own HO.out.md.s1)
   have HSH := Lib.hid hsh
   have hn1 : ((3 : Int) == 1) = false := by decide
   clear hsh
   go_wp2_with fail
   refine HSH.out.mono ?_
   rintro e w2 ⟨rfl, hb2⟩
   have hO := HO.out.later hb2
   have hst := run_sstDo (o := 2) hO.f (by rw [zeroFm_eq, List.size_toArray, Fc.cells_len rfl]; decide) (sha l1) (sha_len _)
   have hzf := hO.f
   rw [zeroFm_eq] at hzf
   have hO2 := hO.fact HBB.out (hzf.setDg rfl (sha l1) (sha_len _)) (only_setCells _ _ _ (Only.refl _ _))
   have HO2 := Lib.hid hO2
   clear hb2 hO hzf hO2
   go_wp2_with fail
   go_meet
   have e : FR = ⟨false, false, sha l1, false⟩ := by rw [← HFR.out]; unfold factR; rw [if_neg (by decide), if_pos rfl]
   rw [e]
   exact HO2.out
  ·
   have hn1 : (qk == 1) = false := by rw [beq_eq_false_iff_ne]; exact h1
   have hn3 : (qk == 3) = false := by rw [beq_eq_false_iff_ne]; exact h3
   go_wp2_with fail
   go_meet
   have e : FR = ⟨false, false, List.replicate 32 0, false⟩ := by rw [← HFR.out]; unfold factR; rw [if_neg h1, if_neg h3]
   rw [e, ← zeroFm_eq]
   exact HO.out
 case rest =>
  have HO := Lib.hid hcut
  clear c7 cq0 hcut
  go_upto_region 14 with fail
  have hqq : ∀ W, RdFr w W B b c m l0 l1 K kc F fc S0 c0 S1 c1 #[.int .i64 qk, .int .i64 qn, .slice SB sl sc] FR.cells.toArray fb → (sldM (.pointer (some ⟨b, 7, none⟩))).run Tryz.prog W = .ok (.agg m.cells.toArray) W ∧ (sldQ (.pointer (some ⟨w.heap.size, 0, none⟩))).run Tryz.prog W = .ok (.agg #[.int .i64 qk, .int .i64 qn, .slice SB sl sc]) W ∧ (sldF (.pointer (some ⟨fb, 0, none⟩))).run Tryz.prog W = .ok (.agg FR.cells.toArray) W ∧ W.cell? ⟨b, 4, none⟩ = some (.int .i64 c.quota) := fun W hW => ⟨run_sldM (Mt.cells_len HOK.out) hW.md.range, run_sldQ rfl hW.q.whole, run_sldF (Fc.cells_len HFL.out) hW.f.whole, hW.md.cellC 4 (by omega)⟩
  have HS14 := Lib.hid hqq
  clear hqq
  obtain ⟨DA, hDA⟩ : ∃ DA, dm.cells.toArray = DA := ⟨_, rfl⟩
  have hstN : ∀ (W : World) (gg : Nat) (old : Array Value), Blk W gg 44 old → old.size = 107 → (sstM (.pointer (some ⟨gg, 0, none⟩)) (.agg DA)).run Tryz.prog W = .ok () (W.setRow gg DA) := fun W gg old hB hs => by rw [← hDA]; exact storeM HDOK.out hB hs
  have HSN := Lib.hid hstN
  have HDA := Lib.hid hDA
  have hdo := HDO.out
  rw [hDA] at hdo
  have HDO2 := Lib.hid hdo
  clear hstN hDA hdo HDO
  go_cut [10, 11] from 76 (fun va vb wx => ∃ nb rb, va = .pointer (some ⟨nb, 0, none⟩) ∧ vb = .pointer (some ⟨rb, 0, none⟩) ∧ RdFr w wx B b c m l0 l1 K kc F fc S0 c0 S1 c1 #[.int .i64 qk, .int .i64 qn, .slice SB sl sc] FR.cells.toArray fb ∧ Blk wx nb 44 DA ∧ Blk wx rb 37 #[.int .i64 de, .int .i64 dn, .int .i64 dg] ∧ w.heap.size + 1 < nb ∧ w.heap.size + 1 < rb)
  case first =>
   have hs0 := HS14.out _ (HO.out.later ((Below.refl _ _).drew))
   have HO := Lib.hid (HO.out.later ((Below.refl _ _).drew))
   refine wp_region_held_drew (S := (fun W => (sldM (.pointer (some ⟨b, 7, none⟩))).run Tryz.prog W = .ok (.agg m.cells.toArray) W ∧ (sldQ (.pointer (some ⟨w.heap.size, 0, none⟩))).run Tryz.prog W = .ok (.agg #[.int .i64 qk, .int .i64 qn, .slice SB sl sc]) W ∧ (sldF (.pointer (some ⟨fb, 0, none⟩))).run Tryz.prog W = .ok (.agg FR.cells.toArray) W ∧ W.cell? ⟨b, 4, none⟩ = some (.int .i64 c.quota))) (by kernel_rfl) ?_ (fun hHeld => ?_)
   ·
    exact hs0
   generalize World.drew _ = Wd at HO hs0 hHeld ⊢
   refine tk 0 (h := ?_)
   refine tk 1 (h := ?_)
   refine tk 2 (h := ?_)
   refine tk 3 (h := ?_)
   refine tk 4 (h := ?_)
   refine tk 5 (h := ?_)
   refine tk 6 (h := ?_)
   refine tk 7 (h := ?_)
   refine tk 8 (h := ?_)
   refine tk 9 (h := ?_)
   refine tk 10 (h := ?_)
   refine wpAnyH_ready (rs := [11, 15, 16]) (by kernel_rfl) (by simp) ?_
   refine AllReadyH.cons rfl (fun K hK => ?_) ?_
   ·
    go_simp
    refine (HDO2.out _ (HRD.out.below HO.out.bel)).mono ?_; rintro e w' ⟨rfl, hb⟩; have HO := Lib.hid (HO.out.later hb); clear hb
    go_wp2_with fail
    refine so hK (by (try dsimp only); (exact HS14.out _ HO.out)) (h := fun hHeld => ?_)
    clear hK K
    refine tk 12 (h := ?_)
    refine tk 13 (h := ?_)
    refine tk 14 (h := ?_)
    refine wpAnyH_ready (rs := [15, 16]) (by kernel_rfl) (by simp) ?_
    refine AllReadyH.cons rfl (fun K hK => ?_) ?_
    ·
     go_simp
     have HNL2 := Lib.hid HO.out.r.lt
     have HNb := Lib.hid (Blk.newAtR HO.out.bel 44 Tryz.zeroCells44)
     have HO := Lib.hid (HO.out.alloc (.cells Tryz.zeroCells44 44))
     generalize World.alloc _ (.cells Tryz.zeroCells44 44) = Wa at HO HNb  ⊢
     refine so hK (by (try dsimp only); (exact HS14.out _ HO.out)) (h := fun hHeld => ?_)
     clear hK K
     refine wpAnyH_ready (rs := [16]) (by kernel_rfl) (by simp) ?_
     refine AllReadyH.cons rfl (fun K hK => ?_) ?_
     ·
      go_simp
      have HRL2 := Lib.hid HO.out.r.lt
      have HRb := Lib.hid (Blk.newAtR HO.out.bel 37 #[.int .i64 0, .int .i64 0, .int .i64 0])
      have HO := Lib.hid (HO.out.alloc (.cells #[.int .i64 0, .int .i64 0, .int .i64 0] 37))
      have HNb := Lib.hid (HNb.out.alloc (.cells #[.int .i64 0, .int .i64 0, .int .i64 0] 37))
      generalize World.alloc _ (.cells #[.int .i64 0, .int .i64 0, .int .i64 0] 37) = Wb at HO HRb HNb ⊢
      refine so hK (by (try dsimp only); (exact HS14.out _ HO.out)) (h := fun hHeld => ?_)
      clear hK K
      have hst := HSN.out _ _ _ HNb.out zeroM_size
      refine rd 17 (h := fun K hK => ?_)
      go_simp
      have hne := Blk.ne_ HNb.out HRb.out (by decide)
      have HRb := Lib.hid (HRb.out.setRow_mf DA (Ne.symm hne))
      have HO := Lib.hid (HO.out.put HBB.out DA HNb.out HNL2.out (Blk.ne_ HNb.out HO.out.f (by decide)) (by decide) (by decide))
      have HNb := Lib.hid (HNb.out.setRow_m DA)
      clear hst
      refine so hK (by (try dsimp only); (exact HS14.out _ HO.out)) (h := fun hHeld => ?_)
      clear hK K
      have hst := run_sstR de dn dg HRb.out rfl
      refine rd 18 (h := fun K hK => ?_)
      go_simp
      have HNb := Lib.hid (HNb.out.setRow_mf #[.int .i64 de, .int .i64 dn, .int .i64 dg] hne)
      have HO := Lib.hid (HO.out.put HBB.out #[.int .i64 de, .int .i64 dn, .int .i64 dg] HRb.out HRL2.out (Blk.ne_ HRb.out HO.out.f (by decide)) (by decide) (by decide))
      have HRb := Lib.hid (HRb.out.setRow_m #[.int .i64 de, .int .i64 dn, .int .i64 dg])
      clear hst
      refine so hK (by (try dsimp only); (exact HS14.out _ HO.out)) (h := fun hHeld => ?_)
      clear hK K
      refine wpAnyH_done (by kernel_rfl) ?_ _
      try simp only [Act.put, List.getElem_toArray, List.getElem_cons_succ, List.getElem_cons_zero, List.setIfInBounds_toArray, List.set_cons_zero, List.set_cons_succ]
      go_wp2_with fail
      go_meet
      exact ⟨_, _, rfl, rfl, HO.out, HNb.out, HRb.out, HNL2.out, HRL2.out⟩
     exact AllReadyH.nil
    refine AllReadyH.cons rfl (fun K hK => ?_) ?_
    ·
     go_simp
     have HRL2 := Lib.hid HO.out.r.lt
     have HRb := Lib.hid (Blk.newAtR HO.out.bel 37 #[.int .i64 0, .int .i64 0, .int .i64 0])
     have HO := Lib.hid (HO.out.alloc (.cells #[.int .i64 0, .int .i64 0, .int .i64 0] 37))
     generalize World.alloc _ (.cells #[.int .i64 0, .int .i64 0, .int .i64 0] 37) = Wb at HO HRb  ⊢
     refine so hK (by (try dsimp only); (exact HS14.out _ HO.out)) (h := fun hHeld => ?_)
     clear hK K
     refine wpAnyH_ready (rs := [15]) (by kernel_rfl) (by simp) ?_
     refine AllReadyH.cons rfl (fun K hK => ?_) ?_
     ·
      go_simp
      have HNL2 := Lib.hid HO.out.r.lt
      have HNb := Lib.hid (Blk.newAtR HO.out.bel 44 Tryz.zeroCells44)
      have HO := Lib.hid (HO.out.alloc (.cells Tryz.zeroCells44 44))
      have HRb := Lib.hid (HRb.out.alloc (.cells Tryz.zeroCells44 44))
      generalize World.alloc _ (.cells Tryz.zeroCells44 44) = Wa at HO HNb HRb ⊢
      refine so hK (by (try dsimp only); (exact HS14.out _ HO.out)) (h := fun hHeld => ?_)
      clear hK K
      have hst := HSN.out _ _ _ HNb.out zeroM_size
      refine rd 17 (h := fun K hK => ?_)
      go_simp
      have hne := Blk.ne_ HNb.out HRb.out (by decide)
      have HRb := Lib.hid (HRb.out.setRow_mf DA (Ne.symm hne))
      have HO := Lib.hid (HO.out.put HBB.out DA HNb.out HNL2.out (Blk.ne_ HNb.out HO.out.f (by decide)) (by decide) (by decide))
      have HNb := Lib.hid (HNb.out.setRow_m DA)
      clear hst
      refine so hK (by (try dsimp only); (exact HS14.out _ HO.out)) (h := fun hHeld => ?_)
      clear hK K
      have hst := run_sstR de dn dg HRb.out rfl
      refine rd 18 (h := fun K hK => ?_)
      go_simp
      have HNb := Lib.hid (HNb.out.setRow_mf #[.int .i64 de, .int .i64 dn, .int .i64 dg] hne)
      have HO := Lib.hid (HO.out.put HBB.out #[.int .i64 de, .int .i64 dn, .int .i64 dg] HRb.out HRL2.out (Blk.ne_ HRb.out HO.out.f (by decide)) (by decide) (by decide))
      have HRb := Lib.hid (HRb.out.setRow_m #[.int .i64 de, .int .i64 dn, .int .i64 dg])
      clear hst
      refine so hK (by (try dsimp only); (exact HS14.out _ HO.out)) (h := fun hHeld => ?_)
      clear hK K
      refine wpAnyH_done (by kernel_rfl) ?_ _
      try simp only [Act.put, List.getElem_toArray, List.getElem_cons_succ, List.getElem_cons_zero, List.setIfInBounds_toArray, List.set_cons_zero, List.set_cons_succ]
      go_wp2_with fail
      go_meet
      exact ⟨_, _, rfl, rfl, HO.out, HNb.out, HRb.out, HNL2.out, HRL2.out⟩
     exact AllReadyH.nil
    exact AllReadyH.nil
   refine AllReadyH.cons rfl (fun K hK => ?_) ?_
   ·
    go_simp
    have HNL2 := Lib.hid HO.out.r.lt
    have HNb := Lib.hid (Blk.newAtR HO.out.bel 44 Tryz.zeroCells44)
    have HO := Lib.hid (HO.out.alloc (.cells Tryz.zeroCells44 44))
    generalize World.alloc _ (.cells Tryz.zeroCells44 44) = Wa at HO HNb  ⊢
    refine so hK (by (try dsimp only); (exact HS14.out _ HO.out)) (h := fun hHeld => ?_)
    clear hK K
    refine wpAnyH_ready (rs := [11, 16]) (by kernel_rfl) (by simp) ?_
    refine AllReadyH.cons rfl (fun K hK => ?_) ?_
    ·
     go_simp
     refine (HDO2.out _ (HRD.out.below HO.out.bel)).mono ?_; rintro e w' ⟨rfl, hb⟩; have HO := Lib.hid (HO.out.later hb); have HNb := Lib.hid (HNb.out.below hb HNb.out.lt); clear hb
     go_wp2_with fail
     refine so hK (by (try dsimp only); (exact HS14.out _ HO.out)) (h := fun hHeld => ?_)
     clear hK K
     refine tk 12 (h := ?_)
     refine tk 13 (h := ?_)
     refine tk 14 (h := ?_)
     refine wpAnyH_ready (rs := [16]) (by kernel_rfl) (by simp) ?_
     refine AllReadyH.cons rfl (fun K hK => ?_) ?_
     ·
      go_simp
      have HRL2 := Lib.hid HO.out.r.lt
      have HRb := Lib.hid (Blk.newAtR HO.out.bel 37 #[.int .i64 0, .int .i64 0, .int .i64 0])
      have HO := Lib.hid (HO.out.alloc (.cells #[.int .i64 0, .int .i64 0, .int .i64 0] 37))
      have HNb := Lib.hid (HNb.out.alloc (.cells #[.int .i64 0, .int .i64 0, .int .i64 0] 37))
      generalize World.alloc _ (.cells #[.int .i64 0, .int .i64 0, .int .i64 0] 37) = Wb at HO HRb HNb ⊢
      refine so hK (by (try dsimp only); (exact HS14.out _ HO.out)) (h := fun hHeld => ?_)
      clear hK K
      have hst := HSN.out _ _ _ HNb.out zeroM_size
      refine rd 17 (h := fun K hK => ?_)
      go_simp
      have hne := Blk.ne_ HNb.out HRb.out (by decide)
      have HRb := Lib.hid (HRb.out.setRow_mf DA (Ne.symm hne))
      have HO := Lib.hid (HO.out.put HBB.out DA HNb.out HNL2.out (Blk.ne_ HNb.out HO.out.f (by decide)) (by decide) (by decide))
      have HNb := Lib.hid (HNb.out.setRow_m DA)
      clear hst
      refine so hK (by (try dsimp only); (exact HS14.out _ HO.out)) (h := fun hHeld => ?_)
      clear hK K
      have hst := run_sstR de dn dg HRb.out rfl
      refine rd 18 (h := fun K hK => ?_)
      go_simp
      have HNb := Lib.hid (HNb.out.setRow_mf #[.int .i64 de, .int .i64 dn, .int .i64 dg] hne)
      have HO := Lib.hid (HO.out.put HBB.out #[.int .i64 de, .int .i64 dn, .int .i64 dg] HRb.out HRL2.out (Blk.ne_ HRb.out HO.out.f (by decide)) (by decide) (by decide))
      have HRb := Lib.hid (HRb.out.setRow_m #[.int .i64 de, .int .i64 dn, .int .i64 dg])
      clear hst
      refine so hK (by (try dsimp only); (exact HS14.out _ HO.out)) (h := fun hHeld => ?_)
      clear hK K
      refine wpAnyH_done (by kernel_rfl) ?_ _
      try simp only [Act.put, List.getElem_toArray, List.getElem_cons_succ, List.getElem_cons_zero, List.setIfInBounds_toArray, List.set_cons_zero, List.set_cons_succ]
      go_wp2_with fail
      go_meet
      exact ⟨_, _, rfl, rfl, HO.out, HNb.out, HRb.out, HNL2.out, HRL2.out⟩
     exact AllReadyH.nil
    refine AllReadyH.cons rfl (fun K hK => ?_) ?_
    ·
     go_simp
     have HRL2 := Lib.hid HO.out.r.lt
     have HRb := Lib.hid (Blk.newAtR HO.out.bel 37 #[.int .i64 0, .int .i64 0, .int .i64 0])
     have HO := Lib.hid (HO.out.alloc (.cells #[.int .i64 0, .int .i64 0, .int .i64 0] 37))
     have HNb := Lib.hid (HNb.out.alloc (.cells #[.int .i64 0, .int .i64 0, .int .i64 0] 37))
     generalize World.alloc _ (.cells #[.int .i64 0, .int .i64 0, .int .i64 0] 37) = Wb at HO HRb HNb ⊢
     refine so hK (by (try dsimp only); (exact HS14.out _ HO.out)) (h := fun hHeld => ?_)
     clear hK K
     refine wpAnyH_ready (rs := [11]) (by kernel_rfl) (by simp) ?_
     refine AllReadyH.cons rfl (fun K hK => ?_) ?_
     ·
      go_simp
      refine (HDO2.out _ (HRD.out.below HO.out.bel)).mono ?_; rintro e w' ⟨rfl, hb⟩; have HO := Lib.hid (HO.out.later hb); have HNb := Lib.hid (HNb.out.below hb HNb.out.lt); have HRb := Lib.hid (HRb.out.below hb HRb.out.lt); clear hb
      go_wp2_with fail
      refine so hK (by (try dsimp only); (exact HS14.out _ HO.out)) (h := fun hHeld => ?_)
      clear hK K
      refine tk 12 (h := ?_)
      refine tk 13 (h := ?_)
      refine tk 14 (h := ?_)
      have hst := HSN.out _ _ _ HNb.out zeroM_size
      refine rd 17 (h := fun K hK => ?_)
      go_simp
      have hne := Blk.ne_ HNb.out HRb.out (by decide)
      have HRb := Lib.hid (HRb.out.setRow_mf DA (Ne.symm hne))
      have HO := Lib.hid (HO.out.put HBB.out DA HNb.out HNL2.out (Blk.ne_ HNb.out HO.out.f (by decide)) (by decide) (by decide))
      have HNb := Lib.hid (HNb.out.setRow_m DA)
      clear hst
      refine so hK (by (try dsimp only); (exact HS14.out _ HO.out)) (h := fun hHeld => ?_)
      clear hK K
      have hst := run_sstR de dn dg HRb.out rfl
      refine rd 18 (h := fun K hK => ?_)
      go_simp
      have HNb := Lib.hid (HNb.out.setRow_mf #[.int .i64 de, .int .i64 dn, .int .i64 dg] hne)
      have HO := Lib.hid (HO.out.put HBB.out #[.int .i64 de, .int .i64 dn, .int .i64 dg] HRb.out HRL2.out (Blk.ne_ HRb.out HO.out.f (by decide)) (by decide) (by decide))
      have HRb := Lib.hid (HRb.out.setRow_m #[.int .i64 de, .int .i64 dn, .int .i64 dg])
      clear hst
      refine so hK (by (try dsimp only); (exact HS14.out _ HO.out)) (h := fun hHeld => ?_)
      clear hK K
      refine wpAnyH_done (by kernel_rfl) ?_ _
      try simp only [Act.put, List.getElem_toArray, List.getElem_cons_succ, List.getElem_cons_zero, List.setIfInBounds_toArray, List.set_cons_zero, List.set_cons_succ]
      go_wp2_with fail
      go_meet
      exact ⟨_, _, rfl, rfl, HO.out, HNb.out, HRb.out, HNL2.out, HRL2.out⟩
     exact AllReadyH.nil
    exact AllReadyH.nil
   refine AllReadyH.cons rfl (fun K hK => ?_) ?_
   ·
    go_simp
    have HRL2 := Lib.hid HO.out.r.lt
    have HRb := Lib.hid (Blk.newAtR HO.out.bel 37 #[.int .i64 0, .int .i64 0, .int .i64 0])
    have HO := Lib.hid (HO.out.alloc (.cells #[.int .i64 0, .int .i64 0, .int .i64 0] 37))
    generalize World.alloc _ (.cells #[.int .i64 0, .int .i64 0, .int .i64 0] 37) = Wb at HO HRb  ⊢
    refine so hK (by (try dsimp only); (exact HS14.out _ HO.out)) (h := fun hHeld => ?_)
    clear hK K
    refine wpAnyH_ready (rs := [11, 15]) (by kernel_rfl) (by simp) ?_
    refine AllReadyH.cons rfl (fun K hK => ?_) ?_
    ·
     go_simp
     refine (HDO2.out _ (HRD.out.below HO.out.bel)).mono ?_; rintro e w' ⟨rfl, hb⟩; have HO := Lib.hid (HO.out.later hb); have HRb := Lib.hid (HRb.out.below hb HRb.out.lt); clear hb
     go_wp2_with fail
     refine so hK (by (try dsimp only); (exact HS14.out _ HO.out)) (h := fun hHeld => ?_)
     clear hK K
     refine tk 12 (h := ?_)
     refine tk 13 (h := ?_)
     refine tk 14 (h := ?_)
     refine wpAnyH_ready (rs := [15]) (by kernel_rfl) (by simp) ?_
     refine AllReadyH.cons rfl (fun K hK => ?_) ?_
     ·
      go_simp
      have HNL2 := Lib.hid HO.out.r.lt
      have HNb := Lib.hid (Blk.newAtR HO.out.bel 44 Tryz.zeroCells44)
      have HO := Lib.hid (HO.out.alloc (.cells Tryz.zeroCells44 44))
      have HRb := Lib.hid (HRb.out.alloc (.cells Tryz.zeroCells44 44))
      generalize World.alloc _ (.cells Tryz.zeroCells44 44) = Wa at HO HNb HRb ⊢
      refine so hK (by (try dsimp only); (exact HS14.out _ HO.out)) (h := fun hHeld => ?_)
      clear hK K
      have hst := HSN.out _ _ _ HNb.out zeroM_size
      refine rd 17 (h := fun K hK => ?_)
      go_simp
      have hne := Blk.ne_ HNb.out HRb.out (by decide)
      have HRb := Lib.hid (HRb.out.setRow_mf DA (Ne.symm hne))
      have HO := Lib.hid (HO.out.put HBB.out DA HNb.out HNL2.out (Blk.ne_ HNb.out HO.out.f (by decide)) (by decide) (by decide))
      have HNb := Lib.hid (HNb.out.setRow_m DA)
      clear hst
      refine so hK (by (try dsimp only); (exact HS14.out _ HO.out)) (h := fun hHeld => ?_)
      clear hK K
      have hst := run_sstR de dn dg HRb.out rfl
      refine rd 18 (h := fun K hK => ?_)
      go_simp
      have HNb := Lib.hid (HNb.out.setRow_mf #[.int .i64 de, .int .i64 dn, .int .i64 dg] hne)
      have HO := Lib.hid (HO.out.put HBB.out #[.int .i64 de, .int .i64 dn, .int .i64 dg] HRb.out HRL2.out (Blk.ne_ HRb.out HO.out.f (by decide)) (by decide) (by decide))
      have HRb := Lib.hid (HRb.out.setRow_m #[.int .i64 de, .int .i64 dn, .int .i64 dg])
      clear hst
      refine so hK (by (try dsimp only); (exact HS14.out _ HO.out)) (h := fun hHeld => ?_)
      clear hK K
      refine wpAnyH_done (by kernel_rfl) ?_ _
      try simp only [Act.put, List.getElem_toArray, List.getElem_cons_succ, List.getElem_cons_zero, List.setIfInBounds_toArray, List.set_cons_zero, List.set_cons_succ]
      go_wp2_with fail
      go_meet
      exact ⟨_, _, rfl, rfl, HO.out, HNb.out, HRb.out, HNL2.out, HRL2.out⟩
     exact AllReadyH.nil
    refine AllReadyH.cons rfl (fun K hK => ?_) ?_
    ·
     go_simp
     have HNL2 := Lib.hid HO.out.r.lt
     have HNb := Lib.hid (Blk.newAtR HO.out.bel 44 Tryz.zeroCells44)
     have HO := Lib.hid (HO.out.alloc (.cells Tryz.zeroCells44 44))
     have HRb := Lib.hid (HRb.out.alloc (.cells Tryz.zeroCells44 44))
     generalize World.alloc _ (.cells Tryz.zeroCells44 44) = Wa at HO HNb HRb ⊢
     refine so hK (by (try dsimp only); (exact HS14.out _ HO.out)) (h := fun hHeld => ?_)
     clear hK K
     refine wpAnyH_ready (rs := [11]) (by kernel_rfl) (by simp) ?_
     refine AllReadyH.cons rfl (fun K hK => ?_) ?_
     ·
      go_simp
      refine (HDO2.out _ (HRD.out.below HO.out.bel)).mono ?_; rintro e w' ⟨rfl, hb⟩; have HO := Lib.hid (HO.out.later hb); have HNb := Lib.hid (HNb.out.below hb HNb.out.lt); have HRb := Lib.hid (HRb.out.below hb HRb.out.lt); clear hb
      go_wp2_with fail
      refine so hK (by (try dsimp only); (exact HS14.out _ HO.out)) (h := fun hHeld => ?_)
      clear hK K
      refine tk 12 (h := ?_)
      refine tk 13 (h := ?_)
      refine tk 14 (h := ?_)
      have hst := HSN.out _ _ _ HNb.out zeroM_size
      refine rd 17 (h := fun K hK => ?_)
      go_simp
      have hne := Blk.ne_ HNb.out HRb.out (by decide)
      have HRb := Lib.hid (HRb.out.setRow_mf DA (Ne.symm hne))
      have HO := Lib.hid (HO.out.put HBB.out DA HNb.out HNL2.out (Blk.ne_ HNb.out HO.out.f (by decide)) (by decide) (by decide))
      have HNb := Lib.hid (HNb.out.setRow_m DA)
      clear hst
      refine so hK (by (try dsimp only); (exact HS14.out _ HO.out)) (h := fun hHeld => ?_)
      clear hK K
      have hst := run_sstR de dn dg HRb.out rfl
      refine rd 18 (h := fun K hK => ?_)
      go_simp
      have HNb := Lib.hid (HNb.out.setRow_mf #[.int .i64 de, .int .i64 dn, .int .i64 dg] hne)
      have HO := Lib.hid (HO.out.put HBB.out #[.int .i64 de, .int .i64 dn, .int .i64 dg] HRb.out HRL2.out (Blk.ne_ HRb.out HO.out.f (by decide)) (by decide) (by decide))
      have HRb := Lib.hid (HRb.out.setRow_m #[.int .i64 de, .int .i64 dn, .int .i64 dg])
      clear hst
      refine so hK (by (try dsimp only); (exact HS14.out _ HO.out)) (h := fun hHeld => ?_)
      clear hK K
      refine wpAnyH_done (by kernel_rfl) ?_ _
      try simp only [Act.put, List.getElem_toArray, List.getElem_cons_succ, List.getElem_cons_zero, List.setIfInBounds_toArray, List.set_cons_zero, List.set_cons_succ]
      go_wp2_with fail
      go_meet
      exact ⟨_, _, rfl, rfl, HO.out, HNb.out, HRb.out, HNL2.out, HRL2.out⟩
     exact AllReadyH.nil
    exact AllReadyH.nil
   exact AllReadyH.nil
  case rest =>
   obtain ⟨nb, rb, rfl, rfl, hO, hNb, hRb, hnl, hrl⟩ := hcut
   have HO := Lib.hid hO
   have HNb := Lib.hid hNb
   have HRb := Lib.hid hRb
   have cr0 : wc.cell? ⟨rb, 0, none⟩ = some (.int .i64 de) := hRb.cell 0
   have cq0 : wc.cell? ⟨w.heap.size, 0, none⟩ = some (.int .i64 qk) := hO.q.cell 0
   clear HS14 HSN HDO2 hO hNb hRb hnl hrl HREAD HANY HSIGN HSHA
   by_cases he : de = 0
   ·
    subst he
    go_upto_block 1 with fail
    clear cr0 cq0
    go_cut [] from 97 (fun wx => (∃ T0 d0 T1 d1, RmAt wx B b c m l0 NL K kc F fc T0 d0 T1 d1) ∧ Blk wx nb 44 DA ∧ Blk wx rb 37 #[.int .i64 0, .int .i64 dn, .int .i64 dg] ∧ Blk wx (w.heap.size + 1) 37 #[.int .i64 0, .int .i64 0, .int .i64 0] ∧ Only S w wx)
    case first =>
     by_cases h1 : qk = 1
     ·
      subst h1
      have q0 : wc.cell? ⟨b, 115, none⟩ = some (.slice S1 l1.length c1) := HO.out.md.cell1
      have fz := HO.out.md.blk.frozen 115
      have hmd := HO.out.md.setS1 (A := none) (n := 0) (cc := 0) (l := []) rfl own_noneM (fun k hk => absurd hk (by simp [Value.ownBlock]))
      have ho : Only [b] wc (wc.setCell ⟨b, 115, none⟩ (.slice none 0 0)) := (Only.refl [b] wc).setCell (p := ⟨b, 115, none⟩) (.inl (by simp)) _
      have HMD := Lib.hid hmd
      have HN := Lib.hid (HNb.out.only ho (by have := Blk.ne_ HNb.out HO.out.md.blk (by decide); simpa using this))
      have HR := Lib.hid (HRb.out.only ho (by have := Blk.ne_ HRb.out HO.out.md.blk (by decide); simpa using this))
      have HX := Lib.hid (HO.out.r.only ho (by have := Blk.ne_ HO.out.r HO.out.md.blk (by decide); simpa using this))
      have HON := Lib.hid ((Only.of_below (S := S) HO.out.bel).trans (ho.mono (fun k hk => by rw [List.mem_singleton.1 hk]; exact .inl HSB.out)))
      clear hmd ho
      go_wp2_with fail
      go_meet
      have e : NL = [] := by rw [← HNL.out]; unfold slotR; rw [if_pos ⟨rfl, rfl⟩]
      rw [e]
      exact ⟨⟨_, _, _, _, HMD.out⟩, HN.out, HR.out, HX.out, HON.out⟩
     by_cases h2 : qk = 2
     ·
      subst h2
      have hn1 : ((2 : Int) == 1) = false := by decide
      go_upto_region 21 with fail
      have hs2 : wc.drew.cell? ⟨w.heap.size, 2, none⟩ = some (.slice SB sl sc) := HO.out.q.cell 2
      refine wp_region_held_drew (S := (fun W => W.cell? ⟨w.heap.size, 2, none⟩ = some (.slice SB sl sc))) (by kernel_rfl) ?_ (fun hHeld => ?_)
      ·
       exact hs2
      generalize hwd : wc.drew = Wd at hs2 hHeld ⊢
      have hO := HO.out.later ((Below.refl _ wc).drew)
      have hN := HNb.out.below ((Below.refl _ wc).drew) HNb.out.lt
      have hR := HRb.out.below ((Below.refl _ wc).drew) HRb.out.lt
      rw [hwd] at hO hN hR
      clear HO HNb HRb hwd
      have HO := Lib.hid hO
      have HNb := Lib.hid hN
      have HRb := Lib.hid hR
      clear hO hN hR
      refine tk 0 (h := ?_)
      refine tk 1 (h := ?_)
      refine tk 2 (h := ?_)
      refine tk 3 (h := ?_)
      refine tk 4 (h := ?_)
      refine tk 5 (h := ?_)
      refine tk 6 (h := ?_)
      refine tk 8 (h := ?_)
      refine tk 9 (h := ?_)
      refine tk 11 (h := ?_)
      refine tk 12 (h := ?_)
      have c7b : Wd.cell? ⟨b, 115, none⟩ = some (.slice S1 l1.length c1) := HO.out.md.cell1
      refine rd 7 (h := fun K hK => ?_)
      go_simp
      refine so hK (by (try dsimp only); (first | exact HQ.out.cell 2 | exact HQ9.out.cell 2 | exact HO.out.q.cell 2)) (h := fun hHeld => ?_)
      clear hK K
      refine rd 10 (h := fun K hK => ?_)
      refine step_append_any _ rfl (.tmp 113) (.tmp 115) 22 (by rfl) B 5 i0 (.int .u8 0) 1 Tryz.underlying22 HI8.out HZ0.out HZ1.out HZ2.out rfl (.slice S1 l1.length c1) l1.length (l1.map u8v) (by rfl) HO.out.md.s1 SB sl sc (l.map u8v) (by rfl) (HRD.out.below HO.out.bel) (u8v_one _) (by have := HSZ.out; unfold maxLen; omega) (by have := HSZ.out; omega) (Nat.le_trans HBB.out HO.out.bel.size) ?_
      intro A9 c9 w9 hown9 hgrow9 hat9
      have hty : ∀ (g : Nat) (t : TypeId) (cs : Array Value), Blk Wd g t cs → t ≠ 5 → Blk w9 g t cs := fun g t cs hB ht => hB.grown hgrow9 (fun e => own_blk_ne HO.out.md.s1 hB (Ne.symm ht) e.symm)
      have c9b : w9.cell? ⟨b, 115, none⟩ = some (.slice S1 l1.length c1) := by
       rw [World.cell?_of_block (a := ⟨b, 115, none⟩) (hgrow9.block b HO.out.md.blk.lt (fun e => own_blk_ne HO.out.md.s1 HO.out.md.blk (by decide) e.symm))]
       exact HO.out.md.cell1
      have hb9 := hty _ _ _ HO.out.md.blk (by decide)
      have fz := hb9.frozen 115
      have HN9 := Lib.hid (hty _ _ _ HNb.out (by decide))
      have HR9 := Lib.hid (hty _ _ _ HRb.out (by decide))
      have HX9 := Lib.hid (hty _ _ _ HO.out.r (by decide))
      have HQ9 := Lib.hid (hty _ _ _ HO.out.q (by decide))
      have HB9 := Lib.hid hb9
      have hmd := HO.out.md.app1 (l := l1 ++ l) (n := l1.length + sl) (by rw [List.length_append, HLEN.out]) hgrow9 (by rw [List.map_append]; exact hown9) hat9
      have HMD := Lib.hid hmd
      have HON9 := Lib.hid (((Only.of_below (S := S) HO.out.bel).grown hgrow9 (fun g e => .inl (HSS1.out g e))))
      clear hown9 hgrow9 hat9 hb9 hmd hty
      refine so hK (by (try dsimp only); (first | exact HQ.out.cell 2 | exact HQ9.out.cell 2 | exact HO.out.q.cell 2)) (h := fun hHeld => ?_)
      clear hK K
      refine tk 13 (h := ?_)
      have ho2 : Only [b] w9 (w9.setCell ⟨b, 115, none⟩ (.slice A9 (l1.length + sl) c9)) := (Only.refl [b] w9).setCell (p := ⟨b, 115, none⟩) (.inl (by simp)) _
      have HN := Lib.hid (HN9.out.only ho2 (by have := Blk.ne_ HN9.out HB9.out (by decide); simpa using this))
      have HR := Lib.hid (HR9.out.only ho2 (by have := Blk.ne_ HR9.out HB9.out (by decide); simpa using this))
      have HX := Lib.hid (HX9.out.only ho2 (by have := Blk.ne_ HX9.out HB9.out (by decide); simpa using this))
      have HQ := Lib.hid (HQ9.out.only ho2 (by have := Blk.ne_ HQ9.out HB9.out (by decide); simpa using this))
      have HON := Lib.hid (HON9.out.trans (ho2.mono (fun k hk => by rw [List.mem_singleton.1 hk]; exact .inl HSB.out)))
      clear ho2
      refine rd 14 (h := fun K hK => ?_)
      go_simp
      refine so hK (by (try dsimp only); (first | exact HQ.out.cell 2 | exact HQ9.out.cell 2 | exact HO.out.q.cell 2)) (h := fun hHeld => ?_)
      clear hK K
      refine wpAnyH_done (by kernel_rfl) ?_ _
      try simp only [Act.put, List.getElem_toArray, List.getElem_cons_succ, List.getElem_cons_zero, List.setIfInBounds_toArray, List.set_cons_zero, List.set_cons_succ]
      go_wp2_with fail
      go_meet
      have e : NL = l1 ++ l := by rw [← HNL.out]; unfold slotR; rw [if_neg (by decide), if_pos ⟨rfl, rfl⟩]
      rw [e]
      exact ⟨⟨_, _, _, _, HMD.out⟩, HN.out, HR.out, HX.out, HON.out⟩
     ·
      have hn1 : (qk == 1) = false := by rw [beq_eq_false_iff_ne]; exact h1
      have hn2 : (qk == 2) = false := by rw [beq_eq_false_iff_ne]; exact h2
      go_wp2_with fail
      go_meet
      have e : NL = l1 := by rw [← HNL.out]; unfold slotR; rw [if_neg (fun q => h1 q.2), if_neg (fun q => h2 q.2)]
      rw [e]
      exact ⟨⟨_, _, _, _, HO.out.md⟩, HNb.out, HRb.out, HO.out.r, Only.of_below (S := S) HO.out.bel⟩
    case rest =>
     obtain ⟨⟨T0, d0, T1, d1, hmd⟩, hN, hR, hX, hon⟩ := hcut
     have HMD := Lib.hid hmd
     have HON := Lib.hid hon
     have hld : (sldM (.pointer (some ⟨nb, 0, none⟩))).run Tryz.prog wc = .ok (.agg DA) wc := by
      have q := hN
      rw [← HDA.out] at q ⊢
      exact run_sldM (Mt.cells_len HDOK.out) q.whole
     have hst := run_sstMo (o := 7) hmd.blk (by rw [List.size_toArray, mdC_len (c.cells_len K kc F fc) hmd.ok]; omega) dm HDOK.out
     have hmd2 := hmd.putM dm HDOK.out
     have ho2 : Only [b] wc (wc.setCells b 7 dm.cells) := only_setCells _ _ _ (Only.refl _ _)
     have n1 : rb ∉ [b] := by have := Blk.ne_ hR hmd.blk (by decide); simpa using this
     have n2 : w.heap.size + 1 ∉ [b] := by have := Blk.ne_ hX hmd.blk (by decide); simpa using this
     have hrb2 := hR.only ho2 n1
     have hr2 := hX.only ho2 n2
     have hldr := run_sldR rfl hrb2.whole
     have hstr := run_sstR 0 dn dg hr2 rfl
     have hfin := hr2.setRow_m #[.int .i64 0, .int .i64 dn, .int .i64 dg]
     have hmd3 := hmd2.putR hr2 (Nat.le_succ_of_le HBB.out) (by decide) (by decide) #[.int .i64 0, .int .i64 dn, .int .i64 dg]
     have hon3 := (HON.out.cellsM (.inl HSB.out) dm.cells 7).rowM (.inr (Nat.le_succ w.heap.size)) #[.int .i64 0, .int .i64 dn, .int .i64 dg]
     have HFIN := Lib.hid hfin
     have HMD3 := Lib.hid hmd3
     have HON3 := Lib.hid hon3
     clear hfin hmd3 hon hon3 hr2 hrb2 n1 n2 ho2 hmd2 hmd hN hR hX
     rw [HDA.out] at hst
     obtain ⟨DL, hDL⟩ : ∃ DL, dm.cells = DL := ⟨_, rfl⟩
     rw [hDL] at hst hldr hstr HMD3 HON3 HFIN
     clear hDL
     go_wp2_with fail
     refine bodyPost_ret (results_cell_row rfl _ _ (w.heap.size + 1) 37 #[.int .i64 0, .int .i64 dn, .int .i64 dg] (0, 0) _ rfl HFIN.out Tryz.underlying37 rfl info_sRp) rfl ?_
     exact ⟨rfl, ⟨_, _, _, _, HMD3.out⟩, HON3.out⟩
   ·
    have hdm := HSAME.out he
    have hen : (de != 0) = true := by rw [bne_iff_ne]; exact he
    have hldr := run_sldR rfl HRb.out.whole
    have hstr := run_sstR de dn dg HO.out.r rfl
    have HFIN := Lib.hid (HO.out.r.setRow_m #[.int .i64 de, .int .i64 dn, .int .i64 dg])
    have HMD := Lib.hid (HO.out.md.putR HO.out.r (Nat.le_succ_of_le HBB.out) (by decide) (by decide) #[.int .i64 de, .int .i64 dn, .int .i64 dg])
    have HON := Lib.hid ((Only.of_below (S := S) HO.out.bel).rowM (.inr (Nat.le_succ w.heap.size)) #[.int .i64 de, .int .i64 dn, .int .i64 dg])
    go_wp2_with fail
    refine bodyPost_ret (results_cell_row rfl _ _ (w.heap.size + 1) 37 #[.int .i64 de, .int .i64 dn, .int .i64 dg] (0, 0) _ rfl HFIN.out Tryz.underlying37 rfl info_sRp) rfl ?_
    have e : NL = l1 := by rw [← HNL.out]; unfold slotR; rw [if_neg (fun q => he q.1), if_neg (fun q => he q.1)]
    rw [e, hdm]
    exact ⟨rfl, ⟨_, _, _, _, HMD.out⟩, HON.out⟩
set_option maxRecDepth 100000 in
set_option maxHeartbeats 32000000 in
theorem rmdo_yes1 (w : World) (B b : Nat) (c : Cf) (m : Mt) (l0 l1 : List UInt8) (K : Option Addr) (kc : Nat) (F : Option Addr) (fc : Nat) (S0 : Option Addr) (c0 : Nat) (S1 : Option Addr) (c1 : Nat) (h : RmAt w B b c m l0 l1 K kc F fc S0 c0 S1 c1) (hB0 : B ≤ w.heap.size) (r : Nat) (hr : c.rights = (r : Int)) (hr2 : r ≤ 1023) (S : List Nat) (hSb : b ∈ S) (hS0 : ∀ k, (Value.slice S0 l0.length c0).ownBlock = some k → k ∈ S) (hS1 : ∀ k, (Value.slice S1 l1.length c1).ownBlock = some k → k ∈ S)
  (hact : m.act = 1) (hl0 : l0.length ≤ 1000000) (hl1 : l1.length ≤ 1000000) (hkl : c.key.length ≤ 100000)
  (qk qn : Int) (SB : Option Addr) (sl sc : Nat) (l : List UInt8) (hrd : Reads w SB sl (l.map u8v)) (hsl : sl ≤ 1000) (hsc : sl ≤ sc ∧ sc ≤ maxLen) (hyes : mayK r qk = true) (dm : Mt) (de dn dg : Int) (hD : doA m (factR c l0 qk l) qk qn l c.quota = ⟨dm, de, dn, dg⟩) (hsame : de ≠ 0 → dm = m) :
  Calls Tryz.prog 11 #[.pointer (some ⟨b, 0, none⟩), .agg #[.int .i64 qk, .int .i64 qn, .slice SB sl sc]] w fun e w' => e = .returned (.agg #[.int .i64 de, .int .i64 dn, .int .i64 dg]) ∧ (∃ T0 d0 T1 d1, RmAt w' B b c dm (slotR de qk l l0) l1 K kc F fc T0 d0 T1 d1) ∧ Only S w w' := by
 have hlen : l.length = sl := by simpa using hrd.len
 have hq := (Blk.new w 34 #[.int .i64 qk, .int .i64 qn, .slice SB sl sc]).alloc (.cells #[.int .i64 0, .int .i64 0, .int .i64 0] 37)
 have hx := (Blk.new (w.alloc (.cells #[.int .i64 qk, .int .i64 qn, .slice SB sl sc] 34)) 37 #[.int .i64 0, .int .i64 0, .int .i64 0])
 rw [show (w.alloc (.cells #[.int .i64 qk, .int .i64 qn, .slice SB sl sc] 34)).heap.size = w.heap.size + 1 from by simp] at hx
 have hb : Below w.heap.size w ((w.alloc (.cells #[.int .i64 qk, .int .i64 qn, .slice SB sl sc] 34)).alloc (.cells #[.int .i64 0, .int .i64 0, .int .i64 0] 37)) := ((Below.refl _ w).alloc (Nat.le_refl _) _).alloc (by simp) _
 have hmd := h.below hb
 have k5 : ((w.alloc (.cells #[.int .i64 qk, .int .i64 qn, .slice SB sl sc] 34)).alloc (.cells #[.int .i64 0, .int .i64 0, .int .i64 0] 37)).cell? ⟨b, 5, none⟩ = some (.int .i64 (r : Int)) := by
  rw [hmd.cellC 5 (by omega)]
  show some (Value.int .i64 c.rights) = _
  rw [hr]
 have hmay := fun W => rmaydo_c W r hr2 0 0 qk
 have hsz1 : ((w.alloc (.cells #[.int .i64 qk, .int .i64 qn, .slice SB sl sc] 34)).alloc (.cells #[.int .i64 0, .int .i64 0, .int .i64 0] 37)).heap.size = w.heap.size + 2 := by simp
 rw [hyes] at hmay
 have hfl : (factR c l0 qk l).d.length = 32 := factR_len _ _ _ _
 obtain ⟨NL, hNL⟩ : ∃ NL, slotR de qk l l0 = NL := ⟨_, rfl⟩
 rw [hNL]
 obtain ⟨FR, hFR⟩ : ∃ FR, factR c l0 qk l = FR := ⟨_, rfl⟩
 rw [hFR] at hfl hD
 have hdo : ∀ W, Reads W SB sl (l.map u8v) → Calls Tryz.prog 36 #[.agg m.cells.toArray, .agg #[.int .i64 qk, .int .i64 qn, .slice SB sl sc], .agg FR.cells.toArray, .int .i64 c.quota] W fun e w' => e = .returned (.tuple #[.agg dm.cells.toArray, .agg #[.int .i64 de, .int .i64 dn, .int .i64 dg]]) ∧ Below W.heap.size W w' := fun W hW => by
  have q := rdo_c W m h.ok qk qn SB sl sc l hW hsl hsc _ hfl c.quota
  rw [rdo_eq, hD] at q
  exact q
 have hDo : dm.Ok := by
  have q := doA_ok h.ok FR qk qn l c.quota
  rw [hD] at q
  exact q
 have hread := fun (W : World) (hW : Reads W SB sl (l.map u8v)) => rmread_c W SB sl sc l hW (by omega) hsc
 have hany := fun e w' => ManRet.any2 (l := l) (e := e) (w' := w')
 have hsign := fun (W : World) (hK : Reads W K c.key.length (c.key.map u8v)) (hW : Reads W SB sl (l.map u8v)) => rmsigned_c W K c.key.length kc c.key hK hkl SB sl sc l hW (by omega) hsc
 have hsha := fun (W : World) (A : Option Addr) (cc : Nat) (hW : Reads W A l0.length (l0.map u8v)) => rsha_c W A cc l0 hW (by omega)
 obtain ⟨i0, hi8, hz0, hz1, hz2⟩ := info_parts info_u8
 have HI8 := Lib.hid hi8
 have HZ0 := Lib.hid hz0
 have HZ1 := Lib.hid hz1
 have HZ2 := Lib.hid hz2
 have HQ := Lib.hid hq
 have HX := Lib.hid hx
 have HB := Lib.hid hb
 have HK5 := Lib.hid k5
 have HMAY := Lib.hid hmay
 have HMD := Lib.hid hmd
 have HDO := Lib.hid hdo
 have HDOK := Lib.hid hDo
 have HRD := Lib.hid hrd
 have HSB := Lib.hid hSb
 have HSS0 := Lib.hid hS0
 have HSS1 := Lib.hid hS1
 have HREAD := Lib.hid hread
 have HANY := Lib.hid hany
 have HSIGN := Lib.hid hsign
 have HSHA := Lib.hid hsha
 have HFR := Lib.hid hFR
 have HFL := Lib.hid hfl
 have HNL := Lib.hid hNL
 have HACT := Lib.hid hact
 have HSAME := Lib.hid hsame
 have HBB := Lib.hid hB0
 have HLEN := Lib.hid hlen
 have HSZ := Lib.hid (show l0.length ≤ 1000000 ∧ sl ≤ 1000 from by omega)
 have HOK := Lib.hid h.ok
 clear h hq hx hb hyes k5 hr hmd hsz1 hmay hdo hDo hrd hSb hS0 hS1 hread hany hsign hsha hFR hfl hNL hact hsame hB0 hD hr2 hi8 hz0 hz1 hz2 hlen hsl hsc hl0 hl1 hkl
 go_enter Tryz.func11, Tryz.ntmps11
 go_upto_region 3 with fail
 have hq := HQ.out
 have hx := HX.out
 have hb := HB.out
 have k5 := HK5.out
 have hmd := HMD.out
 clear HQ HX HB HK5 HMD
 generalize ((w.alloc (.cells #[.int .i64 qk, .int .i64 qn, .slice SB sl sc] 34)).alloc (.cells #[.int .i64 0, .int .i64 0, .int .i64 0] 37)) = W at hq hx hb k5 hmd ⊢
 have HB := Lib.hid hb
 have HX := Lib.hid hx
 have HQ := Lib.hid hq
 have HMD := Lib.hid hmd
 have hmay := HMAY.out
 have hs0 : W.drew.cell? ⟨b, 5, none⟩ = some (.int .i64 (r : Int)) ∧ W.drew.cell? ⟨w.heap.size, 0, none⟩ = some (.int .i64 qk) := ⟨k5, hq.cell 0⟩
 clear hb hx hq hmd HMAY k5
 refine wp_region_held_drew (S := (fun W => W.cell? ⟨b, 5, none⟩ = some (.int .i64 (r : Int)) ∧ W.cell? ⟨w.heap.size, 0, none⟩ = some (.int .i64 qk))) (by kernel_rfl) ?_ (fun hHeld => ?_)
 ·
  exact hs0
 refine tk 0 (h := ?_)
 refine tk 1 (h := ?_)
 refine tk 2 (h := ?_)
 refine tk 3 (h := ?_)
 refine tk 4 (h := ?_)
 refine tk 5 (h := ?_)
 refine tk 6 (h := ?_)
 refine tk 7 (h := ?_)
 refine rd 8 (h := fun K hK => ?_)
 go_simp
 refine (hmay _).mono ?_
 rintro e w9 ⟨rfl, hb9⟩
 go_wp2_with fail
 refine so hK (by (try dsimp only); (exact ⟨cell_keepM hHeld.1 hb9, cell_keepM hHeld.2 hb9⟩)) (h := fun hHeld => ?_)
 clear hK K
 refine tk 9 (h := ?_)
 refine wpAnyH_done (by kernel_rfl) ?_ _
 try simp only [Act.put, List.getElem_toArray, List.getElem_cons_succ, List.getElem_cons_zero, List.setIfInBounds_toArray, List.set_cons_zero, List.set_cons_succ]
 have hb2 := (Below.refl W.heap.size W).drew.trans hb9
 have hz := Blk.new w9 78 zeroFm
 have hfl0 : (Fc.cells ⟨false, false, List.replicate 32 0, false⟩).length = 35 := Fc.cells_len rfl
 have hst := run_sstFm (Fc.cells ⟨false, false, List.replicate 32 0, false⟩) hz rfl hfl0 (Fc.one _)
 have hb3 : Below w9.heap.size w9 ((w9.alloc (.cells zeroFm 78)).setRow w9.heap.size zeroFm) := below_setRow_m ((Below.refl _ _).alloc (Nat.le_refl _) _) (Nat.le_refl _) _
 have hz2 := hz.setRow_m zeroFm
 rw [← zeroFm_eq] at hst
 have hbz := run_sbFc0
 have hx2 := HX.out.below hb2 HX.out.lt
 have hO : RdFr w ((w9.alloc (.cells zeroFm 78)).setRow w9.heap.size zeroFm) B b c m l0 l1 K kc F fc S0 c0 S1 c1 #[.int .i64 qk, .int .i64 qn, .slice SB sl sc] zeroFm w9.heap.size :=
  ⟨(HMD.out.below hb2).below hb3, (HQ.out.below hb2 HQ.out.lt).below hb3 (HQ.out.below hb2 HQ.out.lt).lt, hx2.below hb3 hx2.lt, hz2, hx2.lt, (HB.out.trans (hb2.mono HB.out.size)).trans (hb3.mono (HB.out.trans (hb2.mono HB.out.size)).size)⟩
 have HO := Lib.hid hO
 clear hb2 hb9 hz hfl0 hb3 hz2 hx2 hO HX HB HQ HMD hHeld hs0 hmay
 go_upto_region 6 with fail
 have hO := HO.out
 clear HO hst hbz
 generalize World.setRow _ _ zeroFm = W6 at hO ⊢
 generalize w9.heap.size = fb at hO ⊢
 have c7 : W6.cell? ⟨b, 7, none⟩ = some (.int .i64 1) := by
  have q := hO.md.cellM 0 (by omega)
  rw [show 7 + 0 = 7 from rfl] at q
  rw [q]
  show some (i64v m.act) = _
  rw [HACT.out]
 have cq0 : W6.cell? ⟨w.heap.size, 0, none⟩ = some (.int .i64 qk) := hO.q.cell 0
 have HO := Lib.hid hO
 clear hO
 go_upto_block 0 with fail
 go_cut [7, 8, 9] from 35 (fun v7 v8 v9 wx => RdFr w wx B b c m l0 l1 K kc F fc S0 c0 S1 c1 #[.int .i64 qk, .int .i64 qn, .slice SB sl sc] FR.cells.toArray fb)
 case first =>
  by_cases h1 : qk = 1
  ·
   subst h1
   have hr := HREAD.out W6 (HRD.out.below HO.out.bel)
   have cq2 : W6.cell? ⟨w.heap.size, 2, none⟩ = some (.slice SB sl sc) := HO.out.q.cell 2
   have HR := Lib.hid hr
   obtain ⟨EE, hEE⟩ : ∃ EE, mE l = EE := ⟨_, rfl⟩
   obtain ⟨NM, hNM⟩ : ∃ NM, mNm l = NM := ⟨_, rfl⟩
   obtain ⟨XX, hXX⟩ : ∃ XX, mX l = XX := ⟨_, rfl⟩
   have hxd : XX.d.length = 32 := by rw [← hXX]; exact (mX_b l).1
   have hfr : FR = ⟨decide (EE = 0) && (NM.toList == c.nm.toList), signedB c.key l, List.replicate 32 0, false⟩ := by rw [← HFR.out, ← hEE, ← hNM]; unfold factR; rw [if_pos rfl]
   have hany := HANY.out
   simp only [hEE, hNM, hXX] at hany
   have HAN := Lib.hid hany
   have HF1 := Lib.hid hfr
   clear hr hEE hNM hXX hfr hany
   go_wp2_with fail
   refine HR.out.mono ?_
   rintro e w2 ⟨hman, hb2⟩
   obtain ⟨ma, mn, mc, rfl⟩ := HAN.out _ _ hman
   have hN := Blk.new w2 82 zeroN.toArray
   have hst := run_sstN (manC NM XX) hN rfl (manC_len hxd _) (manC_one _ _)
   have hN2 := hN.setRow_m (manC NM XX).toArray
   have hbn : Below w2.heap.size w2 ((w2.alloc (.cells zeroN.toArray 82)).setRow w2.heap.size (manC NM XX).toArray) := below_setRow_m ((Below.refl _ w2).alloc (Nat.le_refl _) _) (Nat.le_refl _) _
   have hO := (HO.out.later hb2).later hbn
   rw [← zeroN_eq] at hst hN2 hO
   have HO := Lib.hid hO
   have HN2 := Lib.hid hN2
   clear hman hb2 hN hN2 hbn hO HAN HR hxd c7 cq2
   go_upto_region 10 with fail
   clear hst
   have hO := HO.out
   have hN2 := HN2.out
   clear HO HN2
   generalize World.setRow _ _ (manC NM XX).toArray = W7 at hO hN2 ⊢
   generalize w2.heap.size = mb at hN2 ⊢
   have HO := Lib.hid hO
   have HN2 := Lib.hid hN2
   clear hO hN2
   by_cases hE : EE = 0
   ·
    subst hE
    have hs0 : W7.drew.cell? ⟨mb, 0, none⟩ = some (.string NM) ∧ W7.drew.cell? ⟨b, 0, none⟩ = some (.string c.nm) := ⟨HN2.out.cell 0, HO.out.md.cellC 0 (by omega)⟩
    refine wp_region_held_drew (S := (fun W => W.cell? ⟨mb, 0, none⟩ = some (.string NM) ∧ W.cell? ⟨b, 0, none⟩ = some (.string c.nm))) (by kernel_rfl) ?_ (fun hHeld => ?_)
    ·
     exact hs0
    generalize hwd : W7.drew = Wd at hs0 hHeld ⊢
    have hO := HO.out.later ((Below.refl _ W7).drew)
    have hN2 := HN2.out.below ((Below.refl _ W7).drew) HN2.out.lt
    rw [hwd] at hO hN2
    clear HO HN2 hwd
    have HO := Lib.hid hO
    have HN2 := Lib.hid hN2
    clear hO hN2
    refine tk 0 (h := ?_)
    refine tk 1 (h := ?_)
    refine tk 2 (h := ?_)
    refine tk 3 (h := ?_)
    refine tk 4 (h := ?_)
    refine tk 5 (h := ?_)
    refine tk 6 (h := ?_)
    refine tk 7 (h := ?_)
    refine tk 8 (h := ?_)
    refine tk 9 (h := ?_)
    refine tk 10 (h := ?_)
    refine tk 11 (h := ?_)
    refine tk 12 (h := ?_)
    have q0 : Wd.cell? ⟨fb, 0, none⟩ = some (.bool false) := HO.out.f.cell 0
    have fz := HO.out.f.frozen 0
    have hzf := HO.out.f
    rw [zeroFm_eq] at hzf
    have hO := HO.out.fact HBB.out (hzf.setNm (NM.toList == c.nm.toList)) ((Only.refl [fb] Wd).setCell (p := ⟨fb, 0, none⟩) (.inl (by simp)) (.bool (NM.toList == c.nm.toList)))
    have hN2 := HN2.out.only ((Only.refl [fb] Wd).setCell (p := ⟨fb, 0, none⟩) (.inl (by simp)) (.bool (NM.toList == c.nm.toList))) (by have := Blk.ne_ HN2.out HO.out.f (by decide); simpa using this)
    have HO2 := Lib.hid hO
    have HN3 := Lib.hid hN2
    clear hzf hO hN2
    refine rd 13 (h := fun K hK => ?_)
    go_simp
    refine so hK (by (try dsimp only); (exact ⟨HN3.out.cell 0, HO2.out.md.cellC 0 (by omega)⟩)) (h := fun hHeld => ?_)
    clear hK K
    refine wpAnyH_done (by kernel_rfl) ?_ _
    try simp only [Act.put, List.getElem_toArray, List.getElem_cons_succ, List.getElem_cons_zero, List.setIfInBounds_toArray, List.set_cons_zero, List.set_cons_succ]
    clear HO HN2 HN3 q0 fz hs0 hHeld
    go_upto_region 11 with fail
    have hO := HO2.out
    clear HO2
    generalize World.setCell _ _ _ = W8 at hO ⊢
    have HO := Lib.hid hO
    clear hO
    have hs1 : W8.drew.cell? ⟨b, 1, none⟩ = some (.slice K c.key.length kc) ∧ W8.drew.cell? ⟨w.heap.size, 2, none⟩ = some (.slice SB sl sc) := ⟨HO.out.md.cellC 1 (by omega), HO.out.q.cell 2⟩
    refine wp_region_held_drew (S := (fun W => W.cell? ⟨b, 1, none⟩ = some (.slice K c.key.length kc) ∧ W.cell? ⟨w.heap.size, 2, none⟩ = some (.slice SB sl sc))) (by kernel_rfl) ?_ (fun hHeld => ?_)
    ·
     exact hs1
    generalize hwd : W8.drew = We at hs1 hHeld ⊢
    have hO := HO.out.later ((Below.refl _ W8).drew)
    rw [hwd] at hO
    clear HO hwd
    have HO := Lib.hid hO
    clear hO
    refine tk 0 (h := ?_)
    refine tk 1 (h := ?_)
    refine tk 2 (h := ?_)
    refine tk 3 (h := ?_)
    refine tk 4 (h := ?_)
    refine tk 5 (h := ?_)
    refine tk 6 (h := ?_)
    refine rd 7 (h := fun K hK => ?_)
    go_simp
    refine (HSIGN.out _ HO.out.md.key (HRD.out.below HO.out.bel)).mono ?_
    rintro e w5 ⟨rfl, hb5⟩
    have hO := HO.out.later hb5
    clear HO
    have HO := Lib.hid hO
    clear hO hb5
    go_wp2_with fail
    refine so hK (by (try dsimp only); (first | exact ⟨HO2.out.md.cellC 1 (by omega), HO2.out.q.cell 2⟩ | exact ⟨HO.out.md.cellC 1 (by omega), HO.out.q.cell 2⟩)) (h := fun hHeld => ?_)
    clear hK K
    refine tk 8 (h := ?_)
    have q0 : w5.cell? ⟨fb, 1, none⟩ = some (.bool false) := HO.out.f.cell 1
    have fz := HO.out.f.frozen 1
    have hO := HO.out.fact HBB.out (HO.out.f.setTg (signedB c.key l)) ((Only.refl [fb] w5).setCell (p := ⟨fb, 1, none⟩) (.inl (by simp)) (.bool (signedB c.key l)))
    have HO2 := Lib.hid hO
    clear hO
    refine rd 9 (h := fun K hK => ?_)
    go_simp
    refine so hK (by (try dsimp only); (first | exact ⟨HO2.out.md.cellC 1 (by omega), HO2.out.q.cell 2⟩ | exact ⟨HO.out.md.cellC 1 (by omega), HO.out.q.cell 2⟩)) (h := fun hHeld => ?_)
    clear hK K
    refine wpAnyH_done (by kernel_rfl) ?_ _
    try simp only [Act.put, List.getElem_toArray, List.getElem_cons_succ, List.getElem_cons_zero, List.setIfInBounds_toArray, List.set_cons_zero, List.set_cons_succ]
    go_wp2_with fail
    go_meet
    have e : FR = ⟨NM.toList == c.nm.toList, signedB c.key l, List.replicate 32 0, false⟩ := by rw [HF1.out]; simp
    rw [e]
    exact HO2.out
   ·
    have hEb : (EE == 0) = false := by simpa using hE
    have hs0 : W7.drew.cell? ⟨mb, 0, none⟩ = some (.string NM) ∧ W7.drew.cell? ⟨b, 0, none⟩ = some (.string c.nm) := ⟨HN2.out.cell 0, HO.out.md.cellC 0 (by omega)⟩
    refine wp_region_held_drew (S := (fun W => W.cell? ⟨mb, 0, none⟩ = some (.string NM) ∧ W.cell? ⟨b, 0, none⟩ = some (.string c.nm))) (by kernel_rfl) ?_ (fun hHeld => ?_)
    ·
     exact hs0
    generalize hwd : W7.drew = Wd at hs0 hHeld ⊢
    have hO := HO.out.later ((Below.refl _ W7).drew)
    have hN2 := HN2.out.below ((Below.refl _ W7).drew) HN2.out.lt
    rw [hwd] at hO hN2
    clear HO HN2 hwd
    have HO := Lib.hid hO
    have HN2 := Lib.hid hN2
    clear hO hN2
    refine tk 0 (h := ?_)
    refine tk 1 (h := ?_)
    refine tk 2 (h := ?_)
    refine sk 3 (h := ?_)
    refine sk 4 (h := ?_)
    refine sk 5 (h := ?_)
    refine sk 6 (h := ?_)
    refine sk 7 (h := ?_)
    refine sk 8 (h := ?_)
    refine sk 9 (h := ?_)
    refine sk 10 (h := ?_)
    refine tk 11 (h := ?_)
    refine tk 12 (h := ?_)
    have q0 : Wd.cell? ⟨fb, 0, none⟩ = some (.bool false) := HO.out.f.cell 0
    have fz := HO.out.f.frozen 0
    have hzf := HO.out.f
    rw [zeroFm_eq] at hzf
    have hO := HO.out.fact HBB.out (hzf.setNm (false)) ((Only.refl [fb] Wd).setCell (p := ⟨fb, 0, none⟩) (.inl (by simp)) (.bool (false)))
    have hN2 := HN2.out.only ((Only.refl [fb] Wd).setCell (p := ⟨fb, 0, none⟩) (.inl (by simp)) (.bool (false))) (by have := Blk.ne_ HN2.out HO.out.f (by decide); simpa using this)
    have HO2 := Lib.hid hO
    have HN3 := Lib.hid hN2
    clear hzf hO hN2
    refine rd 13 (h := fun K hK => ?_)
    go_simp
    refine so hK (by (try dsimp only); (exact ⟨HN3.out.cell 0, HO2.out.md.cellC 0 (by omega)⟩)) (h := fun hHeld => ?_)
    clear hK K
    refine wpAnyH_done (by kernel_rfl) ?_ _
    try simp only [Act.put, List.getElem_toArray, List.getElem_cons_succ, List.getElem_cons_zero, List.setIfInBounds_toArray, List.set_cons_zero, List.set_cons_succ]
    clear HO HN2 HN3 q0 fz hs0 hHeld
    go_upto_region 11 with fail
    have hO := HO2.out
    clear HO2
    generalize World.setCell _ _ _ = W8 at hO ⊢
    have HO := Lib.hid hO
    clear hO
    have hs1 : W8.drew.cell? ⟨b, 1, none⟩ = some (.slice K c.key.length kc) ∧ W8.drew.cell? ⟨w.heap.size, 2, none⟩ = some (.slice SB sl sc) := ⟨HO.out.md.cellC 1 (by omega), HO.out.q.cell 2⟩
    refine wp_region_held_drew (S := (fun W => W.cell? ⟨b, 1, none⟩ = some (.slice K c.key.length kc) ∧ W.cell? ⟨w.heap.size, 2, none⟩ = some (.slice SB sl sc))) (by kernel_rfl) ?_ (fun hHeld => ?_)
    ·
     exact hs1
    generalize hwd : W8.drew = We at hs1 hHeld ⊢
    have hO := HO.out.later ((Below.refl _ W8).drew)
    rw [hwd] at hO
    clear HO hwd
    have HO := Lib.hid hO
    clear hO
    refine tk 0 (h := ?_)
    refine tk 1 (h := ?_)
    refine tk 2 (h := ?_)
    refine tk 3 (h := ?_)
    refine tk 4 (h := ?_)
    refine tk 5 (h := ?_)
    refine tk 6 (h := ?_)
    refine rd 7 (h := fun K hK => ?_)
    go_simp
    refine (HSIGN.out _ HO.out.md.key (HRD.out.below HO.out.bel)).mono ?_
    rintro e w5 ⟨rfl, hb5⟩
    have hO := HO.out.later hb5
    clear HO
    have HO := Lib.hid hO
    clear hO hb5
    go_wp2_with fail
    refine so hK (by (try dsimp only); (first | exact ⟨HO2.out.md.cellC 1 (by omega), HO2.out.q.cell 2⟩ | exact ⟨HO.out.md.cellC 1 (by omega), HO.out.q.cell 2⟩)) (h := fun hHeld => ?_)
    clear hK K
    refine tk 8 (h := ?_)
    have q0 : w5.cell? ⟨fb, 1, none⟩ = some (.bool false) := HO.out.f.cell 1
    have fz := HO.out.f.frozen 1
    have hO := HO.out.fact HBB.out (HO.out.f.setTg (signedB c.key l)) ((Only.refl [fb] w5).setCell (p := ⟨fb, 1, none⟩) (.inl (by simp)) (.bool (signedB c.key l)))
    have HO2 := Lib.hid hO
    clear hO
    refine rd 9 (h := fun K hK => ?_)
    go_simp
    refine so hK (by (try dsimp only); (first | exact ⟨HO2.out.md.cellC 1 (by omega), HO2.out.q.cell 2⟩ | exact ⟨HO.out.md.cellC 1 (by omega), HO.out.q.cell 2⟩)) (h := fun hHeld => ?_)
    clear hK K
    refine wpAnyH_done (by kernel_rfl) ?_ _
    try simp only [Act.put, List.getElem_toArray, List.getElem_cons_succ, List.getElem_cons_zero, List.setIfInBounds_toArray, List.set_cons_zero, List.set_cons_succ]
    go_wp2_with fail
    go_meet
    have e : FR = ⟨false, signedB c.key l, List.replicate 32 0, false⟩ := by rw [HF1.out]; rw [decide_eq_false hE]; rfl
    rw [e]
    exact HO2.out
  by_cases h3 : qk = 3
  ·
   subst h3
   have cs := HO.out.md.cell0
   have hsh := HSHA.out W6 S0 c0 (Reads.of_own HO.out.md.s0)
   have HSH := Lib.hid hsh
   have hn1 : ((3 : Int) == 1) = false := by decide
   clear hsh
   go_wp2_with fail
   refine HSH.out.mono ?_
   rintro e w2 ⟨rfl, hb2⟩
   have hO := HO.out.later hb2
   have hst := run_sstDo (o := 2) hO.f (by rw [zeroFm_eq, List.size_toArray, Fc.cells_len rfl]; decide) (sha l0) (sha_len _)
   have hzf := hO.f
   rw [zeroFm_eq] at hzf
   have hO2 := hO.fact HBB.out (hzf.setDg rfl (sha l0) (sha_len _)) (only_setCells _ _ _ (Only.refl _ _))
   have HO2 := Lib.hid hO2
   clear hb2 hO hzf hO2
   go_wp2_with fail
   go_meet
   have e : FR = ⟨false, false, sha l0, false⟩ := by rw [← HFR.out]; unfold factR; rw [if_neg (by decide), if_pos rfl]
   rw [e]
   exact HO2.out
  ·
   have hn1 : (qk == 1) = false := by rw [beq_eq_false_iff_ne]; exact h1
   have hn3 : (qk == 3) = false := by rw [beq_eq_false_iff_ne]; exact h3
   go_wp2_with fail
   go_meet
   have e : FR = ⟨false, false, List.replicate 32 0, false⟩ := by rw [← HFR.out]; unfold factR; rw [if_neg h1, if_neg h3]
   rw [e, ← zeroFm_eq]
   exact HO.out
 case rest =>
  have HO := Lib.hid hcut
  clear c7 cq0 hcut
  go_upto_region 14 with fail
  have hqq : ∀ W, RdFr w W B b c m l0 l1 K kc F fc S0 c0 S1 c1 #[.int .i64 qk, .int .i64 qn, .slice SB sl sc] FR.cells.toArray fb → (sldM (.pointer (some ⟨b, 7, none⟩))).run Tryz.prog W = .ok (.agg m.cells.toArray) W ∧ (sldQ (.pointer (some ⟨w.heap.size, 0, none⟩))).run Tryz.prog W = .ok (.agg #[.int .i64 qk, .int .i64 qn, .slice SB sl sc]) W ∧ (sldF (.pointer (some ⟨fb, 0, none⟩))).run Tryz.prog W = .ok (.agg FR.cells.toArray) W ∧ W.cell? ⟨b, 4, none⟩ = some (.int .i64 c.quota) := fun W hW => ⟨run_sldM (Mt.cells_len HOK.out) hW.md.range, run_sldQ rfl hW.q.whole, run_sldF (Fc.cells_len HFL.out) hW.f.whole, hW.md.cellC 4 (by omega)⟩
  have HS14 := Lib.hid hqq
  clear hqq
  obtain ⟨DA, hDA⟩ : ∃ DA, dm.cells.toArray = DA := ⟨_, rfl⟩
  have hstN : ∀ (W : World) (gg : Nat) (old : Array Value), Blk W gg 44 old → old.size = 107 → (sstM (.pointer (some ⟨gg, 0, none⟩)) (.agg DA)).run Tryz.prog W = .ok () (W.setRow gg DA) := fun W gg old hB hs => by rw [← hDA]; exact storeM HDOK.out hB hs
  have HSN := Lib.hid hstN
  have HDA := Lib.hid hDA
  have hdo := HDO.out
  rw [hDA] at hdo
  have HDO2 := Lib.hid hdo
  clear hstN hDA hdo HDO
  go_cut [10, 11] from 76 (fun va vb wx => ∃ nb rb, va = .pointer (some ⟨nb, 0, none⟩) ∧ vb = .pointer (some ⟨rb, 0, none⟩) ∧ RdFr w wx B b c m l0 l1 K kc F fc S0 c0 S1 c1 #[.int .i64 qk, .int .i64 qn, .slice SB sl sc] FR.cells.toArray fb ∧ Blk wx nb 44 DA ∧ Blk wx rb 37 #[.int .i64 de, .int .i64 dn, .int .i64 dg] ∧ w.heap.size + 1 < nb ∧ w.heap.size + 1 < rb)
  case first =>
   have hs0 := HS14.out _ (HO.out.later ((Below.refl _ _).drew))
   have HO := Lib.hid (HO.out.later ((Below.refl _ _).drew))
   refine wp_region_held_drew (S := (fun W => (sldM (.pointer (some ⟨b, 7, none⟩))).run Tryz.prog W = .ok (.agg m.cells.toArray) W ∧ (sldQ (.pointer (some ⟨w.heap.size, 0, none⟩))).run Tryz.prog W = .ok (.agg #[.int .i64 qk, .int .i64 qn, .slice SB sl sc]) W ∧ (sldF (.pointer (some ⟨fb, 0, none⟩))).run Tryz.prog W = .ok (.agg FR.cells.toArray) W ∧ W.cell? ⟨b, 4, none⟩ = some (.int .i64 c.quota))) (by kernel_rfl) ?_ (fun hHeld => ?_)
   ·
    exact hs0
   generalize World.drew _ = Wd at HO hs0 hHeld ⊢
   refine tk 0 (h := ?_)
   refine tk 1 (h := ?_)
   refine tk 2 (h := ?_)
   refine tk 3 (h := ?_)
   refine tk 4 (h := ?_)
   refine tk 5 (h := ?_)
   refine tk 6 (h := ?_)
   refine tk 7 (h := ?_)
   refine tk 8 (h := ?_)
   refine tk 9 (h := ?_)
   refine tk 10 (h := ?_)
   refine wpAnyH_ready (rs := [11, 15, 16]) (by kernel_rfl) (by simp) ?_
   refine AllReadyH.cons rfl (fun K hK => ?_) ?_
   ·
    go_simp
    refine (HDO2.out _ (HRD.out.below HO.out.bel)).mono ?_; rintro e w' ⟨rfl, hb⟩; have HO := Lib.hid (HO.out.later hb); clear hb
    go_wp2_with fail
    refine so hK (by (try dsimp only); (exact HS14.out _ HO.out)) (h := fun hHeld => ?_)
    clear hK K
    refine tk 12 (h := ?_)
    refine tk 13 (h := ?_)
    refine tk 14 (h := ?_)
    refine wpAnyH_ready (rs := [15, 16]) (by kernel_rfl) (by simp) ?_
    refine AllReadyH.cons rfl (fun K hK => ?_) ?_
    ·
     go_simp
     have HNL2 := Lib.hid HO.out.r.lt
     have HNb := Lib.hid (Blk.newAtR HO.out.bel 44 Tryz.zeroCells44)
     have HO := Lib.hid (HO.out.alloc (.cells Tryz.zeroCells44 44))
     generalize World.alloc _ (.cells Tryz.zeroCells44 44) = Wa at HO HNb  ⊢
     refine so hK (by (try dsimp only); (exact HS14.out _ HO.out)) (h := fun hHeld => ?_)
     clear hK K
     refine wpAnyH_ready (rs := [16]) (by kernel_rfl) (by simp) ?_
     refine AllReadyH.cons rfl (fun K hK => ?_) ?_
     ·
      go_simp
      have HRL2 := Lib.hid HO.out.r.lt
      have HRb := Lib.hid (Blk.newAtR HO.out.bel 37 #[.int .i64 0, .int .i64 0, .int .i64 0])
      have HO := Lib.hid (HO.out.alloc (.cells #[.int .i64 0, .int .i64 0, .int .i64 0] 37))
      have HNb := Lib.hid (HNb.out.alloc (.cells #[.int .i64 0, .int .i64 0, .int .i64 0] 37))
      generalize World.alloc _ (.cells #[.int .i64 0, .int .i64 0, .int .i64 0] 37) = Wb at HO HRb HNb ⊢
      refine so hK (by (try dsimp only); (exact HS14.out _ HO.out)) (h := fun hHeld => ?_)
      clear hK K
      have hst := HSN.out _ _ _ HNb.out zeroM_size
      refine rd 17 (h := fun K hK => ?_)
      go_simp
      have hne := Blk.ne_ HNb.out HRb.out (by decide)
      have HRb := Lib.hid (HRb.out.setRow_mf DA (Ne.symm hne))
      have HO := Lib.hid (HO.out.put HBB.out DA HNb.out HNL2.out (Blk.ne_ HNb.out HO.out.f (by decide)) (by decide) (by decide))
      have HNb := Lib.hid (HNb.out.setRow_m DA)
      clear hst
      refine so hK (by (try dsimp only); (exact HS14.out _ HO.out)) (h := fun hHeld => ?_)
      clear hK K
      have hst := run_sstR de dn dg HRb.out rfl
      refine rd 18 (h := fun K hK => ?_)
      go_simp
      have HNb := Lib.hid (HNb.out.setRow_mf #[.int .i64 de, .int .i64 dn, .int .i64 dg] hne)
      have HO := Lib.hid (HO.out.put HBB.out #[.int .i64 de, .int .i64 dn, .int .i64 dg] HRb.out HRL2.out (Blk.ne_ HRb.out HO.out.f (by decide)) (by decide) (by decide))
      have HRb := Lib.hid (HRb.out.setRow_m #[.int .i64 de, .int .i64 dn, .int .i64 dg])
      clear hst
      refine so hK (by (try dsimp only); (exact HS14.out _ HO.out)) (h := fun hHeld => ?_)
      clear hK K
      refine wpAnyH_done (by kernel_rfl) ?_ _
      try simp only [Act.put, List.getElem_toArray, List.getElem_cons_succ, List.getElem_cons_zero, List.setIfInBounds_toArray, List.set_cons_zero, List.set_cons_succ]
      go_wp2_with fail
      go_meet
      exact ⟨_, _, rfl, rfl, HO.out, HNb.out, HRb.out, HNL2.out, HRL2.out⟩
     exact AllReadyH.nil
    refine AllReadyH.cons rfl (fun K hK => ?_) ?_
    ·
     go_simp
     have HRL2 := Lib.hid HO.out.r.lt
     have HRb := Lib.hid (Blk.newAtR HO.out.bel 37 #[.int .i64 0, .int .i64 0, .int .i64 0])
     have HO := Lib.hid (HO.out.alloc (.cells #[.int .i64 0, .int .i64 0, .int .i64 0] 37))
     generalize World.alloc _ (.cells #[.int .i64 0, .int .i64 0, .int .i64 0] 37) = Wb at HO HRb  ⊢
     refine so hK (by (try dsimp only); (exact HS14.out _ HO.out)) (h := fun hHeld => ?_)
     clear hK K
     refine wpAnyH_ready (rs := [15]) (by kernel_rfl) (by simp) ?_
     refine AllReadyH.cons rfl (fun K hK => ?_) ?_
     ·
      go_simp
      have HNL2 := Lib.hid HO.out.r.lt
      have HNb := Lib.hid (Blk.newAtR HO.out.bel 44 Tryz.zeroCells44)
      have HO := Lib.hid (HO.out.alloc (.cells Tryz.zeroCells44 44))
      have HRb := Lib.hid (HRb.out.alloc (.cells Tryz.zeroCells44 44))
      generalize World.alloc _ (.cells Tryz.zeroCells44 44) = Wa at HO HNb HRb ⊢
      refine so hK (by (try dsimp only); (exact HS14.out _ HO.out)) (h := fun hHeld => ?_)
      clear hK K
      have hst := HSN.out _ _ _ HNb.out zeroM_size
      refine rd 17 (h := fun K hK => ?_)
      go_simp
      have hne := Blk.ne_ HNb.out HRb.out (by decide)
      have HRb := Lib.hid (HRb.out.setRow_mf DA (Ne.symm hne))
      have HO := Lib.hid (HO.out.put HBB.out DA HNb.out HNL2.out (Blk.ne_ HNb.out HO.out.f (by decide)) (by decide) (by decide))
      have HNb := Lib.hid (HNb.out.setRow_m DA)
      clear hst
      refine so hK (by (try dsimp only); (exact HS14.out _ HO.out)) (h := fun hHeld => ?_)
      clear hK K
      have hst := run_sstR de dn dg HRb.out rfl
      refine rd 18 (h := fun K hK => ?_)
      go_simp
      have HNb := Lib.hid (HNb.out.setRow_mf #[.int .i64 de, .int .i64 dn, .int .i64 dg] hne)
      have HO := Lib.hid (HO.out.put HBB.out #[.int .i64 de, .int .i64 dn, .int .i64 dg] HRb.out HRL2.out (Blk.ne_ HRb.out HO.out.f (by decide)) (by decide) (by decide))
      have HRb := Lib.hid (HRb.out.setRow_m #[.int .i64 de, .int .i64 dn, .int .i64 dg])
      clear hst
      refine so hK (by (try dsimp only); (exact HS14.out _ HO.out)) (h := fun hHeld => ?_)
      clear hK K
      refine wpAnyH_done (by kernel_rfl) ?_ _
      try simp only [Act.put, List.getElem_toArray, List.getElem_cons_succ, List.getElem_cons_zero, List.setIfInBounds_toArray, List.set_cons_zero, List.set_cons_succ]
      go_wp2_with fail
      go_meet
      exact ⟨_, _, rfl, rfl, HO.out, HNb.out, HRb.out, HNL2.out, HRL2.out⟩
     exact AllReadyH.nil
    exact AllReadyH.nil
   refine AllReadyH.cons rfl (fun K hK => ?_) ?_
   ·
    go_simp
    have HNL2 := Lib.hid HO.out.r.lt
    have HNb := Lib.hid (Blk.newAtR HO.out.bel 44 Tryz.zeroCells44)
    have HO := Lib.hid (HO.out.alloc (.cells Tryz.zeroCells44 44))
    generalize World.alloc _ (.cells Tryz.zeroCells44 44) = Wa at HO HNb  ⊢
    refine so hK (by (try dsimp only); (exact HS14.out _ HO.out)) (h := fun hHeld => ?_)
    clear hK K
    refine wpAnyH_ready (rs := [11, 16]) (by kernel_rfl) (by simp) ?_
    refine AllReadyH.cons rfl (fun K hK => ?_) ?_
    ·
     go_simp
     refine (HDO2.out _ (HRD.out.below HO.out.bel)).mono ?_; rintro e w' ⟨rfl, hb⟩; have HO := Lib.hid (HO.out.later hb); have HNb := Lib.hid (HNb.out.below hb HNb.out.lt); clear hb
     go_wp2_with fail
     refine so hK (by (try dsimp only); (exact HS14.out _ HO.out)) (h := fun hHeld => ?_)
     clear hK K
     refine tk 12 (h := ?_)
     refine tk 13 (h := ?_)
     refine tk 14 (h := ?_)
     refine wpAnyH_ready (rs := [16]) (by kernel_rfl) (by simp) ?_
     refine AllReadyH.cons rfl (fun K hK => ?_) ?_
     ·
      go_simp
      have HRL2 := Lib.hid HO.out.r.lt
      have HRb := Lib.hid (Blk.newAtR HO.out.bel 37 #[.int .i64 0, .int .i64 0, .int .i64 0])
      have HO := Lib.hid (HO.out.alloc (.cells #[.int .i64 0, .int .i64 0, .int .i64 0] 37))
      have HNb := Lib.hid (HNb.out.alloc (.cells #[.int .i64 0, .int .i64 0, .int .i64 0] 37))
      generalize World.alloc _ (.cells #[.int .i64 0, .int .i64 0, .int .i64 0] 37) = Wb at HO HRb HNb ⊢
      refine so hK (by (try dsimp only); (exact HS14.out _ HO.out)) (h := fun hHeld => ?_)
      clear hK K
      have hst := HSN.out _ _ _ HNb.out zeroM_size
      refine rd 17 (h := fun K hK => ?_)
      go_simp
      have hne := Blk.ne_ HNb.out HRb.out (by decide)
      have HRb := Lib.hid (HRb.out.setRow_mf DA (Ne.symm hne))
      have HO := Lib.hid (HO.out.put HBB.out DA HNb.out HNL2.out (Blk.ne_ HNb.out HO.out.f (by decide)) (by decide) (by decide))
      have HNb := Lib.hid (HNb.out.setRow_m DA)
      clear hst
      refine so hK (by (try dsimp only); (exact HS14.out _ HO.out)) (h := fun hHeld => ?_)
      clear hK K
      have hst := run_sstR de dn dg HRb.out rfl
      refine rd 18 (h := fun K hK => ?_)
      go_simp
      have HNb := Lib.hid (HNb.out.setRow_mf #[.int .i64 de, .int .i64 dn, .int .i64 dg] hne)
      have HO := Lib.hid (HO.out.put HBB.out #[.int .i64 de, .int .i64 dn, .int .i64 dg] HRb.out HRL2.out (Blk.ne_ HRb.out HO.out.f (by decide)) (by decide) (by decide))
      have HRb := Lib.hid (HRb.out.setRow_m #[.int .i64 de, .int .i64 dn, .int .i64 dg])
      clear hst
      refine so hK (by (try dsimp only); (exact HS14.out _ HO.out)) (h := fun hHeld => ?_)
      clear hK K
      refine wpAnyH_done (by kernel_rfl) ?_ _
      try simp only [Act.put, List.getElem_toArray, List.getElem_cons_succ, List.getElem_cons_zero, List.setIfInBounds_toArray, List.set_cons_zero, List.set_cons_succ]
      go_wp2_with fail
      go_meet
      exact ⟨_, _, rfl, rfl, HO.out, HNb.out, HRb.out, HNL2.out, HRL2.out⟩
     exact AllReadyH.nil
    refine AllReadyH.cons rfl (fun K hK => ?_) ?_
    ·
     go_simp
     have HRL2 := Lib.hid HO.out.r.lt
     have HRb := Lib.hid (Blk.newAtR HO.out.bel 37 #[.int .i64 0, .int .i64 0, .int .i64 0])
     have HO := Lib.hid (HO.out.alloc (.cells #[.int .i64 0, .int .i64 0, .int .i64 0] 37))
     have HNb := Lib.hid (HNb.out.alloc (.cells #[.int .i64 0, .int .i64 0, .int .i64 0] 37))
     generalize World.alloc _ (.cells #[.int .i64 0, .int .i64 0, .int .i64 0] 37) = Wb at HO HRb HNb ⊢
     refine so hK (by (try dsimp only); (exact HS14.out _ HO.out)) (h := fun hHeld => ?_)
     clear hK K
     refine wpAnyH_ready (rs := [11]) (by kernel_rfl) (by simp) ?_
     refine AllReadyH.cons rfl (fun K hK => ?_) ?_
     ·
      go_simp
      refine (HDO2.out _ (HRD.out.below HO.out.bel)).mono ?_; rintro e w' ⟨rfl, hb⟩; have HO := Lib.hid (HO.out.later hb); have HNb := Lib.hid (HNb.out.below hb HNb.out.lt); have HRb := Lib.hid (HRb.out.below hb HRb.out.lt); clear hb
      go_wp2_with fail
      refine so hK (by (try dsimp only); (exact HS14.out _ HO.out)) (h := fun hHeld => ?_)
      clear hK K
      refine tk 12 (h := ?_)
      refine tk 13 (h := ?_)
      refine tk 14 (h := ?_)
      have hst := HSN.out _ _ _ HNb.out zeroM_size
      refine rd 17 (h := fun K hK => ?_)
      go_simp
      have hne := Blk.ne_ HNb.out HRb.out (by decide)
      have HRb := Lib.hid (HRb.out.setRow_mf DA (Ne.symm hne))
      have HO := Lib.hid (HO.out.put HBB.out DA HNb.out HNL2.out (Blk.ne_ HNb.out HO.out.f (by decide)) (by decide) (by decide))
      have HNb := Lib.hid (HNb.out.setRow_m DA)
      clear hst
      refine so hK (by (try dsimp only); (exact HS14.out _ HO.out)) (h := fun hHeld => ?_)
      clear hK K
      have hst := run_sstR de dn dg HRb.out rfl
      refine rd 18 (h := fun K hK => ?_)
      go_simp
      have HNb := Lib.hid (HNb.out.setRow_mf #[.int .i64 de, .int .i64 dn, .int .i64 dg] hne)
      have HO := Lib.hid (HO.out.put HBB.out #[.int .i64 de, .int .i64 dn, .int .i64 dg] HRb.out HRL2.out (Blk.ne_ HRb.out HO.out.f (by decide)) (by decide) (by decide))
      have HRb := Lib.hid (HRb.out.setRow_m #[.int .i64 de, .int .i64 dn, .int .i64 dg])
      clear hst
      refine so hK (by (try dsimp only); (exact HS14.out _ HO.out)) (h := fun hHeld => ?_)
      clear hK K
      refine wpAnyH_done (by kernel_rfl) ?_ _
      try simp only [Act.put, List.getElem_toArray, List.getElem_cons_succ, List.getElem_cons_zero, List.setIfInBounds_toArray, List.set_cons_zero, List.set_cons_succ]
      go_wp2_with fail
      go_meet
      exact ⟨_, _, rfl, rfl, HO.out, HNb.out, HRb.out, HNL2.out, HRL2.out⟩
     exact AllReadyH.nil
    exact AllReadyH.nil
   refine AllReadyH.cons rfl (fun K hK => ?_) ?_
   ·
    go_simp
    have HRL2 := Lib.hid HO.out.r.lt
    have HRb := Lib.hid (Blk.newAtR HO.out.bel 37 #[.int .i64 0, .int .i64 0, .int .i64 0])
    have HO := Lib.hid (HO.out.alloc (.cells #[.int .i64 0, .int .i64 0, .int .i64 0] 37))
    generalize World.alloc _ (.cells #[.int .i64 0, .int .i64 0, .int .i64 0] 37) = Wb at HO HRb  ⊢
    refine so hK (by (try dsimp only); (exact HS14.out _ HO.out)) (h := fun hHeld => ?_)
    clear hK K
    refine wpAnyH_ready (rs := [11, 15]) (by kernel_rfl) (by simp) ?_
    refine AllReadyH.cons rfl (fun K hK => ?_) ?_
    ·
     go_simp
     refine (HDO2.out _ (HRD.out.below HO.out.bel)).mono ?_; rintro e w' ⟨rfl, hb⟩; have HO := Lib.hid (HO.out.later hb); have HRb := Lib.hid (HRb.out.below hb HRb.out.lt); clear hb
     go_wp2_with fail
     refine so hK (by (try dsimp only); (exact HS14.out _ HO.out)) (h := fun hHeld => ?_)
     clear hK K
     refine tk 12 (h := ?_)
     refine tk 13 (h := ?_)
     refine tk 14 (h := ?_)
     refine wpAnyH_ready (rs := [15]) (by kernel_rfl) (by simp) ?_
     refine AllReadyH.cons rfl (fun K hK => ?_) ?_
     ·
      go_simp
      have HNL2 := Lib.hid HO.out.r.lt
      have HNb := Lib.hid (Blk.newAtR HO.out.bel 44 Tryz.zeroCells44)
      have HO := Lib.hid (HO.out.alloc (.cells Tryz.zeroCells44 44))
      have HRb := Lib.hid (HRb.out.alloc (.cells Tryz.zeroCells44 44))
      generalize World.alloc _ (.cells Tryz.zeroCells44 44) = Wa at HO HNb HRb ⊢
      refine so hK (by (try dsimp only); (exact HS14.out _ HO.out)) (h := fun hHeld => ?_)
      clear hK K
      have hst := HSN.out _ _ _ HNb.out zeroM_size
      refine rd 17 (h := fun K hK => ?_)
      go_simp
      have hne := Blk.ne_ HNb.out HRb.out (by decide)
      have HRb := Lib.hid (HRb.out.setRow_mf DA (Ne.symm hne))
      have HO := Lib.hid (HO.out.put HBB.out DA HNb.out HNL2.out (Blk.ne_ HNb.out HO.out.f (by decide)) (by decide) (by decide))
      have HNb := Lib.hid (HNb.out.setRow_m DA)
      clear hst
      refine so hK (by (try dsimp only); (exact HS14.out _ HO.out)) (h := fun hHeld => ?_)
      clear hK K
      have hst := run_sstR de dn dg HRb.out rfl
      refine rd 18 (h := fun K hK => ?_)
      go_simp
      have HNb := Lib.hid (HNb.out.setRow_mf #[.int .i64 de, .int .i64 dn, .int .i64 dg] hne)
      have HO := Lib.hid (HO.out.put HBB.out #[.int .i64 de, .int .i64 dn, .int .i64 dg] HRb.out HRL2.out (Blk.ne_ HRb.out HO.out.f (by decide)) (by decide) (by decide))
      have HRb := Lib.hid (HRb.out.setRow_m #[.int .i64 de, .int .i64 dn, .int .i64 dg])
      clear hst
      refine so hK (by (try dsimp only); (exact HS14.out _ HO.out)) (h := fun hHeld => ?_)
      clear hK K
      refine wpAnyH_done (by kernel_rfl) ?_ _
      try simp only [Act.put, List.getElem_toArray, List.getElem_cons_succ, List.getElem_cons_zero, List.setIfInBounds_toArray, List.set_cons_zero, List.set_cons_succ]
      go_wp2_with fail
      go_meet
      exact ⟨_, _, rfl, rfl, HO.out, HNb.out, HRb.out, HNL2.out, HRL2.out⟩
     exact AllReadyH.nil
    refine AllReadyH.cons rfl (fun K hK => ?_) ?_
    ·
     go_simp
     have HNL2 := Lib.hid HO.out.r.lt
     have HNb := Lib.hid (Blk.newAtR HO.out.bel 44 Tryz.zeroCells44)
     have HO := Lib.hid (HO.out.alloc (.cells Tryz.zeroCells44 44))
     have HRb := Lib.hid (HRb.out.alloc (.cells Tryz.zeroCells44 44))
     generalize World.alloc _ (.cells Tryz.zeroCells44 44) = Wa at HO HNb HRb ⊢
     refine so hK (by (try dsimp only); (exact HS14.out _ HO.out)) (h := fun hHeld => ?_)
     clear hK K
     refine wpAnyH_ready (rs := [11]) (by kernel_rfl) (by simp) ?_
     refine AllReadyH.cons rfl (fun K hK => ?_) ?_
     ·
      go_simp
      refine (HDO2.out _ (HRD.out.below HO.out.bel)).mono ?_; rintro e w' ⟨rfl, hb⟩; have HO := Lib.hid (HO.out.later hb); have HNb := Lib.hid (HNb.out.below hb HNb.out.lt); have HRb := Lib.hid (HRb.out.below hb HRb.out.lt); clear hb
      go_wp2_with fail
      refine so hK (by (try dsimp only); (exact HS14.out _ HO.out)) (h := fun hHeld => ?_)
      clear hK K
      refine tk 12 (h := ?_)
      refine tk 13 (h := ?_)
      refine tk 14 (h := ?_)
      have hst := HSN.out _ _ _ HNb.out zeroM_size
      refine rd 17 (h := fun K hK => ?_)
      go_simp
      have hne := Blk.ne_ HNb.out HRb.out (by decide)
      have HRb := Lib.hid (HRb.out.setRow_mf DA (Ne.symm hne))
      have HO := Lib.hid (HO.out.put HBB.out DA HNb.out HNL2.out (Blk.ne_ HNb.out HO.out.f (by decide)) (by decide) (by decide))
      have HNb := Lib.hid (HNb.out.setRow_m DA)
      clear hst
      refine so hK (by (try dsimp only); (exact HS14.out _ HO.out)) (h := fun hHeld => ?_)
      clear hK K
      have hst := run_sstR de dn dg HRb.out rfl
      refine rd 18 (h := fun K hK => ?_)
      go_simp
      have HNb := Lib.hid (HNb.out.setRow_mf #[.int .i64 de, .int .i64 dn, .int .i64 dg] hne)
      have HO := Lib.hid (HO.out.put HBB.out #[.int .i64 de, .int .i64 dn, .int .i64 dg] HRb.out HRL2.out (Blk.ne_ HRb.out HO.out.f (by decide)) (by decide) (by decide))
      have HRb := Lib.hid (HRb.out.setRow_m #[.int .i64 de, .int .i64 dn, .int .i64 dg])
      clear hst
      refine so hK (by (try dsimp only); (exact HS14.out _ HO.out)) (h := fun hHeld => ?_)
      clear hK K
      refine wpAnyH_done (by kernel_rfl) ?_ _
      try simp only [Act.put, List.getElem_toArray, List.getElem_cons_succ, List.getElem_cons_zero, List.setIfInBounds_toArray, List.set_cons_zero, List.set_cons_succ]
      go_wp2_with fail
      go_meet
      exact ⟨_, _, rfl, rfl, HO.out, HNb.out, HRb.out, HNL2.out, HRL2.out⟩
     exact AllReadyH.nil
    exact AllReadyH.nil
   exact AllReadyH.nil
  case rest =>
   obtain ⟨nb, rb, rfl, rfl, hO, hNb, hRb, hnl, hrl⟩ := hcut
   have HO := Lib.hid hO
   have HNb := Lib.hid hNb
   have HRb := Lib.hid hRb
   have cr0 : wc.cell? ⟨rb, 0, none⟩ = some (.int .i64 de) := hRb.cell 0
   have cq0 : wc.cell? ⟨w.heap.size, 0, none⟩ = some (.int .i64 qk) := hO.q.cell 0
   clear HS14 HSN HDO2 hO hNb hRb hnl hrl HREAD HANY HSIGN HSHA
   by_cases he : de = 0
   ·
    subst he
    go_upto_block 1 with fail
    clear cr0 cq0
    go_cut [] from 97 (fun wx => (∃ T0 d0 T1 d1, RmAt wx B b c m NL l1 K kc F fc T0 d0 T1 d1) ∧ Blk wx nb 44 DA ∧ Blk wx rb 37 #[.int .i64 0, .int .i64 dn, .int .i64 dg] ∧ Blk wx (w.heap.size + 1) 37 #[.int .i64 0, .int .i64 0, .int .i64 0] ∧ Only S w wx)
    case first =>
     by_cases h1 : qk = 1
     ·
      subst h1
      have q0 : wc.cell? ⟨b, 114, none⟩ = some (.slice S0 l0.length c0) := HO.out.md.cell0
      have fz := HO.out.md.blk.frozen 114
      have hmd := HO.out.md.setS0 (A := none) (n := 0) (cc := 0) (l := []) rfl own_noneM (fun k hk => absurd hk (by simp [Value.ownBlock]))
      have ho : Only [b] wc (wc.setCell ⟨b, 114, none⟩ (.slice none 0 0)) := (Only.refl [b] wc).setCell (p := ⟨b, 114, none⟩) (.inl (by simp)) _
      have HMD := Lib.hid hmd
      have HN := Lib.hid (HNb.out.only ho (by have := Blk.ne_ HNb.out HO.out.md.blk (by decide); simpa using this))
      have HR := Lib.hid (HRb.out.only ho (by have := Blk.ne_ HRb.out HO.out.md.blk (by decide); simpa using this))
      have HX := Lib.hid (HO.out.r.only ho (by have := Blk.ne_ HO.out.r HO.out.md.blk (by decide); simpa using this))
      have HON := Lib.hid ((Only.of_below (S := S) HO.out.bel).trans (ho.mono (fun k hk => by rw [List.mem_singleton.1 hk]; exact .inl HSB.out)))
      clear hmd ho
      go_wp2_with fail
      go_meet
      have e : NL = [] := by rw [← HNL.out]; unfold slotR; rw [if_pos ⟨rfl, rfl⟩]
      rw [e]
      exact ⟨⟨_, _, _, _, HMD.out⟩, HN.out, HR.out, HX.out, HON.out⟩
     by_cases h2 : qk = 2
     ·
      subst h2
      have hn1 : ((2 : Int) == 1) = false := by decide
      go_upto_region 21 with fail
      have hs2 : wc.drew.cell? ⟨w.heap.size, 2, none⟩ = some (.slice SB sl sc) := HO.out.q.cell 2
      refine wp_region_held_drew (S := (fun W => W.cell? ⟨w.heap.size, 2, none⟩ = some (.slice SB sl sc))) (by kernel_rfl) ?_ (fun hHeld => ?_)
      ·
       exact hs2
      generalize hwd : wc.drew = Wd at hs2 hHeld ⊢
      have hO := HO.out.later ((Below.refl _ wc).drew)
      have hN := HNb.out.below ((Below.refl _ wc).drew) HNb.out.lt
      have hR := HRb.out.below ((Below.refl _ wc).drew) HRb.out.lt
      rw [hwd] at hO hN hR
      clear HO HNb HRb hwd
      have HO := Lib.hid hO
      have HNb := Lib.hid hN
      have HRb := Lib.hid hR
      clear hO hN hR
      refine tk 0 (h := ?_)
      refine tk 1 (h := ?_)
      refine tk 2 (h := ?_)
      refine tk 3 (h := ?_)
      refine tk 4 (h := ?_)
      refine tk 5 (h := ?_)
      refine tk 6 (h := ?_)
      refine tk 8 (h := ?_)
      refine tk 9 (h := ?_)
      refine tk 11 (h := ?_)
      refine tk 12 (h := ?_)
      have c7b : Wd.cell? ⟨b, 114, none⟩ = some (.slice S0 l0.length c0) := HO.out.md.cell0
      refine rd 7 (h := fun K hK => ?_)
      go_simp
      refine so hK (by (try dsimp only); (first | exact HQ.out.cell 2 | exact HQ9.out.cell 2 | exact HO.out.q.cell 2)) (h := fun hHeld => ?_)
      clear hK K
      refine rd 10 (h := fun K hK => ?_)
      refine step_append_any _ rfl (.tmp 113) (.tmp 115) 22 (by rfl) B 5 i0 (.int .u8 0) 1 Tryz.underlying22 HI8.out HZ0.out HZ1.out HZ2.out rfl (.slice S0 l0.length c0) l0.length (l0.map u8v) (by rfl) HO.out.md.s0 SB sl sc (l.map u8v) (by rfl) (HRD.out.below HO.out.bel) (u8v_one _) (by have := HSZ.out; unfold maxLen; omega) (by have := HSZ.out; omega) (Nat.le_trans HBB.out HO.out.bel.size) ?_
      intro A9 c9 w9 hown9 hgrow9 hat9
      have hty : ∀ (g : Nat) (t : TypeId) (cs : Array Value), Blk Wd g t cs → t ≠ 5 → Blk w9 g t cs := fun g t cs hB ht => hB.grown hgrow9 (fun e => own_blk_ne HO.out.md.s0 hB (Ne.symm ht) e.symm)
      have c9b : w9.cell? ⟨b, 114, none⟩ = some (.slice S0 l0.length c0) := by
       rw [World.cell?_of_block (a := ⟨b, 114, none⟩) (hgrow9.block b HO.out.md.blk.lt (fun e => own_blk_ne HO.out.md.s0 HO.out.md.blk (by decide) e.symm))]
       exact HO.out.md.cell0
      have hb9 := hty _ _ _ HO.out.md.blk (by decide)
      have fz := hb9.frozen 114
      have HN9 := Lib.hid (hty _ _ _ HNb.out (by decide))
      have HR9 := Lib.hid (hty _ _ _ HRb.out (by decide))
      have HX9 := Lib.hid (hty _ _ _ HO.out.r (by decide))
      have HQ9 := Lib.hid (hty _ _ _ HO.out.q (by decide))
      have HB9 := Lib.hid hb9
      have hmd := HO.out.md.app0 (l := l0 ++ l) (n := l0.length + sl) (by rw [List.length_append, HLEN.out]) hgrow9 (by rw [List.map_append]; exact hown9) hat9
      have HMD := Lib.hid hmd
      have HON9 := Lib.hid (((Only.of_below (S := S) HO.out.bel).grown hgrow9 (fun g e => .inl (HSS0.out g e))))
      clear hown9 hgrow9 hat9 hb9 hmd hty
      refine so hK (by (try dsimp only); (first | exact HQ.out.cell 2 | exact HQ9.out.cell 2 | exact HO.out.q.cell 2)) (h := fun hHeld => ?_)
      clear hK K
      refine tk 13 (h := ?_)
      have ho2 : Only [b] w9 (w9.setCell ⟨b, 114, none⟩ (.slice A9 (l0.length + sl) c9)) := (Only.refl [b] w9).setCell (p := ⟨b, 114, none⟩) (.inl (by simp)) _
      have HN := Lib.hid (HN9.out.only ho2 (by have := Blk.ne_ HN9.out HB9.out (by decide); simpa using this))
      have HR := Lib.hid (HR9.out.only ho2 (by have := Blk.ne_ HR9.out HB9.out (by decide); simpa using this))
      have HX := Lib.hid (HX9.out.only ho2 (by have := Blk.ne_ HX9.out HB9.out (by decide); simpa using this))
      have HQ := Lib.hid (HQ9.out.only ho2 (by have := Blk.ne_ HQ9.out HB9.out (by decide); simpa using this))
      have HON := Lib.hid (HON9.out.trans (ho2.mono (fun k hk => by rw [List.mem_singleton.1 hk]; exact .inl HSB.out)))
      clear ho2
      refine rd 14 (h := fun K hK => ?_)
      go_simp
      refine so hK (by (try dsimp only); (first | exact HQ.out.cell 2 | exact HQ9.out.cell 2 | exact HO.out.q.cell 2)) (h := fun hHeld => ?_)
      clear hK K
      refine wpAnyH_done (by kernel_rfl) ?_ _
      try simp only [Act.put, List.getElem_toArray, List.getElem_cons_succ, List.getElem_cons_zero, List.setIfInBounds_toArray, List.set_cons_zero, List.set_cons_succ]
      go_wp2_with fail
      go_meet
      have e : NL = l0 ++ l := by rw [← HNL.out]; unfold slotR; rw [if_neg (by decide), if_pos ⟨rfl, rfl⟩]
      rw [e]
      exact ⟨⟨_, _, _, _, HMD.out⟩, HN.out, HR.out, HX.out, HON.out⟩
     ·
      have hn1 : (qk == 1) = false := by rw [beq_eq_false_iff_ne]; exact h1
      have hn2 : (qk == 2) = false := by rw [beq_eq_false_iff_ne]; exact h2
      go_wp2_with fail
      go_meet
      have e : NL = l0 := by rw [← HNL.out]; unfold slotR; rw [if_neg (fun q => h1 q.2), if_neg (fun q => h2 q.2)]
      rw [e]
      exact ⟨⟨_, _, _, _, HO.out.md⟩, HNb.out, HRb.out, HO.out.r, Only.of_below (S := S) HO.out.bel⟩
    case rest =>
     obtain ⟨⟨T0, d0, T1, d1, hmd⟩, hN, hR, hX, hon⟩ := hcut
     have HMD := Lib.hid hmd
     have HON := Lib.hid hon
     have hld : (sldM (.pointer (some ⟨nb, 0, none⟩))).run Tryz.prog wc = .ok (.agg DA) wc := by
      have q := hN
      rw [← HDA.out] at q ⊢
      exact run_sldM (Mt.cells_len HDOK.out) q.whole
     have hst := run_sstMo (o := 7) hmd.blk (by rw [List.size_toArray, mdC_len (c.cells_len K kc F fc) hmd.ok]; omega) dm HDOK.out
     have hmd2 := hmd.putM dm HDOK.out
     have ho2 : Only [b] wc (wc.setCells b 7 dm.cells) := only_setCells _ _ _ (Only.refl _ _)
     have n1 : rb ∉ [b] := by have := Blk.ne_ hR hmd.blk (by decide); simpa using this
     have n2 : w.heap.size + 1 ∉ [b] := by have := Blk.ne_ hX hmd.blk (by decide); simpa using this
     have hrb2 := hR.only ho2 n1
     have hr2 := hX.only ho2 n2
     have hldr := run_sldR rfl hrb2.whole
     have hstr := run_sstR 0 dn dg hr2 rfl
     have hfin := hr2.setRow_m #[.int .i64 0, .int .i64 dn, .int .i64 dg]
     have hmd3 := hmd2.putR hr2 (Nat.le_succ_of_le HBB.out) (by decide) (by decide) #[.int .i64 0, .int .i64 dn, .int .i64 dg]
     have hon3 := (HON.out.cellsM (.inl HSB.out) dm.cells 7).rowM (.inr (Nat.le_succ w.heap.size)) #[.int .i64 0, .int .i64 dn, .int .i64 dg]
     have HFIN := Lib.hid hfin
     have HMD3 := Lib.hid hmd3
     have HON3 := Lib.hid hon3
     clear hfin hmd3 hon hon3 hr2 hrb2 n1 n2 ho2 hmd2 hmd hN hR hX
     rw [HDA.out] at hst
     obtain ⟨DL, hDL⟩ : ∃ DL, dm.cells = DL := ⟨_, rfl⟩
     rw [hDL] at hst hldr hstr HMD3 HON3 HFIN
     clear hDL
     go_wp2_with fail
     refine bodyPost_ret (results_cell_row rfl _ _ (w.heap.size + 1) 37 #[.int .i64 0, .int .i64 dn, .int .i64 dg] (0, 0) _ rfl HFIN.out Tryz.underlying37 rfl info_sRp) rfl ?_
     exact ⟨rfl, ⟨_, _, _, _, HMD3.out⟩, HON3.out⟩
   ·
    have hdm := HSAME.out he
    have hen : (de != 0) = true := by rw [bne_iff_ne]; exact he
    have hldr := run_sldR rfl HRb.out.whole
    have hstr := run_sstR de dn dg HO.out.r rfl
    have HFIN := Lib.hid (HO.out.r.setRow_m #[.int .i64 de, .int .i64 dn, .int .i64 dg])
    have HMD := Lib.hid (HO.out.md.putR HO.out.r (Nat.le_succ_of_le HBB.out) (by decide) (by decide) #[.int .i64 de, .int .i64 dn, .int .i64 dg])
    have HON := Lib.hid ((Only.of_below (S := S) HO.out.bel).rowM (.inr (Nat.le_succ w.heap.size)) #[.int .i64 de, .int .i64 dn, .int .i64 dg])
    go_wp2_with fail
    refine bodyPost_ret (results_cell_row rfl _ _ (w.heap.size + 1) 37 #[.int .i64 de, .int .i64 dn, .int .i64 dg] (0, 0) _ rfl HFIN.out Tryz.underlying37 rfl info_sRp) rfl ?_
    have e : NL = l0 := by rw [← HNL.out]; unfold slotR; rw [if_neg (fun q => he q.1), if_neg (fun q => he q.1)]
    rw [e, hdm]
    exact ⟨rfl, ⟨_, _, _, _, HMD.out⟩, HON.out⟩
end Go.Proofs.YtpafenlcgcenlaaGreatDoor
