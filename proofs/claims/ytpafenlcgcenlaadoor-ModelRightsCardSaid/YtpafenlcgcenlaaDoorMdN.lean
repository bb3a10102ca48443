/- (*model.Model).Do of a request that the rights allow. -/
import Derived.Test.YtpafenlcgcenlaaDoorMdM
import Derived.Deep.RegionHeld3
import Derived.Deep.DrawnRows
namespace Go.Proofs.YtpafenlcgcenlaaDoor
open Go Go.RowKit
set_option linter.unusedVariables false
set_option linter.unusedSimpArgs false
/-- The frame of Do. -/
structure DoAt (w0 W : World) (B b : Nat) (c : Cf) (m : Mt) (l0 l1 : List UInt8) (K : Option Addr) (kc : Nat) (F : Option Addr) (fc : Nat) (S0 : Option Addr) (c0 : Nat) (S1 : Option Addr) (c1 : Nat) (QA : Array Value) : Prop where
  md : MdAt W B b c m l0 l1 K kc F fc S0 c0 S1 c1
  q : Blk W w0.heap.size 33 QA
  r : Blk W (w0.heap.size + 1) 30 #[.int .i64 0, .int .i64 0, .int .i64 0]
  bel : Below w0.heap.size w0 W
section
variable {w0 W W' : World} {B b : Nat} {c : Cf} {m : Mt} {l0 l1 : List UInt8} {K : Option Addr} {kc : Nat} {F : Option Addr} {fc : Nat} {S0 : Option Addr} {c0 : Nat} {S1 : Option Addr} {c1 : Nat} {QA : Array Value}
theorem DoAt.later (h : DoAt w0 W B b c m l0 l1 K kc F fc S0 c0 S1 c1 QA) (hb : Below W.heap.size W W') : DoAt w0 W' B b c m l0 l1 K kc F fc S0 c0 S1 c1 QA :=
  ⟨h.md.below hb, h.q.below hb h.q.lt, h.r.below hb h.r.lt, h.bel.trans (hb.mono h.bel.size)⟩
theorem DoAt.alloc (h : DoAt w0 W B b c m l0 l1 K kc F fc S0 c0 S1 c1 QA) (ob : Obj) : DoAt w0 (W.alloc ob) B b c m l0 l1 K kc F fc S0 c0 S1 c1 QA := h.later ((Below.refl _ _).alloc (Nat.le_refl _) _)
theorem DoAt.setRow (h : DoAt w0 W B b c m l0 l1 K kc F fc S0 c0 S1 c1 QA) {g : Nat} (cs : Array Value) (hg : w0.heap.size + 1 < g) (hb : g ≠ b) (hk : ∀ k, (Value.slice K c.key.length kc).ownBlock = some k → k ≠ g) (h0 : ∀ k, (Value.slice S0 l0.length c0).ownBlock = some k → k ≠ g) (h1 : ∀ k, (Value.slice S1 l1.length c1).ownBlock = some k → k ≠ g) : DoAt w0 (W.setRow g cs) B b c m l0 l1 K kc F fc S0 c0 S1 c1 QA := by
  have ho : Only [g] W (W.setRow g cs) := ⟨rfl, rfl, rfl, by simp [World.setRow], fun k _ hn => setRow_other W g k _ (by simpa using hn)⟩
  refine ⟨⟨h.md.blk.setRow_mf _ (Ne.symm hb), h.md.ok, own_only h.md.key ho ?_, own_only h.md.s0 ho ?_, own_only h.md.s1 ho ?_, h.md.ge, h.md.ap0, h.md.ap1⟩, h.q.setRow_mf _ (by omega), h.r.setRow_mf _ (by omega), below_setRow_m h.bel (by omega) _⟩
  · intro k e; simpa using hk k e
  · intro k e; simpa using h0 k e
  · intro k e; simpa using h1 k e
/-- A block that is no row of bytes is none of a Model's rows. -/
theorem MdAt.rows_ne (h : MdAt W B b c m l0 l1 K kc F fc S0 c0 S1 c1) {g : Nat} {t : TypeId} {cs : Array Value} (hg : Blk W g t cs) (ht : t ≠ 5) : (∀ k, (Value.slice K c.key.length kc).ownBlock = some k → k ≠ g) ∧ (∀ k, (Value.slice S0 l0.length c0).ownBlock = some k → k ≠ g) ∧ (∀ k, (Value.slice S1 l1.length c1).ownBlock = some k → k ≠ g) :=
  ⟨fun k e e2 => own_blk_ne h.key hg (Ne.symm ht) (e2 ▸ e), fun k e e2 => own_blk_ne h.s0 hg (Ne.symm ht) (e2 ▸ e), fun k e e2 => own_blk_ne h.s1 hg (Ne.symm ht) (e2 ▸ e)⟩
/-- A Meta, or an answer, that is new is stored whole. -/
theorem DoAt.put (h : DoAt w0 W B b c m l0 l1 K kc F fc S0 c0 S1 c1 QA) {g : Nat} {t : TypeId} {old : Array Value} (cs : Array Value) (hB : Blk W g t old) (hg : w0.heap.size + 1 < g) (ht : t ≠ 5) (ht2 : t ≠ 48) : DoAt w0 (W.setRow g cs) B b c m l0 l1 K kc F fc S0 c0 S1 c1 QA := by
  obtain ⟨a, b2, d⟩ := h.md.rows_ne hB ht
  exact h.setRow cs hg (Blk.ne_ hB h.md.blk ht2) a b2 d
end
theorem Blk.newAtM {B : Nat} {w0 W : World} (hb : Below B w0 W) (t : TypeId) (cs : Array Value) : Blk (W.alloc (.cells cs t)) W.heap.size t cs := Blk.new W t cs
theorem only_setRowM {W : World} {g : Nat} (cs : Array Value) : Only [g] W (W.setRow g cs) := ⟨rfl, rfl, rfl, by simp [World.setRow], fun k _ hn => setRow_other W g k _ (by simpa using hn)⟩
attribute [local go_sem ↓] sldM_seal sstM_seal sldQ_seal sldR_seal sstR_seal
set_option maxRecDepth 100000 in
set_option maxHeartbeats 16000000 in
theorem mdo_yes (w : World) (B b : Nat) (c : Cf) (m : Mt) (l0 l1 : List UInt8) (K : Option Addr) (kc : Nat) (F : Option Addr) (fc : Nat) (S0 : Option Addr) (c0 : Nat) (S1 : Option Addr) (c1 : Nat) (h : MdAt w B b c m l0 l1 K kc F fc S0 c0 S1 c1) (r : Nat) (hr : c.rights = (r : Int)) (hr2 : r ≤ 1023) (S : List Nat) (hSb : b ∈ S) (hS0 : ∀ k, (Value.slice S0 l0.length c0).ownBlock = some k → k ∈ S) (hS1 : ∀ k, (Value.slice S1 l1.length c1).ownBlock = some k → k ∈ S)
    (hri : m.right = true) (hqp : QuotaP m c.quota) (hqs : c.quota ≤ c.slot) (hsl6 : 1 ≤ c.slot ∧ c.slot ≤ 6) (hl0 : (l0.length : Int) = c.slot * 320) (hl1 : (l1.length : Int) = c.slot * 320) (hkl : c.key.length ≤ 100000)
    (qk qn : Int) (SB : Option Addr) (sl sc : Nat) (l : List UInt8) (hrd : Reads w SB sl (l.map u8v)) (hsl : sl ≤ 1000) (hsc : sl ≤ sc ∧ sc ≤ maxLen) (hyes : mayK r qk = true) (dm : Mt) (de dn dg : Int) (hD : doA m (factD c m (if m.act = 0 then l1 else l0) l) qk qn l c.quota = ⟨dm, de, dn, dg⟩) :
    Calls Tryd.prog 6 #[.pointer (some ⟨b, 0, none⟩), .agg #[.int .i64 qk, .int .i64 qn, .slice SB sl sc]] w fun e w' => e = .returned (.agg #[.int .i64 de, .int .i64 dn, .int .i64 dg]) ∧ MdAt w' B b c dm (if m.act = 0 then l0 else slotA de qk qn l l0) (if m.act = 0 then slotA de qk qn l l1 else l1) K kc F fc S0 c0 S1 c1 ∧ Only S w w' := by
  have hlen : l.length = sl := by simpa using hrd.len
  obtain ⟨N0, hN0⟩ : ∃ N0, (if m.act = 0 then l0 else slotA de qk qn l l0) = N0 := ⟨_, rfl⟩
  obtain ⟨N1, hN1⟩ : ∃ N1, (if m.act = 0 then slotA de qk qn l l1 else l1) = N1 := ⟨_, rfl⟩
  rw [hN0, hN1]
  have HN0 := Lib.hid hN0
  have HN1 := Lib.hid hN1
  clear hN0 hN1
  have hact := ((right_iff m).1 hri).act
  have hq := (Blk.new w 33 #[.int .i64 qk, .int .i64 qn, .slice SB sl sc]).alloc (.cells #[.int .i64 0, .int .i64 0, .int .i64 0] 30)
  have hx := (Blk.new (w.alloc (.cells #[.int .i64 qk, .int .i64 qn, .slice SB sl sc] 33)) 30 #[.int .i64 0, .int .i64 0, .int .i64 0])
  rw [show (w.alloc (.cells #[.int .i64 qk, .int .i64 qn, .slice SB sl sc] 33)).heap.size = w.heap.size + 1 from by simp] at hx
  have hb : Below w.heap.size w ((w.alloc (.cells #[.int .i64 qk, .int .i64 qn, .slice SB sl sc] 33)).alloc (.cells #[.int .i64 0, .int .i64 0, .int .i64 0] 30)) := ((Below.refl _ w).alloc (Nat.le_refl _) _).alloc (by simp) _
  have hdoat : DoAt w ((w.alloc (.cells #[.int .i64 qk, .int .i64 qn, .slice SB sl sc] 33)).alloc (.cells #[.int .i64 0, .int .i64 0, .int .i64 0] 30)) B b c m l0 l1 K kc F fc S0 c0 S1 c1 #[.int .i64 qk, .int .i64 qn, .slice SB sl sc] := ⟨h.below hb, hq, hx, hb⟩
  have k5 : ((w.alloc (.cells #[.int .i64 qk, .int .i64 qn, .slice SB sl sc] 33)).alloc (.cells #[.int .i64 0, .int .i64 0, .int .i64 0] 30)).cell? ⟨b, 5, none⟩ = some (.int .i64 (r : Int)) := by
    rw [hdoat.md.cellC 5 (by omega)]
    show some (Value.int .i64 c.rights) = _
    rw [hr]
  have hmay := fun W => cmay_c W r hr2 0 0 qk
  rw [hyes] at hmay
  have hfl : (factD c m (if m.act = 0 then l1 else l0) l).d.length = 32 := factD_len _ _ _ _
  have hfa := fun (W : World) (hW : MdAt W B b c m l0 l1 K kc F fc S0 c0 S1 c1) (hR : Reads W SB sl (l.map u8v)) => mfact_c W B b c m l0 l1 K kc F fc S0 c0 S1 c1 hW hkl hact (by omega) (by omega) qk qn SB sl sc l hR hsl hsc
  obtain ⟨FD, hFD⟩ : ∃ FD, factD c m (if m.act = 0 then l1 else l0) l = FD := ⟨_, rfl⟩
  rw [hFD] at hfa hfl hD
  have hdo : ∀ W, Reads W SB sl (l.map u8v) → Calls Tryd.prog 14 #[.agg m.cells.toArray, .agg #[.int .i64 qk, .int .i64 qn, .slice SB sl sc], .agg FD.cells.toArray, .int .i64 c.quota] W fun e w' => e = .returned (.tuple #[.agg dm.cells.toArray, .agg #[.int .i64 de, .int .i64 dn, .int .i64 dg]]) ∧ Below W.heap.size W w' := fun W hW => by
    have q := doA_c W m h.ok qk qn SB sl sc l hW hsl FD hfl c.quota
    rw [hD] at q
    exact q
  have hDo : dm.Ok := by
    have q := doA_ok h.ok FD qk qn l c.quota
    rw [hD] at q
    exact q
  have hwr : de = 0 → qk = 2 → m.ph = 1 ∧ qn = m.got ∧ 0 ≤ m.got ∧ m.got < chunksZ m.cm.s ∧ (l.length : Int) = lenZ m.cm.s m.got := fun he hk => by
    subst he hk
    obtain ⟨a1, a2, a3, a4, a5, _⟩ := wr_facts hri FD qn l c.quota (by rw [hD])
    exact ⟨a1, a2, a3, a4, a5⟩
  have hfit : de = 0 → qk = 2 → 0 ≤ qn ∧ qn * 320 + (l.length : Int) ≤ c.slot * 320 ∧ 0 < l.length := fun he hk => by
    obtain ⟨a1, a2, a3, a4, a5⟩ := hwr he hk
    have q := wr_fits (hqp a1) hqs a3 a4 a5
    rw [← a2] at q a3
    exact ⟨a3, q⟩
  have hoth := fun W => other_c W m h.ok (by omega)
  have HO := Lib.hid hdoat
  have HK5 := Lib.hid k5
  have HMAY := Lib.hid hmay
  have HFA := Lib.hid hfa
  have HDO := Lib.hid hdo
  have HDOK := Lib.hid hDo
  have HFIT := Lib.hid hfit
  have HACT := Lib.hid hact
  have HOTH := Lib.hid hoth
  have HRD := Lib.hid hrd
  have HSB := Lib.hid hSb
  have HSS0 := Lib.hid hS0
  have HSS1 := Lib.hid hS1
  have HL0 := Lib.hid hl0
  have HL1 := Lib.hid hl1
  have HSL := Lib.hid hsl6
  have HOK := Lib.hid h.ok
  have HLEN := Lib.hid hlen
  clear h hq hx hb hdoat k5 hmay hfa hdo hDo hwr hfit hact hoth hrd hSb hS0 hS1 hl0 hl1 hsl6 hri hqp hqs hkl hsl hsc hyes hD hFD hfl hr hr2 hlen
  go_enter Tryd.func6, Tryd.ntmps6
  go_upto_region 3 with fail
  have hdoat := HO.out
  have k5 := HK5.out
  clear HO HK5
  generalize ((w.alloc (.cells #[.int .i64 qk, .int .i64 qn, .slice SB sl sc] 33)).alloc (.cells #[.int .i64 0, .int .i64 0, .int .i64 0] 30)) = W at hdoat k5 ⊢
  have hs0 : W.cell? ⟨b, 5, none⟩ = some (.int .i64 (r : Int)) ∧ W.cell? ⟨w.heap.size, 0, none⟩ = some (.int .i64 qk) := ⟨k5, hdoat.q.cell 0⟩
  have HO := Lib.hid hdoat
  clear hdoat k5
  refine wp_region_held_drew (S := (fun W => W.cell? ⟨b, 5, none⟩ = some (.int .i64 (r : Int)) ∧ W.cell? ⟨w.heap.size, 0, none⟩ = some (.int .i64 qk))) (by kernel_rfl) ?_ (fun hHeld => ?_)
  · exact hs0
  refine wpAnyH_take (i := 0) (v := ?_) rfl (by kernel_rfl) (by kernel_rfl) (by kernel_rfl) (fun _ _ _ h => h) (Or.inl ⟨by rfl, ?_⟩) (by assumption) ?_
  rotate_left
  · intro w hSw
    (try dsimp only at hSw)
    go_simp
    all_goals with_reducible rfl
  try simp only [Act.put, List.getElem_toArray, List.getElem_cons_succ, List.getElem_cons_zero, List.setIfInBounds_toArray, List.set_cons_zero, List.set_cons_succ]
  refine wpAnyH_take (i := 1) (v := ?_) rfl (by kernel_rfl) (by kernel_rfl) (by kernel_rfl) (fun _ _ _ h => h) (Or.inl ⟨by rfl, ?_⟩) (by assumption) ?_
  rotate_left
  · intro w hSw
    (try dsimp only at hSw)
    go_simp
    all_goals with_reducible rfl
  try simp only [Act.put, List.getElem_toArray, List.getElem_cons_succ, List.getElem_cons_zero, List.setIfInBounds_toArray, List.set_cons_zero, List.set_cons_succ]
  refine wpAnyH_take (i := 2) (v := ?_) rfl (by kernel_rfl) (by kernel_rfl) (by kernel_rfl) (fun _ _ _ h => h) (Or.inl ⟨by rfl, ?_⟩) (by assumption) ?_
  rotate_left
  · intro w hSw
    (try dsimp only at hSw)
    go_simp
    all_goals with_reducible rfl
  try simp only [Act.put, List.getElem_toArray, List.getElem_cons_succ, List.getElem_cons_zero, List.setIfInBounds_toArray, List.set_cons_zero, List.set_cons_succ]
  refine wpAnyH_take (i := 3) (v := ?_) rfl (by kernel_rfl) (by kernel_rfl) (by kernel_rfl) (fun _ _ _ h => h) (Or.inl ⟨by rfl, ?_⟩) (by assumption) ?_
  rotate_left
  · intro w hSw
    (try dsimp only at hSw)
    go_simp
    all_goals with_reducible rfl
  try simp only [Act.put, List.getElem_toArray, List.getElem_cons_succ, List.getElem_cons_zero, List.setIfInBounds_toArray, List.set_cons_zero, List.set_cons_succ]
  refine wpAnyH_take (i := 4) (v := ?_) rfl (by kernel_rfl) (by kernel_rfl) (by kernel_rfl) (fun _ _ _ h => h) (Or.inl ⟨by rfl, ?_⟩) (by assumption) ?_
  rotate_left
  · intro w hSw
    (try dsimp only at hSw)
    go_simp
    all_goals with_reducible rfl
  try simp only [Act.put, List.getElem_toArray, List.getElem_cons_succ, List.getElem_cons_zero, List.setIfInBounds_toArray, List.set_cons_zero, List.set_cons_succ]
  refine wpAnyH_take (i := 5) (v := ?_) rfl (by kernel_rfl) (by kernel_rfl) (by kernel_rfl) (fun _ _ _ h => h) (Or.inl ⟨by rfl, ?_⟩) (by assumption) ?_
  rotate_left
  · intro w hSw
    (try dsimp only at hSw)
    go_simp
    all_goals with_reducible rfl
  try simp only [Act.put, List.getElem_toArray, List.getElem_cons_succ, List.getElem_cons_zero, List.setIfInBounds_toArray, List.set_cons_zero, List.set_cons_succ]
  refine wpAnyH_take (i := 6) (v := ?_) rfl (by kernel_rfl) (by kernel_rfl) (by kernel_rfl) (fun _ _ _ h => h) (Or.inl ⟨by rfl, ?_⟩) (by assumption) ?_
  rotate_left
  · intro w hSw
    (try dsimp only at hSw)
    go_simp
    all_goals with_reducible rfl
  try simp only [Act.put, List.getElem_toArray, List.getElem_cons_succ, List.getElem_cons_zero, List.setIfInBounds_toArray, List.set_cons_zero, List.set_cons_succ]
  refine wpAnyH_take (i := 7) (v := ?_) rfl (by kernel_rfl) (by kernel_rfl) (by kernel_rfl) (fun _ _ _ h => h) (Or.inl ⟨by rfl, ?_⟩) (by assumption) ?_
  rotate_left
  · intro w hSw
    (try dsimp only at hSw)
    go_simp
    all_goals with_reducible rfl
  try simp only [Act.put, List.getElem_toArray, List.getElem_cons_succ, List.getElem_cons_zero, List.setIfInBounds_toArray, List.set_cons_zero, List.set_cons_succ]
  refine wpAnyH_ready (rs := [8]) (by kernel_rfl) (by simp) ?_
  refine AllReadyH.cons rfl (fun K hK => ?_) AllReadyH.nil
  go_simp
  refine (HMAY.out _).mono ?_
  rintro e w9 ⟨rfl, hb9⟩
  go_wp2_with fail
  refine hK.out _ _ ?_ (fun hHeld => ?_)
  · (try dsimp only)
    exact ⟨cell_keepM hHeld.1 hb9, cell_keepM hHeld.2 hb9⟩
  clear hK K
  try simp only [Act.put, List.getElem_toArray, List.getElem_cons_succ, List.getElem_cons_zero, List.setIfInBounds_toArray, List.set_cons_zero, List.set_cons_succ]
  refine wpAnyH_take (i := 9) (v := ?_) rfl (by kernel_rfl) (by kernel_rfl) (by kernel_rfl) (fun _ _ _ h => h) (Or.inl ⟨by rfl, ?_⟩) (by assumption) ?_
  rotate_left
  · intro w hSw
    (try dsimp only at hSw)
    go_simp
    all_goals with_reducible rfl
  try simp only [Act.put, List.getElem_toArray, List.getElem_cons_succ, List.getElem_cons_zero, List.setIfInBounds_toArray, List.set_cons_zero, List.set_cons_succ]
  refine wpAnyH_done (by kernel_rfl) ?_ _
  try simp only [Act.put, List.getElem_toArray, List.getElem_cons_succ, List.getElem_cons_zero, List.setIfInBounds_toArray, List.set_cons_zero, List.set_cons_succ]
  have hdoat := HO.out.later ((Below.refl _ W).drew.trans hb9)
  clear HO hb9 hHeld hs0
  have HO := Lib.hid hdoat
  clear hdoat
  go_upto_region 5 with fail
  have hqq : ∀ W, DoAt w W B b c m l0 l1 K kc F fc S0 c0 S1 c1 #[.int .i64 qk, .int .i64 qn, .slice SB sl sc] → (sldM (.pointer (some ⟨b, 7, none⟩))).run Tryd.prog W = .ok (.agg m.cells.toArray) W ∧ (sldQ (.pointer (some ⟨w.heap.size, 0, none⟩))).run Tryd.prog W = .ok (.agg #[.int .i64 qk, .int .i64 qn, .slice SB sl sc]) W ∧ W.cell? ⟨b, 4, none⟩ = some (.int .i64 c.quota) := fun W hW => ⟨run_sldM (Mt.cells_len HOK.out) hW.md.range, run_sldQ rfl hW.q.whole, hW.md.cellC 4 (by omega)⟩
  have HS5 := Lib.hid hqq
  clear hqq
  obtain ⟨DA, hDA⟩ : ∃ DA, dm.cells.toArray = DA := ⟨_, rfl⟩
  have hds : DA.size = 107 := by rw [← hDA, List.size_toArray, Mt.cells_len HDOK.out]
  have hstN : ∀ (W : World) (gg : Nat) (old : Array Value), Blk W gg 45 old → old.size = 107 → (sstM (.pointer (some ⟨gg, 0, none⟩)) (.agg DA)).run Tryd.prog W = .ok () (W.setRow gg DA) := fun W gg old hB hs => by rw [← hDA]; exact storeM HDOK.out hB hs
  have HSN := Lib.hid hstN
  have HDA := Lib.hid hDA
  have hdo := HDO.out
  rw [hDA] at hdo
  have HDO2 := Lib.hid hdo
  clear hstN hDA hdo HDO hds
  go_cut [5, 6] from 21 (fun va vb wx => ∃ nb rb, va = .pointer (some ⟨nb, 0, none⟩) ∧ vb = .pointer (some ⟨rb, 0, none⟩) ∧ DoAt w wx B b c m l0 l1 K kc F fc S0 c0 S1 c1 #[.int .i64 qk, .int .i64 qn, .slice SB sl sc] ∧ Blk wx nb 45 DA ∧ Blk wx rb 30 #[.int .i64 de, .int .i64 dn, .int .i64 dg] ∧ w.heap.size + 1 < nb ∧ w.heap.size + 1 < rb)
  case first =>
    have hs0 := HS5.out _ (HO.out.later ((Below.refl _ _).drew))
    have HO := Lib.hid (HO.out.later ((Below.refl _ _).drew))
    refine wp_region_held_drew (S := (fun W => (sldM (.pointer (some ⟨b, 7, none⟩))).run Tryd.prog W = .ok (.agg m.cells.toArray) W ∧ (sldQ (.pointer (some ⟨w.heap.size, 0, none⟩))).run Tryd.prog W = .ok (.agg #[.int .i64 qk, .int .i64 qn, .slice SB sl sc]) W ∧ W.cell? ⟨b, 4, none⟩ = some (.int .i64 c.quota))) (by kernel_rfl) ?_ (fun hHeld => ?_)
    · exact hs0
    generalize World.drew _ = Wd at HO hs0 hHeld ⊢
    refine wpAnyH_take (i := 0) (v := ?_) rfl (by kernel_rfl) (by kernel_rfl) (by kernel_rfl) (fun _ _ _ h => h) (Or.inl ⟨by rfl, ?_⟩) (by assumption) ?_
    rotate_left
    · intro w hSw
      (try dsimp only at hSw)
      go_simp
      all_goals with_reducible rfl
    try simp only [Act.put, List.getElem_toArray, List.getElem_cons_succ, List.getElem_cons_zero, List.setIfInBounds_toArray, List.set_cons_zero, List.set_cons_succ]
    refine wpAnyH_take (i := 1) (v := ?_) rfl (by kernel_rfl) (by kernel_rfl) (by kernel_rfl) (fun _ _ _ h => h) (Or.inl ⟨by rfl, ?_⟩) (by assumption) ?_
    rotate_left
    · intro w hSw
      (try dsimp only at hSw)
      go_simp
      all_goals with_reducible rfl
    try simp only [Act.put, List.getElem_toArray, List.getElem_cons_succ, List.getElem_cons_zero, List.setIfInBounds_toArray, List.set_cons_zero, List.set_cons_succ]
    refine wpAnyH_take (i := 2) (v := ?_) rfl (by kernel_rfl) (by kernel_rfl) (by kernel_rfl) (fun _ _ _ h => h) (Or.inl ⟨by rfl, ?_⟩) (by assumption) ?_
    rotate_left
    · intro w hSw
      (try dsimp only at hSw)
      go_simp
      all_goals with_reducible rfl
    try simp only [Act.put, List.getElem_toArray, List.getElem_cons_succ, List.getElem_cons_zero, List.setIfInBounds_toArray, List.set_cons_zero, List.set_cons_succ]
    refine wpAnyH_take (i := 3) (v := ?_) rfl (by kernel_rfl) (by kernel_rfl) (by kernel_rfl) (fun _ _ _ h => h) (Or.inl ⟨by rfl, ?_⟩) (by assumption) ?_
    rotate_left
    · intro w hSw
      (try dsimp only at hSw)
      go_simp
      all_goals with_reducible rfl
    try simp only [Act.put, List.getElem_toArray, List.getElem_cons_succ, List.getElem_cons_zero, List.setIfInBounds_toArray, List.set_cons_zero, List.set_cons_succ]
    refine wpAnyH_take (i := 4) (v := ?_) rfl (by kernel_rfl) (by kernel_rfl) (by kernel_rfl) (fun _ _ _ h => h) (Or.inl ⟨by rfl, ?_⟩) (by assumption) ?_
    rotate_left
    · intro w hSw
      (try dsimp only at hSw)
      go_simp
      all_goals with_reducible rfl
    try simp only [Act.put, List.getElem_toArray, List.getElem_cons_succ, List.getElem_cons_zero, List.setIfInBounds_toArray, List.set_cons_zero, List.set_cons_succ]
    refine wpAnyH_take (i := 5) (v := ?_) rfl (by kernel_rfl) (by kernel_rfl) (by kernel_rfl) (fun _ _ _ h => h) (Or.inl ⟨by rfl, ?_⟩) (by assumption) ?_
    rotate_left
    · intro w hSw
      (try dsimp only at hSw)
      go_simp
      all_goals with_reducible rfl
    try simp only [Act.put, List.getElem_toArray, List.getElem_cons_succ, List.getElem_cons_zero, List.setIfInBounds_toArray, List.set_cons_zero, List.set_cons_succ]
    refine wpAnyH_take (i := 6) (v := ?_) rfl (by kernel_rfl) (by kernel_rfl) (by kernel_rfl) (fun _ _ _ h => h) (Or.inl ⟨by rfl, ?_⟩) (by assumption) ?_
    rotate_left
    · intro w hSw
      (try dsimp only at hSw)
      go_simp
      all_goals with_reducible rfl
    try simp only [Act.put, List.getElem_toArray, List.getElem_cons_succ, List.getElem_cons_zero, List.setIfInBounds_toArray, List.set_cons_zero, List.set_cons_succ]
    refine wpAnyH_take (i := 8) (v := ?_) rfl (by kernel_rfl) (by kernel_rfl) (by kernel_rfl) (fun _ _ _ h => h) (Or.inl ⟨by rfl, ?_⟩) (by assumption) ?_
    rotate_left
    · intro w hSw
      (try dsimp only at hSw)
      go_simp
      all_goals with_reducible rfl
    try simp only [Act.put, List.getElem_toArray, List.getElem_cons_succ, List.getElem_cons_zero, List.setIfInBounds_toArray, List.set_cons_zero, List.set_cons_succ]
    refine wpAnyH_take (i := 9) (v := ?_) rfl (by kernel_rfl) (by kernel_rfl) (by kernel_rfl) (fun _ _ _ h => h) (Or.inl ⟨by rfl, ?_⟩) (by assumption) ?_
    rotate_left
    · intro w hSw
      (try dsimp only at hSw)
      go_simp
      all_goals with_reducible rfl
    try simp only [Act.put, List.getElem_toArray, List.getElem_cons_succ, List.getElem_cons_zero, List.setIfInBounds_toArray, List.set_cons_zero, List.set_cons_succ]
    refine wpAnyH_take (i := 10) (v := ?_) rfl (by kernel_rfl) (by kernel_rfl) (by kernel_rfl) (fun _ _ _ h => h) (Or.inl ⟨by rfl, ?_⟩) (by assumption) ?_
    rotate_left
    · intro w hSw
      (try dsimp only at hSw)
      go_simp
      all_goals with_reducible rfl
    try simp only [Act.put, List.getElem_toArray, List.getElem_cons_succ, List.getElem_cons_zero, List.setIfInBounds_toArray, List.set_cons_zero, List.set_cons_succ]
    refine wpAnyH_take (i := 11) (v := ?_) rfl (by kernel_rfl) (by kernel_rfl) (by kernel_rfl) (fun _ _ _ h => h) (Or.inl ⟨by rfl, ?_⟩) (by assumption) ?_
    rotate_left
    · intro w hSw
      (try dsimp only at hSw)
      go_simp
      all_goals with_reducible rfl
    try simp only [Act.put, List.getElem_toArray, List.getElem_cons_succ, List.getElem_cons_zero, List.setIfInBounds_toArray, List.set_cons_zero, List.set_cons_succ]
    refine wpAnyH_take (i := 12) (v := ?_) rfl (by kernel_rfl) (by kernel_rfl) (by kernel_rfl) (fun _ _ _ h => h) (Or.inl ⟨by rfl, ?_⟩) (by assumption) ?_
    rotate_left
    · intro w hSw
      (try dsimp only at hSw)
      go_simp
      all_goals with_reducible rfl
    try simp only [Act.put, List.getElem_toArray, List.getElem_cons_succ, List.getElem_cons_zero, List.setIfInBounds_toArray, List.set_cons_zero, List.set_cons_succ]
    refine wpAnyH_ready (rs := [7, 17, 18]) (by kernel_rfl) (by simp) ?_
    refine AllReadyH.cons rfl (fun K hK => ?_) ?_
    · go_simp
      refine (HFA.out _ HO.out.md (HRD.out.below HO.out.bel)).mono ?_; rintro e w' ⟨rfl, hb⟩; have HO := Lib.hid (HO.out.later hb); clear hb
      go_wp2_with fail
      refine hK.out _ _ ?_ (fun hHeld => ?_)
      · (try dsimp only)
        exact HS5.out _ HO.out
      clear hK K
      try simp only [Act.put, List.getElem_toArray, List.getElem_cons_succ, List.getElem_cons_zero, List.setIfInBounds_toArray, List.set_cons_zero, List.set_cons_succ]
      refine wpAnyH_ready (rs := [13, 17, 18]) (by kernel_rfl) (by simp) ?_
      refine AllReadyH.cons rfl (fun K hK => ?_) ?_
      · go_simp
        refine (HDO2.out _ (HRD.out.below HO.out.bel)).mono ?_; rintro e w' ⟨rfl, hb⟩; have HO := Lib.hid (HO.out.later hb); clear hb
        go_wp2_with fail
        refine hK.out _ _ ?_ (fun hHeld => ?_)
        · (try dsimp only)
          exact HS5.out _ HO.out
        clear hK K
        try simp only [Act.put, List.getElem_toArray, List.getElem_cons_succ, List.getElem_cons_zero, List.setIfInBounds_toArray, List.set_cons_zero, List.set_cons_succ]
        refine wpAnyH_take (i := 14) (v := ?_) rfl (by kernel_rfl) (by kernel_rfl) (by kernel_rfl) (fun _ _ _ h => h) (Or.inl ⟨by rfl, ?_⟩) (by assumption) ?_
        rotate_left
        · intro w hSw
          (try dsimp only at hSw)
          go_simp
          all_goals with_reducible rfl
        try simp only [Act.put, List.getElem_toArray, List.getElem_cons_succ, List.getElem_cons_zero, List.setIfInBounds_toArray, List.set_cons_zero, List.set_cons_succ]
        refine wpAnyH_take (i := 15) (v := ?_) rfl (by kernel_rfl) (by kernel_rfl) (by kernel_rfl) (fun _ _ _ h => h) (Or.inl ⟨by rfl, ?_⟩) (by assumption) ?_
        rotate_left
        · intro w hSw
          (try dsimp only at hSw)
          go_simp
          all_goals with_reducible rfl
        try simp only [Act.put, List.getElem_toArray, List.getElem_cons_succ, List.getElem_cons_zero, List.setIfInBounds_toArray, List.set_cons_zero, List.set_cons_succ]
        refine wpAnyH_take (i := 16) (v := ?_) rfl (by kernel_rfl) (by kernel_rfl) (by kernel_rfl) (fun _ _ _ h => h) (Or.inl ⟨by rfl, ?_⟩) (by assumption) ?_
        rotate_left
        · intro w hSw
          (try dsimp only at hSw)
          go_simp
          all_goals with_reducible rfl
        try simp only [Act.put, List.getElem_toArray, List.getElem_cons_succ, List.getElem_cons_zero, List.setIfInBounds_toArray, List.set_cons_zero, List.set_cons_succ]
        refine wpAnyH_ready (rs := [17, 18]) (by kernel_rfl) (by simp) ?_
        refine AllReadyH.cons rfl (fun K hK => ?_) ?_
        · go_simp
          have HNL := Lib.hid HO.out.r.lt
          have HNb := Lib.hid (Blk.newAtM HO.out.bel 45 Tryd.zeroCells45)
          have HO := Lib.hid (HO.out.alloc (.cells Tryd.zeroCells45 45))
          generalize World.alloc _ (.cells Tryd.zeroCells45 45) = Wa at HO HNb  ⊢
          refine hK.out _ _ ?_ (fun hHeld => ?_)
          · (try dsimp only)
            exact HS5.out _ HO.out
          clear hK K
          try simp only [Act.put, List.getElem_toArray, List.getElem_cons_succ, List.getElem_cons_zero, List.setIfInBounds_toArray, List.set_cons_zero, List.set_cons_succ]
          refine wpAnyH_ready (rs := [18]) (by kernel_rfl) (by simp) ?_
          refine AllReadyH.cons rfl (fun K hK => ?_) ?_
          · go_simp
            have HRL := Lib.hid HO.out.r.lt
            have HRb := Lib.hid (Blk.newAtM HO.out.bel 30 #[.int .i64 0, .int .i64 0, .int .i64 0])
            have HO := Lib.hid (HO.out.alloc (.cells #[.int .i64 0, .int .i64 0, .int .i64 0] 30))
            have HNb := Lib.hid (HNb.out.alloc (.cells #[.int .i64 0, .int .i64 0, .int .i64 0] 30))
            generalize World.alloc _ (.cells #[.int .i64 0, .int .i64 0, .int .i64 0] 30) = Wb at HO HRb HNb ⊢
            refine hK.out _ _ ?_ (fun hHeld => ?_)
            · (try dsimp only)
              exact HS5.out _ HO.out
            clear hK K
            try simp only [Act.put, List.getElem_toArray, List.getElem_cons_succ, List.getElem_cons_zero, List.setIfInBounds_toArray, List.set_cons_zero, List.set_cons_succ]
            have hst := HSN.out _ _ _ HNb.out zeroM_size
            refine wpAnyH_ready (rs := [19]) (by kernel_rfl) (by simp) ?_
            refine AllReadyH.cons rfl (fun K hK => ?_) AllReadyH.nil
            go_simp
            have hne := Blk.ne_ HNb.out HRb.out (by decide)
            have HRb := Lib.hid (HRb.out.setRow_mf DA (Ne.symm hne))
            have HO := Lib.hid (HO.out.put DA HNb.out HNL.out (by decide) (by decide))
            have HNb := Lib.hid (HNb.out.setRow_m DA)
            clear hst
            refine hK.out _ _ ?_ (fun hHeld => ?_)
            · (try dsimp only)
              exact HS5.out _ HO.out
            clear hK K
            try simp only [Act.put, List.getElem_toArray, List.getElem_cons_succ, List.getElem_cons_zero, List.setIfInBounds_toArray, List.set_cons_zero, List.set_cons_succ]
            have hst := run_sstR de dn dg HRb.out rfl
            refine wpAnyH_ready (rs := [20]) (by kernel_rfl) (by simp) ?_
            refine AllReadyH.cons rfl (fun K hK => ?_) AllReadyH.nil
            go_simp
            have HNb := Lib.hid (HNb.out.setRow_mf #[.int .i64 de, .int .i64 dn, .int .i64 dg] hne)
            have HO := Lib.hid (HO.out.put #[.int .i64 de, .int .i64 dn, .int .i64 dg] HRb.out HRL.out (by decide) (by decide))
            have HRb := Lib.hid (HRb.out.setRow_m #[.int .i64 de, .int .i64 dn, .int .i64 dg])
            clear hst
            refine hK.out _ _ ?_ (fun hHeld => ?_)
            · (try dsimp only)
              exact HS5.out _ HO.out
            clear hK K
            try simp only [Act.put, List.getElem_toArray, List.getElem_cons_succ, List.getElem_cons_zero, List.setIfInBounds_toArray, List.set_cons_zero, List.set_cons_succ]
            refine wpAnyH_done (by kernel_rfl) ?_ _
            try simp only [Act.put, List.getElem_toArray, List.getElem_cons_succ, List.getElem_cons_zero, List.setIfInBounds_toArray, List.set_cons_zero, List.set_cons_succ]
            go_wp2_with fail
            go_meet
            exact ⟨_, _, rfl, rfl, HO.out, HNb.out, HRb.out, HNL.out, HRL.out⟩
          exact AllReadyH.nil
        refine AllReadyH.cons rfl (fun K hK => ?_) ?_
        · go_simp
          have HRL := Lib.hid HO.out.r.lt
          have HRb := Lib.hid (Blk.newAtM HO.out.bel 30 #[.int .i64 0, .int .i64 0, .int .i64 0])
          have HO := Lib.hid (HO.out.alloc (.cells #[.int .i64 0, .int .i64 0, .int .i64 0] 30))
          generalize World.alloc _ (.cells #[.int .i64 0, .int .i64 0, .int .i64 0] 30) = Wb at HO HRb  ⊢
          refine hK.out _ _ ?_ (fun hHeld => ?_)
          · (try dsimp only)
            exact HS5.out _ HO.out
          clear hK K
          try simp only [Act.put, List.getElem_toArray, List.getElem_cons_succ, List.getElem_cons_zero, List.setIfInBounds_toArray, List.set_cons_zero, List.set_cons_succ]
          refine wpAnyH_ready (rs := [17]) (by kernel_rfl) (by simp) ?_
          refine AllReadyH.cons rfl (fun K hK => ?_) ?_
          · go_simp
            have HNL := Lib.hid HO.out.r.lt
            have HNb := Lib.hid (Blk.newAtM HO.out.bel 45 Tryd.zeroCells45)
            have HO := Lib.hid (HO.out.alloc (.cells Tryd.zeroCells45 45))
            have HRb := Lib.hid (HRb.out.alloc (.cells Tryd.zeroCells45 45))
            generalize World.alloc _ (.cells Tryd.zeroCells45 45) = Wa at HO HNb HRb ⊢
            refine hK.out _ _ ?_ (fun hHeld => ?_)
            · (try dsimp only)
              exact HS5.out _ HO.out
            clear hK K
            try simp only [Act.put, List.getElem_toArray, List.getElem_cons_succ, List.getElem_cons_zero, List.setIfInBounds_toArray, List.set_cons_zero, List.set_cons_succ]
            have hst := HSN.out _ _ _ HNb.out zeroM_size
            refine wpAnyH_ready (rs := [19]) (by kernel_rfl) (by simp) ?_
            refine AllReadyH.cons rfl (fun K hK => ?_) AllReadyH.nil
            go_simp
            have hne := Blk.ne_ HNb.out HRb.out (by decide)
            have HRb := Lib.hid (HRb.out.setRow_mf DA (Ne.symm hne))
            have HO := Lib.hid (HO.out.put DA HNb.out HNL.out (by decide) (by decide))
            have HNb := Lib.hid (HNb.out.setRow_m DA)
            clear hst
            refine hK.out _ _ ?_ (fun hHeld => ?_)
            · (try dsimp only)
              exact HS5.out _ HO.out
            clear hK K
            try simp only [Act.put, List.getElem_toArray, List.getElem_cons_succ, List.getElem_cons_zero, List.setIfInBounds_toArray, List.set_cons_zero, List.set_cons_succ]
            have hst := run_sstR de dn dg HRb.out rfl
            refine wpAnyH_ready (rs := [20]) (by kernel_rfl) (by simp) ?_
            refine AllReadyH.cons rfl (fun K hK => ?_) AllReadyH.nil
            go_simp
            have HNb := Lib.hid (HNb.out.setRow_mf #[.int .i64 de, .int .i64 dn, .int .i64 dg] hne)
            have HO := Lib.hid (HO.out.put #[.int .i64 de, .int .i64 dn, .int .i64 dg] HRb.out HRL.out (by decide) (by decide))
            have HRb := Lib.hid (HRb.out.setRow_m #[.int .i64 de, .int .i64 dn, .int .i64 dg])
            clear hst
            refine hK.out _ _ ?_ (fun hHeld => ?_)
            · (try dsimp only)
              exact HS5.out _ HO.out
            clear hK K
            try simp only [Act.put, List.getElem_toArray, List.getElem_cons_succ, List.getElem_cons_zero, List.setIfInBounds_toArray, List.set_cons_zero, List.set_cons_succ]
            refine wpAnyH_done (by kernel_rfl) ?_ _
            try simp only [Act.put, List.getElem_toArray, List.getElem_cons_succ, List.getElem_cons_zero, List.setIfInBounds_toArray, List.set_cons_zero, List.set_cons_succ]
            go_wp2_with fail
            go_meet
            exact ⟨_, _, rfl, rfl, HO.out, HNb.out, HRb.out, HNL.out, HRL.out⟩
          exact AllReadyH.nil
        exact AllReadyH.nil
      refine AllReadyH.cons rfl (fun K hK => ?_) ?_
      · go_simp
        have HNL := Lib.hid HO.out.r.lt
        have HNb := Lib.hid (Blk.newAtM HO.out.bel 45 Tryd.zeroCells45)
        have HO := Lib.hid (HO.out.alloc (.cells Tryd.zeroCells45 45))
        generalize World.alloc _ (.cells Tryd.zeroCells45 45) = Wa at HO HNb  ⊢
        refine hK.out _ _ ?_ (fun hHeld => ?_)
        · (try dsimp only)
          exact HS5.out _ HO.out
        clear hK K
        try simp only [Act.put, List.getElem_toArray, List.getElem_cons_succ, List.getElem_cons_zero, List.setIfInBounds_toArray, List.set_cons_zero, List.set_cons_succ]
        refine wpAnyH_ready (rs := [13, 18]) (by kernel_rfl) (by simp) ?_
        refine AllReadyH.cons rfl (fun K hK => ?_) ?_
        · go_simp
          refine (HDO2.out _ (HRD.out.below HO.out.bel)).mono ?_; rintro e w' ⟨rfl, hb⟩; have HO := Lib.hid (HO.out.later hb); have HNb := Lib.hid (HNb.out.below hb HNb.out.lt); clear hb
          go_wp2_with fail
          refine hK.out _ _ ?_ (fun hHeld => ?_)
          · (try dsimp only)
            exact HS5.out _ HO.out
          clear hK K
          try simp only [Act.put, List.getElem_toArray, List.getElem_cons_succ, List.getElem_cons_zero, List.setIfInBounds_toArray, List.set_cons_zero, List.set_cons_succ]
          refine wpAnyH_take (i := 14) (v := ?_) rfl (by kernel_rfl) (by kernel_rfl) (by kernel_rfl) (fun _ _ _ h => h) (Or.inl ⟨by rfl, ?_⟩) (by assumption) ?_
          rotate_left
          · intro w hSw
            (try dsimp only at hSw)
            go_simp
            all_goals with_reducible rfl
          try simp only [Act.put, List.getElem_toArray, List.getElem_cons_succ, List.getElem_cons_zero, List.setIfInBounds_toArray, List.set_cons_zero, List.set_cons_succ]
          refine wpAnyH_take (i := 15) (v := ?_) rfl (by kernel_rfl) (by kernel_rfl) (by kernel_rfl) (fun _ _ _ h => h) (Or.inl ⟨by rfl, ?_⟩) (by assumption) ?_
          rotate_left
          · intro w hSw
            (try dsimp only at hSw)
            go_simp
            all_goals with_reducible rfl
          try simp only [Act.put, List.getElem_toArray, List.getElem_cons_succ, List.getElem_cons_zero, List.setIfInBounds_toArray, List.set_cons_zero, List.set_cons_succ]
          refine wpAnyH_take (i := 16) (v := ?_) rfl (by kernel_rfl) (by kernel_rfl) (by kernel_rfl) (fun _ _ _ h => h) (Or.inl ⟨by rfl, ?_⟩) (by assumption) ?_
          rotate_left
          · intro w hSw
            (try dsimp only at hSw)
            go_simp
            all_goals with_reducible rfl
          try simp only [Act.put, List.getElem_toArray, List.getElem_cons_succ, List.getElem_cons_zero, List.setIfInBounds_toArray, List.set_cons_zero, List.set_cons_succ]
          refine wpAnyH_ready (rs := [18]) (by kernel_rfl) (by simp) ?_
          refine AllReadyH.cons rfl (fun K hK => ?_) ?_
          · go_simp
            have HRL := Lib.hid HO.out.r.lt
            have HRb := Lib.hid (Blk.newAtM HO.out.bel 30 #[.int .i64 0, .int .i64 0, .int .i64 0])
            have HO := Lib.hid (HO.out.alloc (.cells #[.int .i64 0, .int .i64 0, .int .i64 0] 30))
            have HNb := Lib.hid (HNb.out.alloc (.cells #[.int .i64 0, .int .i64 0, .int .i64 0] 30))
            generalize World.alloc _ (.cells #[.int .i64 0, .int .i64 0, .int .i64 0] 30) = Wb at HO HRb HNb ⊢
            refine hK.out _ _ ?_ (fun hHeld => ?_)
            · (try dsimp only)
              exact HS5.out _ HO.out
            clear hK K
            try simp only [Act.put, List.getElem_toArray, List.getElem_cons_succ, List.getElem_cons_zero, List.setIfInBounds_toArray, List.set_cons_zero, List.set_cons_succ]
            have hst := HSN.out _ _ _ HNb.out zeroM_size
            refine wpAnyH_ready (rs := [19]) (by kernel_rfl) (by simp) ?_
            refine AllReadyH.cons rfl (fun K hK => ?_) AllReadyH.nil
            go_simp
            have hne := Blk.ne_ HNb.out HRb.out (by decide)
            have HRb := Lib.hid (HRb.out.setRow_mf DA (Ne.symm hne))
            have HO := Lib.hid (HO.out.put DA HNb.out HNL.out (by decide) (by decide))
            have HNb := Lib.hid (HNb.out.setRow_m DA)
            clear hst
            refine hK.out _ _ ?_ (fun hHeld => ?_)
            · (try dsimp only)
              exact HS5.out _ HO.out
            clear hK K
            try simp only [Act.put, List.getElem_toArray, List.getElem_cons_succ, List.getElem_cons_zero, List.setIfInBounds_toArray, List.set_cons_zero, List.set_cons_succ]
            have hst := run_sstR de dn dg HRb.out rfl
            refine wpAnyH_ready (rs := [20]) (by kernel_rfl) (by simp) ?_
            refine AllReadyH.cons rfl (fun K hK => ?_) AllReadyH.nil
            go_simp
            have HNb := Lib.hid (HNb.out.setRow_mf #[.int .i64 de, .int .i64 dn, .int .i64 dg] hne)
            have HO := Lib.hid (HO.out.put #[.int .i64 de, .int .i64 dn, .int .i64 dg] HRb.out HRL.out (by decide) (by decide))
            have HRb := Lib.hid (HRb.out.setRow_m #[.int .i64 de, .int .i64 dn, .int .i64 dg])
            clear hst
            refine hK.out _ _ ?_ (fun hHeld => ?_)
            · (try dsimp only)
              exact HS5.out _ HO.out
            clear hK K
            try simp only [Act.put, List.getElem_toArray, List.getElem_cons_succ, List.getElem_cons_zero, List.setIfInBounds_toArray, List.set_cons_zero, List.set_cons_succ]
            refine wpAnyH_done (by kernel_rfl) ?_ _
            try simp only [Act.put, List.getElem_toArray, List.getElem_cons_succ, List.getElem_cons_zero, List.setIfInBounds_toArray, List.set_cons_zero, List.set_cons_succ]
            go_wp2_with fail
            go_meet
            exact ⟨_, _, rfl, rfl, HO.out, HNb.out, HRb.out, HNL.out, HRL.out⟩
          exact AllReadyH.nil
        refine AllReadyH.cons rfl (fun K hK => ?_) ?_
        · go_simp
          have HRL := Lib.hid HO.out.r.lt
          have HRb := Lib.hid (Blk.newAtM HO.out.bel 30 #[.int .i64 0, .int .i64 0, .int .i64 0])
          have HO := Lib.hid (HO.out.alloc (.cells #[.int .i64 0, .int .i64 0, .int .i64 0] 30))
          have HNb := Lib.hid (HNb.out.alloc (.cells #[.int .i64 0, .int .i64 0, .int .i64 0] 30))
          generalize World.alloc _ (.cells #[.int .i64 0, .int .i64 0, .int .i64 0] 30) = Wb at HO HRb HNb ⊢
          refine hK.out _ _ ?_ (fun hHeld => ?_)
          · (try dsimp only)
            exact HS5.out _ HO.out
          clear hK K
          try simp only [Act.put, List.getElem_toArray, List.getElem_cons_succ, List.getElem_cons_zero, List.setIfInBounds_toArray, List.set_cons_zero, List.set_cons_succ]
          refine wpAnyH_ready (rs := [13]) (by kernel_rfl) (by simp) ?_
          refine AllReadyH.cons rfl (fun K hK => ?_) ?_
          · go_simp
            refine (HDO2.out _ (HRD.out.below HO.out.bel)).mono ?_; rintro e w' ⟨rfl, hb⟩; have HO := Lib.hid (HO.out.later hb); have HNb := Lib.hid (HNb.out.below hb HNb.out.lt); have HRb := Lib.hid (HRb.out.below hb HRb.out.lt); clear hb
            go_wp2_with fail
            refine hK.out _ _ ?_ (fun hHeld => ?_)
            · (try dsimp only)
              exact HS5.out _ HO.out
            clear hK K
            try simp only [Act.put, List.getElem_toArray, List.getElem_cons_succ, List.getElem_cons_zero, List.setIfInBounds_toArray, List.set_cons_zero, List.set_cons_succ]
            refine wpAnyH_take (i := 14) (v := ?_) rfl (by kernel_rfl) (by kernel_rfl) (by kernel_rfl) (fun _ _ _ h => h) (Or.inl ⟨by rfl, ?_⟩) (by assumption) ?_
            rotate_left
            · intro w hSw
              (try dsimp only at hSw)
              go_simp
              all_goals with_reducible rfl
            try simp only [Act.put, List.getElem_toArray, List.getElem_cons_succ, List.getElem_cons_zero, List.setIfInBounds_toArray, List.set_cons_zero, List.set_cons_succ]
            refine wpAnyH_take (i := 15) (v := ?_) rfl (by kernel_rfl) (by kernel_rfl) (by kernel_rfl) (fun _ _ _ h => h) (Or.inl ⟨by rfl, ?_⟩) (by assumption) ?_
            rotate_left
            · intro w hSw
              (try dsimp only at hSw)
              go_simp
              all_goals with_reducible rfl
            try simp only [Act.put, List.getElem_toArray, List.getElem_cons_succ, List.getElem_cons_zero, List.setIfInBounds_toArray, List.set_cons_zero, List.set_cons_succ]
            refine wpAnyH_take (i := 16) (v := ?_) rfl (by kernel_rfl) (by kernel_rfl) (by kernel_rfl) (fun _ _ _ h => h) (Or.inl ⟨by rfl, ?_⟩) (by assumption) ?_
            rotate_left
            · intro w hSw
              (try dsimp only at hSw)
              go_simp
              all_goals with_reducible rfl
            try simp only [Act.put, List.getElem_toArray, List.getElem_cons_succ, List.getElem_cons_zero, List.setIfInBounds_toArray, List.set_cons_zero, List.set_cons_succ]
            have hst := HSN.out _ _ _ HNb.out zeroM_size
            refine wpAnyH_ready (rs := [19]) (by kernel_rfl) (by simp) ?_
            refine AllReadyH.cons rfl (fun K hK => ?_) AllReadyH.nil
            go_simp
            have hne := Blk.ne_ HNb.out HRb.out (by decide)
            have HRb := Lib.hid (HRb.out.setRow_mf DA (Ne.symm hne))
            have HO := Lib.hid (HO.out.put DA HNb.out HNL.out (by decide) (by decide))
            have HNb := Lib.hid (HNb.out.setRow_m DA)
            clear hst
            refine hK.out _ _ ?_ (fun hHeld => ?_)
            · (try dsimp only)
              exact HS5.out _ HO.out
            clear hK K
            try simp only [Act.put, List.getElem_toArray, List.getElem_cons_succ, List.getElem_cons_zero, List.setIfInBounds_toArray, List.set_cons_zero, List.set_cons_succ]
            have hst := run_sstR de dn dg HRb.out rfl
            refine wpAnyH_ready (rs := [20]) (by kernel_rfl) (by simp) ?_
            refine AllReadyH.cons rfl (fun K hK => ?_) AllReadyH.nil
            go_simp
            have HNb := Lib.hid (HNb.out.setRow_mf #[.int .i64 de, .int .i64 dn, .int .i64 dg] hne)
            have HO := Lib.hid (HO.out.put #[.int .i64 de, .int .i64 dn, .int .i64 dg] HRb.out HRL.out (by decide) (by decide))
            have HRb := Lib.hid (HRb.out.setRow_m #[.int .i64 de, .int .i64 dn, .int .i64 dg])
            clear hst
            refine hK.out _ _ ?_ (fun hHeld => ?_)
            · (try dsimp only)
              exact HS5.out _ HO.out
            clear hK K
            try simp only [Act.put, List.getElem_toArray, List.getElem_cons_succ, List.getElem_cons_zero, List.setIfInBounds_toArray, List.set_cons_zero, List.set_cons_succ]
            refine wpAnyH_done (by kernel_rfl) ?_ _
            try simp only [Act.put, List.getElem_toArray, List.getElem_cons_succ, List.getElem_cons_zero, List.setIfInBounds_toArray, List.set_cons_zero, List.set_cons_succ]
            go_wp2_with fail
            go_meet
            exact ⟨_, _, rfl, rfl, HO.out, HNb.out, HRb.out, HNL.out, HRL.out⟩
          exact AllReadyH.nil
        exact AllReadyH.nil
      refine AllReadyH.cons rfl (fun K hK => ?_) ?_
      · go_simp
        have HRL := Lib.hid HO.out.r.lt
        have HRb := Lib.hid (Blk.newAtM HO.out.bel 30 #[.int .i64 0, .int .i64 0, .int .i64 0])
        have HO := Lib.hid (HO.out.alloc (.cells #[.int .i64 0, .int .i64 0, .int .i64 0] 30))
        generalize World.alloc _ (.cells #[.int .i64 0, .int .i64 0, .int .i64 0] 30) = Wb at HO HRb  ⊢
        refine hK.out _ _ ?_ (fun hHeld => ?_)
        · (try dsimp only)
          exact HS5.out _ HO.out
        clear hK K
        try simp only [Act.put, List.getElem_toArray, List.getElem_cons_succ, List.getElem_cons_zero, List.setIfInBounds_toArray, List.set_cons_zero, List.set_cons_succ]
        refine wpAnyH_ready (rs := [13, 17]) (by kernel_rfl) (by simp) ?_
        refine AllReadyH.cons rfl (fun K hK => ?_) ?_
        · go_simp
          refine (HDO2.out _ (HRD.out.below HO.out.bel)).mono ?_; rintro e w' ⟨rfl, hb⟩; have HO := Lib.hid (HO.out.later hb); have HRb := Lib.hid (HRb.out.below hb HRb.out.lt); clear hb
          go_wp2_with fail
          refine hK.out _ _ ?_ (fun hHeld => ?_)
          · (try dsimp only)
            exact HS5.out _ HO.out
          clear hK K
          try simp only [Act.put, List.getElem_toArray, List.getElem_cons_succ, List.getElem_cons_zero, List.setIfInBounds_toArray, List.set_cons_zero, List.set_cons_succ]
          refine wpAnyH_take (i := 14) (v := ?_) rfl (by kernel_rfl) (by kernel_rfl) (by kernel_rfl) (fun _ _ _ h => h) (Or.inl ⟨by rfl, ?_⟩) (by assumption) ?_
          rotate_left
          · intro w hSw
            (try dsimp only at hSw)
            go_simp
            all_goals with_reducible rfl
          try simp only [Act.put, List.getElem_toArray, List.getElem_cons_succ, List.getElem_cons_zero, List.setIfInBounds_toArray, List.set_cons_zero, List.set_cons_succ]
          refine wpAnyH_take (i := 15) (v := ?_) rfl (by kernel_rfl) (by kernel_rfl) (by kernel_rfl) (fun _ _ _ h => h) (Or.inl ⟨by rfl, ?_⟩) (by assumption) ?_
          rotate_left
          · intro w hSw
            (try dsimp only at hSw)
            go_simp
            all_goals with_reducible rfl
          try simp only [Act.put, List.getElem_toArray, List.getElem_cons_succ, List.getElem_cons_zero, List.setIfInBounds_toArray, List.set_cons_zero, List.set_cons_succ]
          refine wpAnyH_take (i := 16) (v := ?_) rfl (by kernel_rfl) (by kernel_rfl) (by kernel_rfl) (fun _ _ _ h => h) (Or.inl ⟨by rfl, ?_⟩) (by assumption) ?_
          rotate_left
          · intro w hSw
            (try dsimp only at hSw)
            go_simp
            all_goals with_reducible rfl
          try simp only [Act.put, List.getElem_toArray, List.getElem_cons_succ, List.getElem_cons_zero, List.setIfInBounds_toArray, List.set_cons_zero, List.set_cons_succ]
          refine wpAnyH_ready (rs := [17]) (by kernel_rfl) (by simp) ?_
          refine AllReadyH.cons rfl (fun K hK => ?_) ?_
          · go_simp
            have HNL := Lib.hid HO.out.r.lt
            have HNb := Lib.hid (Blk.newAtM HO.out.bel 45 Tryd.zeroCells45)
            have HO := Lib.hid (HO.out.alloc (.cells Tryd.zeroCells45 45))
            have HRb := Lib.hid (HRb.out.alloc (.cells Tryd.zeroCells45 45))
            generalize World.alloc _ (.cells Tryd.zeroCells45 45) = Wa at HO HNb HRb ⊢
            refine hK.out _ _ ?_ (fun hHeld => ?_)
            · (try dsimp only)
              exact HS5.out _ HO.out
            clear hK K
            try simp only [Act.put, List.getElem_toArray, List.getElem_cons_succ, List.getElem_cons_zero, List.setIfInBounds_toArray, List.set_cons_zero, List.set_cons_succ]
            have hst := HSN.out _ _ _ HNb.out zeroM_size
            refine wpAnyH_ready (rs := [19]) (by kernel_rfl) (by simp) ?_
            refine AllReadyH.cons rfl (fun K hK => ?_) AllReadyH.nil
            go_simp
            have hne := Blk.ne_ HNb.out HRb.out (by decide)
            have HRb := Lib.hid (HRb.out.setRow_mf DA (Ne.symm hne))
            have HO := Lib.hid (HO.out.put DA HNb.out HNL.out (by decide) (by decide))
            have HNb := Lib.hid (HNb.out.setRow_m DA)
            clear hst
            refine hK.out _ _ ?_ (fun hHeld => ?_)
            · (try dsimp only)
              exact HS5.out _ HO.out
            clear hK K
            try simp only [Act.put, List.getElem_toArray, List.getElem_cons_succ, List.getElem_cons_zero, List.setIfInBounds_toArray, List.set_cons_zero, List.set_cons_succ]
            have hst := run_sstR de dn dg HRb.out rfl
            refine wpAnyH_ready (rs := [20]) (by kernel_rfl) (by simp) ?_
            refine AllReadyH.cons rfl (fun K hK => ?_) AllReadyH.nil
            go_simp
            have HNb := Lib.hid (HNb.out.setRow_mf #[.int .i64 de, .int .i64 dn, .int .i64 dg] hne)
            have HO := Lib.hid (HO.out.put #[.int .i64 de, .int .i64 dn, .int .i64 dg] HRb.out HRL.out (by decide) (by decide))
            have HRb := Lib.hid (HRb.out.setRow_m #[.int .i64 de, .int .i64 dn, .int .i64 dg])
            clear hst
            refine hK.out _ _ ?_ (fun hHeld => ?_)
            · (try dsimp only)
              exact HS5.out _ HO.out
            clear hK K
            try simp only [Act.put, List.getElem_toArray, List.getElem_cons_succ, List.getElem_cons_zero, List.setIfInBounds_toArray, List.set_cons_zero, List.set_cons_succ]
            refine wpAnyH_done (by kernel_rfl) ?_ _
            try simp only [Act.put, List.getElem_toArray, List.getElem_cons_succ, List.getElem_cons_zero, List.setIfInBounds_toArray, List.set_cons_zero, List.set_cons_succ]
            go_wp2_with fail
            go_meet
            exact ⟨_, _, rfl, rfl, HO.out, HNb.out, HRb.out, HNL.out, HRL.out⟩
          exact AllReadyH.nil
        refine AllReadyH.cons rfl (fun K hK => ?_) ?_
        · go_simp
          have HNL := Lib.hid HO.out.r.lt
          have HNb := Lib.hid (Blk.newAtM HO.out.bel 45 Tryd.zeroCells45)
          have HO := Lib.hid (HO.out.alloc (.cells Tryd.zeroCells45 45))
          have HRb := Lib.hid (HRb.out.alloc (.cells Tryd.zeroCells45 45))
          generalize World.alloc _ (.cells Tryd.zeroCells45 45) = Wa at HO HNb HRb ⊢
          refine hK.out _ _ ?_ (fun hHeld => ?_)
          · (try dsimp only)
            exact HS5.out _ HO.out
          clear hK K
          try simp only [Act.put, List.getElem_toArray, List.getElem_cons_succ, List.getElem_cons_zero, List.setIfInBounds_toArray, List.set_cons_zero, List.set_cons_succ]
          refine wpAnyH_ready (rs := [13]) (by kernel_rfl) (by simp) ?_
          refine AllReadyH.cons rfl (fun K hK => ?_) ?_
          · go_simp
            refine (HDO2.out _ (HRD.out.below HO.out.bel)).mono ?_; rintro e w' ⟨rfl, hb⟩; have HO := Lib.hid (HO.out.later hb); have HNb := Lib.hid (HNb.out.below hb HNb.out.lt); have HRb := Lib.hid (HRb.out.below hb HRb.out.lt); clear hb
            go_wp2_with fail
            refine hK.out _ _ ?_ (fun hHeld => ?_)
            · (try dsimp only)
              exact HS5.out _ HO.out
            clear hK K
            try simp only [Act.put, List.getElem_toArray, List.getElem_cons_succ, List.getElem_cons_zero, List.setIfInBounds_toArray, List.set_cons_zero, List.set_cons_succ]
            refine wpAnyH_take (i := 14) (v := ?_) rfl (by kernel_rfl) (by kernel_rfl) (by kernel_rfl) (fun _ _ _ h => h) (Or.inl ⟨by rfl, ?_⟩) (by assumption) ?_
            rotate_left
            · intro w hSw
              (try dsimp only at hSw)
              go_simp
              all_goals with_reducible rfl
            try simp only [Act.put, List.getElem_toArray, List.getElem_cons_succ, List.getElem_cons_zero, List.setIfInBounds_toArray, List.set_cons_zero, List.set_cons_succ]
            refine wpAnyH_take (i := 15) (v := ?_) rfl (by kernel_rfl) (by kernel_rfl) (by kernel_rfl) (fun _ _ _ h => h) (Or.inl ⟨by rfl, ?_⟩) (by assumption) ?_
            rotate_left
            · intro w hSw
              (try dsimp only at hSw)
              go_simp
              all_goals with_reducible rfl
            try simp only [Act.put, List.getElem_toArray, List.getElem_cons_succ, List.getElem_cons_zero, List.setIfInBounds_toArray, List.set_cons_zero, List.set_cons_succ]
            refine wpAnyH_take (i := 16) (v := ?_) rfl (by kernel_rfl) (by kernel_rfl) (by kernel_rfl) (fun _ _ _ h => h) (Or.inl ⟨by rfl, ?_⟩) (by assumption) ?_
            rotate_left
            · intro w hSw
              (try dsimp only at hSw)
              go_simp
              all_goals with_reducible rfl
            try simp only [Act.put, List.getElem_toArray, List.getElem_cons_succ, List.getElem_cons_zero, List.setIfInBounds_toArray, List.set_cons_zero, List.set_cons_succ]
            have hst := HSN.out _ _ _ HNb.out zeroM_size
            refine wpAnyH_ready (rs := [19]) (by kernel_rfl) (by simp) ?_
            refine AllReadyH.cons rfl (fun K hK => ?_) AllReadyH.nil
            go_simp
            have hne := Blk.ne_ HNb.out HRb.out (by decide)
            have HRb := Lib.hid (HRb.out.setRow_mf DA (Ne.symm hne))
            have HO := Lib.hid (HO.out.put DA HNb.out HNL.out (by decide) (by decide))
            have HNb := Lib.hid (HNb.out.setRow_m DA)
            clear hst
            refine hK.out _ _ ?_ (fun hHeld => ?_)
            · (try dsimp only)
              exact HS5.out _ HO.out
            clear hK K
            try simp only [Act.put, List.getElem_toArray, List.getElem_cons_succ, List.getElem_cons_zero, List.setIfInBounds_toArray, List.set_cons_zero, List.set_cons_succ]
            have hst := run_sstR de dn dg HRb.out rfl
            refine wpAnyH_ready (rs := [20]) (by kernel_rfl) (by simp) ?_
            refine AllReadyH.cons rfl (fun K hK => ?_) AllReadyH.nil
            go_simp
            have HNb := Lib.hid (HNb.out.setRow_mf #[.int .i64 de, .int .i64 dn, .int .i64 dg] hne)
            have HO := Lib.hid (HO.out.put #[.int .i64 de, .int .i64 dn, .int .i64 dg] HRb.out HRL.out (by decide) (by decide))
            have HRb := Lib.hid (HRb.out.setRow_m #[.int .i64 de, .int .i64 dn, .int .i64 dg])
            clear hst
            refine hK.out _ _ ?_ (fun hHeld => ?_)
            · (try dsimp only)
              exact HS5.out _ HO.out
            clear hK K
            try simp only [Act.put, List.getElem_toArray, List.getElem_cons_succ, List.getElem_cons_zero, List.setIfInBounds_toArray, List.set_cons_zero, List.set_cons_succ]
            refine wpAnyH_done (by kernel_rfl) ?_ _
            try simp only [Act.put, List.getElem_toArray, List.getElem_cons_succ, List.getElem_cons_zero, List.setIfInBounds_toArray, List.set_cons_zero, List.set_cons_succ]
            go_wp2_with fail
            go_meet
            exact ⟨_, _, rfl, rfl, HO.out, HNb.out, HRb.out, HNL.out, HRL.out⟩
          exact AllReadyH.nil
        exact AllReadyH.nil
      exact AllReadyH.nil
    refine AllReadyH.cons rfl (fun K hK => ?_) ?_
    · go_simp
      have HNL := Lib.hid HO.out.r.lt
      have HNb := Lib.hid (Blk.newAtM HO.out.bel 45 Tryd.zeroCells45)
      have HO := Lib.hid (HO.out.alloc (.cells Tryd.zeroCells45 45))
      generalize World.alloc _ (.cells Tryd.zeroCells45 45) = Wa at HO HNb  ⊢
      refine hK.out _ _ ?_ (fun hHeld => ?_)
      · (try dsimp only)
        exact HS5.out _ HO.out
      clear hK K
      try simp only [Act.put, List.getElem_toArray, List.getElem_cons_succ, List.getElem_cons_zero, List.setIfInBounds_toArray, List.set_cons_zero, List.set_cons_succ]
      refine wpAnyH_ready (rs := [7, 18]) (by kernel_rfl) (by simp) ?_
      refine AllReadyH.cons rfl (fun K hK => ?_) ?_
      · go_simp
        refine (HFA.out _ HO.out.md (HRD.out.below HO.out.bel)).mono ?_; rintro e w' ⟨rfl, hb⟩; have HO := Lib.hid (HO.out.later hb); have HNb := Lib.hid (HNb.out.below hb HNb.out.lt); clear hb
        go_wp2_with fail
        refine hK.out _ _ ?_ (fun hHeld => ?_)
        · (try dsimp only)
          exact HS5.out _ HO.out
        clear hK K
        try simp only [Act.put, List.getElem_toArray, List.getElem_cons_succ, List.getElem_cons_zero, List.setIfInBounds_toArray, List.set_cons_zero, List.set_cons_succ]
        refine wpAnyH_ready (rs := [13, 18]) (by kernel_rfl) (by simp) ?_
        refine AllReadyH.cons rfl (fun K hK => ?_) ?_
        · go_simp
          refine (HDO2.out _ (HRD.out.below HO.out.bel)).mono ?_; rintro e w' ⟨rfl, hb⟩; have HO := Lib.hid (HO.out.later hb); have HNb := Lib.hid (HNb.out.below hb HNb.out.lt); clear hb
          go_wp2_with fail
          refine hK.out _ _ ?_ (fun hHeld => ?_)
          · (try dsimp only)
            exact HS5.out _ HO.out
          clear hK K
          try simp only [Act.put, List.getElem_toArray, List.getElem_cons_succ, List.getElem_cons_zero, List.setIfInBounds_toArray, List.set_cons_zero, List.set_cons_succ]
          refine wpAnyH_take (i := 14) (v := ?_) rfl (by kernel_rfl) (by kernel_rfl) (by kernel_rfl) (fun _ _ _ h => h) (Or.inl ⟨by rfl, ?_⟩) (by assumption) ?_
          rotate_left
          · intro w hSw
            (try dsimp only at hSw)
            go_simp
            all_goals with_reducible rfl
          try simp only [Act.put, List.getElem_toArray, List.getElem_cons_succ, List.getElem_cons_zero, List.setIfInBounds_toArray, List.set_cons_zero, List.set_cons_succ]
          refine wpAnyH_take (i := 15) (v := ?_) rfl (by kernel_rfl) (by kernel_rfl) (by kernel_rfl) (fun _ _ _ h => h) (Or.inl ⟨by rfl, ?_⟩) (by assumption) ?_
          rotate_left
          · intro w hSw
            (try dsimp only at hSw)
            go_simp
            all_goals with_reducible rfl
          try simp only [Act.put, List.getElem_toArray, List.getElem_cons_succ, List.getElem_cons_zero, List.setIfInBounds_toArray, List.set_cons_zero, List.set_cons_succ]
          refine wpAnyH_take (i := 16) (v := ?_) rfl (by kernel_rfl) (by kernel_rfl) (by kernel_rfl) (fun _ _ _ h => h) (Or.inl ⟨by rfl, ?_⟩) (by assumption) ?_
          rotate_left
          · intro w hSw
            (try dsimp only at hSw)
            go_simp
            all_goals with_reducible rfl
          try simp only [Act.put, List.getElem_toArray, List.getElem_cons_succ, List.getElem_cons_zero, List.setIfInBounds_toArray, List.set_cons_zero, List.set_cons_succ]
          refine wpAnyH_ready (rs := [18]) (by kernel_rfl) (by simp) ?_
          refine AllReadyH.cons rfl (fun K hK => ?_) ?_
          · go_simp
            have HRL := Lib.hid HO.out.r.lt
            have HRb := Lib.hid (Blk.newAtM HO.out.bel 30 #[.int .i64 0, .int .i64 0, .int .i64 0])
            have HO := Lib.hid (HO.out.alloc (.cells #[.int .i64 0, .int .i64 0, .int .i64 0] 30))
            have HNb := Lib.hid (HNb.out.alloc (.cells #[.int .i64 0, .int .i64 0, .int .i64 0] 30))
            generalize World.alloc _ (.cells #[.int .i64 0, .int .i64 0, .int .i64 0] 30) = Wb at HO HRb HNb ⊢
            refine hK.out _ _ ?_ (fun hHeld => ?_)
            · (try dsimp only)
              exact HS5.out _ HO.out
            clear hK K
            try simp only [Act.put, List.getElem_toArray, List.getElem_cons_succ, List.getElem_cons_zero, List.setIfInBounds_toArray, List.set_cons_zero, List.set_cons_succ]
            have hst := HSN.out _ _ _ HNb.out zeroM_size
            refine wpAnyH_ready (rs := [19]) (by kernel_rfl) (by simp) ?_
            refine AllReadyH.cons rfl (fun K hK => ?_) AllReadyH.nil
            go_simp
            have hne := Blk.ne_ HNb.out HRb.out (by decide)
            have HRb := Lib.hid (HRb.out.setRow_mf DA (Ne.symm hne))
            have HO := Lib.hid (HO.out.put DA HNb.out HNL.out (by decide) (by decide))
            have HNb := Lib.hid (HNb.out.setRow_m DA)
            clear hst
            refine hK.out _ _ ?_ (fun hHeld => ?_)
            · (try dsimp only)
              exact HS5.out _ HO.out
            clear hK K
            try simp only [Act.put, List.getElem_toArray, List.getElem_cons_succ, List.getElem_cons_zero, List.setIfInBounds_toArray, List.set_cons_zero, List.set_cons_succ]
            have hst := run_sstR de dn dg HRb.out rfl
            refine wpAnyH_ready (rs := [20]) (by kernel_rfl) (by simp) ?_
            refine AllReadyH.cons rfl (fun K hK => ?_) AllReadyH.nil
            go_simp
            have HNb := Lib.hid (HNb.out.setRow_mf #[.int .i64 de, .int .i64 dn, .int .i64 dg] hne)
            have HO := Lib.hid (HO.out.put #[.int .i64 de, .int .i64 dn, .int .i64 dg] HRb.out HRL.out (by decide) (by decide))
            have HRb := Lib.hid (HRb.out.setRow_m #[.int .i64 de, .int .i64 dn, .int .i64 dg])
            clear hst
            refine hK.out _ _ ?_ (fun hHeld => ?_)
            · (try dsimp only)
              exact HS5.out _ HO.out
            clear hK K
            try simp only [Act.put, List.getElem_toArray, List.getElem_cons_succ, List.getElem_cons_zero, List.setIfInBounds_toArray, List.set_cons_zero, List.set_cons_succ]
            refine wpAnyH_done (by kernel_rfl) ?_ _
            try simp only [Act.put, List.getElem_toArray, List.getElem_cons_succ, List.getElem_cons_zero, List.setIfInBounds_toArray, List.set_cons_zero, List.set_cons_succ]
            go_wp2_with fail
            go_meet
            exact ⟨_, _, rfl, rfl, HO.out, HNb.out, HRb.out, HNL.out, HRL.out⟩
          exact AllReadyH.nil
        refine AllReadyH.cons rfl (fun K hK => ?_) ?_
        · go_simp
          have HRL := Lib.hid HO.out.r.lt
          have HRb := Lib.hid (Blk.newAtM HO.out.bel 30 #[.int .i64 0, .int .i64 0, .int .i64 0])
          have HO := Lib.hid (HO.out.alloc (.cells #[.int .i64 0, .int .i64 0, .int .i64 0] 30))
          have HNb := Lib.hid (HNb.out.alloc (.cells #[.int .i64 0, .int .i64 0, .int .i64 0] 30))
          generalize World.alloc _ (.cells #[.int .i64 0, .int .i64 0, .int .i64 0] 30) = Wb at HO HRb HNb ⊢
          refine hK.out _ _ ?_ (fun hHeld => ?_)
          · (try dsimp only)
            exact HS5.out _ HO.out
          clear hK K
          try simp only [Act.put, List.getElem_toArray, List.getElem_cons_succ, List.getElem_cons_zero, List.setIfInBounds_toArray, List.set_cons_zero, List.set_cons_succ]
          refine wpAnyH_ready (rs := [13]) (by kernel_rfl) (by simp) ?_
          refine AllReadyH.cons rfl (fun K hK => ?_) ?_
          · go_simp
            refine (HDO2.out _ (HRD.out.below HO.out.bel)).mono ?_; rintro e w' ⟨rfl, hb⟩; have HO := Lib.hid (HO.out.later hb); have HNb := Lib.hid (HNb.out.below hb HNb.out.lt); have HRb := Lib.hid (HRb.out.below hb HRb.out.lt); clear hb
            go_wp2_with fail
            refine hK.out _ _ ?_ (fun hHeld => ?_)
            · (try dsimp only)
              exact HS5.out _ HO.out
            clear hK K
            try simp only [Act.put, List.getElem_toArray, List.getElem_cons_succ, List.getElem_cons_zero, List.setIfInBounds_toArray, List.set_cons_zero, List.set_cons_succ]
            refine wpAnyH_take (i := 14) (v := ?_) rfl (by kernel_rfl) (by kernel_rfl) (by kernel_rfl) (fun _ _ _ h => h) (Or.inl ⟨by rfl, ?_⟩) (by assumption) ?_
            rotate_left
            · intro w hSw
              (try dsimp only at hSw)
              go_simp
              all_goals with_reducible rfl
            try simp only [Act.put, List.getElem_toArray, List.getElem_cons_succ, List.getElem_cons_zero, List.setIfInBounds_toArray, List.set_cons_zero, List.set_cons_succ]
            refine wpAnyH_take (i := 15) (v := ?_) rfl (by kernel_rfl) (by kernel_rfl) (by kernel_rfl) (fun _ _ _ h => h) (Or.inl ⟨by rfl, ?_⟩) (by assumption) ?_
            rotate_left
            · intro w hSw
              (try dsimp only at hSw)
              go_simp
              all_goals with_reducible rfl
            try simp only [Act.put, List.getElem_toArray, List.getElem_cons_succ, List.getElem_cons_zero, List.setIfInBounds_toArray, List.set_cons_zero, List.set_cons_succ]
            refine wpAnyH_take (i := 16) (v := ?_) rfl (by kernel_rfl) (by kernel_rfl) (by kernel_rfl) (fun _ _ _ h => h) (Or.inl ⟨by rfl, ?_⟩) (by assumption) ?_
            rotate_left
            · intro w hSw
              (try dsimp only at hSw)
              go_simp
              all_goals with_reducible rfl
            try simp only [Act.put, List.getElem_toArray, List.getElem_cons_succ, List.getElem_cons_zero, List.setIfInBounds_toArray, List.set_cons_zero, List.set_cons_succ]
            have hst := HSN.out _ _ _ HNb.out zeroM_size
            refine wpAnyH_ready (rs := [19]) (by kernel_rfl) (by simp) ?_
            refine AllReadyH.cons rfl (fun K hK => ?_) AllReadyH.nil
            go_simp
            have hne := Blk.ne_ HNb.out HRb.out (by decide)
            have HRb := Lib.hid (HRb.out.setRow_mf DA (Ne.symm hne))
            have HO := Lib.hid (HO.out.put DA HNb.out HNL.out (by decide) (by decide))
            have HNb := Lib.hid (HNb.out.setRow_m DA)
            clear hst
            refine hK.out _ _ ?_ (fun hHeld => ?_)
            · (try dsimp only)
              exact HS5.out _ HO.out
            clear hK K
            try simp only [Act.put, List.getElem_toArray, List.getElem_cons_succ, List.getElem_cons_zero, List.setIfInBounds_toArray, List.set_cons_zero, List.set_cons_succ]
            have hst := run_sstR de dn dg HRb.out rfl
            refine wpAnyH_ready (rs := [20]) (by kernel_rfl) (by simp) ?_
            refine AllReadyH.cons rfl (fun K hK => ?_) AllReadyH.nil
            go_simp
            have HNb := Lib.hid (HNb.out.setRow_mf #[.int .i64 de, .int .i64 dn, .int .i64 dg] hne)
            have HO := Lib.hid (HO.out.put #[.int .i64 de, .int .i64 dn, .int .i64 dg] HRb.out HRL.out (by decide) (by decide))
            have HRb := Lib.hid (HRb.out.setRow_m #[.int .i64 de, .int .i64 dn, .int .i64 dg])
            clear hst
            refine hK.out _ _ ?_ (fun hHeld => ?_)
            · (try dsimp only)
              exact HS5.out _ HO.out
            clear hK K
            try simp only [Act.put, List.getElem_toArray, List.getElem_cons_succ, List.getElem_cons_zero, List.setIfInBounds_toArray, List.set_cons_zero, List.set_cons_succ]
            refine wpAnyH_done (by kernel_rfl) ?_ _
            try simp only [Act.put, List.getElem_toArray, List.getElem_cons_succ, List.getElem_cons_zero, List.setIfInBounds_toArray, List.set_cons_zero, List.set_cons_succ]
            go_wp2_with fail
            go_meet
            exact ⟨_, _, rfl, rfl, HO.out, HNb.out, HRb.out, HNL.out, HRL.out⟩
          exact AllReadyH.nil
        exact AllReadyH.nil
      refine AllReadyH.cons rfl (fun K hK => ?_) ?_
      · go_simp
        have HRL := Lib.hid HO.out.r.lt
        have HRb := Lib.hid (Blk.newAtM HO.out.bel 30 #[.int .i64 0, .int .i64 0, .int .i64 0])
        have HO := Lib.hid (HO.out.alloc (.cells #[.int .i64 0, .int .i64 0, .int .i64 0] 30))
        have HNb := Lib.hid (HNb.out.alloc (.cells #[.int .i64 0, .int .i64 0, .int .i64 0] 30))
        generalize World.alloc _ (.cells #[.int .i64 0, .int .i64 0, .int .i64 0] 30) = Wb at HO HRb HNb ⊢
        refine hK.out _ _ ?_ (fun hHeld => ?_)
        · (try dsimp only)
          exact HS5.out _ HO.out
        clear hK K
        try simp only [Act.put, List.getElem_toArray, List.getElem_cons_succ, List.getElem_cons_zero, List.setIfInBounds_toArray, List.set_cons_zero, List.set_cons_succ]
        refine wpAnyH_ready (rs := [7]) (by kernel_rfl) (by simp) ?_
        refine AllReadyH.cons rfl (fun K hK => ?_) ?_
        · go_simp
          refine (HFA.out _ HO.out.md (HRD.out.below HO.out.bel)).mono ?_; rintro e w' ⟨rfl, hb⟩; have HO := Lib.hid (HO.out.later hb); have HNb := Lib.hid (HNb.out.below hb HNb.out.lt); have HRb := Lib.hid (HRb.out.below hb HRb.out.lt); clear hb
          go_wp2_with fail
          refine hK.out _ _ ?_ (fun hHeld => ?_)
          · (try dsimp only)
            exact HS5.out _ HO.out
          clear hK K
          try simp only [Act.put, List.getElem_toArray, List.getElem_cons_succ, List.getElem_cons_zero, List.setIfInBounds_toArray, List.set_cons_zero, List.set_cons_succ]
          refine wpAnyH_ready (rs := [13]) (by kernel_rfl) (by simp) ?_
          refine AllReadyH.cons rfl (fun K hK => ?_) ?_
          · go_simp
            refine (HDO2.out _ (HRD.out.below HO.out.bel)).mono ?_; rintro e w' ⟨rfl, hb⟩; have HO := Lib.hid (HO.out.later hb); have HNb := Lib.hid (HNb.out.below hb HNb.out.lt); have HRb := Lib.hid (HRb.out.below hb HRb.out.lt); clear hb
            go_wp2_with fail
            refine hK.out _ _ ?_ (fun hHeld => ?_)
            · (try dsimp only)
              exact HS5.out _ HO.out
            clear hK K
            try simp only [Act.put, List.getElem_toArray, List.getElem_cons_succ, List.getElem_cons_zero, List.setIfInBounds_toArray, List.set_cons_zero, List.set_cons_succ]
            refine wpAnyH_take (i := 14) (v := ?_) rfl (by kernel_rfl) (by kernel_rfl) (by kernel_rfl) (fun _ _ _ h => h) (Or.inl ⟨by rfl, ?_⟩) (by assumption) ?_
            rotate_left
            · intro w hSw
              (try dsimp only at hSw)
              go_simp
              all_goals with_reducible rfl
            try simp only [Act.put, List.getElem_toArray, List.getElem_cons_succ, List.getElem_cons_zero, List.setIfInBounds_toArray, List.set_cons_zero, List.set_cons_succ]
            refine wpAnyH_take (i := 15) (v := ?_) rfl (by kernel_rfl) (by kernel_rfl) (by kernel_rfl) (fun _ _ _ h => h) (Or.inl ⟨by rfl, ?_⟩) (by assumption) ?_
            rotate_left
            · intro w hSw
              (try dsimp only at hSw)
              go_simp
              all_goals with_reducible rfl
            try simp only [Act.put, List.getElem_toArray, List.getElem_cons_succ, List.getElem_cons_zero, List.setIfInBounds_toArray, List.set_cons_zero, List.set_cons_succ]
            refine wpAnyH_take (i := 16) (v := ?_) rfl (by kernel_rfl) (by kernel_rfl) (by kernel_rfl) (fun _ _ _ h => h) (Or.inl ⟨by rfl, ?_⟩) (by assumption) ?_
            rotate_left
            · intro w hSw
              (try dsimp only at hSw)
              go_simp
              all_goals with_reducible rfl
            try simp only [Act.put, List.getElem_toArray, List.getElem_cons_succ, List.getElem_cons_zero, List.setIfInBounds_toArray, List.set_cons_zero, List.set_cons_succ]
            have hst := HSN.out _ _ _ HNb.out zeroM_size
            refine wpAnyH_ready (rs := [19]) (by kernel_rfl) (by simp) ?_
            refine AllReadyH.cons rfl (fun K hK => ?_) AllReadyH.nil
            go_simp
            have hne := Blk.ne_ HNb.out HRb.out (by decide)
            have HRb := Lib.hid (HRb.out.setRow_mf DA (Ne.symm hne))
            have HO := Lib.hid (HO.out.put DA HNb.out HNL.out (by decide) (by decide))
            have HNb := Lib.hid (HNb.out.setRow_m DA)
            clear hst
            refine hK.out _ _ ?_ (fun hHeld => ?_)
            · (try dsimp only)
              exact HS5.out _ HO.out
            clear hK K
            try simp only [Act.put, List.getElem_toArray, List.getElem_cons_succ, List.getElem_cons_zero, List.setIfInBounds_toArray, List.set_cons_zero, List.set_cons_succ]
            have hst := run_sstR de dn dg HRb.out rfl
            refine wpAnyH_ready (rs := [20]) (by kernel_rfl) (by simp) ?_
            refine AllReadyH.cons rfl (fun K hK => ?_) AllReadyH.nil
            go_simp
            have HNb := Lib.hid (HNb.out.setRow_mf #[.int .i64 de, .int .i64 dn, .int .i64 dg] hne)
            have HO := Lib.hid (HO.out.put #[.int .i64 de, .int .i64 dn, .int .i64 dg] HRb.out HRL.out (by decide) (by decide))
            have HRb := Lib.hid (HRb.out.setRow_m #[.int .i64 de, .int .i64 dn, .int .i64 dg])
            clear hst
            refine hK.out _ _ ?_ (fun hHeld => ?_)
            · (try dsimp only)
              exact HS5.out _ HO.out
            clear hK K
            try simp only [Act.put, List.getElem_toArray, List.getElem_cons_succ, List.getElem_cons_zero, List.setIfInBounds_toArray, List.set_cons_zero, List.set_cons_succ]
            refine wpAnyH_done (by kernel_rfl) ?_ _
            try simp only [Act.put, List.getElem_toArray, List.getElem_cons_succ, List.getElem_cons_zero, List.setIfInBounds_toArray, List.set_cons_zero, List.set_cons_succ]
            go_wp2_with fail
            go_meet
            exact ⟨_, _, rfl, rfl, HO.out, HNb.out, HRb.out, HNL.out, HRL.out⟩
          exact AllReadyH.nil
        exact AllReadyH.nil
      exact AllReadyH.nil
    refine AllReadyH.cons rfl (fun K hK => ?_) ?_
    · go_simp
      have HRL := Lib.hid HO.out.r.lt
      have HRb := Lib.hid (Blk.newAtM HO.out.bel 30 #[.int .i64 0, .int .i64 0, .int .i64 0])
      have HO := Lib.hid (HO.out.alloc (.cells #[.int .i64 0, .int .i64 0, .int .i64 0] 30))
      generalize World.alloc _ (.cells #[.int .i64 0, .int .i64 0, .int .i64 0] 30) = Wb at HO HRb  ⊢
      refine hK.out _ _ ?_ (fun hHeld => ?_)
      · (try dsimp only)
        exact HS5.out _ HO.out
      clear hK K
      try simp only [Act.put, List.getElem_toArray, List.getElem_cons_succ, List.getElem_cons_zero, List.setIfInBounds_toArray, List.set_cons_zero, List.set_cons_succ]
      refine wpAnyH_ready (rs := [7, 17]) (by kernel_rfl) (by simp) ?_
      refine AllReadyH.cons rfl (fun K hK => ?_) ?_
      · go_simp
        refine (HFA.out _ HO.out.md (HRD.out.below HO.out.bel)).mono ?_; rintro e w' ⟨rfl, hb⟩; have HO := Lib.hid (HO.out.later hb); have HRb := Lib.hid (HRb.out.below hb HRb.out.lt); clear hb
        go_wp2_with fail
        refine hK.out _ _ ?_ (fun hHeld => ?_)
        · (try dsimp only)
          exact HS5.out _ HO.out
        clear hK K
        try simp only [Act.put, List.getElem_toArray, List.getElem_cons_succ, List.getElem_cons_zero, List.setIfInBounds_toArray, List.set_cons_zero, List.set_cons_succ]
        refine wpAnyH_ready (rs := [13, 17]) (by kernel_rfl) (by simp) ?_
        refine AllReadyH.cons rfl (fun K hK => ?_) ?_
        · go_simp
          refine (HDO2.out _ (HRD.out.below HO.out.bel)).mono ?_; rintro e w' ⟨rfl, hb⟩; have HO := Lib.hid (HO.out.later hb); have HRb := Lib.hid (HRb.out.below hb HRb.out.lt); clear hb
          go_wp2_with fail
          refine hK.out _ _ ?_ (fun hHeld => ?_)
          · (try dsimp only)
            exact HS5.out _ HO.out
          clear hK K
          try simp only [Act.put, List.getElem_toArray, List.getElem_cons_succ, List.getElem_cons_zero, List.setIfInBounds_toArray, List.set_cons_zero, List.set_cons_succ]
          refine wpAnyH_take (i := 14) (v := ?_) rfl (by kernel_rfl) (by kernel_rfl) (by kernel_rfl) (fun _ _ _ h => h) (Or.inl ⟨by rfl, ?_⟩) (by assumption) ?_
          rotate_left
          · intro w hSw
            (try dsimp only at hSw)
            go_simp
            all_goals with_reducible rfl
          try simp only [Act.put, List.getElem_toArray, List.getElem_cons_succ, List.getElem_cons_zero, List.setIfInBounds_toArray, List.set_cons_zero, List.set_cons_succ]
          refine wpAnyH_take (i := 15) (v := ?_) rfl (by kernel_rfl) (by kernel_rfl) (by kernel_rfl) (fun _ _ _ h => h) (Or.inl ⟨by rfl, ?_⟩) (by assumption) ?_
          rotate_left
          · intro w hSw
            (try dsimp only at hSw)
            go_simp
            all_goals with_reducible rfl
          try simp only [Act.put, List.getElem_toArray, List.getElem_cons_succ, List.getElem_cons_zero, List.setIfInBounds_toArray, List.set_cons_zero, List.set_cons_succ]
          refine wpAnyH_take (i := 16) (v := ?_) rfl (by kernel_rfl) (by kernel_rfl) (by kernel_rfl) (fun _ _ _ h => h) (Or.inl ⟨by rfl, ?_⟩) (by assumption) ?_
          rotate_left
          · intro w hSw
            (try dsimp only at hSw)
            go_simp
            all_goals with_reducible rfl
          try simp only [Act.put, List.getElem_toArray, List.getElem_cons_succ, List.getElem_cons_zero, List.setIfInBounds_toArray, List.set_cons_zero, List.set_cons_succ]
          refine wpAnyH_ready (rs := [17]) (by kernel_rfl) (by simp) ?_
          refine AllReadyH.cons rfl (fun K hK => ?_) ?_
          · go_simp
            have HNL := Lib.hid HO.out.r.lt
            have HNb := Lib.hid (Blk.newAtM HO.out.bel 45 Tryd.zeroCells45)
            have HO := Lib.hid (HO.out.alloc (.cells Tryd.zeroCells45 45))
            have HRb := Lib.hid (HRb.out.alloc (.cells Tryd.zeroCells45 45))
            generalize World.alloc _ (.cells Tryd.zeroCells45 45) = Wa at HO HNb HRb ⊢
            refine hK.out _ _ ?_ (fun hHeld => ?_)
            · (try dsimp only)
              exact HS5.out _ HO.out
            clear hK K
            try simp only [Act.put, List.getElem_toArray, List.getElem_cons_succ, List.getElem_cons_zero, List.setIfInBounds_toArray, List.set_cons_zero, List.set_cons_succ]
            have hst := HSN.out _ _ _ HNb.out zeroM_size
            refine wpAnyH_ready (rs := [19]) (by kernel_rfl) (by simp) ?_
            refine AllReadyH.cons rfl (fun K hK => ?_) AllReadyH.nil
            go_simp
            have hne := Blk.ne_ HNb.out HRb.out (by decide)
            have HRb := Lib.hid (HRb.out.setRow_mf DA (Ne.symm hne))
            have HO := Lib.hid (HO.out.put DA HNb.out HNL.out (by decide) (by decide))
            have HNb := Lib.hid (HNb.out.setRow_m DA)
            clear hst
            refine hK.out _ _ ?_ (fun hHeld => ?_)
            · (try dsimp only)
              exact HS5.out _ HO.out
            clear hK K
            try simp only [Act.put, List.getElem_toArray, List.getElem_cons_succ, List.getElem_cons_zero, List.setIfInBounds_toArray, List.set_cons_zero, List.set_cons_succ]
            have hst := run_sstR de dn dg HRb.out rfl
            refine wpAnyH_ready (rs := [20]) (by kernel_rfl) (by simp) ?_
            refine AllReadyH.cons rfl (fun K hK => ?_) AllReadyH.nil
            go_simp
            have HNb := Lib.hid (HNb.out.setRow_mf #[.int .i64 de, .int .i64 dn, .int .i64 dg] hne)
            have HO := Lib.hid (HO.out.put #[.int .i64 de, .int .i64 dn, .int .i64 dg] HRb.out HRL.out (by decide) (by decide))
            have HRb := Lib.hid (HRb.out.setRow_m #[.int .i64 de, .int .i64 dn, .int .i64 dg])
            clear hst
            refine hK.out _ _ ?_ (fun hHeld => ?_)
            · (try dsimp only)
              exact HS5.out _ HO.out
            clear hK K
            try simp only [Act.put, List.getElem_toArray, List.getElem_cons_succ, List.getElem_cons_zero, List.setIfInBounds_toArray, List.set_cons_zero, List.set_cons_succ]
            refine wpAnyH_done (by kernel_rfl) ?_ _
            try simp only [Act.put, List.getElem_toArray, List.getElem_cons_succ, List.getElem_cons_zero, List.setIfInBounds_toArray, List.set_cons_zero, List.set_cons_succ]
            go_wp2_with fail
            go_meet
            exact ⟨_, _, rfl, rfl, HO.out, HNb.out, HRb.out, HNL.out, HRL.out⟩
          exact AllReadyH.nil
        refine AllReadyH.cons rfl (fun K hK => ?_) ?_
        · go_simp
          have HNL := Lib.hid HO.out.r.lt
          have HNb := Lib.hid (Blk.newAtM HO.out.bel 45 Tryd.zeroCells45)
          have HO := Lib.hid (HO.out.alloc (.cells Tryd.zeroCells45 45))
          have HRb := Lib.hid (HRb.out.alloc (.cells Tryd.zeroCells45 45))
          generalize World.alloc _ (.cells Tryd.zeroCells45 45) = Wa at HO HNb HRb ⊢
          refine hK.out _ _ ?_ (fun hHeld => ?_)
          · (try dsimp only)
            exact HS5.out _ HO.out
          clear hK K
          try simp only [Act.put, List.getElem_toArray, List.getElem_cons_succ, List.getElem_cons_zero, List.setIfInBounds_toArray, List.set_cons_zero, List.set_cons_succ]
          refine wpAnyH_ready (rs := [13]) (by kernel_rfl) (by simp) ?_
          refine AllReadyH.cons rfl (fun K hK => ?_) ?_
          · go_simp
            refine (HDO2.out _ (HRD.out.below HO.out.bel)).mono ?_; rintro e w' ⟨rfl, hb⟩; have HO := Lib.hid (HO.out.later hb); have HNb := Lib.hid (HNb.out.below hb HNb.out.lt); have HRb := Lib.hid (HRb.out.below hb HRb.out.lt); clear hb
            go_wp2_with fail
            refine hK.out _ _ ?_ (fun hHeld => ?_)
            · (try dsimp only)
              exact HS5.out _ HO.out
            clear hK K
            try simp only [Act.put, List.getElem_toArray, List.getElem_cons_succ, List.getElem_cons_zero, List.setIfInBounds_toArray, List.set_cons_zero, List.set_cons_succ]
            refine wpAnyH_take (i := 14) (v := ?_) rfl (by kernel_rfl) (by kernel_rfl) (by kernel_rfl) (fun _ _ _ h => h) (Or.inl ⟨by rfl, ?_⟩) (by assumption) ?_
            rotate_left
            · intro w hSw
              (try dsimp only at hSw)
              go_simp
              all_goals with_reducible rfl
            try simp only [Act.put, List.getElem_toArray, List.getElem_cons_succ, List.getElem_cons_zero, List.setIfInBounds_toArray, List.set_cons_zero, List.set_cons_succ]
            refine wpAnyH_take (i := 15) (v := ?_) rfl (by kernel_rfl) (by kernel_rfl) (by kernel_rfl) (fun _ _ _ h => h) (Or.inl ⟨by rfl, ?_⟩) (by assumption) ?_
            rotate_left
            · intro w hSw
              (try dsimp only at hSw)
              go_simp
              all_goals with_reducible rfl
            try simp only [Act.put, List.getElem_toArray, List.getElem_cons_succ, List.getElem_cons_zero, List.setIfInBounds_toArray, List.set_cons_zero, List.set_cons_succ]
            refine wpAnyH_take (i := 16) (v := ?_) rfl (by kernel_rfl) (by kernel_rfl) (by kernel_rfl) (fun _ _ _ h => h) (Or.inl ⟨by rfl, ?_⟩) (by assumption) ?_
            rotate_left
            · intro w hSw
              (try dsimp only at hSw)
              go_simp
              all_goals with_reducible rfl
            try simp only [Act.put, List.getElem_toArray, List.getElem_cons_succ, List.getElem_cons_zero, List.setIfInBounds_toArray, List.set_cons_zero, List.set_cons_succ]
            have hst := HSN.out _ _ _ HNb.out zeroM_size
            refine wpAnyH_ready (rs := [19]) (by kernel_rfl) (by simp) ?_
            refine AllReadyH.cons rfl (fun K hK => ?_) AllReadyH.nil
            go_simp
            have hne := Blk.ne_ HNb.out HRb.out (by decide)
            have HRb := Lib.hid (HRb.out.setRow_mf DA (Ne.symm hne))
            have HO := Lib.hid (HO.out.put DA HNb.out HNL.out (by decide) (by decide))
            have HNb := Lib.hid (HNb.out.setRow_m DA)
            clear hst
            refine hK.out _ _ ?_ (fun hHeld => ?_)
            · (try dsimp only)
              exact HS5.out _ HO.out
            clear hK K
            try simp only [Act.put, List.getElem_toArray, List.getElem_cons_succ, List.getElem_cons_zero, List.setIfInBounds_toArray, List.set_cons_zero, List.set_cons_succ]
            have hst := run_sstR de dn dg HRb.out rfl
            refine wpAnyH_ready (rs := [20]) (by kernel_rfl) (by simp) ?_
            refine AllReadyH.cons rfl (fun K hK => ?_) AllReadyH.nil
            go_simp
            have HNb := Lib.hid (HNb.out.setRow_mf #[.int .i64 de, .int .i64 dn, .int .i64 dg] hne)
            have HO := Lib.hid (HO.out.put #[.int .i64 de, .int .i64 dn, .int .i64 dg] HRb.out HRL.out (by decide) (by decide))
            have HRb := Lib.hid (HRb.out.setRow_m #[.int .i64 de, .int .i64 dn, .int .i64 dg])
            clear hst
            refine hK.out _ _ ?_ (fun hHeld => ?_)
            · (try dsimp only)
              exact HS5.out _ HO.out
            clear hK K
            try simp only [Act.put, List.getElem_toArray, List.getElem_cons_succ, List.getElem_cons_zero, List.setIfInBounds_toArray, List.set_cons_zero, List.set_cons_succ]
            refine wpAnyH_done (by kernel_rfl) ?_ _
            try simp only [Act.put, List.getElem_toArray, List.getElem_cons_succ, List.getElem_cons_zero, List.setIfInBounds_toArray, List.set_cons_zero, List.set_cons_succ]
            go_wp2_with fail
            go_meet
            exact ⟨_, _, rfl, rfl, HO.out, HNb.out, HRb.out, HNL.out, HRL.out⟩
          exact AllReadyH.nil
        exact AllReadyH.nil
      refine AllReadyH.cons rfl (fun K hK => ?_) ?_
      · go_simp
        have HNL := Lib.hid HO.out.r.lt
        have HNb := Lib.hid (Blk.newAtM HO.out.bel 45 Tryd.zeroCells45)
        have HO := Lib.hid (HO.out.alloc (.cells Tryd.zeroCells45 45))
        have HRb := Lib.hid (HRb.out.alloc (.cells Tryd.zeroCells45 45))
        generalize World.alloc _ (.cells Tryd.zeroCells45 45) = Wa at HO HNb HRb ⊢
        refine hK.out _ _ ?_ (fun hHeld => ?_)
        · (try dsimp only)
          exact HS5.out _ HO.out
        clear hK K
        try simp only [Act.put, List.getElem_toArray, List.getElem_cons_succ, List.getElem_cons_zero, List.setIfInBounds_toArray, List.set_cons_zero, List.set_cons_succ]
        refine wpAnyH_ready (rs := [7]) (by kernel_rfl) (by simp) ?_
        refine AllReadyH.cons rfl (fun K hK => ?_) ?_
        · go_simp
          refine (HFA.out _ HO.out.md (HRD.out.below HO.out.bel)).mono ?_; rintro e w' ⟨rfl, hb⟩; have HO := Lib.hid (HO.out.later hb); have HNb := Lib.hid (HNb.out.below hb HNb.out.lt); have HRb := Lib.hid (HRb.out.below hb HRb.out.lt); clear hb
          go_wp2_with fail
          refine hK.out _ _ ?_ (fun hHeld => ?_)
          · (try dsimp only)
            exact HS5.out _ HO.out
          clear hK K
          try simp only [Act.put, List.getElem_toArray, List.getElem_cons_succ, List.getElem_cons_zero, List.setIfInBounds_toArray, List.set_cons_zero, List.set_cons_succ]
          refine wpAnyH_ready (rs := [13]) (by kernel_rfl) (by simp) ?_
          refine AllReadyH.cons rfl (fun K hK => ?_) ?_
          · go_simp
            refine (HDO2.out _ (HRD.out.below HO.out.bel)).mono ?_; rintro e w' ⟨rfl, hb⟩; have HO := Lib.hid (HO.out.later hb); have HNb := Lib.hid (HNb.out.below hb HNb.out.lt); have HRb := Lib.hid (HRb.out.below hb HRb.out.lt); clear hb
            go_wp2_with fail
            refine hK.out _ _ ?_ (fun hHeld => ?_)
            · (try dsimp only)
              exact HS5.out _ HO.out
            clear hK K
            try simp only [Act.put, List.getElem_toArray, List.getElem_cons_succ, List.getElem_cons_zero, List.setIfInBounds_toArray, List.set_cons_zero, List.set_cons_succ]
            refine wpAnyH_take (i := 14) (v := ?_) rfl (by kernel_rfl) (by kernel_rfl) (by kernel_rfl) (fun _ _ _ h => h) (Or.inl ⟨by rfl, ?_⟩) (by assumption) ?_
            rotate_left
            · intro w hSw
              (try dsimp only at hSw)
              go_simp
              all_goals with_reducible rfl
            try simp only [Act.put, List.getElem_toArray, List.getElem_cons_succ, List.getElem_cons_zero, List.setIfInBounds_toArray, List.set_cons_zero, List.set_cons_succ]
            refine wpAnyH_take (i := 15) (v := ?_) rfl (by kernel_rfl) (by kernel_rfl) (by kernel_rfl) (fun _ _ _ h => h) (Or.inl ⟨by rfl, ?_⟩) (by assumption) ?_
            rotate_left
            · intro w hSw
              (try dsimp only at hSw)
              go_simp
              all_goals with_reducible rfl
            try simp only [Act.put, List.getElem_toArray, List.getElem_cons_succ, List.getElem_cons_zero, List.setIfInBounds_toArray, List.set_cons_zero, List.set_cons_succ]
            refine wpAnyH_take (i := 16) (v := ?_) rfl (by kernel_rfl) (by kernel_rfl) (by kernel_rfl) (fun _ _ _ h => h) (Or.inl ⟨by rfl, ?_⟩) (by assumption) ?_
            rotate_left
            · intro w hSw
              (try dsimp only at hSw)
              go_simp
              all_goals with_reducible rfl
            try simp only [Act.put, List.getElem_toArray, List.getElem_cons_succ, List.getElem_cons_zero, List.setIfInBounds_toArray, List.set_cons_zero, List.set_cons_succ]
            have hst := HSN.out _ _ _ HNb.out zeroM_size
            refine wpAnyH_ready (rs := [19]) (by kernel_rfl) (by simp) ?_
            refine AllReadyH.cons rfl (fun K hK => ?_) AllReadyH.nil
            go_simp
            have hne := Blk.ne_ HNb.out HRb.out (by decide)
            have HRb := Lib.hid (HRb.out.setRow_mf DA (Ne.symm hne))
            have HO := Lib.hid (HO.out.put DA HNb.out HNL.out (by decide) (by decide))
            have HNb := Lib.hid (HNb.out.setRow_m DA)
            clear hst
            refine hK.out _ _ ?_ (fun hHeld => ?_)
            · (try dsimp only)
              exact HS5.out _ HO.out
            clear hK K
            try simp only [Act.put, List.getElem_toArray, List.getElem_cons_succ, List.getElem_cons_zero, List.setIfInBounds_toArray, List.set_cons_zero, List.set_cons_succ]
            have hst := run_sstR de dn dg HRb.out rfl
            refine wpAnyH_ready (rs := [20]) (by kernel_rfl) (by simp) ?_
            refine AllReadyH.cons rfl (fun K hK => ?_) AllReadyH.nil
            go_simp
            have HNb := Lib.hid (HNb.out.setRow_mf #[.int .i64 de, .int .i64 dn, .int .i64 dg] hne)
            have HO := Lib.hid (HO.out.put #[.int .i64 de, .int .i64 dn, .int .i64 dg] HRb.out HRL.out (by decide) (by decide))
            have HRb := Lib.hid (HRb.out.setRow_m #[.int .i64 de, .int .i64 dn, .int .i64 dg])
            clear hst
            refine hK.out _ _ ?_ (fun hHeld => ?_)
            · (try dsimp only)
              exact HS5.out _ HO.out
            clear hK K
            try simp only [Act.put, List.getElem_toArray, List.getElem_cons_succ, List.getElem_cons_zero, List.setIfInBounds_toArray, List.set_cons_zero, List.set_cons_succ]
            refine wpAnyH_done (by kernel_rfl) ?_ _
            try simp only [Act.put, List.getElem_toArray, List.getElem_cons_succ, List.getElem_cons_zero, List.setIfInBounds_toArray, List.set_cons_zero, List.set_cons_succ]
            go_wp2_with fail
            go_meet
            exact ⟨_, _, rfl, rfl, HO.out, HNb.out, HRb.out, HNL.out, HRL.out⟩
          exact AllReadyH.nil
        exact AllReadyH.nil
      exact AllReadyH.nil
    exact AllReadyH.nil
  case rest =>
    obtain ⟨nb, rb, rfl, rfl, hO, hNb, hRb, hnl, hrl⟩ := hcut
    have HO := Lib.hid hO
    have HNb := Lib.hid hNb
    have HRb := Lib.hid hRb
    have HNL := Lib.hid hnl
    have HRL := Lib.hid hrl
    clear HS5 HSN HDO2 hO hNb hRb hnl hrl HFA HMAY
    have c0' := HRb.out.cell 0
    have cq := HO.out.q.cell 0
    have cr0 : wc.cell? ⟨rb, 0, none⟩ = some (.int .i64 de) := HRb.out.cell 0
    have cq0 : wc.cell? ⟨w.heap.size, 0, none⟩ = some (.int .i64 qk) := HO.out.q.cell 0
    clear c0' cq
    by_cases he : de = 0
    · by_cases hk : qk = 2
      · obtain ⟨f1, f2, f3⟩ := HFIT.out he hk
        obtain ⟨N, hN⟩ : ∃ N : Nat, qn = (N : Int) := ⟨qn.toNat, by omega⟩
        subst hN he hk
        rcases HACT.out with ha | ha
        · have hoth : ∀ W, Calls Tryd.prog 16 #[.agg m.cells.toArray] W fun e w' => e = .returned (.int .i64 1) ∧ Below W.heap.size W w' := fun W => by have q := HOTH.out W; rw [ha] at q; exact q
          obtain ⟨g0, cap, cur, hv, hge, hcell, hncap, hcm, hcs, htk⟩ : ∃ g cap cur, Value.slice S1 l1.length c1 = .slice (some ⟨g, 0, none⟩) l1.length cap ∧ B ≤ g ∧ Blk wc g 5 cur ∧ l1.length ≤ cap ∧ cap ≤ maxLen ∧ cur.size = cap * 1 ∧ cur.toList.take (l1.length * 1) = l1.map u8v := by
            rcases HO.out.md.s1.2 with ⟨_, h0⟩ | h
            · have := HL1.out; have := HSL.out; omega
            · exact h
          injection hv with e1 _ e2
          subst e1 e2
          have HOTH2 := Lib.hid hoth
          have HC := Lib.hid hcell
          have HCS := Lib.hid hcs
          have HTK := Lib.hid htk
          have HGE := Lib.hid hge
          have HF2 := Lib.hid f2
          have hN32 : IntKind.i64.wrap ((N : Int) * 320) = ((N * 320 : Nat) : Int) := by rw [IntWalk.i64_in _ (by have := HSL.out; omega)]; omega
          have hNl : N * 320 + l.length ≤ l1.length := by have := HL1.out; omega
          have HNLE := Lib.hid hNl
          have HLP := Lib.hid f3
          clear hoth hcell hcs htk hge f1 f2 f3
          go_upto_region 7 with fail
          clear cr0 cq0
          have HO := Lib.hid (HO.out.later ((Below.refl _ _).drew))
          have HC := Lib.hid (HC.out.below ((Below.refl _ wc).drew) HC.out.lt)
          have HNb := Lib.hid (HNb.out.below ((Below.refl _ wc).drew) HNb.out.lt)
          have HRb := Lib.hid (HRb.out.below ((Below.refl _ wc).drew) HRb.out.lt)
          have hqq : ∀ W, DoAt w W B b c m l0 l1 K kc F fc S0 c0 (some ⟨g0, 0, none⟩) c1 #[.int .i64 2, .int .i64 (N : Int), .slice SB sl sc] → (sldM (.pointer (some ⟨b, 7, none⟩))).run Tryd.prog W = .ok (.agg m.cells.toArray) W ∧ W.cell? ⟨b, 114, none⟩ = some (.slice S0 l0.length c0) ∧ W.cell? ⟨b, 115, none⟩ = some (.slice (some ⟨g0, 0, none⟩) l1.length c1) ∧ W.cell? ⟨w.heap.size, 1, none⟩ = some (.int .i64 (N : Int)) ∧ W.cell? ⟨w.heap.size, 2, none⟩ = some (.slice SB sl sc) := fun W hW => ⟨run_sldM (Mt.cells_len HOK.out) hW.md.range, hW.md.cell0, hW.md.cell1, hW.q.cell 1, hW.q.cell 2⟩
          have HS7 := Lib.hid hqq
          have hs0 := hqq _ HO.out
          clear hqq
          refine wp_region_held_drew (S := (fun W => (sldM (.pointer (some ⟨b, 7, none⟩))).run Tryd.prog W = .ok (.agg m.cells.toArray) W ∧ W.cell? ⟨b, 114, none⟩ = some (.slice S0 l0.length c0) ∧ W.cell? ⟨b, 115, none⟩ = some (.slice (some ⟨g0, 0, none⟩) l1.length c1) ∧ W.cell? ⟨w.heap.size, 1, none⟩ = some (.int .i64 (N : Int)) ∧ W.cell? ⟨w.heap.size, 2, none⟩ = some (.slice SB sl sc))) (by kernel_rfl) ?_ (fun hHeld => ?_)
          · exact hs0
          generalize World.drew _ = Wd at HO HC HNb HRb hs0 hHeld ⊢
          refine wpAnyH_take (i := 0) (v := ?_) rfl (by kernel_rfl) (by kernel_rfl) (by kernel_rfl) (fun _ _ _ h => h) (Or.inl ⟨by rfl, ?_⟩) (by assumption) ?_
          rotate_left
          · intro w hSw
            (try dsimp only at hSw)
            go_simp
            all_goals with_reducible rfl
          try simp only [Act.put, List.getElem_toArray, List.getElem_cons_succ, List.getElem_cons_zero, List.setIfInBounds_toArray, List.set_cons_zero, List.set_cons_succ]
          refine wpAnyH_take (i := 1) (v := ?_) rfl (by kernel_rfl) (by kernel_rfl) (by kernel_rfl) (fun _ _ _ h => h) (Or.inl ⟨by rfl, ?_⟩) (by assumption) ?_
          rotate_left
          · intro w hSw
            (try dsimp only at hSw)
            go_simp
            all_goals with_reducible rfl
          try simp only [Act.put, List.getElem_toArray, List.getElem_cons_succ, List.getElem_cons_zero, List.setIfInBounds_toArray, List.set_cons_zero, List.set_cons_succ]
          refine wpAnyH_take (i := 2) (v := ?_) rfl (by kernel_rfl) (by kernel_rfl) (by kernel_rfl) (fun _ _ _ h => h) (Or.inl ⟨by rfl, ?_⟩) (by assumption) ?_
          rotate_left
          · intro w hSw
            (try dsimp only at hSw)
            go_simp
            all_goals with_reducible rfl
          try simp only [Act.put, List.getElem_toArray, List.getElem_cons_succ, List.getElem_cons_zero, List.setIfInBounds_toArray, List.set_cons_zero, List.set_cons_succ]
          refine wpAnyH_take (i := 3) (v := ?_) rfl (by kernel_rfl) (by kernel_rfl) (by kernel_rfl) (fun _ _ _ h => h) (Or.inl ⟨by rfl, ?_⟩) (by assumption) ?_
          rotate_left
          · intro w hSw
            (try dsimp only at hSw)
            go_simp
            all_goals with_reducible rfl
          try simp only [Act.put, List.getElem_toArray, List.getElem_cons_succ, List.getElem_cons_zero, List.setIfInBounds_toArray, List.set_cons_zero, List.set_cons_succ]
          refine wpAnyH_take (i := 4) (v := ?_) rfl (by kernel_rfl) (by kernel_rfl) (by kernel_rfl) (fun _ _ _ h => h) (Or.inl ⟨by rfl, ?_⟩) (by assumption) ?_
          rotate_left
          · intro w hSw
            (try dsimp only at hSw)
            go_simp
            all_goals with_reducible rfl
          try simp only [Act.put, List.getElem_toArray, List.getElem_cons_succ, List.getElem_cons_zero, List.setIfInBounds_toArray, List.set_cons_zero, List.set_cons_succ]
          refine wpAnyH_take (i := 6) (v := ?_) rfl (by kernel_rfl) (by kernel_rfl) (by kernel_rfl) (fun _ _ _ h => h) (Or.inl ⟨by rfl, ?_⟩) (by assumption) ?_
          rotate_left
          · intro w hSw
            (try dsimp only at hSw)
            go_simp
            all_goals with_reducible rfl
          try simp only [Act.put, List.getElem_toArray, List.getElem_cons_succ, List.getElem_cons_zero, List.setIfInBounds_toArray, List.set_cons_zero, List.set_cons_succ]
          refine wpAnyH_take (i := 7) (v := ?_) rfl (by kernel_rfl) (by kernel_rfl) (by kernel_rfl) (fun _ _ _ h => h) (Or.inl ⟨by rfl, ?_⟩) (by assumption) ?_
          rotate_left
          · intro w hSw
            (try dsimp only at hSw)
            go_simp
            all_goals with_reducible rfl
          try simp only [Act.put, List.getElem_toArray, List.getElem_cons_succ, List.getElem_cons_zero, List.setIfInBounds_toArray, List.set_cons_zero, List.set_cons_succ]
          refine wpAnyH_take (i := 10) (v := ?_) rfl (by kernel_rfl) (by kernel_rfl) (by kernel_rfl) (fun _ _ _ h => h) (Or.inl ⟨by rfl, ?_⟩) (by assumption) ?_
          rotate_left
          · intro w hSw
            (try dsimp only at hSw)
            go_simp
            all_goals with_reducible rfl
          try simp only [Act.put, List.getElem_toArray, List.getElem_cons_succ, List.getElem_cons_zero, List.setIfInBounds_toArray, List.set_cons_zero, List.set_cons_succ]
          refine wpAnyH_take (i := 11) (v := ?_) rfl (by kernel_rfl) (by kernel_rfl) (by kernel_rfl) (fun _ _ _ h => h) (Or.inl ⟨by rfl, ?_⟩) (by assumption) ?_
          rotate_left
          · intro w hSw
            (try dsimp only at hSw)
            go_simp
            all_goals with_reducible rfl
          try simp only [Act.put, List.getElem_toArray, List.getElem_cons_succ, List.getElem_cons_zero, List.setIfInBounds_toArray, List.set_cons_zero, List.set_cons_succ]
          refine wpAnyH_take (i := 12) (v := ?_) rfl (by kernel_rfl) (by kernel_rfl) (by kernel_rfl) (fun _ _ _ h => h) (Or.inl ⟨by rfl, ?_⟩) (by assumption) ?_
          rotate_left
          · intro w hSw
            (try dsimp only at hSw)
            go_simp
            all_goals with_reducible rfl
          try simp only [Act.put, List.getElem_toArray, List.getElem_cons_succ, List.getElem_cons_zero, List.setIfInBounds_toArray, List.set_cons_zero, List.set_cons_succ]
          refine wpAnyH_take (i := 14) (v := ?_) rfl (by kernel_rfl) (by kernel_rfl) (by kernel_rfl) (fun _ _ _ h => h) (Or.inl ⟨by rfl, ?_⟩) (by assumption) ?_
          rotate_left
          · intro w hSw
            (try dsimp only at hSw)
            go_simp
            all_goals with_reducible rfl
          try simp only [Act.put, List.getElem_toArray, List.getElem_cons_succ, List.getElem_cons_zero, List.setIfInBounds_toArray, List.set_cons_zero, List.set_cons_succ]
          refine wpAnyH_take (i := 15) (v := ?_) rfl (by kernel_rfl) (by kernel_rfl) (by kernel_rfl) (fun _ _ _ h => h) (Or.inl ⟨by rfl, ?_⟩) (by assumption) ?_
          rotate_left
          · intro w hSw
            (try dsimp only at hSw)
            go_simp
            all_goals with_reducible rfl
          try simp only [Act.put, List.getElem_toArray, List.getElem_cons_succ, List.getElem_cons_zero, List.setIfInBounds_toArray, List.set_cons_zero, List.set_cons_succ]
          refine wpAnyH_ready (rs := [5]) (by kernel_rfl) (by simp) ?_
          refine AllReadyH.cons rfl (fun K hK => ?_) AllReadyH.nil
          go_simp
          refine (HOTH2.out _).mono ?_
          rintro e w6 ⟨rfl, hb6⟩
          have hO := HO.out.later hb6
          have hC := HC.out.below hb6 HC.out.lt
          have HNb := Lib.hid (HNb.out.below hb6 HNb.out.lt)
          have HRb := Lib.hid (HRb.out.below hb6 HRb.out.lt)
          clear HO HC
          have HO := Lib.hid hO
          have HC := Lib.hid hC
          clear hO hC hb6
          go_wp2_with fail
          refine hK.out _ _ ?_ (fun hHeld => ?_)
          · (try dsimp only)
            exact HS7.out _ HO.out
          clear hK K
          try simp only [Act.put, List.getElem_toArray, List.getElem_cons_succ, List.getElem_cons_zero, List.setIfInBounds_toArray, List.set_cons_zero, List.set_cons_succ]
          refine wpAnyH_take (i := 8) (v := ?_) rfl (by kernel_rfl) (by kernel_rfl) (by kernel_rfl) (fun _ _ _ h => h) (Or.inl ⟨by rfl, ?_⟩) (by assumption) ?_
          rotate_left
          · intro w hSw
            (try dsimp only at hSw)
            go_simp
            all_goals with_reducible rfl
          try simp only [Act.put, List.getElem_toArray, List.getElem_cons_succ, List.getElem_cons_zero, List.setIfInBounds_toArray, List.set_cons_zero, List.set_cons_succ]
          refine wpAnyH_take (i := 9) (v := ?_) rfl (by kernel_rfl) (by kernel_rfl) (by kernel_rfl) (fun _ _ _ h => h) (Or.inl ⟨by rfl, ?_⟩) (by assumption) ?_
          rotate_left
          · intro w hSw
            (try dsimp only at hSw)
            go_simp
            all_goals with_reducible rfl
          try simp only [Act.put, List.getElem_toArray, List.getElem_cons_succ, List.getElem_cons_zero, List.setIfInBounds_toArray, List.set_cons_zero, List.set_cons_succ]
          have hcd : 0 ≤ (N : Int) * 320 ∧ (N : Int) * 320 ≤ (l1.length : Int) := by have := HNLE.out; omega
          have htn : ((N : Int) * 320).toNat = N * 320 := by omega
          have hnc : ¬ (c1 = N * 320) := by have := HNLE.out; have := HLP.out; omega
          refine wpAnyH_take (i := 13) (v := ?_) rfl (by kernel_rfl) (by kernel_rfl) (by kernel_rfl) (fun _ _ _ h => h) (Or.inl ⟨by rfl, ?_⟩) (by assumption) ?_
          rotate_left
          · intro w hSw
            (try dsimp only at hSw)
            go_simp
            all_goals with_reducible rfl
          try simp only [Act.put, List.getElem_toArray, List.getElem_cons_succ, List.getElem_cons_zero, List.setIfInBounds_toArray, List.set_cons_zero, List.set_cons_succ]
          refine wpAnyH_ready (rs := [16]) (by kernel_rfl) (by simp) ?_
          refine AllReadyH.cons rfl (fun K hK => ?_) AllReadyH.nil
          refine step_copy_only rfl (.tmp 59) (.tmp 61) 25 25 (by rfl) 5 Tryd.underlying25 info_s8n (some ⟨g0, N * 320, none⟩) SB (l1.length - N * 320) (c1 - N * 320) sl sc (by rfl) (by rfl) g0 (N * 320) cur.toList 5 (by rw [Array.toArray_toList]; exact HC.out) (l.map u8v) (by rw [List.length_map, HLEN.out]; exact (Nat.min_eq_left (by have := HNLE.out; have := HLEN.out; omega)).symm) (fun h => ⟨rfl, srcfN (HRD.out.below HO.out.bel) h⟩) (by rw [List.length_map]; have hcl : cur.toList.length = cur.size := Array.length_toList; have := HNLE.out; have := HCS.out; omega) (u8v_one _) ?_
          intro w6 hg6 ho6
          have hmd := HO.out.md.copy1 (cur := cur) HC.out rfl ho6 HGE.out (l2 := wrB l1 N l) (wrB_len (by have := HNLE.out; omega)) (own_spliceM HO.out.md.s1 HC.out HNLE.out hg6)
          have HR := Lib.hid (HO.out.r.only ho6 (by have := Blk.ne_ HO.out.r HC.out (by decide); simpa using this))
          have HNb := Lib.hid (HNb.out.only ho6 (by have := Blk.ne_ HNb.out HC.out (by decide); simpa using this))
          have HRb := Lib.hid (HRb.out.only ho6 (by have := Blk.ne_ HRb.out HC.out (by decide); simpa using this))
          have HQ := Lib.hid (HO.out.q.only ho6 (by have := Blk.ne_ HO.out.q HC.out (by decide); simpa using this))
          have HON := Lib.hid ((Only.of_below (S := S) HO.out.bel).trans (ho6.mono (fun k hk => by rw [List.mem_singleton.1 hk]; exact .inl (HSS1.out g0 rfl))))
          have HMD := Lib.hid hmd
          clear hmd HO HC
          refine hK.out _ _ ?_ (fun hHeld => ?_)
          · (try dsimp only)
            exact ⟨run_sldM (Mt.cells_len HOK.out) HMD.out.range, by have q := HMD.out.cell0; (try rw [wrB_len (show ((N : Int) * 320).toNat + l.length ≤ l1.length from by have := HNLE.out; omega)] at q); exact q, by have q := HMD.out.cell1; (try rw [wrB_len (show ((N : Int) * 320).toNat + l.length ≤ l1.length from by have := HNLE.out; omega)] at q); exact q, HQ.out.cell 1, HQ.out.cell 2⟩
          clear hK K
          try simp only [Act.put, List.getElem_toArray, List.getElem_cons_succ, List.getElem_cons_zero, List.setIfInBounds_toArray, List.set_cons_zero, List.set_cons_succ]
          refine wpAnyH_done (by kernel_rfl) ?_ _
          try simp only [Act.put, List.getElem_toArray, List.getElem_cons_succ, List.getElem_cons_zero, List.setIfInBounds_toArray, List.set_cons_zero, List.set_cons_succ]
          go_upto_region 8 with fail
          have hmd := HMD.out
          have hld : (sldM (.pointer (some ⟨nb, 0, none⟩))).run Tryd.prog w6 = .ok (.agg DA) w6 := by
            have q := HNb.out
            rw [← HDA.out] at q ⊢
            exact run_sldM (Mt.cells_len HDOK.out) q.whole
          have hst := run_sstMo (o := 7) hmd.blk (by rw [List.size_toArray, mdC_len (c.cells_len K kc F fc) hmd.ok]; omega) dm HDOK.out
          have hmd2 := hmd.putM dm HDOK.out
          have ho2 : Only [b] w6 (w6.setCells b 7 dm.cells) := only_setCells _ _ _ (Only.refl _ _)
          have n1 : rb ∉ [b] := by have := Blk.ne_ HRb.out hmd.blk (by decide); simpa using this
          have n2 : w.heap.size + 1 ∉ [b] := by have := Blk.ne_ HR.out hmd.blk (by decide); simpa using this
          have hrb2 := HRb.out.only ho2 n1
          have hr2 := HR.out.only ho2 n2
          have hldr := run_sldR rfl hrb2.whole
          have hstr := run_sstR 0 dn dg hr2 rfl
          have hfin := hr2.setRow_m #[.int .i64 0, .int .i64 dn, .int .i64 dg]
          have hmd3 := hmd2.putR hr2 (by decide) (by decide) #[.int .i64 0, .int .i64 dn, .int .i64 dg]
          have hon := (HON.out.cellsM (.inl HSB.out) dm.cells 7).rowM (.inr (Nat.le_succ _)) #[.int .i64 0, .int .i64 dn, .int .i64 dg]
          have HFIN := Lib.hid hfin
          have HMD3 := Lib.hid hmd3
          have HON3 := Lib.hid hon
          clear hfin hmd3 hon hr2 hrb2 n1 n2 ho2 hmd2 hmd
          rw [HDA.out] at hst
          obtain ⟨DL, hDL⟩ : ∃ DL, dm.cells = DL := ⟨_, rfl⟩
          rw [hDL] at hst hldr hstr HMD3 HON3 HFIN
          clear hDL
          go_wp2_with fail
          refine bodyPost_ret (results_cell_row rfl _ _ (w.heap.size + 1) 30 #[.int .i64 0, .int .i64 dn, .int .i64 dg] (0, 0) _ rfl HFIN.out Tryd.underlying30 rfl info_sRp) rfl ?_
          have e1 : slotA 0 2 (N : Int) l l1 = wrB l1 N l := by unfold slotA; rw [if_pos ⟨rfl, rfl⟩]
          rw [← HN0.out, ← HN1.out, if_pos ha, if_pos ha, e1]
          exact ⟨rfl, HMD3.out, HON3.out⟩
        · have hoth : ∀ W, Calls Tryd.prog 16 #[.agg m.cells.toArray] W fun e w' => e = .returned (.int .i64 0) ∧ Below W.heap.size W w' := fun W => by have q := HOTH.out W; rw [ha] at q; exact q
          obtain ⟨g0, cap, cur, hv, hge, hcell, hncap, hcm, hcs, htk⟩ : ∃ g cap cur, Value.slice S0 l0.length c0 = .slice (some ⟨g, 0, none⟩) l0.length cap ∧ B ≤ g ∧ Blk wc g 5 cur ∧ l0.length ≤ cap ∧ cap ≤ maxLen ∧ cur.size = cap * 1 ∧ cur.toList.take (l0.length * 1) = l0.map u8v := by
            rcases HO.out.md.s0.2 with ⟨_, h0⟩ | h
            · have := HL0.out; have := HSL.out; omega
            · exact h
          injection hv with e1 _ e2
          subst e1 e2
          have HOTH2 := Lib.hid hoth
          have HC := Lib.hid hcell
          have HCS := Lib.hid hcs
          have HTK := Lib.hid htk
          have HGE := Lib.hid hge
          have HF2 := Lib.hid f2
          have hN32 : IntKind.i64.wrap ((N : Int) * 320) = ((N * 320 : Nat) : Int) := by rw [IntWalk.i64_in _ (by have := HSL.out; omega)]; omega
          have hNl : N * 320 + l.length ≤ l0.length := by have := HL0.out; omega
          have HNLE := Lib.hid hNl
          have HLP := Lib.hid f3
          clear hoth hcell hcs htk hge f1 f2 f3
          go_upto_region 7 with fail
          clear cr0 cq0
          have HO := Lib.hid (HO.out.later ((Below.refl _ _).drew))
          have HC := Lib.hid (HC.out.below ((Below.refl _ wc).drew) HC.out.lt)
          have HNb := Lib.hid (HNb.out.below ((Below.refl _ wc).drew) HNb.out.lt)
          have HRb := Lib.hid (HRb.out.below ((Below.refl _ wc).drew) HRb.out.lt)
          have hqq : ∀ W, DoAt w W B b c m l0 l1 K kc F fc (some ⟨g0, 0, none⟩) c0 S1 c1 #[.int .i64 2, .int .i64 (N : Int), .slice SB sl sc] → (sldM (.pointer (some ⟨b, 7, none⟩))).run Tryd.prog W = .ok (.agg m.cells.toArray) W ∧ W.cell? ⟨b, 114, none⟩ = some (.slice (some ⟨g0, 0, none⟩) l0.length c0) ∧ W.cell? ⟨b, 115, none⟩ = some (.slice S1 l1.length c1) ∧ W.cell? ⟨w.heap.size, 1, none⟩ = some (.int .i64 (N : Int)) ∧ W.cell? ⟨w.heap.size, 2, none⟩ = some (.slice SB sl sc) := fun W hW => ⟨run_sldM (Mt.cells_len HOK.out) hW.md.range, hW.md.cell0, hW.md.cell1, hW.q.cell 1, hW.q.cell 2⟩
          have HS7 := Lib.hid hqq
          have hs0 := hqq _ HO.out
          clear hqq
          refine wp_region_held_drew (S := (fun W => (sldM (.pointer (some ⟨b, 7, none⟩))).run Tryd.prog W = .ok (.agg m.cells.toArray) W ∧ W.cell? ⟨b, 114, none⟩ = some (.slice (some ⟨g0, 0, none⟩) l0.length c0) ∧ W.cell? ⟨b, 115, none⟩ = some (.slice S1 l1.length c1) ∧ W.cell? ⟨w.heap.size, 1, none⟩ = some (.int .i64 (N : Int)) ∧ W.cell? ⟨w.heap.size, 2, none⟩ = some (.slice SB sl sc))) (by kernel_rfl) ?_ (fun hHeld => ?_)
          · exact hs0
          generalize World.drew _ = Wd at HO HC HNb HRb hs0 hHeld ⊢
          refine wpAnyH_take (i := 0) (v := ?_) rfl (by kernel_rfl) (by kernel_rfl) (by kernel_rfl) (fun _ _ _ h => h) (Or.inl ⟨by rfl, ?_⟩) (by assumption) ?_
          rotate_left
          · intro w hSw
            (try dsimp only at hSw)
            go_simp
            all_goals with_reducible rfl
          try simp only [Act.put, List.getElem_toArray, List.getElem_cons_succ, List.getElem_cons_zero, List.setIfInBounds_toArray, List.set_cons_zero, List.set_cons_succ]
          refine wpAnyH_take (i := 1) (v := ?_) rfl (by kernel_rfl) (by kernel_rfl) (by kernel_rfl) (fun _ _ _ h => h) (Or.inl ⟨by rfl, ?_⟩) (by assumption) ?_
          rotate_left
          · intro w hSw
            (try dsimp only at hSw)
            go_simp
            all_goals with_reducible rfl
          try simp only [Act.put, List.getElem_toArray, List.getElem_cons_succ, List.getElem_cons_zero, List.setIfInBounds_toArray, List.set_cons_zero, List.set_cons_succ]
          refine wpAnyH_take (i := 2) (v := ?_) rfl (by kernel_rfl) (by kernel_rfl) (by kernel_rfl) (fun _ _ _ h => h) (Or.inl ⟨by rfl, ?_⟩) (by assumption) ?_
          rotate_left
          · intro w hSw
            (try dsimp only at hSw)
            go_simp
            all_goals with_reducible rfl
          try simp only [Act.put, List.getElem_toArray, List.getElem_cons_succ, List.getElem_cons_zero, List.setIfInBounds_toArray, List.set_cons_zero, List.set_cons_succ]
          refine wpAnyH_take (i := 3) (v := ?_) rfl (by kernel_rfl) (by kernel_rfl) (by kernel_rfl) (fun _ _ _ h => h) (Or.inl ⟨by rfl, ?_⟩) (by assumption) ?_
          rotate_left
          · intro w hSw
            (try dsimp only at hSw)
            go_simp
            all_goals with_reducible rfl
          try simp only [Act.put, List.getElem_toArray, List.getElem_cons_succ, List.getElem_cons_zero, List.setIfInBounds_toArray, List.set_cons_zero, List.set_cons_succ]
          refine wpAnyH_take (i := 4) (v := ?_) rfl (by kernel_rfl) (by kernel_rfl) (by kernel_rfl) (fun _ _ _ h => h) (Or.inl ⟨by rfl, ?_⟩) (by assumption) ?_
          rotate_left
          · intro w hSw
            (try dsimp only at hSw)
            go_simp
            all_goals with_reducible rfl
          try simp only [Act.put, List.getElem_toArray, List.getElem_cons_succ, List.getElem_cons_zero, List.setIfInBounds_toArray, List.set_cons_zero, List.set_cons_succ]
          refine wpAnyH_take (i := 6) (v := ?_) rfl (by kernel_rfl) (by kernel_rfl) (by kernel_rfl) (fun _ _ _ h => h) (Or.inl ⟨by rfl, ?_⟩) (by assumption) ?_
          rotate_left
          · intro w hSw
            (try dsimp only at hSw)
            go_simp
            all_goals with_reducible rfl
          try simp only [Act.put, List.getElem_toArray, List.getElem_cons_succ, List.getElem_cons_zero, List.setIfInBounds_toArray, List.set_cons_zero, List.set_cons_succ]
          refine wpAnyH_take (i := 7) (v := ?_) rfl (by kernel_rfl) (by kernel_rfl) (by kernel_rfl) (fun _ _ _ h => h) (Or.inl ⟨by rfl, ?_⟩) (by assumption) ?_
          rotate_left
          · intro w hSw
            (try dsimp only at hSw)
            go_simp
            all_goals with_reducible rfl
          try simp only [Act.put, List.getElem_toArray, List.getElem_cons_succ, List.getElem_cons_zero, List.setIfInBounds_toArray, List.set_cons_zero, List.set_cons_succ]
          refine wpAnyH_take (i := 10) (v := ?_) rfl (by kernel_rfl) (by kernel_rfl) (by kernel_rfl) (fun _ _ _ h => h) (Or.inl ⟨by rfl, ?_⟩) (by assumption) ?_
          rotate_left
          · intro w hSw
            (try dsimp only at hSw)
            go_simp
            all_goals with_reducible rfl
          try simp only [Act.put, List.getElem_toArray, List.getElem_cons_succ, List.getElem_cons_zero, List.setIfInBounds_toArray, List.set_cons_zero, List.set_cons_succ]
          refine wpAnyH_take (i := 11) (v := ?_) rfl (by kernel_rfl) (by kernel_rfl) (by kernel_rfl) (fun _ _ _ h => h) (Or.inl ⟨by rfl, ?_⟩) (by assumption) ?_
          rotate_left
          · intro w hSw
            (try dsimp only at hSw)
            go_simp
            all_goals with_reducible rfl
          try simp only [Act.put, List.getElem_toArray, List.getElem_cons_succ, List.getElem_cons_zero, List.setIfInBounds_toArray, List.set_cons_zero, List.set_cons_succ]
          refine wpAnyH_take (i := 12) (v := ?_) rfl (by kernel_rfl) (by kernel_rfl) (by kernel_rfl) (fun _ _ _ h => h) (Or.inl ⟨by rfl, ?_⟩) (by assumption) ?_
          rotate_left
          · intro w hSw
            (try dsimp only at hSw)
            go_simp
            all_goals with_reducible rfl
          try simp only [Act.put, List.getElem_toArray, List.getElem_cons_succ, List.getElem_cons_zero, List.setIfInBounds_toArray, List.set_cons_zero, List.set_cons_succ]
          refine wpAnyH_take (i := 14) (v := ?_) rfl (by kernel_rfl) (by kernel_rfl) (by kernel_rfl) (fun _ _ _ h => h) (Or.inl ⟨by rfl, ?_⟩) (by assumption) ?_
          rotate_left
          · intro w hSw
            (try dsimp only at hSw)
            go_simp
            all_goals with_reducible rfl
          try simp only [Act.put, List.getElem_toArray, List.getElem_cons_succ, List.getElem_cons_zero, List.setIfInBounds_toArray, List.set_cons_zero, List.set_cons_succ]
          refine wpAnyH_take (i := 15) (v := ?_) rfl (by kernel_rfl) (by kernel_rfl) (by kernel_rfl) (fun _ _ _ h => h) (Or.inl ⟨by rfl, ?_⟩) (by assumption) ?_
          rotate_left
          · intro w hSw
            (try dsimp only at hSw)
            go_simp
            all_goals with_reducible rfl
          try simp only [Act.put, List.getElem_toArray, List.getElem_cons_succ, List.getElem_cons_zero, List.setIfInBounds_toArray, List.set_cons_zero, List.set_cons_succ]
          refine wpAnyH_ready (rs := [5]) (by kernel_rfl) (by simp) ?_
          refine AllReadyH.cons rfl (fun K hK => ?_) AllReadyH.nil
          go_simp
          refine (HOTH2.out _).mono ?_
          rintro e w6 ⟨rfl, hb6⟩
          have hO := HO.out.later hb6
          have hC := HC.out.below hb6 HC.out.lt
          have HNb := Lib.hid (HNb.out.below hb6 HNb.out.lt)
          have HRb := Lib.hid (HRb.out.below hb6 HRb.out.lt)
          clear HO HC
          have HO := Lib.hid hO
          have HC := Lib.hid hC
          clear hO hC hb6
          go_wp2_with fail
          refine hK.out _ _ ?_ (fun hHeld => ?_)
          · (try dsimp only)
            exact HS7.out _ HO.out
          clear hK K
          try simp only [Act.put, List.getElem_toArray, List.getElem_cons_succ, List.getElem_cons_zero, List.setIfInBounds_toArray, List.set_cons_zero, List.set_cons_succ]
          refine wpAnyH_take (i := 8) (v := ?_) rfl (by kernel_rfl) (by kernel_rfl) (by kernel_rfl) (fun _ _ _ h => h) (Or.inl ⟨by rfl, ?_⟩) (by assumption) ?_
          rotate_left
          · intro w hSw
            (try dsimp only at hSw)
            go_simp
            all_goals with_reducible rfl
          try simp only [Act.put, List.getElem_toArray, List.getElem_cons_succ, List.getElem_cons_zero, List.setIfInBounds_toArray, List.set_cons_zero, List.set_cons_succ]
          refine wpAnyH_take (i := 9) (v := ?_) rfl (by kernel_rfl) (by kernel_rfl) (by kernel_rfl) (fun _ _ _ h => h) (Or.inl ⟨by rfl, ?_⟩) (by assumption) ?_
          rotate_left
          · intro w hSw
            (try dsimp only at hSw)
            go_simp
            all_goals with_reducible rfl
          try simp only [Act.put, List.getElem_toArray, List.getElem_cons_succ, List.getElem_cons_zero, List.setIfInBounds_toArray, List.set_cons_zero, List.set_cons_succ]
          have hcd : 0 ≤ (N : Int) * 320 ∧ (N : Int) * 320 ≤ (l0.length : Int) := by have := HNLE.out; omega
          have htn : ((N : Int) * 320).toNat = N * 320 := by omega
          have hnc : ¬ (c0 = N * 320) := by have := HNLE.out; have := HLP.out; omega
          refine wpAnyH_take (i := 13) (v := ?_) rfl (by kernel_rfl) (by kernel_rfl) (by kernel_rfl) (fun _ _ _ h => h) (Or.inl ⟨by rfl, ?_⟩) (by assumption) ?_
          rotate_left
          · intro w hSw
            (try dsimp only at hSw)
            go_simp
            all_goals with_reducible rfl
          try simp only [Act.put, List.getElem_toArray, List.getElem_cons_succ, List.getElem_cons_zero, List.setIfInBounds_toArray, List.set_cons_zero, List.set_cons_succ]
          refine wpAnyH_ready (rs := [16]) (by kernel_rfl) (by simp) ?_
          refine AllReadyH.cons rfl (fun K hK => ?_) AllReadyH.nil
          refine step_copy_only rfl (.tmp 59) (.tmp 61) 25 25 (by rfl) 5 Tryd.underlying25 info_s8n (some ⟨g0, N * 320, none⟩) SB (l0.length - N * 320) (c0 - N * 320) sl sc (by rfl) (by rfl) g0 (N * 320) cur.toList 5 (by rw [Array.toArray_toList]; exact HC.out) (l.map u8v) (by rw [List.length_map, HLEN.out]; exact (Nat.min_eq_left (by have := HNLE.out; have := HLEN.out; omega)).symm) (fun h => ⟨rfl, srcfN (HRD.out.below HO.out.bel) h⟩) (by rw [List.length_map]; have hcl : cur.toList.length = cur.size := Array.length_toList; have := HNLE.out; have := HCS.out; omega) (u8v_one _) ?_
          intro w6 hg6 ho6
          have hmd := HO.out.md.copy0 (cur := cur) HC.out rfl ho6 HGE.out (l2 := wrB l0 N l) (wrB_len (by have := HNLE.out; omega)) (own_spliceM HO.out.md.s0 HC.out HNLE.out hg6)
          have HR := Lib.hid (HO.out.r.only ho6 (by have := Blk.ne_ HO.out.r HC.out (by decide); simpa using this))
          have HNb := Lib.hid (HNb.out.only ho6 (by have := Blk.ne_ HNb.out HC.out (by decide); simpa using this))
          have HRb := Lib.hid (HRb.out.only ho6 (by have := Blk.ne_ HRb.out HC.out (by decide); simpa using this))
          have HQ := Lib.hid (HO.out.q.only ho6 (by have := Blk.ne_ HO.out.q HC.out (by decide); simpa using this))
          have HON := Lib.hid ((Only.of_below (S := S) HO.out.bel).trans (ho6.mono (fun k hk => by rw [List.mem_singleton.1 hk]; exact .inl (HSS0.out g0 rfl))))
          have HMD := Lib.hid hmd
          clear hmd HO HC
          refine hK.out _ _ ?_ (fun hHeld => ?_)
          · (try dsimp only)
            exact ⟨run_sldM (Mt.cells_len HOK.out) HMD.out.range, by have q := HMD.out.cell0; (try rw [wrB_len (show ((N : Int) * 320).toNat + l.length ≤ l0.length from by have := HNLE.out; omega)] at q); exact q, by have q := HMD.out.cell1; (try rw [wrB_len (show ((N : Int) * 320).toNat + l.length ≤ l0.length from by have := HNLE.out; omega)] at q); exact q, HQ.out.cell 1, HQ.out.cell 2⟩
          clear hK K
          try simp only [Act.put, List.getElem_toArray, List.getElem_cons_succ, List.getElem_cons_zero, List.setIfInBounds_toArray, List.set_cons_zero, List.set_cons_succ]
          refine wpAnyH_done (by kernel_rfl) ?_ _
          try simp only [Act.put, List.getElem_toArray, List.getElem_cons_succ, List.getElem_cons_zero, List.setIfInBounds_toArray, List.set_cons_zero, List.set_cons_succ]
          go_upto_region 8 with fail
          have hmd := HMD.out
          have hld : (sldM (.pointer (some ⟨nb, 0, none⟩))).run Tryd.prog w6 = .ok (.agg DA) w6 := by
            have q := HNb.out
            rw [← HDA.out] at q ⊢
            exact run_sldM (Mt.cells_len HDOK.out) q.whole
          have hst := run_sstMo (o := 7) hmd.blk (by rw [List.size_toArray, mdC_len (c.cells_len K kc F fc) hmd.ok]; omega) dm HDOK.out
          have hmd2 := hmd.putM dm HDOK.out
          have ho2 : Only [b] w6 (w6.setCells b 7 dm.cells) := only_setCells _ _ _ (Only.refl _ _)
          have n1 : rb ∉ [b] := by have := Blk.ne_ HRb.out hmd.blk (by decide); simpa using this
          have n2 : w.heap.size + 1 ∉ [b] := by have := Blk.ne_ HR.out hmd.blk (by decide); simpa using this
          have hrb2 := HRb.out.only ho2 n1
          have hr2 := HR.out.only ho2 n2
          have hldr := run_sldR rfl hrb2.whole
          have hstr := run_sstR 0 dn dg hr2 rfl
          have hfin := hr2.setRow_m #[.int .i64 0, .int .i64 dn, .int .i64 dg]
          have hmd3 := hmd2.putR hr2 (by decide) (by decide) #[.int .i64 0, .int .i64 dn, .int .i64 dg]
          have hon := (HON.out.cellsM (.inl HSB.out) dm.cells 7).rowM (.inr (Nat.le_succ _)) #[.int .i64 0, .int .i64 dn, .int .i64 dg]
          have HFIN := Lib.hid hfin
          have HMD3 := Lib.hid hmd3
          have HON3 := Lib.hid hon
          clear hfin hmd3 hon hr2 hrb2 n1 n2 ho2 hmd2 hmd
          rw [HDA.out] at hst
          obtain ⟨DL, hDL⟩ : ∃ DL, dm.cells = DL := ⟨_, rfl⟩
          rw [hDL] at hst hldr hstr HMD3 HON3 HFIN
          clear hDL
          go_wp2_with fail
          refine bodyPost_ret (results_cell_row rfl _ _ (w.heap.size + 1) 30 #[.int .i64 0, .int .i64 dn, .int .i64 dg] (0, 0) _ rfl HFIN.out Tryd.underlying30 rfl info_sRp) rfl ?_
          have e1 : slotA 0 2 (N : Int) l l0 = wrB l0 N l := by unfold slotA; rw [if_pos ⟨rfl, rfl⟩]
          rw [← HN0.out, ← HN1.out, if_neg (by rw [ha]; decide), if_neg (by rw [ha]; decide), e1]
          exact ⟨rfl, HMD3.out, HON3.out⟩
      · subst he
        have HMD := Lib.hid HO.out.md
        have HON := Lib.hid (Only.of_below (S := S) HO.out.bel)
        have HR := Lib.hid HO.out.r
        clear HO
        have hmd := HMD.out
        have hld : (sldM (.pointer (some ⟨nb, 0, none⟩))).run Tryd.prog wc = .ok (.agg DA) wc := by
          have q := HNb.out
          rw [← HDA.out] at q ⊢
          exact run_sldM (Mt.cells_len HDOK.out) q.whole
        have hst := run_sstMo (o := 7) hmd.blk (by rw [List.size_toArray, mdC_len (c.cells_len K kc F fc) hmd.ok]; omega) dm HDOK.out
        have hmd2 := hmd.putM dm HDOK.out
        have ho2 : Only [b] wc (wc.setCells b 7 dm.cells) := only_setCells _ _ _ (Only.refl _ _)
        have n1 : rb ∉ [b] := by have := Blk.ne_ HRb.out hmd.blk (by decide); simpa using this
        have n2 : w.heap.size + 1 ∉ [b] := by have := Blk.ne_ HR.out hmd.blk (by decide); simpa using this
        have hrb2 := HRb.out.only ho2 n1
        have hr2 := HR.out.only ho2 n2
        have hldr := run_sldR rfl hrb2.whole
        have hstr := run_sstR 0 dn dg hr2 rfl
        have hfin := hr2.setRow_m #[.int .i64 0, .int .i64 dn, .int .i64 dg]
        have hmd3 := hmd2.putR hr2 (by decide) (by decide) #[.int .i64 0, .int .i64 dn, .int .i64 dg]
        have hon := (HON.out.cellsM (.inl HSB.out) dm.cells 7).rowM (.inr (Nat.le_succ _)) #[.int .i64 0, .int .i64 dn, .int .i64 dg]
        have HFIN := Lib.hid hfin
        have HMD3 := Lib.hid hmd3
        have HON3 := Lib.hid hon
        clear hfin hmd3 hon hr2 hrb2 n1 n2 ho2 hmd2 hmd
        rw [HDA.out] at hst
        obtain ⟨DL, hDL⟩ : ∃ DL, dm.cells = DL := ⟨_, rfl⟩
        rw [hDL] at hst hldr hstr HMD3 HON3 HFIN
        clear hDL
        go_wp2_with fail
        refine bodyPost_ret (results_cell_row rfl _ _ (w.heap.size + 1) 30 #[.int .i64 0, .int .i64 dn, .int .i64 dg] (0, 0) _ rfl HFIN.out Tryd.underlying30 rfl info_sRp) rfl ?_
        have e0 : ∀ lo, slotA 0 qk qn l lo = lo := fun lo => by unfold slotA; rw [if_neg (fun q => hk q.2)]
        rw [← HN0.out, ← HN1.out, e0, e0, ite_self, ite_self]
        exact ⟨rfl, HMD3.out, HON3.out⟩
    · have HMD := Lib.hid HO.out.md
      have HON := Lib.hid (Only.of_below (S := S) HO.out.bel)
      have HR := Lib.hid HO.out.r
      clear HO
      have hmd := HMD.out
      have hld : (sldM (.pointer (some ⟨nb, 0, none⟩))).run Tryd.prog wc = .ok (.agg DA) wc := by
        have q := HNb.out
        rw [← HDA.out] at q ⊢
        exact run_sldM (Mt.cells_len HDOK.out) q.whole
      have hst := run_sstMo (o := 7) hmd.blk (by rw [List.size_toArray, mdC_len (c.cells_len K kc F fc) hmd.ok]; omega) dm HDOK.out
      have hmd2 := hmd.putM dm HDOK.out
      have ho2 : Only [b] wc (wc.setCells b 7 dm.cells) := only_setCells _ _ _ (Only.refl _ _)
      have n1 : rb ∉ [b] := by have := Blk.ne_ HRb.out hmd.blk (by decide); simpa using this
      have n2 : w.heap.size + 1 ∉ [b] := by have := Blk.ne_ HR.out hmd.blk (by decide); simpa using this
      have hrb2 := HRb.out.only ho2 n1
      have hr2 := HR.out.only ho2 n2
      have hldr := run_sldR rfl hrb2.whole
      have hstr := run_sstR de dn dg hr2 rfl
      have hfin := hr2.setRow_m #[.int .i64 de, .int .i64 dn, .int .i64 dg]
      have hmd3 := hmd2.putR hr2 (by decide) (by decide) #[.int .i64 de, .int .i64 dn, .int .i64 dg]
      have hon := (HON.out.cellsM (.inl HSB.out) dm.cells 7).rowM (.inr (Nat.le_succ _)) #[.int .i64 de, .int .i64 dn, .int .i64 dg]
      have HFIN := Lib.hid hfin
      have HMD3 := Lib.hid hmd3
      have HON3 := Lib.hid hon
      clear hfin hmd3 hon hr2 hrb2 n1 n2 ho2 hmd2 hmd
      rw [HDA.out] at hst
      obtain ⟨DL, hDL⟩ : ∃ DL, dm.cells = DL := ⟨_, rfl⟩
      rw [hDL] at hst hldr hstr HMD3 HON3 HFIN
      clear hDL
      go_wp2_with fail
      refine bodyPost_ret (results_cell_row rfl _ _ (w.heap.size + 1) 30 #[.int .i64 de, .int .i64 dn, .int .i64 dg] (0, 0) _ rfl HFIN.out Tryd.underlying30 rfl info_sRp) rfl ?_
      have e0 : ∀ lo, slotA de qk qn l lo = lo := fun lo => by unfold slotA; rw [if_neg (fun q => he q.1)]
      rw [← HN0.out, ← HN1.out, e0, e0, ite_self, ite_self]
      exact ⟨rfl, HMD3.out, HON3.out⟩
end Go.Proofs.YtpafenlcgcenlaaDoor
