/- manifest.Read. -/
import Derived.Test.YtpafenlcgcenlaaGreatDoorHeldTk
import Derived.Test.YtpafenlcgcenlaaGreatDoorMnA
import Derived.Test.YtpafenlcgcenlaaGreatDoorFldA
import Derived.Test.YtpafenlcgcenlaaGreatDoorUpB
import Derived.Laws.CopyOwn
import Derived.Deep.RegionHeld3
import Derived.Deep.DrawnRows
namespace Go.Proofs.YtpafenlcgcenlaaGreatDoor
open Go Go.RowKit
set_option linter.unusedVariables false
set_option linter.unusedSimpArgs false
noncomputable def sbN (parts : Array (Nat × Value)) : Sem Value := Instr.build 82 parts
theorem sbN_seal (parts : Array (Nat × Value)) : Instr.build 82 parts = sbN parts := rfl
noncomputable def sldN (x : Value) : Sem Value := Instr.loadAt 82 x
theorem sldN_seal (x : Value) : Instr.loadAt 82 x = sldN x := rfl
noncomputable def sstN (x v : Value) : Sem Unit := Instr.storeAt 82 x v
theorem sstN_seal (x v : Value) : Instr.storeAt 82 x v = sstN x v := rfl
theorem info_sN : (Tryz.prog.info? 82).map (·.size) = some 35 := by kernel_rfl
def manC (nm : ByteArray) (i : Img) : List Value := .string nm :: i.cells
theorem manC_len {i : Img} (h : i.d.length = 32) (nm : ByteArray) : (manC nm i).length = 35 := by unfold manC; rw [List.length_cons, Img.cells_len h]
theorem manC_one (nm : ByteArray) (i : Img) : ∀ u ∈ manC nm i, u.oneCell' = true := by
  intro u hu
  rcases List.mem_cons.1 hu with rfl | hu
  · rfl
  · exact Img.one _ u hu
def zeroN : List Value := manC ⟨#[]⟩ Img.zero
@[reducible] def litN : Array Value := #[.string ⟨#[]⟩, .int .i64 0, .int .i64 0, .int .u8 0, .int .u8 0, .int .u8 0, .int .u8 0, .int .u8 0, .int .u8 0, .int .u8 0, .int .u8 0, .int .u8 0, .int .u8 0, .int .u8 0, .int .u8 0, .int .u8 0, .int .u8 0, .int .u8 0, .int .u8 0, .int .u8 0, .int .u8 0, .int .u8 0, .int .u8 0, .int .u8 0, .int .u8 0, .int .u8 0, .int .u8 0, .int .u8 0, .int .u8 0, .int .u8 0, .int .u8 0, .int .u8 0, .int .u8 0, .int .u8 0, .int .u8 0]
theorem zeroN_eq : litN = zeroN.toArray := by rfl
theorem run_sbN (nm : ByteArray) (w : World) : (sbN #[(0, .string nm)]).run Tryz.prog w = .ok (.agg (manC nm Img.zero).toArray) w := by
  refine run_build w _ _ _ ?_
  have h : Tryz.prog.built 82 [(0, .string nm)] = Instr.fill (#[(0, 1), (1, 34)][·]?) litN [(0, .string nm)] := by kernel_rfl
  rw [h, zeroN_eq]
  rfl
theorem run_sbN0 (w : World) : (sbN #[]).run Tryz.prog w = .ok (.agg zeroN.toArray) w := by
  refine run_build w _ _ _ ?_
  have h : Tryz.prog.built 82 [] = Instr.fill (#[(0, 1), (1, 34)][·]?) litN [] := by kernel_rfl
  rw [h, zeroN_eq]
  rfl
theorem run_sldN {W : World} {g o : Nat} {cs : List Value} (hs : cs.length = 35) (h : W.rangeAt g o cs) : (sldN (.pointer (some ⟨g, o, none⟩))).run Tryz.prog W = .ok (.agg cs.toArray) W :=
  run_loadAt_mid (P := Tryz.prog) W g o 82 cs _ h Tryz.underlying82 rfl (by rw [hs]; exact info_sN)
theorem run_sstN {W : World} {g : Nat} {old : Array Value} (cs : List Value) (h : Blk W g 82 old) (ho : old.size = 35) (hl : cs.length = 35) (h1 : ∀ u ∈ cs, u.oneCell' = true) :
    (sstN (.pointer (some ⟨g, 0, none⟩)) (.agg cs.toArray)).run Tryz.prog W = .ok () (W.setRow g cs.toArray) := by
  unfold sstN
  simp only [Instr.storeAt, Instr.sureAddr, Sem.run_bind, Sem.run_pure, Result.andThen_ok, run_storeVar_row (P := Tryz.prog) W g 82 82 old cs.toArray h (by rw [List.size_toArray, hl]; exact info_sN) (by rw [ho, List.size_toArray, hl]) (by simpa using h1)]
attribute [local go_sem ↓] sbN_seal sldN_seal sstN_seal
theorem Blk.setV {W : World} {g : Nat} {t : TypeId} {nm : ByteArray} {i : Img} (B : Blk W g t (manC nm i).toArray) (v : Int) : Blk (W.setCell ⟨g, 1, none⟩ (i64v v)) g t (manC nm { i with v := v }).toArray := by
  have h := B.set_ 1 (i64v v)
  rw [List.setIfInBounds_toArray] at h
  exact h
theorem Blk.setS {W : World} {g : Nat} {t : TypeId} {nm : ByteArray} {i : Img} (B : Blk W g t (manC nm i).toArray) (v : Int) : Blk (W.setCell ⟨g, 2, none⟩ (i64v v)) g t (manC nm { i with s := v }).toArray := by
  have h := B.set_ 2 (i64v v)
  rw [List.setIfInBounds_toArray] at h
  exact h
theorem splice_man {nm : ByteArray} {i : Img} (h : i.d.length = 32) (d : List UInt8) (hd : d.length = 32) : splice (manC nm i) 3 (d.map u8v) = manC nm { i with d := d } := by
  unfold splice manC Img.cells
  simp [hd, h]
theorem rd_step (l : List UInt8) (k : Nat) (hk : k ≤ l.length) : rdT l false k = l.take k ∧ rdL l false k = l.drop k ∧ rdB l false k = false := by
  refine ⟨?_, ?_, ?_⟩
  · unfold rdT; rw [if_neg (by simp; omega)]
  · unfold rdL; rw [if_neg (by decide), if_neg (by omega)]
  · unfold rdB; simp; omega
/-- What stands while a manifest is read: the result's variable, the reader. -/
structure Mst (w0 W : World) (rb pb : Nat) (l : List UInt8) : Prop where
  rd : RdAt W pb l false
  res : Blk W rb 82 zeroN.toArray
  bel : Below w0.heap.size w0 W
  lt : rb < pb
  ge : w0.heap.size ≤ rb
theorem Mst.step {w0 W W' : World} {rb pb : Nat} {l l' : List UInt8} (h : Mst w0 W rb pb l) (ho : Only [pb] W W') (hr : RdAt W' pb l' false) : Mst w0 W' rb pb l' :=
  ⟨hr, h.res.only ho (by have := h.lt; simp; omega), ho.below h.bel h.bel.size (by intro k hk; have := h.lt; have := h.ge; simp at hk; omega), h.lt, h.ge⟩
theorem Mst.turn {w0 W W' : World} {rb pb mb : Nat} {l : List UInt8} (h : Mst w0 W rb pb l) (ho : Only [mb] W W') (hm : pb < mb) : Mst w0 W' rb pb l :=
  ⟨h.rd.only ho (by intro k hk; simp at hk; omega), h.res.only ho (by have := h.lt; simp; omega), ho.below h.bel h.bel.size (by intro k hk; have := h.lt; have := h.ge; simp at hk; omega), h.lt, h.ge⟩
theorem Mst.later {w0 W W' : World} {rb pb : Nat} {l : List UInt8} (h : Mst w0 W rb pb l) (hb : Below W.heap.size W W') : Mst w0 W' rb pb l :=
  ⟨h.rd.below hb, h.res.below hb h.res.lt, h.bel.trans (hb.mono h.bel.size), h.lt, h.ge⟩
theorem Mst.alloc {w0 W : World} {rb pb : Nat} {l : List UInt8} (h : Mst w0 W rb pb l) (o : Obj) : Mst w0 (W.alloc o) rb pb l := h.later ((Below.refl _ _).alloc (Nat.le_refl _) _)
theorem mraw {w0 W : World} {rb pb : Nat} {l : List UInt8} (h : Mst w0 W rb pb l) (k : Nat) (hk : k ≤ l.length) (h1 : 1 ≤ k) (h2 : k ≤ 1000) :
    Calls Tryz.prog 120 #[ptr pb, .int .i64 (k : Int)] W fun e w' => ∃ A c, e = .returned (.slice A k c) ∧ w'.ownsRow W.heap.size 5 1 (.slice A k c) k ((l.take k).map u8v) ∧ Mst w0 w' rb pb (l.drop k) ∧ Only [pb] W w' := by
  obtain ⟨r1, r2, r3⟩ := rd_step l k hk
  refine (rraw_c W pb k l false h.rd h2 h1).mono ?_
  rintro e w' ⟨A, c, he, ho, hr, hn⟩
  rw [r1, List.length_take, Nat.min_eq_left hk] at he ho
  rw [r2, r3] at hr
  exact ⟨A, c, he, ho, h.step hn hr, hn⟩
theorem mnum {w0 W : World} {rb pb : Nat} {l : List UInt8} (h : Mst w0 W rb pb l) (k : Nat) (hk : k ≤ l.length) (h1 : 1 ≤ k) (h2 : k ≤ 7) :
    Calls Tryz.prog 122 #[ptr pb, .int .i64 (k : Int)] W fun e w' => e = .returned (.int .i64 ((ofBe (l.take k) : Nat) : Int)) ∧ Mst w0 w' rb pb (l.drop k) ∧ Only [pb] W w' := by
  obtain ⟨r1, r2, r3⟩ := rd_step l k hk
  refine (rnum_c W pb k l false h.rd h2 h1).mono ?_
  rintro e w' ⟨he, hr, hn⟩
  rw [r1] at he
  rw [r2, r3] at hr
  exact ⟨he, h.step hn hr, hn⟩
def mName (l : List UInt8) : List UInt8 := Lib.trimRightB ((l.drop 4).take 16) 0
def mImg (l : List UInt8) : Img := ⟨((ofBe ((l.drop 20).take 4) : Nat) : Int), ((ofBe ((l.drop 24).take 4) : Nat) : Int), (l.drop 28).take 32⟩
def mNum (n : Int) : Bool := decide (1 ≤ n) && decide (n ≤ 1073741824)
def mOk (l : List UInt8) : Bool := (l.take 4 == [87, 76, 77, 49]) && (validN ⟨(mName l).toArray⟩ && (mNum (mImg l).v && mNum (mImg l).s))
structure Mst2 (w0 W : World) (rb pb mb : Nat) (l : List UInt8) (nm : ByteArray) (i : Img) : Prop where
  st : Mst w0 W rb pb l
  m : Blk W mb 82 (manC nm i).toArray
  lt2 : pb < mb
section
variable {w0 W W' : World} {rb pb mb : Nat} {l : List UInt8} {nm : ByteArray} {i : Img}
theorem Mst2.later (h : Mst2 w0 W rb pb mb l nm i) (hb : Below W.heap.size W W') : Mst2 w0 W' rb pb mb l nm i := ⟨h.st.later hb, h.m.below hb h.m.lt, h.lt2⟩
theorem Mst2.raw (h : Mst2 w0 W rb pb mb l nm i) (k : Nat) (hk : k ≤ l.length) (h1 : 1 ≤ k) (h2 : k ≤ 1000) :
    Calls Tryz.prog 120 #[ptr pb, .int .i64 (k : Int)] W fun e w' => ∃ A c, e = .returned (.slice A k c) ∧ w'.ownsRow W.heap.size 5 1 (.slice A k c) k ((l.take k).map u8v) ∧ Mst2 w0 w' rb pb mb (l.drop k) nm i :=
  (mraw h.st k hk h1 h2).mono fun e w' ⟨A, c, he, ho, hm, hn⟩ => ⟨A, c, he, ho, hm, h.m.only hn (by have := h.lt2; simp; omega), h.lt2⟩
theorem Mst2.num (h : Mst2 w0 W rb pb mb l nm i) (k : Nat) (hk : k ≤ l.length) (h1 : 1 ≤ k) (h2 : k ≤ 7) :
    Calls Tryz.prog 122 #[ptr pb, .int .i64 (k : Int)] W fun e w' => e = .returned (.int .i64 ((ofBe (l.take k) : Nat) : Int)) ∧ Mst2 w0 w' rb pb mb (l.drop k) nm i :=
  (mnum h.st k hk h1 h2).mono fun e w' ⟨he, hm, hn⟩ => ⟨he, hm, h.m.only hn (by have := h.lt2; simp; omega), h.lt2⟩
theorem Mst2.setV (h : Mst2 w0 W rb pb mb l nm i) (v : Int) : Mst2 w0 (W.setCell ⟨mb, 1, none⟩ (i64v v)) rb pb mb l nm { i with v := v } := ⟨h.st.turn ((Only.refl _ _).setCell (.inl (by simp)) _) h.lt2, h.m.setV v, h.lt2⟩
theorem Mst2.setS (h : Mst2 w0 W rb pb mb l nm i) (v : Int) : Mst2 w0 (W.setCell ⟨mb, 2, none⟩ (i64v v)) rb pb mb l nm { i with s := v } := ⟨h.st.turn ((Only.refl _ _).setCell (.inl (by simp)) _) h.lt2, h.m.setS v, h.lt2⟩
theorem Mst.under {B : Nat} (h : Mst w0 W rb pb l) (hb : Below B W W') (hB : pb < B) : Mst w0 W' rb pb l := by
  obtain ⟨A, n, c, h1, h2, h3, h4, h5⟩ := h.rd
  have := h.lt
  have := h.ge
  exact ⟨⟨A, n, c, h1.below hb hB, h2.below' hb (fun a ha => Nat.lt_trans (h5 a ha) hB), h3, h4, h5⟩, h.res.below hb (by omega), h.bel.trans (hb.mono (by omega)), h.lt, h.ge⟩
theorem Mst2.cell (h : Mst2 w0 W rb pb mb l nm i) : W.cell? ⟨mb, 0, none⟩ = some (.string nm) ∧ W.cell? ⟨mb, 1, none⟩ = some (.int .i64 i.v) ∧ W.cell? ⟨mb, 2, none⟩ = some (.int .i64 i.s) := ⟨h.m.cell 0, h.m.cell 1, h.m.cell 2⟩
end
theorem reads_setRow {w : World} {A : Option Addr} {n g : Nat} {xs : List Value} (h : Reads w A n xs) (ha : ∀ a, A = some a → a.block ≠ g) (cs : Array Value) : Reads (w.setRow g cs) A n xs :=
  h.keep (by simp [World.setRow]) fun b hb ⟨o, e⟩ => setRow_other w g b cs (ha _ e)
theorem srcfN {w : World} {A : Option Addr} {n : Nat} {xs : List Value} (h : Reads w A n xs) : 0 < xs.length → ∃ x, A = some x ∧ ∀ j v, xs[j]? = some v → w.cell? (x.add j) = some v := by
  intro h0
  have hn : 0 < n := by rw [h.len] at h0; exact h0
  obtain ⟨b, o, rfl, _, hc⟩ := h.2 hn
  exact ⟨_, rfl, fun j v hj => by rw [add_off]; exact hc j v hj⟩
theorem info_s8n : (Tryz.prog.info? 5).map (·.size) = some 1 := by kernel_rfl
/-- What manifest.Read answers. -/
def ManRet (l : List UInt8) (e : Ending) (w' : World) : Prop :=
  ((l.length ≠ 92 ∨ mOk l = false) ∧ e = .returned (.tuple #[.agg zeroN.toArray, .slice none 0 0, .int .i64 6])) ∨
  (l.length = 92 ∧ mOk l = true ∧ ∃ A c, e = .returned (.tuple #[.agg (manC ⟨(mName l).toArray⟩ (mImg l)).toArray, .slice A 32 c, .int .i64 0]) ∧ Reads w' A 32 (((l.drop 60).take 32).map u8v))
theorem results_cell_tmp2 {P : Program} {fn : Func} {p q r : Tmp} {ty : TypeId} (h : fn.results = #[.cell p ty, .tmp q, .tmp r]) (tmps : Array Value) (w : World) (g : Nat) (t : TypeId) (cs : Array Value) (fr : Nat × Nat) (d : TypeDesc)
    (hp : tmps.getD p undef = .pointer (some ⟨g, 0, none⟩)) (hg : w.heap[g]? = some (.cells cs t fr))
    (hu : P.underlying ty = some d) (hd : (match d with | .struct _ | .array _ _ => true | _ => false) = true) (hi : (P.info? ty).map (·.size) = some cs.size) :
    (results fn tmps).run P w = .ok (.tuple #[.agg cs, tmps.getD q undef, tmps.getD r undef]) w := by
  have hp' : tmps[p]?.getD undef = .pointer (some ⟨g, 0, none⟩) := by simpa using hp
  simp [results, h, hp', asAddr, run_loadVar_row w g t ty cs fr d hg hu hd hi]
set_option maxRecDepth 100000 in
set_option maxHeartbeats 4000000 in
theorem mread_short (w : World) (A : Option Addr) (n c : Nat) (l : List UInt8) (hr : Reads w A n (l.map u8v)) (hl : l.length = n) (hn : n ≤ 100000) (h92 : n ≠ 92) :
    Calls Tryz.prog 65 #[.slice A n c] w fun e w' => ManRet l e w' ∧ Below w.heap.size w w' := by
  have hb0 := Blk.new w 82 zeroN.toArray
  have hst := run_sstN zeroN hb0 (by rw [List.size_toArray]; rfl) rfl (manC_one _ _)
  have hbd := fun W => run_sbN0 W
  have hne : ((n : Int) != 92) = true := by rw [bne_iff_ne]; omega
  rw [← zeroN_eq] at hst hb0 hbd
  have HB := Lib.hid hb0
  have HL := Lib.hid hl
  clear hb0 hr hl
  go_enter Tryz.func65, Tryz.ntmps65
  go_wp2_with fail
  refine bodyPost_ret (results_cell_tmp2 rfl _ _ w.heap.size 82 litN (0, 0) _ rfl (HB.out.setRow_m _) Tryz.underlying82 rfl (by rw [zeroN_eq]; exact info_sN)) rfl ?_
  exact ⟨Or.inl ⟨Or.inl (by rw [HL.out]; exact h92), by rw [← zeroN_eq]; rfl⟩, below_setRow_m ((Below.refl _ _).alloc (Nat.le_refl _) _) (Nat.le_refl _) _⟩
set_option maxRecDepth 100000 in
set_option maxHeartbeats 8000000 in
theorem mread_full (w : World) (A : Option Addr) (c : Nat) (l : List UInt8) (hr : Reads w A 92 (l.map u8v)) (hl : l.length = 92) :
    Calls Tryz.prog 65 #[.slice A 92 c] w fun e w' => ManRet l e w' ∧ Below w.heap.size w w' := by
  have hb0 := Blk.new w 82 zeroN.toArray
  have hbd := fun W => run_sbN0 W
  have hbd1 := fun nm W => run_sbN nm W
  have HR := Lib.hid (hr.alloc (.cells zeroN.toArray 82))
  have HL := Lib.hid hl
  have hbel : Below w.heap.size w (w.alloc (.cells zeroN.toArray 82)) := (Below.refl _ _).alloc (Nat.le_refl _) _
  have hsz : (w.alloc (.cells zeroN.toArray 82)).heap.size = w.heap.size + 1 := by simp
  have HB0 := Lib.hid hb0
  have HBEL := Lib.hid hbel
  have HSZ := Lib.hid hsz
  rw [← zeroN_eq] at HR HB0 HBEL HSZ hbd
  clear hb0 hr hl hbel hsz
  obtain ⟨IS, hIS⟩ : ∃ IS, (l.take 4 == [87, 76, 77, 49]) = IS := ⟨_, rfl⟩
  obtain ⟨VN, hVN⟩ : ∃ VN, validN ⟨(mName l).toArray⟩ = VN := ⟨_, rfl⟩
  have HIS := Lib.hid hIS
  have HVN := Lib.hid hVN
  clear hIS hVN
  go_enter Tryz.func65, Tryz.ntmps65
  go_wp2_with fail
  generalize w.alloc (.cells #[.string ⟨#[]⟩, .int .i64 0, .int .i64 0, .int .u8 0, .int .u8 0, .int .u8 0, .int .u8 0, .int .u8 0, .int .u8 0, .int .u8 0, .int .u8 0, .int .u8 0, .int .u8 0, .int .u8 0, .int .u8 0, .int .u8 0, .int .u8 0, .int .u8 0, .int .u8 0, .int .u8 0, .int .u8 0, .int .u8 0, .int .u8 0, .int .u8 0, .int .u8 0, .int .u8 0, .int .u8 0, .int .u8 0, .int .u8 0, .int .u8 0, .int .u8 0, .int .u8 0, .int .u8 0, .int .u8 0, .int .u8 0] 82) = W1 at HR HB0 HBEL HSZ ⊢
  refine (newReader_c _ A 92 c l HR.out (by omega)).mono ?_
  rintro e w2 ⟨pb, rfl, hpb, hrd, hb2⟩
  have H2 : Mst w w2 w.heap.size pb l := ⟨hrd, by rw [← zeroN_eq]; exact HB0.out.below hb2 HB0.out.lt, HBEL.out.trans (hb2.mono HBEL.out.size), by have := HSZ.out; omega, Nat.le_refl _⟩
  have HM2 := Lib.hid H2
  clear hrd hb2 H2 HR HB0 HBEL
  go_wp2_with fail
  refine (mraw HM2.out 4 (by rw [HL.out]; omega) (by omega) (by omega)).mono ?_
  rintro e w3 ⟨A3, c3, rfl, ho3, hm3, hn3⟩
  have hcv : (convert 22 9 (.slice A3 4 c3)).run Tryz.prog w3 = .ok (.string ⟨(l.take 4).toArray⟩) w3 := strAny _ A3 4 c3 (l.take 4) (Reads.of_own ho3)
  have HM3 := Lib.hid hm3
  clear ho3 hm3 hn3 HM2
  generalize hD : (⟨(l.take 4).toArray⟩ : ByteArray) = D at hcv
  have hbeq : (D.toList == [87, 76, 77, 49]) = IS := by rw [← hD, Lib.toList_data]; exact HIS.out
  go_upto_region 5 with fail
  clear hbeq hcv hD
  obtain ⟨NM, hNM⟩ : ∃ NM, (⟨(mName l).toArray⟩ : ByteArray) = NM := ⟨_, rfl⟩
  have htr : ∀ W, Calls Tryz.prog 121 #[.string ⟨((l.drop 4).take 16).toArray⟩, .string ⟨#[0]⟩] W fun e w' => e = .returned (.string NM) ∧ W = w' := fun W => by
    rw [← hNM]
    exact trimRight_c ⟨((l.drop 4).take 16).toArray⟩ W (by rw [Lib.size_mk, List.length_take]; omega)
  have hNs : NM.size ≤ 1000000 := by
    rw [← hNM, Lib.size_mk]
    unfold mName Lib.trimRightB
    rw [List.length_reverse]
    refine Nat.le_trans (List.dropWhile_sublist _).length_le ?_
    rw [List.length_reverse, List.length_take]
    omega
  have HNM := Lib.hid hNM
  have HNS := Lib.hid hNs
  clear hNM hNs
  go_wp2_with fail
  refine (mraw HM3.out 16 (by rw [List.length_drop, HL.out]; omega) (by omega) (by omega)).mono ?_
  rintro e w4 ⟨A4, c4, rfl, ho4, hm4, hn4⟩
  have hcv : (convert 22 9 (.slice A4 16 c4)).run Tryz.prog w4 = .ok (.string ⟨((l.drop 4).take 16).toArray⟩) w4 := strAny _ A4 16 c4 _ (Reads.of_own ho4)
  rw [List.drop_drop] at hm4
  have hlt4 := hm4.rd.lt
  have hb4 := Blk.new w4 82 zeroN.toArray
  have hst4 := run_sstN (manC NM Img.zero) hb4 (by rw [List.size_toArray]; rfl) (manC_len rfl _) (manC_one _ _)
  have hm5 := hm4.later (below_setRow_m ((Below.refl w4.heap.size w4).alloc (Nat.le_refl _) (.cells zeroN.toArray 82)) (Nat.le_refl _) (manC NM Img.zero).toArray)
  have hX5 : Mst2 w _ w.heap.size pb w4.heap.size (l.drop 20) NM Img.zero := ⟨hm5, hb4.setRow_m _, hlt4⟩
  rw [← zeroN_eq] at hst4 hX5
  obtain ⟨mb, hmb⟩ : ∃ mb, w4.heap.size = mb := ⟨_, rfl⟩
  rw [hmb] at hst4 hX5
  obtain ⟨MC, hMC⟩ : ∃ MC, (manC NM Img.zero).toArray = MC := ⟨_, rfl⟩
  have hbd2 := hbd1 NM
  rw [hMC] at hst4 hX5 hbd2
  have HX5 := Lib.hid hX5
  clear ho4 hm4 hn4 HM3 hlt4 hb4 hm5 hX5 hbd1
  go_wp2_with fail
  refine (htr _).mono ?_
  rintro e w4' ⟨rfl, rfl⟩
  go_upto_region 6 with fail
  have hX5 := HX5.out
  clear HX5 hst4 hcv htr hbd2 hMC hmb
  generalize World.setRow _ mb MC = W5 at hX5 ⊢
  have HX := Lib.hid hX5
  clear hX5
  go_wp2_with fail
  refine (HX.out.num 4 (by rw [List.length_drop, HL.out]; omega) (by omega) (by omega)).mono ?_
  rintro e w6 ⟨rfl, hX6⟩
  rw [List.drop_drop] at hX6
  obtain ⟨VV, hVV⟩ : ∃ VV : Int, ((ofBe ((l.drop 20).take 4) : Nat) : Int) = VV := ⟨_, rfl⟩
  rw [hVV]
  have k1 := hX6.cell.2.1
  have f1 := hX6.m.frozen 1
  have HX7 := Lib.hid (hX6.setV VV)
  have HVV := Lib.hid hVV
  clear hX6 HX hVV
  go_upto_region 7 with fail
  have hX7 := HX7.out
  clear HX7 k1 f1
  generalize World.setCell w6 (⟨mb, 1, none⟩ : Addr) (i64v VV) = W7 at hX7 ⊢
  have HX := Lib.hid hX7
  clear hX7
  go_wp2_with fail
  refine (HX.out.num 4 (by rw [List.length_drop, HL.out]; omega) (by omega) (by omega)).mono ?_
  rintro e w7 ⟨rfl, hX8⟩
  rw [List.drop_drop] at hX8
  obtain ⟨SS, hSS⟩ : ∃ SS : Int, ((ofBe ((l.drop 24).take 4) : Nat) : Int) = SS := ⟨_, rfl⟩
  rw [hSS]
  have k1 := hX8.cell.2.2
  have f1 := hX8.m.frozen 2
  have HX8 := Lib.hid (hX8.setS SS)
  have HSS := Lib.hid hSS
  clear hX8 HX hSS
  go_upto_region 8 with fail
  have hX8 := HX8.out
  clear HX8 k1 f1
  generalize World.setCell w7 (⟨mb, 2, none⟩ : Addr) (i64v SS) = W8 at hX8 ⊢
  have HX := Lib.hid (hX8.later (Below.refl W8.heap.size W8).drew)
  have hs0 := HX.out.cell.1
  clear hX8
  refine wp_region_held_drew (S := (fun W => W.cell? ⟨mb, 0, none⟩ = some (.string NM))) (by kernel_rfl) ?_ (fun hHeld => ?_)
  · exact hs0
  refine tk 0 (h := ?_)
  refine tk 1 (h := ?_)
  refine tk 2 (h := ?_)
  refine tk 3 (h := ?_)
  refine rd 4 (h := fun K hK => ?_)
  go_simp
  refine (HX.out.raw 32 (by rw [List.length_drop, HL.out]; omega) (by omega) (by omega)).mono ?_; rintro e w9 ⟨A9, c9, rfl, ho9, hX9⟩; have HX := Lib.hid hX9; have HO := Lib.hid ho9; clear hX9 ho9
  go_wp2_with fail
  refine so hK (by (try dsimp only); (exact HX.out.cell.1)) (h := fun hHeld => ?_)
  clear hK K
  refine rd 5 (h := fun K hK => ?_)
  refine step_copy_splice rfl (.tmp 33) (.tmp 35) 22 22 (by rfl) 5 Tryz.underlying22 info_s8n (some ⟨mb, 3, none⟩) A9 32 32 32 c9 (by rfl) (by rfl) mb 3 (manC NM ⟨VV, SS, Img.zero.d⟩) 82 HX.out.m (((l.drop 28).take 32).map u8v) (by rw [List.length_map, List.length_take, List.length_drop, HL.out]; rfl) (fun h => ⟨rfl, srcfN (Reads.of_own HO.out) h⟩) (by rw [List.length_map, List.length_take, List.length_drop, HL.out, manC_len rfl]; omega) (u8v_one _) mb w9 (Below.refl _ _) (Nat.le_refl _) ?_
  intro w10 hg10 hb10
  have hg11 := hg10.out
  rw [splice_man rfl _ (by rw [List.length_take, List.length_drop, HL.out]; rfl)] at hg11
  have HX := Lib.hid (show Mst2 w w10 w.heap.size pb mb _ NM ⟨VV, SS, (l.drop 28).take 32⟩ from ⟨HX.out.st.under hb10 HX.out.lt2, hg11, HX.out.lt2⟩)
  clear hg10 hg11 hb10 HO
  refine so hK (by (try dsimp only); (exact HX.out.cell.1)) (h := fun hHeld => ?_)
  clear hK K
  refine wpAnyH_done (by kernel_rfl) ?_ _
  try simp only [Act.put, List.getElem_toArray, List.getElem_cons_succ, List.getElem_cons_zero, List.setIfInBounds_toArray, List.set_cons_zero, List.set_cons_succ]
  have himg : mImg l = ⟨VV, SS, (l.drop 28).take 32⟩ := by rw [← HVV.out, ← HSS.out]; rfl
  have HIMG := Lib.hid himg
  clear himg hs0 HVV HSS
  go_upto_region 9 with fail
  rw [HNM.out] at HVN
  obtain ⟨k0, k1, k2⟩ := HX.out.cell
  simp only at k1 k2
  obtain ⟨NV, hNV⟩ : ∃ NV, mNum VV = NV := ⟨_, rfl⟩
  obtain ⟨NS, hNS⟩ : ∃ NS, mNum SS = NS := ⟨_, rfl⟩
  have hnum1 : ∀ W, Calls Tryz.prog 123 #[.int .i64 VV] W fun e w' => e = .returned (.bool NV) ∧ W = w' := fun W => hNV ▸ mnumber_c VV W
  have hnum2 : ∀ W, Calls Tryz.prog 123 #[.int .i64 SS] W fun e w' => e = .returned (.bool NS) ∧ W = w' := fun W => hNS ▸ mnumber_c SS W
  have HNV := Lib.hid hNV
  have HNSS := Lib.hid hNS
  clear hNV hNS
  cases IS
  · have hst := run_sstN zeroN HX.out.st.res (by rw [List.size_toArray]; rfl) rfl (manC_one _ _)
    rw [← zeroN_eq] at hst
    go_wp2_with fail
    refine bodyPost_ret (results_cell_tmp2 rfl _ _ w.heap.size 82 litN (0, 0) _ rfl (HX.out.st.res.setRow_m _) Tryz.underlying82 rfl (by rw [zeroN_eq]; exact info_sN)) rfl ?_
    exact ⟨Or.inl ⟨Or.inr (by unfold mOk; rw [HIMG.out, HIS.out, HNM.out, HVN.out]; rfl), by rw [← zeroN_eq]; rfl⟩, below_setRow_m HX.out.st.bel (Nat.le_refl _) _⟩
  cases VN
  · go_wp2_with fail
    refine (nvalid_c NM HNS.out _).mono ?_
    rintro e w11 ⟨rfl, hb11⟩
    have HX := Lib.hid (HX.out.later hb11)
    clear hb11 k0 k1 k2
    obtain ⟨k0, k1, k2⟩ := HX.out.cell
    rw [HVN.out]
    have hst := run_sstN zeroN HX.out.st.res (by rw [List.size_toArray]; rfl) rfl (manC_one _ _)
    rw [← zeroN_eq] at hst
    go_wp2_with fail
    refine bodyPost_ret (results_cell_tmp2 rfl _ _ w.heap.size 82 litN (0, 0) _ rfl (HX.out.st.res.setRow_m _) Tryz.underlying82 rfl (by rw [zeroN_eq]; exact info_sN)) rfl ?_
    exact ⟨Or.inl ⟨Or.inr (by unfold mOk; rw [HIMG.out, HIS.out, HNM.out, HVN.out]; rfl), by rw [← zeroN_eq]; rfl⟩, below_setRow_m HX.out.st.bel (Nat.le_refl _) _⟩
  cases NV
  · go_wp2_with fail
    refine (nvalid_c NM HNS.out _).mono ?_
    rintro e w11 ⟨rfl, hb11⟩
    have HX := Lib.hid (HX.out.later hb11)
    clear hb11 k0 k1 k2
    obtain ⟨k0, k1, k2⟩ := HX.out.cell
    rw [HVN.out]
    go_wp2_with fail
    refine (hnum1 _).mono ?_
    rintro e w12 ⟨rfl, rfl⟩
    have hst := run_sstN zeroN HX.out.st.res (by rw [List.size_toArray]; rfl) rfl (manC_one _ _)
    rw [← zeroN_eq] at hst
    go_wp2_with fail
    refine bodyPost_ret (results_cell_tmp2 rfl _ _ w.heap.size 82 litN (0, 0) _ rfl (HX.out.st.res.setRow_m _) Tryz.underlying82 rfl (by rw [zeroN_eq]; exact info_sN)) rfl ?_
    exact ⟨Or.inl ⟨Or.inr (by unfold mOk; rw [HIMG.out, HIS.out, HNM.out, HVN.out]; (show (true && (true && (mNum VV && mNum SS))) = false); rw [HNV.out]; rfl), by rw [← zeroN_eq]; rfl⟩, below_setRow_m HX.out.st.bel (Nat.le_refl _) _⟩
  cases NS
  · go_wp2_with fail
    refine (nvalid_c NM HNS.out _).mono ?_
    rintro e w11 ⟨rfl, hb11⟩
    have HX := Lib.hid (HX.out.later hb11)
    clear hb11 k0 k1 k2
    obtain ⟨k0, k1, k2⟩ := HX.out.cell
    rw [HVN.out]
    go_wp2_with fail
    refine (hnum1 _).mono ?_
    rintro e w12 ⟨rfl, rfl⟩
    go_wp2_with fail
    refine (hnum2 _).mono ?_
    rintro e w13 ⟨rfl, rfl⟩
    have hst := run_sstN zeroN HX.out.st.res (by rw [List.size_toArray]; rfl) rfl (manC_one _ _)
    rw [← zeroN_eq] at hst
    go_wp2_with fail
    refine bodyPost_ret (results_cell_tmp2 rfl _ _ w.heap.size 82 litN (0, 0) _ rfl (HX.out.st.res.setRow_m _) Tryz.underlying82 rfl (by rw [zeroN_eq]; exact info_sN)) rfl ?_
    exact ⟨Or.inl ⟨Or.inr (by unfold mOk; rw [HIMG.out, HIS.out, HNM.out, HVN.out]; (show (true && (true && (mNum VV && mNum SS))) = false); rw [HNV.out, HNSS.out]; rfl), by rw [← zeroN_eq]; rfl⟩, below_setRow_m HX.out.st.bel (Nat.le_refl _) _⟩
  go_wp2_with fail
  refine (nvalid_c NM HNS.out _).mono ?_
  rintro e w11 ⟨rfl, hb11⟩
  have HX := Lib.hid (HX.out.later hb11)
  clear hb11 k0 k1 k2
  obtain ⟨k0, k1, k2⟩ := HX.out.cell
  rw [HVN.out]
  go_wp2_with fail
  refine (hnum1 _).mono ?_
  rintro e w12 ⟨rfl, rfl⟩
  go_wp2_with fail
  refine (hnum2 _).mono ?_
  rintro e w13 ⟨rfl, rfl⟩
  go_upto_region 11 with fail
  clear k0 k1 k2
  have hS11 : ∀ W, Blk W mb 82 (manC NM ⟨VV, SS, (l.drop 28).take 32⟩).toArray → (sldN (.pointer (some ⟨mb, 0, none⟩))).run Tryz.prog W = .ok (.agg (manC NM ⟨VV, SS, (l.drop 28).take 32⟩).toArray) W := fun W hX =>
    run_sldN (manC_len (by show ((l.drop 28).take 32).length = 32; rw [List.length_take, List.length_drop, HL.out]; rfl) _) hX.whole
  have hl35 : (manC NM ⟨VV, SS, (l.drop 28).take 32⟩).length = 35 := manC_len (by show ((l.drop 28).take 32).length = 32; rw [List.length_take, List.length_drop, HL.out]; rfl) _
  have hone := manC_one NM ⟨VV, SS, (l.drop 28).take 32⟩
  obtain ⟨RN, hRN⟩ : ∃ RN, manC NM ⟨VV, SS, (l.drop 28).take 32⟩ = RN := ⟨_, rfl⟩
  rw [hRN] at hS11 hl35 hone
  have HS11 := Lib.hid hS11
  have HL35 := Lib.hid hl35
  have HONE := Lib.hid hone
  have HRN := Lib.hid hRN
  clear hS11 hl35 hone hRN
  have HX := Lib.hid (show Mst2 w _ w.heap.size pb mb (l.drop 60) NM ⟨VV, SS, (l.drop 28).take 32⟩ by have q := HX.out.later (Below.refl _ _).drew; rw [List.drop_drop] at q; exact q)
  have hs0 := HS11.out _ (HRN.out ▸ HX.out.m)
  refine wp_region_held_drew (S := (fun W => (sldN (.pointer (some ⟨mb, 0, none⟩))).run Tryz.prog W = .ok (.agg RN.toArray) W)) (by kernel_rfl) ?_ (fun hHeld => ?_)
  · exact hs0
  refine tk 0 (h := ?_)
  refine tk 1 (h := ?_)
  refine rd 2 (h := fun K hK => ?_)
  go_simp
  refine (HX.out.raw 32 (by rw [List.length_drop, HL.out]; omega) (by omega) (by omega)).mono ?_; rintro e w14 ⟨A14, c14, rfl, ho14, hX14⟩; have HST := Lib.hid hX14.st; have HO := Lib.hid (Reads.of_own ho14); have hm14 := hX14.m; rw [HRN.out] at hm14; have hsl := HS11.out _ hm14; have HM14 := Lib.hid hm14; have hst := run_sstN RN hX14.st.res (by rw [List.size_toArray]; rfl) HL35.out HONE.out; have HLT := Lib.hid hX14.lt2; have HAP := Lib.hid (show ∀ a, A14 = some a → a.block ≠ w.heap.size from fun a ha => by (subst ha; have h1 := (ho14.lt a.block rfl).1; have h2 := HX.out.m.lt; have h3 := HX.out.lt2; have h4 := HX.out.st.lt; omega)); clear hX14 ho14 hm14
  go_wp2_with fail
  refine so hK (by (try dsimp only); (exact hsl)) (h := fun hHeld => ?_)
  clear hK K
  refine rd 3 (h := fun K hK => ?_)
  go_simp
  have HR15 := Lib.hid (HST.out.res.setRow_m RN.toArray)
  have hm15 := HM14.out.setRow_mf (g := w.heap.size) RN.toArray (by have := HST.out.lt; have := HLT.out; omega)
  have HO := Lib.hid (reads_setRow HO.out HAP.out RN.toArray)
  have HB15 := Lib.hid (below_setRow_m HST.out.bel (Nat.le_refl _) RN.toArray)
  have hsl := HS11.out _ hm15
  clear hst hm15
  refine so hK (by (try dsimp only); (exact hsl)) (h := fun hHeld => ?_)
  clear hK K
  refine rd 4 (h := fun K hK => ?_)
  go_simp
  refine so hK (by (try dsimp only); (exact hsl)) (h := fun hHeld => ?_)
  clear hK K
  refine rd 5 (h := fun K hK => ?_)
  go_simp
  refine so hK (by (try dsimp only); (exact hsl)) (h := fun hHeld => ?_)
  clear hK K
  refine wpAnyH_done (by kernel_rfl) ?_ _
  try simp only [Act.put, List.getElem_toArray, List.getElem_cons_succ, List.getElem_cons_zero, List.setIfInBounds_toArray, List.set_cons_zero, List.set_cons_succ]
  go_wp2_with fail
  refine bodyPost_ret (results_cell_tmp2 rfl _ _ w.heap.size 82 RN.toArray (0, 0) _ rfl HR15.out Tryz.underlying82 rfl (by rw [List.size_toArray, HL35.out]; exact info_sN)) rfl ?_
  refine ⟨Or.inr ⟨HL.out, by unfold mOk; rw [HIMG.out, HIS.out, HNM.out, HVN.out]; show (true && (true && (mNum VV && mNum SS))) = true; rw [HNV.out, HNSS.out]; rfl, A14, c14, ?_, HO.out⟩, HB15.out⟩
  rw [HNM.out, HIMG.out, HRN.out]
  rfl
end Go.Proofs.YtpafenlcgcenlaaGreatDoor
