/- The reference's Model: in the world, made, looked at. -/
import Derived.Test.YtpafenlcgcenlaaGreatDoorHeldTk
import Derived.Test.YtpafenlcgcenlaaGreatDoorMdY
import Derived.Test.YtpafenlcgcenlaaGreatDoorRcg
import Derived.Test.YtpafenlcgcenlaaGreatDoorRsB
import Derived.Deep.RegionHeld3
import Derived.Deep.DrawnRows
namespace Go.Proofs.YtpafenlcgcenlaaGreatDoor
open Go Go.RowKit
set_option linter.unusedVariables false
set_option linter.unusedSimpArgs false
noncomputable def sbRm (parts : Array (Nat × Value)) : Sem Value := Instr.build 49 parts
theorem sbRm_seal (parts : Array (Nat × Value)) : Instr.build 49 parts = sbRm parts := rfl
theorem builtRm (parts : List (Nat × Value)) : Tryz.prog.built 49 parts = Instr.fill (#[(0, 7), (7, 107), (114, 2)][·]?) Tryz.zeroCells49 parts := by kernel_rfl
theorem zeroRm : Tryz.zeroCells49 = (mdC zeroCf Mt.zero (.slice none 0 0) (.slice none 0 0)).toArray := by kernel_rfl
theorem run_sbRm (cf : List Value) (hc : cf.length = 7) (w : World) : (sbRm #[(0, .agg cf.toArray)]).run Tryz.prog w = .ok (.agg (mdC cf Mt.zero (.slice none 0 0) (.slice none 0 0)).toArray) w := by
  refine run_build w _ _ _ ?_
  rw [builtRm, zeroRm, fill_one _ _ cf 0 0 [] (by rw [hc]; rfl) (by rw [hc, mdC_len (cf := zeroCf) rfl Mt.zero_ok]; decide)]
  rw [hc]
  rfl
/-- The reference's Model in the world. -/
structure RmAt (w : World) (B b : Nat) (c : Cf) (m : Mt) (l0 l1 : List UInt8) (K : Option Addr) (kc : Nat) (F : Option Addr) (fc : Nat) (S0 : Option Addr) (c0 : Nat) (S1 : Option Addr) (c1 : Nat) : Prop where
  blk : Blk w b 49 (mdC (c.cells K kc F fc) m (.slice S0 l0.length c0) (.slice S1 l1.length c1)).toArray
  ok : m.Ok
  key : Reads w K c.key.length (c.key.map u8v)
  s0 : w.ownsRow B 5 1 (.slice S0 l0.length c0) l0.length (l0.map u8v)
  s1 : w.ownsRow B 5 1 (.slice S1 l1.length c1) l1.length (l1.map u8v)
  ge : B ≤ b
  kb : ∀ a, K = some a → a.block < B
  ap : ∀ k, (Value.slice S0 l0.length c0).ownBlock = some k → (Value.slice S1 l1.length c1).ownBlock ≠ some k
section
variable {w w' : World} {B b : Nat} {c : Cf} {m : Mt} {l0 l1 : List UInt8} {K : Option Addr} {kc : Nat} {F : Option Addr} {fc : Nat} {S0 : Option Addr} {c0 : Nat} {S1 : Option Addr} {c1 : Nat}
theorem RmAt.below (h : RmAt w B b c m l0 l1 K kc F fc S0 c0 S1 c1) (hb : Below w.heap.size w w') : RmAt w' B b c m l0 l1 K kc F fc S0 c0 S1 c1 :=
  ⟨h.blk.below hb h.blk.lt, h.ok, h.key.below hb, own_only h.s0 (Only.of_below (S := []) hb) (by simp), own_only h.s1 (Only.of_below (S := []) hb) (by simp), h.ge, h.kb, h.ap⟩
theorem RmAt.cellC (h : RmAt w B b c m l0 l1 K kc F fc S0 c0 S1 c1) (k : Nat) (hk : k < 7) : w.cell? ⟨b, k, none⟩ = (c.cells K kc F fc)[k]? := by
  rw [h.blk.cell k, List.getElem?_toArray]
  unfold mdC
  rw [List.getElem?_append_left (by rw [Cf.cells_len]; exact hk)]
theorem RmAt.cellM (h : RmAt w B b c m l0 l1 K kc F fc S0 c0 S1 c1) (k : Nat) (hk : k < 107) : w.cell? ⟨b, 7 + k, none⟩ = m.cells[k]? := by
  have hm := Mt.cells_len h.ok
  rw [h.blk.cell (7 + k), List.getElem?_toArray]
  unfold mdC
  rw [List.getElem?_append_right (by rw [Cf.cells_len]; omega), Cf.cells_len, show 7 + k - 7 = k from by omega, List.getElem?_append_left (by omega)]
theorem RmAt.cell0 (h : RmAt w B b c m l0 l1 K kc F fc S0 c0 S1 c1) : w.cell? ⟨b, 114, none⟩ = some (.slice S0 l0.length c0) := by
  have hm := Mt.cells_len h.ok
  rw [h.blk.cell 114, List.getElem?_toArray]
  unfold mdC
  rw [List.getElem?_append_right (by rw [Cf.cells_len]; omega), Cf.cells_len, List.getElem?_append_right (by omega), hm]
  rfl
theorem RmAt.cell1 (h : RmAt w B b c m l0 l1 K kc F fc S0 c0 S1 c1) : w.cell? ⟨b, 115, none⟩ = some (.slice S1 l1.length c1) := by
  have hm := Mt.cells_len h.ok
  rw [h.blk.cell 115, List.getElem?_toArray]
  unfold mdC
  rw [List.getElem?_append_right (by rw [Cf.cells_len]; omega), Cf.cells_len, List.getElem?_append_right (by omega), hm]
  rfl
theorem RmAt.range (h : RmAt w B b c m l0 l1 K kc F fc S0 c0 S1 c1) : w.rangeAt b 7 m.cells := fun j v hj => by
  have hm := Mt.cells_len h.ok
  have hlt : j < 107 := by
    rcases Nat.lt_or_ge j 107 with q | q
    · exact q
    · rw [List.getElem?_eq_none (by omega)] at hj; cases hj
  rw [h.cellM j hlt, hj]
/-- Another world, in which the block is told anew and the rows stand. -/
theorem RmAt.turn (h : RmAt w B b c m l0 l1 K kc F fc S0 c0 S1 c1) {m' : Mt} (h' : m'.Ok) (ho : Only [b] w w') (hb : Blk w' b 49 (mdC (c.cells K kc F fc) m' (.slice S0 l0.length c0) (.slice S1 l1.length c1)).toArray) : RmAt w' B b c m' l0 l1 K kc F fc S0 c0 S1 c1 := by
  have hn : ∀ {n cc : Nat} {A : Option Addr} {xs : List Value}, w.ownsRow B 5 1 (.slice A n cc) n xs → w'.ownsRow B 5 1 (.slice A n cc) n xs := fun hw => own_only hw ho (fun k hk => by
    simp only [List.mem_cons, List.not_mem_nil, or_false]
    rintro rfl
    exact own_blk_ne hw h.blk (by decide) hk)
  exact ⟨hb, h', h.key.only ho (fun a e => by have := h.kb a e; have := h.ge; simp; omega), hn h.s0, hn h.s1, h.ge, h.kb, h.ap⟩
theorem RmAt.putH0 (h : RmAt w B b c m l0 l1 K kc F fc S0 c0 S1 c1) (i : Img) (hi : i.d.length = 32) : RmAt (w.setCells b 8 i.cells) B b c { m with h0 := i } l0 l1 K kc F fc S0 c0 S1 c1 := by
  have hb := Blk.setCells i.cells 8 w _ h.blk (by rw [mdC_len (c.cells_len K kc F fc) h.ok, Img.cells_len hi]; omega)
  rw [mdC_put0 (c.cells_len K kc F fc) h.ok i hi] at hb
  exact h.turn ⟨hi, h.ok.d1, h.ok.d2, h.ok.act⟩ (only_setCells _ _ _ (Only.refl _ _)) hb
theorem RmAt.putM (h : RmAt w B b c m l0 l1 K kc F fc S0 c0 S1 c1) (m' : Mt) (h' : m'.Ok) : RmAt (w.setCells b 7 m'.cells) B b c m' l0 l1 K kc F fc S0 c0 S1 c1 := by
  have hb := Blk.setCells m'.cells 7 w _ h.blk (by rw [mdC_len (c.cells_len K kc F fc) h.ok, Mt.cells_len h']; omega)
  rw [mdC_putM (c.cells_len K kc F fc) h.ok h'] at hb
  exact h.turn h' (only_setCells _ _ _ (Only.refl _ _)) hb
theorem RmAt.putR (h : RmAt w B b c m l0 l1 K kc F fc S0 c0 S1 c1) {g : Nat} {t : TypeId} {old : Array Value} (hB : Blk w g t old) (hg : B ≤ g) (ht : t ≠ 5) (ht2 : t ≠ 49) (cs : Array Value) : RmAt (w.setRow g cs) B b c m l0 l1 K kc F fc S0 c0 S1 c1 := by
  have ho : Only [g] w (w.setRow g cs) := (Only.refl [g] w).rowM (.inl (by simp)) cs
  have hn : ∀ {n cc : Nat} {A : Option Addr} {xs : List Value}, w.ownsRow B 5 1 (.slice A n cc) n xs → (w.setRow g cs).ownsRow B 5 1 (.slice A n cc) n xs := fun hw => own_only hw ho (fun k hk => by
    simp only [List.mem_cons, List.not_mem_nil, or_false]
    rintro rfl
    exact own_blk_ne hw hB (Ne.symm ht) hk)
  exact ⟨h.blk.setRow_mf cs (Blk.ne_ h.blk hB (Ne.symm ht2)), h.ok, h.key.only ho (fun a e => by have := h.kb a e; simp; omega), hn h.s0, hn h.s1, h.ge, h.kb, h.ap⟩
/-- Another slice stored into a slot, in a world in which no more than its row has turned. -/
theorem RmAt.setS0 (h : RmAt w B b c m l0 l1 K kc F fc S0 c0 S1 c1) {A : Option Addr} {n cc : Nat} {l : List UInt8} (hl : l.length = n) (ho : w.ownsRow B 5 1 (.slice A n cc) n (l.map u8v)) (hf : ∀ k, (Value.slice A n cc).ownBlock = some k → (Value.slice S1 l1.length c1).ownBlock ≠ some k) : RmAt (w.setCell ⟨b, 114, none⟩ (.slice A n cc)) B b c m l l1 K kc F fc A cc S1 c1 := by
  subst hl
  have hb := h.blk.set_ 114 (.slice A l.length cc)
  rw [mdC_set0 (c.cells_len K kc F fc) h.ok] at hb
  exact ⟨hb, h.ok, h.key.setCell (fun a e => by have := h.kb a e; have := h.ge; show a.block ≠ b; omega) _, own_setM ho h.blk (by decide) _, own_setM h.s1 h.blk (by decide) _, h.ge, h.kb, hf⟩
theorem RmAt.setS1 (h : RmAt w B b c m l0 l1 K kc F fc S0 c0 S1 c1) {A : Option Addr} {n cc : Nat} {l : List UInt8} (hl : l.length = n) (ho : w.ownsRow B 5 1 (.slice A n cc) n (l.map u8v)) (hf : ∀ k, (Value.slice A n cc).ownBlock = some k → (Value.slice S0 l0.length c0).ownBlock ≠ some k) : RmAt (w.setCell ⟨b, 115, none⟩ (.slice A n cc)) B b c m l0 l K kc F fc S0 c0 A cc := by
  subst hl
  have hb := h.blk.set_ 115 (.slice A l.length cc)
  rw [mdC_set1 (c.cells_len K kc F fc) h.ok] at hb
  exact ⟨hb, h.ok, h.key.setCell (fun a e => by have := h.kb a e; have := h.ge; show a.block ≠ b; omega) _, own_setM h.s0 h.blk (by decide) _, own_setM ho h.blk (by decide) _, h.ge, h.kb, fun k e e2 => hf k e2 e⟩
end
/-- While a Model is made: the Config's box, the Model. -/
structure RnAt (w0 W : World) (B b : Nat) (c : Cf) (m : Mt) (l0 l1 : List UInt8) (K : Option Addr) (kc : Nat) (F : Option Addr) (fc : Nat) (S0 : Option Addr) (c0 : Nat) (S1 : Option Addr) (c1 : Nat) : Prop where
  box : Blk W w0.heap.size 24 (c.cells K kc F fc).toArray
  md : RmAt W B b c m l0 l1 K kc F fc S0 c0 S1 c1
  bel : Below w0.heap.size w0 W
theorem RnAt.later {w0 W W' : World} {B b : Nat} {c : Cf} {m : Mt} {l0 l1 : List UInt8} {K : Option Addr} {kc : Nat} {F : Option Addr} {fc : Nat} {S0 : Option Addr} {c0 : Nat} {S1 : Option Addr} {c1 : Nat} (h : RnAt w0 W B b c m l0 l1 K kc F fc S0 c0 S1 c1) (hb : Below W.heap.size W W') : RnAt w0 W' B b c m l0 l1 K kc F fc S0 c0 S1 c1 := ⟨h.box.below hb h.box.lt, h.md.below hb, h.bel.trans (hb.mono h.bel.size)⟩
attribute [local go_sem ↓] sldK_seal sbRm_seal sldI_seal sldM_seal sbI_seal sstI_seal
set_option maxRecDepth 100000 in
set_option maxHeartbeats 4000000 in
theorem rmnew_no (w : World) (c : Cf) (K : Option Addr) (kc : Nat) (F : Option Addr) (fc : Nat) (hs : c.nm.size ≤ 1000000) (hno : c.right = false) : Calls Tryz.prog 9 #[.agg (c.cells K kc F fc).toArray] w fun e w' => e = .returned (.pointer none) ∧ Below w.heap.size w w' := by
  have hB0 := Blk.new w 24 (c.cells K kc F fc).toArray
  have hb0 : Below w.heap.size w (w.alloc (.cells (c.cells K kc F fc).toArray 24)) := (Below.refl _ _).alloc (Nat.le_refl _) _
  have hld := run_sldK (c.cells_len K kc F fc) (hB0.whole)
  have hri := fun W => rcright_c W c K kc F fc hs
  rw [hno] at hri
  have HL := Lib.hid hb0
  clear hB0 hb0 hno
  go_enter Tryz.func9, Tryz.ntmps9
  go_wp2_with fail
  refine (hri _).mono ?_
  rintro e w1 ⟨rfl, hb1⟩
  have HL1 := Lib.hid (HL.out.trans (hb1.mono HL.out.size))
  clear hb1 hri
  go_wp2_with fail
  go_ret
  exact ⟨rfl, HL1.out⟩
set_option maxRecDepth 100000 in
set_option maxHeartbeats 8000000 in
theorem rmnew_yes (w : World) (c : Cf) (K : Option Addr) (kc : Nat) (F : Option Addr) (fc : Nat) (hs : c.nm.size ≤ 1000000) (hK : Reads w K c.key.length (c.key.map u8v)) (hKb : ∀ a, K = some a → a.block < w.heap.size) (hF : Reads w F c.first.length (c.first.map u8v)) (hfl : c.first.length ≤ 100000) (hyes : c.right = true) : Calls Tryz.prog 9 #[.agg (c.cells K kc F fc).toArray] w fun e w' => ∃ (b : Nat) (S0 : Option Addr) (c0 : Nat), e = .returned (.pointer (some ⟨b, 0, none⟩)) ∧ RmAt w' w.heap.size b c (newM c) c.first [] K kc F fc S0 c0 none 0 ∧ Below w.heap.size w w' := by
  have hB0 := Blk.new w 24 (c.cells K kc F fc).toArray
  have hb0 : Below w.heap.size w (w.alloc (.cells (c.cells K kc F fc).toArray 24)) := (Below.refl _ _).alloc (Nat.le_refl _) _
  have hld := run_sldK (c.cells_len K kc F fc) (hB0.whole)
  have hri := fun W => rcright_c W c K kc F fc hs
  rw [hyes] at hri
  obtain ⟨i0, hi8, hz0, hz1, hz2⟩ := info_parts info_u8
  have HL := Lib.hid hb0
  have HB0 := Lib.hid hB0
  have HK := Lib.hid hK
  have HF := Lib.hid hF
  have HKB := Lib.hid hKb
  have HI8 := Lib.hid hi8
  have HZ0 := Lib.hid hz0
  have HZ1 := Lib.hid hz1
  have HZ2 := Lib.hid hz2
  have HFL := Lib.hid hfl
  clear hB0 hb0 hyes hK hF hKb hi8 hz0 hz1 hz2 hfl
  go_enter Tryz.func9, Tryz.ntmps9
  go_wp2_with fail
  refine (hri _).mono ?_
  rintro e w1 ⟨rfl, hb1⟩
  have hB1 := HB0.out.below hb1 HB0.out.lt
  have hL1 := HL.out.trans (hb1.mono HL.out.size)
  have hld := run_sldK (c.cells_len K kc F fc) (hB1.whole)
  have hbd := fun W => run_sbRm (c.cells K kc F fc) rfl W
  have hmd : RnAt w (w1.alloc (.cells (mdC (c.cells K kc F fc) Mt.zero (.slice none 0 0) (.slice none 0 0)).toArray 49)) w.heap.size w1.heap.size c Mt.zero [] [] K kc F fc none 0 none 0 :=
    ⟨hB1.alloc _, ⟨Blk.new w1 _ _, Mt.zero_ok, (HK.out.below hL1).alloc _, own_noneM, own_noneM, hL1.size, HKB.out, fun k hk => absurd hk (by simp [Value.ownBlock])⟩, hL1.alloc hL1.size _⟩
  have HMD := Lib.hid hmd
  clear hb1 hri HB0 HL hB1 hL1 hmd
  go_upto_region 4 with fail
  have hmd := HMD.out
  generalize w1.alloc (.cells (mdC (c.cells K kc F fc) Mt.zero (.slice none 0 0) (.slice none 0 0)).toArray 49) = w6 at hmd ⊢
  generalize w1.heap.size = b at hmd ⊢
  clear HMD hld hbd
  have HST := Lib.hid hmd
  clear hmd
  have hs1 : w6.drew.cell? ⟨w.heap.size, 6, none⟩ = some (.slice F c.first.length fc) := HST.out.box.cell 6
  have hbd := fun W => run_sbI 1 (c.first.length : Int) (sha c.first) (sha_len c.first) W
  refine wp_region_held_drew (S := (fun W => W.cell? ⟨w.heap.size, 6, none⟩ = some (.slice F c.first.length fc))) (by kernel_rfl) ?_ (fun hHeld => ?_)
  · exact hs1
  generalize hwd : w6.drew = We at hs1 hHeld ⊢
  have hst := HST.out.later ((Below.refl _ w6).drew)
  rw [hwd] at hst
  clear HST hwd
  have HST := Lib.hid hst
  clear hst
  refine tk 0 (h := ?_)
  refine tk 1 (h := ?_)
  refine tk 2 (h := ?_)
  refine tk 3 (h := ?_)
  refine tk 4 (h := ?_)
  refine tk 5 (h := ?_)
  refine tk 8 (h := ?_)
  refine tk 9 (h := ?_)
  refine tk 10 (h := ?_)
  refine rd 6 (h := fun K hK => ?_)
  go_simp
  refine (rsha_c _ F fc c.first (HF.out.below HST.out.bel) (by have := HFL.out; omega)).mono ?_
  rintro e w7 ⟨rfl, hb7⟩
  have hst := HST.out.later hb7
  clear HST
  have HST := Lib.hid hst
  clear hst hb7
  go_wp2_with fail
  refine so hK (by (try dsimp only); (first | exact HS2.out.box.cell 6 | exact HST.out.box.cell 6)) (h := fun hHeld => ?_)
  clear hK K
  refine tk 7 (h := ?_)
  refine tk 11 (h := ?_)
  have hsi := run_sstI HST.out.md.blk 8 (by rw [List.size_toArray, mdC_len (c.cells_len K kc F fc) Mt.zero_ok]; omega) ⟨1, (c.first.length : Int), sha c.first⟩ (sha_len c.first)
  have hbx := HST.out.box.only (only_setCells (Img.cells ⟨1, (c.first.length : Int), sha c.first⟩) 8 w7 (Only.refl [b] w7)) (by have := Blk.ne_ HST.out.box HST.out.md.blk (by decide); simpa using this)
  have hmd := HST.out.md.putH0 ⟨1, (c.first.length : Int), sha c.first⟩ (sha_len c.first)
  have hbe := below_setCells HST.out.md.ge (Img.cells ⟨1, (c.first.length : Int), sha c.first⟩) 8 w7 HST.out.bel
  have HS2 := Lib.hid (show RnAt w (w7.setCells b 8 (Img.cells ⟨1, (c.first.length : Int), sha c.first⟩)) w.heap.size b c (newM c) [] [] K kc F fc none 0 none 0 from ⟨hbx, hmd, hbe⟩)
  clear hbx hmd hbe
  refine rd 12 (h := fun K hK => ?_)
  go_simp
  refine so hK (by (try dsimp only); (first | exact HS2.out.box.cell 6 | exact HST.out.box.cell 6)) (h := fun hHeld => ?_)
  clear hK K
  refine wpAnyH_done (by kernel_rfl) ?_ _
  try simp only [Act.put, List.getElem_toArray, List.getElem_cons_succ, List.getElem_cons_zero, List.setIfInBounds_toArray, List.set_cons_zero, List.set_cons_succ]
  clear HST hs1 hHeld hsi hbd
  have HST := Lib.hid HS2.out
  go_upto_region 5 with fail
  clear HS2
  generalize World.setCells _ _ _ _ = w8 at HST ⊢
  have hs1 : w8.drew.cell? ⟨w.heap.size, 6, none⟩ = some (.slice F c.first.length fc) := HST.out.box.cell 6
  refine wp_region_held_drew (S := (fun W => W.cell? ⟨w.heap.size, 6, none⟩ = some (.slice F c.first.length fc))) (by kernel_rfl) ?_ (fun hHeld => ?_)
  · exact hs1
  generalize hwd : w8.drew = We at hs1 hHeld ⊢
  have hst := HST.out.later ((Below.refl _ w8).drew)
  rw [hwd] at hst
  clear HST hwd
  have HST := Lib.hid hst
  clear hst
  refine tk 0 (h := ?_)
  refine tk 1 (h := ?_)
  refine tk 2 (h := ?_)
  refine tk 4 (h := ?_)
  refine tk 5 (h := ?_)
  refine rd 3 (h := fun K hK => ?_)
  refine step_append_any _ rfl (.const (.slice none 0 0)) (.tmp 24) 22 (by rfl) w.heap.size 5 i0 (.int .u8 0) 1 Tryz.underlying22 HI8.out HZ0.out HZ1.out HZ2.out rfl (.slice none 0 0) 0 [] rfl own_noneM F c.first.length fc (c.first.map u8v) (by rfl) (HF.out.below HST.out.bel) (u8v_one _) (by have := HFL.out; unfold maxLen; omega) (by have := HFL.out; omega) HST.out.bel.size ?_
  intro A9 c9 w9 hown9 hgrow9 hat9
  rw [Nat.zero_add, List.nil_append] at hown9
  have hbl : Below We.heap.size We w9 := ⟨hgrow9.os, hgrow9.tape, hgrow9.output, hgrow9.size, fun k hk => hgrow9.block k hk (by simp [Value.ownBlock])⟩
  have hst := HST.out.later hbl
  clear HST
  have HST := Lib.hid hst
  have HO9 := Lib.hid hown9
  clear hst hown9 hgrow9 hat9 hbl
  refine so hK (by (try dsimp only); (first | exact HC6.out | exact HST.out.box.cell 6)) (h := fun hHeld => ?_)
  clear hK K
  refine tk 6 (h := ?_)
  have fz := HST.out.md.blk.frozen 114
  have q0 := HST.out.md.cell0
  have hmd := HST.out.md.setS0 (l := c.first) rfl (by exact HO9.out) (fun k hk => by simp [Value.ownBlock])
  have hbe := HST.out.bel.setCell (p := ⟨b, 114, none⟩) HST.out.md.ge (.slice A9 c.first.length c9)
  have hc6 : (World.setCell _ ⟨b, 114, none⟩ (.slice A9 c.first.length c9)).cell? ⟨w.heap.size, 6, none⟩ = some (.slice F c.first.length fc) := (HST.out.box.only ((Only.refl [b] _).setCell (p := ⟨b, 114, none⟩) (.inl (by simp)) _) (by have := Blk.ne_ HST.out.box HST.out.md.blk (by decide); simpa using this)).cell 6
  have HMD := Lib.hid hmd
  have HBE := Lib.hid hbe
  have HC6 := Lib.hid hc6
  clear hmd hbe hc6
  refine rd 7 (h := fun K hK => ?_)
  go_simp
  refine so hK (by (try dsimp only); (first | exact HC6.out | exact HST.out.box.cell 6)) (h := fun hHeld => ?_)
  clear hK K
  refine wpAnyH_done (by kernel_rfl) ?_ _
  try simp only [Act.put, List.getElem_toArray, List.getElem_cons_succ, List.getElem_cons_zero, List.setIfInBounds_toArray, List.set_cons_zero, List.set_cons_succ]
  go_wp2_with fail
  go_ret
  exact ⟨b, A9, c9, rfl, HMD.out, HBE.out⟩
end Go.Proofs.YtpafenlcgcenlaaGreatDoor
