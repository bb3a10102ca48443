/- update: Chunks, Len, when, fails, one. -/
import Derived.Test.YtpbdglocfjbbfaaDoorMr
import Derived.Laws.Tables
namespace Go.Proofs.YtpbdglocfjbbfaaDoor
open Go Go.RowKit
set_option linter.unusedVariables false
set_option linter.unusedSimpArgs false
noncomputable def sldC (x : Value) : Sem Value := Instr.loadAt 57 x
theorem sldC_seal (x : Value) : Instr.loadAt 57 x = sldC x := rfl
theorem info_sC : (Tryd.prog.info? 57).map (·.size) = some 110 := by kernel_rfl
theorem run_sldC {W : World} {g o : Nat} {cs : List Value} (hs : cs.length = 110) (h : W.rangeAt g o cs) : (sldC (.pointer (some ⟨g, o, none⟩))).run Tryd.prog W = .ok (.agg cs.toArray) W :=
  run_loadAt_mid (P := Tryd.prog) W g o 57 cs _ h Tryd.underlying57 rfl (by rw [hs]; exact info_sC)
noncomputable def sldF (x : Value) : Sem Value := Instr.loadAt 32 x
theorem sldF_seal (x : Value) : Instr.loadAt 32 x = sldF x := rfl
theorem info_sF : (Tryd.prog.info? 32).map (·.size) = some 35 := by kernel_rfl
theorem run_sldF {W : World} {g o : Nat} {cs : List Value} (hs : cs.length = 35) (h : W.rangeAt g o cs) : (sldF (.pointer (some ⟨g, o, none⟩))).run Tryd.prog W = .ok (.agg cs.toArray) W :=
  run_loadAt_mid (P := Tryd.prog) W g o 32 cs _ h Tryd.underlying32 rfl (by rw [hs]; exact info_sF)
noncomputable def sstC (x v : Value) : Sem Unit := Instr.storeAt 57 x v
theorem sstC_seal (x v : Value) : Instr.storeAt 57 x v = sstC x v := rfl
theorem run_sstC {W : World} {g : Nat} {old : Array Value} (cs : List Value) (h : Blk W g 57 old) (ho : old.size = cs.length) (hs : (Tryd.prog.info? 57).map (·.size) = some cs.length) (h1 : ∀ u ∈ cs, u.oneCell' = true) :
    (sstC (.pointer (some ⟨g, 0, none⟩)) (.agg cs.toArray)).run Tryd.prog W = .ok () (W.setRow g cs.toArray) := by
  unfold sstC
  simp only [Instr.storeAt, Instr.sureAddr, Sem.run_bind, Sem.run_pure, Result.andThen_ok, run_storeVar_row (P := Tryd.prog) W g 57 57 old cs.toArray h (by simpa using hs) (by simpa using ho) (by simpa using h1)]
noncomputable def sstM (x v : Value) : Sem Unit := Instr.storeAt 27 x v
theorem sstM_seal (x v : Value) : Instr.storeAt 27 x v = sstM x v := rfl
theorem run_sstM {W : World} {g : Nat} {old : Array Value} (cs : List Value) (h : Blk W g 27 old) (ho : old.size = cs.length) (hs : (Tryd.prog.info? 27).map (·.size) = some cs.length) (h1 : ∀ u ∈ cs, u.oneCell' = true) :
    (sstM (.pointer (some ⟨g, 0, none⟩)) (.agg cs.toArray)).run Tryd.prog W = .ok () (W.setRow g cs.toArray) := by
  unfold sstM
  simp only [Instr.storeAt, Instr.sureAddr, Sem.run_bind, Sem.run_pure, Result.andThen_ok, run_storeVar_row (P := Tryd.prog) W g 27 27 old cs.toArray h (by simpa using hs) (by simpa using ho) (by simpa using h1)]
theorem Blk.setRow_m {w : World} {g : Nat} {t : TypeId} {old : Array Value} (h : Blk w g t old) (cs : Array Value) : Blk (w.setRow g cs) g t cs := setRow_heap w g old cs t _ h
theorem Blk.setRow_mf {w : World} {g k : Nat} {t : TypeId} {old : Array Value} (h : Blk w k t old) (cs : Array Value) (hk : k ≠ g) : Blk (w.setRow g cs) k t old := (setRow_other w g k cs hk).trans h
theorem below_setRow_m {B g : Nat} {w0 w : World} (hb : Below B w0 w) (hBg : B ≤ g) (cs : Array Value) : Below B w0 (w.setRow g cs) :=
  ⟨hb.os, hb.tape, hb.output, by simpa [World.setRow] using hb.size, fun k hk => (setRow_other w g k cs (by omega)).trans (hb.block k hk)⟩
attribute [local go_sem ↓] sldI_seal sldM_seal sldC_seal sldF_seal sstC_seal sstM_seal
def chunksZ (n : Int) : Int := if n < 1 then 0 else (n - 1) / 320 + 1
theorem uchunks_c (n : Int) (hn : -9223372036854775808 ≤ n ∧ n ≤ 9223372036854775807) (w : World) : Calls Tryd.prog 12 #[.int .i64 n] w fun e w' => e = .returned (.int .i64 (chunksZ n)) ∧ w = w' := by
  unfold chunksZ
  by_cases h : n < 1
  · rw [if_pos h]
    go_enter Tryd.func12, Tryd.ntmps12
    go_wp2_with fail
    go_ret
    exact ⟨rfl, rfl⟩
  · rw [if_neg h]
    go_enter Tryd.func12, Tryd.ntmps12
    go_wp2_with fail
    go_ret
    exact ⟨rfl, rfl⟩
theorem when_c (b : Bool) (e : Int) (w : World) : Calls Tryd.prog 54 #[.bool b, .int .i64 e] w fun en w' => en = .returned (.int .i64 (if b = true then e else 0)) ∧ w = w' := by
  cases b
  · go_enter Tryd.func54, Tryd.ntmps54
    go_wp2_with fail
    go_ret
    exact ⟨rfl, rfl⟩
  · go_enter Tryd.func54, Tryd.ntmps54
    go_wp2_with fail
    go_ret
    exact ⟨rfl, rfl⟩
/-- What a request does: the cells. -/
def chg (m : Mt) (e n g : Int) : List Value := m.cells ++ [i64v e, i64v n, i64v g]
theorem chg_len {m : Mt} (h : m.Ok) (e n g : Int) : (chg m e n g).length = 110 := by unfold chg; rw [List.length_append, Mt.cells_len h]; rfl
theorem chg_one (m : Mt) (e n g : Int) : ∀ u ∈ chg m e n g, u.oneCell' = true := by
  intro u hu
  simp only [chg, List.mem_append, List.mem_cons, List.not_mem_nil, or_false] at hu
  rcases hu with hu | rfl | rfl | rfl
  · exact Mt.one m u hu
  · rfl
  · rfl
  · rfl
theorem zeroC_chg : Tryd.zeroCells57 = (chg Mt.zero 0 0 0).toArray := by kernel_rfl
theorem foldSet (cs : List Value) : ∀ (k off : Nat) (z : List Value), off + k + cs.length ≤ z.length →
    (cs.zipIdx k).foldl (fun (a : Array Value) (x : Value × Nat) => a.setIfInBounds (off + x.2) x.1) z.toArray = (z.take (off + k) ++ cs ++ z.drop (off + k + cs.length)).toArray := by
  induction cs with
  | nil => intro k off z h; simp
  | cons c cs ih =>
    intro k off z h
    simp only [List.length_cons] at h
    rw [List.zipIdx_cons, List.foldl_cons, List.setIfInBounds_toArray, ih (k + 1) off (z.set (off + k) c) (by rw [List.length_set]; omega)]
    congr 1
    rw [show off + (k + 1) = off + k + 1 from by omega]
    rw [List.take_succ_eq_append_getElem (by rw [List.length_set]; omega), List.getElem_set_self, List.take_set_of_le (Nat.le_refl _), List.drop_set_of_lt (by omega)]
    simp only [List.length_cons, List.append_assoc, List.singleton_append, List.cons_append, List.nil_append]
    rw [show off + k + 1 + cs.length = off + k + (cs.length + 1) from by omega]
theorem built57 (parts : List (Nat × Value)) : Tryd.prog.built 57 parts = Instr.fill (#[(0, 107), (107, 3)][·]?) Tryd.zeroCells57 parts := by kernel_rfl
theorem fill_one (place : Nat → Option (Nat × Nat)) (z cs : List Value) (i off : Nat) (rest : List (Nat × Value)) (hp : place i = some (off, cs.length)) (hz : off + cs.length ≤ z.length) :
    Instr.fill place z.toArray ((i, .agg cs.toArray) :: rest) = Instr.fill place (z.take off ++ cs ++ z.drop (off + cs.length)).toArray rest := by
  have hf := foldSet cs 0 off z (by omega)
  rw [Instr.fill, hp]
  simp only [Value.cells, List.size_toArray, ne_eq, not_true_eq_false, decide_false, Bool.false_or]
  rw [if_neg (by simp; omega)]
  rw [← Array.foldl_toList, Array.toList_zipIdx]
  simp only [Nat.add_zero] at hf
  rw [hf]
theorem buildC (m : Mt) (h : m.Ok) (w : World) : (Instr.build 57 #[(0, .agg m.cells.toArray)]).run Tryd.prog w = .ok (.agg (chg m 0 0 0).toArray) w := by
  refine run_build w _ _ _ ?_
  rw [built57, zeroC_chg, fill_one _ _ m.cells 0 0 [] (by rw [Mt.cells_len h]; rfl) (by rw [Mt.cells_len h]; decide)]
  rw [Mt.cells_len h]
  rfl
theorem buildC2 (m : Mt) (h : m.Ok) (e n g : Int) (w : World) : (Instr.build 57 #[(0, .agg m.cells.toArray), (1, .agg #[.int .i64 e, .int .i64 n, .int .i64 g])]).run Tryd.prog w = .ok (.agg (chg m e n g).toArray) w := by
  refine run_build w _ _ _ ?_
  rw [built57, zeroC_chg, fill_one _ _ m.cells 0 0 _ (by rw [Mt.cells_len h]; rfl) (by rw [Mt.cells_len h]; decide)]
  rw [Mt.cells_len h]
  have hz : (List.take 0 (chg Mt.zero 0 0 0) ++ m.cells ++ List.drop (0 + 107) (chg Mt.zero 0 0 0)) = m.cells ++ [i64v 0, i64v 0, i64v 0] := by
    rw [List.take_zero, List.nil_append]; rfl
  rw [hz]
  have h2 := fill_one (#[(0, 107), (107, 3)][·]?) (m.cells ++ [i64v 0, i64v 0, i64v 0]) [i64v e, i64v n, i64v g] 1 107 [] rfl (by rw [List.length_append, Mt.cells_len h]; exact Nat.le_refl _)
  refine Eq.trans h2 ?_
  rw [List.take_append_of_le_length (by rw [Mt.cells_len h]; omega), List.take_of_length_le (by rw [Mt.cells_len h]; omega), List.drop_of_length_le (by rw [List.length_append, Mt.cells_len h]; exact Nat.le_refl _), List.append_nil]
  rfl
theorem buildC1 (e : Int) (w : World) : (Instr.build 57 #[(1, .agg #[.int .i64 e, .int .i64 0, .int .i64 0])]).run Tryd.prog w = .ok (.agg (chg Mt.zero e 0 0).toArray) w := by
  refine run_build w _ _ _ ?_
  rw [built57, zeroC_chg]
  exact fill_one (#[(0, 107), (107, 3)][·]?) (chg Mt.zero 0 0 0) [i64v e, i64v 0, i64v 0] 1 107 [] rfl (Nat.le_refl _)
/-- A change built, sealed. -/
noncomputable def sbC (parts : Array (Nat × Value)) : Sem Value := Instr.build 57 parts
theorem sbC_seal (parts : Array (Nat × Value)) : Instr.build 57 parts = sbC parts := rfl
theorem run_sbC (m : Mt) (h : m.Ok) (w : World) : (sbC #[(0, .agg m.cells.toArray)]).run Tryd.prog w = .ok (.agg (chg m 0 0 0).toArray) w := buildC m h w
theorem run_sbC1 (e : Int) (w : World) : (sbC #[(1, .agg #[.int .i64 e, .int .i64 0, .int .i64 0])]).run Tryd.prog w = .ok (.agg (chg Mt.zero e 0 0).toArray) w := buildC1 e w
theorem run_sbC2 (m : Mt) (h : m.Ok) (e n g : Int) (w : World) : (sbC #[(0, .agg m.cells.toArray), (1, .agg #[.int .i64 e, .int .i64 n, .int .i64 g])]).run Tryd.prog w = .ok (.agg (chg m e n g).toArray) w := buildC2 m h e n g w
attribute [local go_sem ↓] sbC_seal
set_option maxRecDepth 100000 in
theorem fails_c (e : Int) (w : World) : Calls Tryd.prog 41 #[.int .i64 e] w fun en w' => en = .returned (.agg (chg Mt.zero e 0 0).toArray) ∧ Below w.heap.size w w' := by
  have hB := Blk.new w 57 Tryd.zeroCells57
  have hl := chg_len Mt.zero_ok e 0 0
  have hst := run_sstC (chg Mt.zero e 0 0) hB (by rw [zeroC_chg, List.size_toArray, chg_len Mt.zero_ok, hl]) (by rw [hl]; exact info_sC) (chg_one _ _ _ _)
  have HB := Lib.hid hB
  have hbd := fun W => run_sbC1 e W
  clear hB
  go_enter Tryd.func41, Tryd.ntmps41
  go_wp2_with fail
  go_wp2_with fail
  refine bodyPost_ret (results_cell_row rfl _ _ w.heap.size 57 (chg Mt.zero e 0 0).toArray (0, 0) _ rfl (HB.out.setRow_m _) Tryd.underlying57 rfl (by rw [List.size_toArray, hl]; exact info_sC)) rfl ?_
  exact ⟨rfl, below_setRow_m ((Below.refl _ _).alloc (Nat.le_refl _) _) (Nat.le_refl _) _⟩
/-- The first error of some. -/
def firstE : List Int → Int
  | [] => 0
  | e :: l => if e = 0 then firstE l else e
def oneM (m : Mt) (l : List Int) : List Value := if firstE l = 0 then chg m 0 0 0 else chg Mt.zero (firstE l) 0 0
set_option maxRecDepth 100000 in
theorem one_c (w : World) (m : Mt) (h : m.Ok) (b o n c : Nat) (l : List Int) (hr : Reads w (some ⟨b, o, none⟩) n (l.map i64v)) (hn : n ≤ 100) :
    Calls Tryd.prog 53 #[.agg m.cells.toArray, .slice (some ⟨b, o, none⟩) n c] w fun en w' => en = .returned (.agg (oneM m l).toArray) ∧ Below w.heap.size w w' := by
  have hl : l.length = n := by simpa using hr.len
  have HR := Lib.hid hr
  have HL := Lib.hid hl
  have HD := Lib.hid h
  have hB1 : Blk ((w.alloc (.cells m.cells.toArray 27)).alloc (.cells Tryd.zeroCells57 57)) (w.heap.size + 1) 57 Tryd.zeroCells57 := by
    have h := Blk.new (w.alloc (.cells m.cells.toArray 27)) 57 Tryd.zeroCells57
    simpa using h
  have hB0 : Blk ((w.alloc (.cells m.cells.toArray 27)).alloc (.cells Tryd.zeroCells57 57)) w.heap.size 27 m.cells.toArray := (Blk.new w _ _).alloc _
  have hbel : Below w.heap.size w ((w.alloc (.cells m.cells.toArray 27)).alloc (.cells Tryd.zeroCells57 57)) := ((Below.refl _ _).alloc (Nat.le_refl _) _).alloc (by simp) _
  have hlM := run_sldM (Mt.cells_len h) hB0.whole
  have HB1 := Lib.hid hB1
  have HB0 := Lib.hid hB0
  have HBL := Lib.hid hbel
  clear hB1 hB0 hbel hr hl h
  go_enter Tryd.func53, Tryd.ntmps53
  go_wp2_with fail
  generalize (w.alloc (.cells m.cells.toArray 27)).alloc (.cells Tryd.zeroCells57 57) = W0 at hlM HB1 HB0 HBL ⊢
  have hg1 := HB1.out.lt
  go_loopw [9] (fun i wr => ∃ k : Nat, k ≤ n ∧ i = .int .i64 k ∧ W0 = wr ∧ firstE l = firstE (l.drop k)) (fun i _ => n - (intOf i).toNat)
  case atStart => exact ⟨0, Nat.zero_le _, rfl, rfl, rfl⟩
  case round =>
    obtain ⟨k, hk, rfl, rfl, hfe⟩ := hrel
    have HF := Lib.hid hfe
    clear hfe
    by_cases hlt : k < n
    · obtain ⟨b', o', u, ea, -, hu, hcell⟩ := (HR.out.below HBL.out).at_ hlt
      cases ea
      have hkl : k < l.length := by rw [HL.out]; exact hlt
      rw [List.getElem?_map, List.getElem?_eq_getElem hkl] at hu
      obtain rfl : i64v l[k] = u := by simpa using hu
      have hdr : l.drop k = l[k] :: l.drop (k + 1) := List.drop_eq_getElem_cons hkl
      obtain ⟨x, hx⟩ : ∃ x, l[k] = x := ⟨_, rfl⟩
      rw [hx] at hcell hdr
      have HDR := Lib.hid hdr
      clear hx hdr hu
      by_cases hx0 : x = 0
      · subst hx0
        go_wp2_with fail
        go_roundw
        case rel => exact ⟨k + 1, by omega, by go_num, trivial, by rw [HF.out, HDR.out]; simp [firstE]⟩
        case measure => simp [intOf]; omega
      · have hx1 : (x != 0) = true := by rw [bne_iff_ne]; exact hx0
        have hx2 : (x == 0) = false := beq_eq_false_iff_ne.2 hx0
        have hfl : firstE l = x := by rw [HF.out, HDR.out]; unfold firstE; rw [if_neg hx0]
        have HFL := Lib.hid hfl
        clear hfl hlM
        go_wp2_with fail
        refine (fails_c x _).mono ?_
        rintro e w2 ⟨rfl, hb2⟩
        have hB2 := HB1.out.below hb2 HB1.out.lt
        have hl2 := chg_len Mt.zero_ok x 0 0
        have hst := run_sstC (chg Mt.zero x 0 0) hB2 (by rw [zeroC_chg, List.size_toArray, chg_len Mt.zero_ok, hl2]) (by rw [hl2]; exact info_sC) (chg_one _ _ _ _)
        have HB2 := Lib.hid hB2
        have HBL2 := Lib.hid (HBL.out.trans (hb2.mono HBL.out.size))
        clear hB2 hb2
        go_wp2_with fail
        refine bodyPost_ret (results_cell_row rfl _ _ (w.heap.size + 1) 57 (chg Mt.zero x 0 0).toArray (0, 0) _ rfl (HB2.out.setRow_m _) Tryd.underlying57 rfl (by rw [List.size_toArray, hl2]; exact info_sC)) rfl ?_
        refine ⟨?_, below_setRow_m HBL2.out (Nat.le_succ _) _⟩
        unfold oneM
        rw [HFL.out, if_neg hx0]
    · obtain rfl : k = n := by omega
      have hz : firstE l = 0 := by rw [HF.out, List.drop_of_length_le (by rw [HL.out]; exact Nat.le_refl _)]; rfl
      have hl2 := chg_len HD.out 0 0 0
      have hst := run_sstC (chg m 0 0 0) HB1.out (by rw [zeroC_chg, List.size_toArray, chg_len Mt.zero_ok, hl2]) (by rw [hl2]; exact info_sC) (chg_one _ _ _ _)
      have HZ := Lib.hid hz
      have hbd := fun W => run_sbC m HD.out W
      clear hz
      go_wp2_with fail
      refine bodyPost_ret (results_cell_row rfl _ _ (w.heap.size + 1) 57 (chg m 0 0 0).toArray (0, 0) _ rfl (HB1.out.setRow_m _) Tryd.underlying57 rfl (by rw [List.size_toArray, hl2]; exact info_sC)) rfl ?_
      refine ⟨?_, below_setRow_m HBL.out (Nat.le_succ _) _⟩
      unfold oneM
      rw [HZ.out, if_pos rfl]
end Go.Proofs.YtpbdglocfjbbfaaDoor
