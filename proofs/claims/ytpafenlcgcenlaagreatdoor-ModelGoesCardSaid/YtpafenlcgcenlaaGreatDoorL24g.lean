/- waterlinelaw24.ModelGoes: an update goes its way, and the image that was sent is active at its end. -/
import Derived.Test.YtpafenlcgcenlaaGreatDoorL24a
import Derived.Test.YtpafenlcgcenlaaGreatDoorMdY
import Derived.Test.YtpafenlcgcenlaaGreatDoorGoM
namespace Go.Proofs.YtpafenlcgcenlaaGreatDoor
open Go Go.RowKit
set_option linter.unusedVariables false
set_option linter.unusedSimpArgs false
attribute [local go_sem ↓] sldK_seal sldQ_seal
def cfgG : Cf := ⟨⟨#[206, 177, 98]⟩, [107, 101, 121], 2, 0, 2, 1022, [102, 105, 114, 115, 116]⟩
theorem validAlb : validN ⟨#[206, 177, 98]⟩ = true := by kernel_rfl
theorem cfgG_right : cfgG.right = true := by
  unfold Cf.right cfgG
  dsimp only
  rw [validAlb]
  rfl
theorem may1022 (k : Int) (h1 : 1 ≤ k) (h6 : k ≤ 6) : mayK 1022 k = true := by
  have h : k = 1 ∨ k = 2 ∨ k = 3 ∨ k = 4 ∨ k = 5 ∨ k = 6 := by omega
  rcases h with rfl | rfl | rfl | rfl | rfl | rfl <;> decide
theorem goG {s : MSt} {img : List UInt8} {v : Int} (i : MInv cfgG s) (ok : s.m.Ok) (ph : s.m.ph = 0) (mn : s.m.mn ≤ v) (hv : 1 ≤ v ∧ v ≤ 1000) (n1 : 1 ≤ img.length) (n2 : img.length ≤ 640) : GoOk cfgG s img v :=
  ⟨cfgG_right, i, ok, ph, mn, by omega, n1, by show chunksZ _ ≤ 2; unfold chunksZ; split <;> omega, fun k h1 h6 => may1022 k h1 h6⟩
/-- What the law's row of requests does. -/
def goesA (img : List UInt8) (v : Int) (again : Bool) : List Rp := if again = true then goesL cfgG.key cfgG.nm img v ++ goesL cfgG.key cfgG.nm [110, 101, 120, 116] v else goesL cfgG.key cfgG.nm img v
theorem goesA_end {img : List UInt8} {v : Int} (hv : 1 ≤ v ∧ v ≤ 1000) (n1 : 1 ≤ img.length) (n2 : img.length ≤ 640) (again : Bool) : allE0 cfgG (st0 cfgG) (goesA img v again) ∧ MInv cfgG (foldS cfgG (st0 cfgG) (goesA img v again)) ∧ (foldS cfgG (st0 cfgG) (goesA img v again)).run.take ((foldS cfgG (st0 cfgG) (goesA img v again)).m.have_ (foldS cfgG (st0 cfgG) (goesA img v again)).m.act).s.toNat = (if again = true then [110, 101, 120, 116] else img) ∧ (foldS cfgG (st0 cfgG) (goesA img v again)).m.mn = v := by
  have G := goG (s := st0 cfgG) (st0_inv cfgG_right) (newM_ok _) rfl (show (0 : Int) ≤ v by omega) hv n1 n2
  have ga := go_all G
  have ge := go_end G
  dsimp only at ge
  unfold goesA
  cases again
  · rw [if_neg (by decide), if_neg (by decide)]
    exact ⟨ga.1, ge.2.2.2.2.1, ge.1, ge.2.1⟩
  · rw [if_pos rfl, if_pos rfl]
    have G2 := goG (s := foldS cfgG (st0 cfgG) (goesL cfgG.key cfgG.nm img v)) (img := [110, 101, 120, 116]) ge.2.2.2.2.1 ge.2.2.2.1 ge.2.2.1 (Int.le_of_eq ge.2.1) hv (by decide) (by decide)
    have ga2 := go_all G2
    have ge2 := go_end G2
    dsimp only at ge2
    rw [foldS_app]
    exact ⟨(allE0_app _ _ _ _).2 ⟨ga.1, ga2.1⟩, ge2.2.2.2.2.1, ge2.1, ge2.2.1⟩
theorem goesA_len (img : List UInt8) (v : Int) (again : Bool) (h : img.length ≤ 640) : (goesA img v again).length ≤ 20 := by
  unfold goesA
  have h1 : (chunksZ (img.length : Int)).toNat ≤ 2 := by unfold chunksZ; split <;> omega
  split
  · rw [List.length_append, goesL_len, goesL_len]
    show (chunksZ (img.length : Int)).toNat + 5 + (1 + 5) ≤ 20
    omega
  · rw [goesL_len]
    omega
theorem Rq.At.lower {w : World} {lo lo' : Nat} {IA : Option Addr} {q : Rq} (h : q.At w lo IA) (hl : lo' ≤ lo) : q.At w lo' IA :=
  ⟨h.rd, h.le, h.cap, fun a e => by
    rcases h.blk a e with ⟨x, y⟩ | z
    · exact Or.inl ⟨Nat.le_trans hl x, y⟩
    · exact Or.inr z⟩
theorem Rq.At.turn {w : World} {lo b o : Nat} {IA : Option Addr} {q : Rq} (h : q.At w lo (some ⟨b, o, none⟩)) (hb : lo ≤ b) (hlt : b < w.heap.size) (hc : ∃ cs fr, w.heap[b]? = some (.cells cs 5 fr)) : q.At w lo IA :=
  ⟨h.rd, h.le, h.cap, fun a e => by
    rcases h.blk a e with z | ⟨a0, e0, x⟩
    · exact Or.inl z
    · injection e0 with e0
      rw [← e0] at x
      dsimp only at x
      rw [x]
      exact Or.inl ⟨hb, hlt, hc⟩⟩
theorem MdB.grownB {w w' : World} {B N b : Nat} {c : Cf} {s : MSt} (h : MdB w B N b c s) {row : Option Nat} (hg : w.grownBy w' row) (hr : ∀ k, row = some k → N ≤ k) : MdB w' B N b c s :=
  h.only (S := match row with | some k => [k] | none => []) ((Only.refl _ w).grown hg (fun g e => by subst e; exact .inl (by simp))) (fun k hk => by
    cases row with
    | none => cases hk
    | some r =>
      have : k = r := by simpa using hk
      have := hr r rfl
      omega)
set_option maxRecDepth 100000 in
set_option maxHeartbeats 16000000 in
theorem mdGoes_c (w : World) (IA : Option Addr) (n ic : Nat) (img : List UInt8) (hI : Reads w IA n (img.map u8v)) (hic : n ≤ ic ∧ ic ≤ maxLen) (v : Int) (again : Bool) : Calls Tryz.prog 5 #[.slice IA n ic, .int .i64 v, .bool again] w fun e w' => e = .returned (.bool true) ∧ Below w.heap.size w w' := by
  have hlen : img.length = n := by simpa using hI.len
  have kc := fun (w : World) (C : Array Value) (n c : Nat) => Lib.run_convert_bytes_const (P := Tryz.prog) w 22 5 C n c Tryz.underlying22 Tryz.underlying5
  have kc2 : ∀ (w : World) (o : Obj) (C : Array Value) (n c : Nat), (convert 22 22 (.slice (some ⟨w.heap.size + 1, 0, none⟩) n c)).run Tryz.prog ((w.alloc o).alloc (.cells C 5)) = .ok (.slice (some ⟨w.heap.size + 1, 0, none⟩) n c) ((w.alloc o).alloc (.cells C 5 (C.size, C.size + 1))) := fun w o C n c => by
    have q := kc (w.alloc o) C n c
    rw [show (w.alloc o).heap.size = w.heap.size + 1 from by simp] at q
    exact q
  have HI := Lib.hid hI
  have HIC := Lib.hid hic
  have HLEN := Lib.hid hlen
  clear hI hic hlen
  go_enter Tryz.func5, Tryz.ntmps5
  go_wp2_with fail
  refine (alive24_c _).mono ?_
  rintro e W2 ⟨rfl, hB⟩
  have HB := Lib.hid hB
  clear hB
  by_cases h0 : (n : Int) < 1
  · go_wp2_with fail
    go_ret
    exact ⟨rfl, HB.out⟩
  by_cases h1 : 640 < (n : Int)
  · go_wp2_with fail
    go_ret
    exact ⟨rfl, HB.out⟩
  by_cases h2 : v < 1
  · go_wp2_with fail
    go_ret
    exact ⟨rfl, HB.out⟩
  by_cases h3 : 1000 < v
  · go_wp2_with fail
    go_ret
    exact ⟨rfl, HB.out⟩
  go_upto_region 4 with fail
  have HN := Lib.hid (show 1 ≤ n ∧ n ≤ 640 ∧ 1 ≤ v ∧ v ≤ 1000 from by omega)
  clear h0 h1 h2 h3
  clear ‹((1 ≤ (n : Int) ∧ (n : Int) ≤ 640) ∧ 1 ≤ v) ∧ v ≤ 1000›
  have hK : Reads (((W2.alloc (.cells #[.int .u8 107, .int .u8 101, .int .u8 121] 5 (3, 4))).alloc (.cells #[.int .u8 102, .int .u8 105, .int .u8 114, .int .u8 115, .int .u8 116] 5 (5, 6))).alloc (.cells #[.string ⟨#[206, 177, 98]⟩, .slice (some ⟨W2.heap.size, 0, none⟩) 3 3, .int .i64 2, .int .i64 0, .int .i64 2, .int .i64 1022, .slice (some ⟨W2.heap.size + 1, 0, none⟩) 5 5] 24)) (some ⟨W2.heap.size, 0, none⟩) cfgG.key.length (cfgG.key.map u8v) := ((rowReads W2 [107, 101, 121] 5 (3, 4)).alloc (.cells #[.int .u8 102, .int .u8 105, .int .u8 114, .int .u8 115, .int .u8 116] 5 (5, 6))).alloc (.cells #[.string ⟨#[206, 177, 98]⟩, .slice (some ⟨W2.heap.size, 0, none⟩) 3 3, .int .i64 2, .int .i64 0, .int .i64 2, .int .i64 1022, .slice (some ⟨W2.heap.size + 1, 0, none⟩) 5 5] 24)
  have hF : Reads (((W2.alloc (.cells #[.int .u8 107, .int .u8 101, .int .u8 121] 5 (3, 4))).alloc (.cells #[.int .u8 102, .int .u8 105, .int .u8 114, .int .u8 115, .int .u8 116] 5 (5, 6))).alloc (.cells #[.string ⟨#[206, 177, 98]⟩, .slice (some ⟨W2.heap.size, 0, none⟩) 3 3, .int .i64 2, .int .i64 0, .int .i64 2, .int .i64 1022, .slice (some ⟨W2.heap.size + 1, 0, none⟩) 5 5] 24)) (some ⟨W2.heap.size + 1, 0, none⟩) cfgG.first.length (cfgG.first.map u8v) := by
    have q := (rowReads (W2.alloc (.cells #[.int .u8 107, .int .u8 101, .int .u8 121] 5 (3, 4))) [102, 105, 114, 115, 116] 5 (5, 6)).alloc (.cells #[.string ⟨#[206, 177, 98]⟩, .slice (some ⟨W2.heap.size, 0, none⟩) 3 3, .int .i64 2, .int .i64 0, .int .i64 2, .int .i64 1022, .slice (some ⟨W2.heap.size + 1, 0, none⟩) 5 5] 24)
    rw [show (W2.alloc (.cells #[.int .u8 107, .int .u8 101, .int .u8 121] 5 (3, 4))).heap.size = W2.heap.size + 1 from by simp] at q
    exact q
  have hC := Blk.new ((W2.alloc (.cells #[.int .u8 107, .int .u8 101, .int .u8 121] 5 (3, 4))).alloc (.cells #[.int .u8 102, .int .u8 105, .int .u8 114, .int .u8 115, .int .u8 116] 5 (5, 6))) 24 #[.string ⟨#[206, 177, 98]⟩, .slice (some ⟨W2.heap.size, 0, none⟩) 3 3, .int .i64 2, .int .i64 0, .int .i64 2, .int .i64 1022, .slice (some ⟨W2.heap.size + 1, 0, none⟩) 5 5]
  rw [show ((W2.alloc (.cells #[.int .u8 107, .int .u8 101, .int .u8 121] 5 (3, 4))).alloc (.cells #[.int .u8 102, .int .u8 105, .int .u8 114, .int .u8 115, .int .u8 116] 5 (5, 6))).heap.size = W2.heap.size + 1 + 1 from by simp] at hC
  have hb2 : Below W2.heap.size W2 (((W2.alloc (.cells #[.int .u8 107, .int .u8 101, .int .u8 121] 5 (3, 4))).alloc (.cells #[.int .u8 102, .int .u8 105, .int .u8 114, .int .u8 115, .int .u8 116] 5 (5, 6))).alloc (.cells #[.string ⟨#[206, 177, 98]⟩, .slice (some ⟨W2.heap.size, 0, none⟩) 3 3, .int .i64 2, .int .i64 0, .int .i64 2, .int .i64 1022, .slice (some ⟨W2.heap.size + 1, 0, none⟩) 5 5] 24)) := (((Below.refl _ W2).alloc (Nat.le_refl _) _).alloc (by simp) _).alloc (by simp; omega) _
  have HK := Lib.hid hK
  have HF := Lib.hid hF
  have HC := Lib.hid hC
  have HB5 := Lib.hid (HB.out.trans (hb2.mono HB.out.size))
  have HLT := Lib.hid (show w.heap.size ≤ W2.heap.size from HB.out.size)
  have HCE := Lib.hid (show #[.string ⟨#[206, 177, 98]⟩, .slice (some ⟨W2.heap.size, 0, none⟩) 3 3, .int .i64 2, .int .i64 0, .int .i64 2, .int .i64 1022, .slice (some ⟨W2.heap.size + 1, 0, none⟩) 5 5] = (cfgG.cells (some ⟨W2.heap.size, 0, none⟩) 3 (some ⟨W2.heap.size + 1, 0, none⟩) 5).toArray from rfl)
  clear hK hF hC hb2 HB
  go_upto_region 5 with fail
  rw [HCE.out] at HC ⊢
  obtain ⟨CA, hCA⟩ : ∃ CA, (cfgG.cells (some ⟨W2.heap.size, 0, none⟩) 3 (some ⟨W2.heap.size + 1, 0, none⟩) 5).toArray = CA := ⟨_, rfl⟩
  rw [HCE.out] at HK HF HB5
  rw [hCA] at HC HK HF HB5 ⊢
  generalize ((W2.alloc (.cells #[.int .u8 107, .int .u8 101, .int .u8 121] 5 (3, 4))).alloc (.cells #[.int .u8 102, .int .u8 105, .int .u8 114, .int .u8 115, .int .u8 116] 5 (5, 6))).alloc (.cells CA 24) = W5 at HC HK HF HB5 ⊢
  have hldc : ∀ W, Blk W (W2.heap.size + 1 + 1) 24 CA → (sldK (.pointer (some ⟨W2.heap.size + 1 + 1, 0, none⟩))).run Tryz.prog W = .ok (.agg CA) W := fun W h => by rw [← hCA] at h ⊢; exact run_sldK rfl h.whole
  have hnew := mnewB W5 cfgG (some ⟨W2.heap.size, 0, none⟩) 3 (some ⟨W2.heap.size + 1, 0, none⟩) 5 (by decide) HK.out HF.out cfgG_right
  rw [hCA] at hnew
  have hgo := fun (W : World) (hW : Reads W (some ⟨W2.heap.size, 0, none⟩) cfgG.key.length (cfgG.key.map u8v)) (A : Option Addr) (n ic : Nat) (img : List UInt8) (hI : Reads W A n (img.map u8v)) (h1 : 1 ≤ n) (h2 : n ≤ 640) (hic : n ≤ ic ∧ ic ≤ maxLen) => goes_c W cfgG (some ⟨W2.heap.size, 0, none⟩) 3 (some ⟨W2.heap.size + 1, 0, none⟩) 5 hW (by decide) (by decide) A n ic img hI h1 (by omega) hic v
  rw [hCA] at hgo
  have HLDC := Lib.hid hldc
  have HNEW := Lib.hid hnew
  have HGO := Lib.hid hgo
  have hld := hldc _ HC.out
  clear hldc hnew hgo hCA HCE
  generalize W2.heap.size + 1 + 1 = cb at HC HLDC hld ⊢
  go_wp2_with fail
  refine HNEW.out.mono ?_
  rintro e w6 ⟨b, rfl, hmd, hb6⟩
  have hC6 := HC.out.below hb6 HC.out.lt
  have hld := HLDC.out _ hC6
  have HMD := Lib.hid hmd
  have HC6 := Lib.hid hC6
  have HK6 := Lib.hid (HK.out.below hb6)
  have HB6 := Lib.hid (HB5.out.trans (hb6.mono HB5.out.size))
  have HBW := Lib.hid HB5.out.size
  have HCB := Lib.hid HC.out.lt
  generalize W5.heap.size = BB at HMD HBW HCB
  have HN6 := Lib.hid (show w6.heap.size ≤ w6.heap.size from Nat.le_refl _)
  clear hmd hb6 hC6 HNEW HC HK HF HB5
  go_wp2_with fail
  refine (HGO.out w6 HK6.out IA n ic img (HI.out.below HB6.out) HN.out.1 HN.out.2.1 HIC.out).mono ?_
  rintro e w7 ⟨A7, c7, rq7, rfl, ho7, hp7, ha7, hb7⟩
  have hC7 := HC6.out.below hb7 HC6.out.lt
  have HMD7 := Lib.hid (HMD.out.later hb7)
  have HC7 := Lib.hid hC7
  have HK7 := Lib.hid (HK6.out.below hb7)
  have HB7 := Lib.hid (HB6.out.trans (hb7.mono HB6.out.size))
  have HO7 := Lib.hid ho7
  have HP7 := Lib.hid hp7
  have HA7 := Lib.hid ha7
  have HW7 := Lib.hid hb7.size
  have HWN := Lib.hid HB6.out.size
  clear hC7 ho7 hp7 ha7 hb7 hld HMD HC6 HK6 HB6
  generalize w6.heap.size = NN at *
  have hld := HLDC.out _ HC7.out
  obtain ⟨ib, io, hIe, hib, _⟩ := HI.out.2 (by have := HN.out; omega)
  subst hIe
  have HIB := Lib.hid hib
  clear hib
  go_upto_if 47 with fail
  go_cut [10] from 47 (fun va wx => ∃ (A : Option Addr) (cap : Nat) (rqs : List Rq), va = .slice A rqs.length cap ∧ wx.ownsRow NN 34 3 (.slice A rqs.length cap) rqs.length (rqC rqs) ∧ rqs.map Rq.p = goesA img v again ∧ (∀ q ∈ rqs, q.At wx NN (some ⟨ib, io, none⟩)) ∧ MdB wx BB NN b cfgG (st0 cfgG) ∧ Below w.heap.size w wx ∧ NN ≤ wx.heap.size)
  case first =>
    cases again
    · go_wp2_with fail
      go_meet
      exact ⟨_, _, rq7, rfl, HO7.out, by rw [HP7.out]; rfl, HA7.out, HMD7.out, HB7.out, HW7.out⟩
    · have hb8 : Below w7.heap.size w7 (w7.alloc (.cells #[.int .u8 110, .int .u8 101, .int .u8 120, .int .u8 116] 5 (4, 5))) := (Below.refl _ _).alloc (Nat.le_refl _) _
      have hr8 : Reads (w7.alloc (.cells #[.int .u8 110, .int .u8 101, .int .u8 120, .int .u8 116] 5 (4, 5))) (some ⟨w7.heap.size, 0, none⟩) 4 (([110, 101, 120, 116] : List UInt8).map u8v) := rowReads w7 [110, 101, 120, 116] 5 (4, 5)
      have hc8 : ∃ cs fr, (w7.alloc (.cells #[.int .u8 110, .int .u8 101, .int .u8 120, .int .u8 116] 5 (4, 5))).heap[w7.heap.size]? = some (.cells cs 5 fr) := ⟨_, _, heap_alloc_new w7 _⟩
      have hg9 := HGO.out _ (HK7.out.below hb8) (some ⟨w7.heap.size, 0, none⟩) 4 4 [110, 101, 120, 116] hr8 (by decide) (by decide) (by decide)
      have HR8 := Lib.hid hb8
      have HC8 := Lib.hid hc8
      have HG9 := Lib.hid hg9
      have HZ8 := Lib.hid (show w7.heap.size < (w7.alloc (.cells #[.int .u8 110, .int .u8 101, .int .u8 120, .int .u8 116] 5 (4, 5))).heap.size from by simp)
      obtain ⟨i0, hi8, hz0, hz1, hz2⟩ := info_parts info_req3
      have HI8 := Lib.hid hi8
      have HZ0 := Lib.hid hz0
      have HZ1 := Lib.hid hz1
      have HZ2 := Lib.hid hz2
      have HL7P := Lib.hid (show 0 < rq7.length from by
        have q := congrArg List.length HP7.out
        rw [List.length_map, goesL_len] at q
        omega)
      have HL7 := Lib.hid (show rq7.length ≤ 20 from by
        have q := congrArg List.length HP7.out
        rw [List.length_map, goesL_len, HLEN.out] at q
        have := HN.out
        unfold chunksZ at q
        split at q <;> omega)
      clear hb8 hr8 hc8 hg9 hi8 hz0 hz1 hz2
      go_wp2_with fail
      refine HG9.out.mono ?_
      rintro e w9 ⟨A9, c9, rq9, rfl, ho9, hp9, ha9, hb9⟩
      generalize w7.alloc (.cells #[.int .u8 110, .int .u8 101, .int .u8 120, .int .u8 116] 5 (4, 5)) = w8 at *
      have hbb := HR8.out.trans (hb9.mono HR8.out.size)
      obtain ⟨g9, c9', hv9⟩ := own_pos3 ho9 (by
        have q := congrArg List.length hp9
        rw [List.length_map, goesL_len] at q
        omega)
      injection hv9 with e1 _ e2
      subst e1 e2
      have HL9 := Lib.hid (show rq9.length ≤ 20 from by
        have q := congrArg List.length hp9
        rw [List.length_map, goesL_len] at q
        rw [q]
        decide)
      have HO9 := Lib.hid ho9
      have HP9 := Lib.hid hp9
      have HB9 := Lib.hid hb9
      have HBB := Lib.hid hbb
      have HCL := Lib.hid (ho9.cells (g := g9) rfl)
      have HOL := Lib.hid (own_only HO7.out (Only.of_below (S := []) hbb) (by simp))
      have HNW := Lib.hid (show NN ≤ w9.heap.size from Nat.le_trans HW7.out hbb.size)
      have HA9 := Lib.hid (show ∀ q ∈ rq9, q.At w9 NN (some ⟨ib, io, none⟩) from fun q hq => ((ha9 q hq).lower (Nat.le_trans HW7.out HR8.out.size)).turn HW7.out (by have := HZ8.out; have := hb9.size; omega) (by
        obtain ⟨cs, fr, hc⟩ := HC8.out
        exact ⟨cs, fr, by rw [hb9.block _ HZ8.out]; exact hc⟩))
      clear ho9 hp9 hb9 ha9 hbb hld HG9
      go_wp2_with (at_builtin; refine wpList_append_own_at _ rfl (.tmp 48) (.tmp 53) _ rfl NN 34 i0 (.agg #[.int .i64 0, .int .i64 0, .slice none 0 0]) 3 40 Tryz.underlying25 HI8.out HZ0.out HZ1.out HZ2.out rfl (by decide) _ rq7.length (rqC rq7) rfl HOL.out ⟨g9, 0, none⟩ rq9.length c9 (rqC rq9) rfl (rqC_len _) HCL.out (rqC_one _) (by have := HL7.out; have := HL9.out; unfold maxLen; omega) (by have := HL7.out; have := HL9.out; omega) HNW.out ?_; intro v2 w10 hown2 hgrow2 hnil2 hat2; obtain ⟨g2, c2, rfl⟩ := own_pos3 hown2 (by have := HL7P.out; omega); have HOA := Lib.hid hown2; have HGA := Lib.hid hgrow2; clear hown2 hgrow2 hat2 hnil2)
      go_meet
      refine ⟨_, _, rq7 ++ rq9, by rw [List.length_append], ?_, ?_, ?_, ?_, ?_, ?_⟩
      · rw [rqC_app, List.length_append]
        exact HOA.out
      · rw [List.map_append, HP7.out, HP9.out]
        rfl
      · intro q hq
        have hq2 : q.At w9 NN (some ⟨ib, io, none⟩) := by
          rcases List.mem_append.1 hq with h | h
          · exact (HA7.out q h).below HBB.out
          · exact HA9.out q h
        exact hq2.grownQ HGA.out HOL.out (Nat.lt_of_lt_of_le HIB.out HWN.out)
      · exact (HMD7.out.later HBB.out).grownB HGA.out (fun k hk => (HOL.out.lt k hk).1)
      · exact (HB7.out.trans (HBB.out.mono HB7.out.size)).grown HGA.out (Nat.le_trans HB7.out.size HBB.out.size) (fun g hg => Nat.le_trans HWN.out (HOL.out.lt g hg).1)
      · exact Nat.le_trans HNW.out HGA.out.size
  case rest =>
    obtain ⟨A, cap, rqs, rfl, ho, hp, ha, hmd, hb, hnn⟩ := hcut
    clear HO7 HP7 HA7 HMD7 HB7 HW7 HGO HK7 HC7 HLDC hld
    obtain ⟨gE, gI, gR, gM⟩ := goesA_end (img := img) (v := v) ⟨HN.out.2.2.1, HN.out.2.2.2⟩ (by rw [HLEN.out]; exact HN.out.1) (by rw [HLEN.out]; exact HN.out.2.1) again
    have gL := goesA_len img v again (by rw [HLEN.out]; exact HN.out.2.1)
    obtain ⟨L, hL⟩ : ∃ L, goesA img v again = L := ⟨_, rfl⟩
    rw [hL] at gE gI gR gM gL hp
    obtain ⟨S0, hS0⟩ : ∃ S, st0 cfgG = S := ⟨_, rfl⟩
    have hi0 := st0_inv cfgG_right
    rw [hS0] at gE gI gR gM hmd hi0
    have hrl : rqs.length = L.length := by rw [← hp, List.length_map]
    have hcr := cfgG_right
    obtain ⟨C, hC⟩ : ∃ C, cfgG = C := ⟨_, rfl⟩
    rw [hC] at gE gI gR gM hmd hi0 hcr
    have HE := Lib.hid gE
    have HIN := Lib.hid gI
    have HR := Lib.hid gR
    have HM := Lib.hid gM
    have HL := Lib.hid gL
    have HP := Lib.hid hp
    have HRL := Lib.hid hrl
    have HI0 := Lib.hid hi0
    have HCR := Lib.hid hcr
    have HO := Lib.hid ho
    have HA := Lib.hid ha
    have HMD := Lib.hid hmd
    have HB := Lib.hid hb
    have HNN := Lib.hid hnn
    clear hL hS0 hC gE gI gR gM gL hp hrl hi0 hcr ho ha hmd hb hnn
    go_wp2_with fail
    go_loopw [11] (fun i wr => ∃ (k : Nat), i = .int .i64 (k : Int) ∧ k ≤ rqs.length ∧ MdB wr BB NN b C (foldS C S0 (L.take k)) ∧ wr.ownsRow NN 34 3 (.slice A rqs.length cap) rqs.length (rqC rqs) ∧ (∀ q ∈ rqs, q.At wr NN (some ⟨ib, io, none⟩)) ∧ Below w.heap.size w wr ∧ NN ≤ wr.heap.size) (fun i _ => rqs.length - (intOf i).toNat)
    case atStart => exact ⟨0, rfl, Nat.zero_le _, HMD.out, HO.out, HA.out, HB.out, HNN.out⟩
    case round =>
      obtain ⟨k, rfl, hk, hmd, ho, ha, hb, hnn⟩ := hrel
      have HK := Lib.hid hk
      have HMD := Lib.hid hmd
      have HO := Lib.hid ho
      have HA := Lib.hid ha
      have HB := Lib.hid hb
      have HNN := Lib.hid hnn
      clear hk hmd ho ha hb hnn
      by_cases hlt : k < rqs.length
      · obtain ⟨gA, cA, hv⟩ := own_pos3 HO.out (by omega)
        injection hv with e1 _ e2
        subst e1 e2
        obtain ⟨q, hq⟩ : ∃ q, rqs[k]? = Option.some q := ⟨rqs[k], List.getElem?_eq_getElem hlt⟩
        have hqm : q ∈ rqs := List.mem_of_getElem? hq
        have hLq : L[k]? = Option.some q.p := by rw [← HP.out, List.getElem?_map, hq]; rfl
        obtain ⟨he0, hfo⟩ := allE0_at HE.out k q.p hLq
        have hAt := HA.out q hqm
        have hinv := MInv.fold HCR.out (L.take k) HI0.out
        have hdo := mdoB wr BB NN b C _ HCR.out hinv HMD.out q.k q.n q.A q.sl q.sc q.l hAt.rd (by have := hAt.le; omega) hAt.cap
        have he0' : (stepM C (foldS C S0 (L.take k)) q.k q.n q.l).2.1 = 0 := he0
        have hfo' : (stepM C (foldS C S0 (L.take k)) q.k q.n q.l).1 = foldS C S0 (L.take (k + 1)) := hfo.symm
        rw [he0', hfo'] at hdo
        have hld : (sldQ (.pointer (some ⟨gA, k * 3, none⟩))).run Tryz.prog wr = .ok (.agg #[.int .i64 q.k, .int .i64 q.n, .slice q.A q.sl q.sc]) wr := run_sldQ (cs := q.cells) rfl (fun j u hj => by
          have h1 := HO.out.cells (g := gA) rfl (k * 3 + j) u (rqC_at rqs k q hq j u hj)
          rw [add_zero_off] at h1
          exact h1)
        have hk1 : IntKind.i64.wrap ((k : Int) + 1) = (k : Int) + 1 := IntWalk.i64_in _ (by have := HRL.out; have := HL.out; omega)
        have HDO := Lib.hid hdo
        obtain ⟨qk, qn, qA, qsl, qsc, ql⟩ := q
        dsimp only at hld HDO
        clear hq hqm hLq he0 hfo hAt hinv hdo he0' hfo'
        obtain ⟨E1, hE1⟩ : ∃ E, (stepM C (foldS C S0 (L.take k)) qk qn ql).2.2.1 = E := ⟨_, rfl⟩
        obtain ⟨E2, hE2⟩ : ∃ E, (stepM C (foldS C S0 (L.take k)) qk qn ql).2.2.2 = E := ⟨_, rfl⟩
        rw [hE1, hE2] at HDO
        clear hE1 hE2
        go_wp2_with fail
        refine HDO.out.mono ?_
        rintro e w2 ⟨rfl, hmd2, ho2⟩
        have hwin : ∀ j, j ∈ win BB NN → BB ≤ j ∧ j < NN := fun j hj => mem_win.1 hj
        have HMD2 := Lib.hid (hmd2.later ((Below.refl _ w2).alloc (Nat.le_refl _) (.cells #[.int .i64 0, .int .i64 E1, .int .i64 E2] 37)))
        have HO2 := Lib.hid (own_only (own_only HO.out ho2 (fun j hj hm => by have := (HO.out.lt j hj).1; have := (hwin j hm).2; omega)) (Only.of_below (S := []) ((Below.refl _ w2).alloc (Nat.le_refl _) (.cells #[.int .i64 0, .int .i64 E1, .int .i64 E2] 37))) (by simp))
        have HA2 := Lib.hid (fun q hq => ((HA.out q hq).only ho2 (fun j hj => Or.inl (hwin j hj).2) (fun a ha hm => by injection ha with ha; rw [← ha] at hm; have := (hwin _ hm).1; have := HBW.out; have := HIB.out; dsimp only at *; omega)).below ((Below.refl _ w2).alloc (Nat.le_refl _) (.cells #[.int .i64 0, .int .i64 E1, .int .i64 E2] 37)))
        have hb2 := ho2.below HB.out HB.out.size (fun j hj => by have := (hwin j hj).1; have := HBW.out; omega)
        have HB2 := Lib.hid (hb2.alloc hb2.size (.cells #[.int .i64 0, .int .i64 E1, .int .i64 E2] 37))
        have HNN2 := Lib.hid (show NN ≤ (w2.alloc (.cells #[.int .i64 0, .int .i64 E1, .int .i64 E2] 37)).heap.size from by have := HNN.out; have := ho2.size; simp; omega)
        clear hmd2 ho2 hwin hb2 HDO hld
        go_wp2_with fail
        go_roundw
        case rel => exact ⟨k + 1, by go_num, by omega, HMD2.out, HO2.out, HA2.out, HB2.out, HNN2.out⟩
        case measure => simp [intOf]; omega
      · have hkk : k = rqs.length := by have := HK.out; omega
        have htk : L.take k = L := List.take_of_length_le (by have := HRL.out; omega)
        rw [htk] at HMD
        clear hkk htk
        have hact := fun W (hW : Below wr.heap.size wr W) => mactB W BB NN b C _ HCR.out HIN.out (HMD.out.later hW)
        have hmet := fun W (hW : Below wr.heap.size wr W) => mmetaB W BB NN b C _ (HMD.out.later hW)
        rw [HR.out] at hact
        have hmn := HM.out
        have hok : (foldS C S0 L).m.Ok := by obtain ⟨_, _, _, _, _, _, _, _, hm, _⟩ := HMD.out; exact hm.ok
        have hma := Mt.c69 hok
        rw [hmn] at hma
        rw [← List.getElem?_toArray] at hma
        obtain ⟨M, hM⟩ : ∃ M, (foldS C S0 L).m.cells.toArray = M := ⟨_, rfl⟩
        rw [hM] at hmet hma
        have hstr := strAny wr (some ⟨ib, io, none⟩) n ic img (HI.out.below HB.out)
        have HACT := Lib.hid hact
        have HMET := Lib.hid hmet
        have HMA := Lib.hid hma
        clear hact hmet hmn hM hok hma
        cases again
        · have hact : ∀ W, Below wr.heap.size wr W → Calls Tryz.prog 13 #[.pointer (some ⟨b, 0, none⟩)] W (MadeBytes W img) := fun W hW => by have q := HACT.out W hW; rw [if_neg (by decide)] at q; exact q
          have HAC := Lib.hid hact
          clear hact
          go_wp2_with fail
          refine (HAC.out _ (Below.refl _ _)).mono ?_
          rintro e w2 ⟨A2, c2, rfl, ho2, hb2⟩
          have hst2 := strAny w2 A2 img.length c2 img (Reads.of_own ho2)
          obtain ⟨D, hD⟩ : ∃ D : ByteArray, (⟨(img : List UInt8).toArray⟩ : ByteArray) = D := ⟨_, rfl⟩
          rw [hD] at hst2
          have hDD : D.toList = (img : List UInt8) := by rw [← hD, ByteArray.toList_eq]
          have hfld := run_fieldMn HMA.out
          have HB2 := Lib.hid (HB.out.trans (hb2.mono HB.out.size))
          have HME := Lib.hid (HMET.out w2 hb2)
          clear ho2 hb2 hD
          go_wp2_with fail
          refine HME.out.mono ?_
          rintro e w3 ⟨rfl, hb3⟩
          have HB3 := Lib.hid (HB2.out.trans (hb3.mono HB2.out.size))
          clear hb3
          go_wp2_with fail
          go_ret
          exact ⟨rfl, HB3.out⟩
        · have hact : ∀ W, Below wr.heap.size wr W → Calls Tryz.prog 13 #[.pointer (some ⟨b, 0, none⟩)] W (MadeBytes W [110, 101, 120, 116]) := fun W hW => by have q := HACT.out W hW; rw [if_pos rfl] at q; exact q
          have HAC := Lib.hid hact
          clear hact
          go_wp2_with fail
          refine (HAC.out _ (Below.refl _ _)).mono ?_
          rintro e w2 ⟨A2, c2, rfl, ho2, hb2⟩
          have hst2 := strAny w2 A2 4 c2 [110, 101, 120, 116] (Reads.of_own ho2)
          obtain ⟨D, hD⟩ : ∃ D : ByteArray, (⟨([110, 101, 120, 116] : List UInt8).toArray⟩ : ByteArray) = D := ⟨_, rfl⟩
          rw [hD] at hst2
          have hDD : D.toList = ([110, 101, 120, 116] : List UInt8) := by rw [← hD, ByteArray.toList_eq]
          have hfld := run_fieldMn HMA.out
          have HB2 := Lib.hid (HB.out.trans (hb2.mono HB.out.size))
          have HME := Lib.hid (HMET.out w2 hb2)
          clear ho2 hb2 hD
          go_wp2_with fail
          refine HME.out.mono ?_
          rintro e w3 ⟨rfl, hb3⟩
          have HB3 := Lib.hid (HB2.out.trans (hb3.mono HB2.out.size))
          clear hb3
          go_wp2_with fail
          go_ret
          exact ⟨rfl, HB3.out⟩
end Go.Proofs.YtpafenlcgcenlaaGreatDoor
