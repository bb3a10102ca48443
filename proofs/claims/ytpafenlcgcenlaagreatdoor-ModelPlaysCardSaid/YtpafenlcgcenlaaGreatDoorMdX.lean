/- A Model as data: its hundred and sixteen cells, its two slots. · (*model.Model).image. · A Config and a Model as wholes: sealed loads, stores, the build of a Model. · model.New. · A Model on the way: its slots laid, its first image told. · An Image built; an Image stored into a Model. · model.New of a config that may be. · (*model.Model).Do of no model. · (*model.Model).Active. · (*model.Model).Do of a request that the rights do not allow. · A Fact built. -/
import Derived.Test.YtpafenlcgcenlaaGreatDoorHeldTk
import Derived.Test.YtpafenlcgcenlaaGreatDoorCp
import Derived.Test.YtpafenlcgcenlaaGreatDoorUpP
import Derived.Deep.RegionHeld3
import Derived.Deep.DrawnRows
import Derived.Test.YtpafenlcgcenlaaGreatDoorMnB
import Derived.Laws.CopyOwn
namespace Go.Proofs.YtpafenlcgcenlaaGreatDoor
open Go Go.RowKit
set_option linter.unusedVariables false
set_option linter.unusedSimpArgs false
theorem Cf.cells_len (c : Cf) (K : Option Addr) (kc : Nat) (F : Option Addr) (fc : Nat) : (c.cells K kc F fc).length = 7 := rfl
/-- A Model's cells. -/
def mdC (cf : List Value) (m : Mt) (s0 s1 : Value) : List Value := cf ++ (m.cells ++ [s0, s1])
theorem mdC_len {cf : List Value} (hc : cf.length = 7) {m : Mt} (h : m.Ok) (s0 s1 : Value) : (mdC cf m s0 s1).length = 116 := by
 unfold mdC
 rw [List.length_append, List.length_append, hc, Mt.cells_len h]
 rfl
theorem info_sCf : (Tryz.prog.info? 24).map (·.size) = some 7 := by kernel_rfl
/-- A Model in the world: its block, its key, its slots in rows of their own. -/
structure MdAt (w : World) (B b : Nat) (c : Cf) (m : Mt) (l0 l1 : List UInt8) (K : Option Addr) (kc : Nat) (F : Option Addr) (fc : Nat) (S0 : Option Addr) (c0 : Nat) (S1 : Option Addr) (c1 : Nat) : Prop where
 blk : Blk w b 71 (mdC (c.cells K kc F fc) m (.slice S0 l0.length c0) (.slice S1 l1.length c1)).toArray
 ok : m.Ok
 key : w.ownsRow B 5 1 (.slice K c.key.length kc) c.key.length (c.key.map u8v)
 s0 : w.ownsRow B 5 1 (.slice S0 l0.length c0) l0.length (l0.map u8v)
 s1 : w.ownsRow B 5 1 (.slice S1 l1.length c1) l1.length (l1.map u8v)
 ge : B ≤ b
 ap0 : ∀ k, (Value.slice S0 l0.length c0).ownBlock = some k → (Value.slice K c.key.length kc).ownBlock ≠ some k ∧ (Value.slice S1 l1.length c1).ownBlock ≠ some k
 ap1 : ∀ k, (Value.slice S1 l1.length c1).ownBlock = some k → (Value.slice K c.key.length kc).ownBlock ≠ some k
section
variable {w w' : World} {B b : Nat} {c : Cf} {m : Mt} {l0 l1 : List UInt8} {K F S0 S1 : Option Addr} {kc fc c0 c1 : Nat}
theorem MdAt.below (h : MdAt w B b c m l0 l1 K kc F fc S0 c0 S1 c1) (hb : Below w.heap.size w w') : MdAt w' B b c m l0 l1 K kc F fc S0 c0 S1 c1 :=
 ⟨h.blk.below hb h.blk.lt, h.ok, own_only h.key (Only.of_below (S := []) hb) (by simp), own_only h.s0 (Only.of_below (S := []) hb) (by simp), own_only h.s1 (Only.of_below (S := []) hb) (by simp), h.ge, h.ap0, h.ap1⟩
/-- A new block is none of its rows. -/
theorem MdAt.fresh (h : MdAt w B b c m l0 l1 K kc F fc S0 c0 S1 c1) (k : Nat) (hk : w.heap.size ≤ k) : (Value.slice K c.key.length kc).ownBlock ≠ some k ∧ (Value.slice S0 l0.length c0).ownBlock ≠ some k ∧ (Value.slice S1 l1.length c1).ownBlock ≠ some k :=
 ⟨fun e => by have := (h.key.lt k e).2; omega, fun e => by have := (h.s0.lt k e).2; omega, fun e => by have := (h.s1.lt k e).2; omega⟩
/-- The cells ahead of the Meta. -/
theorem MdAt.cellC (h : MdAt w B b c m l0 l1 K kc F fc S0 c0 S1 c1) (k : Nat) (hk : k < 7) : w.cell? ⟨b, k, none⟩ = (c.cells K kc F fc)[k]? := by
 rw [h.blk.cell k, List.getElem?_toArray]
 unfold mdC
 rw [List.getElem?_append_left (by rw [Cf.cells_len]; exact hk)]
theorem MdAt.cellM (h : MdAt w B b c m l0 l1 K kc F fc S0 c0 S1 c1) (k : Nat) (hk : k < 107) : w.cell? ⟨b, 7 + k, none⟩ = m.cells[k]? := by
 have hm := Mt.cells_len h.ok
 rw [h.blk.cell (7 + k), List.getElem?_toArray]
 unfold mdC
 rw [List.getElem?_append_right (by rw [Cf.cells_len]; omega), Cf.cells_len, show 7 + k - 7 = k from by omega, List.getElem?_append_left (by omega)]
theorem MdAt.cell0 (h : MdAt w B b c m l0 l1 K kc F fc S0 c0 S1 c1) : w.cell? ⟨b, 114, none⟩ = some (.slice S0 l0.length c0) := by
 have hm := Mt.cells_len h.ok
 rw [h.blk.cell 114, List.getElem?_toArray]
 unfold mdC
 rw [List.getElem?_append_right (by rw [Cf.cells_len]; omega), Cf.cells_len, List.getElem?_append_right (by omega), hm]
 rfl
theorem MdAt.cell1 (h : MdAt w B b c m l0 l1 K kc F fc S0 c0 S1 c1) : w.cell? ⟨b, 115, none⟩ = some (.slice S1 l1.length c1) := by
 have hm := Mt.cells_len h.ok
 rw [h.blk.cell 115, List.getElem?_toArray]
 unfold mdC
 rw [List.getElem?_append_right (by rw [Cf.cells_len]; omega), Cf.cells_len, List.getElem?_append_right (by omega), hm]
 rfl
theorem MdAt.range (h : MdAt w B b c m l0 l1 K kc F fc S0 c0 S1 c1) : w.rangeAt b 7 m.cells := fun j v hj => by
 have hm := Mt.cells_len h.ok
 have hlt : j < 107 := by
  rcases Nat.lt_or_ge j 107 with q | q
  ·
   exact q
  ·
   rw [List.getElem?_eq_none (by omega)] at hj; cases hj
 rw [h.cellM j hlt, hj]
end
end Go.Proofs.YtpafenlcgcenlaaGreatDoor
namespace Go.Proofs.YtpafenlcgcenlaaGreatDoor
open Go Go.RowKit
set_option linter.unusedVariables false
set_option linter.unusedSimpArgs false
theorem own_capM {w : World} {base : Nat} {e : TypeId} {n c : Nat} {A : Option Addr} {xs : List Value} (h : w.ownsRow base e 1 (.slice A n c) n xs) : n ≤ c ∧ c ≤ maxLen := by
 rcases h.2 with ⟨h1, h2⟩ | ⟨g, cap, cur, h1, -, -, h3, h4, -⟩
 ·
  injection h1 with _ _ h1
  subst h1 h2
  exact ⟨Nat.le_refl _, Nat.zero_le _⟩
 ·
  injection h1 with _ _ h1
  subst h1
  exact ⟨h3, h4⟩
theorem cell_keepM {w w' : World} {g j : Nat} {v : Value} (h : w.cell? ⟨g, j, none⟩ = some v) (hb : Below w.heap.size w w') : w'.cell? ⟨g, j, none⟩ = some v := by
 have hlt : g < w.heap.size := by
  by_cases q : g < w.heap.size
  ·
   exact q
  ·
   simp only [World.cell?] at h
   rw [Array.getElem?_eq_none (by omega)] at h
   cases h
 rw [← h]; simp only [World.cell?, hb.block g hlt]
theorem MadeBytes.of_below {w w1 : World} {bs : List UInt8} {e : Ending} {w' : World} (hb : Below w.heap.size w w1) (h : MadeBytes w1 bs e w') : MadeBytes w bs e w' := by
 obtain ⟨A, c, he, ho, hbl⟩ := h
 exact ⟨A, c, he, own_base ho hb.size, hb.trans (hbl.mono hb.size)⟩
/-- How many of a row's things are the first ones of a size. -/
def cutN (n : Nat) (size : Int) : Nat := if size < 0 then 0 else if (n : Int) < size then n else size.toNat
theorem cutN_le (n : Nat) (size : Int) : cutN n size ≤ n := by
 unfold cutN
 split
 ·
  omega
 ·
  split <;> omega
theorem take_cutN (l : List UInt8) (size : Int) : l.take (cutN l.length size) = l.take size.toNat := by
 unfold cutN
 split
 ·
  rw [show size.toNat = 0 from by omega]
 ·
  split
  ·
   rw [List.take_of_length_le (Nat.le_refl _), List.take_of_length_le (by omega)]
  ·
   rfl
set_option maxRecDepth 100000 in
set_option maxHeartbeats 2000000 in
theorem mimage0_c (w : World) (B b : Nat) (c : Cf) (m : Mt) (l0 l1 : List UInt8) (K : Option Addr) (kc : Nat) (F : Option Addr) (fc : Nat) (S0 : Option Addr) (c0 : Nat) (S1 : Option Addr) (c1 : Nat) (h : MdAt w B b c m l0 l1 K kc F fc S0 c0 S1 c1) (size : Int) (hl : l0.length ≤ 100000) : Calls Tryz.prog 37 #[.pointer (some ⟨b, 0, none⟩), .int .i64 0, .int .i64 size] w fun e w' => MadeBytes w (l0.take size.toNat) e w' := by
 have hs0 := h.cell0
 have hcap := (own_capM h.s0).1
 rw [← take_cutN]
 obtain ⟨N, hN⟩ : ∃ N, cutN l0.length size = N := ⟨_, rfl⟩
 have hNl : N ≤ l0.length := by rw [← hN]; exact cutN_le _ _
 rw [hN]
 obtain ⟨M, hmin⟩ : ∃ M, (if (l0.length : Int) < size then (l0.length : Int) else size) = M := ⟨_, rfl⟩
 have hmax1 : (if M < 0 then (0 : Int) else M) = (N : Int) := by
  by_cases q2 : (l0.length : Int) < size
  ·
   have hM : M = (l0.length : Int) := by rw [← hmin, if_pos q2]
   rw [if_neg (by omega), hM, ← hN]; unfold cutN; rw [if_neg (by omega), if_pos q2]
  ·
   have hM : M = size := by rw [← hmin, if_neg q2]
   by_cases q1 : size < 0
   ·
    rw [hM, if_pos q1, ← hN]; unfold cutN; rw [if_pos q1]; rfl
   ·
    rw [hM, if_neg q1, ← hN]; unfold cutN; rw [if_neg q1, if_neg q2]; omega
 have hmax2 : (if 0 < M then M else (0 : Int)) = (N : Int) := by
  by_cases q : M < 0
  ·
   rw [if_pos q] at hmax1; rw [if_neg (by omega)]; exact hmax1
  ·
   rw [if_neg q] at hmax1
   by_cases q2 : 0 < M
   ·
    rw [if_pos q2]; exact hmax1
   ·
    rw [if_neg q2, ← hmax1]; omega
 have htl : (l0.take N).length = N := by rw [List.length_take]; omega
 have hrd : Reads w S0 N ((l0.take N).map u8v) := by
  have := (Reads.of_own h.s0).take hNl
  rwa [← List.map_take] at this
 have hcl : ∀ W, Reads W S0 N ((l0.take N).map u8v) → Calls Tryz.prog 25 #[.slice S0 N c0] W (MadeBytes W (l0.take N)) := fun W hr => by
  have := clone_c W S0 c0 (l0.take N) (by rw [htl]; exact hr) (by rw [htl]; omega)
  rwa [htl] at this
 have HRD := Lib.hid hrd
 have HTL := Lib.hid htl
 have hNc : N ≤ c0 := by omega
 clear h hN hrd htl
 go_enter Tryz.func37, Tryz.ntmps37
 go_upto_region 1 with fail
 have hX : Below w.heap.size w w.drew := (Below.refl _ _).drew
 have HXX := Lib.hid hX
 have hsd : w.drew.cell? ⟨b, 114, none⟩ = some (.slice S0 l0.length c0) := hs0
 clear hX
 refine wp_region_held_drew (S := (fun W => W.cell? ⟨b, 114, none⟩ = some (.slice S0 l0.length c0))) (by kernel_rfl) ?_ (fun hHeld => ?_)
 ·
  exact hsd
 refine tk 0 (h := ?_)
 refine tk 1 (h := ?_)
 refine tk 2 (h := ?_)
 refine tk 3 (h := ?_)
 refine tk 4 (h := ?_)
 refine tk 5 (h := ?_)
 refine tk 6 (h := ?_)
 refine tk 7 (h := ?_)
 refine tk 8 (h := ?_)
 refine tk 9 (h := ?_)
 refine tk 10 (h := ?_)
 refine tk 11 (h := ?_)
 refine tk 12 (h := ?_)
 refine tk 13 (h := ?_)
 refine rd 14 (h := fun K hK => ?_)
 go_simp
 refine so hK (by (try dsimp only); (first | assumption | exact cell_keepM (by assumption) hb9)) (h := fun hHeld => ?_)
 clear hK K
 try rw [hmin]
 refine rd 15 (h := fun K hK => ?_)
 go_simp
 refine so hK (by (try dsimp only); (first | assumption | exact cell_keepM (by assumption) hb9)) (h := fun hHeld => ?_)
 clear hK K
 first | rw [hmax1] | rw [hmax2] | skip
 refine tk 16 (h := ?_)
 refine rd 17 (h := fun K hK => ?_)
 go_simp
 refine (hcl _ (HRD.out.below HXX.out)).mono ?_
 rintro e w9 hmb
 have HMB := Lib.hid (hmb.of_below HXX.out)
 obtain ⟨A9, c9, rfl, ho9, hb9⟩ := hmb
 have HO9 := Lib.hid ho9
 go_wp2_with fail
 refine so hK (by (try dsimp only); (first | assumption | exact cell_keepM (by assumption) hb9)) (h := fun hHeld => ?_)
 clear hK K
 refine tk 18 (h := ?_)
 refine wpAnyH_done (by kernel_rfl) ?_ _
 try simp only [Act.put, List.getElem_toArray, List.getElem_cons_succ, List.getElem_cons_zero, List.setIfInBounds_toArray, List.set_cons_zero, List.set_cons_succ]
 go_wp2_with fail
 go_ret
 have hfin := HMB.out
 rw [HTL.out] at hfin
 exact hfin
set_option maxRecDepth 100000 in
set_option maxHeartbeats 2000000 in
theorem mimage1_c (w : World) (B b : Nat) (c : Cf) (m : Mt) (l0 l1 : List UInt8) (K : Option Addr) (kc : Nat) (F : Option Addr) (fc : Nat) (S0 : Option Addr) (c0 : Nat) (S1 : Option Addr) (c1 : Nat) (h : MdAt w B b c m l0 l1 K kc F fc S0 c0 S1 c1) (size : Int) (hl : l1.length ≤ 100000) : Calls Tryz.prog 37 #[.pointer (some ⟨b, 0, none⟩), .int .i64 1, .int .i64 size] w fun e w' => MadeBytes w (l1.take size.toNat) e w' := by
 have hs0 := h.cell1
 have hcap := (own_capM h.s1).1
 rw [← take_cutN]
 obtain ⟨N, hN⟩ : ∃ N, cutN l1.length size = N := ⟨_, rfl⟩
 have hNl : N ≤ l1.length := by rw [← hN]; exact cutN_le _ _
 rw [hN]
 obtain ⟨M, hmin⟩ : ∃ M, (if (l1.length : Int) < size then (l1.length : Int) else size) = M := ⟨_, rfl⟩
 have hmax1 : (if M < 0 then (0 : Int) else M) = (N : Int) := by
  by_cases q2 : (l1.length : Int) < size
  ·
   have hM : M = (l1.length : Int) := by rw [← hmin, if_pos q2]
   rw [if_neg (by omega), hM, ← hN]; unfold cutN; rw [if_neg (by omega), if_pos q2]
  ·
   have hM : M = size := by rw [← hmin, if_neg q2]
   by_cases q1 : size < 0
   ·
    rw [hM, if_pos q1, ← hN]; unfold cutN; rw [if_pos q1]; rfl
   ·
    rw [hM, if_neg q1, ← hN]; unfold cutN; rw [if_neg q1, if_neg q2]; omega
 have hmax2 : (if 0 < M then M else (0 : Int)) = (N : Int) := by
  by_cases q : M < 0
  ·
   rw [if_pos q] at hmax1; rw [if_neg (by omega)]; exact hmax1
  ·
   rw [if_neg q] at hmax1
   by_cases q2 : 0 < M
   ·
    rw [if_pos q2]; exact hmax1
   ·
    rw [if_neg q2, ← hmax1]; omega
 have htl : (l1.take N).length = N := by rw [List.length_take]; omega
 have hrd : Reads w S1 N ((l1.take N).map u8v) := by
  have := (Reads.of_own h.s1).take hNl
  rwa [← List.map_take] at this
 have hcl : ∀ W, Reads W S1 N ((l1.take N).map u8v) → Calls Tryz.prog 25 #[.slice S1 N c1] W (MadeBytes W (l1.take N)) := fun W hr => by
  have := clone_c W S1 c1 (l1.take N) (by rw [htl]; exact hr) (by rw [htl]; omega)
  rwa [htl] at this
 have HRD := Lib.hid hrd
 have HTL := Lib.hid htl
 have hNc : N ≤ c1 := by omega
 clear h hN hrd htl
 go_enter Tryz.func37, Tryz.ntmps37
 go_upto_region 1 with fail
 have hX : Below w.heap.size w w.drew := (Below.refl _ _).drew
 have HXX := Lib.hid hX
 have hsd : w.drew.cell? ⟨b, 115, none⟩ = some (.slice S1 l1.length c1) := hs0
 clear hX
 refine wp_region_held_drew (S := (fun W => W.cell? ⟨b, 115, none⟩ = some (.slice S1 l1.length c1))) (by kernel_rfl) ?_ (fun hHeld => ?_)
 ·
  exact hsd
 refine tk 0 (h := ?_)
 refine tk 1 (h := ?_)
 refine tk 2 (h := ?_)
 refine tk 3 (h := ?_)
 refine tk 4 (h := ?_)
 refine tk 5 (h := ?_)
 refine tk 6 (h := ?_)
 refine tk 7 (h := ?_)
 refine tk 8 (h := ?_)
 refine tk 9 (h := ?_)
 refine tk 10 (h := ?_)
 refine tk 11 (h := ?_)
 refine tk 12 (h := ?_)
 refine tk 13 (h := ?_)
 refine rd 14 (h := fun K hK => ?_)
 go_simp
 refine so hK (by (try dsimp only); (first | assumption | exact cell_keepM (by assumption) hb9)) (h := fun hHeld => ?_)
 clear hK K
 try rw [hmin]
 refine rd 15 (h := fun K hK => ?_)
 go_simp
 refine so hK (by (try dsimp only); (first | assumption | exact cell_keepM (by assumption) hb9)) (h := fun hHeld => ?_)
 clear hK K
 first | rw [hmax1] | rw [hmax2] | skip
 refine tk 16 (h := ?_)
 refine rd 17 (h := fun K hK => ?_)
 go_simp
 refine (hcl _ (HRD.out.below HXX.out)).mono ?_
 rintro e w9 hmb
 have HMB := Lib.hid (hmb.of_below HXX.out)
 obtain ⟨A9, c9, rfl, ho9, hb9⟩ := hmb
 have HO9 := Lib.hid ho9
 go_wp2_with fail
 refine so hK (by (try dsimp only); (first | assumption | exact cell_keepM (by assumption) hb9)) (h := fun hHeld => ?_)
 clear hK K
 refine tk 18 (h := ?_)
 refine wpAnyH_done (by kernel_rfl) ?_ _
 try simp only [Act.put, List.getElem_toArray, List.getElem_cons_succ, List.getElem_cons_zero, List.setIfInBounds_toArray, List.set_cons_zero, List.set_cons_succ]
 go_wp2_with fail
 go_ret
 have hfin := HMB.out
 rw [HTL.out] at hfin
 exact hfin
end Go.Proofs.YtpafenlcgcenlaaGreatDoor
namespace Go.Proofs.YtpafenlcgcenlaaGreatDoor
open Go Go.RowKit
set_option linter.unusedVariables false
set_option linter.unusedSimpArgs false
noncomputable def sldK (x : Value) : Sem Value := Instr.loadAt 24 x
theorem sldK_seal (x : Value) : Instr.loadAt 24 x = sldK x := rfl
noncomputable def sbMd (parts : Array (Nat × Value)) : Sem Value := Instr.build 71 parts
theorem sbMd_seal (parts : Array (Nat × Value)) : Instr.build 71 parts = sbMd parts := rfl
theorem run_sldK {W : World} {g o : Nat} {cs : List Value} (hs : cs.length = 7) (h : W.rangeAt g o cs) : (sldK (.pointer (some ⟨g, o, none⟩))).run Tryz.prog W = .ok (.agg cs.toArray) W :=
 run_loadAt_mid (P := Tryz.prog) W g o 24 cs _ h Tryz.underlying24 rfl (by rw [hs]; exact info_sCf)
def zeroCf : List Value := [.string ⟨#[]⟩, .slice none 0 0, .int .i64 0, .int .i64 0, .int .i64 0, .int .i64 0, .slice none 0 0]
theorem zeroMd : Tryz.zeroCells71 = (mdC zeroCf Mt.zero (.slice none 0 0) (.slice none 0 0)).toArray := by kernel_rfl
theorem builtMd (parts : List (Nat × Value)) : Tryz.prog.built 71 parts = Instr.fill (#[(0, 7), (7, 107), (114, 2)][·]?) Tryz.zeroCells71 parts := by kernel_rfl
theorem run_sbMd (cf : List Value) (hc : cf.length = 7) (w : World) : (sbMd #[(0, .agg cf.toArray)]).run Tryz.prog w = .ok (.agg (mdC cf Mt.zero (.slice none 0 0) (.slice none 0 0)).toArray) w := by
 refine run_build w _ _ _ ?_
 rw [builtMd, zeroMd, fill_one _ _ cf 0 0 [] (by rw [hc]; rfl) (by rw [hc, mdC_len (cf := zeroCf) rfl Mt.zero_ok]; decide)]
 rw [hc]
 rfl
theorem Cf.one (c : Cf) (K : Option Addr) (kc : Nat) (F : Option Addr) (fc : Nat) : ∀ u ∈ c.cells K kc F fc, u.oneCell' = true := by
 intro u hu
 simp only [Cf.cells, List.mem_cons, List.not_mem_nil, or_false] at hu
 rcases hu with rfl | rfl | rfl | rfl | rfl | rfl | rfl <;> rfl
end Go.Proofs.YtpafenlcgcenlaaGreatDoor
namespace Go.Proofs.YtpafenlcgcenlaaGreatDoor
open Go Go.RowKit
set_option linter.unusedVariables false
set_option linter.unusedSimpArgs false
attribute [local go_sem ↓] sldK_seal sbMd_seal sldI_seal sldM_seal
set_option maxRecDepth 100000 in
set_option maxHeartbeats 2000000 in
theorem mnew_no (w : World) (c : Cf) (K : Option Addr) (kc : Nat) (F : Option Addr) (fc : Nat) (hs : c.nm.size ≤ 1000000) (hno : c.right = false) : Calls Tryz.prog 8 #[.agg (c.cells K kc F fc).toArray] w fun e w' => e = .returned (.pointer none) ∧ Below w.heap.size w w' := by
 have hB0 := Blk.new w 24 (c.cells K kc F fc).toArray
 have hb0 : Below w.heap.size w (w.alloc (.cells (c.cells K kc F fc).toArray 24)) := (Below.refl _ _).alloc (Nat.le_refl _) _
 have hld := run_sldK (c.cells_len K kc F fc) (hB0.whole)
 have hri := fun W => cright_c W c K kc F fc hs
 rw [hno] at hri
 have HL := Lib.hid hb0
 clear hB0 hb0 hno
 go_enter Tryz.func8, Tryz.ntmps8
 go_wp2_with fail
 refine (hri _).mono ?_
 rintro e w1 ⟨rfl, hb1⟩
 have HL1 := Lib.hid (HL.out.trans (hb1.mono HL.out.size))
 clear hb1 hri
 go_wp2_with fail
 go_ret
 exact ⟨rfl, HL1.out⟩
end Go.Proofs.YtpafenlcgcenlaaGreatDoor
namespace Go.Proofs.YtpafenlcgcenlaaGreatDoor
open Go Go.RowKit
set_option linter.unusedVariables false
set_option linter.unusedSimpArgs false
/-- A copy as one step of a drawn region: only the row turns that is copied into. -/
theorem step_copy_only {P : Program} {ops : Array Oper} {o : Oper} {a : Act} {w : World} {K : Act → World → Prop} {Q : Exit → Act → World → Prop} {E : Prop} (hgd : o.guard = none) (d s : Operand) (dT sT : TypeId)
  (ho : o.op = .call { callee := .builtin .copy, args := #[d, s], argTypes := #[dT, sT] }) (elem : TypeId) (hu : P.underlying dT = some (.slice elem)) (hsz : (P.info? elem).map (·.size) = some 1)
  (dp sp : Option Addr) (dLen dCap sLen sCap : Nat) (hd : a.eval d = .slice dp dLen dCap) (hs : a.eval s = .slice sp sLen sCap)
  (g off : Nat) (cur : List Value) (t : TypeId) (hg : w.heap[g]? = some (.cells cur.toArray t (0, 0))) (cs : List Value) (hn : cs.length = Nat.min sLen dLen)
  (hpos : 0 < cs.length → dp = some ⟨g, off, none⟩ ∧ ∃ ad, sp = some ad ∧ ∀ j v, cs[j]? = some v → w.cell? (ad.add j) = some v)
  (hfit : off + cs.length ≤ cur.length) (h1 : ∀ v ∈ cs, v.oneCell' = true)
  (h : ∀ w', w'.heap[g]? = some (.cells (splice cur off cs).toArray t (0, 0)) → Only [g] w w' → K (a.put o.dst (goInt cs.length)) w') :
  if Region.wanted o (yielded ops a.tmps) = true then Oper.wp P o a w K Q else E := by
 have hw : Region.wanted o (yielded ops a.tmps) = true := by simp [Region.wanted, hgd]
 rw [if_pos hw]
 by_cases h0 : cs.length = 0
 ·
  obtain rfl : cs = [] := List.eq_nil_of_length_eq_zero h0
  have hrun := run_copy_none (P := P) w dT sT o.type elem dp sp dLen dCap sLen sCap hu hsz (by simpa using hn.symm)
  unfold Oper.wp
  simp [execOp, ho, resolve, invoke, builtin, hd, hs, hrun, Result.andThen]
  exact h w (show _ = _ by simpa [splice] using hg) (Only.refl _ _)
 ·
  obtain ⟨rfl, ad, rfl, hsrc⟩ := hpos (by omega)
  have hrun := run_copy_row (P := P) w dT sT o.type elem g off dLen dCap ad sLen sCap cur.toArray t cs hu hsz hg hn hsrc (by simpa using hfit) h1
  unfold Oper.wp
  simp [execOp, ho, resolve, invoke, builtin, hd, hs, hrun, Result.andThen]
  exact h _ (show _ = _ by simpa [splice] using setRow_heap w g _ _ t _ hg) ⟨rfl, rfl, rfl, by simp [World.setRow], fun b _ hb => setRow_other w g b _ (by simpa using hb)⟩
theorem mdC_set0 {cf : List Value} (hc : cf.length = 7) {m : Mt} (h : m.Ok) (s0 s1 v : Value) : (mdC cf m s0 s1).toArray.setIfInBounds 114 v = (mdC cf m v s1).toArray := by
 have hm := Mt.cells_len h
 rw [List.setIfInBounds_toArray]
 congr 1
 unfold mdC
 rw [List.set_append_right _ _ (show cf.length ≤ 114 by omega), hc, List.set_append_right _ _ (show m.cells.length ≤ 114 - 7 by omega), hm]
 rfl
theorem mdC_set1 {cf : List Value} (hc : cf.length = 7) {m : Mt} (h : m.Ok) (s0 s1 v : Value) : (mdC cf m s0 s1).toArray.setIfInBounds 115 v = (mdC cf m s0 v).toArray := by
 have hm := Mt.cells_len h
 rw [List.setIfInBounds_toArray]
 congr 1
 unfold mdC
 rw [List.set_append_right _ _ (show cf.length ≤ 115 by omega), hc, List.set_append_right _ _ (show m.cells.length ≤ 115 - 7 by omega), hm]
 rfl
/-- A repeated byte, in a row of its own. -/
theorem own_rep {w : World} {base g n : Nat} {x : UInt8} (h : Blk w g 5 (List.replicate n (u8v x)).toArray) (hb : base ≤ g) (hn : n ≤ maxLen) : w.ownsRow base 5 1 (.slice (some ⟨g, 0, none⟩) n n) n ((List.replicate n x).map u8v) := by
 refine ⟨by simp, .inr ⟨g, n, _, rfl, hb, h, Nat.le_refl _, hn, by simp, ?_⟩⟩
 rw [List.map_replicate, Nat.mul_one]
 exact List.take_of_length_le (by simp)
theorem own_noneM {w : World} {base : Nat} {e : TypeId} : w.ownsRow base e 1 (.slice none 0 0) 0 (([] : List UInt8).map u8v) := World.ownsRow_nil _ _ _ _
/-- Only one cell of a block that is no row of bytes turns: rows of bytes stand. -/
theorem own_setM {w : World} {base b j n c : Nat} {A : Option Addr} {xs : List Value} {cs : Array Value} {t : TypeId} (h : w.ownsRow base 5 1 (.slice A n c) n xs) (hb : Blk w b t cs) (ht : t ≠ 5) (v : Value) : (w.setCell ⟨b, j, none⟩ v).ownsRow base 5 1 (.slice A n c) n xs :=
 own_only h ((Only.refl [b] w).setCell (.inl (by simp)) v) (fun k hk => by
  simp only [List.mem_cons, List.not_mem_nil, or_false]
  rintro rfl
  exact own_blk_ne h hb (Ne.symm ht) hk)
section
variable {w w' : World} {B b : Nat} {c : Cf} {m : Mt} {l0 l1 : List UInt8} {K F S0 S1 : Option Addr} {kc fc c0 c1 : Nat}
theorem MdAt.setS0 (h : MdAt w B b c m l0 l1 K kc F fc S0 c0 S1 c1) {A : Option Addr} {n cc : Nat} {l : List UInt8} (hl : l.length = n) (ho : w.ownsRow B 5 1 (.slice A n cc) n (l.map u8v)) (hf : ∀ k, (Value.slice A n cc).ownBlock = some k → (Value.slice K c.key.length kc).ownBlock ≠ some k ∧ (Value.slice S1 l1.length c1).ownBlock ≠ some k) : MdAt (w.setCell ⟨b, 114, none⟩ (.slice A n cc)) B b c m l l1 K kc F fc A cc S1 c1 := by
 subst hl
 refine ⟨?_, h.ok, own_setM h.key h.blk (by decide) _, own_setM ho h.blk (by decide) _, own_setM h.s1 h.blk (by decide) _, h.ge, hf, h.ap1⟩
 have := h.blk.set_ 114 (.slice A l.length cc)
 rwa [mdC_set0 (c.cells_len K kc F fc) h.ok] at this
theorem MdAt.setS1 (h : MdAt w B b c m l0 l1 K kc F fc S0 c0 S1 c1) {A : Option Addr} {n cc : Nat} {l : List UInt8} (hl : l.length = n) (ho : w.ownsRow B 5 1 (.slice A n cc) n (l.map u8v)) (hf : ∀ k, (Value.slice A n cc).ownBlock = some k → (Value.slice K c.key.length kc).ownBlock ≠ some k ∧ (Value.slice S0 l0.length c0).ownBlock ≠ some k) : MdAt (w.setCell ⟨b, 115, none⟩ (.slice A n cc)) B b c m l0 l K kc F fc S0 c0 A cc := by
 subst hl
 refine ⟨?_, h.ok, own_setM h.key h.blk (by decide) _, own_setM h.s0 h.blk (by decide) _, own_setM ho h.blk (by decide) _, h.ge, fun k hk => ⟨(h.ap0 k hk).1, fun e => (hf k e).2 hk⟩, fun k hk => (hf k hk).1⟩
 have := h.blk.set_ 115 (.slice A l.length cc)
 rwa [mdC_set1 (c.cells_len K kc F fc) h.ok] at this
end
/-- A row of bytes that was copied into. -/
theorem own_splice {w w' : World} {base g n cap off : Nat} {l f : List UInt8} {cur : List Value} (h : w.ownsRow base 5 1 (.slice (some ⟨g, 0, none⟩) n cap) n (l.map u8v)) (hc : w.heap[g]? = some (.cells cur.toArray 5 (0, 0))) (hf : off + f.length ≤ n) (hg : w'.heap[g]? = some (.cells (splice cur off (f.map u8v)).toArray 5 (0, 0))) : w'.ownsRow base 5 1 (.slice (some ⟨g, 0, none⟩) n cap) n ((l.take off ++ f ++ l.drop (off + f.length)).map u8v) := by
 have hl : l.length = n := by have := h.1; rw [List.length_map, Nat.mul_one] at this; exact this
 rcases h.2 with ⟨h1, _⟩ | ⟨g', cap', cur', hv, hb, hh, hn, hm, hs, ht⟩
 ·
  cases h1
 ·
  injection hv with e1 _ e2
  injection e1 with e1
  injection e1 with e1
  subst e1 e2
  rw [hc] at hh
  injection hh with hh
  injection hh with hh
  subst hh
  rw [List.size_toArray, Nat.mul_one] at hs
  rw [Nat.mul_one] at ht
  have ht2 : cur.take n = l.map u8v := ht
  refine ⟨by simp; omega, .inr ⟨g, cap, _, rfl, hb, hg, hn, hm, ?_, ?_⟩⟩
  ·
   rw [List.size_toArray]; unfold splice; simp; omega
  ·
   show (splice cur off (f.map u8v)).take (n * 1) = _
   rw [Nat.mul_one]
   unfold splice
   have e1 : cur.take off = (l.take off).map u8v := by
    rw [List.map_take, ← ht2, List.take_take, Nat.min_eq_left (by omega)]
   have e2 : (cur.drop (off + f.length)).take (n - (off + f.length)) = (l.drop (off + f.length)).map u8v := by
    rw [List.map_drop, ← ht2, List.drop_take]
   rw [List.length_map, List.map_append, List.map_append, ← e1, ← e2, List.take_append, List.take_append]
   have q1 : (cur.take off).length = off := by rw [List.length_take]; omega
   rw [q1, List.length_map, List.take_of_length_le (l := cur.take off) (by rw [q1]; omega), List.take_of_length_le (l := f.map u8v) (by rw [List.length_map]; omega), List.append_assoc]
   congr 2
   congr 1
   omega
end Go.Proofs.YtpafenlcgcenlaaGreatDoor
namespace Go.Proofs.YtpafenlcgcenlaaGreatDoor
open Go Go.RowKit
set_option linter.unusedVariables false
set_option linter.unusedSimpArgs false
noncomputable def sbI (parts : Array (Nat × Value)) : Sem Value := Instr.build 41 parts
theorem sbI_seal (parts : Array (Nat × Value)) : Instr.build 41 parts = sbI parts := rfl
theorem builtI (parts : List (Nat × Value)) : Tryz.prog.built 41 parts = Instr.fill (#[(0, 1), (1, 1), (2, 32)][·]?) Img.zero.cells.toArray parts := by kernel_rfl
theorem run_sbI (v s : Int) (d : List UInt8) (hd : d.length = 32) (w : World) : (sbI #[(0, .int .i64 v), (1, .int .i64 s), (2, .agg (d.map u8v).toArray)]).run Tryz.prog w = .ok (.agg (Img.cells ⟨v, s, d⟩).toArray) w := by
 refine run_build w _ _ _ ?_
 rw [builtI]
 have hz : Img.zero.cells = i64v 0 :: i64v 0 :: List.replicate 32 (u8v 0) := by rfl
 have h1 : Instr.fill (#[(0, 1), (1, 1), (2, 32)][·]?) Img.zero.cells.toArray [(0, .int .i64 v), (1, .int .i64 s), (2, .agg (d.map u8v).toArray)] = Instr.fill (#[(0, 1), (1, 1), (2, 32)][·]?) (i64v v :: i64v s :: List.replicate 32 (u8v 0)).toArray [(2, .agg (d.map u8v).toArray)] := by
  rw [hz]; rfl
 rw [h1]
 have h2 := fill_one (#[(0, 1), (1, 1), (2, 32)][·]?) (i64v v :: i64v s :: List.replicate 32 (u8v 0)) (d.map u8v) 2 2 [] (by rw [List.length_map, hd]; rfl) (by rw [List.length_map, hd]; simp)
 refine Eq.trans h2 ?_
 rw [List.length_map, hd]
 show some _ = some _
 congr 2
 have e : List.drop (2 + 32) (i64v v :: i64v s :: List.replicate 32 (u8v 0)) = [] := List.drop_of_length_le (by simp)
 rw [e, List.append_nil]
 rfl
theorem splice_pre (cf m : List Value) (o : Nat) (xs : List Value) : splice (cf ++ m) (cf.length + o) xs = cf ++ splice m o xs := by
 unfold splice
 rw [List.take_append, List.drop_append, List.take_of_length_le (by omega), List.drop_of_length_le (l := cf) (by omega)]
 simp only [Nat.add_sub_cancel_left, List.nil_append, show cf.length + o + xs.length - cf.length = o + xs.length from by omega, List.append_assoc]
theorem splice_post (m ss : List Value) (o : Nat) (xs : List Value) (h : o + xs.length ≤ m.length) : splice (m ++ ss) o xs = splice m o xs ++ ss := by
 unfold splice
 rw [List.take_append_of_le_length (by omega), List.drop_append_of_le_length (by omega)]
 simp
theorem mdC_put0 {cf : List Value} (hc : cf.length = 7) {m : Mt} (h : m.Ok) (i : Img) (hi : i.d.length = 32) (s0 s1 : Value) : (mdC cf m s0 s1).take 8 ++ (i.cells ++ (mdC cf m s0 s1).drop (8 + i.cells.length)) = mdC cf { m with h0 := i } s0 s1 := by
 have hl := Img.cells_len hi
 have hm := Mt.cells_len h
 have h1 := splice_pre cf (m.cells ++ [s0, s1]) 1 i.cells
 rw [hc, splice_post m.cells [s0, s1] 1 i.cells (by omega)] at h1
 have h2 : splice m.cells 1 i.cells = ({ m with h0 := i } : Mt).cells := by unfold splice; rw [hl]; exact Mt.put1 h i
 rw [h2] at h1
 exact h1
theorem only_setCells {g : Nat} {w0 : World} : ∀ (l : List Value) (o : Nat) (w : World), Only [g] w0 w → Only [g] w0 (w.setCells g o l)
 | [], _, _, h => h
 | u :: l, o, w, h => only_setCells l (o + 1) _ (h.setCell (.inl (by simp)) u)
section
variable {w w' : World} {B b : Nat} {c : Cf} {m : Mt} {l0 l1 : List UInt8} {K F S0 S1 : Option Addr} {kc fc c0 c1 : Nat}
theorem MdAt.putH0 (h : MdAt w B b c m l0 l1 K kc F fc S0 c0 S1 c1) (i : Img) (hi : i.d.length = 32) : MdAt (w.setCells b 8 i.cells) B b c { m with h0 := i } l0 l1 K kc F fc S0 c0 S1 c1 := by
 have ho : Only [b] w (w.setCells b 8 i.cells) := only_setCells _ _ _ (Only.refl _ _)
 have hb := Blk.setCells i.cells 8 w _ h.blk (by rw [mdC_len (c.cells_len K kc F fc) h.ok, Img.cells_len hi]; omega)
 rw [mdC_put0 (c.cells_len K kc F fc) h.ok i hi] at hb
 have hn : ∀ {n cc : Nat} {A : Option Addr} {xs : List Value}, w.ownsRow B 5 1 (.slice A n cc) n xs → (w.setCells b 8 i.cells).ownsRow B 5 1 (.slice A n cc) n xs := fun hw => own_only hw ho (fun k hk => by
  simp only [List.mem_cons, List.not_mem_nil, or_false]
  rintro rfl
  exact own_blk_ne hw h.blk (by decide) hk)
 exact ⟨hb, ⟨hi, h.ok.d1, h.ok.d2, h.ok.act⟩, hn h.key, hn h.s0, hn h.s1, h.ge, h.ap0, h.ap1⟩
end
end Go.Proofs.YtpafenlcgcenlaaGreatDoor
namespace Go.Proofs.YtpafenlcgcenlaaGreatDoor
open Go Go.RowKit
set_option linter.unusedVariables false
set_option linter.unusedSimpArgs false
attribute [local go_sem ↓] sldK_seal sbMd_seal sldI_seal sldM_seal sbI_seal sstI_seal
/-- What stands while a Model is made: the Config's box, the Model, the first image. -/
structure NwAt (w0 W : World) (b : Nat) (c : Cf) (l0 l1 : List UInt8) (K : Option Addr) (kc : Nat) (F : Option Addr) (fc : Nat) (S0 : Option Addr) (c0 : Nat) (S1 : Option Addr) (c1 : Nat) : Prop where
 box : Blk W w0.heap.size 24 (c.cells K kc F fc).toArray
 md : MdAt W w0.heap.size b c Mt.zero l0 l1 K kc F fc S0 c0 S1 c1
 bel : Below w0.heap.size w0 W
theorem NwAt.later {w0 W W' : World} {b : Nat} {c : Cf} {l0 l1 : List UInt8} {K F S0 S1 : Option Addr} {kc fc c0 c1 : Nat} (h : NwAt w0 W b c l0 l1 K kc F fc S0 c0 S1 c1) (hb : Below W.heap.size W W') : NwAt w0 W' b c l0 l1 K kc F fc S0 c0 S1 c1 := ⟨h.box.below hb h.box.lt, h.md.below hb, h.bel.trans (hb.mono h.bel.size)⟩
theorem NwAt.set0 {w0 W : World} {b : Nat} {c : Cf} {l0 l1 : List UInt8} {K F S0 S1 : Option Addr} {kc fc c0 c1 : Nat} (h : NwAt w0 W b c l0 l1 K kc F fc S0 c0 S1 c1) {A : Option Addr} {n cc : Nat} {l : List UInt8} (hl : l.length = n) (ho : W.ownsRow w0.heap.size 5 1 (.slice A n cc) n (l.map u8v)) (hf : ∀ k, (Value.slice A n cc).ownBlock = some k → (Value.slice K c.key.length kc).ownBlock ≠ some k ∧ (Value.slice S1 l1.length c1).ownBlock ≠ some k) : NwAt w0 (W.setCell ⟨b, 114, none⟩ (.slice A n cc)) b c l l1 K kc F fc A cc S1 c1 :=
 ⟨h.box.only ((Only.refl [b] W).setCell (.inl (by simp)) _) (by have := Blk.ne_ h.box h.md.blk (by decide); simpa using this), h.md.setS0 hl ho hf, h.bel.setCell (p := ⟨b, 114, none⟩) h.md.ge _⟩
theorem NwAt.set1 {w0 W : World} {b : Nat} {c : Cf} {l0 l1 : List UInt8} {K F S0 S1 : Option Addr} {kc fc c0 c1 : Nat} (h : NwAt w0 W b c l0 l1 K kc F fc S0 c0 S1 c1) {A : Option Addr} {n cc : Nat} {l : List UInt8} (hl : l.length = n) (ho : W.ownsRow w0.heap.size 5 1 (.slice A n cc) n (l.map u8v)) (hf : ∀ k, (Value.slice A n cc).ownBlock = some k → (Value.slice K c.key.length kc).ownBlock ≠ some k ∧ (Value.slice S0 l0.length c0).ownBlock ≠ some k) : NwAt w0 (W.setCell ⟨b, 115, none⟩ (.slice A n cc)) b c l0 l K kc F fc S0 c0 A cc :=
 ⟨h.box.only ((Only.refl [b] W).setCell (.inl (by simp)) _) (by have := Blk.ne_ h.box h.md.blk (by decide); simpa using this), h.md.setS1 hl ho hf, h.bel.setCell (p := ⟨b, 115, none⟩) h.md.ge _⟩
theorem NwAt.copy0 {w0 W W' : World} {b g : Nat} {c : Cf} {l0 l1 l2 : List UInt8} {K F S0 S1 : Option Addr} {kc fc c0 c1 : Nat} {cur : Array Value} (h : NwAt w0 W b c l0 l1 K kc F fc S0 c0 S1 c1) (hb : Blk W g 5 cur) (hS : S0 = some ⟨g, 0, none⟩) (ho : Only [g] W W') (hge : w0.heap.size ≤ g) (hl : l2.length = l0.length) (hown : W'.ownsRow w0.heap.size 5 1 (.slice S0 l0.length c0) l0.length (l2.map u8v)) : NwAt w0 W' b c l2 l1 K kc F fc S0 c0 S1 c1 := by
 have hk : (Value.slice S0 l0.length c0).ownBlock = some g := by rw [hS]; rfl
 have n1 := Blk.ne_ h.box hb (by decide)
 have n2 := Blk.ne_ h.md.blk hb (by decide)
 have a0 := h.md.ap0 g hk
 refine ⟨h.box.only ho (by simpa using n1), ⟨by rw [hl]; exact h.md.blk.only ho (by simpa using n2), h.md.ok, own_only h.md.key ho ?_, by rw [hl]; exact hown, own_only h.md.s1 ho ?_, h.md.ge, ?_, h.md.ap1⟩, ho.below h.bel h.bel.size (by intro k hk; simp at hk; omega)⟩
 ·
  intro k hk2; simp only [List.mem_cons, List.not_mem_nil, or_false]; rintro rfl; exact a0.1 hk2
 ·
  intro k hk2; simp only [List.mem_cons, List.not_mem_nil, or_false]; rintro rfl; exact a0.2 hk2
 ·
  intro k hk2
  exact h.md.ap0 k (by rw [hS] at hk2 ⊢; exact hk2)
theorem Cf.slot_b {c : Cf} (h : c.right = true) : 1 ≤ c.slot ∧ c.slot ≤ 6 := by
 unfold Cf.right at h
 simp only [Bool.and_eq_true, decide_eq_true_eq] at h
 omega
theorem Cf.first_b {c : Cf} (h : c.right = true) : 1 ≤ c.first.length ∧ (c.first.length : Int) ≤ c.slot * 320 := by
 unfold Cf.right at h
 simp only [Bool.and_eq_true, decide_eq_true_eq] at h
 omega
def repB (c : Cf) : List UInt8 := List.replicate (c.slot * 320).toNat 255
/-- A new Model's Meta, and its first slot. -/
def newM (c : Cf) : Mt := { Mt.zero with h0 := ⟨1, (c.first.length : Int), sha c.first⟩ }
def newS (c : Cf) : List UInt8 := c.first ++ (repB c).drop c.first.length
set_option maxRecDepth 100000 in
set_option maxHeartbeats 2000000 in
theorem mnew_yes (w : World) (c : Cf) (K : Option Addr) (kc : Nat) (F : Option Addr) (fc : Nat) (hs : c.nm.size ≤ 1000000) (hK : Reads w K c.key.length (c.key.map u8v)) (hkl : c.key.length ≤ 1000) (hF : Reads w F c.first.length (c.first.map u8v)) (hfl : c.first.length ≤ 100000) (hyes : c.right = true) : Calls Tryz.prog 8 #[.agg (c.cells K kc F fc).toArray] w fun e w' => ∃ (b : Nat) (K' : Option Addr) (kc' : Nat) (S0 : Option Addr) (c0 : Nat) (S1 : Option Addr) (c1 : Nat), e = .returned (.pointer (some ⟨b, 0, none⟩)) ∧ MdAt w' w.heap.size b c (newM c) (newS c) (repB c) K' kc' F fc S0 c0 S1 c1 ∧ Below w.heap.size w w' := by
 have hB0 := Blk.new w 24 (c.cells K kc F fc).toArray
 have hb0 : Below w.heap.size w (w.alloc (.cells (c.cells K kc F fc).toArray 24)) := (Below.refl _ _).alloc (Nat.le_refl _) _
 have hld := run_sldK (c.cells_len K kc F fc) (hB0.whole)
 have hri := fun W => cright_c W c K kc F fc hs
 rw [hyes] at hri
 have hsl := Cf.slot_b hyes
 have hfq := Cf.first_b hyes
 have HL := Lib.hid hb0
 have HB0 := Lib.hid hB0
 have HK := Lib.hid hK
 have HF := Lib.hid hF
 clear hB0 hb0 hyes hK hF
 go_enter Tryz.func8, Tryz.ntmps8
 go_wp2_with fail
 refine (hri _).mono ?_
 rintro e w1 ⟨rfl, hb1⟩
 have hB1 := HB0.out.below hb1 HB0.out.lt
 have hL1 := HL.out.trans (hb1.mono HL.out.size)
 have k1 : w1.cell? ⟨w.heap.size, 1, none⟩ = some (.slice K c.key.length kc) := hB1.cell 1
 have HB1 := Lib.hid hB1
 have HL1 := Lib.hid hL1
 clear hb1 hri hld HB0 HL hB1 hL1
 go_wp2_with fail
 refine (clone_c w1 K kc c.key (HK.out.below HL1.out) (by omega)).mono ?_
 rintro e w2 ⟨K2, kc2, rfl, ho2, hb2⟩
 have hB2 := HB1.out.below hb2 HB1.out.lt
 have k1 : w2.cell? ⟨w.heap.size, 1, none⟩ = some (.slice K c.key.length kc) := hB2.cell 1
 have f1 := hB2.frozen 1
 have hB3 : Blk (w2.setCell ⟨w.heap.size, 1, none⟩ (.slice K2 c.key.length kc2)) w.heap.size 24 (c.cells K2 kc2 F fc).toArray := hB2.set_ 1 (.slice K2 c.key.length kc2)
 have hL3 : Below w.heap.size w (w2.setCell ⟨w.heap.size, 1, none⟩ (.slice K2 c.key.length kc2)) := (HL1.out.trans (hb2.mono HL1.out.size)).setCell (Nat.le_refl _) _
 have ho3 := own_setM (own_base ho2 HL1.out.size) hB2 (by decide) (j := 1) (.slice K2 c.key.length kc2)
 have HB3 := Lib.hid hB3
 have HL3 := Lib.hid hL3
 have HO3 := Lib.hid ho3
 clear hB2 hB3 hL3 ho3 ho2 hb2 HB1 HL1
 go_upto_region 4 with fail
 have hB3 := HB3.out
 have hL3 := HL3.out
 have ho3 := HO3.out
 clear HB3 HL3 HO3 k1 f1
 generalize w2.setCell ⟨w.heap.size, 1, none⟩ (.slice K2 c.key.length kc2) = w3 at hB3 hL3 ho3 ⊢
 have hld := run_sldK (c.cells_len K2 kc2 F fc) (hB3.whole)
 have hbd := fun W => run_sbMd (c.cells K2 kc2 F fc) rfl W
 have hmd : NwAt w (w3.alloc (.cells (mdC (c.cells K2 kc2 F fc) Mt.zero (.slice none 0 0) (.slice none 0 0)).toArray 71)) w3.heap.size c [] [] K2 kc2 F fc none 0 none 0 :=
  ⟨hB3.alloc _, ⟨Blk.new w3 _ _, Mt.zero_ok, ho3.alloc _, own_noneM, own_noneM, hL3.size, fun k hk => absurd hk (by simp [Value.ownBlock]), fun k hk => absurd hk (by simp [Value.ownBlock])⟩, hL3.alloc hL3.size _⟩
 have HMD := Lib.hid hmd
 clear hB3 hL3 ho3 hmd
 go_upto_region 5 with fail
 have hmd := HMD.out
 generalize w3.alloc (.cells (mdC (c.cells K2 kc2 F fc) Mt.zero (.slice none 0 0) (.slice none 0 0)).toArray 71) = w4 at hmd ⊢
 generalize w3.heap.size = b at hmd ⊢
 clear HMD hld hbd
 have HMD := Lib.hid hmd
 clear hmd
 go_wp2_with fail
 have hn : (c.slot * 320).toNat ≤ 1920 := by omega
 have hni : IntKind.i64.wrap (c.slot * 320) = c.slot * 320 := IntWalk.i64_in _ (by omega)
 have hnn : (((c.slot * 320).toNat : Nat) : Int) = c.slot * 320 := by omega
 go_loopw [15] (fun i wr => ∃ (k : Nat) (S0 : Option Addr) (c0 : Nat) (S1 : Option Addr) (c1 : Nat), i = .int .i64 k ∧ k ≤ 2 ∧ NwAt w wr b c (if 1 ≤ k then repB c else []) (if 2 ≤ k then repB c else []) K2 kc2 F fc S0 c0 S1 c1) (fun i wr => (match i with | .int _ x => (2 : Int) - x | _ => 0).toNat)
 case atStart => exact ⟨0, none, 0, none, 0, rfl, Nat.zero_le _, HMD.out⟩
 case round =>
  obtain ⟨k, S0, c0, S1, c1, rfl, hk2, hst⟩ := hrel
  have HST := Lib.hid hst
  clear hst
  rcases (by omega : k = 0 ∨ k = 1 ∨ k = 2) with rfl | rfl | rfl
  ·
   go_upto_region 8 with fail
   have hst : NwAt w wr.drew b c [] [] K2 kc2 F fc S0 c0 S1 c1 := HST.out.later ((Below.refl _ _).drew)
   have HS : ∀ W b2 l0 l1 S0 c0 S1 c1, NwAt w W b2 c l0 l1 K2 kc2 F fc S0 c0 S1 c1 → W.cell? ⟨w.heap.size, 2, none⟩ = some (.int .i64 c.slot) := fun W b2 l0 l1 S0 c0 S1 c1 h => h.box.cell 2
   have hs0 := HS _ _ _ _ _ _ _ _ (HST.out.later ((Below.refl _ wr).drew))
   have HSS := Lib.hid HS
   clear hst HS
   refine wp_region_held_drew (S := (fun W => W.cell? ⟨w.heap.size, 2, none⟩ = some (.int .i64 c.slot))) (by kernel_rfl) ?_ (fun hHeld => ?_)
   ·
    exact hs0
   generalize hwd : wr.drew = Wd at hs0 hHeld ⊢
   have hst : NwAt w Wd b c [] [] K2 kc2 F fc S0 c0 S1 c1 := by rw [← hwd]; exact HST.out.later ((Below.refl _ _).drew)
   clear hwd HST
   have HST := Lib.hid hst
   clear hst
   refine tk 0 (h := ?_)
   refine tk 1 (h := ?_)
   refine tk 3 (h := ?_)
   refine tk 4 (h := ?_)
   refine tk 5 (h := ?_)
   refine tk 7 (h := ?_)
   refine tk 8 (h := ?_)
   have hnew := Blk.new Wd 5 #[.int .u8 255]
   have hst : NwAt w (Wd.alloc (.cells #[.int .u8 255] 5)) b c [] [] K2 kc2 F fc S0 c0 S1 c1 := HST.out.later ((Below.refl _ _).alloc (Nat.le_refl _) _)
   clear HST
   have HST := Lib.hid hst
   clear hst
   refine rd 2 (h := fun K hK => ?_)
   go_simp
   refine so hK (by (try dsimp only); (exact HSS.out _ _ _ _ _ _ _ _ HST.out)) (h := fun hHeld => ?_)
   clear hK K
   generalize Wd.alloc (.cells #[.int .u8 255] 5) = We at HST hnew hHeld ⊢
   have hcx : We.cell? ⟨Wd.heap.size, 0, none⟩ = some (u8v 255) := hnew.cell 0
   generalize Wd.heap.size = gx at hcx ⊢
   clear hnew
   have hrp := repeat_c We 255 gx 0 1 (c.slot * 320).toNat hcx (by omega)
   rw [hnn] at hrp
   refine rd 6 (h := fun K hK => ?_)
   go_simp
   refine hrp.mono ?_
   rintro e w5 ⟨rfl, hrb, hb5⟩
   have hfr := HST.out.md.fresh We.heap.size (Nat.le_refl _)
   have HFR := Lib.hid hfr
   clear hfr
   have ho5 := own_rep hrb HST.out.bel.size (by unfold maxLen; omega)
   have hst := HST.out.later hb5
   clear HST
   have HST := Lib.hid hst
   have HO5 := Lib.hid ho5
   clear hst hrb hb5 ho5 hrp hcx
   go_wp2_with fail
   refine so hK (by (try dsimp only); (exact HSS.out _ _ _ _ _ _ _ _ HST.out)) (h := fun hHeld => ?_)
   clear hK K
   refine tk 9 (h := ?_)
   have q0 := HST.out.md.cell0
   have fz := HST.out.md.blk.frozen 114
   have hst := HST.out.set0 (l := repB c) List.length_replicate HO5.out (fun k hk => (show We.heap.size = k by simpa [Value.ownBlock] using hk) ▸ ⟨HFR.out.1, HFR.out.2.2⟩)
   clear HST
   have HST := Lib.hid hst
   clear hst HO5
   refine rd 10 (h := fun K hK => ?_)
   go_simp
   refine so hK (by (try dsimp only); (exact HSS.out _ _ _ _ _ _ _ _ HST.out)) (h := fun hHeld => ?_)
   clear hK K
   refine wpAnyH_done (by kernel_rfl) ?_ _
   try simp only [Act.put, List.getElem_toArray, List.getElem_cons_succ, List.getElem_cons_zero, List.setIfInBounds_toArray, List.set_cons_zero, List.set_cons_succ]
   go_wp2_with fail
   go_roundw
   case rel => exact ⟨1, _, _, _, _, rfl, by omega, HST.out⟩
   case measure =>
    dsimp only
    omega
  ·
   go_upto_region 8 with fail
   have hst : NwAt w wr.drew b c (repB c) [] K2 kc2 F fc S0 c0 S1 c1 := HST.out.later ((Below.refl _ _).drew)
   have HS : ∀ W b2 l0 l1 S0 c0 S1 c1, NwAt w W b2 c l0 l1 K2 kc2 F fc S0 c0 S1 c1 → W.cell? ⟨w.heap.size, 2, none⟩ = some (.int .i64 c.slot) := fun W b2 l0 l1 S0 c0 S1 c1 h => h.box.cell 2
   have hs0 := HS _ _ _ _ _ _ _ _ (HST.out.later ((Below.refl _ wr).drew))
   have HSS := Lib.hid HS
   clear hst HS
   refine wp_region_held_drew (S := (fun W => W.cell? ⟨w.heap.size, 2, none⟩ = some (.int .i64 c.slot))) (by kernel_rfl) ?_ (fun hHeld => ?_)
   ·
    exact hs0
   generalize hwd : wr.drew = Wd at hs0 hHeld ⊢
   have hst : NwAt w Wd b c (repB c) [] K2 kc2 F fc S0 c0 S1 c1 := by rw [← hwd]; exact HST.out.later ((Below.refl _ _).drew)
   clear hwd HST
   have HST := Lib.hid hst
   clear hst
   refine tk 0 (h := ?_)
   refine tk 1 (h := ?_)
   refine tk 3 (h := ?_)
   refine tk 4 (h := ?_)
   refine tk 5 (h := ?_)
   refine tk 7 (h := ?_)
   refine tk 8 (h := ?_)
   have hnew := Blk.new Wd 5 #[.int .u8 255]
   have hst : NwAt w (Wd.alloc (.cells #[.int .u8 255] 5)) b c (repB c) [] K2 kc2 F fc S0 c0 S1 c1 := HST.out.later ((Below.refl _ _).alloc (Nat.le_refl _) _)
   clear HST
   have HST := Lib.hid hst
   clear hst
   refine rd 2 (h := fun K hK => ?_)
   go_simp
   refine so hK (by (try dsimp only); (exact HSS.out _ _ _ _ _ _ _ _ HST.out)) (h := fun hHeld => ?_)
   clear hK K
   generalize Wd.alloc (.cells #[.int .u8 255] 5) = We at HST hnew hHeld ⊢
   have hcx : We.cell? ⟨Wd.heap.size, 0, none⟩ = some (u8v 255) := hnew.cell 0
   generalize Wd.heap.size = gx at hcx ⊢
   clear hnew
   have hrp := repeat_c We 255 gx 0 1 (c.slot * 320).toNat hcx (by omega)
   rw [hnn] at hrp
   refine rd 6 (h := fun K hK => ?_)
   go_simp
   refine hrp.mono ?_
   rintro e w5 ⟨rfl, hrb, hb5⟩
   have hfr := HST.out.md.fresh We.heap.size (Nat.le_refl _)
   have HFR := Lib.hid hfr
   clear hfr
   have ho5 := own_rep hrb HST.out.bel.size (by unfold maxLen; omega)
   have hst := HST.out.later hb5
   clear HST
   have HST := Lib.hid hst
   have HO5 := Lib.hid ho5
   clear hst hrb hb5 ho5 hrp hcx
   go_wp2_with fail
   refine so hK (by (try dsimp only); (exact HSS.out _ _ _ _ _ _ _ _ HST.out)) (h := fun hHeld => ?_)
   clear hK K
   refine tk 9 (h := ?_)
   have q0 := HST.out.md.cell1
   have fz := HST.out.md.blk.frozen 115
   have hst := HST.out.set1 (l := repB c) List.length_replicate HO5.out (fun k hk => (show We.heap.size = k by simpa [Value.ownBlock] using hk) ▸ ⟨HFR.out.1, HFR.out.2.1⟩)
   clear HST
   have HST := Lib.hid hst
   clear hst HO5
   refine rd 10 (h := fun K hK => ?_)
   go_simp
   refine so hK (by (try dsimp only); (exact HSS.out _ _ _ _ _ _ _ _ HST.out)) (h := fun hHeld => ?_)
   clear hK K
   refine wpAnyH_done (by kernel_rfl) ?_ _
   try simp only [Act.put, List.getElem_toArray, List.getElem_cons_succ, List.getElem_cons_zero, List.setIfInBounds_toArray, List.set_cons_zero, List.set_cons_succ]
   go_wp2_with fail
   go_roundw
   case rel => exact ⟨2, _, _, _, _, rfl, by omega, HST.out⟩
   case measure =>
    dsimp only
    omega
  ·
   rw [if_pos (by omega), if_pos (by omega)] at HST
   have hrl : (repB c).length = (c.slot * 320).toNat := List.length_replicate
   have HRL := Lib.hid hrl
   obtain ⟨g0, cap, cur, hv, hge, hcell, hncap, hcm, hcs, htk⟩ : ∃ g cap cur, Value.slice S0 (repB c).length c0 = .slice (some ⟨g, 0, none⟩) (repB c).length cap ∧ w.heap.size ≤ g ∧ wr.heap[g]? = some (.cells cur 5 (0, 0)) ∧ (repB c).length ≤ cap ∧ cap ≤ maxLen ∧ cur.size = cap * 1 ∧ cur.toList.take ((repB c).length * 1) = (repB c).map u8v := by
    rcases HST.out.md.s0.2 with ⟨_, h0⟩ | h
    ·
     omega
    ·
     exact h
   injection hv with e1 _ e2
   subst e1 e2
   clear hrl
   go_upto_region 10 with fail
   have hs0 : wr.drew.cell? ⟨b, 114, none⟩ = some (.slice (some ⟨g0, 0, none⟩) (repB c).length c0) ∧ wr.drew.cell? ⟨w.heap.size, 6, none⟩ = some (.slice F c.first.length fc) := ⟨HST.out.md.cell0, HST.out.box.cell 6⟩
   refine wp_region_held_drew (S := (fun W => W.cell? ⟨b, 114, none⟩ = some (.slice (some ⟨g0, 0, none⟩) (repB c).length c0) ∧ W.cell? ⟨w.heap.size, 6, none⟩ = some (.slice F c.first.length fc))) (by kernel_rfl) ?_ (fun hHeld => ?_)
   ·
    exact hs0
   generalize hwd : wr.drew = Wd at hs0 hHeld ⊢
   have hst := HST.out.later ((Below.refl _ wr).drew)
   have hcd : wr.drew.heap[g0]? = some (.cells cur 5 (0, 0)) := hcell
   rw [hwd] at hst hcd
   clear HST hwd
   have HST := Lib.hid hst
   clear hst hcell
   refine tk 0 (h := ?_)
   refine tk 1 (h := ?_)
   refine tk 2 (h := ?_)
   refine tk 3 (h := ?_)
   refine tk 4 (h := ?_)
   refine tk 5 (h := ?_)
   refine tk 6 (h := ?_)
   refine rd 7 (h := fun K hK => ?_)
   refine step_copy_only rfl (.tmp 33) (.tmp 35) 22 22 (by rfl) 5 Tryz.underlying22 info_s8n (some ⟨g0, 0, none⟩) F (repB c).length c0 c.first.length fc (by rfl) (by rfl) g0 0 cur.toList 5 (by rw [Array.toArray_toList]; exact hcd) (c.first.map u8v) (by rw [List.length_map]; exact (Nat.min_eq_left (by have := HRL.out; omega)).symm) (fun h => ⟨rfl, srcfN (HF.out.below HST.out.bel) h⟩) (by rw [List.length_map, Array.length_toList]; have := HRL.out; omega) (u8v_one _) ?_
   intro w6 hg6 ho6
   have how := own_splice HST.out.md.s0 (by rw [Array.toArray_toList]; exact hcd) (by have := HRL.out; omega) hg6
   rw [List.take_zero, List.nil_append, Nat.zero_add] at how
   have hst := HST.out.copy0 (cur := cur) hcd rfl ho6 hge (by rw [List.length_append, List.length_drop]; have := HRL.out; omega) how
   clear HST
   have HST := Lib.hid hst
   clear hst how
   refine so hK (by (try dsimp only); (exact ⟨by first | exact HST.out.md.cell0 | (have q := HST.out.md.cell0; rw [List.length_append, List.length_drop, HRL.out, Nat.add_sub_cancel' (by omega)] at q; rw [HRL.out]; exact q), HST.out.box.cell 6⟩)) (h := fun hHeld => ?_)
   clear hK K
   refine wpAnyH_done (by kernel_rfl) ?_ _
   try simp only [Act.put, List.getElem_toArray, List.getElem_cons_succ, List.getElem_cons_zero, List.setIfInBounds_toArray, List.set_cons_zero, List.set_cons_succ]
   go_upto_region 11 with fail
   clear hs0
   have hs1 : w6.drew.cell? ⟨w.heap.size, 6, none⟩ = some (.slice F c.first.length fc) := HST.out.box.cell 6
   have hbd := fun W => run_sbI 1 (c.first.length : Int) (sha c.first) (sha_len c.first) W
   refine wp_region_held_drew (S := (fun W => W.cell? ⟨w.heap.size, 6, none⟩ = some (.slice F c.first.length fc))) (by kernel_rfl) ?_ (fun hHeld => ?_)
   ·
    exact hs1
   generalize hwd : w6.drew = We at hs1 hHeld ⊢
   have hst := HST.out.later ((Below.refl _ w6).drew)
   rw [hwd] at hst
   clear HST hwd
   have HST := Lib.hid hst
   clear hst
   refine tk 0 (h := ?_)
   refine tk 1 (h := ?_)
   refine tk 2 (h := ?_)
   refine tk 3 (h := ?_)
   refine tk 4 (h := ?_)
   refine tk 5 (h := ?_)
   refine tk 8 (h := ?_)
   refine tk 9 (h := ?_)
   refine tk 10 (h := ?_)
   refine rd 6 (h := fun K hK => ?_)
   go_simp
   refine (sum_c _ F fc c.first (HF.out.below HST.out.bel) (by omega)).mono ?_
   rintro e w7 ⟨rfl, hb7⟩
   have hst := HST.out.later hb7
   clear HST
   have HST := Lib.hid hst
   clear hst hb7
   go_wp2_with fail
   refine so hK (by (try dsimp only); (first | exact HBX.out.cell 6 | exact HST.out.box.cell 6)) (h := fun hHeld => ?_)
   clear hK K
   refine tk 7 (h := ?_)
   refine tk 11 (h := ?_)
   have hsi := run_sstI HST.out.md.blk 8 (by rw [List.size_toArray, mdC_len (c.cells_len K2 kc2 F fc) Mt.zero_ok]; omega) ⟨1, (c.first.length : Int), sha c.first⟩ (sha_len c.first)
   have hbx := HST.out.box.only (only_setCells (Img.cells ⟨1, (c.first.length : Int), sha c.first⟩) 8 w7 (Only.refl [b] w7)) (by have := Blk.ne_ HST.out.box HST.out.md.blk (by decide); simpa using this)
   have hmd := HST.out.md.putH0 ⟨1, (c.first.length : Int), sha c.first⟩ (sha_len c.first)
   have hbe := below_setCells HST.out.md.ge (Img.cells ⟨1, (c.first.length : Int), sha c.first⟩) 8 w7 HST.out.bel
   have HBX := Lib.hid hbx
   have HMD2 := Lib.hid hmd
   have HBE := Lib.hid hbe
   clear hbx hmd hbe
   refine rd 12 (h := fun K hK => ?_)
   go_simp
   refine so hK (by (try dsimp only); (first | exact HBX.out.cell 6 | exact HST.out.box.cell 6)) (h := fun hHeld => ?_)
   clear hK K
   refine wpAnyH_done (by kernel_rfl) ?_ _
   try simp only [Act.put, List.getElem_toArray, List.getElem_cons_succ, List.getElem_cons_zero, List.setIfInBounds_toArray, List.set_cons_zero, List.set_cons_succ]
   go_wp2_with fail
   go_ret
   exact ⟨b, K2, kc2, _, _, _, _, rfl, HMD2.out, HBE.out⟩
end Go.Proofs.YtpafenlcgcenlaaGreatDoor
namespace Go.Proofs.YtpafenlcgcenlaaGreatDoor
open Go Go.RowKit
set_option linter.unusedVariables false
set_option linter.unusedSimpArgs false
theorem info_sRp : (Tryz.prog.info? 37).map (·.size) = some 3 := by kernel_rfl
set_option maxRecDepth 100000 in
set_option maxHeartbeats 1000000 in
theorem mdo_nil (w : World) (qk qn : Int) (SB : Option Addr) (sl sc : Nat) : Calls Tryz.prog 10 #[.pointer none, .agg #[.int .i64 qk, .int .i64 qn, .slice SB sl sc]] w fun e w' => e = .returned (.agg #[.int .i64 1, .int .i64 0, .int .i64 0]) ∧ Below w.heap.size w w' := by
 have hb0 : Below w.heap.size w (w.alloc (.cells #[.int .i64 qk, .int .i64 qn, .slice SB sl sc] 34)) := (Below.refl _ _).alloc (Nat.le_refl _) _
 have HB := Lib.hid hb0
 clear hb0
 go_enter Tryz.func10, Tryz.ntmps10
 go_wp2_with fail
 have hn := Blk.new (w.alloc (.cells #[.int .i64 qk, .int .i64 qn, .slice SB sl sc] 34)) 37 #[.int .i64 1, .int .i64 0, .int .i64 0]
 rw [show (w.alloc (.cells #[.int .i64 qk, .int .i64 qn, .slice SB sl sc] 34)).heap.size = w.heap.size + 1 from by simp] at hn
 refine bodyPost_ret (results_cell_row rfl _ _ (w.heap.size + 1) 37 #[.int .i64 1, .int .i64 0, .int .i64 0] (0, 0) _ rfl hn Tryz.underlying37 rfl info_sRp) rfl ?_
 exact ⟨rfl, HB.out.alloc HB.out.size _⟩
end Go.Proofs.YtpafenlcgcenlaaGreatDoor
namespace Go.Proofs.YtpafenlcgcenlaaGreatDoor
open Go Go.RowKit
set_option linter.unusedVariables false
set_option linter.unusedSimpArgs false
theorem mactive_nil (w : World) : Calls Tryz.prog 13 #[.pointer none] w fun e w' => e = .returned (.slice none 0 0) ∧ w = w' := by
 go_enter Tryz.func13, Tryz.ntmps13
 go_wp2_with fail
 go_ret
 exact ⟨rfl, rfl⟩
theorem Mt.h1s {m : Mt} (h : m.Ok) : m.cells[36]? = some (i64v m.h1.s) := by
 have e := Img.cells_len h.d0
 show (i64v m.act :: (m.h0.cells ++ (m.h1.cells ++ _)))[36]? = _
 rw [List.getElem?_cons_succ, List.getElem?_append_right (by rw [e]; omega), e]
 rfl
set_option maxRecDepth 100000 in
set_option maxHeartbeats 2000000 in
theorem mactive0_c (w : World) (B b : Nat) (c : Cf) (m : Mt) (l0 l1 : List UInt8) (K : Option Addr) (kc : Nat) (F : Option Addr) (fc : Nat) (S0 : Option Addr) (c0 : Nat) (S1 : Option Addr) (c1 : Nat) (h : MdAt w B b c m l0 l1 K kc F fc S0 c0 S1 c1) (hact : m.act = 0) (hl : l0.length ≤ 100000) : Calls Tryz.prog 13 #[.pointer (some ⟨b, 0, none⟩)] w fun e w' => MadeBytes w (l0.take m.h0.s.toNat) e w' := by
 have k0 : w.cell? ⟨b, 7, none⟩ = some (.int .i64 0) := by
  have q := h.cellM 0 (by omega)
  rw [show 7 + 0 = 7 from rfl] at q
  rw [q]
  show some (i64v m.act) = _
  rw [hact]
 have k1 : w.cell? ⟨b, 9, none⟩ = some (.int .i64 m.h0.s) := by
  have q := h.cellM 2 (by omega)
  rw [show 7 + 2 = 9 from rfl] at q
  rw [q]
  exact rfl
 have him := fun W (hw : Below w.heap.size w W) => mimage0_c W B b c m l0 l1 K kc F fc S0 c0 S1 c1 (h.below hw) m.h0.s hl
 clear h hact
 go_enter Tryz.func13, Tryz.ntmps13
 go_upto_region 3 with fail
 have hX : Below w.heap.size w w.drew := (Below.refl _ _).drew
 have HX := Lib.hid hX
 have hs0 : w.drew.cell? ⟨b, 7, none⟩ = some (.int .i64 0) ∧ w.drew.cell? ⟨b, 9, none⟩ = some (.int .i64 m.h0.s) := ⟨k0, k1⟩
 clear hX
 refine wp_region_held_drew (S := (fun W => W.cell? ⟨b, 7, none⟩ = some (.int .i64 0) ∧ W.cell? ⟨b, 9, none⟩ = some (.int .i64 m.h0.s))) (by kernel_rfl) ?_ (fun hHeld => ?_)
 ·
  exact hs0
 refine tk 0 (h := ?_)
 refine tk 1 (h := ?_)
 refine tk 2 (h := ?_)
 refine tk 3 (h := ?_)
 refine tk 4 (h := ?_)
 refine tk 5 (h := ?_)
 refine tk 6 (h := ?_)
 refine tk 7 (h := ?_)
 refine tk 8 (h := ?_)
 refine tk 9 (h := ?_)
 refine tk 10 (h := ?_)
 refine tk 11 (h := ?_)
 refine tk 12 (h := ?_)
 refine tk 13 (h := ?_)
 refine tk 14 (h := ?_)
 refine tk 15 (h := ?_)
 refine tk 16 (h := ?_)
 refine tk 17 (h := ?_)
 refine rd 18 (h := fun K hK => ?_)
 go_simp
 refine (him _ HX.out).mono ?_
 rintro e w9 hmb
 have HMB := Lib.hid (hmb.of_below HX.out)
 obtain ⟨A9, c9, rfl, ho9, hb9⟩ := hmb
 clear ho9
 go_wp2_with fail
 refine so hK (by (try dsimp only); (exact ⟨cell_keepM hHeld.1 hb9, cell_keepM hHeld.2 hb9⟩)) (h := fun hHeld => ?_)
 clear hK K
 refine tk 19 (h := ?_)
 refine wpAnyH_done (by kernel_rfl) ?_ _
 try simp only [Act.put, List.getElem_toArray, List.getElem_cons_succ, List.getElem_cons_zero, List.setIfInBounds_toArray, List.set_cons_zero, List.set_cons_succ]
 go_wp2_with fail
 go_ret
 have hfin := HMB.out
 rw [List.length_take] at hfin
 exact hfin
set_option maxRecDepth 100000 in
set_option maxHeartbeats 2000000 in
theorem mactive1_c (w : World) (B b : Nat) (c : Cf) (m : Mt) (l0 l1 : List UInt8) (K : Option Addr) (kc : Nat) (F : Option Addr) (fc : Nat) (S0 : Option Addr) (c0 : Nat) (S1 : Option Addr) (c1 : Nat) (h : MdAt w B b c m l0 l1 K kc F fc S0 c0 S1 c1) (hact : m.act = 1) (hl : l1.length ≤ 100000) : Calls Tryz.prog 13 #[.pointer (some ⟨b, 0, none⟩)] w fun e w' => MadeBytes w (l1.take m.h1.s.toNat) e w' := by
 have k0 : w.cell? ⟨b, 7, none⟩ = some (.int .i64 1) := by
  have q := h.cellM 0 (by omega)
  rw [show 7 + 0 = 7 from rfl] at q
  rw [q]
  show some (i64v m.act) = _
  rw [hact]
 have k1 : w.cell? ⟨b, 43, none⟩ = some (.int .i64 m.h1.s) := by
  have q := h.cellM 36 (by omega)
  rw [show 7 + 36 = 43 from rfl] at q
  rw [q]
  exact Mt.h1s h.ok
 have him := fun W (hw : Below w.heap.size w W) => mimage1_c W B b c m l0 l1 K kc F fc S0 c0 S1 c1 (h.below hw) m.h1.s hl
 clear h hact
 go_enter Tryz.func13, Tryz.ntmps13
 go_upto_region 3 with fail
 have hX : Below w.heap.size w w.drew := (Below.refl _ _).drew
 have HX := Lib.hid hX
 have hs0 : w.drew.cell? ⟨b, 7, none⟩ = some (.int .i64 1) ∧ w.drew.cell? ⟨b, 43, none⟩ = some (.int .i64 m.h1.s) := ⟨k0, k1⟩
 clear hX
 refine wp_region_held_drew (S := (fun W => W.cell? ⟨b, 7, none⟩ = some (.int .i64 1) ∧ W.cell? ⟨b, 43, none⟩ = some (.int .i64 m.h1.s))) (by kernel_rfl) ?_ (fun hHeld => ?_)
 ·
  exact hs0
 refine tk 0 (h := ?_)
 refine tk 1 (h := ?_)
 refine tk 2 (h := ?_)
 refine tk 3 (h := ?_)
 refine tk 4 (h := ?_)
 refine tk 5 (h := ?_)
 refine tk 6 (h := ?_)
 refine tk 7 (h := ?_)
 refine tk 8 (h := ?_)
 refine tk 9 (h := ?_)
 refine tk 10 (h := ?_)
 refine tk 11 (h := ?_)
 refine tk 12 (h := ?_)
 refine tk 13 (h := ?_)
 refine tk 14 (h := ?_)
 refine tk 15 (h := ?_)
 refine tk 16 (h := ?_)
 refine tk 17 (h := ?_)
 refine rd 18 (h := fun K hK => ?_)
 go_simp
 refine (him _ HX.out).mono ?_
 rintro e w9 hmb
 have HMB := Lib.hid (hmb.of_below HX.out)
 obtain ⟨A9, c9, rfl, ho9, hb9⟩ := hmb
 clear ho9
 go_wp2_with fail
 refine so hK (by (try dsimp only); (exact ⟨cell_keepM hHeld.1 hb9, cell_keepM hHeld.2 hb9⟩)) (h := fun hHeld => ?_)
 clear hK K
 refine tk 19 (h := ?_)
 refine wpAnyH_done (by kernel_rfl) ?_ _
 try simp only [Act.put, List.getElem_toArray, List.getElem_cons_succ, List.getElem_cons_zero, List.setIfInBounds_toArray, List.set_cons_zero, List.set_cons_succ]
 go_wp2_with fail
 go_ret
 have hfin := HMB.out
 rw [List.length_take] at hfin
 exact hfin
end Go.Proofs.YtpafenlcgcenlaaGreatDoor
namespace Go.Proofs.YtpafenlcgcenlaaGreatDoor
open Go Go.RowKit
set_option linter.unusedVariables false
set_option linter.unusedSimpArgs false
set_option maxRecDepth 100000 in
set_option maxHeartbeats 2000000 in
theorem mdo_no (w : World) (B b : Nat) (c : Cf) (m : Mt) (l0 l1 : List UInt8) (K : Option Addr) (kc : Nat) (F : Option Addr) (fc : Nat) (S0 : Option Addr) (c0 : Nat) (S1 : Option Addr) (c1 : Nat) (h : MdAt w B b c m l0 l1 K kc F fc S0 c0 S1 c1) (r : Nat) (hr : c.rights = (r : Int)) (hr2 : r ≤ 1023) (qk qn : Int) (SB : Option Addr) (sl sc : Nat) (hno : mayK r qk = false) : Calls Tryz.prog 10 #[.pointer (some ⟨b, 0, none⟩), .agg #[.int .i64 qk, .int .i64 qn, .slice SB sl sc]] w fun e w' => e = .returned (.agg #[.int .i64 14, .int .i64 0, .int .i64 0]) ∧ Below w.heap.size w w' := by
 have hq := (Blk.new w 34 #[.int .i64 qk, .int .i64 qn, .slice SB sl sc]).alloc (.cells #[.int .i64 0, .int .i64 0, .int .i64 0] 37)
 have hx := (Blk.new (w.alloc (.cells #[.int .i64 qk, .int .i64 qn, .slice SB sl sc] 34)) 37 #[.int .i64 0, .int .i64 0, .int .i64 0])
 rw [show (w.alloc (.cells #[.int .i64 qk, .int .i64 qn, .slice SB sl sc] 34)).heap.size = w.heap.size + 1 from by simp] at hx
 have hb : Below w.heap.size w ((w.alloc (.cells #[.int .i64 qk, .int .i64 qn, .slice SB sl sc] 34)).alloc (.cells #[.int .i64 0, .int .i64 0, .int .i64 0] 37)) := ((Below.refl _ w).alloc (Nat.le_refl _) _).alloc (by simp) _
 have hm := h.below hb
 have k5 : ((w.alloc (.cells #[.int .i64 qk, .int .i64 qn, .slice SB sl sc] 34)).alloc (.cells #[.int .i64 0, .int .i64 0, .int .i64 0] 37)).cell? ⟨b, 5, none⟩ = some (.int .i64 (r : Int)) := by
  rw [hm.cellC 5 (by omega)]
  show some (Value.int .i64 c.rights) = _
  rw [hr]
 have hmay := fun W => cmay_c W r hr2 0 0 qk
 rw [hno] at hmay
 have HQ := Lib.hid hq
 have HX := Lib.hid hx
 have HB := Lib.hid hb
 have HK5 := Lib.hid k5
 clear h hm hq hx hb hno k5 hr
 go_enter Tryz.func10, Tryz.ntmps10
 go_upto_region 3 with fail
 have hq := HQ.out
 have hx := HX.out
 have hb := HB.out
 have k5 := HK5.out
 clear HQ HX HB HK5
 generalize ((w.alloc (.cells #[.int .i64 qk, .int .i64 qn, .slice SB sl sc] 34)).alloc (.cells #[.int .i64 0, .int .i64 0, .int .i64 0] 37)) = W at hq hx hb k5 ⊢
 have HB := Lib.hid hb
 have HX := Lib.hid hx
 have hs0 : W.drew.cell? ⟨b, 5, none⟩ = some (.int .i64 (r : Int)) ∧ W.drew.cell? ⟨w.heap.size, 0, none⟩ = some (.int .i64 qk) := ⟨k5, hq.cell 0⟩
 clear hb hx hq
 refine wp_region_held_drew (S := (fun W => W.cell? ⟨b, 5, none⟩ = some (.int .i64 (r : Int)) ∧ W.cell? ⟨w.heap.size, 0, none⟩ = some (.int .i64 qk))) (by kernel_rfl) ?_ (fun hHeld => ?_)
 ·
  exact hs0
 refine tk 0 (h := ?_)
 refine tk 1 (h := ?_)
 refine tk 2 (h := ?_)
 refine tk 3 (h := ?_)
 refine tk 4 (h := ?_)
 refine tk 5 (h := ?_)
 refine tk 6 (h := ?_)
 refine tk 7 (h := ?_)
 refine rd 8 (h := fun K hK => ?_)
 go_simp
 refine (hmay _).mono ?_
 rintro e w9 ⟨rfl, hb9⟩
 go_wp2_with fail
 refine so hK (by (try dsimp only); (exact ⟨cell_keepM hHeld.1 hb9, cell_keepM hHeld.2 hb9⟩)) (h := fun hHeld => ?_)
 clear hK K
 refine tk 9 (h := ?_)
 refine wpAnyH_done (by kernel_rfl) ?_ _
 try simp only [Act.put, List.getElem_toArray, List.getElem_cons_succ, List.getElem_cons_zero, List.setIfInBounds_toArray, List.set_cons_zero, List.set_cons_succ]
 have hb2 := (Below.refl W.heap.size W).drew.trans hb9
 have HX2 := Lib.hid (HX.out.below hb2 HX.out.lt)
 have HB2 := Lib.hid (HB.out.trans (hb2.mono HB.out.size))
 have q0 := HX2.out.cell 0
 have q1 := HX2.out.cell 1
 have q2 := HX2.out.cell 2
 have z0 := HX2.out.frozen 0
 have z1 := HX2.out.frozen 1
 have z2 := HX2.out.frozen 2
 go_wp2_with fail
 have hge : w.heap.size ≤ w.heap.size + 1 := Nat.le_succ _
 refine bodyPost_ret (results_cell_row rfl _ _ (w.heap.size + 1) 37 #[.int .i64 14, .int .i64 0, .int .i64 0] (0, 0) _ rfl (((HX2.out.set_ 0 (.int .i64 14)).set_ 1 (.int .i64 0)).set_ 2 (.int .i64 0)) Tryz.underlying37 rfl info_sRp) rfl ?_
 exact ⟨rfl, ((HB2.out.setCell hge _).setCell hge _).setCell hge _⟩
end Go.Proofs.YtpafenlcgcenlaaGreatDoor
namespace Go.Proofs.YtpafenlcgcenlaaGreatDoor
open Go Go.RowKit
set_option linter.unusedVariables false
set_option linter.unusedSimpArgs false
noncomputable def sbFc (parts : Array (Nat × Value)) : Sem Value := Instr.build 78 parts
theorem sbFc_seal (parts : Array (Nat × Value)) : Instr.build 78 parts = sbFc parts := rfl
def zeroFc : List Value := .bool false :: .bool false :: (List.replicate 32 (u8v 0) ++ [.bool false])
theorem builtFc (parts : List (Nat × Value)) : Tryz.prog.built 78 parts = Instr.fill (#[(0, 1), (1, 1), (2, 32), (34, 1)][·]?) zeroFc.toArray parts := by kernel_rfl
theorem run_sbFc (a t : Bool) (d : List UInt8) (hd : d.length = 32) (w : World) : (sbFc #[(0, .bool a), (1, .bool t), (2, .agg (d.map u8v).toArray)]).run Tryz.prog w = .ok (.agg (Fc.cells ⟨a, t, d, false⟩).toArray) w := by
 refine run_build w _ _ _ ?_
 rw [builtFc]
 have h1 : Instr.fill (#[(0, 1), (1, 1), (2, 32), (34, 1)][·]?) zeroFc.toArray [(0, .bool a), (1, .bool t), (2, .agg (d.map u8v).toArray)] = Instr.fill (#[(0, 1), (1, 1), (2, 32), (34, 1)][·]?) (.bool a :: .bool t :: (List.replicate 32 (u8v 0) ++ [.bool false]) : List Value).toArray [(2, .agg (d.map u8v).toArray)] := by rfl
 rw [h1]
 have h2 := fill_one (#[(0, 1), (1, 1), (2, 32), (34, 1)][·]?) (.bool a :: .bool t :: (List.replicate 32 (u8v 0) ++ [.bool false])) (d.map u8v) 2 2 [] (by rw [List.length_map, hd]; rfl) (by rw [List.length_map, hd]; simp)
 refine Eq.trans h2 ?_
 rw [List.length_map, hd]
 show some _ = some _
 congr 2
end Go.Proofs.YtpafenlcgcenlaaGreatDoor
