/- waterlinelaw20.Goes: the requests of an update. -/
import Derived.Test.YtpafenlcgcenlaaGreatDoorCp
import Derived.Test.YtpafenlcgcenlaaGreatDoorRmnA
import Derived.Test.YtpafenlcgcenlaaGreatDoorRdP
import Derived.Test.YtpafenlcgcenlaaGreatDoorRs7
import Derived.Maps.AppendAt
import Derived.Deep.RegionHeld3
import Derived.Deep.DrawnRows
namespace Go.Proofs.YtpafenlcgcenlaaGreatDoor
open Go Go.RowKit
set_option linter.unusedVariables false
set_option linter.unusedSimpArgs false
/-- A request as data. -/
structure Rp where
  k : Int
  n : Int
  l : List UInt8
/-- A request, and where its bytes lie. -/
structure Rq where
  k : Int
  n : Int
  A : Option Addr
  sl : Nat
  sc : Nat
  l : List UInt8
def Rq.cells (q : Rq) : List Value := [.int .i64 q.k, .int .i64 q.n, .slice q.A q.sl q.sc]
def Rq.p (q : Rq) : Rp := ⟨q.k, q.n, q.l⟩
def rqC (l : List Rq) : List Value := l.flatMap Rq.cells
theorem rqC_len (l : List Rq) : (rqC l).length = l.length * 3 := by
  unfold rqC
  induction l with
  | nil => rfl
  | cons q l ih => rw [List.flatMap_cons, List.length_append, ih, List.length_cons]; show 3 + _ = _; omega
theorem rqC_app (l l2 : List Rq) : rqC (l ++ l2) = rqC l ++ rqC l2 := List.flatMap_append
theorem rqC_one (l : List Rq) : ∀ u ∈ rqC l, u.oneCell' = true := by
  intro u hu
  unfold rqC at hu
  rw [List.mem_flatMap] at hu
  obtain ⟨q, _, hq⟩ := hu
  unfold Rq.cells at hq
  simp only [List.mem_cons, List.not_mem_nil, or_false] at hq
  rcases hq with rfl | rfl | rfl <;> rfl
theorem rqC_at : ∀ (l : List Rq) (k : Nat) (q : Rq), l[k]? = Option.some q → ∀ j u, q.cells[j]? = Option.some u → (rqC l)[k * 3 + j]? = Option.some u
  | [], k, q, h, _, _, _ => by simp at h
  | a :: l, 0, q, h, j, u, hj => by
    simp only [List.getElem?_cons_zero, Option.some.injEq] at h
    subst h
    have hl : j < 3 := by
      rcases Nat.lt_or_ge j 3 with x | x
      · exact x
      · rw [List.getElem?_eq_none (by show 3 ≤ j; exact x)] at hj; cases hj
    show (a.cells ++ rqC l)[0 * 3 + j]? = _
    rw [Nat.zero_mul, Nat.zero_add, List.getElem?_append_left (by show j < 3; exact hl)]
    exact hj
  | a :: l, k + 1, q, h, j, u, hj => by
    show (a.cells ++ rqC l)[(k + 1) * 3 + j]? = _
    rw [List.getElem?_append_right (by show 3 ≤ _; omega), show (k + 1) * 3 + j - a.cells.length = k * 3 + j from by show (k + 1) * 3 + j - 3 = _; omega]
    exact rqC_at l k q (by simpa using h) j u hj
/-- A request's bytes lie in new memory, or in the image. -/
structure Rq.At (w : World) (lo : Nat) (IA : Option Addr) (q : Rq) : Prop where
  rd : Reads w q.A q.sl (q.l.map u8v)
  le : q.sl ≤ 320
  cap : q.sl ≤ q.sc ∧ q.sc ≤ maxLen
  blk : ∀ a, q.A = some a → (lo ≤ a.block ∧ a.block < w.heap.size ∧ ∃ cs fr, w.heap[a.block]? = some (.cells cs 5 fr)) ∨ ∃ a0, IA = some a0 ∧ a.block = a0.block
theorem Rq.At.only {w w' : World} {lo : Nat} {IA : Option Addr} {q : Rq} (h : q.At w lo IA) {S : List Nat} (ho : Only S w w') (h1 : ∀ k ∈ S, k < lo ∨ w.heap.size ≤ k) (h2 : Apart S IA) : q.At w' lo IA :=
  ⟨h.rd.only ho (fun a e m => by
    rcases h.blk a e with ⟨x, y, _⟩ | ⟨a0, e0, x⟩
    · rcases h1 _ m with z | z <;> omega
    · exact h2 a0 e0 (x ▸ m)), h.le, h.cap, fun a e => by
    rcases h.blk a e with ⟨x, y, cs, fr, hc⟩ | z
    · exact Or.inl ⟨x, Nat.lt_of_lt_of_le y ho.size, cs, fr, by rw [ho.block a.block y (fun m => by rcases h1 _ m with z | z <;> omega)]; exact hc⟩
    · exact Or.inr z⟩
theorem Rq.At.below {w w' : World} {lo : Nat} {IA : Option Addr} {q : Rq} (h : q.At w lo IA) (hb : Below w.heap.size w w') : q.At w' lo IA :=
  ⟨h.rd.below hb, h.le, h.cap, fun a e => by
    rcases h.blk a e with ⟨x, y, cs, fr, hc⟩ | z
    · exact Or.inl ⟨x, Nat.lt_of_lt_of_le y hb.size, cs, fr, by rw [hb.block a.block y]; exact hc⟩
    · exact Or.inr z⟩
theorem own_cellsG {w : World} {base : Nat} {e : TypeId} {size n : Nat} {v : Value} {xs : List Value} (h : w.ownsRow base e size v n xs) (g : Nat) (hg : v.ownBlock = some g) : ∃ cs fr, w.heap[g]? = some (.cells cs e fr) := by
  rcases h.2 with ⟨rfl, _⟩ | ⟨g', cap, cur, rfl, _, hh, _⟩
  · simp [Value.ownBlock] at hg
  · have : g' = g := by simpa [Value.ownBlock] using hg
    subst this
    exact ⟨cur, _, hh⟩
theorem Rq.At.grownQ {w w' : World} {lo : Nat} {ib io : Nat} {q : Rq} (h : q.At w lo (some ⟨ib, io, none⟩)) {v : Value} {n : Nat} {xs : List Value} (hg : w.grownBy w' v.ownBlock) (hown : w.ownsRow lo 34 3 v n xs) (hib : ib < lo) : q.At w' lo (some ⟨ib, io, none⟩) := by
  have hne : ∀ a, q.A = some a → some a.block ≠ v.ownBlock := fun a e m => by
    rcases h.blk a e with ⟨x, y, cs, fr, hc⟩ | ⟨a0, e0, x⟩
    · obtain ⟨cs2, fr2, hc2⟩ := own_cellsG hown a.block m.symm
      rw [hc] at hc2
      injection hc2 with hc2
      injection hc2 with _ hc2
      revert hc2
      decide
    · have := (hown.lt a.block m.symm).1
      injection e0 with e0
      rw [← e0] at x
      dsimp only at x
      omega
  refine ⟨h.rd.keep hg.size (fun b hb ⟨o, ho⟩ => hg.block b hb (hne _ ho)), h.le, h.cap, fun a e => ?_⟩
  rcases h.blk a e with ⟨x, y, cs, fr, hc⟩ | z
  · exact Or.inl ⟨x, Nat.lt_of_lt_of_le y hg.size, cs, fr, by rw [hg.block a.block y (hne a e)]; exact hc⟩
  · exact Or.inr z
/-- The requests of an update. -/
def goesW (img : List UInt8) (k : Nat) : List Rp := (List.range k).map fun (i : Nat) => ⟨2, (i : Int), (img.drop (i * 320)).take 320⟩
def imgX (img : List UInt8) (v : Int) : Img := ⟨v, (img.length : Int), sha img⟩
def goesB (key : List UInt8) (nm : ByteArray) (img : List UInt8) (v : Int) : Rp := ⟨1, 0, bytesB key nm (imgX img v)⟩
def goesE : List Rp := [⟨3, 0, []⟩, ⟨4, 0, []⟩, ⟨5, 0, []⟩, ⟨6, 0, []⟩]
def goesL (key : List UInt8) (nm : ByteArray) (img : List UInt8) (v : Int) : List Rp := goesB key nm img v :: goesW img (chunksZ (img.length : Int)).toNat ++ goesE
theorem goesW_succ (img : List UInt8) (k : Nat) : goesW img (k + 1) = goesW img k ++ [⟨2, (k : Int), (img.drop (k * 320)).take 320⟩] := by
  unfold goesW
  rw [List.range_succ, List.map_append]
  rfl
theorem goesL_len (key : List UInt8) (nm : ByteArray) (img : List UInt8) (v : Int) : (goesL key nm img v).length = (chunksZ (img.length : Int)).toNat + 5 := by
  unfold goesL goesW goesE
  simp
/-- What Goes answers. -/
def GoesRet (w : World) (IA : Option Addr) (L : List Rp) (e : Ending) (w' : World) : Prop :=
  ∃ A cap rqs, e = .returned (.slice A rqs.length cap) ∧ w'.ownsRow w.heap.size 34 3 (.slice A rqs.length cap) rqs.length (rqC rqs) ∧ rqs.map Rq.p = L ∧ (∀ q ∈ rqs, q.At w' w.heap.size IA) ∧ Below w.heap.size w w'
theorem own3 {w : World} {g base : Nat} {t : TypeId} {l : List Rq} (h : Blk w g t (rqC l).toArray) (hb : base ≤ g) (hm : l.length ≤ maxLen) : w.ownsRow base t 3 (.slice (some ⟨g, 0, none⟩) l.length l.length) l.length (rqC l) :=
  ⟨rqC_len l, .inr ⟨g, l.length, _, rfl, hb, h, Nat.le_refl _, hm, by rw [List.size_toArray, rqC_len], by rw [← rqC_len]; simp⟩⟩
theorem own_pos3 {w : World} {base : Nat} {e : TypeId} {size n : Nat} {v : Value} {xs : List Value} (h : w.ownsRow base e size v n xs) (hn : 0 < n) : ∃ g c, v = .slice (some ⟨g, 0, none⟩) n c := by
  rcases h.2 with ⟨_, h⟩ | ⟨g, cap, cur, h, _⟩
  · omega
  · exact ⟨g, cap, h⟩
theorem info_req3 : (Tryz.prog.info? 34).map (fun i => (i.zero, i.size, i.bytes)) = some (some (.agg #[.int .i64 0, .int .i64 0, .slice none 0 0]), 3, 40) := by kernel_rfl
theorem own_apart3 {w : World} {base : Nat} {e t : TypeId} {n : Nat} {v : Value} {xs : List Value} {g : Nat} {cs : Array Value} (h : w.ownsRow base e 3 v n xs) (hB : Blk w g t cs) (ht : e ≠ t) : v.ownBlock ≠ some g := by
  intro q
  rcases h.2 with ⟨rfl, _⟩ | ⟨g', cap, cur, rfl, _, hh, _⟩
  · simp [Value.ownBlock] at q
  · have e1 : g' = g := by simpa [Value.ownBlock] using q
    subst e1
    unfold Blk at hB
    rw [hB] at hh
    injection hh with hh
    injection hh with _ hh
    exact ht hh.symm
noncomputable def sbI9 (parts : Array (Nat × Value)) : Sem Value := Instr.build 41 parts
theorem sbI9_seal (parts : Array (Nat × Value)) : Instr.build 41 parts = sbI9 parts := rfl
theorem built9I (parts : List (Nat × Value)) : Tryz.prog.built 41 parts = Instr.fill (#[(0, 1), (1, 1), (2, 32)][·]?) Img.zero.cells.toArray parts := by kernel_rfl
theorem run_sbI9 (v s : Int) (d : List UInt8) (hd : d.length = 32) (w : World) : (sbI9 #[(0, .int .i64 v), (1, .int .i64 s), (2, .agg (d.map u8v).toArray)]).run Tryz.prog w = .ok (.agg (Img.cells ⟨v, s, d⟩).toArray) w := by
  refine run_build w _ _ _ ?_
  rw [built9I]
  have hz : Img.zero.cells = i64v 0 :: i64v 0 :: List.replicate 32 (u8v 0) := by rfl
  have h1 : Instr.fill (#[(0, 1), (1, 1), (2, 32)][·]?) Img.zero.cells.toArray [(0, .int .i64 v), (1, .int .i64 s), (2, .agg (d.map u8v).toArray)] = Instr.fill (#[(0, 1), (1, 1), (2, 32)][·]?) (i64v v :: i64v s :: List.replicate 32 (u8v 0)).toArray [(2, .agg (d.map u8v).toArray)] := by
    rw [hz]; rfl
  rw [h1]
  have h2 := fill_one (#[(0, 1), (1, 1), (2, 32)][·]?) (i64v v :: i64v s :: List.replicate 32 (u8v 0)) (d.map u8v) 2 2 [] (by rw [List.length_map, hd]; rfl) (by rw [List.length_map, hd]; simp)
  refine Eq.trans h2 ?_
  rw [List.length_map, hd]
  show some _ = some _
  congr 2
  have e : List.drop (2 + 32) (i64v v :: i64v s :: List.replicate 32 (u8v 0)) = [] := List.drop_of_length_le (by simp)
  rw [e, List.append_nil]
  rfl
theorem run_sbN9 (nm : ByteArray) (x : Img) (hx : x.d.length = 32) (w : World) : (sbN #[(0, .string nm), (1, .agg x.cells.toArray)]).run Tryz.prog w = .ok (.agg (manC nm x).toArray) w := by
  refine run_build w _ _ _ ?_
  have h : Tryz.prog.built 82 [(0, .string nm), (1, .agg x.cells.toArray)] = Instr.fill (#[(0, 1), (1, 34)][·]?) litN [(0, .string nm), (1, .agg x.cells.toArray)] := by kernel_rfl
  rw [h, zeroN_eq]
  have h2 : Instr.fill (#[(0, 1), (1, 34)][·]?) zeroN.toArray [(0, .string nm), (1, .agg x.cells.toArray)] = Instr.fill (#[(0, 1), (1, 34)][·]?) (manC nm Img.zero).toArray [(1, .agg x.cells.toArray)] := rfl
  rw [h2, fill_one _ _ x.cells 1 1 [] (by rw [Img.cells_len hx]; rfl) (by rw [Img.cells_len hx, show (manC nm Img.zero).length = 35 from rfl]; decide)]
  rw [Img.cells_len hx, List.drop_of_length_le (by rw [show (manC nm Img.zero).length = 35 from rfl]; decide), List.append_nil]
  rfl
/-- The Config's box and the Manifest that Goes makes. -/
structure GoeAt (w0 W : World) (CA MA : Array Value) (mb : Nat) : Prop where
  c : Blk W w0.heap.size 24 CA
  m : Blk W mb 82 MA
  lt : w0.heap.size < mb
  bel : Below w0.heap.size w0 W
theorem GoeAt.later {w0 W W' : World} {CA MA : Array Value} {mb : Nat} (h : GoeAt w0 W CA MA mb) (hb : Below W.heap.size W W') : GoeAt w0 W' CA MA mb := ⟨h.c.below hb h.c.lt, h.m.below hb h.m.lt, h.lt, h.bel.trans (hb.mono h.bel.size)⟩
theorem Blk.newAtG {B : Nat} {w0 W : World} (hb : Below B w0 W) (t : TypeId) (cs : Array Value) : Blk (W.alloc (.cells cs t)) W.heap.size t cs := Blk.new W t cs
attribute [local go_sem ↓] sbI9_seal sbN_seal sldN_seal sstN_seal
set_option maxRecDepth 100000 in
set_option maxHeartbeats 16000000 in
theorem goes_c (w : World) (c : Cf) (K : Option Addr) (kc : Nat) (F : Option Addr) (fc : Nat) (hK : Reads w K c.key.length (c.key.map u8v)) (hkl : c.key.length ≤ 100000) (hnm : c.nm.size ≤ 100000) (IA : Option Addr) (n ic : Nat) (img : List UInt8) (hI : Reads w IA n (img.map u8v)) (hn1 : 1 ≤ n) (hn : n ≤ 100000) (hic : n ≤ ic ∧ ic ≤ maxLen) (v : Int) :
    Calls Tryz.prog 22 #[.agg (c.cells K kc F fc).toArray, .slice IA n ic, .int .i64 v] w (GoesRet w IA (goesL c.key c.nm img v)) := by
  have hlen : img.length = n := by simpa using hI.len
  obtain ⟨i0, hi8, hz0, hz1, hz2⟩ := info_parts info_req3
  have hB0 := Blk.new w 24 (c.cells K kc F fc).toArray
  have hb0 : Below w.heap.size w (w.alloc (.cells (c.cells K kc F fc).toArray 24)) := (Below.refl _ _).alloc (Nat.le_refl _) _
  have hsh := fun (W : World) (hW : Reads W IA n (img.map u8v)) => rsha_d W IA n ic img hlen hW (by omega)
  have hxd : (imgX img v).d.length = 32 := sha_len _
  have hmb := fun (W : World) (hW : Reads W K c.key.length (c.key.map u8v)) => rmbytes_c W K c.key.length kc c.key hW hkl c.nm (imgX img v) hxd hnm
  have hbl := bytesB_len c.key c.nm (imgX img v)
  have hbi := fun W => run_sbI9 v (n : Int) (sha img) (sha_len img) W
  have hbn := fun W => run_sbN9 c.nm (imgX img v) hxd W
  obtain ⟨KK, hKK⟩ : ∃ KK : Nat, chunksZ (n : Int) = (KK : Int) := ⟨(chunksZ (n : Int)).toNat, by unfold chunksZ; split <;> omega⟩
  have hkb : KK * 320 < n + 320 ∧ n ≤ KK * 320 := by unfold chunksZ at hKK; rw [if_neg (by omega)] at hKK; omega
  have hgl := goesL_len c.key c.nm img v
  rw [hlen] at hgl
  have hI2 := hI
  obtain ⟨ib, io, rfl, hib, hic2⟩ := hI.2 (by omega)
  have himx : imgX img v = ⟨v, (n : Int), sha img⟩ := by unfold imgX; rw [hlen]
  obtain ⟨SH, hSH⟩ : ∃ SH, (sha img).map u8v = SH := ⟨_, rfl⟩
  obtain ⟨XC, hXC⟩ : ∃ XC, (imgX img v).cells.toArray = XC := ⟨_, rfl⟩
  obtain ⟨NC, hNC⟩ : ∃ NC, (manC c.nm (imgX img v)).toArray = NC := ⟨_, rfl⟩
  have hXC2 : (Img.cells ⟨v, (n : Int), sha img⟩).toArray = XC := by rw [← himx]; exact hXC
  rw [hSH, hXC2] at hbi
  rw [hXC, hNC] at hbn
  simp only [hSH] at hsh
  simp only [hNC] at hmb
  have hstN : ∀ (W : World) (gg : Nat) (old : Array Value), Blk W gg 82 old → old.size = 35 → (sstN (.pointer (some ⟨gg, 0, none⟩)) (.agg NC)).run Tryz.prog W = .ok () (W.setRow gg NC) := fun W gg old hB hs => by rw [← hNC]; exact run_sstN _ hB hs (manC_len hxd _) (manC_one _ _)
  have hldN : ∀ (W : World) (gg : Nat), Blk W gg 82 NC → (sldN (.pointer (some ⟨gg, 0, none⟩))).run Tryz.prog W = .ok (.agg NC) W := fun W gg hB => by rw [← hNC] at hB ⊢; exact run_sldN (manC_len hxd _) hB.whole
  have HB0 := Lib.hid hB0
  have HB := Lib.hid hb0
  have HSH := Lib.hid hsh
  have HMB := Lib.hid hmb
  have HBL := Lib.hid hbl
  have HI := Lib.hid hI2
  have HK := Lib.hid hK
  have HLEN := Lib.hid hlen
  have HI8 := Lib.hid hi8
  have HZ0 := Lib.hid hz0
  have HZ1 := Lib.hid hz1
  have HZ2 := Lib.hid hz2
  have HKN := Lib.hid hKK
  have HKB := Lib.hid hkb
  have HGL := Lib.hid hgl
  have HSTN := Lib.hid hstN
  have HLDN := Lib.hid hldN
  have HN := Lib.hid (show 1 ≤ n ∧ n ≤ 100000 ∧ n ≤ ic ∧ ic ≤ maxLen from ⟨hn1, hn, hic⟩)
  have HIB := Lib.hid hib
  have hanon : ((n : Int) == 0) = false := by rw [beq_eq_false_iff_ne]; omega
  clear hB0 hb0 hsh hmb hbl hI hI2 hK hlen hi8 hz0 hz1 hz2 hKK hkb hgl hkl hnm hn1 hn hic hib hxd hstN hldN hSH hXC hNC hXC2 himx hic2 hanon
  go_enter Tryz.func22, Tryz.ntmps22
  go_upto_region 1 with fail
  have hb0 := HB.out
  have hB0 := HB0.out
  obtain ⟨CA, hCA⟩ : ∃ CA, (c.cells K kc F fc).toArray = CA := ⟨_, rfl⟩
  rw [hCA] at hb0 hB0 ⊢
  have hca0 : CA[0]? = some (.string c.nm) := by rw [← hCA]; rfl
  have hca1 : CA[1]? = some (.slice K c.key.length kc) := by rw [← hCA]; rfl
  generalize w.alloc (.cells CA 24) = W1 at hb0 hB0 ⊢
  have HCA0 := Lib.hid hca0
  have HCA1 := Lib.hid hca1
  clear HB HB0 hCA hca0 hca1
  have HB0 := Lib.hid (hB0.below (Below.refl W1.heap.size W1).drew hB0.lt)
  have HB := Lib.hid (hb0.trans ((Below.refl W1.heap.size W1).drew.mono hb0.size))
  clear hB0 hb0
  go_cut [7] from 11 (fun va wx => ∃ mb, va = .pointer (some ⟨mb, 0, none⟩) ∧ GoeAt w wx CA NC mb)
  case first =>
    have hs0 : W1.drew.cell? ⟨w.heap.size, 0, none⟩ = some (.string c.nm) := by rw [HB0.out.cell, HCA0.out]
    refine wp_region_held_drew (S := (fun W => W.cell? ⟨w.heap.size, 0, none⟩ = some (.string c.nm))) (by kernel_rfl) ?_ (fun hHeld => ?_)
    · exact hs0
    generalize World.drew _ = Wd at HB0 HB hs0 hHeld ⊢
    refine wpAnyH_take (i := 0) (v := ?_) rfl (by kernel_rfl) (by kernel_rfl) (by kernel_rfl) (fun _ _ _ h => h) (Or.inl ⟨by rfl, ?_⟩) (by assumption) ?_
    rotate_left
    · intro w hSw
      (try dsimp only at hSw)
      go_simp
      all_goals with_reducible rfl
    try simp only [Act.put, List.getElem_toArray, List.getElem_cons_succ, List.getElem_cons_zero, List.setIfInBounds_toArray, List.set_cons_zero, List.set_cons_succ]
    refine wpAnyH_take (i := 1) (v := ?_) rfl (by kernel_rfl) (by kernel_rfl) (by kernel_rfl) (fun _ _ _ h => h) (Or.inl ⟨by rfl, ?_⟩) (by assumption) ?_
    rotate_left
    · intro w hSw
      (try dsimp only at hSw)
      go_simp
      all_goals with_reducible rfl
    try simp only [Act.put, List.getElem_toArray, List.getElem_cons_succ, List.getElem_cons_zero, List.setIfInBounds_toArray, List.set_cons_zero, List.set_cons_succ]
    refine wpAnyH_take (i := 2) (v := ?_) rfl (by kernel_rfl) (by kernel_rfl) (by kernel_rfl) (fun _ _ _ h => h) (Or.inl ⟨by rfl, ?_⟩) (by assumption) ?_
    rotate_left
    · intro w hSw
      (try dsimp only at hSw)
      go_simp
      all_goals with_reducible rfl
    try simp only [Act.put, List.getElem_toArray, List.getElem_cons_succ, List.getElem_cons_zero, List.setIfInBounds_toArray, List.set_cons_zero, List.set_cons_succ]
    refine wpAnyH_take (i := 3) (v := ?_) rfl (by kernel_rfl) (by kernel_rfl) (by kernel_rfl) (fun _ _ _ h => h) (Or.inl ⟨by rfl, ?_⟩) (by assumption) ?_
    rotate_left
    · intro w hSw
      (try dsimp only at hSw)
      go_simp
      all_goals with_reducible rfl
    try simp only [Act.put, List.getElem_toArray, List.getElem_cons_succ, List.getElem_cons_zero, List.setIfInBounds_toArray, List.set_cons_zero, List.set_cons_succ]
    refine wpAnyH_take (i := 4) (v := ?_) rfl (by kernel_rfl) (by kernel_rfl) (by kernel_rfl) (fun _ _ _ h => h) (Or.inl ⟨by rfl, ?_⟩) (by assumption) ?_
    rotate_left
    · intro w hSw
      (try dsimp only at hSw)
      go_simp
      all_goals with_reducible rfl
    try simp only [Act.put, List.getElem_toArray, List.getElem_cons_succ, List.getElem_cons_zero, List.setIfInBounds_toArray, List.set_cons_zero, List.set_cons_succ]
    refine wpAnyH_take (i := 5) (v := ?_) rfl (by kernel_rfl) (by kernel_rfl) (by kernel_rfl) (fun _ _ _ h => h) (Or.inl ⟨by rfl, ?_⟩) (by assumption) ?_
    rotate_left
    · intro w hSw
      (try dsimp only at hSw)
      go_simp
      all_goals with_reducible rfl
    try simp only [Act.put, List.getElem_toArray, List.getElem_cons_succ, List.getElem_cons_zero, List.setIfInBounds_toArray, List.set_cons_zero, List.set_cons_succ]
    refine wpAnyH_ready (rs := [6, 9]) (by kernel_rfl) (by simp) ?_
    refine AllReadyH.cons rfl (fun K hK => ?_) ?_
    · go_simp
      refine (HSH.out _ (HI.out.below HB.out)).mono ?_; rintro e w' ⟨rfl, hb⟩; have HB0 := Lib.hid (HB0.out.below hb HB0.out.lt); have HB := Lib.hid (HB.out.trans (hb.mono HB.out.size)); clear hb
      go_wp2_with fail
      refine hK.out _ _ ?_ (fun hHeld => ?_)
      · (try dsimp only)
        rw [HB0.out.cell, HCA0.out]
      clear hK K
      try simp only [Act.put, List.getElem_toArray, List.getElem_cons_succ, List.getElem_cons_zero, List.setIfInBounds_toArray, List.set_cons_zero, List.set_cons_succ]
      refine wpAnyH_take (i := 7) (v := ?_) rfl (by kernel_rfl) (by kernel_rfl) (by kernel_rfl) (fun _ _ _ h => h) (Or.inl ⟨by rfl, ?_⟩) (by assumption) ?_
      rotate_left
      · intro w hSw
        (try dsimp only at hSw)
        go_simp
        all_goals with_reducible rfl
      try simp only [Act.put, List.getElem_toArray, List.getElem_cons_succ, List.getElem_cons_zero, List.setIfInBounds_toArray, List.set_cons_zero, List.set_cons_succ]
      refine wpAnyH_take (i := 8) (v := ?_) rfl (by kernel_rfl) (by kernel_rfl) (by kernel_rfl) (fun _ _ _ h => h) (Or.inl ⟨by rfl, ?_⟩) (by assumption) ?_
      rotate_left
      · intro w hSw
        (try dsimp only at hSw)
        go_simp
        all_goals with_reducible rfl
      try simp only [Act.put, List.getElem_toArray, List.getElem_cons_succ, List.getElem_cons_zero, List.setIfInBounds_toArray, List.set_cons_zero, List.set_cons_succ]
      refine wpAnyH_ready (rs := [9]) (by kernel_rfl) (by simp) ?_
      refine AllReadyH.cons rfl (fun K hK => ?_) ?_
      · go_simp
        have HNL := Lib.hid HB0.out.lt
        have HNb := Lib.hid (Blk.newAtG HB.out 82 litN)
        have HB0 := Lib.hid (HB0.out.alloc (.cells litN 82))
        have HB := Lib.hid (HB.out.alloc HB.out.size (.cells litN 82))
        generalize World.alloc _ (.cells litN 82) = Wa at HB0 HB HNb ⊢
        refine hK.out _ _ ?_ (fun hHeld => ?_)
        · (try dsimp only)
          rw [HB0.out.cell, HCA0.out]
        clear hK K
        try simp only [Act.put, List.getElem_toArray, List.getElem_cons_succ, List.getElem_cons_zero, List.setIfInBounds_toArray, List.set_cons_zero, List.set_cons_succ]
        have hst := HSTN.out _ _ _ HNb.out rfl
        refine wpAnyH_ready (rs := [10]) (by kernel_rfl) (by simp) ?_
        refine AllReadyH.cons rfl (fun K hK => ?_) AllReadyH.nil
        go_simp
        have hne := Blk.ne_ HNb.out HB0.out (by decide)
        have HB0 := Lib.hid (HB0.out.setRow_mf NC (Ne.symm hne))
        have HB := Lib.hid (below_setRow_m HB.out (Nat.le_of_lt HNL.out) NC)
        have HNb := Lib.hid (HNb.out.setRow_m NC)
        clear hst
        refine hK.out _ _ ?_ (fun hHeld => ?_)
        · (try dsimp only)
          rw [HB0.out.cell, HCA0.out]
        clear hK K
        try simp only [Act.put, List.getElem_toArray, List.getElem_cons_succ, List.getElem_cons_zero, List.setIfInBounds_toArray, List.set_cons_zero, List.set_cons_succ]
        refine wpAnyH_done (by kernel_rfl) ?_ _
        try simp only [Act.put, List.getElem_toArray, List.getElem_cons_succ, List.getElem_cons_zero, List.setIfInBounds_toArray, List.set_cons_zero, List.set_cons_succ]
        go_wp2_with fail
        go_meet
        exact ⟨_, rfl, HB0.out, HNb.out, HNL.out, HB.out⟩
      exact AllReadyH.nil
    refine AllReadyH.cons rfl (fun K hK => ?_) ?_
    · go_simp
      have HNL := Lib.hid HB0.out.lt
      have HNb := Lib.hid (Blk.newAtG HB.out 82 litN)
      have HB0 := Lib.hid (HB0.out.alloc (.cells litN 82))
      have HB := Lib.hid (HB.out.alloc HB.out.size (.cells litN 82))
      generalize World.alloc _ (.cells litN 82) = Wa at HB0 HB HNb ⊢
      refine hK.out _ _ ?_ (fun hHeld => ?_)
      · (try dsimp only)
        rw [HB0.out.cell, HCA0.out]
      clear hK K
      try simp only [Act.put, List.getElem_toArray, List.getElem_cons_succ, List.getElem_cons_zero, List.setIfInBounds_toArray, List.set_cons_zero, List.set_cons_succ]
      refine wpAnyH_ready (rs := [6]) (by kernel_rfl) (by simp) ?_
      refine AllReadyH.cons rfl (fun K hK => ?_) ?_
      · go_simp
        refine (HSH.out _ (HI.out.below HB.out)).mono ?_; rintro e w' ⟨rfl, hb⟩; have HB0 := Lib.hid (HB0.out.below hb HB0.out.lt); have HB := Lib.hid (HB.out.trans (hb.mono HB.out.size)); have HNb := Lib.hid (HNb.out.below hb HNb.out.lt); clear hb
        go_wp2_with fail
        refine hK.out _ _ ?_ (fun hHeld => ?_)
        · (try dsimp only)
          rw [HB0.out.cell, HCA0.out]
        clear hK K
        try simp only [Act.put, List.getElem_toArray, List.getElem_cons_succ, List.getElem_cons_zero, List.setIfInBounds_toArray, List.set_cons_zero, List.set_cons_succ]
        refine wpAnyH_take (i := 7) (v := ?_) rfl (by kernel_rfl) (by kernel_rfl) (by kernel_rfl) (fun _ _ _ h => h) (Or.inl ⟨by rfl, ?_⟩) (by assumption) ?_
        rotate_left
        · intro w hSw
          (try dsimp only at hSw)
          go_simp
          all_goals with_reducible rfl
        try simp only [Act.put, List.getElem_toArray, List.getElem_cons_succ, List.getElem_cons_zero, List.setIfInBounds_toArray, List.set_cons_zero, List.set_cons_succ]
        refine wpAnyH_take (i := 8) (v := ?_) rfl (by kernel_rfl) (by kernel_rfl) (by kernel_rfl) (fun _ _ _ h => h) (Or.inl ⟨by rfl, ?_⟩) (by assumption) ?_
        rotate_left
        · intro w hSw
          (try dsimp only at hSw)
          go_simp
          all_goals with_reducible rfl
        try simp only [Act.put, List.getElem_toArray, List.getElem_cons_succ, List.getElem_cons_zero, List.setIfInBounds_toArray, List.set_cons_zero, List.set_cons_succ]
        have hst := HSTN.out _ _ _ HNb.out rfl
        refine wpAnyH_ready (rs := [10]) (by kernel_rfl) (by simp) ?_
        refine AllReadyH.cons rfl (fun K hK => ?_) AllReadyH.nil
        go_simp
        have hne := Blk.ne_ HNb.out HB0.out (by decide)
        have HB0 := Lib.hid (HB0.out.setRow_mf NC (Ne.symm hne))
        have HB := Lib.hid (below_setRow_m HB.out (Nat.le_of_lt HNL.out) NC)
        have HNb := Lib.hid (HNb.out.setRow_m NC)
        clear hst
        refine hK.out _ _ ?_ (fun hHeld => ?_)
        · (try dsimp only)
          rw [HB0.out.cell, HCA0.out]
        clear hK K
        try simp only [Act.put, List.getElem_toArray, List.getElem_cons_succ, List.getElem_cons_zero, List.setIfInBounds_toArray, List.set_cons_zero, List.set_cons_succ]
        refine wpAnyH_done (by kernel_rfl) ?_ _
        try simp only [Act.put, List.getElem_toArray, List.getElem_cons_succ, List.getElem_cons_zero, List.setIfInBounds_toArray, List.set_cons_zero, List.set_cons_succ]
        go_wp2_with fail
        go_meet
        exact ⟨_, rfl, HB0.out, HNb.out, HNL.out, HB.out⟩
      exact AllReadyH.nil
    exact AllReadyH.nil
  case rest =>
    obtain ⟨mb, rfl, hG⟩ := hcut
    clear HB HB0 HSH HSTN hbi hbn
    have HSZ3 := Lib.hid (show w.heap.size < wc.heap.size from hG.c.lt)
    have hld := HLDN.out _ _ hG.m
    have hc1 : wc.cell? ⟨w.heap.size, 1, none⟩ = some (.slice K c.key.length kc) := by rw [hG.c.cell, HCA1.out]
    have HG := Lib.hid hG
    clear hG
    go_wp2_with fail
    refine (HMB.out wc (HK.out.below HG.out.bel)).mono ?_
    rintro e w3 ⟨MA, mc, rfl, ho3, hb3⟩
    have HG := Lib.hid (HG.out.later hb3)
    have hmcap := own_cap ho3
    have hmlt := fun k e => (ho3.lt k e).2
    have hmge := fun k e => (ho3.lt k e).1
    have hrm := Reads.of_own ho3
    have HMCL := Lib.hid (own_cellsG ho3)
    have HRM := Lib.hid hrm
    have HMC := Lib.hid hmcap
    have HMLT := Lib.hid hmlt
    have HMGE := Lib.hid hmge
    clear hb3 ho3 hmcap hmlt hrm hld hc1 HMB
    have hch : ∀ W, Calls Tryz.prog 42 #[.int .i64 (n : Int)] W fun e w' => e = .returned (.int .i64 (KK : Int)) ∧ W = w' := fun W => by
      have q := rchunks12_c (n : Int) (by have := HN.out; omega) W
      rw [HKN.out] at q
      exact q
    have HCH := Lib.hid hch
    have HQ0 := Lib.hid (show (⟨1, 0, MA, 92, mc, bytesB c.key c.nm (imgX img v)⟩ : Rq).p = goesB c.key c.nm img v from rfl)
    have HFIN := Lib.hid (show (goesB c.key c.nm img v :: goesW img KK) ++ List.map Rq.p [⟨3, 0, none, 0, 0, []⟩, ⟨4, 0, none, 0, 0, []⟩, ⟨5, 0, none, 0, 0, []⟩, ⟨6, 0, none, 0, 0, []⟩] = goesL c.key c.nm img v from by unfold goesL; rw [HLEN.out, HKN.out]; rfl)
    obtain ⟨G0, hG0⟩ : ∃ G0, goesB c.key c.nm img v = G0 := ⟨_, rfl⟩
    rw [hG0] at HQ0 HFIN
    clear hG0
    generalize bytesB c.key c.nm (imgX img v) = BB at HRM HQ0 HBL
    clear hch
    go_upto_region 3 with fail
    have hr4 := HRM.out.alloc (.cells #[.int .i64 1, .int .i64 0, .slice MA 92 mc] 34)
    have hb4 : Below w3.heap.size w3 (w3.alloc (.cells #[.int .i64 1, .int .i64 0, .slice MA 92 mc] 34)) := (Below.refl _ _).alloc (Nat.le_refl _) _
    have hB4 := Blk.new w3 34 #[.int .i64 1, .int .i64 0, .slice MA 92 mc]
    have HA4 := Lib.hid (show ∀ q ∈ [(⟨1, 0, MA, 92, mc, BB⟩ : Rq)], q.At (w3.alloc (.cells #[.int .i64 1, .int .i64 0, .slice MA 92 mc] 34)) w.heap.size (some ⟨ib, io, none⟩) from fun q hq => by
      rw [List.mem_singleton.1 hq]
      exact ⟨hr4, by show (92 : Nat) ≤ 320; decide, HMC.out, fun a ha => Or.inl ⟨by
        subst ha
        have h1 := HMGE.out a.block rfl
        have := HSZ3.out
        omega, by
        subst ha
        have h1 := HMLT.out a.block rfl
        simp
        omega, by
        subst ha
        obtain ⟨cs, fr, hc⟩ := HMCL.out a.block rfl
        exact ⟨cs, fr, by rw [Below.heap_alloc _ _ _ (HMLT.out a.block rfl)]; exact hc⟩⟩⟩)
    have HO4 := Lib.hid (own3 (l := [(⟨1, 0, MA, 92, mc, BB⟩ : Rq)]) (base := w.heap.size) hB4 (HG.out.bel.size) (by show (1 : Nat) ≤ maxLen; decide))
    have HB4 := Lib.hid (HG.out.bel.trans (hb4.mono HG.out.bel.size))
    clear hr4 hb4 hB4 HRM HMC HMLT HMGE HG
    generalize w3.alloc (.cells #[.int .i64 1, .int .i64 0, .slice MA 92 mc] 34) = w4 at HA4 HO4 HB4 ⊢
    generalize w3.heap.size = g4 at HO4 ⊢
    go_wp2_with fail
    go_loopw [8, 9] (fun l i wr => ∃ (k : Nat) (A : Option Addr) (cap : Nat) (rqs : List Rq), l = .slice A rqs.length cap ∧ i = .int .i64 (k : Int) ∧ k ≤ KK ∧ rqs.length = k + 1 ∧ wr.ownsRow w.heap.size 34 3 (.slice A rqs.length cap) rqs.length (rqC rqs) ∧ rqs.map Rq.p = G0 :: goesW img k ∧ (∀ q ∈ rqs, q.At wr w.heap.size (some ⟨ib, io, none⟩)) ∧ Below w.heap.size w wr) (fun _ i _ => KK - (intOf i).toNat)
    case atStart => exact ⟨0, _, _, [(⟨1, 0, MA, 92, mc, BB⟩ : Rq)], rfl, rfl, Nat.zero_le _, rfl, HO4.out, by rw [List.map_cons, HQ0.out]; rfl, HA4.out, HB4.out⟩
    case round =>
      obtain ⟨k, A, cap, rqs, rfl, rfl, hk, hrl, hown, hmap, hat, hbel⟩ := hrel
      have HK2 := Lib.hid hk
      have HRL := Lib.hid hrl
      have HO := Lib.hid hown
      have HMP := Lib.hid hmap
      have HAT := Lib.hid hat
      have HBE := Lib.hid hbel
      clear hk hrl hown hmap hat hbel HA4 HO4 HB4 HQ0
      go_wp2_with fail
      refine (HCH.out _).mono ?_
      rintro e w5 ⟨rfl, rfl⟩
      by_cases hlt : k < KK
      · have hmul : IntKind.i64.wrap ((k : Int) * 320) = (k : Int) * 320 := IntWalk.i64_in _ (by have := HN.out; have := HKB.out; omega)
        obtain ⟨LN, hLN⟩ : ∃ LN : Nat, min 320 (n - k * 320) = LN := ⟨_, rfl⟩
        have hfit : k * 320 + LN ≤ n ∧ 1 ≤ LN ∧ LN ≤ 320 := by have := HKB.out; have := HN.out; omega
        have hle : ∀ W, Calls Tryz.prog 44 #[.int .i64 (n : Int), .int .i64 (k : Int)] W fun e w' => e = .returned (.int .i64 (LN : Int)) ∧ W = w' := fun W => by
          have q := rlen12_c (n : Int) (k : Int) (by have := HN.out; omega) W
          rw [show lenZ (n : Int) (k : Int) = (LN : Int) from by unfold lenZ; rw [HKN.out, if_neg (by omega)]; omega] at q
          exact q
        have hadd : IntKind.i64.wrap ((k : Int) * 320 + (LN : Int)) = (k : Int) * 320 + (LN : Int) := IntWalk.i64_in _ (by have := HN.out; omega)
        have HLE := Lib.hid hle
        have HFIT := Lib.hid hfit
        have hLNd : (img.drop (k * 320)).take 320 = (img.drop (k * 320)).take LN := by
          have hl := HLEN.out
          rcases Nat.lt_or_ge (n - k * 320) 320 with q | q
          · rw [List.take_of_length_le (by rw [List.length_drop]; omega), List.take_of_length_le (by rw [List.length_drop]; omega)]
          · rw [show LN = 320 from by omega]
        have HLND := Lib.hid hLNd
        clear hle hfit hLN hLNd
        go_wp2_with fail
        refine (HLE.out _).mono ?_
        rintro e w6 ⟨rfl, rfl⟩
        have hcd : (k : Int) * 320 ≤ (k : Int) * 320 + (LN : Int) ∧ (k : Int) * 320 + (LN : Int) ≤ (ic : Int) := by have := HFIT.out; have := HN.out; omega
        have hcd0 : 0 ≤ (k : Int) * 320 := by omega
        have htn : ((k : Int) * 320).toNat = k * 320 := by omega
        have htn2 : ((k : Int) * 320 + (LN : Int)).toNat = k * 320 + LN := by omega
        have hnc : ¬ (ic = k * 320) := by have := HFIT.out; have := HN.out; omega
        have hsub : k * 320 + LN - k * 320 = LN := by omega
        obtain ⟨ga, ca, hv⟩ := own_pos3 HO.out (by have := HRL.out; omega)
        injection hv with e1 _ e2
        subst e1 e2
        have hrd : Reads wr (some ⟨ib, io + k * 320, none⟩) LN (((img.drop (k * 320)).take LN).map u8v) := by
          have h1 := ((HI.out.below HBE.out).drop (k := k * 320) (cap := ic) (by have := HFIT.out; omega) (by have := HN.out; omega)).take (k := LN) (by have := HFIT.out; omega)
          rw [if_neg hnc] at h1
          rw [List.map_take, List.map_drop]
          have e : (Option.map (fun x => x.add (k * 320)) (some (⟨ib, io, none⟩ : Addr))) = some ⟨ib, io + k * 320, none⟩ := by simp [add_off]
          rw [e] at h1
          exact h1
        have hbn1 : Below wr.heap.size wr (wr.alloc (.cells #[.int .i64 2, .int .i64 k, .slice (some ⟨ib, io + k * 320, none⟩) LN (ic - k * 320)] 34)) := (Below.refl _ _).alloc (Nat.le_refl _) _
        have hnew := Blk.new wr 34 #[.int .i64 2, .int .i64 k, .slice (some ⟨ib, io + k * 320, none⟩) LN (ic - k * 320)]
        have hcl : ∀ j u, (Rq.cells ⟨2, (k : Int), some ⟨ib, io + k * 320, none⟩, LN, ic - k * 320, (img.drop (k * 320)).take LN⟩)[j]? = some u → (wr.alloc (.cells #[.int .i64 2, .int .i64 k, .slice (some ⟨ib, io + k * 320, none⟩) LN (ic - k * 320)] 34)).cell? ((⟨wr.heap.size, 0, none⟩ : Addr).add j) = some u := fun j u hj => by
          rw [add_off, Nat.zero_add, hnew.cell j]
          rw [← hj, List.getElem?_toArray]
          rfl
        have HCL := Lib.hid hcl
        have HRD := Lib.hid (hrd.below hbn1)
        have HOL := Lib.hid (own_only HO.out (Only.of_below (S := []) hbn1) (by simp))
        have HAL := Lib.hid (fun q hq => (HAT.out q hq).below hbn1)
        have HBL2 := Lib.hid (HBE.out.trans (hbn1.mono HBE.out.size))
        have HRL2 := Lib.hid (show rqs.length ≤ 1000 from by have := HRL.out; have := HKB.out; have := HN.out; omega)
        have hk1 : IntKind.i64.wrap ((k : Int) + 1) = (k : Int) + 1 := IntWalk.i64_in _ (by have := HKB.out; have := HN.out; omega)
        clear hcl hrd hbn1 hnew HO HAT
        go_wp2_with (at_builtin; refine wpList_append_own_at _ rfl (.tmp 35) (.tmp 47) _ rfl w.heap.size 34 i0 (.agg #[.int .i64 0, .int .i64 0, .slice none 0 0]) 3 40 Tryz.underlying25 HI8.out HZ0.out HZ1.out HZ2.out rfl (by decide) _ rqs.length (rqC rqs) rfl HOL.out ⟨wr.heap.size, 0, none⟩ 1 1 (Rq.cells ⟨2, (k : Int), some ⟨ib, io + k * 320, none⟩, LN, ic - k * 320, (img.drop (k * 320)).take LN⟩) rfl rfl HCL.out (by intro u hu; unfold Rq.cells at hu; simp only [List.mem_cons, List.not_mem_nil, or_false] at hu; rcases hu with rfl | rfl | rfl <;> rfl) (by have := HRL2.out; unfold maxLen; omega) (by have := HRL2.out; omega) (by have := HBE.out.size; simp; omega) ?_; intro v2 w7 hown2 hgrow2 hnil2 hat2; obtain ⟨g2, c2, rfl⟩ := own_pos3 hown2 (by omega); have HOA := Lib.hid hown2; have HGA := Lib.hid hgrow2; clear hown2 hgrow2 hat2 hnil2)
        go_roundw
        case rel =>
          have hw : w.heap.size ≤ ga := ((HOL.out).lt ga rfl).1
          refine ⟨k + 1, _, _, rqs ++ [⟨2, (k : Int), some ⟨ib, io + k * 320, none⟩, LN, ic - k * 320, (img.drop (k * 320)).take LN⟩], by rw [List.length_append]; rfl, by go_num, by omega, by rw [List.length_append, HRL.out]; rfl, ?_, ?_, ?_, ?_⟩
          · rw [rqC_app, List.length_append]
            exact HOA.out
          · rw [List.map_append, HMP.out, goesW_succ, ← HLND.out]
            rfl
          · intro q hq
            have hq2 : q.At (wr.alloc (.cells #[.int .i64 2, .int .i64 k, .slice (some ⟨ib, io + k * 320, none⟩) LN (ic - k * 320)] 34)) w.heap.size (some ⟨ib, io, none⟩) := by
              rcases List.mem_append.1 hq with h | h
              · exact HAL.out q h
              · rw [List.mem_singleton.1 h]
                exact ⟨HRD.out, HFIT.out.2.2, show LN ≤ ic - k * 320 ∧ ic - k * 320 ≤ maxLen from by have := HFIT.out; have := HN.out; constructor <;> omega, fun a ha => Or.inr ⟨_, rfl, by injection ha with ha; rw [← ha]⟩⟩
            exact hq2.grownQ HGA.out (HOL.out) HIB.out
          · exact HBL2.out.grown HGA.out (by have := HBE.out.size; simp; omega) (fun g hg => ((HOL.out).lt g hg).1)
        case measure => simp [intOf]; omega
      · have hkk : k = KK := by have := HK2.out; omega
        subst hkk
        obtain ⟨ga, ca, hv⟩ := own_pos3 HO.out (by have := HRL.out; omega)
        injection hv with e1 _ e2
        subst e1 e2
        have hbn1 : Below wr.heap.size wr (wr.alloc (.cells (rqC [⟨3, 0, none, 0, 0, []⟩, ⟨4, 0, none, 0, 0, []⟩, ⟨5, 0, none, 0, 0, []⟩, ⟨6, 0, none, 0, 0, []⟩]).toArray 34)) := (Below.refl _ _).alloc (Nat.le_refl _) _
        have hnew := Blk.new wr 34 (rqC [⟨3, 0, none, 0, 0, []⟩, ⟨4, 0, none, 0, 0, []⟩, ⟨5, 0, none, 0, 0, []⟩, ⟨6, 0, none, 0, 0, []⟩]).toArray
        have hcl : ∀ j u, (rqC [⟨3, 0, none, 0, 0, []⟩, ⟨4, 0, none, 0, 0, []⟩, ⟨5, 0, none, 0, 0, []⟩, ⟨6, 0, none, 0, 0, []⟩])[j]? = some u → (wr.alloc (.cells (rqC [⟨3, 0, none, 0, 0, []⟩, ⟨4, 0, none, 0, 0, []⟩, ⟨5, 0, none, 0, 0, []⟩, ⟨6, 0, none, 0, 0, []⟩]).toArray 34)).cell? ((⟨wr.heap.size, 0, none⟩ : Addr).add j) = some u := fun j u hj => by
          rw [add_off, Nat.zero_add, hnew.cell j]
          rw [← hj, List.getElem?_toArray]
        have HCL := Lib.hid hcl
        have HOL := Lib.hid (own_only HO.out (Only.of_below (S := []) hbn1) (by simp))
        have HAL := Lib.hid (fun q hq => (HAT.out q hq).below hbn1)
        have HBL2 := Lib.hid (HBE.out.trans (hbn1.mono HBE.out.size))
        have HRL2 := Lib.hid (show rqs.length ≤ 1000 from by have := HRL.out; have := HKB.out; have := HN.out; omega)
        clear hcl hbn1 hnew HO HAT hlt
        go_wp2_with (at_builtin; refine wpList_append_own_at _ rfl (.tmp 49) (.tmp 54) _ rfl w.heap.size 34 i0 (.agg #[.int .i64 0, .int .i64 0, .slice none 0 0]) 3 40 Tryz.underlying25 HI8.out HZ0.out HZ1.out HZ2.out rfl (by decide) _ rqs.length (rqC rqs) rfl HOL.out ⟨wr.heap.size, 0, none⟩ 4 4 (rqC [⟨3, 0, none, 0, 0, []⟩, ⟨4, 0, none, 0, 0, []⟩, ⟨5, 0, none, 0, 0, []⟩, ⟨6, 0, none, 0, 0, []⟩]) rfl rfl HCL.out (rqC_one _) (by have := HRL2.out; unfold maxLen; omega) (by have := HRL2.out; omega) (by have := HBE.out.size; simp; omega) ?_; intro v2 w7 hown2 hgrow2 hnil2 hat2; obtain ⟨g2, c2, rfl⟩ := own_pos3 hown2 (by omega); have HOA := Lib.hid hown2; have HGA := Lib.hid hgrow2; clear hown2 hgrow2 hat2 hnil2)
        go_ret
        refine ⟨_, _, rqs ++ [⟨3, 0, none, 0, 0, []⟩, ⟨4, 0, none, 0, 0, []⟩, ⟨5, 0, none, 0, 0, []⟩, ⟨6, 0, none, 0, 0, []⟩], by rw [List.length_append]; rfl, ?_, ?_, ?_, ?_⟩
        · rw [rqC_app, List.length_append]
          exact HOA.out
        · rw [List.map_append, HMP.out]
          exact HFIN.out
        · intro q hq
          have hq2 : q.At (wr.alloc (.cells (rqC [⟨3, 0, none, 0, 0, []⟩, ⟨4, 0, none, 0, 0, []⟩, ⟨5, 0, none, 0, 0, []⟩, ⟨6, 0, none, 0, 0, []⟩]).toArray 34)) w.heap.size (some ⟨ib, io, none⟩) := by
            rcases List.mem_append.1 hq with h | h
            · exact HAL.out q h
            · simp only [List.mem_cons, List.not_mem_nil, or_false] at h
              rcases h with rfl | rfl | rfl | rfl <;> exact ⟨Reads.none_ _, Nat.zero_le _, ⟨Nat.le_refl _, Nat.zero_le _⟩, fun a ha => by cases ha⟩
          exact hq2.grownQ HGA.out (HOL.out) HIB.out
        · exact HBL2.out.grown HGA.out (by have := HBE.out.size; simp; omega) (fun g hg => ((HOL.out).lt g hg).1)
end Go.Proofs.YtpafenlcgcenlaaGreatDoor
