/- slot.From; area.Blank. · slot.May and slot.Write. · slot.Image. · Chunks on a calm flash: plain. · The laws of chapter 19: alive, num. · Images written chunk by chunk: plain, and the reference's Chunks and Len. -/
import Derived.Test.YtlchlcjahndjgaaGreatAreaE
import Derived.Test.YtlchlcjahndjgaaGreatStr
namespace Go.Proofs.YtlchlcjahndjgaaGreat
open Go.RowKit
set_option linter.unusedVariables false
set_option linter.unusedSimpArgs false
/-- The sector of a chunk. -/
def fromS (s k n : Int) : Int := if s < 0 ∨ 1 < s ∨ n < 1 ∨ 6 < n ∨ k < 0 ∨ n ≤ k then -1 else 4 + s * n + k
section
variable {w : World} {ab fb bb wb : Nat} {R : Ar} {F : Fl}
theorem ablank_c (w : World) (s : Int) (hF : FlashAt w fb bb wb F) (h : AreaAt w ab fb R F.wear.length) :
    Calls Tryz.prog 35 #[ptr ab, .int .i64 s] w fun e w' => e = .returned (.bool (R.blank F s)) ∧ ∃ n, w' = w.drewN n := by
  have H := Lib.hid h
  have HF := Lib.hid hF
  have h0 := h.a0
  have h1 := h.a1
  have hfit := h.ok.fit
  have hmost := h.most
  clear h hF
  cases hw : R.is s
  · have hq : ∀ n : Nat, Calls Tryz.prog 72 #[ptr ab, .int .i64 s] (w.drewN n) fun e w' => e = .returned (.bool false) ∧ w' = w.drewN n := fun n => (ais_c _ s (H.out.drewN n)).mono fun _ _ hh => ⟨by rw [hh.1, hw], hh.2.symm⟩
    have hr : R.blank F s = false := by simp [Ar.blank, hw]
    rw [hr]
    clear hr
    go_enter Tryz.func35, Tryz.ntmps35
    go_wp2_with fail
    go_quiet ((go_at_call 72; exact Calls.quiet_of_same (hq _)))
    go_wp2
    go_ret
    exact ⟨rfl, nq, rfl⟩
  · have hq : ∀ n : Nat, Calls Tryz.prog 72 #[ptr ab, .int .i64 s] (w.drewN n) fun e w' => e = .returned (.bool true) ∧ w' = w.drewN n := fun n => (ais_c _ s (H.out.drewN n)).mono fun _ _ hh => ⟨by rw [hh.1, hw], hh.2.symm⟩
    have hr : R.blank F s = F.blank ((R.from_ : Int) + s) := by simp [Ar.blank, hw]
    rw [hr]
    clear hr
    obtain ⟨b1, b2⟩ := Ar.is_b hw
    have e1 : IntKind.i64.wrap ((R.from_ : Int) + s) = (R.from_ : Int) + s := IntWalk.i64_in _ (by omega)
    go_enter Tryz.func35, Tryz.ntmps35
    go_wp2_with fail
    go_quiet (first | (go_at_call 72; exact Calls.quiet_of_same (hq _)) | (go_at_call 73; exact Calls.quiet_of_same ((blank_c _ _ (HF.out.drewN _)).mono fun _ _ hh => ⟨hh.1, hh.2.symm⟩)))
    go_wp2
    go_ret
    exact ⟨rfl, nq, rfl⟩
end
end Go.Proofs.YtlchlcjahndjgaaGreat
namespace Go.Proofs.YtlchlcjahndjgaaGreat
open Go.RowKit
set_option linter.unusedVariables false
set_option linter.unusedSimpArgs false
namespace Ar
/-- May a chunk be written? -/
def mayC (R : Ar) (F : Fl) (x : Int) : Bool := R.blank F x || decide (0 < R.left F x)
/-- The answer of a write into sector x, and what the flash is then. -/
def chunkE (R : Ar) (F : Fl) (x : Int) (bs : List UInt8) : Int :=
  if x = -1 ∨ 320 < bs.length then 2 else if R.mayC F x = false then 5 else
    if R.blank F x = true then (if bs.length = 0 then 0 else R.programE F x 0 bs)
    else if R.eraseE F x = 0 then (if bs.length = 0 then 0 else R.programE (R.erase F x) x 0 bs) else R.eraseE F x
def chunk (R : Ar) (F : Fl) (x : Int) (bs : List UInt8) : Fl :=
  if x = -1 ∨ 320 < bs.length then F else if R.mayC F x = false then F else
    if R.blank F x = true then (if bs.length = 0 then F else R.program F x 0 bs)
    else if R.eraseE F x = 0 then (if bs.length = 0 then R.erase F x else R.program (R.erase F x) x 0 bs) else R.erase F x
end Ar
theorem fromS_b (s k n : Int) : -1 ≤ fromS s k n ∧ fromS s k n ≤ 16 := by
  unfold fromS
  split
  · omega
  · rename_i h
    have hs : s = 0 ∨ s = 1 := by omega
    rcases hs with rfl | rfl <;> omega
section
variable {w0 w : World} {ab fb bb wb : Nat} {R : Ar} {F : Fl}
end
end Go.Proofs.YtlchlcjahndjgaaGreat
namespace Go.Proofs.YtlchlcjahndjgaaGreat
open Go.RowKit
set_option linter.unusedVariables false
set_option linter.unusedSimpArgs false
namespace Ar
/-- The first bytes of a slot: chunk by chunk. -/
def imgGo (R : Ar) (F : Fl) (s n : Int) (size : Nat) : Nat → Nat → List UInt8 → List UInt8
  | 0, _, out => out
  | f + 1, k, out => if size ≤ out.length then out else if R.read F (fromS s k n) 0 (min 320 ((size : Int) - out.length)) = [] then [] else imgGo R F s n size f (k + 1) (out ++ R.read F (fromS s k n) 0 (min 320 ((size : Int) - out.length)))
def image (R : Ar) (F : Fl) (s n size : Int) : List UInt8 := if fromS s 0 n = -1 ∨ size < 1 ∨ n * 320 < size then [] else R.imgGo F s n size.toNat (size.toNat + 1) 0 []
theorem imgGo_lt (R : Ar) (F : Fl) (s n : Int) (z f k : Nat) (out b : List UInt8) (h : out.length < z) (hb : R.read F (fromS s k n) 0 (min 320 ((z : Int) - out.length)) = b) :
    R.imgGo F s n z (f + 1) k out = if b = [] then [] else R.imgGo F s n z f (k + 1) (out ++ b) := by
  subst hb
  show (if z ≤ out.length then out else _) = _
  rw [if_neg (by omega)]
theorem imgGo_ge (R : Ar) (F : Fl) (s n : Int) (z f k : Nat) (out : List UInt8) (h : z ≤ out.length) : R.imgGo F s n z (f + 1) k out = out := by
  show (if z ≤ out.length then out else _) = _
  rw [if_pos h]
theorem read_le (R : Ar) (F : Fl) (s a n : Int) : (R.read F s a n).length ≤ n.toNat := by
  unfold Ar.read Fl.read
  split
  · split
    · simp; omega
    · simp
  · simp
end Ar
theorem fromS_ok {s n : Int} (h : ¬ fromS s 0 n = -1) : 1 ≤ n ∧ n ≤ 6 := by
  unfold fromS at h
  split at h
  · exact absurd rfl h
  · omega
section
variable {w0 w : World} {ab fb bb wb : Nat} {R : Ar} {F : Fl}
end
end Go.Proofs.YtlchlcjahndjgaaGreat
namespace Go.Proofs.YtlchlcjahndjgaaGreat
open Go.RowKit
set_option linter.unusedVariables false
set_option linter.unusedSimpArgs false
namespace Fl
theorem may_blank (F : Fl) (a : Nat) (bs : List UInt8) (h : ∀ i, i < bs.length → F.b.getD (a + i) 0 = 255) : F.may a bs = true := by
  unfold Fl.may
  rw [List.all_eq_true]
  intro i hi
  rw [List.mem_range] at hi
  rw [h i hi, and_not_255]
  rfl
theorem blank_getD {F : Fl} (hl : F.b.length = 320 * F.wear.length) (s : Nat) (hb : F.blank s = true) (i : Nat) (hi : i < 320) : F.b.getD (s * 320 + i) 0 = 255 := by
  unfold Fl.blank at hb
  rw [Bool.and_eq_true, List.all_eq_true] at hb
  have hs : s < F.wear.length := by have := hb.1; unfold Fl.is at this; simp at this; omega
  have hlt : s * 320 + i < F.b.length := by omega
  have := hb.2 (F.b[s * 320 + i]) (by
    rw [List.mem_iff_getElem]
    refine ⟨i, by simp; omega, ?_⟩
    simp)
  rw [List.getD_eq_getElem?_getD, List.getElem?_eq_getElem hlt, Option.getD_some]
  simpa using this
theorem blank_of {F : Fl} (hl : F.b.length = 320 * F.wear.length) (s : Nat) (hs : s < F.wear.length) (h : ∀ i, i < 320 → F.b.getD (s * 320 + i) 0 = 255) : F.blank s = true := by
  unfold Fl.blank
  rw [Bool.and_eq_true, List.all_eq_true]
  refine ⟨by unfold Fl.is; simp; omega, ?_⟩
  intro x hx
  obtain ⟨i, hi, rfl⟩ := List.mem_iff_getElem.1 hx
  simp at hi
  have := h i (by omega)
  rw [List.getD_eq_getElem?_getD, List.getElem?_eq_getElem (by omega), Option.getD_some] at this
  simp [this]
end Fl
/-- What a chunk that is written turns on a calm flash. -/
structure Wrote (F F' : Fl) (x : Nat) (bs : List UInt8) : Prop where
  calm : F'.Calm
  ok : F'.Ok
  len : F'.wear.length = F.wear.length
  mask : F'.mask = F.mask
  here : ∀ j, j < bs.length → F'.b.getD (x * 320 + j) 0 = bs.getD j 0
  rest : ∀ j, bs.length ≤ j → j < 320 → F'.b.getD (x * 320 + j) 0 = 255
  far : ∀ j, j < x * 320 ∨ x * 320 + 320 ≤ j → F'.b.getD j 0 = F.b.getD j 0
  wfar : ∀ s, s ≠ x → F'.wear.getD s 0 = F.wear.getD s 0
namespace Ar
theorem is_at {R : Ar} {n : Nat} (h : R.Ok n) (s : Nat) (hs : s < R.len) : R.is s = true := by unfold Ar.is; simp; omega
theorem within_at {R : Ar} (s a k : Nat) (hs : s < R.len) (hk : a + k ≤ 320) : R.within s a k = true := by unfold Ar.within Ar.is; simp; omega
theorem blank_at {R : Ar} {F : Fl} (s : Nat) (hs : s < R.len) : R.blank F s = F.blank ((R.from_ + s : Nat) : Int) := by
  unfold Ar.blank Ar.is
  simp [hs]
theorem left_at {R : Ar} {F : Fl} (s : Nat) (hs : s < R.len) : R.left F s = max 0 (R.budget - F.wearAt ((R.from_ + s : Nat) : Int)) := by
  unfold Ar.left Ar.is
  rw [if_pos (by simp; omega)]
  rw [show ((R.from_ : Int) + (s : Int)) = ((R.from_ + s : Nat) : Int) by omega]
theorem wear_at {F : Fl} (s : Nat) (hs : s < F.wear.length) : F.wearAt s = F.wear.getD s 0 := by
  unfold Fl.wearAt Fl.is
  rw [if_pos (by simp; omega)]
  simp
/-- A program of bytes at the beginning of a blank sector. -/
theorem prog_blank {R : Ar} {F : Fl} (hR : R.Ok F.wear.length) (hc : F.Calm) (ho : F.Ok) (s : Nat) (hs : s < R.len) (bs : List UInt8) (hb : bs.length ≤ 320)
    (hbl : F.blank ((R.from_ + s : Nat) : Int) = true) : R.programE F s 0 bs = 0 ∧ R.program F s 0 bs = F.put ((R.from_ + s) * 320) bs ∧ Wrote F (F.put ((R.from_ + s) * 320) bs) (R.from_ + s) bs := by
  have hl := ho.len
  have hfit := hR.fit
  have hw : R.within s 0 bs.length = true := R.within_at s 0 bs.length hs (by omega)
  have hx : (((R.from_ : Int) + (s : Int)) * 320 + 0) = (((R.from_ + s) * 320 : Nat) : Int) := by omega
  have hfw : F.within (((R.from_ + s) * 320 : Nat) : Int) bs.length = true := by unfold Fl.within; simp; omega
  have hm : F.may ((R.from_ + s) * 320) bs = true := Fl.may_blank F _ bs fun i hi => Fl.blank_getD hl _ hbl i (by omega)
  obtain ⟨p1, p2⟩ := hc.prog _ bs hfw
  rw [Int.toNat_natCast, hm] at p1 p2
  refine ⟨?_, ?_, hc.put _ _, Fl.put_ok ho _ _, rfl, rfl, ?_, ?_, ?_, fun _ _ => rfl⟩
  · unfold Ar.programE; rw [if_pos hw, hx]; exact p1
  · unfold Ar.program; rw [if_pos hw, hx]; exact p2
  · intro j hj
    show (Fl.over F.b _ bs).getD _ 0 = _
    rw [Fl.over_getD, if_pos (by omega)]
    congr 1; omega
  · intro j hj hj2
    show (Fl.over F.b _ bs).getD _ 0 = _
    rw [Fl.over_getD, if_neg (by omega)]
    exact Fl.blank_getD hl _ hbl j hj2
  · intro j hj
    show (Fl.over F.b _ bs).getD _ 0 = _
    rw [Fl.over_getD, if_neg (by omega)]
theorem chunk_blank {R : Ar} {F : Fl} (hR : R.Ok F.wear.length) (hc : F.Calm) (ho : F.Ok) (s : Nat) (hs : s < R.len) (bs : List UInt8) (hb : bs.length ≤ 320) (hb0 : bs ≠ [])
    (hbl : F.blank ((R.from_ + s : Nat) : Int) = true) : R.mayC F s = true ∧ R.chunkE F s bs = 0 ∧ R.chunk F s bs = F.put ((R.from_ + s) * 320) bs ∧ Wrote F (R.chunk F s bs) (R.from_ + s) bs := by
  have hbs : R.blank F s = true := by rw [R.blank_at s hs]; exact hbl
  have hm : R.mayC F s = true := by unfold Ar.mayC; rw [hbs]; rfl
  have h1 : ¬ ((s : Int) = -1 ∨ 320 < bs.length) := by omega
  have h2 : ¬ bs.length = 0 := fun h => hb0 (List.eq_nil_of_length_eq_zero h)
  obtain ⟨p1, p2, p3⟩ := prog_blank hR hc ho s hs bs hb hbl
  have e : R.chunk F s bs = F.put ((R.from_ + s) * 320) bs := by unfold Ar.chunk; rw [if_neg h1, hm, if_neg (by simp), if_pos hbs, if_neg h2]; exact p2
  refine ⟨hm, ?_, e, by rw [e]; exact p3⟩
  unfold Ar.chunkE; rw [if_neg h1, hm, if_neg (by simp), if_pos hbs, if_neg h2]; exact p1
theorem chunk_full {R : Ar} {F : Fl} (hR : R.Ok F.wear.length) (hc : F.Calm) (ho : F.Ok) (s : Nat) (hs : s < R.len) (bs : List UInt8) (hb : bs.length ≤ 320) (hb0 : bs ≠ [])
    (hbl : F.blank ((R.from_ + s : Nat) : Int) = false) (hw : F.wear.getD (R.from_ + s) 0 < R.budget) (hw2 : F.wear.getD (R.from_ + s) 0 ≤ 4611686018427387902) :
    R.mayC F s = true ∧ R.chunkE F s bs = 0 ∧ R.chunk F s bs = (F.ers (R.from_ + s)).put ((R.from_ + s) * 320) bs ∧ Wrote F (R.chunk F s bs) (R.from_ + s) bs := by
  have hfit := hR.fit
  have hbs : R.blank F s = false := by rw [R.blank_at s hs]; exact hbl
  have hl : R.left F s = R.budget - F.wear.getD (R.from_ + s) 0 := by rw [R.left_at s hs, wear_at _ (by omega)]; omega
  have hm : R.mayC F s = true := by unfold Ar.mayC; rw [hbs, hl, Bool.false_or, decide_eq_true_eq]; omega
  have h1 : ¬ ((s : Int) = -1 ∨ 320 < bs.length) := by omega
  have h2 : ¬ bs.length = 0 := fun h => hb0 (List.eq_nil_of_length_eq_zero h)
  have his : R.is s = true := R.is_at hR s hs
  have hfi : F.is ((R.from_ + s : Nat) : Int) = true := by unfold Fl.is; simp; omega
  have hx : ((R.from_ : Int) + (s : Int)) = ((R.from_ + s : Nat) : Int) := by omega
  obtain ⟨q1, q2⟩ := hc.erase _ hfi
  rw [Int.toNat_natCast] at q2
  have hz : (R.left F s == 0) = false := by rw [hl, beq_eq_false_iff_ne]; omega
  have e1 : R.eraseE F s = 0 := by unfold Ar.eraseE; rw [if_pos his, hz, if_neg (by simp), hx]; exact q1
  have e2 : R.erase F s = F.ers (R.from_ + s) := by unfold Ar.erase; rw [if_pos his, hz, if_neg (by simp), hx]; exact q2
  have hlen2 : (F.ers (R.from_ + s)).wear.length = F.wear.length := by rw [Fl.ers_wear, List.length_set]
  have hb2 := Fl.blank_ers F ho (R.from_ + s) (by omega)
  obtain ⟨p1, p2, p3⟩ := prog_blank (R := R) (F := F.ers (R.from_ + s)) (by rw [hlen2]; exact hR) (hc.ers _) (Fl.ers_ok ho _ (by omega)) s hs bs hb hb2
  have e : R.chunk F s bs = (F.ers (R.from_ + s)).put ((R.from_ + s) * 320) bs := by
    unfold Ar.chunk; rw [if_neg h1, hm, if_neg (by simp), hbs, if_neg (by simp), if_pos e1, if_neg h2, e2]; exact p2
  refine ⟨hm, ?_, e, ?_⟩
  · unfold Ar.chunkE; rw [if_neg h1, hm, if_neg (by simp), hbs, if_neg (by simp), if_pos e1, if_neg h2, e2]; exact p1
  · rw [e]
    refine ⟨p3.calm, p3.ok, p3.len.trans hlen2, p3.mask, p3.here, p3.rest, ?_, ?_⟩
    · intro j hj
      rw [p3.far j hj, Fl.ers_b, Fl.over_getD, if_neg (by rw [List.length_replicate]; omega)]
    · intro k hk
      rw [p3.wfar k hk, Fl.ers_wear, List.getD_eq_getElem?_getD, List.getElem?_set, if_neg (by omega), ← List.getD_eq_getElem?_getD]
theorem chunk_worn {R : Ar} {F : Fl} (hR : R.Ok F.wear.length) (s : Nat) (hs : s < R.len) (bs : List UInt8) (hb : bs.length ≤ 320)
    (hbl : F.blank ((R.from_ + s : Nat) : Int) = false) (hw : R.budget ≤ F.wear.getD (R.from_ + s) 0) : R.mayC F s = false ∧ R.chunkE F s bs = 5 ∧ R.chunk F s bs = F := by
  have hfit := hR.fit
  have hbs : R.blank F s = false := by rw [R.blank_at s hs]; exact hbl
  have hl : R.left F s = 0 := by rw [R.left_at s hs, wear_at _ (by omega)]; omega
  have hm : R.mayC F s = false := by unfold Ar.mayC; rw [hbs, hl]; rfl
  have h1 : ¬ ((s : Int) = -1 ∨ 320 < bs.length) := by omega
  refine ⟨hm, ?_, ?_⟩
  · unfold Ar.chunkE; rw [if_neg h1, if_pos hm]
  · unfold Ar.chunk; rw [if_neg h1, if_pos hm]
theorem read_at {R : Ar} {F : Fl} (hR : R.Ok F.wear.length) (ho : F.Ok) (s k : Nat) (hs : s < R.len) (hk : 1 ≤ k) (hk2 : k ≤ 320) : R.read F s 0 k = (F.b.drop ((R.from_ + s) * 320)).take k := by
  have hl := ho.len
  have hfit := hR.fit
  have hw : R.within s 0 k = true := R.within_at s 0 k hs (by omega)
  unfold Ar.read
  rw [if_pos hw, show (((R.from_ : Int) + (s : Int)) * 320 + 0) = (((R.from_ + s) * 320 : Nat) : Int) by omega]
  unfold Fl.read
  rw [if_pos ⟨by omega, by unfold Fl.within; simp; omega⟩, Int.toNat_natCast, Int.toNat_natCast]
theorem imgGo_flat {R : Ar} {F : Fl} (hR : R.Ok F.wear.length) (ho : F.Ok) (s n : Nat) (hs : s ≤ 1) (hn1 : n ≤ 6) (z : Nat) (hz : z ≤ n * 320) (hfit : 4 + s * n + n ≤ R.len) :
    ∀ (f k : Nat) (out : List UInt8), (out.length = z ∨ out.length = k * 320 ∧ k * 320 < z) → z < f + out.length → out = (F.b.drop ((R.from_ + 4 + s * n) * 320)).take out.length →
      R.imgGo F s n z f k out = (F.b.drop ((R.from_ + 4 + s * n) * 320)).take z := by
  have hl := ho.len
  have hfit2 := hR.fit
  intro f
  induction f with
  | zero =>
    intro k out h1 h2 h3
    omega
  | succ f ih =>
    intro k out h1 h2 h3
    by_cases hlt : out.length < z
    · obtain ⟨hk1, hk2⟩ : out.length = k * 320 ∧ k * 320 < z := by omega
      have hkn : k < n := by omega
      have hx : fromS s k n = ((4 + s * n + k : Nat) : Int) := by
        unfold fromS
        have hs' : s = 0 ∨ s = 1 := by omega
        rcases hs' with rfl | rfl
        · rw [if_neg (by omega)]; omega
        · rw [if_neg (by omega)]; omega
      have hs' : s * n = 0 ∨ s * n = n := by
        have hs' : s = 0 ∨ s = 1 := by omega
        rcases hs' with rfl | rfl <;> omega
      have hm : min 320 ((z : Int) - out.length) = ((min 320 (z - out.length) : Nat) : Int) := by omega
      have hr := read_at hR ho (4 + s * n + k) (min 320 (z - out.length)) (by omega) (by omega) (by omega)
      have hb : R.read F (fromS s k n) 0 (min 320 ((z : Int) - out.length)) = (F.b.drop ((R.from_ + (4 + s * n + k)) * 320)).take (min 320 (z - out.length)) := by rw [hx, hm]; exact hr
      have hbl : ((F.b.drop ((R.from_ + (4 + s * n + k)) * 320)).take (min 320 (z - out.length))).length = min 320 (z - out.length) := by
        rw [List.length_take, List.length_drop]; omega
      rw [R.imgGo_lt F s n z f k out _ hlt hb, if_neg (by intro h; rw [h] at hbl; simp at hbl; omega)]
      refine ih (k + 1) _ ?_ ?_ ?_
      · rw [List.length_append, hbl]; omega
      · rw [List.length_append, hbl]; omega
      · have e : (R.from_ + (4 + s * n + k)) * 320 = (R.from_ + 4 + s * n) * 320 + out.length := by rw [hk1]; omega
        rw [List.length_append, hbl, List.take_add, ← h3, List.drop_drop, e]
    · rw [R.imgGo_ge F s n z f k out (by omega)]
      rw [h3]
      congr 1
      omega
/-- The first bytes of a slot are the bytes of the flash from the slot's first sector on. -/
theorem image_flat {R : Ar} {F : Fl} (hR : R.Ok F.wear.length) (ho : F.Ok) (s n : Nat) (hs : s ≤ 1) (hn0 : 1 ≤ n) (hn1 : n ≤ 6) (z : Nat) (hz0 : 1 ≤ z) (hz : z ≤ n * 320) (hfit : 4 + s * n + n ≤ R.len) :
    R.image F s n z = (F.b.drop ((R.from_ + 4 + s * n) * 320)).take z := by
  have h1 : ¬ (fromS s 0 n = -1 ∨ (z : Int) < 1 ∨ (n : Int) * 320 < z) := by
    have h0 : ¬ fromS s 0 n = -1 := by
      unfold fromS
      rw [if_neg (by omega)]
      have hs' : s = 0 ∨ s = 1 := by omega
      rcases hs' with rfl | rfl <;> omega
    omega
  have h2 := imgGo_flat hR ho s n hs hn1 z hz hfit (z + 1) 0 [] (by simp; omega) (by simp) (by simp)
  have h3 : ((z : Int)).toNat = z := Int.toNat_natCast z
  unfold Ar.image
  rw [if_neg h1, h3]
  exact h2
theorem image_is {R : Ar} {F : Fl} (hR : R.Ok F.wear.length) (ho : F.Ok) (s n : Nat) (hs : s ≤ 1) (hn0 : 1 ≤ n) (hn1 : n ≤ 6) (L : List UInt8) (hz0 : 1 ≤ L.length) (hz : L.length ≤ n * 320) (hfit : 4 + s * n + n ≤ R.len)
    (h : ∀ j, j < L.length → F.b.getD ((R.from_ + 4 + s * n) * 320 + j) 0 = L.getD j 0) : R.image F s n L.length = L := by
  have hl := ho.len
  have hfit2 := hR.fit
  rw [image_flat hR ho s n hs hn0 hn1 L.length hz0 hz hfit]
  have hs' : s * n = 0 ∨ s * n = n := by
    have hs' : s = 0 ∨ s = 1 := by omega
    rcases hs' with rfl | rfl <;> omega
  apply List.ext_getElem
  · rw [List.length_take, List.length_drop]; omega
  · intro j h1 h2
    have := h j h2
    rw [List.getD_eq_getElem?_getD, List.getElem?_eq_getElem (by omega), List.getD_eq_getElem?_getD, List.getElem?_eq_getElem h2] at this
    simp at this ⊢
    exact this
end Ar
end Go.Proofs.YtlchlcjahndjgaaGreat
namespace Go.Proofs.YtlchlcjahndjgaaGreat
open Go.RowKit
set_option linter.unusedVariables false
set_option linter.unusedSimpArgs false

theorem new_calm (n : Nat) (hn : n ≤ 400) (x : Nat) (hx : x < n) : (Fl.new n).blank x = true := by
  have h1 := Fl.new_b n hn
  refine Fl.blank_of (by rw [h1.1, h1.2]; simp; omega) x (by rw [h1.2]; simpa using hx) fun i hi => Fl.new_getD n hn _ (by omega)
theorem new_wlen (n : Nat) (hn : n ≤ 400) : (Fl.new n).wear.length = n := by rw [(Fl.new_b n hn).2]; simp
theorem al19 : ∃ F0 R F', Fl.new ((8 : Nat) : Int) = F0 ∧ F0.wear.length = 8 ∧ Ar.new 8 0 8 3 = R ∧ R.chunkE F0 4 [120] = 0 ∧ R.chunk F0 4 [120] = F' ∧ R.image F' 0 2 1 = [120] := by
  have hR : Ar.new 8 0 8 3 = ⟨0, 8, 3⟩ := by kernel_rfl
  have hok : (⟨0, 8, 3⟩ : Ar).Ok 8 := by rw [← hR]; exact Ar.new_ok 8 0 8 3
  have hl := new_wlen 8 (by omega)
  have hok2 : (⟨0, 8, 3⟩ : Ar).Ok (Fl.new ((8 : Nat) : Int)).wear.length := by rw [hl]; exact hok
  obtain ⟨-, p1, -, p2⟩ := Ar.chunk_blank hok2 (Fl.Calm.new _) (Fl.new_ok _) 4 (by decide) [120] (by simp) (by simp) (new_calm 8 (by omega) 4 (by omega))
  have h3 := Ar.image_is (R := ⟨0, 8, 3⟩) (by rw [p2.len]; exact hok2) p2.ok 0 2 (by omega) (by omega) (by omega) [120] (by simp) (by simp) (by simp) (fun j hj => p2.here j hj)
  exact ⟨_, _, _, rfl, hl, hR, p1, rfl, h3⟩
theorem al19_f : fromS 0 0 2 = 4 ∧ fromS 1 0 2 = 6 := ⟨rfl, rfl⟩
end Go.Proofs.YtlchlcjahndjgaaGreat
namespace Go.Proofs.YtlchlcjahndjgaaGreat
open Go.RowKit
set_option linter.unusedVariables false
set_option linter.unusedSimpArgs false
/-- Any chunk of a calm flash with budget left is written. -/
theorem Ar.chunk_any {R : Ar} {F : Fl} (hR : R.Ok F.wear.length) (hc : F.Calm) (ho : F.Ok) (s : Nat) (hs : s < R.len) (bs : List UInt8) (hb : bs.length ≤ 320) (hb0 : bs ≠ [])
    (hw : F.wear.getD (R.from_ + s) 0 < R.budget) (hw2 : F.wear.getD (R.from_ + s) 0 ≤ 4611686018427387902) :
    R.chunkE F s bs = 0 ∧ Wrote F (R.chunk F s bs) (R.from_ + s) bs ∧ (R.chunk F s bs).wear.getD (R.from_ + s) 0 ≤ F.wear.getD (R.from_ + s) 0 + 1 := by
  have hfit := hR.fit
  by_cases hbl : F.blank ((R.from_ + s : Nat) : Int) = true
  · obtain ⟨-, p1, p2, p3⟩ := Ar.chunk_blank hR hc ho s hs bs hb hb0 hbl
    refine ⟨p1, p3, ?_⟩
    rw [p2]
    show F.wear.getD _ _ ≤ _
    omega
  · obtain ⟨-, p1, p2, p3⟩ := Ar.chunk_full hR hc ho s hs bs hb hb0 (by simpa using hbl) hw hw2
    refine ⟨p1, p3, ?_⟩
    rw [p2]
    show (F.wear.set _ _).getD _ _ ≤ _
    rw [List.getD_eq_getElem?_getD, List.getElem?_set, if_pos rfl, if_pos (by omega), Option.getD_some]
    omega
/-- A calm flash of twelve sectors, none erased more often than n. -/
structure Sk (F : Fl) (n : Nat) : Prop where
  calm : F.Calm
  ok : F.Ok
  len : F.wear.length = 12
  wear : ∀ s, s < 12 → F.wear.getD s 0 ≤ n
/-- The bytes c stand at the beginning of sector x. -/
def HoldsC (F : Fl) (x : Nat) (c : List UInt8) : Prop := ∀ t, t < c.length → F.b.getD (x * 320 + t) 0 = c.getD t 0
theorem sk_rok : (⟨0, 12, 100⟩ : Ar).Ok 12 := ⟨by simp, by simp, by simp⟩
theorem sk_new : Ar.new 12 0 12 100 = ⟨0, 12, 100⟩ := by kernel_rfl
theorem sk_start : Sk (Fl.new ((12 : Nat) : Int)) 0 := by
  refine ⟨Fl.Calm.new _, Fl.new_ok _, new_wlen 12 (by omega), fun s hs => ?_⟩
  rw [Fl.new_wearD 12 (by omega) s]
  exact Int.le_refl _
theorem sk_step {F : Fl} {n : Nat} (h : Sk F n) (hn : n < 100) (x : Nat) (hx : x < 12) (bs : List UInt8) (hb : bs.length ≤ 320) (hb0 : bs ≠ []) :
    (⟨0, 12, 100⟩ : Ar).chunkE F x bs = 0 ∧ Sk ((⟨0, 12, 100⟩ : Ar).chunk F x bs) (n + 1) ∧ HoldsC ((⟨0, 12, 100⟩ : Ar).chunk F x bs) x bs ∧
      ∀ y c, y ≠ x → c.length ≤ 320 → HoldsC F y c → HoldsC ((⟨0, 12, 100⟩ : Ar).chunk F x bs) y c := by
  have hw := h.wear x hx
  obtain ⟨p1, p2, p3⟩ := Ar.chunk_any (R := ⟨0, 12, 100⟩) (F := F) (by rw [h.len]; exact sk_rok) h.calm h.ok x hx bs hb hb0
    (by show F.wear.getD (0 + x) 0 < 100; rw [Nat.zero_add]; omega) (by show F.wear.getD (0 + x) 0 ≤ _; rw [Nat.zero_add]; omega)
  simp only [Nat.zero_add] at p2 p3
  refine ⟨p1, ⟨p2.calm, p2.ok, p2.len.trans h.len, fun s hs => ?_⟩, fun t ht => p2.here t ht, fun y c hy hc hh t ht => ?_⟩
  · by_cases hsx : s = x
    · subst hsx; omega
    · rw [p2.wfar s hsx]
      have := h.wear s hs
      omega
  · rw [p2.far _ (by omega)]
    exact hh t ht
/-- Chunk i of an image. -/
def chk (L : List UInt8) (i : Nat) : List UInt8 := (L.drop (i * 320)).take 320
theorem chk_len (L : List UInt8) (i : Nat) : (chk L i).length = min 320 (L.length - i * 320) := by unfold chk; rw [List.length_take, List.length_drop]
theorem chk_getD (L : List UInt8) (i t : Nat) (ht : t < 320) : (chk L i).getD t 0 = L.getD (i * 320 + t) 0 := by
  unfold chk
  rw [List.getD_eq_getElem?_getD, List.getElem?_take, if_pos ht, List.getElem?_drop, ← List.getD_eq_getElem?_getD]
theorem chk_take (L : List UInt8) (i m : Nat) (hm : m = min 320 (L.length - i * 320)) : (L.drop (i * 320)).take m = chk L i := by
  subst hm
  unfold chk
  rw [← List.length_drop, List.take_eq_take_iff]
  omega
theorem sk_image {F : Fl} {n : Nat} (h : Sk F n) (s : Nat) (hs : s ≤ 1) (L : List UInt8) (h1 : 1 ≤ L.length) (h2 : L.length ≤ 1280)
    (hall : ∀ j, j * 320 < L.length → HoldsC F (4 + s * 4 + j) (chk L j)) : (⟨0, 12, 100⟩ : Ar).image F s 4 L.length = L := by
  refine Ar.image_is (by rw [h.len]; exact sk_rok) h.ok s 4 hs (by omega) (by omega) L h1 (by omega) (by show 4 + s * 4 + 4 ≤ 12; omega) fun j hj => ?_
  have hq := hall (j / 320) (by omega) (j % 320) (by rw [chk_len]; omega)
  rw [chk_getD _ _ _ (by omega)] at hq
  rw [show (0 + 4 + s * 4) * 320 + j = (4 + s * 4 + j / 320) * 320 + j % 320 by omega, show j = j / 320 * 320 + j % 320 by omega]
  have e : j / 320 * 320 + j % 320 = j := by omega
  simp only [e] at hq ⊢
  exact hq
end Go.Proofs.YtlchlcjahndjgaaGreat
