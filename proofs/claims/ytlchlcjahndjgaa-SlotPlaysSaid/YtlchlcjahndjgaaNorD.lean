/- Walks of package nor, fourth part: New. -/
import Derived.Test.YtlchlcjahndjgaaNorC
import Derived.Deep.RegionWith
namespace Go.Proofs.Ytlchlcjahndjgaa
open Go.RowKit
set_option linter.unusedVariables false
set_option linter.unusedSimpArgs false

theorem info_int : (Try.prog.info? 3).map (fun i => (i.zero, i.size, i.bytes)) = some (some (.int .i64 0), 1, 8) := by kernel_rfl
theorem made_int (n : Nat) : madeCells (Value.int .i64 0).cells (n * 1) = (List.replicate n (i64v 0)).toArray := by
  rw [Nat.mul_one]
  apply Array.ext
  · simp [madeCells]
  · intro i h1 h2
    simp [madeCells, Value.cells, Nat.mod_one]
theorem make_ints (n : Nat) (hn : n ≤ 1099511627776) (W : World) : (Instr.makeSlice 40 (.int .i64 (n : Int)) (.int .i64 (n : Int))).run Try.prog W = .ok (.slice (some ⟨W.heap.size, 0, none⟩) n n) (W.alloc (.cells (List.replicate n (i64v 0)).toArray 3)) := by
  obtain ⟨i0, hi, hz0, hz1, hz2⟩ := info_parts info_int
  have h := run_make (P := Try.prog) W 40 3 i0 _ Try.underlying40 hi hz0 .i64 .i64 n n (by omega) (by omega) (by rw [hz2]; omega) (by omega)
  rw [hz1] at h
  simp only [Int.toNat_natCast] at h
  rw [made_int] at h
  exact h

theorem c255 (w : World) (t : TypeId) : (w.alloc (.cells #[.int .u8 255] t)).cell? ⟨w.heap.size, 0, none⟩ = some (u8v 255) := (Blk.new w t #[.int .u8 255]).cell 0
theorem c255a (w : World) (R : Array Value) (t t' : TypeId) : ((w.alloc (.cells R t')).alloc (.cells #[.int .u8 255] t)).cell? ⟨w.heap.size + 1, 0, none⟩ = some (u8v 255) := by
  have h := (Blk.new (w.alloc (.cells R t')) t #[.int .u8 255]).cell 0
  rw [show (w.alloc (.cells R t')).heap.size = w.heap.size + 1 by simp] at h
  exact h
theorem c255b (w : World) (R : Array Value) (t t' : TypeId) : ((w.alloc (.cells #[.int .u8 255] t)).alloc (.cells R t')).cell? ⟨w.heap.size, 0, none⟩ = some (u8v 255) := ((Blk.new w t #[.int .u8 255]).alloc _).cell 0

def NewFlash (w : World) (F : Fl) (e : Ending) (w' : World) : Prop :=
  ∃ fb bb wb, e = .returned (ptr fb) ∧ FlashAt w' fb bb wb F ∧ Below w.heap.size w w' ∧ w.heap.size ≤ fb ∧ w.heap.size ≤ bb ∧ w.heap.size ≤ wb

theorem new_flash_at {w W : World} {n bb wb : Nat} (hB : Blk W bb 5 (List.replicate (n * 320) (u8v 255)).toArray) (hW : Blk W wb 3 (List.replicate n (i64v 0)).toArray) (hb : Below w.heap.size w W)
    (h1 : w.heap.size ≤ bb) (h2 : w.heap.size ≤ wb) (hn : n ≤ 400) {H bb' wb' : Nat} (hH : W.heap.size = H) (e1 : bb = bb') (e2 : wb = wb') :
    NewFlash w (Fl.new n) (.returned (.pointer (some ⟨H, 0, none⟩))) (W.alloc (.cells #[.slice (some ⟨bb', 0, none⟩) (n * 320) (n * 320), .slice (some ⟨wb', 0, none⟩) n n, .int .i64 (-1), .slice none 0 0, .bool false, .int .i64 0] 99)) := by
  subst hH e1 e2
  have hm : (max (0 : Int) (min (n : Int) 400)).toNat = n := by omega
  have e1 : (Fl.new n).b = List.replicate (n * 320) 255 := by unfold Fl.new; rw [hm]
  have e2 : (Fl.new n).wear = List.replicate n 0 := by unfold Fl.new; rw [hm]
  refine ⟨W.heap.size, bb, wb, rfl, ⟨Fl.new_ok _, ⟨none, 0, ?_, ?_, ?_⟩, ?_, ?_, by intro k hk; cases hk⟩, hb.alloc hb.size _, hb.size, h1, h2⟩
  · have h := Blk.new W 99 #[.slice (some ⟨bb, 0, none⟩) (n * 320) (n * 320), .slice (some ⟨wb, 0, none⟩) n n, .int .i64 (-1), .slice none 0 0, .bool false, .int .i64 0]
    rw [e1, e2, List.length_replicate, List.length_replicate]
    exact h
  · exact Reads.none_ _
  · intro _ a ha; cases ha
  · rw [e1, List.map_replicate]; exact hB.alloc _
  · rw [e2, List.map_replicate]; exact hW.alloc _

set_option maxHeartbeats 1000000 in
theorem new_mid (n : Nat) (hn : n ≤ 400) (hp : 0 < n) (w : World) : Calls Try.prog 20 #[.int .i64 (n : Int)] w (NewFlash w (Fl.new n)) := by
  have hmk := fun W => make_ints n (by omega) W
  obtain ⟨R, hR⟩ : ∃ R, R = (List.replicate n (i64v 0)).toArray := ⟨_, rfl⟩
  rw [← hR] at hmk
  have HR := Lib.hid hR
  clear hR
  have hp' : (0 : Int) < (n : Int) := by omega
  have hw : IntKind.i64.wrap ((n : Int) * 320) = (n : Int) * 320 := IntWalk.i64_in _ (by omega)
  go_enter Try.func20, Try.ntmps20
  go_wp2_with fail
  go_region_with ((go_at_call 66; rw [show (n : Int) * 320 = ((n * 320 : Nat) : Int) from by omega]; refine (repeat_c _ 255 _ 0 1 (n * 320) ?_ (by omega)).mono ?_; (first | exact c255 w _ | exact c255a w _ _ _ | exact c255b w _ _ _); rintro e w2 ⟨rfl, hblk, hbel⟩))
  all_goals
    rw [HR.out] at *
    clear hmk HR hw
    simp only [Act.put, List.getElem_toArray, List.getElem_cons_succ, List.getElem_cons_zero, List.setIfInBounds_toArray, List.set_cons_succ, List.set_cons_zero]
    go_wp2
    go_ret
  · exact new_flash_at (W := w2.alloc _) (hblk.alloc _) (Blk.new w2 _ _) ((((Below.refl _ _).alloc (Nat.le_refl _) _).drew.trans (hbel.mono (by simp))).alloc (by have := hbel.size; simp at this; omega) _) (by simp) (by have := hbel.size; simp at this; omega) hn (by simp) (by simp) rfl
  · exact new_flash_at (W := w2) hblk (((Blk.new (w.alloc _) _ _).drew).below hbel (by simp)) (((((Below.refl _ _).alloc (Nat.le_refl _) _).alloc (by simp) _).drew.trans (hbel.mono (by simp; omega)))) (by simp; omega) (by simp) hn rfl (by simp) (by simp)
  · exact new_flash_at (W := w2) hblk ((((Blk.new w _ _).alloc _).drew).below hbel (by simp; omega)) (((((Below.refl _ _).alloc (Nat.le_refl _) _).alloc (by simp) _).drew.trans (hbel.mono (by simp; omega)))) (by simp; omega) (Nat.le_refl _) hn rfl (by simp) rfl
set_option maxHeartbeats 1000000 in
theorem new_zero (w : World) : Calls Try.prog 20 #[.int .i64 0] w (NewFlash w (Fl.new 0)) := by
  obtain ⟨n, hn0⟩ : ∃ n : Nat, n = 0 := ⟨_, rfl⟩
  have hmk : ∀ W : World, (Instr.makeSlice 40 (.int .i64 0) (.int .i64 0)).run Try.prog W = .ok (.slice (some ⟨W.heap.size, 0, none⟩) 0 0) (W.alloc (.cells (List.replicate n (i64v 0)).toArray 3)) := fun W => by rw [hn0]; exact make_ints 0 (by omega) W
  obtain ⟨R, hR⟩ : ∃ R, R = (List.replicate n (i64v 0)).toArray := ⟨_, rfl⟩
  rw [← hR] at hmk
  have HR := Lib.hid hR
  clear hR
  have HN := Lib.hid hn0
  clear hn0
  go_enter Try.func20, Try.ntmps20
  go_wp2_with fail
  go_region_with ((go_at_call 66; refine (repeat_c _ 255 _ 0 1 0 ?_ (by omega)).mono ?_; (first | exact c255 w _ | exact c255a w _ _ _ | exact c255b w _ _ _); rintro e w2 ⟨rfl, hblk, hbel⟩))
  all_goals
    rw [HR.out] at *
    clear hmk HR
    simp only [Act.put, List.getElem_toArray, List.getElem_cons_succ, List.getElem_cons_zero, List.setIfInBounds_toArray, List.set_cons_succ, List.set_cons_zero]
    go_wp2
    go_ret
  all_goals (have hn0 := HN.out; subst hn0)
  · exact new_flash_at (n := 0) (W := w2.alloc _) (hblk.alloc _) (Blk.new w2 _ _) ((((Below.refl _ _).alloc (Nat.le_refl _) _).drew.trans (hbel.mono (by simp))).alloc (by have := hbel.size; simp at this; omega) _) (by simp) (by have := hbel.size; simp at this; omega) (by omega) (by simp) (by simp) rfl
  · exact new_flash_at (n := 0) (W := w2) hblk (((Blk.new (w.alloc _) _ _).drew).below hbel (by simp)) (((((Below.refl _ _).alloc (Nat.le_refl _) _).alloc (by simp) _).drew.trans (hbel.mono (by simp; omega)))) (by simp; omega) (by simp) (by omega) rfl (by simp) (by simp)
  · exact new_flash_at (n := 0) (W := w2) hblk ((((Blk.new w _ _).alloc _).drew).below hbel (by simp; omega)) (((((Below.refl _ _).alloc (Nat.le_refl _) _).alloc (by simp) _).drew.trans (hbel.mono (by simp; omega)))) (by simp; omega) (Nat.le_refl _) (by omega) rfl (by simp) rfl

theorem new_c (n : Nat) (hn : n ≤ 400) (w : World) : Calls Try.prog 20 #[.int .i64 (n : Int)] w (NewFlash w (Fl.new n)) := by
  rcases Nat.eq_zero_or_pos n with rfl | hp
  · exact new_zero w
  · exact new_mid n hn hp w

/-- A flash of the call's own: nothing that was there when the call began has turned. -/
structure Has (w0 w : World) (fb bb wb : Nat) (F : Fl) : Prop where
  flash : FlashAt w fb bb wb F
  below : Below w0.heap.size w0 w
  fb_ : w0.heap.size ≤ fb
  bb_ : w0.heap.size ≤ bb
  wb_ : w0.heap.size ≤ wb
section
variable {w0 w w' : World} {fb bb wb : Nat} {F F' : Fl}
theorem Has.only (h : Has w0 w fb bb wb F) (hF : FlashAt w' fb bb wb F') (ho : Only [fb, bb, wb] w w') : Has w0 w' fb bb wb F' := by
  have h1 := h.fb_
  have h2 := h.bb_
  have h3 := h.wb_
  exact ⟨hF, ho.below h.below h.below.size (by intro k hk; simp at hk; omega), h.fb_, h.bb_, h.wb_⟩
theorem Has.alloc (h : Has w0 w fb bb wb F) (o : Obj) : Has w0 (w.alloc o) fb bb wb F := ⟨h.flash.alloc o, h.below.alloc h.below.size o, h.fb_, h.bb_, h.wb_⟩
theorem Has.drewN (h : Has w0 w fb bb wb F) (n : Nat) : Has w0 (w.drewN n) fb bb wb F := ⟨h.flash.drewN n, ⟨h.below.os, h.below.tape, h.below.output, h.below.size, h.below.block⟩, h.fb_, h.bb_, h.wb_⟩
theorem Has.drew (h : Has w0 w fb bb wb F) : Has w0 w.drew fb bb wb F := h.drewN 1
theorem Has.later (h : Has w0 w fb bb wb F) (hb : Below w.heap.size w w') : Has w0 w' fb bb wb F := ⟨h.flash.below hb, h.below.trans (hb.mono h.below.size), h.fb_, h.bb_, h.wb_⟩
theorem Has.apart (h : Has w0 w fb bb wb F) : Apart [fb, bb, wb] (some ⟨w.heap.size, 0, none⟩) := by
  obtain ⟨h1, h2, h3⟩ := h.flash.lt
  intro a ha
  cases ha
  simp; omega
end
theorem new_h (n : Nat) (hn : n ≤ 400) {w0 w : World} (hb : Below w0.heap.size w0 w) : Calls Try.prog 20 #[.int .i64 (n : Int)] w fun e w' => ∃ fb bb wb, e = .returned (ptr fb) ∧ Has w0 w' fb bb wb (Fl.new n) ∧ w.heap.size ≤ fb ∧ w.heap.size ≤ bb ∧ w.heap.size ≤ wb :=
  (new_c n hn w).mono fun e w' ⟨fb, bb, wb, he, hF, hb', h1, h2, h3⟩ => ⟨fb, bb, wb, he, ⟨hF, hb.trans (hb'.mono hb.size), Nat.le_trans hb.size h1, Nat.le_trans hb.size h2, Nat.le_trans hb.size h3⟩, h1, h2, h3⟩
theorem byte_row (w : World) (c : UInt8) : Reads (w.alloc (.cells #[u8v c] 5)) (some ⟨w.heap.size, 0, none⟩) 1 ([c].map u8v) := (Blk.new w 5 #[u8v c]).row (l := [u8v c])
end Go.Proofs.Ytlchlcjahndjgaa
