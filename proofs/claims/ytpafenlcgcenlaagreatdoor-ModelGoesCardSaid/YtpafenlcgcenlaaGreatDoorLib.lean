/- Contracts of the library's functions that this seat's programs call, at rows of bytes. -/
import Derived.Test.YtpafenlcgcenlaaGreatDoorMem
import Derived.Test.YtpafenlcgcenlaaGreatDoorProg
import Derived.WalkKit
import Derived.WalkSpells
import Derived.WalkLawsBesides
import Derived.Outline
import Derived.Laws.CopyOwn
import Derived.Deep.QuietTactic
import Derived.BigQuiet
import Derived.Lib.Hide
import Derived.Deep.RegionLaw
import Derived.KernelRfl
import Derived.Deep.DeepCutAuto
namespace Go.Proofs.YtpafenlcgcenlaaGreatDoor
open Go.RowKit
set_option linter.unusedVariables false
set_option linter.unusedSimpArgs false

theorem info_u8 : (Tryz.prog.info? 5).map (fun i => (i.zero, i.size, i.bytes)) = some (some (.int .u8 0), 1, 1) := by kernel_rfl

/-- A new slice of n bytes that is the call's own. -/
def MadeBytes (w : World) (bs : List UInt8) (e : Ending) (w' : World) : Prop :=
  ∃ A c, e = .returned (.slice A bs.length c) ∧ w'.ownsRow w.heap.size 5 1 (.slice A bs.length c) bs.length (bs.map u8v) ∧ Below w.heap.size w w'

theorem clone_c (w : World) (A : Option Addr) (c : Nat) (bs : List UInt8) (hr : Reads w A bs.length (bs.map u8v)) (hn : bs.length ≤ 140737488351232) :
    Calls Tryz.prog 25 #[.slice A bs.length c] w (MadeBytes w bs) := by
  obtain ⟨i0, hi, hz0, hz1, hz2⟩ := info_parts info_u8
  have heq : ∀ (n : Nat) (wx : World), (binOp .eql 22 (.slice A n c) (.slice none 0 0)).run Tryz.prog wx = .ok (.bool A.isNone) wx := fun n wx => Lib.run_eql_slice_nil (P := Tryz.prog) wx 22 5 A n c 0 0 Tryz.underlying22
  rcases A with _ | ad
  · have h0 : bs.length = 0 := by
      rcases Nat.eq_zero_or_pos bs.length with h | h
      · exact h
      · obtain ⟨b, o, h, _⟩ := hr.2 h; cases h
    have hb : bs = [] := List.eq_nil_of_length_eq_zero h0
    subst hb
    clear hr
    go_enter Tryz.func25, Tryz.ntmps25
    go_wp2
    go_ret
    exact ⟨none, 0, rfl, World.ownsRow_nil _ _ _ _, Below.refl _ _⟩
  · go_enter Tryz.func25, Tryz.ntmps25
    go_wp2_with (at_builtin; refine wpList_append_any _ rfl (.tmp 5) (.tmp 6) _ rfl w.heap.size 5 i0 (.int .u8 0) 1 Tryz.underlying22 hi hz0 hz1 hz2 rfl _ 0 [] rfl (World.ownsRow_made w #[] 0 (Nat.le_refl _) (by unfold maxLen; omega) rfl) (some ad) bs.length c (bs.map u8v) rfl (hr.alloc _) (u8v_one bs) (by unfold maxLen; omega) (by omega) (by simp) ?_; intro A' c' w1 hown hgrow hat; simp only [Nat.zero_add, List.nil_append] at hown)
    go_ret
    exact ⟨A', c', rfl, hown, ((Below.refl _ _).alloc (Nat.le_refl _) _).grown hgrow (by simp) (by intro k hk; cases hk; exact Nat.le_refl _)⟩

theorem clone_n (w : World) (A : Option Addr) (n c : Nat) (bs : List UInt8) (hr : Reads w A n (bs.map u8v)) (hn : n ≤ 140737488351232) :
    Calls Tryz.prog 25 #[.slice A n c] w (MadeBytes w bs) := by
  have h : bs.length = n := by simpa using hr.len
  subst h
  exact clone_c w A c bs hr hn

/-! ### ContainsFunc, IndexFunc at the tests that the programs hand over -/

/-! ### Repeat, of one byte -/
theorem u64_mask32 (n : Int) (h0 : 0 ≤ n) (h1 : n ≤ 9223372036854775807) : bits .and .u64 n 4294967295 = n % 4294967296 := by
  rw [u64_and n _ h0 (by omega) (by omega) (by omega)]
  rw [show ((4294967295 : Int).toNat) = 4294967295 from rfl, nat_mask32]
  omega
theorem mul64_c (w : World) (n : Int) (h0 : 0 ≤ n) (h1 : n ≤ 9223372036854775807) : Calls Tryz.prog 97 #[.int .u64 1, .int .u64 n] w fun e w' => e = .returned (.tuple #[.int .u64 0, .int .u64 n]) ∧ w = w' := by
  go_enter Tryz.func97, Tryz.ntmps97
  go_wp2
  go_ret2
  refine ⟨?_, rfl⟩
  have e1 : bits .and .u64 1 4294967295 = 1 := by rw [u64_mask32 1 (by omega) (by omega)]; rfl
  have e3 : ∀ x, IntKind.u64.wrap x = x % 18446744073709551616 := fun x => by simp [IntKind.wrap, IntKind.bits, IntKind.signed]
  simp
  rw [e1, u64_mask32 n h0 h1]
  simp only [e3]
  rw [show 1 * (n % 4294967296) % 18446744073709551616 / 4294967296 % 18446744073709551616 = 0 by omega, u64_mask32 0 (by omega) (by omega)]
  omega
theorem mul_c (w : World) (n : Int) (h0 : 0 ≤ n) (h1 : n ≤ 9223372036854775807) : Calls Tryz.prog 56 #[.int .u64 1, .int .u64 n] w fun e w' => e = .returned (.tuple #[.int .u64 0, .int .u64 n]) ∧ w = w' := by
  go_enter Tryz.func56, Tryz.ntmps56
  go_wp2_with (go_at_call 97; refine (mul64_c _ n h0 h1).mono ?_; rintro e w' ⟨rfl, rfl⟩)
  go_ret2
  exact ⟨rfl, rfl⟩

theorem rep_made (n : Nat) : madeCells (Value.int .u8 0).cells (n * 1) = (List.replicate n (u8v 0)).toArray := by
  rw [Nat.mul_one]
  apply Array.ext
  · simp [madeCells]
  · intro i h1 h2
    simp [madeCells, Value.cells, Nat.mod_one]
theorem make_bytes (n : Nat) (hn : n ≤ 1099511627776) (W : World) : (Instr.makeSlice 22 (.int .i64 (n : Int)) (.int .i64 (n : Int))).run Tryz.prog W = .ok (.slice (some ⟨W.heap.size, 0, none⟩) n n) (W.alloc (.cells (List.replicate n (u8v 0)).toArray 5)) := by
  obtain ⟨i0, hi, hz0, hz1, hz2⟩ := info_parts info_u8
  have h := run_make (P := Tryz.prog) W 22 5 i0 _ Tryz.underlying22 hi hz0 .i64 .i64 n n (by omega) (by omega) (by rw [hz2]; omega) (by omega)
  rw [hz1] at h
  simp only [Int.toNat_natCast] at h
  rw [rep_made] at h
  exact h
/-- The row of a Repeat behind m of n bytes. -/
def repRow (c : UInt8) (n m : Nat) : List Value := List.replicate m (u8v c) ++ List.replicate (n - m) (u8v 0)
theorem repRow_len (c : UInt8) (n m : Nat) (h : m ≤ n) : (repRow c n m).length = n := by simp [repRow]; omega
theorem repRow_splice (c : UInt8) (n m k : Nat) (h : m + k ≤ n) : splice (repRow c n m) m (List.replicate k (u8v c)) = repRow c n (m + k) := by
  unfold splice repRow
  rw [List.take_left' (by simp), List.length_replicate, List.drop_append, List.drop_eq_nil_of_le (by simp), List.nil_append, List.length_replicate, List.drop_replicate, ← List.append_assoc, List.replicate_append_replicate]
  congr 2
  omega

set_option maxHeartbeats 400000 in
set_option maxRecDepth 100000 in
theorem repeat_c (w : World) (ch : UInt8) (b o c n : Nat) (hx : w.cell? ⟨b, o, none⟩ = some (u8v ch)) (hn : n ≤ 1099511627776) :
    Calls Tryz.prog 26 #[.slice (some ⟨b, o, none⟩) 1 c, .int .i64 (n : Int)] w fun e w' =>
      e = .returned (.slice (some ⟨w.heap.size, 0, none⟩) n n) ∧ Blk w' w.heap.size 5 (List.replicate n (u8v ch)).toArray ∧ Below w.heap.size w w' := by
  obtain ⟨i0, hi, hz0, hz1, hz2⟩ := info_parts info_u8
  have hsz : (Tryz.prog.info? 5).map (·.size) = some 1 := by rw [hi]; simp [hz1]
  have hmk : ∀ W : World, (Instr.makeSlice 22 (.int .i64 (n : Int)) (.int .i64 (n : Int))).run Tryz.prog W = .ok (.slice (some ⟨W.heap.size, 0, none⟩) n n) (W.alloc (.cells (List.replicate n (u8v 0)).toArray 5)) := by
    intro W
    have h := run_make (P := Tryz.prog) W 22 5 i0 _ Tryz.underlying22 hi hz0 .i64 .i64 n n (by omega) (by omega) (by rw [hz2]; omega) (by omega)
    rw [hz1] at h
    simp only [Int.toNat_natCast] at h
    rw [rep_made] at h
    exact h
  obtain ⟨R0, hR0⟩ : ∃ R, R = (List.replicate n (u8v 0)) := ⟨_, rfl⟩
  obtain ⟨C0, hC0⟩ : ∃ R, R = (List.replicate (min 1 n) (u8v ch)) := ⟨_, rfl⟩
  rw [← hR0] at hmk
  have hbx : b < w.heap.size := World.block_lt_of_cell? w _ hx
  have hl0 : C0.length = min 1 n := by rw [hC0]; simp
  have hfit : 0 + C0.length ≤ R0.length := by rw [hl0, hR0]; simp; omega
  have hone : ∀ v ∈ C0, v.oneCell' = true := by rw [hC0]; intro v hv; rw [List.mem_replicate] at hv; rw [hv.2]; rfl
  have hsrc : ∀ (W : World), W.cell? ⟨b, o, none⟩ = some (u8v ch) → ∀ j v, C0[j]? = some v → W.cell? ((⟨b, o, none⟩ : Addr).add j) = some v := by
    intro W hW j v hj
    have hj0 : j < C0.length := by
      rcases Nat.lt_or_ge j C0.length with h | h
      · exact h
      · rw [List.getElem?_eq_none h] at hj; cases hj
    have : j = 0 := by omega
    subst this
    rw [List.getElem?_eq_getElem hj0] at hj
    simp only [Option.some.injEq] at hj
    subst hj
    simp only [hC0, List.getElem_replicate]
    exact hW
  have hsp : splice R0 0 C0 = repRow ch n (min 1 n) := by
    rw [hR0, hC0]
    have := repRow_splice ch n 0 (min 1 n) (by omega)
    simp only [repRow, List.replicate_zero, List.nil_append, Nat.sub_zero, Nat.zero_add] at this
    rw [this]; rfl
  have HR := Lib.hid hR0
  have HC := Lib.hid hC0
  have HL := Lib.hid hl0
  have HP := Lib.hid hsp
  have HO := Lib.hid hone
  have HS := Lib.hid hsrc
  clear hR0 hC0 hl0 hsp hone hsrc
  have hlt0 : ¬ ((n : Int) < 0) := by omega
  have K1 := Lib.hid (heap_alloc_new w (Obj.cells R0.toArray 5))
  have K2 : Hid (C0.length = Nat.min 1 n) := HL.out
  have K3 : Hid (∀ j v, C0[j]? = some v → (w.alloc (.cells R0.toArray 5)).cell? ((⟨b, o, none⟩ : Addr).add j) = some v) :=
    HS.out _ (by rw [World.cell?_alloc_lt w _ ⟨b, o, none⟩ hbx]; exact hx)
  have K4 := Lib.hid (show Below w.heap.size w (w.alloc (.cells R0.toArray 5)) from (Below.refl _ _).alloc (Nat.le_refl _) _)
  clear HS
  go_enter Tryz.func26, Tryz.ntmps26
  go_wp2_with (first
    | (go_at_call 56; refine (mul_c _ n (by omega) (by omega)).mono ?_; rintro e w' ⟨rfl, rfl⟩)
    | ((with_reducible refine wpList_copy_splice rfl (.tmp 31) (.tmp 32) 22 22 rfl 5 Tryz.underlying22 hsz (some ⟨w.heap.size, 0, none⟩) (some ⟨b, o, none⟩) n n 1 c rfl rfl w.heap.size 0 R0 5 K1.out C0 K2.out (fun _ => ⟨rfl, _, rfl, K3.out⟩) hfit HO.out w.heap.size w K4.out (Nat.le_refl _) ?_); intro w2 HG2 hB2))
  have H0 : Hid (w2.heap[w.heap.size]? = some (.cells (repRow ch n C0.length).toArray 5 (0, 0))) := by
    have h := HG2.out
    rw [HP.out, ← HL.out] at h
    exact h
  have hc0 : C0.length ≤ n := by have := HL.out; omega
  have hc1 : 0 < n → 0 < C0.length := by have := HL.out; omega
  clear HG2 HP HL HC HR K1 K2 K3 K4 hfit HO
  go_loopw [8] (fun m wr => ∃ k : Nat, k ≤ n ∧ (0 < n → 0 < k) ∧ m = .int .i64 k ∧ Hid (wr.heap[w.heap.size]? = some (.cells (repRow ch n k).toArray 5 (0, 0))) ∧ Below w.heap.size w wr) (fun m _ => n - (intOf m).toNat)
  case atStart => exact ⟨C0.length, hc0, hc1, rfl, H0, hB2⟩
  case round =>
    clear H0 hB2 hc0 hc1
    obtain ⟨k, hk, hk0, rfl, hg, hb⟩ := hrel
    by_cases hlt : k < n
    · obtain ⟨C, hC⟩ : ∃ C, C = List.replicate (min k (n - k)) (u8v ch) := ⟨_, rfl⟩
      have hCl : C.length = min k (n - k) := by rw [hC]; simp
      have hone : ∀ v ∈ C, v.oneCell' = true := by rw [hC]; intro v hv; rw [List.mem_replicate] at hv; rw [hv.2]; rfl
      have hfit : k + C.length ≤ (repRow ch n k).length := by rw [hCl, repRow_len _ _ _ hk]; omega
      have hsp : splice (repRow ch n k) k C = repRow ch n (k + C.length) := by
        rw [hCl, hC]; exact repRow_splice ch n k _ (by omega)
      have hsrc : ∀ j v, C[j]? = some v → wr.drew.cell? ((⟨w.heap.size, 0, none⟩ : Addr).add j) = some v := by
        intro j v hj
        have hjl : j < C.length := by
          rcases Nat.lt_or_ge j C.length with h | h
          · exact h
          · rw [List.getElem?_eq_none h] at hj; cases hj
        rw [add_zero_off]
        show wr.cell? _ = _
        rw [cell_of_row wr _ _ _ _ _ hg.out]
        have : v = u8v ch := by
          rw [hC, List.getElem?_replicate] at hj
          split at hj <;> simp at hj
          exact hj.symm
        subst this
        simp only [repRow, List.getElem?_toArray]
        rw [List.getElem?_append_left (by simp; omega), List.getElem?_replicate, if_pos (by omega)]
      have hmin : C.length = Nat.min k (n - k) := hCl
      have hne : ¬ (n = k) := by omega
      have HC := Lib.hid hC
      have HL := Lib.hid hmin
      have HO := Lib.hid hone
      have HP := Lib.hid hsp
      have HS := Lib.hid hsrc
      clear hC hmin hone hsp hsrc hCl
      have hfit2 : k + C.length ≤ n := by rw [repRow_len _ _ _ hk] at hfit; exact hfit
      have hw : IntKind.i64.wrap ((k : Int) + (C.length : Int)) = (k : Int) + (C.length : Int) := IntWalk.i64_in _ (by omega)
      go_upto_region 9 with fail
      go_region_law ((refine step_copy_splice (by rfl) (.tmp 41) (.tmp 44) 22 22 (by rfl) 5 Tryz.underlying22 hsz (some ⟨w.heap.size, k, none⟩) (some ⟨w.heap.size, 0, none⟩) (n - k) (n - k) k n (by kernel_rfl) (by kernel_rfl) w.heap.size k (repRow ch n k) 5 hg.out C HL.out (fun _ => ⟨rfl, _, rfl, HS.out⟩) hfit HO.out w.heap.size w hb.drew (Nat.le_refl _) ?_); intro w4 hg4 hb4)
      have h4 : Hid (w4.heap[w.heap.size]? = some (.cells (repRow ch n (k + C.length)).toArray 5 (0, 0))) := by
        have h := hg4.out
        rw [HP.out] at h
        exact h
      simp only [Act.put, List.getElem_toArray, List.getElem_cons_succ, List.getElem_cons_zero, List.setIfInBounds_toArray, List.set_cons_succ, List.set_cons_zero, hw, goInt]
      clear hw
      go_wp2
      go_roundw
      case rel => exact ⟨k + C.length, hfit2, by omega, by go_num, h4, hb4⟩
      case measure => have := HL.out; have : Nat.min k (n - k) = min k (n - k) := rfl; simp [intOf]; omega
    · obtain rfl : k = n := by omega
      have hr : repRow ch k k = List.replicate k (u8v ch) := by simp [repRow]
      rw [hr] at hg
      have HR := Lib.hid hr
      clear hr
      go_wp2
      go_ret
      exact ⟨rfl, hg.out, hb⟩
end Go.Proofs.YtpafenlcgcenlaaGreatDoor
