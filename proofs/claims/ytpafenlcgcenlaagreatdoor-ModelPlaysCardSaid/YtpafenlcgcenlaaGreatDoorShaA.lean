/- Words of 32 bits: what the model's numbers are as UInt32; turn.Right. · SHA-256 as plain data: rounds, the words of a block, a block mixed in: no program in sight. · turn.Big, turn.Bytes; the first state. · The constants of the rounds. · The words of all rounds of a block: sha.spread. -/
import Derived.Test.YtpafenlcgcenlaaGreatDoorBase
import Derived.Laws.Tables
import Derived.Test.YtpafenlcgcenlaaGreatDoorNorQ
namespace Go.Proofs.YtpafenlcgcenlaaGreatDoor
open Go.RowKit
set_option linter.unusedVariables false
set_option linter.unusedSimpArgs false

theorem byte_at {w : World} {A : Option Addr} {n k : Nat} {bs : List UInt8} (hr : Reads w A n (bs.map u8v)) (hk : k < bs.length) : ∃ b o, A = some ⟨b, o, none⟩ ∧ b < w.heap.size ∧ w.cell? ⟨b, o + k, none⟩ = some (u8v bs[k]) := by
 obtain ⟨b, o, u, hA, hb, hu, hc⟩ := hr.at_ (k := k) (by have := hr.len; simp at this; omega)
 rw [List.getElem?_map, List.getElem?_eq_getElem hk] at hu
 simp only [Option.map_some, Option.some.injEq] at hu
 subst hu
 exact ⟨b, o, hA, hb, hc⟩
abbrev u32v (c : UInt32) : Value := .int .u32 (c.toNat : Int)
theorem u32v_one (l : List UInt32) : ∀ u ∈ l.map u32v, u.oneCell' = true := by
 intro u hu; simp only [List.mem_map] at hu; obtain ⟨c, _, rfl⟩ := hu; rfl
theorem u32_b (c : UInt32) : 0 ≤ (c.toNat : Int) ∧ (c.toNat : Int) < 4294967296 := by have := c.toNat_lt; omega
theorem w32_add (a b : UInt32) : IntKind.u32.wrap ((a.toNat : Int) + (b.toNat : Int)) = ((a + b).toNat : Int) := by
 rw [IntKind.wrap_u32', UInt32.toNat_add]; omega
theorem w32_xor (a b : UInt32) : bits .xor .u32 (a.toNat : Int) (b.toNat : Int) = ((a ^^^ b).toNat : Int) := by
 rw [u32_xor_nat _ _ a.toNat_lt b.toNat_lt, UInt32.toNat_xor]
theorem w32_and (a b : UInt32) : bits .and .u32 (a.toNat : Int) (b.toNat : Int) = ((a &&& b).toNat : Int) := by
 rw [u32_and_nat _ _ a.toNat_lt b.toNat_lt, UInt32.toNat_and]
theorem w32_or (a b : UInt32) : bits .or .u32 (a.toNat : Int) (b.toNat : Int) = ((a ||| b).toNat : Int) := by
 rw [u32_or_nat _ _ a.toNat_lt b.toNat_lt, UInt32.toNat_or]
theorem w32_shr (a : UInt32) (n : Nat) (h : n < 32) : (a.toNat : Int) / (2 ^ n : Int) = ((a >>> UInt32.ofNat n).toNat : Int) := by
 rw [UInt32.toNat_shiftRight]
 have : (UInt32.ofNat n).toNat % 32 = n := by rw [UInt32.toNat_ofNat']; omega
 rw [this, Nat.shiftRight_eq_div_pow, Int.natCast_ediv, Int.natCast_pow]
 rfl
theorem w32_shl (a : UInt32) (n : Nat) (h : n < 32) : ((a.toNat : Int) * (2 ^ n : Int)) % 4294967296 = ((a <<< UInt32.ofNat n).toNat : Int) := by
 rw [UInt32.toNat_shiftLeft]
 have : (UInt32.ofNat n).toNat % 32 = n := by rw [UInt32.toNat_ofNat']; omega
 rw [this, Nat.shiftLeft_eq, Int.natCast_emod, Int.natCast_mul, Int.natCast_pow]
 rfl
theorem w32_not (a : UInt32) : bits .xor .u32 (a.toNat : Int) 4294967295 = ((~~~a).toNat : Int) := by
 have h : a ^^^ 4294967295 = ~~~a := by
  rw [← UInt32.toBitVec_inj]
  simp only [UInt32.toBitVec_xor, UInt32.toBitVec_not]
  apply BitVec.eq_of_getLsbD_eq
  intro i hi
  have h0 : ∀ j : Fin 32, ((4294967295 : UInt32).toBitVec).getLsbD j = true := by decide
  have h1 := h0 ⟨i, hi⟩
  simp only at h1
  rw [BitVec.getLsbD_xor, BitVec.getLsbD_not, h1]
  simp only [hi, decide_true, Bool.true_and, Bool.xor_true]
 rw [← h]
 have := u32_xor_nat a.toNat 4294967295 a.toNat_lt (by omega)
 rw [UInt32.toNat_xor]
 exact this

theorem u32_ret {a b : Int} (h : a = b) : Ending.returned (Value.int .u32 a) = Ending.returned (Value.int .u32 b) := by rw [h]
/-- A word turned round to the right. -/
def rotr (x : UInt32) (n : Nat) : UInt32 := x <<< UInt32.ofNat (32 - n) ||| x >>> UInt32.ofNat n

theorem rotl_c (x : UInt32) (n : Nat) (h1 : 1 ≤ n) (h2 : n ≤ 31) (w : World) : Calls Tryz.prog 168 #[u32v x, .int .i64 (-(n : Int))] w fun e w' => e = .returned (u32v (rotr x n)) ∧ w = w' := by
 have hx := u32_b x
 obtain ⟨m, hm⟩ : ∃ m : Nat, m = 32 - n := ⟨_, rfl⟩
 have hs : bits .and .u64 (IntKind.u64.wrap (-(n : Int))) 31 = (m : Int) := by
  have hw : IntKind.u64.wrap (-(n : Int)) = 18446744073709551616 - (n : Int) := by
   rw [show IntKind.u64.wrap (-(n : Int)) = (-(n : Int)) % 18446744073709551616 from by simp [IntKind.wrap, IntKind.bits, IntKind.signed]]; omega
  rw [hw, u64_and _ 31 (by omega) (by omega) (by omega) (by omega), show ((31 : Int).toNat) = 2 ^ 5 - 1 from rfl, Nat.and_two_pow_sub_one_eq_mod]
  omega
 have HM := Lib.hid hm
 have m1 : 1 ≤ m := by omega
 have m2 : m ≤ 31 := by omega
 have m3 : (32 : Int) - (m : Int) = (n : Int) := by omega
 clear hm
 go_enter Tryz.func168, Tryz.ntmps168
 go_wp2
 go_ret
 have hv : bits .or .u32 ((x.toNat : Int) * 2 ^ m % 4294967296) ((x.toNat : Int) / 2 ^ n) = ((rotr x n).toNat : Int) := by
  rw [w32_shl x m (by omega), w32_shr x n (by omega), w32_or, HM.out]
  rfl
 exact ⟨u32_ret hv, rfl⟩
theorem turnr_c (x : UInt32) (n : Nat) (h1 : 1 ≤ n) (h2 : n ≤ 31) (w : World) : Calls Tryz.prog 164 #[u32v x, .int .i64 (n : Int)] w fun e w' => e = .returned (u32v (rotr x n)) ∧ w = w' := by
 go_enter Tryz.func164, Tryz.ntmps164
 go_wp2_with (go_at_call 168; refine (rotl_c x n h1 h2 _).mono ?_; rintro e w' ⟨rfl, rfl⟩)
 go_ret
 exact ⟨rfl, rfl⟩
theorem right_i (x : UInt32) (n : Int) (h1 : 1 ≤ n) (h2 : n ≤ 31) (w : World) : Calls Tryz.prog 164 #[u32v x, .int .i64 n] w fun e w' => e = .returned (u32v (rotr x n.toNat)) ∧ w = w' := by
 obtain ⟨m, rfl⟩ := Int.eq_ofNat_of_zero_le (show 0 ≤ n by omega)
 exact turnr_c x m (by omega) (by omega) w
theorem right_q (x : UInt32) (n : Int) (h1 : 1 ≤ n) (h2 : n ≤ 31) (w : World) : Calls Tryz.prog 164 #[u32v x, .int .i64 n] w fun e w' => e = .returned (u32v (rotr x n.toNat)) ∧ w' = w :=
 (right_i x n h1 h2 w).mono fun _ _ h => ⟨h.1, h.2.symm⟩
theorem w32_addm (a b : UInt32) : ((a.toNat : Int) + (b.toNat : Int)) % 4294967296 = ((a + b).toNat : Int) := by
 rw [UInt32.toNat_add]; omega
end Go.Proofs.YtpafenlcgcenlaaGreatDoor
namespace Go.Proofs.YtpafenlcgcenlaaGreatDoor
open Go.RowKit
set_option linter.unusedVariables false
set_option linter.unusedSimpArgs false

/-- Eight words. -/
structure St where
 a : UInt32
 b : UInt32
 c : UInt32
 d : UInt32
 e : UInt32
 f : UInt32
 g : UInt32
 h : UInt32
namespace St
def vals (s : St) : Array Value := #[u32v s.a, u32v s.b, u32v s.c, u32v s.d, u32v s.e, u32v s.f, u32v s.g, u32v s.h]
def words (s : St) : List UInt32 := [s.a, s.b, s.c, s.d, s.e, s.f, s.g, s.h]
def one (s : St) (more : UInt32) : UInt32 := s.h + (rotr s.e 6 ^^^ rotr s.e 11 ^^^ rotr s.e 25) + (s.e &&& s.f ^^^ ~~~s.e &&& s.g) + more
def two (s : St) : UInt32 := (rotr s.a 2 ^^^ rotr s.a 13 ^^^ rotr s.a 22) + (s.a &&& s.b ^^^ s.a &&& s.c ^^^ s.b &&& s.c)
def round (s : St) (more : UInt32) : St := ⟨s.one more + s.two, s.a, s.b, s.c, s.d + s.one more, s.e, s.f, s.g⟩
def plus (s t : St) : St := ⟨s.a + t.a, s.b + t.b, s.c + t.c, s.d + t.d, s.e + t.e, s.f + t.f, s.g + t.g, s.h + t.h⟩
def first : St := ⟨1779033703, 3144134277, 1013904242, 2773480762, 1359893119, 2600822924, 528734635, 1541459225⟩
end St
def sig0 (x : UInt32) : UInt32 := rotr x 7 ^^^ rotr x 18 ^^^ x >>> 3
def sig1 (x : UInt32) : UInt32 := rotr x 17 ^^^ rotr x 19 ^^^ x >>> 10

theorem info_8 : (Tryz.prog.info? 154).map (·.size) = some 8 := by kernel_rfl
theorem mod_add {X Y : Int} {p q : UInt32} (hX : X % 4294967296 = (p.toNat : Int)) (hY : Y % 4294967296 = (q.toNat : Int)) : (X + Y) % 4294967296 = ((p + q).toNat : Int) := by
 rw [UInt32.toNat_add]; omega
theorem mod_self (p : UInt32) : (p.toNat : Int) % 4294967296 = (p.toNat : Int) := by have := p.toNat_lt; omega
theorem below_drewN {B : Nat} {a w : World} (h : Below B a w) (n : Nat) : Below B a (w.drewN n) := ⟨h.os, h.tape, h.output, h.size, h.block⟩
theorem fold_xor (a b : UInt32) : (((a.toNat ^^^ b.toNat : Nat)) : Int) = ((a ^^^ b).toNat : Int) := by rw [UInt32.toNat_xor]
theorem fold_and (a b : UInt32) : (((a.toNat &&& b.toNat : Nat)) : Int) = ((a &&& b).toNat : Int) := by rw [UInt32.toNat_and]
theorem w32_not' (a : UInt32) : bits .xor .u32 IntKind.u32.max (a.toNat : Int) = ((~~~a).toNat : Int) := by
 rw [← w32_not, show IntKind.u32.max = 4294967295 from by decide]
 show IntKind.u32.wrap _ = IntKind.u32.wrap _
 rw [BitVec.xor_comm]
theorem one_val (e f g h more : UInt32) : ((h.toNat : Int) + bits .xor .u32 (((rotr e 6).toNat ^^^ (rotr e 11).toNat : Nat) : Int) ((rotr e 25).toNat : Int) +
   bits .xor .u32 ((e.toNat &&& f.toNat : Nat) : Int) (bits .and .u32 (bits .xor .u32 IntKind.u32.max (e.toNat : Int)) (g.toNat : Int)) + (more.toNat : Int)) % 4294967296 =
  ((h + (rotr e 6 ^^^ rotr e 11 ^^^ rotr e 25) + (e &&& f ^^^ ~~~e &&& g) + more).toNat : Int) := by
 rw [w32_not', fold_xor, fold_and, w32_xor, w32_and, w32_xor]
 simp only [UInt32.toNat_add]
 omega
theorem two_val (a b c : UInt32) : (bits .xor .u32 (((rotr a 2).toNat ^^^ (rotr a 13).toNat : Nat) : Int) ((rotr a 22).toNat : Int) +
   bits .xor .u32 (bits .xor .u32 ((a.toNat &&& b.toNat : Nat) : Int) ((a.toNat &&& c.toNat : Nat) : Int)) ((b.toNat &&& c.toNat : Nat) : Int)) % 4294967296 =
  (((rotr a 2 ^^^ rotr a 13 ^^^ rotr a 22) + (a &&& b ^^^ a &&& c ^^^ b &&& c)).toNat : Int) := by
 rw [fold_xor, fold_and, fold_and, fold_and, w32_xor, w32_xor, w32_xor]
 simp only [UInt32.toNat_add]
 omega
set_option maxRecDepth 100000 in
set_option maxHeartbeats 1000000 in
theorem round_c (s : St) (more : UInt32) (w : World) : Calls Tryz.prog 141 #[.agg s.vals, u32v more] w fun e w' => e = .returned (.agg (s.round more).vals) ∧ Below w.heap.size w w' := by
 obtain ⟨a, b, c, d, e, f, g, hh⟩ := s
 have rx := w32_xor
 have ra := w32_and
 have rp := w32_add
 have rm := w32_addm
 go_enter Tryz.func141, Tryz.ntmps141
 go_wp2_with fail
 obtain ⟨W, hW⟩ : ∃ W, ((w.alloc (.cells (St.vals ⟨a, b, c, d, e, f, g, hh⟩) 154)).alloc (.cells #[.int .u32 0, .int .u32 0, .int .u32 0, .int .u32 0, .int .u32 0, .int .u32 0, .int .u32 0, .int .u32 0] 154)) = W := ⟨_, rfl⟩
 have hv : Blk W w.heap.size 154 (St.vals ⟨a, b, c, d, e, f, g, hh⟩) := by rw [← hW]; exact (Blk.new w _ _).alloc _
 have hr : Blk W (w.heap.size + 1) 154 #[.int .u32 0, .int .u32 0, .int .u32 0, .int .u32 0, .int .u32 0, .int .u32 0, .int .u32 0, .int .u32 0] := by rw [← hW]; exact (by simpa using Blk.new (w.alloc (.cells (St.vals ⟨a, b, c, d, e, f, g, hh⟩) 154)) 154 #[.int .u32 0, .int .u32 0, .int .u32 0, .int .u32 0, .int .u32 0, .int .u32 0, .int .u32 0, .int .u32 0])
 have hb : Below w.heap.size w W := by rw [← hW]; exact ((Below.refl _ _).alloc (Nat.le_refl _) _).alloc (by simp) _
 rw [hW]
 clear hW
 have c0 : W.cell? ⟨w.heap.size, 0, none⟩ = some (u32v a) := by rw [hv.cell]; rfl
 have c1 : W.cell? ⟨w.heap.size, 1, none⟩ = some (u32v b) := by rw [hv.cell]; rfl
 have c2 : W.cell? ⟨w.heap.size, 2, none⟩ = some (u32v c) := by rw [hv.cell]; rfl
 have c3 : W.cell? ⟨w.heap.size, 3, none⟩ = some (u32v d) := by rw [hv.cell]; rfl
 have c4 : W.cell? ⟨w.heap.size, 4, none⟩ = some (u32v e) := by rw [hv.cell]; rfl
 have c5 : W.cell? ⟨w.heap.size, 5, none⟩ = some (u32v f) := by rw [hv.cell]; rfl
 have c6 : W.cell? ⟨w.heap.size, 6, none⟩ = some (u32v g) := by rw [hv.cell]; rfl
 have c7 : W.cell? ⟨w.heap.size, 7, none⟩ = some (u32v hh) := by rw [hv.cell]; rfl
 have d0 : W.cell? ⟨w.heap.size + 1, 0, none⟩ = some (.int .u32 0) := by rw [hr.cell]; rfl
 have d1 : W.cell? ⟨w.heap.size + 1, 1, none⟩ = some (.int .u32 0) := by rw [hr.cell]; rfl
 have d2 : W.cell? ⟨w.heap.size + 1, 2, none⟩ = some (.int .u32 0) := by rw [hr.cell]; rfl
 have d3 : W.cell? ⟨w.heap.size + 1, 3, none⟩ = some (.int .u32 0) := by rw [hr.cell]; rfl
 have d4 : W.cell? ⟨w.heap.size + 1, 4, none⟩ = some (.int .u32 0) := by rw [hr.cell]; rfl
 have d5 : W.cell? ⟨w.heap.size + 1, 5, none⟩ = some (.int .u32 0) := by rw [hr.cell]; rfl
 have d6 : W.cell? ⟨w.heap.size + 1, 6, none⟩ = some (.int .u32 0) := by rw [hr.cell]; rfl
 have d7 : W.cell? ⟨w.heap.size + 1, 7, none⟩ = some (.int .u32 0) := by rw [hr.cell]; rfl
 have z0 := hr.frozen 0
 have z1 := hr.frozen 1
 have z2 := hr.frozen 2
 have z3 := hr.frozen 3
 have z4 := hr.frozen 4
 have z5 := hr.frozen 5
 have z6 := hr.frozen 6
 have z7 := hr.frozen 7
 have HR := Lib.hid hr
 have HB := Lib.hid hb
 clear hv hr hb
 go_quiet (fail)
 go_wp2_with fail
 go_quiet ((go_at_call 164; exact (right_q _ _ (by omega) (by omega) _).mono fun _ _ h => ⟨h.1, _, h.2⟩))
 go_wp2_with fail
 go_quiet ((go_at_call 164; exact (right_q _ _ (by omega) (by omega) _).mono fun _ _ h => ⟨h.1, _, h.2⟩))
 go_wp2_with fail
 refine bodyPost_ret (results_cell_row rfl _ _ (w.heap.size + 1) 154 _ (0, 0) _ rfl (((((((((HR.out.drewN _).set_ 0 _).set_ 1 _).set_ 2 _).set_ 3 _).set_ 4 _).set_ 5 _).set_ 6 _).set_ 7 _) Tryz.underlying154 rfl info_8) rfl ?_
 rw [mod_add (one_val e f g hh more) (two_val a b c), mod_add (mod_self d) (one_val e f g hh more)]
 refine ⟨rfl, ?_⟩
 have hp : w.heap.size ≤ w.heap.size + 1 := Nat.le_succ _
 exact ((((((((below_drewN HB.out _).setCell hp _).setCell hp _).setCell hp _).setCell hp _).setCell hp _).setCell hp _).setCell hp _).setCell hp _
end Go.Proofs.YtpafenlcgcenlaaGreatDoor
namespace Go.Proofs.YtpafenlcgcenlaaGreatDoor
open Go.RowKit
set_option linter.unusedVariables false
set_option linter.unusedSimpArgs false

def bigTo (l : List UInt8) : Nat → UInt32
 | 0 => 0
 | k + 1 => bigTo l k <<< 8 ||| (l.getD k 0).toUInt32
def big (l : List UInt8) : UInt32 := bigTo l 4
theorem w32_shl8 (a : UInt32) : (a.toNat : Int) * (256 : Int) % (4294967296 : Int) = ((a <<< 8).toNat : Int) := w32_shl a 8 (by omega)
theorem u32v_eq {a : Int} {b : UInt32} (h : a = (b.toNat : Int)) : Value.int .u32 a = u32v b := by rw [h]
theorem or_u8 (x : UInt32) (c : UInt8) : bits .or .u32 (x.toNat : Int) (c.toNat : Int) = ((x ||| c.toUInt32).toNat : Int) := by
 have h : (c.toNat : Int) = (c.toUInt32.toNat : Int) := by rw [UInt8.toNat_toUInt32]
 rw [h, w32_or]
theorem or_zero32 (x : UInt32) : x ||| (0 : UInt8).toUInt32 = x := by
 have : (0 : UInt8).toUInt32 = 0 := by decide
 rw [this, UInt32.or_zero]

theorem big_c (A : Option Addr) (n c : Nat) (l : List UInt8) (w : World) (hn : (n : Int) ≤ 9223372036854775807) (r : Reads w A n (l.map u8v)) :
  Calls Tryz.prog 163 #[.slice A n c] w fun e w' => e = .returned (u32v (big l)) ∧ w = w' := by
 have hl : l.length = n := by simpa using r.len
 subst hl
 have R := Lib.hid r
 clear r
 go_enter Tryz.func163, Tryz.ntmps163
 go_wp2_with fail
 go_loopw [3, 5] (fun v i wr => ∃ k : Nat, k ≤ 4 ∧ v = u32v (bigTo l k) ∧ i = .int .i64 k ∧ w = wr) (fun _ i _ => 4 - (intOf i).toNat)
 case atStart => exact ⟨0, by omega, rfl, rfl, rfl⟩
 case round =>
  obtain ⟨k, hk, rfl, rfl, rfl⟩ := hrel
  have hs : bigTo l (k + 1) = bigTo l k <<< 8 ||| (l.getD k 0).toUInt32 := rfl
  generalize hx : bigTo l k = x at *
  have HX := Lib.hid hx
  have HS := Lib.hid hs
  have hxb := u32_b x
  clear hx hs
  by_cases hlt : k < 4
  ·
   by_cases hlen : k < l.length
   ·
    obtain ⟨g, o, hA, hg, hcell⟩ := byte_at R.out hlen
    have hc : l.getD k 0 = l[k] := by rw [List.getD_eq_getElem?_getD, List.getElem?_eq_getElem hlen]; rfl
    generalize l[k] = y at hcell hc
    have HC := Lib.hid hc
    clear hc
    subst hA
    go_wp2_with fail
    go_roundw
    case rel =>
     refine ⟨k + 1, by omega, ?_, by go_num, trivial⟩
     rw [HS.out, HC.out]
     exact u32v_eq (by rw [w32_shl8, show ((y.toNat : Int) % 4294967296) = (y.toNat : Int) from by have := y.toNat_lt; omega, or_u8])
    case measure => simp [intOf]; omega
   ·
    go_wp2_with fail
    go_roundw
    case rel =>
     refine ⟨k + 1, by omega, ?_, by go_num, trivial⟩
     rw [HS.out, List.getD_eq_getElem?_getD, List.getElem?_eq_none (by omega), Option.getD_none, or_zero32]
     exact u32v_eq (w32_shl8 x)
    case measure => simp [intOf]; omega
  ·
   obtain rfl : k = 4 := by omega
   go_wp2_with fail
   go_ret
   exact ⟨by rw [big, HX.out]; rfl, rfl⟩
def bytes4 (x : UInt32) : List UInt8 := [(x >>> 24).toUInt8, (x >>> 16).toUInt8, (x >>> 8).toUInt8, x.toUInt8]
theorem bytes4_len (x : UInt32) : (bytes4 x).length = 4 := rfl
theorem w32_byte (x : UInt32) (n : Nat) (h : n < 32) : ((x.toNat : Int) / (2 ^ n : Int)) % 256 = (((x >>> UInt32.ofNat n).toUInt8).toNat : Int) := by
 rw [w32_shr x n h, UInt32.toNat_toUInt8]; omega
theorem bytes_c (x : UInt32) (w : World) : Calls Tryz.prog 142 #[u32v x] w fun e w' => e = .returned (.slice (some ⟨w.heap.size, 0, none⟩) 4 4) ∧ Blk w' w.heap.size 5 ((bytes4 x).map u8v).toArray ∧ Below w.heap.size w w' := by
 have hx := u32_b x
 go_enter Tryz.func142, Tryz.ntmps142
 go_wp2_with fail
 go_ret
 have v3 : (x.toNat : Int) / (16777216 : Int) = (((x >>> 24).toUInt8).toNat : Int) := by
  have h := w32_byte x 24 (by omega)
  rw [show ((2 : Int) ^ 24) = 16777216 from rfl] at h
  rw [show (x >>> 24) = x >>> UInt32.ofNat 24 from rfl, ← h]; omega
 have v2 : (x.toNat : Int) / (65536 : Int) % (256 : Int) = (((x >>> 16).toUInt8).toNat : Int) := w32_byte x 16 (by omega)
 have v1 : (x.toNat : Int) / (256 : Int) % (256 : Int) = (((x >>> 8).toUInt8).toNat : Int) := w32_byte x 8 (by omega)
 have v0 : (x.toNat : Int) % (256 : Int) = ((x.toUInt8).toNat : Int) := by rw [UInt32.toNat_toUInt8]; omega
 rw [v3, v2, v1, v0]
 exact ⟨rfl, Blk.new w _ _, (Below.refl _ _).alloc (Nat.le_refl _) _⟩
theorem first_c (w : World) : Calls Tryz.prog 98 #[] w fun e w' => e = .returned (.agg St.first.vals) ∧ Below w.heap.size w w' := by
 go_enter Tryz.func98, Tryz.ntmps98
 go_wp2_with fail
 refine bodyPost_ret (results_cell_row rfl _ _ w.heap.size 154 _ (0, 0) _ rfl (Blk.new w _ _) Tryz.underlying154 rfl info_8) rfl ?_
 exact ⟨rfl, (Below.refl _ _).alloc (Nat.le_refl _) _⟩
end Go.Proofs.YtpafenlcgcenlaaGreatDoor
namespace Go.Proofs.YtpafenlcgcenlaaGreatDoor
open Go.RowKit
set_option linter.unusedVariables false
set_option linter.unusedSimpArgs false

def kList : List UInt32 := [1116352408, 1899447441, 3049323471, 3921009573, 961987163, 1508970993, 2453635748, 2870763221, 3624381080, 310598401, 607225278, 1426881987, 1925078388, 2162078206, 2614888103, 3248222580, 3835390401, 4022224774, 264347078, 604807628, 770255983, 1249150122, 1555081692, 1996064986, 2554220882, 2821834349, 2952996808, 3210313671, 3336571891, 3584528711, 113926993, 338241895, 666307205, 773529912, 1294757372, 1396182291, 1695183700, 1986661051, 2177026350, 2456956037, 2730485921, 2820302411, 3259730800, 3345764771, 3516065817, 3600352804, 4094571909, 275423344, 430227734, 506948616, 659060556, 883997877, 958139571, 1322822218, 1537002063, 1747873779, 1955562222, 2024104815, 2227730452, 2361852424, 2428436474, 2756734187, 3204031479, 3329325298]
def kVals : Array Value := (kList.map u32v).toArray
theorem info_64 : (Tryz.prog.info? 181).map (·.size) = some 64 := by kernel_rfl
theorem kVals_one : kVals.all (·.oneCell') = true := by kernel_rfl
theorem below_setRow {B : Nat} {a w : World} (h : Below B a w) {g : Nat} (hg : B ≤ g) (cs : Array Value) : Below B a (w.setRow g cs) :=
 ⟨h.os, h.tape, h.output, by rw [setRow_size]; exact h.size, fun k hk => (setRow_other w g k cs (by omega)).trans (h.block k hk)⟩
theorem Blk.setRow {w : World} {g : Nat} {t : TypeId} {old : Array Value} (h : Blk w g t old) (cs : Array Value) : Blk (w.setRow g cs) g t cs := setRow_heap w g old cs t _ h
theorem Blk.setRow_far {w : World} {g k : Nat} {t : TypeId} {old : Array Value} (h : Blk w k t old) (cs : Array Value) (hk : k ≠ g) : Blk (w.setRow g cs) k t old := (setRow_other w g k cs hk).trans h
set_option maxRecDepth 100000 in
theorem constants_c (w : World) : Calls Tryz.prog 140 #[] w fun e w' => e = .returned (.agg kVals) ∧ Below w.heap.size w w' := by
 go_enter Tryz.func140, Tryz.ntmps140
 go_upto_region 1 with fail
 refine wp_region_lit ?_
 refine wpList_build rfl 181 _ rfl (by kernel_rfl) ?_
 refine wpList_store_row rfl 181 _ _ rfl w.heap.size kVals rfl (by kernel_rfl) 181 _ (heap_alloc_new w _) info_64 rfl kVals_one ?_
 refine wpList_nil ?_
 rename_i K hK
 show K _ _
 generalize hA : Act.put _ _ undef = fr
 have hfr : fr = ⟨#[.pointer (some ⟨w.heap.size, 0, none⟩), .agg kVals], []⟩ := by rw [← hA]; kernel_rfl
 clear hA
 subst hfr
 refine hK _ _ ?_
 have HW := Lib.hid ((Blk.new w 181 (Array.replicate 64 (Value.int .u32 0))).setRow kVals)
 go_wp2_with fail
 refine bodyPost_ret (results_cell_row rfl _ _ w.heap.size 181 kVals (0, 0) _ (by kernel_rfl) ((Blk.new w _ _).setRow kVals) Tryz.underlying181 rfl info_64) rfl ?_
 exact ⟨rfl, below_setRow ((Below.refl _ _).alloc (Nat.le_refl _) _) (Nat.le_refl _) _⟩
end Go.Proofs.YtpafenlcgcenlaaGreatDoor
namespace Go.Proofs.YtpafenlcgcenlaaGreatDoor
open Go.RowKit
set_option linter.unusedVariables false
set_option linter.unusedSimpArgs false

def swVal (l : List UInt8) (W : List UInt32) (k : Nat) : UInt32 :=
 if k < 16 then big (l.drop (4 * k)) else W.getD (k - 16) 0 + sig0 (W.getD (k - 15) 0) + W.getD (k - 7) 0 + sig1 (W.getD (k - 2) 0)
def sw (l : List UInt8) : Nat → List UInt32
 | 0 => List.replicate 64 0
 | k + 1 => (sw l k).set k (swVal l (sw l k) k)
def spread (l : List UInt8) : List UInt32 := sw l 64
theorem sw_len (l : List UInt8) (k : Nat) : (sw l k).length = 64 := by
 induction k with
 | zero => simp only [sw, List.length_replicate]
 | succ k ih => simp only [sw, List.length_set, ih]
theorem cell32 {w : World} {g : Nat} {t : TypeId} {L : List UInt32} (h : Blk w g t (L.map u32v).toArray) (k : Nat) (hk : k < L.length) : w.cell? ⟨g, k, none⟩ = some (u32v (L.getD k 0)) := by
 rw [h.cell, List.getElem?_toArray, List.getElem?_map, List.getElem?_eq_getElem hk, List.getD_eq_getElem?_getD, List.getElem?_eq_getElem hk]; rfl

theorem shr3 (x : UInt32) : (x.toNat : Int) / (8 : Int) = ((x >>> 3).toNat : Int) := w32_shr x 3 (by omega)
theorem shr10 (x : UInt32) : (x.toNat : Int) / (1024 : Int) = ((x >>> 10).toNat : Int) := w32_shr x 10 (by omega)
theorem spread_val (x16 x15 x7 x2 : UInt32) : ((x16.toNat : Int) + bits .xor .u32 (bits .xor .u32 ((rotr x15 7).toNat : Int) ((rotr x15 18).toNat : Int)) ((x15.toNat : Int) / (8 : Int)) + (x7.toNat : Int) +
   bits .xor .u32 (bits .xor .u32 ((rotr x2 17).toNat : Int) ((rotr x2 19).toNat : Int)) ((x2.toNat : Int) / (1024 : Int))) % (4294967296 : Int) = ((x16 + sig0 x15 + x7 + sig1 x2).toNat : Int) := by
 rw [shr3, shr10, w32_xor, w32_xor, w32_xor, w32_xor]
 simp only [UInt32.toNat_add, sig0, sig1]
 omega
set_option maxRecDepth 100000 in
set_option maxHeartbeats 1000000 in
theorem spread_c (A : Option Addr) (c : Nat) (l : List UInt8) (w : World) (hc : 64 ≤ c) (hcm : (c : Int) ≤ 9223372036854775807) (r : Reads w A 64 (l.map u8v)) :
  Calls Tryz.prog 139 #[.slice A 64 c] w fun e w' => e = .returned (.agg ((spread l).map u32v).toArray) ∧ Below w.heap.size w w' := by
 have hl : l.length = 64 := by simpa using r.len
 have R := Lib.hid r
 clear r
 go_enter Tryz.func139, Tryz.ntmps139
 go_wp2_with fail
 go_loopw [7] (fun i wr => ∃ k : Nat, k ≤ 64 ∧ i = .int .i64 k ∧ Below w.heap.size w wr ∧ Blk wr (w.heap.size + 1) 181 ((sw l k).map u32v).toArray ∧ Blk wr w.heap.size 181 ((sw l 0).map u32v).toArray) (fun i _ => 64 - (intOf i).toNat)
 case atStart =>
  refine ⟨0, by omega, rfl, ((Below.refl _ _).alloc (Nat.le_refl _) _).alloc (by simp) _, ?_, ?_⟩
  ·
   have h := Blk.new (w.alloc (.cells ((sw l 0).map u32v).toArray 181)) 181 ((sw l 0).map u32v).toArray
   rw [show (w.alloc (.cells ((sw l 0).map u32v).toArray 181)).heap.size = w.heap.size + 1 from by simp] at h
   exact h
  ·
   exact (Blk.new w _ _).alloc _
 case round =>
  obtain ⟨k, hk, rfl, hbel, hB, hZ⟩ := hrel
  have HL := Lib.hid hbel
  have HB := Lib.hid hB
  have HZ := Lib.hid hZ
  clear hbel hB hZ
  by_cases hlt : k < 64
  ·
   by_cases h16 : k < 16
   ·
    have e4 : IntKind.i64.wrap ((k : Int) * 4) = (k : Int) * 4 := IntWalk.i64_in _ (by omega)
    have hck := cell32 HB.out k (by rw [sw_len]; omega)
    have hfk := HB.out.frozen k
    have hrd : Reads wr (Option.map (fun x => x.add (k * 4)) A) (64 - k * 4) ((l.drop (k * 4)).map u8v) := by
     have h := (R.out.below HL.out).drop (k := k * 4) (cap := c) (by omega) hc
     rw [if_neg (by omega), ← List.map_drop] at h
     exact h
    have HRD := Lib.hid hrd
    have hval : (sw l (k + 1)) = (sw l k).set k (big (l.drop (k * 4))) := by
     show (sw l k).set k (swVal l (sw l k) k) = _
     unfold swVal
     rw [if_pos h16, Nat.mul_comm]
    have HV := Lib.hid hval
    clear hrd hval
    go_wp2_with fail
    refine (big_c _ _ _ (l.drop (k * 4)) wr (by omega) HRD.out).mono ?_
    rintro e w' ⟨rfl, rfl⟩
    go_wp2_with fail
    go_roundw
    case rel =>
     refine ⟨k + 1, by omega, by go_num, HL.out.setCell (by simp) _, ?_, HZ.out.far (by simp) _⟩
     have h := HB.out.set_ k (u32v (big (l.drop (k * 4))))
     rw [set_map, ← HV.out] at h
     exact h
    case measure => simp [intOf]; omega
   ·
    have hL := sw_len l k
    have hval : (sw l (k + 1)) = (sw l k).set k ((sw l k).getD (k - 16) 0 + sig0 ((sw l k).getD (k - 15) 0) + (sw l k).getD (k - 7) 0 + sig1 ((sw l k).getD (k - 2) 0)) := by
     show (sw l k).set k (swVal l (sw l k) k) = _
     unfold swVal
     rw [if_neg h16]
    have HV := Lib.hid hval
    clear hval
    have c16 := cell32 HB.out (k - 16) (by omega)
    have c15 := cell32 HB.out (k - 15) (by omega)
    have c7 := cell32 HB.out (k - 7) (by omega)
    have c2 := cell32 HB.out (k - 2) (by omega)
    have c0 := cell32 HB.out k (by omega)
    have f0 := HB.out.frozen k
    generalize (sw l k).getD (k - 16) 0 = x16 at *
    generalize (sw l k).getD (k - 15) 0 = x15 at *
    generalize (sw l k).getD (k - 7) 0 = x7 at *
    generalize (sw l k).getD (k - 2) 0 = x2 at *
    have e16 : IntKind.i64.wrap ((k : Int) - 16) = (k : Int) - 16 := IntWalk.i64_in _ (by omega)
    have e15 : IntKind.i64.wrap ((k : Int) - 15) = (k : Int) - 15 := IntWalk.i64_in _ (by omega)
    have e7 : IntKind.i64.wrap ((k : Int) - 7) = (k : Int) - 7 := IntWalk.i64_in _ (by omega)
    have e2 : IntKind.i64.wrap ((k : Int) - 2) = (k : Int) - 2 := IntWalk.i64_in _ (by omega)
    have t16 : ((k : Int) - 16).toNat = k - 16 := by omega
    have t15 : ((k : Int) - 15).toNat = k - 15 := by omega
    have t7 : ((k : Int) - 7).toNat = k - 7 := by omega
    have t2 : ((k : Int) - 2).toNat = k - 2 := by omega
    have p16 : 0 ≤ (k : Int) - 16 := by omega
    have p15 : 0 ≤ (k : Int) - 15 := by omega
    have p7 : 0 ≤ (k : Int) - 7 := by omega
    have p2 : 0 ≤ (k : Int) - 2 := by omega
    have q16 : (k : Int) - 16 < 64 := by omega
    have q15 : (k : Int) - 15 < 64 := by omega
    have q7 : (k : Int) - 7 < 64 := by omega
    have q2 : (k : Int) - 2 < 64 := by omega
    go_upto_region 7 with fail
    go_quiet (fail)
    go_upto_region 8 with fail
    refine wp_region_quiet_tail 29 (by kernel_rfl) (by kernel_rfl) ?_
    simp only [List.take_succ_cons, List.take_zero, List.drop_succ_cons, List.drop_zero]
    repeat (go_big_quiet_step ((go_at_call 164; exact (right_q _ _ (by omega) (by omega) _).mono fun _ _ h => ⟨h.1, _, h.2⟩)))
    refine wpQuiet_nil ?_
    intro nq2
    go_wp2
    go_roundw
    case rel =>
     rw [spread_val]
     refine ⟨k + 1, by omega, by go_num, (below_drewN HL.out _).setCell (by simp) _, ?_, (HZ.out.drewN _).far (by simp) _⟩
     have h := (HB.out.drewN (nq + nq2)).set_ k (u32v (x16 + sig0 x15 + x7 + sig1 x2))
     rw [set_map, ← HV.out] at h
     exact h
    case measure => simp [intOf]; omega
  ·
   obtain rfl : k = 64 := by omega
   go_upto_region 10 with fail
   refine wp_region_lit ?_
   refine wpList_load_row rfl 181 _ rfl (w.heap.size + 1) rfl 181 _ (0, 0) _ HB.out Tryz.underlying181 rfl (by rw [List.size_toArray, List.length_map, sw_len]; exact info_64) ?_
   refine wpList_store_row rfl 181 _ _ rfl w.heap.size ((sw l 64).map u32v).toArray rfl rfl 181 _ HZ.out (by rw [List.size_toArray, List.length_map, sw_len]; exact info_64) (by rw [List.size_toArray, List.length_map, sw_len, List.size_toArray, List.length_map, sw_len]) (Array.all_eq_true_iff_forall_mem.2 (fun v hv => u32v_one _ v (by simpa using hv))) ?_
   refine wpList_nil ?_
   rename_i K hK
   have HW := Lib.hid (HZ.out.setRow ((sw l 64).map u32v).toArray)
   show K _ _
   refine hK _ _ ?_
   go_wp2_with fail
   refine bodyPost_ret (results_cell_row rfl _ _ w.heap.size 181 ((sw l 64).map u32v).toArray (0, 0) _ rfl HW.out Tryz.underlying181 rfl (by rw [List.size_toArray, List.length_map, sw_len]; exact info_64)) rfl ?_
   exact ⟨rfl, below_setRow HL.out (Nat.le_refl _) _⟩
end Go.Proofs.YtpafenlcgcenlaaGreatDoor
