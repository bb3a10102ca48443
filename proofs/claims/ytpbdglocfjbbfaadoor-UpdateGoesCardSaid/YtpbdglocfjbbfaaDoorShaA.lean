/- Words of 32 bits: what the model's numbers are as UInt32; turn.Right. · SHA-256 as plain data: rounds, the words of a block, a block mixed in: no program in sight. · turn.Big, turn.Bytes; the first state. · The constants of the rounds. · The words of all rounds of a block: sha.spread. -/
import Derived.Test.YtpbdglocfjbbfaaDoorLib
import Derived.Laws.Tables
import Derived.Test.YtpbdglocfjbbfaaDoorQTail
namespace Go.Proofs.YtpbdglocfjbbfaaDoor
open Go.RowKit
set_option linter.unusedVariables false
set_option linter.unusedSimpArgs false

theorem byte_at {w : World} {A : Option Addr} {n k : Nat} {bs : List UInt8} (hr : Reads w A n (bs.map u8v)) (hk : k < bs.length) : ∃ b o, A = some ⟨b, o, none⟩ ∧ b < w.heap.size ∧ w.cell? ⟨b, o + k, none⟩ = some (u8v bs[k]) := by
  obtain ⟨b, o, u, hA, hb, hu, hc⟩ := hr.at_ (k := k) (by have := hr.len; simp at this; omega)
  rw [List.getElem?_map, List.getElem?_eq_getElem hk] at hu
  simp only [Option.map_some, Option.some.injEq] at hu
  subst hu
  exact ⟨b, o, hA, hb, hc⟩
abbrev u32v (c : UInt32) : Value := .int .u32 (c.toNat : Int)
theorem u32v_one (l : List UInt32) : ∀ u ∈ l.map u32v, u.oneCell' = true := by
  intro u hu; simp only [List.mem_map] at hu; obtain ⟨c, _, rfl⟩ := hu; rfl
theorem u32_b (c : UInt32) : 0 ≤ (c.toNat : Int) ∧ (c.toNat : Int) < 4294967296 := by have := c.toNat_lt; omega
theorem w32_add (a b : UInt32) : IntKind.u32.wrap ((a.toNat : Int) + (b.toNat : Int)) = ((a + b).toNat : Int) := by
  rw [IntKind.wrap_u32', UInt32.toNat_add]; omega
theorem w32_xor (a b : UInt32) : bits .xor .u32 (a.toNat : Int) (b.toNat : Int) = ((a ^^^ b).toNat : Int) := by
  rw [u32_xor_nat _ _ a.toNat_lt b.toNat_lt, UInt32.toNat_xor]
theorem w32_and (a b : UInt32) : bits .and .u32 (a.toNat : Int) (b.toNat : Int) = ((a &&& b).toNat : Int) := by
  rw [u32_and_nat _ _ a.toNat_lt b.toNat_lt, UInt32.toNat_and]
theorem w32_or (a b : UInt32) : bits .or .u32 (a.toNat : Int) (b.toNat : Int) = ((a ||| b).toNat : Int) := by
  rw [u32_or_nat _ _ a.toNat_lt b.toNat_lt, UInt32.toNat_or]
theorem w32_shr (a : UInt32) (n : Nat) (h : n < 32) : (a.toNat : Int) / (2 ^ n : Int) = ((a >>> UInt32.ofNat n).toNat : Int) := by
  rw [UInt32.toNat_shiftRight]
  have : (UInt32.ofNat n).toNat % 32 = n := by rw [UInt32.toNat_ofNat']; omega
  rw [this, Nat.shiftRight_eq_div_pow, Int.natCast_ediv, Int.natCast_pow]
  rfl
theorem w32_shl (a : UInt32) (n : Nat) (h : n < 32) : ((a.toNat : Int) * (2 ^ n : Int)) % 4294967296 = ((a <<< UInt32.ofNat n).toNat : Int) := by
  rw [UInt32.toNat_shiftLeft]
  have : (UInt32.ofNat n).toNat % 32 = n := by rw [UInt32.toNat_ofNat']; omega
  rw [this, Nat.shiftLeft_eq, Int.natCast_emod, Int.natCast_mul, Int.natCast_pow]
  rfl
theorem w32_not (a : UInt32) : bits .xor .u32 (a.toNat : Int) 4294967295 = ((~~~a).toNat : Int) := by
  have h : a ^^^ 4294967295 = ~~~a := by
    rw [← UInt32.toBitVec_inj]
    simp only [UInt32.toBitVec_xor, UInt32.toBitVec_not]
    apply BitVec.eq_of_getLsbD_eq
    intro i hi
    have h0 : ∀ j : Fin 32, ((4294967295 : UInt32).toBitVec).getLsbD j = true := by decide
    have h1 := h0 ⟨i, hi⟩
    simp only at h1
    rw [BitVec.getLsbD_xor, BitVec.getLsbD_not, h1]
    simp only [hi, decide_true, Bool.true_and, Bool.xor_true]
  rw [← h]
  have := u32_xor_nat a.toNat 4294967295 a.toNat_lt (by omega)
  rw [UInt32.toNat_xor]
  exact this

theorem u32_ret {a b : Int} (h : a = b) : Ending.returned (Value.int .u32 a) = Ending.returned (Value.int .u32 b) := by rw [h]
/-- A word turned round to the right. -/
def rotr (x : UInt32) (n : Nat) : UInt32 := x <<< UInt32.ofNat (32 - n) ||| x >>> UInt32.ofNat n

theorem w32_addm (a b : UInt32) : ((a.toNat : Int) + (b.toNat : Int)) % 4294967296 = ((a + b).toNat : Int) := by
  rw [UInt32.toNat_add]; omega
end Go.Proofs.YtpbdglocfjbbfaaDoor
namespace Go.Proofs.YtpbdglocfjbbfaaDoor
open Go.RowKit
set_option linter.unusedVariables false
set_option linter.unusedSimpArgs false

/-- Eight words. -/
structure St where
  a : UInt32
  b : UInt32
  c : UInt32
  d : UInt32
  e : UInt32
  f : UInt32
  g : UInt32
  h : UInt32
namespace St
def vals (s : St) : Array Value := #[u32v s.a, u32v s.b, u32v s.c, u32v s.d, u32v s.e, u32v s.f, u32v s.g, u32v s.h]
def words (s : St) : List UInt32 := [s.a, s.b, s.c, s.d, s.e, s.f, s.g, s.h]
def one (s : St) (more : UInt32) : UInt32 := s.h + (rotr s.e 6 ^^^ rotr s.e 11 ^^^ rotr s.e 25) + (s.e &&& s.f ^^^ ~~~s.e &&& s.g) + more
def two (s : St) : UInt32 := (rotr s.a 2 ^^^ rotr s.a 13 ^^^ rotr s.a 22) + (s.a &&& s.b ^^^ s.a &&& s.c ^^^ s.b &&& s.c)
def round (s : St) (more : UInt32) : St := ⟨s.one more + s.two, s.a, s.b, s.c, s.d + s.one more, s.e, s.f, s.g⟩
def plus (s t : St) : St := ⟨s.a + t.a, s.b + t.b, s.c + t.c, s.d + t.d, s.e + t.e, s.f + t.f, s.g + t.g, s.h + t.h⟩
def first : St := ⟨1779033703, 3144134277, 1013904242, 2773480762, 1359893119, 2600822924, 528734635, 1541459225⟩
end St
def sig0 (x : UInt32) : UInt32 := rotr x 7 ^^^ rotr x 18 ^^^ x >>> 3
def sig1 (x : UInt32) : UInt32 := rotr x 17 ^^^ rotr x 19 ^^^ x >>> 10

theorem info_8 : (Tryd.prog.info? 105).map (·.size) = some 8 := by kernel_rfl
theorem mod_add {X Y : Int} {p q : UInt32} (hX : X % 4294967296 = (p.toNat : Int)) (hY : Y % 4294967296 = (q.toNat : Int)) : (X + Y) % 4294967296 = ((p + q).toNat : Int) := by
  rw [UInt32.toNat_add]; omega
theorem mod_self (p : UInt32) : (p.toNat : Int) % 4294967296 = (p.toNat : Int) := by have := p.toNat_lt; omega
theorem below_drewN {B : Nat} {a w : World} (h : Below B a w) (n : Nat) : Below B a (w.drewN n) := ⟨h.os, h.tape, h.output, h.size, h.block⟩
theorem fold_xor (a b : UInt32) : (((a.toNat ^^^ b.toNat : Nat)) : Int) = ((a ^^^ b).toNat : Int) := by rw [UInt32.toNat_xor]
theorem fold_and (a b : UInt32) : (((a.toNat &&& b.toNat : Nat)) : Int) = ((a &&& b).toNat : Int) := by rw [UInt32.toNat_and]
theorem w32_not' (a : UInt32) : bits .xor .u32 IntKind.u32.max (a.toNat : Int) = ((~~~a).toNat : Int) := by
  rw [← w32_not, show IntKind.u32.max = 4294967295 from by decide]
  show IntKind.u32.wrap _ = IntKind.u32.wrap _
  rw [BitVec.xor_comm]
theorem one_val (e f g h more : UInt32) : ((h.toNat : Int) + bits .xor .u32 (((rotr e 6).toNat ^^^ (rotr e 11).toNat : Nat) : Int) ((rotr e 25).toNat : Int) +
      bits .xor .u32 ((e.toNat &&& f.toNat : Nat) : Int) (bits .and .u32 (bits .xor .u32 IntKind.u32.max (e.toNat : Int)) (g.toNat : Int)) + (more.toNat : Int)) % 4294967296 =
    ((h + (rotr e 6 ^^^ rotr e 11 ^^^ rotr e 25) + (e &&& f ^^^ ~~~e &&& g) + more).toNat : Int) := by
  rw [w32_not', fold_xor, fold_and, w32_xor, w32_and, w32_xor]
  simp only [UInt32.toNat_add]
  omega
theorem two_val (a b c : UInt32) : (bits .xor .u32 (((rotr a 2).toNat ^^^ (rotr a 13).toNat : Nat) : Int) ((rotr a 22).toNat : Int) +
      bits .xor .u32 (bits .xor .u32 ((a.toNat &&& b.toNat : Nat) : Int) ((a.toNat &&& c.toNat : Nat) : Int)) ((b.toNat &&& c.toNat : Nat) : Int)) % 4294967296 =
    (((rotr a 2 ^^^ rotr a 13 ^^^ rotr a 22) + (a &&& b ^^^ a &&& c ^^^ b &&& c)).toNat : Int) := by
  rw [fold_xor, fold_and, fold_and, fold_and, w32_xor, w32_xor, w32_xor]
  simp only [UInt32.toNat_add]
  omega
end Go.Proofs.YtpbdglocfjbbfaaDoor
namespace Go.Proofs.YtpbdglocfjbbfaaDoor
open Go.RowKit
set_option linter.unusedVariables false
set_option linter.unusedSimpArgs false

def bigTo (l : List UInt8) : Nat → UInt32
  | 0 => 0
  | k + 1 => bigTo l k <<< 8 ||| (l.getD k 0).toUInt32
def big (l : List UInt8) : UInt32 := bigTo l 4
theorem w32_shl8 (a : UInt32) : (a.toNat : Int) * (256 : Int) % (4294967296 : Int) = ((a <<< 8).toNat : Int) := w32_shl a 8 (by omega)
theorem u32v_eq {a : Int} {b : UInt32} (h : a = (b.toNat : Int)) : Value.int .u32 a = u32v b := by rw [h]
theorem or_u8 (x : UInt32) (c : UInt8) : bits .or .u32 (x.toNat : Int) (c.toNat : Int) = ((x ||| c.toUInt32).toNat : Int) := by
  have h : (c.toNat : Int) = (c.toUInt32.toNat : Int) := by rw [UInt8.toNat_toUInt32]
  rw [h, w32_or]
theorem or_zero32 (x : UInt32) : x ||| (0 : UInt8).toUInt32 = x := by
  have : (0 : UInt8).toUInt32 = 0 := by decide
  rw [this, UInt32.or_zero]

def bytes4 (x : UInt32) : List UInt8 := [(x >>> 24).toUInt8, (x >>> 16).toUInt8, (x >>> 8).toUInt8, x.toUInt8]
theorem bytes4_len (x : UInt32) : (bytes4 x).length = 4 := rfl
theorem w32_byte (x : UInt32) (n : Nat) (h : n < 32) : ((x.toNat : Int) / (2 ^ n : Int)) % 256 = (((x >>> UInt32.ofNat n).toUInt8).toNat : Int) := by
  rw [w32_shr x n h, UInt32.toNat_toUInt8]; omega
end Go.Proofs.YtpbdglocfjbbfaaDoor
namespace Go.Proofs.YtpbdglocfjbbfaaDoor
open Go.RowKit
set_option linter.unusedVariables false
set_option linter.unusedSimpArgs false

def kList : List UInt32 := [1116352408, 1899447441, 3049323471, 3921009573, 961987163, 1508970993, 2453635748, 2870763221, 3624381080, 310598401, 607225278, 1426881987, 1925078388, 2162078206, 2614888103, 3248222580, 3835390401, 4022224774, 264347078, 604807628, 770255983, 1249150122, 1555081692, 1996064986, 2554220882, 2821834349, 2952996808, 3210313671, 3336571891, 3584528711, 113926993, 338241895, 666307205, 773529912, 1294757372, 1396182291, 1695183700, 1986661051, 2177026350, 2456956037, 2730485921, 2820302411, 3259730800, 3345764771, 3516065817, 3600352804, 4094571909, 275423344, 430227734, 506948616, 659060556, 883997877, 958139571, 1322822218, 1537002063, 1747873779, 1955562222, 2024104815, 2227730452, 2361852424, 2428436474, 2756734187, 3204031479, 3329325298]
def kVals : Array Value := (kList.map u32v).toArray
theorem info_64 : (Tryd.prog.info? 124).map (·.size) = some 64 := by kernel_rfl
theorem kVals_one : kVals.all (·.oneCell') = true := by kernel_rfl
theorem below_setRow {B : Nat} {a w : World} (h : Below B a w) {g : Nat} (hg : B ≤ g) (cs : Array Value) : Below B a (w.setRow g cs) :=
  ⟨h.os, h.tape, h.output, by rw [setRow_size]; exact h.size, fun k hk => (setRow_other w g k cs (by omega)).trans (h.block k hk)⟩
theorem Blk.setRow {w : World} {g : Nat} {t : TypeId} {old : Array Value} (h : Blk w g t old) (cs : Array Value) : Blk (w.setRow g cs) g t cs := setRow_heap w g old cs t _ h
theorem Blk.setRow_far {w : World} {g k : Nat} {t : TypeId} {old : Array Value} (h : Blk w k t old) (cs : Array Value) (hk : k ≠ g) : Blk (w.setRow g cs) k t old := (setRow_other w g k cs hk).trans h
end Go.Proofs.YtpbdglocfjbbfaaDoor
namespace Go.Proofs.YtpbdglocfjbbfaaDoor
open Go.RowKit
set_option linter.unusedVariables false
set_option linter.unusedSimpArgs false

def swVal (l : List UInt8) (W : List UInt32) (k : Nat) : UInt32 :=
  if k < 16 then big (l.drop (4 * k)) else W.getD (k - 16) 0 + sig0 (W.getD (k - 15) 0) + W.getD (k - 7) 0 + sig1 (W.getD (k - 2) 0)
def sw (l : List UInt8) : Nat → List UInt32
  | 0 => List.replicate 64 0
  | k + 1 => (sw l k).set k (swVal l (sw l k) k)
def spread (l : List UInt8) : List UInt32 := sw l 64
theorem sw_len (l : List UInt8) (k : Nat) : (sw l k).length = 64 := by
  induction k with
  | zero => simp only [sw, List.length_replicate]
  | succ k ih => simp only [sw, List.length_set, ih]
theorem cell32 {w : World} {g : Nat} {t : TypeId} {L : List UInt32} (h : Blk w g t (L.map u32v).toArray) (k : Nat) (hk : k < L.length) : w.cell? ⟨g, k, none⟩ = some (u32v (L.getD k 0)) := by
  rw [h.cell, List.getElem?_toArray, List.getElem?_map, List.getElem?_eq_getElem hk, List.getD_eq_getElem?_getD, List.getElem?_eq_getElem hk]; rfl

theorem shr3 (x : UInt32) : (x.toNat : Int) / (8 : Int) = ((x >>> 3).toNat : Int) := w32_shr x 3 (by omega)
theorem shr10 (x : UInt32) : (x.toNat : Int) / (1024 : Int) = ((x >>> 10).toNat : Int) := w32_shr x 10 (by omega)
theorem spread_val (x16 x15 x7 x2 : UInt32) : ((x16.toNat : Int) + bits .xor .u32 (bits .xor .u32 ((rotr x15 7).toNat : Int) ((rotr x15 18).toNat : Int)) ((x15.toNat : Int) / (8 : Int)) + (x7.toNat : Int) +
      bits .xor .u32 (bits .xor .u32 ((rotr x2 17).toNat : Int) ((rotr x2 19).toNat : Int)) ((x2.toNat : Int) / (1024 : Int))) % (4294967296 : Int) = ((x16 + sig0 x15 + x7 + sig1 x2).toNat : Int) := by
  rw [shr3, shr10, w32_xor, w32_xor, w32_xor, w32_xor]
  simp only [UInt32.toNat_add, sig0, sig1]
  omega
end Go.Proofs.YtpbdglocfjbbfaaDoor
