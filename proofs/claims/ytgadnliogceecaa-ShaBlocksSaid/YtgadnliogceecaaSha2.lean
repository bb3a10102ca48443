/- SHA-256 as plain data: rounds, the words of a block, a block mixed in: no program in sight. -/
import Derived.Test.YtgadnliogceecaaSha1
namespace Go.Proofs.Ytgadnliogceecaa
open Go.RowKit
set_option linter.unusedVariables false
set_option linter.unusedSimpArgs false

/-- Eight words. -/
structure St where
  a : UInt32
  b : UInt32
  c : UInt32
  d : UInt32
  e : UInt32
  f : UInt32
  g : UInt32
  h : UInt32
namespace St
def vals (s : St) : Array Value := #[u32v s.a, u32v s.b, u32v s.c, u32v s.d, u32v s.e, u32v s.f, u32v s.g, u32v s.h]
def words (s : St) : List UInt32 := [s.a, s.b, s.c, s.d, s.e, s.f, s.g, s.h]
def one (s : St) (more : UInt32) : UInt32 := s.h + (rotr s.e 6 ^^^ rotr s.e 11 ^^^ rotr s.e 25) + (s.e &&& s.f ^^^ ~~~s.e &&& s.g) + more
def two (s : St) : UInt32 := (rotr s.a 2 ^^^ rotr s.a 13 ^^^ rotr s.a 22) + (s.a &&& s.b ^^^ s.a &&& s.c ^^^ s.b &&& s.c)
def round (s : St) (more : UInt32) : St := ⟨s.one more + s.two, s.a, s.b, s.c, s.d + s.one more, s.e, s.f, s.g⟩
def plus (s t : St) : St := ⟨s.a + t.a, s.b + t.b, s.c + t.c, s.d + t.d, s.e + t.e, s.f + t.f, s.g + t.g, s.h + t.h⟩
def first : St := ⟨1779033703, 3144134277, 1013904242, 2773480762, 1359893119, 2600822924, 528734635, 1541459225⟩
end St
def sig0 (x : UInt32) : UInt32 := rotr x 7 ^^^ rotr x 18 ^^^ x >>> 3
def sig1 (x : UInt32) : UInt32 := rotr x 17 ^^^ rotr x 19 ^^^ x >>> 10

theorem info_8 : (Try.prog.info? 62).map (·.size) = some 8 := by kernel_rfl
theorem mod_add {X Y : Int} {p q : UInt32} (hX : X % 4294967296 = (p.toNat : Int)) (hY : Y % 4294967296 = (q.toNat : Int)) : (X + Y) % 4294967296 = ((p + q).toNat : Int) := by
  rw [UInt32.toNat_add]; omega
theorem mod_self (p : UInt32) : (p.toNat : Int) % 4294967296 = (p.toNat : Int) := by have := p.toNat_lt; omega
theorem below_drewN {B : Nat} {a w : World} (h : Below B a w) (n : Nat) : Below B a (w.drewN n) := ⟨h.os, h.tape, h.output, h.size, h.block⟩
theorem fold_xor (a b : UInt32) : (((a.toNat ^^^ b.toNat : Nat)) : Int) = ((a ^^^ b).toNat : Int) := by rw [UInt32.toNat_xor]
theorem fold_and (a b : UInt32) : (((a.toNat &&& b.toNat : Nat)) : Int) = ((a &&& b).toNat : Int) := by rw [UInt32.toNat_and]
theorem w32_not' (a : UInt32) : bits .xor .u32 IntKind.u32.max (a.toNat : Int) = ((~~~a).toNat : Int) := by
  rw [← w32_not, show IntKind.u32.max = 4294967295 from by decide]
  show IntKind.u32.wrap _ = IntKind.u32.wrap _
  rw [BitVec.xor_comm]
theorem one_val (e f g h more : UInt32) : ((h.toNat : Int) + bits .xor .u32 (((rotr e 6).toNat ^^^ (rotr e 11).toNat : Nat) : Int) ((rotr e 25).toNat : Int) +
      bits .xor .u32 ((e.toNat &&& f.toNat : Nat) : Int) (bits .and .u32 (bits .xor .u32 IntKind.u32.max (e.toNat : Int)) (g.toNat : Int)) + (more.toNat : Int)) % 4294967296 =
    ((h + (rotr e 6 ^^^ rotr e 11 ^^^ rotr e 25) + (e &&& f ^^^ ~~~e &&& g) + more).toNat : Int) := by
  rw [w32_not', fold_xor, fold_and, w32_xor, w32_and, w32_xor]
  simp only [UInt32.toNat_add]
  omega
theorem two_val (a b c : UInt32) : (bits .xor .u32 (((rotr a 2).toNat ^^^ (rotr a 13).toNat : Nat) : Int) ((rotr a 22).toNat : Int) +
      bits .xor .u32 (bits .xor .u32 ((a.toNat &&& b.toNat : Nat) : Int) ((a.toNat &&& c.toNat : Nat) : Int)) ((b.toNat &&& c.toNat : Nat) : Int)) % 4294967296 =
    (((rotr a 2 ^^^ rotr a 13 ^^^ rotr a 22) + (a &&& b ^^^ a &&& c ^^^ b &&& c)).toNat : Int) := by
  rw [fold_xor, fold_and, fold_and, fold_and, w32_xor, w32_xor, w32_xor]
  simp only [UInt32.toNat_add]
  omega
set_option maxRecDepth 100000 in
set_option maxHeartbeats 1000000 in
theorem round_c (s : St) (more : UInt32) (w : World) : Calls Try.prog 64 #[.agg s.vals, u32v more] w fun e w' => e = .returned (.agg (s.round more).vals) ∧ Below w.heap.size w w' := by
  obtain ⟨a, b, c, d, e, f, g, hh⟩ := s
  have rx := w32_xor
  have ra := w32_and
  have rp := w32_add
  have rm := w32_addm
  go_enter Try.func64, Try.ntmps64
  go_wp2_with fail
  obtain ⟨W, hW⟩ : ∃ W, ((w.alloc (.cells (St.vals ⟨a, b, c, d, e, f, g, hh⟩) 62)).alloc (.cells #[.int .u32 0, .int .u32 0, .int .u32 0, .int .u32 0, .int .u32 0, .int .u32 0, .int .u32 0, .int .u32 0] 62)) = W := ⟨_, rfl⟩
  have hv : Blk W w.heap.size 62 (St.vals ⟨a, b, c, d, e, f, g, hh⟩) := by rw [← hW]; exact (Blk.new w _ _).alloc _
  have hr : Blk W (w.heap.size + 1) 62 #[.int .u32 0, .int .u32 0, .int .u32 0, .int .u32 0, .int .u32 0, .int .u32 0, .int .u32 0, .int .u32 0] := by rw [← hW]; exact (by simpa using Blk.new (w.alloc (.cells (St.vals ⟨a, b, c, d, e, f, g, hh⟩) 62)) 62 #[.int .u32 0, .int .u32 0, .int .u32 0, .int .u32 0, .int .u32 0, .int .u32 0, .int .u32 0, .int .u32 0])
  have hb : Below w.heap.size w W := by rw [← hW]; exact ((Below.refl _ _).alloc (Nat.le_refl _) _).alloc (by simp) _
  rw [hW]
  clear hW
  have c0 : W.cell? ⟨w.heap.size, 0, none⟩ = some (u32v a) := by rw [hv.cell]; rfl
  have c1 : W.cell? ⟨w.heap.size, 1, none⟩ = some (u32v b) := by rw [hv.cell]; rfl
  have c2 : W.cell? ⟨w.heap.size, 2, none⟩ = some (u32v c) := by rw [hv.cell]; rfl
  have c3 : W.cell? ⟨w.heap.size, 3, none⟩ = some (u32v d) := by rw [hv.cell]; rfl
  have c4 : W.cell? ⟨w.heap.size, 4, none⟩ = some (u32v e) := by rw [hv.cell]; rfl
  have c5 : W.cell? ⟨w.heap.size, 5, none⟩ = some (u32v f) := by rw [hv.cell]; rfl
  have c6 : W.cell? ⟨w.heap.size, 6, none⟩ = some (u32v g) := by rw [hv.cell]; rfl
  have c7 : W.cell? ⟨w.heap.size, 7, none⟩ = some (u32v hh) := by rw [hv.cell]; rfl
  have d0 : W.cell? ⟨w.heap.size + 1, 0, none⟩ = some (.int .u32 0) := by rw [hr.cell]; rfl
  have d1 : W.cell? ⟨w.heap.size + 1, 1, none⟩ = some (.int .u32 0) := by rw [hr.cell]; rfl
  have d2 : W.cell? ⟨w.heap.size + 1, 2, none⟩ = some (.int .u32 0) := by rw [hr.cell]; rfl
  have d3 : W.cell? ⟨w.heap.size + 1, 3, none⟩ = some (.int .u32 0) := by rw [hr.cell]; rfl
  have d4 : W.cell? ⟨w.heap.size + 1, 4, none⟩ = some (.int .u32 0) := by rw [hr.cell]; rfl
  have d5 : W.cell? ⟨w.heap.size + 1, 5, none⟩ = some (.int .u32 0) := by rw [hr.cell]; rfl
  have d6 : W.cell? ⟨w.heap.size + 1, 6, none⟩ = some (.int .u32 0) := by rw [hr.cell]; rfl
  have d7 : W.cell? ⟨w.heap.size + 1, 7, none⟩ = some (.int .u32 0) := by rw [hr.cell]; rfl
  have z0 := hr.frozen 0
  have z1 := hr.frozen 1
  have z2 := hr.frozen 2
  have z3 := hr.frozen 3
  have z4 := hr.frozen 4
  have z5 := hr.frozen 5
  have z6 := hr.frozen 6
  have z7 := hr.frozen 7
  have HR := Lib.hid hr
  have HB := Lib.hid hb
  clear hv hr hb
  go_quiet (fail)
  go_wp2_with fail
  go_quiet ((go_at_call 74; exact (right_q _ _ (by omega) (by omega) _).mono fun _ _ h => ⟨h.1, _, h.2⟩))
  go_wp2_with fail
  go_quiet ((go_at_call 74; exact (right_q _ _ (by omega) (by omega) _).mono fun _ _ h => ⟨h.1, _, h.2⟩))
  go_wp2_with fail
  refine bodyPost_ret (results_cell_row rfl _ _ (w.heap.size + 1) 62 _ (0, 0) _ rfl (((((((((HR.out.drewN _).set_ 0 _).set_ 1 _).set_ 2 _).set_ 3 _).set_ 4 _).set_ 5 _).set_ 6 _).set_ 7 _) Try.underlying62 rfl info_8) rfl ?_
  rw [mod_add (one_val e f g hh more) (two_val a b c), mod_add (mod_self d) (one_val e f g hh more)]
  refine ⟨rfl, ?_⟩
  have hp : w.heap.size ≤ w.heap.size + 1 := Nat.le_succ _
  exact ((((((((below_drewN HB.out _).setCell hp _).setCell hp _).setCell hp _).setCell hp _).setCell hp _).setCell hp _).setCell hp _).setCell hp _
end Go.Proofs.Ytgadnliogceecaa
