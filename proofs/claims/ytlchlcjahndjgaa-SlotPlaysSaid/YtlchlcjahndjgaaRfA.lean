/- The reference's flash (waterlineref1.Flash): its cells; Cut, Wear, Power, CutAt, Blank. -/
import Derived.Test.YtlchlcjahndjgaaNorE
namespace Go.Proofs.Ytlchlcjahndjgaa
open Go.RowKit
set_option linter.unusedVariables false
set_option linter.unusedSimpArgs false
/-- The reference's flash as data. -/
structure RF where
  b : List UInt8
  wear : List Int
  off : Bool
  cutb : Bool
  left : Int
  mask : List UInt8
  ops : Int
  /-- Of no cell: blocks in which the mask does not lie. -/
  far : List Nat := []
namespace RF
/-- What it is as a flash. -/
def fl (G : RF) : Fl := { b := G.b, wear := G.wear, cut := if G.cutb then G.left else -1, mask := G.mask, off := G.off, ops := G.ops }
structure Ok (G : RF) : Prop where
  len : G.b.length = 320 * G.wear.length
  most : G.wear.length ≤ 400
  left1 : -1 ≤ G.left
  left2 : G.left ≤ 1073741824
  mask : G.mask.length ≤ 140737488351232
  wear : ∀ x ∈ G.wear, 0 ≤ x ∧ x ≤ 4611686018427387904
theorem Ok.fl {G : RF} (h : G.Ok) : G.fl.Ok := by
  refine ⟨h.len, h.most, ?_, ?_, h.mask, h.wear⟩
  · show -1 ≤ (if G.cutb then G.left else -1)
    have := h.left1
    split <;> omega
  · show (if G.cutb then G.left else -1) ≤ _
    have := h.left2
    split <;> omega
end RF
/-- The reference's flash G lies at block fb; its bytes are block bb, its wear block wb. -/
structure RFAt (w : World) (fb bb wb : Nat) (G : RF) : Prop where
  ok : G.Ok
  obj : ∃ A c, Blk w fb 101 #[.slice (some ⟨bb, 0, none⟩) G.b.length G.b.length, .slice (some ⟨wb, 0, none⟩) G.wear.length G.wear.length, .bool G.off, .bool G.cutb, .int .i64 G.left, .slice A G.mask.length c, .int .i64 G.ops] ∧
    Reads w A G.mask.length (G.mask.map u8v) ∧ (0 < G.mask.length → Apart (fb :: bb :: wb :: G.far) A)
  bytes : Blk w bb 5 (G.b.map u8v).toArray
  wears : Blk w wb 3 (G.wear.map i64v).toArray
  farlt : ∀ k ∈ G.far, k < w.heap.size
section
variable {w w' : World} {fb bb wb : Nat} {G : RF} {S : List Nat}
theorem RFAt.ne (h : RFAt w fb bb wb G) : fb ≠ bb ∧ fb ≠ wb ∧ bb ≠ wb := by
  obtain ⟨A, c, h1, _⟩ := h.obj
  exact ⟨Blk.ne_ h1 h.bytes (by decide), Blk.ne_ h1 h.wears (by decide), Blk.ne_ h.bytes h.wears (by decide)⟩
theorem RFAt.drewN (h : RFAt w fb bb wb G) (n : Nat) : RFAt (w.drewN n) fb bb wb G := ⟨h.ok, h.obj, h.bytes, h.wears, h.farlt⟩
theorem RFAt.drew (h : RFAt w fb bb wb G) : RFAt w.drew fb bb wb G := ⟨h.ok, h.obj, h.bytes, h.wears, h.farlt⟩
theorem RFAt.keep (h : RFAt w fb bb wb G) (hs : w.heap.size ≤ w'.heap.size) (hk : ∀ k, k < w.heap.size → w'.heap[k]? = w.heap[k]?) : RFAt w' fb bb wb G := by
  obtain ⟨A, c, h1, h2, h3⟩ := h.obj
  exact ⟨h.ok, ⟨A, c, (hk _ h1.lt).trans h1, h2.keep hs fun b hb _ => hk b hb, h3⟩, (hk _ h.bytes.lt).trans h.bytes, (hk _ h.wears.lt).trans h.wears, fun k h9 => Nat.lt_of_lt_of_le (h.farlt k h9) hs⟩
theorem RFAt.farther (h : RFAt w fb bb wb G) (hm : G.mask = []) (T : List Nat) (hT : ∀ k ∈ T, k < w.heap.size) : RFAt w fb bb wb { G with far := T } := by
  obtain ⟨A, c, h1, h2, _⟩ := h.obj
  exact ⟨⟨h.ok.len, h.ok.most, h.ok.left1, h.ok.left2, h.ok.mask, h.ok.wear⟩, ⟨A, c, h1, h2, fun h0 => by have h9 : 0 < G.mask.length := h0; rw [hm] at h9; exact absurd h9 (by simp)⟩, h.bytes, h.wears, hT⟩
theorem RFAt.only2 (h : RFAt w fb bb wb G) (ho : Only S w w') (hd : fb ∉ S ∧ bb ∉ S ∧ wb ∉ S) (hs : G.mask = [] ∨ ∀ k ∈ S, k ∈ G.far) : RFAt w' fb bb wb G := by
  obtain ⟨A, c, h1, h2, h3⟩ := h.obj
  refine ⟨h.ok, ⟨A, c, h1.only ho hd.1, h2.onlyC ho (fun h0 a ha hk => ?_), h3⟩, h.bytes.only ho hd.2.1, h.wears.only ho hd.2.2, fun k hk => Nat.lt_of_lt_of_le (h.farlt k hk) ho.size⟩
  rcases hs with hs | hs
  · rw [hs] at h0; exact absurd h0 (by simp)
  · exact h3 h0 a ha (by simp only [List.mem_cons]; exact Or.inr (Or.inr (Or.inr (hs _ hk))))
theorem RFAt.below (h : RFAt w fb bb wb G) (hb : Below w.heap.size w w') : RFAt w' fb bb wb G := h.keep hb.size hb.block
theorem RFAt.alloc (h : RFAt w fb bb wb G) (o : Obj) : RFAt (w.alloc o) fb bb wb G := h.keep (by simp) fun k hk => Below.heap_alloc w o k hk
theorem RFAt.lt (h : RFAt w fb bb wb G) : fb < w.heap.size ∧ bb < w.heap.size ∧ wb < w.heap.size := by
  obtain ⟨A, c, h1, _⟩ := h.obj
  exact ⟨h1.lt, h.bytes.lt, h.wears.lt⟩
theorem RFAt.c0 (h : RFAt w fb bb wb G) : w.cell? ⟨fb, 0, none⟩ = some (.slice (some ⟨bb, 0, none⟩) G.b.length G.b.length) := by
  obtain ⟨A, c, h1, _⟩ := h.obj; rw [h1.cell]; rfl
theorem RFAt.c1 (h : RFAt w fb bb wb G) : w.cell? ⟨fb, 1, none⟩ = some (.slice (some ⟨wb, 0, none⟩) G.wear.length G.wear.length) := by
  obtain ⟨A, c, h1, _⟩ := h.obj; rw [h1.cell]; rfl
theorem RFAt.c2 (h : RFAt w fb bb wb G) : w.cell? ⟨fb, 2, none⟩ = some (.bool G.off) := by
  obtain ⟨A, c, h1, _⟩ := h.obj; rw [h1.cell]; rfl
theorem RFAt.c3 (h : RFAt w fb bb wb G) : w.cell? ⟨fb, 3, none⟩ = some (.bool G.cutb) := by
  obtain ⟨A, c, h1, _⟩ := h.obj; rw [h1.cell]; rfl
theorem RFAt.c4 (h : RFAt w fb bb wb G) : w.cell? ⟨fb, 4, none⟩ = some (.int .i64 G.left) := by
  obtain ⟨A, c, h1, _⟩ := h.obj; rw [h1.cell]; rfl
theorem RFAt.c6 (h : RFAt w fb bb wb G) : w.cell? ⟨fb, 6, none⟩ = some (.int .i64 G.ops) := by
  obtain ⟨A, c, h1, _⟩ := h.obj; rw [h1.cell]; rfl
theorem RFAt.c5 (h : RFAt w fb bb wb G) : ∃ A c, w.cell? ⟨fb, 5, none⟩ = some (.slice A G.mask.length c) ∧ Reads w A G.mask.length (G.mask.map u8v) ∧ (0 < G.mask.length → Apart (fb :: bb :: wb :: G.far) A) := by
  obtain ⟨A, c, h1, h2, h3⟩ := h.obj; exact ⟨A, c, by rw [h1.cell]; rfl, h2, h3⟩
theorem RFAt.fr (h : RFAt w fb bb wb G) (i : Nat) : w.frozen? ⟨fb, i, none⟩ = false := by
  obtain ⟨A, c, h1, _⟩ := h.obj; exact h1.frozen i
theorem RFAt.cb (h : RFAt w fb bb wb G) (i : Nat) (hi : i < G.b.length) : w.cell? ⟨bb, i, none⟩ = some (u8v G.b[i]) := by
  rw [h.bytes.cell]; simp [hi]
theorem RFAt.cw (h : RFAt w fb bb wb G) (i : Nat) (hi : i < G.wear.length) : w.cell? ⟨wb, i, none⟩ = some (i64v G.wear[i]) := by
  rw [h.wears.cell]; simp [hi]
theorem RFAt.set2 (h : RFAt w fb bb wb G) (x : Bool) (hok : ({ G with off := x } : RF).Ok) : RFAt (w.setCell ⟨fb, 2, none⟩ (.bool x)) fb bb wb { G with off := x } := by
  obtain ⟨h1, h2, h3⟩ := h.ne
  obtain ⟨A0, c0, b1, b2, b3⟩ := h.obj
  exact ⟨hok, ⟨A0, c0, by simpa using b1.set_ 2 (.bool x), b2.setCellC (fun h0 a h4 e => b3 h0 a h4 (by simp [e])) _, b3⟩, h.bytes.far (by exact fun e => h1 e.symm) _, h.wears.far (by exact fun e => h2 e.symm) _, fun k hk => by simpa using h.farlt k hk⟩
theorem RFAt.set3 (h : RFAt w fb bb wb G) (x : Bool) (hok : ({ G with cutb := x } : RF).Ok) : RFAt (w.setCell ⟨fb, 3, none⟩ (.bool x)) fb bb wb { G with cutb := x } := by
  obtain ⟨h1, h2, h3⟩ := h.ne
  obtain ⟨A0, c0, b1, b2, b3⟩ := h.obj
  exact ⟨hok, ⟨A0, c0, by simpa using b1.set_ 3 (.bool x), b2.setCellC (fun h0 a h4 e => b3 h0 a h4 (by simp [e])) _, b3⟩, h.bytes.far (by exact fun e => h1 e.symm) _, h.wears.far (by exact fun e => h2 e.symm) _, fun k hk => by simpa using h.farlt k hk⟩
theorem RFAt.set4 (h : RFAt w fb bb wb G) (x : Int) (hok : ({ G with left := x } : RF).Ok) : RFAt (w.setCell ⟨fb, 4, none⟩ (.int .i64 x)) fb bb wb { G with left := x } := by
  obtain ⟨h1, h2, h3⟩ := h.ne
  obtain ⟨A0, c0, b1, b2, b3⟩ := h.obj
  exact ⟨hok, ⟨A0, c0, by simpa using b1.set_ 4 (.int .i64 x), b2.setCellC (fun h0 a h4 e => b3 h0 a h4 (by simp [e])) _, b3⟩, h.bytes.far (by exact fun e => h1 e.symm) _, h.wears.far (by exact fun e => h2 e.symm) _, fun k hk => by simpa using h.farlt k hk⟩
theorem RFAt.set6 (h : RFAt w fb bb wb G) (x : Int) (hok : ({ G with ops := x } : RF).Ok) : RFAt (w.setCell ⟨fb, 6, none⟩ (.int .i64 x)) fb bb wb { G with ops := x } := by
  obtain ⟨h1, h2, h3⟩ := h.ne
  obtain ⟨A0, c0, b1, b2, b3⟩ := h.obj
  exact ⟨hok, ⟨A0, c0, by simpa using b1.set_ 6 (.int .i64 x), b2.setCellC (fun h0 a h4 e => b3 h0 a h4 (by simp [e])) _, b3⟩, h.bytes.far (by exact fun e => h1 e.symm) _, h.wears.far (by exact fun e => h2 e.symm) _, fun k hk => by simpa using h.farlt k hk⟩
theorem RFAt.set5 (h : RFAt w fb bb wb G) (A : Option Addr) (c : Nat) (m : List UInt8) (hm : m.length ≤ 140737488351232) (hr : Reads w A m.length (m.map u8v)) (ha : 0 < m.length → Apart (fb :: bb :: wb :: G.far) A) :
    RFAt (w.setCell ⟨fb, 5, none⟩ (.slice A m.length c)) fb bb wb { G with mask := m } := by
  obtain ⟨h1, h2, h3⟩ := h.ne
  obtain ⟨A0, c0, b1, b2, b3⟩ := h.obj
  exact ⟨⟨h.ok.len, h.ok.most, h.ok.left1, h.ok.left2, hm, h.ok.wear⟩, ⟨A, c, by simpa using b1.set_ 5 (.slice A m.length c), hr.setCellC (fun h0 a h4 e => ha h0 a h4 (by simp [e])) _, ha⟩, h.bytes.far (by exact fun e => h1 e.symm) _, h.wears.far (by exact fun e => h2 e.symm) _, fun k hk => by simpa using h.farlt k hk⟩
theorem RFAt.set34 (h : RFAt w fb bb wb G) (x : Bool) (y : Int) (hok : ({ G with cutb := x, left := y } : RF).Ok) : RFAt ((w.setCell ⟨fb, 3, none⟩ (.bool x)).setCell ⟨fb, 4, none⟩ (.int .i64 y)) fb bb wb { G with cutb := x, left := y } := by
  obtain ⟨h1, h2, h3⟩ := h.ne
  obtain ⟨A0, c0, b1, b2, b3⟩ := h.obj
  exact ⟨hok, ⟨A0, c0, by simpa using (b1.set_ 3 (.bool x)).set_ 4 (.int .i64 y), (b2.setCellC (fun h0 a h4 e => b3 h0 a h4 (by simp [e])) _).setCellC (fun h0 a h4 e => b3 h0 a h4 (by simp [e])) _, b3⟩, (h.bytes.far (by exact fun e => h1 e.symm) _).far (by exact fun e => h1 e.symm) _, (h.wears.far (by exact fun e => h2 e.symm) _).far (by exact fun e => h2 e.symm) _, fun k hk => by simpa using h.farlt k hk⟩
theorem RFAt.setB (h : RFAt w fb bb wb G) (i : Nat) (x : UInt8) : RFAt (w.setCell ⟨bb, i, none⟩ (u8v x)) fb bb wb { G with b := G.b.set i x } := by
  obtain ⟨h1, h2, h3⟩ := h.ne
  obtain ⟨A0, c0, b1, b2, b3⟩ := h.obj
  refine ⟨⟨by simpa using h.ok.len, h.ok.most, h.ok.left1, h.ok.left2, h.ok.mask, h.ok.wear⟩, ⟨A0, c0, by simpa using b1.far (by exact h1) (u8v x), b2.setCellC (fun h0 a h4 e => b3 h0 a h4 (by simp [e])) _, b3⟩, ?_, h.wears.far (by exact fun e => h3 e.symm) _, fun k hk => by simpa using h.farlt k hk⟩
  have := h.bytes.set_ i (u8v x)
  rw [set_map] at this
  exact this
theorem RFAt.setW (h : RFAt w fb bb wb G) (i : Nat) (x : Int) (hx : 0 ≤ x ∧ x ≤ 4611686018427387904) : RFAt (w.setCell ⟨wb, i, none⟩ (i64v x)) fb bb wb { G with wear := G.wear.set i x } := by
  obtain ⟨h1, h2, h3⟩ := h.ne
  obtain ⟨A0, c0, b1, b2, b3⟩ := h.obj
  refine ⟨⟨by simpa using h.ok.len, by simpa using h.ok.most, h.ok.left1, h.ok.left2, h.ok.mask, ?_⟩, ⟨A0, c0, by simpa using b1.far (by exact h2) (i64v x), b2.setCellC (fun h0 a h4 e => b3 h0 a h4 (by simp [e])) _, b3⟩, h.bytes.far (by exact h3) _, ?_, fun k hk => by simpa using h.farlt k hk⟩
  · intro y hy
    rcases List.mem_or_eq_of_mem_set hy with h4 | h4
    · exact h.ok.wear y h4
    · rw [h4]; exact hx
  · have := h.wears.set_ i (i64v x)
    rw [set_map] at this
    exact this
end
theorem refcut_c (n lo hi : Int) (w : World) : Calls Try.prog 67 #[.int .i64 n, .int .i64 lo, .int .i64 hi] w fun e w' => e = .returned (.int .i64 (if n < lo then lo else if hi < n then hi else n)) ∧ w = w' := by
  by_cases h1 : n < lo
  · rw [if_pos h1]
    go_enter Try.func67, Try.ntmps67
    go_wp2
    go_ret
    exact ⟨rfl, rfl⟩
  · rw [if_neg h1]
    by_cases h2 : hi < n
    · rw [if_pos h2]
      go_enter Try.func67, Try.ntmps67
      go_wp2
      go_ret
      exact ⟨rfl, rfl⟩
    · rw [if_neg h2]
      go_enter Try.func67, Try.ntmps67
      go_wp2
      go_ret
      exact ⟨rfl, rfl⟩
section
variable {fb bb wb : Nat} {G : RF} (w : World)
theorem rlen_c (h : RFAt w fb bb wb G) : Calls Try.prog 69 #[ptr fb] w fun e w' => e = .returned (.int .i64 G.wear.length) ∧ w = w' := by
  have h1 := h.c1
  clear h
  go_enter Try.func69, Try.ntmps69
  go_wp2
  go_ret
  exact ⟨rfl, rfl⟩
theorem rwear_c (s : Int) (h : RFAt w fb bb wb G) : Calls Try.prog 96 #[ptr fb, .int .i64 s] w fun e w' => e = .returned (.int .i64 (G.fl.wearAt s)) ∧ w = w' := by
  have h1 := h.c1
  by_cases hs : 0 ≤ s ∧ s < (G.wear.length : Int)
  · have hr : G.fl.wearAt s = G.wear.getD s.toNat 0 := by
      unfold Fl.wearAt
      rw [if_pos (by unfold Fl.is; simp; exact ⟨hs.1, hs.2⟩)]
      rfl
    rw [hr]
    obtain ⟨k, rfl⟩ := Int.eq_ofNat_of_zero_le hs.1
    have hk : k < G.wear.length := by omega
    have hc := h.cw k hk
    have hv : G.wear.getD (k : Int).toNat 0 = G.wear[k] := by simp [hk]
    rw [hv]
    clear h hv hr hs
    have hk2 : ¬ (G.wear.length : Int) ≤ (k : Int) := by omega
    go_enter Try.func96, Try.ntmps96
    go_wp2
    go_ret
    exact ⟨rfl, rfl⟩
  · have hr : G.fl.wearAt s = 0 := by
      unfold Fl.wearAt
      rw [if_neg (by unfold Fl.is; simp; intro h0; have := hs; show (G.wear.length : Int) ≤ s; omega)]
    rw [hr]
    clear h hr
    by_cases h0 : s < 0
    · go_enter Try.func96, Try.ntmps96
      go_wp2
      go_ret
      exact ⟨rfl, rfl⟩
    · have h2 : (G.wear.length : Int) ≤ s := by omega
      go_enter Try.func96, Try.ntmps96
      go_wp2
      go_ret
      exact ⟨rfl, rfl⟩
theorem rpower_c (h : RFAt w fb bb wb G) : Calls Try.prog 49 #[ptr fb] w fun e w' => e = .returned (.tuple #[]) ∧ RFAt w' fb bb wb { G with off := false, cutb := false } ∧ Only [fb, bb, wb] w w' := by
  have f2 := h.fr 2
  have f3 := h.fr 3
  have c2 := h.c2
  have c3 := h.c3
  have H := Lib.hid h
  clear h
  go_enter Try.func49, Try.ntmps49
  go_wp2
  go_end0
  have k := H.out.ok
  have h1 := H.out.set2 false ⟨k.len, k.most, k.left1, k.left2, k.mask, k.wear⟩
  exact ⟨rfl, h1.set3 false ⟨k.len, k.most, k.left1, k.left2, k.mask, k.wear⟩, ((Only.refl _ _).setCell (by simp) _).setCell (by simp) _⟩
theorem rcut_c (x : Int) (A : Option Addr) (n c : Nat) (m : List UInt8) (hm : n ≤ 140737488351232) (hr : Reads w A n (m.map u8v)) (hap : 0 < n → ∀ a, A = some a → a.block ≠ fb) (h : RFAt w fb bb wb G) :
    Calls Try.prog 41 #[ptr fb, .int .i64 x, .slice A n c] w fun e w' =>
      e = .returned (.tuple #[]) ∧ RFAt w' fb bb wb { G with cutb := true, left := if x < 0 then 0 else if 1073741824 < x then 1073741824 else x, mask := m } ∧ Only [fb, bb, wb] w w' := by
  obtain ⟨i0, hi, hz0, hz1, hz2⟩ := info_parts info_u8
  have HI := Lib.hid hi
  have HZ0 := Lib.hid hz0
  have HZ1 := Lib.hid hz1
  have HZ2 := Lib.hid hz2
  have hml : m.length = n := by simpa using hr.len
  obtain ⟨y, hy⟩ : ∃ y, (if x < 0 then 0 else if 1073741824 < x then 1073741824 else x) = y := ⟨_, rfl⟩
  have hy0 : 0 ≤ y ∧ y ≤ 1073741824 := by rw [← hy]; split <;> (try split) <;> omega
  have hcut : ∀ W, Calls Try.prog 67 #[.int .i64 x, .int .i64 0, .int .i64 1073741824] W fun e w' => e = .returned (.int .i64 y) ∧ W = w' := fun W => hy ▸ refcut_c x 0 1073741824 W
  rw [hy]
  have f3 := h.fr 3
  have f4 := h.fr 4
  have f5 := h.fr 5
  have c3 := h.c3
  have c4 := h.c4
  obtain ⟨A0, c0, c5, -, -⟩ := h.c5
  have hlt := h.lt
  have H := Lib.hid h
  have HR := Lib.hid hr
  have HM := Lib.hid hml
  clear h hr hy hi hz0 hz1 hz2 hml
  have k := H.out.ok
  have h1 := H.out.set34 true y ⟨k.len, k.most, by show -1 ≤ y; omega, hy0.2, k.mask, k.wear⟩
  obtain ⟨W, hW⟩ : ∃ W, (w.setCell ⟨fb, 3, none⟩ (.bool true)).setCell ⟨fb, 4, none⟩ (.int .i64 y) = W := ⟨_, rfl⟩
  have hO : Only [fb, bb, wb] w W := hW ▸ ((Only.refl _ _).setCell (by simp) _).setCell (by simp) _
  have hrW : Reads W A n (m.map u8v) := by
    by_cases hn : 0 < n
    · rw [← hW]
      exact (HR.out.setCell (hap hn) _).setCell (hap hn) _
    · exact ⟨HR.out.len, fun h => absurd h hn⟩
  rw [hW] at h1
  have HW := Lib.hid h1
  have HOW := Lib.hid hO
  have HRW := Lib.hid hrW
  have f5W := h1.fr 5
  have hbs := hO.size
  clear h1 hO hrW HR H k
  go_enter Try.func41, Try.ntmps41
  go_upto_region 2 with (first | (go_at_call 67; refine (hcut _).mono ?_; rintro e w' ⟨rfl, rfl⟩))
  (try rw [hW])
  clear hW c3 c4 c5 f3 f4 f5
  go_wp2_with (at_builtin; refine wpList_append_any _ rfl (.const (.slice none 0 0)) (.tmp 15) _ rfl W.heap.size 5 i0 (.int .u8 0) 1 Try.underlying29 HI.out HZ0.out HZ1.out HZ2.out rfl _ 0 [] rfl (World.ownsRow_nil _ _ _ _) A n c (m.map u8v) rfl HRW.out (u8v_one _) (by unfold maxLen; omega) (by omega) (Nat.le_refl _) ?_; (intro A2 c2 w2 hown2 hgrow2 hat; simp only [Nat.zero_add, List.nil_append] at hown2 ⊢; have HB2 := Lib.hid (show Below W.heap.size W w2 from (Below.refl W.heap.size W).grown hgrow2 (Nat.le_refl _) (by intro k hk; cases hk)); have HF2 := Lib.hid (HW.out.below HB2.out); have hf52 := HF2.out.fr 5; obtain ⟨A5, c5, hc52, -, -⟩ := HF2.out.c5; have HO2 := Lib.hid hown2; clear hown2 hgrow2 hat))
  go_end0
  have hl2 := HW.out.lt
  have hfl2 := HW.out.farlt
  have hap2 : Apart (fb :: bb :: wb :: G.far) A2 := own_apart HO2.out (by intro k hk; simp only [List.mem_cons] at hk; rcases hk with rfl | rfl | rfl | hk; omega; omega; omega; exact hfl2 k hk)
  have hm2 := HM.out
  have hr2 := Reads.of_own HO2.out
  rw [← hm2] at hr2 ⊢
  exact ⟨rfl, HF2.out.set5 A2 c2 m (by omega) hr2 (fun _ => hap2), (HOW.out.after HB2.out).setCell (by simp) _⟩
end
end Go.Proofs.Ytlchlcjahndjgaa
