/- cell.May, cell.Put, cell.Get. -/
import Derived.Test.YtlchlcjahndjgaaGreatFldW
import Derived.Test.YtlchlcjahndjgaaGreatFldR
namespace Go.Proofs.YtlchlcjahndjgaaGreat
open Go.RowKit
set_option linter.unusedVariables false
set_option linter.unusedSimpArgs false
/-- A cell's bytes. -/
def cellP (seq : Nat) (b : List UInt8) : List UInt8 := dualP (be seq 4 ++ padTo b 156)
theorem cellP_len (seq : Nat) (b : List UInt8) : (cellP seq b).length = 320 := by unfold cellP; rw [dualP_len, List.length_append, be_len, padTo_len]
/-- What a sector's bytes tell: is there a cell, its number, what it holds. -/
def cgN (l : List UInt8) : Nat := ofBe ((evens l).take 4)
def cgO (l : List UInt8) : Bool := dualOk l && decide (l.length = 320) && decide (1 ≤ cgN l) && decide (cgN l ≤ 2147483647)
def cgS (l : List UInt8) : Nat := if cgO l = true then cgN l else 0
def cgB (l : List UInt8) : List UInt8 := if cgO l = true then (evens l).drop 4 else []
theorem cgB_len (l : List UInt8) : (cgB l).length = 156 ∨ (cgB l).length = 0 := by
  unfold cgB
  split
  · rename_i h
    left
    unfold cgO at h
    simp at h
    rw [List.length_drop, evens_len, h.1.1.2]
  · right; rfl
theorem cellmay_c (n : Int) (w : World) : Calls Tryz.prog 50 #[.int .i64 n] w fun e w' => e = .returned (.bool (decide (1 ≤ n ∧ n ≤ 2147483647))) ∧ w = w' := by
  by_cases h1 : 1 ≤ n
  · go_enter Tryz.func50, Tryz.ntmps50
    go_wp2
    go_ret
    exact ⟨bool_ret (by simp [h1]), rfl⟩
  · go_enter Tryz.func50, Tryz.ntmps50
    go_wp2
    go_ret
    exact ⟨bool_ret (by simp; omega), rfl⟩
theorem cellput_c (w : World) (seq : Nat) (A : Option Addr) (n c : Nat) (b : List UInt8) (hr : Reads w A n (b.map u8v)) (h1 : 1 ≤ seq) (h2 : seq ≤ 2147483647) (hn : n ≤ 156) :
    Calls Tryz.prog 34 #[.int .i64 (seq : Int), .slice A n c] w fun e w' => ∃ A' c', e = .returned (.tuple #[.slice A' 320 c', .int .i64 0]) ∧ w'.ownsRow w.heap.size 5 1 (.slice A' 320 c') 320 ((cellP seq b).map u8v) ∧ Below w.heap.size w w' := by
  have HR := Lib.hid hr
  have hmay : ∀ W, Calls Tryz.prog 50 #[.int .i64 (seq : Int)] W fun e w' => e = .returned (.bool true) ∧ W = w' := fun W => by
    refine (cellmay_c (seq : Int) W).mono ?_
    rintro e w' ⟨rfl, rfl⟩
    exact ⟨by rw [show decide (1 ≤ (seq : Int) ∧ (seq : Int) ≤ 2147483647) = true by rw [decide_eq_true_iff]; omega], rfl⟩
  have hu : IntKind.u64.wrap (seq : Int) = (seq : Int) := by simp [IntKind.wrap, IntKind.bits, IntKind.signed]; omega
  have HU := Lib.hid hu
  clear hr hu
  go_enter Tryz.func34, Tryz.ntmps34
  go_wp2_with (go_at_call 50; refine (hmay _).mono ?_; rintro e w' ⟨rfl, rfl⟩)
  have hw0 : WrAt w.heap.size (w.alloc (.cells #[.slice none 0 0] 96)) w.heap.size [] := ⟨none, 0, Blk.new w _ _, World.ownsRow_nil _ _ _ _⟩
  refine (wnum_c w.heap.size _ w.heap.size [] (seq : Int) seq 4 HU.out (by omega) (by omega) (Nat.le_refl _) (by simp) hw0).mono ?_
  rintro e w1 ⟨rfl, hw1, hb1⟩
  have hb01 : Below w.heap.size w w1 := ((Below.refl _ w).alloc (Nat.le_refl _) _).trans hb1
  go_wp2_with fail
  refine (wraw_c w.heap.size w1 w.heap.size ([] ++ be seq 4) A n c b 156 (HR.out.below hb01) (by omega) (by omega) (by omega) (Nat.le_refl _) (by simp [be_len]) hw1).mono ?_
  rintro e w2 ⟨rfl, hw2, hb2⟩
  have hb02 := hb01.trans hb2
  go_wp2_with fail
  refine (wbytes_c w.heap.size w2 w.heap.size ([] ++ be seq 4 ++ padTo b 156) (by simp [be_len, padTo_len]) hw2).mono ?_
  rintro e w3 ⟨A3, c3, rfl, ho3, hb3⟩
  have hlen : ([] ++ be seq 4 ++ padTo b 156).length = 160 := by simp [be_len, padTo_len]
  rw [hlen] at ho3
  have hs2 := hb02.size
  have hb03 := hb02.trans (hb3.mono hs2)
  simp only [hlen]
  go_wp2_with fail
  refine (dualPut_c w3 A3 160 c3 _ (Reads.of_own ho3) (by omega)).mono ?_
  rintro e w4 ⟨A4, c4, rfl, ho4, hb4⟩
  have hs3 := hb03.size
  go_wp2_with fail
  go_ret2
  exact ⟨A4, c4, rfl, own_base ho4 hs3, hb03.trans (hb4.mono hs3)⟩
theorem cellget_c (w : World) (A : Option Addr) (n c : Nat) (l : List UInt8) (hr : Reads w A n (l.map u8v)) (hn : n ≤ 100000) :
    Calls Tryz.prog 67 #[.slice A n c] w fun e w' => ∃ A' c', e = .returned (.tuple #[.int .i64 (cgS l : Int), .slice A' (cgB l).length c', .bool (cgO l)]) ∧ w'.ownsRow w.heap.size 5 1 (.slice A' (cgB l).length c') (cgB l).length ((cgB l).map u8v) ∧ Below w.heap.size w w' := by
  have hl : l.length = n := by simpa using hr.len
  have HL := Lib.hid hl
  have none_ : cgO l = false → cgS l = 0 ∧ cgB l = [] := fun h => by unfold cgS cgB; rw [h]; exact ⟨rfl, rfl⟩
  have hd := dualGet_c w A n c l hr (by omega)
  clear hl hr
  go_enter Tryz.func67, Tryz.ntmps67
  go_wp2_with fail
  refine hd.mono ?_
  rintro e w1 ⟨hb1, ⟨h0, rfl⟩ | ⟨h1, A1, c1, rfl, ho1⟩⟩
  · have hO : cgO l = false := by unfold cgO; rw [h0]; rfl
    have HN := Lib.hid none_
    have HOO := Lib.hid hO
    clear none_ hO
    go_wp2_with fail
    go_ret3
    obtain ⟨q1, q2⟩ := HN.out HOO.out
    rw [HOO.out, q1, q2]
    exact ⟨none, 0, rfl, World.ownsRow_nil _ _ _ _, hb1⟩
  · by_cases h320 : n = 320
    · subst h320
      have hall : (evens l).length = 160 := by rw [evens_len, HL.out]
      obtain ⟨X, hX⟩ : ∃ X, evens l = X := ⟨_, rfl⟩
      rw [hX] at hall ho1
      have HX := Lib.hid hX
      have t1 : rdT X false 4 = X.take 4 := by simp [rdT]; omega
      have t2 : rdL X false 4 = X.drop 4 := by simp [rdL]; omega
      have t3 : rdB X false 4 = false := by simp [rdB]; omega
      have t4 : rdT (X.drop 4) false 156 = X.drop 4 := by
        have : (X.drop 4).length = 156 := by rw [List.length_drop]; omega
        unfold rdT
        rw [if_neg (by simp; omega), List.take_of_length_le (by omega)]
      obtain ⟨N, hN⟩ : ∃ N, ofBe (X.take 4) = N := ⟨_, rfl⟩
      have hcN : cgN l = N := by unfold cgN; rw [hX, hN]
      have T1 := Lib.hid t1
      have T2 := Lib.hid t2
      have T3 := Lib.hid t3
      have T4 := Lib.hid t4
      have HN := Lib.hid hN
      have HCN := Lib.hid hcN
      have HA := Lib.hid hall
      have HO1 := Lib.hid ho1
      have HB1 := Lib.hid hb1
      have H1 := Lib.hid h1
      have HNo := Lib.hid none_
      clear t1 t2 t3 t4 hN hcN hall ho1 hb1 h1 hX none_ hd
      go_wp2_with fail
      refine (newReader_c w1 A1 160 c1 X (Reads.of_own HO1.out) (by omega)).mono ?_
      rintro e w2 ⟨p, rfl, hp, hrd2, hb2⟩
      have HP := Lib.hid hrd2
      have hs1 := HB1.out.size
      have HB2 := Lib.hid (HB1.out.trans (hb2.mono hs1))
      clear hrd2 hb2
      go_wp2_with fail
      refine (rnum_c w2 p 4 X false HP.out (by omega) (by omega)).mono ?_
      rintro e w3 ⟨rfl, hrd3, ho3⟩
      rw [T1.out, HN.out]
      rw [T2.out, T3.out] at hrd3
      have HB3 := Lib.hid (ho3.below HB2.out HB2.out.size (by intro k hk; simp at hk; omega))
      have HP3 := Lib.hid hrd3
      clear hrd3 ho3
      have hmay : ∀ W, Calls Tryz.prog 50 #[.int .i64 (N : Int)] W fun e w' => e = .returned (.bool (decide (1 ≤ N ∧ N ≤ 2147483647))) ∧ W = w' := fun W => by
        refine (cellmay_c (N : Int) W).mono ?_
        rintro e w' ⟨rfl, rfl⟩
        refine ⟨?_, rfl⟩
        congr 2
        apply decide_eq_decide.2
        omega
      by_cases hmN : 1 ≤ N ∧ N ≤ 2147483647
      · have hdm : decide (1 ≤ N ∧ N ≤ 2147483647) = true := decide_eq_true hmN
        rw [hdm] at hmay
        have hO : cgO l = true := by unfold cgO; rw [H1.out, HCN.out, HL.out]; simp; exact hmN
        have q1 : cgS l = N := by unfold cgS; rw [if_pos hO, HCN.out]
        have q2 : cgB l = X.drop 4 := by unfold cgB; rw [if_pos hO, HX.out]
        have q3 : (X.drop 4).length = 156 := by rw [List.length_drop, HA.out]
        have Q3 := Lib.hid q3
        have Q1 := Lib.hid q1
        have Q2 := Lib.hid q2
        have QO := Lib.hid hO
        clear hdm q1 q2 q3 hmN hO
        go_wp2_with (go_at_call 50; refine (hmay _).mono ?_; rintro e w' ⟨rfl, rfl⟩)
        refine (rraw_c w3 p 156 (X.drop 4) false HP3.out (by omega) (by omega)).mono ?_
        rintro e w4 ⟨A4, c4, rfl, hown4, -, ho4⟩
        rw [T4.out, Q3.out] at hown4 ⊢
        have HO4 := Lib.hid hown4
        have HB4 := Lib.hid (ho4.below HB3.out HB3.out.size (by intro k hk; simp at hk; omega))
        have hs3 := HB3.out.size
        clear hown4 ho4
        go_wp2_with fail
        go_ret3
        rw [QO.out, Q1.out, Q2.out, Q3.out]
        exact ⟨A4, c4, rfl, own_base HO4.out hs3, HB4.out⟩
      · have hdm : decide (1 ≤ N ∧ N ≤ 2147483647) = false := decide_eq_false hmN
        rw [hdm] at hmay
        have hO : cgO l = false := by
          unfold cgO
          rw [H1.out, HCN.out, HL.out]
          simp
          omega
        have QO := Lib.hid hO
        clear hdm hmN hO
        go_wp2_with (go_at_call 50; refine (hmay _).mono ?_; rintro e w' ⟨rfl, rfl⟩)
        go_ret3
        obtain ⟨q1, q2⟩ := HNo.out QO.out
        rw [QO.out, q1, q2]
        exact ⟨none, 0, rfl, World.ownsRow_nil _ _ _ _, HB3.out⟩
    · have hO : cgO l = false := by
        unfold cgO
        rw [HL.out]
        simp [h320]
      have HN := Lib.hid none_
      have HOO := Lib.hid hO
      clear hO
      have hd2 : ((n : Int) == 320) = false := by rw [beq_eq_false_iff_ne]; omega
      clear none_ hd
      go_wp2_with fail
      go_ret3
      obtain ⟨q1, q2⟩ := HN.out HOO.out
      rw [HOO.out, q1, q2]
      exact ⟨none, 0, rfl, World.ownsRow_nil _ _ _ _, hb1⟩
end Go.Proofs.YtlchlcjahndjgaaGreat
