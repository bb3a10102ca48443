/- cell.May, cell.Put, cell.Get. -/
import Derived.Test.YtlchlcjahndjgaaFldW
import Derived.Test.YtlchlcjahndjgaaFldR
namespace Go.Proofs.Ytlchlcjahndjgaa
open Go.RowKit
set_option linter.unusedVariables false
set_option linter.unusedSimpArgs false
/-- A cell's bytes. -/
def cellP (seq : Nat) (b : List UInt8) : List UInt8 := dualP (be seq 4 ++ padTo b 156)
theorem cellP_len (seq : Nat) (b : List UInt8) : (cellP seq b).length = 320 := by unfold cellP; rw [dualP_len, List.length_append, be_len, padTo_len]
/-- What a sector's bytes tell: is there a cell, its number, what it holds. -/
def cgN (l : List UInt8) : Nat := ofBe ((evens l).take 4)
def cgO (l : List UInt8) : Bool := dualOk l && decide (l.length = 320) && decide (1 ≤ cgN l) && decide (cgN l ≤ 2147483647)
def cgS (l : List UInt8) : Nat := if cgO l = true then cgN l else 0
def cgB (l : List UInt8) : List UInt8 := if cgO l = true then (evens l).drop 4 else []
theorem cgB_len (l : List UInt8) : (cgB l).length = 156 ∨ (cgB l).length = 0 := by
  unfold cgB
  split
  · rename_i h
    left
    unfold cgO at h
    simp at h
    rw [List.length_drop, evens_len, h.1.1.2]
  · right; rfl
theorem cellmay_c (n : Int) (w : World) : Calls Try.prog 109 #[.int .i64 n] w fun e w' => e = .returned (.bool (decide (1 ≤ n ∧ n ≤ 2147483647))) ∧ w = w' := by
  by_cases h1 : 1 ≤ n
  · go_enter Try.func109, Try.ntmps109
    go_wp2
    go_ret
    exact ⟨bool_ret (by simp [h1]), rfl⟩
  · go_enter Try.func109, Try.ntmps109
    go_wp2
    go_ret
    exact ⟨bool_ret (by simp; omega), rfl⟩
theorem cellget_c (w : World) (A : Option Addr) (n c : Nat) (l : List UInt8) (hr : Reads w A n (l.map u8v)) (hn : n ≤ 100000) :
    Calls Try.prog 118 #[.slice A n c] w fun e w' => ∃ A' c', e = .returned (.tuple #[.int .i64 (cgS l : Int), .slice A' (cgB l).length c', .bool (cgO l)]) ∧ w'.ownsRow w.heap.size 5 1 (.slice A' (cgB l).length c') (cgB l).length ((cgB l).map u8v) ∧ Below w.heap.size w w' := by
  have hl : l.length = n := by simpa using hr.len
  have HL := Lib.hid hl
  have none_ : cgO l = false → cgS l = 0 ∧ cgB l = [] := fun h => by unfold cgS cgB; rw [h]; exact ⟨rfl, rfl⟩
  have hd := dualGet_c w A n c l hr (by omega)
  clear hl hr
  go_enter Try.func118, Try.ntmps118
  go_wp2_with fail
  refine hd.mono ?_
  rintro e w1 ⟨hb1, ⟨h0, rfl⟩ | ⟨h1, A1, c1, rfl, ho1⟩⟩
  · have hO : cgO l = false := by unfold cgO; rw [h0]; rfl
    have HN := Lib.hid none_
    have HOO := Lib.hid hO
    clear none_ hO
    go_wp2_with fail
    go_ret3
    obtain ⟨q1, q2⟩ := HN.out HOO.out
    rw [HOO.out, q1, q2]
    exact ⟨none, 0, rfl, World.ownsRow_nil _ _ _ _, hb1⟩
  · by_cases h320 : n = 320
    · subst h320
      have hall : (evens l).length = 160 := by rw [evens_len, HL.out]
      obtain ⟨X, hX⟩ : ∃ X, evens l = X := ⟨_, rfl⟩
      rw [hX] at hall ho1
      have HX := Lib.hid hX
      have t1 : rdT X false 4 = X.take 4 := by simp [rdT]; omega
      have t2 : rdL X false 4 = X.drop 4 := by simp [rdL]; omega
      have t3 : rdB X false 4 = false := by simp [rdB]; omega
      have t4 : rdT (X.drop 4) false 156 = X.drop 4 := by
        have : (X.drop 4).length = 156 := by rw [List.length_drop]; omega
        unfold rdT
        rw [if_neg (by simp; omega), List.take_of_length_le (by omega)]
      obtain ⟨N, hN⟩ : ∃ N, ofBe (X.take 4) = N := ⟨_, rfl⟩
      have hcN : cgN l = N := by unfold cgN; rw [hX, hN]
      have T1 := Lib.hid t1
      have T2 := Lib.hid t2
      have T3 := Lib.hid t3
      have T4 := Lib.hid t4
      have HN := Lib.hid hN
      have HCN := Lib.hid hcN
      have HA := Lib.hid hall
      have HO1 := Lib.hid ho1
      have HB1 := Lib.hid hb1
      have H1 := Lib.hid h1
      have HNo := Lib.hid none_
      clear t1 t2 t3 t4 hN hcN hall ho1 hb1 h1 hX none_ hd
      go_wp2_with fail
      refine (newReader_c w1 A1 160 c1 X (Reads.of_own HO1.out) (by omega)).mono ?_
      rintro e w2 ⟨p, rfl, hp, hrd2, hb2⟩
      have HP := Lib.hid hrd2
      have hs1 := HB1.out.size
      have HB2 := Lib.hid (HB1.out.trans (hb2.mono hs1))
      clear hrd2 hb2
      go_wp2_with fail
      refine (rnum_c w2 p 4 X false HP.out (by omega) (by omega)).mono ?_
      rintro e w3 ⟨rfl, hrd3, ho3⟩
      rw [T1.out, HN.out]
      rw [T2.out, T3.out] at hrd3
      have HB3 := Lib.hid (ho3.below HB2.out HB2.out.size (by intro k hk; simp at hk; omega))
      have HP3 := Lib.hid hrd3
      clear hrd3 ho3
      have hmay : ∀ W, Calls Try.prog 109 #[.int .i64 (N : Int)] W fun e w' => e = .returned (.bool (decide (1 ≤ N ∧ N ≤ 2147483647))) ∧ W = w' := fun W => by
        refine (cellmay_c (N : Int) W).mono ?_
        rintro e w' ⟨rfl, rfl⟩
        refine ⟨?_, rfl⟩
        congr 2
        apply decide_eq_decide.2
        omega
      by_cases hmN : 1 ≤ N ∧ N ≤ 2147483647
      · have hdm : decide (1 ≤ N ∧ N ≤ 2147483647) = true := decide_eq_true hmN
        rw [hdm] at hmay
        have hO : cgO l = true := by unfold cgO; rw [H1.out, HCN.out, HL.out]; simp; exact hmN
        have q1 : cgS l = N := by unfold cgS; rw [if_pos hO, HCN.out]
        have q2 : cgB l = X.drop 4 := by unfold cgB; rw [if_pos hO, HX.out]
        have q3 : (X.drop 4).length = 156 := by rw [List.length_drop, HA.out]
        have Q3 := Lib.hid q3
        have Q1 := Lib.hid q1
        have Q2 := Lib.hid q2
        have QO := Lib.hid hO
        clear hdm q1 q2 q3 hmN hO
        go_wp2_with (go_at_call 109; refine (hmay _).mono ?_; rintro e w' ⟨rfl, rfl⟩)
        refine (rraw_c w3 p 156 (X.drop 4) false HP3.out (by omega) (by omega)).mono ?_
        rintro e w4 ⟨A4, c4, rfl, hown4, -, ho4⟩
        rw [T4.out, Q3.out] at hown4 ⊢
        have HO4 := Lib.hid hown4
        have HB4 := Lib.hid (ho4.below HB3.out HB3.out.size (by intro k hk; simp at hk; omega))
        have hs3 := HB3.out.size
        clear hown4 ho4
        go_wp2_with fail
        go_ret3
        rw [QO.out, Q1.out, Q2.out, Q3.out]
        exact ⟨A4, c4, rfl, own_base HO4.out hs3, HB4.out⟩
      · have hdm : decide (1 ≤ N ∧ N ≤ 2147483647) = false := decide_eq_false hmN
        rw [hdm] at hmay
        have hO : cgO l = false := by
          unfold cgO
          rw [H1.out, HCN.out, HL.out]
          simp
          omega
        have QO := Lib.hid hO
        clear hdm hmN hO
        go_wp2_with (go_at_call 109; refine (hmay _).mono ?_; rintro e w' ⟨rfl, rfl⟩)
        go_ret3
        obtain ⟨q1, q2⟩ := HNo.out QO.out
        rw [QO.out, q1, q2]
        exact ⟨none, 0, rfl, World.ownsRow_nil _ _ _ _, HB3.out⟩
    · have hO : cgO l = false := by
        unfold cgO
        rw [HL.out]
        simp [h320]
      have HN := Lib.hid none_
      have HOO := Lib.hid hO
      clear hO
      have hd2 : ((n : Int) == 320) = false := by rw [beq_eq_false_iff_ne]; omega
      clear none_ hd
      go_wp2_with fail
      go_ret3
      obtain ⟨q1, q2⟩ := HN.out HOO.out
      rw [HOO.out, q1, q2]
      exact ⟨none, 0, rfl, World.ownsRow_nil _ _ _ _, hb1⟩
end Go.Proofs.Ytlchlcjahndjgaa
