/- meta.Right: may a Meta be? -/
import Derived.Test.YtpbdglocfjbbfaaDoorMu
namespace Go.Proofs.YtpbdglocfjbbfaaDoor
open Go Go.RowKit
set_option linter.unusedVariables false
set_option linter.unusedSimpArgs false
attribute [local go_sem ↓] sldI_seal sldM_seal
def Mt.right (m : Mt) : Bool :=
  decide (0 ≤ m.act) && (decide (m.act ≤ 1) && (m.h0.may && (m.h1.may && (m.cm.may && (!(m.have_ m.act).none && (decide (0 ≤ m.mn) && (decide (m.mn ≤ 1073741824) && (decide (0 ≤ m.got) && (decide (m.got ≤ 6) && (decide (0 ≤ m.tr) && (decide (m.tr ≤ 2) && m.phaseB)))))))))))
set_option maxRecDepth 100000 in
set_option maxHeartbeats 20000000 in
theorem right_c (w : World) (m : Mt) (h : m.Ok) : Calls Tryd.prog 19 #[.agg m.cells.toArray] w fun e w' => e = .returned (.bool m.right) ∧ Below w.heap.size w w' := by
  have hB := Lib.hid (Blk.new w 27 m.cells.toArray)
  have hbel : Below w.heap.size w (w.alloc (.cells m.cells.toArray 27)) := (Below.refl _ _).alloc (Nat.le_refl _) _
  have HBEL := Lib.hid hbel
  obtain ⟨act, e0⟩ : ∃ x, m.act = x := ⟨_, rfl⟩
  obtain ⟨mn, e1⟩ : ∃ x, m.mn = x := ⟨_, rfl⟩
  obtain ⟨ph, e2⟩ : ∃ x, m.ph = x := ⟨_, rfl⟩
  obtain ⟨got, e3⟩ : ∃ x, m.got = x := ⟨_, rfl⟩
  obtain ⟨tr, e4⟩ : ∃ x, m.tr = x := ⟨_, rfl⟩
  obtain ⟨H0, eH0⟩ : ∃ x, m.h0.may = x := ⟨_, rfl⟩
  obtain ⟨H1, eH1⟩ : ∃ x, m.h1.may = x := ⟨_, rfl⟩
  obtain ⟨A, eA⟩ : ∃ x, (m.have_ act).none = x := ⟨_, rfl⟩
  obtain ⟨PB, eP⟩ : ∃ x, m.phaseB = x := ⟨_, rfl⟩
  have him0 : ∀ W, Calls Tryd.prog 30 #[.agg m.h0.cells.toArray] W fun e w' => e = .returned (.bool H0) ∧ Below W.heap.size W w' := fun W => eH0 ▸ image_c W m.h0 h.d0
  have him1 : ∀ W, Calls Tryd.prog 30 #[.agg m.h1.cells.toArray] W fun e w' => e = .returned (.bool H1) ∧ Below W.heap.size W w' := fun W => eH1 ▸ image_c W m.h1 h.d1
  have him2 : ∀ W, Calls Tryd.prog 30 #[.agg m.cm.cells.toArray] W fun e w' => e = .returned (.bool m.cm.may) ∧ Below W.heap.size W w' := fun W => image_c W m.cm h.d2
  have hphz0 : (m.act = 0 ∨ m.act = 1) → m.cm.may = true → ∀ W, Calls Tryd.prog 32 #[.agg m.cells.toArray] W fun e w' => e = .returned (.bool PB) ∧ Below W.heap.size W w' := fun ha hc W => eP ▸ phase_c W m h ha (Img.may_b hc).2
  have hR : m.right = (decide (0 ≤ act) && (decide (act ≤ 1) && (H0 && (H1 && (m.cm.may && (!A && (decide (0 ≤ mn) && (decide (mn ≤ 1073741824) && (decide (0 ≤ got) && (decide (got ≤ 6) && (decide (0 ≤ tr) && (decide (tr ≤ 2) && PB)))))))))))) := by
    unfold Mt.right
    rw [e0, e1, e3, e4, eH0, eH1, eA, eP]
  rw [hR]
  have hall : ∀ W, Below (w.heap.size + 1) (w.alloc (.cells m.cells.toArray 27)) W → _ := fun W hb => mall h (hB.out.below hb (by omega)) act mn ph got tr e0 e1 e2 e3 e4
  have hz : (w.alloc (.cells m.cells.toArray 27)).heap.size = w.heap.size + 1 := by simp
  have h00 := hall _ (Below.refl _ _)
  rw [e0] at hphz0
  have HALL := Lib.hid hall
  have HZ := Lib.hid hz
  have HA := Lib.hid eA
  have HD := Lib.hid h
  have HPZ := Lib.hid hphz0
  clear hR hall hz e0 e1 e2 e3 e4 eH0 eH1 eA eP h hB hbel hphz0
  have HB0 := Lib.hid (Below.refl (w.heap.size + 1) (w.alloc (.cells m.cells.toArray 27)))
  obtain ⟨c0, c69, c70, c105, c106, l1, l35, l71, lM⟩ := h00
  by_cases s1 : act < 0
  · go_enter Tryd.func19, Tryd.ntmps19
    go_wp2_with fail
    go_ret
    exact ⟨mbool_ret (by first | rfl | (simp; done) | (simp [*]; done) | (simp; omega)), HBEL.out.trans (HB0.out.mono (Nat.le_succ _))⟩
  by_cases s2 : 1 < act
  · go_enter Tryd.func19, Tryd.ntmps19
    go_wp2_with fail
    go_ret
    exact ⟨mbool_ret (by first | rfl | (simp; done) | (simp [*]; done) | (simp; omega)), HBEL.out.trans (HB0.out.mono (Nat.le_succ _))⟩
  have s3 : act = 0 ∨ act = 1 := by omega
  clear s1 s2
  rcases s3 with rfl | rfl
  · have hphz := HPZ.out (by omega)
    have hna : ∀ W, Calls Tryd.prog 31 #[.agg m.h0.cells.toArray] W fun e w' => e = .returned (.bool A) ∧ Below W.heap.size W w' := fun W => HA.out ▸ none_c W m.h0 HD.out.d0
    cases H0
    · go_enter Tryd.func19, Tryd.ntmps19
      go_wp2_with fail
      refine (him0 _).mono ?_
      rintro e v1 ⟨rfl, hb⟩
      have HB1 := Lib.hid (HB0.out.trans (hb.mono (by have := HB0.out.size; have := HZ.out; omega)))
      clear c0 c69 c70 c105 c106 l1 l35 l71 lM hb
      obtain ⟨c0, c69, c70, c105, c106, l1, l35, l71, lM⟩ := HALL.out _ HB1.out
      go_wp2_with fail
      go_ret
      exact ⟨mbool_ret (by first | rfl | (simp; done) | (simp [*]; done) | (simp; omega)), HBEL.out.trans (HB1.out.mono (Nat.le_succ _))⟩
    · cases H1
      · go_enter Tryd.func19, Tryd.ntmps19
        go_wp2_with fail
        refine (him0 _).mono ?_
        rintro e v1 ⟨rfl, hb⟩
        have HB1 := Lib.hid (HB0.out.trans (hb.mono (by have := HB0.out.size; have := HZ.out; omega)))
        clear c0 c69 c70 c105 c106 l1 l35 l71 lM hb
        obtain ⟨c0, c69, c70, c105, c106, l1, l35, l71, lM⟩ := HALL.out _ HB1.out
        go_wp2_with fail
        refine (him1 _).mono ?_
        rintro e v2 ⟨rfl, hb⟩
        have HB2 := Lib.hid (HB1.out.trans (hb.mono (by have := HB1.out.size; have := HZ.out; omega)))
        clear c0 c69 c70 c105 c106 l1 l35 l71 lM hb
        obtain ⟨c0, c69, c70, c105, c106, l1, l35, l71, lM⟩ := HALL.out _ HB2.out
        go_wp2_with fail
        go_ret
        exact ⟨mbool_ret (by first | rfl | (simp; done) | (simp [*]; done) | (simp; omega)), HBEL.out.trans (HB2.out.mono (Nat.le_succ _))⟩
      · cases hCM : m.cm.may
        · have him2 := fun W => hCM ▸ him2 W
          go_enter Tryd.func19, Tryd.ntmps19
          go_wp2_with fail
          refine (him0 _).mono ?_
          rintro e v1 ⟨rfl, hb⟩
          have HB1 := Lib.hid (HB0.out.trans (hb.mono (by have := HB0.out.size; have := HZ.out; omega)))
          clear c0 c69 c70 c105 c106 l1 l35 l71 lM hb
          obtain ⟨c0, c69, c70, c105, c106, l1, l35, l71, lM⟩ := HALL.out _ HB1.out
          go_wp2_with fail
          refine (him1 _).mono ?_
          rintro e v2 ⟨rfl, hb⟩
          have HB2 := Lib.hid (HB1.out.trans (hb.mono (by have := HB1.out.size; have := HZ.out; omega)))
          clear c0 c69 c70 c105 c106 l1 l35 l71 lM hb
          obtain ⟨c0, c69, c70, c105, c106, l1, l35, l71, lM⟩ := HALL.out _ HB2.out
          go_wp2_with fail
          refine (him2 _).mono ?_
          rintro e v3 ⟨rfl, hb⟩
          have HB3 := Lib.hid (HB2.out.trans (hb.mono (by have := HB2.out.size; have := HZ.out; omega)))
          clear c0 c69 c70 c105 c106 l1 l35 l71 lM hb
          obtain ⟨c0, c69, c70, c105, c106, l1, l35, l71, lM⟩ := HALL.out _ HB3.out
          go_wp2_with fail
          go_ret
          exact ⟨mbool_ret (by first | rfl | (simp; done) | (simp [*]; done) | (simp; omega)), HBEL.out.trans (HB3.out.mono (Nat.le_succ _))⟩
        · have him2 := fun W => hCM ▸ him2 W
          have hph := fun W => hphz hCM W
          clear hCM
          cases A
          · by_cases t1 : mn < 0
            · go_enter Tryd.func19, Tryd.ntmps19
              go_wp2_with fail
              refine (him0 _).mono ?_
              rintro e v1 ⟨rfl, hb⟩
              have HB1 := Lib.hid (HB0.out.trans (hb.mono (by have := HB0.out.size; have := HZ.out; omega)))
              clear c0 c69 c70 c105 c106 l1 l35 l71 lM hb
              obtain ⟨c0, c69, c70, c105, c106, l1, l35, l71, lM⟩ := HALL.out _ HB1.out
              go_wp2_with fail
              refine (him1 _).mono ?_
              rintro e v2 ⟨rfl, hb⟩
              have HB2 := Lib.hid (HB1.out.trans (hb.mono (by have := HB1.out.size; have := HZ.out; omega)))
              clear c0 c69 c70 c105 c106 l1 l35 l71 lM hb
              obtain ⟨c0, c69, c70, c105, c106, l1, l35, l71, lM⟩ := HALL.out _ HB2.out
              go_wp2_with fail
              refine (him2 _).mono ?_
              rintro e v3 ⟨rfl, hb⟩
              have HB3 := Lib.hid (HB2.out.trans (hb.mono (by have := HB2.out.size; have := HZ.out; omega)))
              clear c0 c69 c70 c105 c106 l1 l35 l71 lM hb
              obtain ⟨c0, c69, c70, c105, c106, l1, l35, l71, lM⟩ := HALL.out _ HB3.out
              go_wp2_with fail
              refine (hna _).mono ?_
              rintro e v4 ⟨rfl, hb⟩
              have HB4 := Lib.hid (HB3.out.trans (hb.mono (by have := HB3.out.size; have := HZ.out; omega)))
              clear c0 c69 c70 c105 c106 l1 l35 l71 lM hb
              obtain ⟨c0, c69, c70, c105, c106, l1, l35, l71, lM⟩ := HALL.out _ HB4.out
              go_wp2_with fail
              go_ret
              exact ⟨mbool_ret (by first | rfl | (simp; done) | (simp [*]; done) | (simp; omega)), HBEL.out.trans (HB4.out.mono (Nat.le_succ _))⟩
            · by_cases t2 : 1073741824 < mn
              · go_enter Tryd.func19, Tryd.ntmps19
                go_wp2_with fail
                refine (him0 _).mono ?_
                rintro e v1 ⟨rfl, hb⟩
                have HB1 := Lib.hid (HB0.out.trans (hb.mono (by have := HB0.out.size; have := HZ.out; omega)))
                clear c0 c69 c70 c105 c106 l1 l35 l71 lM hb
                obtain ⟨c0, c69, c70, c105, c106, l1, l35, l71, lM⟩ := HALL.out _ HB1.out
                go_wp2_with fail
                refine (him1 _).mono ?_
                rintro e v2 ⟨rfl, hb⟩
                have HB2 := Lib.hid (HB1.out.trans (hb.mono (by have := HB1.out.size; have := HZ.out; omega)))
                clear c0 c69 c70 c105 c106 l1 l35 l71 lM hb
                obtain ⟨c0, c69, c70, c105, c106, l1, l35, l71, lM⟩ := HALL.out _ HB2.out
                go_wp2_with fail
                refine (him2 _).mono ?_
                rintro e v3 ⟨rfl, hb⟩
                have HB3 := Lib.hid (HB2.out.trans (hb.mono (by have := HB2.out.size; have := HZ.out; omega)))
                clear c0 c69 c70 c105 c106 l1 l35 l71 lM hb
                obtain ⟨c0, c69, c70, c105, c106, l1, l35, l71, lM⟩ := HALL.out _ HB3.out
                go_wp2_with fail
                refine (hna _).mono ?_
                rintro e v4 ⟨rfl, hb⟩
                have HB4 := Lib.hid (HB3.out.trans (hb.mono (by have := HB3.out.size; have := HZ.out; omega)))
                clear c0 c69 c70 c105 c106 l1 l35 l71 lM hb
                obtain ⟨c0, c69, c70, c105, c106, l1, l35, l71, lM⟩ := HALL.out _ HB4.out
                go_wp2_with fail
                go_ret
                exact ⟨mbool_ret (by first | rfl | (simp; done) | (simp [*]; done) | (simp; omega)), HBEL.out.trans (HB4.out.mono (Nat.le_succ _))⟩
              · by_cases t3 : got < 0
                · go_enter Tryd.func19, Tryd.ntmps19
                  go_wp2_with fail
                  refine (him0 _).mono ?_
                  rintro e v1 ⟨rfl, hb⟩
                  have HB1 := Lib.hid (HB0.out.trans (hb.mono (by have := HB0.out.size; have := HZ.out; omega)))
                  clear c0 c69 c70 c105 c106 l1 l35 l71 lM hb
                  obtain ⟨c0, c69, c70, c105, c106, l1, l35, l71, lM⟩ := HALL.out _ HB1.out
                  go_wp2_with fail
                  refine (him1 _).mono ?_
                  rintro e v2 ⟨rfl, hb⟩
                  have HB2 := Lib.hid (HB1.out.trans (hb.mono (by have := HB1.out.size; have := HZ.out; omega)))
                  clear c0 c69 c70 c105 c106 l1 l35 l71 lM hb
                  obtain ⟨c0, c69, c70, c105, c106, l1, l35, l71, lM⟩ := HALL.out _ HB2.out
                  go_wp2_with fail
                  refine (him2 _).mono ?_
                  rintro e v3 ⟨rfl, hb⟩
                  have HB3 := Lib.hid (HB2.out.trans (hb.mono (by have := HB2.out.size; have := HZ.out; omega)))
                  clear c0 c69 c70 c105 c106 l1 l35 l71 lM hb
                  obtain ⟨c0, c69, c70, c105, c106, l1, l35, l71, lM⟩ := HALL.out _ HB3.out
                  go_wp2_with fail
                  refine (hna _).mono ?_
                  rintro e v4 ⟨rfl, hb⟩
                  have HB4 := Lib.hid (HB3.out.trans (hb.mono (by have := HB3.out.size; have := HZ.out; omega)))
                  clear c0 c69 c70 c105 c106 l1 l35 l71 lM hb
                  obtain ⟨c0, c69, c70, c105, c106, l1, l35, l71, lM⟩ := HALL.out _ HB4.out
                  go_wp2_with fail
                  go_ret
                  exact ⟨mbool_ret (by first | rfl | (simp; done) | (simp [*]; done) | (simp; omega)), HBEL.out.trans (HB4.out.mono (Nat.le_succ _))⟩
                · by_cases t4 : 6 < got
                  · go_enter Tryd.func19, Tryd.ntmps19
                    go_wp2_with fail
                    refine (him0 _).mono ?_
                    rintro e v1 ⟨rfl, hb⟩
                    have HB1 := Lib.hid (HB0.out.trans (hb.mono (by have := HB0.out.size; have := HZ.out; omega)))
                    clear c0 c69 c70 c105 c106 l1 l35 l71 lM hb
                    obtain ⟨c0, c69, c70, c105, c106, l1, l35, l71, lM⟩ := HALL.out _ HB1.out
                    go_wp2_with fail
                    refine (him1 _).mono ?_
                    rintro e v2 ⟨rfl, hb⟩
                    have HB2 := Lib.hid (HB1.out.trans (hb.mono (by have := HB1.out.size; have := HZ.out; omega)))
                    clear c0 c69 c70 c105 c106 l1 l35 l71 lM hb
                    obtain ⟨c0, c69, c70, c105, c106, l1, l35, l71, lM⟩ := HALL.out _ HB2.out
                    go_wp2_with fail
                    refine (him2 _).mono ?_
                    rintro e v3 ⟨rfl, hb⟩
                    have HB3 := Lib.hid (HB2.out.trans (hb.mono (by have := HB2.out.size; have := HZ.out; omega)))
                    clear c0 c69 c70 c105 c106 l1 l35 l71 lM hb
                    obtain ⟨c0, c69, c70, c105, c106, l1, l35, l71, lM⟩ := HALL.out _ HB3.out
                    go_wp2_with fail
                    refine (hna _).mono ?_
                    rintro e v4 ⟨rfl, hb⟩
                    have HB4 := Lib.hid (HB3.out.trans (hb.mono (by have := HB3.out.size; have := HZ.out; omega)))
                    clear c0 c69 c70 c105 c106 l1 l35 l71 lM hb
                    obtain ⟨c0, c69, c70, c105, c106, l1, l35, l71, lM⟩ := HALL.out _ HB4.out
                    go_wp2_with fail
                    go_ret
                    exact ⟨mbool_ret (by first | rfl | (simp; done) | (simp [*]; done) | (simp; omega)), HBEL.out.trans (HB4.out.mono (Nat.le_succ _))⟩
                  · by_cases t5 : tr < 0
                    · go_enter Tryd.func19, Tryd.ntmps19
                      go_wp2_with fail
                      refine (him0 _).mono ?_
                      rintro e v1 ⟨rfl, hb⟩
                      have HB1 := Lib.hid (HB0.out.trans (hb.mono (by have := HB0.out.size; have := HZ.out; omega)))
                      clear c0 c69 c70 c105 c106 l1 l35 l71 lM hb
                      obtain ⟨c0, c69, c70, c105, c106, l1, l35, l71, lM⟩ := HALL.out _ HB1.out
                      go_wp2_with fail
                      refine (him1 _).mono ?_
                      rintro e v2 ⟨rfl, hb⟩
                      have HB2 := Lib.hid (HB1.out.trans (hb.mono (by have := HB1.out.size; have := HZ.out; omega)))
                      clear c0 c69 c70 c105 c106 l1 l35 l71 lM hb
                      obtain ⟨c0, c69, c70, c105, c106, l1, l35, l71, lM⟩ := HALL.out _ HB2.out
                      go_wp2_with fail
                      refine (him2 _).mono ?_
                      rintro e v3 ⟨rfl, hb⟩
                      have HB3 := Lib.hid (HB2.out.trans (hb.mono (by have := HB2.out.size; have := HZ.out; omega)))
                      clear c0 c69 c70 c105 c106 l1 l35 l71 lM hb
                      obtain ⟨c0, c69, c70, c105, c106, l1, l35, l71, lM⟩ := HALL.out _ HB3.out
                      go_wp2_with fail
                      refine (hna _).mono ?_
                      rintro e v4 ⟨rfl, hb⟩
                      have HB4 := Lib.hid (HB3.out.trans (hb.mono (by have := HB3.out.size; have := HZ.out; omega)))
                      clear c0 c69 c70 c105 c106 l1 l35 l71 lM hb
                      obtain ⟨c0, c69, c70, c105, c106, l1, l35, l71, lM⟩ := HALL.out _ HB4.out
                      go_wp2_with fail
                      go_ret
                      exact ⟨mbool_ret (by first | rfl | (simp; done) | (simp [*]; done) | (simp; omega)), HBEL.out.trans (HB4.out.mono (Nat.le_succ _))⟩
                    · by_cases t6 : 2 < tr
                      · go_enter Tryd.func19, Tryd.ntmps19
                        go_wp2_with fail
                        refine (him0 _).mono ?_
                        rintro e v1 ⟨rfl, hb⟩
                        have HB1 := Lib.hid (HB0.out.trans (hb.mono (by have := HB0.out.size; have := HZ.out; omega)))
                        clear c0 c69 c70 c105 c106 l1 l35 l71 lM hb
                        obtain ⟨c0, c69, c70, c105, c106, l1, l35, l71, lM⟩ := HALL.out _ HB1.out
                        go_wp2_with fail
                        refine (him1 _).mono ?_
                        rintro e v2 ⟨rfl, hb⟩
                        have HB2 := Lib.hid (HB1.out.trans (hb.mono (by have := HB1.out.size; have := HZ.out; omega)))
                        clear c0 c69 c70 c105 c106 l1 l35 l71 lM hb
                        obtain ⟨c0, c69, c70, c105, c106, l1, l35, l71, lM⟩ := HALL.out _ HB2.out
                        go_wp2_with fail
                        refine (him2 _).mono ?_
                        rintro e v3 ⟨rfl, hb⟩
                        have HB3 := Lib.hid (HB2.out.trans (hb.mono (by have := HB2.out.size; have := HZ.out; omega)))
                        clear c0 c69 c70 c105 c106 l1 l35 l71 lM hb
                        obtain ⟨c0, c69, c70, c105, c106, l1, l35, l71, lM⟩ := HALL.out _ HB3.out
                        go_wp2_with fail
                        refine (hna _).mono ?_
                        rintro e v4 ⟨rfl, hb⟩
                        have HB4 := Lib.hid (HB3.out.trans (hb.mono (by have := HB3.out.size; have := HZ.out; omega)))
                        clear c0 c69 c70 c105 c106 l1 l35 l71 lM hb
                        obtain ⟨c0, c69, c70, c105, c106, l1, l35, l71, lM⟩ := HALL.out _ HB4.out
                        go_wp2_with fail
                        go_ret
                        exact ⟨mbool_ret (by first | rfl | (simp; done) | (simp [*]; done) | (simp; omega)), HBEL.out.trans (HB4.out.mono (Nat.le_succ _))⟩
                      · go_enter Tryd.func19, Tryd.ntmps19
                        go_wp2_with fail
                        refine (him0 _).mono ?_
                        rintro e v1 ⟨rfl, hb⟩
                        have HB1 := Lib.hid (HB0.out.trans (hb.mono (by have := HB0.out.size; have := HZ.out; omega)))
                        clear c0 c69 c70 c105 c106 l1 l35 l71 lM hb
                        obtain ⟨c0, c69, c70, c105, c106, l1, l35, l71, lM⟩ := HALL.out _ HB1.out
                        go_wp2_with fail
                        refine (him1 _).mono ?_
                        rintro e v2 ⟨rfl, hb⟩
                        have HB2 := Lib.hid (HB1.out.trans (hb.mono (by have := HB1.out.size; have := HZ.out; omega)))
                        clear c0 c69 c70 c105 c106 l1 l35 l71 lM hb
                        obtain ⟨c0, c69, c70, c105, c106, l1, l35, l71, lM⟩ := HALL.out _ HB2.out
                        go_wp2_with fail
                        refine (him2 _).mono ?_
                        rintro e v3 ⟨rfl, hb⟩
                        have HB3 := Lib.hid (HB2.out.trans (hb.mono (by have := HB2.out.size; have := HZ.out; omega)))
                        clear c0 c69 c70 c105 c106 l1 l35 l71 lM hb
                        obtain ⟨c0, c69, c70, c105, c106, l1, l35, l71, lM⟩ := HALL.out _ HB3.out
                        go_wp2_with fail
                        refine (hna _).mono ?_
                        rintro e v4 ⟨rfl, hb⟩
                        have HB4 := Lib.hid (HB3.out.trans (hb.mono (by have := HB3.out.size; have := HZ.out; omega)))
                        clear c0 c69 c70 c105 c106 l1 l35 l71 lM hb
                        obtain ⟨c0, c69, c70, c105, c106, l1, l35, l71, lM⟩ := HALL.out _ HB4.out
                        go_wp2_with fail
                        refine (hph _).mono ?_
                        rintro e v5 ⟨rfl, hb⟩
                        have HB5 := Lib.hid (HB4.out.trans (hb.mono (by have := HB4.out.size; have := HZ.out; omega)))
                        clear c0 c69 c70 c105 c106 l1 l35 l71 lM hb
                        obtain ⟨c0, c69, c70, c105, c106, l1, l35, l71, lM⟩ := HALL.out _ HB5.out
                        go_wp2_with fail
                        go_ret
                        exact ⟨mbool_ret (by first | rfl | (simp; done) | (simp [*]; done) | (simp; omega)), HBEL.out.trans (HB5.out.mono (Nat.le_succ _))⟩
          · go_enter Tryd.func19, Tryd.ntmps19
            go_wp2_with fail
            refine (him0 _).mono ?_
            rintro e v1 ⟨rfl, hb⟩
            have HB1 := Lib.hid (HB0.out.trans (hb.mono (by have := HB0.out.size; have := HZ.out; omega)))
            clear c0 c69 c70 c105 c106 l1 l35 l71 lM hb
            obtain ⟨c0, c69, c70, c105, c106, l1, l35, l71, lM⟩ := HALL.out _ HB1.out
            go_wp2_with fail
            refine (him1 _).mono ?_
            rintro e v2 ⟨rfl, hb⟩
            have HB2 := Lib.hid (HB1.out.trans (hb.mono (by have := HB1.out.size; have := HZ.out; omega)))
            clear c0 c69 c70 c105 c106 l1 l35 l71 lM hb
            obtain ⟨c0, c69, c70, c105, c106, l1, l35, l71, lM⟩ := HALL.out _ HB2.out
            go_wp2_with fail
            refine (him2 _).mono ?_
            rintro e v3 ⟨rfl, hb⟩
            have HB3 := Lib.hid (HB2.out.trans (hb.mono (by have := HB2.out.size; have := HZ.out; omega)))
            clear c0 c69 c70 c105 c106 l1 l35 l71 lM hb
            obtain ⟨c0, c69, c70, c105, c106, l1, l35, l71, lM⟩ := HALL.out _ HB3.out
            go_wp2_with fail
            refine (hna _).mono ?_
            rintro e v4 ⟨rfl, hb⟩
            have HB4 := Lib.hid (HB3.out.trans (hb.mono (by have := HB3.out.size; have := HZ.out; omega)))
            clear c0 c69 c70 c105 c106 l1 l35 l71 lM hb
            obtain ⟨c0, c69, c70, c105, c106, l1, l35, l71, lM⟩ := HALL.out _ HB4.out
            go_wp2_with fail
            go_ret
            exact ⟨mbool_ret (by first | rfl | (simp; done) | (simp [*]; done) | (simp; omega)), HBEL.out.trans (HB4.out.mono (Nat.le_succ _))⟩
  · have hphz := HPZ.out (by omega)
    have hna : ∀ W, Calls Tryd.prog 31 #[.agg m.h1.cells.toArray] W fun e w' => e = .returned (.bool A) ∧ Below W.heap.size W w' := fun W => HA.out ▸ none_c W m.h1 HD.out.d1
    cases H0
    · go_enter Tryd.func19, Tryd.ntmps19
      go_wp2_with fail
      refine (him0 _).mono ?_
      rintro e v1 ⟨rfl, hb⟩
      have HB1 := Lib.hid (HB0.out.trans (hb.mono (by have := HB0.out.size; have := HZ.out; omega)))
      clear c0 c69 c70 c105 c106 l1 l35 l71 lM hb
      obtain ⟨c0, c69, c70, c105, c106, l1, l35, l71, lM⟩ := HALL.out _ HB1.out
      go_wp2_with fail
      go_ret
      exact ⟨mbool_ret (by first | rfl | (simp; done) | (simp [*]; done) | (simp; omega)), HBEL.out.trans (HB1.out.mono (Nat.le_succ _))⟩
    · cases H1
      · go_enter Tryd.func19, Tryd.ntmps19
        go_wp2_with fail
        refine (him0 _).mono ?_
        rintro e v1 ⟨rfl, hb⟩
        have HB1 := Lib.hid (HB0.out.trans (hb.mono (by have := HB0.out.size; have := HZ.out; omega)))
        clear c0 c69 c70 c105 c106 l1 l35 l71 lM hb
        obtain ⟨c0, c69, c70, c105, c106, l1, l35, l71, lM⟩ := HALL.out _ HB1.out
        go_wp2_with fail
        refine (him1 _).mono ?_
        rintro e v2 ⟨rfl, hb⟩
        have HB2 := Lib.hid (HB1.out.trans (hb.mono (by have := HB1.out.size; have := HZ.out; omega)))
        clear c0 c69 c70 c105 c106 l1 l35 l71 lM hb
        obtain ⟨c0, c69, c70, c105, c106, l1, l35, l71, lM⟩ := HALL.out _ HB2.out
        go_wp2_with fail
        go_ret
        exact ⟨mbool_ret (by first | rfl | (simp; done) | (simp [*]; done) | (simp; omega)), HBEL.out.trans (HB2.out.mono (Nat.le_succ _))⟩
      · cases hCM : m.cm.may
        · have him2 := fun W => hCM ▸ him2 W
          go_enter Tryd.func19, Tryd.ntmps19
          go_wp2_with fail
          refine (him0 _).mono ?_
          rintro e v1 ⟨rfl, hb⟩
          have HB1 := Lib.hid (HB0.out.trans (hb.mono (by have := HB0.out.size; have := HZ.out; omega)))
          clear c0 c69 c70 c105 c106 l1 l35 l71 lM hb
          obtain ⟨c0, c69, c70, c105, c106, l1, l35, l71, lM⟩ := HALL.out _ HB1.out
          go_wp2_with fail
          refine (him1 _).mono ?_
          rintro e v2 ⟨rfl, hb⟩
          have HB2 := Lib.hid (HB1.out.trans (hb.mono (by have := HB1.out.size; have := HZ.out; omega)))
          clear c0 c69 c70 c105 c106 l1 l35 l71 lM hb
          obtain ⟨c0, c69, c70, c105, c106, l1, l35, l71, lM⟩ := HALL.out _ HB2.out
          go_wp2_with fail
          refine (him2 _).mono ?_
          rintro e v3 ⟨rfl, hb⟩
          have HB3 := Lib.hid (HB2.out.trans (hb.mono (by have := HB2.out.size; have := HZ.out; omega)))
          clear c0 c69 c70 c105 c106 l1 l35 l71 lM hb
          obtain ⟨c0, c69, c70, c105, c106, l1, l35, l71, lM⟩ := HALL.out _ HB3.out
          go_wp2_with fail
          go_ret
          exact ⟨mbool_ret (by first | rfl | (simp; done) | (simp [*]; done) | (simp; omega)), HBEL.out.trans (HB3.out.mono (Nat.le_succ _))⟩
        · have him2 := fun W => hCM ▸ him2 W
          have hph := fun W => hphz hCM W
          clear hCM
          cases A
          · by_cases t1 : mn < 0
            · go_enter Tryd.func19, Tryd.ntmps19
              go_wp2_with fail
              refine (him0 _).mono ?_
              rintro e v1 ⟨rfl, hb⟩
              have HB1 := Lib.hid (HB0.out.trans (hb.mono (by have := HB0.out.size; have := HZ.out; omega)))
              clear c0 c69 c70 c105 c106 l1 l35 l71 lM hb
              obtain ⟨c0, c69, c70, c105, c106, l1, l35, l71, lM⟩ := HALL.out _ HB1.out
              go_wp2_with fail
              refine (him1 _).mono ?_
              rintro e v2 ⟨rfl, hb⟩
              have HB2 := Lib.hid (HB1.out.trans (hb.mono (by have := HB1.out.size; have := HZ.out; omega)))
              clear c0 c69 c70 c105 c106 l1 l35 l71 lM hb
              obtain ⟨c0, c69, c70, c105, c106, l1, l35, l71, lM⟩ := HALL.out _ HB2.out
              go_wp2_with fail
              refine (him2 _).mono ?_
              rintro e v3 ⟨rfl, hb⟩
              have HB3 := Lib.hid (HB2.out.trans (hb.mono (by have := HB2.out.size; have := HZ.out; omega)))
              clear c0 c69 c70 c105 c106 l1 l35 l71 lM hb
              obtain ⟨c0, c69, c70, c105, c106, l1, l35, l71, lM⟩ := HALL.out _ HB3.out
              go_wp2_with fail
              refine (hna _).mono ?_
              rintro e v4 ⟨rfl, hb⟩
              have HB4 := Lib.hid (HB3.out.trans (hb.mono (by have := HB3.out.size; have := HZ.out; omega)))
              clear c0 c69 c70 c105 c106 l1 l35 l71 lM hb
              obtain ⟨c0, c69, c70, c105, c106, l1, l35, l71, lM⟩ := HALL.out _ HB4.out
              go_wp2_with fail
              go_ret
              exact ⟨mbool_ret (by first | rfl | (simp; done) | (simp [*]; done) | (simp; omega)), HBEL.out.trans (HB4.out.mono (Nat.le_succ _))⟩
            · by_cases t2 : 1073741824 < mn
              · go_enter Tryd.func19, Tryd.ntmps19
                go_wp2_with fail
                refine (him0 _).mono ?_
                rintro e v1 ⟨rfl, hb⟩
                have HB1 := Lib.hid (HB0.out.trans (hb.mono (by have := HB0.out.size; have := HZ.out; omega)))
                clear c0 c69 c70 c105 c106 l1 l35 l71 lM hb
                obtain ⟨c0, c69, c70, c105, c106, l1, l35, l71, lM⟩ := HALL.out _ HB1.out
                go_wp2_with fail
                refine (him1 _).mono ?_
                rintro e v2 ⟨rfl, hb⟩
                have HB2 := Lib.hid (HB1.out.trans (hb.mono (by have := HB1.out.size; have := HZ.out; omega)))
                clear c0 c69 c70 c105 c106 l1 l35 l71 lM hb
                obtain ⟨c0, c69, c70, c105, c106, l1, l35, l71, lM⟩ := HALL.out _ HB2.out
                go_wp2_with fail
                refine (him2 _).mono ?_
                rintro e v3 ⟨rfl, hb⟩
                have HB3 := Lib.hid (HB2.out.trans (hb.mono (by have := HB2.out.size; have := HZ.out; omega)))
                clear c0 c69 c70 c105 c106 l1 l35 l71 lM hb
                obtain ⟨c0, c69, c70, c105, c106, l1, l35, l71, lM⟩ := HALL.out _ HB3.out
                go_wp2_with fail
                refine (hna _).mono ?_
                rintro e v4 ⟨rfl, hb⟩
                have HB4 := Lib.hid (HB3.out.trans (hb.mono (by have := HB3.out.size; have := HZ.out; omega)))
                clear c0 c69 c70 c105 c106 l1 l35 l71 lM hb
                obtain ⟨c0, c69, c70, c105, c106, l1, l35, l71, lM⟩ := HALL.out _ HB4.out
                go_wp2_with fail
                go_ret
                exact ⟨mbool_ret (by first | rfl | (simp; done) | (simp [*]; done) | (simp; omega)), HBEL.out.trans (HB4.out.mono (Nat.le_succ _))⟩
              · by_cases t3 : got < 0
                · go_enter Tryd.func19, Tryd.ntmps19
                  go_wp2_with fail
                  refine (him0 _).mono ?_
                  rintro e v1 ⟨rfl, hb⟩
                  have HB1 := Lib.hid (HB0.out.trans (hb.mono (by have := HB0.out.size; have := HZ.out; omega)))
                  clear c0 c69 c70 c105 c106 l1 l35 l71 lM hb
                  obtain ⟨c0, c69, c70, c105, c106, l1, l35, l71, lM⟩ := HALL.out _ HB1.out
                  go_wp2_with fail
                  refine (him1 _).mono ?_
                  rintro e v2 ⟨rfl, hb⟩
                  have HB2 := Lib.hid (HB1.out.trans (hb.mono (by have := HB1.out.size; have := HZ.out; omega)))
                  clear c0 c69 c70 c105 c106 l1 l35 l71 lM hb
                  obtain ⟨c0, c69, c70, c105, c106, l1, l35, l71, lM⟩ := HALL.out _ HB2.out
                  go_wp2_with fail
                  refine (him2 _).mono ?_
                  rintro e v3 ⟨rfl, hb⟩
                  have HB3 := Lib.hid (HB2.out.trans (hb.mono (by have := HB2.out.size; have := HZ.out; omega)))
                  clear c0 c69 c70 c105 c106 l1 l35 l71 lM hb
                  obtain ⟨c0, c69, c70, c105, c106, l1, l35, l71, lM⟩ := HALL.out _ HB3.out
                  go_wp2_with fail
                  refine (hna _).mono ?_
                  rintro e v4 ⟨rfl, hb⟩
                  have HB4 := Lib.hid (HB3.out.trans (hb.mono (by have := HB3.out.size; have := HZ.out; omega)))
                  clear c0 c69 c70 c105 c106 l1 l35 l71 lM hb
                  obtain ⟨c0, c69, c70, c105, c106, l1, l35, l71, lM⟩ := HALL.out _ HB4.out
                  go_wp2_with fail
                  go_ret
                  exact ⟨mbool_ret (by first | rfl | (simp; done) | (simp [*]; done) | (simp; omega)), HBEL.out.trans (HB4.out.mono (Nat.le_succ _))⟩
                · by_cases t4 : 6 < got
                  · go_enter Tryd.func19, Tryd.ntmps19
                    go_wp2_with fail
                    refine (him0 _).mono ?_
                    rintro e v1 ⟨rfl, hb⟩
                    have HB1 := Lib.hid (HB0.out.trans (hb.mono (by have := HB0.out.size; have := HZ.out; omega)))
                    clear c0 c69 c70 c105 c106 l1 l35 l71 lM hb
                    obtain ⟨c0, c69, c70, c105, c106, l1, l35, l71, lM⟩ := HALL.out _ HB1.out
                    go_wp2_with fail
                    refine (him1 _).mono ?_
                    rintro e v2 ⟨rfl, hb⟩
                    have HB2 := Lib.hid (HB1.out.trans (hb.mono (by have := HB1.out.size; have := HZ.out; omega)))
                    clear c0 c69 c70 c105 c106 l1 l35 l71 lM hb
                    obtain ⟨c0, c69, c70, c105, c106, l1, l35, l71, lM⟩ := HALL.out _ HB2.out
                    go_wp2_with fail
                    refine (him2 _).mono ?_
                    rintro e v3 ⟨rfl, hb⟩
                    have HB3 := Lib.hid (HB2.out.trans (hb.mono (by have := HB2.out.size; have := HZ.out; omega)))
                    clear c0 c69 c70 c105 c106 l1 l35 l71 lM hb
                    obtain ⟨c0, c69, c70, c105, c106, l1, l35, l71, lM⟩ := HALL.out _ HB3.out
                    go_wp2_with fail
                    refine (hna _).mono ?_
                    rintro e v4 ⟨rfl, hb⟩
                    have HB4 := Lib.hid (HB3.out.trans (hb.mono (by have := HB3.out.size; have := HZ.out; omega)))
                    clear c0 c69 c70 c105 c106 l1 l35 l71 lM hb
                    obtain ⟨c0, c69, c70, c105, c106, l1, l35, l71, lM⟩ := HALL.out _ HB4.out
                    go_wp2_with fail
                    go_ret
                    exact ⟨mbool_ret (by first | rfl | (simp; done) | (simp [*]; done) | (simp; omega)), HBEL.out.trans (HB4.out.mono (Nat.le_succ _))⟩
                  · by_cases t5 : tr < 0
                    · go_enter Tryd.func19, Tryd.ntmps19
                      go_wp2_with fail
                      refine (him0 _).mono ?_
                      rintro e v1 ⟨rfl, hb⟩
                      have HB1 := Lib.hid (HB0.out.trans (hb.mono (by have := HB0.out.size; have := HZ.out; omega)))
                      clear c0 c69 c70 c105 c106 l1 l35 l71 lM hb
                      obtain ⟨c0, c69, c70, c105, c106, l1, l35, l71, lM⟩ := HALL.out _ HB1.out
                      go_wp2_with fail
                      refine (him1 _).mono ?_
                      rintro e v2 ⟨rfl, hb⟩
                      have HB2 := Lib.hid (HB1.out.trans (hb.mono (by have := HB1.out.size; have := HZ.out; omega)))
                      clear c0 c69 c70 c105 c106 l1 l35 l71 lM hb
                      obtain ⟨c0, c69, c70, c105, c106, l1, l35, l71, lM⟩ := HALL.out _ HB2.out
                      go_wp2_with fail
                      refine (him2 _).mono ?_
                      rintro e v3 ⟨rfl, hb⟩
                      have HB3 := Lib.hid (HB2.out.trans (hb.mono (by have := HB2.out.size; have := HZ.out; omega)))
                      clear c0 c69 c70 c105 c106 l1 l35 l71 lM hb
                      obtain ⟨c0, c69, c70, c105, c106, l1, l35, l71, lM⟩ := HALL.out _ HB3.out
                      go_wp2_with fail
                      refine (hna _).mono ?_
                      rintro e v4 ⟨rfl, hb⟩
                      have HB4 := Lib.hid (HB3.out.trans (hb.mono (by have := HB3.out.size; have := HZ.out; omega)))
                      clear c0 c69 c70 c105 c106 l1 l35 l71 lM hb
                      obtain ⟨c0, c69, c70, c105, c106, l1, l35, l71, lM⟩ := HALL.out _ HB4.out
                      go_wp2_with fail
                      go_ret
                      exact ⟨mbool_ret (by first | rfl | (simp; done) | (simp [*]; done) | (simp; omega)), HBEL.out.trans (HB4.out.mono (Nat.le_succ _))⟩
                    · by_cases t6 : 2 < tr
                      · go_enter Tryd.func19, Tryd.ntmps19
                        go_wp2_with fail
                        refine (him0 _).mono ?_
                        rintro e v1 ⟨rfl, hb⟩
                        have HB1 := Lib.hid (HB0.out.trans (hb.mono (by have := HB0.out.size; have := HZ.out; omega)))
                        clear c0 c69 c70 c105 c106 l1 l35 l71 lM hb
                        obtain ⟨c0, c69, c70, c105, c106, l1, l35, l71, lM⟩ := HALL.out _ HB1.out
                        go_wp2_with fail
                        refine (him1 _).mono ?_
                        rintro e v2 ⟨rfl, hb⟩
                        have HB2 := Lib.hid (HB1.out.trans (hb.mono (by have := HB1.out.size; have := HZ.out; omega)))
                        clear c0 c69 c70 c105 c106 l1 l35 l71 lM hb
                        obtain ⟨c0, c69, c70, c105, c106, l1, l35, l71, lM⟩ := HALL.out _ HB2.out
                        go_wp2_with fail
                        refine (him2 _).mono ?_
                        rintro e v3 ⟨rfl, hb⟩
                        have HB3 := Lib.hid (HB2.out.trans (hb.mono (by have := HB2.out.size; have := HZ.out; omega)))
                        clear c0 c69 c70 c105 c106 l1 l35 l71 lM hb
                        obtain ⟨c0, c69, c70, c105, c106, l1, l35, l71, lM⟩ := HALL.out _ HB3.out
                        go_wp2_with fail
                        refine (hna _).mono ?_
                        rintro e v4 ⟨rfl, hb⟩
                        have HB4 := Lib.hid (HB3.out.trans (hb.mono (by have := HB3.out.size; have := HZ.out; omega)))
                        clear c0 c69 c70 c105 c106 l1 l35 l71 lM hb
                        obtain ⟨c0, c69, c70, c105, c106, l1, l35, l71, lM⟩ := HALL.out _ HB4.out
                        go_wp2_with fail
                        go_ret
                        exact ⟨mbool_ret (by first | rfl | (simp; done) | (simp [*]; done) | (simp; omega)), HBEL.out.trans (HB4.out.mono (Nat.le_succ _))⟩
                      · go_enter Tryd.func19, Tryd.ntmps19
                        go_wp2_with fail
                        refine (him0 _).mono ?_
                        rintro e v1 ⟨rfl, hb⟩
                        have HB1 := Lib.hid (HB0.out.trans (hb.mono (by have := HB0.out.size; have := HZ.out; omega)))
                        clear c0 c69 c70 c105 c106 l1 l35 l71 lM hb
                        obtain ⟨c0, c69, c70, c105, c106, l1, l35, l71, lM⟩ := HALL.out _ HB1.out
                        go_wp2_with fail
                        refine (him1 _).mono ?_
                        rintro e v2 ⟨rfl, hb⟩
                        have HB2 := Lib.hid (HB1.out.trans (hb.mono (by have := HB1.out.size; have := HZ.out; omega)))
                        clear c0 c69 c70 c105 c106 l1 l35 l71 lM hb
                        obtain ⟨c0, c69, c70, c105, c106, l1, l35, l71, lM⟩ := HALL.out _ HB2.out
                        go_wp2_with fail
                        refine (him2 _).mono ?_
                        rintro e v3 ⟨rfl, hb⟩
                        have HB3 := Lib.hid (HB2.out.trans (hb.mono (by have := HB2.out.size; have := HZ.out; omega)))
                        clear c0 c69 c70 c105 c106 l1 l35 l71 lM hb
                        obtain ⟨c0, c69, c70, c105, c106, l1, l35, l71, lM⟩ := HALL.out _ HB3.out
                        go_wp2_with fail
                        refine (hna _).mono ?_
                        rintro e v4 ⟨rfl, hb⟩
                        have HB4 := Lib.hid (HB3.out.trans (hb.mono (by have := HB3.out.size; have := HZ.out; omega)))
                        clear c0 c69 c70 c105 c106 l1 l35 l71 lM hb
                        obtain ⟨c0, c69, c70, c105, c106, l1, l35, l71, lM⟩ := HALL.out _ HB4.out
                        go_wp2_with fail
                        refine (hph _).mono ?_
                        rintro e v5 ⟨rfl, hb⟩
                        have HB5 := Lib.hid (HB4.out.trans (hb.mono (by have := HB4.out.size; have := HZ.out; omega)))
                        clear c0 c69 c70 c105 c106 l1 l35 l71 lM hb
                        obtain ⟨c0, c69, c70, c105, c106, l1, l35, l71, lM⟩ := HALL.out _ HB5.out
                        go_wp2_with fail
                        go_ret
                        exact ⟨mbool_ret (by first | rfl | (simp; done) | (simp [*]; done) | (simp; omega)), HBEL.out.trans (HB5.out.mono (Nat.le_succ _))⟩
          · go_enter Tryd.func19, Tryd.ntmps19
            go_wp2_with fail
            refine (him0 _).mono ?_
            rintro e v1 ⟨rfl, hb⟩
            have HB1 := Lib.hid (HB0.out.trans (hb.mono (by have := HB0.out.size; have := HZ.out; omega)))
            clear c0 c69 c70 c105 c106 l1 l35 l71 lM hb
            obtain ⟨c0, c69, c70, c105, c106, l1, l35, l71, lM⟩ := HALL.out _ HB1.out
            go_wp2_with fail
            refine (him1 _).mono ?_
            rintro e v2 ⟨rfl, hb⟩
            have HB2 := Lib.hid (HB1.out.trans (hb.mono (by have := HB1.out.size; have := HZ.out; omega)))
            clear c0 c69 c70 c105 c106 l1 l35 l71 lM hb
            obtain ⟨c0, c69, c70, c105, c106, l1, l35, l71, lM⟩ := HALL.out _ HB2.out
            go_wp2_with fail
            refine (him2 _).mono ?_
            rintro e v3 ⟨rfl, hb⟩
            have HB3 := Lib.hid (HB2.out.trans (hb.mono (by have := HB2.out.size; have := HZ.out; omega)))
            clear c0 c69 c70 c105 c106 l1 l35 l71 lM hb
            obtain ⟨c0, c69, c70, c105, c106, l1, l35, l71, lM⟩ := HALL.out _ HB3.out
            go_wp2_with fail
            refine (hna _).mono ?_
            rintro e v4 ⟨rfl, hb⟩
            have HB4 := Lib.hid (HB3.out.trans (hb.mono (by have := HB3.out.size; have := HZ.out; omega)))
            clear c0 c69 c70 c105 c106 l1 l35 l71 lM hb
            obtain ⟨c0, c69, c70, c105, c106, l1, l35, l71, lM⟩ := HALL.out _ HB4.out
            go_wp2_with fail
            go_ret
            exact ⟨mbool_ret (by first | rfl | (simp; done) | (simp [*]; done) | (simp; omega)), HBEL.out.trans (HB4.out.mono (Nat.le_succ _))⟩
end Go.Proofs.YtpbdglocfjbbfaaDoor
