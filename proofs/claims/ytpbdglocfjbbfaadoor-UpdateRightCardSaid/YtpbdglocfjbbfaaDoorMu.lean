/- Package meta: what may be kept. -/
import Derived.Test.YtpbdglocfjbbfaaDoorMt

namespace Go.Proofs.YtpbdglocfjbbfaaDoor
open Go Go.RowKit
set_option linter.unusedVariables false
set_option linter.unusedSimpArgs false
attribute [local go_sem ↓] sldI_seal sldM_seal
theorem eqA_refl (d : Nat) (a b : Img) (ha : a.d.length = 32) (hb : b.d.length = 32) (w : World) :
    (Op.equalIn (d + 4) 25 (.agg (a.cells ++ b.cells).toArray) (.agg (a.cells ++ b.cells).toArray)).run Tryd.prog w = .ok true w := by
  have hs := size_of (P := Tryd.prog) w 24 34 info_sI
  have p0 : (part 24 (a.cells ++ b.cells).toArray (0 * 34)).run Tryd.prog w = .ok (.agg a.cells.toArray) w :=
    part_agg w 24 _ Tryd.underlying24 rfl 34 info_sI _ _ _ (by rw [Nat.zero_mul, List.drop_zero, List.take_append_of_le_length (by rw [Img.cells_len ha]; omega), List.take_of_length_le (by rw [Img.cells_len ha]; omega)])
  have p1 : (part 24 (a.cells ++ b.cells).toArray (1 * 34)).run Tryd.prog w = .ok (.agg b.cells.toArray) w :=
    part_agg w 24 _ Tryd.underlying24 rfl 34 info_sI _ _ _ (by rw [Nat.one_mul, List.drop_append, Img.cells_len ha, List.drop_of_length_le (by rw [Img.cells_len ha]; omega), List.nil_append, Nat.sub_self, List.drop_zero, List.take_of_length_le (by rw [Img.cells_len hb]; omega)])
  have q0 := eqI_run d a a ha ha w
  have q1 := eqI_run d b b hb hb w
  rw [Img.same_refl] at q0 q1
  rw [Op.equalIn]
  simp only [Sem.run_bind, run_underlying Tryd.underlying25, Result.andThen_ok, hs, Std.Legacy.Range.forIn_eq_forIn_range', Std.Legacy.Range.size, Nat.sub_zero, Nat.add_sub_cancel, Nat.div_one]
  simp [List.range', p0, p1, q0, q1]
theorem fieldsM : Tryd.prog.underlying 27 = some (.struct (Tryd.prog.fieldsOf 27)) := by kernel_rfl
theorem heldM : Tryd.prog.stoodInHeld 27 = false := by kernel_rfl
theorem other_c (w : World) (m : Mt) (h : m.Ok) (ha : 0 ≤ m.act ∧ m.act ≤ 1) : Calls Tryd.prog 50 #[.agg m.cells.toArray] w fun e w' => e = .returned (.int .i64 (1 - m.act)) ∧ Below w.heap.size w w' := by
  have hB := Blk.new w 27 m.cells.toArray
  have c0 : (w.alloc (.cells m.cells.toArray 27)).cell? ⟨w.heap.size, 0, none⟩ = some (.int .i64 m.act) := by rw [hB.cell]; rfl
  clear hB
  obtain ⟨x, hx⟩ : ∃ x, m.act = x := ⟨_, rfl⟩
  rw [hx] at ha c0 ⊢
  clear hx
  go_enter Tryd.func50, Tryd.ntmps50
  go_wp2_with fail
  go_ret
  exact ⟨rfl, (Below.refl _ _).alloc (Nat.le_refl _) _⟩
theorem none_c (w : World) (i : Img) (h : i.d.length = 32) : Calls Tryd.prog 31 #[.agg i.cells.toArray] w fun e w' => e = .returned (.bool (i.same Img.zero)) ∧ Below w.heap.size w w' := by
  have hB := Blk.new w 24 i.cells.toArray
  have hl := run_sldI (Img.cells_len h) hB.whole
  have he : ∀ W : World, (binOp .eql 24 (.agg i.cells.toArray) (.agg zeroI)).run Tryd.prog W = .ok (.bool (i.same Img.zero)) W := fun W => by rw [zeroI_eq]; exact eqlI i Img.zero h rfl W
  clear hB
  go_enter Tryd.func31, Tryd.ntmps31
  go_wp2_with fail
  go_ret
  exact ⟨rfl, (Below.refl _ _).alloc (Nat.le_refl _) _⟩
/-- May an image be? -/
def Img.none (i : Img) : Bool := i.same Img.zero
def Img.may (i : Img) : Bool := if i.v = 0 then i.none else if i.s = 0 then i.none else decide (0 < i.v) && (decide (i.v ≤ 1073741824) && (decide (0 < i.s) && decide (i.s ≤ 1920)))
theorem Img.may_b {i : Img} (h : i.may = true) : (0 ≤ i.v ∧ i.v ≤ 1073741824) ∧ 0 ≤ i.s ∧ i.s ≤ 1920 := by
  have hz : i.none = true → i = Img.zero := fun h => (Img.same_iff _ _).1 h
  unfold Img.may at h
  split at h
  · rw [hz h]; decide
  · split at h
    · rw [hz h]; decide
    · simp at h; omega
set_option maxHeartbeats 1000000 in
theorem image_c (w : World) (i : Img) (h : i.d.length = 32) : Calls Tryd.prog 30 #[.agg i.cells.toArray] w fun e w' => e = .returned (.bool i.may) ∧ Below w.heap.size w w' := by
  have hB := Blk.new w 24 i.cells.toArray
  have hl := run_sldI (Img.cells_len h) hB.whole
  have c0 : (w.alloc (.cells i.cells.toArray 24)).cell? ⟨w.heap.size, 0, none⟩ = some (.int .i64 i.v) := by rw [hB.cell]; rfl
  have c1 : (w.alloc (.cells i.cells.toArray 24)).cell? ⟨w.heap.size, 1, none⟩ = some (.int .i64 i.s) := by rw [hB.cell]; rfl
  have hn : ∀ W, Calls Tryd.prog 31 #[.agg i.cells.toArray] W fun e w' => e = .returned (.bool i.none) ∧ Below W.heap.size W w' := fun W => none_c W i h
  have hbel : Below w.heap.size w (w.alloc (.cells i.cells.toArray 24)) := (Below.refl _ _).alloc (Nat.le_refl _) _
  have hm : ∀ b, i.may = b → i.may = b := fun _ h => h
  unfold Img.may
  generalize i.cells = cs at hB hl c0 c1 hn hbel ⊢
  generalize i.none = N at hn ⊢
  generalize i.v = v at c0 ⊢
  generalize i.s = s at c1 ⊢
  clear hB hm
  by_cases h1 : v = 0
  · subst h1
    rw [if_pos rfl]
    go_enter Tryd.func30, Tryd.ntmps30
    go_wp2_with fail
    refine (hn _).mono ?_
    rintro e w2 ⟨rfl, hb2⟩
    go_wp2_with fail
    go_ret
    exact ⟨rfl, hbel.trans (hb2.mono hbel.size)⟩
  have b1 : (v == 0) = false := beq_eq_false_iff_ne.2 h1
  rw [if_neg h1]
  by_cases h2 : s = 0
  · subst h2
    rw [if_pos rfl]
    go_enter Tryd.func30, Tryd.ntmps30
    go_wp2_with fail
    refine (hn _).mono ?_
    rintro e w2 ⟨rfl, hb2⟩
    go_wp2_with fail
    go_ret
    exact ⟨rfl, hbel.trans (hb2.mono hbel.size)⟩
  have b2 : (s == 0) = false := beq_eq_false_iff_ne.2 h2
  rw [if_neg h2]
  clear hn h1 h2
  by_cases h3 : 0 < v
  · by_cases h4 : v ≤ 1073741824
    · by_cases h5 : 0 < s
      · by_cases h6 : s ≤ 1920
        · go_enter Tryd.func30, Tryd.ntmps30
          go_wp2_with fail
          go_ret
          exact ⟨mbool_ret (by first | (simp [h3, h4, h5, h6]; done) | (simp; omega)), hbel⟩
        · go_enter Tryd.func30, Tryd.ntmps30
          go_wp2_with fail
          go_ret
          exact ⟨mbool_ret (by first | (simp [h3, h4, h5, h6]; done) | (simp; omega)), hbel⟩
      · go_enter Tryd.func30, Tryd.ntmps30
        go_wp2_with fail
        go_ret
        exact ⟨mbool_ret (by first | (simp [h3, h4, h5]; done) | (simp; omega)), hbel⟩
    · go_enter Tryd.func30, Tryd.ntmps30
      go_wp2_with fail
      go_ret
      exact ⟨mbool_ret (by first | (simp [h3, h4]; done) | (simp; omega)), hbel⟩
  · go_enter Tryd.func30, Tryd.ntmps30
    go_wp2_with fail
    go_ret
    exact ⟨mbool_ret (by first | (simp [h3]; done) | (simp; omega)), hbel⟩
theorem mchunks_c (w : World) (i : Img) (h : i.d.length = 32) (hb : 0 ≤ i.s ∧ i.s ≤ 1920) : Calls Tryd.prog 49 #[.agg i.cells.toArray] w fun e w' => e = .returned (.int .i64 ((i.s + 319) / 320)) ∧ Below w.heap.size w w' := by
  have hB := Blk.new w 24 i.cells.toArray
  have c1 : (w.alloc (.cells i.cells.toArray 24)).cell? ⟨w.heap.size, 1, none⟩ = some (.int .i64 i.s) := by rw [hB.cell]; rfl
  have hbel : Below w.heap.size w (w.alloc (.cells i.cells.toArray 24)) := (Below.refl _ _).alloc (Nat.le_refl _) _
  generalize i.cells = cs at hB c1 hbel ⊢
  generalize i.s = s at hb c1 ⊢
  have e1 : s + 320 - 1 = s + 319 := by omega
  clear hB
  go_enter Tryd.func49, Tryd.ntmps49
  go_wp2_with fail
  go_ret
  refine ⟨?_, hbel⟩
  first | rfl | (congr 2; omega)
def Mt.have_ (m : Mt) (x : Int) : Img := if x = 0 then m.h0 else m.h1
def Mt.oth (m : Mt) : Img := m.have_ (1 - m.act)
def Img.chk (i : Img) : Int := (i.s + 319) / 320
theorem Mt.oth0 {m : Mt} (h : m.act = 0) : m.oth = m.h1 := by unfold Mt.oth Mt.have_; rw [h]; rfl
theorem Mt.oth1 {m : Mt} (h : m.act = 1) : m.oth = m.h0 := by unfold Mt.oth Mt.have_; rw [h]; rfl
theorem mall {W : World} {g : Nat} {m : Mt} (h : m.Ok) (B : Blk W g 27 m.cells.toArray) (act mn ph got tr : Int) (e0 : m.act = act) (e1 : m.mn = mn) (e2 : m.ph = ph) (e3 : m.got = got) (e4 : m.tr = tr) :
    W.cell? ⟨g, 0, none⟩ = some (.int .i64 act) ∧ W.cell? ⟨g, 69, none⟩ = some (.int .i64 mn) ∧ W.cell? ⟨g, 70, none⟩ = some (.int .i64 ph) ∧ W.cell? ⟨g, 105, none⟩ = some (.int .i64 got) ∧ W.cell? ⟨g, 106, none⟩ = some (.int .i64 tr) ∧
    (sldI (.pointer (some ⟨g, 1, none⟩))).run Tryd.prog W = .ok (.agg m.h0.cells.toArray) W ∧ (sldI (.pointer (some ⟨g, 35, none⟩))).run Tryd.prog W = .ok (.agg m.h1.cells.toArray) W ∧ (sldI (.pointer (some ⟨g, 71, none⟩))).run Tryd.prog W = .ok (.agg m.cm.cells.toArray) W ∧
    (sldM (.pointer (some ⟨g, 0, none⟩))).run Tryd.prog W = .ok (.agg m.cells.toArray) W := by
  have hl := Mt.cells_len h
  have r1 := B.range 1 34 (by omega)
  have r2 := B.range 35 34 (by omega)
  have r3 := B.range 71 34 (by omega)
  rw [Mt.c_h0 h] at r1
  rw [Mt.c_h1 h] at r2
  rw [Mt.c_cm h] at r3
  subst e0 e1 e2 e3 e4
  refine ⟨?_, ?_, ?_, ?_, ?_, run_sldI (Img.cells_len h.d0) r1, run_sldI (Img.cells_len h.d1) r2, run_sldI (Img.cells_len h.d2) r3, run_sldM hl B.whole⟩
  · rw [B.cell, List.getElem?_toArray]; exact Mt.c0
  · rw [B.cell, List.getElem?_toArray]; exact Mt.c69 h
  · rw [B.cell, List.getElem?_toArray]; exact Mt.c70 h
  · rw [B.cell, List.getElem?_toArray]; exact Mt.c105 h
  · rw [B.cell, List.getElem?_toArray]; exact Mt.c106 h
def Mt.phaseB (m : Mt) : Bool :=
  if m.ph = 0 then m.cm.none && (m.got == 0 && m.tr == 0)
  else if m.ph = 1 ∨ m.ph = 2 then !m.cm.none && (m.oth.none && (m.tr == 0 && (m.got == m.cm.chk || (m.ph == 1 && decide (m.got < m.cm.chk)))))
  else if m.ph = 3 then m.cm.none && (m.got == 0 && !m.oth.none)
  else false
set_option maxRecDepth 100000 in
set_option maxHeartbeats 20000000 in
theorem phase_c (w : World) (m : Mt) (h : m.Ok) (ha : m.act = 0 ∨ m.act = 1) (hcm : 0 ≤ m.cm.s ∧ m.cm.s ≤ 1920) : Calls Tryd.prog 32 #[.agg m.cells.toArray] w fun e w' => e = .returned (.bool m.phaseB) ∧ Below w.heap.size w w' := by
  have hB := Lib.hid (Blk.new w 27 m.cells.toArray)
  have hbel : Below w.heap.size w (w.alloc (.cells m.cells.toArray 27)) := (Below.refl _ _).alloc (Nat.le_refl _) _
  have HBEL := Lib.hid hbel
  obtain ⟨act, e0⟩ : ∃ x, m.act = x := ⟨_, rfl⟩
  obtain ⟨mn, e1⟩ : ∃ x, m.mn = x := ⟨_, rfl⟩
  obtain ⟨ph, e2⟩ : ∃ x, m.ph = x := ⟨_, rfl⟩
  obtain ⟨got, e3⟩ : ∃ x, m.got = x := ⟨_, rfl⟩
  obtain ⟨tr, e4⟩ : ∃ x, m.tr = x := ⟨_, rfl⟩
  obtain ⟨C, eC⟩ : ∃ x, m.cm.none = x := ⟨_, rfl⟩
  obtain ⟨O, eO⟩ : ∃ x, m.oth.none = x := ⟨_, rfl⟩
  obtain ⟨K, eK⟩ : ∃ x, m.cm.chk = x := ⟨_, rfl⟩
  have hcmn : ∀ W, Calls Tryd.prog 31 #[.agg m.cm.cells.toArray] W fun e w' => e = .returned (.bool C) ∧ Below W.heap.size W w' := fun W => eC ▸ none_c W m.cm h.d2
  have hchk : ∀ W, Calls Tryd.prog 49 #[.agg m.cm.cells.toArray] W fun e w' => e = .returned (.int .i64 K) ∧ Below W.heap.size W w' := fun W => eK ▸ mchunks_c W m.cm h.d2 hcm
  have hoc : ∀ W, Calls Tryd.prog 50 #[.agg m.cells.toArray] W fun e w' => e = .returned (.int .i64 (1 - act)) ∧ Below W.heap.size W w' := fun W => e0 ▸ other_c W m h (by omega)
  have hph : m.phaseB = (if ph = 0 then C && (got == 0 && tr == 0) else if ph = 1 ∨ ph = 2 then !C && (O && (tr == 0 && (got == K || (ph == 1 && decide (got < K))))) else if ph = 3 then C && (got == 0 && !O) else false) := by
    unfold Mt.phaseB
    rw [e2, e3, e4, eC, eO, eK]
  rw [hph]
  rw [e0] at ha
  have hall : ∀ W, Below (w.heap.size + 1) (w.alloc (.cells m.cells.toArray 27)) W → _ := fun W hb => mall h (hB.out.below hb (by omega)) act mn ph got tr e0 e1 e2 e3 e4
  have hz : (w.alloc (.cells m.cells.toArray 27)).heap.size = w.heap.size + 1 := by simp
  have h00 := hall _ (Below.refl _ _)
  have HALL := Lib.hid hall
  have HZ := Lib.hid hz
  have HE := Lib.hid eO
  have HE0 := Lib.hid e0
  have HD := Lib.hid h
  clear hph hall hz e1 e2 e3 e4 eC eO eK e0 hcm h hB hbel
  have HB0 := Lib.hid (Below.refl (w.heap.size + 1) (w.alloc (.cells m.cells.toArray 27)))
  obtain ⟨c0, c69, c70, c105, c106, l1, l35, l71, lM⟩ := h00
  rcases ha with rfl | rfl
  · have hon : ∀ W, Calls Tryd.prog 31 #[.agg m.h1.cells.toArray] W fun e w' => e = .returned (.bool O) ∧ Below W.heap.size W w' := fun W => HE.out ▸ (Mt.oth0 HE0.out).symm ▸ none_c W m.h1 HD.out.d1
    by_cases p0 : ph = 0
    · subst p0
      rw [if_pos rfl]
      cases C
      · go_enter Tryd.func32, Tryd.ntmps32
        go_wp2_with fail
        refine (hcmn _).mono ?_
        rintro e v1 ⟨rfl, hb⟩
        have HB1 := Lib.hid (HB0.out.trans (hb.mono (by have := HB0.out.size; have := HZ.out; omega)))
        clear c0 c69 c70 c105 c106 l1 l35 l71 lM hb
        obtain ⟨c0, c69, c70, c105, c106, l1, l35, l71, lM⟩ := HALL.out _ HB1.out
        go_wp2_with fail
        go_ret
        exact ⟨mbool_ret (by first | rfl | (simp; done) | (simp [*]; done) | (simp; omega)), HBEL.out.trans (HB1.out.mono (Nat.le_succ _))⟩
      · by_cases hg : got = 0
        · subst hg
          by_cases ht : tr = 0
          · subst ht
            go_enter Tryd.func32, Tryd.ntmps32
            go_wp2_with fail
            refine (hcmn _).mono ?_
            rintro e v1 ⟨rfl, hb⟩
            have HB1 := Lib.hid (HB0.out.trans (hb.mono (by have := HB0.out.size; have := HZ.out; omega)))
            clear c0 c69 c70 c105 c106 l1 l35 l71 lM hb
            obtain ⟨c0, c69, c70, c105, c106, l1, l35, l71, lM⟩ := HALL.out _ HB1.out
            go_wp2_with fail
            go_ret
            exact ⟨mbool_ret (by first | rfl | (simp; done) | (simp [*]; done) | (simp; omega)), HBEL.out.trans (HB1.out.mono (Nat.le_succ _))⟩
          · have bt : (tr == 0) = false := beq_eq_false_iff_ne.2 ht
            go_enter Tryd.func32, Tryd.ntmps32
            go_wp2_with fail
            refine (hcmn _).mono ?_
            rintro e v1 ⟨rfl, hb⟩
            have HB1 := Lib.hid (HB0.out.trans (hb.mono (by have := HB0.out.size; have := HZ.out; omega)))
            clear c0 c69 c70 c105 c106 l1 l35 l71 lM hb
            obtain ⟨c0, c69, c70, c105, c106, l1, l35, l71, lM⟩ := HALL.out _ HB1.out
            go_wp2_with fail
            go_ret
            exact ⟨mbool_ret (by first | rfl | (simp; done) | (simp [*]; done) | (simp; omega)), HBEL.out.trans (HB1.out.mono (Nat.le_succ _))⟩
        · have bg : (got == 0) = false := beq_eq_false_iff_ne.2 hg
          go_enter Tryd.func32, Tryd.ntmps32
          go_wp2_with fail
          refine (hcmn _).mono ?_
          rintro e v1 ⟨rfl, hb⟩
          have HB1 := Lib.hid (HB0.out.trans (hb.mono (by have := HB0.out.size; have := HZ.out; omega)))
          clear c0 c69 c70 c105 c106 l1 l35 l71 lM hb
          obtain ⟨c0, c69, c70, c105, c106, l1, l35, l71, lM⟩ := HALL.out _ HB1.out
          go_wp2_with fail
          go_ret
          exact ⟨mbool_ret (by first | rfl | (simp; done) | (simp [*]; done) | (simp; omega)), HBEL.out.trans (HB1.out.mono (Nat.le_succ _))⟩
    rw [if_neg p0]
    have q0 : (ph == 0) = false := beq_eq_false_iff_ne.2 p0
    by_cases p1 : ph = 1
    · subst p1
      rw [if_pos (Or.inl rfl)]
      cases C
      · cases O
        · go_enter Tryd.func32, Tryd.ntmps32
          go_wp2_with fail
          refine (hchk _).mono ?_
          rintro e v1 ⟨rfl, hb⟩
          have HB1 := Lib.hid (HB0.out.trans (hb.mono (by have := HB0.out.size; have := HZ.out; omega)))
          clear c0 c69 c70 c105 c106 l1 l35 l71 lM hb
          obtain ⟨c0, c69, c70, c105, c106, l1, l35, l71, lM⟩ := HALL.out _ HB1.out
          go_wp2_with fail
          refine (hcmn _).mono ?_
          rintro e v2 ⟨rfl, hb⟩
          have HB2 := Lib.hid (HB1.out.trans (hb.mono (by have := HB1.out.size; have := HZ.out; omega)))
          clear c0 c69 c70 c105 c106 l1 l35 l71 lM hb
          obtain ⟨c0, c69, c70, c105, c106, l1, l35, l71, lM⟩ := HALL.out _ HB2.out
          go_wp2_with fail
          refine (hoc _).mono ?_
          rintro e v3 ⟨rfl, hb⟩
          have HB3 := Lib.hid (HB2.out.trans (hb.mono (by have := HB2.out.size; have := HZ.out; omega)))
          clear c0 c69 c70 c105 c106 l1 l35 l71 lM hb
          obtain ⟨c0, c69, c70, c105, c106, l1, l35, l71, lM⟩ := HALL.out _ HB3.out
          go_wp2_with fail
          refine (hon _).mono ?_
          rintro e v4 ⟨rfl, hb⟩
          have HB4 := Lib.hid (HB3.out.trans (hb.mono (by have := HB3.out.size; have := HZ.out; omega)))
          clear c0 c69 c70 c105 c106 l1 l35 l71 lM hb
          obtain ⟨c0, c69, c70, c105, c106, l1, l35, l71, lM⟩ := HALL.out _ HB4.out
          go_wp2_with fail
          go_ret
          exact ⟨mbool_ret (by first | rfl | (simp; done) | (simp [*]; done) | (simp; omega)), HBEL.out.trans (HB4.out.mono (Nat.le_succ _))⟩
        · by_cases ht : tr = 0
          · subst ht
            by_cases hg : got = K
            · subst hg
              go_enter Tryd.func32, Tryd.ntmps32
              go_wp2_with fail
              refine (hchk _).mono ?_
              rintro e v1 ⟨rfl, hb⟩
              have HB1 := Lib.hid (HB0.out.trans (hb.mono (by have := HB0.out.size; have := HZ.out; omega)))
              clear c0 c69 c70 c105 c106 l1 l35 l71 lM hb
              obtain ⟨c0, c69, c70, c105, c106, l1, l35, l71, lM⟩ := HALL.out _ HB1.out
              go_wp2_with fail
              refine (hcmn _).mono ?_
              rintro e v2 ⟨rfl, hb⟩
              have HB2 := Lib.hid (HB1.out.trans (hb.mono (by have := HB1.out.size; have := HZ.out; omega)))
              clear c0 c69 c70 c105 c106 l1 l35 l71 lM hb
              obtain ⟨c0, c69, c70, c105, c106, l1, l35, l71, lM⟩ := HALL.out _ HB2.out
              go_wp2_with fail
              refine (hoc _).mono ?_
              rintro e v3 ⟨rfl, hb⟩
              have HB3 := Lib.hid (HB2.out.trans (hb.mono (by have := HB2.out.size; have := HZ.out; omega)))
              clear c0 c69 c70 c105 c106 l1 l35 l71 lM hb
              obtain ⟨c0, c69, c70, c105, c106, l1, l35, l71, lM⟩ := HALL.out _ HB3.out
              go_wp2_with fail
              refine (hon _).mono ?_
              rintro e v4 ⟨rfl, hb⟩
              have HB4 := Lib.hid (HB3.out.trans (hb.mono (by have := HB3.out.size; have := HZ.out; omega)))
              clear c0 c69 c70 c105 c106 l1 l35 l71 lM hb
              obtain ⟨c0, c69, c70, c105, c106, l1, l35, l71, lM⟩ := HALL.out _ HB4.out
              go_wp2_with fail
              go_ret
              exact ⟨mbool_ret (by first | rfl | (simp; done) | (simp [*]; done) | (simp; omega)), HBEL.out.trans (HB4.out.mono (Nat.le_succ _))⟩
            · have bg : (got == K) = false := beq_eq_false_iff_ne.2 hg
              by_cases hl : got < K
              · go_enter Tryd.func32, Tryd.ntmps32
                go_wp2_with fail
                refine (hchk _).mono ?_
                rintro e v1 ⟨rfl, hb⟩
                have HB1 := Lib.hid (HB0.out.trans (hb.mono (by have := HB0.out.size; have := HZ.out; omega)))
                clear c0 c69 c70 c105 c106 l1 l35 l71 lM hb
                obtain ⟨c0, c69, c70, c105, c106, l1, l35, l71, lM⟩ := HALL.out _ HB1.out
                go_wp2_with fail
                refine (hcmn _).mono ?_
                rintro e v2 ⟨rfl, hb⟩
                have HB2 := Lib.hid (HB1.out.trans (hb.mono (by have := HB1.out.size; have := HZ.out; omega)))
                clear c0 c69 c70 c105 c106 l1 l35 l71 lM hb
                obtain ⟨c0, c69, c70, c105, c106, l1, l35, l71, lM⟩ := HALL.out _ HB2.out
                go_wp2_with fail
                refine (hoc _).mono ?_
                rintro e v3 ⟨rfl, hb⟩
                have HB3 := Lib.hid (HB2.out.trans (hb.mono (by have := HB2.out.size; have := HZ.out; omega)))
                clear c0 c69 c70 c105 c106 l1 l35 l71 lM hb
                obtain ⟨c0, c69, c70, c105, c106, l1, l35, l71, lM⟩ := HALL.out _ HB3.out
                go_wp2_with fail
                refine (hon _).mono ?_
                rintro e v4 ⟨rfl, hb⟩
                have HB4 := Lib.hid (HB3.out.trans (hb.mono (by have := HB3.out.size; have := HZ.out; omega)))
                clear c0 c69 c70 c105 c106 l1 l35 l71 lM hb
                obtain ⟨c0, c69, c70, c105, c106, l1, l35, l71, lM⟩ := HALL.out _ HB4.out
                go_wp2_with fail
                go_ret
                exact ⟨mbool_ret (by first | rfl | (simp; done) | (simp [*]; done) | (simp; omega)), HBEL.out.trans (HB4.out.mono (Nat.le_succ _))⟩
              · go_enter Tryd.func32, Tryd.ntmps32
                go_wp2_with fail
                refine (hchk _).mono ?_
                rintro e v1 ⟨rfl, hb⟩
                have HB1 := Lib.hid (HB0.out.trans (hb.mono (by have := HB0.out.size; have := HZ.out; omega)))
                clear c0 c69 c70 c105 c106 l1 l35 l71 lM hb
                obtain ⟨c0, c69, c70, c105, c106, l1, l35, l71, lM⟩ := HALL.out _ HB1.out
                go_wp2_with fail
                refine (hcmn _).mono ?_
                rintro e v2 ⟨rfl, hb⟩
                have HB2 := Lib.hid (HB1.out.trans (hb.mono (by have := HB1.out.size; have := HZ.out; omega)))
                clear c0 c69 c70 c105 c106 l1 l35 l71 lM hb
                obtain ⟨c0, c69, c70, c105, c106, l1, l35, l71, lM⟩ := HALL.out _ HB2.out
                go_wp2_with fail
                refine (hoc _).mono ?_
                rintro e v3 ⟨rfl, hb⟩
                have HB3 := Lib.hid (HB2.out.trans (hb.mono (by have := HB2.out.size; have := HZ.out; omega)))
                clear c0 c69 c70 c105 c106 l1 l35 l71 lM hb
                obtain ⟨c0, c69, c70, c105, c106, l1, l35, l71, lM⟩ := HALL.out _ HB3.out
                go_wp2_with fail
                refine (hon _).mono ?_
                rintro e v4 ⟨rfl, hb⟩
                have HB4 := Lib.hid (HB3.out.trans (hb.mono (by have := HB3.out.size; have := HZ.out; omega)))
                clear c0 c69 c70 c105 c106 l1 l35 l71 lM hb
                obtain ⟨c0, c69, c70, c105, c106, l1, l35, l71, lM⟩ := HALL.out _ HB4.out
                go_wp2_with fail
                go_ret
                exact ⟨mbool_ret (by first | rfl | (simp; done) | (simp [*]; done) | (simp; omega)), HBEL.out.trans (HB4.out.mono (Nat.le_succ _))⟩
          · have bt : (tr == 0) = false := beq_eq_false_iff_ne.2 ht
            go_enter Tryd.func32, Tryd.ntmps32
            go_wp2_with fail
            refine (hchk _).mono ?_
            rintro e v1 ⟨rfl, hb⟩
            have HB1 := Lib.hid (HB0.out.trans (hb.mono (by have := HB0.out.size; have := HZ.out; omega)))
            clear c0 c69 c70 c105 c106 l1 l35 l71 lM hb
            obtain ⟨c0, c69, c70, c105, c106, l1, l35, l71, lM⟩ := HALL.out _ HB1.out
            go_wp2_with fail
            refine (hcmn _).mono ?_
            rintro e v2 ⟨rfl, hb⟩
            have HB2 := Lib.hid (HB1.out.trans (hb.mono (by have := HB1.out.size; have := HZ.out; omega)))
            clear c0 c69 c70 c105 c106 l1 l35 l71 lM hb
            obtain ⟨c0, c69, c70, c105, c106, l1, l35, l71, lM⟩ := HALL.out _ HB2.out
            go_wp2_with fail
            refine (hoc _).mono ?_
            rintro e v3 ⟨rfl, hb⟩
            have HB3 := Lib.hid (HB2.out.trans (hb.mono (by have := HB2.out.size; have := HZ.out; omega)))
            clear c0 c69 c70 c105 c106 l1 l35 l71 lM hb
            obtain ⟨c0, c69, c70, c105, c106, l1, l35, l71, lM⟩ := HALL.out _ HB3.out
            go_wp2_with fail
            refine (hon _).mono ?_
            rintro e v4 ⟨rfl, hb⟩
            have HB4 := Lib.hid (HB3.out.trans (hb.mono (by have := HB3.out.size; have := HZ.out; omega)))
            clear c0 c69 c70 c105 c106 l1 l35 l71 lM hb
            obtain ⟨c0, c69, c70, c105, c106, l1, l35, l71, lM⟩ := HALL.out _ HB4.out
            go_wp2_with fail
            go_ret
            exact ⟨mbool_ret (by first | rfl | (simp; done) | (simp [*]; done) | (simp; omega)), HBEL.out.trans (HB4.out.mono (Nat.le_succ _))⟩
      · go_enter Tryd.func32, Tryd.ntmps32
        go_wp2_with fail
        refine (hchk _).mono ?_
        rintro e v1 ⟨rfl, hb⟩
        have HB1 := Lib.hid (HB0.out.trans (hb.mono (by have := HB0.out.size; have := HZ.out; omega)))
        clear c0 c69 c70 c105 c106 l1 l35 l71 lM hb
        obtain ⟨c0, c69, c70, c105, c106, l1, l35, l71, lM⟩ := HALL.out _ HB1.out
        go_wp2_with fail
        refine (hcmn _).mono ?_
        rintro e v2 ⟨rfl, hb⟩
        have HB2 := Lib.hid (HB1.out.trans (hb.mono (by have := HB1.out.size; have := HZ.out; omega)))
        clear c0 c69 c70 c105 c106 l1 l35 l71 lM hb
        obtain ⟨c0, c69, c70, c105, c106, l1, l35, l71, lM⟩ := HALL.out _ HB2.out
        go_wp2_with fail
        go_ret
        exact ⟨mbool_ret (by first | rfl | (simp; done) | (simp [*]; done) | (simp; omega)), HBEL.out.trans (HB2.out.mono (Nat.le_succ _))⟩
    have q1 : (ph == 1) = false := beq_eq_false_iff_ne.2 p1
    by_cases p2 : ph = 2
    · subst p2
      rw [if_pos (Or.inr rfl)]
      cases C
      · cases O
        · go_enter Tryd.func32, Tryd.ntmps32
          go_wp2_with fail
          refine (hchk _).mono ?_
          rintro e v1 ⟨rfl, hb⟩
          have HB1 := Lib.hid (HB0.out.trans (hb.mono (by have := HB0.out.size; have := HZ.out; omega)))
          clear c0 c69 c70 c105 c106 l1 l35 l71 lM hb
          obtain ⟨c0, c69, c70, c105, c106, l1, l35, l71, lM⟩ := HALL.out _ HB1.out
          go_wp2_with fail
          refine (hcmn _).mono ?_
          rintro e v2 ⟨rfl, hb⟩
          have HB2 := Lib.hid (HB1.out.trans (hb.mono (by have := HB1.out.size; have := HZ.out; omega)))
          clear c0 c69 c70 c105 c106 l1 l35 l71 lM hb
          obtain ⟨c0, c69, c70, c105, c106, l1, l35, l71, lM⟩ := HALL.out _ HB2.out
          go_wp2_with fail
          refine (hoc _).mono ?_
          rintro e v3 ⟨rfl, hb⟩
          have HB3 := Lib.hid (HB2.out.trans (hb.mono (by have := HB2.out.size; have := HZ.out; omega)))
          clear c0 c69 c70 c105 c106 l1 l35 l71 lM hb
          obtain ⟨c0, c69, c70, c105, c106, l1, l35, l71, lM⟩ := HALL.out _ HB3.out
          go_wp2_with fail
          refine (hon _).mono ?_
          rintro e v4 ⟨rfl, hb⟩
          have HB4 := Lib.hid (HB3.out.trans (hb.mono (by have := HB3.out.size; have := HZ.out; omega)))
          clear c0 c69 c70 c105 c106 l1 l35 l71 lM hb
          obtain ⟨c0, c69, c70, c105, c106, l1, l35, l71, lM⟩ := HALL.out _ HB4.out
          go_wp2_with fail
          go_ret
          exact ⟨mbool_ret (by first | rfl | (simp; done) | (simp [*]; done) | (simp; omega)), HBEL.out.trans (HB4.out.mono (Nat.le_succ _))⟩
        · by_cases ht : tr = 0
          · subst ht
            by_cases hg : got = K
            · subst hg
              go_enter Tryd.func32, Tryd.ntmps32
              go_wp2_with fail
              refine (hchk _).mono ?_
              rintro e v1 ⟨rfl, hb⟩
              have HB1 := Lib.hid (HB0.out.trans (hb.mono (by have := HB0.out.size; have := HZ.out; omega)))
              clear c0 c69 c70 c105 c106 l1 l35 l71 lM hb
              obtain ⟨c0, c69, c70, c105, c106, l1, l35, l71, lM⟩ := HALL.out _ HB1.out
              go_wp2_with fail
              refine (hcmn _).mono ?_
              rintro e v2 ⟨rfl, hb⟩
              have HB2 := Lib.hid (HB1.out.trans (hb.mono (by have := HB1.out.size; have := HZ.out; omega)))
              clear c0 c69 c70 c105 c106 l1 l35 l71 lM hb
              obtain ⟨c0, c69, c70, c105, c106, l1, l35, l71, lM⟩ := HALL.out _ HB2.out
              go_wp2_with fail
              refine (hoc _).mono ?_
              rintro e v3 ⟨rfl, hb⟩
              have HB3 := Lib.hid (HB2.out.trans (hb.mono (by have := HB2.out.size; have := HZ.out; omega)))
              clear c0 c69 c70 c105 c106 l1 l35 l71 lM hb
              obtain ⟨c0, c69, c70, c105, c106, l1, l35, l71, lM⟩ := HALL.out _ HB3.out
              go_wp2_with fail
              refine (hon _).mono ?_
              rintro e v4 ⟨rfl, hb⟩
              have HB4 := Lib.hid (HB3.out.trans (hb.mono (by have := HB3.out.size; have := HZ.out; omega)))
              clear c0 c69 c70 c105 c106 l1 l35 l71 lM hb
              obtain ⟨c0, c69, c70, c105, c106, l1, l35, l71, lM⟩ := HALL.out _ HB4.out
              go_wp2_with fail
              go_ret
              exact ⟨mbool_ret (by first | rfl | (simp; done) | (simp [*]; done) | (simp; omega)), HBEL.out.trans (HB4.out.mono (Nat.le_succ _))⟩
            · have bg : (got == K) = false := beq_eq_false_iff_ne.2 hg
              go_enter Tryd.func32, Tryd.ntmps32
              go_wp2_with fail
              refine (hchk _).mono ?_
              rintro e v1 ⟨rfl, hb⟩
              have HB1 := Lib.hid (HB0.out.trans (hb.mono (by have := HB0.out.size; have := HZ.out; omega)))
              clear c0 c69 c70 c105 c106 l1 l35 l71 lM hb
              obtain ⟨c0, c69, c70, c105, c106, l1, l35, l71, lM⟩ := HALL.out _ HB1.out
              go_wp2_with fail
              refine (hcmn _).mono ?_
              rintro e v2 ⟨rfl, hb⟩
              have HB2 := Lib.hid (HB1.out.trans (hb.mono (by have := HB1.out.size; have := HZ.out; omega)))
              clear c0 c69 c70 c105 c106 l1 l35 l71 lM hb
              obtain ⟨c0, c69, c70, c105, c106, l1, l35, l71, lM⟩ := HALL.out _ HB2.out
              go_wp2_with fail
              refine (hoc _).mono ?_
              rintro e v3 ⟨rfl, hb⟩
              have HB3 := Lib.hid (HB2.out.trans (hb.mono (by have := HB2.out.size; have := HZ.out; omega)))
              clear c0 c69 c70 c105 c106 l1 l35 l71 lM hb
              obtain ⟨c0, c69, c70, c105, c106, l1, l35, l71, lM⟩ := HALL.out _ HB3.out
              go_wp2_with fail
              refine (hon _).mono ?_
              rintro e v4 ⟨rfl, hb⟩
              have HB4 := Lib.hid (HB3.out.trans (hb.mono (by have := HB3.out.size; have := HZ.out; omega)))
              clear c0 c69 c70 c105 c106 l1 l35 l71 lM hb
              obtain ⟨c0, c69, c70, c105, c106, l1, l35, l71, lM⟩ := HALL.out _ HB4.out
              go_wp2_with fail
              go_ret
              exact ⟨mbool_ret (by first | rfl | (simp; done) | (simp [*]; done) | (simp; omega)), HBEL.out.trans (HB4.out.mono (Nat.le_succ _))⟩
          · have bt : (tr == 0) = false := beq_eq_false_iff_ne.2 ht
            go_enter Tryd.func32, Tryd.ntmps32
            go_wp2_with fail
            refine (hchk _).mono ?_
            rintro e v1 ⟨rfl, hb⟩
            have HB1 := Lib.hid (HB0.out.trans (hb.mono (by have := HB0.out.size; have := HZ.out; omega)))
            clear c0 c69 c70 c105 c106 l1 l35 l71 lM hb
            obtain ⟨c0, c69, c70, c105, c106, l1, l35, l71, lM⟩ := HALL.out _ HB1.out
            go_wp2_with fail
            refine (hcmn _).mono ?_
            rintro e v2 ⟨rfl, hb⟩
            have HB2 := Lib.hid (HB1.out.trans (hb.mono (by have := HB1.out.size; have := HZ.out; omega)))
            clear c0 c69 c70 c105 c106 l1 l35 l71 lM hb
            obtain ⟨c0, c69, c70, c105, c106, l1, l35, l71, lM⟩ := HALL.out _ HB2.out
            go_wp2_with fail
            refine (hoc _).mono ?_
            rintro e v3 ⟨rfl, hb⟩
            have HB3 := Lib.hid (HB2.out.trans (hb.mono (by have := HB2.out.size; have := HZ.out; omega)))
            clear c0 c69 c70 c105 c106 l1 l35 l71 lM hb
            obtain ⟨c0, c69, c70, c105, c106, l1, l35, l71, lM⟩ := HALL.out _ HB3.out
            go_wp2_with fail
            refine (hon _).mono ?_
            rintro e v4 ⟨rfl, hb⟩
            have HB4 := Lib.hid (HB3.out.trans (hb.mono (by have := HB3.out.size; have := HZ.out; omega)))
            clear c0 c69 c70 c105 c106 l1 l35 l71 lM hb
            obtain ⟨c0, c69, c70, c105, c106, l1, l35, l71, lM⟩ := HALL.out _ HB4.out
            go_wp2_with fail
            go_ret
            exact ⟨mbool_ret (by first | rfl | (simp; done) | (simp [*]; done) | (simp; omega)), HBEL.out.trans (HB4.out.mono (Nat.le_succ _))⟩
      · go_enter Tryd.func32, Tryd.ntmps32
        go_wp2_with fail
        refine (hchk _).mono ?_
        rintro e v1 ⟨rfl, hb⟩
        have HB1 := Lib.hid (HB0.out.trans (hb.mono (by have := HB0.out.size; have := HZ.out; omega)))
        clear c0 c69 c70 c105 c106 l1 l35 l71 lM hb
        obtain ⟨c0, c69, c70, c105, c106, l1, l35, l71, lM⟩ := HALL.out _ HB1.out
        go_wp2_with fail
        refine (hcmn _).mono ?_
        rintro e v2 ⟨rfl, hb⟩
        have HB2 := Lib.hid (HB1.out.trans (hb.mono (by have := HB1.out.size; have := HZ.out; omega)))
        clear c0 c69 c70 c105 c106 l1 l35 l71 lM hb
        obtain ⟨c0, c69, c70, c105, c106, l1, l35, l71, lM⟩ := HALL.out _ HB2.out
        go_wp2_with fail
        go_ret
        exact ⟨mbool_ret (by first | rfl | (simp; done) | (simp [*]; done) | (simp; omega)), HBEL.out.trans (HB2.out.mono (Nat.le_succ _))⟩
    rw [if_neg (by omega)]
    have q2 : (ph == 2) = false := beq_eq_false_iff_ne.2 p2
    by_cases p3 : ph = 3
    · subst p3
      rw [if_pos rfl]
      cases C
      · go_enter Tryd.func32, Tryd.ntmps32
        go_wp2_with fail
        refine (hcmn _).mono ?_
        rintro e v1 ⟨rfl, hb⟩
        have HB1 := Lib.hid (HB0.out.trans (hb.mono (by have := HB0.out.size; have := HZ.out; omega)))
        clear c0 c69 c70 c105 c106 l1 l35 l71 lM hb
        obtain ⟨c0, c69, c70, c105, c106, l1, l35, l71, lM⟩ := HALL.out _ HB1.out
        go_wp2_with fail
        go_ret
        exact ⟨mbool_ret (by first | rfl | (simp; done) | (simp [*]; done) | (simp; omega)), HBEL.out.trans (HB1.out.mono (Nat.le_succ _))⟩
      · by_cases hg : got = 0
        · subst hg
          cases O
          · go_enter Tryd.func32, Tryd.ntmps32
            go_wp2_with fail
            refine (hcmn _).mono ?_
            rintro e v1 ⟨rfl, hb⟩
            have HB1 := Lib.hid (HB0.out.trans (hb.mono (by have := HB0.out.size; have := HZ.out; omega)))
            clear c0 c69 c70 c105 c106 l1 l35 l71 lM hb
            obtain ⟨c0, c69, c70, c105, c106, l1, l35, l71, lM⟩ := HALL.out _ HB1.out
            go_wp2_with fail
            refine (hoc _).mono ?_
            rintro e v2 ⟨rfl, hb⟩
            have HB2 := Lib.hid (HB1.out.trans (hb.mono (by have := HB1.out.size; have := HZ.out; omega)))
            clear c0 c69 c70 c105 c106 l1 l35 l71 lM hb
            obtain ⟨c0, c69, c70, c105, c106, l1, l35, l71, lM⟩ := HALL.out _ HB2.out
            go_wp2_with fail
            refine (hon _).mono ?_
            rintro e v3 ⟨rfl, hb⟩
            have HB3 := Lib.hid (HB2.out.trans (hb.mono (by have := HB2.out.size; have := HZ.out; omega)))
            clear c0 c69 c70 c105 c106 l1 l35 l71 lM hb
            obtain ⟨c0, c69, c70, c105, c106, l1, l35, l71, lM⟩ := HALL.out _ HB3.out
            go_wp2_with fail
            go_ret
            exact ⟨mbool_ret (by first | rfl | (simp; done) | (simp [*]; done) | (simp; omega)), HBEL.out.trans (HB3.out.mono (Nat.le_succ _))⟩
          · go_enter Tryd.func32, Tryd.ntmps32
            go_wp2_with fail
            refine (hcmn _).mono ?_
            rintro e v1 ⟨rfl, hb⟩
            have HB1 := Lib.hid (HB0.out.trans (hb.mono (by have := HB0.out.size; have := HZ.out; omega)))
            clear c0 c69 c70 c105 c106 l1 l35 l71 lM hb
            obtain ⟨c0, c69, c70, c105, c106, l1, l35, l71, lM⟩ := HALL.out _ HB1.out
            go_wp2_with fail
            refine (hoc _).mono ?_
            rintro e v2 ⟨rfl, hb⟩
            have HB2 := Lib.hid (HB1.out.trans (hb.mono (by have := HB1.out.size; have := HZ.out; omega)))
            clear c0 c69 c70 c105 c106 l1 l35 l71 lM hb
            obtain ⟨c0, c69, c70, c105, c106, l1, l35, l71, lM⟩ := HALL.out _ HB2.out
            go_wp2_with fail
            refine (hon _).mono ?_
            rintro e v3 ⟨rfl, hb⟩
            have HB3 := Lib.hid (HB2.out.trans (hb.mono (by have := HB2.out.size; have := HZ.out; omega)))
            clear c0 c69 c70 c105 c106 l1 l35 l71 lM hb
            obtain ⟨c0, c69, c70, c105, c106, l1, l35, l71, lM⟩ := HALL.out _ HB3.out
            go_wp2_with fail
            go_ret
            exact ⟨mbool_ret (by first | rfl | (simp; done) | (simp [*]; done) | (simp; omega)), HBEL.out.trans (HB3.out.mono (Nat.le_succ _))⟩
        · have bg : (got == 0) = false := beq_eq_false_iff_ne.2 hg
          go_enter Tryd.func32, Tryd.ntmps32
          go_wp2_with fail
          refine (hcmn _).mono ?_
          rintro e v1 ⟨rfl, hb⟩
          have HB1 := Lib.hid (HB0.out.trans (hb.mono (by have := HB0.out.size; have := HZ.out; omega)))
          clear c0 c69 c70 c105 c106 l1 l35 l71 lM hb
          obtain ⟨c0, c69, c70, c105, c106, l1, l35, l71, lM⟩ := HALL.out _ HB1.out
          go_wp2_with fail
          go_ret
          exact ⟨mbool_ret (by first | rfl | (simp; done) | (simp [*]; done) | (simp; omega)), HBEL.out.trans (HB1.out.mono (Nat.le_succ _))⟩
    rw [if_neg p3]
    have q3 : (ph == 3) = false := beq_eq_false_iff_ne.2 p3
    go_enter Tryd.func32, Tryd.ntmps32
    go_wp2_with fail
    go_ret
    exact ⟨mbool_ret (by first | rfl | (simp; done) | (simp [*]; done) | (simp; omega)), HBEL.out.trans (HB0.out.mono (Nat.le_succ _))⟩
  · have hon : ∀ W, Calls Tryd.prog 31 #[.agg m.h0.cells.toArray] W fun e w' => e = .returned (.bool O) ∧ Below W.heap.size W w' := fun W => HE.out ▸ (Mt.oth1 HE0.out).symm ▸ none_c W m.h0 HD.out.d0
    by_cases p0 : ph = 0
    · subst p0
      rw [if_pos rfl]
      cases C
      · go_enter Tryd.func32, Tryd.ntmps32
        go_wp2_with fail
        refine (hcmn _).mono ?_
        rintro e v1 ⟨rfl, hb⟩
        have HB1 := Lib.hid (HB0.out.trans (hb.mono (by have := HB0.out.size; have := HZ.out; omega)))
        clear c0 c69 c70 c105 c106 l1 l35 l71 lM hb
        obtain ⟨c0, c69, c70, c105, c106, l1, l35, l71, lM⟩ := HALL.out _ HB1.out
        go_wp2_with fail
        go_ret
        exact ⟨mbool_ret (by first | rfl | (simp; done) | (simp [*]; done) | (simp; omega)), HBEL.out.trans (HB1.out.mono (Nat.le_succ _))⟩
      · by_cases hg : got = 0
        · subst hg
          by_cases ht : tr = 0
          · subst ht
            go_enter Tryd.func32, Tryd.ntmps32
            go_wp2_with fail
            refine (hcmn _).mono ?_
            rintro e v1 ⟨rfl, hb⟩
            have HB1 := Lib.hid (HB0.out.trans (hb.mono (by have := HB0.out.size; have := HZ.out; omega)))
            clear c0 c69 c70 c105 c106 l1 l35 l71 lM hb
            obtain ⟨c0, c69, c70, c105, c106, l1, l35, l71, lM⟩ := HALL.out _ HB1.out
            go_wp2_with fail
            go_ret
            exact ⟨mbool_ret (by first | rfl | (simp; done) | (simp [*]; done) | (simp; omega)), HBEL.out.trans (HB1.out.mono (Nat.le_succ _))⟩
          · have bt : (tr == 0) = false := beq_eq_false_iff_ne.2 ht
            go_enter Tryd.func32, Tryd.ntmps32
            go_wp2_with fail
            refine (hcmn _).mono ?_
            rintro e v1 ⟨rfl, hb⟩
            have HB1 := Lib.hid (HB0.out.trans (hb.mono (by have := HB0.out.size; have := HZ.out; omega)))
            clear c0 c69 c70 c105 c106 l1 l35 l71 lM hb
            obtain ⟨c0, c69, c70, c105, c106, l1, l35, l71, lM⟩ := HALL.out _ HB1.out
            go_wp2_with fail
            go_ret
            exact ⟨mbool_ret (by first | rfl | (simp; done) | (simp [*]; done) | (simp; omega)), HBEL.out.trans (HB1.out.mono (Nat.le_succ _))⟩
        · have bg : (got == 0) = false := beq_eq_false_iff_ne.2 hg
          go_enter Tryd.func32, Tryd.ntmps32
          go_wp2_with fail
          refine (hcmn _).mono ?_
          rintro e v1 ⟨rfl, hb⟩
          have HB1 := Lib.hid (HB0.out.trans (hb.mono (by have := HB0.out.size; have := HZ.out; omega)))
          clear c0 c69 c70 c105 c106 l1 l35 l71 lM hb
          obtain ⟨c0, c69, c70, c105, c106, l1, l35, l71, lM⟩ := HALL.out _ HB1.out
          go_wp2_with fail
          go_ret
          exact ⟨mbool_ret (by first | rfl | (simp; done) | (simp [*]; done) | (simp; omega)), HBEL.out.trans (HB1.out.mono (Nat.le_succ _))⟩
    rw [if_neg p0]
    have q0 : (ph == 0) = false := beq_eq_false_iff_ne.2 p0
    by_cases p1 : ph = 1
    · subst p1
      rw [if_pos (Or.inl rfl)]
      cases C
      · cases O
        · go_enter Tryd.func32, Tryd.ntmps32
          go_wp2_with fail
          refine (hchk _).mono ?_
          rintro e v1 ⟨rfl, hb⟩
          have HB1 := Lib.hid (HB0.out.trans (hb.mono (by have := HB0.out.size; have := HZ.out; omega)))
          clear c0 c69 c70 c105 c106 l1 l35 l71 lM hb
          obtain ⟨c0, c69, c70, c105, c106, l1, l35, l71, lM⟩ := HALL.out _ HB1.out
          go_wp2_with fail
          refine (hcmn _).mono ?_
          rintro e v2 ⟨rfl, hb⟩
          have HB2 := Lib.hid (HB1.out.trans (hb.mono (by have := HB1.out.size; have := HZ.out; omega)))
          clear c0 c69 c70 c105 c106 l1 l35 l71 lM hb
          obtain ⟨c0, c69, c70, c105, c106, l1, l35, l71, lM⟩ := HALL.out _ HB2.out
          go_wp2_with fail
          refine (hoc _).mono ?_
          rintro e v3 ⟨rfl, hb⟩
          have HB3 := Lib.hid (HB2.out.trans (hb.mono (by have := HB2.out.size; have := HZ.out; omega)))
          clear c0 c69 c70 c105 c106 l1 l35 l71 lM hb
          obtain ⟨c0, c69, c70, c105, c106, l1, l35, l71, lM⟩ := HALL.out _ HB3.out
          go_wp2_with fail
          refine (hon _).mono ?_
          rintro e v4 ⟨rfl, hb⟩
          have HB4 := Lib.hid (HB3.out.trans (hb.mono (by have := HB3.out.size; have := HZ.out; omega)))
          clear c0 c69 c70 c105 c106 l1 l35 l71 lM hb
          obtain ⟨c0, c69, c70, c105, c106, l1, l35, l71, lM⟩ := HALL.out _ HB4.out
          go_wp2_with fail
          go_ret
          exact ⟨mbool_ret (by first | rfl | (simp; done) | (simp [*]; done) | (simp; omega)), HBEL.out.trans (HB4.out.mono (Nat.le_succ _))⟩
        · by_cases ht : tr = 0
          · subst ht
            by_cases hg : got = K
            · subst hg
              go_enter Tryd.func32, Tryd.ntmps32
              go_wp2_with fail
              refine (hchk _).mono ?_
              rintro e v1 ⟨rfl, hb⟩
              have HB1 := Lib.hid (HB0.out.trans (hb.mono (by have := HB0.out.size; have := HZ.out; omega)))
              clear c0 c69 c70 c105 c106 l1 l35 l71 lM hb
              obtain ⟨c0, c69, c70, c105, c106, l1, l35, l71, lM⟩ := HALL.out _ HB1.out
              go_wp2_with fail
              refine (hcmn _).mono ?_
              rintro e v2 ⟨rfl, hb⟩
              have HB2 := Lib.hid (HB1.out.trans (hb.mono (by have := HB1.out.size; have := HZ.out; omega)))
              clear c0 c69 c70 c105 c106 l1 l35 l71 lM hb
              obtain ⟨c0, c69, c70, c105, c106, l1, l35, l71, lM⟩ := HALL.out _ HB2.out
              go_wp2_with fail
              refine (hoc _).mono ?_
              rintro e v3 ⟨rfl, hb⟩
              have HB3 := Lib.hid (HB2.out.trans (hb.mono (by have := HB2.out.size; have := HZ.out; omega)))
              clear c0 c69 c70 c105 c106 l1 l35 l71 lM hb
              obtain ⟨c0, c69, c70, c105, c106, l1, l35, l71, lM⟩ := HALL.out _ HB3.out
              go_wp2_with fail
              refine (hon _).mono ?_
              rintro e v4 ⟨rfl, hb⟩
              have HB4 := Lib.hid (HB3.out.trans (hb.mono (by have := HB3.out.size; have := HZ.out; omega)))
              clear c0 c69 c70 c105 c106 l1 l35 l71 lM hb
              obtain ⟨c0, c69, c70, c105, c106, l1, l35, l71, lM⟩ := HALL.out _ HB4.out
              go_wp2_with fail
              go_ret
              exact ⟨mbool_ret (by first | rfl | (simp; done) | (simp [*]; done) | (simp; omega)), HBEL.out.trans (HB4.out.mono (Nat.le_succ _))⟩
            · have bg : (got == K) = false := beq_eq_false_iff_ne.2 hg
              by_cases hl : got < K
              · go_enter Tryd.func32, Tryd.ntmps32
                go_wp2_with fail
                refine (hchk _).mono ?_
                rintro e v1 ⟨rfl, hb⟩
                have HB1 := Lib.hid (HB0.out.trans (hb.mono (by have := HB0.out.size; have := HZ.out; omega)))
                clear c0 c69 c70 c105 c106 l1 l35 l71 lM hb
                obtain ⟨c0, c69, c70, c105, c106, l1, l35, l71, lM⟩ := HALL.out _ HB1.out
                go_wp2_with fail
                refine (hcmn _).mono ?_
                rintro e v2 ⟨rfl, hb⟩
                have HB2 := Lib.hid (HB1.out.trans (hb.mono (by have := HB1.out.size; have := HZ.out; omega)))
                clear c0 c69 c70 c105 c106 l1 l35 l71 lM hb
                obtain ⟨c0, c69, c70, c105, c106, l1, l35, l71, lM⟩ := HALL.out _ HB2.out
                go_wp2_with fail
                refine (hoc _).mono ?_
                rintro e v3 ⟨rfl, hb⟩
                have HB3 := Lib.hid (HB2.out.trans (hb.mono (by have := HB2.out.size; have := HZ.out; omega)))
                clear c0 c69 c70 c105 c106 l1 l35 l71 lM hb
                obtain ⟨c0, c69, c70, c105, c106, l1, l35, l71, lM⟩ := HALL.out _ HB3.out
                go_wp2_with fail
                refine (hon _).mono ?_
                rintro e v4 ⟨rfl, hb⟩
                have HB4 := Lib.hid (HB3.out.trans (hb.mono (by have := HB3.out.size; have := HZ.out; omega)))
                clear c0 c69 c70 c105 c106 l1 l35 l71 lM hb
                obtain ⟨c0, c69, c70, c105, c106, l1, l35, l71, lM⟩ := HALL.out _ HB4.out
                go_wp2_with fail
                go_ret
                exact ⟨mbool_ret (by first | rfl | (simp; done) | (simp [*]; done) | (simp; omega)), HBEL.out.trans (HB4.out.mono (Nat.le_succ _))⟩
              · go_enter Tryd.func32, Tryd.ntmps32
                go_wp2_with fail
                refine (hchk _).mono ?_
                rintro e v1 ⟨rfl, hb⟩
                have HB1 := Lib.hid (HB0.out.trans (hb.mono (by have := HB0.out.size; have := HZ.out; omega)))
                clear c0 c69 c70 c105 c106 l1 l35 l71 lM hb
                obtain ⟨c0, c69, c70, c105, c106, l1, l35, l71, lM⟩ := HALL.out _ HB1.out
                go_wp2_with fail
                refine (hcmn _).mono ?_
                rintro e v2 ⟨rfl, hb⟩
                have HB2 := Lib.hid (HB1.out.trans (hb.mono (by have := HB1.out.size; have := HZ.out; omega)))
                clear c0 c69 c70 c105 c106 l1 l35 l71 lM hb
                obtain ⟨c0, c69, c70, c105, c106, l1, l35, l71, lM⟩ := HALL.out _ HB2.out
                go_wp2_with fail
                refine (hoc _).mono ?_
                rintro e v3 ⟨rfl, hb⟩
                have HB3 := Lib.hid (HB2.out.trans (hb.mono (by have := HB2.out.size; have := HZ.out; omega)))
                clear c0 c69 c70 c105 c106 l1 l35 l71 lM hb
                obtain ⟨c0, c69, c70, c105, c106, l1, l35, l71, lM⟩ := HALL.out _ HB3.out
                go_wp2_with fail
                refine (hon _).mono ?_
                rintro e v4 ⟨rfl, hb⟩
                have HB4 := Lib.hid (HB3.out.trans (hb.mono (by have := HB3.out.size; have := HZ.out; omega)))
                clear c0 c69 c70 c105 c106 l1 l35 l71 lM hb
                obtain ⟨c0, c69, c70, c105, c106, l1, l35, l71, lM⟩ := HALL.out _ HB4.out
                go_wp2_with fail
                go_ret
                exact ⟨mbool_ret (by first | rfl | (simp; done) | (simp [*]; done) | (simp; omega)), HBEL.out.trans (HB4.out.mono (Nat.le_succ _))⟩
          · have bt : (tr == 0) = false := beq_eq_false_iff_ne.2 ht
            go_enter Tryd.func32, Tryd.ntmps32
            go_wp2_with fail
            refine (hchk _).mono ?_
            rintro e v1 ⟨rfl, hb⟩
            have HB1 := Lib.hid (HB0.out.trans (hb.mono (by have := HB0.out.size; have := HZ.out; omega)))
            clear c0 c69 c70 c105 c106 l1 l35 l71 lM hb
            obtain ⟨c0, c69, c70, c105, c106, l1, l35, l71, lM⟩ := HALL.out _ HB1.out
            go_wp2_with fail
            refine (hcmn _).mono ?_
            rintro e v2 ⟨rfl, hb⟩
            have HB2 := Lib.hid (HB1.out.trans (hb.mono (by have := HB1.out.size; have := HZ.out; omega)))
            clear c0 c69 c70 c105 c106 l1 l35 l71 lM hb
            obtain ⟨c0, c69, c70, c105, c106, l1, l35, l71, lM⟩ := HALL.out _ HB2.out
            go_wp2_with fail
            refine (hoc _).mono ?_
            rintro e v3 ⟨rfl, hb⟩
            have HB3 := Lib.hid (HB2.out.trans (hb.mono (by have := HB2.out.size; have := HZ.out; omega)))
            clear c0 c69 c70 c105 c106 l1 l35 l71 lM hb
            obtain ⟨c0, c69, c70, c105, c106, l1, l35, l71, lM⟩ := HALL.out _ HB3.out
            go_wp2_with fail
            refine (hon _).mono ?_
            rintro e v4 ⟨rfl, hb⟩
            have HB4 := Lib.hid (HB3.out.trans (hb.mono (by have := HB3.out.size; have := HZ.out; omega)))
            clear c0 c69 c70 c105 c106 l1 l35 l71 lM hb
            obtain ⟨c0, c69, c70, c105, c106, l1, l35, l71, lM⟩ := HALL.out _ HB4.out
            go_wp2_with fail
            go_ret
            exact ⟨mbool_ret (by first | rfl | (simp; done) | (simp [*]; done) | (simp; omega)), HBEL.out.trans (HB4.out.mono (Nat.le_succ _))⟩
      · go_enter Tryd.func32, Tryd.ntmps32
        go_wp2_with fail
        refine (hchk _).mono ?_
        rintro e v1 ⟨rfl, hb⟩
        have HB1 := Lib.hid (HB0.out.trans (hb.mono (by have := HB0.out.size; have := HZ.out; omega)))
        clear c0 c69 c70 c105 c106 l1 l35 l71 lM hb
        obtain ⟨c0, c69, c70, c105, c106, l1, l35, l71, lM⟩ := HALL.out _ HB1.out
        go_wp2_with fail
        refine (hcmn _).mono ?_
        rintro e v2 ⟨rfl, hb⟩
        have HB2 := Lib.hid (HB1.out.trans (hb.mono (by have := HB1.out.size; have := HZ.out; omega)))
        clear c0 c69 c70 c105 c106 l1 l35 l71 lM hb
        obtain ⟨c0, c69, c70, c105, c106, l1, l35, l71, lM⟩ := HALL.out _ HB2.out
        go_wp2_with fail
        go_ret
        exact ⟨mbool_ret (by first | rfl | (simp; done) | (simp [*]; done) | (simp; omega)), HBEL.out.trans (HB2.out.mono (Nat.le_succ _))⟩
    have q1 : (ph == 1) = false := beq_eq_false_iff_ne.2 p1
    by_cases p2 : ph = 2
    · subst p2
      rw [if_pos (Or.inr rfl)]
      cases C
      · cases O
        · go_enter Tryd.func32, Tryd.ntmps32
          go_wp2_with fail
          refine (hchk _).mono ?_
          rintro e v1 ⟨rfl, hb⟩
          have HB1 := Lib.hid (HB0.out.trans (hb.mono (by have := HB0.out.size; have := HZ.out; omega)))
          clear c0 c69 c70 c105 c106 l1 l35 l71 lM hb
          obtain ⟨c0, c69, c70, c105, c106, l1, l35, l71, lM⟩ := HALL.out _ HB1.out
          go_wp2_with fail
          refine (hcmn _).mono ?_
          rintro e v2 ⟨rfl, hb⟩
          have HB2 := Lib.hid (HB1.out.trans (hb.mono (by have := HB1.out.size; have := HZ.out; omega)))
          clear c0 c69 c70 c105 c106 l1 l35 l71 lM hb
          obtain ⟨c0, c69, c70, c105, c106, l1, l35, l71, lM⟩ := HALL.out _ HB2.out
          go_wp2_with fail
          refine (hoc _).mono ?_
          rintro e v3 ⟨rfl, hb⟩
          have HB3 := Lib.hid (HB2.out.trans (hb.mono (by have := HB2.out.size; have := HZ.out; omega)))
          clear c0 c69 c70 c105 c106 l1 l35 l71 lM hb
          obtain ⟨c0, c69, c70, c105, c106, l1, l35, l71, lM⟩ := HALL.out _ HB3.out
          go_wp2_with fail
          refine (hon _).mono ?_
          rintro e v4 ⟨rfl, hb⟩
          have HB4 := Lib.hid (HB3.out.trans (hb.mono (by have := HB3.out.size; have := HZ.out; omega)))
          clear c0 c69 c70 c105 c106 l1 l35 l71 lM hb
          obtain ⟨c0, c69, c70, c105, c106, l1, l35, l71, lM⟩ := HALL.out _ HB4.out
          go_wp2_with fail
          go_ret
          exact ⟨mbool_ret (by first | rfl | (simp; done) | (simp [*]; done) | (simp; omega)), HBEL.out.trans (HB4.out.mono (Nat.le_succ _))⟩
        · by_cases ht : tr = 0
          · subst ht
            by_cases hg : got = K
            · subst hg
              go_enter Tryd.func32, Tryd.ntmps32
              go_wp2_with fail
              refine (hchk _).mono ?_
              rintro e v1 ⟨rfl, hb⟩
              have HB1 := Lib.hid (HB0.out.trans (hb.mono (by have := HB0.out.size; have := HZ.out; omega)))
              clear c0 c69 c70 c105 c106 l1 l35 l71 lM hb
              obtain ⟨c0, c69, c70, c105, c106, l1, l35, l71, lM⟩ := HALL.out _ HB1.out
              go_wp2_with fail
              refine (hcmn _).mono ?_
              rintro e v2 ⟨rfl, hb⟩
              have HB2 := Lib.hid (HB1.out.trans (hb.mono (by have := HB1.out.size; have := HZ.out; omega)))
              clear c0 c69 c70 c105 c106 l1 l35 l71 lM hb
              obtain ⟨c0, c69, c70, c105, c106, l1, l35, l71, lM⟩ := HALL.out _ HB2.out
              go_wp2_with fail
              refine (hoc _).mono ?_
              rintro e v3 ⟨rfl, hb⟩
              have HB3 := Lib.hid (HB2.out.trans (hb.mono (by have := HB2.out.size; have := HZ.out; omega)))
              clear c0 c69 c70 c105 c106 l1 l35 l71 lM hb
              obtain ⟨c0, c69, c70, c105, c106, l1, l35, l71, lM⟩ := HALL.out _ HB3.out
              go_wp2_with fail
              refine (hon _).mono ?_
              rintro e v4 ⟨rfl, hb⟩
              have HB4 := Lib.hid (HB3.out.trans (hb.mono (by have := HB3.out.size; have := HZ.out; omega)))
              clear c0 c69 c70 c105 c106 l1 l35 l71 lM hb
              obtain ⟨c0, c69, c70, c105, c106, l1, l35, l71, lM⟩ := HALL.out _ HB4.out
              go_wp2_with fail
              go_ret
              exact ⟨mbool_ret (by first | rfl | (simp; done) | (simp [*]; done) | (simp; omega)), HBEL.out.trans (HB4.out.mono (Nat.le_succ _))⟩
            · have bg : (got == K) = false := beq_eq_false_iff_ne.2 hg
              go_enter Tryd.func32, Tryd.ntmps32
              go_wp2_with fail
              refine (hchk _).mono ?_
              rintro e v1 ⟨rfl, hb⟩
              have HB1 := Lib.hid (HB0.out.trans (hb.mono (by have := HB0.out.size; have := HZ.out; omega)))
              clear c0 c69 c70 c105 c106 l1 l35 l71 lM hb
              obtain ⟨c0, c69, c70, c105, c106, l1, l35, l71, lM⟩ := HALL.out _ HB1.out
              go_wp2_with fail
              refine (hcmn _).mono ?_
              rintro e v2 ⟨rfl, hb⟩
              have HB2 := Lib.hid (HB1.out.trans (hb.mono (by have := HB1.out.size; have := HZ.out; omega)))
              clear c0 c69 c70 c105 c106 l1 l35 l71 lM hb
              obtain ⟨c0, c69, c70, c105, c106, l1, l35, l71, lM⟩ := HALL.out _ HB2.out
              go_wp2_with fail
              refine (hoc _).mono ?_
              rintro e v3 ⟨rfl, hb⟩
              have HB3 := Lib.hid (HB2.out.trans (hb.mono (by have := HB2.out.size; have := HZ.out; omega)))
              clear c0 c69 c70 c105 c106 l1 l35 l71 lM hb
              obtain ⟨c0, c69, c70, c105, c106, l1, l35, l71, lM⟩ := HALL.out _ HB3.out
              go_wp2_with fail
              refine (hon _).mono ?_
              rintro e v4 ⟨rfl, hb⟩
              have HB4 := Lib.hid (HB3.out.trans (hb.mono (by have := HB3.out.size; have := HZ.out; omega)))
              clear c0 c69 c70 c105 c106 l1 l35 l71 lM hb
              obtain ⟨c0, c69, c70, c105, c106, l1, l35, l71, lM⟩ := HALL.out _ HB4.out
              go_wp2_with fail
              go_ret
              exact ⟨mbool_ret (by first | rfl | (simp; done) | (simp [*]; done) | (simp; omega)), HBEL.out.trans (HB4.out.mono (Nat.le_succ _))⟩
          · have bt : (tr == 0) = false := beq_eq_false_iff_ne.2 ht
            go_enter Tryd.func32, Tryd.ntmps32
            go_wp2_with fail
            refine (hchk _).mono ?_
            rintro e v1 ⟨rfl, hb⟩
            have HB1 := Lib.hid (HB0.out.trans (hb.mono (by have := HB0.out.size; have := HZ.out; omega)))
            clear c0 c69 c70 c105 c106 l1 l35 l71 lM hb
            obtain ⟨c0, c69, c70, c105, c106, l1, l35, l71, lM⟩ := HALL.out _ HB1.out
            go_wp2_with fail
            refine (hcmn _).mono ?_
            rintro e v2 ⟨rfl, hb⟩
            have HB2 := Lib.hid (HB1.out.trans (hb.mono (by have := HB1.out.size; have := HZ.out; omega)))
            clear c0 c69 c70 c105 c106 l1 l35 l71 lM hb
            obtain ⟨c0, c69, c70, c105, c106, l1, l35, l71, lM⟩ := HALL.out _ HB2.out
            go_wp2_with fail
            refine (hoc _).mono ?_
            rintro e v3 ⟨rfl, hb⟩
            have HB3 := Lib.hid (HB2.out.trans (hb.mono (by have := HB2.out.size; have := HZ.out; omega)))
            clear c0 c69 c70 c105 c106 l1 l35 l71 lM hb
            obtain ⟨c0, c69, c70, c105, c106, l1, l35, l71, lM⟩ := HALL.out _ HB3.out
            go_wp2_with fail
            refine (hon _).mono ?_
            rintro e v4 ⟨rfl, hb⟩
            have HB4 := Lib.hid (HB3.out.trans (hb.mono (by have := HB3.out.size; have := HZ.out; omega)))
            clear c0 c69 c70 c105 c106 l1 l35 l71 lM hb
            obtain ⟨c0, c69, c70, c105, c106, l1, l35, l71, lM⟩ := HALL.out _ HB4.out
            go_wp2_with fail
            go_ret
            exact ⟨mbool_ret (by first | rfl | (simp; done) | (simp [*]; done) | (simp; omega)), HBEL.out.trans (HB4.out.mono (Nat.le_succ _))⟩
      · go_enter Tryd.func32, Tryd.ntmps32
        go_wp2_with fail
        refine (hchk _).mono ?_
        rintro e v1 ⟨rfl, hb⟩
        have HB1 := Lib.hid (HB0.out.trans (hb.mono (by have := HB0.out.size; have := HZ.out; omega)))
        clear c0 c69 c70 c105 c106 l1 l35 l71 lM hb
        obtain ⟨c0, c69, c70, c105, c106, l1, l35, l71, lM⟩ := HALL.out _ HB1.out
        go_wp2_with fail
        refine (hcmn _).mono ?_
        rintro e v2 ⟨rfl, hb⟩
        have HB2 := Lib.hid (HB1.out.trans (hb.mono (by have := HB1.out.size; have := HZ.out; omega)))
        clear c0 c69 c70 c105 c106 l1 l35 l71 lM hb
        obtain ⟨c0, c69, c70, c105, c106, l1, l35, l71, lM⟩ := HALL.out _ HB2.out
        go_wp2_with fail
        go_ret
        exact ⟨mbool_ret (by first | rfl | (simp; done) | (simp [*]; done) | (simp; omega)), HBEL.out.trans (HB2.out.mono (Nat.le_succ _))⟩
    rw [if_neg (by omega)]
    have q2 : (ph == 2) = false := beq_eq_false_iff_ne.2 p2
    by_cases p3 : ph = 3
    · subst p3
      rw [if_pos rfl]
      cases C
      · go_enter Tryd.func32, Tryd.ntmps32
        go_wp2_with fail
        refine (hcmn _).mono ?_
        rintro e v1 ⟨rfl, hb⟩
        have HB1 := Lib.hid (HB0.out.trans (hb.mono (by have := HB0.out.size; have := HZ.out; omega)))
        clear c0 c69 c70 c105 c106 l1 l35 l71 lM hb
        obtain ⟨c0, c69, c70, c105, c106, l1, l35, l71, lM⟩ := HALL.out _ HB1.out
        go_wp2_with fail
        go_ret
        exact ⟨mbool_ret (by first | rfl | (simp; done) | (simp [*]; done) | (simp; omega)), HBEL.out.trans (HB1.out.mono (Nat.le_succ _))⟩
      · by_cases hg : got = 0
        · subst hg
          cases O
          · go_enter Tryd.func32, Tryd.ntmps32
            go_wp2_with fail
            refine (hcmn _).mono ?_
            rintro e v1 ⟨rfl, hb⟩
            have HB1 := Lib.hid (HB0.out.trans (hb.mono (by have := HB0.out.size; have := HZ.out; omega)))
            clear c0 c69 c70 c105 c106 l1 l35 l71 lM hb
            obtain ⟨c0, c69, c70, c105, c106, l1, l35, l71, lM⟩ := HALL.out _ HB1.out
            go_wp2_with fail
            refine (hoc _).mono ?_
            rintro e v2 ⟨rfl, hb⟩
            have HB2 := Lib.hid (HB1.out.trans (hb.mono (by have := HB1.out.size; have := HZ.out; omega)))
            clear c0 c69 c70 c105 c106 l1 l35 l71 lM hb
            obtain ⟨c0, c69, c70, c105, c106, l1, l35, l71, lM⟩ := HALL.out _ HB2.out
            go_wp2_with fail
            refine (hon _).mono ?_
            rintro e v3 ⟨rfl, hb⟩
            have HB3 := Lib.hid (HB2.out.trans (hb.mono (by have := HB2.out.size; have := HZ.out; omega)))
            clear c0 c69 c70 c105 c106 l1 l35 l71 lM hb
            obtain ⟨c0, c69, c70, c105, c106, l1, l35, l71, lM⟩ := HALL.out _ HB3.out
            go_wp2_with fail
            go_ret
            exact ⟨mbool_ret (by first | rfl | (simp; done) | (simp [*]; done) | (simp; omega)), HBEL.out.trans (HB3.out.mono (Nat.le_succ _))⟩
          · go_enter Tryd.func32, Tryd.ntmps32
            go_wp2_with fail
            refine (hcmn _).mono ?_
            rintro e v1 ⟨rfl, hb⟩
            have HB1 := Lib.hid (HB0.out.trans (hb.mono (by have := HB0.out.size; have := HZ.out; omega)))
            clear c0 c69 c70 c105 c106 l1 l35 l71 lM hb
            obtain ⟨c0, c69, c70, c105, c106, l1, l35, l71, lM⟩ := HALL.out _ HB1.out
            go_wp2_with fail
            refine (hoc _).mono ?_
            rintro e v2 ⟨rfl, hb⟩
            have HB2 := Lib.hid (HB1.out.trans (hb.mono (by have := HB1.out.size; have := HZ.out; omega)))
            clear c0 c69 c70 c105 c106 l1 l35 l71 lM hb
            obtain ⟨c0, c69, c70, c105, c106, l1, l35, l71, lM⟩ := HALL.out _ HB2.out
            go_wp2_with fail
            refine (hon _).mono ?_
            rintro e v3 ⟨rfl, hb⟩
            have HB3 := Lib.hid (HB2.out.trans (hb.mono (by have := HB2.out.size; have := HZ.out; omega)))
            clear c0 c69 c70 c105 c106 l1 l35 l71 lM hb
            obtain ⟨c0, c69, c70, c105, c106, l1, l35, l71, lM⟩ := HALL.out _ HB3.out
            go_wp2_with fail
            go_ret
            exact ⟨mbool_ret (by first | rfl | (simp; done) | (simp [*]; done) | (simp; omega)), HBEL.out.trans (HB3.out.mono (Nat.le_succ _))⟩
        · have bg : (got == 0) = false := beq_eq_false_iff_ne.2 hg
          go_enter Tryd.func32, Tryd.ntmps32
          go_wp2_with fail
          refine (hcmn _).mono ?_
          rintro e v1 ⟨rfl, hb⟩
          have HB1 := Lib.hid (HB0.out.trans (hb.mono (by have := HB0.out.size; have := HZ.out; omega)))
          clear c0 c69 c70 c105 c106 l1 l35 l71 lM hb
          obtain ⟨c0, c69, c70, c105, c106, l1, l35, l71, lM⟩ := HALL.out _ HB1.out
          go_wp2_with fail
          go_ret
          exact ⟨mbool_ret (by first | rfl | (simp; done) | (simp [*]; done) | (simp; omega)), HBEL.out.trans (HB1.out.mono (Nat.le_succ _))⟩
    rw [if_neg p3]
    have q3 : (ph == 3) = false := beq_eq_false_iff_ne.2 p3
    go_enter Tryd.func32, Tryd.ntmps32
    go_wp2_with fail
    go_ret
    exact ⟨mbool_ret (by first | rfl | (simp; done) | (simp [*]; done) | (simp; omega)), HBEL.out.trans (HB0.out.mono (Nat.le_succ _))⟩
end Go.Proofs.YtpbdglocfjbbfaaDoor
