/- Small plain laws of an update's errors; the reference's Len. · What update.Do does when it answers no error: the nine kinds (plain). -/
import Derived.Test.YtpafenlcgcenlaaGreatDoorUpP
namespace Go.Proofs.YtpafenlcgcenlaaGreatDoor
open Go Go.RowKit
set_option linter.unusedVariables false
set_option linter.unusedSimpArgs false
theorem rlen12_c (z n : Int) (hz : -9223372036854775808 ≤ z ∧ z ≤ 9223372036854775807) (w : World) : Calls Tryz.prog 44 #[.int .i64 z, .int .i64 n] w fun e w' => e = .returned (.int .i64 (lenZ z n)) ∧ w = w' := by
  obtain ⟨K, hK⟩ : ∃ K, chunksZ z = K := ⟨_, rfl⟩
  have hch : ∀ w, Calls Tryz.prog 42 #[.int .i64 z] w fun e w' => e = .returned (.int .i64 K) ∧ w = w' := fun w => hK ▸ rchunks12_c z hz w
  have hK0 : 0 ≤ K ∧ K ≤ 9223372036854775807 := by unfold chunksZ at hK; split at hK <;> omega
  have hK1 : 1 ≤ z → z ≤ 320 * K ∧ 320 * (K - 1) < z := by intro h; unfold chunksZ at hK; split at hK <;> omega
  have hK2 : z < 1 → K = 0 := by intro h; unfold chunksZ at hK; split at hK <;> omega
  unfold lenZ
  rw [hK]
  clear hK
  by_cases h0 : n < 0
  · rw [if_pos (Or.inl h0)]
    clear hK0 hK1 hK2
    go_enter Tryz.func44, Tryz.ntmps44
    go_wp2_with fail
    go_ret
    exact ⟨rfl, rfl⟩
  · by_cases h1 : K ≤ n
    · rw [if_pos (Or.inr h1)]
      clear hK0 hK1 hK2
      go_enter Tryz.func44, Tryz.ntmps44
      go_wp2_with (go_at_call 42; refine (hch _).mono ?_; rintro e w' ⟨rfl, rfl⟩)
      go_ret
      exact ⟨rfl, rfl⟩
    · rw [if_neg (by omega)]
      have hz1 : 1 ≤ z := by
        by_cases h : z < 1
        · have := hK2 h; omega
        · omega
      have hk1 := hK1 hz1
      have e0 : IntKind.i64.wrap (K - 1) = K - 1 := IntWalk.i64_in _ (by omega)
      have e1 : IntKind.i64.wrap (n * 320) = n * 320 := IntWalk.i64_in _ (by omega)
      have e2 : IntKind.i64.wrap (z - n * 320) = z - n * 320 := IntWalk.i64_in _ (by omega)
      by_cases h2 : n < K - 1
      · have hm : min 320 (z - n * 320) = 320 := by omega
        rw [hm]
        clear hK0 hK1 hK2 hk1 e1 e2 hm
        go_enter Tryz.func44, Tryz.ntmps44
        go_wp2_with (go_at_call 42; refine (hch _).mono ?_; rintro e w' ⟨rfl, rfl⟩)
        go_ret
        exact ⟨rfl, rfl⟩
      · have hm : min 320 (z - n * 320) = z - n * 320 := by omega
        rw [hm]
        clear hK0 hK1 hK2 hk1 hm
        go_enter Tryz.func44, Tryz.ntmps44
        go_wp2_with (go_at_call 42; refine (hch _).mono ?_; rintro e w' ⟨rfl, rfl⟩)
        go_ret
        exact ⟨rfl, rfl⟩
theorem fin_one (m T : Mt) (l : List Int) : (if (oneD T l).e = 0 then oneD T l else (⟨m, (oneD T l).e, (oneD T l).n, (oneD T l).g⟩ : Ch)) = if firstE l = 0 then ⟨T, 0, 0, 0⟩ else ⟨m, firstE l, 0, 0⟩ := by
  unfold oneD
  by_cases h : firstE l = 0
  · rw [if_pos h, if_pos h]; rfl
  · rw [if_neg h, if_neg h]; rw [if_neg h]
theorem firstE_t {b : Bool} {e : Int} {l : List Int} (h : b = true) (he : e ≠ 0) : firstE (wh b e :: l) = e := by
  show (if wh b e = 0 then firstE l else wh b e) = e
  rw [show wh b e = e from by unfold wh; rw [if_pos h], if_neg he]
theorem firstE_f {b : Bool} {e : Int} {l : List Int} (h : b = false) : firstE (wh b e :: l) = firstE l := by
  show (if wh b e = 0 then firstE l else wh b e) = _
  rw [show wh b e = 0 from by unfold wh; rw [h]; rfl, if_pos rfl]
theorem firstE_z {e : Int} {l : List Int} (h : e = 0) : firstE (e :: l) = firstE l := by
  show (if e = 0 then firstE l else e) = _
  rw [if_pos h]
theorem firstE_nil : firstE [] = 0 := rfl
theorem none_zero {i : Img} (h : i.none = true) : i = Img.zero := (Img.same_iff _ _).1 h
theorem ph0_all {m : Mt} (P : RightP m) (h : m.ph = 0) : m.cm = Img.zero ∧ m.got = 0 ∧ m.tr = 0 := by
  have q := P.ph
  rw [phase0 h] at q
  simp only [Bool.and_eq_true, beq_iff_eq] at q
  exact ⟨none_zero q.1, q.2.1, q.2.2⟩
end Go.Proofs.YtpafenlcgcenlaaGreatDoor
namespace Go.Proofs.YtpafenlcgcenlaaGreatDoor
open Go Go.RowKit
set_option linter.unusedVariables false
set_option linter.unusedSimpArgs false
/-- What a request without an error did. -/
inductive Did (m : Mt) (f : Fc) (k n : Int) (l : List UInt8) (qu : Int) : Mt → Prop where
  | begin : k = 1 → m.ph = 0 → f.nm = true → f.tg = true → f.wn = false → mE l = 0 → m.vmay (mX l).v = true → chunksZ (mX l).s ≤ min qu 6 → Did m f k n l qu (m.beginT l)
  | write : k = 2 → m.ph = 1 → n = m.got → m.got < chunksZ m.cm.s → (l.length : Int) = lenZ m.cm.s m.got → f.wn = false → Did m f k n l qu { m with got := m.got + 1 }
  | verify : k = 3 → m.ph = 1 → chunksZ m.cm.s ≤ m.got → f.d = m.cm.d → f.wn = false → Did m f k n l qu { m with ph := 2 }
  | commit : k = 4 → m.ph = 2 → f.wn = false → Did m f k n l qu m.commitT
  | boot0 : k = 5 → m.ph = 3 → f.wn = false → m.tr = 0 → Did m f k n l qu m.idle.alone
  | boot1 : k = 5 → m.ph = 3 → f.wn = false → m.tr ≠ 0 → Did m f k n l qu { m with tr := m.tr - 1 }
  | bootn : k = 5 → ¬ (m.ph = 3 ∧ f.wn = false) → Did m f k n l qu m
  | confirm : k = 6 → m.ph = 3 → m.tr ≠ 2 → f.wn = false → Did m f k n l qu m.confT
  | rollback : k = 7 → m.ph = 3 → f.wn = false → Did m f k n l qu m.idle.alone
  | abort : k = 8 → m.ph ≠ 0 → m.ph ≠ 3 → f.wn = false → Did m f k n l qu m.idle
  | status : k = 9 → Did m f k n l qu m
theorem doA_e0 {m : Mt} (hr : m.right = true) (f : Fc) (k n : Int) (l : List UInt8) (qu : Int) (he : (doA m f k n l qu).e = 0) : doA m f k n l qu = doesD m f k n (l.length : Int) (beginD m f l qu) ∧ (doesD m f k n (l.length : Int) (beginD m f l qu)).e = 0 := by
  obtain ⟨a1, a2⟩ := doA_right hr f k n l qu
  by_cases h : (doesD m f k n (l.length : Int) (beginD m f l qu)).e = 0
  · exact ⟨a1 h, h⟩
  · exact absurd he (a2 h).2
theorem did {m : Mt} (hr : m.right = true) (f : Fc) (k n : Int) (l : List UInt8) (qu : Int) (he : (doA m f k n l qu).e = 0) : Did m f k n l qu (doA m f k n l qu).m := by
  obtain ⟨q, h⟩ := doA_e0 hr f k n l qu he
  rw [q]
  clear q he
  have key : ∀ {T : Mt} {L : List Int}, doesD m f k n (l.length : Int) (beginD m f l qu) = oneD T L → (doesD m f k n (l.length : Int) (beginD m f l qu)).m = T ∧ ∀ e ∈ L, e = 0 := fun {T L} hd => by
    rw [hd] at h ⊢
    obtain ⟨e0, hz⟩ := oneD_zero h
    exact ⟨by rw [e0], hz⟩
  by_cases h1 : k = 1
  · subst h1
    obtain ⟨e, hz⟩ := key (T := m.beginT l) (L := [wh (m.ph != 0) 11, mE l, wh (!f.nm) 7, wh (!f.tg) 8, wh (!(m.vmay (mX l).v)) 9, wh (decide (min qu 6 < chunksZ (mX l).s)) 10, wh f.wn 5]) (by unfold doesD; rw [if_pos rfl]; rfl)
    have z1 := wh_zero (hz (wh (m.ph != 0) 11) (by simp)) (by decide)
    have z2 := hz (mE l) (by simp)
    have z3 := wh_zero (hz (wh (!f.nm) 7) (by simp)) (by decide)
    have z4 := wh_zero (hz (wh (!f.tg) 8) (by simp)) (by decide)
    have z5 := wh_zero (hz (wh (!(m.vmay (mX l).v)) 9) (by simp)) (by decide)
    have z6 := wh_zero (hz (wh (decide (min qu 6 < chunksZ (mX l).s)) 10) (by simp)) (by decide)
    have z7 := wh_zero (hz (wh f.wn 5) (by simp)) (by decide)
    simp only [bne_eq_false_iff_eq, Bool.not_eq_false', decide_eq_false_iff_not, Int.not_lt] at z1 z3 z4 z5 z6
    rw [e]
    exact .begin rfl z1 z3 z4 z7 z2 z5 z6
  by_cases h2 : k = 2
  · subst h2
    obtain ⟨e, hz⟩ := key (T := { m with got := m.got + 1 }) (L := [wh (m.ph != 1) 11, wh (n != m.got || decide (chunksZ m.cm.s ≤ m.got)) 12, wh ((l.length : Int) != lenZ m.cm.s m.got) 6, wh f.wn 5]) (by unfold doesD; rw [if_neg (by decide), if_pos rfl])
    have z1 := wh_zero (hz (wh (m.ph != 1) 11) (by simp)) (by decide)
    have z2 := wh_zero (hz (wh (n != m.got || decide (chunksZ m.cm.s ≤ m.got)) 12) (by simp)) (by decide)
    have z3 := wh_zero (hz (wh ((l.length : Int) != lenZ m.cm.s m.got) 6) (by simp)) (by decide)
    have z4 := wh_zero (hz (wh f.wn 5) (by simp)) (by decide)
    simp only [bne_eq_false_iff_eq, Bool.or_eq_false_iff, decide_eq_false_iff_not, Int.not_le] at z1 z2 z3
    rw [e]
    exact .write rfl z1 z2.1 z2.2 z3 z4
  by_cases h3 : k = 3
  · subst h3
    obtain ⟨e, hz⟩ := key (T := { m with ph := 2 }) (L := [wh (m.ph != 1) 11, wh (decide (m.got < chunksZ m.cm.s)) 12, wh (!(f.d == m.cm.d)) 13, wh f.wn 5]) (by unfold doesD; rw [if_neg (by decide), if_neg (by decide), if_pos rfl])
    have z1 := wh_zero (hz (wh (m.ph != 1) 11) (by simp)) (by decide)
    have z2 := wh_zero (hz (wh (decide (m.got < chunksZ m.cm.s)) 12) (by simp)) (by decide)
    have z3 := wh_zero (hz (wh (!(f.d == m.cm.d)) 13) (by simp)) (by decide)
    have z4 := wh_zero (hz (wh f.wn 5) (by simp)) (by decide)
    simp only [bne_eq_false_iff_eq, Bool.not_eq_false', beq_iff_eq, decide_eq_false_iff_not, Int.not_lt] at z1 z2 z3
    rw [e]
    exact .verify rfl z1 z2 z3 z4
  by_cases h4 : k = 4
  · subst h4
    obtain ⟨e, hz⟩ := key (T := m.commitT) (L := [wh (m.ph != 2) 11, wh f.wn 5]) (by unfold doesD; rw [if_neg (by decide), if_neg (by decide), if_neg (by decide), if_pos rfl])
    have z1 := wh_zero (hz (wh (m.ph != 2) 11) (by simp)) (by decide)
    have z4 := wh_zero (hz (wh f.wn 5) (by simp)) (by decide)
    simp only [bne_eq_false_iff_eq] at z1
    rw [e]
    exact .commit rfl z1 z4
  by_cases h5 : k = 5
  · subst h5
    have e : doesD m f 5 n (l.length : Int) (beginD m f l qu) = m.bootD f.wn := by unfold doesD; rw [if_neg (by decide), if_neg (by decide), if_neg (by decide), if_neg (by decide), if_pos rfl]
    rw [e]
    unfold Mt.bootD
    by_cases hb : m.ph = 3 ∧ f.wn = false
    · rw [if_pos hb]
      by_cases ht : m.tr = 0
      · rw [if_pos ht]
        exact .boot0 rfl hb.1 hb.2 ht
      · rw [if_neg ht]
        exact .boot1 rfl hb.1 hb.2 ht
    · rw [if_neg hb]
      exact .bootn rfl hb
  by_cases h6 : k = 6
  · subst h6
    obtain ⟨e, hz⟩ := key (T := m.confT) (L := [wh (m.ph != 3 || m.tr == 2) 11, wh f.wn 5]) (by unfold doesD; rw [if_neg (by decide), if_neg (by decide), if_neg (by decide), if_neg (by decide), if_neg (by decide), if_pos rfl])
    have z1 := wh_zero (hz (wh (m.ph != 3 || m.tr == 2) 11) (by simp)) (by decide)
    have z4 := wh_zero (hz (wh f.wn 5) (by simp)) (by decide)
    simp only [bne_eq_false_iff_eq, Bool.or_eq_false_iff, beq_eq_false_iff_ne] at z1
    rw [e]
    exact .confirm rfl z1.1 z1.2 z4
  by_cases h7 : k = 7
  · subst h7
    obtain ⟨e, hz⟩ := key (T := m.idle.alone) (L := [wh (m.ph != 3) 11, wh f.wn 5]) (by unfold doesD; rw [if_neg (by decide), if_neg (by decide), if_neg (by decide), if_neg (by decide), if_neg (by decide), if_neg (by decide), if_pos rfl])
    have z1 := wh_zero (hz (wh (m.ph != 3) 11) (by simp)) (by decide)
    have z4 := wh_zero (hz (wh f.wn 5) (by simp)) (by decide)
    simp only [bne_eq_false_iff_eq] at z1
    rw [e]
    exact .rollback rfl z1 z4
  by_cases h8 : k = 8
  · subst h8
    obtain ⟨e, hz⟩ := key (T := m.idle) (L := [wh (m.ph == 0 || m.ph == 3) 11, wh f.wn 5]) (by unfold doesD; rw [if_neg (by decide), if_neg (by decide), if_neg (by decide), if_neg (by decide), if_neg (by decide), if_neg (by decide), if_neg (by decide), if_pos rfl])
    have z1 := wh_zero (hz (wh (m.ph == 0 || m.ph == 3) 11) (by simp)) (by decide)
    have z4 := wh_zero (hz (wh f.wn 5) (by simp)) (by decide)
    simp only [Bool.or_eq_false_iff, beq_eq_false_iff_ne] at z1
    rw [e]
    exact .abort rfl z1.1 z1.2 z4
  by_cases h9 : k = 9
  · subst h9
    have e : doesD m f 9 n (l.length : Int) (beginD m f l qu) = ⟨m, 0, m.ph, m.got⟩ := by unfold doesD; rw [if_neg (by decide), if_neg (by decide), if_neg (by decide), if_neg (by decide), if_neg (by decide), if_neg (by decide), if_neg (by decide), if_neg (by decide), if_pos rfl]
    rw [e]
    exact .status rfl
  · unfold doesD at h
    rw [if_neg h1, if_neg h2, if_neg h3, if_neg h4, if_neg h5, if_neg h6, if_neg h7, if_neg h8, if_neg h9] at h
    cases h
/-- What Do looks at in a Fact: of QBegin the name, the tag; of QVerify, when all is there, the digest; and whether all is worn. -/
theorem doA_sees {m : Mt} {f f' : Fc} {k n : Int} {l : List UInt8} {qu : Int} (h1 : k = 1 → f.nm = f'.nm ∧ f.tg = f'.tg) (h3 : k = 3 → m.ph = 1 → chunksZ m.cm.s ≤ m.got → f.d = f'.d) (hw : f.wn = f'.wn) : doA m f k n l qu = doA m f' k n l qu := by
  have e : doesD m f k n (l.length : Int) (beginD m f l qu) = doesD m f' k n (l.length : Int) (beginD m f' l qu) := by
    unfold doesD beginD
    by_cases k1 : k = 1
    · rw [if_pos k1, if_pos k1, (h1 k1).1, (h1 k1).2, hw]
    · rw [if_neg k1, if_neg k1, hw]
      by_cases k2 : k = 2
      · rw [if_pos k2, if_pos k2]
      · rw [if_neg k2, if_neg k2]
        by_cases k3 : k = 3
        · rw [if_pos k3, if_pos k3]
          by_cases p1 : m.ph = 1
          · by_cases p2 : chunksZ m.cm.s ≤ m.got
            · rw [h3 k3 p1 p2]
            · have q : wh (decide (m.got < chunksZ m.cm.s)) 12 = 12 := by rw [decide_eq_true (by omega)]; rfl
              unfold oneD
              have e1 : wh (m.ph != 1) 11 = 0 := by rw [p1]; rfl
              have e2 : ∀ L, firstE (wh (m.ph != 1) 11 :: wh (decide (m.got < chunksZ m.cm.s)) 12 :: L) = 12 := fun L => by
                rw [firstE_z e1, q]
                rfl
              rw [e2, e2]
          · have q : wh (m.ph != 1) 11 = 11 := by
              have : (m.ph != 1) = true := by rw [bne_iff_ne]; exact p1
              rw [this]; rfl
            unfold oneD
            have e2 : ∀ L, firstE (wh (m.ph != 1) 11 :: L) = 11 := fun L => by rw [q]; rfl
            rw [e2, e2]
        · rw [if_neg k3, if_neg k3]
  unfold doA doD
  rw [e]
end Go.Proofs.YtpafenlcgcenlaaGreatDoor
