/- The reference's unhex. -/
import Derived.Test.YthidjmdcpdhdlaaDoorSr2
namespace Go.Proofs.YthidjmdcpdhdlaaDoor
open Go Go.RowKit
set_option linter.unusedVariables false
set_option linter.unusedSimpArgs false
theorem dig_hex : ∀ c : Fin 256, (hexI (c.val : Int) < 0 ∧ 15 < digI (c.val : Int)) ∨ (0 ≤ hexI (c.val : Int) ∧ hexI (c.val : Int) < 16 ∧ digI (c.val : Int) = hexI (c.val : Int)) := of_decide_eq_true (by kernel_rfl)
theorem drop_two (s : ByteArray) (i : Nat) (h : i + 1 < s.size) : s.data.toList.drop i = (s[i]'(by omega)) :: (s[i + 1]'h) :: s.data.toList.drop (i + 2) := by
  rw [drop_cons s i (by omega), drop_cons s (i + 1) h]
set_option maxRecDepth 100000 in
set_option maxHeartbeats 1000000 in
theorem runhex_c (s : ByteArray) (hs : s.size ≤ 1000000) (w : World) : Calls Tryd.prog 30 #[.string s] w fun e w' => rawRet (rawS s.data.toList) e w' ∧ Below w.heap.size w w' := by
  obtain ⟨i0, hi, hz0, hz1, hz2⟩ := info_parts info_u8
  have HI := Lib.hid hi
  have HZ0 := Lib.hid hz0
  have HZ1 := Lib.hid hz1
  have HZ2 := Lib.hid hz2
  have hll : s.data.toList.length = s.size := Array.length_toList
  clear hi hz0 hz1 hz2
  by_cases h45 : s.data.toList = [45]
  · have he : s = ⟨#[45]⟩ := ByteArray.ext (Array.toList_inj.mp h45)
    subst he
    go_enter Tryd.func30, Tryd.ntmps30
    go_wp2_with fail
    go_ret2
    exact ⟨⟨none, 0, rfl, World.ownsRow_nil _ _ _ _⟩, Below.refl _ _⟩
  have hne45 : ¬ s.toList = [45] := by rw [ByteArray.toList_eq]; exact h45
  have hne45b : (s.toList == [45]) = false := by rw [beq_eq_false_iff_ne]; exact hne45
  by_cases h0 : s.data.toList = []
  · have hV : rawS s.data.toList = Option.none := by unfold rawS; rw [if_neg h45, if_pos h0]
    have he0 : s.toList = [] := by rw [ByteArray.toList_eq]; exact h0
    have he1 : s.toList.isEmpty = true := by rw [he0]; rfl
    rw [hV]
    clear h45 h0 hV
    go_enter Tryd.func30, Tryd.ntmps30
    go_wp2_with fail
    go_ret2
    exact ⟨rfl, Below.refl _ _⟩
  have he0 : ¬ s.toList = [] := by rw [ByteArray.toList_eq]; exact h0
  have he1 : s.toList.isEmpty = false := by rw [ByteArray.toList_eq, List.isEmpty_eq_false_iff]; exact h0
  have hV : rawS s.data.toList = rawL s.data.toList := by unfold rawS; rw [if_neg h45, if_neg h0]
  rw [hV]
  obtain ⟨m, hm⟩ : ∃ m, s.size = 2 * m ∨ s.size = 2 * m + 1 := ⟨s.size / 2, by omega⟩
  rcases hm with hm | hm
  rotate_left
  · have hV2 : rawL s.data.toList = Option.none := rawL_odd m _ (by rw [hll]; exact hm)
    rw [hV2]
    have hmod : Int.tmod (s.size : Int) 2 = 1 := by rw [Int.tmod_eq_emod_of_nonneg (by omega)]; omega
    clear h45 h0 hV hV2 hm
    go_enter Tryd.func30, Tryd.ntmps30
    go_wp2_with fail
    go_ret2
    exact ⟨rfl, Below.refl _ _⟩
  have hmod : Int.tmod (s.size : Int) 2 = 0 := by rw [Int.tmod_eq_emod_of_nonneg (by omega)]; omega
  obtain ⟨V, hVV⟩ : ∃ V, rawL s.data.toList = V := ⟨_, rfl⟩
  rw [hVV]
  have HV := Lib.hid hVV
  have HM := Lib.hid hm
  clear h45 h0 hV hVV hm
  go_enter Tryd.func30, Tryd.ntmps30
  go_wp2_with fail
  go_loopw [4, 5] (fun o i wr => ∃ (k : Nat) (acc : List UInt8) (A' : Option Addr) (c' : Nat), o = .slice A' acc.length c' ∧ i = .int .i64 (k : Int) ∧ k = 2 * acc.length ∧ k ≤ s.size ∧ (rawL (s.data.toList.drop k)).map (acc ++ ·) = V ∧ wr.ownsRow w.heap.size 5 1 (.slice A' acc.length c') acc.length (acc.map u8v) ∧ Below w.heap.size w wr) (fun _ i wr => (match i with | .int _ x => (s.size : Int) - x | _ => 0).toNat)
  case atStart =>
    refine ⟨0, [], none, 0, rfl, rfl, rfl, Nat.zero_le _, ?_, World.ownsRow_nil _ _ _ _, Below.refl _ w⟩
    rw [List.drop_zero, HV.out]; cases V <;> rfl
  case round =>
    obtain ⟨k, acc, A1, c1, rfl, rfl, hka, hks, hg, hown, hb⟩ := hrel
    have HG := Lib.hid hg
    have HO := Lib.hid hown
    have HB := Lib.hid hb
    have HKA := Lib.hid hka
    have hk1 : k < s.size → k + 1 < s.size := fun hk => by have := HM.out; omega
    have HK1 := Lib.hid hk1
    clear hg hown hb hka hk1
    by_cases hk : k < s.size
    · have hk1 := HK1.out hk
      have hgs := HG.out
      rw [drop_two s k hk1] at hgs
      have d1 := dig_hex ⟨(s[k]'hk).toNat, (s[k]'hk).toNat_lt⟩
      have d2 := dig_hex ⟨(s[k + 1]'hk1).toNat, (s[k + 1]'hk1).toNat_lt⟩
      dsimp only at d1 d2
      have q1 := fun W => rdigit_c (s[k]'hk) W
      have q2 := fun W => rdigit_c (s[k + 1]'hk1) W
      obtain ⟨x1, hx1⟩ : ∃ x, digI ((s[k]'hk).toNat : Int) = x := ⟨_, rfl⟩
      obtain ⟨x2, hx2⟩ : ∃ x, digI ((s[k + 1]'hk1).toNat : Int) = x := ⟨_, rfl⟩
      rw [hx1] at d1
      rw [hx2] at d2
      simp only [hx1] at q1
      simp only [hx2] at q2
      have hraw : rawL ((s[k]'hk) :: (s[k + 1]'hk1) :: s.data.toList.drop (k + 2)) = if hexI ((s[k]'hk).toNat : Int) < 0 ∨ hexI ((s[k + 1]'hk1).toNat : Int) < 0 then Option.none else (rawL (s.data.toList.drop (k + 2))).map (fun r => UInt8.ofNat (16 * (hexI ((s[k]'hk).toNat : Int)).toNat + (hexI ((s[k + 1]'hk1).toNat : Int)).toNat) :: r) := rfl
      rw [hraw] at hgs
      have HGS := Lib.hid hgs
      clear hgs hraw hx1 hx2
      rcases d1 with ⟨e1, e2⟩ | ⟨e1, e2, e3⟩
      · have hv : V = Option.none := by rw [← HGS.out, if_pos (.inl e1)]; rfl
        subst hv
        have e4 : x1 > 15 := e2
        clear d2 HGS e1
        go_wp2_with fail
        refine (q1 _).mono ?_
        rintro e w1 ⟨rfl, rfl⟩
        go_wp2_with fail
        refine (q2 _).mono ?_
        rintro e w1 ⟨rfl, rfl⟩
        go_wp2_with fail
        go_ret2
        exact ⟨rfl, HB.out⟩
      rcases d2 with ⟨f1, f2⟩ | ⟨f1, f2, f3⟩
      · have hv : V = Option.none := by rw [← HGS.out, if_pos (.inr f1)]; rfl
        subst hv
        have e4 : x2 > 15 := f2
        have e5 : ¬ x1 > 15 := by omega
        clear HGS f1
        go_wp2_with fail
        refine (q1 _).mono ?_
        rintro e w1 ⟨rfl, rfl⟩
        go_wp2_with fail
        refine (q2 _).mono ?_
        rintro e w1 ⟨rfl, rfl⟩
        go_wp2_with fail
        go_ret2
        exact ⟨rfl, HB.out⟩
      have hgs := HGS.out
      rw [if_neg (by omega), ← e3, ← f3] at hgs
      obtain ⟨n1, rfl⟩ : ∃ n : Nat, x1 = n := ⟨x1.toNat, by omega⟩
      obtain ⟨n2, rfl⟩ : ∃ n : Nat, x2 = n := ⟨x2.toNat, by omega⟩
      rw [Int.toNat_natCast, Int.toNat_natCast] at hgs
      have hn1 : n1 < 16 := by omega
      have hn2 : n2 < 16 := by omega
      have e4 : ¬ (n1 : Int) > 15 := by omega
      have e5 : ¬ (n2 : Int) > 15 := by omega
      obtain ⟨x, hx⟩ : ∃ x, UInt8.ofNat (16 * n1 + n2) = x := ⟨_, rfl⟩
      rw [hx] at hgs
      have hval : (x.toNat : Int) = 16 * (n1 : Int) + n2 := by rw [← hx, UInt8.toNat_ofNat']; omega
      have hg3 : (rawL (s.data.toList.drop (k + 2))).map ((acc ++ [x]) ++ ·) = V := by
        rw [← hgs]
        cases rawL (s.data.toList.drop (k + 2)) with
        | none => rfl
        | some l => simp
      have HG3 := Lib.hid hg3
      have hrd : Reads (wr.alloc (.cells #[.int .u8 (16 * (n1 : Int) + n2)] 5)) (some ⟨wr.heap.size, 0, none⟩) 1 (([x] : List UInt8).map u8v) := by
        rw [← hval]
        exact (Blk.new wr 5 #[u8v x]).reads 0 (by simp)
      have hsz := HB.out.size
      have hl3 := HO.out.lt
      have hac : acc.length ≤ 1000000 := by have := HKA.out; omega
      clear hgs hg3 HGS e1 e2 e3 f1 f2 f3 hval hx
      go_wp2_with fail
      refine (q1 _).mono ?_
      rintro e w1 ⟨rfl, rfl⟩
      go_wp2_with fail
      refine (q2 _).mono ?_
      rintro e w1 ⟨rfl, rfl⟩
      go_wp2_with (at_builtin; refine wpList_append_any _ rfl (.tmp 39) (.tmp 45) _ rfl w.heap.size 5 i0 (.int .u8 0) 1 Tryd.underlying32 HI.out HZ0.out HZ1.out HZ2.out rfl _ acc.length (acc.map u8v) rfl (own_only HO.out (Only.of_below (S := []) ((Below.refl _ _).alloc (Nat.le_refl _) _)) (by simp)) (some ⟨_, 0, none⟩) 1 1 (([x] : List UInt8).map u8v) rfl hrd (u8v_one _) (by unfold maxLen; omega) (by omega) (by simp; omega) ?_; intro A2 c2 w4 hown2 hgrow2 hat; have HOA := Lib.hid hown2; have HGA := Lib.hid hgrow2; clear hown2 hgrow2 hat)
      go_roundw
      case rel =>
        have hbal := (Below.refl w.heap.size _).alloc hsz (.cells #[.int .u8 (16 * (n1 : Int) + n2)] 5)
        have hba := hbal.grown HGA.out (by simp; omega) (fun g hg => (hl3 g hg).1)
        refine ⟨k + 2, acc ++ [x], A2, c2, by rw [List.length_append]; rfl, rfl, by rw [List.length_append]; have := HKA.out; simp; omega, by omega, HG3.out, ?_, HB.out.trans hba⟩
        rw [List.length_append, List.map_append]; exact HOA.out
      case measure =>
        dsimp only
        omega
    · have hv : V = Option.some acc := by rw [← HG.out, drop_end s k hk]; show Option.some (acc ++ []) = _; rw [List.append_nil]
      subst hv
      go_wp2_with fail
      go_ret2
      exact ⟨⟨A1, c1, rfl, own_base HO.out (Nat.zero_le _)⟩, HB.out⟩
end Go.Proofs.YthidjmdcpdhdlaaDoor
