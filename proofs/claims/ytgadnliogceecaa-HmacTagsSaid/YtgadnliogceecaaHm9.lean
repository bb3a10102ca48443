/- waterlinelaw4.HmacTags: the walk. -/
import Derived.Test.YtgadnliogceecaaHm8
namespace Go.Proofs.Ytgadnliogceecaa
open Go Go.RowKit
set_option linter.unusedVariables false
set_option linter.unusedSimpArgs false
set_option maxRecDepth 100000 in
set_option maxHeartbeats 1000000 in
theorem hmacTags_off (w : World) (A B : Option Addr) (n c m c2 : Nat) (hg : 300 < n ∨ 1000 < m) :
    Calls Try.prog 7 #[.slice A n c, .slice B m c2] w fun e w' => e = .returned (.bool true) ∧ Below w.heap.size w w' := by
  by_cases g0 : 300 < n
  · clear hg
    go_enter Try.func7, Try.ntmps7
    go_wp2_with (go_at_call 24; refine (alive4_c _).mono ?_; rintro e w1 ⟨rfl, hb⟩)
    go_ret
    exact ⟨rfl, hb⟩
  · have g1 : 1000 < m := by omega
    clear hg
    go_enter Try.func7, Try.ntmps7
    go_wp2_with (go_at_call 24; refine (alive4_c _).mono ?_; rintro e w1 ⟨rfl, hb⟩)
    go_ret
    exact ⟨rfl, hb⟩

set_option maxRecDepth 100000 in
theorem hmacTags_c (w : World) (A B : Option Addr) (n c m c2 : Nat) (key b : List UInt8) (rk : Reads w A n (key.map u8v)) (rb : Reads w B m (b.map u8v)) :
    Calls Try.prog 7 #[.slice A n c, .slice B m c2] w fun e w' => e = .returned (.bool true) ∧ Below w.heap.size w w' := by
  by_cases hg : 300 < n ∨ 1000 < m
  · exact hmacTags_off w A B n c m c2 hg
  · obtain ⟨i0, hi, hz0, hz1, hz2⟩ := info_parts info_u8
    have HI := Lib.hid hi
    have HZ0 := Lib.hid hz0
    have HZ1 := Lib.hid hz1
    have HZ2 := Lib.hid hz2
    have RK := Lib.hid rk
    have RB := Lib.hid rb
    have g1 : ¬ 300 < n := by omega
    have g2 : ¬ 1000 < m := by omega
    clear rk rb hg hi hz0 hz1 hz2
    go_enter Try.func7, Try.ntmps7
    go_upto_region 4 with (go_at_call 24; refine (alive4_c _).mono ?_; rintro e w1 ⟨rfl, hb⟩)
    have HB := Lib.hid hb
    have hbs := hb.size
    have R1 := Lib.hid (RK.out.below hb)
    have R2 := Lib.hid (RB.out.below hb)
    clear hb
    refine wp_region_lit ?_
    go_wp2_with (first | (at_builtin; refine wpList_append_any _ rfl (.const (.slice none 0 0)) (.tmp 20) _ rfl w1.heap.size 5 i0 (.int .u8 0) 1 Try.underlying22 HI.out HZ0.out HZ1.out HZ2.out rfl _ 0 [] rfl (World.ownsRow_nil _ _ _ _) A n c (key.map u8v) rfl R1.out (u8v_one _) (by unfold maxLen; omega) (by omega) (Nat.le_refl _) ?_; intro A3 c3 w3 hown3 hgrow3 hat3; have hb3 := (Below.refl w1.heap.size w1).grown hgrow3 (Nat.le_refl _) (by intro g hg; cases hg); have hs3 := hb3.size; have HO3 := Lib.hid hown3; have HB3 := Lib.hid hb3; have R3 := Lib.hid (R2.out.below hb3); clear hown3 hgrow3 hat3 hb3) | (at_builtin; refine wpList_append_any _ rfl (.const (.slice none 0 0)) (.tmp 22) _ rfl w3.heap.size 5 i0 (.int .u8 0) 1 Try.underlying22 HI.out HZ0.out HZ1.out HZ2.out rfl _ 0 [] rfl (World.ownsRow_nil _ _ _ _) B m c2 (b.map u8v) rfl R3.out (u8v_one _) (by unfold maxLen; omega) (by omega) (Nat.le_refl _) ?_; intro A4 c4 w4 hown4 hgrow4 hat4; have hb4 := (Below.refl w3.heap.size w3).grown hgrow4 (Nat.le_refl _) (by intro g hg; cases hg); have hs4 := hb4.size; have HO4 := Lib.hid hown4; have HB4 := Lib.hid hb4; clear hown4 hgrow4 hat4 hb4))
    have hk4 : Reads w4 A3 n (key.map u8v) := by
      have h := Reads.of_own (own_only HO3.out (Only.of_below (S := []) HB4.out) (by simp))
      simpa using h
    have hb4 : Reads w4 A4 m (b.map u8v) := by
      have h := Reads.of_own HO4.out
      simpa using h
    have HB5 := Lib.hid ((HB.out.trans (HB3.out.mono hbs)).trans (HB4.out.mono (by omega)))
    try simp only [Nat.zero_add]
    refine (tag_c w4 A3 A4 n c3 m c4 key b hk4 hb4 (by omega) (by omega)).mono ?_
    rintro e w5 ⟨rfl, hb5⟩
    have HB6 := Lib.hid (HB5.out.trans (hb5.mono HB5.out.size))
    clear hb5 hk4 hb4
    go_wp2_with fail
    refine (rtag_c w5 A B n c m c2 key b (RK.out.below HB6.out) (RB.out.below HB6.out) (by omega) (by omega)).mono ?_
    rintro e w6 ⟨rfl, hb6⟩
    have HB7 := Lib.hid (HB6.out.trans (hb6.mono HB6.out.size))
    have he := fun W => eql32 (tagL key b) (tagL key b) (tagL_len _ _) (tagL_len _ _) W
    generalize tagL key b = t at he ⊢
    rw [show (t == t) = true by simp] at he
    clear hb6
    go_wp2_with fail
    go_ret
    exact ⟨rfl, HB7.out⟩
end Go.Proofs.Ytgadnliogceecaa
