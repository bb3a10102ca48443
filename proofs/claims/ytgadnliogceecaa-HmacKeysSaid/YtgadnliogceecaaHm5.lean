/- waterlinelaw4.HmacKeys: the walk. -/
import Derived.Test.YtgadnliogceecaaHm4
namespace Go.Proofs.Ytgadnliogceecaa
open Go Go.RowKit
set_option linter.unusedVariables false
set_option linter.unusedSimpArgs false
theorem keys_law (key b : List UInt8) (z : Nat) (h : key.length + z ≤ 64) : tagL (key ++ List.replicate z 0) b = tagL key b := by
  have hk : ∀ x, padL (key ++ List.replicate z 0) x = padL key x := by
    intro x
    unfold padL keyBlock keyOf
    rw [if_neg (by rw [List.length_append, List.length_replicate]; omega), if_neg (by omega), List.append_assoc, List.length_append, List.length_replicate, List.replicate_append_replicate]
    congr 3
    omega
  unfold tagL
  rw [hk, hk]
set_option maxRecDepth 100000 in
set_option maxHeartbeats 1000000 in
theorem hmacKeys_off (w : World) (A B : Option Addr) (n c m c2 : Nat) (x : Int) (hg : 64 < n ∨ 500 < m ∨ x < 0 ∨ 64 < x) :
    Calls Try.prog 9 #[.slice A n c, .slice B m c2, .int .i64 x] w fun e w' => e = .returned (.bool true) ∧ Below w.heap.size w w' := by
  by_cases g0 : 64 < n
  · clear hg
    go_enter Try.func9, Try.ntmps9
    go_wp2_with (go_at_call 24; refine (alive4_c _).mono ?_; rintro e w1 ⟨rfl, hb⟩)
    go_ret
    exact ⟨rfl, hb⟩
  · by_cases g1 : 500 < m
    · clear hg
      go_enter Try.func9, Try.ntmps9
      go_wp2_with (go_at_call 24; refine (alive4_c _).mono ?_; rintro e w1 ⟨rfl, hb⟩)
      go_ret
      exact ⟨rfl, hb⟩
    · by_cases g2 : x < 0
      · clear hg
        go_enter Try.func9, Try.ntmps9
        go_wp2_with (go_at_call 24; refine (alive4_c _).mono ?_; rintro e w1 ⟨rfl, hb⟩)
        go_ret
        exact ⟨rfl, hb⟩
      · have g3 : 64 < x := by omega
        clear hg
        go_enter Try.func9, Try.ntmps9
        go_wp2_with (go_at_call 24; refine (alive4_c _).mono ?_; rintro e w1 ⟨rfl, hb⟩)
        go_ret
        exact ⟨rfl, hb⟩

set_option maxRecDepth 100000 in
set_option maxHeartbeats 1000000 in
theorem hmacKeys_on (w : World) (A B : Option Addr) (n c m c2 : Nat) (key b : List UInt8) (x : Nat) (rk : Reads w A n (key.map u8v)) (rb : Reads w B m (b.map u8v)) (hn : n ≤ 64) (hm : m ≤ 500) (hx : x ≤ 64) :
    Calls Try.prog 9 #[.slice A n c, .slice B m c2, .int .i64 (x : Int)] w fun e w' => e = .returned (.bool true) ∧ Below w.heap.size w w' := by
  obtain ⟨i0, hi, hz0, hz1, hz2⟩ := info_parts info_u8
  have HI := Lib.hid hi
  have HZ0 := Lib.hid hz0
  have HZ1 := Lib.hid hz1
  have HZ2 := Lib.hid hz2
  have hkl : key.length = n := by simpa using rk.len
  have RK := Lib.hid rk
  have RB := Lib.hid rb
  clear rk rb hi hz0 hz1 hz2
  go_enter Try.func9, Try.ntmps9
  go_wp2_with (first | (go_at_call 24; refine (alive4_c _).mono ?_; rintro e w1 ⟨rfl, hb⟩; have HB := Lib.hid hb; have hbs := hb.size; have R1 := Lib.hid (RK.out.below hb); clear hb) | (at_builtin; refine wpList_append_any _ rfl (.const (.slice none 0 0)) (.tmp 32) _ rfl w.heap.size 5 i0 (.int .u8 0) 1 Try.underlying22 HI.out HZ0.out HZ1.out HZ2.out rfl _ 0 [] rfl (World.ownsRow_nil _ _ _ _) A n c (key.map u8v) rfl R1.out (u8v_one _) (by unfold maxLen; omega) (by omega) hbs ?_; intro A3 c3 w3 hown3 hgrow3 hat3; simp only [Nat.zero_add, List.nil_append] at hown3; have HO3 := Lib.hid hown3; have HG3 := Lib.hid hgrow3; clear hown3 hgrow3 hat3))
  have hB3 := Lib.hid (HB.out.grown HG3.out hbs (by intro g hg; cases hg))
  clear HG3 HB R1 hbs
  go_loopw [8, 9] (fun v i wr => ∃ (j : Nat) (A' : Option Addr) (c' : Nat), j ≤ x ∧ n + j ≤ 64 ∧ v = .slice A' (n + j) c' ∧ i = .int .i64 (j : Int) ∧ wr.ownsRow w.heap.size 5 1 (.slice A' (n + j) c') (n + j) ((key ++ List.replicate j 0).map u8v) ∧ Below w.heap.size w wr) (fun _ i _ => x - (intOf i).toNat)
  case atStart => exact ⟨0, A3, c3, by omega, by omega, rfl, rfl, by simpa using HO3.out, hB3.out⟩
  case round =>
    clear HO3 hB3
    obtain ⟨j, A', c', hj, hnj, rfl, rfl, hown, hbel⟩ := hrel
    have HO := Lib.hid hown
    have HB := Lib.hid hbel
    have hbs := hbel.size
    clear hown hbel
    by_cases h1 : j < x
    · by_cases h2 : n + j < 64
      · go_wp2_with (at_builtin; refine wpList_append_any _ rfl (.tmp 44) (.tmp 45) _ rfl w.heap.size 5 i0 (.int .u8 0) 1 Try.underlying22 HI.out HZ0.out HZ1.out HZ2.out rfl _ (n + j) ((key ++ List.replicate j 0).map u8v) rfl (HO.out.alloc _) (some ⟨wr.heap.size, 0, none⟩) 1 1 [u8v 0] rfl ((Blk.new wr 5 #[u8v 0]).reads 0 (by simp)) (by intro u hu; simp at hu; subst hu; rfl) (by unfold maxLen; omega) (by omega) (by simp; omega) ?_; intro A3 c4 w3 hown3 hgrow3 hat3; have HO3 := Lib.hid hown3; have HG3 := Lib.hid hgrow3; clear hown3 hgrow3 hat3)
        have hl2 := HO.out.lt
        have hb3 := (HB.out.alloc hbs (.cells #[u8v 0] 5)).grown HG3.out (by simp; omega) (fun g hg => by have := (hl2 g hg).1; omega)
        go_roundw
        case rel =>
          refine ⟨j + 1, A3, c4, h1, by omega, rfl, by go_num, ?_, hb3⟩
          have e : (key ++ List.replicate (j + 1) 0).map u8v = (key ++ List.replicate j 0).map u8v ++ [u8v 0] := by rw [List.replicate_succ']; simp
          rw [e]
          exact HO3.out
        case measure => simp [intOf]; omega
      · go_wp2_with fail
        refine (tag_c wr A B n c m c2 key b (RK.out.below HB.out) (RB.out.below HB.out) (by omega) (by omega)).mono ?_
        rintro e w5 ⟨rfl, hb5⟩
        have HO5 := Lib.hid (Reads.of_own (own_only HO.out (Only.of_below (S := []) hb5) (by simp)))
        have hap5 : ∀ a, A' = some a → a.block < wr.heap.size := fun a ha => by subst ha; exact (HO.out.lt a.block rfl).2
        have hs5 := hb5.size
        have HB5 := Lib.hid (HB.out.trans (hb5.mono hbs))
        clear hb5
        go_wp2_with fail
        refine (tag_c w5 A' B (n + j) c' m c2 (key ++ List.replicate j 0) b HO5.out (RB.out.below HB5.out) (by omega) (by omega)).mono ?_
        rintro e w6 ⟨rfl, hb6⟩
        have HB6 := Lib.hid (HB5.out.trans (hb6.mono (by omega)))
        rw [keys_law key b j (by omega)]
        have he := fun W => eql32 (tagL key b) (tagL key b) (tagL_len _ _) (tagL_len _ _) W
        generalize tagL key b = t at he ⊢
        rw [show (t == t) = true by simp] at he
        clear hb6
        go_wp2_with fail
        go_ret
        exact ⟨rfl, HB6.out⟩
    · go_wp2_with fail
      refine (tag_c wr A B n c m c2 key b (RK.out.below HB.out) (RB.out.below HB.out) (by omega) (by omega)).mono ?_
      rintro e w5 ⟨rfl, hb5⟩
      have HO5 := Lib.hid (Reads.of_own (own_only HO.out (Only.of_below (S := []) hb5) (by simp)))
      have hap5 : ∀ a, A' = some a → a.block < wr.heap.size := fun a ha => by subst ha; exact (HO.out.lt a.block rfl).2
      have hs5 := hb5.size
      have HB5 := Lib.hid (HB.out.trans (hb5.mono hbs))
      clear hb5
      go_wp2_with fail
      refine (tag_c w5 A' B (n + j) c' m c2 (key ++ List.replicate j 0) b HO5.out (RB.out.below HB5.out) (by omega) (by omega)).mono ?_
      rintro e w6 ⟨rfl, hb6⟩
      have HB6 := Lib.hid (HB5.out.trans (hb6.mono (by omega)))
      rw [keys_law key b j (by omega)]
      have he := fun W => eql32 (tagL key b) (tagL key b) (tagL_len _ _) (tagL_len _ _) W
      generalize tagL key b = t at he ⊢
      rw [show (t == t) = true by simp] at he
      clear hb6
      go_wp2_with fail
      go_ret
      exact ⟨rfl, HB6.out⟩
theorem hmacKeys_c (w : World) (A B : Option Addr) (n c m c2 : Nat) (key b : List UInt8) (x : Int) (rk : Reads w A n (key.map u8v)) (rb : Reads w B m (b.map u8v)) :
    Calls Try.prog 9 #[.slice A n c, .slice B m c2, .int .i64 x] w fun e w' => e = .returned (.bool true) ∧ Below w.heap.size w w' := by
  by_cases hg : 64 < n ∨ 500 < m ∨ x < 0 ∨ 64 < x
  · exact hmacKeys_off w A B n c m c2 x hg
  · obtain ⟨k, rfl⟩ : ∃ k : Nat, x = (k : Int) := ⟨x.toNat, by omega⟩
    exact hmacKeys_on w A B n c m c2 key b k rk rb (by omega) (by omega) (by omega)
end Go.Proofs.Ytgadnliogceecaa
