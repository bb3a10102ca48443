/- waterlinelaw6.NorBits: which bytes can be made which: the walk. -/
import Derived.Test.YtaanefgkmjdknaaL6a
import Derived.Test.YtaanefgkmjdknaaNorE
namespace Go.Proofs.Ytaanefgkmjdknaa
open Go.RowKit
set_option linter.unusedVariables false
set_option linter.unusedSimpArgs false

theorem bits_cond (a b : UInt8) : bits .and .u8 (b.toNat : Int) (bits .xor .u8 (a.toNat : Int) 255) = ((b &&& ~~~a).toNat : Int) := by
  have h1 : bits .xor .u8 (a.toNat : Int) 255 = ((~~~a).toNat : Int) := by
    have := u8_xor_nat a.toNat 255 a.toNat_lt (by omega)
    rw [← xor_255, UInt8.toNat_xor]
    exact this
  rw [h1, u8_and_nat _ _ b.toNat_lt (~~~a).toNat_lt, UInt8.toNat_and]

structure BitsFacts (A : Nat) (a b want : UInt8) (E2 : Int) (F1 F2 F3 F4 : Fl) : Prop where
  e1 : (Fl.new 3).programE A [a] = 0
  p1 : (Fl.new 3).program A [a] = F1
  e2 : F1.programE A [b] = E2
  p2 : F1.program A [b] = F2
  e3 : F2.programE (((A : Int) + 320) % 960) [7] = 0
  p3 : F2.program (((A : Int) + 320) % 960) [7] = F3
  r4 : F3.read A 1 = [want]
  e5 : F3.eraseE ((A : Int) / 320) = 0
  p5 : F3.erase ((A : Int) / 320) = F4
  m5 : F3.wearAt ((A : Int) / 320) ≤ 4611686018427387903
  r6 : F4.read (((A : Int) + 320) % 960) 1 = [7]
  b7 : F4.blank ((A : Int) / 320) = true
  w8 : F4.wearAt ((A : Int) / 320) = 1

theorem Fl.put_b (F : Fl) (k : Nat) (l : List UInt8) : (F.put k l).b = Fl.over F.b k l := rfl

theorem over_one (b : List UInt8) (k : Nat) (c : UInt8) (hk : k < b.length) (j : Nat) : (Fl.over b k [c]).getD j 0 = if j = k then c else b.getD j 0 := by
  rw [Fl.over_getD]
  by_cases h : j = k
  · subst h
    rw [if_pos (by simp; exact hk), if_pos rfl]; simp
  · rw [if_neg (by simp; omega), if_neg h]

theorem bits_facts (A : Nat) (hA : A < 960) (a b : UInt8) :
    ∃ F1 F2 F3 F4, BitsFacts A a b (if b &&& ~~~a == 0 then b else a) (if b &&& ~~~a == 0 then 0 else 3) F1 F2 F3 F4 := by
  obtain ⟨hB, hW⟩ := Fl.new_b 3 (by omega)
  have hB' : (Fl.new 3).b = List.replicate (3 * 320) 255 := hB
  have hW' : (Fl.new 3).wear = List.replicate 3 0 := hW
  have n0 : (Fl.new 3).Calm := Fl.Calm.new 3
  have k0 : (Fl.new 3).Ok := Fl.new_ok 3
  have hg : ∀ k, k < 960 → (Fl.new 3).b.getD k 0 = 255 := fun k hk => Fl.new_getD 3 (by omega) k (by omega)
  have hl : (Fl.new 3).b.length = 960 := by rw [hB', List.length_replicate]
  have hwl : (Fl.new 3).wear.length = 3 := by rw [hW', List.length_replicate]
  have hin : ∀ (F : Fl) (x : Int) (c : UInt8), F.wear.length = 3 → 0 ≤ x → x < 960 → F.within x ([c] : List UInt8).length = true := by
    intro F x c h1 h2 h3; unfold Fl.within; rw [h1]; simp; omega
  -- F1
  have q1 := n0.prog A [a] (hin _ _ _ hwl (by omega) (by omega))
  rw [Int.toNat_natCast, Fl.may_one, hg A hA, and_not_255] at q1
  have c1 := n0.put A [a]
  have k1 := Fl.put_ok k0 A [a]
  have g1 : ∀ j, ((Fl.new 3).put A [a]).b.getD j 0 = if j = A then a else (Fl.new 3).b.getD j 0 := by
    intro j
    rw [Fl.put_b]
    exact over_one (Fl.new 3).b A a (hl.symm ▸ hA) j
  have w1 : ((Fl.new 3).put A [a]).wear = List.replicate 3 0 := hW'
  generalize hF1 : (Fl.new 3).put A [a] = F1 at *
  -- F2
  have q2 := c1.prog A [b] (hin _ _ _ (by rw [w1, List.length_replicate]) (by omega) (by omega))
  have l1 : F1.b.length = 960 := by rw [k1.len, w1, List.length_replicate]
  rw [Int.toNat_natCast, Fl.may_one, g1, if_pos rfl] at q2
  -- the state behind the second, whichever it is
  have st2 : ∃ F2 : Fl, F1.program A [b] = F2 ∧ F2.Calm ∧ F2.Ok ∧ F2.wear = List.replicate 3 0 ∧ (∀ j, F2.b.getD j 0 = if j = A then (if b &&& ~~~a == 0 then b else a) else (Fl.new 3).b.getD j 0) := by
    by_cases hc : (b &&& ~~~a == 0) = true
    · refine ⟨F1.put A [b], by rw [q2.2, if_pos hc], c1.put A [b], Fl.put_ok k1 A [b], w1, fun j => ?_⟩
      rw [Fl.put_b, over_one F1.b A b (by rw [l1]; exact hA), g1, if_pos hc]
      split <;> rfl
    · refine ⟨F1, by rw [q2.2, if_neg hc], c1, k1, w1, fun j => ?_⟩
      rw [g1, if_neg hc]
  obtain ⟨F2, p2, c2, k2, w2, g2⟩ := st2
  have l2 : F2.b.length = 960 := by rw [k2.len, w2, List.length_replicate]
  -- F3
  have ho : (((A : Int) + 320) % 960).toNat = (A + 320) % 960 := by omega
  have hoA : (A + 320) % 960 ≠ A := by omega
  have q3 := c2.prog (((A : Int) + 320) % 960) [7] (hin _ _ _ (by rw [w2, List.length_replicate]) (by omega) (by omega))
  rw [ho, Fl.may_one, g2, if_neg hoA, hg _ (by omega), and_not_255] at q3
  have c3 := c2.put ((A + 320) % 960) [7]
  have k3 := Fl.put_ok k2 ((A + 320) % 960) [7]
  have g3 : ∀ j, (F2.put ((A + 320) % 960) [7]).b.getD j 0 = if j = (A + 320) % 960 then 7 else F2.b.getD j 0 := by
    intro j
    rw [Fl.put_b]
    exact over_one F2.b _ 7 (by rw [l2]; omega) j
  have w3 : (F2.put ((A + 320) % 960) [7]).wear = List.replicate 3 0 := w2
  generalize hF3 : F2.put ((A + 320) % 960) [7] = F3 at *
  have l3 : F3.b.length = 960 := by rw [k3.len, w3, List.length_replicate]
  have hs : ((A : Int) / 320).toNat = A / 320 := by omega
  have hsI : (A : Int) / 320 = ((A / 320 : Nat) : Int) := by omega
  have hs3 : A / 320 < 3 := by omega
  have hi5 : F3.is ((A : Int) / 320) = true := by unfold Fl.is; rw [w3]; simp; omega
  have q5 := c3.erase ((A : Int) / 320) hi5
  rw [hs] at q5
  have hw0 : F3.wear.getD (A / 320) 0 = 0 := by rw [w3, List.getD_eq_getElem?_getD, List.getElem?_replicate, if_pos hs3]; rfl
  have k4 : (F3.ers (A / 320)).Ok := Fl.ers_ok k3 _ (by rw [hw0]; omega)
  have l4 : (F3.ers (A / 320)).b.length = 960 := by rw [Fl.ers_b, Fl.over_length, l3]
  refine ⟨F1, F2, F3, F3.ers (A / 320), q1.1, q1.2, q2.1, p2, q3.1, q3.2, ?_, q5.1, q5.2, ?_, ?_, ?_, ?_⟩
  · rw [Fl.read_one F3 k3 A (by omega) (by omega), Int.toNat_natCast, g3, if_neg (Ne.symm hoA), g2, if_pos rfl]
  · unfold Fl.wearAt; rw [if_pos hi5, hs, hw0]; omega
  · rw [Fl.read_one _ k4 _ (by omega) (by omega), ho, Fl.ers_b, Fl.over_getD, if_neg (by rw [List.length_replicate]; omega), g3, if_pos rfl]
  · rw [hsI]; exact Fl.blank_ers F3 k3 _ (by rw [w3]; simp; omega)
  · rw [hsI, Fl.wear_ers F3 _ (by rw [w3]; simp; omega), hw0]; rfl

theorem norBits_off (x : Int) (a b : UInt8) (w : World) (hg : x < 0 ∨ 960 ≤ x) : Calls Try.prog 6 #[.int .i64 x, u8v a, u8v b] w fun e w' => e = .returned (.bool true) ∧ Below w.heap.size w w' := by
  by_cases h1 : x < 0
  · go_enter Try.func6, Try.ntmps6
    go_wp2_with (go_at_call 10; refine (alive6_c _).mono ?_; rintro e w1 ⟨rfl, hb⟩)
    go_ret
    exact ⟨rfl, hb⟩
  · have h2 : 960 ≤ x := by omega
    go_enter Try.func6, Try.ntmps6
    go_wp2_with (go_at_call 10; refine (alive6_c _).mono ?_; rintro e w1 ⟨rfl, hb⟩)
    go_ret
    exact ⟨rfl, hb⟩

theorem norBits_on (A : Nat) (hA : A < 960) (a b : UInt8) (w : World) : Calls Try.prog 6 #[.int .i64 (A : Int), u8v a, u8v b] w fun e w' => e = .returned (.bool true) ∧ Below w.heap.size w w' := by
  obtain ⟨F1, F2, F3, F4, hf⟩ := bits_facts A hA a b
  have HF := Lib.hid hf
  clear hf
  by_cases hc : (b &&& ~~~a == 0) = true
  · have hcb : (bits .and .u8 (b.toNat : Int) (bits .xor .u8 (a.toNat : Int) 255) == 0) = true := by
      rw [bits_cond]; rw [beq_iff_eq] at hc ⊢; rw [hc]; rfl
    rw [if_pos hc, if_pos hc] at HF
    clear hc
    go_enter Try.func6, Try.ntmps6
    go_wp2_with (go_at_call 10; refine (alive6_c _).mono ?_; rintro e w1 ⟨rfl, hb1⟩)
    refine (new_h 3 (by omega) hb1).mono ?_
    rintro e w2 ⟨fb, bb, wb, rfl, h, -, -, -⟩
    clear hb1
    go_wp2_with fail
    refine (program_h A _ _ _ [a] _ _ HF.out.e1 HF.out.p1 (byte_row w2 a) h.apart (by omega) (h.alloc _)).mono ?_
    rintro e w3 ⟨rfl, h3⟩
    clear h
    go_wp2_with fail
    refine (program_h A _ _ _ [b] _ _ HF.out.e2 HF.out.p2 (byte_row w3 b) h3.apart (by omega) (h3.alloc _)).mono ?_
    rintro e w4 ⟨rfl, h4⟩
    clear h3
    go_wp2_with fail
    refine (program_h _ _ _ _ [7] _ _ HF.out.e3 HF.out.p3 (byte_row w4 7) h4.apart (by omega) (h4.alloc _)).mono ?_
    rintro e w5 ⟨rfl, h5⟩
    clear h4
    go_wp2_with fail
    refine (read_h A 1 (by omega) _ HF.out.r4 h5).mono ?_
    rintro e w6 ⟨A1, c1, rfl, hown, h6, hbl⟩
    obtain ⟨g1, rfl, hg1, hg2, hcell⟩ := own_one hown
    clear h5 hown hbl
    go_wp2_with (go_at_call 18; refine (num6_c _ _).mono ?_; rintro e w' ⟨rfl, rfl⟩)
    refine (erase_h _ _ _ HF.out.e5 HF.out.p5 HF.out.m5 h6).mono ?_
    rintro e w7 ⟨rfl, h7⟩
    clear h6 hcell
    go_wp2_with fail
    refine (read_h _ 1 (by omega) _ HF.out.r6 h7).mono ?_
    rintro e w8 ⟨A2, c2, rfl, hown, h8, hbl⟩
    obtain ⟨g2, rfl, hg3, hg4, hcell2⟩ := own_one hown
    have hb7 := HF.out.b7
    have hw8 := HF.out.w8
    clear h7 hown hbl
    go_wp2_with (first | (go_at_call 18; refine (num6_c _ _).mono ?_; rintro e w' ⟨rfl, rfl⟩) | (go_at_call 20; refine (blank_c _ _ h8.flash).mono ?_; rintro e w' ⟨rfl, rfl⟩) | (go_at_call 21; refine (wear_c _ _ h8.flash).mono ?_; rintro e w' ⟨rfl, rfl⟩))
    go_ret
    exact ⟨rfl, h8.below⟩
  · have hcb : (bits .and .u8 (b.toNat : Int) (bits .xor .u8 (a.toNat : Int) 255) == 0) = false := by
      rw [bits_cond, beq_eq_false_iff_ne]
      intro h
      apply hc
      rw [beq_iff_eq]
      exact UInt8.toNat_inj.1 (by simpa using h)
    have hne : ((a.toNat : Int) == (b.toNat : Int)) = false := by
      rw [beq_eq_false_iff_ne]
      intro h
      apply hc
      have : a = b := UInt8.toNat_inj.1 (by omega)
      subst this
      rw [beq_iff_eq, ← UInt8.toBitVec_inj]
      simp
    rw [if_neg hc, if_neg hc] at HF
    clear hc
    go_enter Try.func6, Try.ntmps6
    go_wp2_with (go_at_call 10; refine (alive6_c _).mono ?_; rintro e w1 ⟨rfl, hb1⟩)
    refine (new_h 3 (by omega) hb1).mono ?_
    rintro e w2 ⟨fb, bb, wb, rfl, h, -, -, -⟩
    clear hb1
    go_wp2_with fail
    refine (program_h A _ _ _ [a] _ _ HF.out.e1 HF.out.p1 (byte_row w2 a) h.apart (by omega) (h.alloc _)).mono ?_
    rintro e w3 ⟨rfl, h3⟩
    clear h
    go_wp2_with fail
    refine (program_h A _ _ _ [b] _ _ HF.out.e2 HF.out.p2 (byte_row w3 b) h3.apart (by omega) (h3.alloc _)).mono ?_
    rintro e w4 ⟨rfl, h4⟩
    clear h3
    go_wp2_with fail
    refine (program_h _ _ _ _ [7] _ _ HF.out.e3 HF.out.p3 (byte_row w4 7) h4.apart (by omega) (h4.alloc _)).mono ?_
    rintro e w5 ⟨rfl, h5⟩
    clear h4
    go_wp2_with fail
    refine (read_h A 1 (by omega) _ HF.out.r4 h5).mono ?_
    rintro e w6 ⟨A1, c1, rfl, hown, h6, hbl⟩
    obtain ⟨g1, rfl, hg1, hg2, hcell⟩ := own_one hown
    clear h5 hown hbl
    go_wp2_with (go_at_call 18; refine (num6_c _ _).mono ?_; rintro e w' ⟨rfl, rfl⟩)
    refine (erase_h _ _ _ HF.out.e5 HF.out.p5 HF.out.m5 h6).mono ?_
    rintro e w7 ⟨rfl, h7⟩
    clear h6 hcell
    go_wp2_with fail
    refine (read_h _ 1 (by omega) _ HF.out.r6 h7).mono ?_
    rintro e w8 ⟨A2, c2, rfl, hown, h8, hbl⟩
    obtain ⟨g2, rfl, hg3, hg4, hcell2⟩ := own_one hown
    have hb7 := HF.out.b7
    have hw8 := HF.out.w8
    clear h7 hown hbl
    go_wp2_with (first | (go_at_call 18; refine (num6_c _ _).mono ?_; rintro e w' ⟨rfl, rfl⟩) | (go_at_call 20; refine (blank_c _ _ h8.flash).mono ?_; rintro e w' ⟨rfl, rfl⟩) | (go_at_call 21; refine (wear_c _ _ h8.flash).mono ?_; rintro e w' ⟨rfl, rfl⟩))
    go_ret
    exact ⟨rfl, h8.below⟩

theorem norBits_c (x y z : Int) (hy : 0 ≤ y ∧ y ≤ 255) (hz : 0 ≤ z ∧ z ≤ 255) (w : World) : Calls Try.prog 6 #[.int .i64 x, .int .u8 y, .int .u8 z] w fun e w' => e = .returned (.bool true) ∧ Below w.heap.size w w' := by
  obtain ⟨a, rfl⟩ : ∃ a : UInt8, y = (a.toNat : Int) := ⟨UInt8.ofNat y.toNat, by rw [UInt8.toNat_ofNat']; omega⟩
  obtain ⟨b, rfl⟩ : ∃ b : UInt8, z = (b.toNat : Int) := ⟨UInt8.ofNat z.toNat, by rw [UInt8.toNat_ofNat']; omega⟩
  by_cases hg : x < 0 ∨ 960 ≤ x
  · exact norBits_off x a b w hg
  · obtain ⟨A, rfl⟩ := Int.eq_ofNat_of_zero_le (show 0 ≤ x by omega)
    exact norBits_on A (by omega) a b w
end Go.Proofs.Ytaanefgkmjdknaa
