/- strings.IndexRune of a rune that no ASCII text holds. -/
import Derived.Test.YthidjmdcpdhdlaaDoorScA
import Derived.Test.YthidjmdcpdhdlaaDoorShelf
import Derived.Laws.Runes
import Derived.WalkMore
namespace Go.Proofs.YthidjmdcpdhdlaaDoor
open Go Go.RowKit
set_option linter.unusedVariables false
set_option linter.unusedSimpArgs false
theorem validRune_c (r : Int) (w : World) : Calls Tryd.prog 46 #[.int .i32 r] w fun e w' => e = .returned (.bool (validRune r)) ∧ w = w' := by
  obtain ⟨V, hV⟩ : ∃ V, validRune r = V := ⟨_, rfl⟩
  rw [hV]
  by_cases h1 : 0 ≤ r
  · by_cases h2 : r < 55296
    · have hv : V = true := by rw [← hV]; unfold validRune; exact decide_eq_true (Or.inl ⟨h1, h2⟩)
      subst hv
      clear hV
      go_enter Tryd.func46, Tryd.ntmps46
      go_wp2_with fail
      go_ret
      exact ⟨rfl, rfl⟩
    · by_cases h3 : 57343 < r
      · by_cases h4 : r ≤ 1114111
        · have hv : V = true := by rw [← hV]; unfold validRune; exact decide_eq_true (Or.inr ⟨h3, h4⟩)
          subst hv
          clear hV
          go_enter Tryd.func46, Tryd.ntmps46
          go_wp2_with fail
          go_ret
          exact ⟨rfl, rfl⟩
        · have hv : V = false := by rw [← hV]; unfold validRune; exact decide_eq_false (by omega)
          subst hv
          clear hV
          go_enter Tryd.func46, Tryd.ntmps46
          go_wp2_with fail
          go_ret
          exact ⟨rfl, rfl⟩
      · have hv : V = false := by rw [← hV]; unfold validRune; exact decide_eq_false (by omega)
        subst hv
        clear hV
        go_enter Tryd.func46, Tryd.ntmps46
        go_wp2_with fail
        go_ret
        exact ⟨rfl, rfl⟩
  · by_cases h3 : 57343 < r
    · omega
    · have hv : V = false := by rw [← hV]; unfold validRune; exact decide_eq_false (by omega)
      subst hv
      clear hV
      go_enter Tryd.func46, Tryd.ntmps46
      go_wp2_with fail
      go_ret
      exact ⟨rfl, rfl⟩
def hexD : ByteArray := ⟨#[48, 49, 50, 51, 52, 53, 54, 55, 56, 57, 97, 98, 99, 100, 101, 102]⟩
theorem hexD_ascii : ∀ b ∈ hexD.data.toList, b.toNat < 128 := by decide
theorem below_drewS {B : Nat} {a w : World} (h : Below B a w) (n : Nat) : Below B a (w.drewN n) := ⟨h.os, h.tape, h.output, h.size, h.block⟩
theorem indexByte_none (l : List UInt8) (c : UInt8) (h : ∀ b ∈ l, b ≠ c) : Lib.indexByte l c = -1 := by
  induction l with
  | nil => rfl
  | cons b l ih =>
    have h1 : (b == c) = false := by rw [beq_eq_false_iff_ne]; exact h b (List.mem_cons_self ..)
    have h2 := ih (fun b' hb => h b' (List.mem_cons_of_mem _ hb))
    unfold Lib.indexByte
    rw [h1, h2]
    rfl
set_option maxRecDepth 100000 in
set_option maxHeartbeats 2000000 in
theorem idxRuneHi_c (r : Int) (h : 128 ≤ r ∧ r ≤ 2147483647) (w : World) : Calls Tryd.prog 35 #[.string hexD, .int .i32 r] w fun e w' => e = .returned (.int .i64 (-1)) ∧ Below w.heap.size w w' := by
  obtain ⟨D, hD⟩ : ∃ D, hexD = D := ⟨_, rfl⟩
  have hDs : D.size = 16 := by rw [← hD]; rfl
  have hDa : ∀ b ∈ D.data.toList, b.toNat < 128 := by rw [← hD]; exact hexD_ascii
  have hDi : ∀ pos (hp : pos < D.size), (D[pos]'hp).toNat < 128 := fun pos hp => hDa _ (Array.getElem_mem_toList (xs := D.data) hp)
  rw [hD]
  clear hD
  by_cases hu : r = 65533
  · subst hu
    go_enter Tryd.func35, Tryd.ntmps35
    go_wp2_with fail
    go_loopw [5] (fun _ wr => ∃ pos : Nat, wr.heap[w.heap.size]? = some (.stringIter D pos) ∧ Below w.heap.size w wr) (fun _ wr => D.size - wr.iterPos w.heap.size)
    case atStart =>
      exact ⟨0, World.iter_heap w D 0, (Below.refl _ w).alloc (Nat.le_refl _) _⟩
    case round =>
      obtain ⟨pos, hit, hb⟩ := hrel
      have HB := Lib.hid hb
      have HIT := Lib.hid hit
      clear hb
      by_cases hp : pos < D.size
      · have hnx : ∀ ty, (Instr.next (.pointer (some ⟨w.heap.size, 0, none⟩)) true ty).run Tryd.prog wr = _ := fun ty => Lib.run_next_any_at wr w.heap.size D pos ty hit hp
        have hdc := decode_ascii D pos hp (hDi pos hp)
        have hit2 := Lib.iterAt_heap wr w.heap.size D pos (pos + 1) hit
        have hb2 := Lib.below_iterAt HB.out (Nat.le_refl _) D (pos + 1)
        have hlt := hDi pos hp
        rw [hdc] at hnx
        obtain ⟨b, hbv⟩ : ∃ b, (D[pos]'hp).toNat = b := ⟨_, rfl⟩
        simp only [hbv] at hnx hlt
        have hnb : ((b : Int) == 65533) = false := by rw [beq_eq_false_iff_ne]; omega
        have HIT2 := Lib.hid hit2
        have HB2 := Lib.hid hb2
        clear hit hdc hit2 hb2 hbv
        go_wp2_with fail
        go_roundw
        case rel => exact ⟨pos + 1, HIT2.out, HB2.out⟩
        case measure =>
          simp only [World.iterPos, HIT2.out, HIT.out]
          omega
      · have hnx : ∀ ty, (Instr.next (.pointer (some ⟨w.heap.size, 0, none⟩)) true ty).run Tryd.prog wr = _ := fun ty => Lib.run_next_end_at wr w.heap.size D pos ty hit hp
        clear hit
        go_wp2_with fail
        go_ret
        exact ⟨rfl, HB.out⟩
  have hub : (r == 65533) = false := by simpa using hu
  have hvr := fun W => validRune_c r W
  obtain ⟨V, hV⟩ : ∃ V, validRune r = V := ⟨_, rfl⟩
  simp only [hV] at hvr
  cases V
  · go_enter Tryd.func35, Tryd.ntmps35
    go_wp2_with fail
    refine (hvr _).mono ?_
    rintro e w1 ⟨rfl, rfl⟩
    go_wp2_with fail
    go_ret
    exact ⟨rfl, Below.refl _ _⟩
  obtain ⟨s2, s4, sl⟩ := encode_facts r (by rw [validRune_eq]; exact hV) h.1
  obtain ⟨E, hE⟩ : ∃ E, Utf8.encode r = E := ⟨_, rfl⟩
  rw [hE] at s2 s4 sl
  have hcv : ∀ W, (convert 21 9 (.int .i32 r)).run Tryd.prog W = .ok (.string E) W := fun W => by rw [← hE]; exact run_convert_int_string W _ _ _ _ rfl rfl
  have hix : ∀ (a : Nat) (c : UInt8) W, 128 ≤ c.toNat → Calls Tryd.prog 45 #[.string (D.extract a 16), .int .u8 c.toNat] W fun e w' => e = .returned (.int .i64 (-1)) ∧ w' = W := fun a c W hc => by
    have q := Tryd.strings_IndexByte (D.extract a 16) (c.toNat : Int) W
    rw [indexByte_none _ _ (fun b hb hbc => by
      have h1 := hDa b (mem_extract hb)
      have h2 : ((c.toNat : Int).toNat).toUInt8 = c := by simp
      rw [h2] at hbc
      rw [hbc] at h1
      omega)] at q
    exact q
  have hsz : E.size = 2 ∨ E.size = 3 ∨ E.size = 4 := by omega
  have HIX := Lib.hid hix
  have HSL := Lib.hid sl
  have HDI := Lib.hid hDi
  clear hE hV hDa hDi hix sl hu
  rcases hsz with hs | hs | hs
  · have hlt : 1 < E.size := by omega
    have hE1 : 128 ≤ (E[1]'hlt).toNat := by
      have q := HSL.out (by omega)
      simp only [hs] at q
      exact q
    have hltD : 1 < D.size := by omega
    have hD1 := HDI.out 1 hltD
    have hne : (((D[1]'hltD).toNat : Int) != ((E[1]'hlt).toNat : Int)) = true := by rw [bne_iff_ne]; omega
    have hcall := fun W => HIX.out 2 (E[1]'hlt) W hE1
    have hwr : IntKind.i64.wrap 2 = 2 := by decide
    go_enter Tryd.func35, Tryd.ntmps35
    go_wp2_with fail
    refine (hvr _).mono ?_
    rintro e w1 ⟨rfl, rfl⟩
    go_wp2_with fail
    go_step3
    go_wp2_with fail
    rename Exit → Act → World → Prop => Q8
    go_loopw [9] (fun i wr => i = .int .i64 1 ∧ Below w.heap.size w wr) (fun _ _ => 0)
    case atStart => exact ⟨rfl, Below.refl _ _⟩
    case round =>
      obtain ⟨rfl, hb⟩ := hrel
      go_wp2_with fail
      go_step3
      go_wp2_with fail
      go_quiet (fail)
      have hb2 := below_drewS hb nq
      generalize wr.drewN nq = Wq at hb2 ⊢
      go_wp2_with fail
      go_quiet ((go_at_call 45; exact Calls.quiet_of_same ((hcall _).mono fun _ _ hh => ⟨hh.1, hh.2⟩)))
      go_wp2_with fail
      rw [Exit.noGoto_ret]
      rename Exit → Act → World → Prop => Q9
      simp only [Exit.inBlock, Exit.then, Q9]
      simp only [Exit.noGoto_ret, Exit.inBlock, Exit.then, Q8]
      go_ret
      exact ⟨rfl, below_drewS hb2 _⟩
  · have hlt : 2 < E.size := by omega
    have hE1 : 128 ≤ (E[2]'hlt).toNat := by
      have q := HSL.out (by omega)
      simp only [hs] at q
      exact q
    have hltD : 2 < D.size := by omega
    have hD1 := HDI.out 2 hltD
    have hne : (((D[2]'hltD).toNat : Int) != ((E[2]'hlt).toNat : Int)) = true := by rw [bne_iff_ne]; omega
    have hcall := fun W => HIX.out 3 (E[2]'hlt) W hE1
    have hwr : IntKind.i64.wrap 3 = 3 := by decide
    go_enter Tryd.func35, Tryd.ntmps35
    go_wp2_with fail
    refine (hvr _).mono ?_
    rintro e w1 ⟨rfl, rfl⟩
    go_wp2_with fail
    go_step3
    go_wp2_with fail
    rename Exit → Act → World → Prop => Q8
    go_loopw [9] (fun i wr => i = .int .i64 2 ∧ Below w.heap.size w wr) (fun _ _ => 0)
    case atStart => exact ⟨rfl, Below.refl _ _⟩
    case round =>
      obtain ⟨rfl, hb⟩ := hrel
      go_wp2_with fail
      go_step3
      go_wp2_with fail
      go_quiet (fail)
      have hb2 := below_drewS hb nq
      generalize wr.drewN nq = Wq at hb2 ⊢
      go_wp2_with fail
      go_quiet ((go_at_call 45; exact Calls.quiet_of_same ((hcall _).mono fun _ _ hh => ⟨hh.1, hh.2⟩)))
      go_wp2_with fail
      rw [Exit.noGoto_ret]
      rename Exit → Act → World → Prop => Q9
      simp only [Exit.inBlock, Exit.then, Q9]
      simp only [Exit.noGoto_ret, Exit.inBlock, Exit.then, Q8]
      go_ret
      exact ⟨rfl, below_drewS hb2 _⟩
  · have hlt : 3 < E.size := by omega
    have hE1 : 128 ≤ (E[3]'hlt).toNat := by
      have q := HSL.out (by omega)
      simp only [hs] at q
      exact q
    have hltD : 3 < D.size := by omega
    have hD1 := HDI.out 3 hltD
    have hne : (((D[3]'hltD).toNat : Int) != ((E[3]'hlt).toNat : Int)) = true := by rw [bne_iff_ne]; omega
    have hcall := fun W => HIX.out 4 (E[3]'hlt) W hE1
    have hwr : IntKind.i64.wrap 4 = 4 := by decide
    go_enter Tryd.func35, Tryd.ntmps35
    go_wp2_with fail
    refine (hvr _).mono ?_
    rintro e w1 ⟨rfl, rfl⟩
    go_wp2_with fail
    go_step3
    go_wp2_with fail
    rename Exit → Act → World → Prop => Q8
    go_loopw [9] (fun i wr => i = .int .i64 3 ∧ Below w.heap.size w wr) (fun _ _ => 0)
    case atStart => exact ⟨rfl, Below.refl _ _⟩
    case round =>
      obtain ⟨rfl, hb⟩ := hrel
      go_wp2_with fail
      go_step3
      go_wp2_with fail
      go_quiet (fail)
      have hb2 := below_drewS hb nq
      generalize wr.drewN nq = Wq at hb2 ⊢
      go_wp2_with fail
      go_quiet ((go_at_call 45; exact Calls.quiet_of_same ((hcall _).mono fun _ _ hh => ⟨hh.1, hh.2⟩)))
      go_wp2_with fail
      rw [Exit.noGoto_ret]
      rename Exit → Act → World → Prop => Q9
      simp only [Exit.inBlock, Exit.then, Q9]
      simp only [Exit.noGoto_ret, Exit.inBlock, Exit.then, Q8]
      go_ret
      exact ⟨rfl, below_drewS hb2 _⟩
end Go.Proofs.YthidjmdcpdhdlaaDoor
