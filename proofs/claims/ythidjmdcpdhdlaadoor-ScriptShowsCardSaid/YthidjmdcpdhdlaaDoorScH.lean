/- script.raw: what bytes a word says. -/
import Derived.Test.YthidjmdcpdhdlaaDoorScE
namespace Go.Proofs.YthidjmdcpdhdlaaDoor
open Go Go.RowKit
set_option linter.unusedVariables false
set_option linter.unusedSimpArgs false
theorem only_iterAt (w : World) (k : Nat) (s : ByteArray) (pos : Nat) : Only [k] w (w.iterAt k s pos) := ⟨rfl, rfl, rfl, by simp [World.iterAt], fun b _ hb => Lib.iterAt_other w k b s pos (by simpa using hb)⟩
theorem own_capR {w : World} {base : Nat} {e : TypeId} {n c : Nat} {A : Option Addr} {xs : List Value} (h : w.ownsRow base e 1 (.slice A n c) n xs) : n ≤ c ∧ c ≤ maxLen := by
  rcases h.2 with ⟨h1, h2⟩ | ⟨g, cap, cur, h1, -, -, h3, h4, -⟩
  · injection h1 with _ _ h1
    subst h1 h2
    exact ⟨Nat.le_refl _, Nat.zero_le _⟩
  · injection h1 with _ _ h1
    subst h1
    exact ⟨h3, h4⟩
theorem hex_or : ∀ h n : Fin 16, bits BinOp.or IntKind.i64 ((h.val : Int) * 16) (n.val : Int) = ((16 * h.val + n.val : Nat) : Int) := of_decide_eq_true (by kernel_rfl)
theorem lt_of_get {w : World} {k : Nat} {o : Obj} (h : w.heap[k]? = some o) : k < w.heap.size := by
  by_cases q : k < w.heap.size
  · exact q
  · rw [Array.getElem?_eq_none (by omega)] at h; cases h
set_option maxHeartbeats 2000000 in
theorem sraw_c (s : ByteArray) (hs : s.size ≤ 1000000) (w : World) : Calls Tryd.prog 26 #[.string s] w fun e w' => rawRet (rawS s.data.toList) e w' ∧ Below w.heap.size w w' := by
  obtain ⟨i0, hi, hz0, hz1, hz2⟩ := info_parts info_u8
  have HI := Lib.hid hi
  have HZ0 := Lib.hid hz0
  have HZ1 := Lib.hid hz1
  have HZ2 := Lib.hid hz2
  have hll : s.data.toList.length = s.size := Array.length_toList
  clear hi hz0 hz1 hz2
  by_cases h45 : s.data.toList = [45]
  · have he : s = ⟨#[45]⟩ := ByteArray.ext (Array.toList_inj.mp h45)
    subst he
    go_enter Tryd.func26, Tryd.ntmps26
    go_wp2_with fail
    go_ret2
    exact ⟨⟨none, 0, rfl, World.ownsRow_nil _ _ _ _⟩, Below.refl _ _⟩
  have hne45 : ¬ s.toList = [45] := by rw [ByteArray.toList_eq]; exact h45
  have hne45b : (s.toList == [45]) = false := by rw [beq_eq_false_iff_ne]; exact hne45
  by_cases h0 : s.data.toList = []
  · have hV : rawS s.data.toList = Option.none := by unfold rawS; rw [if_neg h45, if_pos h0]
    have he0 : s.toList = [] := by rw [ByteArray.toList_eq]; exact h0
    have he1 : s.toList.isEmpty = true := by rw [he0]; rfl
    rw [hV]
    clear h45 h0 hV
    go_enter Tryd.func26, Tryd.ntmps26
    go_wp2_with fail
    go_ret2
    exact ⟨rfl, Below.refl _ _⟩
  have he0 : ¬ s.toList = [] := by rw [ByteArray.toList_eq]; exact h0
  have he1 : s.toList.isEmpty = false := by rw [ByteArray.toList_eq, List.isEmpty_eq_false_iff]; exact h0
  have hV : rawS s.data.toList = rawL s.data.toList := by unfold rawS; rw [if_neg h45, if_neg h0]
  rw [hV]
  obtain ⟨k, hk⟩ : ∃ k, s.size = 2 * k ∨ s.size = 2 * k + 1 := ⟨s.size / 2, by omega⟩
  rcases hk with hk | hk
  rotate_left
  · have hV2 : rawL s.data.toList = Option.none := rawL_odd k _ (by rw [hll]; exact hk)
    rw [hV2]
    have hmod : Int.tmod (s.size : Int) 2 = 1 := by rw [Int.tmod_eq_emod_of_nonneg (by omega)]; omega
    clear h45 h0 hV hV2 hk
    go_enter Tryd.func26, Tryd.ntmps26
    go_wp2_with fail
    go_ret2
    exact ⟨rfl, Below.refl _ _⟩
  have hmod : Int.tmod (s.size : Int) 2 = 0 := by rw [Int.tmod_eq_emod_of_nonneg (by omega)]; omega
  have hq := rawH_eq k s.data.toList 0 [] (by rw [hll]; exact hk)
  have hq2 : rawH s.data.toList false 0 [] = rawL s.data.toList := by rw [hq]; cases rawL s.data.toList <;> rfl
  obtain ⟨V, hVV⟩ : ∃ V, rawL s.data.toList = V := ⟨_, rfl⟩
  rw [hVV] at hq2 ⊢
  have HQ := Lib.hid hq2
  clear h45 h0 hV hk hq hq2 hVV
  go_enter Tryd.func26, Tryd.ntmps26
  go_wp2_with fail
  go_loopw [4, 5] (fun o i wr => ∃ (pos h : Nat) (acc : List UInt8) (A' : Option Addr) (c' : Nat), o = .slice A' acc.length c' ∧ i = .int .i64 h ∧ h < 16 ∧ acc.length ≤ pos ∧ pos ≤ s.size ∧ rawH (s.data.toList.drop pos) (decide (pos % 2 = 1)) h acc = V ∧ wr.heap[w.heap.size]? = some (.stringIter s pos) ∧ wr.ownsRow (w.heap.size + 1) 5 1 (.slice A' acc.length c') acc.length (acc.map u8v) ∧ Below w.heap.size w wr) (fun _ _ wr => s.size - wr.iterPos w.heap.size)
  case atStart =>
    refine ⟨0, 0, [], none, 0, rfl, rfl, by omega, Nat.le_refl _, Nat.zero_le _, HQ.out, World.iter_heap w s 0, World.ownsRow_nil _ _ _ _, (Below.refl _ w).alloc (Nat.le_refl _) _⟩
  case round =>
    obtain ⟨pos, h, acc, A1, c1, rfl, rfl, hh, hap, hps, hg, hit, hown, hb⟩ := hrel
    have HG := Lib.hid hg
    have HB := Lib.hid hb
    have HIT := Lib.hid hit
    have HO := Lib.hid hown
    clear hg hb hown
    by_cases hp : pos < s.size
    · have hnx : ∀ ty, (Instr.next (.pointer (some ⟨w.heap.size, 0, none⟩)) true ty).run Tryd.prog wr = _ := fun ty => Lib.run_next_any_at wr w.heap.size s pos ty hit hp
      obtain ⟨d, hd⟩ : ∃ d, (Utf8.decode s pos).2 = d := ⟨_, rfl⟩
      obtain ⟨r, hr⟩ : ∃ r, (Utf8.decode s pos).1 = r := ⟨_, rfl⟩
      have hlow := fun (hlt : (s[pos]'hp).toNat < 128) => decode_ascii s pos hp hlt
      have hhigh := fun (hge : 128 ≤ (s[pos]'hp).toNat) => (decode_high s pos hp hge).1
      have hle := decode_le s pos
      have hwd := width_posS s pos hp
      rw [hr] at hle
      rw [hd] at hwd
      have hdc := drop_cons s pos hp
      obtain ⟨b, hbv⟩ : ∃ b, s[pos]'hp = b := ⟨_, rfl⟩
      rw [hbv] at hlow hhigh hdc
      have hr1 : b.toNat < 128 → r = b.toNat ∧ d = 1 := fun hlt => by rw [← hr, ← hd, hlow hlt]; exact ⟨rfl, rfl⟩
      have hr2 : 128 ≤ b.toNat → 128 ≤ r := fun hge => by rw [← hr]; exact hhigh hge
      simp only [hr, hd] at hnx
      have hgs := HG.out
      rw [hdc] at hgs
      have hit2 := Lib.iterAt_heap wr w.heap.size s pos (pos + d) hit
      have hb2 := Lib.below_iterAt HB.out (Nat.le_refl _) s (pos + d)
      have ho2 := own_only HO.out (only_iterAt wr w.heap.size s (pos + d)) (fun k hk => by have := (HO.out.lt k hk).1; simp; omega)
      have HGS := Lib.hid hgs
      have HR1 := Lib.hid hr1
      have HR2 := Lib.hid hr2
      have HIT2 := Lib.hid hit2
      have HB2 := Lib.hid hb2
      have HO2 := Lib.hid ho2
      have HWD := Lib.hid hwd
      have hix : ∀ W, Calls Tryd.prog 35 #[.string ⟨#[48, 49, 50, 51, 52, 53, 54, 55, 56, 57, 97, 98, 99, 100, 101, 102]⟩, .int .i32 (r : Int)] W fun e w' => e = .returned (.int .i64 (hexI r)) ∧ Below W.heap.size W w' := fun W => idxRune_c r ⟨by omega, by omega⟩ W
      obtain ⟨N, hN⟩ : ∃ N, hexI (r : Int) = N := ⟨_, rfl⟩
      have hNr := hexI_range (r : Int)
      rw [hN] at hNr
      simp only [hN] at hix
      have HN := Lib.hid hN
      clear hit hlow hhigh hdc hbv hr hd hr1 hr2 hgs hit2 hb2 ho2 hwd hN
      go_wp2_with fail
      refine (hix _).mono ?_
      rintro e w2 ⟨rfl, hb3⟩
      have HB3 := Lib.hid (HB2.out.trans (hb3.mono HB2.out.size))
      have HO3 := Lib.hid (own_only HO2.out (Only.of_below (S := []) hb3) (by simp))
      have hlt := (lt_of_get HIT2.out)
      have HIT3 := Lib.hid ((hb3.block _ hlt).trans HIT2.out)
      clear hb3 hix hlt
      by_cases hneg : N < 0
      · have hv : V = Option.none := by
          rw [← HGS.out]
          show (if hexI (b.toNat : Int) < 0 then Option.none else _) = _
          rw [if_pos]
          by_cases q : b.toNat < 128
          · rw [← (HR1.out q).1, HN.out]; exact hneg
          · unfold hexI; rw [if_neg (by omega), if_neg (by omega)]; decide
        subst hv
        go_wp2_with fail
        go_ret2
        exact ⟨rfl, HB3.out⟩
      have hb128 : b.toNat < 128 := by
        by_cases q : b.toNat < 128
        · exact q
        · have h1 := HR2.out (by omega)
          have h2 := HN.out
          unfold hexI at h2
          rw [if_neg (by omega), if_neg (by omega)] at h2
          omega
      obtain ⟨hrb, hd1⟩ := HR1.out hb128
      obtain ⟨n, rfl⟩ : ∃ n : Nat, N = n := ⟨N.toNat, by omega⟩
      have hn16 : n < 16 := by omega
      have hgs2 : V = if decide (pos % 2 = 1) = true then rawH (s.data.toList.drop (pos + 1)) false n (acc ++ [UInt8.ofNat (16 * h + n)]) else rawH (s.data.toList.drop (pos + 1)) true n acc := by
        rw [← HGS.out]
        have hx : hexI (b.toNat : Int) = (n : Int) := by rw [← hrb]; exact HN.out
        show (if hexI (b.toNat : Int) < 0 then Option.none else if decide (pos % 2 = 1) = true then rawH _ false (hexI (b.toNat : Int)).toNat (acc ++ [UInt8.ofNat (16 * h + (hexI (b.toNat : Int)).toNat)]) else rawH _ true (hexI (b.toNat : Int)).toNat acc) = _
        rw [hx, if_neg (by omega), Int.toNat_natCast]
      have HG2 := Lib.hid hgs2
      have HD1 := Lib.hid hd1
      clear hgs2 hd1 hrb
      by_cases hodd : pos % 2 = 1
      · have htm : Int.tmod (pos : Int) 2 = 1 := by rw [Int.tmod_eq_emod_of_nonneg (by omega)]; omega
        have hval : bits BinOp.or IntKind.i64 ((h : Int) * 16) (n : Int) % 256 = ((UInt8.ofNat (16 * h + n)).toNat : Int) := by
          have q := hex_or ⟨h, hh⟩ ⟨n, hn16⟩
          dsimp only at q
          rw [q, UInt8.toNat_ofNat']
          omega
        have hrd : Reads (w2.alloc (.cells #[.int .u8 (bits BinOp.or IntKind.i64 ((h : Int) * 16) (n : Int) % 256)] 5)) (some ⟨w2.heap.size, 0, none⟩) 1 (([UInt8.ofNat (16 * h + n)] : List UInt8).map u8v) := by
          rw [hval]
          exact (Blk.new w2 5 #[u8v (UInt8.ofNat (16 * h + n))]).reads 0 (by simp)
        clear hval
        have hbs := HB3.out.size
        have hit3 := lt_of_get HIT3.out
        have hl3 := HO3.out.lt
        obtain ⟨x, hx⟩ : ∃ x, UInt8.ofNat (16 * h + n) = x := ⟨_, rfl⟩
        rw [hx] at hrd
        have HX := Lib.hid hx
        clear hx
        go_wp2_with (at_builtin; refine wpList_append_any _ rfl (.tmp 32) (.tmp 38) _ rfl (w.heap.size + 1) 5 i0 (.int .u8 0) 1 Tryd.underlying32 HI.out HZ0.out HZ1.out HZ2.out rfl _ acc.length (acc.map u8v) rfl (own_only HO3.out (Only.of_below (S := []) ((Below.refl _ w2).alloc (Nat.le_refl _) _)) (by simp)) (some ⟨w2.heap.size, 0, none⟩) 1 1 (([x] : List UInt8).map u8v) rfl hrd (u8v_one _) (by unfold maxLen; omega) (by omega) (by simp; omega) ?_; intro A2 c2 w4 hown2 hgrow2 hat; have HOA := Lib.hid hown2; have HGA := Lib.hid hgrow2; clear hown2 hgrow2 hat)
        go_roundw
        case rel =>
          have hbal := (Below.refl (w.heap.size + 1) w2).alloc (by omega) (.cells #[.int .u8 (bits BinOp.or IntKind.i64 ((h : Int) * 16) (n : Int) % 256)] 5)
          have hba := hbal.grown HGA.out (by simp; omega) (fun g hg => (hl3 g hg).1)
          refine ⟨pos + d, n, acc ++ [x], A2, c2, by rw [List.length_append]; rfl, rfl, hn16, by have := HWD.out; rw [List.length_append]; simp; omega, ?_, ?_, (hba.block _ (by omega)).trans HIT3.out, ?_, HB3.out.trans (hba.mono (by omega))⟩
          · rw [HD1.out]; omega
          · rw [HD1.out, HG2.out, if_pos (decide_eq_true hodd), HX.out, show decide ((pos + 1) % 2 = 1) = false from decide_eq_false (by omega)]
          · rw [List.length_append, List.map_append]; exact HOA.out
        case measure =>
          have hbal := (Below.refl (w.heap.size + 1) w2).alloc (by omega) (.cells #[.int .u8 (bits BinOp.or IntKind.i64 ((h : Int) * 16) (n : Int) % 256)] 5)
          have hba := hbal.grown HGA.out (by simp; omega) (fun g hg => (hl3 g hg).1)
          have hitn := (hba.block _ (by omega)).trans HIT3.out
          have := HWD.out
          simp only [World.iterPos, hitn, HIT.out]
          omega
      · have htm : Int.tmod (pos : Int) 2 = 0 := by rw [Int.tmod_eq_emod_of_nonneg (by omega)]; omega
        go_wp2_with fail
        go_roundw
        case rel =>
          refine ⟨pos + d, n, acc, A1, c1, rfl, rfl, hn16, by have := HWD.out; omega, ?_, ?_, HIT3.out, HO3.out, HB3.out⟩
          · rw [HD1.out]; omega
          · rw [HD1.out, HG2.out, if_neg (by simpa using hodd), show decide ((pos + 1) % 2 = 1) = true from decide_eq_true (by omega)]
        case measure =>
          have := HWD.out
          simp only [World.iterPos, HIT3.out, HIT.out]
          omega
    · have hnx : ∀ ty, (Instr.next (.pointer (some ⟨w.heap.size, 0, none⟩)) true ty).run Tryd.prog wr = _ := fun ty => Lib.run_next_end_at wr w.heap.size s pos ty hit hp
      have hv : V = Option.some acc := by rw [← HG.out, drop_end s pos hp]; rfl
      have HV := Lib.hid hv
      clear hit hv
      go_wp2_with fail
      go_ret2
      exact ⟨by rw [HV.out]; exact ⟨A1, c1, rfl, own_base HO.out (Nat.zero_le _)⟩, HB.out⟩
end Go.Proofs.YthidjmdcpdhdlaaDoor
