/- waterlinelaw3.ShaBlocks: the walk. -/
import Derived.Test.YtgadnliogceecaaHm4
import Derived.Test.YtgadnliogceecaaRs7
import Derived.Test.YtgadnliogceecaaSv1
import Derived.Deep.RegionHeld3
import Derived.Deep.CutRange
import Derived.Deep.RegionLaw
import Derived.Deep.DrawnRows
namespace Go.Proofs.Ytgadnliogceecaa
open Go Go.RowKit
set_option linter.unusedVariables false
set_option linter.unusedSimpArgs false
attribute [local go_sem ↓] Go.wp_at_zero Go.wp_at_succ
theorem absorb_mod (s : St) (l : List UInt8) : (absorb s l).2.length = l.length % 64 := by
  induction h : l.length using Nat.strongRecOn generalizing s l with
  | _ n ih =>
    by_cases h64 : 64 ≤ l.length
    · rw [absorb_more s l h64, ih (l.drop 64).length (by rw [List.length_drop]; omega) _ _ rfl, List.length_drop]
      omega
    · rw [absorb_done s l h64]; show l.length = _; omega
theorem save_had (w : World) (sb : Nat) (l : List UInt8) (h : Had w sb l) :
    Calls Try.prog 18 #[.pointer (some ⟨sb, 0, none⟩)] w (MadeBytes w (saved (absorb St.first l).1 (UInt64.ofNat l.length) (absorb St.first l).2)) := by
  have := absorb_rest St.first l
  exact save_c w sb _ _ _ h (by omega)
/-- A load of 32 bytes, sealed. -/
noncomputable def sld (x : Value) : Sem Value := Instr.loadAt 24 x
theorem sld_seal (x : Value) : Instr.loadAt 24 x = sld x := rfl
theorem run_sld {W : World} {g : Nat} {d : List UInt8} (hd : d.length = 32) (h : Blk W g 24 (d.map u8v).toArray) : (sld (.pointer (some ⟨g, 0, none⟩))).run Try.prog W = .ok (.agg (d.map u8v).toArray) W :=
  run_loadAt_mid (P := Try.prog) W g 0 24 (d.map u8v) _ ((h.bytes hd).rangeAt) Try.underlying24 rfl (by rw [List.length_map, hd]; exact info_b32)
attribute [local go_sem ↓] sld_seal
theorem u8_of (v : Int) (h0 : 0 ≤ v) (h1 : v < 256) : ∃ u : UInt8, Value.int .u8 v = u8v u := by
  refine ⟨UInt8.ofNat v.toNat, ?_⟩
  show Value.int .u8 v = Value.int .u8 ((UInt8.ofNat v.toNat).toNat : Int)
  congr 1
  rw [UInt8.toNat_ofNat']
  omega
set_option maxRecDepth 100000 in
set_option maxHeartbeats 1000000 in
theorem shaBlocks_off (w : World) (n x : Int) (c : UInt8) (hg : n < 0 ∨ 200 < n ∨ x < 0) :
    Calls Try.prog 5 #[.int .i64 n, .int .i64 x, u8v c] w fun e w' => e = .returned (.bool true) ∧ Below w.heap.size w w' := by
  by_cases g0 : n < 0
  · clear hg
    go_enter Try.func5, Try.ntmps5
    go_wp2_with (go_at_call 12; refine (alive3_c _).mono ?_; rintro e w1 ⟨rfl, hb⟩)
    go_ret
    exact ⟨rfl, hb⟩
  · by_cases g1 : 200 < n
    · clear hg
      go_enter Try.func5, Try.ntmps5
      go_wp2_with (go_at_call 12; refine (alive3_c _).mono ?_; rintro e w1 ⟨rfl, hb⟩)
      go_ret
      exact ⟨rfl, hb⟩
    · have g2 : x < 0 := by omega
      clear hg
      go_enter Try.func5, Try.ntmps5
      go_wp2_with (go_at_call 12; refine (alive3_c _).mono ?_; rintro e w1 ⟨rfl, hb⟩)
      go_ret
      exact ⟨rfl, hb⟩

set_option maxRecDepth 100000 in
set_option maxHeartbeats 16000000 in
theorem shaBlocks_on (w : World) (n x : Nat) (c : UInt8) (hn : n ≤ 200) (hx : x ≤ 9223372036854775807) :
    Calls Try.prog 5 #[.int .i64 (n : Int), .int .i64 (x : Int), u8v c] w fun e w' => e = .returned (.bool true) ∧ Below w.heap.size w w' := by
  have hcb := c.toNat_lt
  go_enter Try.func5, Try.ntmps5
  go_upto_region 4 with (go_at_call 12; refine (alive3_c _).mono ?_; rintro e w1 ⟨rfl, hb⟩)
  obtain ⟨R0, hR0⟩ : ∃ R, R = List.replicate n (u8v 0) := ⟨_, rfl⟩
  have hmk : (Instr.makeSlice 22 (.int .i64 (n : Int)) (.int .i64 (n : Int))).run Try.prog w1 = .ok (.slice (some ⟨w1.heap.size, 0, none⟩) n n) (w1.alloc (.cells R0.toArray 5)) := by rw [hR0]; exact make_bytes n (by omega) w1
  have hB0 := Blk.new w1 5 R0.toArray
  have hb1 : Below w.heap.size w (w1.alloc (.cells R0.toArray 5)) := hb.alloc hb.size _
  have HB1 := Lib.hid hb1
  have hwl := hb.size
  have hB1 : ∃ l : List UInt8, l.length = n ∧ Blk (w1.alloc (.cells R0.toArray 5)) w1.heap.size 5 (l.map u8v).toArray := ⟨List.replicate n 0, by simp, by rw [List.map_replicate, ← hR0]; exact hB0⟩
  have HB2 := Lib.hid hB1
  clear hb hb1 hB0 hB1 hR0
  go_upto_region 6 with fail
  generalize w1.alloc (.cells R0.toArray 5) = w2 at HB1 HB2 ⊢
  generalize w1.heap.size = gb at hwl HB2 ⊢
  clear hmk
  go_loopw [9] (fun i wr => ∃ (k : Nat) (l : List UInt8), k ≤ n ∧ i = .int .i64 (k : Int) ∧ l.length = n ∧ Blk wr gb 5 (l.map u8v).toArray ∧ Below w.heap.size w wr) (fun i _ => n - (intOf i).toNat)
  case atStart =>
    obtain ⟨l, hl, hb⟩ := HB2.out
    exact ⟨0, l, by omega, rfl, hl, hb, HB1.out⟩
  case round =>
    clear HB1 HB2
    obtain ⟨k, l, hk, rfl, hl, hblk, hbel⟩ := hrel
    have H := Lib.hid hblk
    have HL := Lib.hid hbel
    have hgl := hblk.lt
    have hfr := hblk.frozen k
    have hrd := hblk.bytes hl
    by_cases hlt : k < n
    · have hcell := hrd.cellD k hlt
      rw [Nat.zero_add] at hcell
      clear hblk hbel hrd
      go_wp2_with fail
      go_roundw
      case rel =>
        obtain ⟨u, hu⟩ := u8_of (((c.toNat : Int) + (k : Int)) % 256) (by omega) (by omega)
        refine ⟨k + 1, l.set k u, by omega, by go_num, by rw [List.length_set]; exact hl, ?_, HL.out.setCell (by exact hwl) _⟩
        have h := H.out.set_ k (u8v u)
        rw [set_bytes] at h
        rw [show (Value.int .u8 (((c.toNat : Int) + (k : Int)) % 256)) = u8v u from hu]
        exact h
      case measure => simp [intOf]; omega
    · obtain rfl : k = n := by omega
      clear hblk hbel hfr
      have HR := Lib.hid hrd
      clear hrd
      have hmod : ((x : Int) % ((k : Int) + 1)) = ((x % (k + 1) : Nat) : Int) := by rw [Int.natCast_emod, Int.natCast_succ]
      have hp : x % (k + 1) ≤ k := by have := Nat.mod_lt x (show 0 < k + 1 by omega); omega
      generalize x % (k + 1) = p at hmod hp
      have hnz : ¬ ((k : Int) + 1 = 0) := by omega
      obtain ⟨A, hA⟩ : ∃ A : Option Addr, A = some ⟨gb, 0, none⟩ := ⟨_, rfl⟩
      rw [← hA] at HR ⊢
      have hgA : ∀ a, A = some a → a.block < wr.heap.size := by rw [hA]; intro a ha; cases ha; exact hgl
      clear hA
      go_wp2_with fail
      refine (new_had wr).mono ?_
      rintro e w3 ⟨sb, rfl, hh3, hsb3, hb3⟩
      have hr3 := HR.out.below hb3
      have HR3 := Lib.hid hr3
      have HH3 := Lib.hid hh3
      have HB3 := Lib.hid (HL.out.trans (hb3.mono HL.out.size))
      clear hr3 hh3 hb3 HR HL H
      go_wp2_with fail
      have hrt : Reads w3 A p ((l.take p).map u8v) := by rw [List.map_take]; exact HR3.out.take hp
      refine (write_had w3 sb [] _ p k (l.take p) (by rw [List.length_take]; omega) HH3.out hrt (fun _ a ha => by have := hgA a ha; omega) (by omega)).mono ?_
      rintro e w4 ⟨rfl, hh4, ho4⟩
      rw [List.nil_append] at hh4
      have hne : ∀ a, A = some a → a.block ≠ sb := fun a ha => by have := hgA a ha; omega
      have HR4 := Lib.hid (HR3.out.only ho4 (by intro a ha; simp; exact hne a ha))
      have HB4 := Lib.hid (ho4.below HB3.out HB3.out.size (by intro j hj; simp at hj; omega))
      have HH4 := Lib.hid hh4
      clear hh4 ho4 hrt HR3 HB3 HH3
      go_upto_region 14 with fail
      go_cut [] from 55 to 59 (fun wx => Had wx sb l ∧ Reads wx A k (l.map u8v) ∧ Below w.heap.size w wx)
      case first =>
        by_cases hpk : p = k
        · subst hpk
          go_wp2_with fail
          refine (write_had w4 sb (l.take p) A 0 0 [] rfl HH4.out ⟨by simp, fun h => by omega⟩ (fun h => by omega) (by omega)).mono ?_
          rintro e w5 ⟨rfl, hh5, ho5⟩
          rw [List.append_nil, List.take_of_length_le (by omega)] at hh5
          have HR5 := Lib.hid (HR4.out.only ho5 (by intro a ha; simp; exact hne a ha))
          have HB5 := Lib.hid (ho5.below HB4.out HB4.out.size (by intro j hj; simp at hj; omega))
          have HH5 := Lib.hid hh5
          clear hh5 ho5
          go_wp2_with fail
          go_meet
          exact ⟨HH5.out, HR5.out, HB5.out⟩
        · have hrd2 : Reads w4 (Option.map (fun x => x.add p) A) (k - p) ((l.drop p).map u8v) := by
            have h := HR4.out.drop (k := p) (cap := k) hp (Nat.le_refl _)
            rw [if_neg (by omega), ← List.map_drop] at h
            exact h
          have HRD := Lib.hid hrd2
          have hplt : p < k := by omega
          clear hrd2
          go_wp2_with fail
          refine (write_had w4 sb (l.take p) _ (k - p) (k - p) (l.drop p) (by rw [List.length_drop]; omega) HH4.out HRD.out (fun _ a ha => by cases A with | none => simp at ha | some a0 => (simp at ha; rw [← ha, block_of_add]; exact hne a0 rfl)) (by omega)).mono ?_
          rintro e w5 ⟨rfl, hh5, ho5⟩
          rw [List.take_append_drop] at hh5
          have HR5 := Lib.hid (HR4.out.only ho5 (by intro a ha; simp; exact hne a ha))
          have HB5 := Lib.hid (ho5.below HB4.out HB4.out.size (by intro j hj; simp at hj; omega))
          have HH5 := Lib.hid hh5
          clear hh5 ho5
          go_wp2_with fail
          go_meet
          exact ⟨HH5.out, HR5.out, HB5.out⟩
      case rest =>
      obtain ⟨hh5, hr5, hb5⟩ := hcut
      have HR5 := Lib.hid hr5
      have HB5 := Lib.hid hb5
      have HH5 := Lib.hid hh5
      clear hh5 hr5 hb5 HR4 HB4 HH4
      go_wp2_with fail
      refine (sum_had wc sb _ HH5.out).mono ?_
      rintro e w6 ⟨rfl, hb6⟩
      have HR6 := Lib.hid (HR5.out.below hb6)
      have HH6 := Lib.hid (HH5.out.below hb6 (Nat.le_refl _))
      have HB6 := Lib.hid (HB5.out.trans (hb6.mono HB5.out.size))
      have hs6 := StreamAt.lt HH6.out
      obtain ⟨d, hd⟩ : ∃ d, sha l = d := ⟨_, rfl⟩
      have hdl : d.length = 32 := by rw [← hd]; exact sha_len _
      rw [hd]
      have HD := Lib.hid hd
      have hsz : ((d.map u8v).toArray).size = 32 := by simp [hdl]
      clear hd hb6 HR5 HH5 HB5
      rename_i K hK
      refine hK _ _ ?_
      refine wpList_alloc_store rfl rfl 24 rfl 12 rfl (.tmp 12) (.tmp 61) rfl rfl (.agg zero32) info_z32 (d.map u8v).toArray (by rw [hsz]; exact info_b32) (by rw [hsz]; rfl) (bytes_one d) rfl rfl ?_
      have hDB := Blk.new w6 24 (d.map u8v).toArray
      have ha6 : Below w6.heap.size w6 (w6.alloc (.cells (d.map u8v).toArray 24)) := (Below.refl _ _).alloc (Nat.le_refl _) _
      generalize w6.alloc (.cells (d.map u8v).toArray 24) = w7 at hDB ha6 ⊢
      have HR7 := Lib.hid (HR6.out.below ha6)
      have HH7 := Lib.hid (HH6.out.below ha6 (Nat.le_refl _))
      have HB7 := Lib.hid (HB6.out.trans (ha6.mono HB6.out.size))
      have HD7 := Lib.hid hDB
      have hne7 : w6.heap.size ≠ sb := by omega
      clear hDB ha6 HR6 HH6 HB6 hsz
      refine wpList_nil ?_
      rename_i K2 hK2
      show K2 _ _
      refine hK2 _ _ ?_
      go_wp2_with fail
      refine (write_had w7 sb l none 0 0 [] rfl HH7.out (Reads.none_ _) (fun h => by omega) (by omega)).mono ?_
      rintro e w8 ⟨rfl, hh8, ho8⟩
      rw [List.append_nil] at hh8
      have HR8 := Lib.hid (HR7.out.only ho8 (by intro a ha; simp; exact hne a ha))
      have HB8 := Lib.hid (ho8.below HB7.out HB7.out.size (by intro j hj; simp at hj; omega))
      have HD8 := Lib.hid (HD7.out.only ho8 (by simp; exact hne7))
      have HHc := Lib.hid (hh8.below (w' := w8.drew) (B := w8.heap.size) (Below.refl _ _).drew (Nat.le_refl _))
      have HRc := Lib.hid (HR8.out.drew)
      have HLc := Lib.hid (HB8.out.drew)
      have HDc := Lib.hid (HD8.out.drew)
      have he := fun W => eql32 d d hdl hdl W
      rw [show (d == d) = true by simp] at he
      have hu := Try.underlying24
      have hi : (Try.prog.info? 24).map (·.size) = some (d.map u8v).length := by rw [List.length_map, hdl]; exact info_b32
      have hv := run_sld hdl HDc.out
      have hone : ∀ v ∈ d.map u8v, v.oneCell' = true := u8v_one d
      have hmod64 := absorb_mod St.first l
      rw [hl] at hmod64
      have hsl := saved_len (absorb St.first l).1 (UInt64.ofNat l.length) (absorb St.first l).2
      rw [hmod64] at hsl
      have hsave := fun (W : World) (hW : Had W sb l) => save_had W sb l hW
      generalize saved (absorb St.first l).1 (UInt64.ofNat l.length) (absorb St.first l).2 = sv at hsl hsave
      have HSV := Lib.hid hsave
      clear hsave
      have hq : ((40 + (k : Int) % 64) == IntKind.i64.wrap (40 + (k : Int).tmod 64)) = true := by
        rw [Int.tmod_eq_emod_of_nonneg (by omega), IntWalk.i64_in _ (by omega), beq_iff_eq]
      have HQ := Lib.hid hq
      clear hq
      clear hh8 ho8 HR7 HB7 HH7 HD7 HR8 HB8 HD8 hmod64
      have hv := run_sld hdl HDc.out
      go_upto_region 17 with fail
      go_region_law (first
        | (go_simp; go_at_call 14; refine (rsha_d _ A k k l hl HRc.out (by omega)).mono ?_; rintro e w9 ⟨rfl, hb9⟩; (rw [HD.out]); have HHc := Lib.hid (HHc.out.below hb9 (Nat.le_refl _)); have HRc := Lib.hid (HRc.out.below hb9); have HLc := Lib.hid (HLc.out.trans (hb9.mono HLc.out.size)); have HDc := Lib.hid (HDc.out.below hb9 HDc.out.lt); have hv := run_sld hdl HDc.out; clear hb9)
        | (go_simp; go_at_call 17; refine (sum_had _ sb l HHc.out).mono ?_; rintro e w9 ⟨rfl, hb9⟩; (rw [HD.out]); have HHc := Lib.hid (HHc.out.below hb9 (Nat.le_refl _)); have HRc := Lib.hid (HRc.out.below hb9); have HLc := Lib.hid (HLc.out.trans (hb9.mono HLc.out.size)); have HDc := Lib.hid (HDc.out.below hb9 HDc.out.lt); have hv := run_sld hdl HDc.out; clear hb9)
        | (go_simp; go_at_call 18; refine (HSV.out _ HHc.out).mono ?_; rintro e w9 ⟨A9, c9, rfl, hown9, hb9⟩; (rw [hsl] at hown9 ⊢); have HLc := Lib.hid (HLc.out.trans (hb9.mono HLc.out.size)); have HDc := Lib.hid (HDc.out.below hb9 HDc.out.lt); clear hb9 hown9))
      all_goals (go_wp2_with fail; go_ret; exact ⟨congrArg (fun b => Ending.returned (Value.bool b)) HQ.out, HLc.out⟩)
theorem shaBlocks_c (w : World) (n x y : Int) (hy : 0 ≤ y ∧ y ≤ 255) (hx : x ≤ 9223372036854775807) :
    Calls Try.prog 5 #[.int .i64 n, .int .i64 x, .int .u8 y] w fun e w' => e = .returned (.bool true) ∧ Below w.heap.size w w' := by
  have h : y = ((UInt8.ofNat y.toNat).toNat : Int) := by rw [UInt8.toNat_ofNat']; omega
  rw [h]
  by_cases hg : n < 0 ∨ 200 < n ∨ x < 0
  · exact shaBlocks_off w n x (UInt8.ofNat y.toNat) hg
  · obtain ⟨k, rfl⟩ : ∃ k : Nat, n = (k : Int) := ⟨n.toNat, by omega⟩
    obtain ⟨j, rfl⟩ : ∃ j : Nat, x = (j : Int) := ⟨x.toNat, by omega⟩
    exact shaBlocks_on w k j (UInt8.ofNat y.toNat) (by omega) (by omega)
end Go.Proofs.Ytgadnliogceecaa
