/- waterlinelaw6.NorCuts: the walk where it is an erase that is cut. -/
import Derived.Test.YtaanefgkmjdknaaL6h
namespace Go.Proofs.Ytaanefgkmjdknaa
open Go.RowKit
set_option linter.unusedVariables false
set_option linter.unusedSimpArgs false

set_option maxRecDepth 100000 in
set_option maxHeartbeats 2000000 in
theorem norCuts_true (A0 A1 A2 : Option Addr) (c0 c1 c2 : Nat) (old b mask : List UInt8) (w : World) (r0 : Reads w A0 old.length (old.map u8v)) (r1 : Reads w A1 b.length (b.map u8v)) (r2 : Reads w A2 mask.length (mask.map u8v))
    (h1 : 1 ≤ b.length) (h2 : b.length ≤ 320) (h3 : b.length ≤ old.length) (h4 : mask.length ≤ 40) (h5 : old.length ≤ 320) :
    Calls Try.prog 3 #[.slice A0 old.length c0, .slice A1 b.length c1, .slice A2 mask.length c2, .bool true] w fun e w' => e = .returned (.bool true) ∧ Below w.heap.size w w' := by
  obtain ⟨F1, F2, F3, F4, F5, G, E3, hf⟩ := cut_factsE old b mask h1 h2 h3 h4
  have HF := Lib.hid hf
  have R0 := Lib.hid r0
  have R1 := Lib.hid r1
  have R2 := Lib.hid r2
  have hmk := fun W => make_bytes b.length (by omega) W
  clear hf r0 r1 r2
  obtain ⟨i0, hi, hz0, hz1, hz2⟩ := info_parts info_u8
  have HI := Lib.hid hi
  have HZ0 := Lib.hid hz0
  have HZ1 := Lib.hid hz1
  have HZ2 := Lib.hid hz2
  clear hi hz0 hz1 hz2
  go_enter Try.func3, Try.ntmps3
  go_wp2_with (first
    | (go_at_call 10; refine (alive6_c _).mono ?_; rintro e w1 ⟨rfl, hb1⟩)
    | (go_at_call 11; refine (new_h 1 (by omega) hb1).mono ?_; rintro e w2 ⟨fb, bb, wb, rfl, h, -, -, -⟩))
  have H := Lib.hid h
  clear h hb1
  go_loopw [11, 12] (fun v i wr => ∃ (k : Nat) (A' : Option Addr) (c' : Nat), k ≤ b.length ∧ v = .slice A' k c' ∧ i = .int .i64 k ∧ wr.ownsRow w2.heap.size 5 1 (.slice A' k c') k ((old.take k).map u8v) ∧ Below w2.heap.size w2 wr) (fun _ i _ => b.length - (intOf i).toNat)
  case atStart => exact ⟨0, none, 0, Nat.zero_le _, rfl, rfl, World.ownsRow_nil _ _ _ _, Below.refl _ _⟩
  case round =>
    obtain ⟨k, A', c', hk, rfl, rfl, hown, hbel⟩ := hrel
    have HO := Lib.hid hown
    have HB := Lib.hid hbel
    clear hown hbel
    by_cases hlt : k < b.length
    · obtain ⟨g, o, hA, hg, hcell⟩ := bytes_at (R0.out.below (H.out.later HB.out).below) (show k < old.length by omega)
      generalize hx : old[k] = x at hcell
      have HX := Lib.hid hx
      clear hx
      subst hA
      go_wp2_with (at_builtin; refine wpList_append_any _ rfl (.tmp 60) (.tmp 65) _ rfl w2.heap.size 5 i0 (.int .u8 0) 1 Try.underlying22 HI.out HZ0.out HZ1.out HZ2.out rfl _ k ((old.take k).map u8v) rfl (own_only HO.out ((Only.refl [] wr).alloc _) (by simp)) (some ⟨wr.heap.size, 0, none⟩) 1 1 [u8v x] rfl (byte_row wr x) (u8v_one [x]) (by unfold maxLen; omega) (by omega) (by have := HB.out.size; simp; omega) ?_; intro A2' c2' w2' hown2 hgrow hat; have HO2 := Lib.hid hown2; have HG2 := Lib.hid hgrow; clear hown2 hgrow hat)
      go_roundw
      case rel =>
        have hl1 := (HO.out).lt
        have hs := HB.out.size
        refine ⟨k + 1, A2', c2', by omega, rfl, by go_num, ?_, ?_⟩
        · rw [← take_next old k (by omega), HX.out]; exact HO2.out
        · exact (HB.out.alloc hs _).grown HG2.out (by simp; omega) (fun g hg => (hl1 g hg).1)
      case measure => simp [intOf]; omega
    · obtain rfl : k = b.length := by omega
      go_wp2_with fail
      have hnl := cutNow_len old b h3
      have hlen2 := H.out.flash.lt
      have hap' : Apart [fb, bb, wb] A' := own_apart HO.out (by intro k hk; simp at hk; omega)
      refine (program_ho 0 A' _ c' (cutNow old b) _ _ HF.out.e1 HF.out.p1 (Reads.of_own HO.out) hap' (by omega) (H.out.later HB.out)).mono ?_
      rintro e w3 ⟨rfl, h3', ho3⟩
      have hrn : Reads w3 A' b.length ((cutNow old b).map u8v) := (Reads.of_own HO.out).only ho3 hap'
      have HN := Lib.hid hrn
      have H3 := Lib.hid h3'
      clear h3' ho3 hrn
      have hxl := cutNext_len old b true
      go_wp2_with fail
      go_loopw [14] (fun i wr => ∃ k : Nat, k ≤ b.length ∧ i = .int .i64 k ∧ Blk wr w3.heap.size 5 ((midRow (cutNext old b true) k).map u8v).toArray ∧ Below w3.heap.size w3 wr) (fun i _ => b.length - (intOf i).toNat)
      case atStart =>
        refine ⟨0, Nat.zero_le _, rfl, ?_, (Below.refl _ _).alloc (Nat.le_refl _) _⟩
        rw [midRow_zero, hxl, List.map_replicate]
        exact Blk.new w3 _ _
      case round =>
        obtain ⟨k, hk, rfl, hblk, hbel⟩ := hrel
        have HK := Lib.hid hblk
        have HL := Lib.hid hbel
        clear hblk hbel
        by_cases hlt : k < b.length
        · obtain ⟨g0, o0, hA0, hg0, hcell0⟩ := bytes_at (R0.out.below (H3.out.later HL.out).below) (show k < old.length by omega)
          obtain ⟨g1, o1, hA1, hg1, hcell1⟩ := bytes_at (R1.out.below (H3.out.later HL.out).below) hlt
          have hc := midRow_cell HK.out (by omega)
          have hfz := HK.out.frozen k
          have hxk := cutNext_at old b true h3 k hlt
          generalize old[k] = x at hcell0 hxk
          generalize b[k] = y at hcell1 hxk
          have hand := (u8_and_nat y.toNat x.toNat y.toNat_lt x.toNat_lt).trans (by rw [← UInt8.toNat_and])
          have HXK := Lib.hid hxk
          clear hxk
          subst hA0 hA1
          go_upto_region 15 with fail
          refine wp_region_quiet_tail 12 (by kernel_rfl) (by kernel_rfl) ?_
          simp only [List.take_succ_cons, List.take_zero, List.drop_succ_cons, List.drop_zero]
          repeat (go_big_quiet_step (fail))
          refine wpQuiet_nil ?_
          intro nq
          go_wp2
          go_roundw
          case rel =>
            refine ⟨k + 1, by omega, by go_num, ?_, ?_⟩
            · exact midRow_next2 (x := 255) (y := y &&& x) (HK.out.drewN nq) (by omega) (HXK.out.trans rfl)
            · exact ((below_drewN HL.out nq).setCell (by simp) _).setCell (by simp) _
          case measure => simp [intOf]; omega
        · obtain rfl : k = b.length := by omega
          have hbx : Blk wr w3.heap.size 5 ((cutNext old b true).map u8v).toArray := by
            have := HK.out
            rw [← hxl, midRow_full] at this
            exact this
          have hrx := Reads.of_blk hbx
          rw [hxl] at hrx
          have hrn := HN.out.below HL.out
          have h4' := H3.out.later HL.out
          have hlen3 := H3.out.flash.lt
          have hapx : Apart [fb, bb, wb] (some ⟨w3.heap.size, 0, none⟩) := H3.out.apart
          have ho4 := Only.refl [fb, bb, wb] wr
          generalize hw4 : wr = w4 at *
          clear hbx HK HL hw4 H3 HN HO HB
          go_wp2_with fail
          refine (cut_ho 0 (by omega) A2 _ c2 mask (by omega) _ HF.out.c2 (R2.out.below h4'.below) h4').mono ?_
          rintro e w5 ⟨rfl, h5', ho⟩
          have ho5 := ho4.trans ho
          clear ho
          go_wp2_with fail
          refine (program_ho 0 (some ⟨w3.heap.size, 0, none⟩) _ _ (cutNext old b true) _ _ HF.out.e3 HF.out.p3 (hrx.only ho5 hapx) hapx (by omega) h5').mono ?_
          rintro e w6 ⟨rfl, h6', ho⟩
          have ho6 := ho5.trans ho
          clear ho h5'
          go_wp2_with fail
          refine (power_ho _ HF.out.p4 h6').mono ?_
          rintro e w7 ⟨rfl, h7', ho⟩
          have ho7 := ho6.trans ho
          clear ho h6'
          go_wp2_with fail
          refine (cut_ho 0 (by omega) A2 _ c2 mask (by omega) _ HF.out.c5 (R2.out.below h7'.below) h7').mono ?_
          rintro e w8 ⟨rfl, h8', ho⟩
          have ho8 := ho7.trans ho
          clear ho h7'
          go_wp2_with fail
          refine (erase_ho 0 _ _ HF.out.e6 HF.out.p6 HF.out.m6 h8').mono ?_
          rintro e w9 ⟨rfl, h9', ho⟩
          have ho9 := ho8.trans ho
          clear ho h8'
          go_wp2_with fail
          refine (erase_ho 0 _ _ HF.out.ends.ge HF.out.ends.g HF.out.ends.m h9').mono ?_
          rintro e w10 ⟨rfl, h10', ho⟩
          have ho10 := ho9.trans ho
          clear ho h9'
          go_wp2_with fail
          refine (program_ho 0 none 0 0 [] _ _ HF.out.ends.he HF.out.ends.h (Reads.none_ _) (by intro a ha; cases ha) (by omega) h10').mono ?_
          rintro e w11 ⟨rfl, h11', ho⟩
          have ho11 := ho10.trans ho
          clear ho h10'
          have hwl := cutWant_len old b mask true
          have hrd := HF.out.ends.read
          rw [hwl] at hrd
          have HRD := Lib.hid hrd
          clear hrd
          go_wp2_with fail
          refine (read_h 0 b.length (by omega) _ HRD.out h11').mono ?_
          rintro e w12 ⟨AG, cG, rfl, hownG, h12', hblG⟩
          have hrG := Reads.of_own hownG
          have hrn' := (hrn.only ho11 hap').below hblG
          have hrx' := (hrx.only ho11 hapx).below hblG
          have hr2' := R2.out.below h12'.below
          have hoff := HF.out.ends.off
          have HGo := Lib.hid hrG
          have HN2 := Lib.hid hrn'
          have HX2 := Lib.hid hrx'
          have HM2 := Lib.hid hr2'
          have HE := Lib.hid h12'
          clear hrG hrn' hrx' hr2' hownG h11' h12' ho11 hrn hrx hblG h4' ho4
          generalize hWn : cutWant old b mask true = want at *
          have hnxl : want.length = b.length := by rw [← hWn]; exact cutWant_len old b mask true
          have hcut : ∀ k (hk : k < b.length), want[k]'(by rw [hnxl]; exact hk) = mixB ((cutNow old b)[k]'(by rw [hnl]; exact hk)) ((cutNext old b true)[k]'(by rw [hxl]; exact hk)) (keepM mask k) := by
            intro k hk
            have := cut_at old b mask true h3 k hk
            simp only [hWn] at this
            exact this
          have HC := Lib.hid hcut
          clear hcut hwl
          go_wp2_with (first
            | (go_at_call 18; refine (num6_c _ _).mono ?_; rintro e w' ⟨rfl, rfl⟩)
            | (go_at_call 17; refine (off_c _ HE.out.flash).mono ?_; rintro e w' ⟨rfl, rfl⟩))
          clear hoff
          go_loopw [19] (fun i wr => ∃ k : Nat, k ≤ b.length ∧ i = .int .i64 k ∧ Below w12.heap.size w12 wr) (fun i _ => b.length - (intOf i).toNat)
          case atStart => exact ⟨0, Nat.zero_le _, rfl, Below.refl _ _⟩
          case round =>
            obtain ⟨k, hk, rfl, hbz⟩ := hrel
            have HBZ := Lib.hid hbz
            clear hbz
            by_cases hlt : k < b.length
            · obtain ⟨gA, oA, hAA, hgA, hcA⟩ := bytes_at (HGo.out.below HBZ.out) (show k < want.length by omega)
              obtain ⟨gB, oB, hAB, hgB, hcB⟩ := bytes_at (HN2.out.below HBZ.out) (show k < (cutNow old b).length by omega)
              obtain ⟨gC, oC, hAC, hgC, hcC⟩ := bytes_at (HX2.out.below HBZ.out) (show k < (cutNext old b true).length by omega)
              have hck := HC.out k hlt
              generalize (cutNow old b)[k] = xn at hcB hck
              generalize (cutNext old b true)[k] = xx at hcC hck
              generalize want[k] = xw at hcA hck
              subst hAA hAB
              injection hAC with hAC
              injection hAC with hAC1 hAC2
              subst hAC1 hAC2
              rw [Nat.zero_add] at hcC
              by_cases hm0 : mask = []
              · have hkm : keepM mask k = 0 := by unfold keepM; rw [if_pos hm0]
                rw [hkm] at hck
                have hbit : bits .or .u8 (bits .and .u8 (xn.toNat : Int) 0) (bits .and .u8 (xx.toNat : Int) (bits .xor .u8 0 255)) = (xw.toNat : Int) := by
                  rw [hck]; exact cut_bits xn xx 0
                have hm1 : mask.length < 1 := by rw [hm0]; exact Nat.zero_lt_one
                have hd1 : decide ((0 : Int) < (mask.length : Int)) = false := by rw [decide_eq_false_iff_not]; omega
                clear hck hkm hm0
                go_wp2_with fail
                go_quiet (fail)
                go_wp2
                go_roundw
                case rel => exact ⟨k + 1, by omega, by go_num, below_drewN HBZ.out nq⟩
                case measure => simp [intOf]; omega
              · have hml : 0 < mask.length := List.length_pos_iff.2 hm0
                have hkm : keepM mask k = mask[k % mask.length]'(Nat.mod_lt _ hml) := by
                  unfold keepM; rw [if_neg hm0, List.getD_eq_getElem?_getD, List.getElem?_eq_getElem (Nat.mod_lt _ hml)]; rfl
                rw [hkm] at hck
                obtain ⟨gM, oM, hAM, hgM, hcM⟩ := bytes_at (HM2.out.below HBZ.out) (show k % mask.length < mask.length from Nat.mod_lt _ hml)
                generalize mask[k % mask.length]'(Nat.mod_lt _ hml) = xm at hcM hck
                have hbit := cut_bits xn xx xm
                rw [← hck] at hbit
                have hq : ((k : Int).tmod (mask.length : Int)) = ((k % mask.length : Nat) : Int) := by
                  rw [Int.tmod_eq_emod_of_nonneg (by omega)]; rfl
                have hqm := Nat.mod_lt k hml
                subst hAM
                clear hck hkm hm0
                go_wp2_with fail
                go_quiet (fail)
                go_wp2
                go_roundw
                case rel => exact ⟨k + 1, by omega, by go_num, below_drewN HBZ.out nq⟩
                case measure => simp [intOf]; omega
            · obtain rfl : k = b.length := by omega
              have hpoff := HF.out.ends.poff
              have HPO := Lib.hid hpoff
              go_wp2_with fail
              refine (power_ho _ rfl (HE.out.later HBZ.out)).mono ?_
              rintro e w' ⟨rfl, hP, -⟩
              clear hpoff
              go_wp2_with (go_at_call 17; refine (off_c _ hP.flash).mono ?_; rintro e w'' ⟨rfl, rfl⟩)
              refine (erase_h 0 _ _ HF.out.ends.pe rfl HF.out.ends.pm hP).mono ?_
              rintro e w'' ⟨rfl, hP2⟩
              go_wp2_with (go_at_call 18; refine (num6_c _ _).mono ?_; rintro e w3' ⟨rfl, rfl⟩)
              go_ret
              exact ⟨rfl, hP2.below⟩

end Go.Proofs.Ytaanefgkmjdknaa
