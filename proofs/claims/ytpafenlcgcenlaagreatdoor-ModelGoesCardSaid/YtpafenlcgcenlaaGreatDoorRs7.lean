/- The reference's Sha. -/
import Derived.Test.YtpafenlcgcenlaaGreatDoorRsA
namespace Go.Proofs.YtpafenlcgcenlaaGreatDoor
open Go Go.RowKit
set_option linter.unusedVariables false
set_option linter.unusedSimpArgs false
set_option maxRecDepth 100000 in
theorem rsha_c (w : World) (B : Option Addr) (c : Nat) (b : List UInt8) (r : Reads w B b.length (b.map u8v)) (hb : b.length ≤ 274877906944) :
    Calls Tryz.prog 28 #[.slice B b.length c] w fun e w' => e = .returned (.agg ((sha b).map u8v).toArray) ∧ Below w.heap.size w w' := by
  have R := Lib.hid r
  clear r
  go_enter Tryz.func28, Tryz.ntmps28
  go_wp2_with fail
  have hZ : Blk (w.alloc (.cells zero32 39)) w.heap.size 39 zero32 := Blk.new w _ _
  have hb1 : Below w.heap.size w (w.alloc (.cells zero32 39)) := (Below.refl _ _).alloc (Nat.le_refl _) _
  have hs1 : (w.alloc (.cells zero32 39)).heap.size = w.heap.size + 1 := by simp
  generalize w.alloc (.cells zero32 39) = w1 at hZ hb1 hs1 ⊢
  refine (rsnew_c w1).mono ?_
  rintro e w2 ⟨sb, rfl, hst, hsb, hb2⟩
  have hs2 := hb2.size
  have HZ2 := Lib.hid (hZ.below hb2 (by omega))
  have HB2 := Lib.hid (hb1.trans (hb2.mono (by omega)))
  have HR2 := Lib.hid (R.out.below (hb1.trans (hb2.mono (by omega))))
  have HST := Lib.hid hst
  clear hZ hb1 hb2 hst
  go_wp2_with fail
  refine (rwrite_c w2 sb St.first 0 [] B c b HST.out HR2.out (fun h0 a ha => by have := R.out.lt h0 a ha; omega) (by simp) hb).mono ?_
  rintro e w3 ⟨rfl, hst3, ho3⟩
  have hz3 := HZ2.out.only ho3 (by simp; omega)
  have hb3 := ho3.below HB2.out (by omega) (fun k hk => by simp at hk; omega)
  have hlen := absorb_rest St.first b
  have hst4 : RStreamAt w3 sb (absorb St.first b).1 (UInt64.ofNat b.length) (absorb St.first b).2 := by
    have := hst3
    rw [List.nil_append, UInt64.zero_add] at this
    exact this
  have HZ3 := Lib.hid hz3
  have HB3 := Lib.hid hb3
  have HST4 := Lib.hid hst4
  clear hz3 hb3 hst4 hst3 ho3 HZ2 HB2 HST HR2 R
  go_wp2_with fail
  refine (rsum_c w3 sb _ _ _ HST4.out (by omega)).mono ?_
  rintro e w4 ⟨rfl, hb4⟩
  have hs3 := HB3.out.size
  have hz4 := HZ3.out.below hb4 HZ3.out.lt
  have hb5 := HB3.out.trans (hb4.mono hs3)
  have HZ4 := Lib.hid hz4
  have HB4 := Lib.hid hb5
  clear hz4 hb5 hb4 HZ3 HB3 HST4
  change Hid _ at HZ4
  obtain ⟨d, hd⟩ : ∃ d, digest (absorb St.first b).1 (UInt64.ofNat b.length) (absorb St.first b).2 = d := ⟨_, rfl⟩
  have hdl : d.length = 32 := by rw [← hd]; exact told_len _
  have hsd : sha b = d := hd
  rw [hd]
  have HSD := Lib.hid hsd
  clear hd hsd
  rename_i K hK
  refine hK _ _ ?_
  have hcs : ((d.map u8v).toArray).size = 32 := by simp [hdl]
  refine wpList_store_row rfl 39 (.tmp 2) (.tmp 9) rfl w.heap.size (d.map u8v).toArray rfl rfl 39 zero32 HZ4.out (by rw [hcs]; exact info_b32) (by rw [hcs]; rfl) (bytes_one d) ?_
  refine wpList_nil ?_
  rename_i K2 hK2
  show K2 _ _
  refine hK2 _ _ ?_
  go_wp2_with fail
  refine bodyPost_ret (results_cell_row rfl _ _ w.heap.size 39 (d.map u8v).toArray (0, 0) _ rfl (HZ4.out.setRow _) Tryz.underlying39 rfl (by rw [hcs]; exact info_b32)) rfl ?_
  exact ⟨by rw [HSD.out], below_setRow HB4.out (Nat.le_refl _) _⟩
theorem rsha_d (w : World) (B : Option Addr) (n c : Nat) (b : List UInt8) (hn : b.length = n) (r : Reads w B n (b.map u8v)) (hb : n ≤ 274877906944) :
    Calls Tryz.prog 28 #[.slice B n c] w fun e w' => e = .returned (.agg ((sha b).map u8v).toArray) ∧ Below w.heap.size w w' := by
  subst hn
  exact rsha_c w B c b r hb
end Go.Proofs.YtpafenlcgcenlaaGreatDoor
