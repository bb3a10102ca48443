/- area.Digest: the hash of all sectors' bytes, and of how often each was erased. -/
import Derived.Test.YtlchlcjahndjgaaAreaE
import Derived.Test.YtlchlcjahndjgaaShaC
import Derived.Deep.RegionHeld3
namespace Go.Proofs.Ytlchlcjahndjgaa
open Go Go.RowKit
set_option linter.unusedVariables false
set_option linter.unusedSimpArgs false
namespace Ar
def digS (R : Ar) (F : Fl) : Nat → List UInt8
  | 0 => []
  | k + 1 => R.digS F k ++ R.read F k 0 320
def digW (R : Ar) (F : Fl) : Nat → List UInt8
  | 0 => []
  | k + 1 => R.digW F k ++ bytes4 (UInt32.ofNat (F.wearAt ((R.from_ : Int) + k)).toNat)
def dig (R : Ar) (F : Fl) : List UInt8 := sha (R.digS F R.len ++ R.digW F R.len)
end Ar
theorem Fl.read_len (F : Fl) (x : Int) : (F.read x 320).length ≤ 320 := by
  unfold Fl.read
  split
  · rw [List.length_take]; exact Nat.le_trans (Nat.min_le_left _ _) (by omega)
  · simp
theorem Ar.sec_len (R : Ar) (F : Fl) (s a : Int) : (R.read F s a 320).length ≤ 320 := by
  unfold Ar.read
  split
  · exact Fl.read_len _ _
  · simp
theorem u32_wear (v : Int) (h : 0 ≤ v) : IntKind.u32.wrap v = ((UInt32.ofNat v.toNat).toNat : Int) := by
  rw [UInt32.toNat_ofNat']
  simp [IntKind.wrap, IntKind.bits, IntKind.signed]
  omega
def GotHash (w : World) (l : List UInt8) (e : Ending) (w' : World) : Prop := e = .returned (.agg ((sha l).map u8v).toArray) ∧ Below w.heap.size w w'
section
variable {ab fb bb wb : Nat} {R : Ar} {F : Fl}
set_option maxRecDepth 100000 in
set_option maxHeartbeats 1000000 in
theorem adigest_c (w : World) (hF : FlashAt w fb bb wb F) (h : AreaAt w ab fb R F.wear.length) :
    Calls Try.prog 37 #[ptr ab] w (GotHash w (R.digS F R.len ++ R.digW F R.len)) := by
  have H := Lib.hid h
  have HF := Lib.hid hF
  have hfit := h.ok.fit
  have hmost := h.most
  clear h hF
  go_enter Try.func37, Try.ntmps37
  go_wp2_with fail
  have hZ : Blk (w.alloc (.cells zero32 32)) w.heap.size 32 zero32 := Blk.new w _ _
  have hb1 : Below w.heap.size w (w.alloc (.cells zero32 32)) := (Below.refl _ _).alloc (Nat.le_refl _) _
  have hs1 : (w.alloc (.cells zero32 32)).heap.size = w.heap.size + 1 := by simp
  generalize w.alloc (.cells zero32 32) = w1 at hZ hb1 hs1 ⊢
  refine (new_had w1).mono ?_
  rintro e w2 ⟨sb, rfl, hh, hsb, hb2⟩
  have hs2 := hb2.size
  have HZ2 := Lib.hid (hZ.below hb2 (by omega))
  have HB2 := Lib.hid (hb1.trans (hb2.mono (by omega)))
  have HH2 := Lib.hid hh
  clear hZ hb1 hb2 hh
  go_wp2_with (go_at_call 75; refine (alen_c _ (H.out.below HB2.out)).mono ?_; rintro e w' ⟨rfl, rfl⟩)
  go_loopw [9] (fun i wr => ∃ k : Nat, k ≤ R.len ∧ i = .int .i64 k ∧ Had wr sb (R.digS F k) ∧ Below w.heap.size w wr ∧ Blk wr w.heap.size 32 zero32) (fun i _ => R.len - (intOf i).toNat)
  case atStart => exact ⟨0, Nat.zero_le _, rfl, HH2.out, HB2.out, HZ2.out⟩
  case round =>
    clear HH2 HB2 HZ2
    obtain ⟨k, hk, rfl, hh, hb, hz⟩ := hrel
    have HH := Lib.hid hh
    have HB := Lib.hid hb
    have HZ := Lib.hid hz
    have hbs := hb.size
    have hsl := StreamAt.lt hh
    clear hh hb hz
    by_cases hlt : k < R.len
    · have hsec := Ar.sec_len R F k 0
      have hst : R.digS F (k + 1) = R.digS F k ++ R.read F k 0 320 := rfl
      have hard := fun W h1 h2 => aread_c (ab := ab) (fb := fb) (bb := bb) (wb := wb) (R := R) (F := F) W (k : Int) 0 320 (by omega) h1 h2
      obtain ⟨X, hX⟩ : ∃ X, R.read F k 0 320 = X := ⟨_, rfl⟩
      rw [hX] at hsec hst hard
      have HST := Lib.hid hst
      clear hst hX
      go_wp2_with fail
      refine (hard _ (HF.out.below HB.out) (H.out.below HB.out)).mono ?_
      rintro e w3 ⟨A3, c3, rfl, ho3, hb3⟩
      have HH3 := Lib.hid (HH.out.below hb3 (Nat.le_refl _))
      have HB3 := Lib.hid (HB.out.trans (hb3.mono hbs))
      have HZ3 := Lib.hid (HZ.out.below hb3 HZ.out.lt)
      have hs3 := hb3.size
      have hl3 := ho3.lt
      have HR3 := Lib.hid (Reads.of_own ho3)
      clear ho3 hb3
      go_wp2_with fail
      refine (write_had w3 sb _ A3 X.length c3 X rfl HH3.out HR3.out (fun _ a ha => by subst ha; have := (hl3 a.block rfl).1; omega) (by omega)).mono ?_
      rintro e w4 ⟨rfl, hh4, ho4⟩
      rw [← HST.out] at hh4
      have hb4 := ho4.below HB3.out (by omega) (fun k hk => by simp at hk; omega)
      have hz4 := HZ3.out.only ho4 (by simp; omega)
      have HH4 := Lib.hid hh4
      have HB4 := Lib.hid hb4
      have HZ4 := Lib.hid hz4
      clear hh4 hb4 hz4 ho4
      go_wp2_with fail
      go_roundw
      case rel => exact ⟨k + 1, by omega, by go_num, HH4.out, HB4.out, HZ4.out⟩
      case measure => simp [intOf]; omega
    · obtain rfl : k = R.len := by omega
      clear hlt hk
      go_wp2_with (go_at_call 75; refine (alen_c _ (H.out.below HB.out)).mono ?_; rintro e w' ⟨rfl, rfl⟩)
      go_loopw [20] (fun i wr => ∃ k : Nat, k ≤ R.len ∧ i = .int .i64 k ∧ Had wr sb (R.digS F R.len ++ R.digW F k) ∧ Below w.heap.size w wr ∧ Blk wr w.heap.size 32 zero32) (fun i _ => R.len - (intOf i).toNat)
      case atStart => exact ⟨0, Nat.zero_le _, rfl, by simpa [Ar.digW] using HH.out, HB.out, HZ.out⟩
      case round =>
        clear HH HB HZ hsl hbs
        obtain ⟨k, hk, rfl, hh, hb, hz⟩ := hrel
        have hsl := StreamAt.lt hh
        have hbs := hb.size
        by_cases hlt : k < R.len
        · have hst : R.digW F (k + 1) = R.digW F k ++ bytes4 (UInt32.ofNat (F.wearAt ((R.from_ : Int) + k)).toNat) := rfl
          have hwb := Fl.wearAt_b HF.out.ok ((R.from_ : Int) + k)
          obtain ⟨V, hV⟩ : ∃ V, F.wearAt ((R.from_ : Int) + k) = V := ⟨_, rfl⟩
          rw [hV] at hwb
          have hu := u32_wear V hwb.1
          obtain ⟨u, hu2⟩ : ∃ u, UInt32.ofNat V.toNat = u := ⟨_, rfl⟩
          rw [hu2] at hu
          have hwr : ∀ W, FlashAt W fb bb wb F → Calls Try.prog 88 #[ptr fb, .int .i64 ((R.from_ : Int) + k)] W fun e w' => e = .returned (.int .i64 V) ∧ W = w' := fun W h => hV ▸ wear_c W _ h
          have hby : ∀ W, Calls Try.prog 87 #[.int .u32 (IntKind.u32.wrap V)] W fun e w' => e = .returned (.slice (some ⟨W.heap.size, 0, none⟩) 4 4) ∧ Blk w' W.heap.size 5 ((bytes4 u).map u8v).toArray ∧ Below W.heap.size W w' := fun W => by rw [hu]; exact bytes_c u W
          rw [hV, hu2] at hst
          have HST := Lib.hid hst
          have HWR := Lib.hid hwr
          have HBY := Lib.hid hby
          have a0 := (H.out.below (hb.drew)).a0
          have a1 := (H.out.below (hb.drew)).a1
          have HS := Lib.hid (And.intro a0 a1)
          have HHc := Lib.hid (hh.below ((Below.refl wr.heap.size wr).drew) (Nat.le_refl _))
          have HBc := Lib.hid hb.drew
          have HZc := Lib.hid (hz.below ((Below.refl wr.heap.size wr).drew) hz.lt)
          have e1 : IntKind.i64.wrap ((R.from_ : Int) + k) = (R.from_ : Int) + k := IntWalk.i64_in _ (by omega)
          clear hst hV hu hu2 hwr hby a0 a1 hh hb hz hwb
          go_upto_region 10 with fail
          go_region_held3 (fun w' => w'.cell? ⟨ab, 0, none⟩ = some (ptr fb) ∧ w'.cell? ⟨ab, 1, none⟩ = some (.int .i64 R.from_)) (exact HS.out) (first
            | (go_simp; go_at_call 88; refine (HWR.out _ (HF.out.below HBc.out)).mono ?_; rintro e w' ⟨rfl, rfl⟩)
            | (go_simp; go_at_call 87; refine (HBY.out _).mono ?_; rintro e w5 ⟨rfl, hB5, hb5⟩; have HX := Lib.hid (hB5.bytes (n := 4) rfl); have hg5 := HBc.out.size; have HHc := Lib.hid (HHc.out.below hb5 (Nat.le_refl _)); have HZc := Lib.hid (HZc.out.below hb5 HZc.out.lt); have HBc := Lib.hid (HBc.out.trans (hb5.mono hg5)); have HS := Lib.hid (And.intro (H.out.below HBc.out).a0 (H.out.below HBc.out).a1); clear hB5 hb5)
            | (go_simp; go_at_call 10; refine (write_had _ sb _ _ 4 4 (bytes4 u) rfl HHc.out HX.out (fun _ a ha => by cases ha; simp; omega) (by omega)).mono ?_; rintro e w6 ⟨rfl, hh6, ho6⟩; have hg6 := HBc.out.size; have HZ6 := Lib.hid (HZc.out.only ho6 (by simp; omega)); have HB6 := Lib.hid (ho6.below HBc.out (by omega) (fun k hk => by simp at hk; omega)); have HH6 := Lib.hid hh6; have HS := Lib.hid (And.intro (H.out.below HB6.out).a0 (H.out.below HB6.out).a1); clear hh6 ho6))
          go_wp2_with fail
          go_roundw
          case rel => exact ⟨k + 1, by omega, by go_num, by rw [HST.out, ← List.append_assoc]; exact HH6.out, HB6.out, HZ6.out⟩
          case measure => simp [intOf]; omega
        · obtain rfl : k = R.len := by omega
          have HB := Lib.hid hb
          have HZ := Lib.hid hz
          have HH := Lib.hid hh
          clear hh hb hz
          go_wp2_with fail
          refine (sum_had _ sb _ HH.out).mono ?_
          rintro e w7 ⟨rfl, hb7⟩
          obtain ⟨t, ht⟩ : ∃ t, sha (R.digS F R.len ++ R.digW F R.len) = t := ⟨_, rfl⟩
          have htl : t.length = 32 := by rw [← ht]; exact sha_len _
          rw [ht]
          have HT := Lib.hid ht
          have hz7 := HZ.out.below hb7 HZ.out.lt
          have hb77 := HB.out.trans (hb7.mono HB.out.size)
          have HZ7 := Lib.hid hz7
          have HB7 := Lib.hid hb77
          have hcs : ((t.map u8v).toArray).size = 32 := by simp [htl]
          clear ht hz7 hb77 hb7
          rename_i K hK
          refine hK _ _ ?_
          refine wpList_store_row rfl 32 (.tmp 2) (.tmp 40) rfl w.heap.size (t.map u8v).toArray rfl rfl 32 zero32 HZ7.out (by rw [hcs]; exact info_b32) (by rw [hcs]; rfl) (bytes_one t) ?_
          refine wpList_nil ?_
          rename_i K2 hK2
          show K2 _ _
          refine hK2 _ _ ?_
          go_wp2_with fail
          refine bodyPost_ret (results_cell_row rfl _ _ w.heap.size 32 (t.map u8v).toArray (0, 0) _ rfl (HZ7.out.setRow _) Try.underlying32 rfl (by rw [hcs]; exact info_b32)) rfl ?_
          exact ⟨by rw [HT.out], below_setRow HB7.out (Nat.le_refl _) _⟩
end
end Go.Proofs.Ytlchlcjahndjgaa
