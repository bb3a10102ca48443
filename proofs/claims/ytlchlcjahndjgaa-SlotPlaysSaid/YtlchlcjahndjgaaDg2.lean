/- The reference's Digest of an area. -/
import Derived.Test.YtlchlcjahndjgaaDg1
import Derived.Test.YtlchlcjahndjgaaRfJ
import Derived.Test.YtlchlcjahndjgaaRsA
namespace Go.Proofs.Ytlchlcjahndjgaa
open Go Go.RowKit
set_option linter.unusedVariables false
set_option linter.unusedSimpArgs false
/-- The reference's stream at block sb has had the bytes l. -/
def RHad (w : World) (sb : Nat) (l : List UInt8) : Prop := RStreamAt w sb (absorb St.first l).1 (UInt64.ofNat l.length) (absorb St.first l).2
theorem RStreamAt.below {w w' : World} {sb B : Nat} {s : St} {n : UInt64} {rest : List UInt8} (h : RStreamAt w sb s n rest) (hb : Below B w w') (hB : w.heap.size ≤ B) : RStreamAt w' sb s n rest := by
  obtain ⟨A, c, h1, h2, h3⟩ := h.obj
  have hb2 := hb.mono hB
  refine ⟨A, c, h1.below hb2 h1.lt, h2.below hb2, fun a ha => ⟨(h3 a ha).1, ?_⟩⟩
  obtain ⟨cs, fr, h⟩ := (h3 a ha).2
  exact ⟨cs, fr, by rw [hb2.block a.block (Array.getElem?_eq_some_iff.1 h).1]; exact h⟩
theorem RStreamAt.lt {w : World} {sb : Nat} {s : St} {n : UInt64} {rest : List UInt8} (h : RStreamAt w sb s n rest) : sb < w.heap.size := by
  obtain ⟨A, c, h1, h2, h3⟩ := h.obj; exact h1.lt
theorem RHad.below {w w' : World} {sb B : Nat} {l : List UInt8} (h : RHad w sb l) (hb : Below B w w') (hB : w.heap.size ≤ B) : RHad w' sb l := RStreamAt.below h hb hB
theorem new_rhad (w : World) : Calls Try.prog 9 #[] w fun e w' => ∃ sb, e = .returned (.pointer (some ⟨sb, 0, none⟩)) ∧ RHad w' sb [] ∧ w.heap.size ≤ sb ∧ Below w.heap.size w w' := by
  refine (rsnew_c w).mono ?_
  rintro e w' ⟨sb, h1, h2, h3, h4⟩
  refine ⟨sb, h1, ?_, h3, h4⟩
  unfold RHad
  rw [absorb_done St.first [] (by simp)]
  exact h2
theorem write_rhad (w : World) (sb : Nat) (l : List UInt8) (B : Option Addr) (n c : Nat) (b : List UInt8) (hbn : b.length = n) (h : RHad w sb l) (r : Reads w B n (b.map u8v)) (hbp : 0 < n → ∀ a, B = some a → a.block ≠ sb) (hb : n ≤ 274877906944) :
    Calls Try.prog 11 #[.pointer (some ⟨sb, 0, none⟩), .slice B n c] w fun e w' => e = .returned (.tuple #[]) ∧ RHad w' sb (l ++ b) ∧ Only [sb] w w' := by
  subst hbn
  have := absorb_rest St.first l
  refine (rwrite_c w sb _ _ _ B c b h r hbp (by omega) hb).mono ?_
  rintro e w' ⟨h1, h2, h3⟩
  refine ⟨h1, ?_, h3⟩
  unfold RHad
  rw [absorb_append, List.length_append, UInt64.ofNat_add]
  exact h2
theorem sum_rhad (w : World) (sb : Nat) (l : List UInt8) (h : RHad w sb l) :
    Calls Try.prog 65 #[.pointer (some ⟨sb, 0, none⟩)] w fun e w' => e = .returned (.agg ((sha l).map u8v).toArray) ∧ Below w.heap.size w w' := by
  have := absorb_rest St.first l
  exact rsum_c w sb _ _ _ h (by omega)
theorem Ar.sec_is2 (R : Ar) (F : Fl) (k : Nat) (h : k < R.len) : R.read F k 0 320 = F.read (((R.from_ : Int) + k) * 320) 320 := by
  have h1 : R.within (k : Int) 0 320 = true := by unfold Ar.within Ar.is; simp; omega
  unfold Ar.read
  rw [if_pos h1, show ((R.from_ : Int) + (k : Int)) * 320 + 0 = ((R.from_ : Int) + (k : Int)) * 320 from by omega]
section
variable {ab fb bb wb : Nat} {R : Ar} {G : RF}
set_option maxRecDepth 100000 in
set_option maxHeartbeats 1000000 in
theorem radigest_c (w : World) (hF : RFAt w fb bb wb G) (h : RAt w ab fb R G.wear.length) :
    Calls Try.prog 53 #[ptr ab] w (GotHash w (R.digS G.fl R.len ++ R.digW G.fl R.len)) := by
  have H := Lib.hid h
  have HF := Lib.hid hF
  have hfit := h.ok.fit
  have hmost := h.most
  clear h hF
  go_enter Try.func53, Try.ntmps53
  go_wp2_with fail
  have hZ : Blk (w.alloc (.cells zero32 32)) w.heap.size 32 zero32 := Blk.new w _ _
  have hb1 : Below w.heap.size w (w.alloc (.cells zero32 32)) := (Below.refl _ _).alloc (Nat.le_refl _) _
  have hs1 : (w.alloc (.cells zero32 32)).heap.size = w.heap.size + 1 := by simp
  generalize w.alloc (.cells zero32 32) = w1 at hZ hb1 hs1 ⊢
  refine (new_rhad w1).mono ?_
  rintro e w2 ⟨sb, rfl, hh, hsb, hb2⟩
  have hs2 := hb2.size
  have HZ2 := Lib.hid (hZ.below hb2 (by omega))
  have HB2 := Lib.hid (hb1.trans (hb2.mono (by omega)))
  have HH2 := Lib.hid hh
  clear hZ hb1 hb2 hh
  go_wp2_with fail
  go_loopw [4] (fun i wr => ∃ k : Nat, k ≤ R.len ∧ i = .int .i64 k ∧ RHad wr sb (R.digS G.fl k) ∧ Below w.heap.size w wr ∧ Blk wr w.heap.size 32 zero32) (fun i _ => R.len - (intOf i).toNat)
  case atStart => exact ⟨0, Nat.zero_le _, rfl, HH2.out, HB2.out, HZ2.out⟩
  case round =>
    clear HH2 HB2 HZ2
    obtain ⟨k, hk, rfl, hh, hb, hz⟩ := hrel
    have hbs := hb.size
    have hsl := RStreamAt.lt hh
    have a2 := (H.out.below hb).a2
    by_cases hlt : k < R.len
    · have hsec := Ar.sec_len R G.fl k 0
      have hst : R.digS G.fl (k + 1) = R.digS G.fl k ++ R.read G.fl k 0 320 := rfl
      have hsi := Ar.sec_is2 R G.fl k hlt
      obtain ⟨X, hX⟩ : ∃ X, R.read G.fl k 0 320 = X := ⟨_, rfl⟩
      rw [hX] at hsec hst hsi
      have hrd : ∀ W, RFAt W fb bb wb G → Calls Try.prog 95 #[ptr fb, .int .i64 (((R.from_ : Int) + k) * 320), .int .i64 320] W (MadeBytes W X) := fun W h => hsi ▸ rread_c W fb bb wb G _ 320 (by omega) h
      have HST := Lib.hid hst
      have HRD := Lib.hid hrd
      have a0 := (H.out.below (hb.drew)).a0
      have a1 := (H.out.below (hb.drew)).a1
      have HS := Lib.hid (And.intro a0 a1)
      have HHc := Lib.hid (hh.below ((Below.refl wr.heap.size wr).drew) (Nat.le_refl _))
      have HBc := Lib.hid hb.drew
      have HZc := Lib.hid (hz.below ((Below.refl wr.heap.size wr).drew) hz.lt)
      have e1 : IntKind.i64.wrap ((R.from_ : Int) + k) = (R.from_ : Int) + k := IntWalk.i64_in _ (by omega)
      have e2 : IntKind.i64.wrap (((R.from_ : Int) + k) * 320) = ((R.from_ : Int) + k) * 320 := IntWalk.i64_in _ (by omega)
      clear hst hX hsi hrd a0 a1 hh hb hz
      go_upto_region 5 with fail
      go_region_held3 (fun w' => w'.cell? ⟨ab, 0, none⟩ = some (ptr fb) ∧ w'.cell? ⟨ab, 1, none⟩ = some (.int .i64 R.from_)) (exact HS.out) (first
        | (go_simp; go_at_call 95; refine (HRD.out _ (HF.out.below HBc.out)).mono ?_; rintro e w5 ⟨A5, c5, rfl, ho5, hb5⟩; have hl5 := ho5.lt; have HX := Lib.hid (Reads.of_own ho5); have hg5 := HBc.out.size; have HHc := Lib.hid (HHc.out.below hb5 (Nat.le_refl _)); have HZc := Lib.hid (HZc.out.below hb5 HZc.out.lt); have HBc := Lib.hid (HBc.out.trans (hb5.mono hg5)); have HS := Lib.hid (And.intro (H.out.below HBc.out).a0 (H.out.below HBc.out).a1); clear ho5 hb5)
        | (go_simp; go_at_call 11; refine (write_rhad _ sb _ A5 X.length c5 X rfl HHc.out HX.out (fun _ a ha => by subst ha; have := (hl5 a.block rfl).1; simp at this; omega) (by omega)).mono ?_; rintro e w6 ⟨rfl, hh6, ho6⟩; have hg6 := HBc.out.size; have HZ6 := Lib.hid (HZc.out.only ho6 (by simp; omega)); have HB6 := Lib.hid (ho6.below HBc.out (by omega) (fun k hk => by simp at hk; omega)); have HH6 := Lib.hid hh6; have HS := Lib.hid (And.intro (H.out.below HB6.out).a0 (H.out.below HB6.out).a1); clear hh6 ho6))
      go_wp2_with fail
      go_roundw
      case rel => exact ⟨k + 1, by omega, by go_num, by rw [HST.out]; exact HH6.out, HB6.out, HZ6.out⟩
      case measure => simp [intOf]; omega
    · obtain rfl : k = R.len := by omega
      have HB := Lib.hid hb
      have HZ := Lib.hid hz
      have HH := Lib.hid hh
      clear hlt hk hh hb hz
      go_wp2_with fail
      go_loopw [5] (fun i wr => ∃ k : Nat, k ≤ R.len ∧ i = .int .i64 k ∧ RHad wr sb (R.digS G.fl R.len ++ R.digW G.fl k) ∧ Below w.heap.size w wr ∧ Blk wr w.heap.size 32 zero32) (fun i _ => R.len - (intOf i).toNat)
      case atStart => exact ⟨0, Nat.zero_le _, rfl, by simpa [Ar.digW] using HH.out, HB.out, HZ.out⟩
      case round =>
        clear HH HB HZ hsl hbs a2
        obtain ⟨k, hk, rfl, hh, hb, hz⟩ := hrel
        have hsl := RStreamAt.lt hh
        have hbs := hb.size
        have a2 := (H.out.below hb).a2
        by_cases hlt : k < R.len
        · have hst : R.digW G.fl (k + 1) = R.digW G.fl k ++ bytes4 (UInt32.ofNat (G.fl.wearAt ((R.from_ : Int) + k)).toNat) := rfl
          have hwb := Fl.wearAt_b HF.out.ok.fl ((R.from_ : Int) + k)
          obtain ⟨V, hV⟩ : ∃ V, G.fl.wearAt ((R.from_ : Int) + k) = V := ⟨_, rfl⟩
          rw [hV] at hwb
          have hu := u32_wear V hwb.1
          obtain ⟨u, hu2⟩ : ∃ u, UInt32.ofNat V.toNat = u := ⟨_, rfl⟩
          rw [hu2] at hu
          have hwr : ∀ W, RFAt W fb bb wb G → Calls Try.prog 96 #[ptr fb, .int .i64 ((R.from_ : Int) + k)] W fun e w' => e = .returned (.int .i64 V) ∧ W = w' := fun W h => hV ▸ rwear_c W _ h
          have hby : ∀ W, Calls Try.prog 62 #[.int .u32 (IntKind.u32.wrap V)] W fun e w' => e = .returned (.slice (some ⟨W.heap.size, 0, none⟩) 4 4) ∧ Blk w' W.heap.size 5 ((bytes4 u).map u8v).toArray ∧ Below W.heap.size W w' := fun W => by rw [hu]; exact rbytes_c u W
          rw [hV, hu2] at hst
          have HST := Lib.hid hst
          have HWR := Lib.hid hwr
          have HBY := Lib.hid hby
          have a0 := (H.out.below (hb.drew)).a0
          have a1 := (H.out.below (hb.drew)).a1
          have HS := Lib.hid (And.intro a0 a1)
          have HHc := Lib.hid (hh.below ((Below.refl wr.heap.size wr).drew) (Nat.le_refl _))
          have HBc := Lib.hid hb.drew
          have HZc := Lib.hid (hz.below ((Below.refl wr.heap.size wr).drew) hz.lt)
          have e1 : IntKind.i64.wrap ((R.from_ : Int) + k) = (R.from_ : Int) + k := IntWalk.i64_in _ (by omega)
          clear hst hV hu hu2 hwr hby a0 a1 hh hb hz hwb
          go_upto_region 9 with fail
          go_region_held3 (fun w' => w'.cell? ⟨ab, 0, none⟩ = some (ptr fb) ∧ w'.cell? ⟨ab, 1, none⟩ = some (.int .i64 R.from_)) (exact HS.out) (first
            | (go_simp; go_at_call 96; refine (HWR.out _ (HF.out.below HBc.out)).mono ?_; rintro e w' ⟨rfl, rfl⟩)
            | (go_simp; go_at_call 62; refine (HBY.out _).mono ?_; rintro e w5 ⟨rfl, hB5, hb5⟩; have HX := Lib.hid (hB5.bytes (n := 4) rfl); have hg5 := HBc.out.size; have HHc := Lib.hid (HHc.out.below hb5 (Nat.le_refl _)); have HZc := Lib.hid (HZc.out.below hb5 HZc.out.lt); have HBc := Lib.hid (HBc.out.trans (hb5.mono hg5)); have HS := Lib.hid (And.intro (H.out.below HBc.out).a0 (H.out.below HBc.out).a1); clear hB5 hb5)
            | (go_simp; go_at_call 11; refine (write_rhad _ sb _ _ 4 4 (bytes4 u) rfl HHc.out HX.out (fun _ a ha => by cases ha; simp; omega) (by omega)).mono ?_; rintro e w6 ⟨rfl, hh6, ho6⟩; have hg6 := HBc.out.size; have HZ6 := Lib.hid (HZc.out.only ho6 (by simp; omega)); have HB6 := Lib.hid (ho6.below HBc.out (by omega) (fun k hk => by simp at hk; omega)); have HH6 := Lib.hid hh6; have HS := Lib.hid (And.intro (H.out.below HB6.out).a0 (H.out.below HB6.out).a1); clear hh6 ho6))
          go_wp2_with fail
          go_roundw
          case rel => exact ⟨k + 1, by omega, by go_num, by rw [HST.out, ← List.append_assoc]; exact HH6.out, HB6.out, HZ6.out⟩
          case measure => simp [intOf]; omega
        · obtain rfl : k = R.len := by omega
          have HB := Lib.hid hb
          have HZ := Lib.hid hz
          have HH := Lib.hid hh
          clear hh hb hz
          go_wp2_with fail
          refine (sum_rhad _ sb _ HH.out).mono ?_
          rintro e w7 ⟨rfl, hb7⟩
          obtain ⟨t, ht⟩ : ∃ t, sha (R.digS G.fl R.len ++ R.digW G.fl R.len) = t := ⟨_, rfl⟩
          have htl : t.length = 32 := by rw [← ht]; exact sha_len _
          rw [ht]
          have HT := Lib.hid ht
          have hz7 := HZ.out.below hb7 HZ.out.lt
          have hb77 := HB.out.trans (hb7.mono HB.out.size)
          have HZ7 := Lib.hid hz7
          have HB7 := Lib.hid hb77
          have hcs : ((t.map u8v).toArray).size = 32 := by simp [htl]
          clear ht hz7 hb77 hb7
          rename_i K hK
          refine hK _ _ ?_
          refine wpList_store_row rfl 32 (.tmp 2) (.tmp 53) rfl w.heap.size (t.map u8v).toArray rfl rfl 32 zero32 HZ7.out (by rw [hcs]; exact info_b32) (by rw [hcs]; rfl) (bytes_one t) ?_
          refine wpList_nil ?_
          rename_i K2 hK2
          show K2 _ _
          refine hK2 _ _ ?_
          go_wp2_with fail
          refine bodyPost_ret (results_cell_row rfl _ _ w.heap.size 32 (t.map u8v).toArray (0, 0) _ rfl (HZ7.out.setRow _) Try.underlying32 rfl (by rw [hcs]; exact info_b32)) rfl ?_
          exact ⟨by rw [HT.out], below_setRow HB7.out (Nat.le_refl _) _⟩
end
end Go.Proofs.Ytlchlcjahndjgaa
