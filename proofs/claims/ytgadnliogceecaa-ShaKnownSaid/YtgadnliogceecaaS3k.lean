/- waterlinelaw3.ShaKnown: the walk. -/
import Derived.Test.YtgadnliogceecaaSha15
namespace Go.Proofs.Ytgadnliogceecaa
open Go Go.RowKit
set_option linter.unusedVariables false
set_option linter.unusedSimpArgs false
def kS0 : ByteArray := ⟨#[]⟩
def kD0 : List UInt8 := [227, 176, 196, 66, 152, 252, 28, 20, 154, 251, 244, 200, 153, 111, 185, 36, 39, 174, 65, 228, 100, 155, 147, 76, 164, 149, 153, 27, 120, 82, 184, 85]
@[reducible] def kO0 : Obj := .cells #[.int .u8 227, .int .u8 176, .int .u8 196, .int .u8 66, .int .u8 152, .int .u8 252, .int .u8 28, .int .u8 20, .int .u8 154, .int .u8 251, .int .u8 244, .int .u8 200, .int .u8 153, .int .u8 111, .int .u8 185, .int .u8 36, .int .u8 39, .int .u8 174, .int .u8 65, .int .u8 228, .int .u8 100, .int .u8 155, .int .u8 147, .int .u8 76, .int .u8 164, .int .u8 149, .int .u8 153, .int .u8 27, .int .u8 120, .int .u8 82, .int .u8 184, .int .u8 85] 5
theorem kO0_eq : kO0 = .cells (kD0.map u8v).toArray 5 := by kernel_rfl
def kS1 : ByteArray := ⟨#[97, 98, 99]⟩
def kD1 : List UInt8 := [186, 120, 22, 191, 143, 1, 207, 234, 65, 65, 64, 222, 93, 174, 34, 35, 176, 3, 97, 163, 150, 23, 122, 156, 180, 16, 255, 97, 242, 0, 21, 173]
@[reducible] def kO1 : Obj := .cells #[.int .u8 186, .int .u8 120, .int .u8 22, .int .u8 191, .int .u8 143, .int .u8 1, .int .u8 207, .int .u8 234, .int .u8 65, .int .u8 65, .int .u8 64, .int .u8 222, .int .u8 93, .int .u8 174, .int .u8 34, .int .u8 35, .int .u8 176, .int .u8 3, .int .u8 97, .int .u8 163, .int .u8 150, .int .u8 23, .int .u8 122, .int .u8 156, .int .u8 180, .int .u8 16, .int .u8 255, .int .u8 97, .int .u8 242, .int .u8 0, .int .u8 21, .int .u8 173] 5
theorem kO1_eq : kO1 = .cells (kD1.map u8v).toArray 5 := by kernel_rfl
def kS2 : ByteArray := ⟨#[97, 98, 99, 100, 98, 99, 100, 101, 99, 100, 101, 102, 100, 101, 102, 103, 101, 102, 103, 104, 102, 103, 104, 105, 103, 104, 105, 106, 104, 105, 106, 107, 105, 106, 107, 108, 106, 107, 108, 109, 107, 108, 109, 110, 108, 109, 110, 111, 109, 110, 111, 112, 110, 111, 112, 113]⟩
def kD2 : List UInt8 := [36, 141, 106, 97, 210, 6, 56, 184, 229, 192, 38, 147, 12, 62, 96, 57, 163, 60, 228, 89, 100, 255, 33, 103, 246, 236, 237, 212, 25, 219, 6, 193]
@[reducible] def kO2 : Obj := .cells #[.int .u8 36, .int .u8 141, .int .u8 106, .int .u8 97, .int .u8 210, .int .u8 6, .int .u8 56, .int .u8 184, .int .u8 229, .int .u8 192, .int .u8 38, .int .u8 147, .int .u8 12, .int .u8 62, .int .u8 96, .int .u8 57, .int .u8 163, .int .u8 60, .int .u8 228, .int .u8 89, .int .u8 100, .int .u8 255, .int .u8 33, .int .u8 103, .int .u8 246, .int .u8 236, .int .u8 237, .int .u8 212, .int .u8 25, .int .u8 219, .int .u8 6, .int .u8 193] 5
theorem kO2_eq : kO2 = .cells (kD2.map u8v).toArray 5 := by kernel_rfl
@[reducible] def kOSa : Array Value := #[.string ⟨#[]⟩, .string ⟨#[97, 98, 99]⟩, .string ⟨#[97, 98, 99, 100, 98, 99, 100, 101, 99, 100, 101, 102, 100, 101, 102, 103, 101, 102, 103, 104, 102, 103, 104, 105, 103, 104, 105, 106, 104, 105, 106, 107, 105, 106, 107, 108, 106, 107, 108, 109, 107, 108, 109, 110, 108, 109, 110, 111, 109, 110, 111, 112, 110, 111, 112, 113]⟩]
@[reducible] def kOS : Obj := .cells #[.string ⟨#[]⟩, .string ⟨#[97, 98, 99]⟩, .string ⟨#[97, 98, 99, 100, 98, 99, 100, 101, 99, 100, 101, 102, 100, 101, 102, 103, 101, 102, 103, 104, 102, 103, 104, 105, 103, 104, 105, 106, 104, 105, 106, 107, 105, 106, 107, 108, 106, 107, 108, 109, 107, 108, 109, 110, 108, 109, 110, 111, 109, 110, 111, 112, 110, 111, 112, 113]⟩] 9
@[reducible] def kOW (n : Nat) : Obj := .cells #[.slice (some ⟨n + 1, 0, none⟩) 32 32, .slice (some ⟨n + 1 + 1, 0, none⟩) 32 32, .slice (some ⟨n + 1 + 1 + 1, 0, none⟩) 32 32] 22
structure KFacts (w W : World) : Prop where
  bel : Below w.heap.size w W
  some_ : ∀ k, k < 3 → ∃ (s : ByteArray) (d : List UInt8) (C : Nat), W.cell? ⟨w.heap.size, k, none⟩ = some (.string s) ∧ W.cell? ⟨w.heap.size + 1 + 1 + 1 + 1, k, none⟩ = some (.slice (some ⟨C, 0, none⟩) 32 32) ∧ Reads W (some ⟨C, 0, none⟩) 32 (d.map u8v) ∧ sha s.data.toList = d ∧ d.length = 32 ∧ s.size ≤ 100
theorem kFacts (w : World) : KFacts w (((((w.alloc kOS).alloc kO0).alloc kO1).alloc kO2).alloc (kOW w.heap.size)) := by
  have s0 : (w.alloc kOS).heap.size = w.heap.size + 1 := by simp
  have s1 : ((w.alloc kOS).alloc kO0).heap.size = w.heap.size + 1 + 1 := by simp
  have s2 : (((w.alloc kOS).alloc kO0).alloc kO1).heap.size = w.heap.size + 1 + 1 + 1 := by simp
  have s3 : ((((w.alloc kOS).alloc kO0).alloc kO1).alloc kO2).heap.size = w.heap.size + 1 + 1 + 1 + 1 := by simp
  have bS : Blk (((((w.alloc kOS).alloc kO0).alloc kO1).alloc kO2).alloc (kOW w.heap.size)) w.heap.size 9 kOSa := ((((Blk.new w 9 _).alloc kO0).alloc kO1).alloc kO2).alloc (kOW w.heap.size)
  have b0 : Blk (((((w.alloc kOS).alloc kO0).alloc kO1).alloc kO2).alloc (kOW w.heap.size)) (w.heap.size + 1) 5 (kD0.map u8v).toArray := by
    have h := (((Blk.new (w.alloc kOS) 5 (kD0.map u8v).toArray).alloc kO1).alloc kO2).alloc (kOW w.heap.size)
    rw [s0, ← kO0_eq] at h; exact h
  have b1 : Blk (((((w.alloc kOS).alloc kO0).alloc kO1).alloc kO2).alloc (kOW w.heap.size)) (w.heap.size + 1 + 1) 5 (kD1.map u8v).toArray := by
    have h := ((Blk.new ((w.alloc kOS).alloc kO0) 5 (kD1.map u8v).toArray).alloc kO2).alloc (kOW w.heap.size)
    rw [s1, ← kO1_eq] at h; exact h
  have b2 : Blk (((((w.alloc kOS).alloc kO0).alloc kO1).alloc kO2).alloc (kOW w.heap.size)) (w.heap.size + 1 + 1 + 1) 5 (kD2.map u8v).toArray := by
    have h := (Blk.new (((w.alloc kOS).alloc kO0).alloc kO1) 5 (kD2.map u8v).toArray).alloc (kOW w.heap.size)
    rw [s2, ← kO2_eq] at h; exact h
  have bW : Blk (((((w.alloc kOS).alloc kO0).alloc kO1).alloc kO2).alloc (kOW w.heap.size)) (w.heap.size + 1 + 1 + 1 + 1) 22 #[.slice (some ⟨w.heap.size + 1, 0, none⟩) 32 32, .slice (some ⟨w.heap.size + 1 + 1, 0, none⟩) 32 32, .slice (some ⟨w.heap.size + 1 + 1 + 1, 0, none⟩) 32 32] := by
    have h := Blk.new ((((w.alloc kOS).alloc kO0).alloc kO1).alloc kO2) 22 #[.slice (some ⟨w.heap.size + 1, 0, none⟩) 32 32, .slice (some ⟨w.heap.size + 1 + 1, 0, none⟩) 32 32, .slice (some ⟨w.heap.size + 1 + 1 + 1, 0, none⟩) 32 32]
    rw [s3] at h; exact h
  refine ⟨?_, ?_⟩
  · have h0 := (Below.refl w.heap.size w).alloc (Nat.le_refl _) kOS
    have h1 := h0.alloc (by rw [s0]; omega) kO0
    have h2 := h1.alloc (by rw [s1]; omega) kO1
    have h3 := h2.alloc (by rw [s2]; omega) kO2
    exact h3.alloc (by rw [s3]; omega) (kOW w.heap.size)
  · intro k hk
    have h3 : k = 0 ∨ k = 1 ∨ k = 2 := by omega
    rcases h3 with rfl | rfl | rfl
    · exact ⟨kS0, kD0, _, by rw [bS.cell]; rfl, by rw [bW.cell]; rfl, b0.row, sha_nil, rfl, by decide⟩
    · exact ⟨kS1, kD1, _, by rw [bS.cell]; rfl, by rw [bW.cell]; rfl, b1.row, sha_abc, rfl, by decide⟩
    · exact ⟨kS2, kD2, _, by rw [bS.cell]; rfl, by rw [bW.cell]; rfl, b2.row, sha_56, rfl, by decide⟩
theorem bytesRow_reads (w : World) (s : ByteArray) (cap : Nat) (t : TypeId) (fr : Nat × Nat) : Reads (w.drew.alloc (.cells (bytesRow s cap) t fr)) (some ⟨w.heap.size, 0, none⟩) s.size (s.data.toList.map u8v) := by
  refine ⟨by simp, fun _ => ⟨w.heap.size, 0, rfl, by simp, fun j u hu => ?_⟩⟩
  rw [cell_of_row _ w.heap.size (0 + j) (bytesRow s cap) t fr (by show (w.heap.push _)[w.heap.size]? = _; simp)]
  have hj : j < s.data.size := by
    have := (List.getElem?_eq_some_iff.1 hu).1
    simpa using this
  rw [Nat.zero_add, bytesRow_at s cap j hj]
  have e : (s.data.toList)[j]? = some s.data[j] := by simp [hj]
  rw [List.getElem?_map, e] at hu
  simp only [Option.map_some, Option.some.injEq] at hu
  rw [← hu]
theorem str_of_reads (w : World) (g : Nat) (cap : Nat) (d : List UInt8) (n : Nat) (hn : d.length = n) (h : Reads w (some ⟨g, 0, none⟩) n (d.map u8v)) :
    (convert 22 9 (.slice (some ⟨g, 0, none⟩) n cap)).run Try.prog w = .ok (.string ⟨d.toArray⟩) w := by
  subst hn
  refine run_convert_bytes_back w 22 9 5 ⟨g, 0, none⟩ cap d Try.underlying22 Try.underlying5 Try.underlying9 (fun j hj => ?_)
  rw [add_zero_off]
  have := h.rangeAt j (u8v d[j]) (by simp [hj])
  simpa using this
set_option maxRecDepth 100000 in
set_option maxHeartbeats 2000000 in
theorem shaKnown_c (x : Int) (w : World) : Calls Try.prog 4 #[.int .i64 x] w fun e w' => e = .returned (.bool true) ∧ Below w.heap.size w w' := by
  go_enter Try.func4, Try.ntmps4
  go_upto_region 4 with (go_at_call 12; refine (alive3_c _).mono ?_; rintro e w1 ⟨rfl, hb⟩)
  have hF := kFacts w1
  generalize (((((w1.alloc kOS).alloc kO0).alloc kO1).alloc kO2).alloc (kOW w1.heap.size)) = W at hF ⊢
  have HF := Lib.hid hF
  have HB := Lib.hid (hb.trans (hF.bel.mono hb.size))
  clear hF hb
  by_cases g0 : x < 0
  · go_wp2_with fail
    go_ret
    exact ⟨rfl, HB.out⟩
  · by_cases g1 : 3 ≤ x
    · go_wp2_with fail
      go_ret
      exact ⟨rfl, HB.out⟩
    · obtain ⟨k, rfl⟩ : ∃ k : Nat, x = (k : Int) := ⟨x.toNat, by omega⟩
      have hk : k < 3 := by omega
      obtain ⟨s, d, C, cS, cW, hR, hsd, hdl, hsz⟩ := HF.out.some_ k hk
      have hC : C < W.heap.size := by obtain ⟨b, o, e, h, _⟩ := hR.2 (by omega); cases e; exact h
      have kcs := fun (w : World) (s : ByteArray) => run_bytes_of_string (P := Try.prog) w 9 22 5 s Try.underlying9 Try.underlying22 Try.underlying5
      have HR := Lib.hid hR
      have HSD := Lib.hid hsd
      clear hR hsd HF
      go_wp2_with fail
      clear kcs
      refine (sum_d _ (some ⟨W.heap.size, 0, none⟩) s.size _ s.data.toList d HSD.out rfl (bytesRow_reads W s _ _ _) (by simp) (by omega)).mono ?_
      rintro e w2 ⟨rfl, hb2⟩
      have hb3 := ((Below.refl W.heap.size W).drew.alloc (Nat.le_refl _) (.cells (bytesRow s (grownCap W s.size 0 5)) 5 ((bytesRow s (grownCap W s.size 0 5)).size, (bytesRow s (grownCap W s.size 0 5)).size + 1))).trans (hb2.mono (by simp))
      have HB3 := Lib.hid hb3
      clear hb2 hb3 cS
      have hsz : ((d.map u8v).toArray).size = 32 := by simp [hdl]
      rename_i K hK
      refine hK _ _ ?_
      refine wpList_alloc_store rfl rfl 24 rfl 6 rfl (.tmp 6) (.tmp 31) rfl rfl (.agg zero32) info_z32 (d.map u8v).toArray (by rw [hsz]; exact info_b32) (by rw [hsz]; rfl) (bytes_one d) rfl rfl ?_
      have hD := Blk.new w2 24 (d.map u8v).toArray
      have hs3 := HB3.out.size
      have hb4 := HB3.out.alloc hs3 (.cells (d.map u8v).toArray 24)
      generalize w2.alloc (.cells (d.map u8v).toArray 24) = w3 at hD hb4 ⊢
      have r1 : Reads w3 (some ⟨w2.heap.size, 0, none⟩) 32 (d.map u8v) := by
        have h := hD.row; rw [List.length_map, hdl] at h; exact h
      have r2 := HR.out.below hb4
      have k1 := fun n => str_of_reads (w3.drewN n) w2.heap.size 32 d 32 hdl (r1.drewN n)
      have k2 := fun n => str_of_reads (w3.drewN n) C 32 d 32 hdl (r2.drewN n)
      have c5 : w3.cell? ⟨w1.heap.size + 1 + 1 + 1 + 1, k, none⟩ = some (.slice (some ⟨C, 0, none⟩) 32 32) := by rw [hb4.cell (World.block_lt_of_cell? W _ cW)]; exact cW
      have HB5 := Lib.hid (HB.out.trans (hb4.mono HB.out.size))
      generalize (⟨d.toArray⟩ : ByteArray) = S at k1 k2
      clear hD hb4 r1 r2 HR HB3 hsz hdl cW HSD
      refine wpList_nil ?_
      rename_i K2 hK2
      show K2 _ _
      refine hK2 _ _ ?_
      go_wp2_with fail
      go_quiet (fail)
      go_wp2_with fail
      go_ret
      exact ⟨rfl, below_drewN HB5.out _⟩
end Go.Proofs.Ytgadnliogceecaa
