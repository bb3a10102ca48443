/- script.Show: steps as text. -/
import Derived.Test.YthidjmdcpdhdlaaDoorScV
namespace Go.Proofs.YthidjmdcpdhdlaaDoor
open Go Go.RowKit
set_option linter.unusedVariables false
set_option linter.unusedSimpArgs false
attribute [local go_sem ↓] sbS_seal sldS_seal sstS_seal
def showA (l : List Sp) : List UInt8 := (l.map showL).flatten
/-- A row of steps: each step's seven cells, and what its bytes read as. -/
def ReadsS (w : World) (A : Option Addr) (n : Nat) (l : List Sp) : Prop :=
  l.length = n ∧ (0 < n → ∃ b o, A = some ⟨b, o, none⟩ ∧ b < w.heap.size ∧ ∀ k x, l[k]? = Option.some x → ∃ cs, cs.length = 7 ∧ StepC w x cs ∧ w.rangeAt b (o + k * 7) cs)
theorem ReadsS.below {w w' : World} {A : Option Addr} {n : Nat} {l : List Sp} (h : ReadsS w A n l) (hb : Below w.heap.size w w') : ReadsS w' A n l := by
  refine ⟨h.1, fun hn => ?_⟩
  obtain ⟨b, o, h1, h2, h3⟩ := h.2 hn
  refine ⟨b, o, h1, Nat.lt_of_lt_of_le h2 hb.size, fun k x hx => ?_⟩
  obtain ⟨cs, e1, e2, e3⟩ := h3 k x hx
  refine ⟨cs, e1, e2.below hb, fun j v hj => ?_⟩
  rw [← e3 j v hj]
  simp only [World.cell?, hb.block b h2]
theorem showL_len (x : Sp) (h1 : x.bytes.length ≤ 10000) (h2 : x.mask.length ≤ 10000) : (showL x).length ≤ 100000 := by
  have key : ∀ (w : List UInt8) (ls : List Int) (more : List (List UInt8)), w.length ≤ 10 → ls.length ≤ 3 → more.length ≤ 1 → (∀ y ∈ more, y.length ≤ 20001) → (sayS w ls more).length ≤ 100000 := by
    intro w ls more hw hl hm hy
    unfold sayS
    split
    · rename_i hok
      rw [List.length_append, join_len]
      have h1 := sum_le (l := (ls.map decZ ++ more).map (fun y => y.length + 1)) (m := 20002) (fun z hz => by
        obtain ⟨y, hy2, rfl⟩ := List.mem_map.1 hz
        rcases List.mem_append.1 hy2 with hy2 | hy2
        · obtain ⟨q, hq, rfl⟩ := List.mem_map.1 hy2
          have := List.all_eq_true.1 hok q hq
          unfold okN at this
          simp only [Bool.and_eq_true, decide_eq_true_eq] at this
          have := decL_small q.toNat (by omega)
          show (decL q.toNat).length + 1 ≤ _
          omega
        · have := hy y hy2; omega)
      rw [List.length_map, List.length_append, List.length_map] at h1
      have h2 : (ls.length + more.length) * 20002 ≤ 4 * 20002 := Nat.mul_le_mul_right _ (by omega)
      simp only [List.length_cons, List.length_nil]
      omega
    · simp
  have hx : ∀ l : List UInt8, l.length ≤ 10000 → ∀ y ∈ [hexS l], y.length ≤ 20001 := by
    intro l hl y hy
    simp only [List.mem_cons, List.not_mem_nil, or_false] at hy
    subst hy
    unfold hexS
    split
    · simp
    · rw [hexOf_len]; omega
  unfold showL
  split
  · exact key _ _ _ (by decide) (by simp) (by simp) (hx _ h1)
  · split
    · exact key _ _ _ (by decide) (by simp) (by simp) (by simp)
    · split
      · exact key _ _ _ (by decide) (by simp) (by simp) (hx _ h2)
      · split
        · exact key _ _ _ (by decide) (by simp) (by simp) (by simp)
        · simp
theorem showA_len : ∀ (l : List Sp), (∀ x ∈ l, x.bytes.length ≤ 10000 ∧ x.mask.length ≤ 10000) → (showA l).length ≤ l.length * 100000
  | [], _ => by simp [showA]
  | x :: l, h => by
    have h1 := showL_len x (h x (List.mem_cons_self ..)).1 (h x (List.mem_cons_self ..)).2
    have h2 := showA_len l (fun y hy => h y (List.mem_cons_of_mem _ hy))
    unfold showA at h2 ⊢
    rw [List.map_cons, List.flatten_cons, List.length_append, List.length_cons]
    omega
theorem showA_snoc (l : List Sp) (x : Sp) : showA (l ++ [x]) = showA l ++ showL x := by unfold showA; simp
set_option maxRecDepth 100000 in
set_option maxHeartbeats 4000000 in
theorem sshowall_c (A : Option Addr) (n c : Nat) (l : List Sp) (w : World) (hr : ReadsS w A n l) (hn : n ≤ 900) (hl : ∀ x ∈ l, x.bytes.length ≤ 10000 ∧ x.mask.length ≤ 10000) (ht : Tab w) : Calls Tryd.prog 12 #[.slice A n c] w fun e w' => e = .returned (.string ⟨(showA l).toArray⟩) ∧ Below w.heap.size w w' := by
  have hlen := hr.1
  have HR := Lib.hid hr
  have HLL := Lib.hid hl
  have HT := Lib.hid ht
  have HLN := Lib.hid hlen
  clear hr hl ht hlen
  go_enter Tryd.func12, Tryd.ntmps12
  go_wp2_with fail
  go_loopw [8] (fun i wr => ∃ (k : Nat), i = .int .i64 k ∧ k ≤ n ∧ BldAt wr w.heap.size w.heap.size (showA (l.take k)) ∧ Below w.heap.size w wr) (fun i wr => (match i with | .int _ x => (n : Int) - x | _ => 0).toNat)
  case atStart =>
    refine ⟨0, rfl, Nat.zero_le _, ?_, (Below.refl _ w).alloc (Nat.le_refl _) _⟩
    rw [List.take_zero]; exact bld_new w
  case round =>
    obtain ⟨k, rfl, hkn, hbd, hb⟩ := hrel
    have HBD := Lib.hid hbd
    have HB := Lib.hid hb
    clear hbd hb
    by_cases hk : k < n
    · obtain ⟨bk, o, hA, hbk, hcs⟩ := (HR.out.below HB.out).2 (by omega)
      obtain ⟨x, hx⟩ : ∃ x, l[k]? = Option.some x := ⟨l[k]'(by rw [HLN.out]; exact hk), List.getElem?_eq_getElem _⟩
      obtain ⟨cs, hcl, hsc, hrg⟩ := hcs k x hx
      have htk : l.take (k + 1) = l.take k ++ [x] := by rw [List.take_add_one, hx]; rfl
      have hxl := HLL.out x (List.mem_of_getElem? hx)
      have hol : ∀ u ∈ cs, u.oneCell' = true := by
        obtain ⟨A', c', B', d', h1, _⟩ := hsc
        rw [h1]; exact stC_one _ _ _ _ _ _ _ _ _ _ _
      have hld := run_sldS hcl hrg
      have hst := run_sstS cs (Blk.new wr 36 litS) rfl hcl hol
      have hx3 : Blk ((wr.alloc (.cells litS 36)).setRow wr.heap.size cs.toArray) wr.heap.size 36 cs.toArray := (Blk.new wr 36 litS).setRow_s _
      have hb3 : Below wr.heap.size wr ((wr.alloc (.cells litS 36)).setRow wr.heap.size cs.toArray) := below_setRow_s ((Below.refl _ wr).alloc (Nat.le_refl _) _) (Nat.le_refl _) _
      have HX3 := Lib.hid hx3
      have HB3 := Lib.hid hb3
      have HTK := Lib.hid htk
      have HXL := Lib.hid hxl
      have HSC := Lib.hid hsc
      have HCL := Lib.hid hcl
      clear hx3 hb3 htk hxl hsc hrg hx hcs hol hcl
      go_upto_region 5 with fail
      have hx3 := HX3.out
      have hb3 := HB3.out
      generalize (wr.alloc (.cells litS 36)).setRow wr.heap.size cs.toArray = w3 at hx3 hb3 ⊢
      have hld2 := run_sldS HCL.out (blk_whole hx3)
      have hbw := HB.out.trans (hb3.mono HB.out.size)
      have hsh := sshow_c x cs w3 (HSC.out.below hb3) HXL.out.1 HXL.out.2 (HT.out.below hbw)
      have hbd3 : BldAt w3 w.heap.size w.heap.size (showA (l.take k)) := by
        rcases HBD.out with h | h
        · obtain ⟨e1, v, e2, e3, e4⟩ := h
          exact .inl ⟨e1, v, by rw [hb3.block _ (lt_of_get e2)]; exact e2, own_only e3 (Only.of_below (S := []) hb3) (by simp), e4⟩
        · obtain ⟨e1, v, e2, e3, e4⟩ := h
          exact .inr ⟨e1, v, by rw [hb3.block _ (lt_of_get e2)]; exact e2, own_only e3 (Only.of_below (S := []) hb3) (by simp), e4⟩
      have HBW := Lib.hid hbw
      have HBD3 := Lib.hid hbd3
      have hshl := showL_len x HXL.out.1 HXL.out.2
      have HSHL := Lib.hid hshl
      clear hst hld hx3 hb3 HX3 HB3 hbw hbd3 HBD hshl
      go_wp2_with fail
      refine hsh.mono ?_
      rintro e w4 ⟨rfl, hb4⟩
      have hbd4 : BldAt w4 w.heap.size w.heap.size (showA (l.take k)) := by
        rcases HBD3.out with h | h
        · obtain ⟨e1, v, e2, e3, e4⟩ := h
          exact .inl ⟨e1, v, by rw [hb4.block _ (lt_of_get e2)]; exact e2, own_only e3 (Only.of_below (S := []) hb4) (by simp), e4⟩
        · obtain ⟨e1, v, e2, e3, e4⟩ := h
          exact .inr ⟨e1, v, by rw [hb4.block _ (lt_of_get e2)]; exact e2, own_only e3 (Only.of_below (S := []) hb4) (by simp), e4⟩
      have hbw4 := HBW.out.trans (hb4.mono HBW.out.size)
      have HBD4 := Lib.hid hbd4
      have HBW4 := Lib.hid hbw4
      have hsa := showA_len (l.take k) (fun y hy => HLL.out y (List.mem_of_mem_take hy))
      have hsz : (⟨(showL x).toArray⟩ : ByteArray).size = (showL x).length := List.size_toArray
      have htl : (l.take k).length ≤ 900 := by rw [List.length_take]; omega
      have hxt : (⟨(showL x).toArray⟩ : ByteArray).data.toList = showL x := List.toList_toArray ..
      have hw := bwstr_c w.heap.size w.heap.size (showA (l.take k)) ⟨(showL x).toArray⟩ w4 HBD4.out (by rw [hsz]; have := HSHL.out; have h2 : (l.take k).length * 100000 ≤ 900 * 100000 := Nat.mul_le_mul_right _ htl; omega) HBW4.out.size
      rw [hxt, ← showA_snoc, ← HTK.out] at hw
      have HWR := Lib.hid hw
      clear hb4 hsh hbd4 hbw4 hsa hsz htl hxt hw hld2
      go_wp2_with fail
      refine HWR.out.mono ?_
      rintro e w5 ⟨rfl, hbd5, hb5⟩
      have HBD5 := Lib.hid hbd5
      have HB5 := Lib.hid (HBW4.out.trans hb5)
      clear hbd5 hb5
      rw [← hA]
      clear hA
      go_wp2_with fail
      go_roundw
      case rel =>
        exact ⟨k + 1, rfl, hk, HBD5.out, HB5.out⟩
      case measure =>
        dsimp only
        omega
    · have hkn2 : k = n := by omega
      have hall : l.take k = l := List.take_of_length_le (by rw [HLN.out]; omega)
      rw [hall] at HBD
      have hsz := HB.out.size
      clear hall
      go_wp2_with fail
      refine (bstr_c _ _ (showA l) _ HBD.out hsz).mono ?_
      rintro e w2 ⟨rfl, hb2⟩
      have HB2 := Lib.hid (HB.out.trans hb2)
      clear hb2
      go_wp2_with fail
      go_ret
      exact ⟨rfl, HB2.out⟩
end Go.Proofs.YthidjmdcpdhdlaaDoor
