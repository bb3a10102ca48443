/- hmac.Tag. -/
import Derived.Test.YtocbahahienigaaDoorShaC
import Derived.Test.YtocbahahienigaaDoorHm2
namespace Go.Proofs.YtocbahahienigaaDoor
open Go Go.RowKit
set_option linter.unusedVariables false
set_option linter.unusedSimpArgs false
def tagL (key b : List UInt8) : List UInt8 := sha (padL key 92 ++ sha (padL key 54 ++ b))
theorem tagL_len (key b : List UInt8) : (tagL key b).length = 32 := sha_len _
structure TagI (w wi : World) (s1 s2 : Nat) (l1 l2 : List UInt8) (A : Option Addr) (n : Nat) (key : List UInt8) (B : Option Addr) (m : Nat) (b : List UInt8) : Prop where
  had1 : Had wi s1 l1
  had2 : Had wi s2 l2
  blk : Blk wi w.heap.size 23 zero32
  bel : Below w.heap.size w wi
  rk : Reads wi A n (key.map u8v)
  rb : Reads wi B m (b.map u8v)
  ak : 0 < n → ∀ a, A = some a → a.block < w.heap.size
  ab : 0 < m → ∀ a, B = some a → a.block < w.heap.size
  lt1 : w.heap.size < s1
  lt2 : w.heap.size < s2
  ne : s1 ≠ s2
section
variable {w wi wj : World} {s1 s2 : Nat} {l1 l2 : List UInt8} {A : Option Addr} {n : Nat} {key : List UInt8} {B : Option Addr} {m : Nat} {b : List UInt8}
theorem TagI.below (h : TagI w wi s1 s2 l1 l2 A n key B m b) (hb : Below wi.heap.size wi wj) : TagI w wj s1 s2 l1 l2 A n key B m b :=
  ⟨h.had1.below hb (Nat.le_refl _), h.had2.below hb (Nat.le_refl _), h.blk.below hb h.blk.lt, h.bel.trans (hb.mono h.bel.size), h.rk.below hb, h.rb.below hb, h.ak, h.ab, h.lt1, h.lt2, h.ne⟩
theorem TagI.one (h : TagI w wi s1 s2 l1 l2 A n key B m b) {l : List UInt8} (ho : Only [s1] wi wj) (hh : Had wj s1 l) : TagI w wj s1 s2 l l2 A n key B m b :=
  ⟨hh, h.had2.apart ho (Ne.symm h.ne) _ h.had1, h.blk.only ho (by have := h.lt1; simp; omega), ho.below h.bel h.bel.size (by have := h.lt1; intro k hk; simp at hk; omega),
    h.rk.only0 ho (by intro h0 a ha; have := h.ak h0 a ha; have := h.lt1; simp; omega), h.rb.only0 ho (by intro h0 a ha; have := h.ab h0 a ha; have := h.lt1; simp; omega), h.ak, h.ab, h.lt1, h.lt2, h.ne⟩
theorem TagI.two (h : TagI w wi s1 s2 l1 l2 A n key B m b) {l : List UInt8} (ho : Only [s2] wi wj) (hh : Had wj s2 l) : TagI w wj s1 s2 l1 l A n key B m b :=
  ⟨h.had1.apart ho h.ne _ h.had2, hh, h.blk.only ho (by have := h.lt2; simp; omega), ho.below h.bel h.bel.size (by have := h.lt2; intro k hk; simp at hk; omega),
    h.rk.only0 ho (by intro h0 a ha; have := h.ak h0 a ha; have := h.lt2; simp; omega), h.rb.only0 ho (by intro h0 a ha; have := h.ab h0 a ha; have := h.lt2; simp; omega), h.ak, h.ab, h.lt1, h.lt2, h.ne⟩
end
set_option maxRecDepth 100000 in
theorem tag_c (w : World) (A B : Option Addr) (n c m c2 : Nat) (key b : List UInt8) (rk : Reads w A n (key.map u8v)) (rb : Reads w B m (b.map u8v)) (hn : n ≤ 274877906944) (hm : m ≤ 274877906944) :
    Calls Tryd.prog 35 #[.slice A n c, .slice B m c2] w fun e w' => e = .returned (.agg ((tagL key b).map u8v).toArray) ∧ Below w.heap.size w w' := by
  have hbl : b.length = m := by simpa using rb.len
  have ak := rk.lt
  have ab := rb.lt
  have RK := Lib.hid rk
  have RB := Lib.hid rb
  clear rk rb
  go_enter Tryd.func35, Tryd.ntmps35
  go_wp2_with fail
  have hZ : Blk (w.alloc (.cells zero32 23)) w.heap.size 23 zero32 := Blk.new w _ _
  have hb1 : Below w.heap.size w (w.alloc (.cells zero32 23)) := (Below.refl _ _).alloc (Nat.le_refl _) _
  have hs1 : (w.alloc (.cells zero32 23)).heap.size = w.heap.size + 1 := by simp
  generalize w.alloc (.cells zero32 23) = w1 at hZ hb1 hs1 ⊢
  refine (new_had w1).mono ?_
  rintro e w2 ⟨s1, rfl, hh1, hsb1, hb2⟩
  have hh1lt := StreamAt.lt hh1
  go_wp2_with fail
  refine (new_had w2).mono ?_
  rintro e w3 ⟨s2, rfl, hh2, hsb2, hb3⟩
  have I3 : TagI w w3 s1 s2 [] [] A n key B m b := by
    have b12 := hb2.size
    have hb12 := hb1.trans (hb2.mono (by omega))
    have hb13 := hb12.trans (hb3.mono hb12.size)
    exact ⟨hh1.below hb3 (Nat.le_refl _), hh2, (hZ.below hb2 (by omega)).below hb3 (hZ.below hb2 (by omega)).lt, hb13, RK.out.below hb13, RB.out.below hb13, ak, ab, by omega, by omega, by omega⟩
  have H3 := Lib.hid I3
  clear I3 hh1 hh2 hZ hb1 hb2 hb3 hsb1 hsb2 hs1 hh1lt RK RB
  go_wp2_with fail
  refine (pad_c w3 A n c key 54 H3.out.rk hn).mono ?_
  rintro e w4 ⟨g4, rfl, hg4, hP4, hb4⟩
  have H4 := Lib.hid (H3.out.below hb4)
  have hs14 := StreamAt.lt H3.out.had1
  have HP4 := Lib.hid (hP4.bytes (padL_len key 54))
  clear H3 hP4 hb4
  go_wp2_with fail
  refine (write_had w4 s1 [] _ 64 64 (padL key 54) (padL_len _ _) H4.out.had1 HP4.out (fun _ a ha => by cases ha; simp; omega) (by omega)).mono ?_
  rintro e w5 ⟨rfl, hh5, ho5⟩
  rw [List.nil_append] at hh5
  have H5 := Lib.hid (H4.out.one ho5 hh5)
  clear H4 HP4 ho5 hh5 hg4 hs14
  go_wp2_with fail
  refine (write_had w5 s1 _ B m c2 b hbl H5.out.had1 H5.out.rb (fun h0 a ha => by have := ab h0 a ha; have := H5.out.lt1; omega) hm).mono ?_
  rintro e w6 ⟨rfl, hh6, ho6⟩
  have H6 := Lib.hid (H5.out.one ho6 hh6)
  clear H5 ho6 hh6
  go_wp2_with fail
  refine (sum_had w6 s1 _ H6.out.had1).mono ?_
  rintro e w7 ⟨rfl, hb7⟩
  have H7 := Lib.hid (H6.out.below hb7)
  obtain ⟨d, hd⟩ : ∃ d, sha (padL key 54 ++ b) = d := ⟨_, rfl⟩
  have hdl : d.length = 32 := by rw [← hd]; exact sha_len _
  have htl : tagL key b = sha (padL key 92 ++ d) := by rw [← hd]; rfl
  rw [hd]
  have HTL := Lib.hid htl
  have hsz : ((d.map u8v).toArray).size = 32 := by simp [hdl]
  clear H6 hb7 hd htl
  rename_i K hK
  refine hK _ _ ?_
  refine wpList_alloc_store rfl rfl 23 rfl 7 rfl (.tmp 7) (.tmp 18) rfl rfl (.agg zero32) info_z32 (d.map u8v).toArray (by rw [hsz]; exact info_b32) (by rw [hsz]; rfl) (bytes_one d) rfl rfl ?_
  have hD := (Blk.new w7 23 (d.map u8v).toArray)
  have hb8 : Below w7.heap.size w7 (w7.alloc (.cells (d.map u8v).toArray 23)) := (Below.refl _ _).alloc (Nat.le_refl _) _
  generalize w7.alloc (.cells (d.map u8v).toArray 23) = w8 at hD hb8 ⊢
  have H8 := Lib.hid (H7.out.below hb8)
  have HD := Lib.hid hD
  have hdlt := StreamAt.lt H7.out.had2
  clear H7 hb8 hD hsz
  refine wpList_nil ?_
  rename_i K2 hK2
  show K2 _ _
  refine hK2 _ _ ?_
  go_wp2_with fail
  refine (pad_c w8 A n c key 92 H8.out.rk hn).mono ?_
  rintro e w9 ⟨g9, rfl, hg9, hP9, hb9⟩
  have H9 := Lib.hid (H8.out.below hb9)
  have hs19 := StreamAt.lt H8.out.had2
  have HP9 := Lib.hid (hP9.bytes (padL_len key 92))
  have HD9 := Lib.hid (HD.out.below hb9 HD.out.lt)
  clear H8 hP9 hb9 HD
  go_wp2_with fail
  refine (write_had w9 s2 [] _ 64 64 (padL key 92) (padL_len _ _) H9.out.had2 HP9.out (fun _ a ha => by cases ha; simp; omega) (by omega)).mono ?_
  rintro e w10 ⟨rfl, hh10, ho10⟩
  rw [List.nil_append] at hh10
  have hne7 : w7.heap.size ≠ s2 := by omega
  have H10 := Lib.hid (H9.out.two ho10 hh10)
  have HD10 := Lib.hid (HD9.out.only ho10 (by simp; exact hne7))
  clear H9 HP9 ho10 hh10 hg9 hs19 HD9
  go_wp2_with fail
  refine (write_had w10 s2 _ (some ⟨w7.heap.size, 0, none⟩) 32 32 d hdl H10.out.had2 (HD10.out.bytes hdl) (fun _ a ha => by cases ha; exact hne7) (by omega)).mono ?_
  rintro e w11 ⟨rfl, hh11, ho11⟩
  have H11 := Lib.hid (H10.out.two ho11 hh11)
  clear H10 HD10 ho11 hh11
  go_wp2_with fail
  refine (sum_had w11 s2 _ H11.out.had2).mono ?_
  rintro e w12 ⟨rfl, hb12⟩
  have H12 := Lib.hid (H11.out.below hb12)
  rw [← HTL.out]
  obtain ⟨t, ht⟩ : ∃ t, tagL key b = t := ⟨_, rfl⟩
  have htl : t.length = 32 := by rw [← ht]; exact tagL_len _ _
  rw [ht]
  have HT := Lib.hid ht
  clear ht H11 hb12
  have hcs : ((t.map u8v).toArray).size = 32 := by simp [htl]
  rename_i K hK
  refine hK _ _ ?_
  refine wpList_store_row rfl 23 (.tmp 4) (.tmp 27) rfl w.heap.size (t.map u8v).toArray rfl rfl 23 zero32 H12.out.blk (by rw [hcs]; exact info_b32) (by rw [hcs]; rfl) (bytes_one t) ?_
  refine wpList_nil ?_
  rename_i K2 hK2
  show K2 _ _
  refine hK2 _ _ ?_
  go_wp2_with fail
  refine bodyPost_ret (results_cell_row rfl _ _ w.heap.size 23 (t.map u8v).toArray (0, 0) _ rfl (H12.out.blk.setRow _) Tryd.underlying23 rfl (by rw [hcs]; exact info_b32)) rfl ?_
  exact ⟨by rw [HT.out], below_setRow H12.out.bel (Nat.le_refl _) _⟩
end Go.Proofs.YtocbahahienigaaDoor
