/- Whole arrays of 32 bytes compared. · The laws of chapter 4: alive; whole arrays of bytes compared. · The reference's Tag; waterlinelaw4.HmacTags: the walk. -/
import Derived.Test.YtpafenlcgcenlaaGreatDoorNorQ
import Derived.Stop.BytesEq
import Derived.Lib.SmallJoins
import Derived.Test.YtpafenlcgcenlaaGreatDoorHmA
import Derived.Test.YtpafenlcgcenlaaGreatDoorRsB
namespace Go.Proofs.YtpafenlcgcenlaaGreatDoor
open Go Go.RowKit
set_option linter.unusedVariables false
set_option linter.unusedSimpArgs false
end Go.Proofs.YtpafenlcgcenlaaGreatDoor
namespace Go.Proofs.YtpafenlcgcenlaaGreatDoor
open Go Go.RowKit
set_option linter.unusedVariables false
set_option linter.unusedSimpArgs false
end Go.Proofs.YtpafenlcgcenlaaGreatDoor
namespace Go.Proofs.YtpafenlcgcenlaaGreatDoor
open Go Go.RowKit
set_option linter.unusedVariables false
set_option linter.unusedSimpArgs false
theorem take_succ_map (l : List UInt8) (x : UInt8) (k : Nat) (hk : k < l.length) : (((l.map (fun c => c ^^^ x)).take (k + 1)).map u8v) = ((l.map (fun c => c ^^^ x)).take k).map u8v ++ [u8v (l.getD k 0 ^^^ x)] := by
 rw [List.take_succ_eq_append_getElem (by rw [List.length_map]; exact hk), List.map_append]
 congr 1
 rw [List.getD_eq_getElem?_getD, List.getElem?_eq_getElem hk]
 simp
theorem copy64 (key : List UInt8) : splice (List.replicate 64 (u8v 0)) 0 ((key.take 64).map u8v) = (key.take 64 ++ List.replicate (64 - (key.take 64).length) 0).map u8v := by
 unfold splice
 rw [List.take_zero, List.nil_append, Nat.zero_add, List.length_map, List.drop_replicate, List.map_append, List.map_replicate]
theorem keep_own {w w' : World} {base : Nat} {e : TypeId} {A1 A2 : Option Addr} {n c c1 n1 : Nat} {xs : List Value} (h : w.ownsRow base e 1 (.slice A2 n c) n xs) (hg : w.grownBy w' (Value.slice A1 n1 c1).ownBlock) (hd : ∀ a1 a2, A1 = some a1 → A2 = some a2 → a1.block ≠ a2.block) : w'.ownsRow base e 1 (.slice A2 n c) n xs := by
 refine h.kept hg ?_
 cases A2 with
 | none => left; rfl
 | some a2 =>
  right
  cases A1 with
  | none => intro h2; cases h2
  | some a1 =>
   intro h2
   have h3 : a2.block = a1.block := by simpa [Value.ownBlock] using h2
   exact hd a1 a2 rfl rfl h3.symm
set_option maxRecDepth 100000 in
set_option maxHeartbeats 2000000 in
theorem rtag_c (w : World) (A B : Option Addr) (n c m c2 : Nat) (key b : List UInt8) (rk : Reads w A n (key.map u8v)) (rb : Reads w B m (b.map u8v)) (hn : n ≤ 274877906944) (hm : m ≤ 2748779069) :
  Calls Tryz.prog 72 #[.slice A n c, .slice B m c2] w fun e w' => e = .returned (.agg ((tagL key b).map u8v).toArray) ∧ Below w.heap.size w w' := by
 obtain ⟨i0, hi, hz0, hz1, hz2⟩ := info_parts info_u8
 have HI := Lib.hid hi
 have HZ0 := Lib.hid hz0
 have HZ1 := Lib.hid hz1
 have HZ2 := Lib.hid hz2
 have hkn : key.length = n := by simpa using rk.len
 have hbl : b.length = m := by simpa using rb.len
 have RK := Lib.hid rk
 have RB := Lib.hid rb
 clear rk rb hi hz0 hz1 hz2
 have htk : (key.take 64).length = min 64 n := by rw [List.length_take, hkn]
 go_enter Tryz.func72, Tryz.ntmps72
 go_upto_region 1 with fail
 have hZ : Blk (w.alloc (.cells zero32 39)) w.heap.size 39 zero32 := Blk.new w _ _
 have hb1 : Below w.heap.size w (w.alloc (.cells zero32 39)) := (Below.refl _ _).alloc (Nat.le_refl _) _
 have hs1 : w.heap.size < (w.alloc (.cells zero32 39)).heap.size := by simp
 generalize w.alloc (.cells zero32 39) = w1 at hZ hb1 hs1 ⊢
 obtain ⟨R0, hR0⟩ : ∃ R, R = List.replicate 64 (u8v 0) := ⟨_, rfl⟩
 have hr0l : R0.length = 64 := by rw [hR0, List.length_replicate]
 have HR0 := Lib.hid hR0
 have hmk : (Instr.makeSlice 22 (.int .i64 64) (.int .i64 64)).run Tryz.prog w1 = .ok (.slice (some ⟨w1.heap.size, 0, none⟩) 64 64) (w1.alloc (.cells R0.toArray 5)) := by rw [hR0]; exact make_bytes 64 (by omega) w1
 have hmkAll : ∀ W : World, (Instr.makeSlice 22 (.int .i64 64) (.int .i64 64)).run Tryz.prog W = .ok (.slice (some ⟨W.heap.size, 0, none⟩) 64 64) (W.alloc (.cells R0.toArray 5)) := fun W => by rw [hR0]; exact make_bytes 64 (by omega) W
 have HMK := Lib.hid hmkAll
 clear hR0 hmkAll
 obtain ⟨C0, hC0⟩ : ∃ C, C = (key.take 64).map u8v := ⟨_, rfl⟩
 have hC0l : C0.length = min 64 n := by rw [hC0, List.length_map, htk]
 have HC0 := Lib.hid hC0
 have hone : ∀ v ∈ C0, v.oneCell' = true := by rw [hC0]; exact u8v_one _
 have HO1 := Lib.hid hone
 have K1 := Lib.hid (heap_alloc_new w1 (Obj.cells R0.toArray 5))
 have K2 : Hid (C0.length = Nat.min n 64) := Lib.hid (by rw [hC0l]; show min 64 n = min n 64; omega)
 have hrk1 : Reads (w1.alloc (.cells R0.toArray 5)) A (min n 64) C0 := by
  rw [hC0, List.map_take]
  rcases Nat.lt_or_ge 64 n with h | h
  ·
   rw [show min n 64 = 64 by omega]; exact ((RK.out.below hb1).alloc _).take (by omega)
  ·
   rw [show min n 64 = n by omega, List.take_of_length_le (by rw [List.length_map, hkn]; exact h)]; exact (RK.out.below hb1).alloc _
 have K3 := Lib.hid hrk1
 have hfit : 0 + C0.length ≤ R0.length := by rw [hC0l, hr0l]; omega
 have hZ2 := hZ.alloc (.cells R0.toArray 5)
 have hb2 := hb1.alloc hb1.size (.cells R0.toArray 5)
 have HZ3 := Lib.hid hZ2
 have HB3 := Lib.hid hb2
 clear hone hrk1 hC0 hZ hb1 hZ2 hb2
 go_upto_region 3 with (with_reducible refine wpList_copy_splice rfl (.tmp 12) (.tmp 13) 22 22 rfl 5 Tryz.underlying22 info_s8 (some ⟨w1.heap.size, 0, none⟩) A 64 64 n c rfl rfl w1.heap.size 0 R0 5 K1.out C0 K2.out (fun h => ⟨rfl, K3.out.src h⟩) hfit HO1.out w1.heap.size _ (Below.refl _ _) (Nat.le_refl _) ?_; intro w3 HG3 hB3)
 have hsA : w1.heap.size < (w1.alloc (.cells R0.toArray 5)).heap.size := by simp
 have hz4 := HZ3.out.below hB3 (by omega)
 have hb4 := HB3.out.trans (hB3.mono (by omega))
 have hG4 : Blk w3 w1.heap.size 5 ((key.take 64 ++ List.replicate (64 - (key.take 64).length) 0).map u8v).toArray := by
  have h := HG3.out
  rw [HR0.out, HC0.out, copy64] at h
  exact h
 have hs3 := hB3.size
 have HZK0 := Lib.hid hz4
 have HBK0 := Lib.hid hb4
 have HG4 := Lib.hid hG4
 clear hz4 hb4 hG4 HG3 hB3 hmk K1 K2 K3 HO1 HZ3 HB3 hfit
 by_cases h64 : 64 < n
 ·
  have hko : keyOf key = sha key := by unfold keyOf; rw [if_pos (by omega)]
  go_wp2_with fail
  refine (rsha_d w3 A n c key hkn (RK.out.below HBK0.out) hn).mono ?_
  rintro e w4 ⟨rfl, hb5⟩
  obtain ⟨d, hd⟩ : ∃ d, sha key = d := ⟨_, rfl⟩
  have hdl : d.length = 32 := by rw [← hd]; exact sha_len _
  rw [hd] at hko ⊢
  have HKO := Lib.hid hko
  have hsz2 : ((d.map u8v).toArray).size = 32 := by simp [hdl]
  have hz5 := HZK0.out.below hb5 HZK0.out.lt
  have hb6 := HBK0.out.trans (hb5.mono HBK0.out.size)
  clear hd hko
  rename_i K hK
  refine hK _ _ ?_
  refine wpList_alloc_store rfl rfl 39 rfl 6 rfl (.tmp 6) (.tmp 19) rfl rfl (.agg zero32) info_z32 (d.map u8v).toArray (by rw [hsz2]; exact info_b32) (by rw [hsz2]; rfl) (bytes_one d) rfl rfl ?_
  have hD := (Blk.new w4 39 (d.map u8v).toArray).bytes hdl
  have hz7 := hz5.alloc (.cells (d.map u8v).toArray 39)
  have hb7 := hb6.alloc hb6.size (.cells (d.map u8v).toArray 39)
  generalize w4.alloc (.cells (d.map u8v).toArray 39) = w7 at hD hz7 hb7 ⊢
  have hmk := HMK.out w7
  have K1 := Lib.hid (heap_alloc_new w7 (Obj.cells R0.toArray 5))
  obtain ⟨C1, hC1⟩ : ∃ C, C = d.map u8v := ⟨_, rfl⟩
  have hC1l : C1.length = 32 := by rw [hC1, List.length_map, hdl]
  have HC1 := Lib.hid hC1
  have HO1 := Lib.hid (show ∀ v ∈ C1, v.oneCell' = true by rw [hC1]; exact u8v_one _)
  have K2 : Hid (C1.length = Nat.min 32 64) := Lib.hid hC1l
  have K3 := Lib.hid (show Reads (w7.alloc (.cells R0.toArray 5)) (some ⟨w4.heap.size, 0, none⟩) 32 C1 by rw [hC1]; exact hD.alloc _)
  have hfit : 0 + C1.length ≤ R0.length := by rw [hC1l, hr0l]; omega
  have HZ8 := Lib.hid (hz7.alloc (.cells R0.toArray 5))
  have HB8 := Lib.hid (hb7.alloc hb7.size (.cells R0.toArray 5))
  have hz7l := hz7.lt
  clear hC1 hD hz7 hb7 hb5 hz5 hb6 hsz2 HZK0 HBK0 HG4
  refine wpList_nil ?_
  rename_i K2' hK2
  show K2' _ _
  refine hK2 _ _ ?_
  go_upto_region 7 with (with_reducible refine wpList_copy_splice rfl (.tmp 21) (.tmp 22) 22 22 rfl 5 Tryz.underlying22 info_s8 (some ⟨w7.heap.size, 0, none⟩) (some ⟨w4.heap.size, 0, none⟩) 64 64 32 32 rfl rfl w7.heap.size 0 R0 5 K1.out C1 K2.out (fun h => ⟨rfl, K3.out.src h⟩) hfit HO1.out w7.heap.size _ (Below.refl _ _) (Nat.le_refl _) ?_; intro w9 HG9 hB9)
  have HZK := Lib.hid (HZ8.out.below hB9 hz7l)
  have hsB : w7.heap.size < (w7.alloc (.cells R0.toArray 5)).heap.size := by simp
  have HBK := Lib.hid (HB8.out.trans (hB9.mono (by omega)))
  have hG9 : Blk w9 w7.heap.size 5 ((keyBlock key).map u8v).toArray := by
   have h := HG9.out
   rw [HR0.out, HC1.out] at h
   have e : splice (List.replicate 64 (u8v 0)) 0 (d.map u8v) = (keyBlock key).map u8v := by
    unfold keyBlock
    rw [HKO.out]
    unfold splice
    rw [List.take_zero, List.nil_append, Nat.zero_add, List.length_map, List.drop_replicate, List.map_append, List.map_replicate]
   rw [e] at h
   exact h
  clear HG9 hB9 hmk K1 K2 K3 HO1 HZ8 HB8 hfit
  have HK := Lib.hid hG9
  have hsz := HBK.out.size
  have hkl := keyBlock_len key
  have hpi : padL key 54 = (keyBlock key).map (fun c => c ^^^ 54) := rfl
  have hpo : padL key 92 = (keyBlock key).map (fun c => c ^^^ 92) := rfl
  have HPI := Lib.hid hpi
  have HPO := Lib.hid hpo
  obtain ⟨kb, hkb⟩ : ∃ kb, keyBlock key = kb := ⟨_, rfl⟩
  rw [hkb] at hkl
  have HKB := Lib.hid hkb
  obtain ⟨pi, hpie⟩ : ∃ p, padL key 54 = p := ⟨_, rfl⟩
  obtain ⟨po, hpoe⟩ : ∃ p, padL key 92 = p := ⟨_, rfl⟩
  have hpi2 : pi = kb.map (fun c => c ^^^ 54) := by rw [← hpie, ← hkb]; rfl
  have hpo2 : po = kb.map (fun c => c ^^^ 92) := by rw [← hpoe, ← hkb]; rfl
  have htg : tagL key b = sha (po ++ sha (pi ++ b)) := by rw [← hpie, ← hpoe]; rfl
  have HTG := Lib.hid htg
  have HPI2 := Lib.hid hpi2
  have HPO2 := Lib.hid hpo2
  rw [hkb] at HK
  clear hpi hpo HPI HPO hpie hpoe hpi2 hpo2 hkb htg HKB
  go_upto_region 9 with fail
  go_loopw [7, 8, 9] (fun v1 v2 i wr => ∃ (k : Nat) (A1 A2 : Option Addr) (c1 c2 : Nat), k ≤ 64 ∧ v1 = .slice A1 k c1 ∧ v2 = .slice A2 k c2 ∧ i = .int .i64 k ∧ wr.ownsRow w9.heap.size 5 1 (.slice A1 k c1) k ((pi.take k).map u8v) ∧ wr.ownsRow w9.heap.size 5 1 (.slice A2 k c2) k ((po.take k).map u8v) ∧ (∀ a1 a2, A1 = some a1 → A2 = some a2 → a1.block ≠ a2.block) ∧ Below w9.heap.size w9 wr) (fun _ _ i _ => 64 - (intOf i).toNat)
  case atStart => exact ⟨0, none, none, 0, 0, by omega, rfl, rfl, rfl, World.ownsRow_nil _ _ _ _, World.ownsRow_nil _ _ _ _, (fun a1 a2 h => by cases h), Below.refl _ _⟩
  case round =>
   obtain ⟨k, A1, A2, c1, c2', hk, rfl, rfl, rfl, ho1, ho2, hdis, hbel⟩ := hrel
   have H1 := Lib.hid ho1
   have H2 := Lib.hid ho2
   have HD := Lib.hid hdis
   have HL := Lib.hid hbel
   have hbs := hbel.size
   clear ho1 ho2 hdis hbel
   by_cases hlt : k < 64
   ·
    have hgk : Blk wr w7.heap.size 5 (kb.map u8v).toArray := HK.out.below HL.out HK.out.lt
    have hc := (hgk.bytes hkl).cellD k hlt
    rw [Nat.zero_add] at hc
    have hglt := hgk.lt
    have e1 : ((pi.take (k + 1)).map u8v) = (pi.take k).map u8v ++ [u8v (kb.getD k 0 ^^^ 54)] := by rw [HPI2.out]; exact take_succ_map kb 54 k (by omega)
    have e2 : ((po.take (k + 1)).map u8v) = (po.take k).map u8v ++ [u8v (kb.getD k 0 ^^^ 92)] := by rw [HPO2.out]; exact take_succ_map kb 92 k (by omega)
    have E1 := Lib.hid e1
    have E2 := Lib.hid e2
    clear hgk e1 e2
    generalize kb.getD k 0 = y at *
    have x1 : bits .xor .u8 (y.toNat : Int) 54 = ((y ^^^ 54).toNat : Int) := u8_xorc y 54
    have x2 : bits .xor .u8 (y.toNat : Int) 92 = ((y ^^^ 92).toNat : Int) := u8_xorc y 92
    go_upto_region 12 with (at_builtin; refine wpList_append_any _ rfl (.tmp 28) (.tmp 34) _ rfl w9.heap.size 5 i0 (.int .u8 0) 1 Tryz.underlying22 HI.out HZ0.out HZ1.out HZ2.out rfl _ k ((pi.take k).map u8v) ?_ (H1.out.alloc _) (some ⟨wr.heap.size, 0, none⟩) 1 1 [u8v (y ^^^ 54)] ?_ ((Blk.new wr 5 #[u8v (y ^^^ 54)]).reads 0 (by simp)) ?_ ?_ ?_ ?_ ?_)
    ·
     rfl
    ·
     rfl
    ·
     intro u hu; simp at hu; subst hu; rfl
    ·
     unfold maxLen; omega
    ·
     omega
    ·
     simp; omega
    intro A3 c3 w4 hown3 hgrow3 hat3
    have hl1 := H1.out.lt
    have h2l := H2.out.lt
    have ho2 := keep_own (H2.out.alloc (.cells #[u8v (y ^^^ 54)] 5)) hgrow3 HD.out
    have hb4 := (HL.out.alloc hbs (.cells #[u8v (y ^^^ 54)] 5)).grown hgrow3 (by simp; omega) (fun g hg => (hl1 g hg).1)
    have hs4 := hgrow3.size
    simp only [World.size_alloc] at hs4
    have hd4 : ∀ a1 a2, A3 = some a1 → A2 = some a2 → a1.block ≠ a2.block := by
     intro a1 a2 h3 h2 e
     subst h3; subst h2
     rcases hat3 a1 rfl with h | h
     ·
      have hh := HD.out
      cases A1 with
      | none => cases h
      | some a0 =>
       have h5 : a0.block = a1.block := by simpa [Value.ownBlock] using h
       exact hh a0 a2 rfl rfl (h5.trans e)
     ·
      have := (h2l a2.block rfl).2
      try simp only [World.size_alloc] at h
      omega
    have hown4 : w4.ownsRow w9.heap.size 5 1 (.slice A3 (k + 1) c3) (k + 1) ((pi.take (k + 1)).map u8v) := by rw [E1.out, List.map_take]; exact hown3
    have hc4 : w4.cell? ⟨w7.heap.size, k, none⟩ = some (u8v y) := by
     rw [show w4.cell? ⟨w7.heap.size, k, none⟩ = wr.cell? ⟨w7.heap.size, k, none⟩ from World.cell?_of_block (a := ⟨w7.heap.size, k, none⟩) (by
      show w4.heap[w7.heap.size]? = wr.heap[w7.heap.size]?
      rw [hb4.block w7.heap.size HK.out.lt, HL.out.block w7.heap.size HK.out.lt])]
     exact hc
    have HO3 := Lib.hid hown4
    have HO4 := Lib.hid ho2
    have HD4 := Lib.hid hd4
    have HB4 := Lib.hid hb4
    have hb4s := hb4.size
    clear hown3 hown4 hgrow3 hat3 ho2 hb4 hd4 hc hl1
    go_upto_region 10 with (at_builtin; refine wpList_append_any _ rfl (.tmp 36) (.tmp 42) _ rfl w9.heap.size 5 i0 (.int .u8 0) 1 Tryz.underlying22 HI.out HZ0.out HZ1.out HZ2.out rfl _ k ((po.take k).map u8v) ?_ (HO4.out.alloc _) (some ⟨w4.heap.size, 0, none⟩) 1 1 [u8v (y ^^^ 92)] ?_ ((Blk.new w4 5 #[u8v (y ^^^ 92)]).reads 0 (by simp)) ?_ ?_ ?_ ?_ ?_)
    ·
     rfl
    ·
     rfl
    ·
     intro u hu; simp at hu; subst hu; rfl
    ·
     unfold maxLen; omega
    ·
     omega
    ·
     simp; omega
    intro A5 c5 w5 hown5 hgrow5 hat5
    have h4l := HO4.out.lt
    have h3l := HO3.out.lt
    have ho1 := keep_own (HO3.out.alloc (.cells #[u8v (y ^^^ 92)] 5)) hgrow5 (fun a1 a2 h1 h2 e => HD4.out a2 a1 h2 h1 e.symm)
    have hb5 := (HB4.out.alloc hb4s (.cells #[u8v (y ^^^ 92)] 5)).grown hgrow5 (by simp; omega) (fun g hg => (h4l g hg).1)
    have hd5 : ∀ a1 a2, A3 = some a1 → A5 = some a2 → a1.block ≠ a2.block := by
     intro a1 a2 h3 h2 e
     subst h3; subst h2
     rcases hat5 a2 rfl with h | h
     ·
      have hh := HD4.out
      cases A2 with
      | none => cases h
      | some a0 =>
       have h5 : a0.block = a2.block := by simpa [Value.ownBlock] using h
       exact hh a1 a0 rfl rfl (e.trans h5.symm)
     ·
      have := (h3l a1.block rfl).2
      try simp only [World.size_alloc] at h
      omega
    have hown6 : w5.ownsRow w9.heap.size 5 1 (.slice A5 (k + 1) c5) (k + 1) ((po.take (k + 1)).map u8v) := by rw [E2.out, List.map_take]; exact hown5
    clear hown5 hgrow5 hat5
    go_wp2_with fail
    go_roundw
    case rel => exact ⟨k + 1, A3, A5, c3, c5, by omega, rfl, rfl, by go_num, ho1, hown6, hd5, hb5⟩
    case measure => simp [intOf]; omega
   ·
    obtain rfl : k = 64 := by omega
    have hpil : pi.length = 64 := by rw [HPI2.out, List.length_map, hkl]
    have hpol : po.length = 64 := by rw [HPO2.out, List.length_map, hkl]
    have h1 : wr.ownsRow w9.heap.size 5 1 (.slice A1 64 c1) 64 (pi.map u8v) := by have h := H1.out; rw [List.take_of_length_le (by omega)] at h; exact h
    have h2 : wr.ownsRow w9.heap.size 5 1 (.slice A2 64 c2') 64 (po.map u8v) := by have h := H2.out; rw [List.take_of_length_le (by omega)] at h; exact h
    have H1' := Lib.hid h1
    have H2' := Lib.hid h2
    clear h1 h2 H1 H2
    have HBR := Lib.hid (HBK.out.trans (HL.out.mono hsz))
    have hzz : Blk wr w.heap.size 39 zero32 := HZK.out.below HL.out HZK.out.lt
    have HZR := Lib.hid hzz
    clear hzz
    go_upto_region 14 with (at_builtin; refine wpList_append_any _ rfl (.tmp 44) (.tmp 45) _ rfl w9.heap.size 5 i0 (.int .u8 0) 1 Tryz.underlying22 HI.out HZ0.out HZ1.out HZ2.out rfl _ 64 (pi.map u8v) ?_ H1'.out B m c2 (b.map u8v) ?_ (RB.out.below HBR.out) (u8v_one _) ?_ ?_ ?_ ?_)
    ·
     rfl
    ·
     rfl
    ·
     unfold maxLen; omega
    ·
     omega
    ·
     omega
    intro A3 c3 w4 hown3 hgrow3 hat3
    have h2l := H2'.out.lt
    have hl1 := H1'.out.lt
    have hs4 := hgrow3.size
    have ho2 := keep_own H2'.out hgrow3 HD.out
    have hb4 := HBR.out.grown hgrow3 (by have := HBR.out.size; omega) (fun g hg => by have := (hl1 g hg).1; omega)
    have hz4 := HZR.out.grown hgrow3 (fun e => by have := (hl1 w.heap.size e.symm).1; have := HZK.out.lt; omega)
    have hr4 := Reads.of_own hown3
    rw [← List.map_append] at hr4
    have HR4 := Lib.hid hr4
    have HO4 := Lib.hid ho2
    have HB4 := Lib.hid hb4
    have HZ4 := Lib.hid hz4
    clear hown3 hgrow3 hat3 ho2 hb4 hz4 hr4 h2l hl1
    go_wp2_with fail
    refine (rsha_d w4 A3 (64 + m) c3 (pi ++ b) (by rw [List.length_append, hpil, hbl]) HR4.out (by omega)).mono ?_
    rintro e w5 ⟨rfl, hb5⟩
    obtain ⟨d, hd⟩ : ∃ d, sha (pi ++ b) = d := ⟨_, rfl⟩
    have hdl : d.length = 32 := by rw [← hd]; exact sha_len _
    rw [hd]
    have htg2 : tagL key b = sha (po ++ d) := by rw [HTG.out, hd]
    have HTG2 := Lib.hid htg2
    have hsz2 : ((d.map u8v).toArray).size = 32 := by simp [hdl]
    have ho5 := own_only HO4.out (Only.of_below (S := []) hb5) (by simp)
    have hz5 := HZ4.out.below hb5 HZ4.out.lt
    have hb6 := HB4.out.trans (hb5.mono HB4.out.size)
    clear hd htg2
    rename_i K hK
    refine hK _ _ ?_
    refine wpList_alloc_store rfl rfl 39 rfl 10 rfl (.tmp 10) (.tmp 47) rfl rfl (.agg zero32) info_z32 (d.map u8v).toArray (by rw [hsz2]; exact info_b32) (by rw [hsz2]; rfl) (bytes_one d) rfl rfl ?_
    have hD := (Blk.new w5 39 (d.map u8v).toArray).bytes hdl
    have ho7 := ho5.alloc (.cells (d.map u8v).toArray 39)
    have hz7 := hz5.alloc (.cells (d.map u8v).toArray 39)
    have hb7 := hb6.alloc hb6.size (.cells (d.map u8v).toArray 39)
    have hs5 := hb5.size
    have hs7 : w5.heap.size < (w5.alloc (.cells (d.map u8v).toArray 39)).heap.size := by simp
    generalize w5.alloc (.cells (d.map u8v).toArray 39) = w7 at hD ho7 hz7 hb7 hs7 ⊢
    have HD7 := Lib.hid hD
    have HO7 := Lib.hid ho7
    have HZ7 := Lib.hid hz7
    have HB7 := Lib.hid hb7
    clear hD ho7 hz7 hb7 hb5 ho5 hz5 hb6 hsz2 HR4 HO4 HB4 HZ4
    refine wpList_nil ?_
    rename_i K2 hK2
    show K2 _ _
    refine hK2 _ _ ?_
    simp only [Act.put, List.setIfInBounds_toArray, List.set_cons_succ, List.set_cons_zero]
    go_upto_region 15 with (at_builtin; refine wpList_append_any _ rfl (.tmp 48) (.tmp 49) _ rfl w9.heap.size 5 i0 (.int .u8 0) 1 Tryz.underlying22 HI.out HZ0.out HZ1.out HZ2.out rfl _ 64 (po.map u8v) ?_ HO7.out (some ⟨w5.heap.size, 0, none⟩) 32 32 (d.map u8v) ?_ HD7.out (u8v_one _) ?_ ?_ ?_ ?_)
    ·
     rfl
    ·
     rfl
    ·
     unfold maxLen; omega
    ·
     omega
    ·
     omega
    intro A8 c8 w8 hown8 hgrow8 hat8
    have hl7 := HO7.out.lt
    have hb8 := HB7.out.grown hgrow8 (by have := HB7.out.size; omega) (fun g hg => by have := (hl7 g hg).1; omega)
    have hz8 := HZ7.out.grown hgrow8 (fun e => by have := (hl7 w.heap.size e.symm).1; have := HZK.out.lt; omega)
    have hr8 := Reads.of_own hown8
    rw [← List.map_append] at hr8
    have HR8 := Lib.hid hr8
    have HB8 := Lib.hid hb8
    have HZ8 := Lib.hid hz8
    clear hown8 hgrow8 hat8 hb8 hz8 hr8 hl7 HO7 HZ7 HB7 HD7
    go_wp2_with fail
    refine (rsha_d w8 A8 96 c8 (po ++ d) (by rw [List.length_append, hpol, hdl]) HR8.out (by omega)).mono ?_
    rintro e w9 ⟨rfl, hb9⟩
    rw [← HTG2.out]
    obtain ⟨t, ht⟩ : ∃ t, tagL key b = t := ⟨_, rfl⟩
    have htl : t.length = 32 := by rw [← ht]; exact tagL_len _ _
    rw [ht]
    have HT := Lib.hid ht
    have hz9 := HZ8.out.below hb9 HZ8.out.lt
    have hb10 := HB8.out.trans (hb9.mono HB8.out.size)
    have HZ9 := Lib.hid hz9
    have HB10 := Lib.hid hb10
    have hcs : ((t.map u8v).toArray).size = 32 := by simp [htl]
    clear ht hb9 hz9 hb10
    rename_i K hK
    refine hK _ _ ?_
    refine wpList_store_row rfl 39 (.tmp 4) (.tmp 51) rfl w.heap.size (t.map u8v).toArray rfl rfl 39 zero32 HZ9.out (by rw [hcs]; exact info_b32) (by rw [hcs]; rfl) (bytes_one t) ?_
    refine wpList_nil ?_
    rename_i K2 hK2
    show K2 _ _
    refine hK2 _ _ ?_
    go_wp2_with fail
    refine bodyPost_ret (results_cell_row rfl _ _ w.heap.size 39 (t.map u8v).toArray (0, 0) _ rfl (HZ9.out.setRow _) Tryz.underlying39 rfl (by rw [hcs]; exact info_b32)) rfl ?_
    exact ⟨by rw [HT.out], below_setRow HB10.out (Nat.le_refl _) _⟩
 ·
  have hke : keyBlock key = key.take 64 ++ List.replicate (64 - (key.take 64).length) 0 := by
   unfold keyBlock keyOf
   rw [if_neg (by omega), List.take_of_length_le (by omega)]
  have hG9 : Blk w3 w1.heap.size 5 ((keyBlock key).map u8v).toArray := by rw [hke]; exact HG4.out
  have HZK := HZK0
  have HBK := HBK0
  clear hke HG4
  go_upto_region 7 with fail
  have HK := Lib.hid hG9
  have hsz := HBK.out.size
  have hkl := keyBlock_len key
  have hpi : padL key 54 = (keyBlock key).map (fun c => c ^^^ 54) := rfl
  have hpo : padL key 92 = (keyBlock key).map (fun c => c ^^^ 92) := rfl
  have HPI := Lib.hid hpi
  have HPO := Lib.hid hpo
  obtain ⟨kb, hkb⟩ : ∃ kb, keyBlock key = kb := ⟨_, rfl⟩
  rw [hkb] at hkl
  have HKB := Lib.hid hkb
  obtain ⟨pi, hpie⟩ : ∃ p, padL key 54 = p := ⟨_, rfl⟩
  obtain ⟨po, hpoe⟩ : ∃ p, padL key 92 = p := ⟨_, rfl⟩
  have hpi2 : pi = kb.map (fun c => c ^^^ 54) := by rw [← hpie, ← hkb]; rfl
  have hpo2 : po = kb.map (fun c => c ^^^ 92) := by rw [← hpoe, ← hkb]; rfl
  have htg : tagL key b = sha (po ++ sha (pi ++ b)) := by rw [← hpie, ← hpoe]; rfl
  have HTG := Lib.hid htg
  have HPI2 := Lib.hid hpi2
  have HPO2 := Lib.hid hpo2
  rw [hkb] at HK
  clear hpi hpo HPI HPO hpie hpoe hpi2 hpo2 hkb htg HKB
  go_upto_region 9 with fail
  go_loopw [7, 8, 9] (fun v1 v2 i wr => ∃ (k : Nat) (A1 A2 : Option Addr) (c1 c2 : Nat), k ≤ 64 ∧ v1 = .slice A1 k c1 ∧ v2 = .slice A2 k c2 ∧ i = .int .i64 k ∧ wr.ownsRow w3.heap.size 5 1 (.slice A1 k c1) k ((pi.take k).map u8v) ∧ wr.ownsRow w3.heap.size 5 1 (.slice A2 k c2) k ((po.take k).map u8v) ∧ (∀ a1 a2, A1 = some a1 → A2 = some a2 → a1.block ≠ a2.block) ∧ Below w3.heap.size w3 wr) (fun _ _ i _ => 64 - (intOf i).toNat)
  case atStart => exact ⟨0, none, none, 0, 0, by omega, rfl, rfl, rfl, World.ownsRow_nil _ _ _ _, World.ownsRow_nil _ _ _ _, (fun a1 a2 h => by cases h), Below.refl _ _⟩
  case round =>
   obtain ⟨k, A1, A2, c1, c2', hk, rfl, rfl, rfl, ho1, ho2, hdis, hbel⟩ := hrel
   have H1 := Lib.hid ho1
   have H2 := Lib.hid ho2
   have HD := Lib.hid hdis
   have HL := Lib.hid hbel
   have hbs := hbel.size
   clear ho1 ho2 hdis hbel
   by_cases hlt : k < 64
   ·
    have hgk : Blk wr w1.heap.size 5 (kb.map u8v).toArray := HK.out.below HL.out HK.out.lt
    have hc := (hgk.bytes hkl).cellD k hlt
    rw [Nat.zero_add] at hc
    have hglt := hgk.lt
    have e1 : ((pi.take (k + 1)).map u8v) = (pi.take k).map u8v ++ [u8v (kb.getD k 0 ^^^ 54)] := by rw [HPI2.out]; exact take_succ_map kb 54 k (by omega)
    have e2 : ((po.take (k + 1)).map u8v) = (po.take k).map u8v ++ [u8v (kb.getD k 0 ^^^ 92)] := by rw [HPO2.out]; exact take_succ_map kb 92 k (by omega)
    have E1 := Lib.hid e1
    have E2 := Lib.hid e2
    clear hgk e1 e2
    generalize kb.getD k 0 = y at *
    have x1 : bits .xor .u8 (y.toNat : Int) 54 = ((y ^^^ 54).toNat : Int) := u8_xorc y 54
    have x2 : bits .xor .u8 (y.toNat : Int) 92 = ((y ^^^ 92).toNat : Int) := u8_xorc y 92
    go_upto_region 12 with (at_builtin; refine wpList_append_any _ rfl (.tmp 28) (.tmp 34) _ rfl w3.heap.size 5 i0 (.int .u8 0) 1 Tryz.underlying22 HI.out HZ0.out HZ1.out HZ2.out rfl _ k ((pi.take k).map u8v) ?_ (H1.out.alloc _) (some ⟨wr.heap.size, 0, none⟩) 1 1 [u8v (y ^^^ 54)] ?_ ((Blk.new wr 5 #[u8v (y ^^^ 54)]).reads 0 (by simp)) ?_ ?_ ?_ ?_ ?_)
    ·
     rfl
    ·
     rfl
    ·
     intro u hu; simp at hu; subst hu; rfl
    ·
     unfold maxLen; omega
    ·
     omega
    ·
     simp; omega
    intro A3 c3 w4 hown3 hgrow3 hat3
    have hl1 := H1.out.lt
    have h2l := H2.out.lt
    have ho2 := keep_own (H2.out.alloc (.cells #[u8v (y ^^^ 54)] 5)) hgrow3 HD.out
    have hb4 := (HL.out.alloc hbs (.cells #[u8v (y ^^^ 54)] 5)).grown hgrow3 (by simp; omega) (fun g hg => (hl1 g hg).1)
    have hs4 := hgrow3.size
    simp only [World.size_alloc] at hs4
    have hd4 : ∀ a1 a2, A3 = some a1 → A2 = some a2 → a1.block ≠ a2.block := by
     intro a1 a2 h3 h2 e
     subst h3; subst h2
     rcases hat3 a1 rfl with h | h
     ·
      have hh := HD.out
      cases A1 with
      | none => cases h
      | some a0 =>
       have h5 : a0.block = a1.block := by simpa [Value.ownBlock] using h
       exact hh a0 a2 rfl rfl (h5.trans e)
     ·
      have := (h2l a2.block rfl).2
      try simp only [World.size_alloc] at h
      omega
    have hown4 : w4.ownsRow w3.heap.size 5 1 (.slice A3 (k + 1) c3) (k + 1) ((pi.take (k + 1)).map u8v) := by rw [E1.out, List.map_take]; exact hown3
    have hc4 : w4.cell? ⟨w1.heap.size, k, none⟩ = some (u8v y) := by
     rw [show w4.cell? ⟨w1.heap.size, k, none⟩ = wr.cell? ⟨w1.heap.size, k, none⟩ from World.cell?_of_block (a := ⟨w1.heap.size, k, none⟩) (by
      show w4.heap[w1.heap.size]? = wr.heap[w1.heap.size]?
      rw [hb4.block w1.heap.size HK.out.lt, HL.out.block w1.heap.size HK.out.lt])]
     exact hc
    have HO3 := Lib.hid hown4
    have HO4 := Lib.hid ho2
    have HD4 := Lib.hid hd4
    have HB4 := Lib.hid hb4
    have hb4s := hb4.size
    clear hown3 hown4 hgrow3 hat3 ho2 hb4 hd4 hc hl1
    go_upto_region 10 with (at_builtin; refine wpList_append_any _ rfl (.tmp 36) (.tmp 42) _ rfl w3.heap.size 5 i0 (.int .u8 0) 1 Tryz.underlying22 HI.out HZ0.out HZ1.out HZ2.out rfl _ k ((po.take k).map u8v) ?_ (HO4.out.alloc _) (some ⟨w4.heap.size, 0, none⟩) 1 1 [u8v (y ^^^ 92)] ?_ ((Blk.new w4 5 #[u8v (y ^^^ 92)]).reads 0 (by simp)) ?_ ?_ ?_ ?_ ?_)
    ·
     rfl
    ·
     rfl
    ·
     intro u hu; simp at hu; subst hu; rfl
    ·
     unfold maxLen; omega
    ·
     omega
    ·
     simp; omega
    intro A5 c5 w5 hown5 hgrow5 hat5
    have h4l := HO4.out.lt
    have h3l := HO3.out.lt
    have ho1 := keep_own (HO3.out.alloc (.cells #[u8v (y ^^^ 92)] 5)) hgrow5 (fun a1 a2 h1 h2 e => HD4.out a2 a1 h2 h1 e.symm)
    have hb5 := (HB4.out.alloc hb4s (.cells #[u8v (y ^^^ 92)] 5)).grown hgrow5 (by simp; omega) (fun g hg => (h4l g hg).1)
    have hd5 : ∀ a1 a2, A3 = some a1 → A5 = some a2 → a1.block ≠ a2.block := by
     intro a1 a2 h3 h2 e
     subst h3; subst h2
     rcases hat5 a2 rfl with h | h
     ·
      have hh := HD4.out
      cases A2 with
      | none => cases h
      | some a0 =>
       have h5 : a0.block = a2.block := by simpa [Value.ownBlock] using h
       exact hh a1 a0 rfl rfl (e.trans h5.symm)
     ·
      have := (h3l a1.block rfl).2
      try simp only [World.size_alloc] at h
      omega
    have hown6 : w5.ownsRow w3.heap.size 5 1 (.slice A5 (k + 1) c5) (k + 1) ((po.take (k + 1)).map u8v) := by rw [E2.out, List.map_take]; exact hown5
    clear hown5 hgrow5 hat5
    go_wp2_with fail
    go_roundw
    case rel => exact ⟨k + 1, A3, A5, c3, c5, by omega, rfl, rfl, by go_num, ho1, hown6, hd5, hb5⟩
    case measure => simp [intOf]; omega
   ·
    obtain rfl : k = 64 := by omega
    have hpil : pi.length = 64 := by rw [HPI2.out, List.length_map, hkl]
    have hpol : po.length = 64 := by rw [HPO2.out, List.length_map, hkl]
    have h1 : wr.ownsRow w3.heap.size 5 1 (.slice A1 64 c1) 64 (pi.map u8v) := by have h := H1.out; rw [List.take_of_length_le (by omega)] at h; exact h
    have h2 : wr.ownsRow w3.heap.size 5 1 (.slice A2 64 c2') 64 (po.map u8v) := by have h := H2.out; rw [List.take_of_length_le (by omega)] at h; exact h
    have H1' := Lib.hid h1
    have H2' := Lib.hid h2
    clear h1 h2 H1 H2
    have HBR := Lib.hid (HBK.out.trans (HL.out.mono hsz))
    have hzz : Blk wr w.heap.size 39 zero32 := HZK.out.below HL.out HZK.out.lt
    have HZR := Lib.hid hzz
    clear hzz
    go_upto_region 14 with (at_builtin; refine wpList_append_any _ rfl (.tmp 44) (.tmp 45) _ rfl w3.heap.size 5 i0 (.int .u8 0) 1 Tryz.underlying22 HI.out HZ0.out HZ1.out HZ2.out rfl _ 64 (pi.map u8v) ?_ H1'.out B m c2 (b.map u8v) ?_ (RB.out.below HBR.out) (u8v_one _) ?_ ?_ ?_ ?_)
    ·
     rfl
    ·
     rfl
    ·
     unfold maxLen; omega
    ·
     omega
    ·
     omega
    intro A3 c3 w4 hown3 hgrow3 hat3
    have h2l := H2'.out.lt
    have hl1 := H1'.out.lt
    have hs4 := hgrow3.size
    have ho2 := keep_own H2'.out hgrow3 HD.out
    have hb4 := HBR.out.grown hgrow3 (by have := HBR.out.size; omega) (fun g hg => by have := (hl1 g hg).1; omega)
    have hz4 := HZR.out.grown hgrow3 (fun e => by have := (hl1 w.heap.size e.symm).1; have := HZK.out.lt; omega)
    have hr4 := Reads.of_own hown3
    rw [← List.map_append] at hr4
    have HR4 := Lib.hid hr4
    have HO4 := Lib.hid ho2
    have HB4 := Lib.hid hb4
    have HZ4 := Lib.hid hz4
    clear hown3 hgrow3 hat3 ho2 hb4 hz4 hr4 h2l hl1
    go_wp2_with fail
    refine (rsha_d w4 A3 (64 + m) c3 (pi ++ b) (by rw [List.length_append, hpil, hbl]) HR4.out (by omega)).mono ?_
    rintro e w5 ⟨rfl, hb5⟩
    obtain ⟨d, hd⟩ : ∃ d, sha (pi ++ b) = d := ⟨_, rfl⟩
    have hdl : d.length = 32 := by rw [← hd]; exact sha_len _
    rw [hd]
    have htg2 : tagL key b = sha (po ++ d) := by rw [HTG.out, hd]
    have HTG2 := Lib.hid htg2
    have hsz2 : ((d.map u8v).toArray).size = 32 := by simp [hdl]
    have ho5 := own_only HO4.out (Only.of_below (S := []) hb5) (by simp)
    have hz5 := HZ4.out.below hb5 HZ4.out.lt
    have hb6 := HB4.out.trans (hb5.mono HB4.out.size)
    clear hd htg2
    rename_i K hK
    refine hK _ _ ?_
    refine wpList_alloc_store rfl rfl 39 rfl 10 rfl (.tmp 10) (.tmp 47) rfl rfl (.agg zero32) info_z32 (d.map u8v).toArray (by rw [hsz2]; exact info_b32) (by rw [hsz2]; rfl) (bytes_one d) rfl rfl ?_
    have hD := (Blk.new w5 39 (d.map u8v).toArray).bytes hdl
    have ho7 := ho5.alloc (.cells (d.map u8v).toArray 39)
    have hz7 := hz5.alloc (.cells (d.map u8v).toArray 39)
    have hb7 := hb6.alloc hb6.size (.cells (d.map u8v).toArray 39)
    have hs5 := hb5.size
    have hs7 : w5.heap.size < (w5.alloc (.cells (d.map u8v).toArray 39)).heap.size := by simp
    generalize w5.alloc (.cells (d.map u8v).toArray 39) = w7 at hD ho7 hz7 hb7 hs7 ⊢
    have HD7 := Lib.hid hD
    have HO7 := Lib.hid ho7
    have HZ7 := Lib.hid hz7
    have HB7 := Lib.hid hb7
    clear hD ho7 hz7 hb7 hb5 ho5 hz5 hb6 hsz2 HR4 HO4 HB4 HZ4
    refine wpList_nil ?_
    rename_i K2 hK2
    show K2 _ _
    refine hK2 _ _ ?_
    simp only [Act.put, List.setIfInBounds_toArray, List.set_cons_succ, List.set_cons_zero]
    go_upto_region 15 with (at_builtin; refine wpList_append_any _ rfl (.tmp 48) (.tmp 49) _ rfl w3.heap.size 5 i0 (.int .u8 0) 1 Tryz.underlying22 HI.out HZ0.out HZ1.out HZ2.out rfl _ 64 (po.map u8v) ?_ HO7.out (some ⟨w5.heap.size, 0, none⟩) 32 32 (d.map u8v) ?_ HD7.out (u8v_one _) ?_ ?_ ?_ ?_)
    ·
     rfl
    ·
     rfl
    ·
     unfold maxLen; omega
    ·
     omega
    ·
     omega
    intro A8 c8 w8 hown8 hgrow8 hat8
    have hl7 := HO7.out.lt
    have hb8 := HB7.out.grown hgrow8 (by have := HB7.out.size; omega) (fun g hg => by have := (hl7 g hg).1; omega)
    have hz8 := HZ7.out.grown hgrow8 (fun e => by have := (hl7 w.heap.size e.symm).1; have := HZK.out.lt; omega)
    have hr8 := Reads.of_own hown8
    rw [← List.map_append] at hr8
    have HR8 := Lib.hid hr8
    have HB8 := Lib.hid hb8
    have HZ8 := Lib.hid hz8
    clear hown8 hgrow8 hat8 hb8 hz8 hr8 hl7 HO7 HZ7 HB7 HD7
    go_wp2_with fail
    refine (rsha_d w8 A8 96 c8 (po ++ d) (by rw [List.length_append, hpol, hdl]) HR8.out (by omega)).mono ?_
    rintro e w9 ⟨rfl, hb9⟩
    rw [← HTG2.out]
    obtain ⟨t, ht⟩ : ∃ t, tagL key b = t := ⟨_, rfl⟩
    have htl : t.length = 32 := by rw [← ht]; exact tagL_len _ _
    rw [ht]
    have HT := Lib.hid ht
    have hz9 := HZ8.out.below hb9 HZ8.out.lt
    have hb10 := HB8.out.trans (hb9.mono HB8.out.size)
    have HZ9 := Lib.hid hz9
    have HB10 := Lib.hid hb10
    have hcs : ((t.map u8v).toArray).size = 32 := by simp [htl]
    clear ht hb9 hz9 hb10
    rename_i K hK
    refine hK _ _ ?_
    refine wpList_store_row rfl 39 (.tmp 4) (.tmp 51) rfl w.heap.size (t.map u8v).toArray rfl rfl 39 zero32 HZ9.out (by rw [hcs]; exact info_b32) (by rw [hcs]; rfl) (bytes_one t) ?_
    refine wpList_nil ?_
    rename_i K2 hK2
    show K2 _ _
    refine hK2 _ _ ?_
    go_wp2_with fail
    refine bodyPost_ret (results_cell_row rfl _ _ w.heap.size 39 (t.map u8v).toArray (0, 0) _ rfl (HZ9.out.setRow _) Tryz.underlying39 rfl (by rw [hcs]; exact info_b32)) rfl ?_
    exact ⟨by rw [HT.out], below_setRow HB10.out (Nat.le_refl _) _⟩
end Go.Proofs.YtpafenlcgcenlaaGreatDoor
