/- The reference's words, number and unhex. -/
import Derived.Test.YthidjmdcpdhdlaaDoorScZ
import Derived.Test.YthidjmdcpdhdlaaDoorScJ
namespace Go.Proofs.YthidjmdcpdhdlaaDoor
open Go Go.RowKit
set_option linter.unusedVariables false
set_option linter.unusedSimpArgs false
theorem ext_one (s : ByteArray) (i : Nat) (h : i < s.size) : s.extract i (i + 1) = ⟨#[s[i]'h]⟩ := by
  apply ByteArray.ext
  rw [ByteArray.data_extract]
  apply Array.toList_inj.1
  rw [Array.toList_extract]
  show (s.data.toList.drop i).take (i + 1 - i) = [s[i]]
  rw [drop_cons s i h, show i + 1 - i = 1 from by omega]
  rfl
theorem take_succ (s : ByteArray) (i : Nat) (h : i < s.size) : s.data.toList.take (i + 1) = s.data.toList.take i ++ [s[i]'h] := by
  rw [List.take_add, drop_cons s i h]
  rfl
set_option maxRecDepth 100000 in
set_option maxHeartbeats 2000000 in
theorem rwords_c (s : ByteArray) (hs : s.size ≤ 1000000) (w : World) : Calls Tryd.prog 28 #[.string s] w fun e w' => ∃ (A : Option Addr) (c : Nat), e = .returned (.slice A (splitG s.data.toList []).length c) ∧ w'.ownsRow w.heap.size 9 1 (.slice A (splitG s.data.toList []).length c) (splitG s.data.toList []).length ((splitG s.data.toList []).map strv) ∧ Below w.heap.size w w' := by
  obtain ⟨i0, hi, hz0, hz1, hz2⟩ := info_parts info_str
  have HI := Lib.hid hi
  have HZ0 := Lib.hid hz0
  have HZ1 := Lib.hid hz1
  have HZ2 := Lib.hid hz2
  have hll : s.data.toList.length = s.size := Array.length_toList
  have HLL := Lib.hid hll
  clear hi hz0 hz1 hz2 hll
  go_enter Tryd.func28, Tryd.ntmps28
  go_wp2_with fail
  go_loopw [3, 4, 5] (fun o z i wr => ∃ (k : Nat) (cur : List UInt8) (acc : List (List UInt8)) (A' : Option Addr) (c' : Nat), o = .slice A' acc.length c' ∧ z = .string ⟨cur.toArray⟩ ∧ i = .int .i64 k ∧ splF (s.data.toList.take k) = (acc, cur) ∧ acc.length ≤ k ∧ cur.length ≤ k ∧ k ≤ s.size ∧ wr.ownsRow w.heap.size 9 1 (.slice A' acc.length c') acc.length (acc.map strv) ∧ Below w.heap.size w wr) (fun _ _ i wr => (match i with | .int _ x => (s.size : Int) - x | _ => 0).toNat)
  case atStart =>
    exact ⟨0, [], [], none, 0, rfl, rfl, rfl, rfl, Nat.le_refl _, Nat.le_refl _, Nat.zero_le _, World.ownsRow_nil _ _ _ _, Below.refl _ w⟩
  case round =>
    obtain ⟨k, cur, acc, A1, c1, rfl, rfl, rfl, hsp, hak, hck, hks, hown, hb⟩ := hrel
    have HSP := Lib.hid hsp
    have HO := Lib.hid hown
    have HB := Lib.hid hb
    clear hsp hown hb
    by_cases hk : k < s.size
    · have htk := take_succ s k hk
      have hex := ext_one s k hk
      obtain ⟨b, hb⟩ : ∃ b, s[k]'hk = b := ⟨_, rfl⟩
      rw [hb] at htk hex
      have hg : (s[k]'hk).toNat = b.toNat := by rw [hb]
      have HTK := Lib.hid htk
      have HEX := Lib.hid hex
      clear htk hex
      by_cases h32 : b = 32
      · have h32n : (s[k]'hk).toNat = 32 := by rw [hb, h32]; rfl
        have h32i : ((s[k]'hk).toNat : Int) = 32 := by rw [h32n]; rfl
        have hrd : Reads (wr.alloc (.cells #[.string ⟨cur.toArray⟩] 9)) (some ⟨wr.heap.size, 0, none⟩) 1 (([cur] : List (List UInt8)).map strv) := (Blk.new wr 9 #[strv cur]).reads 0 (by simp)
        have hsz := HB.out.size
        have hl3 := HO.out.lt
        have HB32 := Lib.hid h32
        clear hb hg h32
        go_wp2_with (at_builtin; refine wpList_append_any _ rfl (.tmp 16) (.tmp 18) _ rfl w.heap.size 9 i0 (.string ⟨#[]⟩) 16 Tryd.underlying40 HI.out HZ0.out HZ1.out HZ2.out rfl _ acc.length (acc.map strv) rfl (own_only HO.out (Only.of_below (S := []) ((Below.refl _ wr).alloc (Nat.le_refl _) _)) (by simp)) (some ⟨wr.heap.size, 0, none⟩) 1 1 (([cur] : List (List UInt8)).map strv) rfl hrd (strv_one _) (by unfold maxLen; omega) (by omega) (by simp; omega) ?_; intro A2 c2 w4 hown2 hgrow2 hat; have HOA := Lib.hid hown2; have HGA := Lib.hid hgrow2; clear hown2 hgrow2 hat)
        go_roundw
        case rel =>
          have hbal := (Below.refl w.heap.size wr).alloc (by omega) (.cells #[.string ⟨cur.toArray⟩] 9)
          have hba := hbal.grown HGA.out (by simp; omega) (fun g hg => (hl3 g hg).1)
          refine ⟨k + 1, [], acc ++ [cur], A2, c2, by rw [List.length_append]; rfl, rfl, rfl, ?_, by rw [List.length_append]; simp; omega, Nat.zero_le _, hk, ?_, HB.out.trans hba⟩
          · rw [HTK.out, splF_low, HSP.out, HB32.out]; rfl
          · rw [List.length_append, List.map_append]; exact HOA.out
        case measure =>
          dsimp only
          omega
      · have h32n : ¬ (s[k]'hk).toNat = 32 := fun e => h32 (by rw [← hb]; exact UInt8.toNat_inj.1 e)
        have h32i : ¬ ((s[k]'hk).toNat : Int) = 32 := by omega
        have hs2 : splF (s.data.toList.take (k + 1)) = (acc, cur ++ [b]) := by rw [HTK.out, splF_low, HSP.out]; exact if_neg h32
        have HS2 := Lib.hid hs2
        have e1 : (⟨cur.toArray⟩ : ByteArray).size = cur.length := List.size_toArray
        have hsum : (⟨cur.toArray⟩ : ByteArray).size + (s.extract k (k + 1)).size ≤ 9223372036854775807 := by rw [e1, HEX.out]; show cur.length + 1 ≤ _; omega
        have hadd := fun W => run_string_add_sum (P := Tryd.prog) W (⟨cur.toArray⟩ : ByteArray) (s.extract k (k + 1)) hsum
        clear hs2 hsum e1 hb hg h32
        go_wp2_with fail
        go_roundw
        case rel =>
          refine ⟨k + 1, cur ++ [b], acc, A1, c1, rfl, ?_, rfl, HS2.out, by omega, by simp; omega, hk, HO.out, HB.out⟩
          rw [strv_add, HEX.out]; rfl
        case measure =>
          dsimp only
          omega
    · have hall : s.data.toList.take k = s.data.toList := List.take_of_length_le (by rw [HLL.out]; omega)
      have hsg : splitG s.data.toList [] = acc ++ [cur] := by rw [splitG_eq, ← hall, HSP.out]
      have HSG := Lib.hid hsg
      clear hall hsg HLL
      have hl3 := HO.out.lt
      have hsz := HB.out.size
      have hrd : Reads (wr.alloc (.cells #[.string ⟨cur.toArray⟩] 9)) (some ⟨wr.heap.size, 0, none⟩) 1 (([cur] : List (List UInt8)).map strv) := (Blk.new wr 9 #[strv cur]).reads 0 (by simp)
      go_wp2_with (at_builtin; refine wpList_append_any _ rfl (.tmp 27) (.tmp 29) _ rfl w.heap.size 9 i0 (.string ⟨#[]⟩) 16 Tryd.underlying40 HI.out HZ0.out HZ1.out HZ2.out rfl _ acc.length (acc.map strv) rfl (own_only HO.out (Only.of_below (S := []) ((Below.refl _ wr).alloc (Nat.le_refl _) _)) (by simp)) (some ⟨wr.heap.size, 0, none⟩) 1 1 (([cur] : List (List UInt8)).map strv) rfl hrd (strv_one _) (by unfold maxLen; omega) (by omega) (by simp; omega) ?_; intro A2 c2 w4 hown2 hgrow2 hat; have HOA := Lib.hid hown2; have HGA := Lib.hid hgrow2; clear hown2 hgrow2 hat)
      go_ret
      have hbal := (Below.refl w.heap.size wr).alloc (by omega) (.cells #[.string ⟨cur.toArray⟩] 9)
      have hba := hbal.grown HGA.out (by simp; omega) (fun g hg => (hl3 g hg).1)
      refine ⟨A2, c2, ?_, ?_, HB.out.trans hba⟩
      · rw [HSG.out, List.length_append]; rfl
      · rw [HSG.out, List.length_append, List.map_append]; exact HOA.out
end Go.Proofs.YthidjmdcpdhdlaaDoor
