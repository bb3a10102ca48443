/- script.words: the words of a line. -/
import Derived.Test.YthidjmdcpdhdlaaDoorScK
import Derived.Test.YthidjmdcpdhdlaaDoorScH
namespace Go.Proofs.YthidjmdcpdhdlaaDoor
open Go Go.RowKit
set_option linter.unusedVariables false
set_option linter.unusedSimpArgs false
theorem info_str : (Tryd.prog.info? 9).map (fun i => (i.zero, i.size, i.bytes)) = some (some (.string ⟨#[]⟩), 1, 16) := by kernel_rfl
/-- A word as a value. -/
def strv (l : List UInt8) : Value := .string ⟨l.toArray⟩
theorem strv_one (ws : List (List UInt8)) : ∀ u ∈ ws.map strv, u.oneCell' = true := by
  intro u hu
  obtain ⟨l, _, rfl⟩ := List.mem_map.1 hu
  rfl
theorem strv_add (a : List UInt8) (b : ByteArray) : Value.string ((⟨a.toArray⟩ : ByteArray) ++ b) = strv (a ++ b.data.toList) := by
  unfold strv
  refine congrArg Value.string ?_
  apply ByteArray.ext
  try simp [ByteArray.data_append]
/-- What words hands back. -/
def wordsRet (l : List UInt8) (w : World) (e : Ending) (w' : World) : Prop :=
  ∃ (q : List UInt8) (A : Option Addr) (c : Nat), Rc l q ∧ e = .returned (.slice A (splitG q []).length c) ∧ w'.ownsRow w.heap.size 9 1 (.slice A (splitG q []).length c) (splitG q []).length ((splitG q []).map strv) ∧ Below w.heap.size w w'
set_option maxRecDepth 100000 in
set_option maxHeartbeats 2000000 in
theorem swords_c (s : ByteArray) (hs : s.size ≤ 1000000) (w : World) : Calls Tryd.prog 24 #[.string s] w fun e w' => wordsRet s.data.toList w e w' := by
  obtain ⟨i0, hi, hz0, hz1, hz2⟩ := info_parts info_str
  have HI := Lib.hid hi
  have HZ0 := Lib.hid hz0
  have HZ1 := Lib.hid hz1
  have HZ2 := Lib.hid hz2
  have hll : s.data.toList.length = s.size := Array.length_toList
  have HLL := Lib.hid hll
  clear hi hz0 hz1 hz2 hll
  go_enter Tryd.func24, Tryd.ntmps24
  go_wp2_with fail
  go_loopw [3, 4] (fun o i wr => ∃ (pos : Nat) (q cur : List UInt8) (acc : List (List UInt8)) (A' : Option Addr) (c' : Nat), o = .slice A' acc.length c' ∧ i = .string ⟨cur.toArray⟩ ∧ Rc (s.data.toList.take pos) q ∧ splF q = (acc, cur) ∧ acc.length ≤ pos ∧ cur.length ≤ 4 * pos ∧ pos ≤ s.size ∧ wr.heap[w.heap.size]? = some (.stringIter s pos) ∧ wr.ownsRow (w.heap.size + 1) 9 1 (.slice A' acc.length c') acc.length (acc.map strv) ∧ Below w.heap.size w wr) (fun _ _ wr => s.size - wr.iterPos w.heap.size)
  case atStart =>
    refine ⟨0, [], [], [], none, 0, rfl, rfl, ?_, rfl, Nat.le_refl _, Nat.zero_le _, Nat.zero_le _, World.iter_heap w s 0, World.ownsRow_nil _ _ _ _, (Below.refl _ w).alloc (Nat.le_refl _) _⟩
    rw [List.take_zero]; exact Rc.nil
  case round =>
    obtain ⟨pos, q, cur, acc, A1, c1, rfl, rfl, hrc, hspl, hap, hcp, hps, hit, hown, hb⟩ := hrel
    have HB := Lib.hid hb
    have HO := Lib.hid hown
    have HRC := Lib.hid hrc
    have HSP := Lib.hid hspl
    clear hb hown hrc hspl
    by_cases hp : pos < s.size
    · have hnx : ∀ ty, (Instr.next (.pointer (some ⟨w.heap.size, 0, none⟩)) true ty).run Tryd.prog wr = _ := fun ty => Lib.run_next_any_at wr w.heap.size s pos ty hit hp
      obtain ⟨d, hd⟩ : ∃ d, (Utf8.decode s pos).2 = d := ⟨_, rfl⟩
      obtain ⟨r, hr⟩ : ∃ r, (Utf8.decode s pos).1 = r := ⟨_, rfl⟩
      have hlow := fun (hlt : (s[pos]'hp).toNat < 128) => decode_ascii s pos hp hlt
      have hhigh := fun (hge : 128 ≤ (s[pos]'hp).toNat) => (decode_high s pos hp hge).1
      have hdh := fun (hge : 128 ≤ (s[pos]'hp).toNat) => dec_hi s pos hp hge
      have hle := decode_le s pos
      have hwd := width_posS s pos hp
      have hdc := drop_cons s pos hp
      rw [hr] at hle
      rw [hd] at hwd
      simp only [hd] at hdh
      obtain ⟨b, hbv⟩ : ∃ b, s[pos]'hp = b := ⟨_, rfl⟩
      rw [hbv] at hlow hhigh hdh hdc
      have hr1 : b.toNat < 128 → r = b.toNat ∧ d = 1 := fun hlt => by rw [← hr, ← hd, hlow hlt]; exact ⟨rfl, rfl⟩
      have hr2 : 128 ≤ b.toNat → 128 ≤ r := fun hge => by rw [← hr]; exact hhigh hge
      simp only [hr, hd] at hnx
      -- what the piece says
      have hpc : ∃ p, (Utf8.encode (r : Int)).data.toList = p ∧ pos + d ≤ s.size ∧ Rc (s.data.toList.take (pos + d)) (q ++ p) ∧ p.length ≤ 4 ∧ ((r = 32 ∧ p = [32]) ∨ (r ≠ 32 ∧ splF (q ++ p) = (acc, cur ++ p))) := by
        have hta : s.data.toList.take (pos + d) = s.data.toList.take pos ++ (s.data.toList.drop pos).take d := List.take_add
        by_cases h128 : b.toNat < 128
        · obtain ⟨e1, e2⟩ := hr1 h128
          have e3 : (Utf8.encode (r : Int)).data.toList = [b] := by rw [enc_lo r (by omega), e1, UInt8.ofNat_toNat]
          refine ⟨_, e3, by omega, ?_, by simp, ?_⟩
          · rw [hta, hdc, e2]
            exact Rc.low _ _ b HRC.out h128
          · by_cases h32 : r = 32
            · refine .inl ⟨h32, ?_⟩
              have : b = 32 := UInt8.toNat_inj.1 (by rw [← e1, h32]; rfl)
              rw [this]
            · refine .inr ⟨h32, ?_⟩
              rw [splF_low, HSP.out]
              exact if_neg (fun e => h32 (by rw [e1, e]; rfl))
        · obtain ⟨e1, e2, e3⟩ := hdh (by omega)
          obtain ⟨f1, f2, f3⟩ := enc_hi (r : Int) (by have := hr2 (by omega); omega)
          refine ⟨_, rfl, e2, ?_, f2, .inr ⟨by have := hr2 (by omega); omega, ?_⟩⟩
          · rw [hta]
            refine Rc.high _ _ _ _ HRC.out ?_ f1 e3 f3 f2
            rw [hdc]
            intro h
            obtain ⟨d', rfl⟩ : ∃ d', d = d' + 1 := ⟨d - 1, by omega⟩
            simp at h
          · rw [splF_high _ _ f3, HSP.out]
      obtain ⟨p, hpe, hpd, hrc2, hp4, hsp⟩ := hpc
      have hit2 := Lib.iterAt_heap wr w.heap.size s pos (pos + d) hit
      have hb2 := Lib.below_iterAt HB.out (Nat.le_refl _) s (pos + d)
      have ho2 := own_only HO.out (only_iterAt wr w.heap.size s (pos + d)) (fun k hk => by have := (HO.out.lt k hk).1; simp; omega)
      have HIT2 := Lib.hid hit2
      have HB2 := Lib.hid hb2
      have HO2 := Lib.hid ho2
      have HWD := Lib.hid hwd
      have HPE := Lib.hid hpe
      have HRC2 := Lib.hid hrc2
      have HSPL := Lib.hid HSP.out
      have HIT := Lib.hid hit
      clear hit hlow hhigh hdc hdh hbv hr hd hr1 hr2 hit2 hb2 ho2 hwd hpe hrc2 HRC HO HB
      by_cases h32 : r = 32
      · have hp32 : p = [32] := by rcases hsp with ⟨_, h⟩ | ⟨h, _⟩; exact h; exact absurd h32 h
        subst hp32
        have hri : (r : Int) = 32 := by omega
        have HR := Lib.hid h32
        clear hsp h32
        have hit3 := lt_of_get HIT2.out
        have hl3 := HO2.out.lt
        have hsz := HB2.out.size
        have hrd : Reads ((wr.iterAt w.heap.size s (pos + d)).alloc (.cells #[.string ⟨cur.toArray⟩] 9)) (some ⟨(wr.iterAt w.heap.size s (pos + d)).heap.size, 0, none⟩) 1 (([cur] : List (List UInt8)).map strv) := (Blk.new (wr.iterAt w.heap.size s (pos + d)) 9 #[.string ⟨cur.toArray⟩]).reads 0 (by simp)
        obtain ⟨W, hW⟩ : ∃ W, wr.iterAt w.heap.size s (pos + d) = W := ⟨_, rfl⟩
        rw [hW] at hnx hrd
        have hit2 := HIT2.out
        rw [hW] at hit2 hit3 hl3 hsz
        have ho2 := HO2.out
        rw [hW] at ho2
        have hb2 := HB2.out
        rw [hW] at hb2
        have HIT3 := Lib.hid hit2
        have HO3 := Lib.hid ho2
        have HB3 := Lib.hid hb2
        clear hW HIT2 HO2 HB2 hit2 ho2 hb2
        go_wp2_with (at_builtin; refine wpList_append_any _ rfl (.tmp 14) (.tmp 16) _ rfl (w.heap.size + 1) 9 i0 (.string ⟨#[]⟩) 16 Tryd.underlying40 HI.out HZ0.out HZ1.out HZ2.out rfl _ acc.length (acc.map strv) rfl (own_only HO3.out (Only.of_below (S := []) ((Below.refl _ W).alloc (Nat.le_refl _) _)) (by simp)) (some ⟨W.heap.size, 0, none⟩) 1 1 (([cur] : List (List UInt8)).map strv) rfl hrd (strv_one _) (by unfold maxLen; omega) (by omega) (by simp; omega) ?_; intro A2 c2 w4 hown2 hgrow2 hat; have HOA := Lib.hid hown2; have HGA := Lib.hid hgrow2; clear hown2 hgrow2 hat)
        go_roundw
        case rel =>
          have hbal := (Below.refl (w.heap.size + 1) W).alloc (by omega) (.cells #[.string ⟨cur.toArray⟩] 9)
          have hba := hbal.grown HGA.out (by simp; omega) (fun g hg => (hl3 g hg).1)
          refine ⟨pos + d, q ++ [32], [], acc ++ [cur], A2, c2, by rw [List.length_append]; rfl, rfl, HRC2.out, ?_, by have := HWD.out; rw [List.length_append]; simp; omega, Nat.zero_le _, hpd, (hba.block _ (by omega)).trans HIT3.out, ?_, HB3.out.trans (hba.mono (by omega))⟩
          · rw [splF_low, HSPL.out]; rfl
          · rw [List.length_append, List.map_append]; exact HOA.out
        case measure =>
          have hbal := (Below.refl (w.heap.size + 1) W).alloc (by omega) (.cells #[.string ⟨cur.toArray⟩] 9)
          have hba := hbal.grown HGA.out (by simp; omega) (fun g hg => (hl3 g hg).1)
          have hitn := (hba.block _ (by omega)).trans HIT3.out
          have := HWD.out
          simp only [World.iterPos, hitn, HIT.out]
          omega
      · have hs2 : splF (q ++ p) = (acc, cur ++ p) := by rcases hsp with ⟨h, _⟩ | ⟨_, h⟩; exact absurd h h32; exact h
        have hri : ¬ (r : Int) = 32 := by omega
        have HS2 := Lib.hid hs2
        have hpe2 := HPE.out
        have hcv := fun W => run_convert_int_string (P := Tryd.prog) W 21 9 .i32 (r : Int) (by rw [Tryd.underlying21]; rfl) Tryd.underlying9
        generalize Utf8.encode (r : Int) = E at hpe2 hcv
        have e2 : E.size = p.length := by rw [← hpe2]; exact (Array.length_toList (xs := E.data)).symm
        have e1 : (⟨cur.toArray⟩ : ByteArray).size = cur.length := List.size_toArray
        have hsum : (⟨cur.toArray⟩ : ByteArray).size + E.size ≤ 9223372036854775807 := by rw [e1, e2]; omega
        have hadd := fun W => run_string_add_sum (P := Tryd.prog) W (⟨cur.toArray⟩ : ByteArray) E hsum
        have HPE2 := Lib.hid hpe2
        clear hsp hs2 h32 hsum e1 e2 HPE hpe2
        go_wp2_with fail
        go_roundw
        case rel =>
          refine ⟨pos + d, q ++ p, cur ++ p, acc, A1, c1, rfl, ?_, HRC2.out, HS2.out, by have := HWD.out; omega, by have := HWD.out; rw [List.length_append]; omega, hpd, HIT2.out, HO2.out, HB2.out⟩
          rw [strv_add, HPE2.out]; rfl
        case measure =>
          have := HWD.out
          simp only [World.iterPos, HIT2.out, HIT.out]
          omega
    · have hnx : ∀ ty, (Instr.next (.pointer (some ⟨w.heap.size, 0, none⟩)) true ty).run Tryd.prog wr = _ := fun ty => Lib.run_next_end_at wr w.heap.size s pos ty hit hp
      have hrce : Rc s.data.toList q := by
        have := HRC.out
        rw [List.take_of_length_le (by rw [HLL.out]; omega)] at this
        exact this
      have hsg : splitG q [] = acc ++ [cur] := by rw [splitG_eq, HSP.out]
      have HSG := Lib.hid hsg
      have HRE := Lib.hid hrce
      clear hit hsg hrce HLL
      have hl3 := HO.out.lt
      have hsz := HB.out.size
      have hrd : Reads (wr.alloc (.cells #[.string ⟨cur.toArray⟩] 9)) (some ⟨wr.heap.size, 0, none⟩) 1 (([cur] : List (List UInt8)).map strv) := (Blk.new wr 9 #[.string ⟨cur.toArray⟩]).reads 0 (by simp)
      go_wp2_with (at_builtin; refine wpList_append_any _ rfl (.tmp 22) (.tmp 24) _ rfl w.heap.size 9 i0 (.string ⟨#[]⟩) 16 Tryd.underlying40 HI.out HZ0.out HZ1.out HZ2.out rfl _ acc.length (acc.map strv) rfl (own_base (own_only HO.out (Only.of_below (S := []) ((Below.refl _ wr).alloc (Nat.le_refl _) _)) (by simp)) (Nat.le_succ _)) (some ⟨wr.heap.size, 0, none⟩) 1 1 (([cur] : List (List UInt8)).map strv) rfl hrd (strv_one _) (by unfold maxLen; omega) (by omega) (by simp; omega) ?_; intro A2 c2 w4 hown2 hgrow2 hat; have HOA := Lib.hid hown2; have HGA := Lib.hid hgrow2; clear hown2 hgrow2 hat)
      go_ret
      have hbal := (Below.refl w.heap.size wr).alloc (by omega) (.cells #[.string ⟨cur.toArray⟩] 9)
      have hba := hbal.grown HGA.out (by simp; omega) (fun g hg => by have := (hl3 g hg).1; omega)
      refine ⟨q, A2, c2, HRE.out, ?_, ?_, HB.out.trans hba⟩
      · rw [HSG.out, List.length_append]; rfl
      · rw [HSG.out, List.length_append, List.map_append]; exact HOA.out
end Go.Proofs.YthidjmdcpdhdlaaDoor
