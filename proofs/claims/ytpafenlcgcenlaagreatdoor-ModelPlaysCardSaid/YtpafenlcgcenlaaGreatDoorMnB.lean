/- manifest.Body. · manifest.Bytes, manifest.Signed. -/
import Derived.Test.YtpafenlcgcenlaaGreatDoorMn3
import Derived.Test.YtpafenlcgcenlaaGreatDoorFldA
import Derived.Laws.IdiomStrings
import Derived.Lib.SlBytesConst
import Derived.Test.YtpafenlcgcenlaaGreatDoorHmA
namespace Go.Proofs.YtpafenlcgcenlaaGreatDoor
open Go Go.RowKit
set_option linter.unusedVariables false
set_option linter.unusedSimpArgs false
attribute [local go_sem ↓] sbN_seal sldN_seal sstN_seal
end Go.Proofs.YtpafenlcgcenlaaGreatDoor
namespace Go.Proofs.YtpafenlcgcenlaaGreatDoor
open Go Go.RowKit
set_option linter.unusedVariables false
set_option linter.unusedSimpArgs false
noncomputable def sstDg (x v : Value) : Sem Unit := Instr.storeAt 39 x v
theorem sstDg_seal (x v : Value) : Instr.storeAt 39 x v = sstDg x v := rfl
theorem run_sstDg {W : World} {g : Nat} {old : Array Value} (d : List UInt8) (hd : d.length = 32) (h : Blk W g 39 old) (ho : old.size = 32) :
    (sstDg (.pointer (some ⟨g, 0, none⟩)) (.agg (d.map u8v).toArray)).run Tryz.prog W = .ok () (W.setRow g (d.map u8v).toArray) := by
  unfold sstDg
  simp only [Instr.storeAt, Instr.sureAddr, Sem.run_bind, Sem.run_pure, Result.andThen_ok, run_storeVar_row (P := Tryz.prog) W g 39 39 old (d.map u8v).toArray h (by rw [List.size_toArray, List.length_map, hd]; exact info_sD) (by rw [ho, List.size_toArray, List.length_map, hd]) (by simpa using u8v_one d)]
@[reducible] def z32 : Array Value := #[.int .u8 0, .int .u8 0, .int .u8 0, .int .u8 0, .int .u8 0, .int .u8 0, .int .u8 0, .int .u8 0, .int .u8 0, .int .u8 0, .int .u8 0, .int .u8 0, .int .u8 0, .int .u8 0, .int .u8 0, .int .u8 0, .int .u8 0, .int .u8 0, .int .u8 0, .int .u8 0, .int .u8 0, .int .u8 0, .int .u8 0, .int .u8 0, .int .u8 0, .int .u8 0, .int .u8 0, .int .u8 0, .int .u8 0, .int .u8 0, .int .u8 0, .int .u8 0]
attribute [local go_sem ↓] sbN_seal sldN_seal sstN_seal sstDg_seal
/-- Is a manifest signed by a key? -/
def signedB (key l : List UInt8) : Bool := decide (l.length = 92) && (mOk l && ((l.drop 60).take 32 == tagL key (l.take 60)))
set_option maxRecDepth 100000 in
set_option maxHeartbeats 2000000 in
theorem msigned_c (w : World) (KA : Option Addr) (kn kc : Nat) (key : List UInt8) (hk : Reads w KA kn (key.map u8v)) (hkn : kn ≤ 100000) (LA : Option Addr) (ln lc : Nat) (l : List UInt8) (hl : Reads w LA ln (l.map u8v)) (hln : ln ≤ 100000) (hlc : ln ≤ lc ∧ lc ≤ maxLen) :
    Calls Tryz.prog 66 #[.slice KA kn kc, .slice LA ln lc] w fun e w' => e = .returned (.bool (signedB key l)) ∧ Below w.heap.size w w' := by
  have hlen : l.length = ln := by simpa using hl.len
  have hread : Calls Tryz.prog 65 #[.slice LA ln lc] w fun e w' => ManRet l e w' ∧ Below w.heap.size w w' := by
    by_cases h : ln = 92
    · subst h
      exact mread_full w LA lc l hl hlen
    · exact mread_short w LA ln lc l hl hlen hln h
  have HK := Lib.hid hk
  have HL := Lib.hid hl
  have HLN := Lib.hid hlen
  have HRD := Lib.hid hread
  clear hk hl hlen hread
  go_enter Tryz.func66, Tryz.ntmps66
  go_wp2_with fail
  refine HRD.out.mono ?_
  rintro e w1 ⟨hret, hb1⟩
  have HB1 := Lib.hid hb1
  rcases hret with ⟨h1, rfl⟩ | ⟨h92, hok, A, c, rfl, hrt⟩
  · have hno : signedB key l = false := by
      unfold signedB
      rcases h1 with h1 | h1
      · rw [decide_eq_false h1]; rfl
      · rw [h1]; simp
    have hN := Blk.new w1 82 zeroN.toArray
    have hst := run_sstN zeroN hN (by rw [List.size_toArray]; rfl) rfl (manC_one _ _)
    have HB2 := Lib.hid (below_setRow_m (hb1.alloc hb1.size (.cells zeroN.toArray 82)) hb1.size zeroN.toArray)
    rw [← zeroN_eq] at hst HB2 ⊢
    have HNO := Lib.hid hno
    clear h1 hN hb1 hno
    go_wp2_with fail
    go_ret
    exact ⟨by rw [HNO.out]; rfl, HB2.out⟩
  · have hd32 : (mImg l).d.length = 32 := by
      show ((l.drop 28).take 32).length = 32
      rw [List.length_take, List.length_drop, h92]; rfl
    have hN := Blk.new w1 82 zeroN.toArray
    have hml := manC_len hd32 ⟨(mName l).toArray⟩
    have hst := run_sstN (manC ⟨(mName l).toArray⟩ (mImg l)) hN (by rw [List.size_toArray]; rfl) hml (manC_one _ _)
    rw [← zeroN_eq] at hst
    obtain ⟨MN, hMN⟩ : ∃ MN, (manC ⟨(mName l).toArray⟩ (mImg l)).toArray = MN := ⟨_, rfl⟩
    rw [hMN] at hst ⊢
    have hb2 : Below w1.heap.size w1 ((w1.alloc (.cells litN 82)).setRow w1.heap.size MN) := below_setRow_m ((Below.refl _ _).alloc (Nat.le_refl _) _) (Nat.le_refl _) _
    obtain rfl : ln = 92 := by rw [← HLN.out, h92]
    have hk2 := (HK.out.below hb1).below hb2
    have hl2 := (HL.out.below hb1).below hb2
    have hr2 := hrt.below hb2
    obtain ⟨TG, hTG⟩ : ∃ TG, tagL key (l.take 60) = TG := ⟨_, rfl⟩
    have hTGl : TG.length = 32 := by rw [← hTG]; exact tagL_len _ _
    have htag := fun (W : World) (r1 : Reads W KA kn (key.map u8v)) (r2 : Reads W LA 60 ((l.take 60).map u8v)) (cc : Nat) => tag_c W KA LA kn kc 60 cc key (l.take 60) r1 r2 (by omega) (by omega)
    rw [hTG] at htag
    have hsp : signedB key l = ((l.drop 60).take 32 == TG) := by unfold signedB; rw [decide_eq_true h92, hok, hTG]; rfl
    have HSP := Lib.hid hsp
    have HTA := Lib.hid htag
    have HTL := Lib.hid hTGl
    have HK2 := Lib.hid hk2
    have HL2 := Lib.hid hl2
    have HR2 := Lib.hid hr2
    have HB2 := Lib.hid (hb1.trans (hb2.mono hb1.size))
    have hr60 : ∀ W, Reads W LA 92 (l.map u8v) → Reads W LA 60 ((l.take 60).map u8v) := fun W h => by rw [List.map_take]; exact h.take (by omega)
    have HR60 := Lib.hid hr60
    have hlc1 := hlc.1
    have hlc2 := hlc.2
    clear hr60 hb1 hb2 hk2 hl2 hr2 hrt hN hml hTG hTGl hsp htag hMN hok h92
    go_upto_region 4 with fail
    generalize (w1.alloc (.cells litN 82)).setRow w1.heap.size MN = W2 at HK2 HL2 HR2 HB2 ⊢
    clear hst
    go_wp2_with fail
    all_goals (
      refine (HTA.out _ HK2.out (HR60.out _ HL2.out) _).mono ?_
      rintro e w3 ⟨rfl, hb3⟩
      have hN := Blk.new w3 39 z32
      have hst := run_sstDg TG HTL.out hN rfl
      have hP := hN.setRow_m (TG.map u8v).toArray
      have hbw : Below w3.heap.size w3 ((w3.alloc (.cells z32 39)).setRow w3.heap.size (TG.map u8v).toArray) := below_setRow_m ((Below.refl _ _).alloc (Nat.le_refl _) _) (Nat.le_refl _) _
      have hr3 := (HR2.out.below hb3).below hbw
      have hB3 := (HB2.out.trans (hb3.mono HB2.out.size)).trans (hbw.mono (Nat.le_trans HB2.out.size hb3.size))
      obtain ⟨TC, hTC⟩ : ∃ TC, (TG.map u8v).toArray = TC := ⟨_, rfl⟩
      rw [hTC] at hst hr3 hB3 hP ⊢
      have HP := Lib.hid hP
      have HR3 := Lib.hid hr3
      have HB3 := Lib.hid hB3
      clear hN hP hbw hb3 hr3 hB3
      go_upto_region 5 with fail
      generalize (w3.alloc (.cells z32 39)).setRow w3.heap.size TC = W4 at HP HR3 HB3 ⊢
      obtain ⟨tb, htb⟩ : ∃ tb, w3.heap.size = tb := ⟨_, rfl⟩
      rw [htb] at HP ⊢
      rw [← hTC] at HP
      have HT := Lib.hid (HP.out.bytes HTL.out)
      clear hst hTC htb
      go_wp2_with fail
      refine (same_c W4 A (some ⟨tb, 0, none⟩) 32 32 c 32 _ TG HR3.out HT.out (by unfold maxLen; omega) (by unfold maxLen; omega)).mono ?_
      rintro e w5 ⟨rfl, q, rfl⟩
      go_wp2_with fail
      go_ret
      exact ⟨by rw [HSP.out]; rfl, below_drewN HB3.out q⟩)
end Go.Proofs.YtpafenlcgcenlaaGreatDoor
