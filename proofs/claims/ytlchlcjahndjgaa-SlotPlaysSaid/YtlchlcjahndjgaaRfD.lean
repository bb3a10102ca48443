/- The reference's flash: Program. -/
import Derived.Test.YtlchlcjahndjgaaRfC
import Derived.Test.YtlchlcjahndjgaaNorP
namespace Go.Proofs.Ytlchlcjahndjgaa
open Go.RowKit
set_option linter.unusedVariables false
set_option linter.unusedSimpArgs false
theorem rturn_c (w : World) (fb bb wb : Nat) (G : RF) (a : Nat) (A : Option Addr) (n c : Nat) (bs : List UInt8) (h : RFAt w fb bb wb G) (h0 : G.cutb = true → 0 ≤ G.left) (hr : Reads w A n (bs.map u8v)) (hap : 0 < n → Apart [fb, bb, wb] A) (hfit : a + n ≤ G.b.length) :
    Calls Try.prog 73 #[ptr fb, .int .i64 (a : Int), .slice A n c] w fun e w' => e = .returned (.int .i64 G.turnE) ∧ RFAt w' fb bb wb (G.turn a bs) ∧ Only [fb, bb, wb] w w' := by
  cases hc : G.cutb
  · exact rturn_calm w fb bb wb G a A n c bs h hr hap hfit hc
  · have h1 := h0 hc
    by_cases hl : G.left = 0
    · by_cases hm : G.mask = []
      · exact rturn_bare w fb bb wb G a A n c bs h hr hap hfit hc hl hm
      · exact rturn_mask w fb bb wb G a A n c bs h hr hap hfit hc hl hm
    · exact rturn_later w fb bb wb G a A n c bs h hr hap hfit hc (by omega)
theorem u8_andr (c x : UInt8) : bits .and .u8 (c.toNat : Int) (bits .xor .u8 (x.toNat : Int) 255) = ((c &&& ~~~x).toNat : Int) := by
  rw [u8_xortn, u8_andtn, xor_255]
namespace RF
def program (G : RF) (x : Int) (bs : List UInt8) : RF := if G.off then G else if G.fl.within x bs.length then (if G.fl.may x.toNat bs then G.turn x.toNat bs else G) else G
theorem program_fl (G : RF) (h : G.cutb = true → 0 ≤ G.left) (x : Int) (bs : List UInt8) : (G.program x bs).fl = G.fl.program x bs := by
  unfold program Fl.program
  show _ = (if G.off then _ else _)
  split
  · rfl
  · split
    · split
      · exact (turn_fl G h _ bs).1
      · rfl
    · rfl
end RF
set_option maxRecDepth 100000 in
set_option maxHeartbeats 1000000 in
theorem rprogram_c (w : World) (fb bb wb : Nat) (G : RF) (x : Int) (A : Option Addr) (n c : Nat) (bs : List UInt8) (hx : -9223372036854775808 ≤ x ∧ x ≤ 9223372036854775807) (h : RFAt w fb bb wb G) (h0 : G.cutb = true → 0 ≤ G.left)
    (hr : Reads w A n (bs.map u8v)) (hap : 0 < n → Apart [fb, bb, wb] A) (hn : n < 4611686018427387904) :
    Calls Try.prog 27 #[ptr fb, .int .i64 x, .slice A n c] w fun e w' => e = .returned (.int .i64 (G.fl.programE x bs)) ∧ RFAt w' fb bb wb (G.program x bs) ∧ Only [fb, bb, wb] w w' := by
  have hml : bs.length = n := by simpa using hr.len
  subst hml
  have H := Lib.hid h
  have c0 := h.c0
  have c2 := h.c2
  have hlen := h.ok.len
  have hmost := h.ok.most
  have hbl : G.b.length ≤ 128000 := by omega
  by_cases h1 : G.off = true
  · have e1 : G.fl.programE x bs = 4 := by unfold Fl.programE; rw [if_pos (show G.fl.off = true from h1)]
    have e2 : G.program x bs = G := by unfold RF.program; rw [if_pos h1]
    rw [e1, e2]
    rw [h1] at c2
    clear e1 e2 h hlen
    go_enter Try.func27, Try.ntmps27
    go_wp2
    go_ret
    exact ⟨rfl, H.out, Only.refl _ _⟩
  have h1' : G.off = false := by simpa using h1
  rw [h1'] at c2
  by_cases h2 : G.fl.within x bs.length = true
  · have hb : 0 ≤ x ∧ x + (bs.length : Int) ≤ 320 * (G.wear.length : Int) := by
      have := h2
      unfold Fl.within at this
      simp at this
      exact this
    obtain ⟨a, rfl⟩ := Int.eq_ofNat_of_zero_le hb.1
    have hfit : a + bs.length ≤ G.b.length := by omega
    have HE : Hid (G.fl.programE a bs = if G.fl.may a bs then G.turnE else 3) := by
      unfold Hid Fl.programE
      rw [if_neg (by show ¬ G.off = true; exact h1), if_pos h2, ← (RF.turn_fl G h0 a bs).2]
      rfl
    have HP : Hid (G.program a bs = if G.fl.may a bs then G.turn a bs else G) := by
      unfold Hid RF.program
      rw [if_neg h1, if_pos h2]
      rfl
    have i2 : ¬ (G.b.length : Int) < (a : Int) := by omega
    have i3 : ¬ (G.b.length : Int) - (a : Int) < (bs.length : Int) := by omega
    have i4 : IntKind.i64.wrap ((G.b.length : Int) - (a : Int)) = (G.b.length : Int) - (a : Int) := IntWalk.i64_in _ (by omega)
    clear h h1 hlen hb h2
    go_enter Try.func27, Try.ntmps27
    go_wp2_with fail
    go_loopw [7] (fun i wr => ∃ k : Nat, k ≤ bs.length ∧ i = .int .i64 k ∧ G.fl.mayTo a bs k = true ∧ RFAt wr fb bb wb G ∧ Only [fb, bb, wb] w wr) (fun i _ => bs.length - (intOf i).toNat)
    case atStart => exact ⟨0, Nat.zero_le _, rfl, by simp [Fl.mayTo], H.out, Only.refl _ _⟩
    case round =>
      obtain ⟨k, hk, rfl, hm, hF, hO⟩ := hrel
      have HM := Lib.hid hm
      have HF := Lib.hid hF
      have HO := Lib.hid hO
      have d0 := hF.c0
      by_cases hlt : k < bs.length
      · obtain ⟨b, o, rfl, hb, hcell⟩ := bytes_at (hr.only hO (hap (by omega))) hlt
        have kb := hF.cb (a + k) (by omega)
        clear hm hF hO
        have e2 : (0 : Int) ≤ (a : Int) + (k : Int) := by omega
        have e3 : (a : Int) + (k : Int) < (G.b.length : Int) := by omega
        have e4 : ((a : Int) + (k : Int)).toNat = a + k := by omega
        have e1 : IntKind.i64.wrap ((a : Int) + (k : Int)) = (a : Int) + (k : Int) := IntWalk.i64_in _ (by omega)
        have hg : bs.getD k 0 &&& ~~~(G.fl.b.getD (a + k) 0) = bs[k] &&& ~~~(G.b[a + k]'(by omega)) := by
          show bs.getD k 0 &&& ~~~(G.b.getD (a + k) 0) = _
          simp only [List.getD_eq_getElem?_getD]
          rw [List.getElem?_eq_getElem hlt, List.getElem?_eq_getElem (show a + k < G.b.length by omega)]; rfl
        by_cases ht : (bs[k] &&& ~~~(G.b[a + k]'(by omega)) == 0) = true
        · have hs : G.fl.mayTo a bs (k + 1) = true := by rw [Fl.mayTo_succ, HM.out, hg, ht]; rfl
          have hv : (bits .and .u8 (bs[k].toNat : Int) (bits .xor .u8 ((G.b[a + k]'(by omega)).toNat : Int) 255) != 0) = false := by rw [u8_andr, bne_u8, ht]; rfl
          have HS := Lib.hid hs
          clear hs ht hg
          go_upto_region 8 with fail
          go_quiet (fail)
          go_wp2
          go_roundw
          case rel => exact ⟨k + 1, by omega, by go_num, HS.out, HF.out.drewN _, HO.out.drewN _⟩
          case measure => simp [intOf]; omega
        · have ht' : (bs[k] &&& ~~~(G.b[a + k]'(by omega)) == 0) = false := by simpa using ht
          have hv : (bits .and .u8 (bs[k].toNat : Int) (bits .xor .u8 ((G.b[a + k]'(by omega)).toNat : Int) 255) != 0) = true := by rw [u8_andr, bne_u8, ht']; rfl
          have hno : G.fl.may a bs = false := Fl.may_not hlt (by rw [hg]; exact ht')
          have E1 : Hid (G.fl.programE a bs = 3) := by have := HE.out; rw [hno] at this; exact this
          have E2 : Hid (G.program a bs = G) := by have := HP.out; rw [hno] at this; exact this
          clear hno ht ht' hg HE HP
          go_upto_region 8 with fail
          go_quiet (fail)
          go_wp2
          go_ret
          exact ⟨int_ret E1.out.symm, by rw [E2.out]; exact HF.out.drewN _, HO.out.drewN _⟩
      · obtain rfl : k = bs.length := by omega
        have E1 : Hid (G.fl.programE a bs = G.turnE) := by have := HE.out; rw [show G.fl.may a bs = true from HM.out] at this; exact this
        have E2 : Hid (G.program a bs = G.turn a bs) := by have := HP.out; rw [show G.fl.may a bs = true from HM.out] at this; exact this
        have hrO : Reads wr A bs.length (bs.map u8v) := by
          by_cases hz : 0 < bs.length
          · exact hr.only HO.out (hap hz)
          · exact ⟨hr.len, fun h => absurd h hz⟩
        have HRO := Lib.hid hrO
        clear HE HP hm hF hO hrO
        go_wp2_with (go_at_call 73; refine (rturn_c _ _ _ _ G a _ _ _ bs HF.out h0 HRO.out hap hfit).mono ?_; rintro e w' ⟨rfl, hf, ho⟩)
        go_ret
        exact ⟨int_ret E1.out.symm, by rw [E2.out]; exact hf, HO.out.trans ho⟩
  · have h2' : G.fl.within x bs.length = false := by simpa using h2
    have e1 : G.fl.programE x bs = 2 := by
      unfold Fl.programE
      rw [if_neg (by show ¬ G.off = true; exact h1), if_neg h2]
    have e2 : G.program x bs = G := by unfold RF.program; rw [if_neg h1, if_neg h2]
    have hb : ¬ (0 ≤ x ∧ x + (bs.length : Int) ≤ (G.b.length : Int)) := by
      intro hh
      refine h2 ?_
      unfold Fl.within
      simp
      refine ⟨hh.1, ?_⟩
      show x + (bs.length : Int) ≤ 320 * (G.wear.length : Int)
      omega
    rw [e1, e2]
    clear e1 e2 h h2 h2' h1 hlen
    by_cases j1 : x < 0
    · go_enter Try.func27, Try.ntmps27
      go_wp2
      go_ret
      exact ⟨rfl, H.out, Only.refl _ _⟩
    · by_cases j2 : (G.b.length : Int) < x
      · go_enter Try.func27, Try.ntmps27
        go_wp2
        go_ret
        exact ⟨rfl, H.out, Only.refl _ _⟩
      · have j3 : (G.b.length : Int) - x < (bs.length : Int) := by omega
        have i4 : IntKind.i64.wrap ((G.b.length : Int) - x) = (G.b.length : Int) - x := IntWalk.i64_in _ (by omega)
        go_enter Try.func27, Try.ntmps27
        go_wp2
        go_ret
        exact ⟨rfl, H.out, Only.refl _ _⟩
end Go.Proofs.Ytlchlcjahndjgaa
