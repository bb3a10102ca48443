/- Walks of package nor, third part: Program, Erase, Cut, Power, New. -/
import Derived.Test.YtlchlcjahndjgaaNorB
namespace Go.Proofs.Ytlchlcjahndjgaa
open Go.RowKit
set_option linter.unusedVariables false
set_option linter.unusedSimpArgs false

theorem power_c (w : World) (fb bb wb : Nat) (F : Fl) (h : FlashAt w fb bb wb F) : Calls Try.prog 39 #[ptr fb] w fun e w' =>
    e = .returned (.tuple #[]) ∧ FlashAt w' fb bb wb F.power ∧ Only [fb, bb, wb] w w' := by
  have c4 := h.c4
  have c2 := h.c2
  have f4 := h.fr 4
  have f2 := h.fr 2
  have H := Lib.hid h
  clear h
  go_enter Try.func39, Try.ntmps39
  go_wp2
  go_end0
  refine ⟨rfl, ?_, ((Only.refl _ _).setCell (by simp) _).setCell (by simp) _⟩
  have h4 := H.out.set4 false
  exact h4.set2 (-1) ⟨h4.ok.len, h4.ok.most, by show (-1 : Int) ≤ -1; omega, by show (-1 : Int) ≤ _; omega, h4.ok.mask, h4.ok.wear⟩

theorem FlashAt.set3 {w : World} {fb bb wb : Nat} {F : Fl} (h : FlashAt w fb bb wb F) (A : Option Addr) (c : Nat) (m : List UInt8) (hm : m.length ≤ 140737488351232) (hr : Reads w A m.length (m.map u8v)) (ha : 0 < m.length → Apart (fb :: bb :: wb :: F.far) A) :
    FlashAt (w.setCell ⟨fb, 3, none⟩ (.slice A m.length c)) fb bb wb { F with mask := m } := by
  obtain ⟨h1, h2, h3⟩ := h.ne
  obtain ⟨A0, c0, b1, b2, b3⟩ := h.obj
  refine ⟨⟨h.ok.len, h.ok.most, h.ok.cut0, h.ok.cut1, hm, h.ok.wear⟩, ⟨A, c, by simpa using b1.set_ 3 (.slice A m.length c), hr.setCellC (fun h0 a h4 e => ha h0 a h4 (by simp [e])) _, ha⟩, h.bytes.far (by exact fun e => h1 e.symm) _, h.wears.far (by exact fun e => h2 e.symm) _, fun k hk => by simpa using h.farlt k hk⟩

theorem FlashAt.cutmask {w : World} {fb bb wb : Nat} {F : Fl} (h : FlashAt w fb bb wb F) (y : Int) (h0 : 0 ≤ y) (h1 : y ≤ 9223372036854775807) (A : Option Addr) (c : Nat) (m : List UInt8) (hm : m.length ≤ 140737488351232) (hr : Reads w A m.length (m.map u8v)) (ha : 0 < m.length → Apart (fb :: bb :: wb :: F.far) A) :
    FlashAt ((w.setCell ⟨fb, 2, none⟩ (.int .i64 y)).setCell ⟨fb, 3, none⟩ (.slice A m.length c)) fb bb wb { F with cut := y, mask := m } := by
  have h2 := h.set2 y ⟨h.ok.len, h.ok.most, by show -1 ≤ y; omega, h1, h.ok.mask, h.ok.wear⟩
  exact h2.set3 A c m hm (hr.setCellC (fun h0 a h4 e => ha h0 a h4 (by simp [e])) _) ha

theorem cut_c (w : World) (fb bb wb : Nat) (F : Fl) (x : Int) (hx : x ≤ 9223372036854775807) (A : Option Addr) (n c : Nat) (m : List UInt8) (hm : n ≤ 140737488351232) (hr : Reads w A n (m.map u8v)) (h : FlashAt w fb bb wb F) :
    Calls Try.prog 38 #[ptr fb, .int .i64 x, .slice A n c] w fun e w' =>
      e = .returned (.tuple #[]) ∧ FlashAt w' fb bb wb (F.setCut x m) ∧ Only [fb, bb, wb] w w' := by
  obtain ⟨A0, c0, k3, _, _⟩ := h.c3
  have c2 := h.c2
  have f3 := h.fr 3
  have f2 := h.fr 2
  obtain ⟨lt1, lt2, lt3⟩ := h.lt
  have H := Lib.hid h
  clear h
  have hml : m.length = n := by simpa using hr.len
  have HML := Lib.hid hml
  clear hml
  by_cases hc : 0 < x
  · have hmx : max 0 x = x := by omega
    have hsc : F.setCut x m = { F with cut := x, mask := m } := by unfold Fl.setCut; rw [hmx]
    rw [hsc]
    clear hsc hmx
    go_enter Try.func38, Try.ntmps38
    go_wp2_with fail
    refine (clone_n _ _ _ _ m hr hm).mono ?_
    rintro e w1 ⟨A', c', rfl, hown, hbel⟩
    have F1 := H.out.below hbel
    have c2' := F1.c2
    have f2' := F1.fr 2
    have f3' := F1.fr 3
    obtain ⟨A1, c1, k3', _, _⟩ := F1.c3
    have HF1 := Lib.hid F1
    have hap : Apart (fb :: bb :: wb :: F.far) A' := own_apart hown (by intro k hk; simp only [List.mem_cons] at hk; rcases hk with rfl | rfl | rfl | hk; omega; omega; omega; exact H.out.farlt k hk)
    have HR1 := Lib.hid (Reads.of_own hown)
    have HO := Lib.hid (Only.of_below (S := [fb, bb, wb]) hbel)
    clear c2 f3 f2 k3 hbel hown F1
    go_wp2
    go_end0
    exact ⟨rfl, HF1.out.cutmask x (by omega) (by omega) A' c' m (by have := HML.out; omega) HR1.out (fun _ => hap), (HO.out.setCell (by simp) _).setCell (by simp) _⟩
  · have hmx : max 0 x = 0 := by omega
    have hsc : F.setCut x m = { F with cut := 0, mask := m } := by unfold Fl.setCut; rw [hmx]
    rw [hsc]
    clear hsc hmx
    go_enter Try.func38, Try.ntmps38
    go_wp2_with fail
    refine (clone_n _ _ _ _ m hr hm).mono ?_
    rintro e w1 ⟨A', c', rfl, hown, hbel⟩
    have F1 := H.out.below hbel
    have c2' := F1.c2
    have f2' := F1.fr 2
    have f3' := F1.fr 3
    obtain ⟨A1, c1, k3', _, _⟩ := F1.c3
    have HF1 := Lib.hid F1
    have hap : Apart (fb :: bb :: wb :: F.far) A' := own_apart hown (by intro k hk; simp only [List.mem_cons] at hk; rcases hk with rfl | rfl | rfl | hk; omega; omega; omega; exact H.out.farlt k hk)
    have HR1 := Lib.hid (Reads.of_own hown)
    have HO := Lib.hid (Only.of_below (S := [fb, bb, wb]) hbel)
    clear c2 f3 f2 k3 hbel hown F1
    go_wp2
    go_end0
    exact ⟨rfl, HF1.out.cutmask 0 (by omega) (by omega) A' c' m (by have := HML.out; omega) HR1.out (fun _ => hap), (HO.out.setCell (by simp) _).setCell (by simp) _⟩

theorem u8_andn (c x : UInt8) : bits .andNot .u8 (c.toNat : Int) (x.toNat : Int) = ((c &&& ~~~x).toNat : Int) := by
  rw [u8_andNot_nat _ _ c.toNat_lt x.toNat_lt, UInt8.toNat_and, UInt8.toNat_not]; rfl
def Fl.mayTo (F : Fl) (a : Nat) (bs : List UInt8) (k : Nat) : Bool := (List.range k).all fun i => bs.getD i 0 &&& ~~~(F.b.getD (a + i) 0) == 0
theorem Fl.mayTo_succ (F : Fl) (a : Nat) (bs : List UInt8) (k : Nat) : F.mayTo a bs (k + 1) = (F.mayTo a bs k && (bs.getD k 0 &&& ~~~(F.b.getD (a + k) 0) == 0)) := by
  simp [Fl.mayTo, List.range_succ]
theorem Fl.may_not {F : Fl} {a : Nat} {bs : List UInt8} {k : Nat} (hk : k < bs.length) (h : (bs.getD k 0 &&& ~~~(F.b.getD (a + k) 0) == 0) = false) : F.may a bs = false := by
  unfold Fl.may
  rw [List.all_eq_false]
  exact ⟨k, List.mem_range.2 hk, by rw [h]; simp⟩
theorem bne_u8 (x : UInt8) : (((x.toNat : Int)) != 0) = !(x == 0) := by
  have : ((x.toNat : Int) == 0) = (x == 0) := by
    rw [Bool.eq_iff_iff]; simp only [beq_iff_eq]
    constructor
    · intro h; exact UInt8.toNat_inj.1 (by simpa using h)
    · rintro rfl; rfl
  simp only [bne, this]

theorem program_z (w : World) (fb bb wb : Nat) (F : Fl) (x : Int) (A : Option Addr) (n c : Nat) (bs : List UInt8) (h : FlashAt w fb bb wb F)
    (hr : Reads w A n (bs.map u8v)) (hap : 0 < n → Apart [fb, bb, wb] A) (hn : n < 4611686018427387904) :
    Calls Try.prog 26 #[ptr fb, .int .i64 x, .slice A n c] w fun e w' =>
      e = .returned (.int .i64 (F.programE x bs)) ∧ FlashAt w' fb bb wb (F.program x bs) ∧ Only [fb, bb, wb] w w' := by
  have hml : bs.length = n := by simpa using hr.len
  subst hml
  have H := Lib.hid h
  by_cases h1 : F.off = true
  · have e1 : F.programE x bs = 4 := by simp [Fl.programE, h1]
    have e2 : F.program x bs = F := by simp [Fl.program, h1]
    rw [e1, e2]
    clear e1 e2 h
    go_enter Try.func26, Try.ntmps26
    go_wp2_with (go_at_call 70; refine (off_c _ H.out).mono ?_; rintro e w' ⟨rfl, rfl⟩)
    go_ret
    exact ⟨rfl, H.out, Only.refl _ _⟩
  · have h1' : F.off = false := by simpa using h1
    by_cases h2 : F.within x bs.length = true
    · have hb : 0 ≤ x ∧ x + (bs.length : Int) ≤ 320 * (F.wear.length : Int) := by simpa [Fl.within] using h2
      obtain ⟨a, rfl⟩ := Int.eq_ofNat_of_zero_le hb.1
      have hlen := h.ok.len
      have hmost := h.ok.most
      have hfit : a + bs.length ≤ F.b.length := by omega
      have hbl : F.b.length ≤ 128000 := by omega
      have c0 := h.c0
      have HE : Hid (F.programE a bs = if F.may a bs then F.workE else 3) := by simp [Hid, Fl.programE, h1', h2]
      have HP : Hid (F.program a bs = if F.may a bs then F.work a bs else F) := by simp [Hid, Fl.program, h1', h2]
      clear h h1 hlen hb
      go_enter Try.func26, Try.ntmps26
      go_wp2_with (first | (go_at_call 70; refine (off_c _ H.out).mono ?_; rintro e w' ⟨rfl, rfl⟩) | (go_at_call 74; refine (within_c _ _ _ (by omega) (by omega) H.out).mono ?_; rintro e w' ⟨rfl, rfl⟩))
      go_loop [25] (fun i => ∃ k : Nat, k ≤ bs.length ∧ i = .int .i64 k ∧ F.mayTo a bs k = true) (fun i => bs.length - (intOf i).toNat)
      case atStart => exact ⟨0, Nat.zero_le _, rfl, by simp [Fl.mayTo]⟩
      case round =>
        obtain ⟨k, hk, rfl, hm⟩ := hrel
        have HM := Lib.hid hm
        clear hm
        by_cases hlt : k < bs.length
        · obtain ⟨b, o, rfl, hb, hcell⟩ := bytes_at hr hlt
          have kb := H.out.cb (a + k) (by omega)
          have e2 : (0 : Int) ≤ (a : Int) + (k : Int) := by omega
          have e3 : (a : Int) + (k : Int) < (F.b.length : Int) := by omega
          have e4 : ((a : Int) + (k : Int)).toNat = a + k := by omega
          have hg : bs.getD k 0 &&& ~~~(F.b.getD (a + k) 0) = bs[k] &&& ~~~(F.b[a + k]'(by omega)) := by
            simp only [List.getD_eq_getElem?_getD]
            rw [List.getElem?_eq_getElem hlt, List.getElem?_eq_getElem (show a + k < F.b.length by omega)]; rfl
          by_cases ht : (bs[k] &&& ~~~(F.b[a + k]'(by omega)) == 0) = true
          · have hs : F.mayTo a bs (k + 1) = true := by rw [Fl.mayTo_succ, HM.out, hg, ht]; rfl
            have hv : (bits .andNot .u8 (bs[k].toNat : Int) ((F.b[a + k]'(by omega)).toNat : Int) != 0) = false := by rw [u8_andn, bne_u8, ht]; rfl
            have HS := Lib.hid hs
            clear hs ht hg
            go_wp2
            go_round
            case rel => exact ⟨k + 1, by omega, by go_num, HS.out⟩
            case measure => simp [intOf]; omega
          · have ht' : (bs[k] &&& ~~~(F.b[a + k]'(by omega)) == 0) = false := by simpa using ht
            have hv : (bits .andNot .u8 (bs[k].toNat : Int) ((F.b[a + k]'(by omega)).toNat : Int) != 0) = true := by rw [u8_andn, bne_u8, ht']; rfl
            have hno : F.may a bs = false := Fl.may_not hlt (by rw [hg]; exact ht')
            have E1 : Hid (F.programE a bs = 3) := by have := HE.out; rw [hno] at this; exact this
            have E2 : Hid (F.program a bs = F) := by have := HP.out; rw [hno] at this; exact this
            clear hno ht ht' hg HE HP
            go_wp2
            go_ret
            exact ⟨int_ret E1.out.symm, by rw [E2.out]; exact H.out, Only.refl _ _⟩
        · obtain rfl : k = bs.length := by omega
          have E1 : Hid (F.programE a bs = F.workE) := by have := HE.out; rw [show F.may a bs = true from HM.out] at this; exact this
          have E2 : Hid (F.program a bs = F.work a bs) := by have := HP.out; rw [show F.may a bs = true from HM.out] at this; exact this
          clear HE HP
          go_wp2_with (go_at_call 72; refine (work_z _ _ _ _ F a _ _ _ bs H.out hr hap hfit).mono ?_; rintro e w' ⟨rfl, hf, ho⟩)
          go_ret
          exact ⟨int_ret E1.out.symm, by rw [E2.out]; exact hf, ho⟩
    · have h2' : F.within x bs.length = false := by simpa using h2
      have e1 : F.programE x bs = 2 := by simp [Fl.programE, h1', h2']
      have e2 : F.program x bs = F := by simp [Fl.program, h1', h2']
      rw [e1, e2]
      clear e1 e2 h h1 h2
      go_enter Try.func26, Try.ntmps26
      go_wp2_with (first | (go_at_call 70; refine (off_c _ H.out).mono ?_; rintro e w' ⟨rfl, rfl⟩) | (go_at_call 74; refine (within_c _ _ _ (by omega) (by omega) H.out).mono ?_; rintro e w' ⟨rfl, rfl⟩))
      go_ret
      exact ⟨rfl, H.out, Only.refl _ _⟩

theorem program_c (w : World) (fb bb wb : Nat) (F : Fl) (x : Int) (A : Option Addr) (n c : Nat) (bs : List UInt8) (h : FlashAt w fb bb wb F)
    (hr : Reads w A n (bs.map u8v)) (hap : Apart [fb, bb, wb] A) (hn : n < 4611686018427387904) :
    Calls Try.prog 26 #[ptr fb, .int .i64 x, .slice A n c] w fun e w' =>
      e = .returned (.int .i64 (F.programE x bs)) ∧ FlashAt w' fb bb wb (F.program x bs) ∧ Only [fb, bb, wb] w w' :=
  program_z w fb bb wb F x A n c bs h hr (fun _ => hap) hn
theorem erase_c (w : World) (fb bb wb : Nat) (F : Fl) (x : Int) (h : FlashAt w fb bb wb F) (hmw : F.wearAt x ≤ 4611686018427387903) :
    Calls Try.prog 24 #[ptr fb, .int .i64 x] w fun e w' =>
      e = .returned (.int .i64 (F.eraseE x)) ∧ FlashAt w' fb bb wb (F.erase x) ∧ Only [fb, bb, wb] w w' := by
  have H := Lib.hid h
  by_cases h1 : F.off = true
  · have e1 : F.eraseE x = 4 := by simp [Fl.eraseE, h1]
    have e2 : F.erase x = F := by simp [Fl.erase, h1]
    rw [e1, e2]
    clear e1 e2 h
    go_enter Try.func24, Try.ntmps24
    go_wp2_with (go_at_call 70; refine (off_c _ H.out).mono ?_; rintro e w' ⟨rfl, rfl⟩)
    go_ret
    exact ⟨rfl, H.out, Only.refl _ _⟩
  · have h1' : F.off = false := by simpa using h1
    by_cases h2 : F.is x = true
    · have hb : 0 ≤ x ∧ x < (F.wear.length : Int) := by simpa [Fl.is] using h2
      obtain ⟨k, rfl⟩ := Int.eq_ofNat_of_zero_le hb.1
      have hk : k < F.wear.length := by omega
      have hlen := h.ok.len
      have hmost := h.ok.most
      have c1 := h.c1
      have cw := h.cw k hk
      have fw := h.wears.frozen k
      have hwr := h.ok.wear _ (List.getElem_mem hk)
      have hw0 : 0 ≤ F.wear[k] := hwr.1
      have hw1 : F.wear[k] ≤ 4611686018427387903 := by simpa [Fl.wearAt, h2, hk] using hmw
      have HE : Hid (F.eraseE k = F.workE) := by simp [Hid, Fl.eraseE, h1', h2]
      have HP : Hid (F.erase k = (F.worn k).work (k * 320) (List.replicate 320 255)) := by simp only [Hid, Fl.erase, h1', h2, Int.toNat_natCast]; rfl
      have hwd : F.worn k = { F with wear := F.wear.set k (F.wear[k] + 1) } := by
        unfold Fl.worn; rw [List.getD_eq_getElem?_getD, List.getElem?_eq_getElem hk]; rfl
      have HWD := Lib.hid hwd
      have hfit : k * 320 + 320 ≤ F.b.length := by omega
      clear h h1 hlen hb hwr hwd hmw
      go_enter Try.func24, Try.ntmps24
      go_wp2_with (first | (go_at_call 70; refine (off_c _ H.out).mono ?_; rintro e w' ⟨rfl, rfl⟩) | (go_at_call 71; refine (is_c _ _ H.out).mono ?_; rintro e w' ⟨rfl, rfl⟩))
      have F1 : FlashAt ((w.setCell ⟨wb, k, none⟩ (.int .i64 (F.wear[k] + 1))).alloc (.cells #[.int .u8 255] 5)) fb bb wb (F.worn k) := by
        rw [HWD.out]; exact (H.out.setW k _ ⟨by omega, by omega⟩).alloc _
      have O1 : Only [fb, bb, wb] w ((w.setCell ⟨wb, k, none⟩ (.int .i64 (F.wear[k] + 1))).alloc (.cells #[.int .u8 255] 5)) := ((Only.refl _ _).setCell (by simp) _).alloc _
      have c255 : ((w.setCell ⟨wb, k, none⟩ (.int .i64 (F.wear[k] + 1))).alloc (.cells #[.int .u8 255] 5)).cell? ⟨w.heap.size, 0, none⟩ = some (u8v 255) := by
        have t := (Blk.new (w.setCell ⟨wb, k, none⟩ (.int .i64 (F.wear[k] + 1))) 5 #[.int .u8 255]).cell 0
        rw [show (w.setCell ⟨wb, k, none⟩ (.int .i64 (F.wear[k] + 1))).heap.size = w.heap.size by simp [World.setCell]] at t
        exact t
      have hlt : fb < w.heap.size ∧ bb < w.heap.size ∧ wb < w.heap.size := H.out.lt
      have hlt1 := F1.lt
      generalize ((w.setCell ⟨wb, k, none⟩ (.int .i64 (F.wear[k] + 1))).alloc (.cells #[.int .u8 255] 5)) = W1 at *
      refine (repeat_c W1 255 w.heap.size 0 1 320 c255 (by omega)).mono ?_
      rintro e w2 ⟨rfl, hblk, hbel⟩
      have F2 := Lib.hid (F1.below hbel)
      have O2 := Lib.hid (O1.after hbel)
      have HB := Lib.hid hblk
      clear F1 O1 c255 hblk hbel
      go_wp2_with fail
      rw [show (k : Int) * 320 = ((k * 320 : Nat) : Int) by omega]
      refine (work_c _ _ _ _ (F.worn k) (k * 320) _ _ _ (List.replicate 320 255) F2.out (by rw [List.map_replicate]; exact HB.out.rep) (by intro a ha; cases ha; simp; omega) (by rw [HWD.out]; exact hfit)).mono ?_
      rintro e w3 ⟨rfl, hf, ho⟩
      go_wp2_with fail
      go_ret
      refine ⟨int_ret ?_, by rw [HP.out]; exact hf, O2.out.trans ho⟩
      rw [HE.out]; rfl
    · have h2' : F.is x = false := by simpa using h2
      have e1 : F.eraseE x = 2 := by simp [Fl.eraseE, h1', h2']
      have e2 : F.erase x = F := by simp [Fl.erase, h1', h2']
      rw [e1, e2]
      clear e1 e2 h h1 h2
      go_enter Try.func24, Try.ntmps24
      go_wp2_with (first | (go_at_call 70; refine (off_c _ H.out).mono ?_; rintro e w' ⟨rfl, rfl⟩) | (go_at_call 71; refine (is_c _ _ H.out).mono ?_; rintro e w' ⟨rfl, rfl⟩))
      go_ret
      exact ⟨rfl, H.out, Only.refl _ _⟩
end Go.Proofs.Ytlchlcjahndjgaa
