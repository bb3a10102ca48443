/- The reference's Body, ManifestBytes; Reader.Bad, Left; Same. · The reference's Body, ManifestBytes; Reader.Bad, Left; Same. · The reference's Reader.Bad and Left; its ReadManifest. · The reference's ReadManifest. · The reference's Same and Signed. -/
import Derived.Test.YtpafenlcgcenlaaGreatDoorMnC
import Derived.Test.YtpafenlcgcenlaaGreatDoorRmn1
import Derived.Test.YtpafenlcgcenlaaGreatDoorHmB
namespace Go.Proofs.YtpafenlcgcenlaaGreatDoor
open Go Go.RowKit
set_option linter.unusedVariables false
set_option linter.unusedSimpArgs false
end Go.Proofs.YtpafenlcgcenlaaGreatDoor
namespace Go.Proofs.YtpafenlcgcenlaaGreatDoor
open Go Go.RowKit
set_option linter.unusedVariables false
set_option linter.unusedSimpArgs false
attribute [local go_sem ↓] sbN_seal sldN_seal sstN_seal sstDg_seal
end Go.Proofs.YtpafenlcgcenlaaGreatDoor
namespace Go.Proofs.YtpafenlcgcenlaaGreatDoor
open Go Go.RowKit
set_option linter.unusedVariables false
set_option linter.unusedSimpArgs false
attribute [local go_sem ↓] sbN_seal sldN_seal sstN_seal sstDg_seal
theorem rrbad_c (w : World) (p : Nat) (l : List UInt8) (bad : Bool) (h : RrAt w p l bad) : Calls Tryz.prog 70 #[ptr p] w fun e w' => e = .returned (.bool bad) ∧ w = w' := by
 obtain ⟨A, n, c, hb, -⟩ := h
 have c1 : w.cell? ⟨p, 1, none⟩ = Option.some (.bool bad) := hb.cell 1
 clear hb
 go_enter Tryz.func70, Tryz.ntmps70
 go_wp2_with fail
 go_ret
 exact ⟨rfl, rfl⟩
theorem rrleft_c (w : World) (p : Nat) (l : List UInt8) (h : RrAt w p l false) : Calls Tryz.prog 71 #[ptr p] w fun e w' => e = .returned (.int .i64 (l.length : Int)) ∧ w = w' := by
 obtain ⟨A, n, c, hb, hr, -⟩ := h
 have hl : l.length = n := by simpa using hr.len
 rw [hl]
 have c1 : w.cell? ⟨p, 1, none⟩ = Option.some (.bool false) := hb.cell 1
 have c0 : w.cell? ⟨p, 0, none⟩ = Option.some (.slice A n c) := hb.cell 0
 clear hb hr hl
 go_enter Tryz.func71, Tryz.ntmps71
 go_wp2_with fail
 go_ret
 exact ⟨rfl, rfl⟩
theorem rr_good {l : List UInt8} {bad : Bool} {n : Nat} (h : rdB l bad n = false) : bad = false ∧ n ≤ l.length ∧ rrL l bad n = l.drop n ∧ rdT l bad n = l.take n := by
 unfold rdB at h
 simp only [Bool.or_eq_false_iff, decide_eq_false_iff_not] at h
 obtain ⟨rfl, h⟩ := h
 refine ⟨rfl, by omega, ?_, ?_⟩
 ·
  unfold rrL; rw [if_neg (by simp; omega)]
 ·
  unfold rdT; rw [if_neg (by simp; omega)]
theorem rr_fwd {l : List UInt8} {n : Nat} (h : n ≤ l.length) : rdB l false n = false := by
 unfold rdB
 simp
 omega
/-- What the six reads of a manifest's bytes give. -/
structure Rd6 (l T1 T2 T3 T4 T5 T6 l6 : List UInt8) (b6 : Bool) : Prop where
 bad : b6 = true → l.length < 92
 good : b6 = false → 92 ≤ l.length ∧ l6 = l.drop 92 ∧ T1 = l.take 4 ∧ T2 = (l.drop 4).take 16 ∧ T3 = (l.drop 20).take 4 ∧ T4 = (l.drop 24).take 4 ∧ T5 = (l.drop 28).take 32 ∧ T6 = (l.drop 60).take 32
 t2 : T2.length = 0 → b6 = true
theorem rd6 (l l1 l2 l3 l4 l5 l6 T1 T2 T3 T4 T5 T6 : List UInt8) (b1 b2 b3 b4 b5 b6 : Bool) (a1 : rdT l false 4 = T1) (c1 : rrL l false 4 = l1) (d1 : rdB l false 4 = b1) (a2 : rdT l1 b1 16 = T2) (c2 : rrL l1 b1 16 = l2) (d2 : rdB l1 b1 16 = b2)
  (a3 : rdT l2 b2 4 = T3) (c3 : rrL l2 b2 4 = l3) (d3 : rdB l2 b2 4 = b3) (a4 : rdT l3 b3 4 = T4) (c4 : rrL l3 b3 4 = l4) (d4 : rdB l3 b3 4 = b4) (a5 : rdT l4 b4 32 = T5) (c5 : rrL l4 b4 32 = l5) (d5 : rdB l4 b4 32 = b5) (a6 : rdT l5 b5 32 = T6) (c6 : rrL l5 b5 32 = l6) (d6 : rdB l5 b5 32 = b6) :
  Rd6 l T1 T2 T3 T4 T5 T6 l6 b6 := by
 have good : b6 = false → 92 ≤ l.length ∧ l6 = l.drop 92 ∧ T1 = l.take 4 ∧ T2 = (l.drop 4).take 16 ∧ T3 = (l.drop 20).take 4 ∧ T4 = (l.drop 24).take 4 ∧ T5 = (l.drop 28).take 32 ∧ T6 = (l.drop 60).take 32 := by
  intro h
  obtain ⟨g5, n6, e6, f6⟩ := rr_good (d6.trans h)
  obtain ⟨g4, n5, e5, f5⟩ := rr_good (d5.trans g5)
  obtain ⟨g3, n4, e4, f4⟩ := rr_good (d4.trans g4)
  obtain ⟨g2, n3, e3, f3⟩ := rr_good (d3.trans g3)
  obtain ⟨g1, n2, e2, f2⟩ := rr_good (d2.trans g2)
  obtain ⟨_, n1, e1, f1⟩ := rr_good (d1.trans g1)
  rw [c1] at e1
  rw [c2] at e2
  rw [c3] at e3
  rw [c4] at e4
  rw [c5] at e5
  rw [c6] at e6
  rw [a1] at f1
  rw [a2] at f2
  rw [a3] at f3
  rw [a4] at f4
  rw [a5] at f5
  rw [a6] at f6
  subst e1
  rw [List.drop_drop] at e2
  subst e2
  rw [List.drop_drop] at e3
  subst e3
  rw [List.drop_drop] at e4
  subst e4
  rw [List.drop_drop] at e5
  subst e5
  rw [List.drop_drop] at e6
  simp only [List.length_drop] at n2 n3 n4 n5 n6
  exact ⟨by omega, e6, f1, f2, f3, f4, f5, f6⟩
 refine ⟨fun h => ?_, good, fun h => ?_⟩
 ·
  rcases Nat.lt_or_ge l.length 92 with h1 | h1
  ·
   exact h1
  ·
   exfalso
   have q1 := rr_fwd (l := l) (n := 4) (by omega)
   obtain ⟨_, _, e1, _⟩ := rr_good q1
   rw [q1] at d1
   subst d1
   rw [c1] at e1
   have q2 := rr_fwd (l := l1) (n := 16) (by rw [e1, List.length_drop]; omega)
   obtain ⟨_, _, e2, _⟩ := rr_good q2
   rw [q2] at d2
   subst d2
   rw [c2, e1, List.drop_drop] at e2
   have q3 := rr_fwd (l := l2) (n := 4) (by rw [e2, List.length_drop]; omega)
   obtain ⟨_, _, e3, _⟩ := rr_good q3
   rw [q3] at d3
   subst d3
   rw [c3, e2, List.drop_drop] at e3
   have q4 := rr_fwd (l := l3) (n := 4) (by rw [e3, List.length_drop]; omega)
   obtain ⟨_, _, e4, _⟩ := rr_good q4
   rw [q4] at d4
   subst d4
   rw [c4, e3, List.drop_drop] at e4
   have q5 := rr_fwd (l := l4) (n := 32) (by rw [e4, List.length_drop]; omega)
   obtain ⟨_, _, e5, _⟩ := rr_good q5
   rw [q5] at d5
   subst d5
   rw [c5, e4, List.drop_drop] at e5
   have q6 := rr_fwd (l := l5) (n := 32) (by rw [e5, List.length_drop]; omega)
   rw [q6, h] at d6
   cases d6
 ·
  cases b6 with
  | true => rfl
  | false =>
   obtain ⟨g1, _, _, g4, _⟩ := good rfl
   rw [g4, List.length_take, List.length_drop] at h
   omega
/-- What stands while a manifest's bytes are read. -/
structure Rst (w0 W : World) (rb pb : Nat) (l : List UInt8) (bad : Bool) : Prop where
 rd : RrAt W pb l bad
 res : Blk W rb 82 zeroN.toArray
 bel : Below w0.heap.size w0 W
 lt : rb < pb
 ge : w0.heap.size ≤ rb
/-- A slice that was read. -/
structure Kp (W : World) (rb pb : Nat) (A : Option Addr) (c : Nat) (T : List UInt8) : Prop where
 rd : Reads W A T.length (T.map u8v)
 ap : ∀ a, A = Option.some a → a.block ≠ pb ∧ a.block ≠ rb ∧ a.block < W.heap.size
 cap : T.length ≤ c ∧ c ≤ maxLen
theorem Kp.only {W W' : World} {rb pb c : Nat} {A : Option Addr} {T : List UInt8} (h : Kp W rb pb A c T) (ho : Only [pb] W W') : Kp W' rb pb A c T :=
 ⟨h.rd.only ho (fun a ha => by simpa using (h.ap a ha).1), fun a ha => ⟨(h.ap a ha).1, (h.ap a ha).2.1, Nat.lt_of_lt_of_le (h.ap a ha).2.2 ho.size⟩, h.cap⟩
theorem Kp.below {W W' : World} {rb pb c : Nat} {A : Option Addr} {T : List UInt8} (h : Kp W rb pb A c T) (hb : Below W.heap.size W W') : Kp W' rb pb A c T :=
 ⟨h.rd.below hb, fun a ha => ⟨(h.ap a ha).1, (h.ap a ha).2.1, Nat.lt_of_lt_of_le (h.ap a ha).2.2 hb.size⟩, h.cap⟩
theorem Rst.later {w0 W W' : World} {rb pb : Nat} {l : List UInt8} {bad : Bool} (h : Rst w0 W rb pb l bad) (hb : Below W.heap.size W W') : Rst w0 W' rb pb l bad :=
 ⟨h.rd.below hb, h.res.below hb h.res.lt, h.bel.trans (hb.mono h.bel.size), h.lt, h.ge⟩
theorem Rst.step {w0 W W' : World} {rb pb : Nat} {l l' : List UInt8} {bad bad' : Bool} (h : Rst w0 W rb pb l bad) (ho : Only [pb] W W') (hr : RrAt W' pb l' bad') : Rst w0 W' rb pb l' bad' :=
 ⟨hr, h.res.only ho (by have := h.lt; simp; omega), ho.below h.bel h.bel.size (by intro k hk; have := h.lt; have := h.ge; simp at hk; omega), h.lt, h.ge⟩
theorem Rst.raw {w0 W : World} {rb pb : Nat} {l : List UInt8} {bad : Bool} (h : Rst w0 W rb pb l bad) (k : Nat) (h1 : 1 ≤ k) (h2 : k ≤ 1000) :
  Calls Tryz.prog 68 #[ptr pb, .int .i64 (k : Int)] W fun e w' => ∃ A c, e = .returned (.slice A (rdT l bad k).length c) ∧ Kp w' rb pb A c (rdT l bad k) ∧ Rst w0 w' rb pb (rrL l bad k) (rdB l bad k) ∧ Only [pb] W w' := by
 refine (rrraw_c W pb k l bad h.rd h2 h1).mono ?_
 rintro e w' ⟨A, c, he, ho, hr, hn⟩
 refine ⟨A, c, he, ⟨Reads.of_own ho, fun a ha => ?_, own_cap ho⟩, h.step hn hr, hn⟩
 subst ha
 have q := ho.lt a.block rfl
 have := h.rd.lt
 have := h.lt
 exact ⟨by omega, by omega, q.2⟩
theorem Rst.num {w0 W : World} {rb pb : Nat} {l : List UInt8} {bad : Bool} (h : Rst w0 W rb pb l bad) (k : Nat) (h1 : 1 ≤ k) (h2 : k ≤ 7) :
  Calls Tryz.prog 69 #[ptr pb, .int .i64 (k : Int)] W fun e w' => e = .returned (.int .i64 ((ofBe (rdT l bad k) : Nat) : Int)) ∧ Rst w0 w' rb pb (rrL l bad k) (rdB l bad k) ∧ Only [pb] W w' := by
 refine (rrnum_c W pb k l bad h.rd h2 h1).mono ?_
 rintro e w' ⟨he, hr, hn⟩
 exact ⟨he, h.step hn hr, hn⟩
end Go.Proofs.YtpafenlcgcenlaaGreatDoor
namespace Go.Proofs.YtpafenlcgcenlaaGreatDoor
open Go Go.RowKit
set_option linter.unusedVariables false
set_option linter.unusedSimpArgs false
attribute [local go_sem ↓] sbN_seal sldN_seal sstN_seal sstDg_seal
def lenV : Value → Nat
 | .slice _ n _ => n
 | _ => 0
set_option maxRecDepth 100000 in
set_option maxHeartbeats 4000000 in
theorem rmread_c (w : World) (A : Option Addr) (n c : Nat) (l : List UInt8) (hr : Reads w A n (l.map u8v)) (hn : n ≤ 100000) (hc : n ≤ c ∧ c ≤ maxLen) :
  Calls Tryz.prog 34 #[.slice A n c] w fun e w' => ManRet l e w' ∧ Below w.heap.size w w' := by
 have hb0 := Blk.new w 82 zeroN.toArray
 have hbd := fun W => run_sbN0 W
 have hll : l.length = n := by simpa using hr.len
 have HR := Lib.hid (hr.alloc (.cells zeroN.toArray 82))
 have hbel : Below w.heap.size w (w.alloc (.cells zeroN.toArray 82)) := (Below.refl _ _).alloc (Nat.le_refl _) _
 have hsz : (w.alloc (.cells zeroN.toArray 82)).heap.size = w.heap.size + 1 := by simp
 have HB0 := Lib.hid hb0
 have HBEL := Lib.hid hbel
 have HSZ := Lib.hid hsz
 have HLL := Lib.hid hll
 rw [← zeroN_eq] at HR HB0 HBEL HSZ
 simp only [← zeroN_eq] at hbd
 clear hb0 hr hbel hsz hll
 go_enter Tryz.func34, Tryz.ntmps34
 go_wp2_with fail
 generalize w.alloc (.cells #[.string ⟨#[]⟩, .int .i64 0, .int .i64 0, .int .u8 0, .int .u8 0, .int .u8 0, .int .u8 0, .int .u8 0, .int .u8 0, .int .u8 0, .int .u8 0, .int .u8 0, .int .u8 0, .int .u8 0, .int .u8 0, .int .u8 0, .int .u8 0, .int .u8 0, .int .u8 0, .int .u8 0, .int .u8 0, .int .u8 0, .int .u8 0, .int .u8 0, .int .u8 0, .int .u8 0, .int .u8 0, .int .u8 0, .int .u8 0, .int .u8 0, .int .u8 0, .int .u8 0, .int .u8 0, .int .u8 0, .int .u8 0] 82) = W0 at HR HB0 HBEL HSZ ⊢
 refine (rrnew2_c _ A n c l HR.out hc).mono ?_
 rintro e w2 ⟨pb, rfl, hpb, hrd, hb2⟩
 have H2 : Rst w w2 w.heap.size pb l false := ⟨hrd, by rw [← zeroN_eq]; exact HB0.out.below hb2 HB0.out.lt, HBEL.out.trans (hb2.mono HBEL.out.size), by have := HSZ.out; omega, Nat.le_refl _⟩
 have HM := Lib.hid H2
 clear hrd hb2 H2 HR HB0 HBEL HSZ hpb
 go_wp2_with fail
 refine (HM.out.raw 4 (by omega) (by omega)).mono ?_
 rintro e W1 ⟨A1, c1, rfl, k1, m1, n1⟩
 obtain ⟨T1, a1⟩ : ∃ T, rdT l false 4 = T := ⟨_, rfl⟩
 obtain ⟨l1, e1⟩ : ∃ T, rrL l false 4 = T := ⟨_, rfl⟩
 obtain ⟨b1, d1⟩ : ∃ T, rdB l false 4 = T := ⟨_, rfl⟩
 rw [e1, d1] at m1
 rw [a1] at k1 ⊢
 have K1 := Lib.hid k1
 have HM := Lib.hid m1
 have Ha1 := Lib.hid a1
 have He1 := Lib.hid e1
 have Hd1 := Lib.hid d1
 clear m1 n1 a1 e1 d1 k1
 go_wp2_with fail
 refine (HM.out.raw 16 (by omega) (by omega)).mono ?_
 rintro e W2 ⟨A2, c2, rfl, k2, m2, n2⟩
 obtain ⟨T2, a2⟩ : ∃ T, rdT l1 b1 16 = T := ⟨_, rfl⟩
 obtain ⟨l2, e2⟩ : ∃ T, rrL l1 b1 16 = T := ⟨_, rfl⟩
 obtain ⟨b2, d2⟩ : ∃ T, rdB l1 b1 16 = T := ⟨_, rfl⟩
 rw [e2, d2] at m2
 rw [a2] at k2 ⊢
 have K1 := Lib.hid (K1.out.only n2)
 have K2 := Lib.hid k2
 have HM := Lib.hid m2
 have Ha2 := Lib.hid a2
 have He2 := Lib.hid e2
 have Hd2 := Lib.hid d2
 clear m2 n2 a2 e2 d2 k2
 go_wp2_with fail
 refine (HM.out.num 4 (by omega) (by omega)).mono ?_
 rintro e W3 ⟨rfl, m3, n3⟩
 obtain ⟨T3, a3⟩ : ∃ T, rdT l2 b2 4 = T := ⟨_, rfl⟩
 obtain ⟨l3, e3⟩ : ∃ T, rrL l2 b2 4 = T := ⟨_, rfl⟩
 obtain ⟨b3, d3⟩ : ∃ T, rdB l2 b2 4 = T := ⟨_, rfl⟩
 rw [e3, d3] at m3
 rw [a3]
 have K1 := Lib.hid (K1.out.only n3)
 have K2 := Lib.hid (K2.out.only n3)
 have HM := Lib.hid m3
 have Ha3 := Lib.hid a3
 have He3 := Lib.hid e3
 have Hd3 := Lib.hid d3
 clear m3 n3 a3 e3 d3
 obtain ⟨V3, hV3⟩ : ∃ V : Int, ((ofBe T3 : Nat) : Int) = V := ⟨_, rfl⟩
 rw [hV3]
 have HV3 := Lib.hid hV3
 clear hV3
 go_wp2_with fail
 refine (HM.out.num 4 (by omega) (by omega)).mono ?_
 rintro e W4 ⟨rfl, m4, n4⟩
 obtain ⟨T4, a4⟩ : ∃ T, rdT l3 b3 4 = T := ⟨_, rfl⟩
 obtain ⟨l4, e4⟩ : ∃ T, rrL l3 b3 4 = T := ⟨_, rfl⟩
 obtain ⟨b4, d4⟩ : ∃ T, rdB l3 b3 4 = T := ⟨_, rfl⟩
 rw [e4, d4] at m4
 rw [a4]
 have K1 := Lib.hid (K1.out.only n4)
 have K2 := Lib.hid (K2.out.only n4)
 have HM := Lib.hid m4
 have Ha4 := Lib.hid a4
 have He4 := Lib.hid e4
 have Hd4 := Lib.hid d4
 clear m4 n4 a4 e4 d4
 obtain ⟨V4, hV4⟩ : ∃ V : Int, ((ofBe T4 : Nat) : Int) = V := ⟨_, rfl⟩
 rw [hV4]
 have HV4 := Lib.hid hV4
 clear hV4
 go_wp2_with fail
 refine (HM.out.raw 32 (by omega) (by omega)).mono ?_
 rintro e W5 ⟨A5, c5, rfl, k5, m5, n5⟩
 obtain ⟨T5, a5⟩ : ∃ T, rdT l4 b4 32 = T := ⟨_, rfl⟩
 obtain ⟨l5, e5⟩ : ∃ T, rrL l4 b4 32 = T := ⟨_, rfl⟩
 obtain ⟨b5, d5⟩ : ∃ T, rdB l4 b4 32 = T := ⟨_, rfl⟩
 rw [e5, d5] at m5
 rw [a5] at k5 ⊢
 have K1 := Lib.hid (K1.out.only n5)
 have K2 := Lib.hid (K2.out.only n5)
 have K5 := Lib.hid k5
 have HM := Lib.hid m5
 have Ha5 := Lib.hid a5
 have He5 := Lib.hid e5
 have Hd5 := Lib.hid d5
 clear m5 n5 a5 e5 d5 k5
 go_wp2_with fail
 refine (HM.out.raw 32 (by omega) (by omega)).mono ?_
 rintro e W6 ⟨A6, c6, rfl, k6, m6, n6⟩
 obtain ⟨T6, a6⟩ : ∃ T, rdT l5 b5 32 = T := ⟨_, rfl⟩
 obtain ⟨l6, e6⟩ : ∃ T, rrL l5 b5 32 = T := ⟨_, rfl⟩
 obtain ⟨b6, d6⟩ : ∃ T, rdB l5 b5 32 = T := ⟨_, rfl⟩
 rw [e6, d6] at m6
 rw [a6] at k6 ⊢
 have K1 := Lib.hid (K1.out.only n6)
 have K2 := Lib.hid (K2.out.only n6)
 have K5 := Lib.hid (K5.out.only n6)
 have K6 := Lib.hid k6
 have HM := Lib.hid m6
 have Ha6 := Lib.hid a6
 have He6 := Lib.hid e6
 have Hd6 := Lib.hid d6
 clear m6 n6 a6 e6 d6 k6
 have hrd6 := rd6 l l1 l2 l3 l4 l5 l6 T1 T2 T3 T4 T5 T6 b1 b2 b3 b4 b5 b6 Ha1.out He1.out Hd1.out Ha2.out He2.out Hd2.out Ha3.out He3.out Hd3.out Ha4.out He4.out Hd4.out Ha5.out He5.out Hd5.out Ha6.out He6.out Hd6.out
 have HRD := Lib.hid hrd6
 clear hrd6 Ha1 He1 Hd1 Ha2 He2 Hd2 Ha3 He3 Hd3 Ha4 He4 Hd4 Ha5 He5 Hd5 Ha6 He6 Hd6
 have HBAD := Lib.hid (rrbad_c W6 pb l6 b6 HM.out.rd)
 by_cases ht0 : T2.length = 0
 ·
  have hb6 := HRD.out.t2 ht0
  have HB6 := Lib.hid hb6
  rw [hb6] at HBAD
  rw [ht0]
  clear hb6
  go_upto_region 8 with fail
  go_loopw [7] (fun v wr => v = .slice A2 0 c2 ∧ wr = W6) (fun _ _ => 0)
  case atStart => exact ⟨rfl, rfl⟩
  case round =>
   obtain ⟨rfl, rfl⟩ := hrel
   go_wp2_with fail
   refine HBAD.out.mono ?_
   rintro e wx ⟨rfl, rfl⟩
   have hst := run_sstN zeroN HM.out.res (by rw [List.size_toArray]; rfl) rfl (manC_one _ _)
   rw [← zeroN_eq] at hst
   go_wp2_with fail
   refine bodyPost_ret (results_cell_tmp2 rfl _ _ w.heap.size 82 litN (0, 0) _ rfl (HM.out.res.setRow_m _) Tryz.underlying82 rfl (by rw [zeroN_eq]; exact info_sN)) rfl ?_
   exact ⟨Or.inl ⟨Or.inl (by have := HRD.out.bad HB6.out; omega), by rw [← zeroN_eq]; rfl⟩, below_setRow_m HM.out.bel (Nat.le_refl _) _⟩
 obtain ⟨p2, q2, rfl, -⟩ := K2.out.rd.2 (by omega)
 have HT0 := Lib.hid ht0
 clear ht0
 go_upto_region 8 with fail
 go_loopw [7] (fun v wr => ∃ k, k ≤ T2.length ∧ v = .slice (Option.some ⟨p2, q2, none⟩) k c2 ∧ (∀ j b, k ≤ j → T2[j]? = Option.some b → b = 0) ∧ wr = W6) (fun v _ => lenV v)
 case atStart => exact ⟨T2.length, Nat.le_refl _, rfl, fun j b h1 h2 => by (rw [List.getElem?_eq_none h1] at h2; cases h2), rfl⟩
 case round =>
  obtain ⟨k, hk, rfl, hz, rfl⟩ := hrel
  have HZ := Lib.hid hz
  clear hz
  have hcap := K2.out.cap
  by_cases hk0 : 0 < k
  ·
   obtain ⟨j, rfl⟩ : ∃ j, k = j + 1 := ⟨k - 1, by omega⟩
   obtain ⟨b', o', u, e, -, hu, hcell⟩ := K2.out.rd.at_ (k := j) (by omega)
   cases e
   rw [List.getElem?_map, List.getElem?_eq_getElem (by omega)] at hu
   obtain ⟨x, hx⟩ : ∃ x, T2[j]'(by omega) = x := ⟨_, rfl⟩
   rw [hx] at hu
   obtain rfl : u8v x = u := by simpa using hu
   have e1 : wrap64 (j : Int) = (j : Int) := IntWalk.wrap64_in _ (by have := HRD.out; have := K2.out.cap.2; unfold maxLen at this; omega)
   have HXJ := Lib.hid (show T2[j]? = Option.some x by rw [List.getElem?_eq_getElem (by omega), hx])
   clear hu hx
   by_cases hx0 : x = 0
   ·
    subst hx0
    go_wp2_with fail
    go_roundw
    case rel =>
     refine ⟨j, by omega, by go_num, fun i b h1 h2 => ?_, trivial⟩
     rcases Nat.lt_or_ge j i with h3 | h3
     ·
      exact HZ.out i b h3 h2
     ·
      obtain rfl : i = j := by omega
      rw [HXJ.out] at h2
      exact (Option.some.inj h2).symm
    case measure => simp [lenV]
   ·
    have hxn : ((x.toNat : Int) == 0) = false := by
     rw [beq_eq_false_iff_ne]
     intro h
     exact hx0 (UInt8.toNat_inj.1 (show x.toNat = (0 : UInt8).toNat by have : (0 : UInt8).toNat = 0 := rfl; omega))
    have HTR := Lib.hid (show Lib.trimRightB T2 0 = T2.take (j + 1) from Lib.trimRightB_take _ 0 (j + 1) hk HZ.out (fun b _ hb => by (rw [show j + 1 - 1 = j by omega, HXJ.out] at hb; exact fun h => hx0 ((Option.some.inj hb).trans h))))
    have HLE := Lib.hid hk
    clear HXJ HZ hx0 hk
    go_upto_region 10 with fail
    have hkn : Reads wr (Option.some ⟨p2, q2, none⟩) (j + 1) ((T2.take (j + 1)).map u8v) := by rw [List.map_take]; exact K2.out.rd.take HLE.out
    obtain ⟨NM, hNM⟩ : ∃ NM, (⟨(T2.take (j + 1)).toArray⟩ : ByteArray) = NM := ⟨_, rfl⟩
    have hcn : (convert 22 9 (.slice (Option.some ⟨p2, q2, none⟩) (j + 1) c2)).run Tryz.prog wr = .ok (.string NM) wr := hNM ▸ strAny wr _ _ c2 _ hkn
    obtain ⟨D, hD⟩ : ∃ D, (⟨T1.toArray⟩ : ByteArray) = D := ⟨_, rfl⟩
    have hcd : (convert 22 9 (.slice A1 T1.length c1)).run Tryz.prog wr = .ok (.string D) wr := hD ▸ strAny wr _ _ c1 _ K1.out.rd
    have HNM := Lib.hid hNM
    have HD := Lib.hid hD
    clear hkn hNM hD
    cases b6 with
    | true =>
     go_wp2_with fail
     refine HBAD.out.mono ?_
     rintro e wx ⟨rfl, rfl⟩
     have hst := run_sstN zeroN HM.out.res (by rw [List.size_toArray]; rfl) rfl (manC_one _ _)
     rw [← zeroN_eq] at hst
     go_wp2_with fail
     refine bodyPost_ret (results_cell_tmp2 rfl _ _ w.heap.size 82 litN (0, 0) _ rfl (HM.out.res.setRow_m _) Tryz.underlying82 rfl (by rw [zeroN_eq]; exact info_sN)) rfl ?_
     exact ⟨Or.inl ⟨Or.inl (by have := HRD.out.bad rfl; omega), by rw [← zeroN_eq]; rfl⟩, below_setRow_m HM.out.bel (Nat.le_refl _) _⟩
    | false =>
     obtain ⟨g1, g2, g3, g4, g5, g6, g7, g8⟩ := HRD.out.good rfl
     have hleft := rrleft_c wr pb l6 HM.out.rd
     obtain ⟨LN, hLN⟩ : ∃ LN : Int, (l6.length : Int) = LN := ⟨_, rfl⟩
     rw [hLN] at hleft
     have HLEFT := Lib.hid hleft
     have HG1 := Lib.hid g1
     clear hleft
     by_cases hl9 : (0 : Int) < LN
     ·
      have hne : l.length ≠ 92 := by rw [← hLN, g2, List.length_drop] at hl9; omega
      have HNE := Lib.hid hne
      clear g1 g2 g3 g4 g5 g6 g7 g8 hne hLN
      go_wp2_with fail
      refine HBAD.out.mono ?_
      rintro e wx ⟨rfl, rfl⟩
      go_wp2_with fail
      refine HLEFT.out.mono ?_
      rintro e wx ⟨rfl, rfl⟩
      have hst := run_sstN zeroN HM.out.res (by rw [List.size_toArray]; rfl) rfl (manC_one _ _)
      rw [← zeroN_eq] at hst
      go_wp2_with fail
      refine bodyPost_ret (results_cell_tmp2 rfl _ _ w.heap.size 82 litN (0, 0) _ rfl (HM.out.res.setRow_m _) Tryz.underlying82 rfl (by rw [zeroN_eq]; exact info_sN)) rfl ?_
      exact ⟨Or.inl ⟨Or.inl HNE.out, by rw [← zeroN_eq]; rfl⟩, below_setRow_m HM.out.bel (Nat.le_refl _) _⟩
     have h92 : l.length = 92 := by rw [← hLN, g2, List.length_drop] at hl9; omega
     have himg : mImg l = ⟨V3, V4, T5⟩ := by rw [← HV3.out, ← HV4.out, g5, g6, g7]; rfl
     have hmn : (⟨(mName l).toArray⟩ : ByteArray) = NM := by rw [← HNM.out, ← HTR.out, g4]; rfl
     obtain ⟨IS, hIS⟩ : ∃ IS, (l.take 4 == [87, 76, 77, 49]) = IS := ⟨_, rfl⟩
     have hbeq : (D.toList == [87, 76, 77, 49]) = IS := by rw [← HD.out, Lib.toList_data]; show (T1 == _) = _; rw [g3]; exact hIS
     obtain ⟨VN, hVN⟩ : ∃ VN, validN NM = VN := ⟨_, rfl⟩
     have hval : ∀ W, Calls Tryz.prog 38 #[.string NM] W fun e w' => e = .returned (.bool VN) ∧ Below W.heap.size W w' := fun W => hVN ▸ rvalid_c NM (by rw [← HNM.out, Lib.size_mk, List.length_take]; have := K2.out.cap; unfold maxLen at this; omega) W
     have hok : mOk l = (IS && (VN && (mNum V3 && mNum V4))) := by unfold mOk; rw [hIS, hmn, hVN, himg]
     have hT5 : T5.length = 32 := by rw [g7, List.length_take, List.length_drop]; omega
     have hT6 : T6.length = 32 := by rw [g8, List.length_take, List.length_drop]; omega
     have H92 := Lib.hid h92
     have HIMG := Lib.hid himg
     have HMN := Lib.hid hmn
     have HOK := Lib.hid hok
     have HVAL := Lib.hid hval
     have HT5 := Lib.hid hT5
     have HT6 := Lib.hid hT6
     have HG8 := Lib.hid g8
     clear g1 g2 g3 g4 g5 g6 g7 g8 h92 himg hmn hok hval hT5 hT6 hIS hVN hLN
     go_wp2_with fail
     refine HBAD.out.mono ?_
     rintro e wx ⟨rfl, rfl⟩
     go_wp2_with fail
     refine HLEFT.out.mono ?_
     rintro e wx ⟨rfl, rfl⟩
     cases IS with
     | false =>
      have hst := run_sstN zeroN HM.out.res (by rw [List.size_toArray]; rfl) rfl (manC_one _ _)
      rw [← zeroN_eq] at hst
      go_wp2_with fail
      refine bodyPost_ret (results_cell_tmp2 rfl _ _ w.heap.size 82 litN (0, 0) _ rfl (HM.out.res.setRow_m _) Tryz.underlying82 rfl (by rw [zeroN_eq]; exact info_sN)) rfl ?_
      exact ⟨Or.inl ⟨Or.inr (by rw [HOK.out]; simp), by rw [← zeroN_eq]; rfl⟩, below_setRow_m HM.out.bel (Nat.le_refl _) _⟩
     | true =>
      go_wp2_with fail
      refine (HVAL.out _).mono ?_
      rintro e W7 ⟨rfl, hb7⟩
      have K6 := Lib.hid (K6.out.below hb7)
      have K5 := Lib.hid (K5.out.below hb7)
      have K2 := Lib.hid (K2.out.below hb7)
      have HM := Lib.hid (HM.out.later hb7)
      clear hb7 hcd hcn hbeq
      cases VN with
      | false =>
       have hst := run_sstN zeroN HM.out.res (by rw [List.size_toArray]; rfl) rfl (manC_one _ _)
       rw [← zeroN_eq] at hst
       go_wp2_with fail
       refine bodyPost_ret (results_cell_tmp2 rfl _ _ w.heap.size 82 litN (0, 0) _ rfl (HM.out.res.setRow_m _) Tryz.underlying82 rfl (by rw [zeroN_eq]; exact info_sN)) rfl ?_
       exact ⟨Or.inl ⟨Or.inr (by rw [HOK.out]; simp), by rw [← zeroN_eq]; rfl⟩, below_setRow_m HM.out.bel (Nat.le_refl _) _⟩
      | true =>
       by_cases vq0 : V3 < 1
       ·
        have HQ := Lib.hid (show ¬ (1 ≤ V3) by omega)
        have hst := run_sstN zeroN HM.out.res (by rw [List.size_toArray]; rfl) rfl (manC_one _ _)
        rw [← zeroN_eq] at hst
        go_wp2_with fail
        refine bodyPost_ret (results_cell_tmp2 rfl _ _ w.heap.size 82 litN (0, 0) _ rfl (HM.out.res.setRow_m _) Tryz.underlying82 rfl (by rw [zeroN_eq]; exact info_sN)) rfl ?_
        exact ⟨Or.inl ⟨Or.inr (by rw [HOK.out]; unfold mNum; rw [decide_eq_false (show ¬ (1 ≤ V3) by have := HQ.out; omega)]; simp), by rw [← zeroN_eq]; rfl⟩, below_setRow_m HM.out.bel (Nat.le_refl _) _⟩
       by_cases vq1 : V4 < 1
       ·
        have HQ := Lib.hid (show ¬ (1 ≤ V4) by omega)
        have hst := run_sstN zeroN HM.out.res (by rw [List.size_toArray]; rfl) rfl (manC_one _ _)
        rw [← zeroN_eq] at hst
        go_wp2_with fail
        refine bodyPost_ret (results_cell_tmp2 rfl _ _ w.heap.size 82 litN (0, 0) _ rfl (HM.out.res.setRow_m _) Tryz.underlying82 rfl (by rw [zeroN_eq]; exact info_sN)) rfl ?_
        exact ⟨Or.inl ⟨Or.inr (by rw [HOK.out]; unfold mNum; rw [decide_eq_false (show ¬ (1 ≤ V4) by have := HQ.out; omega)]; simp), by rw [← zeroN_eq]; rfl⟩, below_setRow_m HM.out.bel (Nat.le_refl _) _⟩
       by_cases vq2 : 1073741824 < V3
       ·
        have HQ := Lib.hid (show ¬ (V3 ≤ 1073741824) by omega)
        have hst := run_sstN zeroN HM.out.res (by rw [List.size_toArray]; rfl) rfl (manC_one _ _)
        rw [← zeroN_eq] at hst
        go_wp2_with fail
        refine bodyPost_ret (results_cell_tmp2 rfl _ _ w.heap.size 82 litN (0, 0) _ rfl (HM.out.res.setRow_m _) Tryz.underlying82 rfl (by rw [zeroN_eq]; exact info_sN)) rfl ?_
        exact ⟨Or.inl ⟨Or.inr (by rw [HOK.out]; unfold mNum; rw [decide_eq_false (show ¬ (V3 ≤ 1073741824) by have := HQ.out; omega)]; simp), by rw [← zeroN_eq]; rfl⟩, below_setRow_m HM.out.bel (Nat.le_refl _) _⟩
       by_cases vq3 : 1073741824 < V4
       ·
        have HQ := Lib.hid (show ¬ (V4 ≤ 1073741824) by omega)
        have hst := run_sstN zeroN HM.out.res (by rw [List.size_toArray]; rfl) rfl (manC_one _ _)
        rw [← zeroN_eq] at hst
        go_wp2_with fail
        refine bodyPost_ret (results_cell_tmp2 rfl _ _ w.heap.size 82 litN (0, 0) _ rfl (HM.out.res.setRow_m _) Tryz.underlying82 rfl (by rw [zeroN_eq]; exact info_sN)) rfl ?_
        exact ⟨Or.inl ⟨Or.inr (by rw [HOK.out]; unfold mNum; rw [decide_eq_false (show ¬ (V4 ≤ 1073741824) by have := HQ.out; omega)]; simp), by rw [← zeroN_eq]; rfl⟩, below_setRow_m HM.out.bel (Nat.le_refl _) _⟩
       have hokt : mOk l = true := by rw [HOK.out]; unfold mNum; simp; omega
       have HOKT := Lib.hid hokt
       clear hokt HOK HVAL HLEFT HBAD
       have hkn : Reads W7 (Option.some ⟨p2, q2, none⟩) (j + 1) ((T2.take (j + 1)).map u8v) := by rw [List.map_take]; exact K2.out.rd.take HLE.out
       have hcn : (convert 22 9 (.slice (Option.some ⟨p2, q2, none⟩) (j + 1) c2)).run Tryz.prog W7 = .ok (.string NM) W7 := HNM.out ▸ strAny W7 _ _ c2 _ hkn
       have hbd3 := fun W => run_sbN3 NM V3 V4 W
       have hN := Blk.new W7 82 zeroN.toArray
       have hst := run_sstN (manC NM ⟨V3, V4, z32u⟩) hN (by rw [List.size_toArray]; rfl) (manC_len rfl _) (manC_one _ _)
       have hb8 := below_setRow_m ((Below.refl W7.heap.size W7).alloc (Nat.le_refl _) (.cells zeroN.toArray 82)) (Nat.le_refl _) (manC NM ⟨V3, V4, z32u⟩).toArray
       have hm8 := hN.setRow_m (manC NM ⟨V3, V4, z32u⟩).toArray
       rw [← zeroN_eq] at hst hb8 hm8
       obtain ⟨MC, hMC⟩ : ∃ MC, (manC NM ⟨V3, V4, z32u⟩).toArray = MC := ⟨_, rfl⟩
       rw [hMC] at hst hb8 hm8
       simp only [hMC] at hbd3
       have HMC := Lib.hid hMC
       have HB8 := Lib.hid hb8
       have HM8 := Lib.hid hm8
       have HC := Lib.hid hc
       clear hb8 hm8 hMC hkn hN hc
       go_upto_region 13 with fail
       generalize (W7.alloc (.cells litN 82)).setRow W7.heap.size MC = W8 at HB8 HM8 ⊢
       clear hst hcn hbd3 hbd
       have K1 : Blk W8 W7.heap.size 82 (manC NM ⟨V3, V4, z32u⟩).toArray := by rw [HMC.out]; exact HM8.out
       have hk5 := (K5.out.below HB8.out).rd
       have K5 := Lib.hid hk5
       have hcl : (T5.map u8v).length = Nat.min T5.length 32 := by rw [List.length_map, HT5.out]; rfl
       have hfit : 3 + (T5.map u8v).length ≤ (manC NM ⟨V3, V4, z32u⟩).length := by rw [manC_len rfl, List.length_map, HT5.out]; omega
       have hone := u8v_one T5
       have HCL := Lib.hid hcl
       have HFIT := Lib.hid hfit
       have HONE := Lib.hid hone
       have HK1 := Lib.hid (show W8.heap[W7.heap.size]? = Option.some (.cells (manC NM ⟨V3, V4, z32u⟩).toArray 82 (0, 0)) from K1)
       clear K1 hk5 hcl hfit hone
       go_upto_region 14 with (with_reducible refine wpList_copy_splice rfl (.tmp 87) (.tmp 88) 22 22 rfl 5 Tryz.underlying22 info_s8n (Option.some ⟨W7.heap.size, 3, none⟩) A5 32 32 T5.length c5 rfl rfl W7.heap.size 3 (manC NM ⟨V3, V4, z32u⟩) 82 HK1.out (T5.map u8v) HCL.out (fun h => ⟨rfl, srcfN K5.out h⟩) HFIT.out HONE.out W7.heap.size W7 HB8.out (Nat.le_refl _) ?_; intro w10 HG10 hb10)
       have hm10 : Blk w10 W7.heap.size 82 (manC NM ⟨V3, V4, T5⟩).toArray := by
        have q := HG10.out
        rw [splice_man rfl _ HT5.out] at q
        exact q
       have HM := Lib.hid (HM.out.later hb10)
       have K6 := Lib.hid (K6.out.below hb10)
       have hl35 : (manC NM ⟨V3, V4, T5⟩).length = 35 := manC_len HT5.out _
       have hsl := run_sldN hl35 hm10.whole
       have hst := run_sstN (manC NM ⟨V3, V4, T5⟩) HM.out.res (by rw [List.size_toArray]; rfl) hl35 (manC_one _ _)
       obtain ⟨RN, hRN⟩ : ∃ RN, (manC NM ⟨V3, V4, T5⟩).toArray = RN := ⟨_, rfl⟩
       have hsz : RN.size = 35 := by rw [← hRN, List.size_toArray, hl35]
       rw [hRN] at hsl hst
       have HRN := Lib.hid hRN
       have HSZ := Lib.hid hsz
       clear hm10 hb10 HG10 hl35 hRN hsz
       go_wp2_with fail
       refine bodyPost_ret (results_cell_tmp2 rfl _ _ w.heap.size 82 RN (0, 0) _ rfl (HM.out.res.setRow_m _) Tryz.underlying82 rfl (by rw [HSZ.out]; exact info_sN)) rfl ?_
       refine ⟨Or.inr ⟨H92.out, HOKT.out, A6, c6, ?_, ?_⟩, below_setRow_m HM.out.bel (Nat.le_refl _) _⟩
       ·
        show Ending.returned (.tuple #[.agg RN, .slice A6 T6.length c6, .int .i64 0]) = _
        rw [HT6.out, HMN.out, HIMG.out, HRN.out]
       ·
        rw [← HG8.out]
        have q := reads_setRow (g := w.heap.size) K6.out.rd (fun a ha => (K6.out.ap a ha).2.1) RN
        rw [HT6.out] at q
        exact q
  ·
   obtain rfl : k = 0 := by omega
   have HTR := Lib.hid (show Lib.trimRightB T2 0 = T2.take 0 from Lib.trimRightB_take _ 0 0 hk HZ.out (fun b h _ => by omega))
   have HLE := Lib.hid hk
   clear HZ hk
   go_upto_region 10 with fail
   have hkn : Reads wr (Option.some ⟨p2, q2, none⟩) (0) ((T2.take (0)).map u8v) := by rw [List.map_take]; exact K2.out.rd.take HLE.out
   obtain ⟨NM, hNM⟩ : ∃ NM, (⟨(T2.take (0)).toArray⟩ : ByteArray) = NM := ⟨_, rfl⟩
   have hcn : (convert 22 9 (.slice (Option.some ⟨p2, q2, none⟩) (0) c2)).run Tryz.prog wr = .ok (.string NM) wr := hNM ▸ strAny wr _ _ c2 _ hkn
   obtain ⟨D, hD⟩ : ∃ D, (⟨T1.toArray⟩ : ByteArray) = D := ⟨_, rfl⟩
   have hcd : (convert 22 9 (.slice A1 T1.length c1)).run Tryz.prog wr = .ok (.string D) wr := hD ▸ strAny wr _ _ c1 _ K1.out.rd
   have HNM := Lib.hid hNM
   have HD := Lib.hid hD
   clear hkn hNM hD
   cases b6 with
   | true =>
    go_wp2_with fail
    refine HBAD.out.mono ?_
    rintro e wx ⟨rfl, rfl⟩
    have hst := run_sstN zeroN HM.out.res (by rw [List.size_toArray]; rfl) rfl (manC_one _ _)
    rw [← zeroN_eq] at hst
    go_wp2_with fail
    refine bodyPost_ret (results_cell_tmp2 rfl _ _ w.heap.size 82 litN (0, 0) _ rfl (HM.out.res.setRow_m _) Tryz.underlying82 rfl (by rw [zeroN_eq]; exact info_sN)) rfl ?_
    exact ⟨Or.inl ⟨Or.inl (by have := HRD.out.bad rfl; omega), by rw [← zeroN_eq]; rfl⟩, below_setRow_m HM.out.bel (Nat.le_refl _) _⟩
   | false =>
    obtain ⟨g1, g2, g3, g4, g5, g6, g7, g8⟩ := HRD.out.good rfl
    have hleft := rrleft_c wr pb l6 HM.out.rd
    obtain ⟨LN, hLN⟩ : ∃ LN : Int, (l6.length : Int) = LN := ⟨_, rfl⟩
    rw [hLN] at hleft
    have HLEFT := Lib.hid hleft
    have HG1 := Lib.hid g1
    clear hleft
    by_cases hl9 : (0 : Int) < LN
    ·
     have hne : l.length ≠ 92 := by rw [← hLN, g2, List.length_drop] at hl9; omega
     have HNE := Lib.hid hne
     clear g1 g2 g3 g4 g5 g6 g7 g8 hne hLN
     go_wp2_with fail
     refine HBAD.out.mono ?_
     rintro e wx ⟨rfl, rfl⟩
     go_wp2_with fail
     refine HLEFT.out.mono ?_
     rintro e wx ⟨rfl, rfl⟩
     have hst := run_sstN zeroN HM.out.res (by rw [List.size_toArray]; rfl) rfl (manC_one _ _)
     rw [← zeroN_eq] at hst
     go_wp2_with fail
     refine bodyPost_ret (results_cell_tmp2 rfl _ _ w.heap.size 82 litN (0, 0) _ rfl (HM.out.res.setRow_m _) Tryz.underlying82 rfl (by rw [zeroN_eq]; exact info_sN)) rfl ?_
     exact ⟨Or.inl ⟨Or.inl HNE.out, by rw [← zeroN_eq]; rfl⟩, below_setRow_m HM.out.bel (Nat.le_refl _) _⟩
    have h92 : l.length = 92 := by rw [← hLN, g2, List.length_drop] at hl9; omega
    have himg : mImg l = ⟨V3, V4, T5⟩ := by rw [← HV3.out, ← HV4.out, g5, g6, g7]; rfl
    have hmn : (⟨(mName l).toArray⟩ : ByteArray) = NM := by rw [← HNM.out, ← HTR.out, g4]; rfl
    obtain ⟨IS, hIS⟩ : ∃ IS, (l.take 4 == [87, 76, 77, 49]) = IS := ⟨_, rfl⟩
    have hbeq : (D.toList == [87, 76, 77, 49]) = IS := by rw [← HD.out, Lib.toList_data]; show (T1 == _) = _; rw [g3]; exact hIS
    obtain ⟨VN, hVN⟩ : ∃ VN, validN NM = VN := ⟨_, rfl⟩
    have hval : ∀ W, Calls Tryz.prog 38 #[.string NM] W fun e w' => e = .returned (.bool VN) ∧ Below W.heap.size W w' := fun W => hVN ▸ rvalid_c NM (by rw [← HNM.out, Lib.size_mk, List.length_take]; have := K2.out.cap; unfold maxLen at this; omega) W
    have hok : mOk l = (IS && (VN && (mNum V3 && mNum V4))) := by unfold mOk; rw [hIS, hmn, hVN, himg]
    have hT5 : T5.length = 32 := by rw [g7, List.length_take, List.length_drop]; omega
    have hT6 : T6.length = 32 := by rw [g8, List.length_take, List.length_drop]; omega
    have H92 := Lib.hid h92
    have HIMG := Lib.hid himg
    have HMN := Lib.hid hmn
    have HOK := Lib.hid hok
    have HVAL := Lib.hid hval
    have HT5 := Lib.hid hT5
    have HT6 := Lib.hid hT6
    have HG8 := Lib.hid g8
    clear g1 g2 g3 g4 g5 g6 g7 g8 h92 himg hmn hok hval hT5 hT6 hIS hVN hLN
    go_wp2_with fail
    refine HBAD.out.mono ?_
    rintro e wx ⟨rfl, rfl⟩
    go_wp2_with fail
    refine HLEFT.out.mono ?_
    rintro e wx ⟨rfl, rfl⟩
    cases IS with
    | false =>
     have hst := run_sstN zeroN HM.out.res (by rw [List.size_toArray]; rfl) rfl (manC_one _ _)
     rw [← zeroN_eq] at hst
     go_wp2_with fail
     refine bodyPost_ret (results_cell_tmp2 rfl _ _ w.heap.size 82 litN (0, 0) _ rfl (HM.out.res.setRow_m _) Tryz.underlying82 rfl (by rw [zeroN_eq]; exact info_sN)) rfl ?_
     exact ⟨Or.inl ⟨Or.inr (by rw [HOK.out]; simp), by rw [← zeroN_eq]; rfl⟩, below_setRow_m HM.out.bel (Nat.le_refl _) _⟩
    | true =>
     go_wp2_with fail
     refine (HVAL.out _).mono ?_
     rintro e W7 ⟨rfl, hb7⟩
     have K6 := Lib.hid (K6.out.below hb7)
     have K5 := Lib.hid (K5.out.below hb7)
     have K2 := Lib.hid (K2.out.below hb7)
     have HM := Lib.hid (HM.out.later hb7)
     clear hb7 hcd hcn hbeq
     cases VN with
     | false =>
      have hst := run_sstN zeroN HM.out.res (by rw [List.size_toArray]; rfl) rfl (manC_one _ _)
      rw [← zeroN_eq] at hst
      go_wp2_with fail
      refine bodyPost_ret (results_cell_tmp2 rfl _ _ w.heap.size 82 litN (0, 0) _ rfl (HM.out.res.setRow_m _) Tryz.underlying82 rfl (by rw [zeroN_eq]; exact info_sN)) rfl ?_
      exact ⟨Or.inl ⟨Or.inr (by rw [HOK.out]; simp), by rw [← zeroN_eq]; rfl⟩, below_setRow_m HM.out.bel (Nat.le_refl _) _⟩
     | true =>
      by_cases vq0 : V3 < 1
      ·
       have HQ := Lib.hid (show ¬ (1 ≤ V3) by omega)
       have hst := run_sstN zeroN HM.out.res (by rw [List.size_toArray]; rfl) rfl (manC_one _ _)
       rw [← zeroN_eq] at hst
       go_wp2_with fail
       refine bodyPost_ret (results_cell_tmp2 rfl _ _ w.heap.size 82 litN (0, 0) _ rfl (HM.out.res.setRow_m _) Tryz.underlying82 rfl (by rw [zeroN_eq]; exact info_sN)) rfl ?_
       exact ⟨Or.inl ⟨Or.inr (by rw [HOK.out]; unfold mNum; rw [decide_eq_false (show ¬ (1 ≤ V3) by have := HQ.out; omega)]; simp), by rw [← zeroN_eq]; rfl⟩, below_setRow_m HM.out.bel (Nat.le_refl _) _⟩
      by_cases vq1 : V4 < 1
      ·
       have HQ := Lib.hid (show ¬ (1 ≤ V4) by omega)
       have hst := run_sstN zeroN HM.out.res (by rw [List.size_toArray]; rfl) rfl (manC_one _ _)
       rw [← zeroN_eq] at hst
       go_wp2_with fail
       refine bodyPost_ret (results_cell_tmp2 rfl _ _ w.heap.size 82 litN (0, 0) _ rfl (HM.out.res.setRow_m _) Tryz.underlying82 rfl (by rw [zeroN_eq]; exact info_sN)) rfl ?_
       exact ⟨Or.inl ⟨Or.inr (by rw [HOK.out]; unfold mNum; rw [decide_eq_false (show ¬ (1 ≤ V4) by have := HQ.out; omega)]; simp), by rw [← zeroN_eq]; rfl⟩, below_setRow_m HM.out.bel (Nat.le_refl _) _⟩
      by_cases vq2 : 1073741824 < V3
      ·
       have HQ := Lib.hid (show ¬ (V3 ≤ 1073741824) by omega)
       have hst := run_sstN zeroN HM.out.res (by rw [List.size_toArray]; rfl) rfl (manC_one _ _)
       rw [← zeroN_eq] at hst
       go_wp2_with fail
       refine bodyPost_ret (results_cell_tmp2 rfl _ _ w.heap.size 82 litN (0, 0) _ rfl (HM.out.res.setRow_m _) Tryz.underlying82 rfl (by rw [zeroN_eq]; exact info_sN)) rfl ?_
       exact ⟨Or.inl ⟨Or.inr (by rw [HOK.out]; unfold mNum; rw [decide_eq_false (show ¬ (V3 ≤ 1073741824) by have := HQ.out; omega)]; simp), by rw [← zeroN_eq]; rfl⟩, below_setRow_m HM.out.bel (Nat.le_refl _) _⟩
      by_cases vq3 : 1073741824 < V4
      ·
       have HQ := Lib.hid (show ¬ (V4 ≤ 1073741824) by omega)
       have hst := run_sstN zeroN HM.out.res (by rw [List.size_toArray]; rfl) rfl (manC_one _ _)
       rw [← zeroN_eq] at hst
       go_wp2_with fail
       refine bodyPost_ret (results_cell_tmp2 rfl _ _ w.heap.size 82 litN (0, 0) _ rfl (HM.out.res.setRow_m _) Tryz.underlying82 rfl (by rw [zeroN_eq]; exact info_sN)) rfl ?_
       exact ⟨Or.inl ⟨Or.inr (by rw [HOK.out]; unfold mNum; rw [decide_eq_false (show ¬ (V4 ≤ 1073741824) by have := HQ.out; omega)]; simp), by rw [← zeroN_eq]; rfl⟩, below_setRow_m HM.out.bel (Nat.le_refl _) _⟩
      have hokt : mOk l = true := by rw [HOK.out]; unfold mNum; simp; omega
      have HOKT := Lib.hid hokt
      clear hokt HOK HVAL HLEFT HBAD
      have hkn : Reads W7 (Option.some ⟨p2, q2, none⟩) (0) ((T2.take (0)).map u8v) := by rw [List.map_take]; exact K2.out.rd.take HLE.out
      have hcn : (convert 22 9 (.slice (Option.some ⟨p2, q2, none⟩) (0) c2)).run Tryz.prog W7 = .ok (.string NM) W7 := HNM.out ▸ strAny W7 _ _ c2 _ hkn
      have hbd3 := fun W => run_sbN3 NM V3 V4 W
      have hN := Blk.new W7 82 zeroN.toArray
      have hst := run_sstN (manC NM ⟨V3, V4, z32u⟩) hN (by rw [List.size_toArray]; rfl) (manC_len rfl _) (manC_one _ _)
      have hb8 := below_setRow_m ((Below.refl W7.heap.size W7).alloc (Nat.le_refl _) (.cells zeroN.toArray 82)) (Nat.le_refl _) (manC NM ⟨V3, V4, z32u⟩).toArray
      have hm8 := hN.setRow_m (manC NM ⟨V3, V4, z32u⟩).toArray
      rw [← zeroN_eq] at hst hb8 hm8
      obtain ⟨MC, hMC⟩ : ∃ MC, (manC NM ⟨V3, V4, z32u⟩).toArray = MC := ⟨_, rfl⟩
      rw [hMC] at hst hb8 hm8
      simp only [hMC] at hbd3
      have HMC := Lib.hid hMC
      have HB8 := Lib.hid hb8
      have HM8 := Lib.hid hm8
      have HC := Lib.hid hc
      clear hb8 hm8 hMC hkn hN hc
      go_upto_region 13 with fail
      generalize (W7.alloc (.cells litN 82)).setRow W7.heap.size MC = W8 at HB8 HM8 ⊢
      clear hst hcn hbd3 hbd
      have K1 : Blk W8 W7.heap.size 82 (manC NM ⟨V3, V4, z32u⟩).toArray := by rw [HMC.out]; exact HM8.out
      have hk5 := (K5.out.below HB8.out).rd
      have K5 := Lib.hid hk5
      have hcl : (T5.map u8v).length = Nat.min T5.length 32 := by rw [List.length_map, HT5.out]; rfl
      have hfit : 3 + (T5.map u8v).length ≤ (manC NM ⟨V3, V4, z32u⟩).length := by rw [manC_len rfl, List.length_map, HT5.out]; omega
      have hone := u8v_one T5
      have HCL := Lib.hid hcl
      have HFIT := Lib.hid hfit
      have HONE := Lib.hid hone
      have HK1 := Lib.hid (show W8.heap[W7.heap.size]? = Option.some (.cells (manC NM ⟨V3, V4, z32u⟩).toArray 82 (0, 0)) from K1)
      clear K1 hk5 hcl hfit hone
      go_upto_region 14 with (with_reducible refine wpList_copy_splice rfl (.tmp 87) (.tmp 88) 22 22 rfl 5 Tryz.underlying22 info_s8n (Option.some ⟨W7.heap.size, 3, none⟩) A5 32 32 T5.length c5 rfl rfl W7.heap.size 3 (manC NM ⟨V3, V4, z32u⟩) 82 HK1.out (T5.map u8v) HCL.out (fun h => ⟨rfl, srcfN K5.out h⟩) HFIT.out HONE.out W7.heap.size W7 HB8.out (Nat.le_refl _) ?_; intro w10 HG10 hb10)
      have hm10 : Blk w10 W7.heap.size 82 (manC NM ⟨V3, V4, T5⟩).toArray := by
       have q := HG10.out
       rw [splice_man rfl _ HT5.out] at q
       exact q
      have HM := Lib.hid (HM.out.later hb10)
      have K6 := Lib.hid (K6.out.below hb10)
      have hl35 : (manC NM ⟨V3, V4, T5⟩).length = 35 := manC_len HT5.out _
      have hsl := run_sldN hl35 hm10.whole
      have hst := run_sstN (manC NM ⟨V3, V4, T5⟩) HM.out.res (by rw [List.size_toArray]; rfl) hl35 (manC_one _ _)
      obtain ⟨RN, hRN⟩ : ∃ RN, (manC NM ⟨V3, V4, T5⟩).toArray = RN := ⟨_, rfl⟩
      have hsz : RN.size = 35 := by rw [← hRN, List.size_toArray, hl35]
      rw [hRN] at hsl hst
      have HRN := Lib.hid hRN
      have HSZ := Lib.hid hsz
      clear hm10 hb10 HG10 hl35 hRN hsz
      go_wp2_with fail
      refine bodyPost_ret (results_cell_tmp2 rfl _ _ w.heap.size 82 RN (0, 0) _ rfl (HM.out.res.setRow_m _) Tryz.underlying82 rfl (by rw [HSZ.out]; exact info_sN)) rfl ?_
      refine ⟨Or.inr ⟨H92.out, HOKT.out, A6, c6, ?_, ?_⟩, below_setRow_m HM.out.bel (Nat.le_refl _) _⟩
      ·
       show Ending.returned (.tuple #[.agg RN, .slice A6 T6.length c6, .int .i64 0]) = _
       rw [HT6.out, HMN.out, HIMG.out, HRN.out]
      ·
       rw [← HG8.out]
       have q := reads_setRow (g := w.heap.size) K6.out.rd (fun a ha => (K6.out.ap a ha).2.1) RN
       rw [HT6.out] at q
       exact q
end Go.Proofs.YtpafenlcgcenlaaGreatDoor
namespace Go.Proofs.YtpafenlcgcenlaaGreatDoor
open Go Go.RowKit
set_option linter.unusedVariables false
set_option linter.unusedSimpArgs false
attribute [local go_sem ↓] sbN_seal sldN_seal sstN_seal sstDg_seal
theorem rsame_c (w : World) (A B : Option Addr) (n m c c2 : Nat) (a b : List UInt8) (ra : Reads w A n (a.map u8v)) (rb : Reads w B m (b.map u8v)) :
  Calls Tryz.prog 73 #[.slice A n c, .slice B m c2] w fun e w' => e = .returned (.bool (a == b)) ∧ w = w' := by
 have h1 := strAny w A n c a ra
 have h2 := strAny w B m c2 b rb
 obtain ⟨D1, e1⟩ : ∃ D, (⟨a.toArray⟩ : ByteArray) = D := ⟨_, rfl⟩
 obtain ⟨D2, e2⟩ : ∃ D, (⟨b.toArray⟩ : ByteArray) = D := ⟨_, rfl⟩
 have h3 : (a == b) = (D1.toList == D2.toList) := by rw [← e1, ← e2, Lib.toList_data, Lib.toList_data]
 rw [h3]
 rw [e1] at h1
 rw [e2] at h2
 clear h3 e1 e2 ra rb
 go_enter Tryz.func73, Tryz.ntmps73
 go_wp2_with fail
 go_ret
 exact ⟨rfl, rfl⟩
set_option maxRecDepth 100000 in
set_option maxHeartbeats 2000000 in
theorem rmsigned_c (w : World) (KA : Option Addr) (kn kc : Nat) (key : List UInt8) (hk : Reads w KA kn (key.map u8v)) (hkn : kn ≤ 100000) (LA : Option Addr) (ln lc : Nat) (l : List UInt8) (hl : Reads w LA ln (l.map u8v)) (hln : ln ≤ 100000) (hlc : ln ≤ lc ∧ lc ≤ maxLen) :
  Calls Tryz.prog 35 #[.slice KA kn kc, .slice LA ln lc] w fun e w' => e = .returned (.bool (signedB key l)) ∧ Below w.heap.size w w' := by
 have hlen : l.length = ln := by simpa using hl.len
 have hread : Calls Tryz.prog 34 #[.slice LA ln lc] w fun e w' => ManRet l e w' ∧ Below w.heap.size w w' := by
  exact rmread_c w LA ln lc l hl hln hlc
 have HK := Lib.hid hk
 have HL := Lib.hid hl
 have HLN := Lib.hid hlen
 have HRD := Lib.hid hread
 clear hk hl hlen hread
 go_enter Tryz.func35, Tryz.ntmps35
 go_wp2_with fail
 refine HRD.out.mono ?_
 rintro e w1 ⟨hret, hb1⟩
 have HB1 := Lib.hid hb1
 rcases hret with ⟨h1, rfl⟩ | ⟨h92, hok, A, c, rfl, hrt⟩
 ·
  have hno : signedB key l = false := by
   unfold signedB
   rcases h1 with h1 | h1
   ·
    rw [decide_eq_false h1]; rfl
   ·
    rw [h1]; simp
  have hN := Blk.new w1 82 zeroN.toArray
  have hst := run_sstN zeroN hN (by rw [List.size_toArray]; rfl) rfl (manC_one _ _)
  have HB2 := Lib.hid (below_setRow_m (hb1.alloc hb1.size (.cells zeroN.toArray 82)) hb1.size zeroN.toArray)
  rw [← zeroN_eq] at hst HB2 ⊢
  have HNO := Lib.hid hno
  clear h1 hN hb1 hno
  go_wp2_with fail
  go_ret
  exact ⟨by rw [HNO.out]; rfl, HB2.out⟩
 ·
  have hd32 : (mImg l).d.length = 32 := by
   show ((l.drop 28).take 32).length = 32
   rw [List.length_take, List.length_drop, h92]; rfl
  have hN := Blk.new w1 82 zeroN.toArray
  have hml := manC_len hd32 ⟨(mName l).toArray⟩
  have hst := run_sstN (manC ⟨(mName l).toArray⟩ (mImg l)) hN (by rw [List.size_toArray]; rfl) hml (manC_one _ _)
  rw [← zeroN_eq] at hst
  obtain ⟨MN, hMN⟩ : ∃ MN, (manC ⟨(mName l).toArray⟩ (mImg l)).toArray = MN := ⟨_, rfl⟩
  rw [hMN] at hst ⊢
  have hb2 : Below w1.heap.size w1 ((w1.alloc (.cells litN 82)).setRow w1.heap.size MN) := below_setRow_m ((Below.refl _ _).alloc (Nat.le_refl _) _) (Nat.le_refl _) _
  obtain rfl : ln = 92 := by rw [← HLN.out, h92]
  have hk2 := (HK.out.below hb1).below hb2
  have hl2 := (HL.out.below hb1).below hb2
  have hr2 := hrt.below hb2
  obtain ⟨TG, hTG⟩ : ∃ TG, tagL key (l.take 60) = TG := ⟨_, rfl⟩
  have hTGl : TG.length = 32 := by rw [← hTG]; exact tagL_len _ _
  have htag := fun (W : World) (r1 : Reads W KA kn (key.map u8v)) (r2 : Reads W LA 60 ((l.take 60).map u8v)) (cc : Nat) => rtag_c W KA LA kn kc 60 cc key (l.take 60) r1 r2 (by omega) (by omega)
  rw [hTG] at htag
  have hsp : signedB key l = ((l.drop 60).take 32 == TG) := by unfold signedB; rw [decide_eq_true h92, hok, hTG]; rfl
  have HSP := Lib.hid hsp
  have HTA := Lib.hid htag
  have HTL := Lib.hid hTGl
  have HK2 := Lib.hid hk2
  have HL2 := Lib.hid hl2
  have HR2 := Lib.hid hr2
  have HB2 := Lib.hid (hb1.trans (hb2.mono hb1.size))
  have hr60 : ∀ W, Reads W LA 92 (l.map u8v) → Reads W LA 60 ((l.take 60).map u8v) := fun W h => by rw [List.map_take]; exact h.take (by omega)
  have HR60 := Lib.hid hr60
  have hlc1 := hlc.1
  have hlc2 := hlc.2
  clear hr60 hb1 hb2 hk2 hl2 hr2 hrt hN hml hTG hTGl hsp htag hMN hok h92
  go_upto_region 4 with fail
  generalize (w1.alloc (.cells litN 82)).setRow w1.heap.size MN = W2 at HK2 HL2 HR2 HB2 ⊢
  clear hst
  go_wp2_with fail
  all_goals (
   refine (HTA.out _ HK2.out (HR60.out _ HL2.out) _).mono ?_
   rintro e w3 ⟨rfl, hb3⟩
   have hN := Blk.new w3 39 z32
   have hst := run_sstDg TG HTL.out hN rfl
   have hP := hN.setRow_m (TG.map u8v).toArray
   have hbw : Below w3.heap.size w3 ((w3.alloc (.cells z32 39)).setRow w3.heap.size (TG.map u8v).toArray) := below_setRow_m ((Below.refl _ _).alloc (Nat.le_refl _) _) (Nat.le_refl _) _
   have hr3 := (HR2.out.below hb3).below hbw
   have hB3 := (HB2.out.trans (hb3.mono HB2.out.size)).trans (hbw.mono (Nat.le_trans HB2.out.size hb3.size))
   obtain ⟨TC, hTC⟩ : ∃ TC, (TG.map u8v).toArray = TC := ⟨_, rfl⟩
   rw [hTC] at hst hr3 hB3 hP ⊢
   have HP := Lib.hid hP
   have HR3 := Lib.hid hr3
   have HB3 := Lib.hid hB3
   clear hN hP hbw hb3 hr3 hB3
   go_upto_region 5 with fail
   generalize (w3.alloc (.cells z32 39)).setRow w3.heap.size TC = W4 at HP HR3 HB3 ⊢
   obtain ⟨tb, htb⟩ : ∃ tb, w3.heap.size = tb := ⟨_, rfl⟩
   rw [htb] at HP ⊢
   rw [← hTC] at HP
   have HT := Lib.hid (HP.out.bytes HTL.out)
   clear hst hTC htb
   go_wp2_with fail
   refine (rsame_c W4 A (some ⟨tb, 0, none⟩) 32 32 c 32 _ TG HR3.out HT.out).mono ?_
   rintro e w5 ⟨rfl, rfl⟩
   go_wp2_with fail
   go_ret
   exact ⟨by rw [HSP.out]; rfl, HB3.out⟩)
end Go.Proofs.YtpafenlcgcenlaaGreatDoor
