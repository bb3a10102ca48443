/- Two flashes beside one another: what each call does to both; the reference's Last. -/
import Derived.Test.YtlchlcjahndjgaaRfN
namespace Go.Proofs.Ytlchlcjahndjgaa
open Go.RowKit
set_option linter.unusedVariables false
set_option linter.unusedSimpArgs false
section
variable {w0 w : World} {ab fb bb wb : Nat} {R : Ar} {G : RF}
end
/-- An answer comes back, and both flashes are so. -/
def TwoE (w0 w : World) (ab fb bb wb rab rfb rbb rwb : Nat) (R Q : Ar) (F : Fl) (G : RF) (v : Value) (e : Ending) (w' : World) : Prop :=
  e = .returned v ∧ Two w0 w' ab fb bb wb rab rfb rbb rwb R Q F G ∧ Only [fb, bb, wb] w w'
/-- The same, with a flash of the reference's that is so. -/
def TwoG (w0 w : World) (ab fb bb wb rab rfb rbb rwb : Nat) (R Q : Ar) (F : Fl) (G : RF) (F2 : Fl) (v : Value) (e : Ending) (w' : World) : Prop :=
  e = .returned v ∧ ∃ G', G'.fl = F2 ∧ G'.far = G.far ∧ Two w0 w' ab fb bb wb rab rfb rbb rwb R Q F G' ∧ Only [rfb, rbb, rwb] w w'
section
variable {w0 w w' : World} {ab fb bb wb rab rfb rbb rwb : Nat} {R Q : Ar} {F F' : Fl} {G G' : RF}
theorem two_z_erase (x : Int) (E : Int) (hE : F.eraseE x = E) (hF' : F.erase x = F') (hm : F.wearAt x ≤ 4611686018427387903) (h : Two w0 w ab fb bb wb rab rfb rbb rwb R Q F G) :
    Calls Try.prog 24 #[ptr fb, .int .i64 x] w (TwoE w0 w ab fb bb wb rab rfb rbb rwb R Q F' G (.int .i64 E)) := by
  subst hF' hE
  obtain ⟨h1, h2, h3⟩ := Fl.erase_mask F x
  exact (erase_c w fb bb wb F x h.p.has.flash hm).mono fun e w' ⟨he, hf, ho⟩ => ⟨he, h.pop (h.p.only h3 hf ho) ho (by rw [h1, h2]; exact h.m1), ho⟩
theorem two_z_rerase (x : Int) (E : Int) (F2 : Fl) (hE : G.fl.eraseE x = E) (hF2 : G.fl.erase x = F2) (hm : G.fl.wearAt x ≤ 4611686018427387903) (h : Two w0 w ab fb bb wb rab rfb rbb rwb R Q F G) :
    Calls Try.prog 25 #[ptr rfb, .int .i64 x] w (TwoG w0 w ab fb bb wb rab rfb rbb rwb R Q F G F2 (.int .i64 E)) := by
  subst hE hF2
  obtain ⟨h1, h2, h3⟩ := RF.erase_mask G x
  exact (rerase_c w rfb rbb rwb G x h.r.flash h.r.calm hm).mono fun e w' ⟨he, hf, ho⟩ => ⟨he, _, RF.erase_fl G h.r.calm x, h2, h.rop (h.r.only h3 (RF.erase_calm G h.r.calm x) hf ho) ho (by rw [h1, h2]; exact h.m2), ho⟩
theorem two_z_prog (x : Int) (A : Option Addr) (n c : Nat) (bs : List UInt8) (E : Int) (hE : F.programE x bs = E) (hF' : F.program x bs = F') (hr : Reads w A n (bs.map u8v)) (hap : 0 < n → Apart [fb, bb, wb] A) (hn : n < 4611686018427387904) (h : Two w0 w ab fb bb wb rab rfb rbb rwb R Q F G) :
    Calls Try.prog 26 #[ptr fb, .int .i64 x, .slice A n c] w (TwoE w0 w ab fb bb wb rab rfb rbb rwb R Q F' G (.int .i64 E)) := by
  subst hF' hE
  obtain ⟨h1, h2, h3⟩ := Fl.program_mask F x bs
  exact (program_z w fb bb wb F x A n c bs h.p.has.flash hr hap hn).mono fun e w' ⟨he, hf, ho⟩ => ⟨he, h.pop (h.p.only (by rw [h3]) hf ho) ho (by rw [h1, h2]; exact h.m1), ho⟩
theorem two_z_rprog (x : Int) (hx : -9223372036854775808 ≤ x ∧ x ≤ 9223372036854775807) (A : Option Addr) (n c : Nat) (bs : List UInt8) (E : Int) (F2 : Fl) (hE : G.fl.programE x bs = E) (hF2 : G.fl.program x bs = F2) (hr : Reads w A n (bs.map u8v)) (hap : 0 < n → Apart [rfb, rbb, rwb] A) (hn : n < 4611686018427387904) (h : Two w0 w ab fb bb wb rab rfb rbb rwb R Q F G) :
    Calls Try.prog 27 #[ptr rfb, .int .i64 x, .slice A n c] w (TwoG w0 w ab fb bb wb rab rfb rbb rwb R Q F G F2 (.int .i64 E)) := by
  subst hE hF2
  obtain ⟨h1, h2, h3⟩ := RF.program_mask G x bs
  exact (rprogram_c w rfb rbb rwb G x A n c bs hx h.r.flash h.r.calm hr hap hn).mono fun e w' ⟨he, hf, ho⟩ => ⟨he, _, RF.program_fl G h.r.calm x bs, h2, h.rop (h.r.only (by rw [h3]) (RF.program_calm G h.r.calm x bs) hf ho) ho (by rw [h1, h2]; exact h.m2), ho⟩
theorem two_z_power (h : Two w0 w ab fb bb wb rab rfb rbb rwb R Q F G) : Calls Try.prog 39 #[ptr fb] w (TwoE w0 w ab fb bb wb rab rfb rbb rwb R Q F.power G (.tuple #[])) :=
  (power_c w fb bb wb F h.p.has.flash).mono fun e w' ⟨he, hf, ho⟩ => ⟨he, h.pop (h.p.only rfl hf ho) ho h.m1, ho⟩
theorem two_z_rpower (h : Two w0 w ab fb bb wb rab rfb rbb rwb R Q F G) : Calls Try.prog 49 #[ptr rfb] w (TwoG w0 w ab fb bb wb rab rfb rbb rwb R Q F G G.fl.power (.tuple #[])) :=
  (rpower_c w h.r.flash).mono fun e w' ⟨he, hf, ho⟩ => ⟨he, { G with off := false, cutb := false }, rfl, rfl, h.rop (h.r.only rfl (fun hh => by cases hh) hf ho) ho h.m2, ho⟩
theorem two_z_cut (x : Int) (hx : x ≤ 9223372036854775807) (A : Option Addr) (n c : Nat) (m : List UInt8) (hm : n ≤ 140737488351232) (hr : Reads w A n (m.map u8v)) (hfar : F.far = [rfb, rbb, rwb]) (h : Two w0 w ab fb bb wb rab rfb rbb rwb R Q F G) :
    Calls Try.prog 38 #[ptr fb, .int .i64 x, .slice A n c] w (TwoE w0 w ab fb bb wb rab rfb rbb rwb R Q (F.setCut x m) G (.tuple #[])) :=
  (cut_c w fb bb wb F x hx A n c m hm hr h.p.has.flash).mono fun e w' ⟨he, hf, ho⟩ => ⟨he, h.pop (h.p.only rfl hf ho) ho (.inr fun k hk => by show k ∈ F.far; rw [hfar]; exact hk), ho⟩
/-- The reference's flash behind CutAt. -/
def RF.setCut (G : RF) (x : Int) (m : List UInt8) : RF := { G with cutb := true, left := if x < 0 then 0 else if 1073741824 < x then 1073741824 else x, mask := m }
theorem RF.setCut_left (G : RF) (x : Int) (m : List UInt8) : 0 ≤ (G.setCut x m).left := by
  show 0 ≤ (if x < 0 then 0 else if 1073741824 < x then 1073741824 else x)
  split
  · omega
  · split <;> omega
theorem two_z_rcut (x : Int) (A : Option Addr) (n c : Nat) (m : List UInt8) (hm : n ≤ 140737488351232) (hr : Reads w A n (m.map u8v)) (hap : 0 < n → ∀ a, A = some a → a.block ≠ rfb) (hfar : G.far = [fb, bb, wb]) (h : Two w0 w ab fb bb wb rab rfb rbb rwb R Q F G) :
    Calls Try.prog 41 #[ptr rfb, .int .i64 x, .slice A n c] w (TwoG w0 w ab fb bb wb rab rfb rbb rwb R Q F G (G.setCut x m).fl (.tuple #[])) :=
  (rcut_c w x A n c m hm hr hap h.r.flash).mono fun e w' ⟨he, hf, ho⟩ => ⟨he, G.setCut x m, rfl, rfl, h.rop (h.r.only rfl (fun _ => RF.setCut_left G x m) hf ho) ho (.inr fun k hk => by show k ∈ G.far; rw [hfar]; exact hk), ho⟩
end
end Go.Proofs.Ytlchlcjahndjgaa
