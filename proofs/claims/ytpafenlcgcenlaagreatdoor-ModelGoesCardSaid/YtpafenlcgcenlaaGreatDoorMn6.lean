/- Manifests compared; which of the ten manifests of chapter 12 may be. -/
import Derived.Test.YtpafenlcgcenlaaGreatDoorL12a
import Derived.Great.BuildSlice
namespace Go.Proofs.YtpafenlcgcenlaaGreatDoor
open Go Go.RowKit
set_option linter.unusedVariables false
set_option linter.unusedSimpArgs false
theorem fieldsEN : Tryz.prog.underlying 82 = some (.struct (Tryz.prog.fieldsOf 82)) := by kernel_rfl
theorem heldEN : Tryz.prog.stoodInHeld 82 = false := by kernel_rfl
theorem fieldsEN_is : ∃ f0 f1 : Field, (Tryz.prog.fieldsOf 82).toList = [f0, f1] ∧ (f0.name ≠ "_" ∧ f0.type = 9 ∧ f0.offset = 0) ∧ (f1.name ≠ "_" ∧ f1.type = 41 ∧ f1.offset = 1) :=
  ⟨{ name := "Name", type := 9, offset := 0, embedded := false, tag := "", pkgPath := "", byteOffset := 0 }, { name := "Image", type := 41, offset := 1, embedded := false, tag := "", pkgPath := "", byteOffset := 16 },
    by kernel_rfl, ⟨by decide, rfl, rfl⟩, ⟨by decide, rfl, rfl⟩⟩
theorem partS_run (w : World) (nm : ByteArray) (i : Img) : (part 9 (manC nm i).toArray 0).run Tryz.prog w = .ok (.string nm) w := by
  simp [part, isAgg, run_underlying Tryz.underlying9, manC]
theorem partMI_run (w : World) (nm : ByteArray) (i : Img) (h : i.d.length = 32) : (part 41 (manC nm i).toArray 1).run Tryz.prog w = .ok (.agg i.cells.toArray) w :=
  part_agg w _ _ Tryz.underlying41 rfl 34 info_sI _ _ _ (by unfold manC; rw [List.drop_succ_cons, List.drop_zero, List.take_of_length_le (by rw [Img.cells_len h]; omega)])
theorem eqN_run (d : Nat) (n n' : ByteArray) (a b : Img) (ha : a.d.length = 32) (hb : b.d.length = 32) (w : World) :
    (Op.equalIn (d + 4) 82 (.agg (manC n a).toArray) (.agg (manC n' b).toArray)).run Tryz.prog w = .ok (n.toList == n'.toList && a.same b) w := by
  rw [run_equalIn_struct w (d + 3) 82 _ _ fieldsEN heldEN]
  obtain ⟨f0, f1, hf, ⟨n0, t0, o0⟩, n1, t1, o1⟩ := fieldsEN_is
  rw [hf, eqF_cons w (d + 3) _ _ f0 _ n0 (.string n) (.string n') (n.toList == n'.toList) (by rw [t0, o0]; exact partS_run w _ _) (by rw [t0, o0]; exact partS_run w _ _) (by rw [t0]; exact run_equalIn_string w (d + 2) _ _ _ Tryz.underlying9),
    eqF_cons w (d + 3) _ _ f1 _ n1 (.agg a.cells.toArray) (.agg b.cells.toArray) (a.same b) (by rw [t1, o1]; exact partMI_run w _ _ ha) (by rw [t1, o1]; exact partMI_run w _ _ hb) (by rw [t1]; exact eqI_run d a b ha hb w)]
  cases n.toList == n'.toList <;> cases a.same b <;> simp [Op.eqFields]
theorem eqlN (n : ByteArray) (a : Img) (ha : a.d.length = 32) (w : World) : (binOp .eql 82 (.agg (manC n a).toArray) (.agg (manC n a).toArray)).run Tryz.prog w = .ok (.bool true) w := by
  rw [run_eql_struct, eqN_run 9996 n n a a ha ha w, Img.same_refl, beq_self_eq_true]
  rfl
theorem mOk_app (b t : List UInt8) (hb : b.length = 60) : mOk (b ++ t) = mOk b ∧ mName (b ++ t) = mName b ∧ mImg (b ++ t) = mImg b := by
  have e1 : ∀ k n, k + n ≤ 60 → ((b ++ t).drop k).take n = (b.drop k).take n := by
    intro k n h
    rw [List.drop_append_of_le_length (by omega), List.take_append_of_le_length (by rw [List.length_drop]; omega)]
  have e0 : (b ++ t).take 4 = b.take 4 := List.take_append_of_le_length (by omega)
  have en : mName (b ++ t) = mName b := by unfold mName; rw [e1 4 16 (by omega)]
  have ei : mImg (b ++ t) = mImg b := by unfold mImg; rw [e1 20 4 (by omega), e1 24 4 (by omega), e1 28 32 (by omega)]
  refine ⟨?_, en, ei⟩
  unfold mOk
  rw [e0, en, ei]
/-! ### the ten manifests -/
def z32u : List UInt8 := List.replicate 32 0
def limN : List (ByteArray × Img) := [(⟨#[97]⟩, ⟨1, 1, z32u⟩), (⟨#[97]⟩, ⟨0, 1, z32u⟩), (⟨#[97]⟩, ⟨1, 0, z32u⟩), (⟨#[97]⟩, ⟨1073741824, 1073741824, z32u⟩), (⟨#[97]⟩, ⟨1073741825, 1, z32u⟩), (⟨#[97]⟩, ⟨1, 1073741825, z32u⟩), (⟨#[]⟩, ⟨1, 1, z32u⟩), (⟨#[65]⟩, ⟨1, 1, z32u⟩), (⟨#[206, 177, 206, 178, 206, 179, 206, 180, 206, 181, 206, 182, 206, 183, 206, 184]⟩, ⟨1, 1, z32u⟩), (⟨#[97, 98, 99, 100, 101, 102, 103, 104, 105]⟩, ⟨1, 1, z32u⟩)]
def limOk : List Bool := [true, false, false, true, false, false, false, false, true, false]
def lim350 : List Value := limN.flatMap fun x => manC x.1 x.2
/-- What one of them is read as. -/
structure Lim1 (x : ByteArray × Img) (b : Bool) : Prop where
  d : x.2.d.length = 32
  nm : x.1.size ≤ 100
  ok : mOk (bodyB x.1 x.2) = b
  back : b = true → (⟨(mName (bodyB x.1 x.2)).toArray⟩ : ByteArray) = x.1 ∧ mImg (bodyB x.1 x.2) = x.2
theorem lim_all (k : Nat) (hk : k < 10) : ∃ x b, limN[k]? = some x ∧ limOk[k]? = some b ∧ (lim350.drop (k * 35)).take 35 = manC x.1 x.2 ∧ Lim1 x b := by
  have h : k = 0 ∨ k = 1 ∨ k = 2 ∨ k = 3 ∨ k = 4 ∨ k = 5 ∨ k = 6 ∨ k = 7 ∨ k = 8 ∨ k = 9 := by omega
  rcases h with rfl | rfl | rfl | rfl | rfl | rfl | rfl | rfl | rfl | rfl
  · exact ⟨_, _, rfl, rfl, by kernel_rfl, by kernel_rfl, of_decide_eq_true (by kernel_rfl), by kernel_rfl, fun _ => ⟨by kernel_rfl, by kernel_rfl⟩⟩
  · exact ⟨_, _, rfl, rfl, by kernel_rfl, by kernel_rfl, of_decide_eq_true (by kernel_rfl), by kernel_rfl, fun h => nomatch h⟩
  · exact ⟨_, _, rfl, rfl, by kernel_rfl, by kernel_rfl, of_decide_eq_true (by kernel_rfl), by kernel_rfl, fun h => nomatch h⟩
  · exact ⟨_, _, rfl, rfl, by kernel_rfl, by kernel_rfl, of_decide_eq_true (by kernel_rfl), by kernel_rfl, fun _ => ⟨by kernel_rfl, by kernel_rfl⟩⟩
  · exact ⟨_, _, rfl, rfl, by kernel_rfl, by kernel_rfl, of_decide_eq_true (by kernel_rfl), by kernel_rfl, fun h => nomatch h⟩
  · exact ⟨_, _, rfl, rfl, by kernel_rfl, by kernel_rfl, of_decide_eq_true (by kernel_rfl), by kernel_rfl, fun h => nomatch h⟩
  · exact ⟨_, _, rfl, rfl, by kernel_rfl, by kernel_rfl, of_decide_eq_true (by kernel_rfl), by kernel_rfl, fun h => nomatch h⟩
  · exact ⟨_, _, rfl, rfl, by kernel_rfl, by kernel_rfl, of_decide_eq_true (by kernel_rfl), by kernel_rfl, fun h => nomatch h⟩
  · exact ⟨_, _, rfl, rfl, by kernel_rfl, by kernel_rfl, of_decide_eq_true (by kernel_rfl), by kernel_rfl, fun _ => ⟨by kernel_rfl, by kernel_rfl⟩⟩
  · exact ⟨_, _, rfl, rfl, by kernel_rfl, by kernel_rfl, of_decide_eq_true (by kernel_rfl), by kernel_rfl, fun h => nomatch h⟩
theorem lim350_len : lim350.length = 350 := by kernel_rfl
theorem run_sbN3 (nm : ByteArray) (v s : Int) (w : World) : (sbN #[(0, .string nm), (1, .agg (litI12 v s))]).run Tryz.prog w = .ok (.agg (manC nm ⟨v, s, z32u⟩).toArray) w :=
  run_build w _ _ _ (by kernel_rfl)
theorem run_sbN4 (v s : Int) (w : World) : (sbN #[(1, .agg (litI12 v s))]).run Tryz.prog w = .ok (.agg (manC ⟨#[]⟩ ⟨v, s, z32u⟩).toArray) w :=
  run_build w _ _ _ (by kernel_rfl)
theorem info_N : ∃ i z, Tryz.prog.info? 82 = some i ∧ i.size = 35 ∧ i.zero = some z ∧ z.cells = litN := by
  have h : (Tryz.prog.info? 82).map (·.size) = some 35 := info_sN
  have h2 : ((Tryz.prog.info? 82).bind (·.zero)).map (·.cells) = some litN := by kernel_rfl
  cases hi : Tryz.prog.info? 82 with
  | none => rw [hi] at h; cases h
  | some i =>
    rw [hi] at h h2
    simp only [Option.map_some, Option.some.injEq, Option.bind_some] at h h2
    cases hz : i.zero with
    | none => rw [hz] at h2; cases h2
    | some z =>
      rw [hz] at h2
      simp only [Option.map_some, Option.some.injEq] at h2
      exact ⟨i, z, rfl, h, hz, h2⟩
end Go.Proofs.YtpafenlcgcenlaaGreatDoor
