/- Metas and answers that are the same, compared. -/
import Derived.Test.YtpbdglocfjbbfaaDoorUp13
namespace Go.Proofs.YtpbdglocfjbbfaaDoor
open Go Go.RowKit
set_option linter.unusedVariables false
set_option linter.unusedSimpArgs false
theorem fieldsM_is : ∃ f0 f1 f2 f3 f4 f5 f6 : Field, (Tryd.prog.fieldsOf 27).toList = [f0, f1, f2, f3, f4, f5, f6] ∧ (f0.name ≠ "_" ∧ f0.type = 3 ∧ f0.offset = 0) ∧ (f1.name ≠ "_" ∧ f1.type = 25 ∧ f1.offset = 1) ∧ (f2.name ≠ "_" ∧ f2.type = 3 ∧ f2.offset = 69) ∧ (f3.name ≠ "_" ∧ f3.type = 3 ∧ f3.offset = 70) ∧ (f4.name ≠ "_" ∧ f4.type = 24 ∧ f4.offset = 71) ∧ (f5.name ≠ "_" ∧ f5.type = 3 ∧ f5.offset = 105) ∧ (f6.name ≠ "_" ∧ f6.type = 3 ∧ f6.offset = 106) :=
  ⟨{ name := "Active", type := 3, offset := 0, embedded := false, tag := "", pkgPath := "", byteOffset := 0 }, { name := "Have", type := 25, offset := 1, embedded := false, tag := "", pkgPath := "", byteOffset := 8 },
   { name := "Min", type := 3, offset := 69, embedded := false, tag := "", pkgPath := "", byteOffset := 104 }, { name := "Phase", type := 3, offset := 70, embedded := false, tag := "", pkgPath := "", byteOffset := 112 },
   { name := "Coming", type := 24, offset := 71, embedded := false, tag := "", pkgPath := "", byteOffset := 120 }, { name := "Got", type := 3, offset := 105, embedded := false, tag := "", pkgPath := "", byteOffset := 168 }, { name := "Trials", type := 3, offset := 106, embedded := false, tag := "", pkgPath := "", byteOffset := 176 },
    by kernel_rfl, ⟨by decide, rfl, rfl⟩, ⟨by decide, rfl, rfl⟩, ⟨by decide, rfl, rfl⟩, ⟨by decide, rfl, rfl⟩, ⟨by decide, rfl, rfl⟩, ⟨by decide, rfl, rfl⟩, ⟨by decide, rfl, rfl⟩⟩
theorem info_sA : (Tryd.prog.info? 25).map (·.size) = some 68 := by kernel_rfl
theorem Mt.c_have {m : Mt} (h : m.Ok) : (m.cells.drop 1).take 68 = m.h0.cells ++ m.h1.cells := by
  simp only [Mt.cells, List.drop_succ_cons, List.drop_zero]
  rw [← List.append_assoc, List.take_append_of_le_length (by rw [List.length_append, Img.cells_len h.d0, Img.cells_len h.d1]; omega), List.take_of_length_le (by rw [List.length_append, Img.cells_len h.d0, Img.cells_len h.d1]; omega)]
theorem eqM_refl (d : Nat) (m : Mt) (h : m.Ok) (w : World) : (Op.equalIn (d + 5) 27 (.agg m.cells.toArray) (.agg m.cells.toArray)).run Tryd.prog w = .ok true w := by
  rw [run_equalIn_struct w (d + 4) 27 _ _ fieldsM heldM]
  obtain ⟨f0, f1, f2, f3, f4, f5, f6, hf, ⟨n0, t0, o0⟩, ⟨n1, t1, o1⟩, ⟨n2, t2, o2⟩, ⟨n3, t3, o3⟩, ⟨n4, t4, o4⟩, ⟨n5, t5, o5⟩, n6, t6, o6⟩ := fieldsM_is
  have pI : ∀ (o : Nat) (v : Int), m.cells[o]? = some (i64v v) → (part 3 m.cells.toArray o).run Tryd.prog w = .ok (i64v v) w := fun o v hv => part_one w _ _ Tryd.underlying3 _ _ _ hv
  have eI : ∀ v : Int, (Op.equalIn (d + 4) 3 (i64v v) (i64v v)).run Tryd.prog w = .ok true w := fun v => by
    have q := run_equalIn_int (P := Tryd.prog) w (d + 3) 3 .i64 .i64 v v Tryd.underlying3
    rw [beq_self_eq_true] at q
    exact q
  have pA : (part 25 m.cells.toArray 1).run Tryd.prog w = .ok (.agg (m.h0.cells ++ m.h1.cells).toArray) w :=
    part_agg w _ _ Tryd.underlying25 rfl 68 info_sA _ _ _ (Mt.c_have h)
  have pC : (part 24 m.cells.toArray 71).run Tryd.prog w = .ok (.agg m.cm.cells.toArray) w :=
    part_agg w _ _ Tryd.underlying24 rfl 34 info_sI _ _ _ (Mt.c_cm h)
  have eC : (Op.equalIn (d + 4) 24 (.agg m.cm.cells.toArray) (.agg m.cm.cells.toArray)).run Tryd.prog w = .ok true w := by
    have q := eqI_run (d + 1) m.cm m.cm h.d2 h.d2 w
    rw [Img.same_refl] at q
    exact q
  rw [hf, eqF_cons w (d + 4) _ _ f0 _ n0 (i64v m.act) (i64v m.act) true (by rw [t0, o0]; exact pI _ _ Mt.c0) (by rw [t0, o0]; exact pI _ _ Mt.c0) (by rw [t0]; exact eI _), if_pos rfl,
    eqF_cons w (d + 4) _ _ f1 _ n1 _ _ true (by rw [t1, o1]; exact pA) (by rw [t1, o1]; exact pA) (by rw [t1]; exact eqA_refl d m.h0 m.h1 h.d0 h.d1 w), if_pos rfl,
    eqF_cons w (d + 4) _ _ f2 _ n2 (i64v m.mn) (i64v m.mn) true (by rw [t2, o2]; exact pI _ _ (Mt.c69 h)) (by rw [t2, o2]; exact pI _ _ (Mt.c69 h)) (by rw [t2]; exact eI _), if_pos rfl,
    eqF_cons w (d + 4) _ _ f3 _ n3 (i64v m.ph) (i64v m.ph) true (by rw [t3, o3]; exact pI _ _ (Mt.c70 h)) (by rw [t3, o3]; exact pI _ _ (Mt.c70 h)) (by rw [t3]; exact eI _), if_pos rfl,
    eqF_cons w (d + 4) _ _ f4 _ n4 _ _ true (by rw [t4, o4]; exact pC) (by rw [t4, o4]; exact pC) (by rw [t4]; exact eC), if_pos rfl,
    eqF_cons w (d + 4) _ _ f5 _ n5 (i64v m.got) (i64v m.got) true (by rw [t5, o5]; exact pI _ _ (Mt.c105 h)) (by rw [t5, o5]; exact pI _ _ (Mt.c105 h)) (by rw [t5]; exact eI _), if_pos rfl,
    eqF_cons w (d + 4) _ _ f6 _ n6 (i64v m.tr) (i64v m.tr) true (by rw [t6, o6]; exact pI _ _ (Mt.c106 h)) (by rw [t6, o6]; exact pI _ _ (Mt.c106 h)) (by rw [t6]; exact eI _), if_pos rfl]
  simp [Op.eqFields]
theorem eqlM (m : Mt) (h : m.Ok) (w : World) : (binOp .eql 27 (.agg m.cells.toArray) (.agg m.cells.toArray)).run Tryd.prog w = .ok (.bool true) w := by
  rw [run_eql_struct, eqM_refl 9995 m h w]
  rfl
theorem neqM (m : Mt) (h : m.Ok) (w : World) : (binOp .neq 27 (.agg m.cells.toArray) (.agg m.cells.toArray)).run Tryd.prog w = .ok (.bool false) w := by
  rw [run_neq_struct, eqM_refl 9995 m h w]
  rfl
theorem fieldsR : Tryd.prog.underlying 36 = some (.struct (Tryd.prog.fieldsOf 36)) := by kernel_rfl
theorem heldR : Tryd.prog.stoodInHeld 36 = false := by kernel_rfl
theorem fieldsR_is : ∃ f0 f1 f2 : Field, (Tryd.prog.fieldsOf 36).toList = [f0, f1, f2] ∧ (f0.name ≠ "_" ∧ f0.type = 34 ∧ f0.offset = 0) ∧ (f1.name ≠ "_" ∧ f1.type = 3 ∧ f1.offset = 1) ∧ (f2.name ≠ "_" ∧ f2.type = 3 ∧ f2.offset = 2) :=
  ⟨{ name := "Err", type := 34, offset := 0, embedded := false, tag := "", pkgPath := "", byteOffset := 0 }, { name := "N", type := 3, offset := 1, embedded := false, tag := "", pkgPath := "", byteOffset := 8 }, { name := "Got", type := 3, offset := 2, embedded := false, tag := "", pkgPath := "", byteOffset := 16 },
    by kernel_rfl, ⟨by decide, rfl, rfl⟩, ⟨by decide, rfl, rfl⟩, ⟨by decide, rfl, rfl⟩⟩
theorem eqR_run (d : Nat) (a b c a' b' c' : Int) (w : World) :
    (Op.equalIn (d + 2) 36 (.agg #[.int .i64 a, .int .i64 b, .int .i64 c]) (.agg #[.int .i64 a', .int .i64 b', .int .i64 c'])).run Tryd.prog w = .ok (a == a' && (b == b' && c == c')) w := by
  rw [run_equalIn_struct w (d + 1) 36 _ _ fieldsR heldR]
  obtain ⟨f0, f1, f2, hf, ⟨n0, t0, o0⟩, ⟨n1, t1, o1⟩, n2, t2, o2⟩ := fieldsR_is
  have p0 : ∀ x y z : Int, (part 34 #[.int .i64 x, .int .i64 y, .int .i64 z] 0).run Tryd.prog w = .ok (i64v x) w := fun x y z => part_one w _ _ Tryd.underlying34 [i64v x, i64v y, i64v z] 0 _ rfl
  have p1 : ∀ x y z : Int, (part 3 #[.int .i64 x, .int .i64 y, .int .i64 z] 1).run Tryd.prog w = .ok (i64v y) w := fun x y z => part_one w _ _ Tryd.underlying3 [i64v x, i64v y, i64v z] 1 _ rfl
  have p2 : ∀ x y z : Int, (part 3 #[.int .i64 x, .int .i64 y, .int .i64 z] 2).run Tryd.prog w = .ok (i64v z) w := fun x y z => part_one w _ _ Tryd.underlying3 [i64v x, i64v y, i64v z] 2 _ rfl
  rw [hf, eqF_cons w (d + 1) _ _ f0 _ n0 (i64v a) (i64v a') (a == a') (by rw [t0, o0]; exact p0 _ _ _) (by rw [t0, o0]; exact p0 _ _ _) (by rw [t0]; exact run_equalIn_int w d _ .i64 .i64 _ _ Tryd.underlying34),
    eqF_cons w (d + 1) _ _ f1 _ n1 (i64v b) (i64v b') (b == b') (by rw [t1, o1]; exact p1 _ _ _) (by rw [t1, o1]; exact p1 _ _ _) (by rw [t1]; exact run_equalIn_int w d _ .i64 .i64 _ _ Tryd.underlying3),
    eqF_cons w (d + 1) _ _ f2 _ n2 (i64v c) (i64v c') (c == c') (by rw [t2, o2]; exact p2 _ _ _) (by rw [t2, o2]; exact p2 _ _ _) (by rw [t2]; exact run_equalIn_int w d _ .i64 .i64 _ _ Tryd.underlying3)]
  cases a == a' <;> cases b == b' <;> cases c == c' <;> simp [Op.eqFields]
theorem eqlR (a b c a' b' c' : Int) (w : World) : (binOp .eql 36 (.agg #[.int .i64 a, .int .i64 b, .int .i64 c]) (.agg #[.int .i64 a', .int .i64 b', .int .i64 c'])).run Tryd.prog w = .ok (.bool (a == a' && (b == b' && c == c'))) w := by
  rw [run_eql_struct, eqR_run 9998 a b c a' b' c' w]
  rfl
end Go.Proofs.YtpbdglocfjbbfaaDoor
