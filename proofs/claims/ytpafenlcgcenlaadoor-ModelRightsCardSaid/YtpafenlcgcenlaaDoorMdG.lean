/- An Image built; an Image stored into a Model. -/
import Derived.Test.YtpafenlcgcenlaaDoorMdE
namespace Go.Proofs.YtpafenlcgcenlaaDoor
open Go Go.RowKit
set_option linter.unusedVariables false
set_option linter.unusedSimpArgs false
noncomputable def sbI (parts : Array (Nat × Value)) : Sem Value := Instr.build 42 parts
theorem sbI_seal (parts : Array (Nat × Value)) : Instr.build 42 parts = sbI parts := rfl
theorem builtI (parts : List (Nat × Value)) : Tryd.prog.built 42 parts = Instr.fill (#[(0, 1), (1, 1), (2, 32)][·]?) Img.zero.cells.toArray parts := by kernel_rfl
theorem run_sbI (v s : Int) (d : List UInt8) (hd : d.length = 32) (w : World) : (sbI #[(0, .int .i64 v), (1, .int .i64 s), (2, .agg (d.map u8v).toArray)]).run Tryd.prog w = .ok (.agg (Img.cells ⟨v, s, d⟩).toArray) w := by
  refine run_build w _ _ _ ?_
  rw [builtI]
  have hz : Img.zero.cells = i64v 0 :: i64v 0 :: List.replicate 32 (u8v 0) := by rfl
  have h1 : Instr.fill (#[(0, 1), (1, 1), (2, 32)][·]?) Img.zero.cells.toArray [(0, .int .i64 v), (1, .int .i64 s), (2, .agg (d.map u8v).toArray)] = Instr.fill (#[(0, 1), (1, 1), (2, 32)][·]?) (i64v v :: i64v s :: List.replicate 32 (u8v 0)).toArray [(2, .agg (d.map u8v).toArray)] := by
    rw [hz]; rfl
  rw [h1]
  have h2 := fill_one (#[(0, 1), (1, 1), (2, 32)][·]?) (i64v v :: i64v s :: List.replicate 32 (u8v 0)) (d.map u8v) 2 2 [] (by rw [List.length_map, hd]; rfl) (by rw [List.length_map, hd]; simp)
  refine Eq.trans h2 ?_
  rw [List.length_map, hd]
  show some _ = some _
  congr 2
  have e : List.drop (2 + 32) (i64v v :: i64v s :: List.replicate 32 (u8v 0)) = [] := List.drop_of_length_le (by simp)
  rw [e, List.append_nil]
  rfl
theorem splice_pre (cf m : List Value) (o : Nat) (xs : List Value) : splice (cf ++ m) (cf.length + o) xs = cf ++ splice m o xs := by
  unfold splice
  rw [List.take_append, List.drop_append, List.take_of_length_le (by omega), List.drop_of_length_le (l := cf) (by omega)]
  simp only [Nat.add_sub_cancel_left, List.nil_append, show cf.length + o + xs.length - cf.length = o + xs.length from by omega, List.append_assoc]
theorem splice_post (m ss : List Value) (o : Nat) (xs : List Value) (h : o + xs.length ≤ m.length) : splice (m ++ ss) o xs = splice m o xs ++ ss := by
  unfold splice
  rw [List.take_append_of_le_length (by omega), List.drop_append_of_le_length (by omega)]
  simp
theorem mdC_put0 {cf : List Value} (hc : cf.length = 7) {m : Mt} (h : m.Ok) (i : Img) (hi : i.d.length = 32) (s0 s1 : Value) : (mdC cf m s0 s1).take 8 ++ (i.cells ++ (mdC cf m s0 s1).drop (8 + i.cells.length)) = mdC cf { m with h0 := i } s0 s1 := by
  have hl := Img.cells_len hi
  have hm := Mt.cells_len h
  have h1 := splice_pre cf (m.cells ++ [s0, s1]) 1 i.cells
  rw [hc, splice_post m.cells [s0, s1] 1 i.cells (by omega)] at h1
  have h2 : splice m.cells 1 i.cells = ({ m with h0 := i } : Mt).cells := by unfold splice; rw [hl]; exact Mt.put1 h i
  rw [h2] at h1
  exact h1
theorem only_setCells {g : Nat} {w0 : World} : ∀ (l : List Value) (o : Nat) (w : World), Only [g] w0 w → Only [g] w0 (w.setCells g o l)
  | [], _, _, h => h
  | u :: l, o, w, h => only_setCells l (o + 1) _ (h.setCell (.inl (by simp)) u)
section
variable {w w' : World} {B b : Nat} {c : Cf} {m : Mt} {l0 l1 : List UInt8} {K F S0 S1 : Option Addr} {kc fc c0 c1 : Nat}
theorem MdAt.putH0 (h : MdAt w B b c m l0 l1 K kc F fc S0 c0 S1 c1) (i : Img) (hi : i.d.length = 32) : MdAt (w.setCells b 8 i.cells) B b c { m with h0 := i } l0 l1 K kc F fc S0 c0 S1 c1 := by
  have ho : Only [b] w (w.setCells b 8 i.cells) := only_setCells _ _ _ (Only.refl _ _)
  have hb := Blk.setCells i.cells 8 w _ h.blk (by rw [mdC_len (c.cells_len K kc F fc) h.ok, Img.cells_len hi]; omega)
  rw [mdC_put0 (c.cells_len K kc F fc) h.ok i hi] at hb
  have hn : ∀ {n cc : Nat} {A : Option Addr} {xs : List Value}, w.ownsRow B 5 1 (.slice A n cc) n xs → (w.setCells b 8 i.cells).ownsRow B 5 1 (.slice A n cc) n xs := fun hw => own_only hw ho (fun k hk => by
    simp only [List.mem_cons, List.not_mem_nil, or_false]
    rintro rfl
    exact own_blk_ne hw h.blk (by decide) hk)
  exact ⟨hb, ⟨hi, h.ok.d1, h.ok.d2, h.ok.act⟩, hn h.key, hn h.s0, hn h.s1, h.ge, h.ap0, h.ap1⟩
end
end Go.Proofs.YtpafenlcgcenlaaDoor
