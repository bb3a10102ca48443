/- waterlinelaw4.HmacSame: the walk. -/
import Derived.Test.YtgadnliogceecaaHm4
import Derived.Deep.RegionWith
import Derived.Deep.CutRange
import Derived.Lib.BufferRead
namespace Go.Proofs.Ytgadnliogceecaa
open Go Go.RowKit
set_option linter.unusedVariables false
set_option linter.unusedSimpArgs false
set_option maxRecDepth 100000 in
set_option maxHeartbeats 1000000 in
theorem hmacSame_off (w : World) (A B : Option Addr) (n c m c2 : Nat) (x : Int) (y : UInt8) (hg : 300 < n ∨ 300 < m ∨ x < 0) :
    Calls Try.prog 8 #[.slice A n c, .slice B m c2, .int .i64 x, u8v y] w fun e w' => e = .returned (.bool true) ∧ Below w.heap.size w w' := by
  by_cases g0 : 300 < n
  · clear hg
    go_enter Try.func8, Try.ntmps8
    go_wp2_with (go_at_call 24; refine (alive4_c _).mono ?_; rintro e w1 ⟨rfl, hb⟩)
    go_ret
    exact ⟨rfl, hb⟩
  · by_cases g1 : 300 < m
    · clear hg
      go_enter Try.func8, Try.ntmps8
      go_wp2_with (go_at_call 24; refine (alive4_c _).mono ?_; rintro e w1 ⟨rfl, hb⟩)
      go_ret
      exact ⟨rfl, hb⟩
    · have g2 : x < 0 := by omega
      clear hg
      go_enter Try.func8, Try.ntmps8
      go_wp2_with (go_at_call 24; refine (alive4_c _).mono ?_; rintro e w1 ⟨rfl, hb⟩)
      go_ret
      exact ⟨rfl, hb⟩

/-- A string of what a slice reads. -/
theorem str_any (w : World) (A : Option Addr) (n cap : Nat) (d : List UInt8) (h : Reads w A n (d.map u8v)) :
    (convert 22 9 (.slice A n cap)).run Try.prog w = .ok (.string ⟨d.toArray⟩) w := by
  have hn : d.length = n := by simpa using h.len
  rcases Nat.eq_zero_or_pos n with h0 | h0
  · subst h0
    have hd : d = [] := List.eq_nil_of_length_eq_zero hn
    subst hd
    rcases A with _ | a
    · exact Lib.run_convert_nil_bytes w 22 9 5 cap Try.underlying22 Try.underlying5 Try.underlying9
    · exact run_convert_bytes_back w 22 9 5 a cap [] Try.underlying22 Try.underlying5 Try.underlying9 (fun j hj => by simp at hj)
  · obtain ⟨b, o, rfl, _, hc⟩ := h.2 h0
    subst hn
    refine run_convert_bytes_back w 22 9 5 ⟨b, o, none⟩ cap d Try.underlying22 Try.underlying5 Try.underlying9 (fun j hj => ?_)
    rw [add_off]
    have := hc j (u8v d[j]) (by simp [hj])
    simpa using this
theorem below_grownN {w w' : World} {k n c : Nat} (hg : (w.drewN k).grownBy w' (Value.slice none n c).ownBlock) : Below w.heap.size w w' :=
  (below_drewN (Below.refl w.heap.size w) k).grown hg (Nat.le_refl _) (by intro g hg; cases hg)
section
variable {P : Program} (w : World)
theorem step_append_want {ops : Array Oper} {o : Oper} {a : Act} {K : Act → World → Prop} {Q : Exit → Act → World → Prop} {E : Prop} (hw : Region.wanted o (yielded ops a.tmps) = true) (s x : Operand) (t : TypeId)
    (ho : o.op = .call { callee := .builtin .append, args := #[s, x], argTypes := #[t, t] })
    (base : Nat) (e : TypeId) (i : TypeInfo) (z : Value) (bytes : Nat) (ht : P.underlying t = some (.slice e)) (hi : P.info? e = some i) (hz : i.zero = some z)
    (hsize : i.size = 1) (hby : i.bytes = bytes) (hzs : z.cells.size = 1)
    (v : Value) (n : Nat) (xs : List Value) (hs : a.eval s = v) (hown : w.ownsRow base e 1 v n xs)
    (A : Option Addr) (m c : Nat) (news : List Value) (hx : a.eval x = .slice A m c) (hr : Reads w A m news) (h1 : ∀ u ∈ news, u.oneCell' = true)
    (h63 : n + m ≤ maxLen) (hbytes : (n + m) * bytes ≤ 140737488355328) (hbase : base ≤ w.heap.size)
    (h : ∀ A' c' w', w'.ownsRow base e 1 (.slice A' (n + m) c') (n + m) (xs ++ news) → w.grownBy w' v.ownBlock → (∀ a, A' = some a → v.ownBlock = some a.block ∨ a.block = w.heap.size) → K (a.put o.dst (.slice A' (n + m) c')) w') :
    if Region.wanted o (yielded ops a.tmps) = true then Oper.wp P o a w K Q else E := by
  rw [if_pos hw]
  exact wp_append_any w s x t ho base e i z bytes ht hi hz hsize hby hzs v n xs hs hown A m c news hx hr h1 h63 hbytes hbase h
end
theorem Reads.heap {w w' : World} {A : Option Addr} {n : Nat} {xs : List Value} (h : Reads w A n xs) (hh : w'.heap = w.heap) : Reads w' A n xs :=
  h.keep (by rw [hh]; exact Nat.le_refl _) fun b _ _ => by rw [hh]
set_option maxRecDepth 100000 in
set_option maxHeartbeats 8000000 in
theorem hmacSame_on (w : World) (A B : Option Addr) (n c m c2 : Nat) (a b : List UInt8) (x : Nat) (y : UInt8) (ra : Reads w A n (a.map u8v)) (rb : Reads w B m (b.map u8v)) (hn : n ≤ 300) (hm : m ≤ 300) (hx : x ≤ 9223372036854775807) (hnc : n ≤ c) (hc : (c : Int) ≤ 9223372036854775807) :
    Calls Try.prog 8 #[.slice A n c, .slice B m c2, .int .i64 (x : Int), u8v y] w fun e w' => e = .returned (.bool true) ∧ Below w.heap.size w w' := by
  obtain ⟨i0, hi, hz0, hz1, hz2⟩ := info_parts info_u8
  have HI := Lib.hid hi
  have HZ0 := Lib.hid hz0
  have HZ1 := Lib.hid hz1
  have HZ2 := Lib.hid hz2
  have hal : a.length = n := by simpa using ra.len
  have RA := Lib.hid ra
  have RB := Lib.hid rb
  clear ra rb hi hz0 hz1 hz2
  go_enter Try.func8, Try.ntmps8
  go_upto_region 4 with (go_at_call 24; refine (alive4_c _).mono ?_; rintro e w1 ⟨rfl, hb⟩; have HB := Lib.hid hb; have hbs := hb.size; have R1 := Lib.hid (RA.out.below hb); have R2 := Lib.hid (RB.out.below hb); clear hb)
  obtain ⟨SA, hSA⟩ : ∃ S : ByteArray, S = ⟨a.toArray⟩ := ⟨_, rfl⟩
  obtain ⟨SB, hSB⟩ : ∃ S : ByteArray, S = ⟨b.toArray⟩ := ⟨_, rfl⟩
  have hcA : ∀ k, (convert 22 9 (.slice A n c)).run Try.prog (w1.drewN k) = .ok (.string SA) (w1.drewN k) := fun k => by rw [hSA]; exact str_any _ A n c a (R1.out.heap rfl)
  have hcB : ∀ k, (convert 22 9 (.slice B m c2)).run Try.prog (w1.drewN k) = .ok (.string SB) (w1.drewN k) := fun k => by rw [hSB]; exact str_any _ B m c2 b (R2.out.heap rfl)
  have hcA1 : (convert 22 9 (.slice A n c)).run Try.prog w1.drew = .ok (.string SA) w1.drew := hcA 1
  have hcB1 : (convert 22 9 (.slice B m c2)).run Try.prog w1.drew = .ok (.string SB) w1.drew := hcB 1
  have hss : (SA.toList == SB.toList) = (a == b) := by
    rw [hSA, hSB, Bool.eq_iff_iff, beq_iff_eq, beq_iff_eq]
    constructor
    · intro h
      have h2 : (⟨a.toArray⟩ : ByteArray) = ⟨b.toArray⟩ := by
        have h3 : (⟨a.toArray⟩ : ByteArray).toList = (⟨b.toArray⟩ : ByteArray).toList := h
        rw [ByteArray.toList_eq, ByteArray.toList_eq] at h3
        have h4 : a = b := by simpa using h3
        rw [h4]
      injection h2 with h2
      simpa using h2
    · rintro rfl; rfl
  clear hSA hSB
  go_cut [44] from 29 to 44 (fun v wx => v = .bool false ∧ Below w.heap.size w wx)
  case first =>
    go_region_law (first
      | (go_simp; go_at_call 27; (with_reducible refine Calls.mono (same_c _ A B n m c c2 a b ?_ ?_ ?_ ?_) ?_); (first | exact R1.out.heap (by rfl)); (exact R2.out.heap (by rfl)); (unfold maxLen; omega); (unfold maxLen; omega); rintro e w' ⟨rfl, q, rfl⟩)
      | (go_simp; go_at_call 27; (with_reducible refine Calls.mono (same_c _ A A3 n n c c3 a a ?_ ?_ ?_ ?_) ?_); (exact HRB3.out); (exact Reads.of_own HO3.out); (unfold maxLen; omega); (unfold maxLen; omega); rintro e w' ⟨rfl, q2, rfl⟩)
      | (refine step_append_want _ (by rfl) (.const (.slice none 0 0)) (.tmp 40) 22 (by rfl) w.heap.size 5 i0 (.int .u8 0) 1 Try.underlying22 HI.out HZ0.out HZ1.out HZ2.out (by rfl) _ 0 [] (by rfl) (World.ownsRow_nil _ _ _ _) A n c (a.map u8v) (by rfl) (R1.out.heap (by rfl)) (u8v_one _) (by unfold maxLen; omega) (by omega) hbs ?_; intro A3 c3 w3 hown3 hgrow3 hat3; try simp only [Nat.zero_add, List.nil_append] at hown3; have HO3 := Lib.hid hown3; have hbg := below_grownN hgrow3; have HRB3 := Lib.hid (R1.out.below hbg); have HB3 := Lib.hid (HB.out.trans (hbg.mono hbs)); clear hbg; clear hown3 hgrow3 hat3))
    all_goals (go_wp2_with fail; go_meet; exact ⟨rfl, below_drewN HB3.out _⟩)
  case rest =>
    obtain ⟨rfl, hcb⟩ := hcut
    have HC := Lib.hid hcb
    clear hcb hss hcA hcB hcA1 hcB1 HB R1 R2
    by_cases hn0 : n = 0
    · subst hn0
      go_wp2_with fail
      go_ret
      exact ⟨rfl, HC.out⟩
    · by_cases hy0 : y = 0
      · subst hy0
        go_wp2_with fail
        go_ret
        exact ⟨rfl, HC.out⟩
      · have hyn : ¬ ((y.toNat : Int) = 0) := by
          intro h
          apply hy0
          exact UInt8.toNat_inj.1 (by have : y.toNat = 0 := by omega
                                      simpa using this)
        have hnn : ¬ ((n : Int) = 0) := by omega
        have hnb : ((n : Int) == 0) = false := by simp; exact hn0
        have hyb : ((y.toNat : Int) == 0) = false := by rw [beq_eq_false_iff_ne]; exact hyn
        have hcs := HC.out.size
        go_upto_region 9 with (at_builtin; refine wpList_append_any _ rfl (.const (.slice none 0 0)) (.tmp 52) _ rfl wc.heap.size 5 i0 (.int .u8 0) 1 Try.underlying22 HI.out HZ0.out HZ1.out HZ2.out rfl _ 0 [] rfl (World.ownsRow_nil _ _ _ _) A n c (a.map u8v) rfl (RA.out.below HC.out) (u8v_one _) ?_ ?_ (Nat.le_refl _) ?_)
        · unfold maxLen; omega
        · omega
        intro A3 c3 w3 hown3 hgrow3 hat3
        try simp only [Nat.zero_add, List.nil_append] at hown3
        try simp only [Nat.zero_add]
        have hb3 := (Below.refl wc.heap.size wc).grown hgrow3 (Nat.le_refl _) (by intro g hg; cases hg)
        obtain ⟨g, cap, hv, hu, hlt3⟩ := hown3.form (by omega)
        have hA3 : A3 = some ⟨g, 0, none⟩ := by injection hv
        subst hA3
        have hg := (hown3.lt g rfl).1
        have hk : x % n < n := Nat.mod_lt _ (by omega)
        have hmod : ((x : Int) % (n : Int)) = ((x % n : Nat) : Int) := (Int.natCast_emod x n).symm
        generalize x % n = k at hk hmod
        have hrow := hown3.cells (g := g) rfl k (u8v a[k]) (by rw [List.getElem?_map, List.getElem?_eq_getElem (show k < a.length by omega)]; rfl)
        rw [add_zero_off] at hrow
        have hfr := hown3.frozenAt k
        have hst := hown3.stored k (u8v (a[k] ^^^ y))
        have HOWN := Lib.hid hown3
        have HB3 := Lib.hid (HC.out.trans (hb3.mono hcs))
        have hall := hst.1
        have hbl := hst.2
        have e : (a.map u8v).set k (u8v (a[k] ^^^ y)) = (a.set k (a[k] ^^^ y)).map u8v := by rw [List.map_set]
        rw [e] at hall
        have hne1 : (a == a.set k (a[k] ^^^ y)) = false := by
          rw [beq_eq_false_iff_ne]
          intro h
          have h2 : a[k] = (a.set k (a[k] ^^^ y))[k]'(by rw [List.length_set]; omega) := by
            have := congrArg (fun l => l[k]?) h
            simp only [List.getElem?_eq_getElem (show k < a.length by omega), List.getElem?_set_self (show k < a.length by omega)] at this
            simpa using this
          rw [List.getElem_set_self] at h2
          have h3 : a[k] ^^^ (a[k] ^^^ y) = a[k] ^^^ a[k] := by rw [← h2]
          rw [← UInt8.xor_assoc, UInt8.xor_self, UInt8.zero_xor] at h3
          exact hy0 h3
        have hne2 : (a == a.take (n - 1)) = false := by
          rw [beq_eq_false_iff_ne]
          intro h
          have := congrArg List.length h
          rw [List.length_take] at this
          omega
        have HALL := Lib.hid hall
        have HBL := Lib.hid hbl
        have HNE1 := Lib.hid hne1
        have HNE2 := Lib.hid hne2
        have hx : bits .xor .u8 ((a[k]).toNat : Int) (y.toNat : Int) = ((a[k] ^^^ y).toNat : Int) := u8_xorc a[k] y
        clear hst hall hbl e hne1 hne2 hown3 hv hat3 hgrow3
        obtain ⟨ak, hak⟩ : ∃ ak, ak = a[k] := ⟨_, rfl⟩
        rw [← hak] at hrow hx HALL HBL HNE1
        clear hak
        go_upto_region 9 with fail
        refine wp_region_quiet_tail 15 (by kernel_rfl) (by kernel_rfl) ?_
        simp only [List.take_succ_cons, List.take_zero, List.drop_succ_cons, List.drop_zero]
        repeat (go_big_quiet_step (fail))
        refine wpQuiet_nil ?_
        intro nq
        go_wp2_with fail
        have hx2 : ((ak.toNat ^^^ y.toNat : Nat) : Int) = ((ak ^^^ y).toNat : Int) := by rw [UInt8.toNat_xor]
        rw [hx2]
        have hown4 : ((w3.drewN nq).setCell ⟨g, k, none⟩ (u8v (ak ^^^ y))).ownsRow wc.heap.size 5 1 (.slice (some ⟨g, 0, none⟩) n c3) n ((a.set k (ak ^^^ y)).map u8v) := HALL.out
        have hb4 : Below w.heap.size w ((w3.drewN nq).setCell ⟨g, k, none⟩ (u8v (ak ^^^ y))) := (below_drewN HB3.out nq).setCell (by show w.heap.size ≤ g; omega) _
        generalize (w3.drewN nq).setCell ⟨g, k, none⟩ (.int .u8 ((ak ^^^ y).toNat : Int)) = w4 at hown4 hb4 ⊢
        have HR4 := Lib.hid (Reads.of_own hown4)
        have HB4 := Lib.hid hb4
        clear hown4 hb4 HALL HBL HB3 hrow hfr hx hx2 HOWN
        refine (same_c w4 A _ n n c c3 a (a.set k (ak ^^^ y)) (RA.out.below HB4.out) HR4.out (by unfold maxLen; omega) (by unfold maxLen; omega)).mono ?_
        rintro e w5 ⟨rfl, q5, rfl⟩
        rw [HNE1.out]
        have hn1 : IntKind.i64.wrap ((n : Int) - 1) = (n : Int) - 1 := IntWalk.i64_in _ (by omega)
        have hn2 : ((n : Int) - 1).toNat = n - 1 := by omega
        have hn3 : 0 ≤ (n : Int) - 1 := by omega
        have hn4 : (n : Int) - 1 ≤ (c : Int) := by omega
        have hrt : Reads (w4.drewN q5) A (n - 1) ((a.take (n - 1)).map u8v) := by
          rw [List.map_take]
          exact ((RA.out.below HB4.out).drewN q5).take (by omega)
        have HRT := Lib.hid hrt
        clear hrt
        go_wp2_with fail
        refine (same_c (w4.drewN q5) A A n (n - 1) c c a (a.take (n - 1)) ((RA.out.below HB4.out).drewN q5) HRT.out (by unfold maxLen; omega) (by unfold maxLen; omega)).mono ?_
        rintro e w6 ⟨rfl, q6, rfl⟩
        rw [HNE2.out]
        go_wp2_with fail
        go_ret
        exact ⟨rfl, below_drewN HB4.out _⟩
theorem hmacSame_c (w : World) (A B : Option Addr) (n c m c2 : Nat) (a b : List UInt8) (x : Int) (y : UInt8) (ra : Reads w A n (a.map u8v)) (rb : Reads w B m (b.map u8v)) (hx : x ≤ 9223372036854775807) (hnc : n ≤ c ∧ c ≤ maxLen) :
    Calls Try.prog 8 #[.slice A n c, .slice B m c2, .int .i64 x, u8v y] w fun e w' => e = .returned (.bool true) ∧ Below w.heap.size w w' := by
  by_cases hg : 300 < n ∨ 300 < m ∨ x < 0
  · exact hmacSame_off w A B n c m c2 x y hg
  · obtain ⟨k, rfl⟩ : ∃ k : Nat, x = (k : Int) := ⟨x.toNat, by omega⟩
    have h2 := hnc.2
    unfold maxLen at h2
    exact hmacSame_on w A B n c m c2 a b k y ra rb (by omega) (by omega) (by omega) hnc.1 (by omega)
end Go.Proofs.Ytgadnliogceecaa
