/- script.numbers: words as numbers. -/
import Derived.Test.YthidjmdcpdhdlaaDoorScL
namespace Go.Proofs.YthidjmdcpdhdlaaDoor
open Go Go.RowKit
set_option linter.unusedVariables false
set_option linter.unusedSimpArgs false
theorem info_int : (Tryd.prog.info? 3).map (fun i => (i.zero, i.size, i.bytes)) = some (some (.int .i64 0), 1, 8) := by kernel_rfl
def natv (n : Nat) : Value := .int .i64 (n : Int)
theorem natv_one (l : List Nat) : ∀ u ∈ l.map natv, u.oneCell' = true := by
  intro u hu
  obtain ⟨n, _, rfl⟩ := List.mem_map.1 hu
  rfl
def numsG : List (List UInt8) → Option (List Nat)
  | [] => Option.some []
  | a :: l => (numS a).bind fun n => (numsG l).map (n :: ·)
def numsRet (V : Option (List Nat)) (w : World) (e : Ending) (w' : World) : Prop :=
  match V with
  | Option.none => e = .returned (.tuple #[.slice none 0 0, .bool false])
  | Option.some l => ∃ A c, e = .returned (.tuple #[.slice A l.length c, .bool true]) ∧ w'.ownsRow w.heap.size 3 1 (.slice A l.length c) l.length (l.map natv)
theorem strv_str (l : List UInt8) : strv l = .string ⟨l.toArray⟩ := rfl
set_option maxRecDepth 100000 in
set_option maxHeartbeats 2000000 in
theorem snumbers_c (A : Option Addr) (n c : Nat) (ws : List (List UInt8)) (w : World) (hr : Reads w A n (ws.map strv)) (hn : n ≤ 1000) (hl : ∀ x ∈ ws, x.length ≤ 4000000) : Calls Tryd.prog 25 #[.slice A n c] w fun e w' => numsRet (numsG ws) w e w' ∧ Below w.heap.size w w' := by
  obtain ⟨i0, hi, hz0, hz1, hz2⟩ := info_parts info_int
  have HI := Lib.hid hi
  have HZ0 := Lib.hid hz0
  have HZ1 := Lib.hid hz1
  have HZ2 := Lib.hid hz2
  have hwl : ws.length = n := by have := hr.len; rwa [List.length_map] at this
  have HR := Lib.hid hr
  have HWL := Lib.hid hwl
  have HL := Lib.hid hl
  obtain ⟨V, hV⟩ : ∃ V, numsG ws = V := ⟨_, rfl⟩
  rw [hV]
  have HV0 := Lib.hid hV
  clear hi hz0 hz1 hz2 hr hwl hl hV
  go_enter Tryd.func25, Tryd.ntmps25
  go_wp2_with fail
  go_loopw [4, 11] (fun o i wr => ∃ (k : Nat) (acc : List Nat) (A' : Option Addr) (c' : Nat), o = .slice A' acc.length c' ∧ i = .int .i64 k ∧ acc.length = k ∧ k ≤ n ∧ (numsG (ws.drop k)).map (acc ++ ·) = V ∧ wr.ownsRow w.heap.size 3 1 (.slice A' acc.length c') acc.length (acc.map natv) ∧ Below w.heap.size w wr) (fun _ i wr => (match i with | .int _ x => (n : Int) - x | _ => 0).toNat)
  case atStart =>
    refine ⟨0, [], none, 0, rfl, rfl, rfl, Nat.zero_le _, ?_, World.ownsRow_nil _ _ _ _, Below.refl _ w⟩
    rw [List.drop_zero, HV0.out]; cases V <;> rfl
  case round =>
    obtain ⟨k, acc, A1, c1, rfl, rfl, hal, hkn, hg, hown, hb⟩ := hrel
    have HG := Lib.hid hg
    have HB := Lib.hid hb
    have HO := Lib.hid hown
    have HAL := Lib.hid hal
    clear hg hb hown hal
    by_cases hk : k < n
    · obtain ⟨bk, o, u, rfl, hbl, hu, hcell⟩ := ((HR.out.below HB.out).at_ hk)
      rw [List.getElem?_map] at hu
      obtain ⟨x, hx⟩ : ∃ x, ws[k]? = Option.some x := ⟨ws[k]'(by rw [HWL.out]; exact hk), List.getElem?_eq_getElem _⟩
      rw [hx] at hu
      cases hu
      rw [strv_str] at hcell
      have hxl := HL.out x (List.mem_of_getElem? hx)
      have hdr : ws.drop k = x :: ws.drop (k + 1) := by rw [List.drop_eq_getElem_cons (by rw [HWL.out]; exact hk)]; congr 1; rw [List.getElem?_eq_getElem (by rw [HWL.out]; exact hk)] at hx; injection hx
      have hg := HG.out
      rw [hdr] at hg
      have HG2 := Lib.hid hg
      have hnum := fun W => snumber_c ⟨x.toArray⟩ (by show x.toArray.size ≤ _; rw [List.size_toArray]; unfold maxLen; omega) W
      have hex : (⟨x.toArray⟩ : ByteArray).data.toList = x := List.toList_toArray ..
      simp only [hex] at hnum
      clear hg hdr hx hxl hex
      go_wp2_with fail
      refine (hnum _).mono ?_
      rintro e w1 ⟨rfl, hb1⟩
      have HB1 := Lib.hid (HB.out.trans (hb1.mono HB.out.size))
      have HO1 := Lib.hid (own_only HO.out (Only.of_below (S := []) hb1) (by simp))
      clear hb1 hnum
      cases hxn : numS x with
      | none =>
        have hv : V = Option.none := by rw [← HG2.out]; show ((numS x).bind _).map _ = _; rw [hxn]; rfl
        subst hv
        rw [show numV Option.none = .tuple #[.int .i64 0, .bool false] from rfl]
        clear hxn
        go_wp2_with fail
        go_ret2
        exact ⟨rfl, HB1.out⟩
      | some m =>
        have hg3 : (numsG (ws.drop (k + 1))).map ((acc ++ [m]) ++ ·) = V := by
          rw [← HG2.out]
          show _ = ((numS x).bind fun n => (numsG (ws.drop (k + 1))).map (n :: ·)).map (acc ++ ·)
          rw [hxn]
          cases numsG (ws.drop (k + 1)) with
          | none => rfl
          | some l => simp
        have HG3 := Lib.hid hg3
        rw [show numV (Option.some m) = .tuple #[.int .i64 (m : Int), .bool true] from rfl]
        have hrd : Reads (w1.alloc (.cells #[.int .i64 (m : Int)] 3)) (some ⟨w1.heap.size, 0, none⟩) 1 (([m] : List Nat).map natv) := (Blk.new w1 3 #[.int .i64 (m : Int)]).reads 0 (by simp)
        have hsz := HB1.out.size
        have hl3 := HO1.out.lt
        have hac : acc.length < 1000 := by rw [HAL.out]; omega
        clear hg3 hxn
        go_wp2_with (at_builtin; refine wpList_append_any _ rfl (.tmp 22) (.tmp 24) _ rfl w.heap.size 3 i0 (.int .i64 0) 8 Tryd.underlying58 HI.out HZ0.out HZ1.out HZ2.out rfl _ acc.length (acc.map natv) rfl (own_only HO1.out (Only.of_below (S := []) ((Below.refl _ w1).alloc (Nat.le_refl _) _)) (by simp)) (some ⟨w1.heap.size, 0, none⟩) 1 1 (([m] : List Nat).map natv) rfl hrd (natv_one _) (by unfold maxLen; omega) (by omega) (by simp; omega) ?_; intro A2 c2 w4 hown2 hgrow2 hat; have HOA := Lib.hid hown2; have HGA := Lib.hid hgrow2; clear hown2 hgrow2 hat)
        go_roundw
        case rel =>
          have hbal := (Below.refl w.heap.size w1).alloc (by omega) (.cells #[.int .i64 (m : Int)] 3)
          have hba := hbal.grown HGA.out (by simp; omega) (fun g hg => (hl3 g hg).1)
          refine ⟨k + 1, acc ++ [m], A2, c2, by rw [List.length_append]; rfl, by congr 1, by rw [List.length_append, HAL.out]; rfl, by omega, HG3.out, ?_, HB1.out.trans hba⟩
          rw [List.length_append, List.map_append]; exact HOA.out
        case measure =>
          dsimp only
          omega
    · have hkn2 : k = n := by omega
      have hv : V = Option.some acc := by rw [← HG.out, List.drop_eq_nil_of_le (by rw [HWL.out]; omega)]; show Option.some (acc ++ []) = _; rw [List.append_nil]
      subst hv
      go_wp2_with fail
      go_ret2
      exact ⟨⟨A1, c1, rfl, HO.out⟩, HB.out⟩
end Go.Proofs.YthidjmdcpdhdlaaDoor
