/- waterlinelaw15.Few: are Configs few and short enough? -/
import Derived.Test.YtpafenlcgcenlaaGreatDoorCp
namespace Go.Proofs.YtpafenlcgcenlaaGreatDoor
open Go Go.RowKit
set_option linter.unusedVariables false
set_option linter.unusedSimpArgs false
/-- A Config, and where its key and its first image lie. -/
structure Cfa where
  c : Cf
  K : Option Addr
  kc : Nat
  F : Option Addr
  fc : Nat
def Cfa.cells (x : Cfa) : List Value := x.c.cells x.K x.kc x.F x.fc
def cfC (l : List Cfa) : List Value := l.flatMap Cfa.cells
theorem cfC_at : ∀ (l : List Cfa) (k : Nat) (q : Cfa), l[k]? = Option.some q → ∀ j u, q.cells[j]? = Option.some u → (cfC l)[k * 7 + j]? = Option.some u
  | [], k, q, h, _, _, _ => by simp at h
  | a :: l, 0, q, h, j, u, hj => by
    simp only [List.getElem?_cons_zero, Option.some.injEq] at h
    subst h
    have hl : j < 7 := by
      rcases Nat.lt_or_ge j 7 with x | x
      · exact x
      · rw [List.getElem?_eq_none (by show 7 ≤ j; exact x)] at hj; cases hj
    show (a.cells ++ cfC l)[0 * 7 + j]? = _
    rw [Nat.zero_mul, Nat.zero_add, List.getElem?_append_left (by show j < 7; exact hl)]
    exact hj
  | a :: l, k + 1, q, h, j, u, hj => by
    show (a.cells ++ cfC l)[(k + 1) * 7 + j]? = _
    rw [List.getElem?_append_right (by show 7 ≤ _; omega), show (k + 1) * 7 + j - a.cells.length = k * 7 + j from by show (k + 1) * 7 + j - 7 = _; omega]
    exact cfC_at l k q (by simpa using h) j u hj
def Cf.few (c : Cf) : Prop := c.nm.size ≤ 100 ∧ c.key.length ≤ 200 ∧ c.first.length ≤ 3000
set_option maxRecDepth 100000 in
set_option maxHeartbeats 4000000 in
theorem few_c (w : World) (A : Option Addr) (cap : Nat) (l : List Cfa) (n : Nat) (hn : l.length = n) (h : Reads w A (n * 7) (cfC l)) (hc : n ≤ 100000) (R : Bool) (hR : R = true ↔ (∀ x ∈ l, x.c.few) ∧ n ≤ 10) :
    Calls Tryz.prog 7 #[.slice A n cap] w fun e w' => e = .returned (.bool R) ∧ w = w' := by
  have HN := Lib.hid hn
  have HR := Lib.hid hR
  have HH := Lib.hid h
  have HC := Lib.hid hc
  clear hn hR h hc
  go_enter Tryz.func7, Tryz.ntmps7
  go_wp2_with fail
  go_loopw [3] (fun i wr => ∃ (k : Nat), i = .int .i64 (k : Int) ∧ k ≤ n ∧ wr = w ∧ ∀ j x, j < k → l[j]? = Option.some x → x.c.few) (fun i _ => n - (intOf i).toNat)
  case atStart => exact ⟨0, rfl, Nat.zero_le _, rfl, fun j x h => by omega⟩
  case round =>
    obtain ⟨k, rfl, hk, rfl, hf⟩ := hrel
    have HF := Lib.hid hf
    have HK := Lib.hid hk
    clear hf hk
    by_cases hlt : k < n
    · obtain ⟨g, o, rfl, hg, hcell⟩ := HH.out.2 (by omega)
      obtain ⟨x, hx⟩ : ∃ x, l[k]? = Option.some x := ⟨l[k]'(by have := HN.out; omega), List.getElem?_eq_getElem _⟩
      have hcl := fun j u (hj : x.cells[j]? = Option.some u) => hcell (k * 7 + j) u (cfC_at l k x hx j u hj)
      have c0 : wr.cell? ⟨g, o + k * 7, none⟩ = some (.string x.c.nm) := hcl 0 _ rfl
      have c1 : wr.cell? ⟨g, o + k * 7 + 1, none⟩ = some (.slice x.K x.c.key.length x.kc) := by rw [Nat.add_assoc]; exact hcl 1 _ rfl
      have c6 : wr.cell? ⟨g, o + k * 7 + 6, none⟩ = some (.slice x.F x.c.first.length x.fc) := by rw [Nat.add_assoc]; exact hcl 6 _ rfl
      have hk1 : IntKind.i64.wrap ((k : Int) + 1) = (k : Int) + 1 := IntWalk.i64_in _ (by have := HC.out; omega)
      have hmem : x ∈ l := List.mem_of_getElem? hx
      have HX := Lib.hid hx
      have HM := Lib.hid hmem
      clear hx hmem hcl hcell hg
      by_cases h1 : (100 : Int) < (x.c.nm.size : Int)
      · have hr : R = false := by
          cases R
          · rfl
          · have := (HR.out.1 rfl).1 x HM.out
            have := this.1
            omega
        subst hr
        go_wp2_with fail
        go_ret
        exact ⟨rfl, rfl⟩
      by_cases h2 : (200 : Int) < (x.c.key.length : Int)
      · have hr : R = false := by
          cases R
          · rfl
          · have := (HR.out.1 rfl).1 x HM.out
            have := this.2.1
            omega
        subst hr
        go_wp2_with fail
        go_ret
        exact ⟨rfl, rfl⟩
      by_cases h3 : (3000 : Int) < (x.c.first.length : Int)
      · have hr : R = false := by
          cases R
          · rfl
          · have := (HR.out.1 rfl).1 x HM.out
            have := this.2.2
            omega
        subst hr
        go_wp2_with fail
        go_ret
        exact ⟨rfl, rfl⟩
      have HFX := Lib.hid (show x.c.few from ⟨by omega, by omega, by omega⟩)
      go_wp2_with fail
      go_roundw
      case rel =>
        refine ⟨k + 1, by go_num, by omega, by trivial, fun j y hj hy => ?_⟩
        rcases Nat.lt_or_ge j k with q | q
        · exact HF.out j y q hy
        · have e : j = k := by omega
          subst e
          have hx2 := HX.out
          rw [hy] at hx2
          injection hx2 with e2
          rw [e2]
          exact HFX.out
      case measure => simp [intOf]; omega
    · have hkk : k = n := by have := HK.out; omega
      have hall : ∀ x ∈ l, x.c.few := fun x hx => by
        obtain ⟨j, hj, e⟩ := List.getElem_of_mem hx
        exact HF.out j x (by have := HN.out; omega) (by rw [List.getElem?_eq_getElem hj, e])
      by_cases h10 : (n : Int) ≤ 10
      · have hr : R = true := HR.out.2 ⟨hall, by omega⟩
        subst hr
        go_wp2_with fail
        go_ret
        exact ⟨rfl, rfl⟩
      · have hr : R = false := by
          cases R
          · rfl
          · have := (HR.out.1 rfl).2
            omega
        subst hr
        have hd : decide ((n : Int) ≤ 10) = false := decide_eq_false h10
        go_wp2_with fail
        go_ret
        exact ⟨rfl, rfl⟩
end Go.Proofs.YtpafenlcgcenlaaGreatDoor
