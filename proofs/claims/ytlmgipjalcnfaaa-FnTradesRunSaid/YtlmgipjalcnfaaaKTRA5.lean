import Derived.Test.YtlmgipjalcnfaaaKTRA4
import Derived.Test.YtlmgipjalcnfaaaKTRPx10
namespace Go.Proofs.Ytlmgipjalcnfaaa.A
open Go.RowKit Go.Proofs.Ytlmgipjalcnfaaa.P Go.Proofs.YtlmgipjalcnfaaaW.PrintWords Go.Proofs.YtlmgipjalcnfaaaW.PrintLast
set_option linter.unusedVariables false
set_option linter.unusedSimpArgs false
/-! ### 8. The laws' own words -/
theorem wrap_next {i : Nat} (h : i < 9223372036854775807) : wrap64 ((i : Int) + 1) = ((i + 1 : Nat) : Int) := by unfold wrap64; omega
theorem rd_at {l : List Int} {i : Nat} {x : Int} (h : l[i]? = some x) : rd l (i : Int) = x := by simp [rd, List.getD_eq_getElem?_getD, h]
theorem dec_cons {α : Type} [DecidableEq α] {x y : α} {l m : List α} (h : x = y) : decide (x :: l = y :: m) = decide (l = m) := by subst h; simp
theorem dec_cons_ne {α : Type} [DecidableEq α] {x y : α} {l m : List α} (h : ¬ x = y) : decide (x :: l = y :: m) = false := by simp [h]
theorem sameInts_l0 (a b : List Int) (hl : a.length = b.length) (hb : a.length < 9223372036854775807) : ∀ (d i : Nat), i + d = a.length → Ev (fun k => laws_sameInts.l0 k a b (i : Int)) (decide (a.drop i = b.drop i)) := by
  intro d
  induction d with
  | zero =>
    intro i hi
    rw [List.drop_eq_nil_of_le (by omega), List.drop_eq_nil_of_le (by omega)]
    exact Ev.step (f := fun _ => some true) (fun k => by simp only [laws_sameInts.l0]; rw [if_neg (by omega)]) (Ev.now _)
  | succ d ih =>
    intro i hi
    have h1 : i < a.length := by omega
    have h2 : i < b.length := by omega
    have e1 := rd_at (List.getElem?_eq_getElem h1)
    have e2 := rd_at (List.getElem?_eq_getElem h2)
    rw [List.drop_eq_getElem_cons h1, List.drop_eq_getElem_cons h2]
    by_cases c : a[i] = b[i]
    · rw [dec_cons c]
      exact Ev.step (fun k => by simp only [laws_sameInts.l0]; rw [if_pos (by omega), if_pos (by omega), if_pos (by omega), e1, e2, if_pos c, wrap_next (by omega)]) (ih (i + 1) (by omega))
    · rw [dec_cons_ne c]
      exact Ev.step (f := fun _ => some false) (fun k => by simp only [laws_sameInts.l0]; rw [if_pos (by omega), if_pos (by omega), if_pos (by omega), e1, e2, if_neg c]) (Ev.now _)
theorem sameInts (a b : List Int) (hb : a.length < 9223372036854775807) : Ev (fun k => laws_sameInts.f k a b) (decide (a = b)) := by
  by_cases hl : a.length = b.length
  · have := sameInts_l0 a b hl hb a.length 0 (by omega)
    exact Ev.congr (fun k => by unfold laws_sameInts.f; rw [if_pos (by omega)]) (by simpa using this)
  · rw [show decide (a = b) = false by simp; intro h; exact hl (by rw [h])]
    exact Ev.congr (f := fun _ => some false) (fun k => by unfold laws_sameInts.f; rw [if_neg (by omega)]) (Ev.now _)
theorem alive : Ev (fun k => laws_alive.f k) true := by
  refine Ev.of (k := 9) laws_alive.mono ?_
  decide +kernel
end Go.Proofs.Ytlmgipjalcnfaaa.A
