import Derived.Test.YtlmgipjalcnfaaaKELTA4
import Derived.Test.YtlmgipjalcnfaaaKELTPx11
namespace Go.Proofs.Ytlmgipjalcnfaaa.A
open Go.RowKit Go.Proofs.Ytlmgipjalcnfaaa.P Go.Proofs.YtlmgipjalcnfaaaW.PrintWords Go.Proofs.YtlmgipjalcnfaaaW.PrintLast
set_option linter.unusedVariables false
set_option linter.unusedSimpArgs false
/-! ### 8. The laws' own words -/
theorem wrap_next {i : Nat} (h : i < 9223372036854775807) : wrap64 ((i : Int) + 1) = ((i + 1 : Nat) : Int) := by unfold wrap64; omega
theorem rd_at {l : List Int} {i : Nat} {x : Int} (h : l[i]? = some x) : rd l (i : Int) = x := by simp [rd, List.getD_eq_getElem?_getD, h]
theorem dec_cons {α : Type} [DecidableEq α] {x y : α} {l m : List α} (h : x = y) : decide (x :: l = y :: m) = decide (l = m) := by subst h; simp
theorem dec_cons_ne {α : Type} [DecidableEq α] {x y : α} {l m : List α} (h : ¬ x = y) : decide (x :: l = y :: m) = false := by simp [h]
end Go.Proofs.Ytlmgipjalcnfaaa.A
