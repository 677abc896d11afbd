-- Written by a program (wip/tools/prx.py over the guide's printer). Not trusted: Lean checks it.
import Derived.Test.YtlmgipjalcnfaaaKEHLPx0
namespace Go.Proofs.Ytlmgipjalcnfaaa.P
open Go.RowKit Go.Proofs.YtlmgipjalcnfaaaW.PrintWords Go.Proofs.YtlmgipjalcnfaaaW.PrintLast Go.Proofs.YtlmgipjalcnfaaaW.PrintMore
attribute [local go_sem] max2_int min2_int max_two min_two max_three min_three max_four min_four   -- for this text's walks alone
set_option linter.unusedVariables false
set_option linter.unusedSimpArgs false
/-! ### spec_l1Same: function 85 -/
mutual
def spec_l1Same.l0 : Nat → List Int → List Int → Int → Option (Bool)
  | 0, _, _, _ => none
  | k + 1, x0, x1, x5 => if x5 < (x0.length : Int) then (spec_l1Same.j1 k x0 x1 x5 (decide (x5 < (x1.length : Int)))) else (spec_l1Same.j1 k x0 x1 x5 false)
def spec_l1Same.j1 : Nat → List Int → List Int → Int → Bool → Option (Bool)
  | 0, _, _, _, _ => none
  | k + 1, x0, x1, x5, x15 => if x15 = true then (if 0 ≤ x5 then (if x5 < (x0.length : Int) then (if x5 < (x1.length : Int) then (if (rd x0 x5) = (rd x1 x5) then (spec_l1Same.l0 k x0 x1 (wrap64 (x5 + 1))) else (some false)) else (none)) else (none)) else (none)) else (some ((x0.length : Int) == (x1.length : Int)))
end
def spec_l1Same.f (k : Nat) (l0 : List Int) (l1 : List Int) : Option (Bool) := spec_l1Same.l0 k l0 l1 0
/-! ### spec_l8Index: function 63 -/
def spec_l8Index.l0 : Nat → List (List Int) → List Int → Int → Option (Int)
  | 0, _, _, _ => none
  | k + 1, x0, x1, x5 => if 0 ≤ x5 then (if x5 < (x0.length : Int) then ((spec_l1Same.f k (rd_L1 x0 x5) x1).bind fun t575 => (if t575 = true then (some x5) else (spec_l8Index.l0 k x0 x1 (wrap64 (x5 + 1))))) else (none)) else (none)
def spec_l8Index.f (k : Nat) (l0 : List (List Int)) (l1 : List Int) : Option (Int) := spec_l8Index.l0 k l0 l1 0
end Go.Proofs.Ytlmgipjalcnfaaa.P
