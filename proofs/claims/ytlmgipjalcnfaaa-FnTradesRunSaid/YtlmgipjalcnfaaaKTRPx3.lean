-- Written by a program (wip/tools/prx.py over the guide's printer). Not trusted: Lean checks it.
import Derived.Test.YtlmgipjalcnfaaaKTRPx0
import Derived.Test.YtlmgipjalcnfaaaKTRPx1
import Derived.Test.YtlmgipjalcnfaaaKTRPx2
namespace Go.Proofs.Ytlmgipjalcnfaaa.P
open Go.RowKit Go.Proofs.YtlmgipjalcnfaaaW.PrintWords Go.Proofs.YtlmgipjalcnfaaaW.PrintLast Go.Proofs.YtlmgipjalcnfaaaW.PrintMore
attribute [local go_sem] max2_int min2_int max_two min_two max_three min_three max_four min_four   -- for this text's walks alone
set_option linter.unusedVariables false
set_option linter.unusedSimpArgs false
/-! ### spec_HeapsReached: function 13 -/
mutual
def spec_HeapsReached.j0 : Nat → List Int → List (S45) → List (List Int) → Bool → Option ((List (List Int)))
  | 0, _, _, _, _ => none
  | k + 1, x0, x1, x5, x19 => if x19 = true then (some x5) else (if 68921 ≤ 281474976710656 then ((some (List.replicate 68921 false : List Bool)).bind fun y146 => ((some (([] : List Int) : List Int)).bind fun y149 => (if y149.length + x0.length < 17592186044416 then (if x5.length < 5864062014805 then ((spec_l8Code.f x0).bind fun t158 => (if 0 ≤ t158 then (if t158 < (y146.length : Int) then (spec_HeapsReached.l0 k x1 (x5 ++ [(y149 ++ x0)]) (y146.set (t158 : Int).toNat true) 0) else (none)) else (none))) else (none)) else (none)))) else (none))
def spec_HeapsReached.l0 : Nat → List (S45) → List (List Int) → List Bool → Int → Option ((List (List Int)))
  | 0, _, _, _, _ => none
  | k + 1, x1, x5, x6, x7 => if x7 < (x5.length : Int) then (spec_HeapsReached.l1 k x1 x5 x6 x7 0) else (some x5)
def spec_HeapsReached.l1 : Nat → List (S45) → List (List Int) → List Bool → Int → Int → Option ((List (List Int)))
  | 0, _, _, _, _, _ => none
  | k + 1, x1, x5, x6, x7, x8 => if x8 < (x1.length : Int) then (if 0 ≤ x7 then (if x7 < (x5.length : Int) then (if 0 ≤ x8 then ((spec_TradeDo.f k (rd_L1 x5 x7) ((rd_T45 x1 x8).f0) ((rd_T45 x1 x8).f1)).bind fun bt165 => (if bt165.2 = true then ((spec_l8Code.f bt165.1).bind fun t169 => (if 0 ≤ t169 then (if t169 < (x6.length : Int) then (if rdOf false x6 t169 = true then (spec_HeapsReached.l1 k x1 x5 x6 x7 (wrap64 (x8 + 1))) else ((spec_l8Code.f bt165.1).bind fun t171 => (if 0 ≤ t171 then (if t171 < (x6.length : Int) then (if x5.length < 5864062014805 then (spec_HeapsReached.l1 k x1 (x5 ++ [bt165.1]) (x6.set (t171 : Int).toNat true) x7 (wrap64 (x8 + 1))) else (none)) else (none)) else (none)))) else (none)) else (none))) else (spec_HeapsReached.l1 k x1 x5 x6 x7 (wrap64 (x8 + 1))))) else (none)) else (none)) else (none)) else (if (x5.length : Int) > 400 then (some (([] : List (List Int)))) else (spec_HeapsReached.l0 k x1 x5 x6 (wrap64 (x7 + 1))))
end
def spec_HeapsReached.f (k : Nat) (l0 : List Int) (l1 : List (S45)) : Option ((List (List Int))) := (some (([] : List (List Int)) : List (List Int))).bind fun y141 => ((spec_HeapsValid.f k l0).bind fun t144 => (if t144 = true then ((spec_TradesValid.f k l1).bind fun t145 => (spec_HeapsReached.j0 k l0 l1 y141 (!t145))) else (spec_HeapsReached.j0 k l0 l1 y141 true)))
end Go.Proofs.Ytlmgipjalcnfaaa.P
