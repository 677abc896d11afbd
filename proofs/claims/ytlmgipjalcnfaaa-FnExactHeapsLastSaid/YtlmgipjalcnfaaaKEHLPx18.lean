-- Written by a program (wip/tools/prx.py over the guide's printer). Not trusted: Lean checks it.
import Derived.Test.YtlmgipjalcnfaaaKEHLPx0
import Derived.Test.YtlmgipjalcnfaaaKEHLPx2
import Derived.Test.YtlmgipjalcnfaaaKEHLPx3
import Derived.Test.YtlmgipjalcnfaaaKEHLPx17
namespace Go.Proofs.Ytlmgipjalcnfaaa.P
open Go.RowKit Go.Proofs.YtlmgipjalcnfaaaW.PrintWords Go.Proofs.YtlmgipjalcnfaaaW.PrintLast Go.Proofs.YtlmgipjalcnfaaaW.PrintMore
attribute [local go_sem] max2_int min2_int max_two min_two max_three min_three max_four min_four   -- for this text's walks alone
set_option linter.unusedVariables false
set_option linter.unusedSimpArgs false
/-! ### spec_LongestTrades: function 30 -/
mutual
def spec_LongestTrades.l0 : Nat → List (S45) → List (List Int) → List Int → Int → Option (Int)
  | 0, _, _, _, _ => none
  | k + 1, x1, x5, x6, x7 => if x7 < (x5.length : Int) then (if x6.length < 17592186044416 then (spec_LongestTrades.l0 k x1 x5 (x6 ++ [(-1)]) (wrap64 (x7 + 1))) else (none)) else (spec_LongestTrades.l1 k x1 x5 x6 0)
def spec_LongestTrades.l1 : Nat → List (S45) → List (List Int) → List Int → Int → Option (Int)
  | 0, _, _, _, _ => none
  | k + 1, x1, x5, x6, x8 => if x8 ≤ (x5.length : Int) then (spec_LongestTrades.l2 k x1 x5 x6 x8 false (wrap64 ((x5.length : Int) - 1))) else (if 0 < (x6.length : Int) then (some (rd x6 0)) else (none))
def spec_LongestTrades.l2 : Nat → List (S45) → List (List Int) → List Int → Int → Bool → Int → Option (Int)
  | 0, _, _, _, _, _, _ => none
  | k + 1, x1, x5, x6, x8, x9, x10 => if x10 ≥ 0 then (if 0 ≤ x10 then (if x10 < (x6.length : Int) then (if (rd x6 x10) ≥ 0 then (spec_LongestTrades.l2 k x1 x5 x6 x8 x9 (wrap64 (x10 - 1))) else (spec_LongestTrades.l3 k x1 x5 x6 x8 x9 x10 0 0)) else (none)) else (none)) else (if x9 = true then (spec_LongestTrades.l1 k x1 x5 x6 (wrap64 (x8 + 1))) else (if 0 < (x6.length : Int) then (some (rd x6 0)) else (none)))
def spec_LongestTrades.l3 : Nat → List (S45) → List (List Int) → List Int → Int → Bool → Int → Int → Int → Option (Int)
  | 0, _, _, _, _, _, _, _, _ => none
  | k + 1, x1, x5, x6, x8, x9, x10, x11, x12 => if x12 < (x1.length : Int) then (spec_LongestTrades.j4 k x1 x5 x6 x8 x9 x10 x11 x12 (decide (x11 ≥ 0))) else (spec_LongestTrades.j4 k x1 x5 x6 x8 x9 x10 x11 x12 false)
def spec_LongestTrades.j4 : Nat → List (S45) → List (List Int) → List Int → Int → Bool → Int → Int → Int → Bool → Option (Int)
  | 0, _, _, _, _, _, _, _, _, _ => none
  | k + 1, x1, x5, x6, x8, x9, x10, x11, x12, x57 => if x57 = true then (if 0 ≤ x10 then (if x10 < (x5.length : Int) then (if 0 ≤ x12 then (if x12 < (x1.length : Int) then ((spec_TradeDo.f k (rd_L1 x5 x10) ((rd_T45 x1 x12).f0) ((rd_T45 x1 x12).f1)).bind fun bt591 => (if bt591.2 = true then ((spec_l8Index.f k x5 bt591.1).bind fun t595 => (if 0 ≤ t595 then (if t595 < (x6.length : Int) then (if (rd x6 t595) < 0 then (spec_LongestTrades.l3 k x1 x5 x6 x8 x9 x10 (-1) (wrap64 (x12 + 1))) else (spec_LongestTrades.l3 k x1 x5 x6 x8 x9 x10 (mx x11 (wrap64 ((rd x6 t595) + 1))) (wrap64 (x12 + 1)))) else (none)) else (none))) else (spec_LongestTrades.l3 k x1 x5 x6 x8 x9 x10 x11 (wrap64 (x12 + 1))))) else (none)) else (none)) else (none)) else (none)) else (if 0 ≤ x10 then (if x10 < (x6.length : Int) then ((some (x6.set (x10 : Int).toNat x11 : List Int)).bind fun y588 => (if x9 = true then (spec_LongestTrades.l2 k x1 x5 y588 x8 true (wrap64 (x10 - 1))) else (spec_LongestTrades.l2 k x1 x5 y588 x8 (decide (x11 ≥ 0)) (wrap64 (x10 - 1))))) else (none)) else (none))
end
def spec_LongestTrades.f (k : Nat) (l0 : List Int) (l1 : List (S45)) : Option (Int) := (spec_HeapsReached.f k l0 l1).bind fun t576 => (if (t576.length : Int) = 0 then (some (-1)) else (spec_LongestTrades.l0 k l1 t576 (([] : List Int)) 0))
end Go.Proofs.Ytlmgipjalcnfaaa.P
