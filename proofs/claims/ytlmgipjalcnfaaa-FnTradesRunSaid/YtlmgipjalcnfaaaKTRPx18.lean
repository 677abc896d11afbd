-- Written by a program (wip/tools/prx.py over the guide's printer). Not trusted: Lean checks it.
import Derived.Test.YtlmgipjalcnfaaaKTRPx0
import Derived.Test.YtlmgipjalcnfaaaKTRPx3
import Derived.Test.YtlmgipjalcnfaaaKTRPx4
import Derived.Test.YtlmgipjalcnfaaaKTRPx5
import Derived.Test.YtlmgipjalcnfaaaKTRPx10
import Derived.Test.YtlmgipjalcnfaaaKTRPx11
import Derived.Test.YtlmgipjalcnfaaaKTRPx13
import Derived.Test.YtlmgipjalcnfaaaKTRPx17
namespace Go.Proofs.Ytlmgipjalcnfaaa.P
open Go.RowKit Go.Proofs.YtlmgipjalcnfaaaW.PrintWords Go.Proofs.YtlmgipjalcnfaaaW.PrintLast Go.Proofs.YtlmgipjalcnfaaaW.PrintMore
attribute [local go_sem] max2_int min2_int max_two min_two max_three min_three max_four min_four   -- for this text's walks alone
set_option linter.unusedVariables false
set_option linter.unusedSimpArgs false
/-! ### spec_DrawLongestTrades: function 38 -/
def spec_DrawLongestTrades.f (k : Nat) (l0 : List Int) : Option (List Int × (List (S45))) := (spec_DrawTradesMay.f k l0).bind fun bt558 => (some (bt558.1, bt558.2))
/-! ### laws_FnLongestTrades: function 8 -/
def laws_FnLongestTrades.l0 : Nat → List Int → List (S45) → Int → Int → Int → Option (Bool)
  | 0, _, _, _, _, _ => none
  | k + 1, x3, x4, x5, x6, x7 => if x7 < (x4.length : Int) then (if 0 ≤ x7 then ((impl_TradeDo.f k x3 ((rd_T45 x4 x7).f0) ((rd_T45 x4 x7).f1)).bind fun bt574 => (if bt574.2 = true then ((impl_LongestTrades.f k bt574.1 x4).bind fun t578 => (if t578 < 0 then (some false) else (laws_FnLongestTrades.l0 k x3 x4 x5 (mx x6 (wrap64 (t578 + 1))) (wrap64 (x7 + 1))))) else (laws_FnLongestTrades.l0 k x3 x4 x5 x6 (wrap64 (x7 + 1))))) else (none)) else (some (x6 == x5))
def laws_FnLongestTrades.f (k : Nat) (l0 : List Int) : Option (Bool) := if (l0.length : Int) > 1048576 then (some true) else ((spec_DrawLongestTrades.f k l0).bind fun bt564 => ((impl_LongestTrades.f k bt564.1 bt564.2).bind fun t570 => ((spec_LongestTrades.f k bt564.1 bt564.2).bind fun t571 => (if t570 = t571 then (if t570 < 0 then (if t570 = (-1) then ((laws_alive.f k).bind fun t572 => (some t572)) else (some false)) else (laws_FnLongestTrades.l0 k bt564.1 bt564.2 t570 0 0)) else (some false)))))
/-- THE ONE PURE STATEMENT of laws_FnLongestTrades: yours. -/
def laws_FnLongestTrades.Pure : Prop := ∀ (l0 : List Int), l0.length ≤ maxLen → l0.length * 1 ≤ 140737488351232 → (∀ x ∈ l0, (Lit.int .u8 x).wf = true) → ∃ k, laws_FnLongestTrades.f k l0 = some true
-- NOT PRINTED: function 5 (laws_FnExactLongestTrades)
/-! ### spec_HeapsLast: function 36 -/
def spec_HeapsLast.l0 : Nat → List (S45) → List (List Int) → List (List Int) → Int → Option ((List (List Int)))
  | 0, _, _, _, _ => none
  | k + 1, x1, x5, x6, x7 => if x7 < (x6.length : Int) then (if 0 ≤ x7 then ((spec_TradesMay.f k (rd_L1 x6 x7) x1).bind fun t590 => (if (t590.length : Int) = 0 then (if x5.length < 5864062014805 then (spec_HeapsLast.l0 k x1 (x5 ++ [rd_L1 x6 x7]) x6 (wrap64 (x7 + 1))) else (none)) else (spec_HeapsLast.l0 k x1 x5 x6 (wrap64 (x7 + 1))))) else (none)) else (some x5)
def spec_HeapsLast.f (k : Nat) (l0 : List Int) (l1 : List (S45)) : Option ((List (List Int))) := (spec_HeapsReached.f k l0 l1).bind fun t586 => (spec_HeapsLast.l0 k l1 (([] : List (List Int))) t586 0)
/-! ### impl_TradesMay: function 40 -/
mutual
def impl_TradesMay.j0 : Nat → List Int → List (S45) → Bool → Option (List Int)
  | 0, _, _, _ => none
  | k + 1, x0, x1, x17 => if x17 = true then (some ([] : List Int)) else (impl_TradesMay.l0 k x0 (([] : List Int)) x1 (x1.length : Int) 0)
def impl_TradesMay.l0 : Nat → List Int → List Int → List (S45) → Int → Int → Option (List Int)
  | 0, _, _, _, _, _ => none
  | k + 1, x0, x5, x19, x20, x21 => if x21 < x20 then (if 0 ≤ x21 then (if x21 < (x19.length : Int) then ((impl_traded.f k x0 ((rd_T45 x19 x21).f0) ((rd_T45 x19 x21).f1)).bind fun bt604 => (if bt604.2 = true then (if x5.length < 17592186044416 then (impl_TradesMay.l0 k x0 (x5 ++ [x21]) x19 x20 (wrap64 (x21 + 1))) else (none)) else (impl_TradesMay.l0 k x0 x5 x19 x20 (wrap64 (x21 + 1))))) else (none)) else (none)) else (some x5)
end
def impl_TradesMay.f (k : Nat) (l0 : List Int) (l1 : List (S45)) : Option (List Int) := (impl_HeapsValid.f k l0).bind fun t597 => (if t597 = true then ((impl_TradesValid.f k l1).bind fun t598 => (impl_TradesMay.j0 k l0 l1 (!t598))) else (impl_TradesMay.j0 k l0 l1 true))
end Go.Proofs.Ytlmgipjalcnfaaa.P
