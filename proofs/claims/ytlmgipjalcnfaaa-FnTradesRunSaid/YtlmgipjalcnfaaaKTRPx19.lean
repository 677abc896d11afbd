-- Written by a program (wip/tools/prx.py over the guide's printer). Not trusted: Lean checks it.
import Derived.Test.YtlmgipjalcnfaaaKTRPx0
import Derived.Test.YtlmgipjalcnfaaaKTRPx1
import Derived.Test.YtlmgipjalcnfaaaKTRPx6
import Derived.Test.YtlmgipjalcnfaaaKTRPx10
import Derived.Test.YtlmgipjalcnfaaaKTRPx13
import Derived.Test.YtlmgipjalcnfaaaKTRPx18
namespace Go.Proofs.Ytlmgipjalcnfaaa.P
open Go.RowKit Go.Proofs.YtlmgipjalcnfaaaW.PrintWords Go.Proofs.YtlmgipjalcnfaaaW.PrintLast Go.Proofs.YtlmgipjalcnfaaaW.PrintMore
attribute [local go_sem] max2_int min2_int max_two min_two max_three min_three max_four min_four   -- for this text's walks alone
set_option linter.unusedVariables false
set_option linter.unusedSimpArgs false
/-! ### impl_HeapsLast: function 37 -/
def impl_HeapsLast.l0 : Nat → List (S45) → List (List Int) → List (List Int) → Int → Int → Option ((List (List Int)))
  | 0, _, _, _, _, _ => none
  | k + 1, x1, x5, x11, x12, x13 => if x13 < x12 then (if 0 ≤ x13 then (if x13 < (x11.length : Int) then ((impl_TradesMay.f k (rd_L1 x11 x13) x1).bind fun t618 => (if (t618.length : Int) = 0 then (if x5.length < 5864062014805 then (impl_HeapsLast.l0 k x1 (x5 ++ [rd_L1 x11 x13]) x11 x12 (wrap64 (x13 + 1))) else (none)) else (impl_HeapsLast.l0 k x1 x5 x11 x12 (wrap64 (x13 + 1))))) else (none)) else (none)) else (some x5)
def impl_HeapsLast.f (k : Nat) (l0 : List Int) (l1 : List (S45)) : Option ((List (List Int))) := (impl_HeapsReached.f k l0 l1).bind fun t614 => (impl_HeapsLast.l0 k l1 (([] : List (List Int))) t614 (t614.length : Int) 0)
-- NOT PRINTED: function 7 (laws_FnExactHeapsLast)
/-! ### spec_DrawHeapsLast: function 39 -/
def spec_DrawHeapsLast.f (k : Nat) (l0 : List Int) : Option (List Int × (List (S45))) := (spec_DrawTradesMay.f k l0).bind fun bt628 => (some (bt628.1, bt628.2))
/-! ### laws_FnHeapsLast: function 9 -/
def laws_FnHeapsLast.l0 : Nat → List Int → List (S45) → List (List Int) → List (List Int) → Int → Option (Bool)
  | 0, _, _, _, _, _ => none
  | k + 1, x3, x4, x5, x6, x7 => if x7 < (x5.length : Int) then (if 0 ≤ x7 then ((laws_hasList.f k x6 (rd_L1 x5 x7)).bind fun t654 => (if t654 = true then ((impl_TradesMay.f k (rd_L1 x5 x7) x4).bind fun t656 => (if (t656.length : Int) = 0 then (laws_FnHeapsLast.l0 k x3 x4 x5 x6 (wrap64 (x7 + 1))) else (some false))) else (some false))) else (none)) else ((impl_LongestTrades.f k x3 x4).bind fun t650 => (if t650 < 0 then ((laws_alive.f k).bind fun t651 => (some t651)) else (if (x5.length : Int) > 0 then ((laws_alive.f k).bind fun t652 => (some t652)) else (some false))))
def laws_FnHeapsLast.f (k : Nat) (l0 : List Int) : Option (Bool) := if (l0.length : Int) > 1048576 then (some true) else ((spec_DrawHeapsLast.f k l0).bind fun bt634 => ((impl_HeapsLast.f k bt634.1 bt634.2).bind fun t640 => ((spec_HeapsLast.f k bt634.1 bt634.2).bind fun t643 => ((laws_sameLists.f k t640 t643).bind fun t646 => (if t646 = true then ((impl_HeapsReached.f k bt634.1 bt634.2).bind fun t647 => (laws_FnHeapsLast.l0 k bt634.1 bt634.2 t640 t647 0)) else (some false))))))
/-- THE ONE PURE STATEMENT of laws_FnHeapsLast: yours. -/
def laws_FnHeapsLast.Pure : Prop := ∀ (l0 : List Int), l0.length ≤ maxLen → l0.length * 1 ≤ 140737488351232 → (∀ x ∈ l0, (Lit.int .u8 x).wf = true) → ∃ k, laws_FnHeapsLast.f k l0 = some true
/-! ### laws_szIntSS: function 41 -/
/-! ### spec_l1Span: function 104 -/
end Go.Proofs.Ytlmgipjalcnfaaa.P
