-- Written by a program (wip/tools/prx.py over the guide's printer). Not trusted: Lean checks it.
import Derived.Test.YtlmgipjalcnfaaaKEHLPx0
import Derived.Test.YtlmgipjalcnfaaaKEHLPx4
import Derived.Test.YtlmgipjalcnfaaaKEHLPx5
namespace Go.Proofs.Ytlmgipjalcnfaaa.P
open Go.RowKit Go.Proofs.YtlmgipjalcnfaaaW.PrintWords Go.Proofs.YtlmgipjalcnfaaaW.PrintLast Go.Proofs.YtlmgipjalcnfaaaW.PrintMore
attribute [local go_sem] max2_int min2_int max_two min_two max_three min_three max_four min_four   -- for this text's walks alone
set_option linter.unusedVariables false
set_option linter.unusedSimpArgs false
/-! ### impl_TradeDo: function 28 -/
def impl_TradeDo.f (k : Nat) (l0 : List Int) (l1_0 : List Int) (l1_1 : List Int) : Option (List Int × Bool) := (impl_HeapsValid.f k l0).bind fun t410 => (if t410 = true then ((impl_TradeValid.f k l1_0 l1_1).bind fun t411 => (if t411 = true then ((impl_traded.f k l0 l1_0 l1_1).bind fun bt412 => (some (bt412.1, bt412.2))) else (some (([] : List Int), false)))) else (some (([] : List Int), false)))
end Go.Proofs.Ytlmgipjalcnfaaa.P
