-- Written by a program (wip/tools/prx.py over the guide's printer). Not trusted: Lean checks it.
import Derived.Test.YtlmgipjalcnfaaaKEHRPx0
import Derived.Test.YtlmgipjalcnfaaaKEHRPx4
import Derived.Test.YtlmgipjalcnfaaaKEHRPx5
namespace Go.Proofs.Ytlmgipjalcnfaaa.P
open Go.RowKit Go.Proofs.YtlmgipjalcnfaaaW.PrintWords Go.Proofs.YtlmgipjalcnfaaaW.PrintLast Go.Proofs.YtlmgipjalcnfaaaW.PrintMore
attribute [local go_sem] max2_int min2_int max_two min_two max_three min_three max_four min_four   -- for this text's walks alone
set_option linter.unusedVariables false
set_option linter.unusedSimpArgs false
/-! ### impl_TradeDo: function 28 -/
end Go.Proofs.Ytlmgipjalcnfaaa.P
