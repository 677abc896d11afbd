import Derived.Test.YtlmgipjalcnfaaaKEHLA4
import Derived.Test.YtlmgipjalcnfaaaKEHLPx11
namespace Go.Proofs.Ytlmgipjalcnfaaa.A
open Go.RowKit Go.Proofs.Ytlmgipjalcnfaaa.P Go.Proofs.YtlmgipjalcnfaaaW.PrintWords Go.Proofs.YtlmgipjalcnfaaaW.PrintLast
set_option linter.unusedVariables false
set_option linter.unusedSimpArgs false
/-! ### 8. The laws' own words -/
end Go.Proofs.Ytlmgipjalcnfaaa.A
