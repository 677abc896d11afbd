-- Written by a program (wip/tools/prx.py over the guide's printer). Not trusted: Lean checks it.
import Derived.Test.YtlmgipjalcnfaaaKEHLWInv
import Derived.Test.YtlmgipjalcnfaaaKEHLWFootNe
namespace Go.Proofs.YtlmgipjalcnfaaaW.PrintWords
open Go.RowKit
end Go.Proofs.YtlmgipjalcnfaaaW.PrintWords
namespace Go.Proofs.YtlmgipjalcnfaaaW.PrintLast
section
variable {ops : Array Oper} {a : Act} {o og : Oper} {g : Nat} {t : Tmp} {u : Bool}
end
end Go.Proofs.YtlmgipjalcnfaaaW.PrintLast
