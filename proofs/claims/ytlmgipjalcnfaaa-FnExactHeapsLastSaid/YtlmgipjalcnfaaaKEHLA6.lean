import Derived.Test.YtlmgipjalcnfaaaKEHLA5
import Derived.Test.YtlmgipjalcnfaaaKEHLPx14
namespace Go.Proofs.Ytlmgipjalcnfaaa.A
open Go.RowKit Go.Proofs.Ytlmgipjalcnfaaa.P Go.Proofs.YtlmgipjalcnfaaaW.PrintWords Go.Proofs.YtlmgipjalcnfaaaW.PrintLast
set_option linter.unusedVariables false
set_option linter.unusedSimpArgs false
/-! ### 9. The longest row, impl's way: a table from heaps to numbers -/
theorem reached_ok {h : List Int} {ts : List S45} (ch : okL 40 h = true) (hts : ∀ t ∈ ts, okT t = true) : ∀ y ∈ G.reached (scs ts) h, okL 40 y = true := by
  intro y hy
  rcases G.reached_is (sc := scs ts) h with e | ⟨hb, _, _⟩
  · rw [e] at hy; simp at hy
  · have hr := hb.reach y hy
    clear hy
    induction hr with
    | self => exact ch
    | step _ hy ih => exact scs_ok hts ih _ hy
end Go.Proofs.Ytlmgipjalcnfaaa.A
