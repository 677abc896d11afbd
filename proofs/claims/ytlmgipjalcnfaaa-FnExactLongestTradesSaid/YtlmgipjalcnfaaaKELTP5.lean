import Derived.Test.YtlmgipjalcnfaaaKELTE1
import Derived.Test.YtlmgipjalcnfaaaKELTA9
import Derived.Test.YtlmgipjalcnfaaaKELTPx19
namespace Go.Proofs.Ytlmgipjalcnfaaa.Pure
open Go.RowKit Go.Proofs.Ytlmgipjalcnfaaa.P Go.Proofs.YtlmgipjalcnfaaaW.PrintWords Go.Proofs.YtlmgipjalcnfaaaW.PrintLast Go.Proofs.Ytlmgipjalcnfaaa.A
set_option linter.unusedVariables false
theorem exactLongestTrades (l0 : List Int) (l1 : List S62) (hl0 : l0.length ≤ 9223372036854775807) (hl1 : l1.length ≤ 9223372036854775807) (hs1 : ∀ t ∈ l1, t.f0.length ≤ 9223372036854775807 ∧ t.f1.length ≤ 9223372036854775807) :
    ∃ k, laws_FnExactLongestTrades.f k l0 l1 = some true := by
  refine Ev.rounds ?_
  by_cases hlen : (l0.length : Int) > 1048576
  · exact Ev.congr (f := fun _ => some true) (fun k => by unfold laws_FnExactLongestTrades.f; rw [if_pos hlen]) (Ev.now _)
  obtain ⟨z, hz, hz2⟩ := szTradeS l1 hl1 hs1
  refine Ev.congr (f := fun k => (laws_szTradeS.f k l1 1048576).bind fun t619 => (if t619 < 0 then (some true) else ((laws_toIntS.f k l0).bind fun t620 => ((laws_toTradeS.f k l1).bind fun t623 => ((spec_LongestTrades.f k t620 t623).bind fun t626 => ((laws_toIntS.f k l0).bind fun t627 => ((laws_toTradeS.f k l1).bind fun t630 => ((impl_LongestTrades.f k t627 t630).bind fun t633 => (if t633 = t626 then ((laws_toIntS.f k l0).bind fun t634 => ((laws_eqIntS.f k t627 t634).bind fun t637 => (if t637 = true then ((laws_toTradeS.f k l1).bind fun t638 => ((laws_eqTradeS.f k t630 t638).bind fun t641 => (if t641 = true then (some true) else (some false)))) else (some false)))) else (some false)))))))))) (fun k => by unfold laws_FnExactLongestTrades.f; rw [if_neg hlen]) ?_
  refine Ev.bind hz ?_
  by_cases hz0 : z < 0
  · simp only [hz0, if_true]; exact Ev.now _
  simp only [hz0, if_false]
  obtain ⟨hn1, ht1⟩ := hz2 (by omega)
  have hsh : ∀ t ∈ l1, t.f0.length ≤ 35184372088832 ∧ t.f1.length ≤ 35184372088832 := fun t ht => by
    have := totT_mem (List.mem_map_of_mem (f := conv) ht)
    simp only [conv] at this; omega
  have hT : (l1.map conv).length = l1.length := by simp
  have hsm : smallT (l1.map conv) := ⟨by omega, fun t ht => by have := totT_mem ht; omega⟩
  have hti := toIntS l0 (by omega)
  have htt := toTradeS l1 (by omega) hsh
  refine Ev.bind hti (Ev.bind htt (Ev.bind (sLongestTrades l0 (l1.map conv) hl0 hsm) (Ev.bind hti (Ev.bind htt (Ev.bind (longestTrades l0 (l1.map conv) hl0 hsm) ?_)))))
  simp only [if_true]
  refine Ev.bind hti (Ev.bind (eqIntS l0 (by omega)) ?_)
  simp only [if_true]
  refine Ev.bind htt (Ev.bind (eqTradeS (l1.map conv) (by omega) (by omega)) ?_)
  simp only [if_true]
  exact Ev.now _
end Go.Proofs.Ytlmgipjalcnfaaa.Pure
