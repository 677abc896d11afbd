/- Proved: TradesRun tells what the reference tells; in two halves, one after the other, a row leads to the same heaps, which are valid; and it is no longer than LongestTrades, if this is a number. Conditions: none but Go's own limits on the size of the argument. -/
import Derived.Test.YtlmgipjalcnfaaaKTRD2
import Derived.Test.YtlmgipjalcnfaaaKTRPx15
namespace Go.Proofs.Ytlmgipjalcnfaaa.Pure
open Go.RowKit Go.Proofs.Ytlmgipjalcnfaaa.P Go.Proofs.YtlmgipjalcnfaaaW.PrintWords Go.Proofs.YtlmgipjalcnfaaaW.PrintLast Go.Proofs.Ytlmgipjalcnfaaa.A
set_option linter.unusedVariables false
set_option linter.unusedSimpArgs false
theorem FnTradesRun : laws_FnTradesRun.Pure := by
  intro l0 _ _ hw
  refine Ev.rounds ?_
  by_cases hlen : (l0.length : Int) > 1048576
  · exact Ev.congr (f := fun _ => some true) (fun k => by unfold laws_FnTradesRun.f; rw [if_pos hlen]) (Ev.now _)
  obtain ⟨h, ts, l, e0, hh, hd, hl⟩ := drawRun hw
  have hsm := hd.1.small (by have := hd.2.2; omega)
  refine Ev.congr (f := fun k => (spec_DrawTradesRun.f k l0).bind fun bt492 => ((impl_TradesRun.f k bt492.1 bt492.2.1 bt492.2.2).bind fun bt501 => ((spec_TradesRun.f k bt492.1 bt492.2.1 bt492.2.2).bind fun bt505 => ((laws_sameInts.f k bt501.1 bt505.1).bind fun t509 => (if t509 = true then (laws_FnTradesRun.j0 k bt492.1 bt492.2.1 bt492.2.2 bt501.1 bt501.2 (bt501.2 != bt505.2)) else (laws_FnTradesRun.j0 k bt492.1 bt492.2.1 bt492.2.2 bt501.1 bt501.2 true)))))) (fun k => by unfold laws_FnTradesRun.f; rw [if_neg hlen]) ?_
  refine Ev.bind e0 ?_
  refine Ev.bind (tradesRun h ts l (by omega) hsm) ?_
  refine Ev.bind (sTradesRun h ts l (by omega) hsm) ?_
  by_cases hr : okL 40 h = true ∧ okTs ts = true ∧ l.length ≤ 99
  case neg =>
    have e : rowT h ts l = ([], false) := by unfold rowT; rw [if_neg hr]
    rw [e]
    refine Ev.bind (sameInts [] [] (by simp)) ?_
    simp only [decide_true, if_true, bne_self_eq_false]
    refine Ev.step (f := fun k => (laws_alive.f k).bind fun t510 => (some t510)) (fun k => by simp only [laws_FnTradesRun.j0, Bool.false_eq_true, if_false, List.length_nil, Int.natCast_zero, if_true]) (Ev.bind alive (Ev.now _))
  obtain ⟨h1, h2⟩ := okTs_mem hr.2.1
  cases hx : runs ts h l with
  | none =>
    have e : rowT h ts l = ([], false) := by unfold rowT; rw [if_pos hr, hx]; rfl
    rw [e]
    refine Ev.bind (sameInts [] [] (by simp)) ?_
    simp only [decide_true, if_true, bne_self_eq_false]
    refine Ev.step (f := fun k => (laws_alive.f k).bind fun t510 => (some t510)) (fun k => by simp only [laws_FnTradesRun.j0, Bool.false_eq_true, if_false, List.length_nil, Int.natCast_zero, if_true]) (Ev.bind alive (Ev.now _))
  | some x =>
    have e : rowT h ts l = (x, true) := by unfold rowT; rw [if_pos hr, hx]; rfl
    have hxo := runs_ok h1 l h x hr.1 hx
    have hx3 := okL_len hxo
    rw [e]
    refine Ev.bind (sameInts x x (by omega)) ?_
    simp only [decide_true, if_true, bne_self_eq_false]
    have ewr : wrap64 ((l.length : Int) / 2) = ((l.length / 2 : Nat) : Int) := by rw [wrap_ok (by omega)]; omega
    have hsplit : l = l.take (l.length / 2) ++ l.drop (l.length / 2) := (List.take_append_drop _ _).symm
    obtain ⟨a, ha, hb⟩ := runs_append (ts := ts) (l.take (l.length / 2)) (l.drop (l.length / 2)) h x (by rw [← hsplit]; exact hx)
    have hao := runs_ok h1 _ h a hr.1 ha
    have ea : rowT h ts (l.take (l.length / 2)) = (a, true) := by unfold rowT; rw [if_pos ⟨hr.1, hr.2.1, by rw [List.length_take]; omega⟩, ha]; rfl
    have eb : rowT a ts (l.drop (l.length / 2)) = (x, true) := by unfold rowT; rw [if_pos ⟨hao, hr.2.1, by rw [List.length_drop]; omega⟩, hb]; rfl
    refine Ev.step (f := fun k => (impl_TradesRun.f k h ts (l.take (l.length / 2))).bind fun bt516 => ((impl_TradesRun.f k bt516.1 ts (l.drop (l.length / 2))).bind fun bt525 => ((impl_LongestTrades.f k h ts).bind fun t529 => ((impl_HeapsValid.f k x).bind fun t530 => (if t530 = true then ((laws_sameInts.f k bt525.1 x).bind fun t531 => (if t531 = true then (if t529 < 0 then (some true) else (some (decide ((l.length : Int) ≤ t529)))) else (some false))) else (some false))))))
      (fun k => by simp only [laws_FnTradesRun.j0, Bool.false_eq_true, if_false, if_true]; rw [ewr, if_pos (by omega), if_pos (by omega)]; rfl) ?_
    refine Ev.bind (by have := tradesRun h ts (l.take (l.length / 2)) (by omega) hsm; rw [ea] at this; exact this) ?_
    refine Ev.bind (by have := tradesRun a ts (l.drop (l.length / 2)) (by rw [okL_len hao]; decide) hsm; rw [eb] at this; exact this) ?_
    refine Ev.bind (longestTrades h ts (by omega) hsm) ?_
    refine Ev.bind (heapsValid x (by omega)) ?_
    rw [hxo]; simp only [if_true]
    refine Ev.bind (sameInts x x (by omega)) ?_
    simp only [decide_true, if_true]
    by_cases c : longT h ts < 0
    · simp only [c, if_true]; exact Ev.now _
    · simp only [c, if_false]
      have el : longT h ts = G.longest (scs ts) h := by unfold longT; rw [if_pos ⟨hr.1, hr.2.1⟩]
      have := G.longest_walk (sc := scs ts) (h := h) (by omega) (runs_walk l h x hx)
      rw [decide_eq_true (by omega : (l.length : Int) ≤ longT h ts)]
      exact Ev.now _
end Go.Proofs.Ytlmgipjalcnfaaa.Pure
