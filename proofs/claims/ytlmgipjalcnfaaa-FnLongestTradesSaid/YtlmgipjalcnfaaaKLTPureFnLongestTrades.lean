/- Proved: LongestTrades tells what the reference tells; if it is a number, it is one more than the greatest one behind any rule that can be done, all of which are numbers, and 0 if none can be done; otherwise it is -1. Conditions: none but Go's own limits on the size of the argument. -/
import Derived.Test.YtlmgipjalcnfaaaKLTA9
import Derived.Test.YtlmgipjalcnfaaaKLTD1
import Derived.Test.YtlmgipjalcnfaaaKLTPx18
namespace Go.Proofs.Ytlmgipjalcnfaaa.Pure
open Go.RowKit Go.Proofs.Ytlmgipjalcnfaaa.P Go.Proofs.YtlmgipjalcnfaaaW.PrintWords Go.Proofs.YtlmgipjalcnfaaaW.PrintLast Go.Proofs.Ytlmgipjalcnfaaa.A
set_option linter.unusedVariables false
set_option linter.unusedSimpArgs false
theorem long_loop {h : List Int} {ts : List S45} (ch : okL 40 h = true) (cv : okTs ts = true) (hs : smallT ts) (h0 : 0 ≤ longT h ts) (hsmall : longT h ts ≤ 1000) : ∀ (suf pre : List S45) (n : Int), pre ++ suf = ts → G.best (fun x => longT x ts) n (scs suf h) = longT h ts → 0 ≤ n → n ≤ longT h ts →
    Ev (fun k => laws_FnLongestTrades.l0 k h ts (longT h ts) n (pre.length : Int)) true := by
  obtain ⟨hts, hl⟩ := okTs_mem cv
  have el : longT h ts = G.longest (scs ts) h := by unfold longT; rw [if_pos ⟨ch, cv⟩]
  have hnx := G.longest_next (sc := scs ts) (h := h) (by omega)
  intro suf
  induction suf with
  | nil =>
    intro pre n hp hb _ _
    have hb : n = longT h ts := hb
    refine Ev.step (f := fun _ => some true) (fun k => ?_) (Ev.now _)
    simp only [laws_FnLongestTrades.l0]
    rw [if_neg (by rw [← hp]; simp), hb, beq_self_eq_true]
  | cons t suf ih =>
    intro pre n hp hb hn0 hn1
    have htm : t ∈ ts := by rw [← hp]; simp
    have ht := hts t htm
    have g1 : (pre.length : Int) < (ts.length : Int) := by rw [← hp]; exact lt_mid pre suf t
    have et : rd_T45 ts (pre.length : Int) = t := by rw [← hp]; exact rdT_mid pre suf t
    have ew : wrap64 ((pre.length : Int) + 1) = ((pre ++ [t]).length : Int) := by
      rw [← hp] at hl; exact wrap_mid pre suf t (by omega)
    refine Ev.step (f := fun k => (impl_TradeDo.f k h t.f0 t.f1).bind fun bt574 => (if bt574.2 = true then ((impl_LongestTrades.f k bt574.1 ts).bind fun t578 => (if t578 < 0 then (some false) else (laws_FnLongestTrades.l0 k h ts (longT h ts) (mx n (wrap64 (t578 + 1))) ((pre ++ [t]).length : Int)))) else (laws_FnLongestTrades.l0 k h ts (longT h ts) n ((pre ++ [t]).length : Int)))) (fun k => by simp only [laws_FnLongestTrades.l0]; rw [if_pos g1, if_pos (by omega), et, ew]) ?_
    cases hst : stp h t with
    | none =>
      refine Ev.bind (tradeDo_none ch ht hst) ?_
      simp only [Bool.false_eq_true, if_false]
      exact ih (pre ++ [t]) n (by simpa using hp) (by rw [← hb]; simp [scs, hst]) hn0 hn1
    | some y =>
      have hy := stp_ok ch ht hst
      have hys : y ∈ scs ts h := List.mem_filterMap.2 ⟨t, htm, hst⟩
      have ely : longT y ts = G.longest (scs ts) y := by unfold longT; rw [if_pos ⟨hy, cv⟩]
      have hy0 := hnx.1 y hys
      have hy1 := G.best_mem (G.longest (scs ts)) (scs ts h) 0 y hys
      rw [hnx.2] at hy1
      refine Ev.bind (tradeDo_some ch ht hst) ?_
      simp only [if_true]
      refine Ev.bind (longestTrades y ts (by rw [okL_len hy]; decide) hs) ?_
      simp only [show ¬ longT y ts < 0 by omega, if_false]
      rw [wrap_ok (n := longT y ts + 1) (by omega), mx_is]
      exact ih (pre ++ [t]) (max n (longT y ts + 1)) (by simpa using hp) (by rw [← hb]; simp [scs, hst, G.best]) (by omega) (by omega)
theorem long_small {h : List Int} {ts : List S45} : longT h ts ≤ 1000 := by
  unfold longT
  split
  · rename_i hr
    by_cases h0 : 0 ≤ G.longest (scs ts) h
    · obtain ⟨n, hn, hf, hne⟩ := G.longest_fin h0
      rcases G.reached_is (sc := scs ts) h with e | ⟨hb, hc, hl⟩
      · exact absurd e hne
      · obtain ⟨e1, h1⟩ := hb.first
        have := G.fin_lt hc (by rw [h1]; simp) hf
        omega
    · omega
  · omega
theorem FnLongestTrades : laws_FnLongestTrades.Pure := by
  intro l0 _ _ hw
  refine Ev.rounds ?_
  by_cases hlen : (l0.length : Int) > 1048576
  · exact Ev.congr (f := fun _ => some true) (fun k => by unfold laws_FnLongestTrades.f; rw [if_pos hlen]) (Ev.now _)
  obtain ⟨h, ts, e0, hh, hd⟩ := drawMay hw
  have hsm := hd.1.small (by have := hd.2.2; omega)
  refine Ev.congr (f := fun k => (spec_DrawLongestTrades.f k l0).bind fun bt564 => ((impl_LongestTrades.f k bt564.1 bt564.2).bind fun t570 => ((spec_LongestTrades.f k bt564.1 bt564.2).bind fun t571 => (if t570 = t571 then (if t570 < 0 then (if t570 = (-1) then ((laws_alive.f k).bind fun t572 => (some t572)) else (some false)) else (laws_FnLongestTrades.l0 k bt564.1 bt564.2 t570 0 0)) else (some false))))) (fun k => by unfold laws_FnLongestTrades.f; rw [if_neg hlen]) ?_
  refine Ev.bind (a := (h, ts)) (Ev.bind e0 (Ev.now _)) ?_
  refine Ev.bind (longestTrades h ts (by omega) hsm) ?_
  refine Ev.bind (sLongestTrades h ts (by omega) hsm) ?_
  simp only [if_true]
  by_cases c : longT h ts < 0
  · have e : longT h ts = -1 := by
      unfold longT at c ⊢
      split at c
      · rename_i hr
        rw [if_pos hr]
        rcases G.longest_is (sc := scs ts) h with ⟨_, e⟩ | ⟨_, ⟨n, e, _⟩ | ⟨e, _⟩⟩
        · exact e
        · omega
        · exact e
      · rename_i hr; rw [if_neg hr]
    rw [e]
    simp only [show (-1 : Int) < 0 by omega, if_true]
    exact Ev.bind alive (Ev.now _)
  · simp only [c, if_false]
    have hr : okL 40 h = true ∧ okTs ts = true := by
      unfold longT at c
      split at c
      · assumption
      · omega
    have el : longT h ts = G.longest (scs ts) h := by unfold longT; rw [if_pos hr]
    have hnx := G.longest_next (sc := scs ts) (h := h) (by omega)
    refine long_loop hr.1 hr.2 hsm (by omega) long_small ts [] 0 rfl ?_ (by omega) (by omega)
    rw [el, ← hnx.2]
    have : ∀ y ∈ scs ts h, longT y ts = G.longest (scs ts) y := fun y hy => by
      unfold longT; rw [if_pos ⟨scs_ok (okTs_mem hr.2).1 hr.1 y hy, hr.2⟩]
    have gen : ∀ (ys : List (List Int)) (a : Int), (∀ y ∈ ys, longT y ts = G.longest (scs ts) y) → G.best (fun x => longT x ts) a ys = G.best (G.longest (scs ts)) a ys := by
      intro ys
      induction ys with
      | nil => intro a _; rfl
      | cons y ys ih =>
        intro a hy
        simp only [G.best, List.foldl_cons] at ih ⊢
        rw [hy y (by simp)]
        exact ih _ (fun z hz => hy z (by simp [hz]))
    exact gen _ _ this
end Go.Proofs.Ytlmgipjalcnfaaa.Pure
