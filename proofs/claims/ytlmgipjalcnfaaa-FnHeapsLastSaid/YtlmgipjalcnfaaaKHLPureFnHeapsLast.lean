/- Proved: what HeapsLast tells is what the reference tells; each of them is among what is reached, and no rule can be done there; and if LongestTrades is a number there is at least one. Conditions: none but Go's own limits on the size of the argument. -/
import Derived.Test.YtlmgipjalcnfaaaKHLA7
import Derived.Test.YtlmgipjalcnfaaaKHLD1
import Derived.Test.YtlmgipjalcnfaaaKHLPx19
namespace Go.Proofs.Ytlmgipjalcnfaaa.Pure
open Go.RowKit Go.Proofs.Ytlmgipjalcnfaaa.P Go.Proofs.YtlmgipjalcnfaaaW.PrintWords Go.Proofs.YtlmgipjalcnfaaaW.PrintLast Go.Proofs.Ytlmgipjalcnfaaa.A
set_option linter.unusedVariables false
set_option linter.unusedSimpArgs false
theorem lasts_mem {h : List Int} {ts : List S45} {x : List Int} (hx : x ∈ lasts h ts) : x ∈ reach h ts ∧ may x ts = [] := by
  unfold lasts at hx
  rw [List.mem_filter] at hx
  exact ⟨hx.1, by simpa using hx.2⟩
theorem lasts_ne {h : List Int} {ts : List S45} (h0 : 0 ≤ longT h ts) : lasts h ts ≠ [] := by
  unfold longT at h0
  split at h0
  · rename_i hr
    obtain ⟨x, hx, he⟩ := G.longest_end h0
    have hm : x ∈ lasts h ts := by
      unfold lasts
      rw [List.mem_filter]
      refine ⟨by unfold reach; rw [if_pos hr]; exact hx, ?_⟩
      rw [decide_eq_true_eq]
      unfold may
      split
      · exact (mayFrom_nil x ts 0).2 he
      · rfl
    intro e
    rw [e] at hm
    simp at hm
  · omega
theorem last_true {h : List Int} {ts : List S45} (hh : h.length ≤ 3) (hs : smallT ts) {R L : List (List Int)} (hR : R.length ≤ 400) (hok : ∀ y ∈ R, okL 40 y = true) (hL : ∀ y ∈ L, y ∈ R ∧ may y ts = []) (hl : L.length ≤ 400) (hne : 0 ≤ longT h ts → L ≠ []) : ∀ (suf pre : List (List Int)), pre ++ suf = L →
    Ev (fun k => laws_FnHeapsLast.l0 k h ts L R (pre.length : Int)) true := by
  intro suf
  induction suf with
  | nil =>
    intro pre hp
    refine Ev.step (f := fun k => (impl_LongestTrades.f k h ts).bind fun t650 => (if t650 < 0 then ((laws_alive.f k).bind fun t651 => (some t651)) else (if (L.length : Int) > 0 then ((laws_alive.f k).bind fun t652 => (some t652)) else (some false)))) (fun k => by simp only [laws_FnHeapsLast.l0]; rw [if_neg (by rw [← hp]; simp)]) ?_
    refine Ev.bind (longestTrades h ts (by omega) hs) ?_
    by_cases c : longT h ts < 0
    · simp only [c, if_true]
      exact Ev.bind alive (Ev.now _)
    · have hpos : (L.length : Int) > 0 := by
        have := List.length_pos_iff.2 (hne (by omega))
        omega
      simp only [c, if_false, hpos, if_true]
      exact Ev.bind alive (Ev.now _)
  | cons x suf ih =>
    intro pre hp
    have hx := hL x (by rw [← hp]; simp)
    have g1 : (pre.length : Int) < (L.length : Int) := by rw [← hp]; exact lt_mid pre suf x
    have ex : rd_L1 L (pre.length : Int) = x := by rw [← hp]; exact rdL_mid pre suf x
    have ew : wrap64 ((pre.length : Int) + 1) = ((pre ++ [x]).length : Int) := by
      rw [← hp] at hl; exact wrap_mid pre suf x (by omega)
    refine Ev.step (f := fun k => (laws_hasList.f k R x).bind fun t654 => (if t654 = true then ((impl_TradesMay.f k x ts).bind fun t656 => (if (t656.length : Int) = 0 then (laws_FnHeapsLast.l0 k h ts L R ((pre ++ [x]).length : Int)) else (some false))) else (some false))) (fun k => by simp only [laws_FnHeapsLast.l0]; rw [if_pos g1, if_pos (by omega), ex, ew]) ?_
    refine Ev.bind (hasList R x (by omega) (fun y hy => by rw [okL_len (hok y hy)]; decide)) ?_
    simp only [hx.1, decide_true, if_true]
    refine Ev.bind (tradesMay x ts (by rw [okL_len (hok x hx.1)]; decide) hs) ?_
    simp only [len_zero.2 hx.2, if_true]
    exact ih (pre ++ [x]) (by simpa using hp)
theorem FnHeapsLast : laws_FnHeapsLast.Pure := by
  intro l0 _ _ hw
  refine Ev.rounds ?_
  by_cases hlen : (l0.length : Int) > 1048576
  · exact Ev.congr (f := fun _ => some true) (fun k => by unfold laws_FnHeapsLast.f; rw [if_pos hlen]) (Ev.now _)
  obtain ⟨h, ts, e0, hh, hd⟩ := drawMay hw
  have hsm := hd.1.small (by have := hd.2.2; omega)
  refine Ev.congr (f := fun k => (spec_DrawHeapsLast.f k l0).bind fun bt634 => ((impl_HeapsLast.f k bt634.1 bt634.2).bind fun t640 => ((spec_HeapsLast.f k bt634.1 bt634.2).bind fun t643 => ((laws_sameLists.f k t640 t643).bind fun t646 => (if t646 = true then ((impl_HeapsReached.f k bt634.1 bt634.2).bind fun t647 => (laws_FnHeapsLast.l0 k bt634.1 bt634.2 t640 t647 0)) else (some false)))))) (fun k => by unfold laws_FnHeapsLast.f; rw [if_neg hlen]) ?_
  refine Ev.bind (a := (h, ts)) (Ev.bind e0 (Ev.now _)) ?_
  refine Ev.bind (heapsLast h ts (by omega) hsm) ?_
  refine Ev.bind (sHeapsLast h ts (by omega) hsm) ?_
  have hR := reach_ok (h := h) (ts := ts)
  have hll : (lasts h ts).length ≤ 400 := Nat.le_trans (List.length_filter_le _ _) hR.2
  refine Ev.bind (sameLists _ _ (by omega) (fun y hy => by rw [okL_len (hR.1 y (lasts_mem hy).1)]; decide)) ?_
  simp only [decide_true, if_true]
  refine Ev.bind (heapsReached h ts (by omega) hsm) ?_
  exact last_true hh hsm hR.2 hR.1 (fun y hy => lasts_mem hy) hll (fun h0 => lasts_ne h0) _ [] rfl
end Go.Proofs.Ytlmgipjalcnfaaa.Pure
