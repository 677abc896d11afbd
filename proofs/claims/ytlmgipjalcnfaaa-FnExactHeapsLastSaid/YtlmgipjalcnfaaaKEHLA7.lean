import Derived.Test.YtlmgipjalcnfaaaKEHLA6
import Derived.Test.YtlmgipjalcnfaaaKEHLPx14
import Derived.Test.YtlmgipjalcnfaaaKEHLPx19
import Derived.Test.YtlmgipjalcnfaaaKEHLPx20
namespace Go.Proofs.Ytlmgipjalcnfaaa.A
open Go.RowKit Go.Proofs.Ytlmgipjalcnfaaa.P Go.Proofs.YtlmgipjalcnfaaaW.PrintWords Go.Proofs.YtlmgipjalcnfaaaW.PrintLast
set_option linter.unusedVariables false
set_option linter.unusedSimpArgs false
/-! ### 10. Which rules can be done; the ends -/
def mayFrom (h : List Int) : Int → List S45 → List Int
  | _, [] => []
  | i, t :: ts => if (stp h t).isSome then i :: mayFrom h (i + 1) ts else mayFrom h (i + 1) ts
def may (h : List Int) (ts : List S45) : List Int := if okL 40 h = true ∧ okTs ts = true then mayFrom h 0 ts else []
/-- the reference's TradeDo, whatever it gets -/
theorem sTradeDo_no {h a b : List Int} (hh : h.length ≤ 9223372036854775807) (ha : a.length ≤ 9223372036854775807) (hb : b.length ≤ 9223372036854775807) (hn : ¬ (okL 40 h = true ∧ okL 5 a = true ∧ okL 5 b = true)) : Ev (fun k => spec_TradeDo.f k h a b) ([], false) := by
  refine Ev.bind (sHeapsValid h hh) ?_
  cases ch : okL 40 h with
  | false =>
    simp only [Bool.false_eq_true, if_false]
    exact Ev.step (f := fun _ => some ([], false)) (fun k => by simp only [spec_TradeDo.j0, if_true]) (Ev.now _)
  | true =>
    simp only [if_true]
    refine Ev.bind (sTradeValid a b ha hb) ?_
    have : (okL 5 a && okL 5 b) = false := by
      rw [Bool.eq_false_iff]; intro h'; rw [Bool.and_eq_true] at h'; exact hn ⟨ch, h'.1, h'.2⟩
    rw [this]
    exact Ev.step (f := fun _ => some ([], false)) (fun k => by simp only [spec_TradeDo.j0, Bool.not_false, if_true]) (Ev.now _)
theorem sMay_l0 {h : List Int} (hh : h.length ≤ 9223372036854775807) {ts : List S45} (hs : smallT ts) (hv : okTs ts = true) : ∀ (suf pre : List S45) (x5 : List Int), pre ++ suf = ts → x5.length ≤ pre.length →
    Ev (fun k => spec_TradesMay.l0 k h ts x5 (pre.length : Int)) (x5 ++ (if okL 40 h = true then mayFrom h (pre.length : Int) suf else [])) := by
  obtain ⟨hts, hl⟩ := okTs_mem hv
  intro suf
  induction suf with
  | nil =>
    intro pre x5 hp h5
    have e : x5 ++ (if okL 40 h = true then mayFrom h (pre.length : Int) [] else []) = x5 := by simp [mayFrom]
    rw [e]
    refine Ev.step (f := fun k => spec_TradesMay.j1 k h ts x5 (pre.length : Int) false) (fun k => by simp only [spec_TradesMay.l0]; rw [if_neg (by rw [← hp]; simp)]) ?_
    exact Ev.step (f := fun _ => some x5) (fun k => by simp only [spec_TradesMay.j1, Bool.false_eq_true, if_false]) (Ev.now _)
  | cons t suf ih =>
    intro pre x5 hp h5
    have ht := hts t (by rw [← hp]; simp)
    have g1 : (pre.length : Int) < (ts.length : Int) := by rw [← hp]; exact lt_mid pre suf t
    have et : rd_T45 ts (pre.length : Int) = t := by rw [← hp]; exact rdT_mid pre suf t
    have ew : wrap64 ((pre.length : Int) + 1) = ((pre ++ [t]).length : Int) := by
      rw [← hp] at hl; exact wrap_mid pre suf t (by omega)
    have e2 : ((pre ++ [t]).length : Int) = (pre.length : Int) + 1 := by simp
    refine Ev.step (f := fun k => (spec_TradesValid.f k ts).bind fun t409 => (spec_TradesMay.j1 k h ts x5 (pre.length : Int) t409)) (fun k => by simp only [spec_TradesMay.l0]; rw [if_pos g1]) ?_
    refine Ev.bind (sTradesValid ts hs) ?_
    rw [hv]
    refine Ev.step (f := fun k => (spec_TradeDo.f k h t.f0 t.f1).bind fun bt411 => (if bt411.2 = true then (if x5.length < 17592186044416 then (spec_TradesMay.l0 k h ts (x5 ++ [(pre.length : Int)]) ((pre ++ [t]).length : Int)) else (none)) else (spec_TradesMay.l0 k h ts x5 ((pre ++ [t]).length : Int)))) (fun k => by simp only [spec_TradesMay.j1, if_true]; rw [if_pos (by omega), if_pos g1, et, ew]) ?_
    have hl5 : x5.length < 17592186044416 := by rw [← hp] at hl; simp at hl; omega
    by_cases ch : okL 40 h = true
    · cases hst : stp h t with
      | none =>
        refine Ev.bind (sTradeDo_none ch ht hst) ?_
        simp only [Bool.false_eq_true, if_false]
        have := ih (pre ++ [t]) x5 (by simpa using hp) (by simp; omega)
        rw [if_pos ch] at this ⊢
        rw [e2] at this ⊢
        rw [show mayFrom h (pre.length : Int) (t :: suf) = mayFrom h ((pre.length : Int) + 1) suf by simp [mayFrom, hst]]
        exact this
      | some y =>
        refine Ev.bind (sTradeDo_some ch ht hst) ?_
        simp only [if_true, hl5]
        have := ih (pre ++ [t]) (x5 ++ [(pre.length : Int)]) (by simpa using hp) (by simp; omega)
        rw [if_pos ch] at this ⊢
        rw [e2] at this ⊢
        rw [show mayFrom h (pre.length : Int) (t :: suf) = (pre.length : Int) :: mayFrom h ((pre.length : Int) + 1) suf by simp [mayFrom, hst]]
        simpa using this
    · have hsm := hs.2 t (by rw [← hp]; simp)
      refine Ev.bind (sTradeDo_no hh hsm.1 hsm.2 (fun h' => ch h'.1)) ?_
      simp only [Bool.false_eq_true, if_false]
      have := ih (pre ++ [t]) x5 (by simpa using hp) (by simp; omega)
      rw [if_neg ch] at this ⊢
      exact this
theorem sTradesMay (h : List Int) (ts : List S45) (hh : h.length ≤ 9223372036854775807) (hs : smallT ts) : Ev (fun k => spec_TradesMay.f k h ts) (may h ts) := by
  by_cases hv : okTs ts = true
  · have := sMay_l0 hh hs hv ts [] [] rfl (by simp)
    have e : may h ts = [] ++ (if okL 40 h = true then mayFrom h (([] : List S45).length : Int) ts else []) := by
      unfold may
      by_cases ch : okL 40 h = true
      · simp [ch, hv]
      · simp [ch]
    rw [e]; exact this
  · have e : may h ts = [] := by simp [may, hv]
    rw [e]
    have hv' : okTs ts = false := by simpa using hv
    have hj : Ev (fun k => spec_TradesMay.j1 k h ts [] 0 false) [] := Ev.step (f := fun _ => some []) (fun k => by simp only [spec_TradesMay.j1, Bool.false_eq_true, if_false]) (Ev.now _)
    show Ev (fun k => spec_TradesMay.l0 k h ts [] 0) []
    by_cases hl : (0 : Int) < (ts.length : Int)
    · refine Ev.step (f := fun k => (spec_TradesValid.f k ts).bind fun t409 => (spec_TradesMay.j1 k h ts [] 0 t409)) (fun k => by simp only [spec_TradesMay.l0]; rw [if_pos hl]) ?_
      refine Ev.bind (sTradesValid ts hs) ?_
      rw [hv']; exact hj
    · exact Ev.step (f := fun k => spec_TradesMay.j1 k h ts [] 0 false) (fun k => by simp only [spec_TradesMay.l0]; rw [if_neg hl]) hj
theorem may_l0 {h : List Int} (ch : okL 40 h = true) {ts : List S45} (hv : okTs ts = true) : ∀ (suf pre : List S45) (x5 : List Int), pre ++ suf = ts → x5.length ≤ pre.length →
    Ev (fun k => impl_TradesMay.l0 k h x5 ts (ts.length : Int) (pre.length : Int)) (x5 ++ mayFrom h (pre.length : Int) suf) := by
  obtain ⟨hts, hl⟩ := okTs_mem hv
  intro suf
  induction suf with
  | nil =>
    intro pre x5 hp h5
    rw [show x5 ++ mayFrom h (pre.length : Int) [] = x5 by simp [mayFrom]]
    exact Ev.step (f := fun _ => some x5) (fun k => by simp only [impl_TradesMay.l0]; rw [if_neg (by rw [← hp]; simp)]) (Ev.now _)
  | cons t suf ih =>
    intro pre x5 hp h5
    have ht := hts t (by rw [← hp]; simp)
    have g1 : (pre.length : Int) < (ts.length : Int) := by rw [← hp]; exact lt_mid pre suf t
    have et : rd_T45 ts (pre.length : Int) = t := by rw [← hp]; exact rdT_mid pre suf t
    have ew : wrap64 ((pre.length : Int) + 1) = ((pre ++ [t]).length : Int) := by
      rw [← hp] at hl; exact wrap_mid pre suf t (by omega)
    have e2 : ((pre ++ [t]).length : Int) = (pre.length : Int) + 1 := by simp
    have hl5 : x5.length < 17592186044416 := by rw [← hp] at hl; simp at hl; omega
    refine Ev.step (f := fun k => (impl_traded.f k h t.f0 t.f1).bind fun bt604 => (if bt604.2 = true then (if x5.length < 17592186044416 then (impl_TradesMay.l0 k h (x5 ++ [(pre.length : Int)]) ts (ts.length : Int) ((pre ++ [t]).length : Int)) else (none)) else (impl_TradesMay.l0 k h x5 ts (ts.length : Int) ((pre ++ [t]).length : Int)))) (fun k => by simp only [impl_TradesMay.l0]; rw [if_pos g1, if_pos (by omega), if_pos g1, et, ew]) ?_
    cases hst : stp h t with
    | none =>
      refine Ev.bind (traded_none ch ht hst) ?_
      simp only [Bool.false_eq_true, if_false]
      have := ih (pre ++ [t]) x5 (by simpa using hp) (by simp; omega)
      rw [e2] at this ⊢
      rw [show mayFrom h (pre.length : Int) (t :: suf) = mayFrom h ((pre.length : Int) + 1) suf by simp [mayFrom, hst]]
      exact this
    | some y =>
      refine Ev.bind (traded_some ch ht hst) ?_
      simp only [if_true, hl5]
      have := ih (pre ++ [t]) (x5 ++ [(pre.length : Int)]) (by simpa using hp) (by simp; omega)
      rw [e2] at this ⊢
      rw [show mayFrom h (pre.length : Int) (t :: suf) = (pre.length : Int) :: mayFrom h ((pre.length : Int) + 1) suf by simp [mayFrom, hst]]
      simpa using this
theorem tradesMay (h : List Int) (ts : List S45) (hh : h.length ≤ 9223372036854775807) (hs : smallT ts) : Ev (fun k => impl_TradesMay.f k h ts) (may h ts) := by
  refine Ev.bind (heapsValid h hh) ?_
  cases ch : okL 40 h with
  | false =>
    simp only [Bool.false_eq_true, if_false]
    exact Ev.step (f := fun _ => some []) (fun k => by simp only [impl_TradesMay.j0, if_true]) (by rw [show may h ts = [] by simp [may, ch]]; exact Ev.now _)
  | true =>
    simp only [if_true]
    refine Ev.bind (tradesValid ts hs) ?_
    cases cv : okTs ts with
    | false => exact Ev.step (f := fun _ => some []) (fun k => by simp only [impl_TradesMay.j0, Bool.not_false, if_true]) (by rw [show may h ts = [] by simp [may, cv]]; exact Ev.now _)
    | true =>
      have := may_l0 ch cv ts [] [] rfl (by simp)
      exact Ev.step (f := fun k => impl_TradesMay.l0 k h [] ts (ts.length : Int) 0) (fun k => by simp only [impl_TradesMay.j0, Bool.not_true, Bool.false_eq_true, if_false]) (by rw [show may h ts = [] ++ mayFrom h (([] : List S45).length : Int) ts by simp [may, ch, cv]]; exact this)
/-- the ends among what is reached -/
def lasts (h : List Int) (ts : List S45) : List (List Int) := (reach h ts).filter (fun x => decide (may x ts = []))
theorem reach_ok {h : List Int} {ts : List S45} : (∀ y ∈ reach h ts, okL 40 y = true) ∧ (reach h ts).length ≤ 400 := by
  unfold reach
  split
  · rename_i hr
    obtain ⟨h1, h2⟩ := okTs_mem hr.2
    refine ⟨reached_ok hr.1 h1, ?_⟩
    rcases G.reached_is (sc := scs ts) h with e | ⟨_, _, hl⟩
    · rw [e]; simp
    · exact hl
  · simp
theorem len_zero {l : List Int} : ((l.length : Int) = 0) ↔ l = [] := by
  constructor
  · intro h; exact List.eq_nil_of_length_eq_zero (by omega)
  · rintro rfl; rfl
theorem sLast_l0 {ts : List S45} (hs : smallT ts) {L : List (List Int)} (hok : ∀ y ∈ L, okL 40 y = true) (hL : L.length ≤ 400) : ∀ (suf pre x5 : List (List Int)), pre ++ suf = L → x5.length ≤ pre.length →
    Ev (fun k => spec_HeapsLast.l0 k ts x5 L (pre.length : Int)) (x5 ++ suf.filter (fun x => decide (may x ts = []))) := by
  intro suf
  induction suf with
  | nil =>
    intro pre x5 hp h5
    rw [List.filter_nil, List.append_nil]
    exact Ev.step (f := fun _ => some x5) (fun k => by simp only [spec_HeapsLast.l0]; rw [if_neg (by rw [← hp]; simp)]) (Ev.now _)
  | cons x suf ih =>
    intro pre x5 hp h5
    have hx := okL_len (hok x (by rw [← hp]; simp))
    have g1 : (pre.length : Int) < (L.length : Int) := by rw [← hp]; exact lt_mid pre suf x
    have ex : rd_L1 L (pre.length : Int) = x := by rw [← hp]; exact rdL_mid pre suf x
    have ew : wrap64 ((pre.length : Int) + 1) = ((pre ++ [x]).length : Int) := by
      rw [← hp] at hL; exact wrap_mid pre suf x (by omega)
    have hl5 : x5.length < 5864062014805 := by rw [← hp] at hL; simp at hL; omega
    refine Ev.step (f := fun k => (spec_TradesMay.f k x ts).bind fun t590 => (if (t590.length : Int) = 0 then (if x5.length < 5864062014805 then (spec_HeapsLast.l0 k ts (x5 ++ [x]) L ((pre ++ [x]).length : Int)) else (none)) else (spec_HeapsLast.l0 k ts x5 L ((pre ++ [x]).length : Int)))) (fun k => by simp only [spec_HeapsLast.l0]; rw [if_pos g1, if_pos (by omega), ex, ew]) ?_
    refine Ev.bind (sTradesMay x ts (by omega) hs) ?_
    by_cases c : may x ts = []
    · have := ih (pre ++ [x]) (x5 ++ [x]) (by simpa using hp) (by simp; omega)
      simp only [len_zero.2 c, if_true, hl5]
      rw [List.filter_cons_of_pos (by simpa using c)]
      simpa using this
    · have := ih (pre ++ [x]) x5 (by simpa using hp) (by simp; omega)
      have cn : ¬ ((may x ts).length : Int) = 0 := fun h' => c (len_zero.1 h')
      simp only [cn, if_false]
      rw [List.filter_cons_of_neg (by simpa using c)]
      exact this
theorem sHeapsLast (h : List Int) (ts : List S45) (hh : h.length ≤ 9223372036854775807) (hs : smallT ts) : Ev (fun k => spec_HeapsLast.f k h ts) (lasts h ts) := by
  refine Ev.bind (sHeapsReached h ts hh hs) ?_
  exact sLast_l0 hs reach_ok.1 reach_ok.2 (reach h ts) [] [] rfl (by simp)
theorem last_l0 {ts : List S45} (hs : smallT ts) {L : List (List Int)} (hok : ∀ y ∈ L, okL 40 y = true) (hL : L.length ≤ 400) : ∀ (suf pre x5 : List (List Int)), pre ++ suf = L → x5.length ≤ pre.length →
    Ev (fun k => impl_HeapsLast.l0 k ts x5 L (L.length : Int) (pre.length : Int)) (x5 ++ suf.filter (fun x => decide (may x ts = []))) := by
  intro suf
  induction suf with
  | nil =>
    intro pre x5 hp h5
    rw [List.filter_nil, List.append_nil]
    exact Ev.step (f := fun _ => some x5) (fun k => by simp only [impl_HeapsLast.l0]; rw [if_neg (by rw [← hp]; simp)]) (Ev.now _)
  | cons x suf ih =>
    intro pre x5 hp h5
    have hx := okL_len (hok x (by rw [← hp]; simp))
    have g1 : (pre.length : Int) < (L.length : Int) := by rw [← hp]; exact lt_mid pre suf x
    have ex : rd_L1 L (pre.length : Int) = x := by rw [← hp]; exact rdL_mid pre suf x
    have ew : wrap64 ((pre.length : Int) + 1) = ((pre ++ [x]).length : Int) := by
      rw [← hp] at hL; exact wrap_mid pre suf x (by omega)
    have hl5 : x5.length < 5864062014805 := by rw [← hp] at hL; simp at hL; omega
    refine Ev.step (f := fun k => (impl_TradesMay.f k x ts).bind fun t590 => (if (t590.length : Int) = 0 then (if x5.length < 5864062014805 then (impl_HeapsLast.l0 k ts (x5 ++ [x]) L (L.length : Int) ((pre ++ [x]).length : Int)) else (none)) else (impl_HeapsLast.l0 k ts x5 L (L.length : Int) ((pre ++ [x]).length : Int)))) (fun k => by simp only [impl_HeapsLast.l0]; rw [if_pos g1, if_pos (by omega), if_pos g1, ex, ew]) ?_
    refine Ev.bind (tradesMay x ts (by omega) hs) ?_
    by_cases c : may x ts = []
    · have := ih (pre ++ [x]) (x5 ++ [x]) (by simpa using hp) (by simp; omega)
      simp only [len_zero.2 c, if_true, hl5]
      rw [List.filter_cons_of_pos (by simpa using c)]
      simpa using this
    · have := ih (pre ++ [x]) x5 (by simpa using hp) (by simp; omega)
      have cn : ¬ ((may x ts).length : Int) = 0 := fun h' => c (len_zero.1 h')
      simp only [cn, if_false]
      rw [List.filter_cons_of_neg (by simpa using c)]
      exact this
theorem heapsLast (h : List Int) (ts : List S45) (hh : h.length ≤ 9223372036854775807) (hs : smallT ts) : Ev (fun k => impl_HeapsLast.f k h ts) (lasts h ts) := by
  refine Ev.bind (heapsReached h ts hh hs) ?_
  exact last_l0 hs reach_ok.1 reach_ok.2 (reach h ts) [] [] rfl (by simp)
end Go.Proofs.Ytlmgipjalcnfaaa.A
