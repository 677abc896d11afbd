import Derived.Test.YtlmgipjalcnfaaaKEHLA2
import Derived.Test.YtlmgipjalcnfaaaKEHLG
import Derived.Test.YtlmgipjalcnfaaaKEHLPx3
import Derived.Test.YtlmgipjalcnfaaaKEHLPx6
namespace Go.Proofs.Ytlmgipjalcnfaaa.A
open Go.RowKit Go.Proofs.Ytlmgipjalcnfaaa.P Go.Proofs.YtlmgipjalcnfaaaW.PrintWords Go.Proofs.YtlmgipjalcnfaaaW.PrintLast
set_option linter.unusedVariables false
set_option linter.unusedSimpArgs false
/-! ### 5. What is reached -/
/-- what rules make of heaps, in the rules' order -/
def scs (ts : List S45) (h : List Int) : List (List Int) := ts.filterMap (stp h)
theorem okTs_mem {ts : List S45} (h : okTs ts = true) : (∀ t ∈ ts, okT t = true) ∧ ts.length ≤ 4 := by
  unfold okTs at h
  simp only [Bool.and_eq_true, List.all_eq_true, decide_eq_true_eq] at h
  exact h
theorem okT_parts {t : S45} (h : okT t = true) : okL 5 t.f0 = true ∧ okL 5 t.f1 = true := by
  unfold okT at h; simpa using h
theorem scs_ok {ts : List S45} (hts : ∀ t ∈ ts, okT t = true) {h : List Int} (hh : okL 40 h = true) : ∀ y ∈ scs ts h, okL 40 y = true := by
  intro y hy
  obtain ⟨t, ht, hs⟩ := List.mem_filterMap.1 hy
  exact stp_ok hh (hts t ht) hs
theorem hasL_is (L : List (List Int)) (x : List Int) : Map3.hasL L x = decide (x ∈ L) := by
  unfold Map3.hasL
  rw [Bool.eq_iff_iff]
  simp only [List.any_eq_true, beq_iff_eq, decide_eq_true_eq]
  constructor
  · rintro ⟨y, hy, rfl⟩; exact hy
  · exact fun h => ⟨x, h, rfl⟩
theorem traded_some {x y : List Int} {t : S45} (hx : okL 40 x = true) (ht : okT t = true) (hs : stp x t = some y) : Ev (fun k => impl_traded.f k x t.f0 t.f1) (y, true) := by
  have := traded hx (okT_parts ht).1 (okT_parts ht).2
  rw [show stp x ⟨t.f0, t.f1⟩ = some y from hs] at this
  exact this
theorem traded_none {x : List Int} {t : S45} (hx : okL 40 x = true) (ht : okT t = true) (hs : stp x t = none) : Ev (fun k => impl_traded.f k x t.f0 t.f1) ([], false) := by
  have := traded hx (okT_parts ht).1 (okT_parts ht).2
  rw [show stp x ⟨t.f0, t.f1⟩ = none from hs] at this
  exact this
theorem sTradeDo_some {x y : List Int} {t : S45} (hx : okL 40 x = true) (ht : okT t = true) (hs : stp x t = some y) : Ev (fun k => spec_TradeDo.f k x t.f0 t.f1) (y, true) := by
  have := sTradeDo hx (okT_parts ht).1 (okT_parts ht).2
  rw [show stp x ⟨t.f0, t.f1⟩ = some y from hs] at this
  exact this
theorem sTradeDo_none {x : List Int} {t : S45} (hx : okL 40 x = true) (ht : okT t = true) (hs : stp x t = none) : Ev (fun k => spec_TradeDo.f k x t.f0 t.f1) ([], false) := by
  have := sTradeDo hx (okT_parts ht).1 (okT_parts ht).2
  rw [show stp x ⟨t.f0, t.f1⟩ = none from hs] at this
  exact this
theorem rdL_at {L : List (List Int)} {i : Nat} {x : List Int} (h : L[i]? = some x) : rd_L1 L (i : Int) = x := by
  simp [rd_L1, List.getD_eq_getElem?_getD, h]
theorem addNew_in {L ys : List (List Int)} {y : List Int} (h : y ∈ L) : G.addNew L (y :: ys) = G.addNew L ys := by simp [G.addNew, h]
theorem addNew_out {L ys : List (List Int)} {y : List Int} (h : ¬ y ∈ L) : G.addNew L (y :: ys) = G.addNew (L ++ [y]) ys := by simp [G.addNew, h]
/-- impl's two loops, from the state (L, i) on -/
theorem hr_inner {ts : List S45} (hts : ∀ t ∈ ts, okT t = true) (hl : ts.length ≤ 4) {i : Nat} (r : List (List Int) → List (List Int)) {x : List Int} (hx : okL 40 x = true) (hi : i ≤ 400)
    (hout : ∀ L : List (List Int), L.length ≤ 400 → (∀ y ∈ L, okL 40 y = true) → L[i]? = some x → Ev (fun k => impl_HeapsReached.l0 k ts L ((i : Int) + 1)) (r L)) :
    ∀ (suf pre : List S45) (L : List (List Int)), pre ++ suf = ts → L.length ≤ 400 → (∀ y ∈ L, okL 40 y = true) → L[i]? = some x →
    Ev (fun k => impl_HeapsReached.l1 k ts L (i : Int) ts (ts.length : Int) (pre.length : Int)) (if 400 < (G.addNew L (scs suf x)).length then [] else r (G.addNew L (scs suf x))) := by
  intro suf
  induction suf with
  | nil =>
    intro pre L hp hL hok hLi
    have e : G.addNew L (scs [] x) = L := rfl
    rw [e, if_neg (by omega)]
    refine Ev.step (f := fun k => impl_HeapsReached.l0 k ts L ((i : Int) + 1)) (fun k => by simp only [impl_HeapsReached.l1]; rw [if_neg (by rw [← hp]; simp), wrap_small (by omega) (by omega)]) (hout L hL hok hLi)
  | cons t suf ih =>
    intro pre L hp hL hok hLi
    have ht := hts t (by rw [← hp]; simp)
    have hil : i < L.length := (List.getElem?_eq_some_iff.1 hLi).1
    have g1 : (pre.length : Int) < (ts.length : Int) := by rw [← hp]; exact lt_mid pre suf t
    have et : rd_T45 ts (pre.length : Int) = t := by rw [← hp]; exact rdT_mid pre suf t
    have ew : wrap64 ((pre.length : Int) + 1) = ((pre ++ [t]).length : Int) := by
      rw [← hp] at hl; exact wrap_mid pre suf t (by omega)
    refine Ev.step (f := fun k => (impl_traded.f k x t.f0 t.f1).bind fun bt140 => (if bt140.2 = true then (if bt140.1.length = 3 then (impl_HeapsReached.j3 k ts L (i : Int) bt140.1 ts (ts.length : Int) (pre.length : Int) (Map3.hasL L bt140.1)) else (none)) else (impl_HeapsReached.j3 k ts L (i : Int) bt140.1 ts (ts.length : Int) (pre.length : Int) true)))
      (fun k => by simp only [impl_HeapsReached.l1]; rw [if_pos g1, if_pos (by omega), if_pos g1, if_pos (by omega), if_pos (by omega), rdL_at hLi, et]) ?_
    have hskip : ∀ z, Ev (fun k => impl_HeapsReached.j3 k ts L (i : Int) z ts (ts.length : Int) (pre.length : Int) true) (if 400 < (G.addNew L (scs suf x)).length then [] else r (G.addNew L (scs suf x))) := fun z =>
      Ev.step (f := fun k => impl_HeapsReached.l1 k ts L (i : Int) ts (ts.length : Int) ((pre ++ [t]).length : Int)) (fun k => by simp only [impl_HeapsReached.j3, if_true]; rw [ew]) (ih (pre ++ [t]) L (by simpa using hp) hL hok hLi)
    cases hs : stp x t with
    | none =>
      have e : scs (t :: suf) x = scs suf x := by simp [scs, hs]
      rw [e]
      refine Ev.bind (traded_none hx ht hs) ?_
      simp only [Bool.false_eq_true, if_false]
      exact hskip _
    | some y =>
      have hy := stp_ok hx (hts t (by rw [← hp]; simp)) hs
      have e : scs (t :: suf) x = y :: scs suf x := by simp [scs, hs]
      rw [e]
      refine Ev.bind (traded_some hx ht hs) ?_
      simp only [if_true, okL_len hy, hasL_is]
      by_cases hm : y ∈ L
      · rw [addNew_in hm]; simp only [hm, decide_true]
        exact hskip _
      · rw [addNew_out hm]; simp only [hm, decide_false]
        refine Ev.step (f := fun k => if ((L ++ [y]).length : Int) > 400 then (some ([] : List (List Int))) else (impl_HeapsReached.l1 k ts (L ++ [y]) (i : Int) ts (ts.length : Int) ((pre ++ [t]).length : Int))) (fun k => by simp only [impl_HeapsReached.j3, Bool.false_eq_true, if_false]; rw [if_pos (by omega), ew]; rfl) ?_
        by_cases hlong : 400 < (L ++ [y]).length
        · have h2 := G.addNew_len (scs suf x) (L ++ [y])
          rw [if_pos (by omega)]
          simp only [show ((L ++ [y]).length : Int) > 400 by omega, if_true]
          exact Ev.now _
        · simp only [show ¬ ((L ++ [y]).length : Int) > 400 by omega, if_false]
          refine ih (pre ++ [t]) (L ++ [y]) (by simpa using hp) (by omega) ?_ (by rw [List.getElem?_append_left hil]; exact hLi)
          intro z hz
          rcases List.mem_append.1 hz with hz | hz
          · exact hok z hz
          · rw [List.mem_singleton] at hz; rw [hz]; exact hy
theorem hr_outer {ts : List S45} (hts : ∀ t ∈ ts, okT t = true) (hl : ts.length ≤ 4) : ∀ (f i : Nat) (L : List (List Int)), L.length ≤ 400 → (∀ y ∈ L, okL 40 y = true) → i ≤ L.length → 400 < f + i →
    Ev (fun k => impl_HeapsReached.l0 k ts L (i : Int)) (G.bfs (scs ts) f L i) := by
  intro f
  induction f with
  | zero => intro i L hL _ hi hf; omega
  | succ f ih =>
    intro i L hL hok hi hf
    rcases hx : L[i]? with _ | x
    · have hi' : L.length ≤ i := List.getElem?_eq_none_iff.1 hx
      have e : G.bfs (scs ts) (f + 1) L i = L := by simp [G.bfs, hx]
      rw [e]
      exact Ev.step (f := fun _ => some L) (fun k => by simp only [impl_HeapsReached.l0]; rw [if_neg (by omega)]) (Ev.now _)
    · have hil : i < L.length := (List.getElem?_eq_some_iff.1 hx).1
      have hxo := hok x (List.mem_of_getElem? hx)
      have e : G.bfs (scs ts) (f + 1) L i = (if 400 < (G.addNew L (scs ts x)).length then [] else G.bfs (scs ts) f (G.addNew L (scs ts x)) (i + 1)) := by simp [G.bfs, hx]
      rw [e]
      refine Ev.step (f := fun k => impl_HeapsReached.l1 k ts L (i : Int) ts (ts.length : Int) 0) (fun k => by simp only [impl_HeapsReached.l0]; rw [if_pos (by omega)]) ?_
      refine hr_inner hts hl (fun L => G.bfs (scs ts) f L (i + 1)) hxo (by omega) ?_ ts [] L rfl hL hok hx
      intro L' hL' hok' hLi'
      have := ih (i + 1) L' hL' hok' (by have := (List.getElem?_eq_some_iff.1 hLi').1; omega) (by omega)
      exact this
/-- what both answer -/
def reach (h : List Int) (ts : List S45) : List (List Int) := if okL 40 h = true ∧ okTs ts = true then G.reached (scs ts) h else []
theorem clone_is (l : List Int) (hl : l.length < 17592186044416) : slices_Clone_int_int.f l = some l := by unfold slices_Clone_int_int.f; rw [if_pos hl]
theorem heapsReached (h : List Int) (ts : List S45) (hh : h.length ≤ 9223372036854775807) (hs : smallT ts) : Ev (fun k => impl_HeapsReached.f k h ts) (reach h ts) := by
  refine Ev.bind (heapsValid h hh) ?_
  cases ch : okL 40 h with
  | false =>
    simp only [Bool.false_eq_true, if_false]
    exact Ev.step (f := fun _ => some []) (fun k => by simp only [impl_HeapsReached.j0, Bool.not_false, if_true]) (by rw [show reach h ts = [] by simp [reach, ch]]; exact Ev.now _)
  | true =>
    simp only [if_true]
    refine Ev.bind (tradesValid ts hs) ?_
    cases ct : okTs ts with
    | false => exact Ev.step (f := fun _ => some []) (fun k => by simp only [impl_HeapsReached.j0, Bool.not_false, if_true]) (by rw [show reach h ts = [] by simp [reach, ct]]; exact Ev.now _)
    | true =>
      obtain ⟨h1, h2⟩ := okTs_mem ct
      rw [show reach h ts = G.reached (scs ts) h by simp [reach, ch, ct]]
      refine Ev.step (f := fun k => impl_HeapsReached.l0 k ts [h] 0) (fun k => by simp only [impl_HeapsReached.j0, Bool.not_true, Bool.false_eq_true, if_false]; rw [clone_is h (by rw [okL_len ch]; decide)]; simp only [Option.bind_some]; rw [if_pos (okL_len ch)]) ?_
      exact hr_outer h1 h2 401 0 [h] (by simp) (by intro y hy; rw [List.mem_singleton] at hy; rw [hy]; exact ch) (by simp) (by omega)
end Go.Proofs.Ytlmgipjalcnfaaa.A
