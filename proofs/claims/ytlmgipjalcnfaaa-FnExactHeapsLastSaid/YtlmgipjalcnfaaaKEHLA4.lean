import Derived.Test.YtlmgipjalcnfaaaKEHLA3
import Derived.Test.YtlmgipjalcnfaaaKEHLPx3
namespace Go.Proofs.Ytlmgipjalcnfaaa.A
open Go.RowKit Go.Proofs.Ytlmgipjalcnfaaa.P Go.Proofs.YtlmgipjalcnfaaaW.PrintWords Go.Proofs.YtlmgipjalcnfaaaW.PrintLast
set_option linter.unusedVariables false
set_option linter.unusedSimpArgs false
/-! ### 6. The reference's: a row of truths by numbers -/
def codeN (h : List Int) : Int := ((rd h 0) * 41 + rd h 1) * 41 + rd h 2
theorem code_is {h : List Int} (hh : okL 40 h = true) : spec_l8Code.f h = some (codeN h) ∧ 0 ≤ codeN h ∧ codeN h < 68921 := by
  obtain ⟨x, y, z, rfl, hb⟩ := okL_is hh
  have e0 : rd [x, y, z] 0 = x := rfl
  have e1 : rd [x, y, z] 1 = y := rfl
  have e2 : rd [x, y, z] 2 = z := rfl
  unfold codeN spec_l8Code.f
  rw [e0, e1, e2]
  refine ⟨?_, by omega, by omega⟩
  rw [if_pos (by simp), if_pos (by simp), if_pos (by simp), wrap_small (n := x * 41) (by omega) (by omega), wrap_small (n := x * 41 + y) (by omega) (by omega), wrap_small (n := (x * 41 + y) * 41) (by omega) (by omega), wrap_small (by omega) (by omega)]
theorem code_inj {h h' : List Int} (hh : okL 40 h = true) (hh' : okL 40 h' = true) (e : codeN h = codeN h') : h = h' := by
  obtain ⟨x, y, z, rfl, hb⟩ := okL_is hh
  obtain ⟨x', y', z', rfl, hb'⟩ := okL_is hh'
  unfold codeN at e
  have e0 : rd [x, y, z] 0 = x := rfl
  have e1 : rd [x, y, z] 1 = y := rfl
  have e2 : rd [x, y, z] 2 = z := rfl
  have f0 : rd [x', y', z'] 0 = x' := rfl
  have f1 : rd [x', y', z'] 1 = y' := rfl
  have f2 : rd [x', y', z'] 2 = z' := rfl
  rw [e0, e1, e2, f0, f1, f2] at e
  have : x = x' ∧ y = y' ∧ z = z' := by omega
  obtain ⟨rfl, rfl, rfl⟩ := this
  rfl
/-- the truths say what has come -/
def Seen (s : List Bool) (L : List (List Int)) : Prop := s.length = 68921 ∧ ∀ y, okL 40 y = true → rdOf false s (codeN y) = decide (y ∈ L)
theorem Seen.put {s : List Bool} {L : List (List Int)} (h : Seen s L) {y : List Int} (hy : okL 40 y = true) : Seen (s.set (codeN y).toNat true) (L ++ [y]) := by
  obtain ⟨h1, h2⟩ := h
  refine ⟨by simpa using h1, fun z hz => ?_⟩
  obtain ⟨_, a0, a1⟩ := code_is hy
  obtain ⟨_, b0, b1⟩ := code_is hz
  by_cases e : z = y
  · subst e
    simp [rdOf, List.getD_eq_getElem?_getD, show (codeN z).toNat < s.length by omega]
  · have hne : (codeN y).toNat ≠ (codeN z).toNat := fun h => e (code_inj hz hy (by omega))
    have := h2 z hz
    simp only [rdOf, List.getD_eq_getElem?_getD, List.getElem?_set_ne hne, List.mem_append, List.mem_singleton, e, or_false] at this ⊢
    exact this
theorem Seen.none : Seen (List.replicate 68921 false) [] := by
  refine ⟨List.length_replicate, fun y hy => ?_⟩
  obtain ⟨_, a0, a1⟩ := code_is hy
  simp only [rdOf, List.getD_eq_getElem?_getD, List.getElem?_replicate]
  rw [if_pos (by omega)]; simp
theorem sr_inner {ts : List S45} (hts : ∀ t ∈ ts, okT t = true) (hl : ts.length ≤ 4) {i : Nat} (r : List (List Int) → List (List Int)) {x : List Int} (hx : okL 40 x = true) (hi : i ≤ 400)
    (hout : ∀ (L : List (List Int)) (s : List Bool), L.length ≤ 400 → (∀ y ∈ L, okL 40 y = true) → L[i]? = some x → Seen s L → Ev (fun k => spec_HeapsReached.l0 k ts L s ((i : Int) + 1)) (r L)) :
    ∀ (suf pre : List S45) (L : List (List Int)) (s : List Bool), pre ++ suf = ts → L.length ≤ 400 + pre.length → (∀ y ∈ L, okL 40 y = true) → L[i]? = some x → Seen s L →
    Ev (fun k => spec_HeapsReached.l1 k ts L s (i : Int) (pre.length : Int)) (if 400 < (G.addNew L (scs suf x)).length then [] else r (G.addNew L (scs suf x))) := by
  intro suf
  induction suf with
  | nil =>
    intro pre L s hp hL hok hLi hse
    have e : G.addNew L (scs [] x) = L := rfl
    rw [e]
    by_cases hlong : 400 < L.length
    · rw [if_pos hlong]
      exact Ev.step (f := fun _ => some []) (fun k => by simp only [spec_HeapsReached.l1]; rw [if_neg (by rw [← hp]; simp), if_pos (by omega)]) (Ev.now _)
    · rw [if_neg hlong]
      refine Ev.step (f := fun k => spec_HeapsReached.l0 k ts L s ((i : Int) + 1)) (fun k => by simp only [spec_HeapsReached.l1]; rw [if_neg (by rw [← hp]; simp), if_neg (by omega), wrap_small (by omega) (by omega)]) (hout L s (by omega) hok hLi hse)
  | cons t suf ih =>
    intro pre L s hp hL hok hLi hse
    have ht := hts t (by rw [← hp]; simp)
    have hil : i < L.length := (List.getElem?_eq_some_iff.1 hLi).1
    have hpl : pre.length ≤ 4 := by rw [← hp] at hl; simp at hl; omega
    have g1 : (pre.length : Int) < (ts.length : Int) := by rw [← hp]; exact lt_mid pre suf t
    have et : rd_T45 ts (pre.length : Int) = t := by rw [← hp]; exact rdT_mid pre suf t
    have ew : wrap64 ((pre.length : Int) + 1) = ((pre ++ [t]).length : Int) := by
      rw [← hp] at hl; exact wrap_mid pre suf t (by omega)
    have hnext : ∀ (L : List (List Int)) (s : List Bool), L.length ≤ 401 + pre.length → (∀ y ∈ L, okL 40 y = true) → L[i]? = some x → Seen s L → Ev (fun k => spec_HeapsReached.l1 k ts L s (i : Int) (wrap64 ((pre.length : Int) + 1))) (if 400 < (G.addNew L (scs suf x)).length then [] else r (G.addNew L (scs suf x))) := by
      intro L s h1 h2 h3 h4
      rw [ew]
      exact ih (pre ++ [t]) L s (by simpa using hp) (by simp; omega) h2 h3 h4
    refine Ev.step (f := fun k => (spec_TradeDo.f k x t.f0 t.f1).bind fun bt165 => (if bt165.2 = true then ((spec_l8Code.f bt165.1).bind fun t169 => (if 0 ≤ t169 then (if t169 < (s.length : Int) then (if rdOf false s t169 = true then (spec_HeapsReached.l1 k ts L s (i : Int) (wrap64 ((pre.length : Int) + 1))) else ((spec_l8Code.f bt165.1).bind fun t171 => (if 0 ≤ t171 then (if t171 < (s.length : Int) then (if L.length < 5864062014805 then (spec_HeapsReached.l1 k ts (L ++ [bt165.1]) (s.set (t171 : Int).toNat true) (i : Int) (wrap64 ((pre.length : Int) + 1))) else (none)) else (none)) else (none)))) else (none)) else (none))) else (spec_HeapsReached.l1 k ts L s (i : Int) (wrap64 ((pre.length : Int) + 1)))))
      (fun k => by simp only [spec_HeapsReached.l1]; rw [if_pos g1, if_pos (by omega), if_pos (by omega), if_pos (by omega), rdL_at hLi, et]) ?_
    cases hs : stp x t with
    | none =>
      have e : scs (t :: suf) x = scs suf x := by simp [scs, hs]
      rw [e]
      refine Ev.bind (sTradeDo_none hx ht hs) ?_
      simp only [Bool.false_eq_true, if_false]
      exact hnext L s (by omega) hok hLi hse
    | some y =>
      have hy := stp_ok hx ht hs
      have e : scs (t :: suf) x = y :: scs suf x := by simp [scs, hs]
      obtain ⟨c0, c1, c2⟩ := code_is hy
      have c3 : codeN y < (s.length : Int) := by have := hse.1; omega
      have c4 : L.length < 5864062014805 := by omega
      rw [e]
      refine Ev.bind (sTradeDo_some hx ht hs) ?_
      simp only [if_true, c0, Option.bind_some, c1, c3, hse.2 y hy]
      by_cases hm : y ∈ L
      · rw [addNew_in hm]; simp only [hm, decide_true, if_true]
        exact hnext L s (by omega) hok hLi hse
      · rw [addNew_out hm]; simp only [hm, decide_false, Bool.false_eq_true, if_false, c4, if_true]
        refine hnext (L ++ [y]) _ (by simp; omega) ?_ (by rw [List.getElem?_append_left hil]; exact hLi) (hse.put hy)
        intro z hz
        rcases List.mem_append.1 hz with hz | hz
        · exact hok z hz
        · rw [List.mem_singleton] at hz; rw [hz]; exact hy
theorem sr_outer {ts : List S45} (hts : ∀ t ∈ ts, okT t = true) (hl : ts.length ≤ 4) : ∀ (f i : Nat) (L : List (List Int)) (s : List Bool), L.length ≤ 400 → (∀ y ∈ L, okL 40 y = true) → i ≤ L.length → 400 < f + i → Seen s L →
    Ev (fun k => spec_HeapsReached.l0 k ts L s (i : Int)) (G.bfs (scs ts) f L i) := by
  intro f
  induction f with
  | zero => intro i L s hL _ hi hf; omega
  | succ f ih =>
    intro i L s hL hok hi hf hse
    rcases hx : L[i]? with _ | x
    · have hi' : L.length ≤ i := List.getElem?_eq_none_iff.1 hx
      have e : G.bfs (scs ts) (f + 1) L i = L := by simp [G.bfs, hx]
      rw [e]
      exact Ev.step (f := fun _ => some L) (fun k => by simp only [spec_HeapsReached.l0]; rw [if_neg (by omega)]) (Ev.now _)
    · have hil : i < L.length := (List.getElem?_eq_some_iff.1 hx).1
      have hxo := hok x (List.mem_of_getElem? hx)
      have e : G.bfs (scs ts) (f + 1) L i = (if 400 < (G.addNew L (scs ts x)).length then [] else G.bfs (scs ts) f (G.addNew L (scs ts x)) (i + 1)) := by simp [G.bfs, hx]
      rw [e]
      refine Ev.step (f := fun k => spec_HeapsReached.l1 k ts L s (i : Int) 0) (fun k => by simp only [spec_HeapsReached.l0]; rw [if_pos (by omega)]) ?_
      refine sr_inner hts hl (fun L => G.bfs (scs ts) f L (i + 1)) hxo (by omega) ?_ ts [] L s rfl (by simpa using hL) hok hx hse
      intro L' s' hL' hok' hLi' hse'
      have := ih (i + 1) L' s' hL' hok' (by have := (List.getElem?_eq_some_iff.1 hLi').1; omega) (by omega) hse'
      exact this
theorem sHeapsReached (h : List Int) (ts : List S45) (hh : h.length ≤ 9223372036854775807) (hs : smallT ts) : Ev (fun k => spec_HeapsReached.f k h ts) (reach h ts) := by
  show Ev (fun k => (spec_HeapsValid.f k h).bind fun t144 => (if t144 = true then ((spec_TradesValid.f k ts).bind fun t145 => (spec_HeapsReached.j0 k h ts [] (!t145))) else (spec_HeapsReached.j0 k h ts [] true))) _
  refine Ev.bind (sHeapsValid h hh) ?_
  cases ch : okL 40 h with
  | false =>
    simp only [Bool.false_eq_true, if_false]
    exact Ev.step (f := fun _ => some []) (fun k => by simp only [spec_HeapsReached.j0, if_true]) (by rw [show reach h ts = [] by simp [reach, ch]]; exact Ev.now _)
  | true =>
    simp only [if_true]
    refine Ev.bind (sTradesValid ts hs) ?_
    cases ct : okTs ts with
    | false => exact Ev.step (f := fun _ => some []) (fun k => by simp only [spec_HeapsReached.j0, Bool.not_false, if_true]) (by rw [show reach h ts = [] by simp [reach, ct]]; exact Ev.now _)
    | true =>
      obtain ⟨h1, h2⟩ := okTs_mem ct
      obtain ⟨c0, c1, c2⟩ := code_is ch
      rw [show reach h ts = G.reached (scs ts) h by simp [reach, ch, ct]]
      refine Ev.step (f := fun k => spec_HeapsReached.l0 k ts [h] ((List.replicate 68921 false).set (codeN h).toNat true) 0) (fun k => ?_) ?_
      · simp only [spec_HeapsReached.j0, Bool.not_true, Bool.false_eq_true, if_false]
        rw [if_pos (by omega)]
        simp only [Option.bind_some, c0]
        rw [if_pos (by rw [okL_len ch]; decide), if_pos (by decide), if_pos c1, if_pos (by rw [List.length_replicate]; exact c2)]
        rfl
      · exact sr_outer h1 h2 401 0 [h] _ (by simp) (by intro y hy; rw [List.mem_singleton] at hy; rw [hy]; exact ch) (by simp) (by omega) (Seen.none.put ch)
end Go.Proofs.Ytlmgipjalcnfaaa.A
