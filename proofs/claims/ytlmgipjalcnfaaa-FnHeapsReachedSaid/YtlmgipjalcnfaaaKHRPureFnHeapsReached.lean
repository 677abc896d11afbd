/- Proved: what HeapsReached tells is what the reference tells; each comes once; whatever a rule makes of one of them is among them; the first is the heaps themselves; and there are at most 400. Conditions: none but Go's own limits on the size of the argument. -/
import Derived.Test.YtlmgipjalcnfaaaKHRA5
import Derived.Test.YtlmgipjalcnfaaaKHRD1
import Derived.Test.YtlmgipjalcnfaaaKHRPx12
namespace Go.Proofs.Ytlmgipjalcnfaaa.Pure
open Go.RowKit Go.Proofs.Ytlmgipjalcnfaaa.P Go.Proofs.YtlmgipjalcnfaaaW.PrintWords Go.Proofs.YtlmgipjalcnfaaaW.PrintLast Go.Proofs.Ytlmgipjalcnfaaa.A
open Go.Proofs.Ytlmgipjalcnfaaa (G.bfs)
set_option linter.unusedVariables false
set_option linter.unusedSimpArgs false
theorem nodup_take {L : List (List Int)} (hn : L.Nodup) {i : Nat} {x : List Int} (hx : L[i]? = some x) : ¬ x ∈ L.take i := by
  intro hm
  rw [← List.take_append_drop i L, List.nodup_append] at hn
  obtain ⟨hi, hix⟩ := List.getElem?_eq_some_iff.1 hx
  exact hn.2.2 x hm x (by rw [List.drop_eq_getElem_cons hi, hix]; simp) rfl
theorem l1_true {h : List Int} {ts : List S45} {L : List (List Int)} (hts : ∀ t ∈ ts, okT t = true) (hl4 : ts.length ≤ 4) (hL : L.length ≤ 400) (hok : ∀ y ∈ L, okL 40 y = true) (hc : ∀ x ∈ L, ∀ y ∈ scs ts x, y ∈ L)
    {i : Nat} {x : List Int} (hx : L[i]? = some x) (hnext : Ev (fun k => laws_FnHeapsReached.l0 k h ts L ((i + 1 : Nat) : Int)) true) : ∀ (d j : Nat), j + d = ts.length → Ev (fun k => laws_FnHeapsReached.l1 k h ts L (i : Int) (j : Int)) true := by
  have hi := (List.getElem?_eq_some_iff.1 hx).1
  have hxm := List.mem_of_getElem? hx
  have hlen : ∀ y ∈ L, y.length < 9223372036854775807 := fun y hy => by rw [okL_len (hok y hy)]; decide
  intro d
  induction d with
  | zero =>
    intro j hj
    exact Ev.step (fun k => by simp only [laws_FnHeapsReached.l1]; rw [if_neg (by omega), wrap_next (by omega)]) hnext
  | succ d ih =>
    intro j hj
    have hjt : j < ts.length := by omega
    have et : rd_T45 ts (j : Int) = ts[j] := by simp [rd_T45, List.getD_eq_getElem?_getD, List.getElem?_eq_getElem hjt]
    have ht := hts _ (List.getElem_mem hjt)
    refine Ev.step (f := fun k => (impl_TradeDo.f k x ts[j].f0 ts[j].f1).bind fun bt401 => (if bt401.2 = true then ((laws_hasList.f k L bt401.1).bind fun t405 => (if t405 = true then (laws_FnHeapsReached.l1 k h ts L (i : Int) ((j + 1 : Nat) : Int)) else (some false))) else (laws_FnHeapsReached.l1 k h ts L (i : Int) ((j + 1 : Nat) : Int))))
      (fun k => by simp only [laws_FnHeapsReached.l1]; rw [if_pos (by omega), if_pos (by omega), if_pos (by omega), if_pos (by omega), rdL_at hx, et, wrap_next (by omega)]) ?_
    cases hs : stp x ts[j] with
    | none =>
      refine Ev.bind (tradeDo_none (hok x hxm) ht hs) ?_
      simp only [Bool.false_eq_true, if_false]
      exact ih (j + 1) (by omega)
    | some y =>
      have hy : y ∈ L := hc x hxm y (List.mem_filterMap.2 ⟨_, List.getElem_mem hjt, hs⟩)
      refine Ev.bind (tradeDo_some (hok x hxm) ht hs) ?_
      simp only [if_true]
      refine Ev.bind (hasList L y (by omega) hlen) ?_
      simp only [hy, decide_true, if_true]
      exact ih (j + 1) (by omega)
theorem l0_true {h : List Int} {ts : List S45} {L : List (List Int)} (hts : ∀ t ∈ ts, okT t = true) (hl4 : ts.length ≤ 4) (hL : L.length ≤ 400) (hok : ∀ y ∈ L, okL 40 y = true) (hc : ∀ x ∈ L, ∀ y ∈ scs ts x, y ∈ L)
    (hn : L.Nodup) (hf : ∃ e, L = h :: e) (hh : h.length = 3) : ∀ (d i : Nat), i + d = L.length → Ev (fun k => laws_FnHeapsReached.l0 k h ts L (i : Int)) true := by
  have hlen : ∀ y ∈ L, y.length < 9223372036854775807 := fun y hy => by rw [okL_len (hok y hy)]; decide
  intro d
  induction d with
  | zero =>
    intro i hi
    obtain ⟨e, he⟩ := hf
    have e0 : rd_L1 L 0 = h := by rw [he]; rfl
    refine Ev.step (f := fun k => (laws_sameInts.f k h h).bind fun t391 => (if t391 = true then (some (decide ((L.length : Int) ≤ 400))) else (some false))) (fun k => by simp only [laws_FnHeapsReached.l0]; rw [if_neg (by omega), if_pos (by rw [he]; simp), e0]) ?_
    refine Ev.bind (sameInts h h (by rw [hh]; decide)) ?_
    simp only [decide_true, if_true]
    rw [show decide ((L.length : Int) ≤ 400) = true by rw [decide_eq_true_eq]; omega]
    exact Ev.now _
  | succ d ih =>
    intro i hi
    have hil : i < L.length := by omega
    have hx := List.getElem?_eq_getElem hil
    refine Ev.step (f := fun k => (laws_hasList.f k (L.take i) L[i]).bind fun t398 => (if t398 = true then (some false) else (laws_FnHeapsReached.l1 k h ts L (i : Int) 0))) (fun k => by simp only [laws_FnHeapsReached.l0]; rw [if_pos (by omega), if_pos (by omega), if_pos (by omega), rdL_at hx]; rfl) ?_
    refine Ev.bind (hasList (L.take i) L[i] (by rw [List.length_take]; omega) (fun y hy => hlen y (List.mem_of_mem_take hy))) ?_
    simp only [nodup_take hn hx, decide_false, Bool.false_eq_true, if_false]
    exact l1_true hts hl4 hL hok hc hx (ih (i + 1) (by omega)) ts.length 0 (by omega)
theorem reached_ok {h : List Int} {ts : List S45} (ch : okL 40 h = true) (hts : ∀ t ∈ ts, okT t = true) : ∀ y ∈ G.reached (scs ts) h, okL 40 y = true := by
  intro y hy
  rcases G.reached_is (sc := scs ts) h with e | ⟨hb, _, _⟩
  · rw [e] at hy; simp at hy
  · have hr := hb.reach y hy
    clear hy
    induction hr with
    | self => exact ch
    | step _ hy ih => exact scs_ok hts ih _ hy
theorem FnHeapsReached : laws_FnHeapsReached.Pure := by
  intro l0 _ _ hw
  refine Ev.rounds ?_
  by_cases hlen : (l0.length : Int) > 1048576
  · exact Ev.congr (f := fun _ => some true) (fun k => by unfold laws_FnHeapsReached.f; rw [if_pos hlen]) (Ev.now _)
  obtain ⟨h, ts, e0, hh, hd⟩ := drawMay hw
  have hsm := hd.1.small (by have := hd.2.2; omega)
  refine Ev.congr (f := fun k => (spec_DrawHeapsReached.f k l0).bind fun bt376 => ((impl_HeapsReached.f k bt376.1 bt376.2).bind fun t382 => ((spec_HeapsReached.f k bt376.1 bt376.2).bind fun t385 => ((laws_sameLists.f k t382 t385).bind fun t388 => (if t388 = true then (if (t382.length : Int) = 0 then ((laws_alive.f k).bind fun t389 => (some t389)) else (laws_FnHeapsReached.l0 k bt376.1 bt376.2 t382 0)) else (some false)))))) (fun k => by unfold laws_FnHeapsReached.f; rw [if_neg hlen]) ?_
  refine Ev.bind (a := (h, ts)) (Ev.bind e0 (Ev.now _)) ?_
  refine Ev.bind (heapsReached h ts (by omega) hsm) ?_
  refine Ev.bind (sHeapsReached h ts (by omega) hsm) ?_
  by_cases hne : reach h ts = []
  · rw [hne]
    refine Ev.bind (sameLists [] [] (by simp) (by simp)) ?_
    simp only [decide_true, if_true, List.length_nil, Int.natCast_zero]
    exact Ev.bind alive (Ev.now _)
  · have hr : okL 40 h = true ∧ okTs ts = true := by
      unfold reach at hne; split at hne
      · assumption
      · exact absurd rfl hne
    rw [show reach h ts = G.reached (scs ts) h by unfold reach; rw [if_pos hr]] at hne ⊢
    obtain ⟨h1, h2⟩ := okTs_mem hr.2
    rcases G.reached_is (sc := scs ts) h with e | ⟨hb, hc, hl⟩
    · exact absurd e hne
    have hok := reached_ok (ts := ts) hr.1 h1
    refine Ev.bind (sameLists _ _ (by omega) (fun y hy => by rw [okL_len (hok y hy)]; decide)) ?_
    have hpos : ¬ ((G.reached (scs ts) h).length : Int) = 0 := fun e => hne (List.eq_nil_of_length_eq_zero (by omega))
    simp only [decide_true, if_true, hpos, if_false]
    exact l0_true h1 h2 hl hok hc hb.nodup hb.first (okL_len hr.1) _ 0 (by rw [Nat.zero_add])
end Go.Proofs.Ytlmgipjalcnfaaa.Pure
