import Derived.Test.YtlmgipjalcnfaaaKTRA7
import Derived.Test.YtlmgipjalcnfaaaKTRPx14
import Derived.Test.YtlmgipjalcnfaaaKTRPx15
namespace Go.Proofs.Ytlmgipjalcnfaaa.A
open Go.RowKit Go.Proofs.Ytlmgipjalcnfaaa.P Go.Proofs.YtlmgipjalcnfaaaW.PrintWords Go.Proofs.YtlmgipjalcnfaaaW.PrintLast
set_option linter.unusedVariables false
set_option linter.unusedSimpArgs false
/-! ### 11. Rows of exchanges -/
def runs (ts : List S45) : List Int → List Int → Option (List Int)
  | h, [] => some h
  | h, i :: l => if 0 ≤ i ∧ i < ts.length then (match stp h (rd_T45 ts i) with | some y => runs ts y l | none => none) else none
theorem runs_cons (ts : List S45) (h : List Int) (i : Int) (l : List Int) : runs ts h (i :: l) = if 0 ≤ i ∧ i < ts.length then (match stp h (rd_T45 ts i) with | some y => runs ts y l | none => none) else none := rfl
def rowT (h : List Int) (ts : List S45) (l : List Int) : List Int × Bool := if okL 40 h = true ∧ okTs ts = true ∧ l.length ≤ 99 then pr (runs ts h l) else ([], false)
theorem rdT_mem {ts : List S45} {i : Int} (h : 0 ≤ i ∧ i < ts.length) : rd_T45 ts i ∈ ts := by
  unfold rd_T45
  rw [List.getD_eq_getElem?_getD, List.getElem?_eq_getElem (by omega)]
  exact List.getElem_mem _
theorem runs_ok {ts : List S45} (hts : ∀ t ∈ ts, okT t = true) : ∀ (l h y : List Int), okL 40 h = true → runs ts h l = some y → okL 40 y = true
  | [], h, y, ch, hr => by simp [runs] at hr; rw [← hr]; exact ch
  | i :: l, h, y, ch, hr => by
    unfold runs at hr
    split at hr
    · rename_i hi
      split at hr
      · rename_i z hz
        exact runs_ok hts l z y (stp_ok ch (hts _ (rdT_mem hi)) hz) hr
      · cases hr
    · cases hr
theorem runs_walk {ts : List S45} : ∀ (l h y : List Int), runs ts h l = some y → G.Walk (scs ts) h l.length
  | [], h, y, hr => .zero h
  | i :: l, h, y, hr => by
    unfold runs at hr
    split at hr
    · rename_i hi
      split at hr
      · rename_i z hz
        exact .step (List.mem_filterMap.2 ⟨_, rdT_mem hi, hz⟩) (runs_walk l z y hr)
      · cases hr
    · cases hr
theorem runs_append {ts : List S45} : ∀ (l l' h y : List Int), runs ts h (l ++ l') = some y → ∃ z, runs ts h l = some z ∧ runs ts z l' = some y
  | [], l', h, y, hr => ⟨h, rfl, hr⟩
  | i :: l, l', h, y, hr => by
    rw [List.cons_append] at hr
    rw [runs_cons] at hr ⊢
    split at hr
    · rename_i hi
      rw [if_pos hi]
      split at hr
      · rename_i z hz
        obtain ⟨u, h1, h2⟩ := runs_append l l' z y hr
        exact ⟨u, h1, h2⟩
      · cases hr
    · cases hr
theorem run_l0 {ts : List S45} (hts : ∀ t ∈ ts, okT t = true) (l : List Int) (hl : l.length ≤ 99) : ∀ (suf pre h : List Int), pre ++ suf = l → okL 40 h = true →
    Ev (fun k => impl_TradesRun.l0 k ts h l (l.length : Int) (pre.length : Int)) (pr (runs ts h suf)) := by
  intro suf
  induction suf with
  | nil =>
    intro pre h hp ch
    exact Ev.step (f := fun _ => some (h, true)) (fun k => by simp only [impl_TradesRun.l0]; rw [if_neg (by rw [← hp]; simp)]) (Ev.now _)
  | cons i suf ih =>
    intro pre h hp ch
    have g1 : (pre.length : Int) < (l.length : Int) := by rw [← hp]; exact lt_mid pre suf i
    have ei : rd l (pre.length : Int) = i := by rw [← hp]; exact rd_mid pre suf i
    have ew : wrap64 ((pre.length : Int) + 1) = ((pre ++ [i]).length : Int) := by
      rw [← hp] at hl; exact wrap_mid pre suf i (by omega)
    have hno : ¬ (0 ≤ i ∧ i < ts.length) → Ev (fun k => impl_TradesRun.j2 k ts h i l (l.length : Int) (pre.length : Int) true) (pr (runs ts h (i :: suf))) := fun hi => by
      rw [show runs ts h (i :: suf) = none by unfold runs; rw [if_neg hi]]
      exact Ev.step (f := fun _ => some ([], false)) (fun k => by simp only [impl_TradesRun.j2, if_true]) (Ev.now _)
    by_cases c0 : i < 0
    · exact Ev.step (fun k => by simp only [impl_TradesRun.l0]; rw [if_pos g1, if_pos (by omega), if_pos g1, ei, if_pos c0]) (hno (by omega))
    · by_cases c1 : i ≥ (ts.length : Int)
      · refine Ev.step (fun k => by simp only [impl_TradesRun.l0]; rw [if_pos g1, if_pos (by omega), if_pos g1, ei, if_neg c0, decide_eq_true c1]) (hno (by omega))
      · have hi : 0 ≤ i ∧ i < ts.length := by omega
        have ht := hts _ (rdT_mem hi)
        refine Ev.step (f := fun k => impl_TradesRun.j2 k ts h i l (l.length : Int) (pre.length : Int) false) (fun k => by simp only [impl_TradesRun.l0]; rw [if_pos g1, if_pos (by omega), if_pos g1, ei, if_neg c0, decide_eq_false c1]) ?_
        refine Ev.step (f := fun k => (impl_traded.f k h (rd_T45 ts i).f0 (rd_T45 ts i).f1).bind fun bt463 => (if bt463.2 = true then (impl_TradesRun.l0 k ts bt463.1 l (l.length : Int) ((pre ++ [i]).length : Int)) else (some (([] : List Int), false)))) (fun k => by simp only [impl_TradesRun.j2, Bool.false_eq_true, if_false]; rw [if_pos hi.1, if_pos hi.2, ew]) ?_
        cases hs : stp h (rd_T45 ts i) with
        | none =>
          refine Ev.bind (traded_none ch ht hs) ?_
          rw [show runs ts h (i :: suf) = none by unfold runs; rw [if_pos hi, hs]]
          exact Ev.now _
        | some y =>
          refine Ev.bind (traded_some ch ht hs) ?_
          rw [show runs ts h (i :: suf) = runs ts y suf by rw [runs]; rw [if_pos hi, hs]]
          simp only [if_true]
          exact ih (pre ++ [i]) y (by simpa using hp) (stp_ok ch ht hs)
theorem tradesRun (h : List Int) (ts : List S45) (l : List Int) (hh : h.length ≤ 9223372036854775807) (hs : smallT ts) : Ev (fun k => impl_TradesRun.f k h ts l) (rowT h ts l) := by
  refine Ev.bind (heapsValid h hh) ?_
  have hno : rowT h ts l = ([], false) → Ev (fun k => impl_TradesRun.j0 k h ts l true) (rowT h ts l) := fun e => by
    rw [e]; exact Ev.step (f := fun _ => some ([], false)) (fun k => by simp only [impl_TradesRun.j0, if_true]) (Ev.now _)
  cases ch : okL 40 h with
  | false => simp only [Bool.false_eq_true, if_false]; exact hno (by simp [rowT, ch])
  | true =>
    simp only [if_true]
    refine Ev.bind (tradesValid ts hs) ?_
    cases cv : okTs ts with
    | false => simp only [Bool.false_eq_true, if_false]; exact hno (by simp [rowT, cv])
    | true =>
      simp only [if_true]
      by_cases cl : (l.length : Int) > 99
      · rw [decide_eq_true cl]; exact hno (by unfold rowT; rw [if_neg (by omega)])
      · rw [decide_eq_false cl]
        rw [show rowT h ts l = pr (runs ts h l) by unfold rowT; rw [if_pos ⟨ch, cv, by omega⟩]]
        refine Ev.step (f := fun k => impl_TradesRun.l0 k ts h l (l.length : Int) 0) (fun k => by simp only [impl_TradesRun.j0, Bool.false_eq_true, if_false]; rw [clone_is h (by rw [okL_len ch]; decide)]; rfl) ?_
        exact run_l0 (okTs_mem cv).1 l (by omega) l [] h rfl ch
theorem sRun_l0 {ts : List S45} (hts : ∀ t ∈ ts, okT t = true) (hl4 : ts.length ≤ 4) (l : List Int) (hl : l.length ≤ 99) : ∀ (suf pre h : List Int), pre ++ suf = l → okL 40 h = true →
    Ev (fun k => spec_TradesRun.l0 k ts l h (pre.length : Int)) (pr (runs ts h suf)) := by
  intro suf
  induction suf with
  | nil =>
    intro pre h hp ch
    exact Ev.step (f := fun _ => some (h, true)) (fun k => by simp only [spec_TradesRun.l0]; rw [if_neg (by rw [← hp]; simp)]) (Ev.now _)
  | cons i suf ih =>
    intro pre h hp ch
    have g1 : (pre.length : Int) < (l.length : Int) := by rw [← hp]; exact lt_mid pre suf i
    have ei : rd l (pre.length : Int) = i := by rw [← hp]; exact rd_mid pre suf i
    have ew : wrap64 ((pre.length : Int) + 1) = ((pre ++ [i]).length : Int) := by
      rw [← hp] at hl; exact wrap_mid pre suf i (by omega)
    have em : wrap64 ((ts.length : Int) - 1) = (ts.length : Int) - 1 := wrap_ok (by omega)
    refine Ev.step (f := fun k => if (decide (0 ≤ i) && decide (i ≤ (ts.length : Int) - 1)) = true then (if 0 ≤ i then (if i < (ts.length : Int) then ((spec_TradeDo.f k h ((rd_T45 ts i).f0) ((rd_T45 ts i).f1)).bind fun bt482 => (if bt482.2 = true then (spec_TradesRun.l0 k ts l bt482.1 ((pre ++ [i]).length : Int)) else (some ((([] : List Int)), false)))) else (none)) else (none)) else (some ((([] : List Int)), false)))
      (fun k => by simp only [spec_TradesRun.l0]; rw [if_pos g1, if_pos (by omega), ei, em, l1In_is, ew]; rfl) ?_
    by_cases hi : 0 ≤ i ∧ i < ts.length
    · have ht := hts _ (rdT_mem hi)
      rw [show (decide (0 ≤ i) && decide (i ≤ (ts.length : Int) - 1)) = true by simp; omega]
      simp only [if_true, hi.1, hi.2]
      cases hs : stp h (rd_T45 ts i) with
      | none =>
        refine Ev.bind (sTradeDo_none ch ht hs) ?_
        rw [show runs ts h (i :: suf) = none by unfold runs; rw [if_pos hi, hs]]
        exact Ev.now _
      | some y =>
        refine Ev.bind (sTradeDo_some ch ht hs) ?_
        rw [show runs ts h (i :: suf) = runs ts y suf by rw [runs]; rw [if_pos hi, hs]]
        simp only [if_true]
        exact ih (pre ++ [i]) y (by simpa using hp) (stp_ok ch ht hs)
    · rw [show (decide (0 ≤ i) && decide (i ≤ (ts.length : Int) - 1)) = false by rw [Bool.eq_false_iff]; simp; omega]
      rw [show runs ts h (i :: suf) = none by unfold runs; rw [if_neg hi]]
      exact Ev.now _
theorem sTradesRun (h : List Int) (ts : List S45) (l : List Int) (hh : h.length ≤ 9223372036854775807) (hs : smallT ts) : Ev (fun k => spec_TradesRun.f k h ts l) (rowT h ts l) := by
  refine Ev.bind (sHeapsValid h hh) ?_
  have hno : rowT h ts l = ([], false) → Ev (fun k => spec_TradesRun.j0 k h ts l true) (rowT h ts l) := fun e => by
    rw [e]; exact Ev.step (f := fun _ => some ([], false)) (fun k => by simp only [spec_TradesRun.j0, if_true]) (Ev.now _)
  cases ch : okL 40 h with
  | false => simp only [Bool.false_eq_true, if_false]; exact hno (by simp [rowT, ch])
  | true =>
    simp only [if_true]
    refine Ev.bind (sTradesValid ts hs) ?_
    cases cv : okTs ts with
    | false => simp only [Bool.false_eq_true, if_false]; exact hno (by simp [rowT, cv])
    | true =>
      simp only [if_true]
      by_cases cl : (l.length : Int) > 99
      · rw [decide_eq_true cl]; exact hno (by unfold rowT; rw [if_neg (by omega)])
      · rw [decide_eq_false cl]
        rw [show rowT h ts l = pr (runs ts h l) by unfold rowT; rw [if_pos ⟨ch, cv, by omega⟩]]
        have h3 := okL_len ch
        refine Ev.step (f := fun k => spec_TradesRun.l0 k ts l h 0) (fun k => by simp only [spec_TradesRun.j0, Bool.false_eq_true, if_false, Option.bind_some, List.length_nil, List.nil_append]; rw [if_pos (by omega)]) ?_
        exact sRun_l0 (okTs_mem cv).1 (okTs_mem cv).2 l (by omega) l [] h rfl ch
end Go.Proofs.Ytlmgipjalcnfaaa.A
