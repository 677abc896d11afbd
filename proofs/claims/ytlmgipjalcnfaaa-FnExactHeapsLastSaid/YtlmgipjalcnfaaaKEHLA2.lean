import Derived.Test.YtlmgipjalcnfaaaKEHLA1
import Derived.Test.YtlmgipjalcnfaaaKEHLPx12
import Derived.Test.YtlmgipjalcnfaaaKEHLPx2
import Derived.Test.YtlmgipjalcnfaaaKEHLPx5
namespace Go.Proofs.Ytlmgipjalcnfaaa.A
open Go.RowKit Go.Proofs.Ytlmgipjalcnfaaa.P Go.Proofs.YtlmgipjalcnfaaaW.PrintWords Go.Proofs.YtlmgipjalcnfaaaW.PrintLast
set_option linter.unusedVariables false
set_option linter.unusedSimpArgs false
/-! ### 4. One exchange -/
def canL : List Int → List Int → List Int → Bool
  | n :: h, x :: a, y :: b => decide (x ≤ n) && decide (n - x + y ≤ 40) && canL h a b
  | _, _, _ => true
def nxtL : List Int → List Int → List Int → List Int
  | n :: h, x :: a, y :: b => (n - x + y) :: nxtL h a b
  | _, _, _ => []
def stp (h : List Int) (t : S45) : Option (List Int) := if canL h t.f0 t.f1 = true then some (nxtL h t.f0 t.f1) else none
theorem okL_is {m : Int} {l : List Int} (h : okL m l = true) : ∃ x y z, l = [x, y, z] ∧ 0 ≤ x ∧ x ≤ m ∧ 0 ≤ y ∧ y ≤ m ∧ 0 ≤ z ∧ z ≤ m := by
  unfold okL at h
  simp only [Bool.and_eq_true, beq_iff_eq] at h
  obtain ⟨h1, h2⟩ := h
  match l, h2 with
  | [x, y, z], _ =>
    simp at h1
    exact ⟨x, y, z, rfl, by omega⟩
theorem okL_mk {m x y z : Int} (h : 0 ≤ x ∧ x ≤ m ∧ 0 ≤ y ∧ y ≤ m ∧ 0 ≤ z ∧ z ≤ m) : okL m [x, y, z] = true := by
  unfold okL; simp; omega
theorem okL_len {m : Int} {l : List Int} (h : okL m l = true) : l.length = 3 := by
  obtain ⟨x, y, z, rfl, _⟩ := okL_is h; rfl
theorem stp_ok {h : List Int} {t : S45} (hh : okL 40 h = true) (ht : okT t = true) {y : List Int} (hs : stp h t = some y) : okL 40 y = true := by
  obtain ⟨n0, n1, n2, rfl, hn⟩ := okL_is hh
  unfold okT at ht
  simp only [Bool.and_eq_true] at ht
  obtain ⟨a0, a1, a2, ea, ha⟩ := okL_is ht.1
  obtain ⟨b0, b1, b2, eb, hb⟩ := okL_is ht.2
  unfold stp at hs
  rw [ea, eb] at hs
  split at hs
  · rename_i hc
    injection hs with hs
    subst hs
    simp [canL] at hc
    exact okL_mk (by omega)
  · cases hs
def pr (o : Option (List Int)) : List Int × Bool := match o with
  | some y => (y, true)
  | none => ([], false)
theorem pr_pos {h a b : List Int} (hc : canL h a b = true) : pr (stp h ⟨a, b⟩) = (nxtL h a b, true) := by
  unfold stp; rw [if_pos hc]; rfl
theorem pr_neg {h a b : List Int} (hc : ¬ canL h a b = true) : pr (stp h ⟨a, b⟩) = ([], false) := by
  unfold stp; rw [if_neg hc]; rfl
theorem wrap_small {n : Int} (h0 : -9223372036854775808 ≤ n) (h1 : n ≤ 9223372036854775807) : wrap64 n = n := by unfold wrap64; omega
/-- one place of impl's -/
theorem traded_one (d d' H a b : List Int) (L i i' : Int) (n x y : Int) (hL : L = 3) (hi : 0 ≤ i ∧ i < 3) (hi' : i' = i + 1) (eH : rd H i = n) (ea : rd a i = x) (eb : rd b i = y) (hn : 0 ≤ n ∧ n ≤ 40) (hx : 0 ≤ x ∧ x ≤ 5) (hy : 0 ≤ y ∧ y ≤ 5) (hl : H.length = 3) (hla : a.length = 3) (hlb : b.length = 3) (hd : d.length ≤ 3) (hd' : d' = d ++ [n - x + y]) (r : List Int × Bool) :
    (if x ≤ n ∧ n - x + y ≤ 40 then Ev (fun k => impl_traded.l0 k d' H L i' a b) r else r = ([], false)) →
    Ev (fun k => impl_traded.l0 k d H L i a b) r := by
  intro h
  have w1 : wrap64 (wrap64 (n - x) + y) = n - x + y := by rw [wrap_small (n := n - x) (by omega) (by omega), wrap_small (by omega) (by omega)]
  have w2 : wrap64 (i + 1) = i' := by rw [hi']; exact wrap_small (by omega) (by omega)
  have g1 : i < L := by omega
  have g2 : i < (H.length : Int) := by omega
  have g3 : i < (a.length : Int) := by omega
  have g4 : i < (b.length : Int) := by omega
  have g5 : d.length < 17592186044416 := by omega
  subst hd'
  by_cases c1 : x ≤ n
  · by_cases c2 : n - x + y ≤ 40
    · rw [if_pos ⟨c1, c2⟩] at h
      exact Ev.step (fun k => by simp only [impl_traded.l0]; rw [if_pos g1, if_pos hi.1, if_pos g2, if_pos g3, eH, ea, if_neg (by omega), if_pos g4, eb, w1, if_neg (by omega), if_pos g5, w2]) h
    · rw [if_neg (fun h => c2 h.2)] at h
      subst h
      exact Ev.step (fun k => by simp only [impl_traded.l0]; rw [if_pos g1, if_pos hi.1, if_pos g2, if_pos g3, eH, ea, if_neg (by omega), if_pos g4, eb, w1, if_pos (by omega)]) (Ev.now _)
  · rw [if_neg (fun h => c1 h.1)] at h
    subst h
    exact Ev.step (fun k => by simp only [impl_traded.l0]; rw [if_pos g1, if_pos hi.1, if_pos g2, if_pos g3, eH, ea, if_pos (by omega)]) (Ev.now _)
theorem traded {h a b : List Int} (hh : okL 40 h = true) (ha : okL 5 a = true) (hb : okL 5 b = true) : Ev (fun k => impl_traded.f k h a b) (pr (stp h ⟨a, b⟩)) := by
  obtain ⟨n0, n1, n2, rfl, hn⟩ := okL_is hh
  obtain ⟨a0, a1, a2, rfl, ha⟩ := okL_is ha
  obtain ⟨b0, b1, b2, rfl, hb⟩ := okL_is hb
  show Ev (fun k => impl_traded.l0 k [] [n0, n1, n2] 3 0 _ _) _
  by_cases c0 : a0 ≤ n0 ∧ n0 - a0 + b0 ≤ 40
  case neg =>
    have e : pr (stp [n0, n1, n2] ⟨[a0, a1, a2], [b0, b1, b2]⟩) = ([], false) := pr_neg (by simp [canL]; omega)
    exact traded_one [] [n0 - a0 + b0] [n0, n1, n2] [a0, a1, a2] [b0, b1, b2] 3 0 1 n0 a0 b0 rfl (by omega) (by omega) rfl rfl rfl (by omega) (by omega) (by omega) rfl rfl rfl (by simp) rfl _ (by rw [if_neg c0]; exact e)
  refine traded_one [] [n0 - a0 + b0] [n0, n1, n2] [a0, a1, a2] [b0, b1, b2] 3 0 1 n0 a0 b0 rfl (by omega) (by omega) rfl rfl rfl (by omega) (by omega) (by omega) rfl rfl rfl (by simp) rfl _ ?_
  rw [if_pos c0]
  by_cases c1 : a1 ≤ n1 ∧ n1 - a1 + b1 ≤ 40
  case neg =>
    have e : pr (stp [n0, n1, n2] ⟨[a0, a1, a2], [b0, b1, b2]⟩) = ([], false) := pr_neg (by simp [canL]; omega)
    exact traded_one [n0 - a0 + b0] [n0 - a0 + b0, n1 - a1 + b1] [n0, n1, n2] [a0, a1, a2] [b0, b1, b2] 3 1 2 n1 a1 b1 rfl (by omega) (by omega) rfl rfl rfl (by omega) (by omega) (by omega) rfl rfl rfl (by simp) rfl _ (by rw [if_neg c1]; exact e)
  refine traded_one [n0 - a0 + b0] [n0 - a0 + b0, n1 - a1 + b1] [n0, n1, n2] [a0, a1, a2] [b0, b1, b2] 3 1 2 n1 a1 b1 rfl (by omega) (by omega) rfl rfl rfl (by omega) (by omega) (by omega) rfl rfl rfl (by simp) rfl _ ?_
  rw [if_pos c1]
  by_cases c2 : a2 ≤ n2 ∧ n2 - a2 + b2 ≤ 40
  case neg =>
    have e : pr (stp [n0, n1, n2] ⟨[a0, a1, a2], [b0, b1, b2]⟩) = ([], false) := pr_neg (by simp [canL]; omega)
    exact traded_one [n0 - a0 + b0, n1 - a1 + b1] [n0 - a0 + b0, n1 - a1 + b1, n2 - a2 + b2] [n0, n1, n2] [a0, a1, a2] [b0, b1, b2] 3 2 3 n2 a2 b2 rfl (by omega) (by omega) rfl rfl rfl (by omega) (by omega) (by omega) rfl rfl rfl (by simp) rfl _ (by rw [if_neg c2]; exact e)
  refine traded_one [n0 - a0 + b0, n1 - a1 + b1] [n0 - a0 + b0, n1 - a1 + b1, n2 - a2 + b2] [n0, n1, n2] [a0, a1, a2] [b0, b1, b2] 3 2 3 n2 a2 b2 rfl (by omega) (by omega) rfl rfl rfl (by omega) (by omega) (by omega) rfl rfl rfl (by simp) rfl _ ?_
  rw [if_pos c2]
  have e : pr (stp [n0, n1, n2] ⟨[a0, a1, a2], [b0, b1, b2]⟩) = ([n0 - a0 + b0, n1 - a1 + b1, n2 - a2 + b2], true) := pr_pos (by simp [canL]; omega)
  rw [e]
  exact Ev.step (f := fun _ => some _) (fun k => by simp only [impl_traded.l0]; rw [if_neg (by omega)]) (Ev.now _)
/-- one place of the reference's -/
theorem sTradeDo_one (d d' H a b : List Int) (i i' : Int) (n x y : Int) (hi : 0 ≤ i ∧ i < 3) (hi' : i' = i + 1) (eH : rd H i = n) (ea : rd a i = x) (eb : rd b i = y) (hn : 0 ≤ n ∧ n ≤ 40) (hx : 0 ≤ x ∧ x ≤ 5) (hy : 0 ≤ y ∧ y ≤ 5) (hl : H.length = 3) (hla : a.length = 3) (hlb : b.length = 3) (hd : d.length ≤ 3) (hd' : d' = d ++ [n - x + y]) (r : List Int × Bool) :
    (if x ≤ n then Ev (fun k => spec_TradeDo.l0 k H d' i' a b) r else r = ([], false)) →
    Ev (fun k => spec_TradeDo.l0 k H d i a b) r := by
  intro h
  have w1 : wrap64 (wrap64 (n - x) + y) = n - x + y := by rw [wrap_small (n := n - x) (by omega) (by omega), wrap_small (by omega) (by omega)]
  have w2 : wrap64 (i + 1) = i' := by rw [hi']; exact wrap_small (by omega) (by omega)
  have g2 : i < (H.length : Int) := by omega
  have g3 : i < (a.length : Int) := by omega
  have g4 : i < (b.length : Int) := by omega
  have g5 : d.length < 17592186044416 := by omega
  subst hd'
  by_cases c1 : x ≤ n
  · rw [if_pos c1] at h
    exact Ev.step (fun k => by simp only [spec_TradeDo.l0]; rw [if_pos hi.2, if_pos hi.1, if_pos g2, if_pos g3, eH, ea, if_neg (by omega), if_pos g4, if_pos g5, eb, w1, w2]) h
  · rw [if_neg c1] at h
    subst h
    exact Ev.step (fun k => by simp only [spec_TradeDo.l0]; rw [if_pos hi.2, if_pos hi.1, if_pos g2, if_pos g3, eH, ea, if_pos (by omega)]) (Ev.now _)
theorem sTradeDo {h a b : List Int} (hh : okL 40 h = true) (ha : okL 5 a = true) (hb : okL 5 b = true) : Ev (fun k => spec_TradeDo.f k h a b) (pr (stp h ⟨a, b⟩)) := by
  refine Ev.bind (sHeapsValid h (by rw [okL_len hh]; decide)) ?_
  rw [hh]; simp only [if_true]
  refine Ev.bind (sTradeValid a b (by rw [okL_len ha]; decide) (by rw [okL_len hb]; decide)) ?_
  rw [ha, hb]
  refine Ev.step (f := fun k => spec_TradeDo.l0 k h [] 0 a b) (fun k => by simp only [spec_TradeDo.j0]; rw [if_neg (by simp)]) ?_
  obtain ⟨n0, n1, n2, rfl, hn⟩ := okL_is hh
  obtain ⟨a0, a1, a2, rfl, ha⟩ := okL_is ha
  obtain ⟨b0, b1, b2, rfl, hb⟩ := okL_is hb
  by_cases c0 : a0 ≤ n0
  case neg =>
    have e : pr (stp [n0, n1, n2] ⟨[a0, a1, a2], [b0, b1, b2]⟩) = ([], false) := pr_neg (by simp [canL]; omega)
    exact sTradeDo_one [] [n0 - a0 + b0] [n0, n1, n2] [a0, a1, a2] [b0, b1, b2] 0 1 n0 a0 b0 (by omega) (by omega) rfl rfl rfl (by omega) (by omega) (by omega) rfl rfl rfl (by simp) rfl _ (by rw [if_neg c0]; exact e)
  refine sTradeDo_one [] [n0 - a0 + b0] [n0, n1, n2] [a0, a1, a2] [b0, b1, b2] 0 1 n0 a0 b0 (by omega) (by omega) rfl rfl rfl (by omega) (by omega) (by omega) rfl rfl rfl (by simp) rfl _ ?_
  rw [if_pos c0]
  by_cases c1 : a1 ≤ n1
  case neg =>
    have e : pr (stp [n0, n1, n2] ⟨[a0, a1, a2], [b0, b1, b2]⟩) = ([], false) := pr_neg (by simp [canL]; omega)
    exact sTradeDo_one [n0 - a0 + b0] [n0 - a0 + b0, n1 - a1 + b1] [n0, n1, n2] [a0, a1, a2] [b0, b1, b2] 1 2 n1 a1 b1 (by omega) (by omega) rfl rfl rfl (by omega) (by omega) (by omega) rfl rfl rfl (by simp) rfl _ (by rw [if_neg c1]; exact e)
  refine sTradeDo_one [n0 - a0 + b0] [n0 - a0 + b0, n1 - a1 + b1] [n0, n1, n2] [a0, a1, a2] [b0, b1, b2] 1 2 n1 a1 b1 (by omega) (by omega) rfl rfl rfl (by omega) (by omega) (by omega) rfl rfl rfl (by simp) rfl _ ?_
  rw [if_pos c1]
  by_cases c2 : a2 ≤ n2
  case neg =>
    have e : pr (stp [n0, n1, n2] ⟨[a0, a1, a2], [b0, b1, b2]⟩) = ([], false) := pr_neg (by simp [canL]; omega)
    exact sTradeDo_one [n0 - a0 + b0, n1 - a1 + b1] [n0 - a0 + b0, n1 - a1 + b1, n2 - a2 + b2] [n0, n1, n2] [a0, a1, a2] [b0, b1, b2] 2 3 n2 a2 b2 (by omega) (by omega) rfl rfl rfl (by omega) (by omega) (by omega) rfl rfl rfl (by simp) rfl _ (by rw [if_neg c2]; exact e)
  refine sTradeDo_one [n0 - a0 + b0, n1 - a1 + b1] [n0 - a0 + b0, n1 - a1 + b1, n2 - a2 + b2] [n0, n1, n2] [a0, a1, a2] [b0, b1, b2] 2 3 n2 a2 b2 (by omega) (by omega) rfl rfl rfl (by omega) (by omega) (by omega) rfl rfl rfl (by simp) rfl _ ?_
  rw [if_pos c2]
  refine Ev.step (f := fun k => (spec_HeapsValid.f k [n0 - a0 + b0, n1 - a1 + b1, n2 - a2 + b2]).bind fun t137 => (if t137 = true then (some ([n0 - a0 + b0, n1 - a1 + b1, n2 - a2 + b2], true)) else (some ((([] : List Int)), false)))) (fun k => by simp only [spec_TradeDo.l0]; rw [if_neg (by omega)]) ?_
  refine Ev.bind (sHeapsValid _ (by simp)) ?_
  by_cases c : n0 - a0 + b0 ≤ 40 ∧ n1 - a1 + b1 ≤ 40 ∧ n2 - a2 + b2 ≤ 40
  · rw [okL_mk (by omega), if_pos rfl]
    have e : pr (stp [n0, n1, n2] ⟨[a0, a1, a2], [b0, b1, b2]⟩) = ([n0 - a0 + b0, n1 - a1 + b1, n2 - a2 + b2], true) := pr_pos (by simp [canL]; omega)
    rw [e]; exact Ev.now _
  · have e : pr (stp [n0, n1, n2] ⟨[a0, a1, a2], [b0, b1, b2]⟩) = ([], false) := pr_neg (by simp [canL]; omega)
    have e2 : okL 40 [n0 - a0 + b0, n1 - a1 + b1, n2 - a2 + b2] = false := by
      rw [Bool.eq_false_iff]; intro h; obtain ⟨x, y, z, he, hb⟩ := okL_is h; injection he with h1 h2; injection h2 with h2 h3; injection h3 with h3 _; omega
    rw [e, e2]; exact Ev.now _
end Go.Proofs.Ytlmgipjalcnfaaa.A
