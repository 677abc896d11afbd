import Derived.Test.YtlmgipjalcnfaaaKEHLPx1
import Derived.Test.YtlmgipjalcnfaaaKEHLPx4
namespace Go.Proofs.Ytlmgipjalcnfaaa.A
open Go.RowKit Go.Proofs.Ytlmgipjalcnfaaa.P Go.Proofs.YtlmgipjalcnfaaaW.PrintWords Go.Proofs.YtlmgipjalcnfaaaW.PrintLast
set_option linter.unusedVariables false
set_option linter.unusedSimpArgs false
/-! ### 1. Places in lists -/
theorem wrap_ok {n : Int} (h : -9223372036854775808 ≤ n ∧ n ≤ 9223372036854775807) : wrap64 n = n := by unfold wrap64; omega
theorem rd_mid (pre suf : List Int) (x : Int) : rd (pre ++ x :: suf) (pre.length : Int) = x := by
  unfold rd; simp [List.getD_eq_getElem?_getD]
theorem rdT_mid (pre suf : List S45) (x : S45) : rd_T45 (pre ++ x :: suf) (pre.length : Int) = x := by
  unfold rd_T45; simp [List.getD_eq_getElem?_getD]
theorem rdL_mid (pre suf : List (List Int)) (x : List Int) : rd_L1 (pre ++ x :: suf) (pre.length : Int) = x := by
  unfold rd_L1; simp [List.getD_eq_getElem?_getD]
theorem lt_mid {α : Type} (pre suf : List α) (x : α) : (pre.length : Int) < ((pre ++ x :: suf).length : Int) := by simp; omega
theorem wrap_mid {α : Type} (pre suf : List α) (x : α) (h : (pre ++ x :: suf).length ≤ 9223372036854775807) : wrap64 ((pre.length : Int) + 1) = ((pre ++ [x]).length : Int) := by
  simp at h ⊢; unfold wrap64; omega
/-! ### 2. The guards -/
def okL (m : Int) (l : List Int) : Bool := l.all (fun n => decide (0 ≤ n) && decide (n ≤ m)) && (l.length == 3)
theorem thingsOk_l0 (m : Int) (x0 : List Int) : ∀ (suf pre : List Int), (pre ++ suf).length ≤ 9223372036854775807 →
    Ev (fun k => impl_thingsOk.l0 k x0 m (pre ++ suf) ((pre ++ suf).length : Int) (pre.length : Int)) (suf.all (fun n => decide (0 ≤ n) && decide (n ≤ m)) && (x0.length == 3)) := by
  intro suf
  induction suf with
  | nil =>
    intro pre hl
    refine Ev.step (f := fun _ => some ((x0.length : Int) == 3)) (fun k => by simp only [impl_thingsOk.l0]; rw [if_neg (by simp)]) ?_
    have : ((x0.length : Int) == 3) = (List.all [] (fun n => decide (0 ≤ n) && decide (n ≤ m)) && (x0.length == 3)) := by
      simp only [List.all_nil, Bool.true_and]; rw [Bool.eq_iff_iff]; simp; omega
    rw [this]; exact Ev.now _
  | cons x suf ih =>
    intro pre hl
    have h1 := lt_mid pre suf x
    by_cases c1 : x < 0
    · refine Ev.step (f := fun _ => some false) (fun k => by simp only [impl_thingsOk.l0]; rw [if_pos h1, if_pos (by omega), if_pos h1, rd_mid, if_pos c1]) ?_
      have : List.all (x :: suf) (fun n => decide (0 ≤ n) && decide (n ≤ m)) = false := by simp [show ¬ 0 ≤ x by omega]
      rw [this]; exact Ev.now _
    · by_cases c2 : x > m
      · refine Ev.step (f := fun _ => some false) (fun k => by simp only [impl_thingsOk.l0]; rw [if_pos h1, if_pos (by omega), if_pos h1, rd_mid, if_neg c1, if_pos c2]) ?_
        have : List.all (x :: suf) (fun n => decide (0 ≤ n) && decide (n ≤ m)) = false := by simp [show ¬ x ≤ m by omega]
        rw [this]; exact Ev.now _
      · have ih := ih (pre ++ [x]) (by simpa using hl)
        rw [show pre ++ [x] ++ suf = pre ++ x :: suf by simp] at ih
        have e : List.all (x :: suf) (fun n => decide (0 ≤ n) && decide (n ≤ m)) = suf.all (fun n => decide (0 ≤ n) && decide (n ≤ m)) := by simp [show 0 ≤ x by omega, show x ≤ m by omega]
        rw [e]
        exact Ev.step (fun k => by simp only [impl_thingsOk.l0]; rw [if_pos h1, if_pos (by omega), if_pos h1, rd_mid, if_neg c1, if_neg c2, wrap_mid pre suf x hl]) ih
theorem thingsOk (m : Int) (l : List Int) (hl : l.length ≤ 9223372036854775807) : Ev (fun k => impl_thingsOk.f k l m) (okL m l) := by
  have := thingsOk_l0 m l l [] (by simpa using hl)
  exact this
theorem heapsValid (l : List Int) (hl : l.length ≤ 9223372036854775807) : Ev (fun k => impl_HeapsValid.f k l) (okL 40 l) :=
  Ev.bind (thingsOk 40 l hl) (Ev.now _)
def okT (t : S45) : Bool := okL 5 t.f0 && okL 5 t.f1
theorem tradeValid (a b : List Int) (ha : a.length ≤ 9223372036854775807) (hb : b.length ≤ 9223372036854775807) : Ev (fun k => impl_TradeValid.f k a b) (okL 5 a && okL 5 b) := by
  refine Ev.bind (thingsOk 5 a ha) ?_
  cases h : okL 5 a with
  | true => simp only [if_true, Bool.true_and]; exact Ev.bind (thingsOk 5 b hb) (Ev.now _)
  | false => exact Ev.now _
def okTs (ts : List S45) : Bool := ts.all okT && decide (ts.length ≤ 4)
def smallT (ts : List S45) : Prop := ts.length ≤ 9223372036854775807 ∧ ∀ t ∈ ts, t.f0.length ≤ 9223372036854775807 ∧ t.f1.length ≤ 9223372036854775807
theorem tradesValid_l0 (x0 : List S45) : ∀ (suf pre : List S45), smallT (pre ++ suf) →
    Ev (fun k => impl_TradesValid.l0 k x0 (pre ++ suf) ((pre ++ suf).length : Int) (pre.length : Int)) (suf.all okT && decide (x0.length ≤ 4)) := by
  intro suf
  induction suf with
  | nil =>
    intro pre hl
    refine Ev.step (f := fun _ => some (decide ((x0.length : Int) ≤ 4))) (fun k => by simp only [impl_TradesValid.l0]; rw [if_neg (by simp)]) ?_
    have : (decide ((x0.length : Int) ≤ 4)) = (List.all [] okT && decide (x0.length ≤ 4)) := by
      simp only [List.all_nil, Bool.true_and]; rw [Bool.eq_iff_iff]; simp; omega
    rw [this]; exact Ev.now _
  | cons x suf ih =>
    intro pre hl
    have h1 := lt_mid pre suf x
    have hx := hl.2 x (by simp)
    refine Ev.step (f := fun k => (impl_TradeValid.f k x.f0 x.f1).bind fun t197 => (if t197 = true then (impl_TradesValid.l0 k x0 (pre ++ x :: suf) ((pre ++ x :: suf).length : Int) (wrap64 ((pre.length : Int) + 1))) else (some false))) (fun k => by simp only [impl_TradesValid.l0]; rw [if_pos h1, if_pos (by omega), if_pos h1, rdT_mid]) ?_
    refine Ev.bind (tradeValid x.f0 x.f1 hx.1 hx.2) ?_
    cases h : (okL 5 x.f0 && okL 5 x.f1) with
    | true =>
      have ih := ih (pre ++ [x]) (by simpa using hl)
      rw [show pre ++ [x] ++ suf = pre ++ x :: suf by simp] at ih
      have e : List.all (x :: suf) okT = suf.all okT := by simp only [List.all_cons]; rw [show okT x = true from h]; simp
      rw [e]; simp only [if_true]
      rw [wrap_mid pre suf x hl.1]; exact ih
    | false =>
      have e : List.all (x :: suf) okT = false := by simp only [List.all_cons]; rw [show okT x = false from h]; simp
      rw [e]; exact Ev.now _
theorem tradesValid (ts : List S45) (hl : smallT ts) : Ev (fun k => impl_TradesValid.f k ts) (okTs ts) := tradesValid_l0 ts ts [] hl
/-! ### 3. The reference's guards -/
theorem l1In_is (n a b : Int) : spec_l1In.f n a b = some (decide (a ≤ n) && decide (n ≤ b)) := by
  unfold spec_l1In.f; by_cases h : n ≥ a
  · rw [if_pos h]; simp [show a ≤ n from h]
  · rw [if_neg h]; simp [show ¬ a ≤ n from h]
theorem l8List_l0 (m : Int) : ∀ (suf pre : List Int), (pre ++ suf).length ≤ 9223372036854775807 →
    Ev (fun k => spec_l8List.l0 k (pre ++ suf) m (pre.length : Int)) (suf.all (fun n => decide (0 ≤ n) && decide (n ≤ m)) && ((pre ++ suf).length == 3)) := by
  intro suf
  induction suf with
  | nil =>
    intro pre hl
    refine Ev.step (f := fun _ => some (((pre ++ []).length : Int) == 3)) (fun k => by simp only [spec_l8List.l0]; rw [if_neg (by simp)]) ?_
    have : (((pre ++ []).length : Int) == 3) = (List.all [] (fun n => decide (0 ≤ n) && decide (n ≤ m)) && ((pre ++ []).length == 3)) := by
      simp only [List.all_nil, Bool.true_and]; rw [Bool.eq_iff_iff]; simp; omega
    rw [this]; exact Ev.now _
  | cons x suf ih =>
    intro pre hl
    have h1 := lt_mid pre suf x
    refine Ev.step (f := fun k => (spec_l1In.f x 0 m).bind fun t107 => (if t107 = true then (spec_l8List.l0 k (pre ++ x :: suf) m (wrap64 ((pre.length : Int) + 1))) else (some false))) (fun k => by simp only [spec_l8List.l0]; rw [if_pos h1, if_pos (by omega), rd_mid]) ?_
    simp only [l1In_is, Option.bind_some]
    cases h : (decide (0 ≤ x) && decide (x ≤ m)) with
    | true =>
      have ih := ih (pre ++ [x]) (by simpa using hl)
      rw [show pre ++ [x] ++ suf = pre ++ x :: suf by simp] at ih
      have e : List.all (x :: suf) (fun n => decide (0 ≤ n) && decide (n ≤ m)) = suf.all (fun n => decide (0 ≤ n) && decide (n ≤ m)) := by simp only [List.all_cons, h, Bool.true_and]
      rw [e]; simp only [if_true]; rw [wrap_mid pre suf x hl]; exact ih
    | false =>
      have e : List.all (x :: suf) (fun n => decide (0 ≤ n) && decide (n ≤ m)) = false := by simp only [List.all_cons, h, Bool.false_and]
      rw [e]; exact Ev.now _
theorem l8List (m : Int) (l : List Int) (hl : l.length ≤ 9223372036854775807) : Ev (fun k => spec_l8List.f k l m) (okL m l) := l8List_l0 m l [] hl
theorem sHeapsValid (l : List Int) (hl : l.length ≤ 9223372036854775807) : Ev (fun k => spec_HeapsValid.f k l) (okL 40 l) := Ev.bind (l8List 40 l hl) (Ev.now _)
theorem sTradeValid (a b : List Int) (ha : a.length ≤ 9223372036854775807) (hb : b.length ≤ 9223372036854775807) : Ev (fun k => spec_TradeValid.f k a b) (okL 5 a && okL 5 b) := by
  refine Ev.bind (l8List 5 a ha) ?_
  cases h : okL 5 a with
  | true => simp only [if_true, Bool.true_and]; exact Ev.bind (l8List 5 b hb) (Ev.now _)
  | false => exact Ev.now _
theorem sTradesValid_l0 : ∀ (suf pre : List S45), smallT (pre ++ suf) →
    Ev (fun k => spec_TradesValid.l0 k (pre ++ suf) (pre.length : Int)) (suf.all okT && decide ((pre ++ suf).length ≤ 4)) := by
  intro suf
  induction suf with
  | nil =>
    intro pre hl
    refine Ev.step (f := fun _ => some (decide (((pre ++ []).length : Int) ≤ 4))) (fun k => by simp only [spec_TradesValid.l0]; rw [if_neg (by simp)]) ?_
    have : (decide (((pre ++ []).length : Int) ≤ 4)) = (List.all [] okT && decide ((pre ++ []).length ≤ 4)) := by
      simp only [List.all_nil, Bool.true_and]; rw [Bool.eq_iff_iff]; simp; omega
    rw [this]; exact Ev.now _
  | cons x suf ih =>
    intro pre hl
    have h1 := lt_mid pre suf x
    have hx := hl.2 x (by simp)
    refine Ev.step (f := fun k => (spec_TradeValid.f k x.f0 x.f1).bind fun t197 => (if t197 = true then (spec_TradesValid.l0 k (pre ++ x :: suf) (wrap64 ((pre.length : Int) + 1))) else (some false))) (fun k => by simp only [spec_TradesValid.l0]; rw [if_pos h1, if_pos (by omega), rdT_mid]) ?_
    refine Ev.bind (sTradeValid x.f0 x.f1 hx.1 hx.2) ?_
    cases h : (okL 5 x.f0 && okL 5 x.f1) with
    | true =>
      have ih := ih (pre ++ [x]) (by simpa using hl)
      rw [show pre ++ [x] ++ suf = pre ++ x :: suf by simp] at ih
      have e : List.all (x :: suf) okT = suf.all okT := by simp only [List.all_cons]; rw [show okT x = true from h]; simp
      rw [e]; simp only [if_true]
      rw [wrap_mid pre suf x hl.1]; exact ih
    | false =>
      have e : List.all (x :: suf) okT = false := by simp only [List.all_cons]; rw [show okT x = false from h]; simp
      rw [e]; exact Ev.now _
theorem sTradesValid (ts : List S45) (hl : smallT ts) : Ev (fun k => spec_TradesValid.f k ts) (okTs ts) := sTradesValid_l0 ts [] hl
end Go.Proofs.Ytlmgipjalcnfaaa.A
