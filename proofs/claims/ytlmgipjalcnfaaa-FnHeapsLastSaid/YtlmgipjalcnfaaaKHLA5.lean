import Derived.Test.YtlmgipjalcnfaaaKHLA4
import Derived.Test.YtlmgipjalcnfaaaKHLPx10
namespace Go.Proofs.Ytlmgipjalcnfaaa.A
open Go.RowKit Go.Proofs.Ytlmgipjalcnfaaa.P Go.Proofs.YtlmgipjalcnfaaaW.PrintWords Go.Proofs.YtlmgipjalcnfaaaW.PrintLast
set_option linter.unusedVariables false
set_option linter.unusedSimpArgs false
/-! ### 8. The laws' own words -/
theorem wrap_next {i : Nat} (h : i < 9223372036854775807) : wrap64 ((i : Int) + 1) = ((i + 1 : Nat) : Int) := by unfold wrap64; omega
theorem rd_at {l : List Int} {i : Nat} {x : Int} (h : l[i]? = some x) : rd l (i : Int) = x := by simp [rd, List.getD_eq_getElem?_getD, h]
theorem dec_cons {α : Type} [DecidableEq α] {x y : α} {l m : List α} (h : x = y) : decide (x :: l = y :: m) = decide (l = m) := by subst h; simp
theorem dec_cons_ne {α : Type} [DecidableEq α] {x y : α} {l m : List α} (h : ¬ x = y) : decide (x :: l = y :: m) = false := by simp [h]
theorem dec_mem {α : Type} {x y : α} {l : List α} [i1 : Decidable (x ∈ y :: l)] [i2 : Decidable (x ∈ l)] (h : ¬ y = x) : decide (x ∈ y :: l) = decide (x ∈ l) := by rw [Bool.eq_iff_iff, decide_eq_true_eq, decide_eq_true_eq, List.mem_cons]; exact ⟨fun h' => h'.resolve_left (Ne.symm h), .inr⟩
theorem sameInts_l0 (a b : List Int) (hl : a.length = b.length) (hb : a.length < 9223372036854775807) : ∀ (d i : Nat), i + d = a.length → Ev (fun k => laws_sameInts.l0 k a b (i : Int)) (decide (a.drop i = b.drop i)) := by
  intro d
  induction d with
  | zero =>
    intro i hi
    rw [List.drop_eq_nil_of_le (by omega), List.drop_eq_nil_of_le (by omega)]
    exact Ev.step (f := fun _ => some true) (fun k => by simp only [laws_sameInts.l0]; rw [if_neg (by omega)]) (Ev.now _)
  | succ d ih =>
    intro i hi
    have h1 : i < a.length := by omega
    have h2 : i < b.length := by omega
    have e1 := rd_at (List.getElem?_eq_getElem h1)
    have e2 := rd_at (List.getElem?_eq_getElem h2)
    rw [List.drop_eq_getElem_cons h1, List.drop_eq_getElem_cons h2]
    by_cases c : a[i] = b[i]
    · rw [dec_cons c]
      exact Ev.step (fun k => by simp only [laws_sameInts.l0]; rw [if_pos (by omega), if_pos (by omega), if_pos (by omega), e1, e2, if_pos c, wrap_next (by omega)]) (ih (i + 1) (by omega))
    · rw [dec_cons_ne c]
      exact Ev.step (f := fun _ => some false) (fun k => by simp only [laws_sameInts.l0]; rw [if_pos (by omega), if_pos (by omega), if_pos (by omega), e1, e2, if_neg c]) (Ev.now _)
theorem sameInts (a b : List Int) (hb : a.length < 9223372036854775807) : Ev (fun k => laws_sameInts.f k a b) (decide (a = b)) := by
  by_cases hl : a.length = b.length
  · have := sameInts_l0 a b hl hb a.length 0 (by omega)
    exact Ev.congr (fun k => by unfold laws_sameInts.f; rw [if_pos (by omega)]) (by simpa using this)
  · rw [show decide (a = b) = false by simp; intro h; exact hl (by rw [h])]
    exact Ev.congr (f := fun _ => some false) (fun k => by unfold laws_sameInts.f; rw [if_neg (by omega)]) (Ev.now _)
theorem sameLists_l0 (a b : List (List Int)) (hl : a.length = b.length) (hb : a.length < 9223372036854775807) (hs : ∀ x ∈ a, x.length < 9223372036854775807) : ∀ (d i : Nat), i + d = a.length → Ev (fun k => laws_sameLists.l0 k a b (i : Int)) (decide (a.drop i = b.drop i)) := by
  intro d
  induction d with
  | zero =>
    intro i hi
    rw [List.drop_eq_nil_of_le (by omega), List.drop_eq_nil_of_le (by omega)]
    exact Ev.step (f := fun _ => some true) (fun k => by simp only [laws_sameLists.l0]; rw [if_neg (by omega)]) (Ev.now _)
  | succ d ih =>
    intro i hi
    have h1 : i < a.length := by omega
    have h2 : i < b.length := by omega
    have e1 := rdL_at (List.getElem?_eq_getElem h1)
    have e2 := rdL_at (List.getElem?_eq_getElem h2)
    rw [List.drop_eq_getElem_cons h1, List.drop_eq_getElem_cons h2]
    refine Ev.step (f := fun k => (laws_sameInts.f k a[i] b[i]).bind fun t337 => (if t337 = true then (laws_sameLists.l0 k a b ((i + 1 : Nat) : Int)) else (some false))) (fun k => by simp only [laws_sameLists.l0]; rw [if_pos (by omega), if_pos (by omega), if_pos (by omega), e1, e2, wrap_next (by omega)]) ?_
    refine Ev.bind (sameInts a[i] b[i] (hs _ (List.getElem_mem h1))) ?_
    by_cases c : a[i] = b[i]
    · rw [dec_cons c]; simp only [c, decide_true, if_true]
      exact ih (i + 1) (by omega)
    · rw [dec_cons_ne c]; simp only [c, decide_false, Bool.false_eq_true, if_false]
      exact Ev.now _
theorem sameLists (a b : List (List Int)) (hb : a.length < 9223372036854775807) (hs : ∀ x ∈ a, x.length < 9223372036854775807) : Ev (fun k => laws_sameLists.f k a b) (decide (a = b)) := by
  by_cases hl : a.length = b.length
  · have := sameLists_l0 a b hl hb hs a.length 0 (by omega)
    exact Ev.congr (fun k => by unfold laws_sameLists.f; rw [if_pos (by omega)]) (by simpa using this)
  · rw [show decide (a = b) = false by simp; intro h; exact hl (by rw [h])]
    exact Ev.congr (f := fun _ => some false) (fun k => by unfold laws_sameLists.f; rw [if_neg (by omega)]) (Ev.now _)
theorem hasList_l0 (a : List (List Int)) (x : List Int) (hb : a.length < 9223372036854775807) (hs : ∀ y ∈ a, y.length < 9223372036854775807) : ∀ (d i : Nat), i + d = a.length → Ev (fun k => laws_hasList.l0 k a x (i : Int)) (decide (x ∈ a.drop i)) := by
  intro d
  induction d with
  | zero =>
    intro i hi
    rw [List.drop_eq_nil_of_le (by omega)]
    exact Ev.step (f := fun _ => some false) (fun k => by simp only [laws_hasList.l0]; rw [if_neg (by omega)]) (by simpa using Ev.now false)
  | succ d ih =>
    intro i hi
    have h1 : i < a.length := by omega
    have e1 := rdL_at (List.getElem?_eq_getElem h1)
    rw [List.drop_eq_getElem_cons h1]
    refine Ev.step (f := fun k => (laws_sameInts.f k a[i] x).bind fun t368 => (if t368 = true then (some true) else (laws_hasList.l0 k a x ((i + 1 : Nat) : Int)))) (fun k => by simp only [laws_hasList.l0]; rw [if_pos (by omega), if_pos (by omega), e1, wrap_next (by omega)]) ?_
    refine Ev.bind (sameInts a[i] x (hs _ (List.getElem_mem h1))) ?_
    by_cases c : a[i] = x
    · simp only [c, decide_true, if_true]
      rw [show decide (x ∈ x :: a.drop (i + 1)) = true by simp]
      exact Ev.now _
    · simp only [c, decide_false, Bool.false_eq_true, if_false]
      rw [dec_mem c]
      exact ih (i + 1) (by omega)
theorem hasList (a : List (List Int)) (x : List Int) (hb : a.length < 9223372036854775807) (hs : ∀ y ∈ a, y.length < 9223372036854775807) : Ev (fun k => laws_hasList.f k a x) (decide (x ∈ a)) := by
  have := hasList_l0 a x hb hs a.length 0 (by omega)
  rw [List.drop_zero] at this
  exact this
theorem alive : Ev (fun k => laws_alive.f k) true := by
  refine Ev.of (k := 9) laws_alive.mono ?_
  decide +kernel
end Go.Proofs.Ytlmgipjalcnfaaa.A
