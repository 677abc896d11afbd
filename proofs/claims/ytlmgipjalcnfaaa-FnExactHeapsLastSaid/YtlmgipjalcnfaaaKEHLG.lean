set_option linter.unusedVariables false
set_option linter.unusedSectionVars false
set_option linter.unusedSimpArgs false
namespace Go.Proofs.Ytlmgipjalcnfaaa.G
section
variable {α : Type} [DecidableEq α] (sc : α → List α)
/-! ### Walks -/
inductive Walk : α → Nat → Prop
  | zero (x : α) : Walk x 0
  | step {x y : α} {n : Nat} : y ∈ sc x → Walk y n → Walk x (n + 1)
inductive Reach (h : α) : α → Prop
  | self : Reach h h
  | step {x y : α} : Reach h x → y ∈ sc x → Reach h y
variable {sc}
theorem Reach.trans {a b c : α} (h1 : Reach sc a b) (h2 : Reach sc b c) : Reach sc a c := by
  induction h2 with
  | self => exact h1
  | step _ hy ih => exact .step ih hy
/-! ### Counting -/
/-! ### A long walk in few places never ends -/
end
/-! ### Relaxing -/
section
variable {α : Type} [DecidableEq α] (sc : α → List α)
def best (long : α → Int) (a : Int) (ys : List α) : Int := ys.foldl (fun n y => max n (long y + 1)) a
def up (long : α → Int) (x : α) (n : Int) : α → Int := fun z => if z = x then n else long z
def relax (st : (α → Int) × Bool) (x : α) : (α → Int) × Bool := if best st.1 0 (sc x) = st.1 x then st else (up st.1 x (best st.1 0 (sc x)), true)
def round (long : α → Int) (L : List α) : (α → Int) × Bool := L.foldl (relax sc) (long, false)
def run (h : α) (L : List α) : Nat → (α → Int) → Int
  | 0, _ => -1
  | r + 1, long => if (round sc long L).2 = true then run h L r (round sc long L).1 else (round sc long L).1 h
variable {sc}
end
/-! ### Peeling -/
section
variable {α : Type} [DecidableEq α] (sc : α → List α)
variable {sc}
end
/-! ### What is reached, in its order -/
section
variable {α : Type} [DecidableEq α] (sc : α → List α)
def addNew (L : List α) (ys : List α) : List α := ys.foldl (fun L y => if y ∈ L then L else L ++ [y]) L
/-- [] where more than 400 are reached -/
def bfs : Nat → List α → Nat → List α
  | 0, L, _ => L
  | f + 1, L, i => match L[i]? with
    | none => L
    | some x => if 400 < (addNew L (sc x)).length then [] else bfs f (addNew L (sc x)) (i + 1)
variable {sc}
theorem addNew_pre : ∀ (ys L : List α), ∃ e, addNew L ys = L ++ e
  | [], L => ⟨[], by simp [addNew]⟩
  | y :: ys, L => by
    by_cases h : y ∈ L
    · obtain ⟨e, he⟩ := addNew_pre ys L
      exact ⟨e, by simpa [addNew, h] using he⟩
    · obtain ⟨e, he⟩ := addNew_pre ys (L ++ [y])
      exact ⟨y :: e, by simpa [addNew, h] using he⟩
theorem addNew_len (ys L : List α) : L.length ≤ (addNew L ys).length := by
  obtain ⟨e, he⟩ := addNew_pre ys L
  rw [he]; simp
theorem addNew_mem : ∀ (ys L : List α) (x : α), x ∈ addNew L ys ↔ x ∈ L ∨ x ∈ ys
  | [], L, x => by simp [addNew]
  | y :: ys, L, x => by
    by_cases h : y ∈ L
    · have := addNew_mem ys L x
      simp only [addNew, List.foldl_cons, h, if_true] at this ⊢
      rw [this, List.mem_cons]
      constructor
      · rintro (h1 | h1)
        · exact .inl h1
        · exact .inr (.inr h1)
      · rintro (h1 | rfl | h1)
        · exact .inl h1
        · exact .inl h
        · exact .inr h1
    · have := addNew_mem ys (L ++ [y]) x
      simp only [addNew, List.foldl_cons, h, if_false] at this ⊢
      rw [this, List.mem_cons, List.mem_append, List.mem_singleton]
      constructor
      · rintro ((h1 | h1) | h1)
        · exact .inl h1
        · exact .inr (.inl h1)
        · exact .inr (.inr h1)
      · rintro (h1 | h1 | h1)
        · exact .inl (.inl h1)
        · exact .inl (.inr h1)
        · exact .inr h1
theorem addNew_nodup : ∀ (ys L : List α), L.Nodup → (addNew L ys).Nodup
  | [], L, h => h
  | y :: ys, L, h => by
    by_cases hy : y ∈ L
    · simpa [addNew, hy] using addNew_nodup ys L h
    · have : (L ++ [y]).Nodup := by
        rw [List.nodup_append]
        exact ⟨h, by simp, fun a ha b hb => by rw [List.mem_singleton] at hb; subst hb; exact fun e => hy (e ▸ ha)⟩
      simpa [addNew, hy] using addNew_nodup ys (L ++ [y]) this
structure Bfs (sc : α → List α) (h : α) (L : List α) : Prop where
  nodup : L.Nodup
  first : ∃ e, L = h :: e
  reach : ∀ x ∈ L, Reach sc h x
theorem bfs_is {h : α} : ∀ (f : Nat) (L : List α) (i : Nat), Bfs sc h L → (∀ j < i, ∀ x, L[j]? = some x → ∀ y ∈ sc x, y ∈ L) → L.length ≤ 400 → 400 < f + i → i ≤ L.length →
    bfs sc f L i = [] ∨ (Bfs sc h (bfs sc f L i) ∧ (∀ x ∈ bfs sc f L i, ∀ y ∈ sc x, y ∈ bfs sc f L i) ∧ (bfs sc f L i).length ≤ 400) := by
  intro f
  induction f with
  | zero => intro L i hb hd hl hf hi; omega
  | succ f ih =>
    intro L i hb hd hl hf hi
    rcases hx : L[i]? with _ | x
    · have hi' : i = L.length := by have := List.getElem?_eq_none_iff.1 hx; omega
      have e : bfs sc (f + 1) L i = L := by simp [bfs, hx]
      rw [e]
      refine .inr ⟨hb, fun x hx y hy => ?_, hl⟩
      obtain ⟨j, hj, hjx⟩ := List.getElem_of_mem hx
      exact hd j (by omega) x (by rw [List.getElem?_eq_getElem hj, hjx]) y hy
    · have hxL : x ∈ L := List.mem_of_getElem? hx
      have hil : i < L.length := (List.getElem?_eq_some_iff.1 hx).1
      by_cases hlong : 400 < (addNew L (sc x)).length
      · exact .inl (by simp [bfs, hx, hlong])
      · have e : bfs sc (f + 1) L i = bfs sc f (addNew L (sc x)) (i + 1) := by simp [bfs, hx, hlong]
        rw [e]
        obtain ⟨e', he'⟩ := addNew_pre (sc x) L
        refine ih (addNew L (sc x)) (i + 1) ⟨addNew_nodup _ _ hb.nodup, ?_, ?_⟩ ?_ (by omega) (by omega) (by rw [he']; simp; omega)
        · obtain ⟨e1, h1⟩ := hb.first
          exact ⟨e1 ++ e', by rw [he', h1]; rfl⟩
        · intro y hy
          rcases (addNew_mem _ _ _).1 hy with hy | hy
          · exact hb.reach y hy
          · exact .step (hb.reach x hxL) hy
        · intro j hj z hz y hy
          rcases Nat.lt_or_ge j i with hji | hji
          · rw [he', List.getElem?_append_left (by omega)] at hz
            exact (addNew_mem _ _ _).2 (.inl (hd j hji z hz y hy))
          · have : j = i := by omega
            subst this
            rw [he', List.getElem?_append_left hil, hx] at hz
            injection hz with hz
            subst hz
            exact (addNew_mem _ _ _).2 (.inr hy)
def reached (sc : α → List α) (h : α) : List α := bfs sc 401 [h] 0
theorem reached_is (h : α) : reached sc h = [] ∨ (Bfs sc h (reached sc h) ∧ (∀ x ∈ reached sc h, ∀ y ∈ sc x, y ∈ reached sc h) ∧ (reached sc h).length ≤ 400) :=
  bfs_is 401 [h] 0 ⟨by simp, ⟨[], rfl⟩, fun x hx => by rw [List.mem_singleton] at hx; subst hx; exact .self⟩ (fun j hj => by omega) (by simp) (by omega) (by simp)
end
end Go.Proofs.Ytlmgipjalcnfaaa.G
