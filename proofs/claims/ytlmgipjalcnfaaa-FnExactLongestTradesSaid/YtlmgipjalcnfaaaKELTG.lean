set_option linter.unusedVariables false
set_option linter.unusedSectionVars false
set_option linter.unusedSimpArgs false
namespace Go.Proofs.Ytlmgipjalcnfaaa.G
section
variable {α : Type} [DecidableEq α] (sc : α → List α)
/-! ### Walks -/
inductive Walk : α → Nat → Prop
  | zero (x : α) : Walk x 0
  | step {x y : α} {n : Nat} : y ∈ sc x → Walk y n → Walk x (n + 1)
inductive Reach (h : α) : α → Prop
  | self : Reach h h
  | step {x y : α} : Reach h x → y ∈ sc x → Reach h y
variable {sc}
theorem Reach.trans {a b c : α} (h1 : Reach sc a b) (h2 : Reach sc b c) : Reach sc a c := by
  induction h2 with
  | self => exact h1
  | step _ hy ih => exact .step ih hy
theorem Walk.less {n : Nat} : ∀ {x : α}, Walk sc x (n + 1) → Walk sc x n := by
  induction n with
  | zero => intro x _; exact .zero x
  | succ n ih => intro x h; cases h with | step hy hw => exact .step hy (ih hw)
theorem Walk.le {n m : Nat} (hm : m ≤ n) {x : α} (h : Walk sc x n) : Walk sc x m := by
  induction hm with
  | refl => exact h
  | step _ ih => exact ih h.less
theorem Walk.inv {n : Nat} {x : α} (h : Walk sc x (n + 1)) : ∃ y, y ∈ sc x ∧ Walk sc y n := by
  cases h with | step hy hw => exact ⟨_, hy, hw⟩
def Fin (sc : α → List α) (x : α) (n : Nat) : Prop := Walk sc x n ∧ ¬ Walk sc x (n + 1)
def Inf (sc : α → List α) (x : α) : Prop := ∀ m, Walk sc x m
theorem fin_or (x : α) : (∃ n, Fin sc x n) ∨ Inf sc x := by
  by_cases h : ∃ n, Fin sc x n
  · exact .inl h
  · refine .inr fun m => ?_
    induction m with
    | zero => exact .zero x
    | succ m ih => exact Classical.byContradiction fun hn => h ⟨m, ih, hn⟩
theorem Fin.unique {x : α} {n m : Nat} (h : Fin sc x n) (h' : Fin sc x m) : n = m := by
  rcases Nat.lt_trichotomy n m with hl | he | hl
  · exact absurd (h'.1.le (by omega)) h.2
  · exact he
  · exact absurd (h.1.le (by omega)) h'.2
theorem Fin.not_inf {x : α} {n : Nat} (h : Fin sc x n) (hi : Inf sc x) : False := h.2 (hi _)
theorem Inf.back {h x : α} (hr : Reach sc h x) (hi : Inf sc x) : Inf sc h := by
  induction hr with
  | self => exact hi
  | step _ hy ih => exact ih (fun m => (Walk.step hy (hi m)).less)
theorem fin_all {h : α} {n : Nat} (hf : Fin sc h n) {x : α} (hr : Reach sc h x) : ∃ m, Fin sc x m := by
  rcases fin_or (sc := sc) x with h1 | h1
  · exact h1
  · exact (hf.not_inf (h1.back hr)).elim
/-! ### Counting -/
theorem filter_le {β : Type} {p q : β → Bool} : ∀ {l : List β}, (∀ x ∈ l, p x = true → q x = true) → (l.filter p).length ≤ (l.filter q).length
  | [], _ => by simp
  | a :: l, h => by
    have ih := filter_le (l := l) (p := p) (q := q) (fun x hx => h x (by simp [hx]))
    have ha := h a (by simp)
    by_cases hp : p a = true
    · simp [List.filter_cons, hp, ha hp, ih]
    · by_cases hq : q a = true
      · simp [List.filter_cons, hp, hq]; omega
      · simp [List.filter_cons, hp, hq, ih]
theorem filter_eq {β : Type} {p q : β → Bool} : ∀ {l : List β}, (∀ x ∈ l, p x = true → q x = true) → (l.filter q).length ≤ (l.filter p).length → ∀ x ∈ l, q x = true → p x = true
  | [], _, _ => by simp
  | a :: l, h, hl => by
    have hle := filter_le (l := l) (p := p) (q := q) (fun x hx => h x (by simp [hx]))
    have ha := h a (by simp)
    intro x hx hqx
    by_cases hp : p a = true
    · have hl' : (l.filter q).length ≤ (l.filter p).length := by
        simp [List.filter_cons, hp, ha hp] at hl; exact hl
      rcases List.mem_cons.1 hx with rfl | hx
      · exact hp
      · exact filter_eq (fun x hx => h x (by simp [hx])) hl' x hx hqx
    · by_cases hq : q a = true
      · simp [List.filter_cons, hp, hq] at hl; omega
      · have hl' : (l.filter q).length ≤ (l.filter p).length := by
          simp [List.filter_cons, hp, hq] at hl; exact hl
        rcases List.mem_cons.1 hx with rfl | hx
        · exact absurd hqx hq
        · exact filter_eq (fun x hx => h x (by simp [hx])) hl' x hx hqx
/-! ### A long walk in few places never ends -/
theorem long_inf {M : List α} (hc : ∀ x ∈ M, ∀ y ∈ sc x, y ∈ M) (n : Nat) :
    (∀ x ∈ M, Walk sc x n → Inf sc x) ∨ ∃ p : α → Bool, (∀ x, p x = true ↔ Walk sc x n) ∧ (M.filter p).length + n ≤ M.length := by
  classical
  induction n with
  | zero => exact .inr ⟨fun _ => true, fun x => ⟨fun _ => .zero x, fun _ => rfl⟩, List.length_filter_le _ _⟩
  | succ n ih =>
    rcases ih with h | ⟨p, hp, hl⟩
    · exact .inl fun x hx hw => h x hx hw.less
    · let q : α → Bool := fun x => decide (Walk sc x (n + 1))
      have hq : ∀ x, q x = true ↔ Walk sc x (n + 1) := fun x => by simp [q]
      have hqp : ∀ x ∈ M, q x = true → p x = true := fun x _ h => (hp x).2 ((hq x).1 h).less
      by_cases he : (M.filter p).length ≤ (M.filter q).length
      · refine .inl ?_
        have hpq := filter_eq hqp he
        have key : ∀ d, ∀ x ∈ M, Walk sc x n → Walk sc x (n + d) := by
          intro d
          induction d with
          | zero => intro x _ h; exact h
          | succ d ihd =>
            intro x hx h
            obtain ⟨y, hy, hw⟩ := ((hq x).1 (hpq x hx ((hp x).2 h))).inv
            exact .step hy (ihd y (hc x hx y hy) hw)
        intro x hx hw m
        exact (key m x hx hw.less).le (by omega)
      · exact .inr ⟨q, hq, by omega⟩
theorem fin_lt {M : List α} (hc : ∀ x ∈ M, ∀ y ∈ sc x, y ∈ M) {x : α} (hx : x ∈ M) {n : Nat} (hf : Fin sc x n) : n < M.length := by
  rcases Nat.lt_or_ge n M.length with h | h
  · exact h
  · exfalso
    rcases long_inf hc n with h1 | ⟨p, hp, hl⟩
    · exact hf.not_inf (h1 x hx hf.1)
    · have : 0 < (M.filter p).length := List.length_pos_of_mem (List.mem_filter.2 ⟨hx, (hp x).2 hf.1⟩)
      omega
end
/-! ### Relaxing -/
section
variable {α : Type} [DecidableEq α] (sc : α → List α)
def best (long : α → Int) (a : Int) (ys : List α) : Int := ys.foldl (fun n y => max n (long y + 1)) a
def up (long : α → Int) (x : α) (n : Int) : α → Int := fun z => if z = x then n else long z
def relax (st : (α → Int) × Bool) (x : α) : (α → Int) × Bool := if best st.1 0 (sc x) = st.1 x then st else (up st.1 x (best st.1 0 (sc x)), true)
def round (long : α → Int) (L : List α) : (α → Int) × Bool := L.foldl (relax sc) (long, false)
def run (h : α) (L : List α) : Nat → (α → Int) → Int
  | 0, _ => -1
  | r + 1, long => if (round sc long L).2 = true then run h L r (round sc long L).1 else (round sc long L).1 h
variable {sc}
theorem best_ge (long : α → Int) : ∀ (ys : List α) (a : Int), a ≤ best long a ys
  | [], a => Int.le_refl _
  | y :: ys, a => by
    have := best_ge long ys (max a (long y + 1))
    simp only [best, List.foldl_cons] at this ⊢; omega
theorem best_mem (long : α → Int) : ∀ (ys : List α) (a : Int) (y : α), y ∈ ys → long y + 1 ≤ best long a ys
  | [], a, y, h => by simp at h
  | z :: ys, a, y, h => by
    rcases List.mem_cons.1 h with rfl | h
    · have := best_ge long ys (max a (long y + 1)); simp only [best, List.foldl_cons] at this ⊢; omega
    · have := best_mem long ys (max a (long z + 1)) y h; simpa [best] using this
theorem best_is (long : α → Int) : ∀ (ys : List α) (a : Int), best long a ys = a ∨ ∃ y ∈ ys, best long a ys = long y + 1
  | [], a => .inl rfl
  | z :: ys, a => by
    rcases best_is long ys (max a (long z + 1)) with h | ⟨y, hy, h⟩
    · simp only [best, List.foldl_cons] at h ⊢
      rcases Int.le_total a (long z + 1) with hl | hl
      · exact .inr ⟨z, by simp, by omega⟩
      · exact .inl (by omega)
    · exact .inr ⟨y, by simp [hy], by simpa [best] using h⟩
def Lower (sc : α → List α) (long : α → Int) (r : Nat) (x : α) : Prop := ∀ m : Nat, m ≤ r → Walk sc x m → (m : Int) ≤ long x
def Upper (sc : α → List α) (long : α → Int) (x : α) : Prop := ∃ n : Nat, long x = n ∧ Walk sc x n
theorem best_upper {long : α → Int} {x : α} (h : ∀ y ∈ sc x, Upper sc long y) : ∃ n : Nat, best long 0 (sc x) = n ∧ Walk sc x n := by
  rcases best_is long (sc x) 0 with e | ⟨y, hy, e⟩
  · exact ⟨0, e, .zero x⟩
  · obtain ⟨n, hn, hw⟩ := h y hy
    exact ⟨n + 1, by rw [e, hn]; rfl, .step hy hw⟩
theorem best_lower {long : α → Int} {x : α} {r : Nat} (h : ∀ y ∈ sc x, Lower sc long r y) : ∀ m : Nat, m ≤ r + 1 → Walk sc x m → (m : Int) ≤ best long 0 (sc x) := by
  intro m hm hw
  cases m with
  | zero => exact best_ge _ _ _
  | succ m =>
    obtain ⟨y, hy, hw⟩ := hw.inv
    have h1 := h y hy m (by omega) hw
    have h2 := best_mem long (sc x) 0 y hy
    omega
theorem round_inv {L : List α} (hc : ∀ x ∈ L, ∀ y ∈ sc x, y ∈ L) (r : Nat) : ∀ (suf pre : List α) (st : (α → Int) × Bool), (∀ x, x ∈ L ↔ x ∈ pre ++ suf) →
    (∀ x ∈ L, Upper sc st.1 x) → (∀ x ∈ L, Lower sc st.1 r x) → (∀ x ∈ pre, Lower sc st.1 (r + 1) x) →
    (∀ x ∈ L, Upper sc (suf.foldl (relax sc) st).1 x) ∧ (∀ x ∈ L, Lower sc (suf.foldl (relax sc) st).1 (r + 1) x) := by
  intro suf
  induction suf with
  | nil => intro pre st hL hu hl hp; exact ⟨hu, fun x hx => hp x (by simpa using (hL x).1 hx)⟩
  | cons a suf ih =>
    intro pre st hL hu hl hp
    have ha : a ∈ L := (hL a).2 (by simp)
    have hbu := best_upper (fun y hy => hu y (hc a ha y hy))
    have hbl := best_lower (fun y hy => hl y (hc a ha y hy))
    simp only [List.foldl_cons]
    refine ih (pre ++ [a]) (relax sc st a) (by simpa using hL) ?_ ?_ ?_
    · intro x hx
      unfold relax; split
      · exact hu x hx
      · by_cases e : x = a
        · subst e; simpa [Upper, up] using hbu
        · simpa [Upper, up, e] using hu x hx
    · intro x hx
      unfold relax; split
      · exact hl x hx
      · by_cases e : x = a
        · subst e; intro m hm hw; simpa [up] using hbl m (by omega) hw
        · simpa [Lower, up, e] using hl x hx
    · intro x hx
      unfold relax; split
      · rename_i hb
        rcases List.mem_append.1 hx with hx | hx
        · exact hp x hx
        · rw [List.mem_singleton] at hx; subst hx
          intro m hm hw; rw [← hb]; exact hbl m hm hw
      · by_cases e : x = a
        · subst e; intro m hm hw; simpa [up] using hbl m hm hw
        · rcases List.mem_append.1 hx with hx | hx
          · simpa [Lower, up, e] using hp x hx
          · rw [List.mem_singleton] at hx; exact absurd hx e
theorem fold_flag : ∀ (suf : List α) (st : (α → Int) × Bool), (suf.foldl (relax sc) st).2 = false → st.2 = false ∧ (suf.foldl (relax sc) st).1 = st.1 ∧ ∀ x ∈ suf, best st.1 0 (sc x) = st.1 x
  | [], st, h => ⟨h, rfl, by simp⟩
  | a :: suf, st, h => by
    obtain ⟨h1, h2, h3⟩ := fold_flag suf (relax sc st a) h
    have hb : best st.1 0 (sc a) = st.1 a := by
      by_cases hb : best st.1 0 (sc a) = st.1 a
      · exact hb
      · simp [relax, hb] at h1
    have hr : relax sc st a = st := by simp [relax, hb]
    simp only [List.foldl_cons]
    rw [hr] at h1 h2 h3 ⊢
    exact ⟨h1, h2, fun x hx => by
      rcases List.mem_cons.1 hx with rfl | hx
      · exact hb
      · exact h3 x hx⟩
theorem fold_still : ∀ (suf : List α) (st : (α → Int) × Bool), (∀ x ∈ suf, best st.1 0 (sc x) = st.1 x) → suf.foldl (relax sc) st = st
  | [], st, _ => rfl
  | a :: suf, st, h => by
    simp only [List.foldl_cons]
    rw [show relax sc st a = st by simp [relax, h a (by simp)]]
    exact fold_still suf st (fun x hx => h x (by simp [hx]))
theorem fixed_fin {L : List α} (hc : ∀ x ∈ L, ∀ y ∈ sc x, y ∈ L) {long : α → Int} (hf : ∀ x ∈ L, best long 0 (sc x) = long x) (hu : ∀ x ∈ L, Upper sc long x) {x : α} (hx : x ∈ L) : ∃ n : Nat, long x = n ∧ Fin sc x n := by
  have key : ∀ m : Nat, ∀ x ∈ L, Walk sc x m → (m : Int) ≤ long x := by
    intro m
    induction m with
    | zero => intro x hx _; rw [← hf x hx]; exact best_ge _ _ _
    | succ m ih =>
      intro x hx hw
      obtain ⟨y, hy, hw⟩ := hw.inv
      have h1 := ih y (hc x hx y hy) hw
      have h2 := best_mem long (sc x) 0 y hy
      rw [hf x hx] at h2
      omega
  obtain ⟨n, hn, hw⟩ := hu x hx
  refine ⟨n, hn, hw, fun hw' => ?_⟩
  have := key (n + 1) x hx hw'
  omega
theorem run_is {h : α} {L : List α} (hc : ∀ x ∈ L, ∀ y ∈ sc x, y ∈ L) (hh : h ∈ L) : ∀ (r s : Nat) (long : α → Int), (∀ x ∈ L, Upper sc long x) → (∀ x ∈ L, Lower sc long s x) →
    (∃ n : Nat, run sc h L r long = n ∧ Fin sc h n) ∨ (run sc h L r long = -1 ∧ ((∀ x ∈ L, ∃ n, Fin sc x n) → ¬ (1 ≤ r ∧ L.length ≤ s + r))) := by
  intro r
  induction r with
  | zero => intro s long hu hl; exact .inr ⟨rfl, fun _ h => by omega⟩
  | succ r ih =>
    intro s long hu hl
    obtain ⟨hu', hl'⟩ := round_inv hc s L [] (long, false) (by simp) hu hl (by simp)
    by_cases hflag : (round sc long L).2 = true
    · rcases ih (s + 1) (round sc long L).1 hu' hl' with h1 | ⟨h1, h2⟩
      · exact .inl (by simpa [run, hflag] using h1)
      · refine .inr ⟨by simpa [run, hflag] using h1, fun hall hr => ?_⟩
        by_cases hr1 : 1 ≤ r
        · exact h2 hall ⟨hr1, by omega⟩
        · -- the last round: nothing can have changed
          have hlong : ∀ x ∈ L, ∃ n : Nat, long x = n ∧ Fin sc x n := by
            intro x hx
            obtain ⟨n, hn, hw⟩ := hu x hx
            obtain ⟨m, hm⟩ := hall x hx
            have h3 := fin_lt hc hx hm
            have h4 := hl x hx m (by omega) hm.1
            have h5 : n ≤ m := by
              rcases Nat.lt_or_ge m n with h | h
              · exact absurd (hw.le (by omega)) hm.2
              · exact h
            have : n = m := by omega
            subst this
            exact ⟨n, hn, hm⟩
          have hstill : ∀ x ∈ L, best long 0 (sc x) = long x := by
            intro x hx
            obtain ⟨n, hn, hf⟩ := hlong x hx
            obtain ⟨m, hm, hw⟩ := best_upper (sc := sc) (long := long) (x := x) (fun y hy => hu y (hc x hx y hy))
            have h5 : m ≤ n := by
              rcases Nat.lt_or_ge n m with h | h
              · exact absurd (hw.le (by omega)) hf.2
              · exact h
            have h6 := best_lower (sc := sc) (long := long) (x := x) (r := s) (fun y hy => hl y (hc x hx y hy)) n (by have := fin_lt hc hx hf; omega) hf.1
            omega
          have := fold_still (sc := sc) L (long, false) hstill
          unfold round at hflag
          rw [this] at hflag
          cases hflag
    · have hflag' : (round sc long L).2 = false := by simpa using hflag
      obtain ⟨_, h2, h3⟩ := fold_flag L (long, false) hflag'
      refine .inl ?_
      obtain ⟨n, hn, hf⟩ := fixed_fin hc h3 hu hh
      refine ⟨n, ?_, hf⟩
      simp only [run, hflag', Bool.false_eq_true, if_false]
      unfold round; rw [h2]; exact hn
/-- The relaxing answers the length of the longest walk, or -1. -/
theorem run_spec {h : α} {L : List α} (hc : ∀ x ∈ L, ∀ y ∈ sc x, y ∈ L) (hh : h ∈ L) (hr : ∀ x ∈ L, Reach sc h x) :
    (∃ n : Nat, run sc h L L.length (fun _ => 0) = n ∧ Fin sc h n) ∨ (run sc h L L.length (fun _ => 0) = -1 ∧ Inf sc h) := by
  rcases run_is (sc := sc) hc hh L.length 0 (fun _ => 0) (fun x _ => ⟨0, rfl, .zero x⟩) (fun x _ m hm _ => by simp; omega) with h1 | ⟨h1, h2⟩
  · exact .inl h1
  · refine .inr ⟨h1, ?_⟩
    rcases fin_or (sc := sc) h with ⟨n, hf⟩ | hi
    · exact (h2 (fun x hx => fin_all hf (hr x hx)) ⟨List.length_pos_of_mem hh, by omega⟩).elim
    · exact hi
end
/-! ### Peeling -/
section
variable {α : Type} [DecidableEq α] (sc : α → List α)
def pbest (long : α → Int) (b : Int) (ys : List α) : Int := ys.foldl (fun b y => if b < 0 then b else if long y < 0 then -1 else max b (long y + 1)) b
def peel (st : (α → Int) × Bool) (x : α) : (α → Int) × Bool := if 0 ≤ st.1 x then st else (up st.1 x (pbest st.1 0 (sc x)), st.2 || decide (0 ≤ pbest st.1 0 (sc x)))
def pround (long : α → Int) (L : List α) : (α → Int) × Bool := L.foldl (peel sc) (long, false)
def prun (h : α) (L : List α) : Nat → (α → Int) → Int
  | 0, long => long h
  | r + 1, long => if (pround sc long L).2 = true then prun h L r (pround sc long L).1 else (pround sc long L).1 h
variable {sc}
theorem pbest_neg (long : α → Int) : ∀ (ys : List α) (b : Int), b < 0 → pbest long b ys = b
  | [], b, _ => rfl
  | y :: ys, b, h => by simp only [pbest, List.foldl_cons, h, if_true]; exact pbest_neg long ys b h
theorem pbest_is (long : α → Int) : ∀ (ys : List α) (b : Int), 0 ≤ b → (pbest long b ys = -1 ∧ ∃ y ∈ ys, long y < 0) ∨ ((∀ y ∈ ys, 0 ≤ long y) ∧ pbest long b ys = best long b ys)
  | [], b, h => .inr ⟨by simp, rfl⟩
  | y :: ys, b, h => by
    by_cases hy : long y < 0
    · refine .inl ⟨?_, y, by simp, hy⟩
      simp only [pbest, List.foldl_cons, show ¬ b < 0 by omega, if_false, hy, if_true]
      exact pbest_neg long ys (-1) (by omega)
    · rcases pbest_is long ys (max b (long y + 1)) (by omega) with ⟨h1, z, hz, h2⟩ | ⟨h1, h2⟩
      · exact .inl ⟨by simpa [pbest, show ¬ b < 0 by omega, hy] using h1, z, by simp [hz], h2⟩
      · refine .inr ⟨fun z hz => ?_, by simpa [pbest, best, show ¬ b < 0 by omega, hy] using h2⟩
        rcases List.mem_cons.1 hz with rfl | hz
        · omega
        · exact h1 z hz
def Known (sc : α → List α) (long : α → Int) (x : α) : Prop := long x = -1 ∨ ∃ n : Nat, long x = n ∧ Fin sc x n
theorem pbest_known {long : α → Int} {x : α} (h : ∀ y ∈ sc x, Known sc long y) : (pbest long 0 (sc x) = -1 ∧ ∃ y ∈ sc x, long y < 0) ∨ ∃ n : Nat, pbest long 0 (sc x) = n ∧ Fin sc x n := by
  rcases pbest_is long (sc x) 0 (by omega) with h1 | ⟨h1, h2⟩
  · exact .inl h1
  · refine .inr ?_
    have hk : ∀ y ∈ sc x, ∃ n : Nat, long y = n ∧ Fin sc y n := fun y hy => by
      rcases h y hy with e | e
      · have := h1 y hy; omega
      · exact e
    rw [h2]
    obtain ⟨n, hn, hw⟩ := best_upper (sc := sc) (long := long) (x := x) (fun y hy => by obtain ⟨m, hm, hf⟩ := hk y hy; exact ⟨m, hm, hf.1⟩)
    refine ⟨n, hn, hw, fun hw' => ?_⟩
    obtain ⟨y, hy, hw'⟩ := hw'.inv
    obtain ⟨m, hm, hf⟩ := hk y hy
    have h3 := best_mem long (sc x) 0 y hy
    exact hf.2 (hw'.le (by omega))
theorem peel_known {L : List α} (hc : ∀ x ∈ L, ∀ y ∈ sc x, y ∈ L) : ∀ (suf : List α) (st : (α → Int) × Bool), (∀ x ∈ suf, x ∈ L) → (∀ x ∈ L, Known sc st.1 x) → ∀ x ∈ L, Known sc (suf.foldl (peel sc) st).1 x
  | [], st, _, h => h
  | a :: suf, st, hs, h => by
    simp only [List.foldl_cons]
    refine peel_known hc suf (peel sc st a) (fun x hx => hs x (by simp [hx])) ?_
    intro x hx
    unfold peel; split
    · exact h x hx
    · by_cases e : x = a
      · subst e
        rcases pbest_known (fun y hy => h y (hc x hx y hy)) with ⟨h1, _⟩ | h1
        · exact .inl (by simpa [up] using h1)
        · exact .inr (by simpa [up] using h1)
      · rcases h x hx with h1 | h1
        · exact .inl (by simpa [up, e] using h1)
        · exact .inr (by simpa [up, e] using h1)
/-- Nothing new: all is as it was, and whatever isn't known leads on to what isn't known. -/
theorem peel_flag {L : List α} (hc : ∀ x ∈ L, ∀ y ∈ sc x, y ∈ L) : ∀ (suf : List α) (st : (α → Int) × Bool), (∀ x ∈ suf, x ∈ L) → (∀ x ∈ L, Known sc st.1 x) → (suf.foldl (peel sc) st).2 = false →
    st.2 = false ∧ (∀ x, (suf.foldl (peel sc) st).1 x = st.1 x) ∧ ∀ x ∈ suf, st.1 x < 0 → ∃ y ∈ sc x, st.1 y < 0
  | [], st, _, _, h => ⟨h, fun _ => rfl, by simp⟩
  | a :: suf, st, hs, hk, h => by
    have ha : a ∈ L := hs a (by simp)
    have hk' : ∀ x ∈ L, Known sc (peel sc st a).1 x := peel_known hc [a] st (by simpa using ha) hk
    obtain ⟨h1, h2, h3⟩ := peel_flag hc suf (peel sc st a) (fun x hx => hs x (by simp [hx])) hk' h
    simp only [List.foldl_cons]
    by_cases hn : 0 ≤ st.1 a
    · have hr : peel sc st a = st := by simp [peel, hn]
      rw [hr] at h1 h2 h3 ⊢
      refine ⟨h1, h2, fun x hx hx0 => ?_⟩
      rcases List.mem_cons.1 hx with rfl | hx
      · omega
      · exact h3 x hx hx0
    · have hr : peel sc st a = (up st.1 a (pbest st.1 0 (sc a)), st.2 || decide (0 ≤ pbest st.1 0 (sc a))) := by simp [peel, hn]
      rw [hr] at h1 h2 h3 ⊢
      simp only [Bool.or_eq_false_iff, decide_eq_false_iff_not] at h1
      have hb : pbest st.1 0 (sc a) = -1 ∧ ∃ y ∈ sc a, st.1 y < 0 := by
        rcases pbest_known (fun y hy => hk y (hc a ha y hy)) with hb | ⟨n, hb, _⟩
        · exact hb
        · omega
      have hold : st.1 a = -1 := by
        rcases hk a ha with e | ⟨n, e, _⟩
        · exact e
        · omega
      have hup : ∀ x, up st.1 a (pbest st.1 0 (sc a)) x = st.1 x := fun x => by
        unfold up; split
        · rename_i e; subst e; rw [hb.1, hold]
        · rfl
      refine ⟨h1.1, fun x => by rw [h2 x]; exact hup x, fun x hx hx0 => ?_⟩
      rcases List.mem_cons.1 hx with rfl | hx
      · exact hb.2
      · obtain ⟨y, hy, hy0⟩ := h3 x hx (by show up _ _ _ x < 0; rw [hup]; exact hx0)
        exact ⟨y, hy, by rw [← hup y]; exact hy0⟩
def unknown (long : α → Int) (L : List α) : Nat := (L.filter (fun x => decide (long x < 0))).length
theorem peel_count {L : List α} : ∀ (suf : List α) (st : (α → Int) × Bool), (∀ x ∈ suf, x ∈ L) →
    (∀ x ∈ L, (suf.foldl (peel sc) st).1 x < 0 → st.1 x < 0) ∧ (st.2 = false → (suf.foldl (peel sc) st).2 = true → ∃ x ∈ L, st.1 x < 0 ∧ ¬ (suf.foldl (peel sc) st).1 x < 0)
  | [], st, _ => ⟨fun _ _ h => h, fun h h' => by simp [h] at h'⟩
  | a :: suf, st, hs => by
    obtain ⟨h1, h2⟩ := peel_count suf (peel sc st a) (fun x hx => hs x (by simp [hx]))
    simp only [List.foldl_cons]
    have hone : ∀ x, (peel sc st a).1 x < 0 → st.1 x < 0 := by
      intro x
      unfold peel; split
      · exact id
      · rename_i hn
        unfold up
        simp only
        split
        · rename_i e; subst e; intro _; omega
        · exact id
    refine ⟨fun x hx h => hone x (h1 x hx h), fun hf ht => ?_⟩
    by_cases hf' : (peel sc st a).2 = false
    · obtain ⟨x, hx, h3, h4⟩ := h2 hf' ht
      exact ⟨x, hx, hone x h3, h4⟩
    · have hn : ¬ 0 ≤ st.1 a := fun hn => hf' (by simp [peel, hn, hf])
      have hb : 0 ≤ pbest st.1 0 (sc a) := by
        have : (peel sc st a).2 = true := by simpa using hf'
        simp [peel, hn, hf] at this; exact this
      refine ⟨a, hs a (by simp), by omega, fun h => ?_⟩
      have h5 := h1 a (hs a (by simp)) h
      simp [peel, hn, up] at h5
      omega
theorem unk_inf {L : List α} (hc : ∀ x ∈ L, ∀ y ∈ sc x, y ∈ L) {long : α → Int} (h : ∀ x ∈ L, long x < 0 → ∃ y ∈ sc x, long y < 0) : ∀ (m : Nat), ∀ x ∈ L, long x < 0 → Walk sc x m
  | 0, x, _, _ => .zero x
  | m + 1, x, hx, h0 => by
    obtain ⟨y, hy, hy0⟩ := h x hx h0
    exact .step hy (unk_inf hc h m y (hc x hx y hy) hy0)
theorem prun_is {h : α} {L L' : List α} (hL' : ∀ x, x ∈ L' ↔ x ∈ L) (hc : ∀ x ∈ L, ∀ y ∈ sc x, y ∈ L) (hh : h ∈ L) : ∀ (r : Nat) (long : α → Int), (∀ x ∈ L, Known sc long x) → unknown long L < r →
    (∃ n : Nat, prun sc h L' r long = n ∧ Fin sc h n) ∨ (prun sc h L' r long = -1 ∧ Inf sc h) := by
  intro r
  induction r with
  | zero => intro long _ h; omega
  | succ r ih =>
    intro long hk hu
    have hk' : ∀ x ∈ L, Known sc (pround sc long L').1 x := peel_known hc L' (long, false) (fun x hx => (hL' x).1 hx) hk
    by_cases hflag : (pround sc long L').2 = true
    · obtain ⟨h1, h2⟩ := peel_count (sc := sc) (L := L) L' (long, false) (fun x hx => (hL' x).1 hx)
      obtain ⟨x, hx, h3, h4⟩ := h2 rfl hflag
      have hlt : unknown (pround sc long L').1 L < unknown long L := by
        unfold unknown
        rcases Nat.lt_or_ge ((L.filter (fun x => decide ((pround sc long L').1 x < 0))).length) ((L.filter (fun x => decide (long x < 0))).length) with h5 | h5
        · exact h5
        · have := filter_eq (p := fun x => decide ((pround sc long L').1 x < 0)) (q := fun x => decide (long x < 0)) (fun x hx h => by simp at h ⊢; exact h1 x hx h) h5 x hx (by simpa using h3)
          simp at this
          exact absurd this h4
      have := ih (pround sc long L').1 hk' (by omega)
      simpa [prun, hflag] using this
    · have hflag' : (pround sc long L').2 = false := by simpa using hflag
      obtain ⟨_, h2, h3⟩ := peel_flag hc L' (long, false) (fun x hx => (hL' x).1 hx) hk hflag'
      have hrun : prun sc h L' (r + 1) long = long h := by
        simp only [prun, hflag', Bool.false_eq_true, if_false]; exact h2 h
      rw [hrun]
      rcases hk h hh with e | ⟨n, e, hf⟩
      · exact .inr ⟨e, fun m => unk_inf hc (fun x hx h0 => h3 x ((hL' x).2 hx) h0) m h hh (by show long h < 0; rw [e]; omega)⟩
      · exact .inl ⟨n, e, hf⟩
theorem prun_spec {h : α} {L : List α} (hc : ∀ x ∈ L, ∀ y ∈ sc x, y ∈ L) (hh : h ∈ L) :
    (∃ n : Nat, prun sc h L.reverse (L.length + 1) (fun _ => -1) = n ∧ Fin sc h n) ∨ (prun sc h L.reverse (L.length + 1) (fun _ => -1) = -1 ∧ Inf sc h) :=
  prun_is (L := L) (fun x => List.mem_reverse) hc hh (L.length + 1) (fun _ => -1) (fun _ _ => .inl rfl) (Nat.lt_succ_of_le (List.length_filter_le _ _))
theorem run_eq_prun {h : α} {L : List α} (hc : ∀ x ∈ L, ∀ y ∈ sc x, y ∈ L) (hh : h ∈ L) (hr : ∀ x ∈ L, Reach sc h x) :
    run sc h L L.length (fun _ => 0) = prun sc h L.reverse (L.length + 1) (fun _ => -1) := by
  rcases run_spec hc hh hr with ⟨n, h1, h2⟩ | ⟨h1, h2⟩ <;> rcases prun_spec hc hh with ⟨m, h3, h4⟩ | ⟨h3, h4⟩
  · rw [h1, h3, h2.unique h4]
  · exact (h2.not_inf h4).elim
  · exact (h4.not_inf h2).elim
  · rw [h1, h3]
end
/-! ### What is reached, in its order -/
section
variable {α : Type} [DecidableEq α] (sc : α → List α)
def addNew (L : List α) (ys : List α) : List α := ys.foldl (fun L y => if y ∈ L then L else L ++ [y]) L
/-- [] where more than 400 are reached -/
def bfs : Nat → List α → Nat → List α
  | 0, L, _ => L
  | f + 1, L, i => match L[i]? with
    | none => L
    | some x => if 400 < (addNew L (sc x)).length then [] else bfs f (addNew L (sc x)) (i + 1)
variable {sc}
theorem addNew_pre : ∀ (ys L : List α), ∃ e, addNew L ys = L ++ e
  | [], L => ⟨[], by simp [addNew]⟩
  | y :: ys, L => by
    by_cases h : y ∈ L
    · obtain ⟨e, he⟩ := addNew_pre ys L
      exact ⟨e, by simpa [addNew, h] using he⟩
    · obtain ⟨e, he⟩ := addNew_pre ys (L ++ [y])
      exact ⟨y :: e, by simpa [addNew, h] using he⟩
theorem addNew_len (ys L : List α) : L.length ≤ (addNew L ys).length := by
  obtain ⟨e, he⟩ := addNew_pre ys L
  rw [he]; simp
theorem addNew_mem : ∀ (ys L : List α) (x : α), x ∈ addNew L ys ↔ x ∈ L ∨ x ∈ ys
  | [], L, x => by simp [addNew]
  | y :: ys, L, x => by
    by_cases h : y ∈ L
    · have := addNew_mem ys L x
      simp only [addNew, List.foldl_cons, h, if_true] at this ⊢
      rw [this, List.mem_cons]
      constructor
      · rintro (h1 | h1)
        · exact .inl h1
        · exact .inr (.inr h1)
      · rintro (h1 | rfl | h1)
        · exact .inl h1
        · exact .inl h
        · exact .inr h1
    · have := addNew_mem ys (L ++ [y]) x
      simp only [addNew, List.foldl_cons, h, if_false] at this ⊢
      rw [this, List.mem_cons, List.mem_append, List.mem_singleton]
      constructor
      · rintro ((h1 | h1) | h1)
        · exact .inl h1
        · exact .inr (.inl h1)
        · exact .inr (.inr h1)
      · rintro (h1 | h1 | h1)
        · exact .inl (.inl h1)
        · exact .inl (.inr h1)
        · exact .inr h1
theorem addNew_nodup : ∀ (ys L : List α), L.Nodup → (addNew L ys).Nodup
  | [], L, h => h
  | y :: ys, L, h => by
    by_cases hy : y ∈ L
    · simpa [addNew, hy] using addNew_nodup ys L h
    · have : (L ++ [y]).Nodup := by
        rw [List.nodup_append]
        exact ⟨h, by simp, fun a ha b hb => by rw [List.mem_singleton] at hb; subst hb; exact fun e => hy (e ▸ ha)⟩
      simpa [addNew, hy] using addNew_nodup ys (L ++ [y]) this
structure Bfs (sc : α → List α) (h : α) (L : List α) : Prop where
  nodup : L.Nodup
  first : ∃ e, L = h :: e
  reach : ∀ x ∈ L, Reach sc h x
theorem bfs_is {h : α} : ∀ (f : Nat) (L : List α) (i : Nat), Bfs sc h L → (∀ j < i, ∀ x, L[j]? = some x → ∀ y ∈ sc x, y ∈ L) → L.length ≤ 400 → 400 < f + i → i ≤ L.length →
    bfs sc f L i = [] ∨ (Bfs sc h (bfs sc f L i) ∧ (∀ x ∈ bfs sc f L i, ∀ y ∈ sc x, y ∈ bfs sc f L i) ∧ (bfs sc f L i).length ≤ 400) := by
  intro f
  induction f with
  | zero => intro L i hb hd hl hf hi; omega
  | succ f ih =>
    intro L i hb hd hl hf hi
    rcases hx : L[i]? with _ | x
    · have hi' : i = L.length := by have := List.getElem?_eq_none_iff.1 hx; omega
      have e : bfs sc (f + 1) L i = L := by simp [bfs, hx]
      rw [e]
      refine .inr ⟨hb, fun x hx y hy => ?_, hl⟩
      obtain ⟨j, hj, hjx⟩ := List.getElem_of_mem hx
      exact hd j (by omega) x (by rw [List.getElem?_eq_getElem hj, hjx]) y hy
    · have hxL : x ∈ L := List.mem_of_getElem? hx
      have hil : i < L.length := (List.getElem?_eq_some_iff.1 hx).1
      by_cases hlong : 400 < (addNew L (sc x)).length
      · exact .inl (by simp [bfs, hx, hlong])
      · have e : bfs sc (f + 1) L i = bfs sc f (addNew L (sc x)) (i + 1) := by simp [bfs, hx, hlong]
        rw [e]
        obtain ⟨e', he'⟩ := addNew_pre (sc x) L
        refine ih (addNew L (sc x)) (i + 1) ⟨addNew_nodup _ _ hb.nodup, ?_, ?_⟩ ?_ (by omega) (by omega) (by rw [he']; simp; omega)
        · obtain ⟨e1, h1⟩ := hb.first
          exact ⟨e1 ++ e', by rw [he', h1]; rfl⟩
        · intro y hy
          rcases (addNew_mem _ _ _).1 hy with hy | hy
          · exact hb.reach y hy
          · exact .step (hb.reach x hxL) hy
        · intro j hj z hz y hy
          rcases Nat.lt_or_ge j i with hji | hji
          · rw [he', List.getElem?_append_left (by omega)] at hz
            exact (addNew_mem _ _ _).2 (.inl (hd j hji z hz y hy))
          · have : j = i := by omega
            subst this
            rw [he', List.getElem?_append_left hil, hx] at hz
            injection hz with hz
            subst hz
            exact (addNew_mem _ _ _).2 (.inr hy)
def reached (sc : α → List α) (h : α) : List α := bfs sc 401 [h] 0
theorem reached_is (h : α) : reached sc h = [] ∨ (Bfs sc h (reached sc h) ∧ (∀ x ∈ reached sc h, ∀ y ∈ sc x, y ∈ reached sc h) ∧ (reached sc h).length ≤ 400) :=
  bfs_is 401 [h] 0 ⟨by simp, ⟨[], rfl⟩, fun x hx => by rw [List.mem_singleton] at hx; subst hx; exact .self⟩ (fun j hj => by omega) (by simp) (by omega) (by simp)
/-- the length of the longest walk, -1 if there is none, or more than 400 are reached -/
def longest (sc : α → List α) (h : α) : Int := run sc h (reached sc h) (reached sc h).length (fun _ => 0)
end
end Go.Proofs.Ytlmgipjalcnfaaa.G
