import Derived.Test.YtlmgipjalcnfaaaKEHLPx1
import Derived.Test.YtlmgipjalcnfaaaKEHLPx4
import Derived.Test.YtlmgipjalcnfaaaKEHLPx6
import Derived.Test.YtlmgipjalcnfaaaKEHLPx7
import Derived.Test.YtlmgipjalcnfaaaKEHLPx8
import Derived.Test.YtlmgipjalcnfaaaKEHLA1
namespace Go.Proofs.Ytlmgipjalcnfaaa.A
open Go.RowKit Go.Proofs.Ytlmgipjalcnfaaa.P Go.Proofs.YtlmgipjalcnfaaaW.PrintWords Go.Proofs.YtlmgipjalcnfaaaW.PrintLast
set_option linter.unusedVariables false
set_option linter.unusedSimpArgs false
/-! ### The laws' own words: copies, comparisons, marks -/
theorem wrap_up {i : Nat} (h : i < 9223372036854775807) : wrap64 ((i : Int) + 1) = ((i + 1 : Nat) : Int) := by unfold wrap64; omega
theorem toIntS_l0 : ∀ (suf pre : List Int), (pre ++ suf).length ≤ 35184372088832 → Ev (fun k => laws_toIntS.l0 k (pre ++ suf) (pre ++ List.replicate suf.length 0) (pre.length : Int)) (pre ++ suf) := by
  intro suf
  induction suf with
  | nil =>
    intro pre hl
    exact Ev.step (f := fun _ => some (pre ++ [])) (fun k => by simp only [laws_toIntS.l0]; rw [if_neg (by simp)]; simp) (Ev.now _)
  | cons x suf ih =>
    intro pre hl
    have h1 := lt_mid pre suf x
    have ih := ih (pre ++ [x]) (by simpa using hl)
    rw [show pre ++ [x] ++ suf = pre ++ x :: suf by simp] at ih
    refine Ev.step (f := fun k => laws_toIntS.l0 k (pre ++ x :: suf) (pre ++ [x] ++ List.replicate suf.length 0) ((pre ++ [x]).length : Int)) (fun k => ?_) ih
    simp only [laws_toIntS.l0]
    rw [if_pos h1, if_pos (by omega), if_pos (by simp; omega), rd_mid, wrap_mid pre suf x (by omega)]
    simp [List.replicate_succ, List.set_append_right]
theorem toIntS (l : List Int) (hl : l.length ≤ 35184372088832) : Ev (fun k => laws_toIntS.f k l) l := by
  have := toIntS_l0 l [] hl
  exact Ev.congr (fun k => by unfold laws_toIntS.f; rw [if_pos (by omega), if_pos (by omega)]; rfl) this
theorem eqIntS_l0 (a : List Int) (hb : a.length < 9223372036854775807) : ∀ (d i : Nat), i + d = a.length → Ev (fun k => laws_eqIntS.l0 k a a (i : Int)) true := by
  intro d
  induction d with
  | zero => intro i hi; exact Ev.step (f := fun _ => some true) (fun k => by simp only [laws_eqIntS.l0]; rw [if_neg (by omega)]) (Ev.now _)
  | succ d ih =>
    intro i hi
    exact Ev.step (fun k => by simp only [laws_eqIntS.l0, if_true]; rw [if_pos (by omega), if_pos (by omega), if_pos (by omega), wrap_up (by omega)]) (ih (i + 1) (by omega))
theorem eqIntS (a : List Int) (hb : a.length < 9223372036854775807) : Ev (fun k => laws_eqIntS.f k a a) true := by
  have := eqIntS_l0 a hb a.length 0 (by omega)
  exact Ev.congr (fun k => by unfold laws_eqIntS.f; rw [if_pos rfl]; rfl) this
theorem eqIntSS_l0 (a : List (List Int)) (hb : a.length < 9223372036854775807) (hs : ∀ i, (rd_L1 a i).length < 9223372036854775807) : ∀ (d i : Nat), i + d = a.length → Ev (fun k => laws_eqIntSS.l0 k a a (i : Int)) true := by
  intro d
  induction d with
  | zero => intro i hi; exact Ev.step (f := fun _ => some true) (fun k => by simp only [laws_eqIntSS.l0]; rw [if_neg (by omega)]) (Ev.now _)
  | succ d ih =>
    intro i hi
    refine Ev.step (f := fun k => (laws_eqIntS.f k (rd_L1 a i) (rd_L1 a i)).bind fun t215 => (if t215 = true then (laws_eqIntSS.l0 k a a ((i + 1 : Nat) : Int)) else (some false))) (fun k => by simp only [laws_eqIntSS.l0]; rw [if_pos (by omega), if_pos (by omega), if_pos (by omega), wrap_up (by omega)]) ?_
    exact Ev.bind (eqIntS _ (hs i)) (by simp only [if_true]; exact ih (i + 1) (by omega))
theorem rdL_len {a : List (List Int)} {n : Nat} (h : ∀ x ∈ a, x.length < n) (hn : 0 < n) (i : Int) : (rd_L1 a i).length < n := by
  unfold rd_L1; rw [List.getD_eq_getElem?_getD]
  cases hx : a[i.toNat]? with
  | none => simpa using hn
  | some x => exact h x (List.mem_of_getElem? hx)
theorem eqIntSS (a : List (List Int)) (hb : a.length < 9223372036854775807) (hs : ∀ x ∈ a, x.length < 9223372036854775807) : Ev (fun k => laws_eqIntSS.f k a a) true := by
  have := eqIntSS_l0 a hb (fun i => rdL_len hs (by decide) i) a.length 0 (by omega)
  exact Ev.congr (fun k => by unfold laws_eqIntSS.f; rw [if_pos rfl]; rfl) this
/-- how many numbers there are -/
def totT (ts : List S45) : Nat := (ts.map fun t => t.f0.length + t.f1.length).sum
theorem totT_mem {ts : List S45} {t : S45} (h : t ∈ ts) : t.f0.length + t.f1.length ≤ totT ts := by
  induction ts with
  | nil => simp at h
  | cons u ts ih =>
    simp only [totT, List.map_cons, List.sum_cons]
    rcases List.mem_cons.1 h with rfl | h
    · omega
    · have := ih h; unfold totT at this; omega
theorem eqTradeS_l0 (a : List S45) (hb : a.length < 9223372036854775807) (hs : ∀ i, (rd_T45 a i).f0.length < 9223372036854775807 ∧ (rd_T45 a i).f1.length < 9223372036854775807) : ∀ (d i : Nat), i + d = a.length → Ev (fun k => laws_eqTradeS.l0 k a a (i : Int)) true := by
  intro d
  induction d with
  | zero => intro i hi; exact Ev.step (f := fun _ => some true) (fun k => by simp only [laws_eqTradeS.l0]; rw [if_neg (by omega)]) (Ev.now _)
  | succ d ih =>
    intro i hi
    refine Ev.step (f := fun k => (laws_eqTrade.f k ((rd_T45 a i).f0) ((rd_T45 a i).f1) ((rd_T45 a i).f0) ((rd_T45 a i).f1)).bind fun t222 => (if t222 = true then (laws_eqTradeS.l0 k a a ((i + 1 : Nat) : Int)) else (some false))) (fun k => by simp only [laws_eqTradeS.l0]; rw [if_pos (by omega), if_pos (by omega), if_pos (by omega), wrap_up (by omega)]) ?_
    refine Ev.bind (a := true) (Ev.bind (eqIntS _ (hs i).1) (by simp only [if_true]; exact Ev.bind (eqIntS _ (hs i).2) (by simp only [if_true]; exact Ev.now _))) (by simp only [if_true]; exact ih (i + 1) (by omega))
theorem eqTradeS (a : List S45) (hb : a.length < 9223372036854775807) (hs : totT a < 9223372036854775807) : Ev (fun k => laws_eqTradeS.f k a a) true := by
  have hr : ∀ i, (rd_T45 a i).f0.length < 9223372036854775807 ∧ (rd_T45 a i).f1.length < 9223372036854775807 := by
    intro i
    unfold rd_T45; rw [List.getD_eq_getElem?_getD]
    cases hx : a[i.toNat]? with
    | none => simp [z45]
    | some x => have := totT_mem (List.mem_of_getElem? hx); simp; omega
  have := eqTradeS_l0 a hb hr a.length 0 (by omega)
  exact Ev.congr (fun k => by unfold laws_eqTradeS.f; rw [if_pos rfl]; rfl) this
/-! marks -/
def iota : Nat → Int → List Int
  | 0, _ => []
  | n + 1, a => a :: iota n (a + 1)
theorem iota_len : ∀ (n : Nat) (a : Int), (iota n a).length = n
  | 0, _ => rfl
  | n + 1, a => by simp [iota, iota_len n]
theorem markIntS_l0 : ∀ (suf pre : List Int) (a : Int), (pre ++ suf).length ≤ 1000000000000 → 0 ≤ a → a + suf.length ≤ 2000000000000000 → Ev (fun k => laws_markIntS.l0 k (pre ++ suf) a (pre.length : Int)) (a + suf.length, pre ++ iota suf.length a) := by
  intro suf
  induction suf with
  | nil =>
    intro pre a hl h0 h1
    exact Ev.step (f := fun _ => some (a + (([] : List Int).length : Int), pre ++ iota ([] : List Int).length a)) (fun k => by simp only [laws_markIntS.l0]; rw [if_neg (by simp)]; simp [iota]) (Ev.now _)
  | cons x suf ih =>
    intro pre a hl h0 h1
    simp only [List.length_cons] at h1
    have h1c := h1
    have h1 := lt_mid pre suf x
    have ih := ih (pre ++ [a]) (a + 1) (by simpa using hl) (by omega) (by omega)
    refine Ev.step (f := fun k => laws_markIntS.l0 k (pre ++ [a] ++ suf) (a + 1) ((pre ++ [a]).length : Int)) (fun k => ?_) ?_
    · simp only [laws_markIntS.l0]
      rw [if_pos h1, if_pos (by omega), wrap_ok (n := a + 1) (by omega), wrap_mid pre suf x (by omega)]
      simp [List.set_append_right]
    · have e1 : a + ((x :: suf).length : Int) = a + 1 + (suf.length : Int) := by simp; omega
      have e2 : pre ++ iota (x :: suf).length a = pre ++ [a] ++ iota suf.length (a + 1) := by simp [iota]
      rw [e1, e2]; exact ih
theorem markIntS (l : List Int) (a : Int) (hl : l.length ≤ 1000000000000) (h0 : 0 ≤ a) (h1 : a ≤ 1000000000000000) : Ev (fun k => laws_markIntS.f k l a) (a + l.length, iota l.length a) := markIntS_l0 l [] a hl h0 (by omega)
theorem heldIntS_l0 : ∀ (n : Nat) (pre : List Int) (a : Int), pre.length + n ≤ 1000000000000 → 0 ≤ a → a + n ≤ 2000000000000000 → Ev (fun k => laws_heldIntS.l0 k (pre ++ iota n a) a (pre.length : Int)) (a + n) := by
  intro n
  induction n with
  | zero =>
    intro pre a hl h0 h1
    exact Ev.step (f := fun _ => some (a + ((0 : Nat) : Int))) (fun k => by simp only [laws_heldIntS.l0]; rw [if_neg (by simp [iota])]; simp) (Ev.now _)
  | succ n ih =>
    intro pre a hl h0 h1
    have h1' := lt_mid pre (iota n (a + 1)) a
    have ih := ih (pre ++ [a]) (a + 1) (by simp; omega) (by omega) (by omega)
    have e2 : pre ++ iota (n + 1) a = pre ++ a :: iota n (a + 1) := rfl
    have e3 : pre ++ [a] ++ iota n (a + 1) = pre ++ a :: iota n (a + 1) := by simp
    rw [e3] at ih
    rw [e2]
    refine Ev.step (f := fun k => laws_heldIntS.l0 k (pre ++ a :: iota n (a + 1)) (a + 1) ((pre ++ [a]).length : Int)) (fun k => ?_) ?_
    · simp only [laws_heldIntS.l0]
      rw [if_pos h1', if_pos (by omega), rd_mid, if_pos rfl, wrap_ok (n := a + 1) (by omega), wrap_mid pre (iota n (a + 1)) a (by simp [iota_len]; omega)]
    · rw [show a + ((n + 1 : Nat) : Int) = a + 1 + (n : Int) by omega]; exact ih
theorem heldIntS (n : Nat) (a : Int) (hl : n ≤ 1000000000000) (h0 : 0 ≤ a) (h1 : a ≤ 1000000000000000) : Ev (fun k => laws_heldIntS.f k (iota n a) a) (a + n) := heldIntS_l0 n [] a (by simpa using hl) h0 (by omega)
def totL (xs : List (List Int)) : Nat := (xs.map List.length).sum
def marksL : List (List Int) → Int → List (List Int)
  | [], _ => []
  | x :: xs, a => iota x.length a :: marksL xs (a + x.length)
theorem marksL_len : ∀ (xs : List (List Int)) (a : Int), (marksL xs a).length = xs.length
  | [], _ => rfl
  | x :: xs, a => by simp [marksL, marksL_len xs]
theorem markIntSS_l0 : ∀ (suf pre : List (List Int)) (a : Int), (pre ++ suf).length ≤ 1000000000 → totL suf ≤ 1000000000 → 0 ≤ a → a + totL suf ≤ 1000000000000000 → Ev (fun k => laws_markIntSS.l0 k (pre ++ suf) a (pre.length : Int)) (a + totL suf, pre ++ marksL suf a) := by
  intro suf
  induction suf with
  | nil =>
    intro pre a hl ht h0 h1
    exact Ev.step (f := fun _ => some (a + ((totL [] : Nat) : Int), pre ++ marksL [] a)) (fun k => by simp only [laws_markIntSS.l0]; rw [if_neg (by simp)]; simp [totL, marksL]) (Ev.now _)
  | cons x suf ih =>
    intro pre a hl ht h0 h1
    have ett : totL (x :: suf) = x.length + totL suf := by simp [totL]
    rw [ett] at ht h1
    have h1' := lt_mid pre suf x
    have ih := ih (pre ++ [iota x.length a]) (a + x.length) (by simpa using hl) (by omega) (by omega) (by omega)
    refine Ev.step (f := fun k => (laws_markIntS.f k x a).bind fun bt => (laws_markIntSS.l0 k ((pre ++ x :: suf).set pre.length bt.2) bt.1 ((pre ++ [x]).length : Int))) (fun k => ?_) ?_
    · simp only [laws_markIntSS.l0]
      rw [if_pos h1', if_pos (by omega), rdL_mid, wrap_mid pre suf x (by omega)]; rfl
    · refine Ev.bind (markIntS x a (by omega) h0 (by omega)) ?_
      have e1 : (pre ++ x :: suf).set pre.length (iota x.length a) = pre ++ [iota x.length a] ++ suf := by simp [List.set_append_right]
      have e2 : pre ++ marksL (x :: suf) a = pre ++ [iota x.length a] ++ marksL suf (a + x.length) := by simp [marksL]
      have e3 : ((pre ++ [x]).length : Int) = ((pre ++ [iota x.length a]).length : Int) := by simp
      simp only [e1, e3]
      rw [e2, ett, show a + ((x.length + totL suf : Nat) : Int) = a + x.length + (totL suf : Int) by omega]
      exact ih
theorem markIntSS (G : List (List Int)) (a : Int) (hl : G.length ≤ 1000000000) (ht : totL G ≤ 1000000000) (h0 : 0 ≤ a) (h1 : a ≤ 1000) : Ev (fun k => laws_markIntSS.f k G a) (a + totL G, marksL G a) := markIntSS_l0 G [] a hl ht h0 (by omega)
theorem heldIntSS_l0 : ∀ (suf pre : List (List Int)) (a : Int), pre.length + suf.length ≤ 1000000000 → totL suf ≤ 1000000000 → 0 ≤ a → a + totL suf ≤ 1000000000000000 → Ev (fun k => laws_heldIntSS.l0 k (pre ++ marksL suf a) a (pre.length : Int)) (a + totL suf) := by
  intro suf
  induction suf with
  | nil =>
    intro pre a hl ht h0 h1
    exact Ev.step (f := fun _ => some (a + ((totL [] : Nat) : Int))) (fun k => by simp only [laws_heldIntSS.l0]; rw [if_neg (by simp [marksL])]; simp [totL]) (Ev.now _)
  | cons x suf ih =>
    intro pre a hl ht h0 h1
    have ett : totL (x :: suf) = x.length + totL suf := by simp [totL]
    rw [ett] at ht h1
    simp only [List.length_cons] at hl
    have h1' := lt_mid pre (marksL suf (a + x.length)) (iota x.length a)
    have ih := ih (pre ++ [iota x.length a]) (a + x.length) (by simp; omega) (by omega) (by omega) (by omega)
    have e2 : pre ++ marksL (x :: suf) a = pre ++ iota x.length a :: marksL suf (a + x.length) := rfl
    have e3 : pre ++ [iota x.length a] ++ marksL suf (a + x.length) = pre ++ iota x.length a :: marksL suf (a + x.length) := by simp
    rw [e3] at ih
    rw [e2]
    refine Ev.step (f := fun k => (laws_heldIntS.f k (iota x.length a) a).bind fun t226 => (if t226 < 0 then (some (-1)) else (laws_heldIntSS.l0 k (pre ++ iota x.length a :: marksL suf (a + x.length)) t226 ((pre ++ [iota x.length a]).length : Int)))) (fun k => ?_) ?_
    · simp only [laws_heldIntSS.l0]
      rw [if_pos h1', if_pos (by omega), rdL_mid, wrap_mid pre (marksL suf (a + x.length)) (iota x.length a) (by simp [marksL_len]; omega)]
    · refine Ev.bind (heldIntS x.length a (by omega) h0 (by omega)) ?_
      simp only [show ¬ a + (x.length : Int) < 0 by omega, if_false]
      rw [ett, show a + ((x.length + totL suf : Nat) : Int) = a + x.length + (totL suf : Int) by omega]
      exact ih
theorem heldIntSS (G : List (List Int)) (a : Int) (hl : G.length ≤ 1000000000) (ht : totL G ≤ 1000000000) (h0 : 0 ≤ a) (h1 : a ≤ 1000) : Ev (fun k => laws_heldIntSS.f k (marksL G a) a) (a + totL G) := heldIntSS_l0 G [] a (by simpa using hl) ht h0 (by omega)
theorem markTradeS_l0 : ∀ (suf pre : List S45) (a : Int), (pre ++ suf).length ≤ 1000000000 → totT suf ≤ 1000000000 → 0 ≤ a → a + totT suf ≤ 1000000000000000 → Ev (fun k => laws_markTradeS.l0 k (pre ++ suf) a (pre.length : Int)) (a + totT suf) := by
  intro suf
  induction suf with
  | nil =>
    intro pre a hl ht h0 h1
    exact Ev.step (f := fun _ => some (a + ((totT [] : Nat) : Int))) (fun k => by simp only [laws_markTradeS.l0]; rw [if_neg (by simp)]; simp [totT]) (Ev.now _)
  | cons x suf ih =>
    intro pre a hl ht h0 h1
    have ett : totT (x :: suf) = x.f0.length + x.f1.length + totT suf := by simp [totT]
    rw [ett] at ht h1
    have h1' := lt_mid pre suf x
    have ih := ih (pre ++ [x]) (a + x.f0.length + x.f1.length) (by simpa using hl) (by omega) (by omega) (by omega)
    rw [show pre ++ [x] ++ suf = pre ++ x :: suf by simp] at ih
    refine Ev.step (f := fun k => (laws_markIntS.f k x.f0 a).bind fun b0 => ((laws_markIntS.f k x.f1 b0.1).bind fun b1 => (laws_markTradeS.l0 k (pre ++ x :: suf) b1.1 ((pre ++ [x]).length : Int)))) (fun k => ?_) ?_
    · simp only [laws_markTradeS.l0]
      rw [if_pos h1', if_pos (by omega), rdT_mid, wrap_mid pre suf x (by omega)]
    · refine Ev.bind (markIntS x.f0 a (by omega) h0 (by omega)) (Ev.bind (markIntS x.f1 _ (by omega) (by simp only; omega) (by simp only; omega)) ?_)
      simp only
      rw [ett, show a + ((x.f0.length + x.f1.length + totT suf : Nat) : Int) = a + x.f0.length + x.f1.length + (totT suf : Int) by omega]
      exact ih
theorem markTradeS (T : List S45) (a : Int) (hl : T.length ≤ 1000000000) (ht : totT T ≤ 1000000000) (h0 : 0 ≤ a) (h1 : a ≤ 10000000) : Ev (fun k => laws_markTradeS.f k T a) (a + totT T) := markTradeS_l0 T [] a hl ht h0 (by omega)
/-! exchanges that came in -/
def conv (t : S62) : S45 := ⟨t.f0, t.f1⟩
theorem rd62_mid (pre suf : List S62) (x : S62) : rd_T62 (pre ++ x :: suf) (pre.length : Int) = x := by
  unfold rd_T62; simp [List.getD_eq_getElem?_getD]
theorem szTradeS_l0 : ∀ (suf pre : List S62) (a : Int), (pre ++ suf).length ≤ 9223372036854775807 → (∀ t ∈ suf, t.f0.length ≤ 9223372036854775807 ∧ t.f1.length ≤ 9223372036854775807) → 0 ≤ a → a ≤ 1048576 →
    ∃ z : Int, Ev (fun k => laws_szTradeS.l0 k (pre ++ suf) a (pre.length : Int)) z ∧ (0 ≤ z → z = a - totT (suf.map conv)) := by
  intro suf
  induction suf with
  | nil =>
    intro pre a hl hs h0 h1
    exact ⟨a, Ev.step (f := fun _ => some a) (fun k => by simp only [laws_szTradeS.l0]; rw [if_neg (by simp)]) (Ev.now _), fun _ => by simp [totT]⟩
  | cons x suf ih =>
    intro pre a hl hs h0 h1
    have hx := hs x (by simp)
    have h1' := lt_mid pre suf x
    have ett : totT ((x :: suf).map conv) = x.f0.length + x.f1.length + totT (suf.map conv) := by simp [totT, conv]
    have hstep : ∀ r, Ev (fun k => (laws_szTrade.f x.f0 x.f1 a).bind fun t105 => (if t105 < 0 then (some (-1)) else (laws_szTradeS.l0 k (pre ++ x :: suf) t105 ((pre ++ [x]).length : Int)))) r → Ev (fun k => laws_szTradeS.l0 k (pre ++ x :: suf) a (pre.length : Int)) r := fun r h =>
      Ev.step (fun k => by simp only [laws_szTradeS.l0]; rw [if_pos h1', if_pos (by omega), rd62_mid, wrap_mid pre suf x hl]) h
    have w1 : wrap64 (a - (x.f0.length : Int)) = a - x.f0.length := wrap_ok (by omega)
    by_cases c1 : a - (x.f0.length : Int) < 0
    · refine ⟨-1, hstep _ ?_, fun h => by omega⟩
      have : laws_szTrade.f x.f0 x.f1 a = some (-1) := by unfold laws_szTrade.f laws_szIntS.f; rw [w1, if_pos c1]; rfl
      rw [this]; exact Ev.now _
    · have w2 : wrap64 (a - (x.f0.length : Int) - (x.f1.length : Int)) = a - x.f0.length - x.f1.length := wrap_ok (by omega)
      by_cases c2 : a - (x.f0.length : Int) - (x.f1.length : Int) < 0
      · refine ⟨-1, hstep _ ?_, fun h => by omega⟩
        have : laws_szTrade.f x.f0 x.f1 a = some (-1) := by
          unfold laws_szTrade.f laws_szIntS.f; rw [w1, if_neg c1]; simp only [Option.bind_some]; rw [if_neg c1, w2, if_pos c2]; rfl
        rw [this]; exact Ev.now _
      · have : laws_szTrade.f x.f0 x.f1 a = some (a - x.f0.length - x.f1.length) := by
          unfold laws_szTrade.f laws_szIntS.f; rw [w1, if_neg c1]; simp only [Option.bind_some]; rw [if_neg c1, w2, if_neg c2]; simp only [Option.bind_some]; rw [if_neg c2]
        obtain ⟨z, hz, hz2⟩ := ih (pre ++ [x]) (a - x.f0.length - x.f1.length) (by simpa using hl) (fun t ht => hs t (by simp [ht])) (by omega) (by omega)
        rw [show pre ++ [x] ++ suf = pre ++ x :: suf by simp] at hz
        refine ⟨z, hstep _ ?_, fun h => by have := hz2 h; omega⟩
        rw [this]; simp only [Option.bind_some, c2, if_false]; exact hz
theorem szTradeS (l : List S62) (hl : l.length ≤ 9223372036854775807) (hs : ∀ t ∈ l, t.f0.length ≤ 9223372036854775807 ∧ t.f1.length ≤ 9223372036854775807) : ∃ z : Int, Ev (fun k => laws_szTradeS.f k l 1048576) z ∧ (0 ≤ z → l.length ≤ 1048576 ∧ totT (l.map conv) ≤ 1048576) := by
  have w1 : wrap64 (1048576 - (l.length : Int)) = 1048576 - l.length := wrap_ok (by omega)
  by_cases c : (1048576 : Int) - l.length < 0
  · exact ⟨-1, Ev.congr (f := fun _ => some (-1)) (fun k => by unfold laws_szTradeS.f; rw [w1, if_pos c]) (Ev.now _), fun h => by omega⟩
  · obtain ⟨z, hz, hz2⟩ := szTradeS_l0 l [] (1048576 - l.length) hl hs (by omega) (by omega)
    exact ⟨z, Ev.congr (fun k => by unfold laws_szTradeS.f; rw [w1, if_neg c]; rfl) hz, fun h => by have := hz2 h; omega⟩
theorem toTradeS_l0 : ∀ (suf pre : List S62), (pre ++ suf).length ≤ 5864062014805 → (∀ t ∈ suf, t.f0.length ≤ 35184372088832 ∧ t.f1.length ≤ 35184372088832) →
    Ev (fun k => laws_toTradeS.l0 k (pre ++ suf) (pre.map conv ++ List.replicate suf.length z45) (pre.length : Int)) ((pre ++ suf).map conv) := by
  intro suf
  induction suf with
  | nil =>
    intro pre hl hs
    exact Ev.step (f := fun _ => some ((pre ++ []).map conv)) (fun k => by simp only [laws_toTradeS.l0]; rw [if_neg (by simp)]; simp) (Ev.now _)
  | cons x suf ih =>
    intro pre hl hs
    have hx := hs x (by simp)
    have h1 := lt_mid pre suf x
    have ih := ih (pre ++ [x]) (by simpa using hl) (fun t ht => hs t (by simp [ht]))
    rw [show pre ++ [x] ++ suf = pre ++ x :: suf by simp] at ih
    refine Ev.step (f := fun k => (laws_toTrade.f k x.f0 x.f1).bind fun bt124 => (laws_toTradeS.l0 k (pre ++ x :: suf) (pre.map conv ++ (⟨bt124.1, bt124.2⟩ : S45) :: List.replicate suf.length z45) ((pre ++ [x]).length : Int))) (fun k => ?_) ?_
    · simp only [laws_toTradeS.l0]
      rw [if_pos h1, if_pos (by omega), rd62_mid, wrap_mid pre suf x (by omega)]
      congr 1
      funext bt
      rw [if_pos (by simp; omega)]
      simp [List.replicate_succ, List.set_append_right]
    · refine Ev.bind (a := (x.f0, x.f1)) (Ev.bind (toIntS x.f0 hx.1) (Ev.bind (toIntS x.f1 hx.2) (Ev.now _))) ?_
      have e : (pre ++ [x]).map conv ++ List.replicate suf.length z45 = pre.map conv ++ (⟨x.f0, x.f1⟩ : S45) :: List.replicate suf.length z45 := by simp [conv]
      rw [e] at ih
      exact ih
theorem toTradeS (l : List S62) (hl : l.length ≤ 5864062014805) (hs : ∀ t ∈ l, t.f0.length ≤ 35184372088832 ∧ t.f1.length ≤ 35184372088832) : Ev (fun k => laws_toTradeS.f k l) (l.map conv) := by
  have := toTradeS_l0 l [] hl hs
  exact Ev.congr (fun k => by unfold laws_toTradeS.f; rw [if_pos (by omega), if_pos (by omega)]; rfl) this
end Go.Proofs.Ytlmgipjalcnfaaa.A
