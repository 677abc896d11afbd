import Derived.Test.YtlmgipjalcnfaaaKELTA6
import Derived.Test.YtlmgipjalcnfaaaKELTPx17
import Derived.Test.YtlmgipjalcnfaaaKELTPx18
namespace Go.Proofs.Ytlmgipjalcnfaaa.A
open Go.RowKit Go.Proofs.Ytlmgipjalcnfaaa.P Go.Proofs.YtlmgipjalcnfaaaW.PrintWords Go.Proofs.YtlmgipjalcnfaaaW.PrintLast
set_option linter.unusedVariables false
set_option linter.unusedSimpArgs false
/-! ### 12. The longest row, the reference's way: a list beside what is reached -/
theorem l1Same_l0 (a b : List Int) (ha : a.length < 9223372036854775807) : ∀ (d i : Nat), i + d = a.length → i ≤ b.length → Ev (fun k => spec_l1Same.l0 k a b (i : Int)) (decide (a.drop i = b.drop i)) := by
  intro d
  induction d with
  | zero =>
    intro i hi hb
    have e : decide (a.drop i = b.drop i) = ((a.length : Int) == (b.length : Int)) := by
      rw [List.drop_eq_nil_of_le (by omega), Bool.eq_iff_iff]
      simp only [decide_eq_true_eq, beq_iff_eq]
      constructor
      · intro h; have := List.drop_eq_nil_iff.1 h.symm; omega
      · intro h; exact (List.drop_eq_nil_of_le (by omega)).symm
    rw [e]
    refine Ev.step (f := fun k => spec_l1Same.j1 k a b (i : Int) false) (fun k => by simp only [spec_l1Same.l0]; rw [if_neg (by omega)]) ?_
    exact Ev.step (f := fun _ => some _) (fun k => by simp only [spec_l1Same.j1, Bool.false_eq_true, if_false]) (Ev.now _)
  | succ d ih =>
    intro i hi hb
    have h1 : i < a.length := by omega
    by_cases h2 : i < b.length
    · have e1 := rd_at (List.getElem?_eq_getElem h1)
      have e2 := rd_at (List.getElem?_eq_getElem h2)
      rw [List.drop_eq_getElem_cons h1, List.drop_eq_getElem_cons h2]
      refine Ev.step (f := fun k => spec_l1Same.j1 k a b (i : Int) true) (fun k => by simp only [spec_l1Same.l0]; rw [if_pos (by omega), decide_eq_true (by omega)]) ?_
      by_cases c : a[i] = b[i]
      · rw [dec_cons c]
        exact Ev.step (fun k => by simp only [spec_l1Same.j1, if_true]; rw [if_pos (by omega), if_pos (by omega), if_pos (by omega), e1, e2, if_pos c, wrap_next (by omega)]) (ih (i + 1) (by omega) (by omega))
      · rw [dec_cons_ne c]
        exact Ev.step (f := fun _ => some false) (fun k => by simp only [spec_l1Same.j1, if_true]; rw [if_pos (by omega), if_pos (by omega), if_pos (by omega), e1, e2, if_neg c]) (Ev.now _)
    · have e : decide (a.drop i = b.drop i) = ((a.length : Int) == (b.length : Int)) := by
        rw [Bool.eq_iff_iff]
        simp only [decide_eq_true_eq, beq_iff_eq]
        constructor
        · intro h; have := congrArg List.length h; simp at this; omega
        · intro h; omega
      rw [e]
      refine Ev.step (f := fun k => spec_l1Same.j1 k a b (i : Int) false) (fun k => by simp only [spec_l1Same.l0]; rw [if_pos (by omega), decide_eq_false (by omega)]) ?_
      exact Ev.step (f := fun _ => some _) (fun k => by simp only [spec_l1Same.j1, Bool.false_eq_true, if_false]) (Ev.now _)
theorem l1Same (a b : List Int) (ha : a.length < 9223372036854775807) : Ev (fun k => spec_l1Same.f k a b) (decide (a = b)) := by
  have := l1Same_l0 a b ha a.length 0 (by omega) (by omega)
  rw [List.drop_zero, List.drop_zero] at this
  exact this
/-- the place of what is there -/
theorem l8Index_l0 (L : List (List Int)) (x : List Int) (hL : L.length ≤ 400) (hok : ∀ y ∈ L, y.length = 3) : ∀ (d i : Nat), i + d = L.length → x ∈ L.drop i → ∃ j : Nat, Ev (fun k => spec_l8Index.l0 k L x (i : Int)) (j : Int) ∧ L[j]? = some x := by
  intro d
  induction d with
  | zero => intro i hi hx; rw [List.drop_eq_nil_of_le (by omega)] at hx; simp at hx
  | succ d ih =>
    intro i hi hx
    have h1 : i < L.length := by omega
    have e1 := rdL_at (List.getElem?_eq_getElem h1)
    rw [List.drop_eq_getElem_cons h1] at hx
    have hstep : ∀ r, Ev (fun k => if decide (L[i] = x) = true then (some (i : Int)) else (spec_l8Index.l0 k L x ((i + 1 : Nat) : Int))) r → Ev (fun k => spec_l8Index.l0 k L x (i : Int)) r := by
      intro r hk
      refine Ev.step (f := fun k => (spec_l1Same.f k L[i] x).bind fun t535 => (if t535 = true then (some (i : Int)) else (spec_l8Index.l0 k L x ((i + 1 : Nat) : Int)))) (fun k => by simp only [spec_l8Index.l0]; rw [if_pos (by omega), if_pos (by omega), e1, wrap_next (by omega)]) ?_
      exact Ev.bind (l1Same L[i] x (by rw [hok _ (List.getElem_mem h1)]; decide)) hk
    by_cases c : L[i] = x
    · refine ⟨i, hstep _ ?_, by rw [List.getElem?_eq_getElem h1, c]⟩
      rw [decide_eq_true c]; exact Ev.now _
    · obtain ⟨j, e, hj⟩ := ih (i + 1) (by omega) (by
        rcases List.mem_cons.1 hx with rfl | hx
        · exact absurd rfl c
        · exact hx)
      refine ⟨j, hstep _ ?_, hj⟩
      rw [decide_eq_false c]; exact e
theorem l8Index (L : List (List Int)) (x : List Int) (hL : L.length ≤ 400) (hok : ∀ y ∈ L, y.length = 3) (hx : x ∈ L) : ∃ j : Nat, Ev (fun k => spec_l8Index.f k L x) (j : Int) ∧ L[j]? = some x :=
  l8Index_l0 L x hL hok L.length 0 (by omega) (by simpa using hx)
/-- the list's numbers are those of a function -/
def Lng (l : List Int) (L : List (List Int)) (long : List Int → Int) (B : Nat) : Prop := l.length = L.length ∧ (∀ (j : Nat) x, L[j]? = some x → l[j]? = some (long x)) ∧ ∀ x ∈ L, -1 ≤ long x ∧ long x ≤ B
theorem nodup_at {L : List (List Int)} (hn : L.Nodup) {i j : Nat} {x : List Int} (hi : L[i]? = some x) (hj : L[j]? = some x) : i = j := by
  obtain ⟨h1, e1⟩ := List.getElem?_eq_some_iff.1 hi
  obtain ⟨h2, e2⟩ := List.getElem?_eq_some_iff.1 hj
  exact (List.getElem_inj hn).1 (by rw [e1, e2])
theorem Lng.put {l : List Int} {L : List (List Int)} {long : List Int → Int} {B : Nat} (hn : L.Nodup) (h : Lng l L long B) {j : Nat} {x : List Int} (hx : L[j]? = some x) {n : Int} (hn1 : -1 ≤ n ∧ n ≤ (B + 1 : Nat)) : Lng (l.set j n) L (G.up long x n) (B + 1) := by
  obtain ⟨h1, h2, h3⟩ := h
  have hj := (List.getElem?_eq_some_iff.1 hx).1
  refine ⟨by rw [List.length_set]; exact h1, fun i y hy => ?_, fun y hy => ?_⟩
  · by_cases e : i = j
    · subst e
      rw [hx] at hy; injection hy with hy; subst hy
      rw [List.getElem?_set_self (by omega)]; simp [G.up]
    · rw [List.getElem?_set_ne (Ne.symm e)]
      have hne : ¬ y = x := fun h => e (nodup_at hn hy (h ▸ hx))
      rw [h2 i y hy]; simp [G.up, hne]
  · have := h3 y hy
    unfold G.up; split <;> omega
theorem Lng.more {l : List Int} {L : List (List Int)} {long : List Int → Int} {B : Nat} (h : Lng l L long B) : Lng l L long (B + 1) := ⟨h.1, h.2.1, fun x hx => by have := h.2.2 x hx; omega⟩
theorem pbest_bound {L : List (List Int)} {long : List Int → Int} {B : Nat} : ∀ (ys : List (List Int)) (a : Int), (∀ y ∈ ys, long y ≤ B) → -1 ≤ a → a ≤ B + 1 → -1 ≤ G.pbest long a ys ∧ G.pbest long a ys ≤ B + 1
  | [], a, _, h0, h1 => ⟨h0, h1⟩
  | y :: ys, a, h, h0, h1 => by
    have hy := h y (by simp)
    simp only [G.pbest, List.foldl_cons]
    refine pbest_bound (L := L) ys _ (fun z hz => h z (by simp [hz])) ?_ ?_
    · split
      · omega
      · split <;> omega
    · split
      · omega
      · split <;> omega
/-- the rules gone through for x, the i-th of L -/
theorem sl_l3 {ts : List S45} (hts : ∀ t ∈ ts, okT t = true) (hl : ts.length ≤ 4) {L : List (List Int)} (hL : L.length ≤ 400) (hn : L.Nodup) (hok : ∀ y ∈ L, okL 40 y = true) (hc : ∀ x ∈ L, ∀ y ∈ scs ts x, y ∈ L) {l : List Int} {long : List Int → Int} {B : Nat} (hT : Lng l L long B) (hB : B ≤ 1000000) (s : Int) (more : Bool) {i : Nat} {x : List Int} (hx : L[i]? = some x) (r : Int)
    (hnext : Ev (fun k => spec_LongestTrades.l2 k ts L (l.set i (G.pbest long 0 (scs ts x))) s (more || decide (0 ≤ G.pbest long 0 (scs ts x))) (wrap64 ((i : Int) - 1))) r) :
    ∀ (suf pre : List S45) (n : Int), pre ++ suf = ts → -1 ≤ n → n ≤ B + 1 → G.pbest long n (scs suf x) = G.pbest long 0 (scs ts x) →
    Ev (fun k => spec_LongestTrades.l3 k ts L l s more (i : Int) n (pre.length : Int)) r := by
  have hi := (List.getElem?_eq_some_iff.1 hx).1
  have hxm := List.mem_of_getElem? hx
  have hend : ∀ (n : Int) (j : Int), n = G.pbest long 0 (scs ts x) → Ev (fun k => spec_LongestTrades.j4 k ts L l s more (i : Int) n j false) r := by
    intro n j he
    refine Ev.step (f := fun k => spec_LongestTrades.l2 k ts L (l.set i n) s (more || decide (0 ≤ n)) (wrap64 ((i : Int) - 1))) (fun k => ?_) (by rw [he]; exact hnext)
    simp only [spec_LongestTrades.j4, Bool.false_eq_true, if_false, Option.bind_some]
    rw [if_pos (by omega), if_pos (by have := hT.1; omega)]
    cases more with
    | true => simp only [if_true, Bool.true_or]; rfl
    | false => simp only [Bool.false_eq_true, if_false, Bool.false_or]; rfl
  intro suf
  induction suf with
  | nil =>
    intro pre n hp h0 h1 hb
    exact Ev.step (f := fun k => spec_LongestTrades.j4 k ts L l s more (i : Int) n (pre.length : Int) false) (fun k => by simp only [spec_LongestTrades.l3]; rw [if_neg (by rw [← hp]; simp)]) (hend n _ hb)
  | cons t suf ih =>
    intro pre n hp h0 h1 hb
    have ht := hts t (by rw [← hp]; simp)
    have g1 : (pre.length : Int) < (ts.length : Int) := by rw [← hp]; exact lt_mid pre suf t
    have et : rd_T45 ts (pre.length : Int) = t := by rw [← hp]; exact rdT_mid pre suf t
    have ew : wrap64 ((pre.length : Int) + 1) = ((pre ++ [t]).length : Int) := by
      rw [← hp] at hl; exact wrap_mid pre suf t (by omega)
    by_cases hneg : n < 0
    · have hbe : n = G.pbest long 0 (scs ts x) := by rw [← hb, G.pbest_neg long _ n hneg]
      exact Ev.step (f := fun k => spec_LongestTrades.j4 k ts L l s more (i : Int) n (pre.length : Int) false) (fun k => by simp only [spec_LongestTrades.l3]; rw [if_pos g1, decide_eq_false (by omega)]) (hend n _ hbe)
    · refine Ev.step (f := fun k => spec_LongestTrades.j4 k ts L l s more (i : Int) n (pre.length : Int) true) (fun k => by simp only [spec_LongestTrades.l3]; rw [if_pos g1, decide_eq_true (by omega)]) ?_
      refine Ev.step (f := fun k => (spec_TradeDo.f k x t.f0 t.f1).bind fun bt551 => (if bt551.2 = true then ((spec_l8Index.f k L bt551.1).bind fun t555 => (if 0 ≤ t555 then (if t555 < (l.length : Int) then (if (rd l t555) < 0 then (spec_LongestTrades.l3 k ts L l s more (i : Int) (-1) ((pre ++ [t]).length : Int)) else (spec_LongestTrades.l3 k ts L l s more (i : Int) (mx n (wrap64 ((rd l t555) + 1))) ((pre ++ [t]).length : Int))) else (none)) else (none))) else (spec_LongestTrades.l3 k ts L l s more (i : Int) n ((pre ++ [t]).length : Int))))
        (fun k => by simp only [spec_LongestTrades.j4, if_true]; rw [if_pos (by omega), if_pos (by omega), if_pos (by omega), if_pos g1, rdL_at hx, et, ew]) ?_
      cases hs : stp x t with
      | none =>
        refine Ev.bind (sTradeDo_none (hok x hxm) ht hs) ?_
        simp only [Bool.false_eq_true, if_false]
        exact ih (pre ++ [t]) n (by simpa using hp) h0 h1 (by rw [← hb]; simp [scs, hs])
      | some y =>
        have hy : y ∈ L := hc x hxm y (List.mem_filterMap.2 ⟨t, by rw [← hp]; simp, hs⟩)
        obtain ⟨j, ej, hj⟩ := l8Index L y hL (fun z hz => okL_len (hok z hz)) hy
        have hjl := (List.getElem?_eq_some_iff.1 hj).1
        have hlj : rd l (j : Int) = long y := rd_at (hT.2.1 j y hj)
        have hb1 := hT.2.2 y hy
        have hb2 : G.pbest long n (y :: scs suf x) = G.pbest long 0 (scs ts x) := by rw [← hb]; simp [scs, hs]
        simp only [G.pbest, List.foldl_cons, hneg, if_false] at hb2
        refine Ev.bind (sTradeDo_some (hok x hxm) ht hs) ?_
        simp only [if_true]
        refine Ev.bind ej ?_
        simp only [show (0 : Int) ≤ (j : Int) by omega, show (j : Int) < (l.length : Int) by have := hT.1; omega, if_true, hlj]
        by_cases cy : long y < 0
        · simp only [cy, if_true] at hb2 ⊢
          exact ih (pre ++ [t]) (-1) (by simpa using hp) (by omega) (by omega) hb2
        · simp only [cy, if_false] at hb2 ⊢
          rw [wrap_ok (n := long y + 1) (by omega), mx_is]
          exact ih (pre ++ [t]) (max n (long y + 1)) (by simpa using hp) (by omega) (by omega) hb2
/-- one round, from the last one on -/
theorem sl_l2 {ts : List S45} (hts : ∀ t ∈ ts, okT t = true) (hl : ts.length ≤ 4) {L : List (List Int)} (hL : L.length ≤ 400) (hn : L.Nodup) (hok : ∀ y ∈ L, okL 40 y = true) (hc : ∀ x ∈ L, ∀ y ∈ scs ts x, y ∈ L) (s r : Int) :
    ∀ (d : Nat) (l : List Int) (st : (List Int → Int) × Bool) (B : Nat), d ≤ L.length → Lng l L st.1 B → B + d ≤ 1000000 →
    (∀ l', Lng l' L ((L.take d).reverse.foldl (G.peel (scs ts)) st).1 (B + d) → Ev (fun k => spec_LongestTrades.l2 k ts L l' s ((L.take d).reverse.foldl (G.peel (scs ts)) st).2 (-1)) r) →
    Ev (fun k => spec_LongestTrades.l2 k ts L l s st.2 ((d : Int) - 1)) r := by
  intro d
  induction d with
  | zero =>
    intro l st B hd hT hB hend
    have := hend l hT
    simpa using this
  | succ d ih =>
    intro l st B hd hT hB hend
    have hdl : d < L.length := by omega
    have hx := List.getElem?_eq_getElem hdl
    have hxm := List.getElem_mem hdl
    have hlx : rd l (d : Int) = st.1 L[d] := rd_at (hT.2.1 d _ hx)
    have htake : (L.take (d + 1)).reverse = L[d] :: (L.take d).reverse := by rw [List.take_succ_eq_append_getElem hdl]; simp
    rw [htake] at hend
    simp only [List.foldl_cons] at hend
    have ew : wrap64 ((d : Int) - 1) = (d : Int) - 1 := wrap_ok (by omega)
    rw [show ((d + 1 : Nat) : Int) - 1 = (d : Int) by omega]
    by_cases c : 0 ≤ st.1 L[d]
    · have hp : G.peel (scs ts) st L[d] = st := by simp [G.peel, c]
      rw [hp] at hend
      refine Ev.step (f := fun k => spec_LongestTrades.l2 k ts L l s st.2 ((d : Int) - 1)) (fun k => by simp only [spec_LongestTrades.l2]; rw [if_pos (by omega), if_pos (by omega), if_pos (by have := hT.1; omega), hlx, if_pos (by omega), ew]) ?_
      refine ih l st (B + 1) (by omega) hT.more (by omega) ?_
      intro l' hl'
      exact hend l' (by rw [show B + (d + 1) = B + 1 + d by omega]; exact hl')
    · have hp : G.peel (scs ts) st L[d] = (G.up st.1 L[d] (G.pbest st.1 0 (scs ts L[d])), st.2 || decide (0 ≤ G.pbest st.1 0 (scs ts L[d]))) := by simp [G.peel, c]
      rw [hp] at hend
      refine Ev.step (f := fun k => spec_LongestTrades.l3 k ts L l s st.2 (d : Int) 0 0) (fun k => by simp only [spec_LongestTrades.l2]; rw [if_pos (by omega), if_pos (by omega), if_pos (by have := hT.1; omega), hlx, if_neg (by omega)]) ?_
      have hb := pbest_bound (L := L) (long := st.1) (B := B) (scs ts L[d]) 0 (fun y hy => (hT.2.2 y (hc _ hxm y hy)).2) (by omega) (by omega)
      refine sl_l3 hts hl hL hn hok hc hT (by omega) s st.2 hx r ?_ ts [] 0 rfl (by omega) (by omega) rfl
      rw [ew]
      refine ih (l.set d (G.pbest st.1 0 (scs ts L[d]))) (G.up st.1 L[d] (G.pbest st.1 0 (scs ts L[d])), st.2 || decide (0 ≤ G.pbest st.1 0 (scs ts L[d]))) (B + 1) (by omega) (hT.put hn hx (by omega)) (by omega) ?_
      intro l' hl'
      exact hend l' (by rw [show B + (d + 1) = B + 1 + d by omega]; exact hl')
theorem sl_l1 {h : List Int} {ts : List S45} (hts : ∀ t ∈ ts, okT t = true) (hl : ts.length ≤ 4) {L : List (List Int)} (hL : L.length ≤ 400) (hn : L.Nodup) (hf : ∃ e, L = h :: e) (hok : ∀ y ∈ L, okL 40 y = true) (hc : ∀ x ∈ L, ∀ y ∈ scs ts x, y ∈ L) :
    ∀ (d s : Nat) (l : List Int) (long : List Int → Int), s + d = L.length + 1 → Lng l L long (s * L.length) →
    Ev (fun k => spec_LongestTrades.l1 k ts L l (s : Int)) (G.prun (scs ts) h L.reverse d long) := by
  obtain ⟨e1, hf⟩ := hf
  have h0 : L[0]? = some h := by rw [hf]; rfl
  have hpos : 0 < L.length := by rw [hf]; simp
  intro d
  induction d with
  | zero =>
    intro s l long hs hT
    have := hT.1
    exact Ev.step (f := fun _ => some (long h)) (fun k => by
      simp only [spec_LongestTrades.l1]; rw [if_neg (by omega), if_pos (by omega)]
      have := rd_at (hT.2.1 0 h h0)
      rw [← this]; rfl) (Ev.now _)
  | succ d ih =>
    intro s l long hs hT
    have ew : wrap64 ((L.length : Int) - 1) = (L.length : Int) - 1 := wrap_ok (by omega)
    have hmul : s * L.length + L.length ≤ 1000000 := by
      have : (s + 1) * L.length ≤ 401 * 400 := Nat.mul_le_mul (by omega) hL
      rw [Nat.add_mul] at this
      omega
    refine Ev.step (f := fun k => spec_LongestTrades.l2 k ts L l (s : Int) false ((L.length : Int) - 1)) (fun k => by simp only [spec_LongestTrades.l1]; rw [if_pos (by omega), ew]) ?_
    refine sl_l2 hts hl hL hn hok hc (s : Int) _ L.length l (long, false) (s * L.length) (Nat.le_refl _) hT hmul ?_
    rw [List.take_length]
    intro l' hT'
    have hlen := hT'.1
    by_cases hflag : (L.reverse.foldl (G.peel (scs ts)) (long, false)).2 = true
    · have e : G.prun (scs ts) h L.reverse (d + 1) long = G.prun (scs ts) h L.reverse d (L.reverse.foldl (G.peel (scs ts)) (long, false)).1 := by
        show (if (G.pround (scs ts) long L.reverse).2 = true then _ else _) = _
        rw [if_pos (show (G.pround (scs ts) long L.reverse).2 = true from hflag)]; rfl
      rw [e, hflag]
      refine Ev.step (f := fun k => spec_LongestTrades.l1 k ts L l' ((s + 1 : Nat) : Int)) (fun k => by simp only [spec_LongestTrades.l2]; rw [if_neg (by omega), wrap_next (by omega)]; rfl) ?_
      exact ih (s + 1) l' _ (by omega) (by rw [Nat.add_mul, Nat.one_mul]; exact hT')
    · have e : G.prun (scs ts) h L.reverse (d + 1) long = (L.reverse.foldl (G.peel (scs ts)) (long, false)).1 h := by
        show (if (G.pround (scs ts) long L.reverse).2 = true then _ else _) = _
        rw [if_neg (show ¬ (G.pround (scs ts) long L.reverse).2 = true from hflag)]; rfl
      rw [e, show (L.reverse.foldl (G.peel (scs ts)) (long, false)).2 = false by simpa using hflag]
      refine Ev.step (f := fun _ => some ((L.reverse.foldl (G.peel (scs ts)) (long, false)).1 h)) (fun k => ?_) (Ev.now _)
      simp only [spec_LongestTrades.l2, Bool.false_eq_true, if_false]
      rw [if_neg (by omega), if_pos (by omega)]
      have := rd_at (hT'.2.1 0 h h0)
      rw [← this]; rfl
theorem sl_l0 {ts : List S45} {L : List (List Int)} (hL : L.length ≤ 400) (r : Int) (hend : Ev (fun k => spec_LongestTrades.l1 k ts L (List.replicate L.length (-1)) 0) r) : ∀ (d i : Nat), i + d = L.length → Ev (fun k => spec_LongestTrades.l0 k ts L (List.replicate i (-1)) (i : Int)) r := by
  intro d
  induction d with
  | zero =>
    intro i hi
    rw [show i = L.length by omega]
    exact Ev.step (fun k => by simp only [spec_LongestTrades.l0]; rw [if_neg (by omega)]) hend
  | succ d ih =>
    intro i hi
    refine Ev.step (f := fun k => spec_LongestTrades.l0 k ts L (List.replicate (i + 1) (-1)) ((i + 1 : Nat) : Int)) (fun k => by simp only [spec_LongestTrades.l0]; rw [if_pos (by omega), if_pos (by rw [List.length_replicate]; omega), wrap_next (by omega), List.replicate_succ']) (ih (i + 1) (by omega))
theorem sLongestTrades (h : List Int) (ts : List S45) (hh : h.length ≤ 9223372036854775807) (hs : smallT ts) : Ev (fun k => spec_LongestTrades.f k h ts) (longT h ts) := by
  refine Ev.bind (sHeapsReached h ts hh hs) ?_
  unfold reach longT
  by_cases hr : okL 40 h = true ∧ okTs ts = true
  · rw [if_pos hr, if_pos hr]
    obtain ⟨h1, h2⟩ := okTs_mem hr.2
    rcases G.reached_is (sc := scs ts) h with e | ⟨hb, hc, hL⟩
    · rw [e]
      simp only [List.length_nil, Int.natCast_zero, if_true]
      rw [show G.longest (scs ts) h = -1 by simp [G.longest, e, G.run]]
      exact Ev.now _
    · obtain ⟨e1, hf⟩ := hb.first
      have hh0 : h ∈ G.reached (scs ts) h := by rw [hf]; simp
      have hpos : ¬ ((G.reached (scs ts) h).length : Int) = 0 := by rw [hf]; simp; omega
      simp only [hpos, if_false]
      have er : G.longest (scs ts) h = G.prun (scs ts) h (G.reached (scs ts) h).reverse ((G.reached (scs ts) h).length + 1) (fun _ => -1) := G.run_eq_prun hc hh0 hb.reach
      rw [er]
      refine sl_l0 hL _ ?_ (G.reached (scs ts) h).length 0 (by omega)
      refine sl_l1 h1 h2 hL hb.nodup ⟨e1, hf⟩ (reached_ok hr.1 h1) hc ((G.reached (scs ts) h).length + 1) 0 _ _ (by omega) ⟨by rw [List.length_replicate], fun j x hx => ?_, fun x _ => by show (-1 : Int) ≤ -1 ∧ (-1 : Int) ≤ _; omega⟩
      have := (List.getElem?_eq_some_iff.1 hx).1
      rw [List.getElem?_replicate, if_pos (by omega)]
  · rw [if_neg hr, if_neg hr]
    simp only [List.length_nil, Int.natCast_zero, if_true]
    exact Ev.now _
end Go.Proofs.Ytlmgipjalcnfaaa.A
