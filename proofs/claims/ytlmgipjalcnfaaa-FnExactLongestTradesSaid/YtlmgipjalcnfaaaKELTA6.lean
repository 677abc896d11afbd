import Derived.Test.YtlmgipjalcnfaaaKELTA5
import Derived.Test.YtlmgipjalcnfaaaKELTPx14
namespace Go.Proofs.Ytlmgipjalcnfaaa.A
open Go.RowKit Go.Proofs.Ytlmgipjalcnfaaa.P Go.Proofs.YtlmgipjalcnfaaaW.PrintWords Go.Proofs.YtlmgipjalcnfaaaW.PrintLast
set_option linter.unusedVariables false
set_option linter.unusedSimpArgs false
/-! ### 9. The longest row, impl's way: a table from heaps to numbers -/
def lm (m : List ((Int × Int × Int) × Int)) (x : List Int) : Int := ((m.find? (fun h => h.1 == Map3.kOf x)).map (fun h => h.2)).getD 0
theorem tget_is {x : List Int} (hx : x.length = 3) (m : List ((Int × Int × Int) × Int)) : Map3.tget x m = some (lm m x) := by unfold Map3.tget; rw [if_pos hx]; rfl
theorem tput_is {x : List Int} (hx : x.length = 3) (n : Int) (m : List ((Int × Int × Int) × Int)) : Map3.tput x n m = some (Map3.put3 m (Map3.kOf x) n) := by unfold Map3.tput; rw [if_pos hx]
theorem find_put (k q : Int × Int × Int) (n : Int) : ∀ m : List ((Int × Int × Int) × Int), ((Map3.put3 m k n).find? (fun h => h.1 == q)).map (fun h => h.2) = if k = q then some n else (m.find? (fun h => h.1 == q)).map (fun h => h.2)
  | [] => by
    by_cases e : k = q
    · simp [Map3.put3, e]
    · simp [Map3.put3, e]
  | (k', y) :: m => by
    have ih := find_put k q n m
    by_cases e1 : k' = k
    · subst e1
      by_cases e : k' = q
      · simp [Map3.put3, List.findIdx?_cons, e]
      · simp [Map3.put3, List.findIdx?_cons, e]
    · have hp : Map3.put3 ((k', y) :: m) k n = (k', y) :: Map3.put3 m k n := by
        unfold Map3.put3
        rw [List.findIdx?_cons]
        have : (((k', y) : (Int × Int × Int) × Int).1 == k) = false := by rw [beq_eq_false_iff_ne]; exact e1
        simp only [this, Bool.false_eq_true, if_false]
        cases m.findIdx? (fun h => h.1 == k) with
        | none => rfl
        | some j => rfl
      rw [hp]
      by_cases e : k' = q
      · subst e
        simp [Ne.symm e1]
      · have : (((k', y) : (Int × Int × Int) × Int).1 == q) = false := by rw [beq_eq_false_iff_ne]; exact e
        rw [List.find?_cons, List.find?_cons]
        simp only [this]
        exact ih
theorem lm_put {x y : List Int} (hx : x.length = 3) (hy : y.length = 3) (n : Int) (m : List ((Int × Int × Int) × Int)) : lm (Map3.put3 m (Map3.kOf x) n) y = if y = x then n else lm m y := by
  unfold lm
  rw [find_put]
  by_cases e : y = x
  · rw [if_pos e, if_pos (by rw [e])]; rfl
  · rw [if_neg e, if_neg (fun h => e (Map3.kOf_inj hx hy h).symm)]
/-- the table's numbers, and how great they can be -/
def Tab (m : List ((Int × Int × Int) × Int)) (long : List Int → Int) (B : Nat) : Prop := ∀ y : List Int, y.length = 3 → lm m y = long y ∧ 0 ≤ long y ∧ long y ≤ B
theorem mx_is (a b : Int) : mx a b = max a b := by unfold mx; split <;> omega
/-- the rules gone through for x -/
theorem lt_l2 {h : List Int} {ts : List S45} (hts : ∀ t ∈ ts, okT t = true) (hl : ts.length ≤ 4) {L : List (List Int)} {m : List ((Int × Int × Int) × Int)} {long : List Int → Int} {B : Nat} (hT : Tab m long B) (hB : B ≤ 1000000) (again : Bool) {x : List Int} (hx : okL 40 x = true) (s : Int) {i : Nat} (hi : i < 1000) (r : Int)
    (hnext : ∀ st : List ((Int × Int × Int) × Int) × Bool, (Tab st.1 (G.relax (scs ts) (long, again) x).1 (B + 1) ∧ st.2 = (G.relax (scs ts) (long, again) x).2) → Ev (fun k => impl_LongestTrades.l1 k h ts L st.1 st.2 (L.length : Int) s L (L.length : Int) ((i + 1 : Nat) : Int)) r) :
    ∀ (suf pre : List S45) (n : Int), pre ++ suf = ts → 0 ≤ n → n ≤ B + 1 → G.best long n (scs suf x) = G.best long 0 (scs ts x) →
    Ev (fun k => impl_LongestTrades.l2 k h ts L m again x n (L.length : Int) s L (L.length : Int) (i : Int) ts (ts.length : Int) (pre.length : Int)) r := by
  intro suf
  induction suf with
  | nil =>
    intro pre n hp h0 h1 hb
    have hb : n = G.best long 0 (scs ts x) := hb
    have e0 := (hT x (okL_len hx)).1
    refine Ev.step (f := fun k => if n = lm m x then (impl_LongestTrades.l1 k h ts L m again (L.length : Int) s L (L.length : Int) ((i + 1 : Nat) : Int)) else (impl_LongestTrades.l1 k h ts L (Map3.put3 m (Map3.kOf x) n) true (L.length : Int) s L (L.length : Int) ((i + 1 : Nat) : Int)))
      (fun k => by simp only [impl_LongestTrades.l2]; rw [if_neg (by rw [← hp]; simp), tget_is (okL_len hx)]; simp only [Option.bind_some]; rw [tput_is (okL_len hx), wrap_next (by omega)]; rfl) ?_
    by_cases c : n = lm m x
    · simp only [c, if_true]
      refine hnext (m, again) ?_
      have : G.relax (scs ts) (long, again) x = (long, again) := by simp [G.relax, ← hb, c, e0]
      rw [this]
      exact ⟨fun y hy => ⟨(hT y hy).1, (hT y hy).2.1, Int.le_trans (hT y hy).2.2 (by omega)⟩, rfl⟩
    · simp only [c, if_false]
      refine hnext (Map3.put3 m (Map3.kOf x) n, true) ?_
      have : G.relax (scs ts) (long, again) x = (G.up long x n, true) := by
        unfold G.relax
        simp only [← hb]
        rw [if_neg (by rw [← e0]; exact c)]
      rw [this]
      refine ⟨fun y hy => ?_, rfl⟩
      show lm (Map3.put3 m (Map3.kOf x) n) y = G.up long x n y ∧ 0 ≤ G.up long x n y ∧ G.up long x n y ≤ ((B + 1 : Nat) : Int)
      rw [lm_put (okL_len hx) hy]
      have := hT y hy
      unfold G.up
      by_cases e : y = x
      · rw [if_pos e, if_pos e]; omega
      · rw [if_neg e, if_neg e]; omega
  | cons t suf ih =>
    intro pre n hp h0 h1 hb
    have ht := hts t (by rw [← hp]; simp)
    have g1 : (pre.length : Int) < (ts.length : Int) := by rw [← hp]; exact lt_mid pre suf t
    have et : rd_T45 ts (pre.length : Int) = t := by rw [← hp]; exact rdT_mid pre suf t
    have ew : wrap64 ((pre.length : Int) + 1) = ((pre ++ [t]).length : Int) := by
      rw [← hp] at hl; exact wrap_mid pre suf t (by omega)
    refine Ev.step (f := fun k => (impl_traded.f k x t.f0 t.f1).bind fun bt118 => (if bt118.2 = true then ((Map3.tget bt118.1 m).bind fun t122 => (impl_LongestTrades.l2 k h ts L m again x (mx n (wrap64 (t122 + 1))) (L.length : Int) s L (L.length : Int) (i : Int) ts (ts.length : Int) ((pre ++ [t]).length : Int))) else (impl_LongestTrades.l2 k h ts L m again x n (L.length : Int) s L (L.length : Int) (i : Int) ts (ts.length : Int) ((pre ++ [t]).length : Int))))
      (fun k => by simp only [impl_LongestTrades.l2]; rw [if_pos g1, if_pos (by omega), if_pos g1, et, ew]) ?_
    cases hs : stp x t with
    | none =>
      refine Ev.bind (traded_none hx ht hs) ?_
      simp only [Bool.false_eq_true, if_false]
      exact ih (pre ++ [t]) n (by simpa using hp) h0 h1 (by rw [← hb]; simp [scs, hs])
    | some y =>
      have hy := okL_len (stp_ok hx ht hs)
      have hb1 := hT y hy
      refine Ev.bind (traded_some hx ht hs) ?_
      simp only [if_true, tget_is hy, Option.bind_some]
      rw [hb1.1, wrap_ok (n := long y + 1) (by omega), mx_is]
      exact ih (pre ++ [t]) (max n (long y + 1)) (by simpa using hp) (by omega) (by omega) (by rw [← hb]; simp [scs, hs, G.best])
/-- one round -/
theorem lt_l1 {h : List Int} {ts : List S45} (hts : ∀ t ∈ ts, okT t = true) (hl : ts.length ≤ 4) (ch : h.length = 3) {L : List (List Int)} (hL : L.length ≤ 400) (hok : ∀ y ∈ L, okL 40 y = true) (s : Int) (r : Int) :
    ∀ (suf pre : List (List Int)) (m : List ((Int × Int × Int) × Int)) (st : (List Int → Int) × Bool) (B : Nat), pre ++ suf = L → Tab m st.1 B → B + suf.length ≤ 1000000 →
    (∀ m', Tab m' (suf.foldl (G.relax (scs ts)) st).1 (B + suf.length) → Ev (fun k => if (suf.foldl (G.relax (scs ts)) st).2 = true then impl_LongestTrades.l0 k h ts L m' (L.length : Int) (wrap64 (s + 1)) else some ((suf.foldl (G.relax (scs ts)) st).1 h)) r) →
    Ev (fun k => impl_LongestTrades.l1 k h ts L m st.2 (L.length : Int) s L (L.length : Int) (pre.length : Int)) r := by
  intro suf
  induction suf with
  | nil =>
    intro pre m st B hp hT hB hend
    refine Ev.step (f := fun k => if st.2 = true then impl_LongestTrades.l0 k h ts L m (L.length : Int) (wrap64 (s + 1)) else some (st.1 h)) (fun k => by simp only [impl_LongestTrades.l1]; rw [if_neg (by rw [← hp]; simp), tget_is ch, (hT h ch).1]; rfl) (hend m hT)
  | cons x suf ih =>
    intro pre m st B hp hT hB hend
    have g1 : (pre.length : Int) < (L.length : Int) := by rw [← hp]; exact lt_mid pre suf x
    have ex : rd_L1 L (pre.length : Int) = x := by rw [← hp]; exact rdL_mid pre suf x
    have hx := hok x (by rw [← hp]; simp)
    have hlen : pre.length < 1000 := by rw [← hp] at hL; simp at hL; omega
    simp only [List.length_cons] at hB hend
    refine Ev.step (f := fun k => impl_LongestTrades.l2 k h ts L m st.2 x 0 (L.length : Int) s L (L.length : Int) (pre.length : Int) ts (ts.length : Int) 0) (fun k => by simp only [impl_LongestTrades.l1]; rw [if_pos g1, if_pos (by omega), if_pos g1, ex]) ?_
    refine lt_l2 hts hl hT (by omega) st.2 hx s hlen r ?_ ts [] 0 rfl (by omega) (by omega) rfl
    rintro ⟨m', again'⟩ ⟨hT', ha'⟩
    simp only at hT' ha'
    rw [ha']
    have := ih (pre ++ [x]) m' (G.relax (scs ts) (st.1, st.2) x) (B + 1) (by simpa using hp) hT' (by omega) (by
      intro m'' hT''
      rw [show B + 1 + suf.length = B + (suf.length + 1) by omega] at hT''
      exact hend m'' hT'')
    rw [show ((pre ++ [x]).length : Int) = ((pre.length + 1 : Nat) : Int) by simp] at this
    exact this
theorem lt_l0 {h : List Int} {ts : List S45} (hts : ∀ t ∈ ts, okT t = true) (hl : ts.length ≤ 4) (ch : h.length = 3) {L : List (List Int)} (hL : L.length ≤ 400) (hok : ∀ y ∈ L, okL 40 y = true) :
    ∀ (d s : Nat) (m : List ((Int × Int × Int) × Int)) (long : List Int → Int), s + d = L.length → Tab m long (s * L.length) →
    Ev (fun k => impl_LongestTrades.l0 k h ts L m (L.length : Int) (s : Int)) (G.run (scs ts) h L d long) := by
  intro d
  induction d with
  | zero =>
    intro s m long hs hT
    exact Ev.step (f := fun _ => some (-1)) (fun k => by simp only [impl_LongestTrades.l0]; rw [if_neg (by omega)]) (Ev.now _)
  | succ d ih =>
    intro s m long hs hT
    refine Ev.step (f := fun k => impl_LongestTrades.l1 k h ts L m false (L.length : Int) (s : Int) L (L.length : Int) 0) (fun k => by simp only [impl_LongestTrades.l0]; rw [if_pos (by omega)]) ?_
    have hmul : s * L.length + L.length ≤ 1000000 := by
      have : (s + 1) * L.length ≤ 400 * 400 := Nat.mul_le_mul (by omega) hL
      rw [Nat.add_mul] at this
      omega
    refine lt_l1 hts hl ch hL hok (s : Int) _ L [] m (long, false) (s * L.length) rfl hT hmul ?_
    intro m' hT'
    by_cases hflag : (L.foldl (G.relax (scs ts)) (long, false)).2 = true
    · have e : G.run (scs ts) h L (d + 1) long = G.run (scs ts) h L d (L.foldl (G.relax (scs ts)) (long, false)).1 := by
        show (if (G.round (scs ts) long L).2 = true then _ else _) = _
        rw [if_pos (show (G.round (scs ts) long L).2 = true from hflag)]; rfl
      rw [e]
      simp only [hflag, if_true]
      rw [wrap_next (by omega)]
      exact ih (s + 1) m' _ (by omega) (by rw [Nat.add_mul, Nat.one_mul]; exact hT')
    · have e : G.run (scs ts) h L (d + 1) long = (L.foldl (G.relax (scs ts)) (long, false)).1 h := by
        show (if (G.round (scs ts) long L).2 = true then _ else _) = _
        rw [if_neg (show ¬ (G.round (scs ts) long L).2 = true from hflag)]; rfl
      rw [e]
      simp only [hflag, if_false]
      exact Ev.now _
theorem reached_ok {h : List Int} {ts : List S45} (ch : okL 40 h = true) (hts : ∀ t ∈ ts, okT t = true) : ∀ y ∈ G.reached (scs ts) h, okL 40 y = true := by
  intro y hy
  rcases G.reached_is (sc := scs ts) h with e | ⟨hb, _, _⟩
  · rw [e] at hy; simp at hy
  · have hr := hb.reach y hy
    clear hy
    induction hr with
    | self => exact ch
    | step _ hy ih => exact scs_ok hts ih _ hy
/-- what both answer -/
def longT (h : List Int) (ts : List S45) : Int := if okL 40 h = true ∧ okTs ts = true then G.longest (scs ts) h else -1
theorem longestTrades (h : List Int) (ts : List S45) (hh : h.length ≤ 9223372036854775807) (hs : smallT ts) : Ev (fun k => impl_LongestTrades.f k h ts) (longT h ts) := by
  refine Ev.bind (heapsReached h ts hh hs) ?_
  unfold reach longT
  by_cases hr : okL 40 h = true ∧ okTs ts = true
  · rw [if_pos hr, if_pos hr]
    obtain ⟨h1, h2⟩ := okTs_mem hr.2
    have hL : (G.reached (scs ts) h).length ≤ 400 := by
      rcases G.reached_is (sc := scs ts) h with e | ⟨_, _, hl⟩
      · rw [e]; simp
      · exact hl
    have := lt_l0 h1 h2 (okL_len hr.1) hL (reached_ok hr.1 h1) (G.reached (scs ts) h).length 0 [] (fun _ => 0) (by omega) (fun y _ => ⟨rfl, by simp, by simp⟩)
    exact this
  · rw [if_neg hr, if_neg hr]
    exact Ev.step (f := fun _ => some (-1)) (fun k => by simp only [impl_LongestTrades.l0]; rw [if_neg (by simp)]) (Ev.now _)
end Go.Proofs.Ytlmgipjalcnfaaa.A
