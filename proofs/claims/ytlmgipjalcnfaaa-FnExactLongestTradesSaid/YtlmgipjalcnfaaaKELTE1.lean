import Derived.Test.YtlmgipjalcnfaaaKELTPx1
import Derived.Test.YtlmgipjalcnfaaaKELTPx4
import Derived.Test.YtlmgipjalcnfaaaKELTPx6
import Derived.Test.YtlmgipjalcnfaaaKELTPx7
import Derived.Test.YtlmgipjalcnfaaaKELTPx8
import Derived.Test.YtlmgipjalcnfaaaKELTA1
namespace Go.Proofs.Ytlmgipjalcnfaaa.A
open Go.RowKit Go.Proofs.Ytlmgipjalcnfaaa.P Go.Proofs.YtlmgipjalcnfaaaW.PrintWords Go.Proofs.YtlmgipjalcnfaaaW.PrintLast
set_option linter.unusedVariables false
set_option linter.unusedSimpArgs false
/-! ### The laws' own words: copies, comparisons, marks -/
theorem wrap_up {i : Nat} (h : i < 9223372036854775807) : wrap64 ((i : Int) + 1) = ((i + 1 : Nat) : Int) := by unfold wrap64; omega
theorem toIntS_l0 : ∀ (suf pre : List Int), (pre ++ suf).length ≤ 35184372088832 → Ev (fun k => laws_toIntS.l0 k (pre ++ suf) (pre ++ List.replicate suf.length 0) (pre.length : Int)) (pre ++ suf) := by
  intro suf
  induction suf with
  | nil =>
    intro pre hl
    exact Ev.step (f := fun _ => some (pre ++ [])) (fun k => by simp only [laws_toIntS.l0]; rw [if_neg (by simp)]; simp) (Ev.now _)
  | cons x suf ih =>
    intro pre hl
    have h1 := lt_mid pre suf x
    have ih := ih (pre ++ [x]) (by simpa using hl)
    rw [show pre ++ [x] ++ suf = pre ++ x :: suf by simp] at ih
    refine Ev.step (f := fun k => laws_toIntS.l0 k (pre ++ x :: suf) (pre ++ [x] ++ List.replicate suf.length 0) ((pre ++ [x]).length : Int)) (fun k => ?_) ih
    simp only [laws_toIntS.l0]
    rw [if_pos h1, if_pos (by omega), if_pos (by simp; omega), rd_mid, wrap_mid pre suf x (by omega)]
    simp [List.replicate_succ, List.set_append_right]
theorem toIntS (l : List Int) (hl : l.length ≤ 35184372088832) : Ev (fun k => laws_toIntS.f k l) l := by
  have := toIntS_l0 l [] hl
  exact Ev.congr (fun k => by unfold laws_toIntS.f; rw [if_pos (by omega), if_pos (by omega)]; rfl) this
theorem eqIntS_l0 (a : List Int) (hb : a.length < 9223372036854775807) : ∀ (d i : Nat), i + d = a.length → Ev (fun k => laws_eqIntS.l0 k a a (i : Int)) true := by
  intro d
  induction d with
  | zero => intro i hi; exact Ev.step (f := fun _ => some true) (fun k => by simp only [laws_eqIntS.l0]; rw [if_neg (by omega)]) (Ev.now _)
  | succ d ih =>
    intro i hi
    exact Ev.step (fun k => by simp only [laws_eqIntS.l0, if_true]; rw [if_pos (by omega), if_pos (by omega), if_pos (by omega), wrap_up (by omega)]) (ih (i + 1) (by omega))
theorem eqIntS (a : List Int) (hb : a.length < 9223372036854775807) : Ev (fun k => laws_eqIntS.f k a a) true := by
  have := eqIntS_l0 a hb a.length 0 (by omega)
  exact Ev.congr (fun k => by unfold laws_eqIntS.f; rw [if_pos rfl]; rfl) this
/-- how many numbers there are -/
def totT (ts : List S45) : Nat := (ts.map fun t => t.f0.length + t.f1.length).sum
theorem totT_mem {ts : List S45} {t : S45} (h : t ∈ ts) : t.f0.length + t.f1.length ≤ totT ts := by
  induction ts with
  | nil => simp at h
  | cons u ts ih =>
    simp only [totT, List.map_cons, List.sum_cons]
    rcases List.mem_cons.1 h with rfl | h
    · omega
    · have := ih h; unfold totT at this; omega
theorem eqTradeS_l0 (a : List S45) (hb : a.length < 9223372036854775807) (hs : ∀ i, (rd_T45 a i).f0.length < 9223372036854775807 ∧ (rd_T45 a i).f1.length < 9223372036854775807) : ∀ (d i : Nat), i + d = a.length → Ev (fun k => laws_eqTradeS.l0 k a a (i : Int)) true := by
  intro d
  induction d with
  | zero => intro i hi; exact Ev.step (f := fun _ => some true) (fun k => by simp only [laws_eqTradeS.l0]; rw [if_neg (by omega)]) (Ev.now _)
  | succ d ih =>
    intro i hi
    refine Ev.step (f := fun k => (laws_eqTrade.f k ((rd_T45 a i).f0) ((rd_T45 a i).f1) ((rd_T45 a i).f0) ((rd_T45 a i).f1)).bind fun t222 => (if t222 = true then (laws_eqTradeS.l0 k a a ((i + 1 : Nat) : Int)) else (some false))) (fun k => by simp only [laws_eqTradeS.l0]; rw [if_pos (by omega), if_pos (by omega), if_pos (by omega), wrap_up (by omega)]) ?_
    refine Ev.bind (a := true) (Ev.bind (eqIntS _ (hs i).1) (by simp only [if_true]; exact Ev.bind (eqIntS _ (hs i).2) (by simp only [if_true]; exact Ev.now _))) (by simp only [if_true]; exact ih (i + 1) (by omega))
theorem eqTradeS (a : List S45) (hb : a.length < 9223372036854775807) (hs : totT a < 9223372036854775807) : Ev (fun k => laws_eqTradeS.f k a a) true := by
  have hr : ∀ i, (rd_T45 a i).f0.length < 9223372036854775807 ∧ (rd_T45 a i).f1.length < 9223372036854775807 := by
    intro i
    unfold rd_T45; rw [List.getD_eq_getElem?_getD]
    cases hx : a[i.toNat]? with
    | none => simp [z45]
    | some x => have := totT_mem (List.mem_of_getElem? hx); simp; omega
  have := eqTradeS_l0 a hb hr a.length 0 (by omega)
  exact Ev.congr (fun k => by unfold laws_eqTradeS.f; rw [if_pos rfl]; rfl) this
/-! marks -/
/-! exchanges that came in -/
def conv (t : S62) : S45 := ⟨t.f0, t.f1⟩
theorem rd62_mid (pre suf : List S62) (x : S62) : rd_T62 (pre ++ x :: suf) (pre.length : Int) = x := by
  unfold rd_T62; simp [List.getD_eq_getElem?_getD]
theorem szTradeS_l0 : ∀ (suf pre : List S62) (a : Int), (pre ++ suf).length ≤ 9223372036854775807 → (∀ t ∈ suf, t.f0.length ≤ 9223372036854775807 ∧ t.f1.length ≤ 9223372036854775807) → 0 ≤ a → a ≤ 1048576 →
    ∃ z : Int, Ev (fun k => laws_szTradeS.l0 k (pre ++ suf) a (pre.length : Int)) z ∧ (0 ≤ z → z = a - totT (suf.map conv)) := by
  intro suf
  induction suf with
  | nil =>
    intro pre a hl hs h0 h1
    exact ⟨a, Ev.step (f := fun _ => some a) (fun k => by simp only [laws_szTradeS.l0]; rw [if_neg (by simp)]) (Ev.now _), fun _ => by simp [totT]⟩
  | cons x suf ih =>
    intro pre a hl hs h0 h1
    have hx := hs x (by simp)
    have h1' := lt_mid pre suf x
    have ett : totT ((x :: suf).map conv) = x.f0.length + x.f1.length + totT (suf.map conv) := by simp [totT, conv]
    have hstep : ∀ r, Ev (fun k => (laws_szTrade.f x.f0 x.f1 a).bind fun t105 => (if t105 < 0 then (some (-1)) else (laws_szTradeS.l0 k (pre ++ x :: suf) t105 ((pre ++ [x]).length : Int)))) r → Ev (fun k => laws_szTradeS.l0 k (pre ++ x :: suf) a (pre.length : Int)) r := fun r h =>
      Ev.step (fun k => by simp only [laws_szTradeS.l0]; rw [if_pos h1', if_pos (by omega), rd62_mid, wrap_mid pre suf x hl]) h
    have w1 : wrap64 (a - (x.f0.length : Int)) = a - x.f0.length := wrap_ok (by omega)
    by_cases c1 : a - (x.f0.length : Int) < 0
    · refine ⟨-1, hstep _ ?_, fun h => by omega⟩
      have : laws_szTrade.f x.f0 x.f1 a = some (-1) := by unfold laws_szTrade.f laws_szIntS.f; rw [w1, if_pos c1]; rfl
      rw [this]; exact Ev.now _
    · have w2 : wrap64 (a - (x.f0.length : Int) - (x.f1.length : Int)) = a - x.f0.length - x.f1.length := wrap_ok (by omega)
      by_cases c2 : a - (x.f0.length : Int) - (x.f1.length : Int) < 0
      · refine ⟨-1, hstep _ ?_, fun h => by omega⟩
        have : laws_szTrade.f x.f0 x.f1 a = some (-1) := by
          unfold laws_szTrade.f laws_szIntS.f; rw [w1, if_neg c1]; simp only [Option.bind_some]; rw [if_neg c1, w2, if_pos c2]; rfl
        rw [this]; exact Ev.now _
      · have : laws_szTrade.f x.f0 x.f1 a = some (a - x.f0.length - x.f1.length) := by
          unfold laws_szTrade.f laws_szIntS.f; rw [w1, if_neg c1]; simp only [Option.bind_some]; rw [if_neg c1, w2, if_neg c2]; simp only [Option.bind_some]; rw [if_neg c2]
        obtain ⟨z, hz, hz2⟩ := ih (pre ++ [x]) (a - x.f0.length - x.f1.length) (by simpa using hl) (fun t ht => hs t (by simp [ht])) (by omega) (by omega)
        rw [show pre ++ [x] ++ suf = pre ++ x :: suf by simp] at hz
        refine ⟨z, hstep _ ?_, fun h => by have := hz2 h; omega⟩
        rw [this]; simp only [Option.bind_some, c2, if_false]; exact hz
theorem szTradeS (l : List S62) (hl : l.length ≤ 9223372036854775807) (hs : ∀ t ∈ l, t.f0.length ≤ 9223372036854775807 ∧ t.f1.length ≤ 9223372036854775807) : ∃ z : Int, Ev (fun k => laws_szTradeS.f k l 1048576) z ∧ (0 ≤ z → l.length ≤ 1048576 ∧ totT (l.map conv) ≤ 1048576) := by
  have w1 : wrap64 (1048576 - (l.length : Int)) = 1048576 - l.length := wrap_ok (by omega)
  by_cases c : (1048576 : Int) - l.length < 0
  · exact ⟨-1, Ev.congr (f := fun _ => some (-1)) (fun k => by unfold laws_szTradeS.f; rw [w1, if_pos c]) (Ev.now _), fun h => by omega⟩
  · obtain ⟨z, hz, hz2⟩ := szTradeS_l0 l [] (1048576 - l.length) hl hs (by omega) (by omega)
    exact ⟨z, Ev.congr (fun k => by unfold laws_szTradeS.f; rw [w1, if_neg c]; rfl) hz, fun h => by have := hz2 h; omega⟩
theorem toTradeS_l0 : ∀ (suf pre : List S62), (pre ++ suf).length ≤ 5864062014805 → (∀ t ∈ suf, t.f0.length ≤ 35184372088832 ∧ t.f1.length ≤ 35184372088832) →
    Ev (fun k => laws_toTradeS.l0 k (pre ++ suf) (pre.map conv ++ List.replicate suf.length z45) (pre.length : Int)) ((pre ++ suf).map conv) := by
  intro suf
  induction suf with
  | nil =>
    intro pre hl hs
    exact Ev.step (f := fun _ => some ((pre ++ []).map conv)) (fun k => by simp only [laws_toTradeS.l0]; rw [if_neg (by simp)]; simp) (Ev.now _)
  | cons x suf ih =>
    intro pre hl hs
    have hx := hs x (by simp)
    have h1 := lt_mid pre suf x
    have ih := ih (pre ++ [x]) (by simpa using hl) (fun t ht => hs t (by simp [ht]))
    rw [show pre ++ [x] ++ suf = pre ++ x :: suf by simp] at ih
    refine Ev.step (f := fun k => (laws_toTrade.f k x.f0 x.f1).bind fun bt124 => (laws_toTradeS.l0 k (pre ++ x :: suf) (pre.map conv ++ (⟨bt124.1, bt124.2⟩ : S45) :: List.replicate suf.length z45) ((pre ++ [x]).length : Int))) (fun k => ?_) ?_
    · simp only [laws_toTradeS.l0]
      rw [if_pos h1, if_pos (by omega), rd62_mid, wrap_mid pre suf x (by omega)]
      congr 1
      funext bt
      rw [if_pos (by simp; omega)]
      simp [List.replicate_succ, List.set_append_right]
    · refine Ev.bind (a := (x.f0, x.f1)) (Ev.bind (toIntS x.f0 hx.1) (Ev.bind (toIntS x.f1 hx.2) (Ev.now _))) ?_
      have e : (pre ++ [x]).map conv ++ List.replicate suf.length z45 = pre.map conv ++ (⟨x.f0, x.f1⟩ : S45) :: List.replicate suf.length z45 := by simp [conv]
      rw [e] at ih
      exact ih
theorem toTradeS (l : List S62) (hl : l.length ≤ 5864062014805) (hs : ∀ t ∈ l, t.f0.length ≤ 35184372088832 ∧ t.f1.length ≤ 35184372088832) : Ev (fun k => laws_toTradeS.f k l) (l.map conv) := by
  have := toTradeS_l0 l [] hl hs
  exact Ev.congr (fun k => by unfold laws_toTradeS.f; rw [if_pos (by omega), if_pos (by omega)]; rfl) this
end Go.Proofs.Ytlmgipjalcnfaaa.A
