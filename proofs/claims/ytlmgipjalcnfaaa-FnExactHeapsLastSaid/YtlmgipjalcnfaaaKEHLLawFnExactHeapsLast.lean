/- Proved: FnExactHeapsLast is true for all heaps and rules: what HeapsLast tells is what the reference tells, its arguments stay as they are, and what it hands back shares no memory with them nor with another call's result. Conditions: none but Go's own limits on the size of the arguments. -/
import Derived.Test.YtlmgipjalcnfaaaKEHLE1
import Derived.Test.YtlmgipjalcnfaaaKEHLA7
import Derived.Test.YtlmgipjalcnfaaaKEHLX7
import Derived.Test.YtlmgipjalcnfaaaRows
import Derived.Test.YtlmgipjalcnfaaaKEHLO
import Derived.WalkKit
import Derived.ProofKit
import Derived.OpenShut
import Derived.ShutString
import Derived.ChangeOld
import Derived.Below
import Derived.SizedLaws
import Derived.Test.YtlmgipjalcnfaaaKEHLWSized
namespace Go.Proofs.Ytlmgipjalcnfaaa.Pure
open Go.RowKit Go.Proofs.Ytlmgipjalcnfaaa.P Go.Proofs.YtlmgipjalcnfaaaW.PrintWords Go.Proofs.YtlmgipjalcnfaaaW.PrintLast Go.Proofs.Ytlmgipjalcnfaaa.A
set_option linter.unusedVariables false
theorem lasts_small {h : List Int} {ts : List S45} : (∀ y ∈ lasts h ts, y.length = 3) ∧ (lasts h ts).length ≤ 400 := by
  unfold lasts
  have hR := reach_ok (h := h) (ts := ts)
  exact ⟨fun y hy => okL_len (m := 40) (hR.1 y (List.mem_filter.1 hy).1), Nat.le_trans (List.length_filter_le _ _) hR.2⟩
theorem totL_le {n : Nat} : ∀ (G : List (List Int)), (∀ y ∈ G, y.length ≤ n) → totL G ≤ n * G.length
  | [], _ => by simp [totL]
  | x :: G, h => by
    have := totL_le G (fun y hy => h y (by simp [hy]))
    have hx := h x (by simp)
    simp only [totL, List.map_cons, List.sum_cons, List.length_cons] at this ⊢
    rw [Nat.mul_add, Nat.mul_one]; omega
theorem Ev.at {α : Type} {g : Nat → Option α} {r : α} (h : Ev g r) : ∃ K, ∀ k, K ≤ k → g k = some r := h
/-- The law's call ends in true, whatever came in. -/
theorem exactHeapsLast (A0 : Option Addr) (c0 : Nat) (l0 : List Int) (A1 : Option Addr) (c1 : Nat) (l1 : List S62) (w : World) (hr0 : Kd.C (Kd.int .i64) w A0 l0.length l0) (hc0 : l0.length ≤ c0) (hr1 : Kd.C k62 w A1 l1.length l1) (hc1 : l1.length ≤ c1)
    (hl1 : l1.length ≤ 9223372036854775807) (hs1 : ∀ t ∈ l1, t.f0.length ≤ 9223372036854775807 ∧ t.f1.length ≤ 9223372036854775807) :
    Calls Try.prog 7 #[.slice A0 l0.length c0, .slice A1 l1.length c1] w fun e w' => e = .returned (.bool true) ∧ Below w.heap.size w w' := by
  by_cases hlen : l0.length ≤ 1048576
  case neg => exact exactHeapsLast.long A0 c0 l0 A1 c1 l1 w hc0 hc1 (by omega)
  obtain ⟨z, hz, hz2⟩ := szTradeS l1 hl1 hs1
  by_cases hz0 : 0 ≤ z
  case neg =>
    obtain ⟨k, hk⟩ := hz.rounds
    exact exactHeapsLast.large k A0 c0 l0 A1 c1 l1 w hr1 hc0 hc1 hlen z hk (by omega)
  obtain ⟨hn1, ht1⟩ := hz2 hz0
  have hsh : ∀ t ∈ l1, t.f0.length ≤ 35184372088832 ∧ t.f1.length ≤ 35184372088832 := fun t ht => by
    have := totT_mem (List.mem_map_of_mem (f := conv) ht)
    simp only [conv] at this; omega
  have hT : (l1.map conv).length = l1.length := by simp
  have hsm : smallT (l1.map conv) := ⟨by omega, fun t ht => by have := totT_mem ht; omega⟩
  obtain ⟨hG3, hG4⟩ := lasts_small (h := l0) (ts := l1.map conv)
  have htl := totL_le (n := 3) (lasts l0 (l1.map conv)) (fun y hy => by rw [hG3 y hy]; exact Nat.le_refl _)
  obtain ⟨k1, e1⟩ := hz
  obtain ⟨k2, e2⟩ := toIntS l0 (by omega)
  obtain ⟨k3, e3⟩ := toTradeS l1 (by omega) hsh
  obtain ⟨k4, e4⟩ := sHeapsLast l0 (l1.map conv) (by omega) hsm
  obtain ⟨k5, e5⟩ := heapsLast l0 (l1.map conv) (by omega) hsm
  obtain ⟨k6, e6⟩ := eqIntSS (lasts l0 (l1.map conv)) (by omega) (fun x hx => by rw [hG3 x hx]; decide)
  obtain ⟨k7, e7⟩ := eqIntS l0 (by omega)
  obtain ⟨k8, e8⟩ := eqTradeS (l1.map conv) (by omega) (by omega)
  obtain ⟨k9, e9⟩ := markIntS l0 1 (by omega) (by omega) (by omega)
  obtain ⟨k10, e10⟩ := markTradeS (l1.map conv) (1 + l0.length) (by omega) (by omega) (by omega) (by omega)
  obtain ⟨k11, e11⟩ := markIntSS (lasts l0 (l1.map conv)) 1 (by omega) (by omega) (by omega) (by omega)
  obtain ⟨k12, e12⟩ := heldIntSS (lasts l0 (l1.map conv)) 1 (by omega) (by omega) (by omega) (by omega)
  have hk : ∃ k, k1 ≤ k ∧ k2 ≤ k ∧ k3 ≤ k ∧ k4 ≤ k ∧ k5 ≤ k ∧ k6 ≤ k ∧ k7 ≤ k ∧ k8 ≤ k ∧ k9 ≤ k ∧ k10 ≤ k ∧ k11 ≤ k ∧ k12 ≤ k := ⟨k1 + k2 + k3 + k4 + k5 + k6 + k7 + k8 + k9 + k10 + k11 + k12, by omega⟩
  obtain ⟨k, h1, h2, h3, h4, h5, h6, h7, h8, h9, h10, h11, h12⟩ := hk
  exact exactHeapsLast.calls k A0 c0 l0 A1 c1 l1 w hr0 hc0 hr1 hc1 (l1.map conv) (lasts l0 (l1.map conv)) _ _ z _ _ _ hlen (e1 k h1) hz0 (e2 k h2) (e3 k h3) (e4 k h4) (e5 k h5) (e6 k h6) (e7 k h7) (e8 k h8) (e9 k h9) (e10 k h10) (by omega) (e11 k h11) (e12 k h12) (by omega)
end Go.Proofs.Ytlmgipjalcnfaaa.Pure
namespace Go.Proofs.Ytlmgipjalcnfaaa.fnExactHeapsLast
open Go.ChangeShapes Go.WideShapes Go.ChangeAt Go.RowKit Go.Proofs.YtlmgipjalcnfaaaW.PrintWords Go.Proofs.Ytlmgipjalcnfaaa.P Go.Proofs.Ytlmgipjalcnfaaa.O
open Go.ChangeMaps (open_string shut_string)
set_option linter.unusedVariables false
theorem own : ownKnob Try.prog.godebug = none := by kernel_rfl
theorem laidOut : laidOutB Try.prog = true := by kernel_rfl
theorem opens22 : Opens Try.prog 22 (Kd.slice 3 (Kd.int .i64)) (fun l => l.length ≤ maxLen ∧ ∀ y ∈ l, (Lit.int .i64 y).wf = true) := opens_slice 3 Try.underlying22 (by kernel_rfl) (opens_int Try.underlying3)
theorem opens62 : Opens Try.prog 62 k62 (fun x => (x.f0.length ≤ maxLen ∧ ∀ y ∈ x.f0, (Lit.int .i64 y).wf = true) ∧ (x.f1.length ≤ maxLen ∧ ∀ y ∈ x.f1, (Lit.int .i64 y).wf = true)) :=
  opens_iso (d := Kd.pair (Kd.slice 3 (Kd.int .i64)) (Kd.slice 3 (Kd.int .i64))) (f := fun x : S62 => (x.f0, x.f1)) (fun y => ⟨y.1, y.2⟩) (fun _ => rfl)
    (opens_struct Try.underlying62 (by kernel_rfl) (tail_pair (tail_one (i := 0) rfl rfl (by kernel_rfl) opens22) (tail_one (i := 1) rfl rfl (by kernel_rfl) opens22)))
theorem opens23 : Opens Try.prog 23 (Kd.slice 62 k62) (fun l => l.length ≤ maxLen ∧ ∀ x ∈ l, (x.f0.length ≤ maxLen ∧ ∀ y ∈ x.f0, (Lit.int .i64 y).wf = true) ∧ (x.f1.length ≤ maxLen ∧ ∀ y ∈ x.f1, (Lit.int .i64 y).wf = true)) := opens_slice 62 Try.underlying23 (by kernel_rfl) opens62
set_option maxRecDepth 100000 in
theorem lifted (os : Os) (started : os.Started) (H : Type) (enc : TypeId × Value → H) :
    ReturnsInHanded {} Try.checked os 7 .any (Rows.fnExactHeapsLastSpec.pre6 enc Try.prog Try.f7 Rows.fnExactHeapsLastRow.domain false) (Rows.fnExactHeapsLastSpec.post enc Try.prog Try.f7 false true false false) := by
  refine returnsInHanded_of_change_sized (C := Try.checked) own started (by kernel_rfl) Try.func7
    (ChangeSpec.witness6 (enc := enc) (C := Try.checked) false ⟨#[], #[.slice none 0 0, .slice none 0 0], []⟩ 8 (by kernel_rfl) (by kernel_rfl) (by kernel_rfl) (by kernel_rfl)) ?_
  intro W base args ds gs before hval0 hW hcnd hsz0 _
  have hval : ∀ (j : Nat) t v, Try.f7.params[j]? = some t → args[j]? = some v → Value.okWide Try.prog W .any base t v := hval0
  have hW' := hW
  obtain ⟨p, q, hA0, hV, rfl, hfz, hnd⟩ := hW
  have hA : DataW.TrodAll enc Try.prog W 0 (fun _ => true) true Try.f7.params.toList args.toList ds p := hA0
  rw [Try.params7] at hA hval
  obtain ⟨v0, vs0, d0, ds0, p0, q0, hargs, rfl, rfl, h0, r0⟩ := trodAll_cons hA
  obtain ⟨v1, vs1, d1, ds1, p1, q1, rfl, rfl, rfl, h1, r1⟩ := trodAll_cons r0
  obtain ⟨rfl, rfl, rfl⟩ := trodAll_nil r1
  obtain rfl : args = #[v0, v1] := by cases args; simp_all
  obtain ⟨rfl, rfl⟩ := trodVars_none hV
  obtain ⟨a0, len0, cap0, rfl⟩ := okWide_slice Try.underlying22 (hval 0 22 v0 rfl rfl)
  obtain ⟨a1, len1, cap1, rfl⟩ := okWide_slice Try.underlying23 (hval 1 23 v1 rfl rfl)
  have k0 := h0
  have k1 := h1
  have lt0 : ∀ x ∈ p0, x.block < W.heap.size := by obtain ⟨m, hm⟩ := k0; exact DataW.trod_lt m _ _ _ hm
  have lt1 : ∀ x ∈ p1, x.block < W.heap.size := by obtain ⟨m, hm⟩ := k1; exact DataW.trod_lt m _ _ _ hm
  obtain ⟨y0, rfl, hc0, hC0, hq0⟩ := open_arg opens22 h0
  obtain ⟨y1, rfl, hc1, hC1, hq1⟩ := open_arg opens23 h1
  clear hA0 hval0 hsz0
  refine (Pure.exactHeapsLast a0 cap0 y0 a1 cap1 y1 W hC0 hc0 hC1 hc1 (by have := hq1.1; unfold maxLen at this; omega) (fun t ht => by have := hq1.2 t ht; unfold maxLen at this; omega)).mono fun e W' ⟨he, bel⟩ => ?_
  subst he
  exact ⟨_, rfl, _, _, _, [], _, [], hW', trodAll_mk1 (shut_bool Try.underlying4 _), (trodAll_cons_mk (Below.trod laidOut (by kernel_rfl) (of_decide_eq_true (by kernel_rfl)) k0 bel lt0) (trodAll_cons_mk (Below.trod laidOut (by kernel_rfl) (of_decide_eq_true (by kernel_rfl)) k1 bel lt1) trodAll_mk0)), rfl, bel.frame _, fun h => by cases h⟩
theorem over : Rows.fnExactHeapsLastRow.holds Try.pinned (OpenSpec.ofChange Rows.fnExactHeapsLastSpec) :=
  OpenClaim.holds_of_wide 7 Try.f7 rfl rfl rfl rfl rfl rfl rfl ⟨rfl, rfl, rfl, rfl, rfl⟩ rfl rfl rfl rfl rfl (by kernel_rfl) Try.func7 (by kernel_rfl)
    (of_decide_eq_true (by kernel_rfl)) (by unfold Func.isWrapper; first | (rw [if_pos (by decide +kernel)]; kernel_rfl) | (rw [if_neg (by decide +kernel)]; exact ⟨rfl, rfl⟩))
    (fun os started H enc _ => lifted os started H enc)
theorem proved : Rows.FnExactHeapsLastSaid := over
#print axioms proved
end Go.Proofs.Ytlmgipjalcnfaaa.fnExactHeapsLast
