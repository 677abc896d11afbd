import Derived.Test.YtlmgipjalcnfaaaKEHRE1
import Derived.Test.YtlmgipjalcnfaaaKEHRA4
import Derived.Test.YtlmgipjalcnfaaaKEHRX3
namespace Go.Proofs.Ytlmgipjalcnfaaa.Pure
open Go.RowKit Go.Proofs.Ytlmgipjalcnfaaa.P Go.Proofs.YtlmgipjalcnfaaaW.PrintWords Go.Proofs.YtlmgipjalcnfaaaW.PrintLast Go.Proofs.Ytlmgipjalcnfaaa.A
set_option linter.unusedVariables false
theorem reach_small {h : List Int} {ts : List S45} : (∀ y ∈ reach h ts, y.length = 3) ∧ (reach h ts).length ≤ 400 := by
  unfold reach
  split
  · rename_i hr
    obtain ⟨h1, h2⟩ := okTs_mem hr.2
    rcases G.reached_is (sc := scs ts) h with e | ⟨hb, _, hl⟩
    · rw [e]; simp
    · refine ⟨fun y hy => okL_len (m := 40) ?_, hl⟩
      have hrr := hb.reach y hy
      clear hy
      induction hrr with
      | self => exact hr.1
      | step _ hy ih => exact scs_ok h1 ih _ hy
  · simp
theorem totL_le {n : Nat} : ∀ (G : List (List Int)), (∀ y ∈ G, y.length ≤ n) → totL G ≤ n * G.length
  | [], _ => by simp [totL]
  | x :: G, h => by
    have := totL_le G (fun y hy => h y (by simp [hy]))
    have hx := h x (by simp)
    simp only [totL, List.map_cons, List.sum_cons, List.length_cons] at this ⊢
    rw [Nat.mul_add, Nat.mul_one]; omega
theorem Ev.at {α : Type} {g : Nat → Option α} {r : α} (h : Ev g r) : ∃ K, ∀ k, K ≤ k → g k = some r := h
/-- The law's call ends in true, whatever came in. -/
theorem exactHeapsReached (A0 : Option Addr) (c0 : Nat) (l0 : List Int) (A1 : Option Addr) (c1 : Nat) (l1 : List S62) (w : World) (hr0 : Kd.C (Kd.int .i64) w A0 l0.length l0) (hc0 : l0.length ≤ c0) (hr1 : Kd.C k62 w A1 l1.length l1) (hc1 : l1.length ≤ c1)
    (hl1 : l1.length ≤ 9223372036854775807) (hs1 : ∀ t ∈ l1, t.f0.length ≤ 9223372036854775807 ∧ t.f1.length ≤ 9223372036854775807) :
    Calls Try.prog 3 #[.slice A0 l0.length c0, .slice A1 l1.length c1] w fun e w' => e = .returned (.bool true) ∧ Below w.heap.size w w' := by
  by_cases hlen : l0.length ≤ 1048576
  case neg => exact exactHeapsReached.long A0 c0 l0 A1 c1 l1 w hc0 hc1 (by omega)
  obtain ⟨z, hz, hz2⟩ := szTradeS l1 hl1 hs1
  by_cases hz0 : 0 ≤ z
  case neg =>
    obtain ⟨k, hk⟩ := hz.rounds
    exact exactHeapsReached.large k A0 c0 l0 A1 c1 l1 w hr1 hc0 hc1 hlen z hk (by omega)
  obtain ⟨hn1, ht1⟩ := hz2 hz0
  have hsh : ∀ t ∈ l1, t.f0.length ≤ 35184372088832 ∧ t.f1.length ≤ 35184372088832 := fun t ht => by
    have := totT_mem (List.mem_map_of_mem (f := conv) ht)
    simp only [conv] at this; omega
  have hT : (l1.map conv).length = l1.length := by simp
  have hsm : smallT (l1.map conv) := ⟨by omega, fun t ht => by have := totT_mem ht; omega⟩
  obtain ⟨hG3, hG4⟩ := reach_small (h := l0) (ts := l1.map conv)
  have htl := totL_le (n := 3) (reach l0 (l1.map conv)) (fun y hy => by rw [hG3 y hy]; exact Nat.le_refl _)
  obtain ⟨k1, e1⟩ := hz
  obtain ⟨k2, e2⟩ := toIntS l0 (by omega)
  obtain ⟨k3, e3⟩ := toTradeS l1 (by omega) hsh
  obtain ⟨k4, e4⟩ := sHeapsReached l0 (l1.map conv) (by omega) hsm
  obtain ⟨k5, e5⟩ := heapsReached l0 (l1.map conv) (by omega) hsm
  obtain ⟨k6, e6⟩ := eqIntSS (reach l0 (l1.map conv)) (by omega) (fun x hx => by rw [hG3 x hx]; decide)
  obtain ⟨k7, e7⟩ := eqIntS l0 (by omega)
  obtain ⟨k8, e8⟩ := eqTradeS (l1.map conv) (by omega) (by omega)
  obtain ⟨k9, e9⟩ := markIntS l0 1 (by omega) (by omega) (by omega)
  obtain ⟨k10, e10⟩ := markTradeS (l1.map conv) (1 + l0.length) (by omega) (by omega) (by omega) (by omega)
  obtain ⟨k11, e11⟩ := markIntSS (reach l0 (l1.map conv)) 1 (by omega) (by omega) (by omega) (by omega)
  obtain ⟨k12, e12⟩ := heldIntSS (reach l0 (l1.map conv)) 1 (by omega) (by omega) (by omega) (by omega)
  have hk : ∃ k, k1 ≤ k ∧ k2 ≤ k ∧ k3 ≤ k ∧ k4 ≤ k ∧ k5 ≤ k ∧ k6 ≤ k ∧ k7 ≤ k ∧ k8 ≤ k ∧ k9 ≤ k ∧ k10 ≤ k ∧ k11 ≤ k ∧ k12 ≤ k := ⟨k1 + k2 + k3 + k4 + k5 + k6 + k7 + k8 + k9 + k10 + k11 + k12, by omega⟩
  obtain ⟨k, h1, h2, h3, h4, h5, h6, h7, h8, h9, h10, h11, h12⟩ := hk
  exact exactHeapsReached.calls k A0 c0 l0 A1 c1 l1 w hr0 hc0 hr1 hc1 (l1.map conv) (reach l0 (l1.map conv)) _ _ z _ _ _ hlen (e1 k h1) hz0 (e2 k h2) (e3 k h3) (e4 k h4) (e5 k h5) (e6 k h6) (e7 k h7) (e8 k h8) (e9 k h9) (e10 k h10) (by omega) (e11 k h11) (e12 k h12) (by omega)
end Go.Proofs.Ytlmgipjalcnfaaa.Pure
