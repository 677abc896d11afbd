import Derived.Test.YtlmgipjalcnfaaaKEHLWApart
import Derived.Test.YtlmgipjalcnfaaaKEHLWMore
import Derived.Test.YtlmgipjalcnfaaaKEHLWN
namespace Go.Proofs.Ytlmgipjalcnfaaa.P.X
open Go.RowKit Go.Proofs.YtlmgipjalcnfaaaW.PrintWords Go.Proofs.YtlmgipjalcnfaaaW.PrintLast Go.Proofs.YtlmgipjalcnfaaaW.PrintMore
set_option linter.unusedVariables false
/-! What was made between two worlds lies between their sizes. -/
variable {α : Type} {d : Kd α} {e b : Nat} {ok S : Nat → Prop} {u W w1 : World} {v : Value} {xs : List α}
theorem size_step (hb : Below W.heap.size W w1) (hW : Below u.heap.size u W) : u.heap.size ≤ w1.heap.size := Nat.le_trans hW.size hb.size
theorem kept_step (hk : Kept W w1 S) (hW : Below u.heap.size u W) : u.heap.size ≤ w1.heap.size := Nat.le_trans hW.size hk.1
theorem S_span (h : Kd.S d e w1 W.heap.size ok v xs) (hb : Below W.heap.size W w1) (hW : Below u.heap.size u W) (hu : b ≤ u.heap.size) : u.heap.size ≤ w1.heap.size ∧ Kd.S d e w1 b (fun k => u.heap.size ≤ k ∧ k < w1.heap.size) v xs :=
  ⟨size_step hb hW, Kd.S_lower (Kd.S_mono (Kd.S_bound h) (fun k hk => ⟨Nat.le_trans hW.size hk.2.1, hk.2.2.1⟩)) (Nat.le_trans hu hW.size)⟩
theorem R_span (h : Kd.R d e w1 W.heap.size ok v xs) (hb : Below W.heap.size W w1) (hW : Below u.heap.size u W) (hu : b ≤ u.heap.size) : u.heap.size ≤ w1.heap.size ∧ Kd.R d e w1 b (fun k => u.heap.size ≤ k ∧ k < w1.heap.size) v xs :=
  ⟨size_step hb hW, Kd.R_lower (Kd.R_mono (Kd.R_bound h) (fun k hk => ⟨Nat.le_trans hW.size hk.2.1, hk.2.2.1⟩)) (Nat.le_trans hu hW.size)⟩
theorem N_span (h : Kd.N d e w1 W.heap.size (fun k => W.heap.size ≤ k) v xs) (hb : Below W.heap.size W w1) (hW : Below u.heap.size u W) (hu : b ≤ u.heap.size) : u.heap.size ≤ w1.heap.size ∧ Kd.N d e w1 b (fun k => u.heap.size ≤ k ∧ k < w1.heap.size) v xs :=
  ⟨size_step hb hW, Kd.N_lower (Kd.N_mono (Kd.N_bound h) (fun k hk => ⟨Nat.le_trans hW.size hk.1, hk.2⟩)) (Nat.le_trans hu hW.size)⟩
theorem N_C {A : Option Addr} {n c : Nat} (h : Kd.N d e W b ok (.slice A n c) xs) : d.C W A n xs := by
  obtain ⟨rfl, _, h⟩ := Kd.N_reads' h
  exact h
theorem size_le (hW : Below u.heap.size u W) : u.heap.size ≤ W.heap.size := hW.size
theorem S_C {A : Option Addr} {n c : Nat} (h : Kd.S d e W b ok (.slice A n c) xs) : d.C W A n xs := by
  obtain ⟨rfl, _, h⟩ := Kd.S_reads' h
  exact h
theorem R_C {A : Option Addr} {n c : Nat} (h : Kd.R d e W b ok (.slice A n c) xs) : d.C W A n xs := by
  obtain ⟨rfl, _, h⟩ := Kd.R_reads' h
  exact h
end Go.Proofs.Ytlmgipjalcnfaaa.P.X
