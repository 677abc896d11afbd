import Derived.Test.YtlmgipjalcnfaaaKTRA3
import Derived.Test.YtlmgipjalcnfaaaKTRPx3
namespace Go.Proofs.Ytlmgipjalcnfaaa.A
open Go.RowKit Go.Proofs.Ytlmgipjalcnfaaa.P Go.Proofs.YtlmgipjalcnfaaaW.PrintWords Go.Proofs.YtlmgipjalcnfaaaW.PrintLast
set_option linter.unusedVariables false
set_option linter.unusedSimpArgs false
/-! ### 6. The reference's: a row of truths by numbers -/
def codeN (h : List Int) : Int := ((rd h 0) * 41 + rd h 1) * 41 + rd h 2
theorem code_is {h : List Int} (hh : okL 40 h = true) : spec_l8Code.f h = some (codeN h) ∧ 0 ≤ codeN h ∧ codeN h < 68921 := by
  obtain ⟨x, y, z, rfl, hb⟩ := okL_is hh
  have e0 : rd [x, y, z] 0 = x := rfl
  have e1 : rd [x, y, z] 1 = y := rfl
  have e2 : rd [x, y, z] 2 = z := rfl
  unfold codeN spec_l8Code.f
  rw [e0, e1, e2]
  refine ⟨?_, by omega, by omega⟩
  rw [if_pos (by simp), if_pos (by simp), if_pos (by simp), wrap_small (n := x * 41) (by omega) (by omega), wrap_small (n := x * 41 + y) (by omega) (by omega), wrap_small (n := (x * 41 + y) * 41) (by omega) (by omega), wrap_small (by omega) (by omega)]
theorem code_inj {h h' : List Int} (hh : okL 40 h = true) (hh' : okL 40 h' = true) (e : codeN h = codeN h') : h = h' := by
  obtain ⟨x, y, z, rfl, hb⟩ := okL_is hh
  obtain ⟨x', y', z', rfl, hb'⟩ := okL_is hh'
  unfold codeN at e
  have e0 : rd [x, y, z] 0 = x := rfl
  have e1 : rd [x, y, z] 1 = y := rfl
  have e2 : rd [x, y, z] 2 = z := rfl
  have f0 : rd [x', y', z'] 0 = x' := rfl
  have f1 : rd [x', y', z'] 1 = y' := rfl
  have f2 : rd [x', y', z'] 2 = z' := rfl
  rw [e0, e1, e2, f0, f1, f2] at e
  have : x = x' ∧ y = y' ∧ z = z' := by omega
  obtain ⟨rfl, rfl, rfl⟩ := this
  rfl
/-- the truths say what has come -/
def Seen (s : List Bool) (L : List (List Int)) : Prop := s.length = 68921 ∧ ∀ y, okL 40 y = true → rdOf false s (codeN y) = decide (y ∈ L)
theorem Seen.put {s : List Bool} {L : List (List Int)} (h : Seen s L) {y : List Int} (hy : okL 40 y = true) : Seen (s.set (codeN y).toNat true) (L ++ [y]) := by
  obtain ⟨h1, h2⟩ := h
  refine ⟨by simpa using h1, fun z hz => ?_⟩
  obtain ⟨_, a0, a1⟩ := code_is hy
  obtain ⟨_, b0, b1⟩ := code_is hz
  by_cases e : z = y
  · subst e
    simp [rdOf, List.getD_eq_getElem?_getD, show (codeN z).toNat < s.length by omega]
  · have hne : (codeN y).toNat ≠ (codeN z).toNat := fun h => e (code_inj hz hy (by omega))
    have := h2 z hz
    simp only [rdOf, List.getD_eq_getElem?_getD, List.getElem?_set_ne hne, List.mem_append, List.mem_singleton, e, or_false] at this ⊢
    exact this
theorem Seen.none : Seen (List.replicate 68921 false) [] := by
  refine ⟨List.length_replicate, fun y hy => ?_⟩
  obtain ⟨_, a0, a1⟩ := code_is hy
  simp only [rdOf, List.getD_eq_getElem?_getD, List.getElem?_replicate]
  rw [if_pos (by omega)]; simp
end Go.Proofs.Ytlmgipjalcnfaaa.A
