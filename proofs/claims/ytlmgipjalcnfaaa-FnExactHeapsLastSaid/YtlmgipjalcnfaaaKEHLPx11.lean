-- Written by a program (wip/tools/prx.py over the guide's printer). Not trusted: Lean checks it.
import Derived.Test.YtlmgipjalcnfaaaKEHLPx0
import Derived.Test.YtlmgipjalcnfaaaKEHLPx8
import Derived.Test.YtlmgipjalcnfaaaKEHLPx9
import Derived.Test.YtlmgipjalcnfaaaKEHLPx10
namespace Go.Proofs.Ytlmgipjalcnfaaa.P
open Go.RowKit Go.Proofs.YtlmgipjalcnfaaaW.PrintWords Go.Proofs.YtlmgipjalcnfaaaW.PrintLast Go.Proofs.YtlmgipjalcnfaaaW.PrintMore
attribute [local go_sem] max2_int min2_int max_two min_two max_three min_three max_four min_four   -- for this text's walks alone
set_option linter.unusedVariables false
set_option linter.unusedSimpArgs false
/-! ### spec_DrawTradesMay: function 49 -/
def spec_DrawTradesMay.f (k : Nat) (l0 : List Int) : Option (List Int × (List (S45))) := (spec_l20Open.f l0).bind fun bt356 => ((spec_l20Heaps.f k bt356.1 bt356.2 12).bind fun bt359 => ((spec_l20Trades.f k bt356.1 bt359.2 14).bind fun bt363 => (some (bt359.1, bt363.1))))
/-! ### spec_DrawHeapsReached: function 24 -/
/-! ### laws_sameInts: function 29 -/
def laws_sameInts.l0 : Nat → List Int → List Int → Int → Option (Bool)
  | 0, _, _, _ => none
  | k + 1, x0, x1, x5 => if x5 < (x0.length : Int) then (if 0 ≤ x5 then (if x5 < (x1.length : Int) then (if (rd x0 x5) = (rd x1 x5) then (laws_sameInts.l0 k x0 x1 (wrap64 (x5 + 1))) else (some false)) else (none)) else (none)) else (some true)
def laws_sameInts.f (k : Nat) (l0 : List Int) (l1 : List Int) : Option (Bool) := if (l0.length : Int) = (l1.length : Int) then (laws_sameInts.l0 k l0 l1 0) else (some false)
/-! ### laws_sameLists: function 25 -/
def laws_sameLists.l0 : Nat → List (List Int) → List (List Int) → Int → Option (Bool)
  | 0, _, _, _ => none
  | k + 1, x0, x1, x5 => if x5 < (x0.length : Int) then (if 0 ≤ x5 then (if x5 < (x1.length : Int) then ((laws_sameInts.f k (rd_L1 x0 x5) (rd_L1 x1 x5)).bind fun t377 => (if t377 = true then (laws_sameLists.l0 k x0 x1 (wrap64 (x5 + 1))) else (some false))) else (none)) else (none)) else (some true)
def laws_sameLists.f (k : Nat) (l0 : List (List Int)) (l1 : List (List Int)) : Option (Bool) := if (l0.length : Int) = (l1.length : Int) then (laws_sameLists.l0 k l0 l1 0) else (some false)
/-! ### impl_rowOf: function 83 -/
mutual
def impl_rowOf.l0 : Nat → List Int → List (S106) → Int → Int → Option (List Int)
  | 0, _, _, _, _ => none
  | k + 1, x3, x9, x10, x11 => if x11 < x10 then (if 0 ≤ x11 then (if x11 < (x9.length : Int) then (if x3.length < 17592186044416 then ((some (x3 ++ [(rd_T106 x9 x11).f0] : List Int)).bind fun y383 => ((impl_rowOf.f k ((rd_T106 x9 x11).f1)).bind fun t386 => (if y383.length + t386.length < 17592186044416 then (impl_rowOf.l0 k (y383 ++ t386) x9 x10 (wrap64 (x11 + 1))) else (none)))) else (none)) else (none)) else (none)) else (some x3)
def impl_rowOf.f : Nat → List (S106) → Option (List Int)
  | 0, _ => none
  | k + 1, l0 => impl_rowOf.l0 k (([(l0.length : Int)] : List Int)) l0 (l0.length : Int) 0
end
/-! ### impl_number: function 84 -/
def impl_number.f (a0 : Int) : Option ((List (S106))) := if a0 = 0 then (some ([] : List (S106))) else (some (([(⟨a0, ([] : List (S106))⟩ : S106)] : List (S106))))
/-! ### impl_OrdOf: function 61 -/
def impl_OrdOf.j0 : Nat → Int → Bool → Option (List Int)
  | 0, _, _ => none
  | k + 1, x0, x8 => if x8 = true then (some ([] : List Int)) else ((impl_number.f x0).bind fun t395 => ((impl_rowOf.f k t395).bind fun t398 => (some t398)))
def impl_OrdOf.f (k : Nat) (a0 : Int) : Option (List Int) := if a0 < 0 then (impl_OrdOf.j0 k a0 true) else (impl_OrdOf.j0 k a0 (decide (a0 > 9999)))
/-! ### laws_alive: function 26 -/
def laws_alive.f (k : Nat)  : Option (Bool) := (impl_OrdOf.f k 0).bind fun t401 => (if (t401.length : Int) = 1 then ((impl_OrdOf.f k 7).bind fun t404 => (some ((t404.length : Int) == 3))) else (some false))
/-! ### laws_hasList: function 27 -/
def laws_hasList.l0 : Nat → List (List Int) → List Int → Int → Option (Bool)
  | 0, _, _, _ => none
  | k + 1, x0, x1, x5 => if x5 < (x0.length : Int) then (if 0 ≤ x5 then ((laws_sameInts.f k (rd_L1 x0 x5) x1).bind fun t408 => (if t408 = true then (some true) else (laws_hasList.l0 k x0 x1 (wrap64 (x5 + 1))))) else (none)) else (some false)
def laws_hasList.f (k : Nat) (l0 : List (List Int)) (l1 : List Int) : Option (Bool) := laws_hasList.l0 k l0 l1 0
end Go.Proofs.Ytlmgipjalcnfaaa.P
