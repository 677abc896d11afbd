-- Written by a program (wip/tools/prx.py over the guide's printer). Not trusted: Lean checks it.
import Derived.Test.YtlmgipjalcnfaaaKEHLPx0
import Derived.Test.YtlmgipjalcnfaaaKEHLPx8
import Derived.Test.YtlmgipjalcnfaaaKEHLPx9
namespace Go.Proofs.Ytlmgipjalcnfaaa.P
open Go.RowKit Go.Proofs.YtlmgipjalcnfaaaW.PrintWords Go.Proofs.YtlmgipjalcnfaaaW.PrintLast Go.Proofs.YtlmgipjalcnfaaaW.PrintMore
attribute [local go_sem] max2_int min2_int max_two min_two max_three min_three max_four min_four   -- for this text's walks alone
set_option linter.unusedVariables false
set_option linter.unusedSimpArgs false
/-! ### spec_l20Trades: function 66 -/
mutual
def spec_l20Trades.l0 : Nat → Int → List (S45) → Int → List Int → Int → Option ((List (S45)) × Int)
  | 0, _, _, _, _, _ => none
  | k + 1, x1, x5, x6, x1000, x1001 => if x6 ≥ 0 then ((spec_l20Things.f k x1000 x1001 2).bind fun bt314 => ((spec_l20Things.f k x1000 bt314.2 2).bind fun bt318 => ((spec_l20Rd_pick.f k x1000 bt318.2 3).bind fun bt323 => (if bt323.1 > 0 then ((spec_l20Rd_pick.f k x1000 bt323.2 3).bind fun bt325 => ((spec_l20Rd_pick.f k x1000 bt325.2 2).bind fun bt327 => (if 0 ≤ bt325.1 then (if bt325.1 < (bt314.1.length : Int) then (spec_l20Trades.l1 k x1 x5 x6 bt325.1 0 x1000 bt327.2 (bt314.1.set (bt325.1 : Int).toNat (wrap64 (1 + bt327.1))) bt318.1) else (none)) else (none)))) else (if x5.length < 2932031007402 then (spec_l20Trades.l0 k x1 (x5 ++ [(⟨bt314.1, bt318.1⟩ : S45)]) (wrap64 (x6 - 1)) x1000 bt323.2) else (none)))))) else (if (x5.length : Int) > 4 then (if 4 ≤ (x5.length : Int) then (spec_l20Trades.j2 k x1 (x5.take (4 : Int).toNat) x1000 x1001) else (none)) else (spec_l20Trades.j2 k x1 x5 x1000 x1001))
def spec_l20Trades.l1 : Nat → Int → List (S45) → Int → Int → Int → List Int → Int → List Int → List Int → Option ((List (S45)) × Int)
  | 0, _, _, _, _, _, _, _, _, _ => none
  | k + 1, x1, x5, x6, x8, x9, x1000, x1001, x323000, x323001 => if x9 ≤ x8 then (if 0 ≤ x9 then (if x9 < (x323001.length : Int) then (spec_l20Trades.l1 k x1 x5 x6 x8 (wrap64 (x9 + 1)) x1000 x1001 x323000 (x323001.set (x9 : Int).toNat 0)) else (none)) else (none)) else (if x5.length < 2932031007402 then (spec_l20Trades.l0 k x1 (x5 ++ [(⟨x323000, x323001⟩ : S45)]) (wrap64 (x6 - 1)) x1000 x1001) else (none))
def spec_l20Trades.j2 : Nat → Int → List (S45) → List Int → Int → Option ((List (S45)) × Int)
  | 0, _, _, _, _ => none
  | k + 1, x1, x5, x1000, x1001 => (spec_l20Rd_odd.f k x1000 x1001 x1).bind fun bt340 => (if bt340.1 = true then ((spec_l20Rd_pick.f k x1000 bt340.2 3).bind fun bt342 => (if bt342.1 = 0 then (if 0 < (x5.length : Int) then (some ((x5.set (0 : Int).toNat (⟨(([1] : List Int)), (rd_T45 x5 0).f1⟩ : S45)), bt342.2)) else (none)) else (if bt342.1 = 1 then (if 0 < (x5.length : Int) then (some ((x5.set (0 : Int).toNat (⟨(rd_T45 x5 0).f0, (([0, 0, 6] : List Int))⟩ : S45)), bt342.2)) else (none)) else (spec_l20Trades.l2 k x5 x1000 bt342.2)))) else (some (x5, bt340.2)))
def spec_l20Trades.l2 : Nat → List (S45) → List Int → Int → Option ((List (S45)) × Int)
  | 0, _, _, _ => none
  | k + 1, x5, x1000, x1001 => if (x5.length : Int) ≤ 4 then (if 0 < (x5.length : Int) then (if x5.length < 2932031007402 then (spec_l20Trades.l2 k (x5 ++ [(⟨(rd_T45 x5 0).f0, (rd_T45 x5 0).f1⟩ : S45)]) x1000 x1001) else (none)) else (none)) else (some (x5, x1001))
end
def spec_l20Trades.f (k : Nat) (s0_0 : List Int) (s0_1 : Int) (a1 : Int) : Option ((List (S45)) × Int) := (spec_l20Rd_pick.f k s0_0 s0_1 4).bind fun bt312 => (spec_l20Trades.l0 k a1 (([] : List (S45))) bt312.1 s0_0 bt312.2)
end Go.Proofs.Ytlmgipjalcnfaaa.P
