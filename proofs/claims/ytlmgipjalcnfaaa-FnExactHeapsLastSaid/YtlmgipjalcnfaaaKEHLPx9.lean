-- Written by a program (wip/tools/prx.py over the guide's printer). Not trusted: Lean checks it.
import Derived.Test.YtlmgipjalcnfaaaKEHLPx0
import Derived.Test.YtlmgipjalcnfaaaKEHLPx8
namespace Go.Proofs.Ytlmgipjalcnfaaa.P
open Go.RowKit Go.Proofs.YtlmgipjalcnfaaaW.PrintWords Go.Proofs.YtlmgipjalcnfaaaW.PrintLast Go.Proofs.YtlmgipjalcnfaaaW.PrintMore
attribute [local go_sem] max2_int min2_int max_two min_two max_three min_three max_four min_four   -- for this text's walks alone
set_option linter.unusedVariables false
set_option linter.unusedSimpArgs false
/-! ### spec_l20Rd_pick: function 67 -/
def spec_l20Rd_pick.j0 : Nat → Int → Bool → List Int → Int → Option (Int × Int)
  | 0, _, _, _, _ => none
  | k + 1, x1, x24, x1000, x1001 => if x24 = true then (some (0, x1001)) else (if (wrap64 (x1001 - 1)) < (x1000.length : Int) then (if 0 ≤ (wrap64 (x1001 - 1)) then (if x1 = 0 then (none) else (some (Int.tmod (wrap64 (rd x1000 (wrap64 (x1001 - 1)))) x1, x1001))) else (none)) else (if (x1000.length : Int) = 0 then (none) else (if 0 ≤ (Int.tmod (wrap64 (x1001 - 1)) (x1000.length : Int)) then (if (Int.tmod (wrap64 (x1001 - 1)) (x1000.length : Int)) < (x1000.length : Int) then (if 0 ≤ (Int.tmod (wrap64 ((wrap64 ((wrap64 (x1001 - 1)) * 7)) + 3)) (x1000.length : Int)) then (if (Int.tmod (wrap64 ((wrap64 ((wrap64 (x1001 - 1)) * 7)) + 3)) (x1000.length : Int)) < (x1000.length : Int) then (if x1 = 0 then (none) else (some (Int.tmod (Go.bits .xor .i64 (wrap64 ((wrap64 ((wrap64 ((wrap64 ((wrap64 (rd x1000 (Int.tmod (wrap64 (x1001 - 1)) (x1000.length : Int)))) * 131)) + (wrap64 ((wrap64 (rd x1000 (Int.tmod (wrap64 ((wrap64 ((wrap64 (x1001 - 1)) * 7)) + 3)) (x1000.length : Int)))) * 1117)))) + (wrap64 ((wrap64 (x1001 - 1)) * 29)))) + (wrap64 ((wrap64 (Int.tdiv (wrap64 (x1001 - 1)) (x1000.length : Int))) * 53)))) (wrap64 (Int.tdiv (wrap64 ((wrap64 ((wrap64 ((wrap64 ((wrap64 (rd x1000 (Int.tmod (wrap64 (x1001 - 1)) (x1000.length : Int)))) * 131)) + (wrap64 ((wrap64 (rd x1000 (Int.tmod (wrap64 ((wrap64 ((wrap64 (x1001 - 1)) * 7)) + 3)) (x1000.length : Int)))) * 1117)))) + (wrap64 ((wrap64 (x1001 - 1)) * 29)))) + (wrap64 ((wrap64 (Int.tdiv (wrap64 (x1001 - 1)) (x1000.length : Int))) * 53)))) 64))) x1, x1001))) else (none)) else (none)) else (none)) else (none))))
def spec_l20Rd_pick.f (k : Nat) (s0_0 : List Int) (s0_1 : Int) (a1 : Int) : Option (Int × Int) := if a1 < 1 then (spec_l20Rd_pick.j0 k a1 true s0_0 (wrap64 (s0_1 + 1))) else (spec_l20Rd_pick.j0 k a1 ((s0_0.length : Int) == 0) s0_0 (wrap64 (s0_1 + 1)))
/-! ### spec_l20Rd_odd: function 69 -/
def spec_l20Rd_odd.f (k : Nat) (s0_0 : List Int) (s0_1 : Int) (a1 : Int) : Option (Bool × Int) := if a1 > 0 then ((spec_l20Rd_pick.f k s0_0 s0_1 a1).bind fun bt279 => (some ((bt279.1 == (wrap64 (a1 - 1))), bt279.2))) else (some (false, s0_1))
/-! ### spec_l20Heaps: function 65 -/
def spec_l20Heaps.f (k : Nat) (s0_0 : List Int) (s0_1 : Int) (a1 : Int) : Option (List Int × Int) := (spec_l20Rd_pick.f k s0_0 s0_1 4).bind fun bt281 => ((spec_l20Rd_pick.f k s0_0 bt281.2 4).bind fun bt283 => ((spec_l20Rd_pick.f k s0_0 bt283.2 5).bind fun bt285 => ((some (([bt281.1, bt283.1, bt285.1] : List Int) : List Int)).bind fun y287 => ((spec_l20Rd_odd.f k s0_0 bt285.2 a1).bind fun bt290 => (if bt290.1 = true then ((spec_l20Rd_pick.f k s0_0 bt290.2 3).bind fun bt292 => (if bt292.1 = 0 then (if 2 ≤ (y287.length : Int) then (some ((y287.take (2 : Int).toNat), bt292.2)) else (none)) else (if bt292.1 = 1 then (if 1 < (y287.length : Int) then (some ((y287.set (1 : Int).toNat 41), bt292.2)) else (none)) else (if 2 < (y287.length : Int) then (some ((y287.set (2 : Int).toNat (-1)), bt292.2)) else (none))))) else (some (y287, bt290.2)))))))
/-! ### spec_l20Things: function 86 -/
def spec_l20Things.l0 : Nat → Int → List Int → Int → List Int → Int → Option (List Int × Int)
  | 0, _, _, _, _, _ => none
  | k + 1, x1, x5, x6, x1000, x1001 => if x6 < 3 then ((spec_l20Rd_pick.f k x1000 x1001 2).bind fun bt302 => ((spec_l20Rd_pick.f k x1000 bt302.2 (wrap64 (x1 + 1))).bind fun bt304 => (if x5.length < 17592186044416 then (spec_l20Things.l0 k x1 (x5 ++ [wrap64 (bt302.1 * bt304.1)]) (wrap64 (x6 + 1)) x1000 bt304.2) else (none)))) else (some (x5, x1001))
def spec_l20Things.f (k : Nat) (s0_0 : List Int) (s0_1 : Int) (a1 : Int) : Option (List Int × Int) := spec_l20Things.l0 k a1 (([] : List Int)) 0 s0_0 s0_1
end Go.Proofs.Ytlmgipjalcnfaaa.P
