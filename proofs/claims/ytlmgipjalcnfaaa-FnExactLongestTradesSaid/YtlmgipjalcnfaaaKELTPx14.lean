-- Written by a program (wip/tools/prx.py over the guide's printer). Not trusted: Lean checks it.
import Derived.Test.YtlmgipjalcnfaaaKELTPx0
import Derived.Test.YtlmgipjalcnfaaaKELTPx1
import Derived.Test.YtlmgipjalcnfaaaKELTPx2
import Derived.Test.YtlmgipjalcnfaaaKELTPx5
import Derived.Test.YtlmgipjalcnfaaaKELTPx6
namespace Go.Proofs.Ytlmgipjalcnfaaa.P
open Go.RowKit Go.Proofs.YtlmgipjalcnfaaaW.PrintWords Go.Proofs.YtlmgipjalcnfaaaW.PrintLast Go.Proofs.YtlmgipjalcnfaaaW.PrintMore
attribute [local go_sem] max2_int min2_int max_two min_two max_three min_three max_four min_four   -- for this text's walks alone
set_option linter.unusedVariables false
set_option linter.unusedSimpArgs false
theorem zero3 : ∀ W : World, (zeroValue 3).run Try.prog W = .ok (.int .i64 0) W := fun W => by kernel_rfl
/-! ### impl_LongestTrades: function 31 -/
mutual
def impl_LongestTrades.l0 : Nat → List Int → List (S45) → List (List Int) → List ((Int × Int × Int) × Int) → Int → Int → Option (Int)
  | 0, _, _, _, _, _, _ => none
  | k + 1, x0, x1, x5, x6, x22, x23 => if x23 < x22 then (impl_LongestTrades.l1 k x0 x1 x5 x6 false x22 x23 x5 (x5.length : Int) 0) else (some (-1))
def impl_LongestTrades.l1 : Nat → List Int → List (S45) → List (List Int) → List ((Int × Int × Int) × Int) → Bool → Int → Int → List (List Int) → Int → Int → Option (Int)
  | 0, _, _, _, _, _, _, _, _, _, _ => none
  | k + 1, x0, x1, x5, x6, x7, x22, x23, x25, x26, x27 => if x27 < x26 then (if 0 ≤ x27 then (if x27 < (x25.length : Int) then (impl_LongestTrades.l2 k x0 x1 x5 x6 x7 (rd_L1 x25 x27) 0 x22 x23 x25 x26 x27 x1 (x1.length : Int) 0) else (none)) else (none)) else (if x7 = true then (impl_LongestTrades.l0 k x0 x1 x5 x6 x22 (wrap64 (x23 + 1))) else ((Map3.tget x0 x6).bind fun t114 => (some t114)))
def impl_LongestTrades.l2 : Nat → List Int → List (S45) → List (List Int) → List ((Int × Int × Int) × Int) → Bool → List Int → Int → Int → Int → List (List Int) → Int → Int → List (S45) → Int → Int → Option (Int)
  | 0, _, _, _, _, _, _, _, _, _, _, _, _, _, _, _ => none
  | k + 1, x0, x1, x5, x6, x7, x9, x10, x22, x23, x25, x26, x27, x31, x32, x33 => if x33 < x32 then (if 0 ≤ x33 then (if x33 < (x31.length : Int) then ((impl_traded.f k x9 ((rd_T45 x31 x33).f0) ((rd_T45 x31 x33).f1)).bind fun bt118 => (if bt118.2 = true then ((Map3.tget bt118.1 x6).bind fun t122 => (impl_LongestTrades.l2 k x0 x1 x5 x6 x7 x9 (mx x10 (wrap64 (t122 + 1))) x22 x23 x25 x26 x27 x31 x32 (wrap64 (x33 + 1)))) else (impl_LongestTrades.l2 k x0 x1 x5 x6 x7 x9 x10 x22 x23 x25 x26 x27 x31 x32 (wrap64 (x33 + 1))))) else (none)) else (none)) else ((Map3.tget x9 x6).bind fun t123 => (if x10 = t123 then (impl_LongestTrades.l1 k x0 x1 x5 x6 x7 x22 x23 x25 x26 (wrap64 (x27 + 1))) else ((Map3.tput x9 x10 x6).bind fun t124 => (impl_LongestTrades.l1 k x0 x1 x5 t124 true x22 x23 x25 x26 (wrap64 (x27 + 1))))))
end
def impl_LongestTrades.f (k : Nat) (l0 : List Int) (l1 : List (S45)) : Option (Int) := (impl_HeapsReached.f k l0 l1).bind fun l2 => impl_LongestTrades.l0 k l0 l1 l2 [] (l2.length : Int) 0
set_option maxHeartbeats 8000000 in
set_option maxRecDepth 100000 in
theorem impl_LongestTrades.calls (k : Nat) (A0 : Option Addr) (c0 : Nat) (l0 : List Int) (A1 : Option Addr) (c1 : Nat) (l1 : List (S45)) (r : Int) (w : World) (hr0 : Kd.C (Kd.int .i64) w A0 l0.length l0) (hc0 : l0.length ≤ c0) (hr1 : Kd.C k45 w A1 l1.length l1) (hc1 : l1.length ≤ c1) (h : impl_LongestTrades.f k l0 l1 = some r) :
    Calls Try.prog 31 #[.slice A0 l0.length c0, .slice A1 l1.length c1] w fun e w' => e = .returned (.int .i64 r) ∧ Below w.heap.size w w' := by
  have hu45 := Try.underlying45
  have HRa := Aside0.mk hr0
  have HC0 := Aside0.mk hc0
  clear hr0 hc0
  have HRb := Aside0.mk hr1
  have HC1 := Aside0.mk hc1
  clear hr1 hc1
  unfold impl_LongestTrades.f at h
  obtain ⟨l2, A20, H⟩ := Option.bind_eq_some_iff.mp h
  clear h
  have A2f := Aside0.mk A20
  have H' := Aside0.mk H
  clear A20 H
  go_enter Try.func31, Try.ntmps31
  go_upto_region 2 with (first | (go_at_call 16; (with_reducible refine (impl_HeapsReached.calls k _ _ l0 _ _ l1 l2 _ ?side1 ?side2 ?side3 ?side4 A2f.out).mono ?_); (case side1 => exact HRa.out); (case side2 => exact HC0.out); (case side3 => exact HRb.out); (case side4 => exact HC1.out); rintro e W5 ⟨v5, rfl, ho, hb⟩; have HO5 := Aside0.mk ho; have HW := Aside0.mk hb; clear ho hb))
  obtain ⟨A2, c2, e2⟩ := Kd.S_slice HO5.out
  subst e2
  have HR0 := Aside0.mk (Kd.C_below HRa.out HW.out)
  have HR1 := Aside0.mk (Kd.C_below HRb.out HW.out)
  have HR2 := Aside0.mk (Kd.S_reads' HO5.out).2.2
  have HB := Aside0.mk (Below.refl W5.heap.size W5)
  clear HO5 HRa HRb A2f
  rcases A2 with _ | a2
  · have hn : l2 = [] := by
      have := HR2.out
      rcases l2 with _ | ⟨x, l2⟩
      · rfl
      · obtain ⟨ad, e, _⟩ := this.2.2 (by simp)
        cases e
    subst hn
    have hr : r = -1 := by
      have H := H'.out
      cases k with
      | zero => exact absurd H (by simp [impl_LongestTrades.l0])
      | succ k => simp only [impl_LongestTrades.l0] at H; rw [if_neg (by simp)] at H; injection H with H; exact H.symm
    subst hr
    have heq : ∀ W : World, (binOp .eql 25 (.slice none ([] : List (List Int)).length c2) (.slice none 0 0)).run Try.prog W = .ok (.bool true) W := fun W => run_eql_slice_nil W 25 22 none _ c2 Try.underlying25
    simp only [List.length_nil] at heq
    go_wp2_with fail
    go_ret
    exact ⟨rfl, HW.out⟩
  have heq : ∀ W : World, (binOp .eql 25 (.slice (some a2) l2.length c2) (.slice none 0 0)).run Try.prog W = .ok (.bool false) W := fun W => run_eql_slice_nil W 25 22 (some a2) l2.length c2 Try.underlying25
  go_wp2_with (first | ((with_reducible refine gate_dst (N := 20) rfl ?_); refine Map3.wp_makeMap ?hg 73 ?ho (Value.int .i64) ?_; (case hg => rfl); (case ho => rfl); intro gm w13 hgm hm hb hlt; have GM : Aside0 (W5.heap.size ≤ gm) := ⟨by rw [hgm]; exact (below_size (by repeat (first | (with_reducible first | exact HB.out | apply below_alloc | apply pw_below_drewN | apply below_drew1) | exact HB.out)))⟩; have HM := Aside0.mk hm; have n1_ := Aside0.mk (below_step (by repeat (first | (with_reducible first | exact HB.out | apply below_alloc | apply pw_below_drewN | apply below_drew1) | exact HB.out)) hb); clear HB; have HB := n1_; clear n1_ hgm hm hb hlt; (try go_simp)))
  clear heq
  go_loopg [23] k (fun kq v23 w' => ∃ (x6_1 : List ((Int × Int × Int) × Int)) (x23_1 : Int), v23 = .int .i64 x23_1 ∧ Aside0 (impl_LongestTrades.l0 kq l0 l1 l2 x6_1 (l2.length : Int) x23_1 = some r) ∧ Aside0 (kq ≤ k) ∧ Aside0 (Map3.Has3 (Value.int .i64) w' gm x6_1) ∧ Aside0 (Below W5.heap.size W5 w'))
  case atStart => exact ⟨[], 0, (by first | rfl | (simp; done) | (simp [*]; done)), H', ⟨Nat.le_refl _⟩, ⟨(by (with_reducible repeat (first | apply Map3.Has3.alloc_ | apply Map3.Has3.drewN_ | apply Map3.Has3.drew_)); with_reducible exact HM.out)⟩, ⟨(by repeat (first | (with_reducible first | exact HB.out | apply below_alloc | apply pw_below_drewN | apply below_drew1) | exact HB.out))⟩⟩
  case round =>
    clear H'
    try clear c1
    try clear c2
    try clear p2
    try clear c3
    clear HM
    obtain ⟨x6_1, x23_1, rfl, HA, HK1, HM, HB⟩ := hrel
    cases gk with
    | zero => exact absurd HA.out (by simp [impl_LongestTrades.l0])
    | succ k1 =>
      have H := HA.out
      clear HA
      simp only [impl_LongestTrades.l0] at H
      by_cases c4 : x23_1 < (l2.length : Int)
      · rw [if_pos c4] at H
        have c4b0 : decide (x23_1 < (l2.length : Int)) = true := decide_eq_true c4
        clear c4
        have H' := Aside0.mk H
        clear H
        go_wp2
        go_loopg [7, 27] k1 (fun kq v7 v27 w' => ∃ (x6_2 : List ((Int × Int × Int) × Int)) (x7_2 : Bool) (x27_2 : Int), v7 = .bool x7_2 ∧ v27 = .int .i64 x27_2 ∧ Aside0 (impl_LongestTrades.l1 kq l0 l1 l2 x6_2 x7_2 (l2.length : Int) x23_1 l2 (l2.length : Int) x27_2 = some r) ∧ Aside0 (kq ≤ k1) ∧ Aside0 (Map3.Has3 (Value.int .i64) w' gm x6_2) ∧ Aside0 (Below W5.heap.size W5 w'))
        case atStart => exact ⟨(x6_1), (false), (0), (by first | rfl | (simp; done) | (simp [*]; done)), (by first | rfl | (simp; done) | (simp [*]; done)), H', ⟨Nat.le_refl _⟩, ⟨(by (with_reducible repeat (first | apply Map3.Has3.alloc_ | apply Map3.Has3.drewN_ | apply Map3.Has3.drew_)); with_reducible exact HM.out)⟩, ⟨(by repeat (first | (with_reducible first | exact HB.out | apply below_alloc | apply pw_below_drewN | apply below_drew1) | exact HB.out))⟩⟩
        case round =>
          clear H'
          try clear c1
          try clear c2
          try clear p2
          try clear c3
          try clear c4
          try clear c4b0
          try clear p2
          clear HM
          obtain ⟨x6_2, x7_2, x27_2, rfl, rfl, HA, HK2, HM, HB⟩ := hrel
          cases gk with
          | zero => exact absurd HA.out (by simp [impl_LongestTrades.l1])
          | succ k2 =>
            have H := HA.out
            clear HA
            simp only [impl_LongestTrades.l1] at H
            by_cases c5 : x27_2 < (l2.length : Int)
            · rw [if_pos c5] at H
              have c5b0 : decide (x27_2 < (l2.length : Int)) = true := decide_eq_true c5
              clear c5
              by_cases c6 : 0 ≤ x27_2
              · rw [if_pos c6] at H
                have c6b0 : decide (0 ≤ x27_2) = true := decide_eq_true c6
                clear c6
                by_cases c7 : x27_2 < (l2.length : Int)
                · rw [if_pos c7] at H
                  have c7b0 : decide (x27_2 < (l2.length : Int)) = true := decide_eq_true c7
                  clear c7
                  have H' := Aside0.mk H
                  clear H
                  have p115 : 0 ≤ (x27_2 : Int) := of_decide_eq_true (by first | (with_reducible assumption) | assumption)
                  have q115 : x27_2 < (l2.length : Int) := of_decide_eq_true (by first | (with_reducible assumption) | assumption)
                  obtain ⟨ad115, A115_0, c115_0, e115, hx115_0, hl115_0, hi115_0⟩ := at_L1 HR2.out x27_2 p115 q115
                  cases e115
                  replace hx115_0 := (HB.out.cell (World.block_lt_of_cell? W5 _ hx115_0)).trans hx115_0
                  have HR115_0 := Aside0.mk hi115_0
                  have HC115_0 := Aside0.mk hl115_0
                  clear hi115_0 hl115_0
                  replace p115 := eq_true p115
                  replace q115 := eq_true q115
                  go_wp2
                  go_loopg [10, 33] k2 (fun kq v10 v33 w' => ∃ (x10_3 : Int) (x33_3 : Int), v10 = .int .i64 x10_3 ∧ v33 = .int .i64 x33_3 ∧ Aside0 (impl_LongestTrades.l2 kq l0 l1 l2 x6_2 x7_2 (rd_L1 l2 x27_2) x10_3 (l2.length : Int) x23_1 l2 (l2.length : Int) x27_2 l1 (l1.length : Int) x33_3 = some r) ∧ Aside0 (kq ≤ k2) ∧ Aside0 (Map3.Has3 (Value.int .i64) w' gm x6_2) ∧ Aside0 (Below W5.heap.size W5 w'))
                  case atStart => exact ⟨(0), (0), (by first | rfl | (simp; done) | (simp [*]; done)), (by first | rfl | (simp; done) | (simp [*]; done)), H', ⟨Nat.le_refl _⟩, ⟨(by (with_reducible repeat (first | apply Map3.Has3.alloc_ | apply Map3.Has3.drewN_ | apply Map3.Has3.drew_)); with_reducible exact HM.out)⟩, ⟨by repeat (first | (with_reducible first | exact HB.out | apply below_alloc | apply pw_below_drewN | apply below_drew1) | exact HB.out)⟩⟩
                  case round =>
                    clear H'
                    try clear c1
                    try clear p1
                    try clear q1
                    try clear hx1
                    try clear c2
                    try clear p2
                    try clear c3
                    try clear c4
                    try clear c4b0
                    try clear c5
                    try clear c5b0
                    try clear c6
                    try clear c6b0
                    try clear c7
                    try clear c7b0
                    try clear hx115_0
                    try clear p115
                    try clear p2
                    try clear q115
                    clear HM
                    obtain ⟨x10_3, x33_3, rfl, rfl, HA, HK3, HM, HB⟩ := hrel
                    cases gk with
                    | zero => exact absurd HA.out (by simp [impl_LongestTrades.l2])
                    | succ k3 =>
                      have H := HA.out
                      clear HA
                      simp only [impl_LongestTrades.l2] at H
                      by_cases c8 : x33_3 < (l1.length : Int)
                      · rw [if_pos c8] at H
                        have c8b0 : decide (x33_3 < (l1.length : Int)) = true := decide_eq_true c8
                        clear c8
                        by_cases c9 : 0 ≤ x33_3
                        · rw [if_pos c9] at H
                          have c9b0 : decide (0 ≤ x33_3) = true := decide_eq_true c9
                          clear c9
                          by_cases c10 : x33_3 < (l1.length : Int)
                          · rw [if_pos c10] at H
                            have c10b0 : decide (x33_3 < (l1.length : Int)) = true := decide_eq_true c10
                            clear c10
                            replace H := Option.bind_eq_some_iff.mp H
                            obtain ⟨⟨t118, t121⟩, A110, H⟩ := H
                            replace H : (if t121 = true then ((Map3.tget t118 x6_2).bind fun t122 => (impl_LongestTrades.l2 k3 l0 l1 l2 x6_2 x7_2 (rd_L1 l2 x27_2) (mx x10_3 (wrap64 (t122 + 1))) (l2.length : Int) x23_1 l2 (l2.length : Int) x27_2 l1 (l1.length : Int) (wrap64 (x33_3 + 1)))) else (impl_LongestTrades.l2 k3 l0 l1 l2 x6_2 x7_2 (rd_L1 l2 x27_2) x10_3 (l2.length : Int) x23_1 l2 (l2.length : Int) x27_2 l1 (l1.length : Int) (wrap64 (x33_3 + 1)))) = some r := H
                            have A11 := Aside0.mk A110
                            clear A110
                            by_cases c12 : t121 = true
                            · subst c12
                              have H1 : ((Map3.tget t118 x6_2).bind fun t122 => (impl_LongestTrades.l2 k3 l0 l1 l2 x6_2 x7_2 (rd_L1 l2 x27_2) (mx x10_3 (wrap64 (t122 + 1))) (l2.length : Int) x23_1 l2 (l2.length : Int) x27_2 l1 (l1.length : Int) (wrap64 (x33_3 + 1)))) = some r := by rw [if_pos rfl] at H; exact H
                              clear H
                              have H := H1
                              clear H1
                              replace H := Option.bind_eq_some_iff.mp H
                              obtain ⟨t122, A130, H⟩ := H
                              replace H : (impl_LongestTrades.l2 k3 l0 l1 l2 x6_2 x7_2 (rd_L1 l2 x27_2) (mx x10_3 (wrap64 (t122 + 1))) (l2.length : Int) x23_1 l2 (l2.length : Int) x27_2 l1 (l1.length : Int) (wrap64 (x33_3 + 1))) = some r := H
                              have A13 := Aside0.mk A130
                              obtain ⟨N3, E13⟩ := Map3.tget_eq A13.out
                              replace N3 := Aside0.mk N3
                              have LK := Aside0.mk (Map3.tget_run A13.out)
                              clear E13
                              clear A130
                              obtain ⟨ji14, hji14⟩ : ∃ j_ : Int, (mx x10_3 (wrap64 (t122 + 1))) = j_ := ⟨_, rfl⟩
                              replace H : (impl_LongestTrades.l2 k3 l0 l1 l2 x6_2 x7_2 (rd_L1 l2 x27_2) ji14 (l2.length : Int) x23_1 l2 (l2.length : Int) x27_2 l1 (l1.length : Int) (wrap64 (x33_3 + 1))) = some r := by first | (rw [hji14] at H; exact H) | (simp only [hji14] at H ⊢; exact H)
                              (try rw [hji14] at A11)
                              (try rw [hji14] at A13)
                              have hji14_ : (if x10_3 < (wrap64 (t122 + 1)) then (wrap64 (t122 + 1)) else x10_3) = ji14 := hji14
                              have H' := Aside0.mk H
                              clear H
                              have p116 : 0 ≤ (x33_3 : Int) := of_decide_eq_true (by first | (with_reducible assumption) | assumption)
                              have q116 : x33_3 < (l1.length : Int) := of_decide_eq_true (by first | (with_reducible assumption) | assumption)
                              obtain ⟨ad116, A116_0, c116_0, A116_1, c116_1, e116, hx116_0, hx116_1, hl116_0, hi116_0, hl116_1, hi116_1⟩ := at_T45 HR1.out x33_3 p116 q116
                              cases e116
                              replace hx116_0 := (HB.out.cell (World.block_lt_of_cell? W5 _ hx116_0)).trans hx116_0
                              replace hx116_1 := (HB.out.cell (World.block_lt_of_cell? W5 _ hx116_1)).trans hx116_1
                              have HR116_0 := Aside0.mk hi116_0
                              have HC116_0 := Aside0.mk hl116_0
                              clear hi116_0 hl116_0
                              have HR116_1 := Aside0.mk hi116_1
                              have HC116_1 := Aside0.mk hl116_1
                              clear hi116_1 hl116_1
                              replace p116 := eq_true p116
                              replace q116 := eq_true q116
                              go_wp2_with (first | ((with_reducible refine gate_dst (N := 12) rfl ?_); refine box_event ?hg (N := 12) ?hd (cs := #[.slice none 0 0, .slice none 0 0]) (t := 45) ?hr ?_; (case hd => rfl); (case hg => rfl); (case hr => first | (go_simp; done) | (go_simp; rfl)); intro gb117 hg w15 hbox hb; have GN : Aside0 (gb117 ≠ gm) := ⟨by have h1_ : gm < gb117 := (by rw [hg]; exact Map3.Has3.lt (val := Value.int .i64) (hs := x6_2) (by (with_reducible repeat (first | apply Map3.Has3.alloc_ | apply Map3.Has3.drewN_ | apply Map3.Has3.drew_)); with_reducible exact HM.out)); intro e_; rw [e_] at h1_; exact Nat.lt_irrefl _ h1_⟩; have nM_ := Aside0.mk (Map3.Has3.below (show Map3.Has3 (Value.int .i64) _ gm x6_2 from (by (with_reducible repeat (first | apply Map3.Has3.alloc_ | apply Map3.Has3.drewN_ | apply Map3.Has3.drew_)); with_reducible exact HM.out)) hb); clear HM; have HM := nM_; clear nM_; have n0_ := Aside0.mk (below_step (by repeat (first | (with_reducible first | exact HB.out | apply below_alloc | apply pw_below_drewN | apply below_drew1) | exact HB.out)) hb); have n1_ := Aside0.mk (hbox); have n2_ := Aside0.mk ((by rw [hg]; exact (below_size (by repeat (first | (with_reducible first | exact HB.out | apply below_alloc | apply pw_below_drewN | apply below_drew1) | exact HB.out))) : W5.heap.size ≤ gb117)); have n3_ := Aside0.mk ((by rw [hg]; exact (below_size (by repeat (first | (with_reducible first | exact HB.out | apply below_alloc | apply pw_below_drewN | apply below_drew1) | exact HB.out))) : W5.heap.size ≤ gb117)); clear HB; have HB := n0_; have BK117 := n1_; have GW117 := n2_; have GE117 := n3_; clear n0_ n1_ n2_ n3_; clear hb hbox hg; have hcz16_0 : w15.cell? ⟨gb117, 0, none⟩ = some (.slice none 0 0) := (blk_cell BK117.out 0).trans rfl; have hcz16_1 : w15.cell? ⟨gb117, 1, none⟩ = some (.slice none 0 0) := (blk_cell BK117.out 1).trans rfl; have hfz16_0 := blk_frozen BK117.out 0; have hfz16_1 := blk_frozen BK117.out 1) | ((with_reducible refine gate_callee (f := 59) rfl ?_); refine goesL_ (some 40) rfl rfl Try.func59 (by kernel_rfl) rfl #[.slice A115_0 (rd_L1 l2 x27_2).length c115_0, .agg #[.slice A116_0 ((rd_T45 l1 x33_3).f0).length c116_0, .slice A116_1 ((rd_T45 l1 x33_3).f1).length c116_1]] rfl (by (try simp only [List.map_toArray, List.map_cons, List.map_nil]); first | done | rfl | (simp only [List.length_drop, List.length_take]; rfl)) ?_; (with_reducible refine (impl_traded.calls k3 _ _ (rd_L1 l2 x27_2) _ _ ((rd_T45 l1 x33_3).f0) _ _ ((rd_T45 l1 x33_3).f1) t118 true _ ?side1 ?side2 ?side3 ?side4 ?side5 ?side6 A11.out).mono ?_); (case side1 => exact Kd.C_below HR115_0.out (by repeat (first | (with_reducible first | exact HB.out | apply below_alloc | apply pw_below_drewN | apply below_drew1 | refine below_set ?_ GE117.out) | exact HB.out))); (case side2 => exact HC115_0.out); (case side3 => exact Kd.C_below HR116_0.out (by repeat (first | (with_reducible first | exact HB.out | apply below_alloc | apply pw_below_drewN | apply below_drew1 | refine below_set ?_ GE117.out) | exact HB.out))); (case side4 => exact HC116_0.out); (case side5 => exact Kd.C_below HR116_1.out (by repeat (first | (with_reducible first | exact HB.out | apply below_alloc | apply pw_below_drewN | apply below_drew1 | refine below_set ?_ GE117.out) | exact HB.out))); (case side6 => exact HC116_1.out); rintro e w17 ⟨v119, rfl, ho0, hb⟩; refine ⟨_, rfl, ?_⟩; have nM_ := Aside0.mk (Map3.Has3.below (show Map3.Has3 (Value.int .i64) _ gm x6_2 from (by (with_reducible repeat (first | apply Map3.Has3.alloc_ | apply Map3.Has3.drewN_ | apply Map3.Has3.drew_ | refine Map3.Has3.set2_ ?_ GN.out _ _)); with_reducible exact HM.out)) hb); clear HM; have HM := nM_; clear nM_; have n0_ := Aside0.mk (Kd.R_lower ho0 (below_size (by repeat (first | (with_reducible first | exact HB.out | apply below_alloc | apply pw_below_drewN | apply below_drew1 | refine below_set ?_ GE117.out) | exact HB.out)))); have n1_ := Aside0.mk (blk_below (g := gb117) (o := .cells #[.slice A116_0 ((rd_T45 l1 x33_3).f0).length c116_0, .slice A116_1 ((rd_T45 l1 x33_3).f1).length c116_1] 45 (0, 0)) (by (with_reducible repeat (first | refine blk_drewN ?_ _ | refine blk_drew ?_ | refine blk_alloc ?_ _)); refine blk_put (cs := #[.slice A116_0 ((rd_T45 l1 x33_3).f0).length c116_0, .slice none 0 0]) ?_ 1 _ rfl; (with_reducible repeat (first | refine blk_drewN ?_ _ | refine blk_drew ?_ | refine blk_alloc ?_ _)); refine blk_put (cs := #[.slice none 0 0, .slice none 0 0]) ?_ 0 _ rfl; (with_reducible repeat (first | refine blk_drewN ?_ _ | refine blk_drew ?_ | refine blk_alloc ?_ _)); exact BK117.out) hb); have n2_ := Aside0.mk (below_step (by repeat (first | (with_reducible first | exact HB.out | apply below_alloc | apply pw_below_drewN | apply below_drew1 | refine below_set ?_ GE117.out) | exact HB.out)) hb); clear BK117; clear HB; have HO120 := n0_; have BK117 := n1_; have HB := n2_; clear n0_ n1_ n2_; (try clear hb); (try clear hb2); (try clear hk); (try clear hi); (try clear ho0); obtain ⟨Ao18, co18, eo18⟩ := Kd.R_slice HO120.out; subst eo18; obtain ⟨ad18, hA18, -⟩ := (Kd.R_reads' HO120.out).2.2.2.2 (by have := N3.out; omega); subst hA18) | ((with_reducible refine gate_dst (N := 47) rfl ?_); refine Map3.wp_arrAt3 ?hg 67 (.tmp 46) ?ho K3_67 (A := some ad18) (n := t118.length) (c := co18) ?hx ?hn ?_; (case hg => rfl); (case ho => rfl); (case hx => first | (go_simp; done) | (go_simp; rfl) | rfl); (case hn => have := N3.out; omega); (try go_simp)) | ((with_reducible refine gate_dst (N := 48) rfl ?_); refine Map3.wp_load3 ?hg 67 (.tmp 47) ?ho K3_67 size67 (ad := ad18) (n := t118.length) (xs := t118) ?hx ?hC ?hn ?_; (case hg => rfl); (case ho => rfl); (case hx => first | (go_simp; done) | (go_simp; rfl) | rfl); (case hn => have := N3.out; omega); (case hC => exact (Kd.R_reads' (by (with_reducible repeat (first | apply Kd.R_alloc | apply Kd.R_drewN | apply Kd.R_drew)); exact HO120.out)).2.2); (try go_simp)) | ((with_reducible refine gate_dst (N := 49) rfl ?_); refine Map3.wp_look3v ?hg (.tmp 45) (.tmp 48) 73 ?ho K3_67 Try.underlying73 (z := .int .i64 0) zero3 (val := Value.int .i64) (hs := x6_2) (by (with_reducible repeat (first | apply Map3.Has3.alloc_ | apply Map3.Has3.drewN_ | apply Map3.Has3.drew_ | refine Map3.Has3.set2_ ?_ GN.out _ _)); with_reducible exact HM.out) (rd t118 0) (rd t118 1) (rd t118 2) (.int .i64 t122) LK.out ?hm ?hx ?_; (case hg => rfl); (case ho => rfl); (case hm => first | (go_simp; done) | (go_simp; rfl) | rfl); (case hx => first | (go_simp; done) | (go_simp; rfl) | rfl); (try go_simp)))
                              go_roundg k3
                              case measure => have := HK1.out; have := HK2.out; have := HK3.out; omega
                              case rel => exact ⟨(ji14), (wrap64 (x33_3 + 1)), (by first | rfl | (simp; done) | (simp only [← hji14] <;> (first | rfl | simp)) | (simp [*]; done)), (by first | rfl | (simp; done) | (simp [*]; done)), H', ⟨by have := HK1.out; have := HK2.out; have := HK3.out; omega⟩, ⟨(by (with_reducible repeat (first | apply Map3.Has3.alloc_ | apply Map3.Has3.drewN_ | apply Map3.Has3.drew_ | refine Map3.Has3.set2_ ?_ GN.out _ _)); with_reducible exact HM.out)⟩, ⟨by repeat (first | (with_reducible first | exact HB.out | apply below_alloc | apply pw_below_drewN | apply below_drew1 | refine below_set ?_ GE117.out) | exact HB.out)⟩⟩
                            · replace c12 := Bool.eq_false_iff.mpr c12
                              subst c12
                              have H1 : (impl_LongestTrades.l2 k3 l0 l1 l2 x6_2 x7_2 (rd_L1 l2 x27_2) x10_3 (l2.length : Int) x23_1 l2 (l2.length : Int) x27_2 l1 (l1.length : Int) (wrap64 (x33_3 + 1))) = some r := by rw [if_neg (show ¬ (false = true) by decide)] at H; exact H
                              clear H
                              have H := H1
                              clear H1
                              have H' := Aside0.mk H
                              clear H
                              have p116 : 0 ≤ (x33_3 : Int) := of_decide_eq_true (by first | (with_reducible assumption) | assumption)
                              have q116 : x33_3 < (l1.length : Int) := of_decide_eq_true (by first | (with_reducible assumption) | assumption)
                              obtain ⟨ad116, A116_0, c116_0, A116_1, c116_1, e116, hx116_0, hx116_1, hl116_0, hi116_0, hl116_1, hi116_1⟩ := at_T45 HR1.out x33_3 p116 q116
                              cases e116
                              replace hx116_0 := (HB.out.cell (World.block_lt_of_cell? W5 _ hx116_0)).trans hx116_0
                              replace hx116_1 := (HB.out.cell (World.block_lt_of_cell? W5 _ hx116_1)).trans hx116_1
                              have HR116_0 := Aside0.mk hi116_0
                              have HC116_0 := Aside0.mk hl116_0
                              clear hi116_0 hl116_0
                              have HR116_1 := Aside0.mk hi116_1
                              have HC116_1 := Aside0.mk hl116_1
                              clear hi116_1 hl116_1
                              replace p116 := eq_true p116
                              replace q116 := eq_true q116
                              go_wp2_with (first | ((with_reducible refine gate_dst (N := 12) rfl ?_); refine box_event ?hg (N := 12) ?hd (cs := #[.slice none 0 0, .slice none 0 0]) (t := 45) ?hr ?_; (case hd => rfl); (case hg => rfl); (case hr => first | (go_simp; done) | (go_simp; rfl)); intro gb117 hg w19 hbox hb; have GN : Aside0 (gb117 ≠ gm) := ⟨by have h1_ : gm < gb117 := (by rw [hg]; exact Map3.Has3.lt (val := Value.int .i64) (hs := x6_2) (by (with_reducible repeat (first | apply Map3.Has3.alloc_ | apply Map3.Has3.drewN_ | apply Map3.Has3.drew_)); with_reducible exact HM.out)); intro e_; rw [e_] at h1_; exact Nat.lt_irrefl _ h1_⟩; have nM_ := Aside0.mk (Map3.Has3.below (show Map3.Has3 (Value.int .i64) _ gm x6_2 from (by (with_reducible repeat (first | apply Map3.Has3.alloc_ | apply Map3.Has3.drewN_ | apply Map3.Has3.drew_)); with_reducible exact HM.out)) hb); clear HM; have HM := nM_; clear nM_; have n0_ := Aside0.mk (below_step (by repeat (first | (with_reducible first | exact HB.out | apply below_alloc | apply pw_below_drewN | apply below_drew1) | exact HB.out)) hb); have n1_ := Aside0.mk (hbox); have n2_ := Aside0.mk ((by rw [hg]; exact (below_size (by repeat (first | (with_reducible first | exact HB.out | apply below_alloc | apply pw_below_drewN | apply below_drew1) | exact HB.out))) : W5.heap.size ≤ gb117)); have n3_ := Aside0.mk ((by rw [hg]; exact (below_size (by repeat (first | (with_reducible first | exact HB.out | apply below_alloc | apply pw_below_drewN | apply below_drew1) | exact HB.out))) : W5.heap.size ≤ gb117)); clear HB; have HB := n0_; have BK117 := n1_; have GW117 := n2_; have GE117 := n3_; clear n0_ n1_ n2_ n3_; clear hb hbox hg; have hcz20_0 : w19.cell? ⟨gb117, 0, none⟩ = some (.slice none 0 0) := (blk_cell BK117.out 0).trans rfl; have hcz20_1 : w19.cell? ⟨gb117, 1, none⟩ = some (.slice none 0 0) := (blk_cell BK117.out 1).trans rfl; have hfz20_0 := blk_frozen BK117.out 0; have hfz20_1 := blk_frozen BK117.out 1) | ((with_reducible refine gate_callee (f := 59) rfl ?_); refine goesL_ (some 40) rfl rfl Try.func59 (by kernel_rfl) rfl #[.slice A115_0 (rd_L1 l2 x27_2).length c115_0, .agg #[.slice A116_0 ((rd_T45 l1 x33_3).f0).length c116_0, .slice A116_1 ((rd_T45 l1 x33_3).f1).length c116_1]] rfl (by (try simp only [List.map_toArray, List.map_cons, List.map_nil]); first | done | rfl | (simp only [List.length_drop, List.length_take]; rfl)) ?_; (with_reducible refine (impl_traded.calls k3 _ _ (rd_L1 l2 x27_2) _ _ ((rd_T45 l1 x33_3).f0) _ _ ((rd_T45 l1 x33_3).f1) t118 false _ ?side1 ?side2 ?side3 ?side4 ?side5 ?side6 A11.out).mono ?_); (case side1 => exact Kd.C_below HR115_0.out (by repeat (first | (with_reducible first | exact HB.out | apply below_alloc | apply pw_below_drewN | apply below_drew1 | refine below_set ?_ GE117.out) | exact HB.out))); (case side2 => exact HC115_0.out); (case side3 => exact Kd.C_below HR116_0.out (by repeat (first | (with_reducible first | exact HB.out | apply below_alloc | apply pw_below_drewN | apply below_drew1 | refine below_set ?_ GE117.out) | exact HB.out))); (case side4 => exact HC116_0.out); (case side5 => exact Kd.C_below HR116_1.out (by repeat (first | (with_reducible first | exact HB.out | apply below_alloc | apply pw_below_drewN | apply below_drew1 | refine below_set ?_ GE117.out) | exact HB.out))); (case side6 => exact HC116_1.out); rintro e w21 ⟨v119, rfl, ho0, hb⟩; refine ⟨_, rfl, ?_⟩; have nM_ := Aside0.mk (Map3.Has3.below (show Map3.Has3 (Value.int .i64) _ gm x6_2 from (by (with_reducible repeat (first | apply Map3.Has3.alloc_ | apply Map3.Has3.drewN_ | apply Map3.Has3.drew_ | refine Map3.Has3.set2_ ?_ GN.out _ _)); with_reducible exact HM.out)) hb); clear HM; have HM := nM_; clear nM_; have n0_ := Aside0.mk (Kd.R_lower ho0 (below_size (by repeat (first | (with_reducible first | exact HB.out | apply below_alloc | apply pw_below_drewN | apply below_drew1 | refine below_set ?_ GE117.out) | exact HB.out)))); have n1_ := Aside0.mk (blk_below (g := gb117) (o := .cells #[.slice A116_0 ((rd_T45 l1 x33_3).f0).length c116_0, .slice A116_1 ((rd_T45 l1 x33_3).f1).length c116_1] 45 (0, 0)) (by (with_reducible repeat (first | refine blk_drewN ?_ _ | refine blk_drew ?_ | refine blk_alloc ?_ _)); refine blk_put (cs := #[.slice A116_0 ((rd_T45 l1 x33_3).f0).length c116_0, .slice none 0 0]) ?_ 1 _ rfl; (with_reducible repeat (first | refine blk_drewN ?_ _ | refine blk_drew ?_ | refine blk_alloc ?_ _)); refine blk_put (cs := #[.slice none 0 0, .slice none 0 0]) ?_ 0 _ rfl; (with_reducible repeat (first | refine blk_drewN ?_ _ | refine blk_drew ?_ | refine blk_alloc ?_ _)); exact BK117.out) hb); have n2_ := Aside0.mk (below_step (by repeat (first | (with_reducible first | exact HB.out | apply below_alloc | apply pw_below_drewN | apply below_drew1 | refine below_set ?_ GE117.out) | exact HB.out)) hb); clear BK117; clear HB; have HO120 := n0_; have BK117 := n1_; have HB := n2_; clear n0_ n1_ n2_; (try clear hb); (try clear hb2); (try clear hk); (try clear hi); (try clear ho0)))
                              go_roundg k3
                              case measure => have := HK1.out; have := HK2.out; have := HK3.out; omega
                              case rel => exact ⟨(x10_3), (wrap64 (x33_3 + 1)), (by first | rfl | (simp; done) | (simp [*]; done)), (by first | rfl | (simp; done) | (simp [*]; done)), H', ⟨by have := HK1.out; have := HK2.out; have := HK3.out; omega⟩, ⟨(by (with_reducible repeat (first | apply Map3.Has3.alloc_ | apply Map3.Has3.drewN_ | apply Map3.Has3.drew_ | refine Map3.Has3.set2_ ?_ GN.out _ _)); with_reducible exact HM.out)⟩, ⟨by repeat (first | (with_reducible first | exact HB.out | apply below_alloc | apply pw_below_drewN | apply below_drew1 | refine below_set ?_ GE117.out) | exact HB.out)⟩⟩
                          · rw [if_neg c10] at H
                            exact absurd H (by simp)
                        · rw [if_neg c9] at H
                          exact absurd H (by simp)
                      · rw [if_neg c8] at H
                        have c8b0 : decide (x33_3 < (l1.length : Int)) = false := decide_eq_false c8
                        clear c8
                        replace H := Option.bind_eq_some_iff.mp H
                        obtain ⟨t123, A220, H⟩ := H
                        replace H : (if x10_3 = t123 then (impl_LongestTrades.l1 k3 l0 l1 l2 x6_2 x7_2 (l2.length : Int) x23_1 l2 (l2.length : Int) (wrap64 (x27_2 + 1))) else ((Map3.tput (rd_L1 l2 x27_2) x10_3 x6_2).bind fun t124 => (impl_LongestTrades.l1 k3 l0 l1 l2 t124 true (l2.length : Int) x23_1 l2 (l2.length : Int) (wrap64 (x27_2 + 1))))) = some r := H
                        have A22 := Aside0.mk A220
                        obtain ⟨N9, E9⟩ := Map3.tget_eq A22.out
                        replace N9 := Aside0.mk N9
                        have LK9 := Aside0.mk (Map3.tget_run A22.out)
                        clear E9
                        obtain ⟨ad9, hA9, -⟩ := HR115_0.out.2.2 (by have := N9.out; omega)
                        subst hA9
                        clear A220
                        by_cases c23 : x10_3 = t123
                        · rw [if_pos c23] at H
                          have c23b0 : (x10_3 == t123) = true := beq_iff_eq.mpr c23
                          have c23b1 : (x10_3 != t123) = false := bne_eq_false_iff_eq.mpr c23
                          clear c23
                          have H' := Aside0.mk H
                          clear H
                          go_wp2_with (first | ((with_reducible refine gate_dst (N := 56) rfl ?_); refine Map3.wp_arrAt3 ?hg 67 (.tmp 55) ?ho K3_67 (A := some ad9) (n := (rd_L1 l2 x27_2).length) (c := c115_0) ?hx ?hn ?_; (case hg => rfl); (case ho => rfl); (case hx => first | (go_simp; done) | (go_simp; rfl) | rfl); (case hn => have := N9.out; omega); (try go_simp)) | ((with_reducible refine gate_dst (N := 57) rfl ?_); refine Map3.wp_load3 ?hg 67 (.tmp 56) ?ho K3_67 size67 (ad := ad9) (n := (rd_L1 l2 x27_2).length) (xs := (rd_L1 l2 x27_2)) ?hx ?hC ?hn ?_; (case hg => rfl); (case ho => rfl); (case hx => first | (go_simp; done) | (go_simp; rfl) | rfl); (case hn => have := N9.out; omega); (case hC => exact (Kd.C_below HR115_0.out (by repeat (first | (with_reducible first | exact HB.out | apply below_alloc | apply pw_below_drewN | apply below_drew1) | exact HB.out)))); (try go_simp)) | ((with_reducible refine gate_dst (N := 58) rfl ?_); refine Map3.wp_look3v ?hg (.tmp 54) (.tmp 57) 73 ?ho K3_67 Try.underlying73 (z := .int .i64 0) zero3 (val := Value.int .i64) (hs := x6_2) (by (with_reducible repeat (first | apply Map3.Has3.alloc_ | apply Map3.Has3.drewN_ | apply Map3.Has3.drew_)); with_reducible exact HM.out) (rd (rd_L1 l2 x27_2) 0) (rd (rd_L1 l2 x27_2) 1) (rd (rd_L1 l2 x27_2) 2) (.int .i64 t123) LK9.out ?hm ?hx ?_; (case hg => rfl); (case ho => rfl); (case hm => first | (go_simp; done) | (go_simp; rfl) | rfl); (case hx => first | (go_simp; done) | (go_simp; rfl) | rfl); (try go_simp)))
                          go_roundg k3
                          case measure => have := HK1.out; have := HK2.out; have := HK3.out; omega
                          case rel => exact ⟨(x6_2), (x7_2), (wrap64 (x27_2 + 1)), (by first | rfl | (simp; done) | (simp [*]; done)), (by first | rfl | (simp; done) | (simp [*]; done)), H', ⟨by have := HK1.out; have := HK2.out; have := HK3.out; omega⟩, ⟨(by (with_reducible repeat (first | apply Map3.Has3.alloc_ | apply Map3.Has3.drewN_ | apply Map3.Has3.drew_)); with_reducible exact HM.out)⟩, ⟨by repeat (first | (with_reducible first | exact HB.out | apply below_alloc | apply pw_below_drewN | apply below_drew1) | exact HB.out)⟩⟩
                        · rw [if_neg c23] at H
                          have c23b0 : (x10_3 == t123) = false := beq_eq_false_iff_ne.mpr c23
                          have c23b1 : (x10_3 != t123) = true := bne_iff_ne.mpr c23
                          replace H := Option.bind_eq_some_iff.mp H
                          obtain ⟨t124, A240, H⟩ := H
                          replace H : (impl_LongestTrades.l1 k3 l0 l1 l2 t124 true (l2.length : Int) x23_1 l2 (l2.length : Int) (wrap64 (x27_2 + 1))) = some r := H
                          have A24 := Aside0.mk A240
                          have PK := Aside0.mk (Map3.tput_eq A24.out)
                          clear A240
                          have H' := Aside0.mk H
                          clear H
                          go_wp2_with (first | ((with_reducible refine gate_dst (N := 56) rfl ?_); refine Map3.wp_arrAt3 ?hg 67 (.tmp 55) ?ho K3_67 (A := some ad9) (n := (rd_L1 l2 x27_2).length) (c := c115_0) ?hx ?hn ?_; (case hg => rfl); (case ho => rfl); (case hx => first | (go_simp; done) | (go_simp; rfl) | rfl); (case hn => have := N9.out; omega); (try go_simp)) | ((with_reducible refine gate_dst (N := 57) rfl ?_); refine Map3.wp_load3 ?hg 67 (.tmp 56) ?ho K3_67 size67 (ad := ad9) (n := (rd_L1 l2 x27_2).length) (xs := (rd_L1 l2 x27_2)) ?hx ?hC ?hn ?_; (case hg => rfl); (case ho => rfl); (case hx => first | (go_simp; done) | (go_simp; rfl) | rfl); (case hn => have := N9.out; omega); (case hC => exact (Kd.C_below HR115_0.out (by repeat (first | (with_reducible first | exact HB.out | apply below_alloc | apply pw_below_drewN | apply below_drew1) | exact HB.out)))); (try go_simp)) | ((with_reducible refine gate_dst (N := 58) rfl ?_); refine Map3.wp_look3v ?hg (.tmp 54) (.tmp 57) 73 ?ho K3_67 Try.underlying73 (z := .int .i64 0) zero3 (val := Value.int .i64) (hs := x6_2) (by (with_reducible repeat (first | apply Map3.Has3.alloc_ | apply Map3.Has3.drewN_ | apply Map3.Has3.drew_)); with_reducible exact HM.out) (rd (rd_L1 l2 x27_2) 0) (rd (rd_L1 l2 x27_2) 1) (rd (rd_L1 l2 x27_2) 2) (.int .i64 t123) LK9.out ?hm ?hx ?_; (case hg => rfl); (case ho => rfl); (case hm => first | (go_simp; done) | (go_simp; rfl) | rfl); (case hx => first | (go_simp; done) | (go_simp; rfl) | rfl); (try go_simp)) | ((with_reducible refine gate_dst (N := 62) rfl ?_); refine Map3.wp_arrAt3 ?hg 67 (.tmp 61) ?ho K3_67 (A := some ad9) (n := (rd_L1 l2 x27_2).length) (c := c115_0) ?hx ?hn ?_; (case hg => rfl); (case ho => rfl); (case hx => first | (go_simp; done) | (go_simp; rfl) | rfl); (case hn => have := N9.out; omega); (try go_simp)) | ((with_reducible refine gate_dst (N := 63) rfl ?_); refine Map3.wp_load3 ?hg 67 (.tmp 62) ?ho K3_67 size67 (ad := ad9) (n := (rd_L1 l2 x27_2).length) (xs := (rd_L1 l2 x27_2)) ?hx ?hC ?hn ?_; (case hg => rfl); (case ho => rfl); (case hx => first | (go_simp; done) | (go_simp; rfl) | rfl); (case hn => have := N9.out; omega); (case hC => exact (Kd.C_below HR115_0.out (by repeat (first | (with_reducible first | exact HB.out | apply below_alloc | apply pw_below_drewN | apply below_drew1) | exact HB.out)))); (try go_simp)) | ((with_reducible refine gate_ (.mapUpdate 73 (.tmp 60) (.tmp 63) (.tmp 64)) rfl ?_); refine Map3.wp_update3 ?hg (.tmp 60) (.tmp 63) (.tmp 64) 73 ?ho K3_67 Try.underlying73 (val := Value.int .i64) (hs := x6_2) (by (with_reducible repeat (first | apply Map3.Has3.alloc_ | apply Map3.Has3.drewN_ | apply Map3.Has3.drew_)); with_reducible exact HM.out) (rd (rd_L1 l2 x27_2) 0) (rd (rd_L1 l2 x27_2) 1) (rd (rd_L1 l2 x27_2) 2) x10_3 ?hm ?hx ?hv ?_; (case hg => rfl); (case ho => rfl); (case hm => first | (go_simp; done) | (go_simp; rfl) | rfl); (case hx => first | (go_simp; done) | (go_simp; rfl) | rfl); (case hv => first | (go_simp; done) | (go_simp; rfl) | rfl); intro w35 hm2 hg; rw [PK.out] at hm2; have n1_ := Aside0.mk (Map3.below_mapped (by repeat (first | (with_reducible first | exact HB.out | apply below_alloc | apply pw_below_drewN | apply below_drew1) | exact HB.out)) GM.out (by (with_reducible repeat (first | apply Map3.Has3.alloc_ | apply Map3.Has3.drewN_ | apply Map3.Has3.drew_)); with_reducible exact HM.out) hg); clear HB HM; have HB := n1_; have HM := Aside0.mk hm2; clear n1_ hm2 hg; (try go_simp)))
                          go_roundg k3
                          case measure => have := HK1.out; have := HK2.out; have := HK3.out; omega
                          case rel => exact ⟨(t124), (true), (wrap64 (x27_2 + 1)), (by first | rfl | (simp; done) | (simp [*]; done)), (by first | rfl | (simp; done) | (simp [*]; done)), H', ⟨by have := HK1.out; have := HK2.out; have := HK3.out; omega⟩, ⟨(by (with_reducible repeat (first | apply Map3.Has3.alloc_ | apply Map3.Has3.drewN_ | apply Map3.Has3.drew_)); with_reducible exact HM.out)⟩, ⟨by repeat (first | (with_reducible first | exact HB.out | apply below_alloc | apply pw_below_drewN | apply below_drew1) | exact HB.out)⟩⟩
                · rw [if_neg c7] at H
                  exact absurd H (by simp)
              · rw [if_neg c6] at H
                exact absurd H (by simp)
            · rw [if_neg c5] at H
              have c5b0 : decide (x27_2 < (l2.length : Int)) = false := decide_eq_false c5
              clear c5
              by_cases c25 : x7_2 = true
              · subst c25
                have H1 : (impl_LongestTrades.l0 k2 l0 l1 l2 x6_2 (l2.length : Int) (wrap64 (x23_1 + 1))) = some r := by rw [if_pos rfl] at H; exact H
                clear H
                have H := H1
                clear H1
                have H' := Aside0.mk H
                clear H
                go_wp2
                go_roundg k2
                case measure => have := HK1.out; have := HK2.out; omega
                case rel => exact ⟨(x6_2), (wrap64 (x23_1 + 1)), (by first | rfl | (simp; done) | (simp [*]; done)), H', ⟨by have := HK1.out; have := HK2.out; omega⟩, ⟨(by (with_reducible repeat (first | apply Map3.Has3.alloc_ | apply Map3.Has3.drewN_ | apply Map3.Has3.drew_)); with_reducible exact HM.out)⟩, ⟨by repeat (first | (with_reducible first | exact HB.out | apply below_alloc | apply pw_below_drewN | apply below_drew1) | exact HB.out)⟩⟩
              · replace c25 := Bool.eq_false_iff.mpr c25
                subst c25
                have H1 : ((Map3.tget l0 x6_2).bind fun t114 => (some t114)) = some r := by rw [if_neg (show ¬ (false = true) by decide)] at H; exact H
                clear H
                have H := H1
                clear H1
                replace H := Option.bind_eq_some_iff.mp H
                obtain ⟨t114, A260, H⟩ := H
                replace H : (some t114) = some r := H
                have A26 := Aside0.mk A260
                obtain ⟨N0, E0⟩ := Map3.tget_eq A26.out
                replace N0 := Aside0.mk N0
                have LK0 := Aside0.mk (Map3.tget_run A26.out)
                clear E0
                obtain ⟨ad0, hA0, -⟩ := HR0.out.2.2 (by have := N0.out; omega)
                subst hA0
                clear A260
                obtain rfl := Option.some.inj H
                go_wp2_with (first | ((with_reducible refine gate_dst (N := 70) rfl ?_); refine Map3.wp_arrAt3 ?hg 67 (.tmp 69) ?ho K3_67 (A := some ad0) (n := l0.length) (c := c0) ?hx ?hn ?_; (case hg => rfl); (case ho => rfl); (case hx => first | (go_simp; done) | (go_simp; rfl) | rfl); (case hn => have := N0.out; omega); (try go_simp)) | ((with_reducible refine gate_dst (N := 71) rfl ?_); refine Map3.wp_load3 ?hg 67 (.tmp 70) ?ho K3_67 size67 (ad := ad0) (n := l0.length) (xs := l0) ?hx ?hC ?hn ?_; (case hg => rfl); (case ho => rfl); (case hx => first | (go_simp; done) | (go_simp; rfl) | rfl); (case hn => have := N0.out; omega); (case hC => exact (Kd.C_below HR0.out (by repeat (first | (with_reducible first | exact HB.out | apply below_alloc | apply pw_below_drewN | apply below_drew1) | exact HB.out)))); (try go_simp)) | ((with_reducible refine gate_dst (N := 72) rfl ?_); refine Map3.wp_look3v ?hg (.tmp 68) (.tmp 71) 73 ?ho K3_67 Try.underlying73 (z := .int .i64 0) zero3 (val := Value.int .i64) (hs := x6_2) (by (with_reducible repeat (first | apply Map3.Has3.alloc_ | apply Map3.Has3.drewN_ | apply Map3.Has3.drew_)); with_reducible exact HM.out) (rd l0 0) (rd l0 1) (rd l0 2) (.int .i64 t114) LK0.out ?hm ?hx ?_; (case hg => rfl); (case ho => rfl); (case hm => first | (go_simp; done) | (go_simp; rfl) | rfl); (case hx => first | (go_simp; done) | (go_simp; rfl) | rfl); (try go_simp)))
                go_ret
                exact ⟨by first | rfl | (simp [errW_none, errW_some] <;> rfl) | (simp [*, errW_none, errW_some] <;> rfl), below_then HW.out HW.out.size (by repeat (first | (with_reducible first | exact HB.out | apply below_alloc | apply pw_below_drewN | apply below_drew1) | exact HB.out))⟩
      · rw [if_neg c4] at H
        have c4b0 : decide (x23_1 < (l2.length : Int)) = false := decide_eq_false c4
        clear c4
        obtain rfl := Option.some.inj H
        go_wp2
        go_ret
        exact ⟨by first | rfl | (simp [errW_none, errW_some] <;> rfl) | (simp [*, errW_none, errW_some] <;> rfl), below_then HW.out HW.out.size (by repeat (first | (with_reducible first | exact HB.out | apply below_alloc | apply pw_below_drewN | apply below_drew1) | exact HB.out))⟩
/-! ### spec_TradesMay: function 68 -/
end Go.Proofs.Ytlmgipjalcnfaaa.P
