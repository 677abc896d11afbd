-- Written by a program (wip/tools/prx.py over the guide's printer). Not trusted: Lean checks it.
import Derived.Test.YtlmgipjalcnfaaaKEHLPx0
import Derived.Test.YtlmgipjalcnfaaaKEHLPx4
import Derived.Test.YtlmgipjalcnfaaaKEHLPx5
namespace Go.Proofs.Ytlmgipjalcnfaaa.P
open Go.RowKit Go.Proofs.YtlmgipjalcnfaaaW.PrintWords Go.Proofs.YtlmgipjalcnfaaaW.PrintLast Go.Proofs.YtlmgipjalcnfaaaW.PrintMore
attribute [local go_sem] max2_int min2_int max_two min_two max_three min_three max_four min_four   -- for this text's walks alone
set_option linter.unusedVariables false
set_option linter.unusedSimpArgs false
theorem K3_67 : Map3.K3 Try.prog 67 3 := ⟨Try.underlying67, Try.underlying3, by kernel_rfl⟩
theorem size67 : (Try.prog.info? 67).map (fun i => i.size) = some 3 := by kernel_rfl
theorem zero4 : ∀ W : World, (zeroValue 4).run Try.prog W = .ok (.bool false) W := fun W => by kernel_rfl
theorem slices_Clone_int_int.eq {l0 r : List Int} (h : slices_Clone_int_int.f l0 = some r) : r = l0 := by
  unfold slices_Clone_int_int.f at h
  split at h
  · injection h with h; exact h.symm
  · cases h
/-! ### impl_HeapsReached: function 16 -/
mutual
def impl_HeapsReached.j0 : Nat → List Int → List (S45) → Bool → Option ((List (List Int)))
  | 0, _, _, _ => none
  | k + 1, x0, x1, x19 => if x19 = true then (some ([] : List (List Int))) else ((slices_Clone_int_int.f x0).bind fun t128 => (if x0.length = 3 then (impl_HeapsReached.l0 k x1 ([t128] : List (List Int)) 0) else (none)))
def impl_HeapsReached.l0 : Nat → List (S45) → List (List Int) → Int → Option ((List (List Int)))
  | 0, _, _, _ => none
  | k + 1, x1, x5, x7 => if x7 < (x5.length : Int) then (impl_HeapsReached.l1 k x1 x5 x7 x1 (x1.length : Int) 0) else (some x5)
def impl_HeapsReached.l1 : Nat → List (S45) → List (List Int) → Int → List (S45) → Int → Int → Option ((List (List Int)))
  | 0, _, _, _, _, _, _ => none
  | k + 1, x1, x5, x7, x34, x35, x36 => if x36 < x35 then (if 0 ≤ x36 then (if x36 < (x34.length : Int) then (if 0 ≤ x7 then (if x7 < (x5.length : Int) then ((impl_traded.f k (rd_L1 x5 x7) ((rd_T45 x34 x36).f0) ((rd_T45 x34 x36).f1)).bind fun bt140 => (if bt140.2 = true then (if bt140.1.length = 3 then (impl_HeapsReached.j3 k x1 x5 x7 bt140.1 x34 x35 x36 (Map3.hasL x5 bt140.1)) else (none)) else (impl_HeapsReached.j3 k x1 x5 x7 bt140.1 x34 x35 x36 true))) else (none)) else (none)) else (none)) else (none)) else (impl_HeapsReached.l0 k x1 x5 (wrap64 (x7 + 1)))
def impl_HeapsReached.j3 : Nat → List (S45) → List (List Int) → Int → List Int → List (S45) → Int → Int → Bool → Option ((List (List Int)))
  | 0, _, _, _, _, _, _, _, _ => none
  | k + 1, x1, x5, x7, x10, x34, x35, x36, x57 => if x57 = true then (impl_HeapsReached.l1 k x1 x5 x7 x34 x35 (wrap64 (x36 + 1))) else (if x5.length < 5864062014805 then ((some (x5 ++ [x10] : List (List Int))).bind fun y145 => (if (y145.length : Int) > 400 then (some ([] : List (List Int))) else (impl_HeapsReached.l1 k x1 y145 x7 x34 x35 (wrap64 (x36 + 1))))) else (none))
end
def impl_HeapsReached.f (k : Nat) (l0 : List Int) (l1 : List (S45)) : Option ((List (List Int))) := (impl_HeapsValid.f k l0).bind fun t126 => (if t126 = true then ((impl_TradesValid.f k l1).bind fun t127 => (impl_HeapsReached.j0 k l0 l1 (!t127))) else (impl_HeapsReached.j0 k l0 l1 true))
def impl_HeapsReached.T11 : Bool × List (List Nat × List Nat) := (true, [([], []), ([], []), ([0, 1], [0, 1]), ([2], [2]), ([], []), ([3, 4], [3, 4]), ([5], [5]), ([6], [6]), ([6], [6]), ([7, 5, 0, 1, 2, 3, 4, 5, 6, 7], [7]), ([8, 9, 0, 1, 2, 3, 4, 5, 6, 7, 8, 9], [8])])
def impl_HeapsReached.B11 : List Nat := [0, 0, 3, 7, 0, 31, 63, 127, 127, 255, 1023]
theorem impl_HeapsReached.tab11 : rtab .any (opsOf Try.f16 11) = impl_HeapsReached.T11 := by kernel_rfl
theorem impl_HeapsReached.bits11 : waitsOk impl_HeapsReached.T11.2 impl_HeapsReached.B11 = true := by kernel_rfl
set_option maxHeartbeats 8000000 in
set_option maxRecDepth 100000 in
theorem impl_HeapsReached.calls (k : Nat) (A0 : Option Addr) (c0 : Nat) (l0 : List Int) (A1 : Option Addr) (c1 : Nat) (l1 : List (S45)) (r : List (List Int)) (w : World) (hr0 : Kd.C (Kd.int .i64) w A0 l0.length l0) (hc0 : l0.length ≤ c0) (hr1 : Kd.C k45 w A1 l1.length l1) (hc1 : l1.length ≤ c1) (h : impl_HeapsReached.f k l0 l1 = some r) :
    Calls Try.prog 16 #[.slice A0 l0.length c0, .slice A1 l1.length c1] w fun e w' => ∃ v0_ : Value, e = .returned (v0_) ∧ Kd.S (Kd.slice 3 (Kd.int .i64)) 22 w' w.heap.size (fun _ => True) v0_ r ∧ Below w.heap.size w w' := by
  have hu45 := Try.underlying45
  have HR0 := Aside0.mk hr0
  have HC0 := Aside0.mk hc0
  clear hr0 hc0
  have HR1 := Aside0.mk hr1
  have HC1 := Aside0.mk hc1
  clear hr1 hc1
  have HB := Aside0.mk (Below.refl w.heap.size w)
  have H : ((impl_HeapsValid.f k l0).bind fun t126 => (if t126 = true then ((impl_TradesValid.f k l1).bind fun t127 => (impl_HeapsReached.j0 k l0 l1 (!t127))) else (impl_HeapsReached.j0 k l0 l1 true))) = some r := h
  clear h
  have HC3 := Aside0.mk H
  clear H
  go_enter Try.func16, Try.ntmps16
  go_upto_region 1 with (fail)
  go_cut [19] (fun v19 wc => ∃ (kq : Nat) (x19_2 : Bool), v19 = .bool x19_2 ∧ Aside0 (impl_HeapsReached.j0 kq l0 l1 x19_2 = some r) ∧ Aside0 (kq ≤ k) ∧ Aside0 (Below w.heap.size w wc))
  case first =>
    have H := HC3.out
    clear HC3
    replace H := Option.bind_eq_some_iff.mp H
    obtain ⟨t126, A40, H⟩ := H
    replace H : (if t126 = true then ((impl_TradesValid.f k l1).bind fun t127 => (impl_HeapsReached.j0 k l0 l1 (!t127))) else (impl_HeapsReached.j0 k l0 l1 true)) = some r := H
    have A4 := Aside0.mk A40
    clear A40
    by_cases c5 : t126 = true
    · subst c5
      have H1 : ((impl_TradesValid.f k l1).bind fun t127 => (impl_HeapsReached.j0 k l0 l1 (!t127))) = some r := by rw [if_pos rfl] at H; exact H
      clear H
      have H := H1
      clear H1
      replace H := Option.bind_eq_some_iff.mp H
      obtain ⟨t127, A60, H⟩ := H
      replace H : (impl_HeapsReached.j0 k l0 l1 (!t127)) = some r := H
      have A6 := Aside0.mk A60
      clear A60
      have H' := Aside0.mk H
      clear H
      go_wp2_with (first | ((with_reducible refine gate_callee (f := 35) rfl ?_); refine goesL_ (some 13) rfl rfl Try.func35 (by kernel_rfl) rfl #[.slice A0 l0.length c0] rfl (by (try simp only [List.map_toArray, List.map_cons, List.map_nil]); first | done | rfl | (simp only [List.length_drop, List.length_take]; rfl)) ?_; (with_reducible refine (impl_HeapsValid.calls k _ _ l0 true _ ?side1 ?side2 A4.out).mono ?_); (case side1 => repeat (first | exact (Kd.C_below HR0.out HB.out) | (with_reducible refine Kd.C_alloc ?_ _) | (with_reducible refine Kd.C_drewN ?_ _) | (with_reducible refine Kd.C_drew ?_))); (case side2 => exact HC0.out); rintro e w' ⟨rfl, ⟨nd, rfl⟩⟩; refine ⟨_, rfl, ?_⟩) | (go_at_call 57; (with_reducible refine (impl_TradesValid.calls k _ _ l1 t127 _ ?side1 ?side2 A6.out).mono ?_); (case side1 => repeat (first | exact (Kd.C_below HR1.out (by repeat (first | (with_reducible first | exact HB.out | apply below_alloc | apply pw_below_drewN | apply below_drew1) | exact HB.out))) | (with_reducible refine Kd.C_alloc ?_ _) | (with_reducible refine Kd.C_drewN ?_ _) | (with_reducible refine Kd.C_drew ?_))); (case side2 => exact HC1.out); rintro e w7 ⟨rfl, hb⟩; have n0_ := Aside0.mk (below_step (by repeat (first | (with_reducible first | exact HB.out | apply below_alloc | apply pw_below_drewN | apply below_drew1) | exact HB.out)) hb); clear HB; have HB := n0_; clear n0_; (try clear hb); (try clear hb2); (try clear hk); (try clear hi)))
      go_meet
      case rel => exact ⟨_, (!t127), (by first | rfl | (simp; done) | (simp [*]; done)), H', ⟨by first | omega | exact Nat.le_refl _⟩, ⟨by repeat (first | (with_reducible first | exact HB.out | apply below_alloc | apply pw_below_drewN | apply below_drew1) | exact HB.out)⟩⟩
    · replace c5 := Bool.eq_false_iff.mpr c5
      subst c5
      have H1 : (impl_HeapsReached.j0 k l0 l1 true) = some r := by rw [if_neg (show ¬ (false = true) by decide)] at H; exact H
      clear H
      have H := H1
      clear H1
      have H' := Aside0.mk H
      clear H
      go_wp2_with (first | ((with_reducible refine gate_callee (f := 35) rfl ?_); refine goesL_ (some 13) rfl rfl Try.func35 (by kernel_rfl) rfl #[.slice A0 l0.length c0] rfl (by (try simp only [List.map_toArray, List.map_cons, List.map_nil]); first | done | rfl | (simp only [List.length_drop, List.length_take]; rfl)) ?_; (with_reducible refine (impl_HeapsValid.calls k _ _ l0 false _ ?side1 ?side2 A4.out).mono ?_); (case side1 => repeat (first | exact (Kd.C_below HR0.out HB.out) | (with_reducible refine Kd.C_alloc ?_ _) | (with_reducible refine Kd.C_drewN ?_ _) | (with_reducible refine Kd.C_drew ?_))); (case side2 => exact HC0.out); rintro e w' ⟨rfl, ⟨nd, rfl⟩⟩; refine ⟨_, rfl, ?_⟩))
      go_meet
      case rel => exact ⟨_, (true), (by first | rfl | (simp; done) | (simp [*]; done)), H', ⟨by first | omega | exact Nat.le_refl _⟩, ⟨by repeat (first | (with_reducible first | exact HB.out | apply below_alloc | apply pw_below_drewN | apply below_drew1) | exact HB.out)⟩⟩
  case rest =>
    clear HC3
    try clear c1
    try clear p2
    try clear c3
    try clear c5
    obtain ⟨kq, x19_2, rfl, HA, HJ2, HB⟩ := hcut
    cases kq with
    | zero => exact absurd HA.out (by simp [impl_HeapsReached.j0])
    | succ kj2 =>
      have H := HA.out
      clear HA
      simp only [impl_HeapsReached.j0] at H
      by_cases c8 : x19_2 = true
      · subst c8
        have H1 : (some ([] : List (List Int))) = some r := by rw [if_pos rfl] at H; exact H
        clear H
        have H := H1
        clear H1
        obtain rfl := Option.some.inj H
        go_wp2
        go_ret
        exact ⟨_, by first | rfl | (simp [errW_none, errW_some] <;> rfl) | (simp [*, errW_none, errW_some] <;> rfl), by first | exact Kd.S_nil _ _ _ _ _ | exact Kd.N_nil _ _ _ _ _ | exact Kd.V_nil _ _ _ _ _ | exact Kd.Q_nil _ _ _ _ _ | exact Kd.R_nil _ _ _ _ _, by repeat (first | (with_reducible first | exact HB.out | apply below_alloc | apply pw_below_drewN | apply below_drew1) | exact HB.out)⟩
      · replace c8 := Bool.eq_false_iff.mpr c8
        subst c8
        have H1 : ((slices_Clone_int_int.f l0).bind fun t128 => (if l0.length = 3 then (impl_HeapsReached.l0 kj2 l1 ([t128] : List (List Int)) 0) else (none))) = some r := by rw [if_neg (show ¬ (false = true) by decide)] at H; exact H
        clear H
        have H := H1
        clear H1
        replace H := Option.bind_eq_some_iff.mp H
        obtain ⟨t128, A90, H⟩ := H
        have A9 := Aside0.mk A90
        clear A90
        by_cases c10 : l0.length = 3
        · rw [if_pos c10] at H
          have L3 := Aside0.mk c10
          clear c10
          have E9 : Aside0 (t128 = l0) := ⟨slices_Clone_int_int.eq A9.out⟩
          have H' := Aside0.mk H
          clear H
          obtain ⟨ad0, hA0, -⟩ := HR0.out.2.2 (by have := L3.out; omega)
          subst hA0
          go_wp2_with (first | ((with_reducible refine gate_callee (f := 58) rfl ?_); refine goesL_ (some 21) rfl rfl Try.func58 (by kernel_rfl) rfl #[.slice (some ad0) l0.length c0] rfl (by (try simp only [List.map_toArray, List.map_cons, List.map_nil]); first | done | rfl | (simp only [List.length_drop, List.length_take]; rfl)) ?_; (with_reducible refine (slices_Clone_int_int.calls _ _ l0 t128 _ ?side1 ?side2 A9.out).mono ?_); (case side1 => repeat (first | exact (Kd.C_below HR0.out HB.out) | (with_reducible refine Kd.C_alloc ?_ _) | (with_reducible refine Kd.C_drewN ?_ _) | (with_reducible refine Kd.C_drew ?_))); (case side2 => exact HC0.out); rintro e w11 ⟨v129, rfl, ho0, hb⟩; refine ⟨_, rfl, ?_⟩; have n0_ := Aside0.mk (Kd.R_lower ho0 (below_size (by repeat (first | (with_reducible first | exact HB.out | apply below_alloc | apply pw_below_drewN | apply below_drew1) | exact HB.out)))); have n1_ := Aside0.mk (below_step (by repeat (first | (with_reducible first | exact HB.out | apply below_alloc | apply pw_below_drewN | apply below_drew1) | exact HB.out)) hb); clear HB; have HO130 := n0_; have HB := n1_; clear n0_ n1_; (try clear hb); (try clear hb2); (try clear hk); (try clear hi); (try clear ho0); obtain ⟨Ao15, co15, eo15⟩ := Kd.R_slice HO130.out; subst eo15) | ((with_reducible refine gate_dst (N := 22) rfl ?_); refine Kd.S_lits (Kd.slice 3 (Kd.int .i64)) (w0 := w) w.heap.size 22 ?hg (N := 22) ?hd (xs := [t128]) (inner := [.slice Ao15 t128.length co15]) (ok := fun _ => True) (fun j k_ => j = 0 ∧ some k_ = (.slice Ao15 t128.length co15 : Value).ownBlock) ?hr rfl ?hp ?ha (fun _ _ _ => trivial) trivial ?hB ?hb (by simp) ?_; (case hd => rfl); (case hg => rfl); (case hr => first | (go_simp; done) | (go_simp; rfl)); (case hB => exact (by repeat (first | (with_reducible first | exact HB.out | apply below_alloc | apply pw_below_drewN | apply below_drew1) | exact HB.out))); (case hb => exact (below_size (by repeat (first | (with_reducible first | exact HB.out | apply below_alloc | apply pw_below_drewN | apply below_drew1) | exact HB.out)))); (case ha => rintro _ _ _ ⟨rfl, _⟩ ⟨rfl, _⟩; rfl); (case hp => exact Map3.lit_one (by (with_reducible repeat (first | apply Kd.R_alloc | apply Kd.R_drewN | apply Kd.R_drew)); exact HO130.out)); intro v132 w12 ho13 hb hg_ hnew_; clear hg_ hnew_; have n0_ := Aside0.mk ho13; have n1_ := Aside0.mk hb; clear HO130 HB; have HO133 := n0_; have HB := n1_; clear n0_ n1_ ho13 hb) | ((with_reducible refine gate_dst (N := 23) rfl ?_); refine Map3.wp_makeMap ?hg 68 ?ho Value.bool ?_; (case hg => rfl); (case ho => rfl); intro gm w13 hgm hm hb hlt; have GM : Aside0 (w.heap.size ≤ gm) := ⟨by rw [hgm]; exact (below_size (by repeat (first | (with_reducible first | exact HB.out | apply below_alloc | apply pw_below_drewN | apply below_drew1) | exact HB.out)))⟩; have HM := Aside0.mk hm; have n0_ := Aside0.mk (Kd.S_below (by (with_reducible repeat (first | apply Kd.S_alloc | apply Kd.S_drewN | apply Kd.S_drew)); exact HO133.out) hb); have n1_ := Aside0.mk (below_step (by repeat (first | (with_reducible first | exact HB.out | apply below_alloc | apply pw_below_drewN | apply below_drew1) | exact HB.out)) hb); clear HO133 HB; have HO133 := n0_; have HB := n1_; clear n0_ n1_ hgm hm hb hlt; (try go_simp)) | ((with_reducible refine gate_dst (N := 25) rfl ?_); refine Map3.wp_arrAt3 ?hg 67 (.tmp 24) ?ho K3_67 (A := some ad0) (n := l0.length) (c := c0) ?hx ?hn ?_; (case hg => rfl); (case ho => rfl); (case hx => first | (go_simp; done) | (go_simp; rfl) | rfl); (case hn => have := L3.out; omega); (try go_simp)) | ((with_reducible refine gate_dst (N := 26) rfl ?_); refine Map3.wp_load3 ?hg 67 (.tmp 25) ?ho K3_67 size67 (ad := ad0) (n := l0.length) (xs := l0) ?hx ?hC ?hn ?_; (case hg => rfl); (case ho => rfl); (case hx => first | (go_simp; done) | (go_simp; rfl) | rfl); (case hn => have := L3.out; omega); (case hC => exact (Kd.C_below HR0.out (by repeat (first | (with_reducible first | exact HB.out | apply below_alloc | apply pw_below_drewN | apply below_drew1) | exact HB.out)))); (try go_simp)) | ((with_reducible refine gate_ (.insert 68 (.tmp 23) (.tmp 26) (.const (.bool true))) rfl ?_); refine Map3.wp_insert3 ?hg (.tmp 23) (.tmp 26) (.const (.bool true)) 68 ?ho K3_67 Try.underlying68 (val := Value.bool) (hs := []) (by (with_reducible repeat (first | apply Map3.Has3.alloc_ | apply Map3.Has3.drewN_ | apply Map3.Has3.drew_)); with_reducible exact HM.out) (rd l0 0) (rd l0 1) (rd l0 2) true ?hm ?hx ?hv ?_; (case hg => rfl); (case ho => rfl); (case hm => first | (go_simp; done) | (go_simp; rfl) | rfl); (case hx => first | (go_simp; done) | (go_simp; rfl) | rfl); (case hv => first | (go_simp; done) | (go_simp; rfl) | rfl); intro w14 hm2 hg; have HM0 := HM; have n0_ := Aside0.mk (Map3.S_mapped (by (with_reducible repeat (first | apply Kd.S_alloc | apply Kd.S_drewN | apply Kd.S_drew)); exact HO133.out) (by (with_reducible repeat (first | apply Map3.Has3.alloc_ | apply Map3.Has3.drewN_ | apply Map3.Has3.drew_)); with_reducible exact HM.out) hg); have n1_ := Aside0.mk (Map3.below_mapped (by repeat (first | (with_reducible first | exact HB.out | apply below_alloc | apply pw_below_drewN | apply below_drew1) | exact HB.out)) GM.out (by (with_reducible repeat (first | apply Map3.Has3.alloc_ | apply Map3.Has3.drewN_ | apply Map3.Has3.drew_)); with_reducible exact HM.out) hg); clear HO133 HB HM HM0; have HO133 := n0_; have HB := n1_; have HM := Aside0.mk hm2; clear n0_ n1_ hm2 hg; (try go_simp)))
          have HM2 : Aside0 (∀ W, Map3.Has3 Value.bool W gm (Map3.put3 [] (rd l0 0, rd l0 1, rd l0 2) true) → Map3.Has3 Value.bool W gm (Map3.seenK [t128])) := ⟨fun W h => by rw [E9.out]; exact h⟩
          go_loopg [5, 7] kj2 (fun kq v5 v7 w' => ∃ (x5_2 : List (List Int)) (x7_2 : Int), v7 = .int .i64 x7_2 ∧ Aside0 (impl_HeapsReached.l0 kq l1 x5_2 x7_2 = some r) ∧ Aside0 (kq ≤ kj2) ∧ Aside0 (Kd.S (Kd.slice 3 (Kd.int .i64)) 22 w' w.heap.size (fun _ => True) v5 x5_2) ∧ Aside0 (Map3.Has3 Value.bool w' gm (Map3.seenK x5_2)) ∧ Aside0 (∀ h_ ∈ x5_2, h_.length = 3) ∧ Aside0 (Below w.heap.size w w'))
          case atStart => exact ⟨([t128]), (0), (by first | rfl | (simp; done) | (simp [*]; done)), H', ⟨Nat.le_refl _⟩, ⟨(by (with_reducible repeat (first | apply Kd.S_alloc | apply Kd.S_drewN | apply Kd.S_drew)); exact HO133.out)⟩, ⟨HM2.out _ (by (with_reducible repeat (first | apply Map3.Has3.alloc_ | apply Map3.Has3.drewN_ | apply Map3.Has3.drew_)); with_reducible exact HM.out)⟩, ⟨fun h_ hh_ => by rw [List.mem_singleton.1 hh_, E9.out]; exact L3.out⟩, ⟨(by repeat (first | (with_reducible first | exact HB.out | apply below_alloc | apply pw_below_drewN | apply below_drew1) | exact HB.out))⟩⟩
          case round =>
            clear H'
            try clear c1
            try clear p2
            try clear c3
            try clear c5
            try clear c8
            try clear c10
            try clear p2
            clear HM HM2
            obtain ⟨x5_2, x7_2, rfl, HA, HK2, HO_5, HM, HL, HB⟩ := hrel
            cases gk with
            | zero => exact absurd HA.out (by simp [impl_HeapsReached.l0])
            | succ k2 =>
              have H := HA.out
              clear HA
              simp only [impl_HeapsReached.l0] at H
              by_cases c16 : x7_2 < (x5_2.length : Int)
              · rw [if_pos c16] at H
                have c16b0 : decide (x7_2 < (x5_2.length : Int)) = true := decide_eq_true c16
                clear c16
                have H' := Aside0.mk H
                clear H
                obtain ⟨Ao17, co17, eo17⟩ := Kd.S_slice HO_5.out
                subst eo17
                go_wp2
                go_loopg [5, 36] k2 (fun kq v5 v36 w' => ∃ (x5_3 : List (List Int)) (x36_3 : Int), v36 = .int .i64 x36_3 ∧ Aside0 (impl_HeapsReached.l1 kq l1 x5_3 x7_2 l1 (l1.length : Int) x36_3 = some r) ∧ Aside0 (kq ≤ k2) ∧ Aside0 (Kd.S (Kd.slice 3 (Kd.int .i64)) 22 w' w.heap.size (fun _ => True) v5 x5_3) ∧ Aside0 (Map3.Has3 Value.bool w' gm (Map3.seenK x5_3)) ∧ Aside0 (∀ h_ ∈ x5_3, h_.length = 3) ∧ Aside0 (Below w.heap.size w w'))
                case atStart => exact ⟨(x5_2), (0), (by first | rfl | (simp; done) | (simp [*]; done)), H', ⟨Nat.le_refl _⟩, ⟨by (with_reducible repeat (first | apply Kd.S_alloc | apply Kd.S_drewN | apply Kd.S_drew)); exact HO_5.out⟩, ⟨(by (with_reducible repeat (first | apply Map3.Has3.alloc_ | apply Map3.Has3.drewN_ | apply Map3.Has3.drew_)); with_reducible exact HM.out)⟩, HL, ⟨by repeat (first | (with_reducible first | exact HB.out | apply below_alloc | apply pw_below_drewN | apply below_drew1) | exact HB.out)⟩⟩
                case round =>
                  clear H'
                  try clear c1
                  try clear p2
                  try clear c3
                  try clear c5
                  try clear c8
                  try clear c10
                  try clear c16
                  try clear c16b0
                  try clear p2
                  clear HM HL
                  obtain ⟨x5_3, x36_3, rfl, HA, HK3, HO_5, HM, HL, HB⟩ := hrel
                  cases gk with
                  | zero => exact absurd HA.out (by simp [impl_HeapsReached.l1])
                  | succ k3 =>
                    have H := HA.out
                    clear HA
                    simp only [impl_HeapsReached.l1] at H
                    by_cases c18 : x36_3 < (l1.length : Int)
                    · rw [if_pos c18] at H
                      have c18b0 : decide (x36_3 < (l1.length : Int)) = true := decide_eq_true c18
                      clear c18
                      by_cases c19 : 0 ≤ x36_3
                      · rw [if_pos c19] at H
                        have c19b0 : decide (0 ≤ x36_3) = true := decide_eq_true c19
                        clear c19
                        by_cases c20 : x36_3 < (l1.length : Int)
                        · rw [if_pos c20] at H
                          have c20b0 : decide (x36_3 < (l1.length : Int)) = true := decide_eq_true c20
                          clear c20
                          by_cases c21 : 0 ≤ x7_2
                          · rw [if_pos c21] at H
                            have c21b0 : decide (0 ≤ x7_2) = true := decide_eq_true c21
                            clear c21
                            by_cases c22 : x7_2 < (x5_3.length : Int)
                            · rw [if_pos c22] at H
                              have c22b0 : decide (x7_2 < (x5_3.length : Int)) = true := decide_eq_true c22
                              clear c22
                              replace H := Option.bind_eq_some_iff.mp H
                              obtain ⟨⟨t140, t143⟩, A230, H⟩ := H
                              replace H : (if t143 = true then (if t140.length = 3 then (impl_HeapsReached.j3 k3 l1 x5_3 x7_2 t140 l1 (l1.length : Int) x36_3 (Map3.hasL x5_3 t140)) else (none)) else (impl_HeapsReached.j3 k3 l1 x5_3 x7_2 t140 l1 (l1.length : Int) x36_3 true)) = some r := H
                              have A23 := Aside0.mk A230
                              clear A230
                              have HC24 := Aside0.mk H
                              clear H
                              have p137 : 0 ≤ (x36_3 : Int) := of_decide_eq_true (by first | (with_reducible assumption) | assumption)
                              have q137 : x36_3 < (l1.length : Int) := of_decide_eq_true (by first | (with_reducible assumption) | assumption)
                              obtain ⟨ad137, A137_0, c137_0, A137_1, c137_1, e137, hx137_0, hx137_1, hl137_0, hi137_0, hl137_1, hi137_1⟩ := at_T45 HR1.out x36_3 p137 q137
                              cases e137
                              replace hx137_0 := (HB.out.cell (World.block_lt_of_cell? w _ hx137_0)).trans hx137_0
                              replace hx137_1 := (HB.out.cell (World.block_lt_of_cell? w _ hx137_1)).trans hx137_1
                              have HR137_0 := Aside0.mk hi137_0
                              have HC137_0 := Aside0.mk hl137_0
                              clear hi137_0 hl137_0
                              have HR137_1 := Aside0.mk hi137_1
                              have HC137_1 := Aside0.mk hl137_1
                              clear hi137_1 hl137_1
                              replace p137 := eq_true p137
                              replace q137 := eq_true q137
                              try go_wp2_with (first | ((with_reducible refine gate_dst (N := 9) rfl ?_); refine box_event ?hg (N := 9) ?hd (cs := #[.slice none 0 0, .slice none 0 0]) (t := 45) ?hr ?_; (case hd => rfl); (case hg => rfl); (case hr => first | (go_simp; done) | (go_simp; rfl)); intro gb138 hg w25 hbox hb; have GN : Aside0 (gb138 ≠ gm) := ⟨by have h1_ : gm < gb138 := (by rw [hg]; exact Map3.Has3.lt (val := Value.bool) (hs := Map3.seenK x5_3) (by (with_reducible repeat (first | apply Map3.Has3.alloc_ | apply Map3.Has3.drewN_ | apply Map3.Has3.drew_)); with_reducible exact HM.out)); intro e_; rw [e_] at h1_; exact Nat.lt_irrefl _ h1_⟩; have nM_ := Aside0.mk (Map3.Has3.below (by (with_reducible repeat (first | apply Map3.Has3.alloc_ | apply Map3.Has3.drewN_ | apply Map3.Has3.drew_)); with_reducible exact HM.out) hb); clear HM; have HM := nM_; clear nM_; have n0_ := Aside0.mk (Kd.S_below (by (with_reducible repeat (first | apply Kd.S_alloc | apply Kd.S_drewN | apply Kd.S_drew)); exact HO_5.out) hb); have n1_ := Aside0.mk (below_step (by repeat (first | (with_reducible first | exact HB.out | apply below_alloc | apply pw_below_drewN | apply below_drew1) | exact HB.out)) hb); have n2_ := Aside0.mk (hbox); have n3_ := Aside0.mk ((by rw [hg]; exact (below_size (by repeat (first | (with_reducible first | exact HB.out | apply below_alloc | apply pw_below_drewN | apply below_drew1) | exact HB.out))) : w.heap.size ≤ gb138)); have n4_ := Aside0.mk ((by rw [hg]; exact (below_size (by repeat (first | (with_reducible first | exact HB.out | apply below_alloc | apply pw_below_drewN | apply below_drew1) | exact HB.out))) : w.heap.size ≤ gb138)); clear HO_5; clear HB; have HO_5 := n0_; have HB := n1_; have BK138 := n2_; have GW138 := n3_; have GE138 := n4_; clear n0_ n1_ n2_ n3_ n4_; clear hb hbox hg; have hcz26_0 : w25.cell? ⟨gb138, 0, none⟩ = some (.slice none 0 0) := (blk_cell BK138.out 0).trans rfl; have hcz26_1 : w25.cell? ⟨gb138, 1, none⟩ = some (.slice none 0 0) := (blk_cell BK138.out 1).trans rfl; have hfz26_0 := blk_frozen BK138.out 0; have hfz26_1 := blk_frozen BK138.out 1))
                              have n0_ : Aside0 (Kd.S (Kd.slice 3 (Kd.int .i64)) 22 ((w25.setCell ⟨gb138, 0, none⟩ (.slice A137_0 ((rd_T45 l1 x36_3).f0).length c137_0)).setCell ⟨gb138, 1, none⟩ (.slice A137_1 ((rd_T45 l1 x36_3).f1).length c137_1)) w.heap.size (fun _ => True) u5 x5_3) := ⟨by (with_reducible repeat (first | apply Kd.S_alloc | apply Kd.S_drewN | apply Kd.S_drew)); exact Kd.S_mono (Kd.S_far (p := ⟨gb138, 1, none⟩) (Kd.S_far (p := ⟨gb138, 0, none⟩) (Kd.S_types HO_5.out BK138.out (by decide)) (fun _ hk => hk.2) (.slice A137_0 ((rd_T45 l1 x36_3).f0).length c137_0)) (fun _ hk => hk.2) (.slice A137_1 ((rd_T45 l1 x36_3).f1).length c137_1)) (fun _ hk => trivial)⟩
                              have n1_ : Aside0 (((w25.setCell ⟨gb138, 0, none⟩ (.slice A137_0 ((rd_T45 l1 x36_3).f0).length c137_0)).setCell ⟨gb138, 1, none⟩ (.slice A137_1 ((rd_T45 l1 x36_3).f1).length c137_1)).heap[gb138]? = some (.cells #[.slice A137_0 ((rd_T45 l1 x36_3).f0).length c137_0, .slice A137_1 ((rd_T45 l1 x36_3).f1).length c137_1] 45 (0, 0))) := ⟨by (with_reducible repeat (first | refine blk_drewN ?_ _ | refine blk_drew ?_ | refine blk_alloc ?_ _)); refine blk_put (cs := #[.slice A137_0 ((rd_T45 l1 x36_3).f0).length c137_0, .slice none 0 0]) ?_ 1 _ rfl; (with_reducible repeat (first | refine blk_drewN ?_ _ | refine blk_drew ?_ | refine blk_alloc ?_ _)); refine blk_put (cs := #[.slice none 0 0, .slice none 0 0]) ?_ 0 _ rfl; (with_reducible repeat (first | refine blk_drewN ?_ _ | refine blk_drew ?_ | refine blk_alloc ?_ _)); exact BK138.out⟩
                              have n2_ : Aside0 (Below w.heap.size w ((w25.setCell ⟨gb138, 0, none⟩ (.slice A137_0 ((rd_T45 l1 x36_3).f0).length c137_0)).setCell ⟨gb138, 1, none⟩ (.slice A137_1 ((rd_T45 l1 x36_3).f1).length c137_1))) := ⟨by repeat (first | (with_reducible first | exact HB.out | apply below_alloc | apply pw_below_drewN | apply below_drew1 | refine below_set ?_ GE138.out) | exact HB.out)⟩
                              (try clear HO_5)
                              (try clear BK138)
                              (try clear HB)
                              have nM_ : Aside0 (Map3.Has3 Value.bool ((w25.setCell ⟨gb138, 0, none⟩ (.slice A137_0 ((rd_T45 l1 x36_3).f0).length c137_0)).setCell ⟨gb138, 1, none⟩ (.slice A137_1 ((rd_T45 l1 x36_3).f1).length c137_1)) gm (Map3.seenK x5_3)) := ⟨(by (with_reducible repeat (first | apply Map3.Has3.alloc_ | apply Map3.Has3.drewN_ | apply Map3.Has3.drew_ | refine Map3.Has3.set2_ ?_ GN.out _ _)); with_reducible exact HM.out)⟩
                              clear HM
                              generalize ((w25.setCell ⟨gb138, 0, none⟩ (.slice A137_0 ((rd_T45 l1 x36_3).f0).length c137_0)).setCell ⟨gb138, 1, none⟩ (.slice A137_1 ((rd_T45 l1 x36_3).f1).length c137_1)) = w27 at n0_ n1_ n2_ nM_ ⊢
                              have HM := Aside0.mk (Map3.Has3.drew_ nM_.out)
                              clear nM_
                              have HO_5 := n0_
                              have BK138 := n1_
                              have HB := n2_
                              clear n0_ n1_ n2_
                              have n0_ := Aside0.mk (Kd.S_drew HO_5.out)
                              have n1_ := Aside0.mk (blk_drew BK138.out)
                              have n2_ := Aside0.mk (below_drew1 HB.out)
                              clear HO_5
                              clear BK138
                              clear HB
                              have HO_5 := n0_
                              have BK138 := n1_
                              have HB := n2_
                              clear n0_ n1_ n2_
                              obtain ⟨Ao29, co29, eo29⟩ := Kd.S_slice HO_5.out
                              (first | subst eo29 | (injection eo29 with f1_ f2_ f3_; have f4_ := f1_.symm; have f5_ := f3_.symm; clear f1_ f2_ f3_; subst f4_; subst f5_))
                              have p139 : 0 ≤ (x7_2 : Int) := of_decide_eq_true (by first | (with_reducible assumption) | assumption)
                              have q139 : x7_2 < (x5_3.length : Int) := of_decide_eq_true (by first | (with_reducible assumption) | assumption)
                              obtain ⟨ad139, A139_0, c139_0, e139, hx139_0, hl139_0, hi139_0⟩ := at_L1 (Kd.S_reads' HO_5.out).2.2 x7_2 p139 q139
                              cases e139
                              obtain ⟨ce139, hce139, hMe139, hcc139⟩ := Kd.S_get HO_5.out [] x7_2 p139 (by first | exact q139 | exact of_decide_eq_true (by first | (with_reducible assumption) | assumption) | (have e_ := (Kd.S_reads' HO_5.out).1; omega))
                              obtain ⟨ve139_0, rfl, ge139_0⟩ := hMe139
                              have hv139_0 := hcc139 0 _ rfl
                              rw [Nat.add_zero, show ((Kd.slice 3 (Kd.int .i64))).sz = 1 from rfl, Nat.mul_one] at hv139_0
                              replace hv139_0 := Option.some.inj (hv139_0.symm.trans hx139_0)
                              rw [hv139_0] at ge139_0
                              have HL139_0 := Aside0.mk (show Kd.R (Kd.int .i64) 3 _ _ _ _ (rd_L1 x5_3 x7_2) from ge139_0)
                              clear hv139_0 ge139_0
                              clear hcc139 hce139
                              have HR139_0 := Aside0.mk hi139_0
                              have HC139_0 := Aside0.mk hl139_0
                              clear hi139_0 hl139_0
                              replace p139 := eq_true p139
                              replace q139 := eq_true q139
                              refine start_ (n := 11) (S := fun w' => w'.cell? ⟨gb138, 0, none⟩ = some (.slice A137_0 ((rd_T45 l1 x36_3).f0).length c137_0) ∧ w'.cell? ⟨gb138, 1, none⟩ = some (.slice A137_1 ((rd_T45 l1 x36_3).f1).length c137_1) ∧ w'.cell? (ad139.add (x7_2).toNat) = some (.slice A139_0 (rd_L1 x5_3 x7_2).length c139_0)) (ds := []) #[false, false, false, false, false, false, false, false, false, false, false] (by kernel_rfl) rfl rfl ⟨(blk_cell BK138.out 0).trans rfl, (blk_cell BK138.out 1).trans rfl, hx139_0⟩ (fun hHeld => ?_); refine with_tabW impl_HeapsReached.tab11 impl_HeapsReached.bits11 (fun HT_ HW_ => ?_)
                              generalize w27.drew = w28 at HO_5 BK138 HB HM HL139_0 HR139_0 hx139_0 hHeld ⊢
                              refine pure_ (i := 0) (N := some 41) (v := ?_) (a' := ?_) #[true, false, false, false, false, false, false, false, false, false, false] rfl rfl (any_of HT_.out (by kernel_rfl)) (fun _ _ _ h => h) (Or.inl ⟨by rfl, ?_⟩) ?_ ?_
                              rotate_left
                              · intro w'
                                go_simp
                                with_reducible rfl
                              rotate_left
                              · simp only [Act.put, List.setIfInBounds_toArray, List.set_cons_zero, List.set_cons_succ, i64_w, i32_w]
                                rfl
                              refine pure_ (i := 1) (N := some 42) (v := ?_) (a' := ?_) #[true, true, false, false, false, false, false, false, false, false, false] rfl rfl (any_of HT_.out (by kernel_rfl)) (fun _ _ _ h => h) (Or.inl ⟨by rfl, ?_⟩) ?_ ?_
                              rotate_left
                              · intro w'
                                go_simp
                                with_reducible rfl
                              rotate_left
                              · simp only [Act.put, List.setIfInBounds_toArray, List.set_cons_zero, List.set_cons_succ, i64_w, i32_w]
                                rfl
                              refine pure_ (i := 2) (N := some 43) (v := ?_) (a' := ?_) #[true, true, true, false, false, false, false, false, false, false, false] rfl rfl (any_of HT_.out (by kernel_rfl)) (fun _ _ _ h => h) (Or.inl ⟨by rfl, ?_⟩) ?_ ?_
                              rotate_left
                              · intro w'
                                go_simp
                                with_reducible rfl
                              rotate_left
                              · simp only [Act.put, List.setIfInBounds_toArray, List.set_cons_zero, List.set_cons_succ, i64_w, i32_w]
                                rfl
                              refine take_ (i := 3) (N := some 44) (v := ?_) (a' := ?_) #[true, true, true, true, false, false, false, false, false, false, false] rfl rfl (take_ofW HT_.out HW_.out (by kernel_rfl)) (fun _ _ _ h => h) (Or.inl ⟨by rfl, ?_⟩) hHeld ?_ ?_
                              rotate_left
                              · rintro w' ⟨s0, s1, s2⟩
                                go_simp
                                with_reducible rfl
                              rotate_left
                              · simp only [Act.put, List.setIfInBounds_toArray, List.set_cons_zero, List.set_cons_succ, i64_w, i32_w]
                                rfl
                              refine take_ (i := 4) (N := some 45) (v := ?_) (a' := ?_) #[true, true, true, true, true, false, false, false, false, false, false] rfl rfl (take_ofW HT_.out HW_.out (by kernel_rfl)) (fun _ _ _ h => h) (Or.inl ⟨by rfl, ?_⟩) hHeld ?_ ?_
                              rotate_left
                              · rintro w' ⟨s0, s1, s2⟩
                                go_simp
                                with_reducible rfl
                              rotate_left
                              · simp only [Act.put, List.setIfInBounds_toArray, List.set_cons_zero, List.set_cons_succ, i64_w, i32_w]
                                rfl
                              refine one_ (i := 5) (N := some 46) #[true, true, true, true, true, true, false, false, false, false, false] rfl rfl (one_of HT_.out (by kernel_rfl)) (by decide) (fun K hK => ?_)
                              refine goes_ Try.func59 (by kernel_rfl) rfl #[.slice A139_0 (rd_L1 x5_3 x7_2).length c139_0, .agg #[.slice A137_0 ((rd_T45 l1 x36_3).f0).length c137_0, .slice A137_1 ((rd_T45 l1 x36_3).f1).length c137_1]] (by rfl) rfl rfl (by (try simp only [List.map_toArray, List.map_cons, List.map_nil]); first | done | rfl | (simp only [List.length_drop, List.length_take]; rfl)) ?_
                              with_reducible refine (impl_traded.calls k3 _ _ (rd_L1 x5_3 x7_2) _ _ ((rd_T45 l1 x36_3).f0) _ _ ((rd_T45 l1 x36_3).f1) t140 t143 _ ?side1 ?side2 ?side3 ?side4 ?side5 ?side6 A23.out).mono ?_
                              (case side1 => repeat (first | exact (by repeat (first | (with_reducible exact HR139_0.out) | (with_reducible refine Kd.C_alloc ?_ _) | (with_reducible refine Kd.C_drewN ?_ _) | (with_reducible refine Kd.C_drew ?_) | exact HR139_0.out)) | (with_reducible refine Kd.C_alloc ?_ _) | (with_reducible refine Kd.C_drewN ?_ _) | (with_reducible refine Kd.C_drew ?_)))
                              (case side2 => exact HC139_0.out)
                              (case side3 => repeat (first | exact (Kd.C_below HR137_0.out HB.out) | (with_reducible refine Kd.C_alloc ?_ _) | (with_reducible refine Kd.C_drewN ?_ _) | (with_reducible refine Kd.C_drew ?_)))
                              (case side4 => exact HC137_0.out)
                              (case side5 => repeat (first | exact (Kd.C_below HR137_1.out HB.out) | (with_reducible refine Kd.C_alloc ?_ _) | (with_reducible refine Kd.C_drewN ?_ _) | (with_reducible refine Kd.C_drew ?_)))
                              (case side6 => exact HC137_1.out)
                              rintro e w30 ⟨v141, rfl, ho0, hb⟩
                              have nM_ := Aside0.mk (Map3.Has3.below (by (with_reducible repeat (first | apply Map3.Has3.alloc_ | apply Map3.Has3.drewN_ | apply Map3.Has3.drew_)); with_reducible exact HM.out) hb)
                              clear HM
                              have HM := nM_
                              clear nM_
                              have HS2_ := (hb.cell (World.block_lt_of_cell? _ _ (hHeld.2.2))).trans (hHeld.2.2)
                              refine ⟨_, rfl, ?_⟩
                              have n0_ := Aside0.mk (Kd.S_elder' (by (with_reducible repeat (first | apply Kd.S_alloc | apply Kd.S_drewN | apply Kd.S_drew)); exact HO_5.out) (Kd.R_base ho0) hb)
                              have n1_ := Aside0.mk (Kd.R_elder' (by (with_reducible repeat (first | apply Kd.R_alloc | apply Kd.R_drewN | apply Kd.R_drew)); exact HL139_0.out) (Kd.R_base ho0) hb)
                              have n2_ := Aside0.mk (Kd.R_lower (Kd.R_new' ho0 (Kd.R_lt (by (with_reducible repeat (first | apply Kd.R_alloc | apply Kd.R_drewN | apply Kd.R_drew)); exact HL139_0.out))) (below_size (by repeat (first | (with_reducible first | exact HB.out | apply below_alloc | apply pw_below_drewN | apply below_drew1 | refine below_set ?_ GE138.out) | exact HB.out))))
                              have n3_ := Aside0.mk (blk_below (g := gb138) (o := .cells #[.slice A137_0 ((rd_T45 l1 x36_3).f0).length c137_0, .slice A137_1 ((rd_T45 l1 x36_3).f1).length c137_1] 45 (0, 0)) (by (with_reducible repeat (first | refine blk_drewN ?_ _ | refine blk_drew ?_ | refine blk_alloc ?_ _)); exact BK138.out) hb)
                              have n4_ := Aside0.mk (Kd.C_below (by repeat (first | (with_reducible exact HR139_0.out) | (with_reducible refine Kd.C_alloc ?_ _) | (with_reducible refine Kd.C_drewN ?_ _) | (with_reducible refine Kd.C_drew ?_) | exact HR139_0.out)) hb)
                              have n5_ := Aside0.mk (below_step (by repeat (first | (with_reducible first | exact HB.out | apply below_alloc | apply pw_below_drewN | apply below_drew1 | refine below_set ?_ GE138.out) | exact HB.out)) hb)
                              clear HO_5
                              clear HL139_0
                              clear BK138
                              clear HR139_0
                              clear HB
                              have HO_5 := n0_
                              have HL139_0 := n1_
                              have HO142 := n2_
                              have BK138 := n3_
                              have HR139_0 := n4_
                              have HB := n5_
                              clear n0_ n1_ n2_ n3_ n4_ n5_
                              (try clear hb)
                              (try clear hb2)
                              (try clear hk)
                              (try clear hi)
                              (try clear ho0)
                              refine hK.out _ _ ⟨(blk_cell BK138.out 0).trans rfl, (blk_cell BK138.out 1).trans rfl, HS2_⟩ (fun hHeld => ?_)
                              clear hK K
                              refine norm_ (a' := ?_) ?_ ?_
                              rotate_left
                              · show Act.put _ (some 46) _ = _
                                simp only [Act.put, List.setIfInBounds_toArray, List.set_cons_zero, List.set_cons_succ, i64_w, i32_w]
                                rfl
                              refine pure_ (i := 6) (N := some 40) (v := ?_) (a' := ?_) #[true, true, true, true, true, true, true, false, false, false, false] rfl rfl (any_of HT_.out (by kernel_rfl)) (fun _ _ _ h => h) (Or.inl ⟨by rfl, ?_⟩) ?_ ?_
                              rotate_left
                              · intro w'
                                go_simp
                                with_reducible rfl
                              rotate_left
                              · simp only [Act.put, List.setIfInBounds_toArray, List.set_cons_zero, List.set_cons_succ, i64_w, i32_w]
                                rfl
                              refine pure_ (i := 7) (N := some 47) (v := ?_) (a' := ?_) #[true, true, true, true, true, true, true, true, false, false, false] rfl rfl (any_of HT_.out (by kernel_rfl)) (fun _ _ _ h => h) (Or.inl ⟨by rfl, ?_⟩) ?_ ?_
                              rotate_left
                              · intro w'
                                go_simp
                                with_reducible rfl
                              rotate_left
                              · simp only [Act.put, List.setIfInBounds_toArray, List.set_cons_zero, List.set_cons_succ, i64_w, i32_w]
                                rfl
                              refine pure_ (i := 8) (N := some 48) (v := ?_) (a' := ?_) #[true, true, true, true, true, true, true, true, true, false, false] rfl rfl (any_of HT_.out (by kernel_rfl)) (fun _ _ _ h => h) (Or.inl ⟨by rfl, ?_⟩) ?_ ?_
                              rotate_left
                              · intro w'
                                go_simp
                                with_reducible rfl
                              rotate_left
                              · simp only [Act.put, List.setIfInBounds_toArray, List.set_cons_zero, List.set_cons_succ, i64_w, i32_w]
                                rfl
                              refine pure_ (i := 9) (N := some 10) (v := ?_) (a' := ?_) #[true, true, true, true, true, true, true, true, true, true, false] rfl rfl (any_of HT_.out (by kernel_rfl)) (fun _ _ _ h => h) (Or.inl ⟨by rfl, ?_⟩) ?_ ?_
                              rotate_left
                              · intro w'
                                go_simp
                                with_reducible rfl
                              rotate_left
                              · simp only [Act.put, List.setIfInBounds_toArray, List.set_cons_zero, List.set_cons_succ, i64_w, i32_w]
                                rfl
                              refine pure_ (i := 10) (N := some 11) (v := ?_) (a' := ?_) #[true, true, true, true, true, true, true, true, true, true, true] rfl rfl (any_of HT_.out (by kernel_rfl)) (fun _ _ _ h => h) (Or.inl ⟨by rfl, ?_⟩) ?_ ?_
                              rotate_left
                              · intro w'
                                go_simp
                                with_reducible rfl
                              rotate_left
                              · simp only [Act.put, List.setIfInBounds_toArray, List.set_cons_zero, List.set_cons_succ, i64_w, i32_w]
                                rfl
                              refine done_ (done_of HT_.out (by kernel_rfl)) ?_
                              go_upto_region 12 with (fail)
                              go_cut [57] (fun v57 wc => ∃ (kq : Nat) (x57_23 : Bool), v57 = .bool x57_23 ∧ Aside0 (impl_HeapsReached.j3 kq l1 x5_3 x7_2 t140 l1 (l1.length : Int) x36_3 x57_23 = some r) ∧ Aside0 (kq ≤ k3) ∧ Aside0 (Kd.S (Kd.slice 3 (Kd.int .i64)) 22 wc w.heap.size (fun k_ => some k_ ≠ (v141 : Value).ownBlock) (.slice (some ad139) x5_3.length co29) x5_3) ∧ Aside0 (Kd.R (Kd.int .i64) 3 wc w.heap.size (fun _ => True) v141 t140) ∧ Aside0 (wc.heap[gb138]? = some (.cells #[(.slice A137_0 ((rd_T45 l1 x36_3).f0).length c137_0), (.slice A137_1 ((rd_T45 l1 x36_3).f1).length c137_1)] 45 (0, 0))) ∧ Aside0 (x57_23 = false → t140.length = 3 ∧ Map3.hasL x5_3 t140 = false) ∧ Aside0 (Map3.Has3 Value.bool wc gm (Map3.seenK x5_3)) ∧ Aside0 (Below w.heap.size w wc))
                              case first =>
                                have H := HC24.out
                                clear HC24
                                by_cases c31 : t143 = true
                                · subst c31
                                  have H1 : (if t140.length = 3 then (impl_HeapsReached.j3 k3 l1 x5_3 x7_2 t140 l1 (l1.length : Int) x36_3 (Map3.hasL x5_3 t140)) else (none)) = some r := by rw [if_pos rfl] at H; exact H
                                  clear H
                                  have H := H1
                                  clear H1
                                  by_cases c32 : t140.length = 3
                                  · rw [if_pos c32] at H
                                    have N3 := Aside0.mk c32
                                    clear c32
                                    obtain ⟨bq, hbq⟩ : ∃ b_ : Bool, b_ = Map3.hasL x5_3 t140 := ⟨_, rfl⟩
                                    rw [← hbq] at H
                                    have LK := Aside0.mk (show (((Map3.seenK x5_3).find? (fun h => h.1 == (rd t140 0, rd t140 1, rd t140 2))).map (fun h => Value.bool h.2)).getD (.bool false) = .bool bq by rw [hbq]; exact Map3.seen_run x5_3 HL.out t140 N3.out)
                                    have HQ := Aside0.mk hbq
                                    clear hbq
                                    have H' := Aside0.mk H
                                    clear H
                                    obtain ⟨Ao33, co33, eo33⟩ := Kd.R_slice HO142.out
                                    subst eo33
                                    obtain ⟨ad33, hA33, -⟩ := (Kd.R_reads' HO142.out).2.2.2.2 (by have := N3.out; omega)
                                    subst hA33
                                    go_wp2_with (first | ((with_reducible refine gate_dst (N := 54) rfl ?_); (try (refine gate_guard (by rfl) ?_; dsimp only)); refine Map3.wp_arrAt3 ?hg 67 (.tmp 53) ?ho K3_67 (A := some ad33) (n := t140.length) (c := co33) ?hx ?hn ?_; (case hg => rfl); (case ho => rfl); (case hx => first | (go_simp; done) | (go_simp; rfl) | rfl); (case hn => have := N3.out; omega); (try go_simp)) | ((with_reducible refine gate_dst (N := 55) rfl ?_); (try (refine gate_guard (by rfl) ?_; dsimp only)); refine Map3.wp_load3 ?hg 67 (.tmp 54) ?ho K3_67 size67 (ad := ad33) (n := t140.length) (xs := t140) ?hx ?hC ?hn ?_; (case hg => rfl); (case ho => rfl); (case hx => first | (go_simp; done) | (go_simp; rfl) | rfl); (case hn => have := N3.out; omega); (case hC => exact (Kd.R_reads' (by (with_reducible repeat (first | apply Kd.R_alloc | apply Kd.R_drewN | apply Kd.R_drew)); exact HO142.out)).2.2); (try go_simp)) | ((with_reducible refine gate_dst (N := 56) rfl ?_); (try (refine gate_guard (by rfl) ?_; dsimp only)); refine Map3.wp_look3v ?hg (.tmp 52) (.tmp 55) 68 ?ho K3_67 Try.underlying68 (z := .bool false) zero4 (val := Value.bool) (hs := Map3.seenK x5_3) (by (with_reducible repeat (first | apply Map3.Has3.alloc_ | apply Map3.Has3.drewN_ | apply Map3.Has3.drew_)); with_reducible exact HM.out) (rd t140 0) (rd t140 1) (rd t140 2) (.bool bq) LK.out ?hm ?hx ?_; (case hg => rfl); (case ho => rfl); (case hm => first | (go_simp; done) | (go_simp; rfl) | rfl); (case hx => first | (go_simp; done) | (go_simp; rfl) | rfl); (try go_simp)))
                                    go_meet
                                    case rel => exact ⟨_, (bq), (by first | rfl | (simp; done) | (simp [*]; done)), H', ⟨by have := HJ2.out; have := HK2.out; have := HK3.out; first | omega | exact Nat.le_refl _⟩, ⟨by (with_reducible repeat (first | apply Kd.S_alloc | apply Kd.S_drewN | apply Kd.S_drew)); exact Kd.S_mono HO_5.out (fun _ hk => by first | exact hk.2 | (revert hk; (try simp only [and_imp]); intros; (repeat' apply And.intro) <;> first | exact trivial | assumption))⟩, ⟨by (with_reducible repeat (first | apply Kd.R_alloc | apply Kd.R_drewN | apply Kd.R_drew)); exact Kd.R_mono HO142.out (fun _ hk => trivial)⟩, ⟨by (with_reducible repeat (first | refine blk_drewN ?_ _ | refine blk_drew ?_ | refine blk_alloc ?_ _)); exact BK138.out⟩, ⟨fun h_ => ⟨N3.out, HQ.out.symm.trans h_⟩⟩, ⟨(by (with_reducible repeat (first | apply Map3.Has3.alloc_ | apply Map3.Has3.drewN_ | apply Map3.Has3.drew_)); with_reducible exact HM.out)⟩, ⟨by repeat (first | (with_reducible first | exact HB.out | apply below_alloc | apply pw_below_drewN | apply below_drew1 | refine below_set ?_ GE138.out) | exact HB.out)⟩⟩
                                  · rw [if_neg c32] at H
                                    exact absurd H (by simp)
                                · replace c31 := Bool.eq_false_iff.mpr c31
                                  subst c31
                                  have H1 : (impl_HeapsReached.j3 k3 l1 x5_3 x7_2 t140 l1 (l1.length : Int) x36_3 true) = some r := by rw [if_neg (show ¬ (false = true) by decide)] at H; exact H
                                  clear H
                                  have H := H1
                                  clear H1
                                  have H' := Aside0.mk H
                                  clear H
                                  go_wp2
                                  go_meet
                                  case rel => exact ⟨_, (true), (by first | rfl | (simp; done) | (simp [*]; done)), H', ⟨by have := HJ2.out; have := HK2.out; have := HK3.out; first | omega | exact Nat.le_refl _⟩, ⟨by (with_reducible repeat (first | apply Kd.S_alloc | apply Kd.S_drewN | apply Kd.S_drew)); exact Kd.S_mono HO_5.out (fun _ hk => by first | exact hk.2 | (revert hk; (try simp only [and_imp]); intros; (repeat' apply And.intro) <;> first | exact trivial | assumption))⟩, ⟨by (with_reducible repeat (first | apply Kd.R_alloc | apply Kd.R_drewN | apply Kd.R_drew)); exact Kd.R_mono HO142.out (fun _ hk => trivial)⟩, ⟨by (with_reducible repeat (first | refine blk_drewN ?_ _ | refine blk_drew ?_ | refine blk_alloc ?_ _)); exact BK138.out⟩, ⟨fun h_ => absurd h_ (by decide)⟩, ⟨(by (with_reducible repeat (first | apply Map3.Has3.alloc_ | apply Map3.Has3.drewN_ | apply Map3.Has3.drew_)); with_reducible exact HM.out)⟩, ⟨by repeat (first | (with_reducible first | exact HB.out | apply below_alloc | apply pw_below_drewN | apply below_drew1 | refine below_set ?_ GE138.out) | exact HB.out)⟩⟩
                              case rest =>
                                clear HC24
                                try clear c1
                                try clear p1
                                try clear q1
                                try clear hx1
                                try clear c2
                                try clear p2
                                try clear c3
                                try clear c5
                                try clear c8
                                try clear c10
                                try clear c13
                                try clear p13
                                try clear q13
                                try clear hx13
                                try clear c16
                                try clear c16b0
                                try clear c18
                                try clear c18b0
                                try clear c19
                                try clear c19b0
                                try clear c20
                                try clear c20b0
                                try clear c21
                                try clear c21b0
                                try clear c22
                                try clear c22b0
                                try clear c31
                                try clear hcz26_0
                                try clear hcz26_1
                                try clear hfz26_0
                                try clear hfz26_1
                                try clear hx137_0
                                try clear hx137_1
                                try clear hx139_0
                                try clear p137
                                try clear p139
                                try clear p2
                                try clear q137
                                try clear q139
                                clear HM
                                obtain ⟨kq, x57_23, rfl, HA, HJ23, HO_5, HO_10, BK138, HS, HM, HB⟩ := hcut
                                cases kq with
                                | zero => exact absurd HA.out (by simp [impl_HeapsReached.j3])
                                | succ kj23 =>
                                  have H := HA.out
                                  clear HA
                                  simp only [impl_HeapsReached.j3] at H
                                  by_cases c34 : x57_23 = true
                                  · subst c34
                                    have H1 : (impl_HeapsReached.l1 kj23 l1 x5_3 x7_2 l1 (l1.length : Int) (wrap64 (x36_3 + 1))) = some r := by rw [if_pos rfl] at H; exact H
                                    clear H
                                    have H := H1
                                    clear H1
                                    have H' := Aside0.mk H
                                    clear H
                                    go_wp2
                                    go_roundg kj23
                                    case measure => have := HJ2.out; have := HK2.out; have := HK3.out; have := HJ23.out; omega
                                    case rel => exact ⟨(x5_3), (wrap64 (x36_3 + 1)), (by first | rfl | (simp; done) | (simp [*]; done)), H', ⟨by have := HJ2.out; have := HK2.out; have := HK3.out; have := HJ23.out; omega⟩, ⟨by (with_reducible repeat (first | apply Kd.S_alloc | apply Kd.S_drewN | apply Kd.S_drew)); exact Kd.S_mono HO_5.out (fun _ hk => trivial)⟩, ⟨(by (with_reducible repeat (first | apply Map3.Has3.alloc_ | apply Map3.Has3.drewN_ | apply Map3.Has3.drew_)); with_reducible exact HM.out)⟩, HL, ⟨by repeat (first | (with_reducible first | exact HB.out | apply below_alloc | apply pw_below_drewN | apply below_drew1 | refine below_set ?_ GE138.out) | exact HB.out)⟩⟩
                                  · replace c34 := Bool.eq_false_iff.mpr c34
                                    subst c34
                                    have H1 : (if x5_3.length < 5864062014805 then ((some (x5_3 ++ [t140] : List (List Int))).bind fun y145 => (if (y145.length : Int) > 400 then (some ([] : List (List Int))) else (impl_HeapsReached.l1 kj23 l1 y145 x7_2 l1 (l1.length : Int) (wrap64 (x36_3 + 1))))) else (none)) = some r := by rw [if_neg (show ¬ (false = true) by decide)] at H; exact H
                                    clear H
                                    have H := H1
                                    clear H1
                                    by_cases c35 : x5_3.length < 5864062014805
                                    · rw [if_pos c35] at H
                                      have LMc35 := Aside0.mk c35
                                      clear c35
                                      obtain ⟨y145, hy145⟩ : ∃ y_ : List (List Int), y_ = (x5_3 ++ [t140]) := ⟨_, rfl⟩
                                      replace H : (if (y145.length : Int) > 400 then (some ([] : List (List Int))) else (impl_HeapsReached.l1 kj23 l1 y145 x7_2 l1 (l1.length : Int) (wrap64 (x36_3 + 1)))) = some r := by first | (rw [hy145]; with_reducible exact H) | (have H2_ := (Option.bind_some _ _).symm.trans H; rw [hy145]; with_reducible exact H2_) | (have H2_ := (Option.bind_some _ _).symm.trans H; with_reducible exact H2_) | with_reducible exact H | (rw [hy145]; exact H) | exact H
                                      have Ny145 := Aside0.mk hy145
                                      clear hy145
                                      by_cases c36 : (y145.length : Int) > 400
                                      · rw [if_pos c36] at H
                                        have c36b0 : decide (400 < (y145.length : Int)) = true := decide_eq_true c36
                                        have c36b1 : decide (400 < y145.length) = true := decide_eq_true (by omega)
                                        clear c36
                                        obtain rfl := Option.some.inj H
                                        obtain ⟨Ao38, co38, eo38⟩ := Kd.R_slice HO_10.out
                                        subst eo38
                                        obtain ⟨N3, HN⟩ := HS.out rfl
                                        replace N3 := Aside0.mk N3
                                        have PK := Aside0.mk (Map3.seen_puts x5_3 HL.out t140 N3.out HN)
                                        clear HN
                                        obtain ⟨ad41, hA41, -⟩ := (Kd.R_reads' HO_10.out).2.2.2.2 (by have := N3.out; omega)
                                        subst hA41
                                        have LX : Aside0 (∀ h_ ∈ y145, h_.length = 3) := ⟨fun h_ hh_ => by rw [Ny145.out] at hh_; rcases List.mem_append.1 hh_ with h1_ | h1_; (· exact HL.out h_ h1_); (· rw [List.mem_singleton.1 h1_]; exact N3.out)⟩
                                        go_wp2_with (first | ((with_reducible refine gate_dst (N := 60) rfl ?_); refine Map3.wp_arrAt3 ?hg 67 (.tmp 59) ?ho K3_67 (A := some ad41) (n := t140.length) (c := co38) ?hx ?hn ?_; (case hg => rfl); (case ho => rfl); (case hx => first | (go_simp; done) | (go_simp; rfl) | rfl); (case hn => have := N3.out; omega); (try go_simp)) | ((with_reducible refine gate_dst (N := 61) rfl ?_); refine Map3.wp_load3 ?hg 67 (.tmp 60) ?ho K3_67 size67 (ad := ad41) (n := t140.length) (xs := t140) ?hx ?hC ?hn ?_; (case hg => rfl); (case ho => rfl); (case hx => first | (go_simp; done) | (go_simp; rfl) | rfl); (case hn => have := N3.out; omega); (case hC => exact (Kd.R_reads' (by (with_reducible repeat (first | apply Kd.R_alloc | apply Kd.R_drewN | apply Kd.R_drew)); exact HO_10.out)).2.2); (try go_simp)) | ((with_reducible refine gate_ (.mapUpdate 68 (.tmp 58) (.tmp 61) (.const (.bool true))) rfl ?_); refine Map3.wp_update3 ?hg (.tmp 58) (.tmp 61) (.const (.bool true)) 68 ?ho K3_67 Try.underlying68 (val := Value.bool) (hs := Map3.seenK x5_3) (by (with_reducible repeat (first | apply Map3.Has3.alloc_ | apply Map3.Has3.drewN_ | apply Map3.Has3.drew_)); with_reducible exact HM.out) (rd t140 0) (rd t140 1) (rd t140 2) true ?hm ?hx ?hv ?_; (case hg => rfl); (case ho => rfl); (case hm => first | (go_simp; done) | (go_simp; rfl) | rfl); (case hx => first | (go_simp; done) | (go_simp; rfl) | rfl); (case hv => first | (go_simp; done) | (go_simp; rfl) | rfl); intro w35 hm2 hg; rw [PK.out] at hm2; have n0_ := Aside0.mk (Map3.S_mapped (by (with_reducible repeat (first | apply Kd.S_alloc | apply Kd.S_drewN | apply Kd.S_drew)); exact HO_5.out) (by (with_reducible repeat (first | apply Map3.Has3.alloc_ | apply Map3.Has3.drewN_ | apply Map3.Has3.drew_)); with_reducible exact HM.out) hg); have n1_ := Aside0.mk (Map3.below_mapped (by repeat (first | (with_reducible first | exact HB.out | apply below_alloc | apply pw_below_drewN | apply below_drew1 | refine below_set ?_ GE138.out) | exact HB.out)) GM.out (by (with_reducible repeat (first | apply Map3.Has3.alloc_ | apply Map3.Has3.drewN_ | apply Map3.Has3.drew_)); with_reducible exact HM.out) hg); have n2_ := Aside0.mk (Map3.R_mapped (by (with_reducible repeat (first | apply Kd.R_alloc | apply Kd.R_drewN | apply Kd.R_drew)); exact HO_10.out) (by (with_reducible repeat (first | apply Map3.Has3.alloc_ | apply Map3.Has3.drewN_ | apply Map3.Has3.drew_)); with_reducible exact HM.out) hg); have n3_ := Aside0.mk (Map3.blk_mapped (by (with_reducible repeat (first | refine blk_drewN ?_ _ | refine blk_drew ?_ | refine blk_alloc ?_ _)); exact BK138.out) (by (with_reducible repeat (first | apply Map3.Has3.alloc_ | apply Map3.Has3.drewN_ | apply Map3.Has3.drew_)); with_reducible exact HM.out) hg); clear HO_5 HB HO_10 BK138 HM; have HO_5 := n0_; have HB := n1_; have HO_10 := n2_; have BK138 := n3_; have HM := Aside0.mk hm2; clear n0_ n1_ n2_ n3_ hm2 hg; (try go_simp)) | ((with_reducible refine gate_builtin (b := .append) (xs := #[.tmp 62, .tmp 64]) rfl ?_); at_builtin; refine Kd.S_append (Kd.slice 3 (Kd.int .i64)) (w0 := w) w.heap.size rfl (.tmp 62) (.tmp 64) 25 22 (.slice none 0 0) 24 rfl Try.underlying25 info22 rfl (by decide) (by omega) (.slice (some ad139) x5_3.length co29) x5_3 t140 [.slice (some ad41) t140.length co38] (fun _ => True) (fun k_ => some k_ = (.slice (some ad41) t140.length co38 : Value).ownBlock) rfl rfl ?aP (fun k_ hk_ => ((Kd.R_mono (ok' := fun k_ => ((fun _ => True)) k_ ∧ some k_ ≠ (.slice (some ad139) x5_3.length co29 : Value).ownBlock) (Kd.R_apart' (HO_10.out) (Kd.S_typed HO_5.out) (by decide)) (fun k_ hk => ⟨trivial, hk.2⟩))).1 k_ hk_.symm) ?aF ?aO ?aB ?aS ?aL ?_; (case aP => exact Kd.M_row (Kd.R_mono (Kd.R_tight rfl (Kd.R_mono (ok' := fun k_ => ((fun _ => True)) k_ ∧ some k_ ≠ (.slice (some ad139) x5_3.length co29 : Value).ownBlock) (Kd.R_apart' (HO_10.out) (Kd.S_typed HO_5.out) (by decide)) (fun k_ hk => ⟨trivial, hk.2⟩))) (fun _ h_ => h_))); (case aB => exact (by repeat (first | (with_reducible first | exact HB.out | apply below_alloc | apply pw_below_drewN | apply below_drew1 | refine below_set ?_ GE138.out) | exact HB.out))); (case aF => exact (fun _ _ => trivial)); (case aO => exact (by (with_reducible repeat (first | apply Kd.S_alloc | apply Kd.S_drewN | apply Kd.S_drew)); exact Kd.S_mono HO_5.out (fun k_ hk => ⟨trivial, fun e_ => hk e_⟩))); (case aS => exact (below_size (by repeat (first | (with_reducible first | exact HB.out | apply below_alloc | apply pw_below_drewN | apply below_drew1 | refine below_set ?_ GE138.out) | exact HB.out)))); (case aL => have := LMc35.out; omega); intro v146 w37 ho hb hg hat; rw [← Ny145.out] at ho; have nM_ := Aside0.mk (Map3.Has3.grown (hs := Map3.seenK y145) (by rw [Ny145.out]; exact (by (with_reducible repeat (first | apply Map3.Has3.alloc_ | apply Map3.Has3.drewN_ | apply Map3.Has3.drew_)); with_reducible exact HM.out)) hg (Map3.S_ne_map HO_5.out HM.out)); clear HM; have HM := nM_; clear nM_; have n0_ := Aside0.mk (blk_grown (g := gb138) (o := .cells #[.slice A137_0 ((rd_T45 l1 x36_3).f0).length c137_0, .slice A137_1 ((rd_T45 l1 x36_3).f1).length c137_1] 45 (0, 0)) (by (with_reducible repeat (first | refine blk_drewN ?_ _ | refine blk_drew ?_ | refine blk_alloc ?_ _)); exact BK138.out) hg (Kd.S_ne HO_5.out BK138.out (by decide))); have n1_ := Aside0.mk (hb); have n2_ := Aside0.mk (ho); clear BK138; clear HB; clear HO_5; clear HO_10; have BK138 := n0_; have HB := n1_; have HO147 := n2_; clear n0_ n1_ n2_; clear ho hb hg hat; obtain ⟨Ao39, co39, eo39⟩ := Kd.S_slice HO147.out; subst eo39))
                                        go_ret
                                        exact ⟨_, by first | rfl | (simp [errW_none, errW_some] <;> rfl) | (simp [*, errW_none, errW_some] <;> rfl), by first | exact Kd.S_nil _ _ _ _ _ | exact Kd.N_nil _ _ _ _ _ | exact Kd.V_nil _ _ _ _ _ | exact Kd.Q_nil _ _ _ _ _ | exact Kd.R_nil _ _ _ _ _, by repeat (first | (with_reducible first | exact HB.out | apply below_alloc | apply pw_below_drewN | apply below_drew1 | refine below_set ?_ GE138.out) | exact HB.out)⟩
                                      · rw [if_neg c36] at H
                                        have c36b0 : decide (400 < (y145.length : Int)) = false := decide_eq_false c36
                                        have c36b1 : decide (400 < y145.length) = false := decide_eq_false (by omega)
                                        clear c36
                                        have H' := Aside0.mk H
                                        clear H
                                        obtain ⟨Ao41, co41, eo41⟩ := Kd.R_slice HO_10.out
                                        subst eo41
                                        obtain ⟨N3, HN⟩ := HS.out rfl
                                        replace N3 := Aside0.mk N3
                                        have PK := Aside0.mk (Map3.seen_puts x5_3 HL.out t140 N3.out HN)
                                        clear HN
                                        obtain ⟨ad41, hA41, -⟩ := (Kd.R_reads' HO_10.out).2.2.2.2 (by have := N3.out; omega)
                                        subst hA41
                                        have LX : Aside0 (∀ h_ ∈ y145, h_.length = 3) := ⟨fun h_ hh_ => by rw [Ny145.out] at hh_; rcases List.mem_append.1 hh_ with h1_ | h1_; (· exact HL.out h_ h1_); (· rw [List.mem_singleton.1 h1_]; exact N3.out)⟩
                                        go_wp2_with (first | ((with_reducible refine gate_dst (N := 60) rfl ?_); refine Map3.wp_arrAt3 ?hg 67 (.tmp 59) ?ho K3_67 (A := some ad41) (n := t140.length) (c := co41) ?hx ?hn ?_; (case hg => rfl); (case ho => rfl); (case hx => first | (go_simp; done) | (go_simp; rfl) | rfl); (case hn => have := N3.out; omega); (try go_simp)) | ((with_reducible refine gate_dst (N := 61) rfl ?_); refine Map3.wp_load3 ?hg 67 (.tmp 60) ?ho K3_67 size67 (ad := ad41) (n := t140.length) (xs := t140) ?hx ?hC ?hn ?_; (case hg => rfl); (case ho => rfl); (case hx => first | (go_simp; done) | (go_simp; rfl) | rfl); (case hn => have := N3.out; omega); (case hC => exact (Kd.R_reads' (by (with_reducible repeat (first | apply Kd.R_alloc | apply Kd.R_drewN | apply Kd.R_drew)); exact HO_10.out)).2.2); (try go_simp)) | ((with_reducible refine gate_ (.mapUpdate 68 (.tmp 58) (.tmp 61) (.const (.bool true))) rfl ?_); refine Map3.wp_update3 ?hg (.tmp 58) (.tmp 61) (.const (.bool true)) 68 ?ho K3_67 Try.underlying68 (val := Value.bool) (hs := Map3.seenK x5_3) (by (with_reducible repeat (first | apply Map3.Has3.alloc_ | apply Map3.Has3.drewN_ | apply Map3.Has3.drew_)); with_reducible exact HM.out) (rd t140 0) (rd t140 1) (rd t140 2) true ?hm ?hx ?hv ?_; (case hg => rfl); (case ho => rfl); (case hm => first | (go_simp; done) | (go_simp; rfl) | rfl); (case hx => first | (go_simp; done) | (go_simp; rfl) | rfl); (case hv => first | (go_simp; done) | (go_simp; rfl) | rfl); intro w35 hm2 hg; rw [PK.out] at hm2; have n0_ := Aside0.mk (Map3.S_mapped (by (with_reducible repeat (first | apply Kd.S_alloc | apply Kd.S_drewN | apply Kd.S_drew)); exact HO_5.out) (by (with_reducible repeat (first | apply Map3.Has3.alloc_ | apply Map3.Has3.drewN_ | apply Map3.Has3.drew_)); with_reducible exact HM.out) hg); have n1_ := Aside0.mk (Map3.below_mapped (by repeat (first | (with_reducible first | exact HB.out | apply below_alloc | apply pw_below_drewN | apply below_drew1 | refine below_set ?_ GE138.out) | exact HB.out)) GM.out (by (with_reducible repeat (first | apply Map3.Has3.alloc_ | apply Map3.Has3.drewN_ | apply Map3.Has3.drew_)); with_reducible exact HM.out) hg); have n2_ := Aside0.mk (Map3.R_mapped (by (with_reducible repeat (first | apply Kd.R_alloc | apply Kd.R_drewN | apply Kd.R_drew)); exact HO_10.out) (by (with_reducible repeat (first | apply Map3.Has3.alloc_ | apply Map3.Has3.drewN_ | apply Map3.Has3.drew_)); with_reducible exact HM.out) hg); have n3_ := Aside0.mk (Map3.blk_mapped (by (with_reducible repeat (first | refine blk_drewN ?_ _ | refine blk_drew ?_ | refine blk_alloc ?_ _)); exact BK138.out) (by (with_reducible repeat (first | apply Map3.Has3.alloc_ | apply Map3.Has3.drewN_ | apply Map3.Has3.drew_)); with_reducible exact HM.out) hg); clear HO_5 HB HO_10 BK138 HM; have HO_5 := n0_; have HB := n1_; have HO_10 := n2_; have BK138 := n3_; have HM := Aside0.mk hm2; clear n0_ n1_ n2_ n3_ hm2 hg; (try go_simp)) | ((with_reducible refine gate_builtin (b := .append) (xs := #[.tmp 62, .tmp 64]) rfl ?_); at_builtin; refine Kd.S_append (Kd.slice 3 (Kd.int .i64)) (w0 := w) w.heap.size rfl (.tmp 62) (.tmp 64) 25 22 (.slice none 0 0) 24 rfl Try.underlying25 info22 rfl (by decide) (by omega) (.slice (some ad139) x5_3.length co29) x5_3 t140 [.slice (some ad41) t140.length co41] (fun _ => True) (fun k_ => some k_ = (.slice (some ad41) t140.length co41 : Value).ownBlock) rfl rfl ?aP (fun k_ hk_ => ((Kd.R_mono (ok' := fun k_ => ((fun _ => True)) k_ ∧ some k_ ≠ (.slice (some ad139) x5_3.length co29 : Value).ownBlock) (Kd.R_apart' (HO_10.out) (Kd.S_typed HO_5.out) (by decide)) (fun k_ hk => ⟨trivial, hk.2⟩))).1 k_ hk_.symm) ?aF ?aO ?aB ?aS ?aL ?_; (case aP => exact Kd.M_row (Kd.R_mono (Kd.R_tight rfl (Kd.R_mono (ok' := fun k_ => ((fun _ => True)) k_ ∧ some k_ ≠ (.slice (some ad139) x5_3.length co29 : Value).ownBlock) (Kd.R_apart' (HO_10.out) (Kd.S_typed HO_5.out) (by decide)) (fun k_ hk => ⟨trivial, hk.2⟩))) (fun _ h_ => h_))); (case aB => exact (by repeat (first | (with_reducible first | exact HB.out | apply below_alloc | apply pw_below_drewN | apply below_drew1 | refine below_set ?_ GE138.out) | exact HB.out))); (case aF => exact (fun _ _ => trivial)); (case aO => exact (by (with_reducible repeat (first | apply Kd.S_alloc | apply Kd.S_drewN | apply Kd.S_drew)); exact Kd.S_mono HO_5.out (fun k_ hk => ⟨trivial, fun e_ => hk e_⟩))); (case aS => exact (below_size (by repeat (first | (with_reducible first | exact HB.out | apply below_alloc | apply pw_below_drewN | apply below_drew1 | refine below_set ?_ GE138.out) | exact HB.out)))); (case aL => have := LMc35.out; omega); intro v146 w40 ho hb hg hat; rw [← Ny145.out] at ho; have nM_ := Aside0.mk (Map3.Has3.grown (hs := Map3.seenK y145) (by rw [Ny145.out]; exact (by (with_reducible repeat (first | apply Map3.Has3.alloc_ | apply Map3.Has3.drewN_ | apply Map3.Has3.drew_)); with_reducible exact HM.out)) hg (Map3.S_ne_map HO_5.out HM.out)); clear HM; have HM := nM_; clear nM_; have n0_ := Aside0.mk (blk_grown (g := gb138) (o := .cells #[.slice A137_0 ((rd_T45 l1 x36_3).f0).length c137_0, .slice A137_1 ((rd_T45 l1 x36_3).f1).length c137_1] 45 (0, 0)) (by (with_reducible repeat (first | refine blk_drewN ?_ _ | refine blk_drew ?_ | refine blk_alloc ?_ _)); exact BK138.out) hg (Kd.S_ne HO_5.out BK138.out (by decide))); have n1_ := Aside0.mk (hb); have n2_ := Aside0.mk (ho); clear BK138; clear HB; clear HO_5; clear HO_10; have BK138 := n0_; have HB := n1_; have HO147 := n2_; clear n0_ n1_ n2_; clear ho hb hg hat; obtain ⟨Ao42, co42, eo42⟩ := Kd.S_slice HO147.out; subst eo42))
                                        go_roundg kj23
                                        case measure => have := HJ2.out; have := HK2.out; have := HK3.out; have := HJ23.out; omega
                                        case rel => exact ⟨(y145), (wrap64 (x36_3 + 1)), (by first | rfl | (simp; done) | (simp [*]; done)), H', ⟨by have := HJ2.out; have := HK2.out; have := HK3.out; have := HJ23.out; omega⟩, ⟨by (with_reducible repeat (first | apply Kd.S_alloc | apply Kd.S_drewN | apply Kd.S_drew)); exact HO147.out⟩, ⟨(by (with_reducible repeat (first | apply Map3.Has3.alloc_ | apply Map3.Has3.drewN_ | apply Map3.Has3.drew_)); with_reducible exact HM.out)⟩, ⟨LX.out⟩, ⟨by repeat (first | (with_reducible first | exact HB.out | apply below_alloc | apply pw_below_drewN | apply below_drew1 | refine below_set ?_ GE138.out) | exact HB.out)⟩⟩
                                    · rw [if_neg c35] at H
                                      exact absurd H (by simp)
                            · rw [if_neg c22] at H
                              exact absurd H (by simp)
                          · rw [if_neg c21] at H
                            exact absurd H (by simp)
                        · rw [if_neg c20] at H
                          exact absurd H (by simp)
                      · rw [if_neg c19] at H
                        exact absurd H (by simp)
                    · rw [if_neg c18] at H
                      have c18b0 : decide (x36_3 < (l1.length : Int)) = false := decide_eq_false c18
                      clear c18
                      have H' := Aside0.mk H
                      clear H
                      go_wp2
                      go_roundg k3
                      case measure => have := HJ2.out; have := HK2.out; have := HK3.out; omega
                      case rel => exact ⟨(x5_3), (wrap64 (x7_2 + 1)), (by first | rfl | (simp; done) | (simp [*]; done)), H', ⟨by have := HJ2.out; have := HK2.out; have := HK3.out; omega⟩, ⟨by (with_reducible repeat (first | apply Kd.S_alloc | apply Kd.S_drewN | apply Kd.S_drew)); exact HO_5.out⟩, ⟨(by (with_reducible repeat (first | apply Map3.Has3.alloc_ | apply Map3.Has3.drewN_ | apply Map3.Has3.drew_)); with_reducible exact HM.out)⟩, HL, ⟨by repeat (first | (with_reducible first | exact HB.out | apply below_alloc | apply pw_below_drewN | apply below_drew1) | exact HB.out)⟩⟩
              · rw [if_neg c16] at H
                have c16b0 : decide (x7_2 < (x5_2.length : Int)) = false := decide_eq_false c16
                clear c16
                obtain rfl := Option.some.inj H
                obtain ⟨Ao43, co43, eo43⟩ := Kd.S_slice HO_5.out
                subst eo43
                go_wp2
                go_ret
                exact ⟨_, by first | rfl | (simp [errW_none, errW_some] <;> rfl) | (simp [*, errW_none, errW_some] <;> rfl), by (with_reducible repeat (first | apply Kd.S_alloc | apply Kd.S_drewN | apply Kd.S_drew)); exact HO_5.out, by repeat (first | (with_reducible first | exact HB.out | apply below_alloc | apply pw_below_drewN | apply below_drew1) | exact HB.out)⟩
        · rw [if_neg c10] at H
          exact absurd H (by simp)
/-! ### laws_eqIntS: function 18 -/
def laws_eqIntS.l0 : Nat → List Int → List Int → Int → Option (Bool)
  | 0, _, _, _ => none
  | k + 1, x0, x1, x5 => if x5 < (x0.length : Int) then (if 0 ≤ x5 then (if x5 < (x1.length : Int) then (if (rd x0 x5) = (rd x1 x5) then (laws_eqIntS.l0 k x0 x1 (wrap64 (x5 + 1))) else (some false)) else (none)) else (none)) else (some true)
def laws_eqIntS.f (k : Nat) (l0 : List Int) (l1 : List Int) : Option (Bool) := if (l0.length : Int) = (l1.length : Int) then (laws_eqIntS.l0 k l0 l1 0) else (some false)
set_option maxHeartbeats 8000000 in
set_option maxRecDepth 100000 in
theorem laws_eqIntS.calls (k : Nat) (A0 : Option Addr) (c0 : Nat) (l0 : List Int) (A1 : Option Addr) (c1 : Nat) (l1 : List Int) (r : Bool) (w : World) (hr0 : Kd.C (Kd.int .i64) w A0 l0.length l0) (hc0 : l0.length ≤ c0) (hr1 : Kd.C (Kd.int .i64) w A1 l1.length l1) (hc1 : l1.length ≤ c1) (h : laws_eqIntS.f k l0 l1 = some r) :
    Calls Try.prog 18 #[.slice A0 l0.length c0, .slice A1 l1.length c1] w fun e w' => e = .returned (.bool r) ∧ Drawn0 w w' := by
  have HR0 := Aside0.mk hr0
  have HC0 := Aside0.mk hc0
  clear hr0 hc0
  have HR1 := Aside0.mk hr1
  have HC1 := Aside0.mk hc1
  clear hr1 hc1
  have H : (if (l0.length : Int) = (l1.length : Int) then (laws_eqIntS.l0 k l0 l1 0) else (some false)) = some r := h
  clear h
  by_cases c3 : (l0.length : Int) = (l1.length : Int)
  · rw [if_pos c3] at H
    have c3b0 : ((l0.length : Int) == (l1.length : Int)) = true := beq_iff_eq.mpr c3
    have c3b1 : ((l0.length : Int) != (l1.length : Int)) = false := bne_eq_false_iff_eq.mpr c3
    have c3b2 : (l0.length == l1.length) = true := by first | simpa using c3 | (simp at c3 ⊢; omega)
    clear c3
    have H' := Aside0.mk H
    clear H
    go_enter Try.func18, Try.ntmps18
    go_wp2
    repeat (go_quiet (fail); try go_wp2)
    go_loopg [5] k (fun kq v5 w' => ∃ (x5_1 : Int), v5 = .int .i64 x5_1 ∧ Aside0 (laws_eqIntS.l0 kq l0 l1 x5_1 = some r) ∧ Aside0 (kq ≤ k) ∧ Drawn0 w w')
    case atStart => exact ⟨(0), (by first | rfl | (simp; done) | (simp [*]; done)), H', ⟨Nat.le_refl _⟩, by repeat (first | exact Drawn0.refl _ | apply Drawn0.step)⟩
    case round =>
      clear H'
      try clear c1
      try clear p2
      try clear c3
      try clear c3b0
      try clear c3b1
      try clear c3b2
      obtain ⟨x5_1, rfl, HA, HK1, ⟨m1, rfl⟩⟩ := hrel
      cases gk with
      | zero => exact absurd HA.out (by simp [laws_eqIntS.l0])
      | succ k1 =>
        have H := HA.out
        clear HA
        simp only [laws_eqIntS.l0] at H
        by_cases c4 : x5_1 < (l0.length : Int)
        · rw [if_pos c4] at H
          have c4b0 : decide (x5_1 < (l0.length : Int)) = true := decide_eq_true c4
          clear c4
          by_cases c5 : 0 ≤ x5_1
          · rw [if_pos c5] at H
            have c5b0 : decide (0 ≤ x5_1) = true := decide_eq_true c5
            clear c5
            by_cases c6 : x5_1 < (l1.length : Int)
            · rw [if_pos c6] at H
              have c6b0 : decide (x5_1 < (l1.length : Int)) = true := decide_eq_true c6
              clear c6
              by_cases c7 : (rd l0 x5_1) = (rd l1 x5_1)
              · rw [if_pos c7] at H
                have c7b0 : ((rd l0 x5_1) == (rd l1 x5_1)) = true := beq_iff_eq.mpr c7
                have c7b1 : ((rd l0 x5_1) != (rd l1 x5_1)) = false := bne_eq_false_iff_eq.mpr c7
                clear c7
                have H' := Aside0.mk H
                clear H
                have p211 : 0 ≤ (x5_1 : Int) := of_decide_eq_true (by first | (with_reducible assumption) | assumption)
                have q211 : x5_1 < (l0.length : Int) := of_decide_eq_true (by first | (with_reducible assumption) | assumption)
                obtain ⟨ad211, e211, hx211_0⟩ := Kd.at_int HR0.out x5_1 p211 q211
                cases e211
                replace p211 := eq_true p211
                replace q211 := eq_true q211
                have p212 : 0 ≤ (x5_1 : Int) := of_decide_eq_true (by first | (with_reducible assumption) | assumption)
                have q212 : x5_1 < (l1.length : Int) := of_decide_eq_true (by first | (with_reducible assumption) | assumption)
                obtain ⟨ad212, e212, hx212_0⟩ := Kd.at_int HR1.out x5_1 p212 q212
                cases e212
                replace p212 := eq_true p212
                replace q212 := eq_true q212
                go_wp2
                repeat (go_quiet (fail); try go_wp2)
                go_roundg k1
                case measure => have := HK1.out; omega
                case rel => exact ⟨(wrap64 (x5_1 + 1)), (by first | rfl | (simp; done) | (simp [*]; done)), H', ⟨by have := HK1.out; omega⟩, by repeat (first | exact Drawn0.refl _ | apply Drawn0.step)⟩
              · rw [if_neg c7] at H
                have c7b0 : ((rd l0 x5_1) == (rd l1 x5_1)) = false := beq_eq_false_iff_ne.mpr c7
                have c7b1 : ((rd l0 x5_1) != (rd l1 x5_1)) = true := bne_iff_ne.mpr c7
                obtain rfl := Option.some.inj H
                have p211 : 0 ≤ (x5_1 : Int) := of_decide_eq_true (by first | (with_reducible assumption) | assumption)
                have q211 : x5_1 < (l0.length : Int) := of_decide_eq_true (by first | (with_reducible assumption) | assumption)
                obtain ⟨ad211, e211, hx211_0⟩ := Kd.at_int HR0.out x5_1 p211 q211
                cases e211
                replace p211 := eq_true p211
                replace q211 := eq_true q211
                have p212 : 0 ≤ (x5_1 : Int) := of_decide_eq_true (by first | (with_reducible assumption) | assumption)
                have q212 : x5_1 < (l1.length : Int) := of_decide_eq_true (by first | (with_reducible assumption) | assumption)
                obtain ⟨ad212, e212, hx212_0⟩ := Kd.at_int HR1.out x5_1 p212 q212
                cases e212
                replace p212 := eq_true p212
                replace q212 := eq_true q212
                go_wp2
                repeat (go_quiet (fail); try go_wp2)
                go_ret
                exact ⟨by first | rfl | (simp; done) | (simp [*]; done), by repeat (first | exact Drawn0.refl _ | apply Drawn0.step)⟩
            · rw [if_neg c6] at H
              exact absurd H (by simp)
          · rw [if_neg c5] at H
            exact absurd H (by simp)
        · rw [if_neg c4] at H
          have c4b0 : decide (x5_1 < (l0.length : Int)) = false := decide_eq_false c4
          clear c4
          obtain rfl := Option.some.inj H
          go_wp2
          repeat (go_quiet (fail); try go_wp2)
          go_ret
          exact ⟨by first | rfl | (simp; done) | (simp [*]; done), by repeat (first | exact Drawn0.refl _ | apply Drawn0.step)⟩
  · rw [if_neg c3] at H
    have c3b0 : ((l0.length : Int) == (l1.length : Int)) = false := beq_eq_false_iff_ne.mpr c3
    have c3b1 : ((l0.length : Int) != (l1.length : Int)) = true := bne_iff_ne.mpr c3
    have c3b2 : (l0.length == l1.length) = false := by first | simpa using c3 | (simp at c3 ⊢; omega)
    obtain rfl := Option.some.inj H
    go_enter Try.func18, Try.ntmps18
    go_wp2
    repeat (go_quiet (fail); try go_wp2)
    go_ret
    exact ⟨by first | rfl | (simp; done) | (simp [*]; done), by repeat (first | exact Drawn0.refl _ | apply Drawn0.step)⟩
end Go.Proofs.Ytlmgipjalcnfaaa.P
