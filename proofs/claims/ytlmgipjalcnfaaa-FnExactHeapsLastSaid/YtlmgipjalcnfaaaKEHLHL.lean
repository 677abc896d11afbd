import Derived.Test.YtlmgipjalcnfaaaKEHLPx20
import Derived.Test.YtlmgipjalcnfaaaKEHLPx6
import Derived.Test.YtlmgipjalcnfaaaKEHLXw
namespace Go.Proofs.Ytlmgipjalcnfaaa.P
open Go.RowKit Go.Proofs.YtlmgipjalcnfaaaW.PrintWords Go.Proofs.YtlmgipjalcnfaaaW.PrintLast Go.Proofs.YtlmgipjalcnfaaaW.PrintMore
set_option linter.unusedVariables false
set_option linter.unusedSimpArgs false
/-! HeapsLast hands back some of the rows that HeapsReached made: each once, so they lie apart. -/
section
variable {α : Type} {d : Kd α} {e : Nat} {w : World} {base : Nat} {ok : Nat → Prop} {v : Value}
theorem S_of_tag {f : Nat → Nat} {ps : List (α × Nat)} (h : (Kd.tag f d).R e w base ok v ps) (hn : (ps.map Prod.snd).Nodup) : Kd.S d e w base ok v (ps.map Prod.fst) := by
  obtain ⟨h0, inner, ho, hr⟩ := h
  refine ⟨fun k => (ps.map Prod.snd).idxOf (f k), h0, inner, ?_, ?_, fun m p hm => ?_⟩
  · rw [List.length_zipIdx, List.length_map]; exact ho
  · rw [List.length_zipIdx, List.length_map]; exact hr.1
  · rw [List.getElem?_zipIdx, List.getElem?_map, Nat.zero_add] at hm
    cases hq : ps[m]? with
    | none => rw [hq] at hm; simp at hm
    | some q =>
      rw [hq] at hm
      simp only [Option.map_some, Option.some.injEq] at hm
      subst hm
      have hM : d.M w base (fun k => (ok k ∧ some k ≠ v.ownBlock) ∧ f k = q.2) q.1 _ := hr.2 m q hq
      refine d.M_mono (fun k hk => ⟨hk.1, ?_⟩) hM
      have hml : m < (ps.map Prod.snd).length := by rw [List.length_map]; exact (List.getElem?_eq_some_iff.1 hq).1
      have e1 : (ps.map Prod.snd)[m] = q.2 := by
        rw [List.getElem_map]
        obtain ⟨_, h2⟩ := List.getElem?_eq_some_iff.1 hq
        rw [h2]
      show (ps.map Prod.snd).idxOf (f k) = m
      rw [hk.2, ← e1]
      exact hn.idxOf_getElem m hml
theorem R_none_as {β : Type} {d' : Kd β} (hs : d'.sz = d.sz) (h : d.R e w base ok v []) : d'.R e w base ok v [] := by
  obtain ⟨h0, inner, ho, hr⟩ := h
  refine ⟨h0, inner, by rw [hs]; exact ho, ?_, fun m p hm => by simp at hm⟩
  have := hr.1
  simpa using this
end
theorem out_span {v v1 : Value} {lo hi : Nat} {W : World} (hV : ∀ k, v.ownBlock = some k → ¬ (lo ≤ k ∧ k < hi)) (hat : v1.ownBlock = v.ownBlock ∨ ∃ b, v1.ownBlock = some b ∧ W.heap.size ≤ b) (hZ : hi ≤ W.heap.size) : ∀ k, v1.ownBlock = some k → ¬ (lo ≤ k ∧ k < hi) := by
  intro k hk
  rcases hat with hat | ⟨b, hat, hb⟩
  · exact hV k (hat ▸ hk)
  · rw [hat] at hk; injection hk with hk; omega
theorem snoc_once {α : Type} {ps : List (α × Nat)} {i : Nat} (x : α) (h : (ps.map Prod.snd).Nodup ∧ ∀ j ∈ ps.map Prod.snd, j < i) : ((ps ++ [(x, i)]).map Prod.snd).Nodup ∧ ∀ j ∈ (ps ++ [(x, i)]).map Prod.snd, j < i + 1 := by
  obtain ⟨h1, h2⟩ := h
  rw [List.map_append, List.nodup_append]
  refine ⟨⟨h1, by simp, fun a ha b hb => by have := h2 a ha; simp at hb; omega⟩, fun j hj => ?_⟩
  rcases List.mem_append.1 hj with hj | hj
  · have := h2 j hj; omega
  · simp at hj; omega
set_option maxHeartbeats 8000000 in
set_option maxRecDepth 100000 in
theorem impl_HeapsLast.callsS (k : Nat) (A0 : Option Addr) (c0 : Nat) (l0 : List Int) (A1 : Option Addr) (c1 : Nat) (l1 : List (S45)) (r : List (List Int)) (w : World) (hr0 : Kd.C (Kd.int .i64) w A0 l0.length l0) (hc0 : l0.length ≤ c0) (hr1 : Kd.C k45 w A1 l1.length l1) (hc1 : l1.length ≤ c1) (h : impl_HeapsLast.f k l0 l1 = some r) :
    Calls Try.prog 37 #[.slice A0 l0.length c0, .slice A1 l1.length c1] w fun e w' => ∃ v0_ : Value, e = .returned (v0_) ∧ Kd.S (Kd.slice 3 (Kd.int .i64)) 22 w' w.heap.size (fun _ => True) v0_ r ∧ Below w.heap.size w w' := by
  have HR0 := Aside0.mk hr0
  have HC0 := Aside0.mk hc0
  have HR1 := Aside0.mk hr1
  have HC1 := Aside0.mk hc1
  clear hr0 hc0 hr1 hc1
  have HB := Aside0.mk (Below.refl w.heap.size w)
  have H := Option.bind_eq_some_iff.mp (show ((impl_HeapsReached.f k l0 l1).bind fun t673 => (impl_HeapsLast.l0 k l1 (([] : List (List Int))) t673 (t673.length : Int) 0)) = some r from h)
  clear h
  obtain ⟨t, A30, H⟩ := H
  have A3 := Aside0.mk A30
  have H' := Aside0.mk H
  clear A30 H
  go_enter Try.func37, Try.ntmps37
  go_wp2_with (first | ((with_reducible refine gate_dst (N := 8) rfl ?_); refine Kd.R_lit (Kd.slice 3 (Kd.int .i64)) _ 22 ?hg (N := 8) ?hd (xs := ([] : List (List Int))) (inner := []) (ok := fun _ => True) (okp := fun _ => True) ?hr ?hp (fun _ hk => hk) trivial (Below.refl _ _) (Nat.le_refl _) (by simp) ?_; (case hd => rfl); (case hg => rfl); (case hr => first | (go_simp; done) | (go_simp; rfl)); (case hp => exact (Reps.none _ _)); intro v671 w4 ho5 hb hg_ hnew_; clear hg_; have HN4 := Aside0.mk (show ∀ k, v671.ownBlock = some k → k < w4.heap.size from Kd.R_lt ho5); clear hnew_; have n0_ := Aside0.mk (Kd.R_lower ho5 (below_size (by repeat (first | (with_reducible first | exact HB.out | apply below_alloc | apply pw_below_drewN | apply below_drew1) | exact HB.out)))); have n1_ := Aside0.mk (below_step (by repeat (first | (with_reducible first | exact HB.out | apply below_alloc | apply pw_below_drewN | apply below_drew1) | exact HB.out)) hb); clear HB; have HO672 := n0_; have HB := n1_; clear n0_ n1_; clear hb ho5))
  with_reducible refine (impl_HeapsReached.calls k _ _ l0 _ _ l1 t _ ?side1 ?side2 ?side3 ?side4 A3.out).mono ?_
  case side1 => repeat (first | exact (Kd.C_below HR0.out HB.out) | (with_reducible refine Kd.C_alloc ?_ _) | (with_reducible refine Kd.C_drewN ?_ _) | (with_reducible refine Kd.C_drew ?_))
  case side2 => exact HC0.out
  case side3 => repeat (first | exact (Kd.C_below HR1.out HB.out) | (with_reducible refine Kd.C_alloc ?_ _) | (with_reducible refine Kd.C_drewN ?_ _) | (with_reducible refine Kd.C_drew ?_))
  case side4 => exact HC1.out
  rintro e w6 ⟨v674, rfl, ho0, hb⟩
  obtain ⟨hs_, ho2⟩ := X.S_span (b := w.heap.size) ho0 hb (by repeat (first | (with_reducible first | exact Below.refl _ _ | apply below_alloc | apply pw_below_drewN | apply below_drew1) | exact Below.refl _ _)) HB.out.size
  obtain ⟨Ao, co, eo⟩ := Kd.S_slice ho2
  subst eo
  obtain ⟨f, hf⟩ := ho2
  have HL := Aside0.mk hf
  have nO := Aside0.mk (R_none_as (d := Kd.slice 3 (Kd.int .i64)) (d' := Kd.tag f (Kd.slice 3 (Kd.int .i64))) rfl (Kd.R_below (by (with_reducible repeat (first | apply Kd.R_alloc | apply Kd.R_drewN | apply Kd.R_drew)); exact HO672.out) hb))
  have HV := Aside0.mk (show ∀ k, v671.ownBlock = some k → ¬ (w4.heap.size ≤ k ∧ k < w6.heap.size) from fun k hk h2 => by have := HN4.out k hk; omega)
  have nB := Aside0.mk (below_step (by repeat (first | (with_reducible first | exact HB.out | apply below_alloc | apply pw_below_drewN | apply below_drew1) | exact HB.out)) hb)
  clear HB HO672 HN4 ho0 hb hs_ hf
  have HB := nB
  have HO672 := nO
  clear nB nO
  go_wp2
  go_loopg [5, 13] k (fun kq v5 v13 w' => ∃ (ps : List (List Int × Nat)) (x13_1 : Nat), v13 = .int .i64 (x13_1 : Int) ∧ Aside0 (impl_HeapsLast.l0 kq l1 (ps.map Prod.fst) t (t.length : Int) (x13_1 : Int) = some r) ∧ Aside0 (kq ≤ k) ∧ Aside0 ((Kd.tag f (Kd.slice 3 (Kd.int .i64))).R 22 w' w.heap.size (fun _ => True) v5 ps) ∧ Aside0 ((Kd.tag f (Kd.slice 3 (Kd.int .i64))).R 22 w' w.heap.size (fun k => w4.heap.size ≤ k ∧ k < w6.heap.size) (.slice Ao t.length co) t.zipIdx) ∧ Aside0 (∀ k, (v5 : Value).ownBlock = some k → ¬ (w4.heap.size ≤ k ∧ k < w6.heap.size)) ∧ Aside0 ((ps.map Prod.snd).Nodup ∧ ∀ i ∈ ps.map Prod.snd, i < x13_1) ∧ Aside0 (w6.heap.size ≤ w'.heap.size) ∧ Aside0 (Below w.heap.size w w'))
  case atStart => exact ⟨[], 0, (by first | rfl | (simp; done) | (simp [*]; done)), H', ⟨Nat.le_refl _⟩, ⟨by (with_reducible repeat (first | apply Kd.R_alloc | apply Kd.R_drewN | apply Kd.R_drew)); exact HO672.out⟩, ⟨by (with_reducible repeat (first | apply Kd.R_alloc | apply Kd.R_drewN | apply Kd.R_drew)); exact HL.out⟩, HV, ⟨by simp⟩, ⟨Nat.le_refl _⟩, ⟨by repeat (first | (with_reducible first | exact HB.out | apply below_alloc | apply pw_below_drewN | apply below_drew1) | exact HB.out)⟩⟩
  case round =>
    clear H' HL HV HO672 HB
    obtain ⟨ps, i, rfl, HA, HK1, HO, HL, HV, HP, HZ, HB⟩ := hrel
    cases gk with
    | zero => exact absurd HA.out (by simp [impl_HeapsLast.l0])
    | succ k1 =>
      have H := HA.out
      clear HA
      simp only [impl_HeapsLast.l0] at H
      by_cases c8 : i < t.length
      · rw [if_pos (by omega), if_pos (by omega), if_pos (by omega)] at H
        have c8b0 : decide ((i : Int) < (t.length : Int)) = true := decide_eq_true (by omega)
        have c8b1 : decide (i < t.length) = true := decide_eq_true c8
        have c8p := eq_true c8
        have c8q : ((i : Int) < (t.length : Int)) = True := eq_true (by omega)
        replace H := Option.bind_eq_some_iff.mp H
        obtain ⟨t677, A110, H⟩ := H
        have A11 := Aside0.mk A110
        clear A110
        have hil : (i : Int) < (t.length : Int) := by omega
        have ew : wrap64 ((i : Int) + 1) = ((i + 1 : Nat) : Int) := by
          have := (Kd.R_reads' HL.out).2.2.2.1
          rw [List.length_zipIdx] at this
          unfold wrap64; omega
        have hio : (0 : Int) ≤ (i : Int) := by omega
        obtain ⟨g7, co7, eo7, _, _, _⟩ := Kd.R_form HL.out (by rw [List.length_zipIdx]; omega)
        rw [List.length_zipIdx] at eo7
        injection eo7 with ea_ _ ec_
        subst ea_
        subst ec_
        obtain ⟨c, hcl, hM, hcc⟩ := Kd.R_get HL.out (([], 0) : List Int × Nat) (i : Int) hio (by omega)
        have hge : t.zipIdx.getD (i : Int).toNat (([], 0) : List Int × Nat) = (rd_L1 t (i : Int), i) := by
          rw [Int.toNat_natCast, List.getD_eq_getElem?_getD, List.getElem?_zipIdx, List.getElem?_eq_getElem c8, Nat.zero_add]
          simp [rd_L1, List.getD_eq_getElem?_getD, List.getElem?_eq_getElem c8]
        rw [hge] at hM
        obtain ⟨v, rfl, hR⟩ := (show (Kd.slice 3 (Kd.int .i64)).M wr w.heap.size (fun k => ((w4.heap.size ≤ k ∧ k < w6.heap.size) ∧ some k ≠ (Value.slice (some ⟨g7, 0, none⟩) t.length co).ownBlock) ∧ f k = i) (rd_L1 t (i : Int)) c from hM)
        obtain ⟨Av, cv, rfl⟩ := Kd.R_slice hR
        have hx0 : wr.cell? ⟨g7, i, none⟩ = some (.slice Av (rd_L1 t (i : Int)).length cv) := by
          have := hcc 0 _ rfl
          have e_ : (⟨g7, 0, none⟩ : Addr).add ((i : Int).toNat * (Kd.tag f (Kd.slice 3 (Kd.int .i64))).sz + 0) = ⟨g7, i, none⟩ := by
            rw [add_plain]
            show (⟨g7, (i : Int).toNat * 1 + 0, none⟩ : Addr) = _
            simp
          rwa [e_] at this
        have HRv := Aside0.mk hR
        have HCv := Aside0.mk (Kd.R_reads' hR).2.1
        clear hcl hM hcc hge hR
        by_cases c12 : (t677.length : Int) = 0
        · rw [if_pos c12] at H
          have c12b0 : ((t677.length : Int) == 0) = true := beq_iff_eq.mpr c12
          have c12b1 : ((t677.length : Int) != 0) = false := bne_eq_false_iff_eq.mpr c12
          clear c12
          by_cases c13 : (ps.map Prod.fst).length < 5864062014805
          case neg => rw [if_neg c13] at H; exact absurd H (by simp)
          rw [if_pos c13] at H
          have LM := Aside0.mk c13
          rw [ew] at H
          have hfst : ps.map Prod.fst ++ [rd_L1 t (i : Int)] = (ps ++ [(rd_L1 t (i : Int), i)]).map Prod.fst := by simp
          rw [hfst] at H
          have H' := Aside0.mk H
          have EW := Aside0.mk ew
          have HI := Aside0.mk c8
          clear H c13 ew hfst c8 hil hio
          go_wp2_with fail
          with_reducible refine (impl_TradesMay.calls k1 _ _ (rd_L1 t (i : Int)) _ _ l1 t677 _ ?side5 ?side6 ?side7 ?side8 A11.out).mono ?_
          case side5 => exact X.R_C (by (with_reducible repeat (first | apply Kd.R_alloc | apply Kd.R_drewN | apply Kd.R_drew)); exact HRv.out)
          case side6 => exact HCv.out
          case side7 => repeat (first | exact (Kd.C_below HR1.out HB.out) | (with_reducible refine Kd.C_alloc ?_ _) | (with_reducible refine Kd.C_drewN ?_ _) | (with_reducible refine Kd.C_drew ?_))
          case side8 => exact HC1.out
          rintro e w14 ⟨v678, rfl, ho0, hb⟩
          obtain ⟨Ab, cb, eb⟩ := Kd.R_slice ho0
          subst eb
          have n0_ := Aside0.mk (Kd.R_below (by (with_reducible repeat (first | apply Kd.R_alloc | apply Kd.R_drewN | apply Kd.R_drew)); exact HO.out) hb)
          have n1_ := Aside0.mk (Kd.R_below (by (with_reducible repeat (first | apply Kd.R_alloc | apply Kd.R_drewN | apply Kd.R_drew)); exact HL.out) hb)
          have n2_ := Aside0.mk (Kd.R_below (by (with_reducible repeat (first | apply Kd.R_alloc | apply Kd.R_drewN | apply Kd.R_drew)); exact HRv.out) hb)
          have n3_ := Aside0.mk (Nat.le_trans HZ.out (X.size_step hb (by repeat (first | (with_reducible first | exact Below.refl _ _ | apply below_alloc | apply pw_below_drewN | apply below_drew1) | exact Below.refl _ _))))
          have n4_ := Aside0.mk (below_step (by repeat (first | (with_reducible first | exact HB.out | apply below_alloc | apply pw_below_drewN | apply below_drew1) | exact HB.out)) hb)
          clear HO HL HRv HZ HB hx0 ho0 hb A11
          have HO := n0_
          have HL := n1_
          have HRv := n2_
          have HZ := n3_
          have HB := n4_
          clear n0_ n1_ n2_ n3_ n4_
          go_wp2_with (first | ((with_reducible refine gate_builtin (b := .append) (xs := #[.tmp 22, .tmp 24]) rfl ?_); at_builtin; refine Kd.R_append (Kd.tag f (Kd.slice 3 (Kd.int .i64))) (w0 := w) w.heap.size rfl (.tmp 22) (.tmp 24) 25 22 (.slice none 0 0) 24 rfl Try.underlying25 info22 rfl (show 0 < 1 from Nat.one_pos) (by omega) u5 ps (rd_L1 t (i : Int), i) [.slice Av (rd_L1 t (i : Int)).length cv] (fun _ => True) (fun k => (w4.heap.size ≤ k ∧ k < w6.heap.size)) rfl rfl ?aP ?aK (fun _ _ => trivial) ?aO ?aB ?aS ?aL ?_; (case aP => exact (show (Kd.slice 3 (Kd.int .i64)).M _ w.heap.size (fun k => (w4.heap.size ≤ k ∧ k < w6.heap.size) ∧ f k = i) (rd_L1 t (i : Int)) [.slice Av (rd_L1 t (i : Int)).length cv] from ⟨_, rfl, Kd.R_mono HRv.out (fun k hk => ⟨hk.1.1, hk.2⟩)⟩)); (case aK => exact fun k hk => ⟨trivial, fun e_ => HV.out k e_.symm hk⟩); (case aO => exact (by (with_reducible repeat (first | apply Kd.R_alloc | apply Kd.R_drewN | apply Kd.R_drew)); exact HO.out)); (case aB => exact (by repeat (first | (with_reducible first | exact HB.out | apply below_alloc | apply pw_below_drewN | apply below_drew1) | exact HB.out))); (case aS => exact (below_size (by repeat (first | (with_reducible first | exact HB.out | apply below_alloc | apply pw_below_drewN | apply below_drew1) | exact HB.out)))); (case aL => have := LM.out; rw [List.length_map] at this; omega); intro v681 w16 ho hb hg hat; have m0_ := Aside0.mk ho; have m1_ := Aside0.mk (Kd.R_grown (by (with_reducible repeat (first | apply Kd.R_alloc | apply Kd.R_drewN | apply Kd.R_drew)); exact HL.out) hg (fun k hk e_ => HV.out k e_.symm hk)); have m2_ := Aside0.mk (out_span HV.out hat (Nat.le_trans HZ.out (X.size_le (by repeat (first | (with_reducible first | exact Below.refl _ _ | apply below_alloc | apply pw_below_drewN | apply below_drew1) | exact Below.refl _ _))))); have m3_ := Aside0.mk (Nat.le_trans HZ.out (Nat.le_trans (X.size_le (by repeat (first | (with_reducible first | exact Below.refl _ _ | apply below_alloc | apply pw_below_drewN | apply below_drew1) | exact Below.refl _ _))) hg.size)); have m4_ := Aside0.mk hb; clear HO HL HV HZ HB HRv ho hb hg hat; have HO := m0_; have HL := m1_; have HV := m2_; have HZ := m3_; have HB := m4_; clear m0_ m1_ m2_ m3_ m4_))
          go_roundg k1
          case measure => have := HK1.out; omega
          case rel => exact ⟨ps ++ [(rd_L1 t (i : Int), i)], i + 1, (congrArg (Value.int .i64) EW.out), H', ⟨by have := HK1.out; omega⟩, HO, HL, HV, ⟨snoc_once _ HP.out⟩, HZ, HB⟩
        · rw [if_neg c12] at H
          have c12b0 : ((t677.length : Int) == 0) = false := beq_eq_false_iff_ne.mpr c12
          have c12b1 : ((t677.length : Int) != 0) = true := bne_iff_ne.mpr c12
          have c12b2 : ¬ (t677 = []) := fun h_ => c12 (by rw [h_]; rfl)
          clear c12
          rw [ew] at H
          have H' := Aside0.mk H
          have EW := Aside0.mk ew
          clear H ew c8 hil hio
          go_wp2_with fail
          with_reducible refine (impl_TradesMay.calls k1 _ _ (rd_L1 t (i : Int)) _ _ l1 t677 _ ?side9 ?side10 ?side11 ?side12 A11.out).mono ?_
          case side9 => exact X.R_C (by (with_reducible repeat (first | apply Kd.R_alloc | apply Kd.R_drewN | apply Kd.R_drew)); exact HRv.out)
          case side10 => exact HCv.out
          case side11 => repeat (first | exact (Kd.C_below HR1.out HB.out) | (with_reducible refine Kd.C_alloc ?_ _) | (with_reducible refine Kd.C_drewN ?_ _) | (with_reducible refine Kd.C_drew ?_))
          case side12 => exact HC1.out
          rintro e w14 ⟨v678, rfl, ho0, hb⟩
          obtain ⟨Ab, cb, eb⟩ := Kd.R_slice ho0
          subst eb
          have n0_ := Aside0.mk (Kd.R_below (by (with_reducible repeat (first | apply Kd.R_alloc | apply Kd.R_drewN | apply Kd.R_drew)); exact HO.out) hb)
          have n1_ := Aside0.mk (Kd.R_below (by (with_reducible repeat (first | apply Kd.R_alloc | apply Kd.R_drewN | apply Kd.R_drew)); exact HL.out) hb)
          have n3_ := Aside0.mk (Nat.le_trans HZ.out (X.size_step hb (by repeat (first | (with_reducible first | exact Below.refl _ _ | apply below_alloc | apply pw_below_drewN | apply below_drew1) | exact Below.refl _ _))))
          have n4_ := Aside0.mk (below_step (by repeat (first | (with_reducible first | exact HB.out | apply below_alloc | apply pw_below_drewN | apply below_drew1) | exact HB.out)) hb)
          have n5_ := Aside0.mk (show (ps.map Prod.snd).Nodup ∧ ∀ j ∈ ps.map Prod.snd, j < i + 1 from ⟨HP.out.1, fun j hj => Nat.lt_succ_of_lt (HP.out.2 j hj)⟩)
          clear HO HL HRv HZ HB HP hx0 ho0 hb A11
          have HO := n0_
          have HL := n1_
          have HZ := n3_
          have HB := n4_
          have HP := n5_
          clear n0_ n1_ n3_ n4_ n5_
          go_wp2
          go_roundg k1
          case measure => have := HK1.out; omega
          case rel => exact ⟨ps, i + 1, (congrArg (Value.int .i64) EW.out), H', ⟨by have := HK1.out; omega⟩, HO, HL, HV, HP, HZ, HB⟩
      · rw [if_neg (by omega)] at H
        have c8b0 : decide ((i : Int) < (t.length : Int)) = false := decide_eq_false (by omega)
        have c8b1 : decide (i < t.length) = false := decide_eq_false c8
        clear c8
        obtain rfl := Option.some.inj H
        go_wp2
        go_ret
        exact ⟨_, by first | rfl | (simp [errW_none, errW_some] <;> rfl), S_of_tag (by (with_reducible repeat (first | apply Kd.R_alloc | apply Kd.R_drewN | apply Kd.R_drew)); exact HO.out) HP.out.1, by repeat (first | (with_reducible first | exact HB.out | apply below_alloc | apply pw_below_drewN | apply below_drew1) | exact HB.out)⟩
end Go.Proofs.Ytlmgipjalcnfaaa.P
