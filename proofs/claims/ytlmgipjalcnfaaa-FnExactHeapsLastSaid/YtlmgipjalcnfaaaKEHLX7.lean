import Derived.Test.YtlmgipjalcnfaaaKEHLHL
import Derived.Test.YtlmgipjalcnfaaaKEHLPx1
import Derived.Test.YtlmgipjalcnfaaaKEHLPx19
import Derived.Test.YtlmgipjalcnfaaaKEHLPx20
import Derived.Test.YtlmgipjalcnfaaaKEHLPx4
import Derived.Test.YtlmgipjalcnfaaaKEHLPx6
import Derived.Test.YtlmgipjalcnfaaaKEHLPx7
import Derived.Test.YtlmgipjalcnfaaaKEHLPx8
import Derived.Test.YtlmgipjalcnfaaaKEHLXw
namespace Go.Proofs.Ytlmgipjalcnfaaa.P
open Go.RowKit Go.Proofs.YtlmgipjalcnfaaaW.PrintWords Go.Proofs.YtlmgipjalcnfaaaW.PrintLast Go.Proofs.YtlmgipjalcnfaaaW.PrintMore
set_option linter.unusedVariables false
set_option linter.unusedSimpArgs false
theorem heldSS7 (k : Nat) (A : Option Addr) (c : Nat) (l : List (List Int)) (n : Nat) (a r : Int) (w : World) (hn : l.length = n) (hr : Kd.C (Kd.slice 3 (Kd.int .i64)) w A n l) (hc : n ≤ c) (h : laws_heldIntSS.f k l a = some r) :
    Calls Try.prog 23 #[.slice A n c, .int .i64 a] w fun e w' => e = .returned (.int .i64 r) ∧ Drawn0 w w' := by
  subst hn
  exact laws_heldIntSS.calls k A c l a r w hr hc h
set_option maxHeartbeats 8000000 in
set_option maxRecDepth 100000 in
theorem exactHeapsLast.calls (k : Nat) (A0 : Option Addr) (c0 : Nat) (l0 : List Int) (A1 : Option Addr) (c1 : Nat) (l1 : List S62) (w : World) (hr0 : Kd.C (Kd.int .i64) w A0 l0.length l0) (hc0 : l0.length ≤ c0) (hr1 : Kd.C k62 w A1 l1.length l1) (hc1 : l1.length ≤ c1)
    (T : List S45) (G G' : List (List Int)) (l0' : List Int) (z m1 m2 m3 : Int) (hlen : l0.length ≤ 1048576) (hsz : laws_szTradeS.f k l1 1048576 = some z) (hz : 0 ≤ z) (hti : laws_toIntS.f k l0 = some l0) (htt : laws_toTradeS.f k l1 = some T)
    (hsp : spec_HeapsLast.f k l0 T = some G) (him : impl_HeapsLast.f k l0 T = some G) (heg : laws_eqIntSS.f k G G = some true) (hei : laws_eqIntS.f k l0 l0 = some true) (het : laws_eqTradeS.f k T T = some true)
    (hm1 : laws_markIntS.f k l0 1 = some (m1, l0')) (hm2 : laws_markTradeS.f k T m1 = some m2) (hm20 : 0 ≤ m2) (hm3 : laws_markIntSS.f k G 1 = some (m3, G')) (hh : laws_heldIntSS.f k G' 1 = some m3) (hm30 : 0 ≤ m3) :
    Calls Try.prog 7 #[.slice A0 l0.length c0, .slice A1 l1.length c1] w fun e w' => e = .returned (.bool true) ∧ Below w.heap.size w w' := by
  have HR0 := Aside0.mk hr0
  have HC0 := Aside0.mk hc0
  have HR1 := Aside0.mk hr1
  have HC1 := Aside0.mk hc1
  have HB := Aside0.mk (Below.refl w.heap.size w)
  have Fsz := Aside0.mk hsz
  have Fti := Aside0.mk hti
  have Ftt := Aside0.mk htt
  have Fsp := Aside0.mk hsp
  have Fim := Aside0.mk him
  have Feg := Aside0.mk heg
  have Fei := Aside0.mk hei
  have Fet := Aside0.mk het
  have Fm1 := Aside0.mk hm1
  have Fm2 := Aside0.mk hm2
  have Fm3 := Aside0.mk hm3
  have Fhh := Aside0.mk hh
  have d1 : decide (1048576 < (l0.length : Int)) = false := decide_eq_false (by omega)
  have d1b : decide (1048576 < l0.length) = false := decide_eq_false (by omega)
  have d2 : decide (z < 0) = false := decide_eq_false (by omega)
  have d3 : decide (m2 < 0) = false := decide_eq_false (by omega)
  have d4 : decide (m3 < 0) = false := decide_eq_false (by omega)
  clear hr0 hc0 hr1 hc1 hsz hti htt hsp him heg hei het hm1 hm2 hm3 hh hz hm20 hm30 hlen
  go_enter Try.func7, Try.ntmps7
  go_wp2_with fail
  with_reducible refine (laws_szTradeS.calls k _ _ l1 1048576 z _ ?side1 ?side2 Fsz.out).mono ?_
  case side1 => repeat (first | exact (Kd.C_below HR1.out HB.out) | (with_reducible refine Kd.C_alloc ?_ _) | (with_reducible refine Kd.C_drewN ?_ _) | (with_reducible refine Kd.C_drew ?_))
  case side2 => exact HC1.out
  rintro e w1_ ⟨rfl, hb⟩
  have hs1_ : w.heap.size ≤ w1_.heap.size := X.size_step hb (by repeat (first | (with_reducible first | exact Below.refl _ _ | apply below_alloc | apply pw_below_drewN | apply below_drew1) | exact Below.refl _ _))
  have nB := Aside0.mk (below_step (by repeat (first | (with_reducible first | exact HB.out | apply below_alloc | apply pw_below_drewN | apply below_drew1) | exact HB.out)) hb)
  clear HB
  have HB := nB
  clear nB
  clear hb
  go_wp2_with fail
  with_reducible refine (laws_toIntS.calls k _ _ l0 l0 _ ?side3 ?side4 Fti.out).mono ?_
  case side3 => repeat (first | exact (Kd.C_below HR0.out HB.out) | (with_reducible refine Kd.C_alloc ?_ _) | (with_reducible refine Kd.C_drewN ?_ _) | (with_reducible refine Kd.C_drew ?_))
  case side4 => exact HC0.out
  rintro e w2_ ⟨v, rfl, ho, hb⟩
  obtain ⟨hs_, ho2⟩ := X.R_span (b := w.heap.size) ho hb (by repeat (first | (with_reducible first | exact Below.refl _ _ | apply below_alloc | apply pw_below_drewN | apply below_drew1) | exact Below.refl _ _)) HB.out.size
  have hs2_ : w1_.heap.size ≤ w2_.heap.size := hs_
  obtain ⟨Aa, ca, e_⟩ := Kd.R_slice ho2
  subst e_
  have HCa := Aside0.mk (Kd.R_reads' ho2).2.1
  have Ha' := Aside0.mk ho2
  have nB := Aside0.mk (below_step (by repeat (first | (with_reducible first | exact HB.out | apply below_alloc | apply pw_below_drewN | apply below_drew1) | exact HB.out)) hb)
  clear HB
  have HB := nB
  clear nB
  have Ha := Ha'
  clear Ha' ho ho2 hb hs_
  go_wp2_with fail
  with_reducible refine (laws_toTradeS.calls k _ _ l1 T _ ?side5 ?side6 Ftt.out).mono ?_
  case side5 => repeat (first | exact (Kd.C_below HR1.out HB.out) | (with_reducible refine Kd.C_alloc ?_ _) | (with_reducible refine Kd.C_drewN ?_ _) | (with_reducible refine Kd.C_drew ?_))
  case side6 => exact HC1.out
  rintro e w3_ ⟨v, rfl, ho, hb⟩
  have na := Aside0.mk (Kd.R_below (by (with_reducible repeat (first | apply Kd.R_alloc | apply Kd.R_drewN | apply Kd.R_drew)); exact Ha.out) hb)
  obtain ⟨hs_, ho2⟩ := X.S_span (b := w.heap.size) ho hb (by repeat (first | (with_reducible first | exact Below.refl _ _ | apply below_alloc | apply pw_below_drewN | apply below_drew1) | exact Below.refl _ _)) HB.out.size
  have hs3_ : w2_.heap.size ≤ w3_.heap.size := hs_
  obtain ⟨Ab, cb, e_⟩ := Kd.S_slice ho2
  subst e_
  have HCb := Aside0.mk (Kd.S_reads' ho2).2.1
  have Hb' := Aside0.mk ho2
  have nB := Aside0.mk (below_step (by repeat (first | (with_reducible first | exact HB.out | apply below_alloc | apply pw_below_drewN | apply below_drew1) | exact HB.out)) hb)
  clear HB
  have HB := nB
  clear nB
  clear Ha
  have Ha := na
  clear na
  have Hb := Hb'
  clear Hb' ho ho2 hb hs_
  go_wp2_with fail
  with_reducible refine (spec_HeapsLast.calls k _ _ l0 _ _ T G _ ?side7 ?side8 ?side9 ?side10 Fsp.out).mono ?_
  case side7 => exact X.R_C (by (with_reducible repeat (first | apply Kd.R_alloc | apply Kd.R_drewN | apply Kd.R_drew)); exact Ha.out)
  case side8 => exact HCa.out
  case side9 => exact X.S_C (by (with_reducible repeat (first | apply Kd.S_alloc | apply Kd.S_drewN | apply Kd.S_drew)); exact Hb.out)
  case side10 => exact HCb.out
  rintro e w4_ ⟨v, rfl, ho, hb⟩
  have na := Aside0.mk (Kd.R_below (by (with_reducible repeat (first | apply Kd.R_alloc | apply Kd.R_drewN | apply Kd.R_drew)); exact Ha.out) hb)
  have nb := Aside0.mk (Kd.S_below (by (with_reducible repeat (first | apply Kd.S_alloc | apply Kd.S_drewN | apply Kd.S_drew)); exact Hb.out) hb)
  obtain ⟨hs_, ho2⟩ := X.N_span (b := w.heap.size) ho hb (by repeat (first | (with_reducible first | exact Below.refl _ _ | apply below_alloc | apply pw_below_drewN | apply below_drew1) | exact Below.refl _ _)) HB.out.size
  have hs4_ : w3_.heap.size ≤ w4_.heap.size := hs_
  obtain ⟨Aw, cw, e_⟩ := Kd.N_slice ho2
  subst e_
  have HCw := Aside0.mk (Kd.N_reads' ho2).2.1
  have Hw' := Aside0.mk ho2
  have nB := Aside0.mk (below_step (by repeat (first | (with_reducible first | exact HB.out | apply below_alloc | apply pw_below_drewN | apply below_drew1) | exact HB.out)) hb)
  clear HB
  have HB := nB
  clear nB
  clear Ha Hb
  have Ha := na
  have Hb := nb
  clear na nb
  have Hw := Hw'
  clear Hw' ho ho2 hb hs_
  go_wp2_with fail
  with_reducible refine (laws_toIntS.calls k _ _ l0 l0 _ ?side11 ?side12 Fti.out).mono ?_
  case side11 => repeat (first | exact (Kd.C_below HR0.out HB.out) | (with_reducible refine Kd.C_alloc ?_ _) | (with_reducible refine Kd.C_drewN ?_ _) | (with_reducible refine Kd.C_drew ?_))
  case side12 => exact HC0.out
  rintro e w5_ ⟨v, rfl, ho, hb⟩
  have na := Aside0.mk (Kd.R_below (by (with_reducible repeat (first | apply Kd.R_alloc | apply Kd.R_drewN | apply Kd.R_drew)); exact Ha.out) hb)
  have nb := Aside0.mk (Kd.S_below (by (with_reducible repeat (first | apply Kd.S_alloc | apply Kd.S_drewN | apply Kd.S_drew)); exact Hb.out) hb)
  have nw := Aside0.mk (Kd.N_below (by (with_reducible repeat (first | apply Kd.N_alloc | apply Kd.N_drewN | apply Kd.N_drew)); exact Hw.out) hb)
  obtain ⟨hs_, ho2⟩ := X.R_span (b := w.heap.size) ho hb (by repeat (first | (with_reducible first | exact Below.refl _ _ | apply below_alloc | apply pw_below_drewN | apply below_drew1) | exact Below.refl _ _)) HB.out.size
  have hs5_ : w4_.heap.size ≤ w5_.heap.size := hs_
  obtain ⟨Ax, cx, e_⟩ := Kd.R_slice ho2
  subst e_
  have HCx := Aside0.mk (Kd.R_reads' ho2).2.1
  have Hx' := Aside0.mk ho2
  have nB := Aside0.mk (below_step (by repeat (first | (with_reducible first | exact HB.out | apply below_alloc | apply pw_below_drewN | apply below_drew1) | exact HB.out)) hb)
  clear HB
  have HB := nB
  clear nB
  clear Ha Hb Hw
  have Ha := na
  have Hb := nb
  have Hw := nw
  clear na nb nw
  have Hx := Hx'
  clear Hx' ho ho2 hb hs_
  go_wp2_with fail
  with_reducible refine (laws_toTradeS.calls k _ _ l1 T _ ?side13 ?side14 Ftt.out).mono ?_
  case side13 => repeat (first | exact (Kd.C_below HR1.out HB.out) | (with_reducible refine Kd.C_alloc ?_ _) | (with_reducible refine Kd.C_drewN ?_ _) | (with_reducible refine Kd.C_drew ?_))
  case side14 => exact HC1.out
  rintro e w6_ ⟨v, rfl, ho, hb⟩
  have na := Aside0.mk (Kd.R_below (by (with_reducible repeat (first | apply Kd.R_alloc | apply Kd.R_drewN | apply Kd.R_drew)); exact Ha.out) hb)
  have nb := Aside0.mk (Kd.S_below (by (with_reducible repeat (first | apply Kd.S_alloc | apply Kd.S_drewN | apply Kd.S_drew)); exact Hb.out) hb)
  have nw := Aside0.mk (Kd.N_below (by (with_reducible repeat (first | apply Kd.N_alloc | apply Kd.N_drewN | apply Kd.N_drew)); exact Hw.out) hb)
  have nx := Aside0.mk (Kd.R_below (by (with_reducible repeat (first | apply Kd.R_alloc | apply Kd.R_drewN | apply Kd.R_drew)); exact Hx.out) hb)
  obtain ⟨hs_, ho2⟩ := X.S_span (b := w.heap.size) ho hb (by repeat (first | (with_reducible first | exact Below.refl _ _ | apply below_alloc | apply pw_below_drewN | apply below_drew1) | exact Below.refl _ _)) HB.out.size
  have hs6_ : w5_.heap.size ≤ w6_.heap.size := hs_
  obtain ⟨Ay, cy, e_⟩ := Kd.S_slice ho2
  subst e_
  have HCy := Aside0.mk (Kd.S_reads' ho2).2.1
  have Hy' := Aside0.mk ho2
  have nB := Aside0.mk (below_step (by repeat (first | (with_reducible first | exact HB.out | apply below_alloc | apply pw_below_drewN | apply below_drew1) | exact HB.out)) hb)
  clear HB
  have HB := nB
  clear nB
  clear Ha Hb Hw Hx
  have Ha := na
  have Hb := nb
  have Hw := nw
  have Hx := nx
  clear na nb nw nx
  have Hy := Hy'
  clear Hy' ho ho2 hb hs_
  go_wp2_with fail
  with_reducible refine (impl_HeapsLast.callsS k _ _ l0 _ _ T G _ ?side15 ?side16 ?side17 ?side18 Fim.out).mono ?_
  case side15 => exact X.R_C (by (with_reducible repeat (first | apply Kd.R_alloc | apply Kd.R_drewN | apply Kd.R_drew)); exact Hx.out)
  case side16 => exact HCx.out
  case side17 => exact X.S_C (by (with_reducible repeat (first | apply Kd.S_alloc | apply Kd.S_drewN | apply Kd.S_drew)); exact Hy.out)
  case side18 => exact HCy.out
  rintro e w7_ ⟨v, rfl, ho, hb⟩
  have na := Aside0.mk (Kd.R_below (by (with_reducible repeat (first | apply Kd.R_alloc | apply Kd.R_drewN | apply Kd.R_drew)); exact Ha.out) hb)
  have nb := Aside0.mk (Kd.S_below (by (with_reducible repeat (first | apply Kd.S_alloc | apply Kd.S_drewN | apply Kd.S_drew)); exact Hb.out) hb)
  have nw := Aside0.mk (Kd.N_below (by (with_reducible repeat (first | apply Kd.N_alloc | apply Kd.N_drewN | apply Kd.N_drew)); exact Hw.out) hb)
  have nx := Aside0.mk (Kd.R_below (by (with_reducible repeat (first | apply Kd.R_alloc | apply Kd.R_drewN | apply Kd.R_drew)); exact Hx.out) hb)
  have ny := Aside0.mk (Kd.S_below (by (with_reducible repeat (first | apply Kd.S_alloc | apply Kd.S_drewN | apply Kd.S_drew)); exact Hy.out) hb)
  obtain ⟨hs_, ho2⟩ := X.S_span (b := w.heap.size) ho hb (by repeat (first | (with_reducible first | exact Below.refl _ _ | apply below_alloc | apply pw_below_drewN | apply below_drew1) | exact Below.refl _ _)) HB.out.size
  have hs7_ : w6_.heap.size ≤ w7_.heap.size := hs_
  obtain ⟨Ag, cg, e_⟩ := Kd.S_slice ho2
  subst e_
  have HCg := Aside0.mk (Kd.S_reads' ho2).2.1
  have Hg' := Aside0.mk ho2
  have nB := Aside0.mk (below_step (by repeat (first | (with_reducible first | exact HB.out | apply below_alloc | apply pw_below_drewN | apply below_drew1) | exact HB.out)) hb)
  clear HB
  have HB := nB
  clear nB
  clear Ha Hb Hw Hx Hy
  have Ha := na
  have Hb := nb
  have Hw := nw
  have Hx := nx
  have Hy := ny
  clear na nb nw nx ny
  have Hg := Hg'
  clear Hg' ho ho2 hb hs_
  go_wp2_with fail
  with_reducible refine (laws_eqIntSS.calls k _ _ G _ _ G  true _ ?side19 ?side20 ?side21 ?side22 Feg.out).mono ?_
  case side19 => exact X.S_C (by (with_reducible repeat (first | apply Kd.S_alloc | apply Kd.S_drewN | apply Kd.S_drew)); exact Hg.out)
  case side20 => exact HCg.out
  case side21 => exact X.N_C (by (with_reducible repeat (first | apply Kd.N_alloc | apply Kd.N_drewN | apply Kd.N_drew)); exact Hw.out)
  case side22 => exact HCw.out
  rintro e w' ⟨rfl, ⟨nd, rfl⟩⟩
  go_wp2_with fail
  with_reducible refine (laws_toIntS.calls k _ _ l0 l0 _ ?side23 ?side24 Fti.out).mono ?_
  case side23 => repeat (first | exact (Kd.C_below HR0.out HB.out) | (with_reducible refine Kd.C_alloc ?_ _) | (with_reducible refine Kd.C_drewN ?_ _) | (with_reducible refine Kd.C_drew ?_))
  case side24 => exact HC0.out
  rintro e w8_ ⟨v, rfl, ho, hb⟩
  have na := Aside0.mk (Kd.R_below (by (with_reducible repeat (first | apply Kd.R_alloc | apply Kd.R_drewN | apply Kd.R_drew)); exact Ha.out) hb)
  have nb := Aside0.mk (Kd.S_below (by (with_reducible repeat (first | apply Kd.S_alloc | apply Kd.S_drewN | apply Kd.S_drew)); exact Hb.out) hb)
  have nw := Aside0.mk (Kd.N_below (by (with_reducible repeat (first | apply Kd.N_alloc | apply Kd.N_drewN | apply Kd.N_drew)); exact Hw.out) hb)
  have nx := Aside0.mk (Kd.R_below (by (with_reducible repeat (first | apply Kd.R_alloc | apply Kd.R_drewN | apply Kd.R_drew)); exact Hx.out) hb)
  have ny := Aside0.mk (Kd.S_below (by (with_reducible repeat (first | apply Kd.S_alloc | apply Kd.S_drewN | apply Kd.S_drew)); exact Hy.out) hb)
  have ng := Aside0.mk (Kd.S_below (by (with_reducible repeat (first | apply Kd.S_alloc | apply Kd.S_drewN | apply Kd.S_drew)); exact Hg.out) hb)
  obtain ⟨hs_, ho2⟩ := X.R_span (b := w.heap.size) ho hb (by repeat (first | (with_reducible first | exact Below.refl _ _ | apply below_alloc | apply pw_below_drewN | apply below_drew1) | exact Below.refl _ _)) HB.out.size
  have hs8_ : w7_.heap.size ≤ w8_.heap.size := hs_
  obtain ⟨Ac, cc, e_⟩ := Kd.R_slice ho2
  subst e_
  have HCc := Aside0.mk (Kd.R_reads' ho2).2.1
  have Hc' := Aside0.mk ho2
  have nB := Aside0.mk (below_step (by repeat (first | (with_reducible first | exact HB.out | apply below_alloc | apply pw_below_drewN | apply below_drew1) | exact HB.out)) hb)
  clear HB
  have HB := nB
  clear nB
  clear Ha Hb Hw Hx Hy Hg
  have Ha := na
  have Hb := nb
  have Hw := nw
  have Hx := nx
  have Hy := ny
  have Hg := ng
  clear na nb nw nx ny ng
  have Hc := Hc'
  clear Hc' ho ho2 hb hs_
  go_wp2_with fail
  with_reducible refine (laws_eqIntS.calls k _ _ l0 _ _ l0  true _ ?side25 ?side26 ?side27 ?side28 Fei.out).mono ?_
  case side25 => exact X.R_C (by (with_reducible repeat (first | apply Kd.R_alloc | apply Kd.R_drewN | apply Kd.R_drew)); exact Hx.out)
  case side26 => exact HCx.out
  case side27 => exact X.R_C (by (with_reducible repeat (first | apply Kd.R_alloc | apply Kd.R_drewN | apply Kd.R_drew)); exact Hc.out)
  case side28 => exact HCc.out
  rintro e w' ⟨rfl, ⟨nd, rfl⟩⟩
  go_wp2_with fail
  with_reducible refine (laws_toTradeS.calls k _ _ l1 T _ ?side29 ?side30 Ftt.out).mono ?_
  case side29 => repeat (first | exact (Kd.C_below HR1.out HB.out) | (with_reducible refine Kd.C_alloc ?_ _) | (with_reducible refine Kd.C_drewN ?_ _) | (with_reducible refine Kd.C_drew ?_))
  case side30 => exact HC1.out
  rintro e w9_ ⟨v, rfl, ho, hb⟩
  have na := Aside0.mk (Kd.R_below (by (with_reducible repeat (first | apply Kd.R_alloc | apply Kd.R_drewN | apply Kd.R_drew)); exact Ha.out) hb)
  have nb := Aside0.mk (Kd.S_below (by (with_reducible repeat (first | apply Kd.S_alloc | apply Kd.S_drewN | apply Kd.S_drew)); exact Hb.out) hb)
  have nw := Aside0.mk (Kd.N_below (by (with_reducible repeat (first | apply Kd.N_alloc | apply Kd.N_drewN | apply Kd.N_drew)); exact Hw.out) hb)
  have nx := Aside0.mk (Kd.R_below (by (with_reducible repeat (first | apply Kd.R_alloc | apply Kd.R_drewN | apply Kd.R_drew)); exact Hx.out) hb)
  have ny := Aside0.mk (Kd.S_below (by (with_reducible repeat (first | apply Kd.S_alloc | apply Kd.S_drewN | apply Kd.S_drew)); exact Hy.out) hb)
  have ng := Aside0.mk (Kd.S_below (by (with_reducible repeat (first | apply Kd.S_alloc | apply Kd.S_drewN | apply Kd.S_drew)); exact Hg.out) hb)
  have nc := Aside0.mk (Kd.R_below (by (with_reducible repeat (first | apply Kd.R_alloc | apply Kd.R_drewN | apply Kd.R_drew)); exact Hc.out) hb)
  obtain ⟨hs_, ho2⟩ := X.S_span (b := w.heap.size) ho hb (by repeat (first | (with_reducible first | exact Below.refl _ _ | apply below_alloc | apply pw_below_drewN | apply below_drew1) | exact Below.refl _ _)) HB.out.size
  have hs9_ : w8_.heap.size ≤ w9_.heap.size := hs_
  obtain ⟨Ad, cd, e_⟩ := Kd.S_slice ho2
  subst e_
  have HCd := Aside0.mk (Kd.S_reads' ho2).2.1
  have Hd' := Aside0.mk ho2
  have nB := Aside0.mk (below_step (by repeat (first | (with_reducible first | exact HB.out | apply below_alloc | apply pw_below_drewN | apply below_drew1) | exact HB.out)) hb)
  clear HB
  have HB := nB
  clear nB
  clear Ha Hb Hw Hx Hy Hg Hc
  have Ha := na
  have Hb := nb
  have Hw := nw
  have Hx := nx
  have Hy := ny
  have Hg := ng
  have Hc := nc
  clear na nb nw nx ny ng nc
  have Hd := Hd'
  clear Hd' ho ho2 hb hs_
  go_wp2_with fail
  with_reducible refine (laws_eqTradeS.calls k _ _ T _ _ T  true _ ?side31 ?side32 ?side33 ?side34 Fet.out).mono ?_
  case side31 => exact X.S_C (by (with_reducible repeat (first | apply Kd.S_alloc | apply Kd.S_drewN | apply Kd.S_drew)); exact Hy.out)
  case side32 => exact HCy.out
  case side33 => exact X.S_C (by (with_reducible repeat (first | apply Kd.S_alloc | apply Kd.S_drewN | apply Kd.S_drew)); exact Hd.out)
  case side34 => exact HCd.out
  rintro e w10_ ⟨rfl, hb⟩
  have na := Aside0.mk (Kd.R_below (by (with_reducible repeat (first | apply Kd.R_alloc | apply Kd.R_drewN | apply Kd.R_drew)); exact Ha.out) hb)
  have nb := Aside0.mk (Kd.S_below (by (with_reducible repeat (first | apply Kd.S_alloc | apply Kd.S_drewN | apply Kd.S_drew)); exact Hb.out) hb)
  have nw := Aside0.mk (Kd.N_below (by (with_reducible repeat (first | apply Kd.N_alloc | apply Kd.N_drewN | apply Kd.N_drew)); exact Hw.out) hb)
  have nx := Aside0.mk (Kd.R_below (by (with_reducible repeat (first | apply Kd.R_alloc | apply Kd.R_drewN | apply Kd.R_drew)); exact Hx.out) hb)
  have ny := Aside0.mk (Kd.S_below (by (with_reducible repeat (first | apply Kd.S_alloc | apply Kd.S_drewN | apply Kd.S_drew)); exact Hy.out) hb)
  have ng := Aside0.mk (Kd.S_below (by (with_reducible repeat (first | apply Kd.S_alloc | apply Kd.S_drewN | apply Kd.S_drew)); exact Hg.out) hb)
  have nc := Aside0.mk (Kd.R_below (by (with_reducible repeat (first | apply Kd.R_alloc | apply Kd.R_drewN | apply Kd.R_drew)); exact Hc.out) hb)
  have nd := Aside0.mk (Kd.S_below (by (with_reducible repeat (first | apply Kd.S_alloc | apply Kd.S_drewN | apply Kd.S_drew)); exact Hd.out) hb)
  have hs10_ : w9_.heap.size ≤ w10_.heap.size := X.size_step hb (by repeat (first | (with_reducible first | exact Below.refl _ _ | apply below_alloc | apply pw_below_drewN | apply below_drew1) | exact Below.refl _ _))
  have nB := Aside0.mk (below_step (by repeat (first | (with_reducible first | exact HB.out | apply below_alloc | apply pw_below_drewN | apply below_drew1) | exact HB.out)) hb)
  clear HB
  have HB := nB
  clear nB
  clear Ha Hb Hw Hx Hy Hg Hc Hd
  have Ha := na
  have Hb := nb
  have Hw := nw
  have Hx := nx
  have Hy := ny
  have Hg := ng
  have Hc := nc
  have Hd := nd
  clear na nb nw nx ny ng nc nd
  clear hb
  go_wp2_with fail
  with_reducible refine (laws_markIntS.calls k (fun k_ => w4_.heap.size ≤ k_ ∧ k_ < w5_.heap.size) _ l0 1 m1 l0' w _ ?side35 ?side36 Fm1.out).mono ?_
  case side35 => repeat (first | (with_reducible first | exact HB.out | apply below_alloc | apply pw_below_drewN | apply below_drew1) | exact HB.out)
  case side36 => exact (by (with_reducible repeat (first | apply Kd.R_alloc | apply Kd.R_drewN | apply Kd.R_drew)); exact Hx.out)
  rintro e w11_ ⟨rfl, ho, hb, hk⟩
  have na := Aside0.mk (Kd.R_kept (by (with_reducible repeat (first | apply Kd.R_alloc | apply Kd.R_drewN | apply Kd.R_drew)); exact Ha.out) hk (fun k_ h1 h2 => by omega))
  have nb := Aside0.mk (Kd.S_kept (by (with_reducible repeat (first | apply Kd.S_alloc | apply Kd.S_drewN | apply Kd.S_drew)); exact Hb.out) hk (fun k_ h1 h2 => by omega))
  have nw := Aside0.mk (Kd.N_kept (by (with_reducible repeat (first | apply Kd.N_alloc | apply Kd.N_drewN | apply Kd.N_drew)); exact Hw.out) hk (fun k_ h1 h2 => by omega))
  have ny := Aside0.mk (Kd.S_kept (by (with_reducible repeat (first | apply Kd.S_alloc | apply Kd.S_drewN | apply Kd.S_drew)); exact Hy.out) hk (fun k_ h1 h2 => by omega))
  have ng := Aside0.mk (Kd.S_kept (by (with_reducible repeat (first | apply Kd.S_alloc | apply Kd.S_drewN | apply Kd.S_drew)); exact Hg.out) hk (fun k_ h1 h2 => by omega))
  have nc := Aside0.mk (Kd.R_kept (by (with_reducible repeat (first | apply Kd.R_alloc | apply Kd.R_drewN | apply Kd.R_drew)); exact Hc.out) hk (fun k_ h1 h2 => by omega))
  have nd := Aside0.mk (Kd.S_kept (by (with_reducible repeat (first | apply Kd.S_alloc | apply Kd.S_drewN | apply Kd.S_drew)); exact Hd.out) hk (fun k_ h1 h2 => by omega))
  have hs11_ : w10_.heap.size ≤ w11_.heap.size := X.kept_step hk (by repeat (first | (with_reducible first | exact Below.refl _ _ | apply below_alloc | apply pw_below_drewN | apply below_drew1) | exact Below.refl _ _))
  clear HB
  have HB := Aside0.mk hb
  clear Ha Hb Hw Hy Hg Hc Hd
  have Ha := na
  have Hb := nb
  have Hw := nw
  have Hy := ny
  have Hg := ng
  have Hc := nc
  have Hd := nd
  clear na nb nw ny ng nc nd
  clear Hx
  clear ho hb hk
  go_wp2_with fail
  with_reducible refine (laws_markTradeS.calls k (fun k_ => w5_.heap.size ≤ k_ ∧ k_ < w6_.heap.size) _ T m1 m2 w _ ?side37 ?side38 Fm2.out).mono ?_
  case side37 => repeat (first | (with_reducible first | exact HB.out | apply below_alloc | apply pw_below_drewN | apply below_drew1) | exact HB.out)
  case side38 => exact (by (with_reducible repeat (first | apply Kd.S_alloc | apply Kd.S_drewN | apply Kd.S_drew)); exact Hy.out)
  rintro e w12_ ⟨rfl, hb, hk⟩
  have na := Aside0.mk (Kd.R_kept (by (with_reducible repeat (first | apply Kd.R_alloc | apply Kd.R_drewN | apply Kd.R_drew)); exact Ha.out) hk (fun k_ h1 h2 => by omega))
  have nb := Aside0.mk (Kd.S_kept (by (with_reducible repeat (first | apply Kd.S_alloc | apply Kd.S_drewN | apply Kd.S_drew)); exact Hb.out) hk (fun k_ h1 h2 => by omega))
  have nw := Aside0.mk (Kd.N_kept (by (with_reducible repeat (first | apply Kd.N_alloc | apply Kd.N_drewN | apply Kd.N_drew)); exact Hw.out) hk (fun k_ h1 h2 => by omega))
  have ng := Aside0.mk (Kd.S_kept (by (with_reducible repeat (first | apply Kd.S_alloc | apply Kd.S_drewN | apply Kd.S_drew)); exact Hg.out) hk (fun k_ h1 h2 => by omega))
  have nc := Aside0.mk (Kd.R_kept (by (with_reducible repeat (first | apply Kd.R_alloc | apply Kd.R_drewN | apply Kd.R_drew)); exact Hc.out) hk (fun k_ h1 h2 => by omega))
  have nd := Aside0.mk (Kd.S_kept (by (with_reducible repeat (first | apply Kd.S_alloc | apply Kd.S_drewN | apply Kd.S_drew)); exact Hd.out) hk (fun k_ h1 h2 => by omega))
  have hs12_ : w11_.heap.size ≤ w12_.heap.size := X.kept_step hk (by repeat (first | (with_reducible first | exact Below.refl _ _ | apply below_alloc | apply pw_below_drewN | apply below_drew1) | exact Below.refl _ _))
  clear HB
  have HB := Aside0.mk hb
  clear Ha Hb Hw Hg Hc Hd
  have Ha := na
  have Hb := nb
  have Hw := nw
  have Hg := ng
  have Hc := nc
  have Hd := nd
  clear na nb nw ng nc nd
  clear Hy
  clear hb hk
  go_wp2_with fail
  with_reducible refine (laws_eqIntSS.calls k _ _ G _ _ G  true _ ?side39 ?side40 ?side41 ?side42 Feg.out).mono ?_
  case side39 => exact X.S_C (by (with_reducible repeat (first | apply Kd.S_alloc | apply Kd.S_drewN | apply Kd.S_drew)); exact Hg.out)
  case side40 => exact HCg.out
  case side41 => exact X.N_C (by (with_reducible repeat (first | apply Kd.N_alloc | apply Kd.N_drewN | apply Kd.N_drew)); exact Hw.out)
  case side42 => exact HCw.out
  rintro e w' ⟨rfl, ⟨nd, rfl⟩⟩
  go_wp2_with fail
  with_reducible refine (laws_markIntSS.calls k (fun k_ => w6_.heap.size ≤ k_ ∧ k_ < w7_.heap.size) _ G 1 m3 G' w _ ?side43 ?side44 Fm3.out).mono ?_
  case side43 => repeat (first | (with_reducible first | exact HB.out | apply below_alloc | apply pw_below_drewN | apply below_drew1) | exact HB.out)
  case side44 => exact (by (with_reducible repeat (first | apply Kd.S_alloc | apply Kd.S_drewN | apply Kd.S_drew)); exact Hg.out)
  rintro e w13_ ⟨rfl, ho, hb, hk⟩
  have na := Aside0.mk (Kd.R_kept (by (with_reducible repeat (first | apply Kd.R_alloc | apply Kd.R_drewN | apply Kd.R_drew)); exact Ha.out) hk (fun k_ h1 h2 => by omega))
  have nb := Aside0.mk (Kd.S_kept (by (with_reducible repeat (first | apply Kd.S_alloc | apply Kd.S_drewN | apply Kd.S_drew)); exact Hb.out) hk (fun k_ h1 h2 => by omega))
  have nw := Aside0.mk (Kd.N_kept (by (with_reducible repeat (first | apply Kd.N_alloc | apply Kd.N_drewN | apply Kd.N_drew)); exact Hw.out) hk (fun k_ h1 h2 => by omega))
  have nc := Aside0.mk (Kd.R_kept (by (with_reducible repeat (first | apply Kd.R_alloc | apply Kd.R_drewN | apply Kd.R_drew)); exact Hc.out) hk (fun k_ h1 h2 => by omega))
  have nd := Aside0.mk (Kd.S_kept (by (with_reducible repeat (first | apply Kd.S_alloc | apply Kd.S_drewN | apply Kd.S_drew)); exact Hd.out) hk (fun k_ h1 h2 => by omega))
  have hs13_ : w12_.heap.size ≤ w13_.heap.size := X.kept_step hk (by repeat (first | (with_reducible first | exact Below.refl _ _ | apply below_alloc | apply pw_below_drewN | apply below_drew1) | exact Below.refl _ _))
  have ng := Aside0.mk ho
  have HLg := Aside0.mk (Kd.S_reads' ho).1.symm
  clear HB
  have HB := Aside0.mk hb
  clear Ha Hb Hw Hc Hd
  have Ha := na
  have Hb := nb
  have Hw := nw
  have Hc := nc
  have Hd := nd
  clear na nb nw nc nd
  clear Hg
  have Hg := ng
  clear ng
  clear ho hb hk
  go_wp2_with fail
  with_reducible refine (heldSS7 k _ _ G' _ 1 m3 _ HLg.out ?side45 HCg.out Fhh.out).mono ?_
  case side45 => exact X.S_C (by (with_reducible repeat (first | apply Kd.S_alloc | apply Kd.S_drewN | apply Kd.S_drew)); exact Hg.out)
  rintro e w' ⟨rfl, ⟨nd, rfl⟩⟩
  go_wp2_with fail
  with_reducible refine (laws_toIntS.calls k _ _ l0 l0 _ ?side46 ?side47 Fti.out).mono ?_
  case side46 => repeat (first | exact (Kd.C_below HR0.out HB.out) | (with_reducible refine Kd.C_alloc ?_ _) | (with_reducible refine Kd.C_drewN ?_ _) | (with_reducible refine Kd.C_drew ?_))
  case side47 => exact HC0.out
  rintro e w14_ ⟨v, rfl, ho, hb⟩
  have na := Aside0.mk (Kd.R_below (by (with_reducible repeat (first | apply Kd.R_alloc | apply Kd.R_drewN | apply Kd.R_drew)); exact Ha.out) hb)
  have nb := Aside0.mk (Kd.S_below (by (with_reducible repeat (first | apply Kd.S_alloc | apply Kd.S_drewN | apply Kd.S_drew)); exact Hb.out) hb)
  have nw := Aside0.mk (Kd.N_below (by (with_reducible repeat (first | apply Kd.N_alloc | apply Kd.N_drewN | apply Kd.N_drew)); exact Hw.out) hb)
  have ng := Aside0.mk (Kd.S_below (by (with_reducible repeat (first | apply Kd.S_alloc | apply Kd.S_drewN | apply Kd.S_drew)); exact Hg.out) hb)
  have nc := Aside0.mk (Kd.R_below (by (with_reducible repeat (first | apply Kd.R_alloc | apply Kd.R_drewN | apply Kd.R_drew)); exact Hc.out) hb)
  have nd := Aside0.mk (Kd.S_below (by (with_reducible repeat (first | apply Kd.S_alloc | apply Kd.S_drewN | apply Kd.S_drew)); exact Hd.out) hb)
  obtain ⟨hs_, ho2⟩ := X.R_span (b := w.heap.size) ho hb (by repeat (first | (with_reducible first | exact Below.refl _ _ | apply below_alloc | apply pw_below_drewN | apply below_drew1) | exact Below.refl _ _)) HB.out.size
  have hs14_ : w13_.heap.size ≤ w14_.heap.size := hs_
  obtain ⟨Ap, cp, e_⟩ := Kd.R_slice ho2
  subst e_
  have HCp := Aside0.mk (Kd.R_reads' ho2).2.1
  have Hp' := Aside0.mk ho2
  have nB := Aside0.mk (below_step (by repeat (first | (with_reducible first | exact HB.out | apply below_alloc | apply pw_below_drewN | apply below_drew1) | exact HB.out)) hb)
  clear HB
  have HB := nB
  clear nB
  clear Ha Hb Hw Hg Hc Hd
  have Ha := na
  have Hb := nb
  have Hw := nw
  have Hg := ng
  have Hc := nc
  have Hd := nd
  clear na nb nw ng nc nd
  have Hp := Hp'
  clear Hp' ho ho2 hb hs_
  go_wp2_with fail
  with_reducible refine (laws_toTradeS.calls k _ _ l1 T _ ?side48 ?side49 Ftt.out).mono ?_
  case side48 => repeat (first | exact (Kd.C_below HR1.out HB.out) | (with_reducible refine Kd.C_alloc ?_ _) | (with_reducible refine Kd.C_drewN ?_ _) | (with_reducible refine Kd.C_drew ?_))
  case side49 => exact HC1.out
  rintro e w15_ ⟨v, rfl, ho, hb⟩
  have na := Aside0.mk (Kd.R_below (by (with_reducible repeat (first | apply Kd.R_alloc | apply Kd.R_drewN | apply Kd.R_drew)); exact Ha.out) hb)
  have nb := Aside0.mk (Kd.S_below (by (with_reducible repeat (first | apply Kd.S_alloc | apply Kd.S_drewN | apply Kd.S_drew)); exact Hb.out) hb)
  have nw := Aside0.mk (Kd.N_below (by (with_reducible repeat (first | apply Kd.N_alloc | apply Kd.N_drewN | apply Kd.N_drew)); exact Hw.out) hb)
  have ng := Aside0.mk (Kd.S_below (by (with_reducible repeat (first | apply Kd.S_alloc | apply Kd.S_drewN | apply Kd.S_drew)); exact Hg.out) hb)
  have nc := Aside0.mk (Kd.R_below (by (with_reducible repeat (first | apply Kd.R_alloc | apply Kd.R_drewN | apply Kd.R_drew)); exact Hc.out) hb)
  have nd := Aside0.mk (Kd.S_below (by (with_reducible repeat (first | apply Kd.S_alloc | apply Kd.S_drewN | apply Kd.S_drew)); exact Hd.out) hb)
  have np := Aside0.mk (Kd.R_below (by (with_reducible repeat (first | apply Kd.R_alloc | apply Kd.R_drewN | apply Kd.R_drew)); exact Hp.out) hb)
  obtain ⟨hs_, ho2⟩ := X.S_span (b := w.heap.size) ho hb (by repeat (first | (with_reducible first | exact Below.refl _ _ | apply below_alloc | apply pw_below_drewN | apply below_drew1) | exact Below.refl _ _)) HB.out.size
  have hs15_ : w14_.heap.size ≤ w15_.heap.size := hs_
  obtain ⟨Aq, cq, e_⟩ := Kd.S_slice ho2
  subst e_
  have HCq := Aside0.mk (Kd.S_reads' ho2).2.1
  have Hq' := Aside0.mk ho2
  have nB := Aside0.mk (below_step (by repeat (first | (with_reducible first | exact HB.out | apply below_alloc | apply pw_below_drewN | apply below_drew1) | exact HB.out)) hb)
  clear HB
  have HB := nB
  clear nB
  clear Ha Hb Hw Hg Hc Hd Hp
  have Ha := na
  have Hb := nb
  have Hw := nw
  have Hg := ng
  have Hc := nc
  have Hd := nd
  have Hp := np
  clear na nb nw ng nc nd np
  have Hq := Hq'
  clear Hq' ho ho2 hb hs_
  go_wp2_with fail
  with_reducible refine (impl_HeapsLast.callsS k _ _ l0 _ _ T G _ ?side50 ?side51 ?side52 ?side53 Fim.out).mono ?_
  case side50 => exact X.R_C (by (with_reducible repeat (first | apply Kd.R_alloc | apply Kd.R_drewN | apply Kd.R_drew)); exact Hp.out)
  case side51 => exact HCp.out
  case side52 => exact X.S_C (by (with_reducible repeat (first | apply Kd.S_alloc | apply Kd.S_drewN | apply Kd.S_drew)); exact Hq.out)
  case side53 => exact HCq.out
  rintro e w16_ ⟨v, rfl, ho, hb⟩
  have na := Aside0.mk (Kd.R_below (by (with_reducible repeat (first | apply Kd.R_alloc | apply Kd.R_drewN | apply Kd.R_drew)); exact Ha.out) hb)
  have nb := Aside0.mk (Kd.S_below (by (with_reducible repeat (first | apply Kd.S_alloc | apply Kd.S_drewN | apply Kd.S_drew)); exact Hb.out) hb)
  have nw := Aside0.mk (Kd.N_below (by (with_reducible repeat (first | apply Kd.N_alloc | apply Kd.N_drewN | apply Kd.N_drew)); exact Hw.out) hb)
  have ng := Aside0.mk (Kd.S_below (by (with_reducible repeat (first | apply Kd.S_alloc | apply Kd.S_drewN | apply Kd.S_drew)); exact Hg.out) hb)
  have nc := Aside0.mk (Kd.R_below (by (with_reducible repeat (first | apply Kd.R_alloc | apply Kd.R_drewN | apply Kd.R_drew)); exact Hc.out) hb)
  have nd := Aside0.mk (Kd.S_below (by (with_reducible repeat (first | apply Kd.S_alloc | apply Kd.S_drewN | apply Kd.S_drew)); exact Hd.out) hb)
  have np := Aside0.mk (Kd.R_below (by (with_reducible repeat (first | apply Kd.R_alloc | apply Kd.R_drewN | apply Kd.R_drew)); exact Hp.out) hb)
  have nq := Aside0.mk (Kd.S_below (by (with_reducible repeat (first | apply Kd.S_alloc | apply Kd.S_drewN | apply Kd.S_drew)); exact Hq.out) hb)
  obtain ⟨hs_, ho2⟩ := X.S_span (b := w.heap.size) ho hb (by repeat (first | (with_reducible first | exact Below.refl _ _ | apply below_alloc | apply pw_below_drewN | apply below_drew1) | exact Below.refl _ _)) HB.out.size
  have hs16_ : w15_.heap.size ≤ w16_.heap.size := hs_
  obtain ⟨Ah, ch, e_⟩ := Kd.S_slice ho2
  subst e_
  have HCh := Aside0.mk (Kd.S_reads' ho2).2.1
  have Hh' := Aside0.mk ho2
  have nB := Aside0.mk (below_step (by repeat (first | (with_reducible first | exact HB.out | apply below_alloc | apply pw_below_drewN | apply below_drew1) | exact HB.out)) hb)
  clear HB
  have HB := nB
  clear nB
  clear Ha Hb Hw Hg Hc Hd Hp Hq
  have Ha := na
  have Hb := nb
  have Hw := nw
  have Hg := ng
  have Hc := nc
  have Hd := nd
  have Hp := np
  have Hq := nq
  clear na nb nw ng nc nd np nq
  have Hh := Hh'
  clear Hh' ho ho2 hb hs_
  go_wp2_with fail
  with_reducible refine (laws_eqIntSS.calls k _ _ G _ _ G  true _ ?side54 ?side55 ?side56 ?side57 Feg.out).mono ?_
  case side54 => exact X.S_C (by (with_reducible repeat (first | apply Kd.S_alloc | apply Kd.S_drewN | apply Kd.S_drew)); exact Hh.out)
  case side55 => exact HCh.out
  case side56 => exact X.N_C (by (with_reducible repeat (first | apply Kd.N_alloc | apply Kd.N_drewN | apply Kd.N_drew)); exact Hw.out)
  case side57 => exact HCw.out
  rintro e w' ⟨rfl, ⟨nd, rfl⟩⟩
  go_wp2_with fail
  with_reducible refine (heldSS7 k _ _ G' _ 1 m3 _ HLg.out ?side58 HCg.out Fhh.out).mono ?_
  case side58 => exact X.S_C (by (with_reducible repeat (first | apply Kd.S_alloc | apply Kd.S_drewN | apply Kd.S_drew)); exact Hg.out)
  rintro e w' ⟨rfl, ⟨nd, rfl⟩⟩
  go_wp2
  go_ret
  exact ⟨by first | rfl | (simp; done) | (simp [*]; done), by repeat (first | (with_reducible first | exact HB.out | apply below_alloc | apply pw_below_drewN | apply below_drew1) | exact HB.out)⟩
set_option maxHeartbeats 8000000 in
set_option maxRecDepth 100000 in
theorem exactHeapsLast.long (A0 : Option Addr) (c0 : Nat) (l0 : List Int) (A1 : Option Addr) (c1 : Nat) (l1 : List S62) (w : World) (hc0 : l0.length ≤ c0) (hc1 : l1.length ≤ c1) (hlen : 1048576 < l0.length) :
    Calls Try.prog 7 #[.slice A0 l0.length c0, .slice A1 l1.length c1] w fun e w' => e = .returned (.bool true) ∧ Below w.heap.size w w' := by
  have HB := Aside0.mk (Below.refl w.heap.size w)
  have d1 : decide (1048576 < (l0.length : Int)) = true := decide_eq_true (by omega)
  have d1b : decide (1048576 < l0.length) = true := decide_eq_true (by omega)
  clear hlen
  go_enter Try.func7, Try.ntmps7
  go_wp2
  go_ret
  exact ⟨by first | rfl | (simp; done) | (simp [*]; done), by repeat (first | (with_reducible first | exact HB.out | apply below_alloc | apply pw_below_drewN | apply below_drew1) | exact HB.out)⟩
set_option maxHeartbeats 8000000 in
set_option maxRecDepth 100000 in
theorem exactHeapsLast.large (k : Nat) (A0 : Option Addr) (c0 : Nat) (l0 : List Int) (A1 : Option Addr) (c1 : Nat) (l1 : List S62) (w : World) (hr1 : Kd.C k62 w A1 l1.length l1) (hc0 : l0.length ≤ c0) (hc1 : l1.length ≤ c1) (hlen : l0.length ≤ 1048576) (z : Int) (hsz : laws_szTradeS.f k l1 1048576 = some z) (hz : z < 0) :
    Calls Try.prog 7 #[.slice A0 l0.length c0, .slice A1 l1.length c1] w fun e w' => e = .returned (.bool true) ∧ Below w.heap.size w w' := by
  have HR1 := Aside0.mk hr1
  have HC1 := Aside0.mk hc1
  have HB := Aside0.mk (Below.refl w.heap.size w)
  have Fsz := Aside0.mk hsz
  have d1 : decide (1048576 < (l0.length : Int)) = false := decide_eq_false (by omega)
  have d1b : decide (1048576 < l0.length) = false := decide_eq_false (by omega)
  have d2 : decide (z < 0) = true := decide_eq_true hz
  clear hr1 hc0 hc1 hsz hz hlen
  go_enter Try.func7, Try.ntmps7
  go_wp2_with fail
  with_reducible refine (laws_szTradeS.calls k _ _ l1 1048576 z _ ?side1 ?side2 Fsz.out).mono ?_
  case side1 => repeat (first | exact (Kd.C_below HR1.out HB.out) | (with_reducible refine Kd.C_alloc ?_ _) | (with_reducible refine Kd.C_drewN ?_ _) | (with_reducible refine Kd.C_drew ?_))
  case side2 => exact HC1.out
  rintro e w1_ ⟨rfl, hb⟩
  have hs1_ : w.heap.size ≤ w1_.heap.size := X.size_step hb (by repeat (first | (with_reducible first | exact Below.refl _ _ | apply below_alloc | apply pw_below_drewN | apply below_drew1) | exact Below.refl _ _))
  have nB := Aside0.mk (below_step (by repeat (first | (with_reducible first | exact HB.out | apply below_alloc | apply pw_below_drewN | apply below_drew1) | exact HB.out)) hb)
  clear HB
  have HB := nB
  clear nB
  clear hb
  go_wp2
  go_ret
  exact ⟨by first | rfl | (simp; done) | (simp [*]; done), by repeat (first | (with_reducible first | exact HB.out | apply below_alloc | apply pw_below_drewN | apply below_drew1) | exact HB.out)⟩
end Go.Proofs.Ytlmgipjalcnfaaa.P
