import Derived.Test.YtlmgipjalcnfaaaKTRD1
import Derived.Test.YtlmgipjalcnfaaaKTRA8
import Derived.Test.YtlmgipjalcnfaaaKTRPx14
namespace Go.Proofs.Ytlmgipjalcnfaaa.A
open Go.RowKit Go.Proofs.Ytlmgipjalcnfaaa.P Go.Proofs.YtlmgipjalcnfaaaW.PrintWords Go.Proofs.YtlmgipjalcnfaaaW.PrintLast
set_option linter.unusedVariables false
set_option linter.unusedSimpArgs false
theorem drawRun_j1 {b : List Int} (hb : Code b) (h : List Int) (ts : List S45) (l : List Int) (p : Int) (h0 : 0 ≤ p) (h1 : p ≤ 900000) (hl : l.length ≤ 50) :
    ∃ l', Ev (fun k => spec_DrawTradesRun.j1 k h ts l b p) (h, ts, l') ∧ l'.length ≤ l.length + 1 := by
  obtain ⟨c, p1, e1, hp1⟩ := odd hb p h0 (by omega) 9 (by omega)
  cases c with
  | false =>
    refine ⟨l, Ev.step (f := fun k => (spec_l20Rd_odd.f k b p 9).bind fun bt449 => (if bt449.1 = true then ((spec_l20Rd_pick.f k b bt449.2 6).bind fun bt451 => (if l.length < 17592186044416 then (some (h, ts, (l ++ [wrap64 (bt451.1 - 1)]))) else (none))) else (some (h, ts, l)))) (fun k => by simp only [spec_DrawTradesRun.j1]) (Ev.bind e1 (by simp only [Bool.false_eq_true, if_false]; exact Ev.now _)), by omega⟩
  | true =>
    obtain ⟨v, e2, _⟩ := pick hb p1 (by omega) (by omega) 6 (by omega)
    refine ⟨l ++ [wrap64 (v - 1)], Ev.step (f := fun k => (spec_l20Rd_odd.f k b p 9).bind fun bt449 => (if bt449.1 = true then ((spec_l20Rd_pick.f k b bt449.2 6).bind fun bt451 => (if l.length < 17592186044416 then (some (h, ts, (l ++ [wrap64 (bt451.1 - 1)]))) else (none))) else (some (h, ts, l)))) (fun k => by simp only [spec_DrawTradesRun.j1]) (Ev.bind e1 (by simp only [if_true]; refine Ev.bind e2 ?_; simp only [show l.length < 17592186044416 by omega, if_true]; exact Ev.now _)), by simp⟩
theorem drawRun_l0 {b : List Int} (hb : Code b) (h : List Int) {ts : List S45} (hs : smallT ts) : ∀ (d : Nat) (l now : List Int) (x10 p : Int), x10 = d → 0 ≤ p → p + d ≤ 800000 → l.length + d ≤ 50 → now.length ≤ 3 →
    ∃ l', Ev (fun k => spec_DrawTradesRun.l0 k h ts l now x10 b p) (h, ts, l') ∧ l'.length ≤ l.length + d + 1 := by
  intro d
  induction d with
  | zero =>
    intro l now x10 p hx h0 hp hl hn
    obtain ⟨l', e, hl'⟩ := drawRun_j1 hb h ts l p h0 (by omega) (by omega)
    exact ⟨l', Ev.step (fun k => by simp only [spec_DrawTradesRun.l0]; rw [if_neg (by omega)]) e, by omega⟩
  | succ d ih =>
    intro l now x10 p hx h0 hp hl hn
    have hstart : ∀ r, Ev (fun k => if ((may now ts).length : Int) = 0 then (spec_DrawTradesRun.j1 k h ts l b p) else ((spec_l20Rd_pick.f k b p ((may now ts).length : Int)).bind fun bt437 => (if 0 ≤ bt437.1 then (if bt437.1 < ((may now ts).length : Int) then (if l.length < 17592186044416 then ((some (l ++ [rd (may now ts) bt437.1] : List Int)).bind fun y440 => (if 0 ≤ (wrap64 ((y440.length : Int) - 1)) then (if (wrap64 ((y440.length : Int) - 1)) < (y440.length : Int) then (if 0 ≤ (rd y440 (wrap64 ((y440.length : Int) - 1))) then (if (rd y440 (wrap64 ((y440.length : Int) - 1))) < (ts.length : Int) then ((spec_TradeDo.f k now ((rd_T45 ts (rd y440 (wrap64 ((y440.length : Int) - 1)))).f0) ((rd_T45 ts (rd y440 (wrap64 ((y440.length : Int) - 1)))).f1)).bind fun bt445 => (spec_DrawTradesRun.l0 k h ts y440 bt445.1 (wrap64 (x10 - 1)) b bt437.2)) else (none)) else (none)) else (none)) else (none))) else (none)) else (none)) else (none)))) r → Ev (fun k => spec_DrawTradesRun.l0 k h ts l now x10 b p) r := by
      intro r hk
      refine Ev.step (f := fun k => (spec_TradesMay.f k now ts).bind fun t434 => (if (t434.length : Int) = 0 then (spec_DrawTradesRun.j1 k h ts l b p) else ((spec_l20Rd_pick.f k b p (t434.length : Int)).bind fun bt437 => (if 0 ≤ bt437.1 then (if bt437.1 < (t434.length : Int) then (if l.length < 17592186044416 then ((some (l ++ [rd t434 bt437.1] : List Int)).bind fun y440 => (if 0 ≤ (wrap64 ((y440.length : Int) - 1)) then (if (wrap64 ((y440.length : Int) - 1)) < (y440.length : Int) then (if 0 ≤ (rd y440 (wrap64 ((y440.length : Int) - 1))) then (if (rd y440 (wrap64 ((y440.length : Int) - 1))) < (ts.length : Int) then ((spec_TradeDo.f k now ((rd_T45 ts (rd y440 (wrap64 ((y440.length : Int) - 1)))).f0) ((rd_T45 ts (rd y440 (wrap64 ((y440.length : Int) - 1)))).f1)).bind fun bt445 => (spec_DrawTradesRun.l0 k h ts y440 bt445.1 (wrap64 (x10 - 1)) b bt437.2)) else (none)) else (none)) else (none)) else (none))) else (none)) else (none)) else (none))))) (fun k => by simp only [spec_DrawTradesRun.l0]; rw [if_pos (by omega)]) ?_
      exact Ev.bind (sTradesMay now ts (by omega) hs) hk
    by_cases c : may now ts = []
    · obtain ⟨l', e, hl'⟩ := drawRun_j1 hb h ts l p h0 (by omega) (by omega)
      refine ⟨l', hstart _ ?_, by omega⟩
      simp only [len_zero.2 c, if_true]
      exact e
    · have cn : ¬ ((may now ts).length : Int) = 0 := fun h' => c (len_zero.1 h')
      have hlen : (may now ts).length ≤ ts.length := by
        unfold may; split
        · exact mayFrom_len _ _ _
        · simp
      have hts := hs.1
      obtain ⟨v, e1, hv, hv'⟩ := pick hb p h0 (by omega) ((may now ts).length : Int) (by omega)
      have hv2 := hv' (by omega)
      have hm : rd (may now ts) v ∈ may now ts := by
        unfold rd
        rw [List.getD_eq_getElem?_getD, List.getElem?_eq_getElem (by omega)]
        exact List.getElem_mem _
      obtain ⟨m0, m1, ch, cv⟩ := may_mem hm
      have ey : wrap64 (((l ++ [rd (may now ts) v]).length : Int) - 1) = (l.length : Int) := by rw [wrap_ok (by simp; omega)]; simp
      have er : rd (l ++ [rd (may now ts) v]) (l.length : Int) = rd (may now ts) v := rd_mid l [] _
      have hrec : ∀ y : List Int, y.length ≤ 3 → ∃ l', Ev (fun k => spec_DrawTradesRun.l0 k h ts (l ++ [rd (may now ts) v]) y (wrap64 (x10 - 1)) b (p + 1)) (h, ts, l') ∧ l'.length ≤ l.length + (d + 1) + 1 := by
        intro y hy
        obtain ⟨l', e, hl'⟩ := ih (l ++ [rd (may now ts) v]) y (x10 - 1) (p + 1) (by omega) (by omega) (by omega) (by simp; omega) hy
        refine ⟨l', ?_, by simp at hl'; omega⟩
        rw [wrap_ok (n := x10 - 1) (by omega)]
        exact e
      have ht := (okTs_mem cv).1 _ (rdT_mem ⟨m0, m1⟩)
      have hfin : ∀ y r b', Ev (fun k => spec_TradeDo.f k now (rd_T45 ts (rd (may now ts) v)).f0 (rd_T45 ts (rd (may now ts) v)).f1) (y, b') → Ev (fun k => spec_DrawTradesRun.l0 k h ts (l ++ [rd (may now ts) v]) y (wrap64 (x10 - 1)) b (p + 1)) r → Ev (fun k => spec_DrawTradesRun.l0 k h ts l now x10 b p) r := by
        intro y r b' e2 e3
        refine hstart _ ?_
        simp only [cn, if_false]
        refine Ev.bind e1 ?_
        simp only [hv, hv2, show l.length < 17592186044416 by omega, if_true, Option.bind_some, ey, er, m0, m1, show (0 : Int) ≤ (l.length : Int) by omega, show (l.length : Int) < ((l ++ [rd (may now ts) v]).length : Int) by simp; omega]
        exact Ev.bind e2 e3
      cases hst : stp now (rd_T45 ts (rd (may now ts) v)) with
      | none =>
        obtain ⟨l', e, hl'⟩ := hrec [] (by simp)
        exact ⟨l', hfin [] _ false (sTradeDo_none ch ht hst) e, hl'⟩
      | some y =>
        obtain ⟨l', e, hl'⟩ := hrec y (by rw [okL_len (stp_ok ch ht hst)]; decide)
        exact ⟨l', hfin y _ true (sTradeDo_some ch ht hst) e, hl'⟩
theorem drawRun {l0 : List Int} (hb : ∀ x ∈ l0, (Lit.int .u8 x).wf = true) : ∃ h ts l, Ev (fun k => spec_DrawTradesRun.f k l0) (h, ts, l) ∧ h.length ≤ 3 ∧ Drawn ts ∧ l.length ≤ 20 := by
  obtain ⟨b, e0, hc⟩ := open_is hb
  obtain ⟨h, p1, e1, hh, hp1⟩ := heaps hc 0 (by omega) (by omega) 14 (by omega)
  obtain ⟨ts, p2, e2, hd, hp2⟩ := trades hc 14 (by omega) p1 (by omega) (by omega)
  obtain ⟨v, e3, hv, hv'⟩ := pick hc p2 (by omega) (by omega) 9 (by omega)
  have hv9 := hv' (by omega)
  obtain ⟨l, e4, hl⟩ := drawRun_l0 hc h (hd.1.small (by have := hd.2.2; omega)) v.toNat [] h v (p2 + 1) (by omega) (by omega) (by omega) (by simp; omega) hh
  refine ⟨h, ts, l, ?_, hh, hd, by simp at hl; omega⟩
  refine Ev.congr (f := fun k => (spec_l20Heaps.f k b 0 14).bind fun bt421 => ((spec_l20Trades.f k b bt421.2 14).bind fun bt425 => ((spec_l20Rd_pick.f k b bt425.2 9).bind fun bt432 => (spec_DrawTradesRun.l0 k bt421.1 bt425.1 (([] : List Int)) bt421.1 bt432.1 b bt432.2)))) (fun k => by unfold spec_DrawTradesRun.f; rw [e0]; rfl) ?_
  exact Ev.bind e1 (Ev.bind e2 (Ev.bind e3 e4))
end Go.Proofs.Ytlmgipjalcnfaaa.A
