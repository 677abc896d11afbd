import Derived.Test.YtlmgipjalcnfaaaKTRA1
import Derived.Laws.BitsAllLaws
import Derived.Test.YtlmgipjalcnfaaaKTRPx10
import Derived.Test.YtlmgipjalcnfaaaKTRPx8
import Derived.Test.YtlmgipjalcnfaaaKTRPx9
namespace Go.Proofs.Ytlmgipjalcnfaaa.A
open Go.RowKit Go.Proofs.Ytlmgipjalcnfaaa.P Go.Proofs.YtlmgipjalcnfaaaW.PrintWords Go.Proofs.YtlmgipjalcnfaaaW.PrintLast
set_option linter.unusedVariables false
set_option linter.unusedSimpArgs false
/-! ### 7. What is drawn: it comes, and is small -/
theorem xor_pos {a b : Int} (ha : 0 ≤ a ∧ a < 9223372036854775808) (hb : 0 ≤ b ∧ b < 9223372036854775808) : 0 ≤ Go.bits .xor .i64 a b := by
  obtain ⟨a, rfl⟩ := Int.eq_ofNat_of_zero_le ha.1
  obtain ⟨b, rfl⟩ := Int.eq_ofNat_of_zero_le hb.1
  have h1 : (BitVec.ofInt 64 (a : Int)).toNat = a := by
    rw [BitVec.ofInt_natCast, BitVec.toNat_ofNat]; exact Nat.mod_eq_of_lt (by omega)
  have h2 : (BitVec.ofInt 64 (b : Int)).toNat = b := by
    rw [BitVec.ofInt_natCast, BitVec.toNat_ofNat]; exact Nat.mod_eq_of_lt (by omega)
  have hx : a ^^^ b < 2 ^ 63 := Nat.xor_lt_two_pow (by omega) (by omega)
  show 0 ≤ IntKind.i64.wrap ((BitVec.ofInt 64 (a : Int) ^^^ BitVec.ofInt 64 (b : Int)).toNat : Int)
  rw [BitVec.toNat_xor, h1, h2]
  simp only [IntKind.wrap, IntKind.bits, IntKind.signed]
  simp
  omega
/-- a code's bytes -/
def Code (b : List Int) : Prop := b.length ≤ 2000 ∧ ∀ x ∈ b, 0 ≤ x ∧ x ≤ 255
theorem Code.rd {b : List Int} (h : Code b) (i : Int) : 0 ≤ rd b i ∧ rd b i ≤ 255 := by
  unfold Go.Proofs.YtlmgipjalcnfaaaW.PrintWords.rd
  rw [List.getD_eq_getElem?_getD]
  cases hx : b[i.toNat]? with
  | none => simp
  | some x => exact h.2 x (List.mem_of_getElem? hx)
theorem tmod_range {a n : Int} (ha : 0 ≤ a) (hn : 1 ≤ n) : 0 ≤ Int.tmod a n ∧ Int.tmod a n < n := by
  rw [Int.tmod_eq_emod_of_nonneg ha]
  exact ⟨Int.emod_nonneg _ (by omega), Int.emod_lt_of_pos _ (by omega)⟩
theorem pick_x {A B K T : Int} (hA : 0 ≤ A ∧ A ≤ 255) (hB : 0 ≤ B ∧ B ≤ 255) (hK : 0 ≤ K ∧ K ≤ 1000000) (hT : 0 ≤ T ∧ T ≤ 1000000) :
    0 ≤ (wrap64 ((wrap64 ((wrap64 ((wrap64 (wrap64 A * 131)) + (wrap64 (wrap64 B * 1117)))) + (wrap64 (K * 29)))) + (wrap64 (wrap64 T * 53)))) ∧
    (wrap64 ((wrap64 ((wrap64 ((wrap64 (wrap64 A * 131)) + (wrap64 (wrap64 B * 1117)))) + (wrap64 (K * 29)))) + (wrap64 (wrap64 T * 53)))) < 1000000000 := by
  rw [wrap_ok (n := A) (by omega), wrap_ok (n := B) (by omega), wrap_ok (n := T) (by omega), wrap_ok (n := A * 131) (by omega), wrap_ok (n := B * 1117) (by omega), wrap_ok (n := K * 29) (by omega), wrap_ok (n := T * 53) (by omega), wrap_ok (n := A * 131 + B * 1117) (by omega), wrap_ok (n := A * 131 + B * 1117 + K * 29) (by omega), wrap_ok (by omega)]
  omega
theorem pick {b : List Int} (hb : Code b) (p : Int) (h0 : 0 ≤ p) (h1 : p ≤ 1000000) (n : Int) (hn : n ≤ 9223372036854775807) : ∃ v, Ev (fun k => spec_l20Rd_pick.f k b p n) (v, p + 1) ∧ 0 ≤ v ∧ (1 ≤ n → v < n) := by
  have ew : wrap64 (p + 1) = p + 1 := wrap_ok (by omega)
  have ew' : wrap64 (p + 1 - 1) = p := by rw [Int.add_sub_cancel]; exact wrap_ok (by omega)
  have hl := hb.1
  by_cases hn1 : n < 1
  · refine ⟨0, ?_, by omega, by omega⟩
    refine Ev.congr (f := fun k => spec_l20Rd_pick.j0 k n true b (p + 1)) (fun k => by unfold spec_l20Rd_pick.f; rw [if_pos hn1, ew]) ?_
    exact Ev.step (f := fun _ => some (0, p + 1)) (fun k => by simp only [spec_l20Rd_pick.j0, if_true]) (Ev.now _)
  · by_cases he : b.length = 0
    · refine ⟨0, ?_, by omega, by omega⟩
      refine Ev.congr (f := fun k => spec_l20Rd_pick.j0 k n true b (p + 1)) (fun k => by unfold spec_l20Rd_pick.f; rw [if_neg hn1, ew]; simp [he]) ?_
      exact Ev.step (f := fun _ => some (0, p + 1)) (fun k => by simp only [spec_l20Rd_pick.j0, if_true]) (Ev.now _)
    · have hf : ∀ k, spec_l20Rd_pick.f k b p n = spec_l20Rd_pick.j0 k n false b (p + 1) := fun k => by
        unfold spec_l20Rd_pick.f; rw [if_neg hn1, ew]
        rw [show ((b.length : Int) == 0) = false by rw [beq_eq_false_iff_ne]; omega]
      by_cases hlt : p < (b.length : Int)
      · refine ⟨Int.tmod (rd b p) n, ?_, (tmod_range (hb.rd p).1 (by omega)).1, fun h => (tmod_range (hb.rd p).1 (by omega)).2⟩
        refine Ev.congr hf ?_
        refine Ev.step (f := fun _ => some (Int.tmod (rd b p) n, p + 1)) (fun k => ?_) (Ev.now _)
        have hr := hb.rd p
        simp only [spec_l20Rd_pick.j0, Bool.false_eq_true, if_false, ew']
        rw [if_pos hlt, if_pos h0, if_neg (by omega), wrap_ok (n := rd b p) (by omega)]
      · have hL : (1 : Int) ≤ (b.length : Int) := by omega
        have m1 := tmod_range (a := p) (n := (b.length : Int)) h0 hL
        have e7 : wrap64 (wrap64 (p * 7) + 3) = p * 7 + 3 := by rw [wrap_ok (n := p * 7) (by omega), wrap_ok (by omega)]
        have m2 := tmod_range (a := p * 7 + 3) (n := (b.length : Int)) (by omega) hL
        have d1 : 0 ≤ Int.tdiv p (b.length : Int) ∧ Int.tdiv p (b.length : Int) ≤ 1000000 := by
          rw [Int.tdiv_eq_ediv_of_nonneg h0]
          have := Int.ediv_le_self (b := (b.length : Int)) h0
          exact ⟨Int.ediv_nonneg h0 (by omega), by omega⟩
        have hx := pick_x (hb.rd (Int.tmod p (b.length : Int))) (hb.rd (Int.tmod (p * 7 + 3) (b.length : Int))) (K := p) ⟨h0, h1⟩ d1
        generalize hX : (wrap64 ((wrap64 ((wrap64 ((wrap64 (wrap64 (rd b (Int.tmod p (b.length : Int))) * 131)) + (wrap64 (wrap64 (rd b (Int.tmod (p * 7 + 3) (b.length : Int))) * 1117)))) + (wrap64 (p * 29)))) + (wrap64 (wrap64 (Int.tdiv p (b.length : Int)) * 53)))) = X at hx
        have hdiv : 0 ≤ wrap64 (Int.tdiv X 64) ∧ wrap64 (Int.tdiv X 64) < 9223372036854775808 := by
          have h2 : Int.tdiv X 64 = X / 64 := Int.tdiv_eq_ediv_of_nonneg hx.1
          rw [h2, wrap_ok (by omega)]; omega
        have hxp := xor_pos (a := X) (b := wrap64 (Int.tdiv X 64)) ⟨hx.1, by omega⟩ hdiv
        have m3 := tmod_range (a := Go.bits .xor .i64 X (wrap64 (Int.tdiv X 64))) (n := n) hxp (by omega)
        refine ⟨Int.tmod (Go.bits .xor .i64 X (wrap64 (Int.tdiv X 64))) n, ?_, m3.1, fun _ => m3.2⟩
        refine Ev.congr hf ?_
        refine Ev.step (f := fun _ => some (Int.tmod (Go.bits .xor .i64 X (wrap64 (Int.tdiv X 64))) n, p + 1)) (fun k => ?_) (Ev.now _)
        simp only [spec_l20Rd_pick.j0, Bool.false_eq_true, if_false, ew', e7]
        rw [if_neg hlt, if_neg (by omega), if_pos m1.1, if_pos m1.2, if_pos m2.1, if_pos m2.2, if_neg (by omega), hX]
theorem odd {b : List Int} (hb : Code b) (p : Int) (h0 : 0 ≤ p) (h1 : p ≤ 1000000) (n : Int) (hn : n ≤ 9223372036854775807) : ∃ c p', Ev (fun k => spec_l20Rd_odd.f k b p n) (c, p') ∧ p ≤ p' ∧ p' ≤ p + 1 := by
  by_cases hp : n > 0
  · obtain ⟨v, hv, _⟩ := pick hb p h0 h1 n hn
    refine ⟨(v == wrap64 (n - 1)), p + 1, ?_, by omega, by omega⟩
    refine Ev.congr (f := fun k => (spec_l20Rd_pick.f k b p n).bind fun bt239 => (some ((bt239.1 == (wrap64 (n - 1))), bt239.2))) (fun k => by unfold spec_l20Rd_odd.f; rw [if_pos hp]) ?_
    exact Ev.bind hv (Ev.now _)
  · exact ⟨false, p, Ev.congr (f := fun _ => some (false, p)) (fun k => by unfold spec_l20Rd_odd.f; rw [if_neg hp]) (Ev.now _), by omega, by omega⟩
theorem open_is {l0 : List Int} (hb : ∀ x ∈ l0, (Lit.int .u8 x).wf = true) : ∃ b, spec_l20Open.f l0 = some (b, 0) ∧ Code b := by
  have hw : ∀ x ∈ l0, 0 ≤ x ∧ x ≤ 255 := fun x hx => by
    have := hb x hx
    simp [Lit.wf, IntKind.min, IntKind.max, IntKind.signed, IntKind.bits] at this
    omega
  unfold spec_l20Open.f
  by_cases h : (l0.length : Int) > 2000
  · rw [if_pos h, if_pos (by omega)]
    exact ⟨_, rfl, by simp; omega, fun x hx => hw x (List.mem_of_mem_take hx)⟩
  · rw [if_neg h]
    exact ⟨_, rfl, by omega, hw⟩
theorem heaps {b : List Int} (hb : Code b) (p : Int) (h0 : 0 ≤ p) (h1 : p ≤ 900000) (n : Int) (hn : n ≤ 9223372036854775807) : ∃ h p', Ev (fun k => spec_l20Heaps.f k b p n) (h, p') ∧ h.length ≤ 3 ∧ p ≤ p' ∧ p' ≤ p + 5 := by
  obtain ⟨v1, e1, _⟩ := pick hb p h0 (by omega) 4 (by omega)
  obtain ⟨v2, e2, _⟩ := pick hb (p + 1) (by omega) (by omega) 4 (by omega)
  obtain ⟨v3, e3, _⟩ := pick hb (p + 1 + 1) (by omega) (by omega) 5 (by omega)
  obtain ⟨c, p4, e4, hp4⟩ := odd hb (p + 1 + 1 + 1) (by omega) (by omega) n hn
  have key : ∀ h p', Ev (fun k => if c = true then ((spec_l20Rd_pick.f k b p4 3).bind fun bt252 => (if bt252.1 = 0 then (if 2 ≤ (([v1, v2, v3] : List Int).length : Int) then (some ((([v1, v2, v3] : List Int).take (2 : Int).toNat), bt252.2)) else (none)) else (if bt252.1 = 1 then (if 1 < (([v1, v2, v3] : List Int).length : Int) then (some ((([v1, v2, v3] : List Int).set (1 : Int).toNat 41), bt252.2)) else (none)) else (if 2 < (([v1, v2, v3] : List Int).length : Int) then (some ((([v1, v2, v3] : List Int).set (2 : Int).toNat (-1)), bt252.2)) else (none))))) else (some ([v1, v2, v3], p4))) (h, p') → Ev (fun k => spec_l20Heaps.f k b p n) (h, p') := by
    intro h p' hk
    exact Ev.bind e1 (Ev.bind e2 (Ev.bind e3 (Ev.bind (g := fun _ => some [v1, v2, v3]) (Ev.now _) (Ev.bind e4 hk))))
  cases c with
  | false => exact ⟨[v1, v2, v3], p4, key _ _ (by simp only [Bool.false_eq_true, if_false]; exact Ev.now _), by simp, by omega, by omega⟩
  | true =>
    obtain ⟨v5, e5, _⟩ := pick hb p4 (by omega) (by omega) 3 (by omega)
    by_cases c1 : v5 = 0
    · refine ⟨[v1, v2], p4 + 1, key _ _ ?_, by simp, by omega, by omega⟩
      simp only [if_true]; refine Ev.bind e5 ?_
      simp only [c1, if_true]; simp only [show (2 : Int) ≤ (([v1, v2, v3] : List Int).length : Int) by simp, if_true]; exact Ev.now _
    · by_cases c2 : v5 = 1
      · refine ⟨[v1, 41, v3], p4 + 1, key _ _ ?_, by simp, by omega, by omega⟩
        simp only [if_true]; refine Ev.bind e5 ?_
        simp only [c2, if_true, show ¬ (1 : Int) = 0 by omega, if_false]; simp only [show (1 : Int) < (([v1, v2, v3] : List Int).length : Int) by simp, if_true]; exact Ev.now _
      · refine ⟨[v1, v2, -1], p4 + 1, key _ _ ?_, by simp, by omega, by omega⟩
        simp only [if_true]; refine Ev.bind e5 ?_
        simp only [c1, c2, if_false]; simp only [show (2 : Int) < (([v1, v2, v3] : List Int).length : Int) by simp, if_true]; exact Ev.now _
theorem things_l0 {b : List Int} (hb : Code b) (m : Int) (hm : m ≤ 1000) : ∀ (d : Nat) (x : List Int) (i p : Int), i + d = 3 → 0 ≤ i → (x.length : Int) = i → 0 ≤ p → p + 2 * d ≤ 1000000 →
    ∃ l p', Ev (fun k => spec_l20Things.l0 k m x i b p) (l, p') ∧ l.length = 3 ∧ p' = p + 2 * d := by
  intro d
  induction d with
  | zero =>
    intro x i p hi _ hx _ _
    exact ⟨x, p, Ev.step (f := fun _ => some (x, p)) (fun k => by simp only [spec_l20Things.l0]; rw [if_neg (by omega)]) (Ev.now _), by omega, by omega⟩
  | succ d ih =>
    intro x i p hi h0 hx hp hp1
    obtain ⟨v1, e1, _⟩ := pick hb p (by omega) (by omega) 2 (by omega)
    obtain ⟨v2, e2, _⟩ := pick hb (p + 1) (by omega) (by omega) (wrap64 (m + 1)) (by unfold wrap64; omega)
    obtain ⟨l, p', e3, hl, hp'⟩ := ih (x ++ [wrap64 (v1 * v2)]) (i + 1) (p + 1 + 1) (by omega) (by omega) (by simp; omega) (by omega) (by omega)
    refine ⟨l, p', ?_, hl, by omega⟩
    refine Ev.step (f := fun k => (spec_l20Rd_pick.f k b p 2).bind fun bt262 => ((spec_l20Rd_pick.f k b bt262.2 (wrap64 (m + 1))).bind fun bt264 => (if x.length < 17592186044416 then (spec_l20Things.l0 k m (x ++ [wrap64 (bt262.1 * bt264.1)]) (wrap64 (i + 1)) b bt264.2) else (none)))) (fun k => by simp only [spec_l20Things.l0]; rw [if_pos (by omega)]) ?_
    refine Ev.bind e1 (Ev.bind e2 ?_)
    simp only [show x.length < 17592186044416 by omega, if_true]
    rw [wrap_ok (n := i + 1) (by omega)]
    exact e3
theorem things {b : List Int} (hb : Code b) (m : Int) (hm : m ≤ 1000) (p : Int) (h0 : 0 ≤ p) (h1 : p ≤ 900000) : ∃ l, Ev (fun k => spec_l20Things.f k b p m) (l, p + 6) ∧ l.length = 3 := by
  obtain ⟨l, p', e, hl, hp⟩ := things_l0 hb m hm 3 [] 0 p (by omega) (by omega) (by simp) h0 (by omega)
  exact ⟨l, by rw [show p + 6 = p' by omega]; exact e, hl⟩
def Short (ts : List S45) : Prop := ∀ t ∈ ts, t.f0.length ≤ 3 ∧ t.f1.length ≤ 3
theorem Short.add {ts : List S45} (h : Short ts) {t : S45} (ht : t.f0.length ≤ 3 ∧ t.f1.length ≤ 3) : Short (ts ++ [t]) := by
  intro u hu
  rcases List.mem_append.1 hu with hu | hu
  · exact h u hu
  · rw [List.mem_singleton] at hu; rw [hu]; exact ht
theorem Short.rd {ts : List S45} (h : Short ts) (i : Int) : (rd_T45 ts i).f0.length ≤ 3 ∧ (rd_T45 ts i).f1.length ≤ 3 := by
  unfold rd_T45; rw [List.getD_eq_getElem?_getD]
  cases hx : ts[i.toNat]? with
  | none => simp [z45]
  | some x => exact h x (List.mem_of_getElem? hx)
theorem Short.put {ts : List S45} (h : Short ts) {t : S45} (ht : t.f0.length ≤ 3 ∧ t.f1.length ≤ 3) (i : Nat) : Short (ts.set i t) := by
  intro u hu
  rcases List.mem_or_eq_of_mem_set hu with hu | hu
  · exact h u hu
  · rw [hu]; exact ht
theorem Short.small {ts : List S45} (h : Short ts) (hl : ts.length ≤ 9223372036854775807) : smallT ts := ⟨hl, fun t ht => by have := h t ht; omega⟩
/-- rules that were drawn -/
def Drawn (ts : List S45) : Prop := Short ts ∧ 1 ≤ ts.length ∧ ts.length ≤ 5
theorem trades_l2 {b : List Int} : ∀ (d : Nat) (ts : List S45) (p : Int), Short ts → 1 ≤ ts.length → ts.length + d = 5 → ∃ ts', Ev (fun k => spec_l20Trades.l2 k ts b p) (ts', p) ∧ Drawn ts' := by
  intro d
  induction d with
  | zero =>
    intro ts p hs h1 h5
    exact ⟨ts, Ev.step (f := fun _ => some (ts, p)) (fun k => by simp only [spec_l20Trades.l2]; rw [if_neg (by omega)]) (Ev.now _), hs, h1, by omega⟩
  | succ d ih =>
    intro ts p hs h1 h5
    obtain ⟨ts', e, hd⟩ := ih (ts ++ [⟨(rd_T45 ts 0).f0, (rd_T45 ts 0).f1⟩]) p (hs.add (hs.rd 0)) (by simp) (by simp; omega)
    refine ⟨ts', ?_, hd⟩
    exact Ev.step (f := fun k => spec_l20Trades.l2 k (ts ++ [⟨(rd_T45 ts 0).f0, (rd_T45 ts 0).f1⟩]) b p) (fun k => by simp only [spec_l20Trades.l2]; rw [if_pos (by omega), if_pos (by omega), if_pos (by omega)]) e
theorem trades_j2 {b : List Int} (hb : Code b) (n : Int) (hn : n ≤ 9223372036854775807) (ts : List S45) (p : Int) (h0 : 0 ≤ p) (h1 : p ≤ 900000) (hs : Short ts) (hl1 : 1 ≤ ts.length) (hl4 : ts.length ≤ 4) :
    ∃ ts' p', Ev (fun k => spec_l20Trades.j2 k n ts b p) (ts', p') ∧ Drawn ts' ∧ p ≤ p' ∧ p' ≤ p + 2 := by
  obtain ⟨c, p1, e1, hp1⟩ := odd hb p h0 (by omega) n hn
  have key : ∀ r, Ev (fun k => if c = true then ((spec_l20Rd_pick.f k b p1 3).bind fun bt302 => (if bt302.1 = 0 then (if 0 < (ts.length : Int) then (some ((ts.set (0 : Int).toNat (⟨(([1] : List Int)), (rd_T45 ts 0).f1⟩ : S45)), bt302.2)) else (none)) else (if bt302.1 = 1 then (if 0 < (ts.length : Int) then (some ((ts.set (0 : Int).toNat (⟨(rd_T45 ts 0).f0, (([0, 0, 6] : List Int))⟩ : S45)), bt302.2)) else (none)) else (spec_l20Trades.l2 k ts b bt302.2)))) else (some (ts, p1))) r → Ev (fun k => spec_l20Trades.j2 k n ts b p) r := by
    intro r hk
    exact Ev.step (f := fun k => (spec_l20Rd_odd.f k b p n).bind fun bt300 => (if bt300.1 = true then ((spec_l20Rd_pick.f k b bt300.2 3).bind fun bt302 => (if bt302.1 = 0 then (if 0 < (ts.length : Int) then (some ((ts.set (0 : Int).toNat (⟨(([1] : List Int)), (rd_T45 ts 0).f1⟩ : S45)), bt302.2)) else (none)) else (if bt302.1 = 1 then (if 0 < (ts.length : Int) then (some ((ts.set (0 : Int).toNat (⟨(rd_T45 ts 0).f0, (([0, 0, 6] : List Int))⟩ : S45)), bt302.2)) else (none)) else (spec_l20Trades.l2 k ts b bt302.2)))) else (some (ts, bt300.2)))) (fun k => by simp only [spec_l20Trades.j2]) (Ev.bind e1 hk)
  cases c with
  | false => exact ⟨ts, p1, key _ (by simp only [Bool.false_eq_true, if_false]; exact Ev.now _), ⟨hs, hl1, by omega⟩, by omega, by omega⟩
  | true =>
    obtain ⟨v5, e5, _⟩ := pick hb p1 (by omega) (by omega) 3 (by omega)
    have hpos : 0 < (ts.length : Int) := by omega
    by_cases c1 : v5 = 0
    · refine ⟨ts.set (0 : Int).toNat ⟨[1], (rd_T45 ts 0).f1⟩, p1 + 1, key _ (by simp only [if_true]; refine Ev.bind e5 ?_; simp only [c1, if_true, hpos]; exact Ev.now _), ⟨hs.put (t := ⟨[1], (rd_T45 ts 0).f1⟩) ⟨by show (1 : Nat) ≤ 3; omega, (hs.rd 0).2⟩ _, by rw [List.length_set]; exact hl1, by rw [List.length_set]; omega⟩, by omega, by omega⟩
    · by_cases c2 : v5 = 1
      · refine ⟨ts.set (0 : Int).toNat ⟨(rd_T45 ts 0).f0, [0, 0, 6]⟩, p1 + 1, key _ (by simp only [if_true]; refine Ev.bind e5 ?_; simp only [c2, show ¬ (1 : Int) = 0 by omega, if_false, if_true, hpos]; exact Ev.now _), ⟨hs.put (t := ⟨(rd_T45 ts 0).f0, [0, 0, 6]⟩) ⟨(hs.rd 0).1, by show (3 : Nat) ≤ 3; omega⟩ _, by rw [List.length_set]; exact hl1, by rw [List.length_set]; omega⟩, by omega, by omega⟩
      · obtain ⟨ts', e6, hd⟩ := trades_l2 (b := b) (5 - ts.length) ts (p1 + 1) hs hl1 (by omega)
        exact ⟨ts', p1 + 1, key _ (by simp only [if_true]; refine Ev.bind e5 ?_; simp only [c1, c2, if_false]; exact e6), hd, by omega, by omega⟩
theorem trades_l1 {b : List Int} (n : Int) (ts : List S45) (hts : ts.length ≤ 1000) (x8 x6 p : Int) (hx8 : x8 < 3) (f0 : List Int) (hf0 : f0.length = 3) (P : (List S45 × Int) → Prop)
    (hnext : ∀ f1 : List Int, f1.length = 3 → ∃ r, Ev (fun k => spec_l20Trades.l0 k n (ts ++ [⟨f0, f1⟩]) (wrap64 (x6 - 1)) b p) r ∧ P r) : ∀ (d : Nat) (x9 : Int) (f1 : List Int), x9 + d = x8 + 1 → 0 ≤ x9 → f1.length = 3 →
    ∃ r, Ev (fun k => spec_l20Trades.l1 k n ts x6 x8 x9 b p f0 f1) r ∧ P r := by
  intro d
  induction d with
  | zero =>
    intro x9 f1 h9 h0 hf1
    obtain ⟨r, e, hr⟩ := hnext f1 hf1
    exact ⟨r, Ev.step (f := fun k => spec_l20Trades.l0 k n (ts ++ [⟨f0, f1⟩]) (wrap64 (x6 - 1)) b p) (fun k => by simp only [spec_l20Trades.l1]; rw [if_neg (by omega), if_pos (by omega)]) e, hr⟩
  | succ d ih =>
    intro x9 f1 h9 h0 hf1
    obtain ⟨r, e, hr⟩ := ih (x9 + 1) (f1.set x9.toNat 0) (by omega) (by omega) (by simpa using hf1)
    exact ⟨r, Ev.step (f := fun k => spec_l20Trades.l1 k n ts x6 x8 (x9 + 1) b p f0 (f1.set x9.toNat 0)) (fun k => by simp only [spec_l20Trades.l1]; rw [if_pos (by omega), if_pos (by omega), if_pos (by omega), wrap_ok (n := x9 + 1) (by omega)]) e, hr⟩
theorem trades_l0 {b : List Int} (hb : Code b) (n : Int) (hn : n ≤ 9223372036854775807) : ∀ (d : Nat) (ts : List S45) (x6 p : Int), x6 + 1 = d → 0 ≤ p → p + 20 * d ≤ 800000 → Short ts → 1 ≤ ts.length + d → ts.length + d ≤ 4 →
    ∃ r, Ev (fun k => spec_l20Trades.l0 k n ts x6 b p) r ∧ Drawn r.1 ∧ p ≤ r.2 ∧ r.2 ≤ p + 20 * d + 2 := by
  intro d
  induction d with
  | zero =>
    intro ts x6 p h6 h0 hp hs hl1 hl4
    obtain ⟨ts', p', e, hd, hp'⟩ := trades_j2 hb n hn ts p h0 (by omega) hs (by omega) (by omega)
    exact ⟨(ts', p'), Ev.step (f := fun k => spec_l20Trades.j2 k n ts b p) (fun k => by simp only [spec_l20Trades.l0]; rw [if_neg (by omega), if_neg (by omega)]) e, hd, by simp; omega, by simp; omega⟩
  | succ d ih =>
    intro ts x6 p h6 h0 hp hs hl1 hl4
    obtain ⟨l1, e1, hl1'⟩ := things hb 2 (by omega) p h0 (by omega)
    obtain ⟨l2, e2, hl2'⟩ := things hb 2 (by omega) (p + 6) (by omega) (by omega)
    obtain ⟨v3, e3, hv3, _⟩ := pick hb (p + 6 + 6) (by omega) (by omega) 3 (by omega)
    have key : ∀ r, Ev (fun k => if v3 > 0 then ((spec_l20Rd_pick.f k b (p + 6 + 6 + 1) 3).bind fun bt285 => ((spec_l20Rd_pick.f k b bt285.2 2).bind fun bt287 => (if 0 ≤ bt285.1 then (if bt285.1 < (l1.length : Int) then (spec_l20Trades.l1 k n ts x6 bt285.1 0 b bt287.2 (l1.set (bt285.1 : Int).toNat (wrap64 (1 + bt287.1))) l2) else (none)) else (none)))) else (if ts.length < 2932031007402 then (spec_l20Trades.l0 k n (ts ++ [(⟨l1, l2⟩ : S45)]) (wrap64 (x6 - 1)) b (p + 6 + 6 + 1)) else (none))) r → Ev (fun k => spec_l20Trades.l0 k n ts x6 b p) r := by
      intro r hk
      refine Ev.step (f := fun k => (spec_l20Things.f k b p 2).bind fun bt274 => ((spec_l20Things.f k b bt274.2 2).bind fun bt278 => ((spec_l20Rd_pick.f k b bt278.2 3).bind fun bt283 => (if bt283.1 > 0 then ((spec_l20Rd_pick.f k b bt283.2 3).bind fun bt285 => ((spec_l20Rd_pick.f k b bt285.2 2).bind fun bt287 => (if 0 ≤ bt285.1 then (if bt285.1 < (bt274.1.length : Int) then (spec_l20Trades.l1 k n ts x6 bt285.1 0 b bt287.2 (bt274.1.set (bt285.1 : Int).toNat (wrap64 (1 + bt287.1))) bt278.1) else (none)) else (none)))) else (if ts.length < 2932031007402 then (spec_l20Trades.l0 k n (ts ++ [(⟨bt274.1, bt278.1⟩ : S45)]) (wrap64 (x6 - 1)) b bt283.2) else (none)))))) (fun k => by simp only [spec_l20Trades.l0]; rw [if_pos (by omega)]) ?_
      exact Ev.bind e1 (Ev.bind e2 (Ev.bind e3 hk))
    have ew : wrap64 (x6 - 1) = x6 - 1 := wrap_ok (by omega)
    by_cases c3 : v3 > 0
    · obtain ⟨v4, e4, hv4, hv4'⟩ := pick hb (p + 6 + 6 + 1) (by omega) (by omega) 3 (by omega)
      obtain ⟨v5, e5, hv5, _⟩ := pick hb (p + 6 + 6 + 1 + 1) (by omega) (by omega) 2 (by omega)
      have h4 : v4 < 3 := hv4' (by omega)
      obtain ⟨r, e6, hr⟩ := trades_l1 (b := b) n ts (by omega) v4 x6 (p + 6 + 6 + 1 + 1 + 1) h4 (l1.set v4.toNat (wrap64 (1 + v5))) (by simpa using hl1') (fun r => Drawn r.1 ∧ p ≤ r.2 ∧ r.2 ≤ p + 20 * (d + 1 : Nat) + 2) (by
        intro f1 hf1
        obtain ⟨r, e, h1, h2⟩ := ih (ts ++ [⟨l1.set v4.toNat (wrap64 (1 + v5)), f1⟩]) (x6 - 1) (p + 6 + 6 + 1 + 1 + 1) (by omega) (by omega) (by omega) (hs.add (by simp; omega)) (by simp; omega) (by simp; omega)
        exact ⟨r, by rw [ew]; exact e, h1, by omega, by omega⟩) (v4 + 1).toNat 0 l2 (by omega) (by omega) hl2'
      refine ⟨r, key r ?_, hr⟩
      simp only [c3, if_true]
      refine Ev.bind e4 (Ev.bind e5 ?_)
      simp only [hv4, if_true, show v4 < (l1.length : Int) by omega]
      exact e6
    · obtain ⟨r, e, h1, h2⟩ := ih (ts ++ [⟨l1, l2⟩]) (x6 - 1) (p + 6 + 6 + 1) (by omega) (by omega) (by omega) (hs.add (by simp; omega)) (by simp; omega) (by simp; omega)
      refine ⟨r, key r ?_, h1, by omega, by omega⟩
      simp only [c3, if_false, show ts.length < 2932031007402 by omega, if_true, ew]
      exact e
theorem trades {b : List Int} (hb : Code b) (n : Int) (hn : n ≤ 9223372036854775807) (p : Int) (h0 : 0 ≤ p) (h1 : p ≤ 700000) : ∃ ts p', Ev (fun k => spec_l20Trades.f k b p n) (ts, p') ∧ Drawn ts ∧ p ≤ p' ∧ p' ≤ p + 90 := by
  obtain ⟨v, e, hv, hv'⟩ := pick hb p h0 (by omega) 4 (by omega)
  have h4 := hv' (by omega)
  obtain ⟨⟨ts, p'⟩, e2, hd, hp1, hp2⟩ := trades_l0 hb n hn (v + 1).toNat [] v (p + 1) (by omega) (by omega) (by omega) (by intro t ht; simp at ht) (by simp; omega) (by simp; omega)
  simp only at hp1 hp2 hd
  exact ⟨ts, p', Ev.bind e e2, hd, by omega, by omega⟩
end Go.Proofs.Ytlmgipjalcnfaaa.A
