import Derived.Test.YtlmgipjalcnfaaaKEHLMap3
import Derived.Test.YtlmgipjalcnfaaaKEHLWMore
/-! Three whole numbers out of a slice, as an array and as a key -/
set_option linter.unusedSimpArgs false
namespace Go.Map3
open Go.RowKit Go.Proofs.YtlmgipjalcnfaaaW.PrintWords
set_option linter.unusedVariables false
section
variable {P : Program} {ops : Array Oper} {rest : List Oper} {o : Oper} {a : Act} {Q : Exit → Act → World → Prop} {k e t el : TypeId}
theorem wp_makeMap (hg : o.guard = none) (t : TypeId) (hop : o.op = Op.makeMap t none) {α : Type} (val : α → Value) {w : World}
    (hK : ∀ g w1, g = w.heap.size → Has3 val w1 g [] → Below w.heap.size w w1 → g < w1.heap.size → wpList P ops Q rest (a.put o.dst (.map (some g))) w1) : wpList P ops Q (o :: rest) a w := by
  refine wpList_plain hg fun K' hK' => ?_
  unfold Oper.wp
  simp [execOp, hop, run_makeMap, Result.andThen]
  exact hK' _ _ (hK _ _ rfl (Has3.made val w) ((Below.refl _ _).alloc (Nat.le_refl _) _) (by simp))
theorem wp_arrAt3 (hg : o.guard = none) (arr : TypeId) (x : Operand) (hop : o.op = Op.sliceToArrayPointer arr x) (K : K3 P arr e) {w : World} {A : Option Addr} {n c : Nat} (hx : a.eval x = .slice A n c) (hn : 3 ≤ n)
    (hK : wpList P ops Q rest (a.put o.dst (.pointer A)) w) : wpList P ops Q (o :: rest) a w := by
  refine wpList_plain hg fun K' hK' => ?_
  unfold Oper.wp
  simp [execOp, hop, hx, run_arrayAt w arr e 3 A n c K.arr hn, Result.andThen]
  exact hK' _ _ hK
theorem run_loadVar3 (K : K3 P k e) (hi : (P.info? k).map (fun i => i.size) = some 3) {w : World} {ad : Addr} {n : Nat} {xs : List Int} (h : (Kd.int .i64).C w (some ad) n xs) (hn : 3 ≤ n) : (loadVar k ad).run P w = .ok (key3 (rd xs 0) (rd xs 1) (rd xs 2)) w := by
  have hl : (loadCells ad [Value.int .i64 (rd xs 0), .int .i64 (rd xs 1), .int .i64 (rd xs 2)].length).run P w = .ok [Value.int .i64 (rd xs 0), .int .i64 (rd xs 1), .int .i64 (rd xs 2)].toArray w := by
    refine run_loadCells_list (P := P) w ad _ (fun j v hv => ?_)
    have hr := Kd.reads_of_C (d := (0 : Int)) (h1 := fun _ => rfl) h
    obtain ⟨ad', e', hc⟩ := hr.2.2 (by omega)
    cases e'
    have hj : j < 3 := by
      rcases Nat.lt_or_ge j 3 with h3 | h3
      · exact h3
      · rw [List.getElem?_eq_none (by simpa using h3)] at hv; cases hv
    have h2 := hc j (by omega)
    rw [h2]
    rcases j with _ | _ | _ | j
    · simpa [rd] using hv
    · simpa [rd] using hv
    · simpa [rd] using hv
    · omega
  obtain ⟨i, hq, hs⟩ := Option.map_eq_some_iff.1 hi
  have hagg : (isAgg k).run P w = .ok true w := by
    unfold isAgg
    rw [Sem.run_bind, run_underlying K.arr w]
    simp
  simp only [List.length_cons, List.length_nil] at hl
  simp [loadVar, Sem.run_bind, hagg, sizeOf, typeInfo, hq, hs, hl, key3]
theorem wp_load3 (hg : o.guard = none) (k : TypeId) (x : Operand) (hop : o.op = Op.load k x) (K : K3 P k e) (hi : (P.info? k).map (fun i => i.size) = some 3) {w : World} {ad : Addr} {n : Nat} {xs : List Int} (hx : a.eval x = .pointer (some ad))
    (h : (Kd.int .i64).C w (some ad) n xs) (hn : 3 ≤ n) (hK : wpList P ops Q rest (a.put o.dst (key3 (rd xs 0) (rd xs 1) (rd xs 2))) w) : wpList P ops Q (o :: rest) a w := by
  refine wpList_plain hg fun K' hK' => ?_
  unfold Oper.wp
  simp [execOp, hop, hx, Instr.loadAt, Instr.sureAddr, Sem.run_bind, run_loadVar3 K hi h hn, Result.andThen]
  exact hK' _ _ hK
end
section
variable {P : Program} {ops : Array Oper} {rest : List Oper} {o : Oper} {a : Act} {Q : Exit → Act → World → Prop} {k e t el : TypeId}
theorem wp_look3v (hg : o.guard = none) (m x : Operand) (t : TypeId) (hop : o.op = Op.lookup t m x false) (K : K3 P k e) (ht : P.underlying t = some (.map k el)) {z : Value} (hz : ∀ W : World, (zeroValue el).run P W = .ok z W)
    {w : World} {g : Nat} {α : Type} {val : α → Value} {hs : List ((Int × Int × Int) × α)} (h : Has3 val w g hs) (p q r : Int) (v : Value) (hv : ((hs.find? (fun h => h.1 == (p, q, r))).map (fun h => val h.2)).getD z = v) (hm : a.eval m = .map (some g)) (hx : a.eval x = key3 p q r)
    (hK : wpList P ops Q rest (a.put o.dst v) w) : wpList P ops Q (o :: rest) a w := by
  subst hv
  exact wp_lookup3 hg m x t hop K ht hz h p q r hm hx hK
end
section
variable {α β : Type} {val : β → Value} {d : Kd α} {e base gm : Nat} {ok : Nat → Prop} {w W w1 : World} {v : Value} {xs : List α} {hs : List ((Int × Int × Int) × β)}
theorem Has3.alloc_ (h : Has3 val W gm hs) (o : Obj) : Has3 val (W.alloc o) gm hs := h.below ((Below.refl _ _).alloc (Nat.le_refl _) o)
theorem Has3.drew_ (h : Has3 val W gm hs) : Has3 val W.drew gm hs := h
theorem Has3.drewN_ (h : Has3 val W gm hs) (n : Nat) : Has3 val (W.drewN n) gm hs := h
theorem Has3.set_ (h : Has3 val W gm hs) {p : Addr} (hp : p.block ≠ gm) (u : Value) : Has3 val (W.setCell p u) gm hs := h.step (Below.heap_setCell W p u gm (fun e => hp e.symm))
theorem Has3.set2_ (h : Has3 val W gm hs) {g : Nat} (hp : g ≠ gm) (j : Nat) (u : Value) : Has3 val (W.setCell ⟨g, j, none⟩ u) gm hs := h.set_ hp u
theorem ne_cells (hm : Has3 val W gm hs) {k q : Nat} {cells : Array Value} (h : W.heap[k]? = some (.cells cells q (0, 0))) : k ≠ gm := by
  rintro rfl
  obtain ⟨es, cl, hb, _⟩ := hm
  rw [hb] at h
  cases h
theorem S_mapped (h : Kd.S d e W base ok v xs) (hm : Has3 val W gm hs) (hg : W.grownBy w1 (some gm)) : Kd.S d e w1 base ok v xs :=
  Kd.S_mono (Kd.S_grown (Kd.S_bound h) hg (fun k hk he => by
    obtain ⟨_, _, _, q, _, cells, hc⟩ := hk
    injection he with he
    exact ne_cells hm hc he)) (fun _ hk => hk.1)
theorem R_mapped (h : d.R e W base ok v xs) (hm : Has3 val W gm hs) (hg : W.grownBy w1 (some gm)) : d.R e w1 base ok v xs :=
  Kd.R_mono (Kd.R_grown (Kd.R_bound h) hg (fun k hk he => by
    obtain ⟨_, _, _, q, _, cells, hc⟩ := hk
    injection he with he
    exact ne_cells hm hc he)) (fun _ hk => hk.1)
theorem blk_mapped {g q : Nat} {cells : Array Value} (h : W.heap[g]? = some (.cells cells q (0, 0))) (hm : Has3 val W gm hs) (hg : W.grownBy w1 (some gm)) : w1.heap[g]? = some (.cells cells q (0, 0)) :=
  blk_grown h hg (fun he => by injection he with he; exact ne_cells hm h he)
theorem below_mapped {B : Nat} (h : Below B w W) (hB : B ≤ gm) (hm : Has3 val W gm hs) (hg : W.grownBy w1 (some gm)) : Below B w w1 :=
  h.grown hg (by have := hm.lt; omega) (fun k hk => by injection hk with hk; omega)
theorem S_ne_map (h : Kd.S d e W base ok v xs) (hm : Has3 val W gm hs) : v.ownBlock ≠ some gm := fun he => by
  obtain ⟨cells, hc⟩ := Kd.S_typed h gm he
  exact ne_cells hm hc rfl
end
theorem lit_one {W : World} {base : Nat} {ok : Nat → Prop} {v : Value} {ys : List Int} (h : (Kd.int .i64).R 3 W base ok v ys) : ∀ (j : Nat) (x : List Int), [ys][j]? = some x → (Kd.slice 3 (Kd.int .i64)).M W base (fun k => j = 0 ∧ some k = v.ownBlock) x (([v].drop (j * (Kd.slice 3 (Kd.int .i64)).sz)).take (Kd.slice 3 (Kd.int .i64)).sz) := by
  intro j x hx
  rcases j with _ | j
  · have hx' : ys = x := by simpa using hx
    subst hx'
    exact Kd.M_row (Kd.R_mono (Kd.R_tight rfl h) (fun _ h_ => ⟨rfl, h_⟩))
  · simp at hx
/-- the key of a row -/
def kOf (h : List Int) : Int × Int × Int := (rd h 0, rd h 1, rd h 2)
theorem kOf_inj {x y : List Int} (hx : x.length = 3) (hy : y.length = 3) (h : kOf x = kOf y) : x = y := by
  match x, y, hx, hy with
  | [a, b, c], [a', b', c'], _, _ =>
    simp [kOf, rd] at h
    simp [h]
def hasL (xs : List (List Int)) (x : List Int) : Bool := xs.any (fun y => y == x)
def seenK (xs : List (List Int)) : List ((Int × Int × Int) × Bool) := xs.map fun h => (kOf h, true)
theorem seen_find (xs : List (List Int)) (hx : ∀ h ∈ xs, h.length = 3) (x : List Int) (h3 : x.length = 3) : (((seenK xs).find? (fun h => h.1 == kOf x)).map (fun h => Value.bool h.2)).getD (.bool false) = .bool (hasL xs x) := by
  induction xs with
  | nil => rfl
  | cons y xs ih =>
    have ih := ih (fun h hh => hx h (List.mem_cons_of_mem _ hh))
    simp only [seenK, List.map_cons, List.find?_cons] at ih ⊢
    by_cases hk : y = x
    · subst hk; simp [hasL]
    · have hk' : (kOf y == kOf x) = false := by
        rw [beq_eq_false_iff_ne]
        exact fun h => hk (kOf_inj (hx y (by simp)) h3 h)
      have : hasL (y :: xs) x = hasL xs x := by
        have : (y == x) = false := by rw [beq_eq_false_iff_ne]; exact hk
        simp [hasL, this]
      simp only [hk', this]
      exact ih
theorem seen_put (xs : List (List Int)) (hx : ∀ h ∈ xs, h.length = 3) (x : List Int) (h3 : x.length = 3) (hn : hasL xs x = false) : put3 (seenK xs) (kOf x) true = seenK (xs ++ [x]) := by
  have : (seenK xs).findIdx? (fun h => h.1 == kOf x) = none := by
    rw [List.findIdx?_eq_none_iff]
    intro y hy
    obtain ⟨z, hz, rfl⟩ := List.mem_map.1 hy
    rw [beq_eq_false_iff_ne]
    intro he
    have := kOf_inj (hx z hz) h3 he
    subst this
    have : hasL xs z = true := List.any_eq_true.2 ⟨z, hz, by simp⟩
    rw [hn] at this
    cases this
  unfold put3
  rw [this]
  simp [seenK]
theorem seen_run (xs : List (List Int)) (hx : ∀ h ∈ xs, h.length = 3) (x : List Int) (h3 : x.length = 3) : (((seenK xs).find? (fun h => h.1 == (rd x 0, rd x 1, rd x 2))).map (fun h => Value.bool h.2)).getD (.bool false) = .bool (hasL xs x) := seen_find xs hx x h3
theorem seen_puts (xs : List (List Int)) (hx : ∀ h ∈ xs, h.length = 3) (x : List Int) (h3 : x.length = 3) (hn : hasL xs x = false) : put3 (seenK xs) (rd x 0, rd x 1, rd x 2) true = seenK (xs ++ [x]) := seen_put xs hx x h3 hn
/-- a table from rows of three to numbers -/
def tget (x : List Int) (m : List ((Int × Int × Int) × Int)) : Option Int := if x.length = 3 then some (((m.find? (fun h => h.1 == kOf x)).map (fun h => h.2)).getD 0) else none
def tput (x : List Int) (n : Int) (m : List ((Int × Int × Int) × Int)) : Option (List ((Int × Int × Int) × Int)) := if x.length = 3 then some (put3 m (kOf x) n) else none
end Go.Map3
