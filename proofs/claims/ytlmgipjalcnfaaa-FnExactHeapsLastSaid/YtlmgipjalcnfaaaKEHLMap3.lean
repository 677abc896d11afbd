import Derived.WalkKit
import Derived.Maps.Own
import Derived.Maps.OwnOps
import Derived.DeepKeys3
import Derived.Laws.Cover3
set_option linter.unusedSimpArgs false
set_option linter.unusedVariables false
namespace Go.Map3
open Go.RowKit
/-- three whole numbers, as a key -/
def key3 (a b c : Int) : Value := .agg #[.int .i64 a, .int .i64 b, .int .i64 c]
section
variable {P : Program} {k e t : TypeId}
structure K3 (P : Program) (k e : TypeId) : Prop where
  arr : P.underlying k = some (.array 3 e)
  int : P.underlying e = some (.int .i64)
  size : (P.info? e).map (fun i => i.size) = some 1
theorem run_size (K : K3 P k e) (w : World) : (sizeOf e).run P w = .ok 1 w := by
  obtain ⟨i, hi, hs⟩ := Option.map_eq_some_iff.1 K.size
  simp [sizeOf, typeInfo, hi, hs]
theorem run_isAgg (K : K3 P k e) (w : World) : (isAgg e).run P w = .ok false w := by
  simp [isAgg, run_underlying K.int]
theorem run_part (K : K3 P k e) (w : World) (xs : Array Value) (j : Nat) (v : Value) (h : xs[j]? = some v) : (part e xs j).run P w = .ok v w := by
  simp [part, run_isAgg K, h]
theorem run_eqInt (K : K3 P k e) (w : World) (d : Nat) (x y : Int) : (Op.equalIn (d + 1) e (.int .i64 x) (.int .i64 y)).run P w = .ok (x == y) w := by
  simp [Op.equalIn, run_underlying K.int]
theorem run_equal3 (K : K3 P k e) (w : World) (a b c a' b' c' : Int) : (Op.equal k (key3 a b c) (key3 a' b' c')).run P w = .ok (decide (a = a' ∧ b = b' ∧ c = c')) w := by
  obtain ⟨i, hi, hs⟩ := Option.map_eq_some_iff.1 K.size
  have hc : P.cellsOf e = 1 := by simp [Program.cellsOf, hi, hs]
  unfold Op.equal Op.maxDepth key3
  rw [show (10000 : Nat) = 9999 + 1 from rfl, run_equalIn_array w 9999 _ _ K.arr hi, hc]
  have e0 := run_part K w #[.int .i64 a, .int .i64 b, .int .i64 c] 0 (.int .i64 a) rfl
  have e1 := run_part K w #[.int .i64 a, .int .i64 b, .int .i64 c] 1 (.int .i64 b) rfl
  have e2 := run_part K w #[.int .i64 a, .int .i64 b, .int .i64 c] 2 (.int .i64 c) rfl
  have f0 := run_part K w #[.int .i64 a', .int .i64 b', .int .i64 c'] 0 (.int .i64 a') rfl
  have f1 := run_part K w #[.int .i64 a', .int .i64 b', .int .i64 c'] 1 (.int .i64 b') rfl
  have f2 := run_part K w #[.int .i64 a', .int .i64 b', .int .i64 c'] 2 (.int .i64 c') rfl
  have r0 : ∀ x y, (Op.equalIn 9999 e (.int .i64 x) (.int .i64 y)).run P w = .ok (x == y) w := fun x y => run_eqInt K w 9998 x y
  simp only [show List.range 3 = [0, 1, 2] from rfl, Op.eqItems, Sem.run_bind, Nat.mul_one, e0, f0, Result.andThen_ok, r0]
  by_cases ha : a = a'
  · subst ha
    by_cases hb : b = b'
    · subst hb
      by_cases hc : c = c'
      · subst hc; simp [e1, e2, r0]
      · simp [hc, e1, e2, f1, f2, r0]
    · simp [hb, e1, f1, r0]
  · simp [ha]
theorem run_checkInt (K : K3 P k e) (w : World) (em : Bool) (d : Nat) (x : Int) : (Instr.checkKey em (d + 1) e (.int .i64 x)).run P w = .ok () w := by
  simp [Instr.checkKey, run_underlying K.int]
theorem run_check3 (K : K3 P k e) (w : World) (em : Bool) (a b c : Int) : (Instr.checkKey em 10000 k (key3 a b c)).run P w = .ok () w := by
  have p0 := run_part K w #[.int .i64 a, .int .i64 b, .int .i64 c] 0 (.int .i64 a) rfl
  have p1 := run_part K w #[.int .i64 a, .int .i64 b, .int .i64 c] 1 (.int .i64 b) rfl
  have p2 := run_part K w #[.int .i64 a, .int .i64 b, .int .i64 c] 2 (.int .i64 c) rfl
  have r0 : ∀ x, (Instr.checkKey em 9999 e (.int .i64 x)).run P w = .ok () w := fun x => run_checkInt K w em 9998 x
  unfold key3
  rw [show (10000 : Nat) = 9999 + 1 from rfl, Instr.checkKey]
  simp only [Sem.run_bind, run_underlying K.arr, Result.andThen_ok]
  simp only [Std.Legacy.Range.forIn_eq_forIn_range', Std.Legacy.Range.size, Nat.sub_zero, Nat.add_one_sub_one, Nat.div_one]
  rw [show List.range' 0 3 1 = [0, 1, 2] from rfl]
  simp only [List.forIn_cons, List.forIn_nil, Sem.run_bind, run_size K, Result.andThen_ok, Nat.zero_mul, Nat.one_mul, Nat.mul_one, p0, p1, p2, r0, Sem.run_pure]
/-- the place of a key among entries -/
theorem run_find3 (K : K3 P k e) (w : World) (a b c : Int) {α : Type} (val : α → Value) : ∀ (hs : List ((Int × Int × Int) × α)) (es : List MapEntry) (i : Nat), es.map (fun x => (x.key, x.val)) = hs.map (fun h => (key3 h.1.1 h.1.2.1 h.1.2.2, val h.2)) →
    (Instr.findAsking k (key3 a b c) es i).run P w = .ok ((hs.findIdx? (fun h => h.1 == (a, b, c))).map (fun j => (i + j, ((hs[j]?).map (fun h => val h.2)).getD undef))) w
  | [], [], i, _ => by simp [Instr.findAsking]
  | [], _ :: _, _, h => by simp at h
  | _ :: _, [], _, h => by simp at h
  | h :: hs, x :: es, i, he => by
    simp only [List.map_cons, List.cons.injEq, Prod.mk.injEq] at he
    obtain ⟨⟨h1, h2⟩, h3⟩ := he
    obtain ⟨⟨a', b', c'⟩, y⟩ := h
    have ih := run_find3 K w a b c val hs es (i + 1) h3
    simp only [Instr.findAsking, Sem.run_bind, h1, run_equal3 K, Result.andThen_ok]
    by_cases hk : a = a' ∧ b = b' ∧ c = c'
    · obtain ⟨rfl, rfl, rfl⟩ := hk
      simp [List.findIdx?_cons, h2]
    · have hne : ((a', b', c') == (a, b, c)) = false := by
        rw [beq_eq_false_iff_ne]
        intro h; injection h with h4 h5; injection h5 with h5 h6
        exact hk ⟨h4.symm, h5.symm, h6.symm⟩
      simp only [decide_eq_false hk, Bool.false_eq_true, if_false, ih, List.findIdx?_cons, hne, Option.map_map]
      congr 1
      cases hs.findIdx? (fun h => h.1 == (a, b, c)) with
      | none => rfl
      | some j => simp [Function.comp, Nat.add_assoc, Nat.add_comm 1 j]
theorem run_findKey3 (K : K3 P k e) (w : World) (a b c : Int) {α : Type} (val : α → Value) (hs : List ((Int × Int × Int) × α)) (es : List MapEntry) (he : es.map (fun x => (x.key, x.val)) = hs.map (fun h => (key3 h.1.1 h.1.2.1 h.1.2.2, val h.2))) :
    (Instr.findKey k (key3 a b c) es).run P w = .ok ((hs.findIdx? (fun h => h.1 == (a, b, c))).map (fun j => (j, ((hs[j]?).map (fun h => val h.2)).getD undef))) w := by
  have h0 := run_find3 K w a b c val hs es 0 he
  cases es with
  | nil =>
    cases hs with
    | nil => simp [Instr.findKey, run_underlying K.arr, Instr.findNow]
    | cons _ _ => simp at he
  | cons x es =>
    simp only [Nat.zero_add] at h0
    simp [Instr.findKey, run_underlying K.arr, Instr.findNow, Instr.sameNow, h0]
/-- block g is a map from three whole numbers: its entries, in the order in which they came -/
def Has3 {α : Type} (val : α → Value) (w : World) (g : Nat) (hs : List ((Int × Int × Int) × α)) : Prop :=
  ∃ es clock, w.heap[g]? = some (.map es clock) ∧ es.toList.map (fun x => (x.key, x.val)) = hs.map (fun h => (key3 h.1.1 h.1.2.1 h.1.2.2, val h.2))
theorem Has3.lt {α : Type} {val : α → Value} {w : World} {g : Nat} {hs : List ((Int × Int × Int) × α)} (h : Has3 val w g hs) : g < w.heap.size := by
  obtain ⟨es, cl, hb, _⟩ := h
  exact (Array.getElem?_eq_some_iff.1 hb).1
theorem Has3.step {α : Type} {val : α → Value} {w w1 : World} {g : Nat} {hs : List ((Int × Int × Int) × α)} (h : Has3 val w g hs) (hm : w1.heap[g]? = w.heap[g]?) : Has3 val w1 g hs := by
  obtain ⟨es, cl, hb, he⟩ := h
  exact ⟨es, cl, hm.trans hb, he⟩
theorem Has3.below {α : Type} {val : α → Value} {w w1 : World} {g : Nat} {hs : List ((Int × Int × Int) × α)} (h : Has3 val w g hs) (hb : Below w.heap.size w w1) : Has3 val w1 g hs := h.step (hb.block g h.lt)
theorem Has3.grown {α : Type} {val : α → Value} {w w1 : World} {g : Nat} {row : Option Nat} {hs : List ((Int × Int × Int) × α)} (h : Has3 val w g hs) (hg : w.grownBy w1 row) (hne : row ≠ some g) : Has3 val w1 g hs := h.step (hg.block g h.lt (fun e => hne e.symm))
theorem Has3.made {α : Type} (val : α → Value) (w : World) : Has3 val (w.alloc (.map #[] 0)) w.heap.size [] := ⟨#[], 0, heap_alloc_new w _, by simp⟩
theorem run_lookup3 {el : TypeId} (K : K3 P k e) (ht : P.underlying t = some (.map k el)) {z : Value} (hz : ∀ W : World, (zeroValue el).run P W = .ok z W) {w : World} {g : Nat} {α : Type} {val : α → Value} {hs : List ((Int × Int × Int) × α)} (h : Has3 val w g hs) (a b c : Int) :
    (Instr.lookup t (.map (some g)) (key3 a b c) false).run P w = .ok (((hs.find? (fun h => h.1 == (a, b, c))).map (fun h => val h.2)).getD z) w := by
  obtain ⟨es, cl, hb, he⟩ := h
  simp only [Instr.lookup, Sem.run_bind, run_underlying ht, Result.andThen_ok, MapKept.run_getObj_map hb, Sem.run_pure, run_check3 K, run_findKey3 K w a b c val hs es.toList he]
  have hfi : hs.find? (fun h => h.1 == (a, b, c)) = (hs.findIdx? (fun h => h.1 == (a, b, c))).bind (fun j => hs[j]?) := by
    clear he
    induction hs with
    | nil => simp
    | cons x hs ih =>
      rw [List.find?_cons, List.findIdx?_cons]
      cases hx : (x.1 == (a, b, c)) with
      | true => simp
      | false => simp [ih, Option.bind_map, Function.comp_def]
  rw [hfi]
  cases hf : hs.findIdx? (fun h => h.1 == (a, b, c)) with
  | none => simp [hz]
  | some j =>
    obtain ⟨hj, _⟩ := List.findIdx?_eq_some_iff_getElem.1 hf
    simp [List.getElem?_eq_getElem hj]
/-- what a store leaves -/
def put3 {α : Type} (hs : List ((Int × Int × Int) × α)) (x : Int × Int × Int) (y : α) : List ((Int × Int × Int) × α) :=
  match hs.findIdx? (fun h => h.1 == x) with
  | some j => hs.set j (x, y)
  | none => hs ++ [(x, y)]
theorem run_update3 {el : TypeId} (K : K3 P k e) (ht : P.underlying t = some (.map k el)) {w : World} {g : Nat} {α : Type} {val : α → Value} {hs : List ((Int × Int × Int) × α)} (h : Has3 val w g hs) (a b c : Int) (y : α) :
    ∃ w1, (Instr.mapUpdate t (.map (some g)) (key3 a b c) (val y)).run P w = .ok () w1 ∧ Has3 val w1 g (put3 hs (a, b, c) y) ∧ w.grownBy w1 (some g) := by
  have hlt := h.lt
  obtain ⟨es, cl, hb, he⟩ := h
  have hgr : ∀ o, w.grownBy { w with heap := w.heap.setIfInBounds g o } (some g) := fun o => ⟨rfl, rfl, rfl, by simp, fun j hj hne => by
    have : g ≠ j := fun e => hne (by rw [e])
    simp [this]⟩
  unfold put3
  cases hf : hs.findIdx? (fun h => h.1 == (a, b, c)) with
  | none =>
    refine ⟨_, ?_, ?_, hgr (.map (es.push { key := key3 a b c, val := val y, born := cl }) (cl + 1))⟩
    · simp [Instr.mapUpdate, run_underlying ht, MapKept.run_getObj_map hb, run_check3 K, run_findKey3 K w a b c val hs es.toList he, hf, MapKept.run_setObj_map _ hb]
    · exact ⟨_, _, by simp [hlt]; exact ⟨rfl, rfl⟩, by simp [he]⟩
  | some j =>
    obtain ⟨hj, hjk, _⟩ := List.findIdx?_eq_some_iff_getElem.1 hf
    have hk : hs[j].1 = (a, b, c) := by simpa using hjk
    have hlen : es.size = hs.length := by have := congrArg List.length he; simpa using this
    have hje : j < es.size := by omega
    have hkey : es[j].key = key3 a b c := by
      have := congrArg (fun l => l[j]?) he
      simp [List.getElem?_eq_getElem hj, Array.getElem?_eq_getElem hje] at this
      rw [this.1, hk]
    have hst : ∀ W : World, (Instr.keyThatStays (key3 a b c) (key3 a b c)).run P W = .ok (key3 a b c) W := fun W => by
      simp [Instr.keyThatStays, key3, Instr.sameBits]
    refine ⟨_, ?_, ?_, hgr (.map (es.modify j fun x => { x with key := key3 a b c, val := val y }) cl)⟩
    · simp [Instr.mapUpdate, run_underlying ht, MapKept.run_getObj_map hb, run_check3 K, run_findKey3 K w a b c val hs es.toList he, hf, MapKept.run_setObj_map _ hb, hje, hkey, hst]
    · refine ⟨_, _, by simp [hlt]; exact ⟨rfl, rfl⟩, ?_⟩
      apply List.ext_getElem?
      intro i
      have hi := congrArg (fun l => l[i]?) he
      simp only [List.getElem?_map] at hi
      by_cases hij : i = j
      · subst hij
        simp [Array.getElem?_modify, hje, List.getElem?_set, hj]
      · have hij' : j ≠ i := fun e => hij e.symm
        simp [Array.getElem?_modify, List.getElem?_set, hij', hi]
        simpa using hi
end
section
variable {P : Program} {ops : Array Oper} {rest : List Oper} {o : Oper} {a : Act} {Q : Exit → Act → World → Prop} {k e t el : TypeId}
/-- m[x] at the operation -/
theorem wp_lookup3 (hg : o.guard = none) (m x : Operand) (t : TypeId) (hop : o.op = Op.lookup t m x false) (K : K3 P k e) (ht : P.underlying t = some (.map k el)) {z : Value} (hz : ∀ W : World, (zeroValue el).run P W = .ok z W)
    {w : World} {g : Nat} {α : Type} {val : α → Value} {hs : List ((Int × Int × Int) × α)} (h : Has3 val w g hs) (p q r : Int) (hm : a.eval m = .map (some g)) (hx : a.eval x = key3 p q r)
    (hK : wpList P ops Q rest (a.put o.dst (((hs.find? (fun h => h.1 == (p, q, r))).map (fun h => val h.2)).getD z)) w) : wpList P ops Q (o :: rest) a w := by
  refine wpList_plain hg fun K' hK' => ?_
  unfold Oper.wp
  simp [execOp, hop, hm, hx, run_lookup3 K ht hz h, Result.andThen]
  exact hK' _ _ hK
/-- m[x] = y at the operation -/
theorem wp_update3 (hg : o.guard = none) (m x v : Operand) (t : TypeId) (hop : o.op = Op.mapUpdate t m x v) (K : K3 P k e) (ht : P.underlying t = some (.map k el))
    {w : World} {g : Nat} {α : Type} {val : α → Value} {hs : List ((Int × Int × Int) × α)} (h : Has3 val w g hs) (p q r : Int) (y : α) (hm : a.eval m = .map (some g)) (hx : a.eval x = key3 p q r) (hv : a.eval v = val y)
    (hK : ∀ w1, Has3 val w1 g (put3 hs (p, q, r) y) → w.grownBy w1 (some g) → wpList P ops Q rest (a.put o.dst undef) w1) : wpList P ops Q (o :: rest) a w := by
  refine wpList_plain hg fun K' hK' => ?_
  obtain ⟨w1, hrun, h1, h2⟩ := run_update3 K ht h p q r y
  unfold Oper.wp
  simp [execOp, hop, hm, hx, hv, hrun, Result.andThen]
  exact hK' _ _ (hK w1 h1 h2)
/-- .. in a literal -/
theorem wp_insert3 (hg : o.guard = none) (m x v : Operand) (t : TypeId) (hop : o.op = Op.insert t m x v) (K : K3 P k e) (ht : P.underlying t = some (.map k el))
    {w : World} {g : Nat} {α : Type} {val : α → Value} {hs : List ((Int × Int × Int) × α)} (h : Has3 val w g hs) (p q r : Int) (y : α) (hm : a.eval m = .map (some g)) (hx : a.eval x = key3 p q r) (hv : a.eval v = val y)
    (hK : ∀ w1, Has3 val w1 g (put3 hs (p, q, r) y) → w.grownBy w1 (some g) → wpList P ops Q rest (a.put o.dst undef) w1) : wpList P ops Q (o :: rest) a w := by
  refine wpList_plain hg fun K' hK' => ?_
  obtain ⟨w1, hrun, h1, h2⟩ := run_update3 K ht h p q r y
  unfold Oper.wp
  simp [execOp, hop, hm, hx, hv, hrun, Result.andThen]
  exact hK' _ _ (hK w1 h1 h2)
end
end Go.Map3
