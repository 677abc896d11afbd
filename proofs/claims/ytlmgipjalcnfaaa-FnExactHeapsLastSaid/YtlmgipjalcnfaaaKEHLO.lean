import Derived.Test.YtlmgipjalcnfaaaKEHLWWords
import Derived.ChangeArms
import Derived.ChangeSlices
import Derived.DataElems
namespace Go.Proofs.Ytlmgipjalcnfaaa.O
open Go.RowKit Go.Proofs.YtlmgipjalcnfaaaW.PrintWords
set_option linter.unusedVariables false
set_option linter.unusedSimpArgs false
/-! What is read as data is read by its kind. -/
def Opens (P : Program) (t : TypeId) {α : Type} (d : Kd α) (Q : α → Prop) : Prop :=
  ∀ (H : Type) (enc : TypeId × Value → H) (w : World) (base : Nat) (sp : Nat → Bool) (held : Bool) (fuel : Nat) (cs : List Value) (x : DataW H × List MemPlace),
    DataW.trod enc P w base sp held fuel t cs = some x → ∃ y, d.K w y cs ∧ Q y
variable {P : Program} {t e : TypeId}
theorem opens_int {k : IntKind} (ht : P.underlying t = some (.int k)) : Opens P t (Kd.int k) (fun n => (Lit.int k n).wf = true) := by
  intro H enc w base sp held fuel cs x h
  obtain ⟨n, rfl, _, hw⟩ := DataW.trod_int ht h
  exact ⟨n, rfl, hw⟩
theorem opens_slice {α : Type} {d : Kd α} {Q : α → Prop} (q : Nat) (ht : P.underlying t = some (.slice e)) (hsz : P.cellsOf e = d.sz) (h : Opens P e d Q) : Opens P t (Kd.slice q d) (fun l => l.length ≤ maxLen ∧ ∀ y ∈ l, Q y) := by
  intro H enc w base sp held fuel cs x hx
  rcases DataW.trod_slice ht hx with ⟨rfl, _⟩ | ⟨a, len, cap, elems, rest, n, _, rfl, _, hb, hl, hm, hlen, hel, _, _⟩
  · exact ⟨[], ⟨none, 0, rfl, Nat.le_refl _, rfl, by simp, fun hp => absurd hp (by simp)⟩, by simp, by simp⟩
  · have each : ∀ m, m ≤ len → ∃ ys : List α, ys.length = m ∧ ∀ j y, ys[j]? = some y → Q y ∧ ∃ c, c.length = d.sz ∧ d.K w y c ∧ ∀ i u, c[i]? = some u → w.cell? (a.add (j * d.sz + i)) = some u := by
      intro m
      induction m with
      | zero => intro _; exact ⟨[], rfl, fun j y hy => by simp at hy⟩
      | succ m ih =>
        intro hm'
        obtain ⟨ys, hys, hall⟩ := ih (by omega)
        have h1 := hel m (by omega)
        rw [List.getElem?_eq_getElem (by omega), Option.bind_eq_some_iff] at h1
        obtain ⟨c, hc, h2⟩ := h1
        obtain ⟨y, hy, hq⟩ := h H enc w base sp held n c _ h2
        have h3 := World.cells?_some hc
        refine ⟨ys ++ [y], by simp [hys], fun j z hz => ?_⟩
        by_cases hj : j < ys.length
        · rw [List.getElem?_append_left hj] at hz
          exact hall j z hz
        · have hjl := (List.getElem?_eq_some_iff.1 hz).1
          rw [List.length_append, List.length_singleton] at hjl
          have hjm : j = ys.length := by omega
          subst hjm
          rw [List.getElem?_append_right (by omega), Nat.sub_self] at hz
          simp at hz
          subst hz
          refine ⟨hq, c, d.K_len hy, hy, fun i u hu => ?_⟩
          have hi := (List.getElem?_eq_some_iff.1 hu).1
          have h4 := h3.2.2 i (by have := h3.2.1; omega)
          rw [hu] at h4
          rw [← h4, hsz, hys, Addr.add_add]
    obtain ⟨ys, hys, hall⟩ := each len (Nat.le_refl _)
    refine ⟨ys, ⟨some a, cap, by rw [hys], by omega, rfl, ?_, fun _ => ⟨a, rfl, fun j y hy => (hall j y hy).2⟩⟩, ?_, fun y hy => ?_⟩
    · unfold maxLen at hm; omega
    · omega
    · obtain ⟨j, hj, hjy⟩ := List.getElem_of_mem hy
      exact (hall j y (by rw [List.getElem?_eq_getElem hj, hjy])).1
/-- a struct's fields from the one at 'off' on -/
def Tail (P : Program) (fs : Array Field) (off : Nat) {α : Type} (d : Kd α) (Q : α → Prop) : Prop :=
  ∀ (H : Type) (enc : TypeId × Value → H) (w : World) (base : Nat) (sp : Nat → Bool) (held : Bool) (n : Nat) (cs : List Value),
    (∀ (i : Nat) (f : Field), fs[i]? = some f → ∃ x : DataW H × List MemPlace, DataW.trod enc P w base sp held n f.type ((cs.drop f.offset).take (P.cellsOf f.type)) = some x) → ∃ y, d.K w y ((cs.drop off).take d.sz) ∧ Q y
theorem tail_one {fs : Array Field} {off i : Nat} {f : Field} {α : Type} {d : Kd α} {Q : α → Prop} (hf : fs[i]? = some f) (ho : f.offset = off) (hsz : P.cellsOf f.type = d.sz) (h : Opens P f.type d Q) : Tail P fs off d Q := by
  intro H enc w base sp held n cs hall
  obtain ⟨x, hx⟩ := hall i f hf
  rw [ho, hsz] at hx
  exact h H enc w base sp held n _ x hx
theorem tail_pair {fs : Array Field} {off : Nat} {α β : Type} {a : Kd α} {b : Kd β} {Q : α → Prop} {R : β → Prop} (ha : Tail P fs off a Q) (hb : Tail P fs (off + a.sz) b R) : Tail P fs off (Kd.pair a b) (fun x => Q x.1 ∧ R x.2) := by
  intro H enc w base sp held n cs hall
  obtain ⟨x, hx, hq⟩ := ha H enc w base sp held n cs hall
  obtain ⟨y, hy, hr⟩ := hb H enc w base sp held n cs hall
  refine ⟨(x, y), ⟨_, _, ?_, hx, hy⟩, hq, hr⟩
  show (cs.drop off).take (a.sz + b.sz) = _
  rw [List.take_add, List.drop_drop]
theorem opens_struct {fs : Array Field} {α : Type} {d : Kd α} {Q : α → Prop} (ht : P.underlying t = some (.struct fs)) (hsz : P.cellsOf t = d.sz) (h : Tail P fs 0 d Q) : Opens P t d Q := by
  intro H enc w base sp held fuel cs x hx
  obtain ⟨xs, n, rfl, rfl, hl, hxs, hall⟩ := DataW.trod_struct ht hx
  obtain ⟨y, hy, hq⟩ := h H enc w base sp held n cs (fun i f hf => by
    have := hall i f hf
    have hi := (Array.getElem?_eq_some_iff.1 hf).1
    rw [List.getElem?_eq_getElem (by omega)] at this
    exact ⟨_, this⟩)
  rw [List.drop_zero, ← hsz, ← hl, List.take_length] at hy
  exact ⟨y, hy, hq⟩
theorem opens_iso {α β : Type} {d : Kd α} {Q : α → Prop} {f : β → α} (g : α → β) (hg : ∀ y, f (g y) = y) (h : Opens P t d Q) : Opens P t (Kd.iso d f) (fun x => Q (f x)) := by
  intro H enc w base sp held fuel cs x hx
  obtain ⟨y, hy, hq⟩ := h H enc w base sp held fuel cs x hx
  refine ⟨g y, ?_, by show Q (f (g y)); rw [hg]; exact hq⟩
  show d.K w (f (g y)) cs
  rw [hg]; exact hy
/-- an argument that is a slice -/
theorem open_arg {α : Type} {d : Kd α} {Q : List α → Prop} {q : Nat} (h : Opens P t (Kd.slice q d) Q) {H : Type} {enc : TypeId × Value → H} {w : World} {base : Nat} {sp : Nat → Bool} {held : Bool} {a : Option Addr} {len cap : Nat} {dd : DataW H} {ps : List MemPlace}
    (hx : DataW.Trod enc P w base sp held t (.slice a len cap) dd ps) : ∃ ys : List α, len = ys.length ∧ ys.length ≤ cap ∧ d.C w a ys.length ys ∧ Q ys := by
  obtain ⟨fuel, hf⟩ := hx
  obtain ⟨ys, ⟨A, c, he, hl, hc⟩, hq⟩ := h H enc w base sp held fuel _ _ hf
  simp [Value.cells] at he
  obtain ⟨rfl, rfl, rfl⟩ := he
  exact ⟨ys, rfl, hl, hc, hq⟩
end Go.Proofs.Ytlmgipjalcnfaaa.O
