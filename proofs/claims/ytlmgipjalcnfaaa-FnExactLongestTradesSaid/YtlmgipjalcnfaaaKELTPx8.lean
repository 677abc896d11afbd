-- Written by a program (wip/tools/prx.py over the guide's printer). Not trusted: Lean checks it.
import Derived.Test.YtlmgipjalcnfaaaKELTPx0
import Derived.Test.YtlmgipjalcnfaaaKELTPx7
namespace Go.Proofs.Ytlmgipjalcnfaaa.P
open Go.RowKit Go.Proofs.YtlmgipjalcnfaaaW.PrintWords Go.Proofs.YtlmgipjalcnfaaaW.PrintLast Go.Proofs.YtlmgipjalcnfaaaW.PrintMore
attribute [local go_sem] max2_int min2_int max_two min_two max_three min_three max_four min_four   -- for this text's walks alone
set_option linter.unusedVariables false
set_option linter.unusedSimpArgs false
/-! ### laws_markTradeS: by hand: the numbers of each exchange's rows are written anew (what stands in them then isn't told) -/
def laws_markTradeS.IntsKept (w w' : World) : Prop := ∀ (e base : Nat) (ok : Nat → Prop) (u : Value) (ys : List Int), (Kd.int .i64).R e w base ok u ys → ∃ ys' : List Int, ys'.length = ys.length ∧ (Kd.int .i64).R e w' base ok u ys'
theorem laws_markTradeS.IntsKept.refl (w : World) : laws_markTradeS.IntsKept w w := fun _ _ _ _ ys h => ⟨ys, rfl, h⟩
theorem laws_markTradeS.IntsKept.set {w w' : World} (h : laws_markTradeS.IntsKept w w') (g j : Nat) (n : Int) : laws_markTradeS.IntsKept w (w'.setCell ⟨g, j, none⟩ (.int .i64 n)) := by
  intro e base ok u ys hR
  obtain ⟨zs, hl, hR⟩ := h e base ok u ys hR
  by_cases hg : u.ownBlock = some g
  · by_cases hj : j < zs.length
    · obtain ⟨A, c, rfl⟩ := Kd.R_slice hR
      obtain ⟨g', c', e1, _, _, _⟩ := Kd.R_form hR (by omega)
      injection e1 with e1 _ _
      subst e1
      simp [Value.ownBlock] at hg
      subst hg
      have := (Kd.R_putg hR (j : Int) n).1
      rw [Int.toNat_natCast] at this
      exact ⟨_, by rw [List.length_set]; exact hl, this⟩
    · refine ⟨zs, hl, ?_⟩
      obtain ⟨h0, inner, ⟨h1, h2⟩, hr⟩ := hR
      refine ⟨h0, inner, ⟨h1, ?_⟩, hr.imp_ (fun _ _ hp => hp)⟩
      rcases h2 with h2 | ⟨g', cap, cur, rfl, hb, hh, h3, h4, h5, h6⟩
      · exact .inl h2
      · simp [Value.ownBlock] at hg
        subst hg
        refine .inr ⟨g', cap, cur.setIfInBounds j (.int .i64 n), rfl, hb, ?_, h3, h4, by simpa using h5, ?_⟩
        · show (w'.heap.modify g' _)[g']? = _
          rw [Array.getElem?_modify, if_pos rfl, hh]; rfl
        · rw [← h6, Array.toList_setIfInBounds, List.take_set_of_le]
          show zs.length * 1 ≤ j
          omega
  · refine ⟨zs, hl, ?_⟩
    exact Kd.R_mono (Kd.R_far (p := ⟨g, j, none⟩) (Kd.R_tight2 rfl hR) (fun k hk e_ => hg (by rw [← hk.1]; exact congrArg some e_)) _) (fun _ hk => hk.2)
/-- of the same form -/
def laws_markTradeS.Like (xs ys : List S45) : Prop := xs.length = ys.length ∧ ∀ i : Int, (rd_T45 xs i).f0.length = (rd_T45 ys i).f0.length ∧ (rd_T45 xs i).f1.length = (rd_T45 ys i).f1.length
theorem laws_markTradeS.Like.put {xs ys : List S45} (h : laws_markTradeS.Like xs ys) (i : Nat) (t : S45) (h0 : t.f0.length = (rd_T45 xs i).f0.length) (h1 : t.f1.length = (rd_T45 xs i).f1.length) : laws_markTradeS.Like (xs.set i t) ys := by
  refine ⟨by rw [List.length_set]; exact h.1, fun j => ?_⟩
  by_cases e : j.toNat = i
  · by_cases hi : i < xs.length
    · have e1 : rd_T45 (xs.set i t) j = t := by
        unfold rd_T45; rw [List.getD_eq_getElem?_getD, e, List.getElem?_set_self hi]; rfl
      have e2 : rd_T45 xs (i : Int) = rd_T45 xs j := by
        unfold rd_T45; rw [e, Int.toNat_natCast]
      rw [e1, h0, h1, e2]; exact h.2 j
    · have e1 : xs.set i t = xs := List.set_eq_of_length_le (by omega)
      rw [e1]; exact h.2 j
  · have e1 : rd_T45 (xs.set i t) j = rd_T45 xs j := by
      unfold rd_T45; rw [List.getD_eq_getElem?_getD, List.getD_eq_getElem?_getD, List.getElem?_set_ne (fun h => e h.symm)]
    rw [e1]; exact h.2 j
/-! ### laws_markIntSS: by hand: each row's numbers are written anew -/
/-! ### laws_heldIntS: function 45 -/
/-! ### laws_heldIntSS: function 23 -/
-- NOT PRINTED: function 3 (laws_FnExactHeapsReached)
/-- A state of type 96 at block g of W; what its slices lead to came in by w0. -/
def IsS96 (w0 W : World) (g : Nat) (f0 : List Int) (f1 : Int) : Prop := ∃ A0 c0, W.heap[g]? = some (.cells #[.slice A0 f0.length c0, .int .i64 f1] 96 (0, 0)) ∧ w0.heap.size ≤ g ∧ Kd.C (Kd.int .u8) w0 A0 f0.length f0
theorem IsS96.grown {w0 W : World} {g : Nat} {f0 : List Int} {f1 : Int} {W1 : World} {row : Option Nat} (h : IsS96 w0 W g f0 f1) (hw : W.grownBy W1 row) (hne : some g ≠ row) : IsS96 w0 W1 g f0 f1 := by
  obtain ⟨A0, c0, hb, hg, hr0⟩ := h
  exact ⟨A0, c0, blk_grown hb hw hne, hg, hr0⟩
theorem IsS96.kept {w0 W : World} {g : Nat} {f0 : List Int} {f1 : Int} {W1 : World} {S : Nat → Prop} (h : IsS96 w0 W g f0 f1) (hk : Kept W W1 S) (hne : ¬ S g) : IsS96 w0 W1 g f0 f1 := by
  obtain ⟨A0, c0, hb, hg, hr0⟩ := h
  exact ⟨A0, c0, blk_kept hb hk hne, hg, hr0⟩
theorem IsS96.below {w0 W : World} {g : Nat} {f0 : List Int} {f1 : Int} {W1 : World} (h : IsS96 w0 W g f0 f1) (hw : Below W.heap.size W W1) : IsS96 w0 W1 g f0 f1 := h.grown (grown_of_below hw none) (by simp)
theorem IsS96.alloc {w0 W : World} {g : Nat} {f0 : List Int} {f1 : Int} (h : IsS96 w0 W g f0 f1) (o : Obj) : IsS96 w0 (W.alloc o) g f0 f1 := h.below (below_alloc (Below.refl _ _) o)
theorem IsS96.drewN {w0 W : World} {g : Nat} {f0 : List Int} {f1 : Int} (h : IsS96 w0 W g f0 f1) (m : Nat) : IsS96 w0 (W.drewN m) g f0 f1 := h
theorem IsS96.drew {w0 W : World} {g : Nat} {f0 : List Int} {f1 : Int} (h : IsS96 w0 W g f0 f1) : IsS96 w0 W.drew g f0 f1 := h
theorem IsS96.at_ {w0 W : World} {g : Nat} {f0 : List Int} {f1 : Int} {w' : World} {m : Nat} (hq : W.drewN m = w') (h : IsS96 w0 W g f0 f1) : IsS96 w0 w' g f0 f1 := by subst hq; exact IsS96.drewN h m
theorem IsS96.apart {w0 W : World} {g : Nat} {f0 : List Int} {f1 : Int} {α : Type} {d : Kd α} {e : Nat} {base : Nat} {ok : Nat → Prop} {v : Value} {xs : List α} (h : IsS96 w0 W g f0 f1) (ho : d.R e W base ok v xs) (ht : ∀ q, q ∈ e :: d.E → q ≠ 96) : d.R e W base (fun k => ok k ∧ k ≠ g) v xs := by
  obtain ⟨A0, c0, hb, hg, hr0⟩ := h
  exact Kd.R_types ho hb ht
theorem IsS96.own_ne {w0 W : World} {g : Nat} {f0 : List Int} {f1 : Int} {α : Type} {d : Kd α} {e : Nat} {base : Nat} {ok : Nat → Prop} {v : Value} {xs : List α} (h : IsS96 w0 W g f0 f1) (ho : d.R e W base ok v xs) (ht : e ≠ 96) : some g ≠ v.ownBlock := by
  obtain ⟨A0, c0, hb, hg, hr0⟩ := h
  exact Kd.R_ne ho hb ht
theorem IsS96.lt {w0 W : World} {g : Nat} {f0 : List Int} {f1 : Int} (h : IsS96 w0 W g f0 f1) : g < W.heap.size := by
  obtain ⟨A0, c0, hb, hg, hr0⟩ := h
  exact blk_lt hb
/-! ### spec_l20Open: function 64 -/
def spec_l20Open.f (l0 : List Int) : Option (List Int × Int) := if (l0.length : Int) > 2000 then (if 2000 ≤ (l0.length : Int) then (some (l0.take 2000, 0)) else (none)) else (some (l0, 0))
end Go.Proofs.Ytlmgipjalcnfaaa.P
