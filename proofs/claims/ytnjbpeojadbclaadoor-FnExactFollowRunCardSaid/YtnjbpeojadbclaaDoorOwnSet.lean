/- A store into an owned slice (the same lines as in XLkDraw, for seats without locks). -/
import Derived.Test.YtnjbpeojadbclaaDoorOwn
namespace Go.Proofs.YtnjbpeojadbclaaDoor
open Go.RowKit

theorem Own.set {w : World} {base : Nat} {e : TypeId} {s n c g : Nat} {xs : List Value} (h : Own w base e s (some ⟨g, 0, none⟩) n c xs) (i : Nat) (u : Value) : Own (w.setCell ⟨g, i, none⟩ u) base e s (some ⟨g, 0, none⟩) n c (xs.set i u) := by
  refine ⟨by rw [List.length_set]; exact h.1, ?_⟩
  rcases h.2 with ⟨hv, _⟩ | ⟨g', cap, cur, hv, hb, hh, h1, h2, h3, h4⟩
  · cases hv
  · injection hv with e1 _ e3
    injection e1 with e1
    injection e1 with e1
    subst e1 e3
    exact .inr ⟨g, c, cur.setIfInBounds i u, rfl, hb, heap_setCell_same w g i cur e u hh, h1, h2, by simpa using h3, by rw [Array.toList_setIfInBounds, List.take_set, h4]⟩
/-- The block of a slice that is not empty. -/
theorem Own.open_ {w : World} {base : Nat} {e : TypeId} {s n c : Nat} {A : Option Addr} {xs : List Value} (h : Own w base e s A n c xs) (hn : 0 < n) : ∃ g cur, A = some ⟨g, 0, none⟩ ∧ base ≤ g ∧ Full w g e cur ∧ ∀ j u, xs[j]? = some u → w.cell? ⟨g, j, none⟩ = some u := by
  have hl := h.lies
  rcases h.2 with ⟨_, h0⟩ | ⟨g, cap, cur, hv, hb, hh, _, _, _, h4⟩
  · omega
  · injection hv with e1 _ e3
    refine ⟨g, cur, e1, hb, hh, fun j u hu => ?_⟩
    have := World.ownsRow.cells h (g := g) (by rw [e1]; rfl) j u hu
    have ha : (⟨g, 0, none⟩ : Addr).add j = ⟨g, j, none⟩ := by
      unfold Addr.add
      split
      · subst_vars; rfl
      · simp
    rwa [ha] at this
theorem flat_set {α : Type} (f : α → List Value) (s : Nat) (hf : ∀ x, (f x).length = s) (l : List α) (i j : Nat) (hi : i < l.length) (hj : j < s) (v : Value) (x : α) (hx : f x = (f l[i]).set j v) : (l.flatMap f).set (i * s + j) v = (l.set i x).flatMap f := by
  induction l generalizing i with
  | nil => simp at hi
  | cons y l ih =>
    cases i with
    | zero =>
      rw [Nat.zero_mul, Nat.zero_add, List.flatMap_cons, List.set_append_left _ _ (by rw [hf]; exact hj), List.set_cons_zero, List.flatMap_cons, hx]
      rfl
    | succ i =>
      rw [List.flatMap_cons, List.set_append_right _ _ (by rw [hf, Nat.add_mul]; omega), hf, show (i + 1) * s + j - s = i * s + j by rw [Nat.add_mul]; omega, List.set_cons_succ, List.flatMap_cons]
      congr 1
      exact ih i (by simpa using hi) hx
end Go.Proofs.YtnjbpeojadbclaaDoor
