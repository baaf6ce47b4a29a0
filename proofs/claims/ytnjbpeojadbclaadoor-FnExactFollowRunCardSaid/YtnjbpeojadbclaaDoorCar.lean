/- What the exact laws carry from step to step. -/
import Derived.Test.YtnjbpeojadbclaaDoorEntEq
import Derived.Test.YtnjbpeojadbclaaDoorEntMark
import Derived.Test.YtnjbpeojadbclaaDoorRunF
import Derived.OwnWalk
namespace Go.Proofs.YtnjbpeojadbclaaDoor
open Go.RowKit

theorem EArg.past {w w' : World} {A : Option Addr} {n c : Nat} {es : List En} (h : EArg w A n c es) {row : Option Nat} (hg : w.grownBy w' row) (hA : 0 < n → ∀ b, blockOf A = some b → some b ≠ row) : EArg w' A n c es := by
  refine ⟨?_, h.len, h.cap, h.max, h.ok⟩
  rcases Nat.eq_zero_or_pos n with h0 | h0
  · have : es = [] := List.eq_nil_of_length_eq_zero (by rw [h.len]; exact h0)
    rw [this]
    exact Lies.nil
  · exact h.li.grown hg (hA h0)
theorem EArg.below {w : World} {A : Option Addr} {n c : Nat} {es : List En} (h : EArg w A n c es) : 0 < n → ∀ b, blockOf A = some b → b < w.heap.size := fun hn b hb => by
  obtain ⟨g', o, rfl, hlt, _⟩ := h.open_ hn
  injection hb with hb
  rw [← hb]; exact hlt
theorem Sent.lt {w : World} {a : Addr} (h : Sent w a) : 0 < w.heap.size := by
  rcases Nat.lt_or_ge 0 w.heap.size with h1 | h1
  · exact h1
  · have h2 : w.heap[0]? = none := Array.getElem?_eq_none h1
    unfold Sent at h
    simp [World.cell?, h2] at h

/-- The arguments, the answer of spec and the sentinel: all below b. -/
structure Car (b : Nat) (w : World) (A : Option Addr) (n cA : Nat) (xs : List En) (B : Option Addr) (m cB : Nat) (ys : List En) (V : Option Addr) (nV cV : Nat) (res : List En) (a : Addr) : Prop where
  a1 : EArg w A n cA xs
  a2 : EArg w B m cB ys
  a3 : EArg w V nV cV res
  se : Sent w a
  b1 : 0 < n → ∀ g, blockOf A = some g → g < b
  b2 : 0 < m → ∀ g, blockOf B = some g → g < b
  b3 : 0 < nV → ∀ g, blockOf V = some g → g < b
  b4 : 0 < b
theorem Car.step {b : Nat} {w w' : World} {A : Option Addr} {n cA : Nat} {xs : List En} {B : Option Addr} {m cB : Nat} {ys : List En} {V : Option Addr} {nV cV : Nat} {res : List En} {a : Addr} (h : Car b w A n cA xs B m cB ys V nV cV res a) {row : Option Nat} (hg : w.grownBy w' row) (hr : ∀ g, row = some g → b ≤ g) : Car b w' A n cA xs B m cB ys V nV cV res a :=
  ⟨h.a1.past hg (fun h0 g hb e => by have := h.b1 h0 g hb; have := hr g e.symm; omega), h.a2.past hg (fun h0 g hb e => by have := h.b2 h0 g hb; have := hr g e.symm; omega),
    h.a3.past hg (fun h0 g hb e => by have := h.b3 h0 g hb; have := hr g e.symm; omega), hg.cell h.se (fun e => by have h1 := h.b4; have h2 := hr _ e.symm; simp only at h2; omega), h.b1, h.b2, h.b3, h.b4⟩
theorem Car.step0 {b : Nat} {w w' : World} {A : Option Addr} {n cA : Nat} {xs : List En} {B : Option Addr} {m cB : Nat} {ys : List En} {V : Option Addr} {nV cV : Nat} {res : List En} {a : Addr} (h : Car b w A n cA xs B m cB ys V nV cV res a) (hg : w.grownBy w' none) : Car b w' A n cA xs B m cB ys V nV cV res a := h.step hg (by simp)
theorem toto_arg {w w' : World} {es : List En} {n g : Nat} (h : Own w' w.heap.size 42 4 (some ⟨g, 0, none⟩) n n (ecells es)) (hl : es.length = n) (ho : ∀ e ∈ es, e.ok) : EArg w' (some ⟨g, 0, none⟩) n n es := EArg.of_own h hl ho
theorem marks_li {w : World} {base : Nat} {A : Option Addr} {n c k : Nat} (h : Own w base 42 4 A n c (ecells (marksE k n))) : Lies w A (ecells (marksE k n)) := h.lies
end Go.Proofs.YtnjbpeojadbclaaDoor
