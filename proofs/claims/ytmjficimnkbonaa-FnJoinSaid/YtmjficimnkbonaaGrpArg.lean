/- What an argument keeps while blocks that are newer are written. -/
import Derived.Test.YtmjficimnkbonaaGrp
namespace Go.Proofs.Ytmjficimnkbonaa
open Go.RowKit

/-- An argument's memory lies in blocks that were there before it. -/
theorem SArg.past {w w' : World} {A : Option Addr} {n c : Nat} {ms : List ByteArray} (h : SArg w A n c ms) {g : Nat} (hg : w.grownBy w' (some g)) (hA : 0 < n → ∀ b, blockOf A = some b → b ≠ g) : SArg w' A n c ms := by
  refine ⟨?_, h.len, h.cap, h.max, h.sz⟩
  rcases Nat.eq_zero_or_pos n with h0 | h0
  · have : ms = [] := List.eq_nil_of_length_eq_zero (by rw [h.len]; exact h0)
    subst this
    exact Lies.nil
  · exact h.li.grown hg (fun b hb e => hA h0 b hb (by injection e))
theorem SArg.below {w : World} {A : Option Addr} {n c : Nat} {ms : List ByteArray} (h : SArg w A n c ms) : 0 < n → ∀ b, blockOf A = some b → b < w.heap.size := fun hn b hb => by
  obtain ⟨g', o, rfl, hlt, _⟩ := h.li.open_ (by rw [strs_len, h.len]; exact hn)
  injection hb with hb
  rw [← hb]; exact hlt
end Go.Proofs.Ytmjficimnkbonaa
