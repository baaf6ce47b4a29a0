/- A text out of a list: the reader's method of. -/
import Derived.Test.YtaiacpihkhjghaaDoorPick
namespace Go.Proofs.YtaiacpihkhjghaaDoor
open Go.RowKit

/-- What of leaves: one of the texts, and the reader a place further. -/
def OfEnds (T : TypeId) (w : World) (B g m : Nat) (ss : List ByteArray) (e : Ending) (w' : World) : Prop :=
  ∃ s : ByteArray, s ∈ ss ∧ e = .returned (.string s) ∧ Rd T w' B g m ∧ w.grownBy w' (some g)

set_option maxHeartbeats 400000 in
theorem of_any (B g m : Nat) (gl n c : Nat) (ss : List ByteArray) (w : World) (h : Rd 41 w B g (m + 1)) (hl : Full w gl 9 (ss.map Value.string).toArray)
    (hn : ss.length = n) (h1 : 1 ≤ n) (h2 : n ≤ 1000) :
    Calls Tryd.prog 9 #[.pointer (some ⟨g, 0, none⟩), .slice (some ⟨gl, 0, none⟩) n c] w (OfEnds 41 w B g m ss) := by
  have hne : gl ≠ g := h.ne_full hl (by decide)
  go_enter Tryd.func9, Tryd.ntmps9
  go_wp2_with fail
  refine (pick_any B g m _ _ h (by omega) (by omega)).mono ?_
  rintro e w1 ⟨k, rfl, hk1, hk2, hr1, hg1⟩
  have hk : k < n := by have := hk2 (by omega); omega
  have hc : w1.cell? ⟨gl, k, none⟩ = some (.string (ss[k]'(by omega))) := (hl.grown hg1 (by simp; exact hne)).cellAt k (by simp [show k < ss.length by omega])
  have hm : ss[k]'(by omega) ∈ ss := List.getElem_mem _
  generalize ss[k]'(by omega) = s at hc hm
  go_wp2
  go_ret
  exact ⟨s, hm, rfl, hr1, hg1⟩
end Go.Proofs.YtaiacpihkhjghaaDoor
