/- What the walks of the laws of shares have in common. -/
import Derived.Test.YtmjficimnkbonaaShareLaw
import Derived.Test.YtmjficimnkbonaaGrpDraw2
import Derived.Test.YtmjficimnkbonaaSame
import Derived.Test.YtmjficimnkbonaaHasInt
import Derived.Laws.MakeOwn
namespace Go.Proofs.Ytmjficimnkbonaa
open Go.RowKit

/-- The members' cells, wherever only new memory has come. -/
theorem memCells {w : World} {g o : Nat} {ms : List ByteArray} {i : Nat} (hcell : ∀ j u, (strs ms)[j]? = some u → w.cell? ⟨g, o + j, none⟩ = some u) (hi : i < ms.length) :
    ∀ w' : World, w.grownBy w' none → w'.cell? ⟨g, o + i, none⟩ = some (.string ms[i]) := fun _ h => h.cell (strAt' hcell hi) (by simp)

theorem getAtI {w : World} {g : Nat} {xs : List Int} {k : Nat} (hcell : ∀ j u, (ints xs)[j]? = some u → w.cell? ⟨g, j, none⟩ = some u) (hk : k < xs.length) :
    w.cell? ⟨g, k, none⟩ = some (.int .i64 (xs.getD k 0)) := by
  rw [List.getD_eq_getElem?_getD, List.getElem?_eq_getElem hk]
  exact hcell _ _ (ints_at xs k hk)
theorem getD_memI {xs : List Int} {k : Nat} (h : k < xs.length) : xs.getD k 0 ∈ xs := by
  rw [List.getD_eq_getElem?_getD, List.getElem?_eq_getElem h]
  exact List.getElem_mem h
theorem ints_setI (xs : List Int) (i : Nat) (v : Int) : (ints xs).set i (.int .i64 v) = ints (xs.set i v) := by simp [ints, List.map_set]

end Go.Proofs.Ytmjficimnkbonaa
