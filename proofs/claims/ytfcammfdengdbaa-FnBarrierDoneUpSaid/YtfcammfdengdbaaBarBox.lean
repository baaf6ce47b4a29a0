/- A barrier in a block. -/
import Derived.Test.YtfcammfdengdbaaBarS
import Derived.Test.YtfcammfdengdbaaBarDraw2
import Derived.Test.YtfcammfdengdbaaBarWait
namespace Go.Proofs.Ytfcammfdengdbaa
open Go.RowKit

/-- A barrier in a block of its own. -/
structure BBox (w : World) (g : Nat) (d : Int) (A : Option Addr) (n c : Nat) (xs : List Int) : Prop where
  full : Full w g 25 #[.int .i64 d, .slice A n c]
  arg : IArg w A n c xs
theorem BBox.grown0 {w w' : World} {g : Nat} {d : Int} {A : Option Addr} {n c : Nat} {xs : List Int} (h : BBox w g d A n c xs) (hg : w.grownBy w' none) : BBox w' g d A n c xs :=
  ⟨h.full.grown hg (by simp), h.arg.grown0 hg⟩
theorem BBox.new {w : World} {d : Int} {A : Option Addr} {n c : Nat} {xs : List Int} (h : IArg w A n c xs) : BBox (w.alloc (.cells #[.int .i64 d, .slice A n c] 25)) w.heap.size d A n c xs :=
  ⟨Full.new _ _ _, h.alloc _⟩
theorem BBox.c0 {w : World} {g : Nat} {d : Int} {A : Option Addr} {n c : Nat} {xs : List Int} (h : BBox w g d A n c xs) : w.cell? ⟨g, 0, none⟩ = some (.int .i64 d) := h.full.cellAt 0 rfl
theorem BBox.c1 {w : World} {g : Nat} {d : Int} {A : Option Addr} {n c : Nat} {xs : List Int} (h : BBox w g d A n c xs) : w.cell? ⟨g, 1, none⟩ = some (.slice A n c) := h.full.cellAt 1 rfl

end Go.Proofs.Ytfcammfdengdbaa
