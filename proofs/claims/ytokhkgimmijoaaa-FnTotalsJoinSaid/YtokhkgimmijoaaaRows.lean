/-
  No cell of these rows narrows 'for every input' (looked for: loops, veiled, ifaces, maps, wideKeys, modest, calm, conditions, laid).
  DERIVED. THE GIVEN ROWS OF THIS SEAT. 4 by the template 'for every input the law returns true; each argument reads behind the call as it read before'; 0 by the template 'total and deterministic' (their statements: YtokhkgimmijoaaaTotals.lean).
  GIVEN WITH THE SEED: the statements are not yours to turn. If you find one false, say at which input.
  Laid BY PROGRAM, IN A SANDBOX (cutbox-rows.mjs): the forced cells as the released guide's own fill.sh prints them over the translation c87e62d6c9a1f455… (all of the seat's roots in one cut). By AI agents, Wed Nov 11 2026. No macro, syntax, notation, axiom, sorry.
-/
import Derived.Test.YtokhkgimmijoaaaChecked
import GoSem.Claim
import GoSem.ClaimJoined
import GoSem.ClaimMapViews
import Derived.JoinedTies
import Derived.KernelRfl
namespace Go.Proofs.Ytokhkgimmijoaaa
/- THE CELL 'sum', in the pinned program and in every row, IS THE sha256 OF THE DUMP (.gsa) THAT YtokhkgimmijoaaaProg.lean LOADS. Nothing in Lean hashes anything: it is a label: what it is worth is what the hold of that sum in a sandbox is worth. -/
noncomputable def Try.pinned : Pinned := { name := "ytokhkgimmijoaaa", sum := "c87e62d6c9a1f455a31f035be3f621dc766415b445bd95977a288db96df01b4c", checked := Try.checked }
namespace Rows
def none {H : Type} : Left H := { results := [], args := [] }

/-- 'laws.FnTotalsPart': WHATEVER THE INPUT: true; the input reads as it did. -/
def fnTotalsPartSpec : ChangeSpec := { name := "fnTotalsPart", fn := fun _ => fun
  | [d1, d2] => { results := [.lit (.bool true)], args := [d1, d2] }
  | _ => none }
def fnTotalsPartRow : OpenClaim := { program := "ytokhkgimmijoaaa", sum := "c87e62d6c9a1f455a31f035be3f621dc766415b445bd95977a288db96df01b4c", func := "loop.example/streambarrier/laws.FnTotalsPart", spec := "fnTotalsPart", apart := false }
def FnTotalsPartSaid : Prop := fnTotalsPartRow.holds Try.pinned (OpenSpec.ofChange fnTotalsPartSpec)

/-- ITS FALSE NEIGHBOUR: 'it returns false'. Refute it at one input. -/
def fnTotalsPartWrong : ChangeSpec := { name := "fnTotalsPart", fn := fun _ => fun
  | [d1, d2] => { results := [.lit (.bool false)], args := [d1, d2] }
  | _ => none }
def FnTotalsPartWrongFalsely : Prop := fnTotalsPartRow.holds Try.pinned (OpenSpec.ofChange fnTotalsPartWrong)

/-- 'laws.FnTotalsFind': WHATEVER THE INPUT: true; the input reads as it did. -/
def fnTotalsFindSpec : ChangeSpec := { name := "fnTotalsFind", fn := fun _ => fun
  | [d] => { results := [.lit (.bool true)], args := [d] }
  | _ => none }
def fnTotalsFindRow : OpenClaim := { program := "ytokhkgimmijoaaa", sum := "c87e62d6c9a1f455a31f035be3f621dc766415b445bd95977a288db96df01b4c", func := "loop.example/streambarrier/laws.FnTotalsFind", spec := "fnTotalsFind", apart := false }
def FnTotalsFindSaid : Prop := fnTotalsFindRow.holds Try.pinned (OpenSpec.ofChange fnTotalsFindSpec)

/-- ITS FALSE NEIGHBOUR: 'it returns false'. Refute it at one input. -/
def fnTotalsFindWrong : ChangeSpec := { name := "fnTotalsFind", fn := fun _ => fun
  | [d] => { results := [.lit (.bool false)], args := [d] }
  | _ => none }
def FnTotalsFindWrongFalsely : Prop := fnTotalsFindRow.holds Try.pinned (OpenSpec.ofChange fnTotalsFindWrong)

/-- 'laws.FnTotalsJoinBoth': WHATEVER THE INPUT: true; the input reads as it did. -/
def fnTotalsJoinBothSpec : ChangeSpec := { name := "fnTotalsJoinBoth", fn := fun _ => fun
  | [d] => { results := [.lit (.bool true)], args := [d] }
  | _ => none }
def fnTotalsJoinBothRow : OpenClaim := { program := "ytokhkgimmijoaaa", sum := "c87e62d6c9a1f455a31f035be3f621dc766415b445bd95977a288db96df01b4c", func := "loop.example/streambarrier/laws.FnTotalsJoinBoth", spec := "fnTotalsJoinBoth", unfollowed := true, recurses := true, apart := false }
def FnTotalsJoinBothSaid : Prop := fnTotalsJoinBothRow.holds Try.pinned (OpenSpec.ofChange fnTotalsJoinBothSpec)

/-- ITS FALSE NEIGHBOUR: 'it returns false'. Refute it at one input. -/
def fnTotalsJoinBothWrong : ChangeSpec := { name := "fnTotalsJoinBoth", fn := fun _ => fun
  | [d] => { results := [.lit (.bool false)], args := [d] }
  | _ => none }
def FnTotalsJoinBothWrongFalsely : Prop := fnTotalsJoinBothRow.holds Try.pinned (OpenSpec.ofChange fnTotalsJoinBothWrong)

/-- 'laws.FnTotalsJoin': WHATEVER THE INPUT: true; the input reads as it did. -/
def fnTotalsJoinSpec : ChangeSpec := { name := "fnTotalsJoin", fn := fun _ => fun
  | [d] => { results := [.lit (.bool true)], args := [d] }
  | _ => none }
def fnTotalsJoinRow : OpenClaim := { program := "ytokhkgimmijoaaa", sum := "c87e62d6c9a1f455a31f035be3f621dc766415b445bd95977a288db96df01b4c", func := "loop.example/streambarrier/laws.FnTotalsJoin", spec := "fnTotalsJoin", unfollowed := true, recurses := true, apart := false }
def FnTotalsJoinSaid : Prop := fnTotalsJoinRow.holds Try.pinned (OpenSpec.ofChange fnTotalsJoinSpec)

/-- ITS FALSE NEIGHBOUR: 'it returns false'. Refute it at one input. -/
def fnTotalsJoinWrong : ChangeSpec := { name := "fnTotalsJoin", fn := fun _ => fun
  | [d] => { results := [.lit (.bool false)], args := [d] }
  | _ => none }
def FnTotalsJoinWrongFalsely : Prop := fnTotalsJoinRow.holds Try.pinned (OpenSpec.ofChange fnTotalsJoinWrong)

/- THE SECOND FORM. 'bulk': how many values and letters a reading holds, each counted each time it is reached (what is shared counts as often as it is met; a slice's spare places count too). A statement '..UptoSaid' is the law's where the arguments, and the package variables that the reading takes, are together of bulk at most 1048576: NARROWER than '..Said'. Prove '..Said' where nothing that the law and all that it calls make is longer than what came in: it says more and counts as full. Else prove '..UptoSaid'. A law counts once. -/
mutual
def uptoBulk {H : Type} : DataW H → Nat
  | .lit (.string bytes) => bytes.length + 1
  | .lit _ => 1
  | .nil => 1
  | .ptr d => uptoBulk d + 1
  | .slice elems spare => uptoBulkAll elems + uptoBulkAll spare + 1
  | .agg parts => uptoBulkAll parts + 1
  | .iface _ d => uptoBulk d + 1
  | .map entries => uptoBulkEntries entries + 1
  | .held _ => 1
def uptoBulkAll {H : Type} : List (DataW H) → Nat
  | [] => 0
  | d :: r => uptoBulk d + uptoBulkAll r
def uptoBulkEntries {H : Type} : List (Lit × DataW H) → Nat
  | [] => 0
  | x :: r => uptoBulkEntry x + uptoBulkEntries r
def uptoBulkEntry {H : Type} : Lit × DataW H → Nat
  | (.string bytes, d) => bytes.length + uptoBulk d + 1
  | (_, d) => uptoBulk d + 1
 end
def uptoSmall : (H : Type) → List (DataW H) → Bool := fun _ ds => decide (uptoBulkAll ds ≤ 1048576)
def OpenSpec.upto (s : _root_.Go.ChangeSpec) : _root_.Go.OpenSpec := { _root_.Go.OpenSpec.ofChange s with cond := some uptoSmall }

/-- 'laws.FnTotalsPart', WHERE WHAT IT READS IS OF BULK AT MOST 1048576: true; the input reads as it did. -/
def fnTotalsPartUptoRow : OpenClaim := { program := "ytokhkgimmijoaaa", sum := "c87e62d6c9a1f455a31f035be3f621dc766415b445bd95977a288db96df01b4c", func := "loop.example/streambarrier/laws.FnTotalsPart", spec := "fnTotalsPart", apart := false, narrowed := true }
def FnTotalsPartUptoSaid : Prop := fnTotalsPartUptoRow.holds Try.pinned (OpenSpec.upto fnTotalsPartSpec)

/-- 'laws.FnTotalsFind', WHERE WHAT IT READS IS OF BULK AT MOST 1048576: true; the input reads as it did. -/
def fnTotalsFindUptoRow : OpenClaim := { program := "ytokhkgimmijoaaa", sum := "c87e62d6c9a1f455a31f035be3f621dc766415b445bd95977a288db96df01b4c", func := "loop.example/streambarrier/laws.FnTotalsFind", spec := "fnTotalsFind", apart := false, narrowed := true }
def FnTotalsFindUptoSaid : Prop := fnTotalsFindUptoRow.holds Try.pinned (OpenSpec.upto fnTotalsFindSpec)

/-- 'laws.FnTotalsJoinBoth', WHERE WHAT IT READS IS OF BULK AT MOST 1048576: true; the input reads as it did. -/
def fnTotalsJoinBothUptoRow : OpenClaim := { program := "ytokhkgimmijoaaa", sum := "c87e62d6c9a1f455a31f035be3f621dc766415b445bd95977a288db96df01b4c", func := "loop.example/streambarrier/laws.FnTotalsJoinBoth", spec := "fnTotalsJoinBoth", unfollowed := true, recurses := true, apart := false, narrowed := true }
def FnTotalsJoinBothUptoSaid : Prop := fnTotalsJoinBothUptoRow.holds Try.pinned (OpenSpec.upto fnTotalsJoinBothSpec)

/-- 'laws.FnTotalsJoin', WHERE WHAT IT READS IS OF BULK AT MOST 1048576: true; the input reads as it did. -/
def fnTotalsJoinUptoRow : OpenClaim := { program := "ytokhkgimmijoaaa", sum := "c87e62d6c9a1f455a31f035be3f621dc766415b445bd95977a288db96df01b4c", func := "loop.example/streambarrier/laws.FnTotalsJoin", spec := "fnTotalsJoin", unfollowed := true, recurses := true, apart := false, narrowed := true }
def FnTotalsJoinUptoSaid : Prop := fnTotalsJoinUptoRow.holds Try.pinned (OpenSpec.upto fnTotalsJoinSpec)

end Rows
end Go.Proofs.Ytokhkgimmijoaaa
