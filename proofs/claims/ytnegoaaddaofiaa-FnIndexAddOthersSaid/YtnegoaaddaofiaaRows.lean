/-
  No cell of these rows narrows 'for every input' (looked for: loops, veiled, ifaces, maps, wideKeys, modest, calm, conditions, laid).
  DERIVED. THE GIVEN ROWS OF THIS SEAT. 4 by the template 'for every input the law returns true; each argument reads behind the call as it read before'; 0 by the template 'total and deterministic' (their statements: YtnegoaaddaofiaaTotals.lean).
  GIVEN WITH THE SEED: the statements are not yours to turn. If you find one false, say at which input.
  Laid BY PROGRAM, IN A SANDBOX (cutbox-rows.mjs): the forced cells as the released guide's own fill.sh prints them over the translation 462929341f61179e… (all of the seat's roots in one cut). By AI agents, Wed Nov 11 2026. No macro, syntax, notation, axiom, sorry.
-/
import Derived.Test.YtnegoaaddaofiaaChecked
import GoSem.Claim
import GoSem.ClaimJoined
import GoSem.ClaimMapViews
import Derived.JoinedTies
import Derived.KernelRfl
namespace Go.Proofs.Ytnegoaaddaofiaa
/- THE CELL 'sum', in the pinned program and in every row, IS THE sha256 OF THE DUMP (.gsa) THAT YtnegoaaddaofiaaProg.lean LOADS. Nothing in Lean hashes anything: it is a label: what it is worth is what the hold of that sum in a sandbox is worth. -/
noncomputable def Try.pinned : Pinned := { name := "ytnegoaaddaofiaa", sum := "462929341f61179eb8a7f09f80bfdc82e36a84eee02b76e1d782c90759ad9cb4", checked := Try.checked }
namespace Rows
def none {H : Type} : Left H := { results := [], args := [] }

/-- 'laws.FnIndexPart': WHATEVER THE INPUT: true; the input reads as it did. -/
def fnIndexPartSpec : ChangeSpec := { name := "fnIndexPart", fn := fun _ => fun
  | [d1, d2] => { results := [.lit (.bool true)], args := [d1, d2] }
  | _ => none }
def fnIndexPartRow : OpenClaim := { program := "ytnegoaaddaofiaa", sum := "462929341f61179eb8a7f09f80bfdc82e36a84eee02b76e1d782c90759ad9cb4", func := "loop.example/streambarrier/laws.FnIndexPart", spec := "fnIndexPart", apart := false }
def FnIndexPartSaid : Prop := fnIndexPartRow.holds Try.pinned (OpenSpec.ofChange fnIndexPartSpec)

/-- ITS FALSE NEIGHBOUR: 'it returns false'. Refute it at one input. -/
def fnIndexPartWrong : ChangeSpec := { name := "fnIndexPart", fn := fun _ => fun
  | [d1, d2] => { results := [.lit (.bool false)], args := [d1, d2] }
  | _ => none }
def FnIndexPartWrongFalsely : Prop := fnIndexPartRow.holds Try.pinned (OpenSpec.ofChange fnIndexPartWrong)

/-- 'laws.FnIndexFind': WHATEVER THE INPUT: true; the input reads as it did. -/
def fnIndexFindSpec : ChangeSpec := { name := "fnIndexFind", fn := fun _ => fun
  | [d] => { results := [.lit (.bool true)], args := [d] }
  | _ => none }
def fnIndexFindRow : OpenClaim := { program := "ytnegoaaddaofiaa", sum := "462929341f61179eb8a7f09f80bfdc82e36a84eee02b76e1d782c90759ad9cb4", func := "loop.example/streambarrier/laws.FnIndexFind", spec := "fnIndexFind", recurses := true, apart := false }
def FnIndexFindSaid : Prop := fnIndexFindRow.holds Try.pinned (OpenSpec.ofChange fnIndexFindSpec)

/-- ITS FALSE NEIGHBOUR: 'it returns false'. Refute it at one input. -/
def fnIndexFindWrong : ChangeSpec := { name := "fnIndexFind", fn := fun _ => fun
  | [d] => { results := [.lit (.bool false)], args := [d] }
  | _ => none }
def FnIndexFindWrongFalsely : Prop := fnIndexFindRow.holds Try.pinned (OpenSpec.ofChange fnIndexFindWrong)

/-- 'laws.FnIndexAdd': WHATEVER THE INPUT: true; the input reads as it did. -/
def fnIndexAddSpec : ChangeSpec := { name := "fnIndexAdd", fn := fun _ => fun
  | [d] => { results := [.lit (.bool true)], args := [d] }
  | _ => none }
def fnIndexAddRow : OpenClaim := { program := "ytnegoaaddaofiaa", sum := "462929341f61179eb8a7f09f80bfdc82e36a84eee02b76e1d782c90759ad9cb4", func := "loop.example/streambarrier/laws.FnIndexAdd", spec := "fnIndexAdd", recurses := true, apart := false }
def FnIndexAddSaid : Prop := fnIndexAddRow.holds Try.pinned (OpenSpec.ofChange fnIndexAddSpec)

/-- ITS FALSE NEIGHBOUR: 'it returns false'. Refute it at one input. -/
def fnIndexAddWrong : ChangeSpec := { name := "fnIndexAdd", fn := fun _ => fun
  | [d] => { results := [.lit (.bool false)], args := [d] }
  | _ => none }
def FnIndexAddWrongFalsely : Prop := fnIndexAddRow.holds Try.pinned (OpenSpec.ofChange fnIndexAddWrong)

/-- 'laws.FnIndexAddOthers': WHATEVER THE INPUT: true; the input reads as it did. -/
def fnIndexAddOthersSpec : ChangeSpec := { name := "fnIndexAddOthers", fn := fun _ => fun
  | [d] => { results := [.lit (.bool true)], args := [d] }
  | _ => none }
def fnIndexAddOthersRow : OpenClaim := { program := "ytnegoaaddaofiaa", sum := "462929341f61179eb8a7f09f80bfdc82e36a84eee02b76e1d782c90759ad9cb4", func := "loop.example/streambarrier/laws.FnIndexAddOthers", spec := "fnIndexAddOthers", recurses := true, apart := false }
def FnIndexAddOthersSaid : Prop := fnIndexAddOthersRow.holds Try.pinned (OpenSpec.ofChange fnIndexAddOthersSpec)

/-- ITS FALSE NEIGHBOUR: 'it returns false'. Refute it at one input. -/
def fnIndexAddOthersWrong : ChangeSpec := { name := "fnIndexAddOthers", fn := fun _ => fun
  | [d] => { results := [.lit (.bool false)], args := [d] }
  | _ => none }
def FnIndexAddOthersWrongFalsely : Prop := fnIndexAddOthersRow.holds Try.pinned (OpenSpec.ofChange fnIndexAddOthersWrong)

/- THE SECOND FORM. 'bulk': how many values and letters a reading holds, each counted each time it is reached (what is shared counts as often as it is met; a slice's spare places count too). A statement '..UptoSaid' is the law's where the arguments, and the package variables that the reading takes, are together of bulk at most 1048576: NARROWER than '..Said'. Prove '..Said' where nothing that the law and all that it calls make is longer than what came in: it says more and counts as full. Else prove '..UptoSaid'. A law counts once. -/
mutual
def uptoBulk {H : Type} : DataW H → Nat
  | .lit (.string bytes) => bytes.length + 1
  | .lit _ => 1
  | .nil => 1
  | .ptr d => uptoBulk d + 1
  | .slice elems spare => uptoBulkAll elems + uptoBulkAll spare + 1
  | .agg parts => uptoBulkAll parts + 1
  | .iface _ d => uptoBulk d + 1
  | .map entries => uptoBulkEntries entries + 1
  | .held _ => 1
def uptoBulkAll {H : Type} : List (DataW H) → Nat
  | [] => 0
  | d :: r => uptoBulk d + uptoBulkAll r
def uptoBulkEntries {H : Type} : List (Lit × DataW H) → Nat
  | [] => 0
  | x :: r => uptoBulkEntry x + uptoBulkEntries r
def uptoBulkEntry {H : Type} : Lit × DataW H → Nat
  | (.string bytes, d) => bytes.length + uptoBulk d + 1
  | (_, d) => uptoBulk d + 1
 end
def uptoSmall : (H : Type) → List (DataW H) → Bool := fun _ ds => decide (uptoBulkAll ds ≤ 1048576)
def OpenSpec.upto (s : _root_.Go.ChangeSpec) : _root_.Go.OpenSpec := { _root_.Go.OpenSpec.ofChange s with cond := some uptoSmall }

/-- 'laws.FnIndexPart', WHERE WHAT IT READS IS OF BULK AT MOST 1048576: true; the input reads as it did. -/
def fnIndexPartUptoRow : OpenClaim := { program := "ytnegoaaddaofiaa", sum := "462929341f61179eb8a7f09f80bfdc82e36a84eee02b76e1d782c90759ad9cb4", func := "loop.example/streambarrier/laws.FnIndexPart", spec := "fnIndexPart", apart := false, narrowed := true }
def FnIndexPartUptoSaid : Prop := fnIndexPartUptoRow.holds Try.pinned (OpenSpec.upto fnIndexPartSpec)

/-- 'laws.FnIndexFind', WHERE WHAT IT READS IS OF BULK AT MOST 1048576: true; the input reads as it did. -/
def fnIndexFindUptoRow : OpenClaim := { program := "ytnegoaaddaofiaa", sum := "462929341f61179eb8a7f09f80bfdc82e36a84eee02b76e1d782c90759ad9cb4", func := "loop.example/streambarrier/laws.FnIndexFind", spec := "fnIndexFind", recurses := true, apart := false, narrowed := true }
def FnIndexFindUptoSaid : Prop := fnIndexFindUptoRow.holds Try.pinned (OpenSpec.upto fnIndexFindSpec)

/-- 'laws.FnIndexAdd', WHERE WHAT IT READS IS OF BULK AT MOST 1048576: true; the input reads as it did. -/
def fnIndexAddUptoRow : OpenClaim := { program := "ytnegoaaddaofiaa", sum := "462929341f61179eb8a7f09f80bfdc82e36a84eee02b76e1d782c90759ad9cb4", func := "loop.example/streambarrier/laws.FnIndexAdd", spec := "fnIndexAdd", recurses := true, apart := false, narrowed := true }
def FnIndexAddUptoSaid : Prop := fnIndexAddUptoRow.holds Try.pinned (OpenSpec.upto fnIndexAddSpec)

/-- 'laws.FnIndexAddOthers', WHERE WHAT IT READS IS OF BULK AT MOST 1048576: true; the input reads as it did. -/
def fnIndexAddOthersUptoRow : OpenClaim := { program := "ytnegoaaddaofiaa", sum := "462929341f61179eb8a7f09f80bfdc82e36a84eee02b76e1d782c90759ad9cb4", func := "loop.example/streambarrier/laws.FnIndexAddOthers", spec := "fnIndexAddOthers", recurses := true, apart := false, narrowed := true }
def FnIndexAddOthersUptoSaid : Prop := fnIndexAddOthersUptoRow.holds Try.pinned (OpenSpec.upto fnIndexAddOthersSpec)

end Rows
end Go.Proofs.Ytnegoaaddaofiaa
