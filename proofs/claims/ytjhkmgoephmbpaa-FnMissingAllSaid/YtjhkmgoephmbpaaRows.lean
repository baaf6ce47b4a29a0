/-
  No cell of these rows narrows 'for every input' (looked for: loops, veiled, ifaces, maps, wideKeys, modest, calm, conditions, laid).
  DERIVED. THE GIVEN ROWS OF THIS SEAT. 9 by the template 'for every input the law returns true; each argument reads behind the call as it read before'; 0 by the template 'total and deterministic' (their statements: YtjhkmgoephmbpaaTotals.lean).
  GIVEN WITH THE SEED: the statements are not yours to turn. If you find one false, say at which input.
  Laid BY PROGRAM, IN A SANDBOX (cutbox-rows.mjs): the forced cells as the released guide's own fill.sh prints them over the translation 255e4d3cb943adaf… (all of the seat's roots in one cut). By AI agents, Wed Nov 11 2026. No macro, syntax, notation, axiom, sorry.
-/
import Derived.Test.YtjhkmgoephmbpaaChecked
import GoSem.Claim
import GoSem.ClaimJoined
import GoSem.ClaimMapViews
import Derived.JoinedTies
import Derived.KernelRfl
namespace Go.Proofs.Ytjhkmgoephmbpaa
/- THE CELL 'sum', in the pinned program and in every row, IS THE sha256 OF THE DUMP (.gsa) THAT YtjhkmgoephmbpaaProg.lean LOADS. Nothing in Lean hashes anything: it is a label: what it is worth is what the hold of that sum in a sandbox is worth. -/
noncomputable def Try.pinned : Pinned := { name := "ytjhkmgoephmbpaa", sum := "255e4d3cb943adaf3775a8b5599bafaa2956f8ed6a1dc17e072892db8ed662cd", checked := Try.checked }
namespace Rows
def none {H : Type} : Left H := { results := [], args := [] }

/-- 'laws.FnCheckPart': WHATEVER THE INPUT: true; the input reads as it did. -/
def fnCheckPartSpec : ChangeSpec := { name := "fnCheckPart", fn := fun _ => fun
  | [d] => { results := [.lit (.bool true)], args := [d] }
  | _ => none }
def fnCheckPartRow : OpenClaim := { program := "ytjhkmgoephmbpaa", sum := "255e4d3cb943adaf3775a8b5599bafaa2956f8ed6a1dc17e072892db8ed662cd", func := "loop.example/streambarrier/laws.FnCheckPart", spec := "fnCheckPart", apart := false }
def FnCheckPartSaid : Prop := fnCheckPartRow.holds Try.pinned (OpenSpec.ofChange fnCheckPartSpec)

/-- ITS FALSE NEIGHBOUR: 'it returns false'. Refute it at one input. -/
def fnCheckPartWrong : ChangeSpec := { name := "fnCheckPart", fn := fun _ => fun
  | [d] => { results := [.lit (.bool false)], args := [d] }
  | _ => none }
def FnCheckPartWrongFalsely : Prop := fnCheckPartRow.holds Try.pinned (OpenSpec.ofChange fnCheckPartWrong)

/-- 'laws.FnHasDone': WHATEVER THE INPUT: true; the input reads as it did. -/
def fnHasDoneSpec : ChangeSpec := { name := "fnHasDone", fn := fun _ => fun
  | [d1, d2] => { results := [.lit (.bool true)], args := [d1, d2] }
  | _ => none }
def fnHasDoneRow : OpenClaim := { program := "ytjhkmgoephmbpaa", sum := "255e4d3cb943adaf3775a8b5599bafaa2956f8ed6a1dc17e072892db8ed662cd", func := "loop.example/streambarrier/laws.FnHasDone", spec := "fnHasDone", apart := false }
def FnHasDoneSaid : Prop := fnHasDoneRow.holds Try.pinned (OpenSpec.ofChange fnHasDoneSpec)

/-- ITS FALSE NEIGHBOUR: 'it returns false'. Refute it at one input. -/
def fnHasDoneWrong : ChangeSpec := { name := "fnHasDone", fn := fun _ => fun
  | [d1, d2] => { results := [.lit (.bool false)], args := [d1, d2] }
  | _ => none }
def FnHasDoneWrongFalsely : Prop := fnHasDoneRow.holds Try.pinned (OpenSpec.ofChange fnHasDoneWrong)

/-- 'laws.FnHas': WHATEVER THE INPUT: true; the input reads as it did. -/
def fnHasSpec : ChangeSpec := { name := "fnHas", fn := fun _ => fun
  | [d] => { results := [.lit (.bool true)], args := [d] }
  | _ => none }
def fnHasRow : OpenClaim := { program := "ytjhkmgoephmbpaa", sum := "255e4d3cb943adaf3775a8b5599bafaa2956f8ed6a1dc17e072892db8ed662cd", func := "loop.example/streambarrier/laws.FnHas", spec := "fnHas", apart := false }
def FnHasSaid : Prop := fnHasRow.holds Try.pinned (OpenSpec.ofChange fnHasSpec)

/-- ITS FALSE NEIGHBOUR: 'it returns false'. Refute it at one input. -/
def fnHasWrong : ChangeSpec := { name := "fnHas", fn := fun _ => fun
  | [d] => { results := [.lit (.bool false)], args := [d] }
  | _ => none }
def FnHasWrongFalsely : Prop := fnHasRow.holds Try.pinned (OpenSpec.ofChange fnHasWrong)

/-- 'laws.FnMissing': WHATEVER THE INPUT: true; the input reads as it did. -/
def fnMissingSpec : ChangeSpec := { name := "fnMissing", fn := fun _ => fun
  | [d] => { results := [.lit (.bool true)], args := [d] }
  | _ => none }
def fnMissingRow : OpenClaim := { program := "ytjhkmgoephmbpaa", sum := "255e4d3cb943adaf3775a8b5599bafaa2956f8ed6a1dc17e072892db8ed662cd", func := "loop.example/streambarrier/laws.FnMissing", spec := "fnMissing", apart := false }
def FnMissingSaid : Prop := fnMissingRow.holds Try.pinned (OpenSpec.ofChange fnMissingSpec)

/-- ITS FALSE NEIGHBOUR: 'it returns false'. Refute it at one input. -/
def fnMissingWrong : ChangeSpec := { name := "fnMissing", fn := fun _ => fun
  | [d] => { results := [.lit (.bool false)], args := [d] }
  | _ => none }
def FnMissingWrongFalsely : Prop := fnMissingRow.holds Try.pinned (OpenSpec.ofChange fnMissingWrong)

/-- 'laws.FnMissingAll': WHATEVER THE INPUT: true; the input reads as it did. -/
def fnMissingAllSpec : ChangeSpec := { name := "fnMissingAll", fn := fun _ => fun
  | [d] => { results := [.lit (.bool true)], args := [d] }
  | _ => none }
def fnMissingAllRow : OpenClaim := { program := "ytjhkmgoephmbpaa", sum := "255e4d3cb943adaf3775a8b5599bafaa2956f8ed6a1dc17e072892db8ed662cd", func := "loop.example/streambarrier/laws.FnMissingAll", spec := "fnMissingAll", recurses := true, apart := false }
def FnMissingAllSaid : Prop := fnMissingAllRow.holds Try.pinned (OpenSpec.ofChange fnMissingAllSpec)

/-- ITS FALSE NEIGHBOUR: 'it returns false'. Refute it at one input. -/
def fnMissingAllWrong : ChangeSpec := { name := "fnMissingAll", fn := fun _ => fun
  | [d] => { results := [.lit (.bool false)], args := [d] }
  | _ => none }
def FnMissingAllWrongFalsely : Prop := fnMissingAllRow.holds Try.pinned (OpenSpec.ofChange fnMissingAllWrong)

/-- 'laws.FnMark': WHATEVER THE INPUT: true; the input reads as it did. -/
def fnMarkSpec : ChangeSpec := { name := "fnMark", fn := fun _ => fun
  | [d] => { results := [.lit (.bool true)], args := [d] }
  | _ => none }
def fnMarkRow : OpenClaim := { program := "ytjhkmgoephmbpaa", sum := "255e4d3cb943adaf3775a8b5599bafaa2956f8ed6a1dc17e072892db8ed662cd", func := "loop.example/streambarrier/laws.FnMark", spec := "fnMark", recurses := true, apart := false }
def FnMarkSaid : Prop := fnMarkRow.holds Try.pinned (OpenSpec.ofChange fnMarkSpec)

/-- ITS FALSE NEIGHBOUR: 'it returns false'. Refute it at one input. -/
def fnMarkWrong : ChangeSpec := { name := "fnMark", fn := fun _ => fun
  | [d] => { results := [.lit (.bool false)], args := [d] }
  | _ => none }
def FnMarkWrongFalsely : Prop := fnMarkRow.holds Try.pinned (OpenSpec.ofChange fnMarkWrong)

/-- 'laws.FnMarkCount': WHATEVER THE INPUT: true; the input reads as it did. -/
def fnMarkCountSpec : ChangeSpec := { name := "fnMarkCount", fn := fun _ => fun
  | [d] => { results := [.lit (.bool true)], args := [d] }
  | _ => none }
def fnMarkCountRow : OpenClaim := { program := "ytjhkmgoephmbpaa", sum := "255e4d3cb943adaf3775a8b5599bafaa2956f8ed6a1dc17e072892db8ed662cd", func := "loop.example/streambarrier/laws.FnMarkCount", spec := "fnMarkCount", recurses := true, apart := false }
def FnMarkCountSaid : Prop := fnMarkCountRow.holds Try.pinned (OpenSpec.ofChange fnMarkCountSpec)

/-- ITS FALSE NEIGHBOUR: 'it returns false'. Refute it at one input. -/
def fnMarkCountWrong : ChangeSpec := { name := "fnMarkCount", fn := fun _ => fun
  | [d] => { results := [.lit (.bool false)], args := [d] }
  | _ => none }
def FnMarkCountWrongFalsely : Prop := fnMarkCountRow.holds Try.pinned (OpenSpec.ofChange fnMarkCountWrong)

/-- 'laws.FnMarkDone': WHATEVER THE INPUT: true; the input reads as it did. -/
def fnMarkDoneSpec : ChangeSpec := { name := "fnMarkDone", fn := fun _ => fun
  | [d] => { results := [.lit (.bool true)], args := [d] }
  | _ => none }
def fnMarkDoneRow : OpenClaim := { program := "ytjhkmgoephmbpaa", sum := "255e4d3cb943adaf3775a8b5599bafaa2956f8ed6a1dc17e072892db8ed662cd", func := "loop.example/streambarrier/laws.FnMarkDone", spec := "fnMarkDone", recurses := true, apart := false }
def FnMarkDoneSaid : Prop := fnMarkDoneRow.holds Try.pinned (OpenSpec.ofChange fnMarkDoneSpec)

/-- ITS FALSE NEIGHBOUR: 'it returns false'. Refute it at one input. -/
def fnMarkDoneWrong : ChangeSpec := { name := "fnMarkDone", fn := fun _ => fun
  | [d] => { results := [.lit (.bool false)], args := [d] }
  | _ => none }
def FnMarkDoneWrongFalsely : Prop := fnMarkDoneRow.holds Try.pinned (OpenSpec.ofChange fnMarkDoneWrong)

/-- 'laws.FnMarkOthers': WHATEVER THE INPUT: true; the input reads as it did. -/
def fnMarkOthersSpec : ChangeSpec := { name := "fnMarkOthers", fn := fun _ => fun
  | [d1, d2] => { results := [.lit (.bool true)], args := [d1, d2] }
  | _ => none }
def fnMarkOthersRow : OpenClaim := { program := "ytjhkmgoephmbpaa", sum := "255e4d3cb943adaf3775a8b5599bafaa2956f8ed6a1dc17e072892db8ed662cd", func := "loop.example/streambarrier/laws.FnMarkOthers", spec := "fnMarkOthers", recurses := true, apart := false }
def FnMarkOthersSaid : Prop := fnMarkOthersRow.holds Try.pinned (OpenSpec.ofChange fnMarkOthersSpec)

/-- ITS FALSE NEIGHBOUR: 'it returns false'. Refute it at one input. -/
def fnMarkOthersWrong : ChangeSpec := { name := "fnMarkOthers", fn := fun _ => fun
  | [d1, d2] => { results := [.lit (.bool false)], args := [d1, d2] }
  | _ => none }
def FnMarkOthersWrongFalsely : Prop := fnMarkOthersRow.holds Try.pinned (OpenSpec.ofChange fnMarkOthersWrong)

/- THE SECOND FORM. 'bulk': how many values and letters a reading holds, each counted each time it is reached (what is shared counts as often as it is met; a slice's spare places count too). A statement '..UptoSaid' is the law's where the arguments, and the package variables that the reading takes, are together of bulk at most 1048576: NARROWER than '..Said'. Prove '..Said' where nothing that the law and all that it calls make is longer than what came in: it says more and counts as full. Else prove '..UptoSaid'. A law counts once. -/
mutual
def uptoBulk {H : Type} : DataW H → Nat
  | .lit (.string bytes) => bytes.length + 1
  | .lit _ => 1
  | .nil => 1
  | .ptr d => uptoBulk d + 1
  | .slice elems spare => uptoBulkAll elems + uptoBulkAll spare + 1
  | .agg parts => uptoBulkAll parts + 1
  | .iface _ d => uptoBulk d + 1
  | .map entries => uptoBulkEntries entries + 1
  | .held _ => 1
def uptoBulkAll {H : Type} : List (DataW H) → Nat
  | [] => 0
  | d :: r => uptoBulk d + uptoBulkAll r
def uptoBulkEntries {H : Type} : List (Lit × DataW H) → Nat
  | [] => 0
  | x :: r => uptoBulkEntry x + uptoBulkEntries r
def uptoBulkEntry {H : Type} : Lit × DataW H → Nat
  | (.string bytes, d) => bytes.length + uptoBulk d + 1
  | (_, d) => uptoBulk d + 1
 end
def uptoSmall : (H : Type) → List (DataW H) → Bool := fun _ ds => decide (uptoBulkAll ds ≤ 1048576)
def OpenSpec.upto (s : _root_.Go.ChangeSpec) : _root_.Go.OpenSpec := { _root_.Go.OpenSpec.ofChange s with cond := some uptoSmall }

/-- 'laws.FnCheckPart', WHERE WHAT IT READS IS OF BULK AT MOST 1048576: true; the input reads as it did. -/
def fnCheckPartUptoRow : OpenClaim := { program := "ytjhkmgoephmbpaa", sum := "255e4d3cb943adaf3775a8b5599bafaa2956f8ed6a1dc17e072892db8ed662cd", func := "loop.example/streambarrier/laws.FnCheckPart", spec := "fnCheckPart", apart := false, narrowed := true }
def FnCheckPartUptoSaid : Prop := fnCheckPartUptoRow.holds Try.pinned (OpenSpec.upto fnCheckPartSpec)

/-- 'laws.FnHasDone', WHERE WHAT IT READS IS OF BULK AT MOST 1048576: true; the input reads as it did. -/
def fnHasDoneUptoRow : OpenClaim := { program := "ytjhkmgoephmbpaa", sum := "255e4d3cb943adaf3775a8b5599bafaa2956f8ed6a1dc17e072892db8ed662cd", func := "loop.example/streambarrier/laws.FnHasDone", spec := "fnHasDone", apart := false, narrowed := true }
def FnHasDoneUptoSaid : Prop := fnHasDoneUptoRow.holds Try.pinned (OpenSpec.upto fnHasDoneSpec)

/-- 'laws.FnHas', WHERE WHAT IT READS IS OF BULK AT MOST 1048576: true; the input reads as it did. -/
def fnHasUptoRow : OpenClaim := { program := "ytjhkmgoephmbpaa", sum := "255e4d3cb943adaf3775a8b5599bafaa2956f8ed6a1dc17e072892db8ed662cd", func := "loop.example/streambarrier/laws.FnHas", spec := "fnHas", apart := false, narrowed := true }
def FnHasUptoSaid : Prop := fnHasUptoRow.holds Try.pinned (OpenSpec.upto fnHasSpec)

/-- 'laws.FnMissing', WHERE WHAT IT READS IS OF BULK AT MOST 1048576: true; the input reads as it did. -/
def fnMissingUptoRow : OpenClaim := { program := "ytjhkmgoephmbpaa", sum := "255e4d3cb943adaf3775a8b5599bafaa2956f8ed6a1dc17e072892db8ed662cd", func := "loop.example/streambarrier/laws.FnMissing", spec := "fnMissing", apart := false, narrowed := true }
def FnMissingUptoSaid : Prop := fnMissingUptoRow.holds Try.pinned (OpenSpec.upto fnMissingSpec)

/-- 'laws.FnMissingAll', WHERE WHAT IT READS IS OF BULK AT MOST 1048576: true; the input reads as it did. -/
def fnMissingAllUptoRow : OpenClaim := { program := "ytjhkmgoephmbpaa", sum := "255e4d3cb943adaf3775a8b5599bafaa2956f8ed6a1dc17e072892db8ed662cd", func := "loop.example/streambarrier/laws.FnMissingAll", spec := "fnMissingAll", recurses := true, apart := false, narrowed := true }
def FnMissingAllUptoSaid : Prop := fnMissingAllUptoRow.holds Try.pinned (OpenSpec.upto fnMissingAllSpec)

/-- 'laws.FnMark', WHERE WHAT IT READS IS OF BULK AT MOST 1048576: true; the input reads as it did. -/
def fnMarkUptoRow : OpenClaim := { program := "ytjhkmgoephmbpaa", sum := "255e4d3cb943adaf3775a8b5599bafaa2956f8ed6a1dc17e072892db8ed662cd", func := "loop.example/streambarrier/laws.FnMark", spec := "fnMark", recurses := true, apart := false, narrowed := true }
def FnMarkUptoSaid : Prop := fnMarkUptoRow.holds Try.pinned (OpenSpec.upto fnMarkSpec)

/-- 'laws.FnMarkCount', WHERE WHAT IT READS IS OF BULK AT MOST 1048576: true; the input reads as it did. -/
def fnMarkCountUptoRow : OpenClaim := { program := "ytjhkmgoephmbpaa", sum := "255e4d3cb943adaf3775a8b5599bafaa2956f8ed6a1dc17e072892db8ed662cd", func := "loop.example/streambarrier/laws.FnMarkCount", spec := "fnMarkCount", recurses := true, apart := false, narrowed := true }
def FnMarkCountUptoSaid : Prop := fnMarkCountUptoRow.holds Try.pinned (OpenSpec.upto fnMarkCountSpec)

/-- 'laws.FnMarkDone', WHERE WHAT IT READS IS OF BULK AT MOST 1048576: true; the input reads as it did. -/
def fnMarkDoneUptoRow : OpenClaim := { program := "ytjhkmgoephmbpaa", sum := "255e4d3cb943adaf3775a8b5599bafaa2956f8ed6a1dc17e072892db8ed662cd", func := "loop.example/streambarrier/laws.FnMarkDone", spec := "fnMarkDone", recurses := true, apart := false, narrowed := true }
def FnMarkDoneUptoSaid : Prop := fnMarkDoneUptoRow.holds Try.pinned (OpenSpec.upto fnMarkDoneSpec)

/-- 'laws.FnMarkOthers', WHERE WHAT IT READS IS OF BULK AT MOST 1048576: true; the input reads as it did. -/
def fnMarkOthersUptoRow : OpenClaim := { program := "ytjhkmgoephmbpaa", sum := "255e4d3cb943adaf3775a8b5599bafaa2956f8ed6a1dc17e072892db8ed662cd", func := "loop.example/streambarrier/laws.FnMarkOthers", spec := "fnMarkOthers", recurses := true, apart := false, narrowed := true }
def FnMarkOthersUptoSaid : Prop := fnMarkOthersUptoRow.holds Try.pinned (OpenSpec.upto fnMarkOthersSpec)

end Rows
end Go.Proofs.Ytjhkmgoephmbpaa
