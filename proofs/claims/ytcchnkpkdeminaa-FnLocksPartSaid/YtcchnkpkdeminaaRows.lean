/-
  No cell of these rows narrows 'for every input' (looked for: loops, veiled, ifaces, maps, wideKeys, modest, calm, conditions, laid).
  DERIVED. THE GIVEN ROWS OF THIS SEAT. 9 by the template 'for every input the law returns true; each argument reads behind the call as it read before'; 0 by the template 'total and deterministic' (their statements: YtcchnkpkdeminaaTotals.lean).
  GIVEN WITH THE SEED: the statements are not yours to turn. If you find one false, say at which input.
  Laid BY PROGRAM, IN A SANDBOX (cutbox-rows.mjs): the forced cells as the released guide's own fill.sh prints them over the translation 2a3ff1599dbaa3de… (all of the seat's roots in one cut). By AI agents, Wed Nov 11 2026. No macro, syntax, notation, axiom, sorry.
-/
import Derived.Test.YtcchnkpkdeminaaChecked
import GoSem.Claim
import GoSem.ClaimJoined
import GoSem.ClaimMapViews
import Derived.JoinedTies
import Derived.KernelRfl
namespace Go.Proofs.Ytcchnkpkdeminaa
/- THE CELL 'sum', in the pinned program and in every row, IS THE sha256 OF THE DUMP (.gsa) THAT YtcchnkpkdeminaaProg.lean LOADS. Nothing in Lean hashes anything: it is a label: what it is worth is what the hold of that sum in a sandbox is worth. -/
noncomputable def Try.pinned : Pinned := { name := "ytcchnkpkdeminaa", sum := "2a3ff1599dbaa3de31f492ebb67ae258701ce33212743feede5f330bc8bc5f98", checked := Try.checked }
namespace Rows
def none {H : Type} : Left H := { results := [], args := [] }

/-- 'laws.FnLocksPart': WHATEVER THE INPUT: true; the input reads as it did. -/
def fnLocksPartSpec : ChangeSpec := { name := "fnLocksPart", fn := fun _ => fun
  | [d1, d2] => { results := [.lit (.bool true)], args := [d1, d2] }
  | _ => none }
def fnLocksPartRow : OpenClaim := { program := "ytcchnkpkdeminaa", sum := "2a3ff1599dbaa3de31f492ebb67ae258701ce33212743feede5f330bc8bc5f98", func := "loop.example/streambarrier/laws.FnLocksPart", spec := "fnLocksPart", apart := false }
def FnLocksPartSaid : Prop := fnLocksPartRow.holds Try.pinned (OpenSpec.ofChange fnLocksPartSpec)

/-- ITS FALSE NEIGHBOUR: 'it returns false'. Refute it at one input. -/
def fnLocksPartWrong : ChangeSpec := { name := "fnLocksPart", fn := fun _ => fun
  | [d1, d2] => { results := [.lit (.bool false)], args := [d1, d2] }
  | _ => none }
def FnLocksPartWrongFalsely : Prop := fnLocksPartRow.holds Try.pinned (OpenSpec.ofChange fnLocksPartWrong)

/-- 'laws.FnGive': WHATEVER THE INPUT: true; the input reads as it did. -/
def fnGiveSpec : ChangeSpec := { name := "fnGive", fn := fun _ => fun
  | [d] => { results := [.lit (.bool true)], args := [d] }
  | _ => none }
def fnGiveRow : OpenClaim := { program := "ytcchnkpkdeminaa", sum := "2a3ff1599dbaa3de31f492ebb67ae258701ce33212743feede5f330bc8bc5f98", func := "loop.example/streambarrier/laws.FnGive", spec := "fnGive", apart := false }
def FnGiveSaid : Prop := fnGiveRow.holds Try.pinned (OpenSpec.ofChange fnGiveSpec)

/-- ITS FALSE NEIGHBOUR: 'it returns false'. Refute it at one input. -/
def fnGiveWrong : ChangeSpec := { name := "fnGive", fn := fun _ => fun
  | [d] => { results := [.lit (.bool false)], args := [d] }
  | _ => none }
def FnGiveWrongFalsely : Prop := fnGiveRow.holds Try.pinned (OpenSpec.ofChange fnGiveWrong)

/-- 'laws.FnFree': WHATEVER THE INPUT: true; the input reads as it did. -/
def fnFreeSpec : ChangeSpec := { name := "fnFree", fn := fun _ => fun
  | [d] => { results := [.lit (.bool true)], args := [d] }
  | _ => none }
def fnFreeRow : OpenClaim := { program := "ytcchnkpkdeminaa", sum := "2a3ff1599dbaa3de31f492ebb67ae258701ce33212743feede5f330bc8bc5f98", func := "loop.example/streambarrier/laws.FnFree", spec := "fnFree", apart := false }
def FnFreeSaid : Prop := fnFreeRow.holds Try.pinned (OpenSpec.ofChange fnFreeSpec)

/-- ITS FALSE NEIGHBOUR: 'it returns false'. Refute it at one input. -/
def fnFreeWrong : ChangeSpec := { name := "fnFree", fn := fun _ => fun
  | [d] => { results := [.lit (.bool false)], args := [d] }
  | _ => none }
def FnFreeWrongFalsely : Prop := fnFreeRow.holds Try.pinned (OpenSpec.ofChange fnFreeWrong)

/-- 'laws.FnTakeNone': WHATEVER THE INPUT: true; the input reads as it did. -/
def fnTakeNoneSpec : ChangeSpec := { name := "fnTakeNone", fn := fun _ => fun
  | [d] => { results := [.lit (.bool true)], args := [d] }
  | _ => none }
def fnTakeNoneRow : OpenClaim := { program := "ytcchnkpkdeminaa", sum := "2a3ff1599dbaa3de31f492ebb67ae258701ce33212743feede5f330bc8bc5f98", func := "loop.example/streambarrier/laws.FnTakeNone", spec := "fnTakeNone", apart := false }
def FnTakeNoneSaid : Prop := fnTakeNoneRow.holds Try.pinned (OpenSpec.ofChange fnTakeNoneSpec)

/-- ITS FALSE NEIGHBOUR: 'it returns false'. Refute it at one input. -/
def fnTakeNoneWrong : ChangeSpec := { name := "fnTakeNone", fn := fun _ => fun
  | [d] => { results := [.lit (.bool false)], args := [d] }
  | _ => none }
def FnTakeNoneWrongFalsely : Prop := fnTakeNoneRow.holds Try.pinned (OpenSpec.ofChange fnTakeNoneWrong)

/-- 'laws.FnTakeNot': WHATEVER THE INPUT: true; the input reads as it did. -/
def fnTakeNotSpec : ChangeSpec := { name := "fnTakeNot", fn := fun _ => fun
  | [d] => { results := [.lit (.bool true)], args := [d] }
  | _ => none }
def fnTakeNotRow : OpenClaim := { program := "ytcchnkpkdeminaa", sum := "2a3ff1599dbaa3de31f492ebb67ae258701ce33212743feede5f330bc8bc5f98", func := "loop.example/streambarrier/laws.FnTakeNot", spec := "fnTakeNot", apart := false }
def FnTakeNotSaid : Prop := fnTakeNotRow.holds Try.pinned (OpenSpec.ofChange fnTakeNotSpec)

/-- ITS FALSE NEIGHBOUR: 'it returns false'. Refute it at one input. -/
def fnTakeNotWrong : ChangeSpec := { name := "fnTakeNot", fn := fun _ => fun
  | [d] => { results := [.lit (.bool false)], args := [d] }
  | _ => none }
def FnTakeNotWrongFalsely : Prop := fnTakeNotRow.holds Try.pinned (OpenSpec.ofChange fnTakeNotWrong)

/-- 'laws.FnTakeWhen': WHATEVER THE INPUT: true; the input reads as it did. -/
def fnTakeWhenSpec : ChangeSpec := { name := "fnTakeWhen", fn := fun _ => fun
  | [d] => { results := [.lit (.bool true)], args := [d] }
  | _ => none }
def fnTakeWhenRow : OpenClaim := { program := "ytcchnkpkdeminaa", sum := "2a3ff1599dbaa3de31f492ebb67ae258701ce33212743feede5f330bc8bc5f98", func := "loop.example/streambarrier/laws.FnTakeWhen", spec := "fnTakeWhen", apart := false }
def FnTakeWhenSaid : Prop := fnTakeWhenRow.holds Try.pinned (OpenSpec.ofChange fnTakeWhenSpec)

/-- ITS FALSE NEIGHBOUR: 'it returns false'. Refute it at one input. -/
def fnTakeWhenWrong : ChangeSpec := { name := "fnTakeWhen", fn := fun _ => fun
  | [d] => { results := [.lit (.bool false)], args := [d] }
  | _ => none }
def FnTakeWhenWrongFalsely : Prop := fnTakeWhenRow.holds Try.pinned (OpenSpec.ofChange fnTakeWhenWrong)

/-- 'laws.FnTake': WHATEVER THE INPUT: true; the input reads as it did. -/
def fnTakeSpec : ChangeSpec := { name := "fnTake", fn := fun _ => fun
  | [d] => { results := [.lit (.bool true)], args := [d] }
  | _ => none }
def fnTakeRow : OpenClaim := { program := "ytcchnkpkdeminaa", sum := "2a3ff1599dbaa3de31f492ebb67ae258701ce33212743feede5f330bc8bc5f98", func := "loop.example/streambarrier/laws.FnTake", spec := "fnTake", apart := false }
def FnTakeSaid : Prop := fnTakeRow.holds Try.pinned (OpenSpec.ofChange fnTakeSpec)

/-- ITS FALSE NEIGHBOUR: 'it returns false'. Refute it at one input. -/
def fnTakeWrong : ChangeSpec := { name := "fnTake", fn := fun _ => fun
  | [d] => { results := [.lit (.bool false)], args := [d] }
  | _ => none }
def FnTakeWrongFalsely : Prop := fnTakeRow.holds Try.pinned (OpenSpec.ofChange fnTakeWrong)

/-- 'laws.FnTakeOthers': WHATEVER THE INPUT: true; the input reads as it did. -/
def fnTakeOthersSpec : ChangeSpec := { name := "fnTakeOthers", fn := fun _ => fun
  | [d] => { results := [.lit (.bool true)], args := [d] }
  | _ => none }
def fnTakeOthersRow : OpenClaim := { program := "ytcchnkpkdeminaa", sum := "2a3ff1599dbaa3de31f492ebb67ae258701ce33212743feede5f330bc8bc5f98", func := "loop.example/streambarrier/laws.FnTakeOthers", spec := "fnTakeOthers", apart := false }
def FnTakeOthersSaid : Prop := fnTakeOthersRow.holds Try.pinned (OpenSpec.ofChange fnTakeOthersSpec)

/-- ITS FALSE NEIGHBOUR: 'it returns false'. Refute it at one input. -/
def fnTakeOthersWrong : ChangeSpec := { name := "fnTakeOthers", fn := fun _ => fun
  | [d] => { results := [.lit (.bool false)], args := [d] }
  | _ => none }
def FnTakeOthersWrongFalsely : Prop := fnTakeOthersRow.holds Try.pinned (OpenSpec.ofChange fnTakeOthersWrong)

/-- 'laws.FnTakeGive': WHATEVER THE INPUT: true; the input reads as it did. -/
def fnTakeGiveSpec : ChangeSpec := { name := "fnTakeGive", fn := fun _ => fun
  | [d] => { results := [.lit (.bool true)], args := [d] }
  | _ => none }
def fnTakeGiveRow : OpenClaim := { program := "ytcchnkpkdeminaa", sum := "2a3ff1599dbaa3de31f492ebb67ae258701ce33212743feede5f330bc8bc5f98", func := "loop.example/streambarrier/laws.FnTakeGive", spec := "fnTakeGive", apart := false }
def FnTakeGiveSaid : Prop := fnTakeGiveRow.holds Try.pinned (OpenSpec.ofChange fnTakeGiveSpec)

/-- ITS FALSE NEIGHBOUR: 'it returns false'. Refute it at one input. -/
def fnTakeGiveWrong : ChangeSpec := { name := "fnTakeGive", fn := fun _ => fun
  | [d] => { results := [.lit (.bool false)], args := [d] }
  | _ => none }
def FnTakeGiveWrongFalsely : Prop := fnTakeGiveRow.holds Try.pinned (OpenSpec.ofChange fnTakeGiveWrong)

/- THE SECOND FORM. 'bulk': how many values and letters a reading holds, each counted each time it is reached (what is shared counts as often as it is met; a slice's spare places count too). A statement '..UptoSaid' is the law's where the arguments, and the package variables that the reading takes, are together of bulk at most 1048576: NARROWER than '..Said'. Prove '..Said' where nothing that the law and all that it calls make is longer than what came in: it says more and counts as full. Else prove '..UptoSaid'. A law counts once. -/
mutual
def uptoBulk {H : Type} : DataW H → Nat
  | .lit (.string bytes) => bytes.length + 1
  | .lit _ => 1
  | .nil => 1
  | .ptr d => uptoBulk d + 1
  | .slice elems spare => uptoBulkAll elems + uptoBulkAll spare + 1
  | .agg parts => uptoBulkAll parts + 1
  | .iface _ d => uptoBulk d + 1
  | .map entries => uptoBulkEntries entries + 1
  | .held _ => 1
def uptoBulkAll {H : Type} : List (DataW H) → Nat
  | [] => 0
  | d :: r => uptoBulk d + uptoBulkAll r
def uptoBulkEntries {H : Type} : List (Lit × DataW H) → Nat
  | [] => 0
  | x :: r => uptoBulkEntry x + uptoBulkEntries r
def uptoBulkEntry {H : Type} : Lit × DataW H → Nat
  | (.string bytes, d) => bytes.length + uptoBulk d + 1
  | (_, d) => uptoBulk d + 1
 end
def uptoSmall : (H : Type) → List (DataW H) → Bool := fun _ ds => decide (uptoBulkAll ds ≤ 1048576)
def OpenSpec.upto (s : _root_.Go.ChangeSpec) : _root_.Go.OpenSpec := { _root_.Go.OpenSpec.ofChange s with cond := some uptoSmall }

/-- 'laws.FnLocksPart', WHERE WHAT IT READS IS OF BULK AT MOST 1048576: true; the input reads as it did. -/
def fnLocksPartUptoRow : OpenClaim := { program := "ytcchnkpkdeminaa", sum := "2a3ff1599dbaa3de31f492ebb67ae258701ce33212743feede5f330bc8bc5f98", func := "loop.example/streambarrier/laws.FnLocksPart", spec := "fnLocksPart", apart := false, narrowed := true }
def FnLocksPartUptoSaid : Prop := fnLocksPartUptoRow.holds Try.pinned (OpenSpec.upto fnLocksPartSpec)

/-- 'laws.FnGive', WHERE WHAT IT READS IS OF BULK AT MOST 1048576: true; the input reads as it did. -/
def fnGiveUptoRow : OpenClaim := { program := "ytcchnkpkdeminaa", sum := "2a3ff1599dbaa3de31f492ebb67ae258701ce33212743feede5f330bc8bc5f98", func := "loop.example/streambarrier/laws.FnGive", spec := "fnGive", apart := false, narrowed := true }
def FnGiveUptoSaid : Prop := fnGiveUptoRow.holds Try.pinned (OpenSpec.upto fnGiveSpec)

/-- 'laws.FnFree', WHERE WHAT IT READS IS OF BULK AT MOST 1048576: true; the input reads as it did. -/
def fnFreeUptoRow : OpenClaim := { program := "ytcchnkpkdeminaa", sum := "2a3ff1599dbaa3de31f492ebb67ae258701ce33212743feede5f330bc8bc5f98", func := "loop.example/streambarrier/laws.FnFree", spec := "fnFree", apart := false, narrowed := true }
def FnFreeUptoSaid : Prop := fnFreeUptoRow.holds Try.pinned (OpenSpec.upto fnFreeSpec)

/-- 'laws.FnTakeNone', WHERE WHAT IT READS IS OF BULK AT MOST 1048576: true; the input reads as it did. -/
def fnTakeNoneUptoRow : OpenClaim := { program := "ytcchnkpkdeminaa", sum := "2a3ff1599dbaa3de31f492ebb67ae258701ce33212743feede5f330bc8bc5f98", func := "loop.example/streambarrier/laws.FnTakeNone", spec := "fnTakeNone", apart := false, narrowed := true }
def FnTakeNoneUptoSaid : Prop := fnTakeNoneUptoRow.holds Try.pinned (OpenSpec.upto fnTakeNoneSpec)

/-- 'laws.FnTakeNot', WHERE WHAT IT READS IS OF BULK AT MOST 1048576: true; the input reads as it did. -/
def fnTakeNotUptoRow : OpenClaim := { program := "ytcchnkpkdeminaa", sum := "2a3ff1599dbaa3de31f492ebb67ae258701ce33212743feede5f330bc8bc5f98", func := "loop.example/streambarrier/laws.FnTakeNot", spec := "fnTakeNot", apart := false, narrowed := true }
def FnTakeNotUptoSaid : Prop := fnTakeNotUptoRow.holds Try.pinned (OpenSpec.upto fnTakeNotSpec)

/-- 'laws.FnTakeWhen', WHERE WHAT IT READS IS OF BULK AT MOST 1048576: true; the input reads as it did. -/
def fnTakeWhenUptoRow : OpenClaim := { program := "ytcchnkpkdeminaa", sum := "2a3ff1599dbaa3de31f492ebb67ae258701ce33212743feede5f330bc8bc5f98", func := "loop.example/streambarrier/laws.FnTakeWhen", spec := "fnTakeWhen", apart := false, narrowed := true }
def FnTakeWhenUptoSaid : Prop := fnTakeWhenUptoRow.holds Try.pinned (OpenSpec.upto fnTakeWhenSpec)

/-- 'laws.FnTake', WHERE WHAT IT READS IS OF BULK AT MOST 1048576: true; the input reads as it did. -/
def fnTakeUptoRow : OpenClaim := { program := "ytcchnkpkdeminaa", sum := "2a3ff1599dbaa3de31f492ebb67ae258701ce33212743feede5f330bc8bc5f98", func := "loop.example/streambarrier/laws.FnTake", spec := "fnTake", apart := false, narrowed := true }
def FnTakeUptoSaid : Prop := fnTakeUptoRow.holds Try.pinned (OpenSpec.upto fnTakeSpec)

/-- 'laws.FnTakeOthers', WHERE WHAT IT READS IS OF BULK AT MOST 1048576: true; the input reads as it did. -/
def fnTakeOthersUptoRow : OpenClaim := { program := "ytcchnkpkdeminaa", sum := "2a3ff1599dbaa3de31f492ebb67ae258701ce33212743feede5f330bc8bc5f98", func := "loop.example/streambarrier/laws.FnTakeOthers", spec := "fnTakeOthers", apart := false, narrowed := true }
def FnTakeOthersUptoSaid : Prop := fnTakeOthersUptoRow.holds Try.pinned (OpenSpec.upto fnTakeOthersSpec)

/-- 'laws.FnTakeGive', WHERE WHAT IT READS IS OF BULK AT MOST 1048576: true; the input reads as it did. -/
def fnTakeGiveUptoRow : OpenClaim := { program := "ytcchnkpkdeminaa", sum := "2a3ff1599dbaa3de31f492ebb67ae258701ce33212743feede5f330bc8bc5f98", func := "loop.example/streambarrier/laws.FnTakeGive", spec := "fnTakeGive", apart := false, narrowed := true }
def FnTakeGiveUptoSaid : Prop := fnTakeGiveUptoRow.holds Try.pinned (OpenSpec.upto fnTakeGiveSpec)

end Rows
end Go.Proofs.Ytcchnkpkdeminaa
