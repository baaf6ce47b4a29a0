/-
  No cell of these rows narrows 'for every input' (looked for: loops, veiled, ifaces, maps, wideKeys, modest, calm, conditions, laid).
  DERIVED. THE GIVEN ROWS OF THIS SEAT. 10 by the template 'for every input the law returns true; each argument reads behind the call as it read before'; 0 by the template 'total and deterministic' (their statements: YtfcammfdengdbaaTotals.lean).
  GIVEN WITH THE SEED: the statements are not yours to turn. If you find one false, say at which input.
  Laid BY PROGRAM, IN A SANDBOX (cutbox-rows.mjs): the forced cells as the released guide's own fill.sh prints them over the translation 3dde4413e2ab35e7… (all of the seat's roots in one cut). By AI agents, Wed Nov 11 2026. No macro, syntax, notation, axiom, sorry.
-/
import Derived.Test.YtfcammfdengdbaaChecked
import GoSem.Claim
import GoSem.ClaimJoined
import GoSem.ClaimMapViews
import Derived.JoinedTies
import Derived.KernelRfl
namespace Go.Proofs.Ytfcammfdengdbaa
/- THE CELL 'sum', in the pinned program and in every row, IS THE sha256 OF THE DUMP (.gsa) THAT YtfcammfdengdbaaProg.lean LOADS. Nothing in Lean hashes anything: it is a label: what it is worth is what the hold of that sum in a sandbox is worth. -/
noncomputable def Try.pinned : Pinned := { name := "ytfcammfdengdbaa", sum := "3dde4413e2ab35e7aed1b9b69d94ff003c0d2a1c6d835e3bf8c1ecf3664d5256", checked := Try.checked }
namespace Rows
def none {H : Type} : Left H := { results := [], args := [] }

/-- 'laws.FnBarrierPart': WHATEVER THE INPUT: true; the input reads as it did. -/
def fnBarrierPartSpec : ChangeSpec := { name := "fnBarrierPart", fn := fun _ => fun
  | [d] => { results := [.lit (.bool true)], args := [d] }
  | _ => none }
def fnBarrierPartRow : OpenClaim := { program := "ytfcammfdengdbaa", sum := "3dde4413e2ab35e7aed1b9b69d94ff003c0d2a1c6d835e3bf8c1ecf3664d5256", func := "loop.example/streambarrier/laws.FnBarrierPart", spec := "fnBarrierPart", apart := false }
def FnBarrierPartSaid : Prop := fnBarrierPartRow.holds Try.pinned (OpenSpec.ofChange fnBarrierPartSpec)

/-- ITS FALSE NEIGHBOUR: 'it returns false'. Refute it at one input. -/
def fnBarrierPartWrong : ChangeSpec := { name := "fnBarrierPart", fn := fun _ => fun
  | [d] => { results := [.lit (.bool false)], args := [d] }
  | _ => none }
def FnBarrierPartWrongFalsely : Prop := fnBarrierPartRow.holds Try.pinned (OpenSpec.ofChange fnBarrierPartWrong)

/-- 'laws.FnWaits': WHATEVER THE INPUT: true; the input reads as it did. -/
def fnWaitsSpec : ChangeSpec := { name := "fnWaits", fn := fun _ => fun
  | [d] => { results := [.lit (.bool true)], args := [d] }
  | _ => none }
def fnWaitsRow : OpenClaim := { program := "ytfcammfdengdbaa", sum := "3dde4413e2ab35e7aed1b9b69d94ff003c0d2a1c6d835e3bf8c1ecf3664d5256", func := "loop.example/streambarrier/laws.FnWaits", spec := "fnWaits", unfollowed := true, recurses := true, apart := false }
def FnWaitsSaid : Prop := fnWaitsRow.holds Try.pinned (OpenSpec.ofChange fnWaitsSpec)

/-- ITS FALSE NEIGHBOUR: 'it returns false'. Refute it at one input. -/
def fnWaitsWrong : ChangeSpec := { name := "fnWaits", fn := fun _ => fun
  | [d] => { results := [.lit (.bool false)], args := [d] }
  | _ => none }
def FnWaitsWrongFalsely : Prop := fnWaitsRow.holds Try.pinned (OpenSpec.ofChange fnWaitsWrong)

/-- 'laws.FnWaitsNone': WHATEVER THE INPUT: true; the input reads as it did. -/
def fnWaitsNoneSpec : ChangeSpec := { name := "fnWaitsNone", fn := fun _ => fun
  | [d] => { results := [.lit (.bool true)], args := [d] }
  | _ => none }
def fnWaitsNoneRow : OpenClaim := { program := "ytfcammfdengdbaa", sum := "3dde4413e2ab35e7aed1b9b69d94ff003c0d2a1c6d835e3bf8c1ecf3664d5256", func := "loop.example/streambarrier/laws.FnWaitsNone", spec := "fnWaitsNone", unfollowed := true, recurses := true, apart := false }
def FnWaitsNoneSaid : Prop := fnWaitsNoneRow.holds Try.pinned (OpenSpec.ofChange fnWaitsNoneSpec)

/-- ITS FALSE NEIGHBOUR: 'it returns false'. Refute it at one input. -/
def fnWaitsNoneWrong : ChangeSpec := { name := "fnWaitsNone", fn := fun _ => fun
  | [d] => { results := [.lit (.bool false)], args := [d] }
  | _ => none }
def FnWaitsNoneWrongFalsely : Prop := fnWaitsNoneRow.holds Try.pinned (OpenSpec.ofChange fnWaitsNoneWrong)

/-- 'laws.FnUpTo': WHATEVER THE INPUT: true; the input reads as it did. -/
def fnUpToSpec : ChangeSpec := { name := "fnUpTo", fn := fun _ => fun
  | [d] => { results := [.lit (.bool true)], args := [d] }
  | _ => none }
def fnUpToRow : OpenClaim := { program := "ytfcammfdengdbaa", sum := "3dde4413e2ab35e7aed1b9b69d94ff003c0d2a1c6d835e3bf8c1ecf3664d5256", func := "loop.example/streambarrier/laws.FnUpTo", spec := "fnUpTo", unfollowed := true, recurses := true, apart := false }
def FnUpToSaid : Prop := fnUpToRow.holds Try.pinned (OpenSpec.ofChange fnUpToSpec)

/-- ITS FALSE NEIGHBOUR: 'it returns false'. Refute it at one input. -/
def fnUpToWrong : ChangeSpec := { name := "fnUpTo", fn := fun _ => fun
  | [d] => { results := [.lit (.bool false)], args := [d] }
  | _ => none }
def FnUpToWrongFalsely : Prop := fnUpToRow.holds Try.pinned (OpenSpec.ofChange fnUpToWrong)

/-- 'laws.FnBarrierTake': WHATEVER THE INPUT: true; the input reads as it did. -/
def fnBarrierTakeSpec : ChangeSpec := { name := "fnBarrierTake", fn := fun _ => fun
  | [d] => { results := [.lit (.bool true)], args := [d] }
  | _ => none }
def fnBarrierTakeRow : OpenClaim := { program := "ytfcammfdengdbaa", sum := "3dde4413e2ab35e7aed1b9b69d94ff003c0d2a1c6d835e3bf8c1ecf3664d5256", func := "loop.example/streambarrier/laws.FnBarrierTake", spec := "fnBarrierTake", unfollowed := true, recurses := true, apart := false }
def FnBarrierTakeSaid : Prop := fnBarrierTakeRow.holds Try.pinned (OpenSpec.ofChange fnBarrierTakeSpec)

/-- ITS FALSE NEIGHBOUR: 'it returns false'. Refute it at one input. -/
def fnBarrierTakeWrong : ChangeSpec := { name := "fnBarrierTake", fn := fun _ => fun
  | [d] => { results := [.lit (.bool false)], args := [d] }
  | _ => none }
def FnBarrierTakeWrongFalsely : Prop := fnBarrierTakeRow.holds Try.pinned (OpenSpec.ofChange fnBarrierTakeWrong)

/-- 'laws.FnBarrierDone': WHATEVER THE INPUT: true; the input reads as it did. -/
def fnBarrierDoneSpec : ChangeSpec := { name := "fnBarrierDone", fn := fun _ => fun
  | [d] => { results := [.lit (.bool true)], args := [d] }
  | _ => none }
def fnBarrierDoneRow : OpenClaim := { program := "ytfcammfdengdbaa", sum := "3dde4413e2ab35e7aed1b9b69d94ff003c0d2a1c6d835e3bf8c1ecf3664d5256", func := "loop.example/streambarrier/laws.FnBarrierDone", spec := "fnBarrierDone", unfollowed := true, recurses := true, apart := false }
def FnBarrierDoneSaid : Prop := fnBarrierDoneRow.holds Try.pinned (OpenSpec.ofChange fnBarrierDoneSpec)

/-- ITS FALSE NEIGHBOUR: 'it returns false'. Refute it at one input. -/
def fnBarrierDoneWrong : ChangeSpec := { name := "fnBarrierDone", fn := fun _ => fun
  | [d] => { results := [.lit (.bool false)], args := [d] }
  | _ => none }
def FnBarrierDoneWrongFalsely : Prop := fnBarrierDoneRow.holds Try.pinned (OpenSpec.ofChange fnBarrierDoneWrong)

/-- 'laws.FnBarrierTakeUp': WHATEVER THE INPUT: true; the input reads as it did. -/
def fnBarrierTakeUpSpec : ChangeSpec := { name := "fnBarrierTakeUp", fn := fun _ => fun
  | [d] => { results := [.lit (.bool true)], args := [d] }
  | _ => none }
def fnBarrierTakeUpRow : OpenClaim := { program := "ytfcammfdengdbaa", sum := "3dde4413e2ab35e7aed1b9b69d94ff003c0d2a1c6d835e3bf8c1ecf3664d5256", func := "loop.example/streambarrier/laws.FnBarrierTakeUp", spec := "fnBarrierTakeUp", unfollowed := true, recurses := true, apart := false }
def FnBarrierTakeUpSaid : Prop := fnBarrierTakeUpRow.holds Try.pinned (OpenSpec.ofChange fnBarrierTakeUpSpec)

/-- ITS FALSE NEIGHBOUR: 'it returns false'. Refute it at one input. -/
def fnBarrierTakeUpWrong : ChangeSpec := { name := "fnBarrierTakeUp", fn := fun _ => fun
  | [d] => { results := [.lit (.bool false)], args := [d] }
  | _ => none }
def FnBarrierTakeUpWrongFalsely : Prop := fnBarrierTakeUpRow.holds Try.pinned (OpenSpec.ofChange fnBarrierTakeUpWrong)

/-- 'laws.FnBarrierOrder': WHATEVER THE INPUT: true; the input reads as it did. -/
def fnBarrierOrderSpec : ChangeSpec := { name := "fnBarrierOrder", fn := fun _ => fun
  | [d] => { results := [.lit (.bool true)], args := [d] }
  | _ => none }
def fnBarrierOrderRow : OpenClaim := { program := "ytfcammfdengdbaa", sum := "3dde4413e2ab35e7aed1b9b69d94ff003c0d2a1c6d835e3bf8c1ecf3664d5256", func := "loop.example/streambarrier/laws.FnBarrierOrder", spec := "fnBarrierOrder", unfollowed := true, recurses := true, apart := false }
def FnBarrierOrderSaid : Prop := fnBarrierOrderRow.holds Try.pinned (OpenSpec.ofChange fnBarrierOrderSpec)

/-- ITS FALSE NEIGHBOUR: 'it returns false'. Refute it at one input. -/
def fnBarrierOrderWrong : ChangeSpec := { name := "fnBarrierOrder", fn := fun _ => fun
  | [d] => { results := [.lit (.bool false)], args := [d] }
  | _ => none }
def FnBarrierOrderWrongFalsely : Prop := fnBarrierOrderRow.holds Try.pinned (OpenSpec.ofChange fnBarrierOrderWrong)

/-- 'laws.FnBarrierTakeDone': WHATEVER THE INPUT: true; the input reads as it did. -/
def fnBarrierTakeDoneSpec : ChangeSpec := { name := "fnBarrierTakeDone", fn := fun _ => fun
  | [d] => { results := [.lit (.bool true)], args := [d] }
  | _ => none }
def fnBarrierTakeDoneRow : OpenClaim := { program := "ytfcammfdengdbaa", sum := "3dde4413e2ab35e7aed1b9b69d94ff003c0d2a1c6d835e3bf8c1ecf3664d5256", func := "loop.example/streambarrier/laws.FnBarrierTakeDone", spec := "fnBarrierTakeDone", unfollowed := true, recurses := true, apart := false }
def FnBarrierTakeDoneSaid : Prop := fnBarrierTakeDoneRow.holds Try.pinned (OpenSpec.ofChange fnBarrierTakeDoneSpec)

/-- ITS FALSE NEIGHBOUR: 'it returns false'. Refute it at one input. -/
def fnBarrierTakeDoneWrong : ChangeSpec := { name := "fnBarrierTakeDone", fn := fun _ => fun
  | [d] => { results := [.lit (.bool false)], args := [d] }
  | _ => none }
def FnBarrierTakeDoneWrongFalsely : Prop := fnBarrierTakeDoneRow.holds Try.pinned (OpenSpec.ofChange fnBarrierTakeDoneWrong)

/-- 'laws.FnBarrierDoneUp': WHATEVER THE INPUT: true; the input reads as it did. -/
def fnBarrierDoneUpSpec : ChangeSpec := { name := "fnBarrierDoneUp", fn := fun _ => fun
  | [d] => { results := [.lit (.bool true)], args := [d] }
  | _ => none }
def fnBarrierDoneUpRow : OpenClaim := { program := "ytfcammfdengdbaa", sum := "3dde4413e2ab35e7aed1b9b69d94ff003c0d2a1c6d835e3bf8c1ecf3664d5256", func := "loop.example/streambarrier/laws.FnBarrierDoneUp", spec := "fnBarrierDoneUp", unfollowed := true, recurses := true, apart := false }
def FnBarrierDoneUpSaid : Prop := fnBarrierDoneUpRow.holds Try.pinned (OpenSpec.ofChange fnBarrierDoneUpSpec)

/-- ITS FALSE NEIGHBOUR: 'it returns false'. Refute it at one input. -/
def fnBarrierDoneUpWrong : ChangeSpec := { name := "fnBarrierDoneUp", fn := fun _ => fun
  | [d] => { results := [.lit (.bool false)], args := [d] }
  | _ => none }
def FnBarrierDoneUpWrongFalsely : Prop := fnBarrierDoneUpRow.holds Try.pinned (OpenSpec.ofChange fnBarrierDoneUpWrong)

/- THE SECOND FORM. 'bulk': how many values and letters a reading holds, each counted each time it is reached (what is shared counts as often as it is met; a slice's spare places count too). A statement '..UptoSaid' is the law's where the arguments, and the package variables that the reading takes, are together of bulk at most 1048576: NARROWER than '..Said'. Prove '..Said' where nothing that the law and all that it calls make is longer than what came in: it says more and counts as full. Else prove '..UptoSaid'. A law counts once. -/
mutual
def uptoBulk {H : Type} : DataW H → Nat
  | .lit (.string bytes) => bytes.length + 1
  | .lit _ => 1
  | .nil => 1
  | .ptr d => uptoBulk d + 1
  | .slice elems spare => uptoBulkAll elems + uptoBulkAll spare + 1
  | .agg parts => uptoBulkAll parts + 1
  | .iface _ d => uptoBulk d + 1
  | .map entries => uptoBulkEntries entries + 1
  | .held _ => 1
def uptoBulkAll {H : Type} : List (DataW H) → Nat
  | [] => 0
  | d :: r => uptoBulk d + uptoBulkAll r
def uptoBulkEntries {H : Type} : List (Lit × DataW H) → Nat
  | [] => 0
  | x :: r => uptoBulkEntry x + uptoBulkEntries r
def uptoBulkEntry {H : Type} : Lit × DataW H → Nat
  | (.string bytes, d) => bytes.length + uptoBulk d + 1
  | (_, d) => uptoBulk d + 1
 end
def uptoSmall : (H : Type) → List (DataW H) → Bool := fun _ ds => decide (uptoBulkAll ds ≤ 1048576)
def OpenSpec.upto (s : _root_.Go.ChangeSpec) : _root_.Go.OpenSpec := { _root_.Go.OpenSpec.ofChange s with cond := some uptoSmall }

/-- 'laws.FnBarrierPart', WHERE WHAT IT READS IS OF BULK AT MOST 1048576: true; the input reads as it did. -/
def fnBarrierPartUptoRow : OpenClaim := { program := "ytfcammfdengdbaa", sum := "3dde4413e2ab35e7aed1b9b69d94ff003c0d2a1c6d835e3bf8c1ecf3664d5256", func := "loop.example/streambarrier/laws.FnBarrierPart", spec := "fnBarrierPart", apart := false, narrowed := true }
def FnBarrierPartUptoSaid : Prop := fnBarrierPartUptoRow.holds Try.pinned (OpenSpec.upto fnBarrierPartSpec)

/-- 'laws.FnWaits', WHERE WHAT IT READS IS OF BULK AT MOST 1048576: true; the input reads as it did. -/
def fnWaitsUptoRow : OpenClaim := { program := "ytfcammfdengdbaa", sum := "3dde4413e2ab35e7aed1b9b69d94ff003c0d2a1c6d835e3bf8c1ecf3664d5256", func := "loop.example/streambarrier/laws.FnWaits", spec := "fnWaits", unfollowed := true, recurses := true, apart := false, narrowed := true }
def FnWaitsUptoSaid : Prop := fnWaitsUptoRow.holds Try.pinned (OpenSpec.upto fnWaitsSpec)

/-- 'laws.FnWaitsNone', WHERE WHAT IT READS IS OF BULK AT MOST 1048576: true; the input reads as it did. -/
def fnWaitsNoneUptoRow : OpenClaim := { program := "ytfcammfdengdbaa", sum := "3dde4413e2ab35e7aed1b9b69d94ff003c0d2a1c6d835e3bf8c1ecf3664d5256", func := "loop.example/streambarrier/laws.FnWaitsNone", spec := "fnWaitsNone", unfollowed := true, recurses := true, apart := false, narrowed := true }
def FnWaitsNoneUptoSaid : Prop := fnWaitsNoneUptoRow.holds Try.pinned (OpenSpec.upto fnWaitsNoneSpec)

/-- 'laws.FnUpTo', WHERE WHAT IT READS IS OF BULK AT MOST 1048576: true; the input reads as it did. -/
def fnUpToUptoRow : OpenClaim := { program := "ytfcammfdengdbaa", sum := "3dde4413e2ab35e7aed1b9b69d94ff003c0d2a1c6d835e3bf8c1ecf3664d5256", func := "loop.example/streambarrier/laws.FnUpTo", spec := "fnUpTo", unfollowed := true, recurses := true, apart := false, narrowed := true }
def FnUpToUptoSaid : Prop := fnUpToUptoRow.holds Try.pinned (OpenSpec.upto fnUpToSpec)

/-- 'laws.FnBarrierTake', WHERE WHAT IT READS IS OF BULK AT MOST 1048576: true; the input reads as it did. -/
def fnBarrierTakeUptoRow : OpenClaim := { program := "ytfcammfdengdbaa", sum := "3dde4413e2ab35e7aed1b9b69d94ff003c0d2a1c6d835e3bf8c1ecf3664d5256", func := "loop.example/streambarrier/laws.FnBarrierTake", spec := "fnBarrierTake", unfollowed := true, recurses := true, apart := false, narrowed := true }
def FnBarrierTakeUptoSaid : Prop := fnBarrierTakeUptoRow.holds Try.pinned (OpenSpec.upto fnBarrierTakeSpec)

/-- 'laws.FnBarrierDone', WHERE WHAT IT READS IS OF BULK AT MOST 1048576: true; the input reads as it did. -/
def fnBarrierDoneUptoRow : OpenClaim := { program := "ytfcammfdengdbaa", sum := "3dde4413e2ab35e7aed1b9b69d94ff003c0d2a1c6d835e3bf8c1ecf3664d5256", func := "loop.example/streambarrier/laws.FnBarrierDone", spec := "fnBarrierDone", unfollowed := true, recurses := true, apart := false, narrowed := true }
def FnBarrierDoneUptoSaid : Prop := fnBarrierDoneUptoRow.holds Try.pinned (OpenSpec.upto fnBarrierDoneSpec)

/-- 'laws.FnBarrierTakeUp', WHERE WHAT IT READS IS OF BULK AT MOST 1048576: true; the input reads as it did. -/
def fnBarrierTakeUpUptoRow : OpenClaim := { program := "ytfcammfdengdbaa", sum := "3dde4413e2ab35e7aed1b9b69d94ff003c0d2a1c6d835e3bf8c1ecf3664d5256", func := "loop.example/streambarrier/laws.FnBarrierTakeUp", spec := "fnBarrierTakeUp", unfollowed := true, recurses := true, apart := false, narrowed := true }
def FnBarrierTakeUpUptoSaid : Prop := fnBarrierTakeUpUptoRow.holds Try.pinned (OpenSpec.upto fnBarrierTakeUpSpec)

/-- 'laws.FnBarrierOrder', WHERE WHAT IT READS IS OF BULK AT MOST 1048576: true; the input reads as it did. -/
def fnBarrierOrderUptoRow : OpenClaim := { program := "ytfcammfdengdbaa", sum := "3dde4413e2ab35e7aed1b9b69d94ff003c0d2a1c6d835e3bf8c1ecf3664d5256", func := "loop.example/streambarrier/laws.FnBarrierOrder", spec := "fnBarrierOrder", unfollowed := true, recurses := true, apart := false, narrowed := true }
def FnBarrierOrderUptoSaid : Prop := fnBarrierOrderUptoRow.holds Try.pinned (OpenSpec.upto fnBarrierOrderSpec)

/-- 'laws.FnBarrierTakeDone', WHERE WHAT IT READS IS OF BULK AT MOST 1048576: true; the input reads as it did. -/
def fnBarrierTakeDoneUptoRow : OpenClaim := { program := "ytfcammfdengdbaa", sum := "3dde4413e2ab35e7aed1b9b69d94ff003c0d2a1c6d835e3bf8c1ecf3664d5256", func := "loop.example/streambarrier/laws.FnBarrierTakeDone", spec := "fnBarrierTakeDone", unfollowed := true, recurses := true, apart := false, narrowed := true }
def FnBarrierTakeDoneUptoSaid : Prop := fnBarrierTakeDoneUptoRow.holds Try.pinned (OpenSpec.upto fnBarrierTakeDoneSpec)

/-- 'laws.FnBarrierDoneUp', WHERE WHAT IT READS IS OF BULK AT MOST 1048576: true; the input reads as it did. -/
def fnBarrierDoneUpUptoRow : OpenClaim := { program := "ytfcammfdengdbaa", sum := "3dde4413e2ab35e7aed1b9b69d94ff003c0d2a1c6d835e3bf8c1ecf3664d5256", func := "loop.example/streambarrier/laws.FnBarrierDoneUp", spec := "fnBarrierDoneUp", unfollowed := true, recurses := true, apart := false, narrowed := true }
def FnBarrierDoneUpUptoSaid : Prop := fnBarrierDoneUpUptoRow.holds Try.pinned (OpenSpec.upto fnBarrierDoneUpSpec)

end Rows
end Go.Proofs.Ytfcammfdengdbaa
