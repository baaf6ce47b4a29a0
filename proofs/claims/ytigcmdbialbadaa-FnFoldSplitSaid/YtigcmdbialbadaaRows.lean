/-
  No cell of these rows narrows 'for every input' (looked for: loops, veiled, ifaces, maps, wideKeys, modest, calm, conditions, laid).
  DERIVED. THE GIVEN ROWS OF THIS SEAT. 6 by the template 'for every input the law returns true; each argument reads behind the call as it read before'; 0 by the template 'total and deterministic' (their statements: YtigcmdbialbadaaTotals.lean).
  GIVEN WITH THE SEED: the statements are not yours to turn. If you find one false, say at which input.
  Laid BY PROGRAM, IN A SANDBOX (cutbox-rows.mjs): the forced cells as the released guide's own fill.sh prints them over the translation adc4cce387635fda… (all of the seat's roots in one cut). By AI agents, Wed Nov 11 2026. No macro, syntax, notation, axiom, sorry.
-/
import Derived.Test.YtigcmdbialbadaaChecked
import GoSem.Claim
import GoSem.ClaimJoined
import GoSem.ClaimMapViews
import Derived.JoinedTies
import Derived.KernelRfl
namespace Go.Proofs.Ytigcmdbialbadaa
/- THE CELL 'sum', in the pinned program and in every row, IS THE sha256 OF THE DUMP (.gsa) THAT YtigcmdbialbadaaProg.lean LOADS. Nothing in Lean hashes anything: it is a label: what it is worth is what the hold of that sum in a sandbox is worth. -/
noncomputable def Try.pinned : Pinned := { name := "ytigcmdbialbadaa", sum := "adc4cce387635fdaa3277d8636d7ef9894baf292ad0449bf545efb0b8fa9b952", checked := Try.checked }
namespace Rows
def none {H : Type} : Left H := { results := [], args := [] }

/-- 'laws.FnFoldPart': WHATEVER THE INPUT: true; the input reads as it did. -/
def fnFoldPartSpec : ChangeSpec := { name := "fnFoldPart", fn := fun _ => fun
  | [d] => { results := [.lit (.bool true)], args := [d] }
  | _ => none }
def fnFoldPartRow : OpenClaim := { program := "ytigcmdbialbadaa", sum := "adc4cce387635fdaa3277d8636d7ef9894baf292ad0449bf545efb0b8fa9b952", func := "loop.example/streambarrier/laws.FnFoldPart", spec := "fnFoldPart", apart := false }
def FnFoldPartSaid : Prop := fnFoldPartRow.holds Try.pinned (OpenSpec.ofChange fnFoldPartSpec)

/-- ITS FALSE NEIGHBOUR: 'it returns false'. Refute it at one input. -/
def fnFoldPartWrong : ChangeSpec := { name := "fnFoldPart", fn := fun _ => fun
  | [d] => { results := [.lit (.bool false)], args := [d] }
  | _ => none }
def FnFoldPartWrongFalsely : Prop := fnFoldPartRow.holds Try.pinned (OpenSpec.ofChange fnFoldPartWrong)

/-- 'laws.FnFoldOf': WHATEVER THE INPUT: true; the input reads as it did. -/
def fnFoldOfSpec : ChangeSpec := { name := "fnFoldOf", fn := fun _ => fun
  | [d] => { results := [.lit (.bool true)], args := [d] }
  | _ => none }
def fnFoldOfRow : OpenClaim := { program := "ytigcmdbialbadaa", sum := "adc4cce387635fdaa3277d8636d7ef9894baf292ad0449bf545efb0b8fa9b952", func := "loop.example/streambarrier/laws.FnFoldOf", spec := "fnFoldOf", unfollowed := true, recurses := true, apart := false }
def FnFoldOfSaid : Prop := fnFoldOfRow.holds Try.pinned (OpenSpec.ofChange fnFoldOfSpec)

/-- ITS FALSE NEIGHBOUR: 'it returns false'. Refute it at one input. -/
def fnFoldOfWrong : ChangeSpec := { name := "fnFoldOf", fn := fun _ => fun
  | [d] => { results := [.lit (.bool false)], args := [d] }
  | _ => none }
def FnFoldOfWrongFalsely : Prop := fnFoldOfRow.holds Try.pinned (OpenSpec.ofChange fnFoldOfWrong)

/-- 'laws.FnFoldSplit': WHATEVER THE INPUT: true; the input reads as it did. -/
def fnFoldSplitSpec : ChangeSpec := { name := "fnFoldSplit", fn := fun _ => fun
  | [d1, d2] => { results := [.lit (.bool true)], args := [d1, d2] }
  | _ => none }
def fnFoldSplitRow : OpenClaim := { program := "ytigcmdbialbadaa", sum := "adc4cce387635fdaa3277d8636d7ef9894baf292ad0449bf545efb0b8fa9b952", func := "loop.example/streambarrier/laws.FnFoldSplit", spec := "fnFoldSplit", unfollowed := true, recurses := true, apart := false }
def FnFoldSplitSaid : Prop := fnFoldSplitRow.holds Try.pinned (OpenSpec.ofChange fnFoldSplitSpec)

/-- ITS FALSE NEIGHBOUR: 'it returns false'. Refute it at one input. -/
def fnFoldSplitWrong : ChangeSpec := { name := "fnFoldSplit", fn := fun _ => fun
  | [d1, d2] => { results := [.lit (.bool false)], args := [d1, d2] }
  | _ => none }
def FnFoldSplitWrongFalsely : Prop := fnFoldSplitRow.holds Try.pinned (OpenSpec.ofChange fnFoldSplitWrong)

/-- 'laws.FnFoldSum': WHATEVER THE INPUT: true; the input reads as it did. -/
def fnFoldSumSpec : ChangeSpec := { name := "fnFoldSum", fn := fun _ => fun
  | [d] => { results := [.lit (.bool true)], args := [d] }
  | _ => none }
def fnFoldSumRow : OpenClaim := { program := "ytigcmdbialbadaa", sum := "adc4cce387635fdaa3277d8636d7ef9894baf292ad0449bf545efb0b8fa9b952", func := "loop.example/streambarrier/laws.FnFoldSum", spec := "fnFoldSum", unfollowed := true, recurses := true, apart := false }
def FnFoldSumSaid : Prop := fnFoldSumRow.holds Try.pinned (OpenSpec.ofChange fnFoldSumSpec)

/-- ITS FALSE NEIGHBOUR: 'it returns false'. Refute it at one input. -/
def fnFoldSumWrong : ChangeSpec := { name := "fnFoldSum", fn := fun _ => fun
  | [d] => { results := [.lit (.bool false)], args := [d] }
  | _ => none }
def FnFoldSumWrongFalsely : Prop := fnFoldSumRow.holds Try.pinned (OpenSpec.ofChange fnFoldSumWrong)

/-- 'laws.FnFoldOnNone': WHATEVER THE INPUT: true; the input reads as it did. -/
def fnFoldOnNoneSpec : ChangeSpec := { name := "fnFoldOnNone", fn := fun _ => fun
  | [d] => { results := [.lit (.bool true)], args := [d] }
  | _ => none }
def fnFoldOnNoneRow : OpenClaim := { program := "ytigcmdbialbadaa", sum := "adc4cce387635fdaa3277d8636d7ef9894baf292ad0449bf545efb0b8fa9b952", func := "loop.example/streambarrier/laws.FnFoldOnNone", spec := "fnFoldOnNone", unfollowed := true, recurses := true, apart := false }
def FnFoldOnNoneSaid : Prop := fnFoldOnNoneRow.holds Try.pinned (OpenSpec.ofChange fnFoldOnNoneSpec)

/-- ITS FALSE NEIGHBOUR: 'it returns false'. Refute it at one input. -/
def fnFoldOnNoneWrong : ChangeSpec := { name := "fnFoldOnNone", fn := fun _ => fun
  | [d] => { results := [.lit (.bool false)], args := [d] }
  | _ => none }
def FnFoldOnNoneWrongFalsely : Prop := fnFoldOnNoneRow.holds Try.pinned (OpenSpec.ofChange fnFoldOnNoneWrong)

/-- 'laws.FnFoldOn': WHATEVER THE INPUT: true; the input reads as it did. -/
def fnFoldOnSpec : ChangeSpec := { name := "fnFoldOn", fn := fun _ => fun
  | [d] => { results := [.lit (.bool true)], args := [d] }
  | _ => none }
def fnFoldOnRow : OpenClaim := { program := "ytigcmdbialbadaa", sum := "adc4cce387635fdaa3277d8636d7ef9894baf292ad0449bf545efb0b8fa9b952", func := "loop.example/streambarrier/laws.FnFoldOn", spec := "fnFoldOn", unfollowed := true, recurses := true, apart := false }
def FnFoldOnSaid : Prop := fnFoldOnRow.holds Try.pinned (OpenSpec.ofChange fnFoldOnSpec)

/-- ITS FALSE NEIGHBOUR: 'it returns false'. Refute it at one input. -/
def fnFoldOnWrong : ChangeSpec := { name := "fnFoldOn", fn := fun _ => fun
  | [d] => { results := [.lit (.bool false)], args := [d] }
  | _ => none }
def FnFoldOnWrongFalsely : Prop := fnFoldOnRow.holds Try.pinned (OpenSpec.ofChange fnFoldOnWrong)

/- THE SECOND FORM. 'bulk': how many values and letters a reading holds, each counted each time it is reached (what is shared counts as often as it is met; a slice's spare places count too). A statement '..UptoSaid' is the law's where the arguments, and the package variables that the reading takes, are together of bulk at most 1048576: NARROWER than '..Said'. Prove '..Said' where nothing that the law and all that it calls make is longer than what came in: it says more and counts as full. Else prove '..UptoSaid'. A law counts once. -/
mutual
def uptoBulk {H : Type} : DataW H → Nat
  | .lit (.string bytes) => bytes.length + 1
  | .lit _ => 1
  | .nil => 1
  | .ptr d => uptoBulk d + 1
  | .slice elems spare => uptoBulkAll elems + uptoBulkAll spare + 1
  | .agg parts => uptoBulkAll parts + 1
  | .iface _ d => uptoBulk d + 1
  | .map entries => uptoBulkEntries entries + 1
  | .held _ => 1
def uptoBulkAll {H : Type} : List (DataW H) → Nat
  | [] => 0
  | d :: r => uptoBulk d + uptoBulkAll r
def uptoBulkEntries {H : Type} : List (Lit × DataW H) → Nat
  | [] => 0
  | x :: r => uptoBulkEntry x + uptoBulkEntries r
def uptoBulkEntry {H : Type} : Lit × DataW H → Nat
  | (.string bytes, d) => bytes.length + uptoBulk d + 1
  | (_, d) => uptoBulk d + 1
 end
def uptoSmall : (H : Type) → List (DataW H) → Bool := fun _ ds => decide (uptoBulkAll ds ≤ 1048576)
def OpenSpec.upto (s : _root_.Go.ChangeSpec) : _root_.Go.OpenSpec := { _root_.Go.OpenSpec.ofChange s with cond := some uptoSmall }

/-- 'laws.FnFoldPart', WHERE WHAT IT READS IS OF BULK AT MOST 1048576: true; the input reads as it did. -/
def fnFoldPartUptoRow : OpenClaim := { program := "ytigcmdbialbadaa", sum := "adc4cce387635fdaa3277d8636d7ef9894baf292ad0449bf545efb0b8fa9b952", func := "loop.example/streambarrier/laws.FnFoldPart", spec := "fnFoldPart", apart := false, narrowed := true }
def FnFoldPartUptoSaid : Prop := fnFoldPartUptoRow.holds Try.pinned (OpenSpec.upto fnFoldPartSpec)

/-- 'laws.FnFoldOf', WHERE WHAT IT READS IS OF BULK AT MOST 1048576: true; the input reads as it did. -/
def fnFoldOfUptoRow : OpenClaim := { program := "ytigcmdbialbadaa", sum := "adc4cce387635fdaa3277d8636d7ef9894baf292ad0449bf545efb0b8fa9b952", func := "loop.example/streambarrier/laws.FnFoldOf", spec := "fnFoldOf", unfollowed := true, recurses := true, apart := false, narrowed := true }
def FnFoldOfUptoSaid : Prop := fnFoldOfUptoRow.holds Try.pinned (OpenSpec.upto fnFoldOfSpec)

/-- 'laws.FnFoldSplit', WHERE WHAT IT READS IS OF BULK AT MOST 1048576: true; the input reads as it did. -/
def fnFoldSplitUptoRow : OpenClaim := { program := "ytigcmdbialbadaa", sum := "adc4cce387635fdaa3277d8636d7ef9894baf292ad0449bf545efb0b8fa9b952", func := "loop.example/streambarrier/laws.FnFoldSplit", spec := "fnFoldSplit", unfollowed := true, recurses := true, apart := false, narrowed := true }
def FnFoldSplitUptoSaid : Prop := fnFoldSplitUptoRow.holds Try.pinned (OpenSpec.upto fnFoldSplitSpec)

/-- 'laws.FnFoldSum', WHERE WHAT IT READS IS OF BULK AT MOST 1048576: true; the input reads as it did. -/
def fnFoldSumUptoRow : OpenClaim := { program := "ytigcmdbialbadaa", sum := "adc4cce387635fdaa3277d8636d7ef9894baf292ad0449bf545efb0b8fa9b952", func := "loop.example/streambarrier/laws.FnFoldSum", spec := "fnFoldSum", unfollowed := true, recurses := true, apart := false, narrowed := true }
def FnFoldSumUptoSaid : Prop := fnFoldSumUptoRow.holds Try.pinned (OpenSpec.upto fnFoldSumSpec)

/-- 'laws.FnFoldOnNone', WHERE WHAT IT READS IS OF BULK AT MOST 1048576: true; the input reads as it did. -/
def fnFoldOnNoneUptoRow : OpenClaim := { program := "ytigcmdbialbadaa", sum := "adc4cce387635fdaa3277d8636d7ef9894baf292ad0449bf545efb0b8fa9b952", func := "loop.example/streambarrier/laws.FnFoldOnNone", spec := "fnFoldOnNone", unfollowed := true, recurses := true, apart := false, narrowed := true }
def FnFoldOnNoneUptoSaid : Prop := fnFoldOnNoneUptoRow.holds Try.pinned (OpenSpec.upto fnFoldOnNoneSpec)

/-- 'laws.FnFoldOn', WHERE WHAT IT READS IS OF BULK AT MOST 1048576: true; the input reads as it did. -/
def fnFoldOnUptoRow : OpenClaim := { program := "ytigcmdbialbadaa", sum := "adc4cce387635fdaa3277d8636d7ef9894baf292ad0449bf545efb0b8fa9b952", func := "loop.example/streambarrier/laws.FnFoldOn", spec := "fnFoldOn", unfollowed := true, recurses := true, apart := false, narrowed := true }
def FnFoldOnUptoSaid : Prop := fnFoldOnUptoRow.holds Try.pinned (OpenSpec.upto fnFoldOnSpec)

end Rows
end Go.Proofs.Ytigcmdbialbadaa
