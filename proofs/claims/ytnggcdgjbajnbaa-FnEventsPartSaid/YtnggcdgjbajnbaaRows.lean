/-
  No cell of these rows narrows 'for every input' (looked for: loops, veiled, ifaces, maps, wideKeys, modest, calm, conditions, laid).
  DERIVED. THE GIVEN ROWS OF THIS SEAT. 7 by the template 'for every input the law returns true; each argument reads behind the call as it read before'; 0 by the template 'total and deterministic' (their statements: YtnggcdgjbajnbaaTotals.lean).
  GIVEN WITH THE SEED: the statements are not yours to turn. If you find one false, say at which input.
  Laid BY PROGRAM, IN A SANDBOX (cutbox-rows.mjs): the forced cells as the released guide's own fill.sh prints them over the translation 2775fbc6dd8343ab… (all of the seat's roots in one cut). By AI agents, Wed Nov 11 2026. No macro, syntax, notation, axiom, sorry.
-/
import Derived.Test.YtnggcdgjbajnbaaChecked
import GoSem.Claim
import GoSem.ClaimJoined
import GoSem.ClaimMapViews
import Derived.JoinedTies
import Derived.KernelRfl
namespace Go.Proofs.Ytnggcdgjbajnbaa
/- THE CELL 'sum', in the pinned program and in every row, IS THE sha256 OF THE DUMP (.gsa) THAT YtnggcdgjbajnbaaProg.lean LOADS. Nothing in Lean hashes anything: it is a label: what it is worth is what the hold of that sum in a sandbox is worth. -/
noncomputable def Try.pinned : Pinned := { name := "ytnggcdgjbajnbaa", sum := "2775fbc6dd8343ab2ded73f16140f2ad924d8e386bca077d930787f7929f57d8", checked := Try.checked }
namespace Rows
def none {H : Type} : Left H := { results := [], args := [] }

/-- 'laws.FnExpectRange': WHATEVER THE INPUT: true; the input reads as it did. -/
def fnExpectRangeSpec : ChangeSpec := { name := "fnExpectRange", fn := fun _ => fun
  | [d] => { results := [.lit (.bool true)], args := [d] }
  | _ => none }
def fnExpectRangeRow : OpenClaim := { program := "ytnggcdgjbajnbaa", sum := "2775fbc6dd8343ab2ded73f16140f2ad924d8e386bca077d930787f7929f57d8", func := "loop.example/streambarrier/laws.FnExpectRange", spec := "fnExpectRange", apart := false }
def FnExpectRangeSaid : Prop := fnExpectRangeRow.holds Try.pinned (OpenSpec.ofChange fnExpectRangeSpec)

/-- ITS FALSE NEIGHBOUR: 'it returns false'. Refute it at one input. -/
def fnExpectRangeWrong : ChangeSpec := { name := "fnExpectRange", fn := fun _ => fun
  | [d] => { results := [.lit (.bool false)], args := [d] }
  | _ => none }
def FnExpectRangeWrongFalsely : Prop := fnExpectRangeRow.holds Try.pinned (OpenSpec.ofChange fnExpectRangeWrong)

/-- 'laws.FnExpect': WHATEVER THE INPUT: true; the input reads as it did. -/
def fnExpectSpec : ChangeSpec := { name := "fnExpect", fn := fun _ => fun
  | [d] => { results := [.lit (.bool true)], args := [d] }
  | _ => none }
def fnExpectRow : OpenClaim := { program := "ytnggcdgjbajnbaa", sum := "2775fbc6dd8343ab2ded73f16140f2ad924d8e386bca077d930787f7929f57d8", func := "loop.example/streambarrier/laws.FnExpect", spec := "fnExpect", unfollowed := true, recurses := true, apart := false }
def FnExpectSaid : Prop := fnExpectRow.holds Try.pinned (OpenSpec.ofChange fnExpectSpec)

/-- ITS FALSE NEIGHBOUR: 'it returns false'. Refute it at one input. -/
def fnExpectWrong : ChangeSpec := { name := "fnExpect", fn := fun _ => fun
  | [d] => { results := [.lit (.bool false)], args := [d] }
  | _ => none }
def FnExpectWrongFalsely : Prop := fnExpectRow.holds Try.pinned (OpenSpec.ofChange fnExpectWrong)

/-- 'laws.FnExpectOne': WHATEVER THE INPUT: true; the input reads as it did. -/
def fnExpectOneSpec : ChangeSpec := { name := "fnExpectOne", fn := fun _ => fun
  | [d] => { results := [.lit (.bool true)], args := [d] }
  | _ => none }
def fnExpectOneRow : OpenClaim := { program := "ytnggcdgjbajnbaa", sum := "2775fbc6dd8343ab2ded73f16140f2ad924d8e386bca077d930787f7929f57d8", func := "loop.example/streambarrier/laws.FnExpectOne", spec := "fnExpectOne", unfollowed := true, recurses := true, apart := false }
def FnExpectOneSaid : Prop := fnExpectOneRow.holds Try.pinned (OpenSpec.ofChange fnExpectOneSpec)

/-- ITS FALSE NEIGHBOUR: 'it returns false'. Refute it at one input. -/
def fnExpectOneWrong : ChangeSpec := { name := "fnExpectOne", fn := fun _ => fun
  | [d] => { results := [.lit (.bool false)], args := [d] }
  | _ => none }
def FnExpectOneWrongFalsely : Prop := fnExpectOneRow.holds Try.pinned (OpenSpec.ofChange fnExpectOneWrong)

/-- 'laws.FnSubPart': WHATEVER THE INPUT: true; the input reads as it did. -/
def fnSubPartSpec : ChangeSpec := { name := "fnSubPart", fn := fun _ => fun
  | [d] => { results := [.lit (.bool true)], args := [d] }
  | _ => none }
def fnSubPartRow : OpenClaim := { program := "ytnggcdgjbajnbaa", sum := "2775fbc6dd8343ab2ded73f16140f2ad924d8e386bca077d930787f7929f57d8", func := "loop.example/streambarrier/laws.FnSubPart", spec := "fnSubPart", apart := false }
def FnSubPartSaid : Prop := fnSubPartRow.holds Try.pinned (OpenSpec.ofChange fnSubPartSpec)

/-- ITS FALSE NEIGHBOUR: 'it returns false'. Refute it at one input. -/
def fnSubPartWrong : ChangeSpec := { name := "fnSubPart", fn := fun _ => fun
  | [d] => { results := [.lit (.bool false)], args := [d] }
  | _ => none }
def FnSubPartWrongFalsely : Prop := fnSubPartRow.holds Try.pinned (OpenSpec.ofChange fnSubPartWrong)

/-- 'laws.FnEventPart': WHATEVER THE INPUT: true; the input reads as it did. -/
def fnEventPartSpec : ChangeSpec := { name := "fnEventPart", fn := fun _ => fun
  | [d] => { results := [.lit (.bool true)], args := [d] }
  | _ => none }
def fnEventPartRow : OpenClaim := { program := "ytnggcdgjbajnbaa", sum := "2775fbc6dd8343ab2ded73f16140f2ad924d8e386bca077d930787f7929f57d8", func := "loop.example/streambarrier/laws.FnEventPart", spec := "fnEventPart", apart := false }
def FnEventPartSaid : Prop := fnEventPartRow.holds Try.pinned (OpenSpec.ofChange fnEventPartSpec)

/-- ITS FALSE NEIGHBOUR: 'it returns false'. Refute it at one input. -/
def fnEventPartWrong : ChangeSpec := { name := "fnEventPart", fn := fun _ => fun
  | [d] => { results := [.lit (.bool false)], args := [d] }
  | _ => none }
def FnEventPartWrongFalsely : Prop := fnEventPartRow.holds Try.pinned (OpenSpec.ofChange fnEventPartWrong)

/-- 'laws.FnEventsPart': WHATEVER THE INPUT: true; the input reads as it did. -/
def fnEventsPartSpec : ChangeSpec := { name := "fnEventsPart", fn := fun _ => fun
  | [d1, d2] => { results := [.lit (.bool true)], args := [d1, d2] }
  | _ => none }
def fnEventsPartRow : OpenClaim := { program := "ytnggcdgjbajnbaa", sum := "2775fbc6dd8343ab2ded73f16140f2ad924d8e386bca077d930787f7929f57d8", func := "loop.example/streambarrier/laws.FnEventsPart", spec := "fnEventsPart", apart := false }
def FnEventsPartSaid : Prop := fnEventsPartRow.holds Try.pinned (OpenSpec.ofChange fnEventsPartSpec)

/-- ITS FALSE NEIGHBOUR: 'it returns false'. Refute it at one input. -/
def fnEventsPartWrong : ChangeSpec := { name := "fnEventsPart", fn := fun _ => fun
  | [d1, d2] => { results := [.lit (.bool false)], args := [d1, d2] }
  | _ => none }
def FnEventsPartWrongFalsely : Prop := fnEventsPartRow.holds Try.pinned (OpenSpec.ofChange fnEventsPartWrong)

/-- 'laws.FnEvents': WHATEVER THE INPUT: true; the input reads as it did. -/
def fnEventsSpec : ChangeSpec := { name := "fnEvents", fn := fun _ => fun
  | [d] => { results := [.lit (.bool true)], args := [d] }
  | _ => none }
def fnEventsRow : OpenClaim := { program := "ytnggcdgjbajnbaa", sum := "2775fbc6dd8343ab2ded73f16140f2ad924d8e386bca077d930787f7929f57d8", func := "loop.example/streambarrier/laws.FnEvents", spec := "fnEvents", apart := false }
def FnEventsSaid : Prop := fnEventsRow.holds Try.pinned (OpenSpec.ofChange fnEventsSpec)

/-- ITS FALSE NEIGHBOUR: 'it returns false'. Refute it at one input. -/
def fnEventsWrong : ChangeSpec := { name := "fnEvents", fn := fun _ => fun
  | [d] => { results := [.lit (.bool false)], args := [d] }
  | _ => none }
def FnEventsWrongFalsely : Prop := fnEventsRow.holds Try.pinned (OpenSpec.ofChange fnEventsWrong)

/- THE SECOND FORM. 'bulk': how many values and letters a reading holds, each counted each time it is reached (what is shared counts as often as it is met; a slice's spare places count too). A statement '..UptoSaid' is the law's where the arguments, and the package variables that the reading takes, are together of bulk at most 1048576: NARROWER than '..Said'. Prove '..Said' where nothing that the law and all that it calls make is longer than what came in: it says more and counts as full. Else prove '..UptoSaid'. A law counts once. -/
mutual
def uptoBulk {H : Type} : DataW H → Nat
  | .lit (.string bytes) => bytes.length + 1
  | .lit _ => 1
  | .nil => 1
  | .ptr d => uptoBulk d + 1
  | .slice elems spare => uptoBulkAll elems + uptoBulkAll spare + 1
  | .agg parts => uptoBulkAll parts + 1
  | .iface _ d => uptoBulk d + 1
  | .map entries => uptoBulkEntries entries + 1
  | .held _ => 1
def uptoBulkAll {H : Type} : List (DataW H) → Nat
  | [] => 0
  | d :: r => uptoBulk d + uptoBulkAll r
def uptoBulkEntries {H : Type} : List (Lit × DataW H) → Nat
  | [] => 0
  | x :: r => uptoBulkEntry x + uptoBulkEntries r
def uptoBulkEntry {H : Type} : Lit × DataW H → Nat
  | (.string bytes, d) => bytes.length + uptoBulk d + 1
  | (_, d) => uptoBulk d + 1
 end
def uptoSmall : (H : Type) → List (DataW H) → Bool := fun _ ds => decide (uptoBulkAll ds ≤ 1048576)
def OpenSpec.upto (s : _root_.Go.ChangeSpec) : _root_.Go.OpenSpec := { _root_.Go.OpenSpec.ofChange s with cond := some uptoSmall }

/-- 'laws.FnExpectRange', WHERE WHAT IT READS IS OF BULK AT MOST 1048576: true; the input reads as it did. -/
def fnExpectRangeUptoRow : OpenClaim := { program := "ytnggcdgjbajnbaa", sum := "2775fbc6dd8343ab2ded73f16140f2ad924d8e386bca077d930787f7929f57d8", func := "loop.example/streambarrier/laws.FnExpectRange", spec := "fnExpectRange", apart := false, narrowed := true }
def FnExpectRangeUptoSaid : Prop := fnExpectRangeUptoRow.holds Try.pinned (OpenSpec.upto fnExpectRangeSpec)

/-- 'laws.FnExpect', WHERE WHAT IT READS IS OF BULK AT MOST 1048576: true; the input reads as it did. -/
def fnExpectUptoRow : OpenClaim := { program := "ytnggcdgjbajnbaa", sum := "2775fbc6dd8343ab2ded73f16140f2ad924d8e386bca077d930787f7929f57d8", func := "loop.example/streambarrier/laws.FnExpect", spec := "fnExpect", unfollowed := true, recurses := true, apart := false, narrowed := true }
def FnExpectUptoSaid : Prop := fnExpectUptoRow.holds Try.pinned (OpenSpec.upto fnExpectSpec)

/-- 'laws.FnExpectOne', WHERE WHAT IT READS IS OF BULK AT MOST 1048576: true; the input reads as it did. -/
def fnExpectOneUptoRow : OpenClaim := { program := "ytnggcdgjbajnbaa", sum := "2775fbc6dd8343ab2ded73f16140f2ad924d8e386bca077d930787f7929f57d8", func := "loop.example/streambarrier/laws.FnExpectOne", spec := "fnExpectOne", unfollowed := true, recurses := true, apart := false, narrowed := true }
def FnExpectOneUptoSaid : Prop := fnExpectOneUptoRow.holds Try.pinned (OpenSpec.upto fnExpectOneSpec)

/-- 'laws.FnSubPart', WHERE WHAT IT READS IS OF BULK AT MOST 1048576: true; the input reads as it did. -/
def fnSubPartUptoRow : OpenClaim := { program := "ytnggcdgjbajnbaa", sum := "2775fbc6dd8343ab2ded73f16140f2ad924d8e386bca077d930787f7929f57d8", func := "loop.example/streambarrier/laws.FnSubPart", spec := "fnSubPart", apart := false, narrowed := true }
def FnSubPartUptoSaid : Prop := fnSubPartUptoRow.holds Try.pinned (OpenSpec.upto fnSubPartSpec)

/-- 'laws.FnEventPart', WHERE WHAT IT READS IS OF BULK AT MOST 1048576: true; the input reads as it did. -/
def fnEventPartUptoRow : OpenClaim := { program := "ytnggcdgjbajnbaa", sum := "2775fbc6dd8343ab2ded73f16140f2ad924d8e386bca077d930787f7929f57d8", func := "loop.example/streambarrier/laws.FnEventPart", spec := "fnEventPart", apart := false, narrowed := true }
def FnEventPartUptoSaid : Prop := fnEventPartUptoRow.holds Try.pinned (OpenSpec.upto fnEventPartSpec)

/-- 'laws.FnEventsPart', WHERE WHAT IT READS IS OF BULK AT MOST 1048576: true; the input reads as it did. -/
def fnEventsPartUptoRow : OpenClaim := { program := "ytnggcdgjbajnbaa", sum := "2775fbc6dd8343ab2ded73f16140f2ad924d8e386bca077d930787f7929f57d8", func := "loop.example/streambarrier/laws.FnEventsPart", spec := "fnEventsPart", apart := false, narrowed := true }
def FnEventsPartUptoSaid : Prop := fnEventsPartUptoRow.holds Try.pinned (OpenSpec.upto fnEventsPartSpec)

/-- 'laws.FnEvents', WHERE WHAT IT READS IS OF BULK AT MOST 1048576: true; the input reads as it did. -/
def fnEventsUptoRow : OpenClaim := { program := "ytnggcdgjbajnbaa", sum := "2775fbc6dd8343ab2ded73f16140f2ad924d8e386bca077d930787f7929f57d8", func := "loop.example/streambarrier/laws.FnEvents", spec := "fnEvents", apart := false, narrowed := true }
def FnEventsUptoSaid : Prop := fnEventsUptoRow.holds Try.pinned (OpenSpec.upto fnEventsSpec)

end Rows
end Go.Proofs.Ytnggcdgjbajnbaa
