/-
  No cell of these rows narrows 'for every input' (looked for: loops, veiled, ifaces, maps, wideKeys, modest, calm, conditions, laid).
  DERIVED. THE GIVEN ROWS OF THIS SEAT. 11 by the template 'for every input the law returns true; each argument reads behind the call as it read before'; 0 by the template 'total and deterministic' (their statements: YtmjficimnkbonaaTotals.lean).
  GIVEN WITH THE SEED: the statements are not yours to turn. If you find one false, say at which input.
  Laid BY PROGRAM, IN A SANDBOX (cutbox-rows.mjs): the forced cells as the released guide's own fill.sh prints them over the translation 20f4b53a57599e8b… (all of the seat's roots in one cut). By AI agents, Wed Nov 11 2026. No macro, syntax, notation, axiom, sorry.
-/
import Derived.Test.YtmjficimnkbonaaChecked
import GoSem.Claim
import GoSem.ClaimJoined
import GoSem.ClaimMapViews
import Derived.JoinedTies
import Derived.KernelRfl
namespace Go.Proofs.Ytmjficimnkbonaa
/- THE CELL 'sum', in the pinned program and in every row, IS THE sha256 OF THE DUMP (.gsa) THAT YtmjficimnkbonaaProg.lean LOADS. Nothing in Lean hashes anything: it is a label: what it is worth is what the hold of that sum in a sandbox is worth. -/
noncomputable def Try.pinned : Pinned := { name := "ytmjficimnkbonaa", sum := "20f4b53a57599e8b8b00c4eac7a11ed973121e9c6c3443f72761f68378d0baf7", checked := Try.checked }
namespace Rows
def none {H : Type} : Left H := { results := [], args := [] }

/-- 'laws.FnJoin': WHATEVER THE INPUT: true; the input reads as it did. -/
def fnJoinSpec : ChangeSpec := { name := "fnJoin", fn := fun _ => fun
  | [d] => { results := [.lit (.bool true)], args := [d] }
  | _ => none }
def fnJoinRow : OpenClaim := { program := "ytmjficimnkbonaa", sum := "20f4b53a57599e8b8b00c4eac7a11ed973121e9c6c3443f72761f68378d0baf7", func := "loop.example/streambarrier/laws.FnJoin", spec := "fnJoin", inPlace := ["slices.overlaps[string]"], apart := false }
def FnJoinSaid : Prop := fnJoinRow.holds Try.pinned (OpenSpec.ofChange fnJoinSpec)

/-- ITS FALSE NEIGHBOUR: 'it returns false'. Refute it at one input. -/
def fnJoinWrong : ChangeSpec := { name := "fnJoin", fn := fun _ => fun
  | [d] => { results := [.lit (.bool false)], args := [d] }
  | _ => none }
def FnJoinWrongFalsely : Prop := fnJoinRow.holds Try.pinned (OpenSpec.ofChange fnJoinWrong)

/-- 'laws.FnGroupPart': WHATEVER THE INPUT: true; the input reads as it did. -/
def fnGroupPartSpec : ChangeSpec := { name := "fnGroupPart", fn := fun _ => fun
  | [d] => { results := [.lit (.bool true)], args := [d] }
  | _ => none }
def fnGroupPartRow : OpenClaim := { program := "ytmjficimnkbonaa", sum := "20f4b53a57599e8b8b00c4eac7a11ed973121e9c6c3443f72761f68378d0baf7", func := "loop.example/streambarrier/laws.FnGroupPart", spec := "fnGroupPart", apart := false }
def FnGroupPartSaid : Prop := fnGroupPartRow.holds Try.pinned (OpenSpec.ofChange fnGroupPartSpec)

/-- ITS FALSE NEIGHBOUR: 'it returns false'. Refute it at one input. -/
def fnGroupPartWrong : ChangeSpec := { name := "fnGroupPart", fn := fun _ => fun
  | [d] => { results := [.lit (.bool false)], args := [d] }
  | _ => none }
def FnGroupPartWrongFalsely : Prop := fnGroupPartRow.holds Try.pinned (OpenSpec.ofChange fnGroupPartWrong)

/-- 'laws.FnExactGroupValid': WHATEVER THE INPUT: true; the input reads as it did. -/
def fnExactGroupValidSpec : ChangeSpec := { name := "fnExactGroupValid", fn := fun _ => fun
  | [d] => { results := [.lit (.bool true)], args := [d] }
  | _ => none }
def fnExactGroupValidRow : OpenClaim := { program := "ytmjficimnkbonaa", sum := "20f4b53a57599e8b8b00c4eac7a11ed973121e9c6c3443f72761f68378d0baf7", func := "loop.example/streambarrier/laws.FnExactGroupValid", spec := "fnExactGroupValid", apart := false }
def FnExactGroupValidSaid : Prop := fnExactGroupValidRow.holds Try.pinned (OpenSpec.ofChange fnExactGroupValidSpec)

/-- ITS FALSE NEIGHBOUR: 'it returns false'. Refute it at one input. -/
def fnExactGroupValidWrong : ChangeSpec := { name := "fnExactGroupValid", fn := fun _ => fun
  | [d] => { results := [.lit (.bool false)], args := [d] }
  | _ => none }
def FnExactGroupValidWrongFalsely : Prop := fnExactGroupValidRow.holds Try.pinned (OpenSpec.ofChange fnExactGroupValidWrong)

/-- 'laws.FnMoves': WHATEVER THE INPUT: true; the input reads as it did. -/
def fnMovesSpec : ChangeSpec := { name := "fnMoves", fn := fun _ => fun
  | [d] => { results := [.lit (.bool true)], args := [d] }
  | _ => none }
def fnMovesRow : OpenClaim := { program := "ytmjficimnkbonaa", sum := "20f4b53a57599e8b8b00c4eac7a11ed973121e9c6c3443f72761f68378d0baf7", func := "loop.example/streambarrier/laws.FnMoves", spec := "fnMoves", unfollowed := true, recurses := true, apart := false }
def FnMovesSaid : Prop := fnMovesRow.holds Try.pinned (OpenSpec.ofChange fnMovesSpec)

/-- ITS FALSE NEIGHBOUR: 'it returns false'. Refute it at one input. -/
def fnMovesWrong : ChangeSpec := { name := "fnMoves", fn := fun _ => fun
  | [d] => { results := [.lit (.bool false)], args := [d] }
  | _ => none }
def FnMovesWrongFalsely : Prop := fnMovesRow.holds Try.pinned (OpenSpec.ofChange fnMovesWrong)

/-- 'laws.FnExactGroupMoves': WHATEVER THE INPUT: true; the input reads as it did. -/
def fnExactGroupMovesSpec : ChangeSpec := { name := "fnExactGroupMoves", fn := fun _ => fun
  | [d1, d2] => { results := [.lit (.bool true)], args := [d1, d2] }
  | _ => none }
def fnExactGroupMovesRow : OpenClaim := { program := "ytmjficimnkbonaa", sum := "20f4b53a57599e8b8b00c4eac7a11ed973121e9c6c3443f72761f68378d0baf7", func := "loop.example/streambarrier/laws.FnExactGroupMoves", spec := "fnExactGroupMoves", unfollowed := true, recurses := true, apart := false }
def FnExactGroupMovesSaid : Prop := fnExactGroupMovesRow.holds Try.pinned (OpenSpec.ofChange fnExactGroupMovesSpec)

/-- ITS FALSE NEIGHBOUR: 'it returns false'. Refute it at one input. -/
def fnExactGroupMovesWrong : ChangeSpec := { name := "fnExactGroupMoves", fn := fun _ => fun
  | [d1, d2] => { results := [.lit (.bool false)], args := [d1, d2] }
  | _ => none }
def FnExactGroupMovesWrongFalsely : Prop := fnExactGroupMovesRow.holds Try.pinned (OpenSpec.ofChange fnExactGroupMovesWrong)

/-- 'laws.FnShare': WHATEVER THE INPUT: true; the input reads as it did. -/
def fnShareSpec : ChangeSpec := { name := "fnShare", fn := fun _ => fun
  | [d] => { results := [.lit (.bool true)], args := [d] }
  | _ => none }
def fnShareRow : OpenClaim := { program := "ytmjficimnkbonaa", sum := "20f4b53a57599e8b8b00c4eac7a11ed973121e9c6c3443f72761f68378d0baf7", func := "loop.example/streambarrier/laws.FnShare", spec := "fnShare", unfollowed := true, recurses := true, apart := false }
def FnShareSaid : Prop := fnShareRow.holds Try.pinned (OpenSpec.ofChange fnShareSpec)

/-- ITS FALSE NEIGHBOUR: 'it returns false'. Refute it at one input. -/
def fnShareWrong : ChangeSpec := { name := "fnShare", fn := fun _ => fun
  | [d] => { results := [.lit (.bool false)], args := [d] }
  | _ => none }
def FnShareWrongFalsely : Prop := fnShareRow.holds Try.pinned (OpenSpec.ofChange fnShareWrong)

/-- 'laws.FnShareEven': WHATEVER THE INPUT: true; the input reads as it did. -/
def fnShareEvenSpec : ChangeSpec := { name := "fnShareEven", fn := fun _ => fun
  | [d] => { results := [.lit (.bool true)], args := [d] }
  | _ => none }
def fnShareEvenRow : OpenClaim := { program := "ytmjficimnkbonaa", sum := "20f4b53a57599e8b8b00c4eac7a11ed973121e9c6c3443f72761f68378d0baf7", func := "loop.example/streambarrier/laws.FnShareEven", spec := "fnShareEven", unfollowed := true, recurses := true, apart := false }
def FnShareEvenSaid : Prop := fnShareEvenRow.holds Try.pinned (OpenSpec.ofChange fnShareEvenSpec)

/-- ITS FALSE NEIGHBOUR: 'it returns false'. Refute it at one input. -/
def fnShareEvenWrong : ChangeSpec := { name := "fnShareEven", fn := fun _ => fun
  | [d] => { results := [.lit (.bool false)], args := [d] }
  | _ => none }
def FnShareEvenWrongFalsely : Prop := fnShareEvenRow.holds Try.pinned (OpenSpec.ofChange fnShareEvenWrong)

/-- 'laws.FnShareOrder': WHATEVER THE INPUT: true; the input reads as it did. -/
def fnShareOrderSpec : ChangeSpec := { name := "fnShareOrder", fn := fun _ => fun
  | [d] => { results := [.lit (.bool true)], args := [d] }
  | _ => none }
def fnShareOrderRow : OpenClaim := { program := "ytmjficimnkbonaa", sum := "20f4b53a57599e8b8b00c4eac7a11ed973121e9c6c3443f72761f68378d0baf7", func := "loop.example/streambarrier/laws.FnShareOrder", spec := "fnShareOrder", unfollowed := true, recurses := true, apart := false }
def FnShareOrderSaid : Prop := fnShareOrderRow.holds Try.pinned (OpenSpec.ofChange fnShareOrderSpec)

/-- ITS FALSE NEIGHBOUR: 'it returns false'. Refute it at one input. -/
def fnShareOrderWrong : ChangeSpec := { name := "fnShareOrder", fn := fun _ => fun
  | [d] => { results := [.lit (.bool false)], args := [d] }
  | _ => none }
def FnShareOrderWrongFalsely : Prop := fnShareOrderRow.holds Try.pinned (OpenSpec.ofChange fnShareOrderWrong)

/-- 'laws.FnMovesAll': WHATEVER THE INPUT: true; the input reads as it did. -/
def fnMovesAllSpec : ChangeSpec := { name := "fnMovesAll", fn := fun _ => fun
  | [d] => { results := [.lit (.bool true)], args := [d] }
  | _ => none }
def fnMovesAllRow : OpenClaim := { program := "ytmjficimnkbonaa", sum := "20f4b53a57599e8b8b00c4eac7a11ed973121e9c6c3443f72761f68378d0baf7", func := "loop.example/streambarrier/laws.FnMovesAll", spec := "fnMovesAll", unfollowed := true, recurses := true, apart := false }
def FnMovesAllSaid : Prop := fnMovesAllRow.holds Try.pinned (OpenSpec.ofChange fnMovesAllSpec)

/-- ITS FALSE NEIGHBOUR: 'it returns false'. Refute it at one input. -/
def fnMovesAllWrong : ChangeSpec := { name := "fnMovesAll", fn := fun _ => fun
  | [d] => { results := [.lit (.bool false)], args := [d] }
  | _ => none }
def FnMovesAllWrongFalsely : Prop := fnMovesAllRow.holds Try.pinned (OpenSpec.ofChange fnMovesAllWrong)

/-- 'laws.FnExactGroupLeave': WHATEVER THE INPUT: true; the input reads as it did. -/
def fnExactGroupLeaveSpec : ChangeSpec := { name := "fnExactGroupLeave", fn := fun _ => fun
  | [d1, d2] => { results := [.lit (.bool true)], args := [d1, d2] }
  | _ => none }
def fnExactGroupLeaveRow : OpenClaim := { program := "ytmjficimnkbonaa", sum := "20f4b53a57599e8b8b00c4eac7a11ed973121e9c6c3443f72761f68378d0baf7", func := "loop.example/streambarrier/laws.FnExactGroupLeave", spec := "fnExactGroupLeave", apart := false }
def FnExactGroupLeaveSaid : Prop := fnExactGroupLeaveRow.holds Try.pinned (OpenSpec.ofChange fnExactGroupLeaveSpec)

/-- ITS FALSE NEIGHBOUR: 'it returns false'. Refute it at one input. -/
def fnExactGroupLeaveWrong : ChangeSpec := { name := "fnExactGroupLeave", fn := fun _ => fun
  | [d1, d2] => { results := [.lit (.bool false)], args := [d1, d2] }
  | _ => none }
def FnExactGroupLeaveWrongFalsely : Prop := fnExactGroupLeaveRow.holds Try.pinned (OpenSpec.ofChange fnExactGroupLeaveWrong)

/-- 'laws.FnExactGroupShare': WHATEVER THE INPUT: true; the input reads as it did. -/
def fnExactGroupShareSpec : ChangeSpec := { name := "fnExactGroupShare", fn := fun _ => fun
  | [d1, d2] => { results := [.lit (.bool true)], args := [d1, d2] }
  | _ => none }
def fnExactGroupShareRow : OpenClaim := { program := "ytmjficimnkbonaa", sum := "20f4b53a57599e8b8b00c4eac7a11ed973121e9c6c3443f72761f68378d0baf7", func := "loop.example/streambarrier/laws.FnExactGroupShare", spec := "fnExactGroupShare", unfollowed := true, recurses := true, apart := false }
def FnExactGroupShareSaid : Prop := fnExactGroupShareRow.holds Try.pinned (OpenSpec.ofChange fnExactGroupShareSpec)

/-- ITS FALSE NEIGHBOUR: 'it returns false'. Refute it at one input. -/
def fnExactGroupShareWrong : ChangeSpec := { name := "fnExactGroupShare", fn := fun _ => fun
  | [d1, d2] => { results := [.lit (.bool false)], args := [d1, d2] }
  | _ => none }
def FnExactGroupShareWrongFalsely : Prop := fnExactGroupShareRow.holds Try.pinned (OpenSpec.ofChange fnExactGroupShareWrong)

/- THE SECOND FORM. 'bulk': how many values and letters a reading holds, each counted each time it is reached (what is shared counts as often as it is met; a slice's spare places count too). A statement '..UptoSaid' is the law's where the arguments, and the package variables that the reading takes, are together of bulk at most 1048576: NARROWER than '..Said'. Prove '..Said' where nothing that the law and all that it calls make is longer than what came in: it says more and counts as full. Else prove '..UptoSaid'. A law counts once. -/
mutual
def uptoBulk {H : Type} : DataW H → Nat
  | .lit (.string bytes) => bytes.length + 1
  | .lit _ => 1
  | .nil => 1
  | .ptr d => uptoBulk d + 1
  | .slice elems spare => uptoBulkAll elems + uptoBulkAll spare + 1
  | .agg parts => uptoBulkAll parts + 1
  | .iface _ d => uptoBulk d + 1
  | .map entries => uptoBulkEntries entries + 1
  | .held _ => 1
def uptoBulkAll {H : Type} : List (DataW H) → Nat
  | [] => 0
  | d :: r => uptoBulk d + uptoBulkAll r
def uptoBulkEntries {H : Type} : List (Lit × DataW H) → Nat
  | [] => 0
  | x :: r => uptoBulkEntry x + uptoBulkEntries r
def uptoBulkEntry {H : Type} : Lit × DataW H → Nat
  | (.string bytes, d) => bytes.length + uptoBulk d + 1
  | (_, d) => uptoBulk d + 1
 end
def uptoSmall : (H : Type) → List (DataW H) → Bool := fun _ ds => decide (uptoBulkAll ds ≤ 1048576)
def OpenSpec.upto (s : _root_.Go.ChangeSpec) : _root_.Go.OpenSpec := { _root_.Go.OpenSpec.ofChange s with cond := some uptoSmall }

/-- 'laws.FnJoin', WHERE WHAT IT READS IS OF BULK AT MOST 1048576: true; the input reads as it did. -/
def fnJoinUptoRow : OpenClaim := { program := "ytmjficimnkbonaa", sum := "20f4b53a57599e8b8b00c4eac7a11ed973121e9c6c3443f72761f68378d0baf7", func := "loop.example/streambarrier/laws.FnJoin", spec := "fnJoin", inPlace := ["slices.overlaps[string]"], apart := false, narrowed := true }
def FnJoinUptoSaid : Prop := fnJoinUptoRow.holds Try.pinned (OpenSpec.upto fnJoinSpec)

/-- 'laws.FnGroupPart', WHERE WHAT IT READS IS OF BULK AT MOST 1048576: true; the input reads as it did. -/
def fnGroupPartUptoRow : OpenClaim := { program := "ytmjficimnkbonaa", sum := "20f4b53a57599e8b8b00c4eac7a11ed973121e9c6c3443f72761f68378d0baf7", func := "loop.example/streambarrier/laws.FnGroupPart", spec := "fnGroupPart", apart := false, narrowed := true }
def FnGroupPartUptoSaid : Prop := fnGroupPartUptoRow.holds Try.pinned (OpenSpec.upto fnGroupPartSpec)

/-- 'laws.FnExactGroupValid', WHERE WHAT IT READS IS OF BULK AT MOST 1048576: true; the input reads as it did. -/
def fnExactGroupValidUptoRow : OpenClaim := { program := "ytmjficimnkbonaa", sum := "20f4b53a57599e8b8b00c4eac7a11ed973121e9c6c3443f72761f68378d0baf7", func := "loop.example/streambarrier/laws.FnExactGroupValid", spec := "fnExactGroupValid", apart := false, narrowed := true }
def FnExactGroupValidUptoSaid : Prop := fnExactGroupValidUptoRow.holds Try.pinned (OpenSpec.upto fnExactGroupValidSpec)

/-- 'laws.FnMoves', WHERE WHAT IT READS IS OF BULK AT MOST 1048576: true; the input reads as it did. -/
def fnMovesUptoRow : OpenClaim := { program := "ytmjficimnkbonaa", sum := "20f4b53a57599e8b8b00c4eac7a11ed973121e9c6c3443f72761f68378d0baf7", func := "loop.example/streambarrier/laws.FnMoves", spec := "fnMoves", unfollowed := true, recurses := true, apart := false, narrowed := true }
def FnMovesUptoSaid : Prop := fnMovesUptoRow.holds Try.pinned (OpenSpec.upto fnMovesSpec)

/-- 'laws.FnExactGroupMoves', WHERE WHAT IT READS IS OF BULK AT MOST 1048576: true; the input reads as it did. -/
def fnExactGroupMovesUptoRow : OpenClaim := { program := "ytmjficimnkbonaa", sum := "20f4b53a57599e8b8b00c4eac7a11ed973121e9c6c3443f72761f68378d0baf7", func := "loop.example/streambarrier/laws.FnExactGroupMoves", spec := "fnExactGroupMoves", unfollowed := true, recurses := true, apart := false, narrowed := true }
def FnExactGroupMovesUptoSaid : Prop := fnExactGroupMovesUptoRow.holds Try.pinned (OpenSpec.upto fnExactGroupMovesSpec)

/-- 'laws.FnShare', WHERE WHAT IT READS IS OF BULK AT MOST 1048576: true; the input reads as it did. -/
def fnShareUptoRow : OpenClaim := { program := "ytmjficimnkbonaa", sum := "20f4b53a57599e8b8b00c4eac7a11ed973121e9c6c3443f72761f68378d0baf7", func := "loop.example/streambarrier/laws.FnShare", spec := "fnShare", unfollowed := true, recurses := true, apart := false, narrowed := true }
def FnShareUptoSaid : Prop := fnShareUptoRow.holds Try.pinned (OpenSpec.upto fnShareSpec)

/-- 'laws.FnShareEven', WHERE WHAT IT READS IS OF BULK AT MOST 1048576: true; the input reads as it did. -/
def fnShareEvenUptoRow : OpenClaim := { program := "ytmjficimnkbonaa", sum := "20f4b53a57599e8b8b00c4eac7a11ed973121e9c6c3443f72761f68378d0baf7", func := "loop.example/streambarrier/laws.FnShareEven", spec := "fnShareEven", unfollowed := true, recurses := true, apart := false, narrowed := true }
def FnShareEvenUptoSaid : Prop := fnShareEvenUptoRow.holds Try.pinned (OpenSpec.upto fnShareEvenSpec)

/-- 'laws.FnShareOrder', WHERE WHAT IT READS IS OF BULK AT MOST 1048576: true; the input reads as it did. -/
def fnShareOrderUptoRow : OpenClaim := { program := "ytmjficimnkbonaa", sum := "20f4b53a57599e8b8b00c4eac7a11ed973121e9c6c3443f72761f68378d0baf7", func := "loop.example/streambarrier/laws.FnShareOrder", spec := "fnShareOrder", unfollowed := true, recurses := true, apart := false, narrowed := true }
def FnShareOrderUptoSaid : Prop := fnShareOrderUptoRow.holds Try.pinned (OpenSpec.upto fnShareOrderSpec)

/-- 'laws.FnMovesAll', WHERE WHAT IT READS IS OF BULK AT MOST 1048576: true; the input reads as it did. -/
def fnMovesAllUptoRow : OpenClaim := { program := "ytmjficimnkbonaa", sum := "20f4b53a57599e8b8b00c4eac7a11ed973121e9c6c3443f72761f68378d0baf7", func := "loop.example/streambarrier/laws.FnMovesAll", spec := "fnMovesAll", unfollowed := true, recurses := true, apart := false, narrowed := true }
def FnMovesAllUptoSaid : Prop := fnMovesAllUptoRow.holds Try.pinned (OpenSpec.upto fnMovesAllSpec)

/-- 'laws.FnExactGroupLeave', WHERE WHAT IT READS IS OF BULK AT MOST 1048576: true; the input reads as it did. -/
def fnExactGroupLeaveUptoRow : OpenClaim := { program := "ytmjficimnkbonaa", sum := "20f4b53a57599e8b8b00c4eac7a11ed973121e9c6c3443f72761f68378d0baf7", func := "loop.example/streambarrier/laws.FnExactGroupLeave", spec := "fnExactGroupLeave", apart := false, narrowed := true }
def FnExactGroupLeaveUptoSaid : Prop := fnExactGroupLeaveUptoRow.holds Try.pinned (OpenSpec.upto fnExactGroupLeaveSpec)

/-- 'laws.FnExactGroupShare', WHERE WHAT IT READS IS OF BULK AT MOST 1048576: true; the input reads as it did. -/
def fnExactGroupShareUptoRow : OpenClaim := { program := "ytmjficimnkbonaa", sum := "20f4b53a57599e8b8b00c4eac7a11ed973121e9c6c3443f72761f68378d0baf7", func := "loop.example/streambarrier/laws.FnExactGroupShare", spec := "fnExactGroupShare", unfollowed := true, recurses := true, apart := false, narrowed := true }
def FnExactGroupShareUptoSaid : Prop := fnExactGroupShareUptoRow.holds Try.pinned (OpenSpec.upto fnExactGroupShareSpec)

end Rows
end Go.Proofs.Ytmjficimnkbonaa
