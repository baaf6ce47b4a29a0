/-
  NARROWER THAN 'FOR EVERY INPUT', by the rows' own cells (each row's printed sentence says how): FnExactFollowMend: ifaces, laid · FnExactFollowRun: ifaces, laid.
  DERIVED. THE GIVEN ROWS OF THIS SEAT. 2 by the template 'for every input the law returns true; each argument reads behind the call as it read before'; 0 by the template 'total and deterministic' (their statements: YtnjbpeojadbclaaDoorTotals.lean).
  GIVEN WITH THE SEED: the statements are not yours to turn. If you find one false, say at which input.
  Laid BY PROGRAM, IN A SANDBOX (cutbox-rows.mjs): the forced cells as the released guide's own fill.sh prints them over the translation a7ae040e99251849… (all of the seat's roots in one cut). By AI agents, Wed Nov 11 2026. No macro, syntax, notation, axiom, sorry.
-/
import Derived.Test.YtnjbpeojadbclaaDoorChecked
import GoSem.Claim
import GoSem.ClaimJoined
import GoSem.ClaimMapViews
import Derived.JoinedTies
import Derived.KernelRfl
namespace Go.Proofs.YtnjbpeojadbclaaDoor
/- THE CELL 'sum', in the pinned program and in every row, IS THE sha256 OF THE DUMP (.gsa) THAT YtnjbpeojadbclaaDoorProg.lean LOADS. Nothing in Lean hashes anything: it is a label: what it is worth is what the hold of that sum in a sandbox is worth. -/
noncomputable def Tryd.pinned : Pinned := { name := "ytnjbpeojadbclaadoor", sum := "a7ae040e99251849a82ad1c2a1919ab7d38b75aab36b1c2bd88f8c5d69966839", checked := Tryd.checked }
namespace Rows
def none {H : Type} : Left H := { results := [], args := [] }

/- WHAT THE LISTED PACKAGE-LEVEL VARIABLES READ AS WHEN THE CALL BEGINS. Each datum BY PROGRAM (the guide's laid-datum.mjs) off the statement by which the dump's own 'gosem.cut.vars' lays the variable. In a bare row this is a premise. The card (YtnjbpeojadbclaaDoorCards.lean) ties it to the program's text. -/
def laid_loop_example_streambarrier_impl_errNoName {H : Type} : DataW H := .iface "*errors.errorString" (.ptr (.agg [.lit (.string [110, 111, 32, 110, 97, 109, 101, 32, 111, 102, 32, 97, 32, 115, 116, 114, 101, 97, 109])]))

/-- 'laws.FnExactFollowMend': WHATEVER THE INPUT: true; the input reads as it did. -/
def fnExactFollowMendSpec : ChangeSpec := { name := "fnExactFollowMend", vars := ["loop.example/streambarrier/impl.errNoName"], fn := fun _ => fun
  | [d1, d2, g1] => { results := [.lit (.bool true)], args := [d1, d2], vars := [g1] }
  | _ => none }
def fnExactFollowMendRow : OpenClaim := { program := "ytnjbpeojadbclaadoor", sum := "a7ae040e99251849a82ad1c2a1919ab7d38b75aab36b1c2bd88f8c5d69966839", func := "loop.example/streambarrier/laws.FnExactFollowMend", spec := "fnExactFollowMend", inPlace := ["internal/bytealg.IndexByteString", "internal/bytealg.IndexString", "internal/reflectlite.TypeOf"], unfollowed := true, recurses := true, named := ["loop.example/streambarrier/impl.errNoName", "internal/bytealg.MaxLen"], ifaces := true, apart := false, laid := [("loop.example/streambarrier/impl.errNoName", laid_loop_example_streambarrier_impl_errNoName)] }
def FnExactFollowMendSaid : Prop := fnExactFollowMendRow.holds Tryd.pinned (OpenSpec.ofChange fnExactFollowMendSpec)

/-- ITS FALSE NEIGHBOUR: 'it returns false'. Refute it at one input. -/
def fnExactFollowMendWrong : ChangeSpec := { name := "fnExactFollowMend", vars := ["loop.example/streambarrier/impl.errNoName"], fn := fun _ => fun
  | [d1, d2, g1] => { results := [.lit (.bool false)], args := [d1, d2], vars := [g1] }
  | _ => none }
def FnExactFollowMendWrongFalsely : Prop := fnExactFollowMendRow.holds Tryd.pinned (OpenSpec.ofChange fnExactFollowMendWrong)

/-- 'laws.FnExactFollowRun': WHATEVER THE INPUT: true; the input reads as it did. -/
def fnExactFollowRunSpec : ChangeSpec := { name := "fnExactFollowRun", vars := ["loop.example/streambarrier/impl.errNoName"], fn := fun _ => fun
  | [d1, d2, d3, g1] => { results := [.lit (.bool true)], args := [d1, d2, d3], vars := [g1] }
  | _ => none }
def fnExactFollowRunRow : OpenClaim := { program := "ytnjbpeojadbclaadoor", sum := "a7ae040e99251849a82ad1c2a1919ab7d38b75aab36b1c2bd88f8c5d69966839", func := "loop.example/streambarrier/laws.FnExactFollowRun", spec := "fnExactFollowRun", inPlace := ["internal/bytealg.IndexByteString", "internal/bytealg.IndexString", "internal/reflectlite.TypeOf"], unfollowed := true, recurses := true, named := ["loop.example/streambarrier/impl.errNoName", "internal/bytealg.MaxLen"], ifaces := true, apart := false, laid := [("loop.example/streambarrier/impl.errNoName", laid_loop_example_streambarrier_impl_errNoName)] }
def FnExactFollowRunSaid : Prop := fnExactFollowRunRow.holds Tryd.pinned (OpenSpec.ofChange fnExactFollowRunSpec)

/-- ITS FALSE NEIGHBOUR: 'it returns false'. Refute it at one input. -/
def fnExactFollowRunWrong : ChangeSpec := { name := "fnExactFollowRun", vars := ["loop.example/streambarrier/impl.errNoName"], fn := fun _ => fun
  | [d1, d2, d3, g1] => { results := [.lit (.bool false)], args := [d1, d2, d3], vars := [g1] }
  | _ => none }
def FnExactFollowRunWrongFalsely : Prop := fnExactFollowRunRow.holds Tryd.pinned (OpenSpec.ofChange fnExactFollowRunWrong)

/- THE SECOND FORM. 'bulk': how many values and letters a reading holds, each counted each time it is reached (what is shared counts as often as it is met; a slice's spare places count too). A statement '..UptoSaid' is the law's where the arguments, and the package variables that the reading takes, are together of bulk at most 1048576: NARROWER than '..Said'. Prove '..Said' where nothing that the law and all that it calls make is longer than what came in: it says more and counts as full. Else prove '..UptoSaid'. A law counts once. -/
mutual
def uptoBulk {H : Type} : DataW H → Nat
  | .lit (.string bytes) => bytes.length + 1
  | .lit _ => 1
  | .nil => 1
  | .ptr d => uptoBulk d + 1
  | .slice elems spare => uptoBulkAll elems + uptoBulkAll spare + 1
  | .agg parts => uptoBulkAll parts + 1
  | .iface _ d => uptoBulk d + 1
  | .map entries => uptoBulkEntries entries + 1
  | .held _ => 1
def uptoBulkAll {H : Type} : List (DataW H) → Nat
  | [] => 0
  | d :: r => uptoBulk d + uptoBulkAll r
def uptoBulkEntries {H : Type} : List (Lit × DataW H) → Nat
  | [] => 0
  | x :: r => uptoBulkEntry x + uptoBulkEntries r
def uptoBulkEntry {H : Type} : Lit × DataW H → Nat
  | (.string bytes, d) => bytes.length + uptoBulk d + 1
  | (_, d) => uptoBulk d + 1
 end
def uptoSmall : (H : Type) → List (DataW H) → Bool := fun _ ds => decide (uptoBulkAll ds ≤ 1048576)
def OpenSpec.upto (s : _root_.Go.ChangeSpec) : _root_.Go.OpenSpec := { _root_.Go.OpenSpec.ofChange s with cond := some uptoSmall }

/-- 'laws.FnExactFollowMend', WHERE WHAT IT READS IS OF BULK AT MOST 1048576: true; the input reads as it did. -/
def fnExactFollowMendUptoRow : OpenClaim := { program := "ytnjbpeojadbclaadoor", sum := "a7ae040e99251849a82ad1c2a1919ab7d38b75aab36b1c2bd88f8c5d69966839", func := "loop.example/streambarrier/laws.FnExactFollowMend", spec := "fnExactFollowMend", inPlace := ["internal/bytealg.IndexByteString", "internal/bytealg.IndexString", "internal/reflectlite.TypeOf"], unfollowed := true, recurses := true, named := ["loop.example/streambarrier/impl.errNoName", "internal/bytealg.MaxLen"], ifaces := true, apart := false, laid := [("loop.example/streambarrier/impl.errNoName", laid_loop_example_streambarrier_impl_errNoName)], narrowed := true }
def FnExactFollowMendUptoSaid : Prop := fnExactFollowMendUptoRow.holds Tryd.pinned (OpenSpec.upto fnExactFollowMendSpec)

/-- 'laws.FnExactFollowRun', WHERE WHAT IT READS IS OF BULK AT MOST 1048576: true; the input reads as it did. -/
def fnExactFollowRunUptoRow : OpenClaim := { program := "ytnjbpeojadbclaadoor", sum := "a7ae040e99251849a82ad1c2a1919ab7d38b75aab36b1c2bd88f8c5d69966839", func := "loop.example/streambarrier/laws.FnExactFollowRun", spec := "fnExactFollowRun", inPlace := ["internal/bytealg.IndexByteString", "internal/bytealg.IndexString", "internal/reflectlite.TypeOf"], unfollowed := true, recurses := true, named := ["loop.example/streambarrier/impl.errNoName", "internal/bytealg.MaxLen"], ifaces := true, apart := false, laid := [("loop.example/streambarrier/impl.errNoName", laid_loop_example_streambarrier_impl_errNoName)], narrowed := true }
def FnExactFollowRunUptoSaid : Prop := fnExactFollowRunUptoRow.holds Tryd.pinned (OpenSpec.upto fnExactFollowRunSpec)

end Rows
end Go.Proofs.YtnjbpeojadbclaaDoor
