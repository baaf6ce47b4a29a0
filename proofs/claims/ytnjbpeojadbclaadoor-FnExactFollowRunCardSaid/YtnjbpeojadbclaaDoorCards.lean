/-
  DERIVED. GIVEN WITH THE SEED: THE CARDS: each row of YtnjbpeojadbclaaDoorRows.lean that lists a variable, with what it lists TIED to the program's text (the seventh form; the later family's looks); each row that meets fmt, with fmt's text TOLD by the authors' own Lean function (tested against real Go, not proved from fmt's source: count such statements apart). THE CARD IS WHAT COUNTS. Prove the row's statement (the work); the ties are given (YtnjbpeojadbclaaDoorTie.lean); close each card by the builder's one call (the guide's Derived/Test/ToyasCard.lean, 'card_holds'). Laid BY PROGRAM, IN A SANDBOX (cutbox-door.mjs). By AI agents, Wed Nov 11 2026. No macro, syntax, notation, axiom, sorry.
-/
import Derived.Test.YtnjbpeojadbclaaDoorRows
import GoSem.ClaimSeven
namespace Go.Proofs.YtnjbpeojadbclaaDoor
namespace Rows

/-- THE TIED CARD OF 'laws.FnExactFollowMend'. -/
def fnExactFollowMendCard : Claim7 := { stood := { row := fnExactFollowMendRow, standIns := [], harness := (true, "074bcb24666441a2f05e8b0521437e855fefd4592ecff7840ce63452199f0734"), looks := true }, kinds := [], alts := [], laidByText := true, laidKinds := [.sentinel], laidTests := true, laidLooks := .later }
def FnExactFollowMendCardSaid : Prop := Claim7.holds Tryd.pinned (.plain (OpenSpec.ofChange fnExactFollowMendSpec)) fnExactFollowMendCard

/-- THE TIED CARD OF 'laws.FnExactFollowRun'. -/
def fnExactFollowRunCard : Claim7 := { stood := { row := fnExactFollowRunRow, standIns := [], harness := (true, "074bcb24666441a2f05e8b0521437e855fefd4592ecff7840ce63452199f0734"), looks := true }, kinds := [], alts := [], laidByText := true, laidKinds := [.sentinel], laidTests := true, laidLooks := .later }
def FnExactFollowRunCardSaid : Prop := Claim7.holds Tryd.pinned (.plain (OpenSpec.ofChange fnExactFollowRunSpec)) fnExactFollowRunCard

/-- THE SECOND FORM's CARD OF 'laws.FnExactFollowMend'. -/
def fnExactFollowMendUptoCard : Claim7 := { stood := { row := fnExactFollowMendUptoRow, standIns := [], harness := (true, "074bcb24666441a2f05e8b0521437e855fefd4592ecff7840ce63452199f0734"), looks := true }, kinds := [], alts := [], laidByText := true, laidKinds := [.sentinel], laidTests := true, laidLooks := .later }
def FnExactFollowMendUptoCardSaid : Prop := Claim7.holds Tryd.pinned (.plain (OpenSpec.upto fnExactFollowMendSpec)) fnExactFollowMendUptoCard

/-- THE SECOND FORM's CARD OF 'laws.FnExactFollowRun'. -/
def fnExactFollowRunUptoCard : Claim7 := { stood := { row := fnExactFollowRunUptoRow, standIns := [], harness := (true, "074bcb24666441a2f05e8b0521437e855fefd4592ecff7840ce63452199f0734"), looks := true }, kinds := [], alts := [], laidByText := true, laidKinds := [.sentinel], laidTests := true, laidLooks := .later }
def FnExactFollowRunUptoCardSaid : Prop := Claim7.holds Tryd.pinned (.plain (OpenSpec.upto fnExactFollowRunSpec)) fnExactFollowRunUptoCard
end Rows
end Go.Proofs.YtnjbpeojadbclaaDoor
