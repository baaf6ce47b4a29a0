/-
  DERIVED. GIVEN WITH THE SEED: THE CARDS: each row of YtaiacpihkhjghaaDoorRows.lean that lists a variable, with what it lists TIED to the program's text (the seventh form; the later family's looks); each row that meets fmt, with fmt's text TOLD by the authors' own Lean function (tested against real Go, not proved from fmt's source: count such statements apart). THE CARD IS WHAT COUNTS. Prove the row's statement (the work); the ties are given (YtaiacpihkhjghaaDoorTie.lean); close each card by the builder's one call (the guide's Derived/Test/ToyasCard.lean, 'card_holds'). Laid BY PROGRAM, IN A SANDBOX (cutbox-door.mjs). By AI agents, Wed Nov 11 2026. No macro, syntax, notation, axiom, sorry.
-/
import Derived.Test.YtaiacpihkhjghaaDoorRows
import GoSem.ClaimSeven
namespace Go.Proofs.YtaiacpihkhjghaaDoor
namespace Rows

/-- THE TIED CARD OF 'laws.FnPartsNot'. -/
def fnPartsNotCard : Claim7 := { stood := { row := fnPartsNotRow, standIns := [], harness := (true, "fab8d19957b2cb01dfd4482b392feabd97f56bdf9e90de0be1b2eb5960d6a302"), looks := true }, kinds := [], alts := [], laidByText := true, laidKinds := [.sentinel], laidTests := true, laidLooks := .later }
def FnPartsNotCardSaid : Prop := Claim7.holds Tryd.pinned (.plain (OpenSpec.ofChange fnPartsNotSpec)) fnPartsNotCard

/-- THE SECOND FORM's CARD OF 'laws.FnPartsNot'. -/
def fnPartsNotUptoCard : Claim7 := { stood := { row := fnPartsNotUptoRow, standIns := [], harness := (true, "fab8d19957b2cb01dfd4482b392feabd97f56bdf9e90de0be1b2eb5960d6a302"), looks := true }, kinds := [], alts := [], laidByText := true, laidKinds := [.sentinel], laidTests := true, laidLooks := .later }
def FnPartsNotUptoCardSaid : Prop := Claim7.holds Tryd.pinned (.plain (OpenSpec.upto fnPartsNotSpec)) fnPartsNotUptoCard
end Rows
end Go.Proofs.YtaiacpihkhjghaaDoor
