/-
  DERIVED. GIVEN WITH THE SEED: THE CARDS: each row of YtolhijnkgkfjgaaDoorRows.lean that lists a variable, with what it lists TIED to the program's text (the seventh form; the later family's looks); each row that meets fmt, with fmt's text TOLD by the authors' own Lean function (tested against real Go, not proved from fmt's source: count such statements apart). THE CARD IS WHAT COUNTS. Prove the row's statement (the work); the ties are given (YtolhijnkgkfjgaaDoorTie.lean); close each card by the builder's one call (the guide's Derived/Test/ToyasCard.lean, 'card_holds'). Laid BY PROGRAM, IN A SANDBOX (cutbox-door.mjs). By AI agents, Wed Nov 11 2026. No macro, syntax, notation, axiom, sorry.
-/
import Derived.Test.YtolhijnkgkfjgaaDoorRows
import GoSem.ClaimSeven
namespace Go.Proofs.YtolhijnkgkfjgaaDoor
namespace Rows

/-- THE TIED CARD OF 'mandrellaw19.ScanAssigns'. -/
def scanAssignsCard : Claim7 := { stood := { row := scanAssignsRow, standIns := [], harness := (true, "00f83820a03bbc4f48e572724cfdc04fe723ea4a152d463d4cb8f1a2e09b96c8"), looks := true }, kinds := [], alts := [], laidByText := true, laidKinds := [.handle], laidTests := true, laidLooks := .later }
def ScanAssignsCardSaid : Prop := Claim7.holds Tryd.pinned (.plain (OpenSpec.ofChange scanAssignsSpec)) scanAssignsCard

/-- THE SECOND FORM's CARD OF 'mandrellaw19.ScanAssigns'. -/
def scanAssignsUptoCard : Claim7 := { stood := { row := scanAssignsUptoRow, standIns := [], harness := (true, "00f83820a03bbc4f48e572724cfdc04fe723ea4a152d463d4cb8f1a2e09b96c8"), looks := true }, kinds := [], alts := [], laidByText := true, laidKinds := [.handle], laidTests := true, laidLooks := .later }
def ScanAssignsUptoCardSaid : Prop := Claim7.holds Tryd.pinned (.plain (OpenSpec.upto scanAssignsSpec)) scanAssignsUptoCard
end Rows
end Go.Proofs.YtolhijnkgkfjgaaDoor
