/-
  DERIVED. GIVEN WITH THE SEED: THE CARDS: each row of YtaklfdlcedlmfaaDoorRows.lean that lists a variable, with what it lists TIED to the program's text (the seventh form; the later family's looks); each row that meets fmt, with fmt's text TOLD by the authors' own Lean function (tested against real Go, not proved from fmt's source: count such statements apart). THE CARD IS WHAT COUNTS. Prove the row's statement (the work); the ties are given (YtaklfdlcedlmfaaDoorTie.lean); close each card by the builder's one call (the guide's Derived/Test/ToyasCard.lean, 'card_holds'). Laid BY PROGRAM, IN A SANDBOX (cutbox-door.mjs). By AI agents, Wed Nov 11 2026. No macro, syntax, notation, axiom, sorry.
-/
import Derived.Test.YtaklfdlcedlmfaaDoorRows
import GoSem.ClaimSeven
namespace Go.Proofs.YtaklfdlcedlmfaaDoor
namespace Rows

/-- THE TIED CARD OF 'mandrellaw20.MovesPlans'. -/
def movesPlansCard : Claim7 := { stood := { row := movesPlansRow, standIns := [], harness := (true, "08f072a4070e81a6de60d141fee6b0c40665098f7685f9b272d9293d70d0bd44"), looks := true }, kinds := [], alts := [], laidByText := true, laidKinds := [.handle], laidTests := true, laidLooks := .later }
def MovesPlansCardSaid : Prop := Claim7.holds Tryd.pinned (.plain (OpenSpec.ofChange movesPlansSpec)) movesPlansCard

/-- THE TIED CARD OF 'mandrellaw20.MovesDo'. -/
def movesDoCard : Claim7 := { stood := { row := movesDoRow, standIns := [], harness := (true, "08f072a4070e81a6de60d141fee6b0c40665098f7685f9b272d9293d70d0bd44"), looks := true }, kinds := [], alts := [], laidByText := true, laidKinds := [.handle], laidTests := true, laidLooks := .later }
def MovesDoCardSaid : Prop := Claim7.holds Tryd.pinned (.plain (OpenSpec.ofChange movesDoSpec)) movesDoCard

/-- THE TIED CARD OF 'mandrellaw20.MovesRings'. -/
def movesRingsCard : Claim7 := { stood := { row := movesRingsRow, standIns := [], harness := (true, "08f072a4070e81a6de60d141fee6b0c40665098f7685f9b272d9293d70d0bd44"), looks := true }, kinds := [], alts := [], laidByText := true, laidKinds := [.handle], laidTests := true, laidLooks := .later }
def MovesRingsCardSaid : Prop := Claim7.holds Tryd.pinned (.plain (OpenSpec.ofChange movesRingsSpec)) movesRingsCard

/-- THE SECOND FORM's CARD OF 'mandrellaw20.MovesPlans'. -/
def movesPlansUptoCard : Claim7 := { stood := { row := movesPlansUptoRow, standIns := [], harness := (true, "08f072a4070e81a6de60d141fee6b0c40665098f7685f9b272d9293d70d0bd44"), looks := true }, kinds := [], alts := [], laidByText := true, laidKinds := [.handle], laidTests := true, laidLooks := .later }
def MovesPlansUptoCardSaid : Prop := Claim7.holds Tryd.pinned (.plain (OpenSpec.upto movesPlansSpec)) movesPlansUptoCard

/-- THE SECOND FORM's CARD OF 'mandrellaw20.MovesDo'. -/
def movesDoUptoCard : Claim7 := { stood := { row := movesDoUptoRow, standIns := [], harness := (true, "08f072a4070e81a6de60d141fee6b0c40665098f7685f9b272d9293d70d0bd44"), looks := true }, kinds := [], alts := [], laidByText := true, laidKinds := [.handle], laidTests := true, laidLooks := .later }
def MovesDoUptoCardSaid : Prop := Claim7.holds Tryd.pinned (.plain (OpenSpec.upto movesDoSpec)) movesDoUptoCard

/-- THE SECOND FORM's CARD OF 'mandrellaw20.MovesRings'. -/
def movesRingsUptoCard : Claim7 := { stood := { row := movesRingsUptoRow, standIns := [], harness := (true, "08f072a4070e81a6de60d141fee6b0c40665098f7685f9b272d9293d70d0bd44"), looks := true }, kinds := [], alts := [], laidByText := true, laidKinds := [.handle], laidTests := true, laidLooks := .later }
def MovesRingsUptoCardSaid : Prop := Claim7.holds Tryd.pinned (.plain (OpenSpec.upto movesRingsSpec)) movesRingsUptoCard
end Rows
end Go.Proofs.YtaklfdlcedlmfaaDoor
