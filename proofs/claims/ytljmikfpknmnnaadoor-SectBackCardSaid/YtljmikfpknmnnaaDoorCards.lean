/-
  DERIVED. GIVEN WITH THE SEED: THE CARDS: each row of YtljmikfpknmnnaaDoorRows.lean that lists a variable, with what it lists TIED to the program's text (the seventh form; the later family's looks); each row that meets fmt, with fmt's text TOLD by the authors' own Lean function (tested against real Go, not proved from fmt's source: count such statements apart). THE CARD IS WHAT COUNTS. Prove the row's statement (the work); the ties are given (YtljmikfpknmnnaaDoorTie.lean); close each card by the builder's one call (the guide's Derived/Test/ToyasCard.lean, 'card_holds'). Laid BY PROGRAM, IN A SANDBOX (cutbox-door.mjs). By AI agents, Wed Nov 11 2026. No macro, syntax, notation, axiom, sorry.
-/
import Derived.Test.YtljmikfpknmnnaaDoorRows
import GoSem.ClaimSeven
namespace Go.Proofs.YtljmikfpknmnnaaDoor
namespace Rows

/-- THE TIED CARD OF 'mandrellaw01.LebTakes'. -/
def lebTakesCard : Claim7 := { stood := { row := lebTakesRow, standIns := [], harness := (true, "e1edd8c75b64c0513390ff18c576625956ebf714f12b7df81edbd5d44fe04e51"), looks := true }, kinds := [], alts := [], laidByText := true, laidKinds := [.handle], laidTests := true, laidLooks := .later }
def LebTakesCardSaid : Prop := Claim7.holds Tryd.pinned (.plain (OpenSpec.ofChange lebTakesSpec)) lebTakesCard

/-- THE TIED CARD OF 'mandrellaw01.LebLong'. -/
def lebLongCard : Claim7 := { stood := { row := lebLongRow, standIns := [], harness := (true, "e1edd8c75b64c0513390ff18c576625956ebf714f12b7df81edbd5d44fe04e51"), looks := true }, kinds := [], alts := [], laidByText := true, laidKinds := [.handle], laidTests := true, laidLooks := .later }
def LebLongCardSaid : Prop := Claim7.holds Tryd.pinned (.plain (OpenSpec.ofChange lebLongSpec)) lebLongCard

/-- THE TIED CARD OF 'mandrellaw06.SectSplits'. -/
def sectSplitsCard : Claim7 := { stood := { row := sectSplitsRow, standIns := [], harness := (true, "e1edd8c75b64c0513390ff18c576625956ebf714f12b7df81edbd5d44fe04e51"), looks := true }, kinds := [], alts := [], laidByText := true, laidKinds := [.handle], laidTests := true, laidLooks := .later }
def SectSplitsCardSaid : Prop := Claim7.holds Tryd.pinned (.plain (OpenSpec.ofChange sectSplitsSpec)) sectSplitsCard

/-- THE TIED CARD OF 'mandrellaw06.SectOrder'. -/
def sectOrderCard : Claim7 := { stood := { row := sectOrderRow, standIns := [], harness := (true, "e1edd8c75b64c0513390ff18c576625956ebf714f12b7df81edbd5d44fe04e51"), looks := true }, kinds := [], alts := [], laidByText := true, laidKinds := [.handle], laidTests := true, laidLooks := .later }
def SectOrderCardSaid : Prop := Claim7.holds Tryd.pinned (.plain (OpenSpec.ofChange sectOrderSpec)) sectOrderCard

/-- THE TIED CARD OF 'mandrellaw06.SectJoins'. -/
def sectJoinsCard : Claim7 := { stood := { row := sectJoinsRow, standIns := [], harness := (true, "e1edd8c75b64c0513390ff18c576625956ebf714f12b7df81edbd5d44fe04e51"), looks := true }, kinds := [], alts := [], laidByText := true, laidKinds := [.handle], laidTests := true, laidLooks := .later }
def SectJoinsCardSaid : Prop := Claim7.holds Tryd.pinned (.plain (OpenSpec.ofChange sectJoinsSpec)) sectJoinsCard

/-- THE TIED CARD OF 'mandrellaw06.SectBack'. -/
def sectBackCard : Claim7 := { stood := { row := sectBackRow, standIns := [], harness := (true, "e1edd8c75b64c0513390ff18c576625956ebf714f12b7df81edbd5d44fe04e51"), looks := true }, kinds := [], alts := [], laidByText := true, laidKinds := [.handle], laidTests := true, laidLooks := .later }
def SectBackCardSaid : Prop := Claim7.holds Tryd.pinned (.plain (OpenSpec.ofChange sectBackSpec)) sectBackCard

/-- THE TIED CARD OF 'mandrellaw06.SectTexts'. -/
def sectTextsCard : Claim7 := { stood := { row := sectTextsRow, standIns := [], harness := (true, "e1edd8c75b64c0513390ff18c576625956ebf714f12b7df81edbd5d44fe04e51"), looks := true }, kinds := [], alts := [], laidByText := true, laidKinds := [.handle], laidTests := true, laidLooks := .later }
def SectTextsCardSaid : Prop := Claim7.holds Tryd.pinned (.plain (OpenSpec.ofChange sectTextsSpec)) sectTextsCard

/-- THE SECOND FORM's CARD OF 'mandrellaw01.LebTakes'. -/
def lebTakesUptoCard : Claim7 := { stood := { row := lebTakesUptoRow, standIns := [], harness := (true, "e1edd8c75b64c0513390ff18c576625956ebf714f12b7df81edbd5d44fe04e51"), looks := true }, kinds := [], alts := [], laidByText := true, laidKinds := [.handle], laidTests := true, laidLooks := .later }
def LebTakesUptoCardSaid : Prop := Claim7.holds Tryd.pinned (.plain (OpenSpec.upto lebTakesSpec)) lebTakesUptoCard

/-- THE SECOND FORM's CARD OF 'mandrellaw01.LebLong'. -/
def lebLongUptoCard : Claim7 := { stood := { row := lebLongUptoRow, standIns := [], harness := (true, "e1edd8c75b64c0513390ff18c576625956ebf714f12b7df81edbd5d44fe04e51"), looks := true }, kinds := [], alts := [], laidByText := true, laidKinds := [.handle], laidTests := true, laidLooks := .later }
def LebLongUptoCardSaid : Prop := Claim7.holds Tryd.pinned (.plain (OpenSpec.upto lebLongSpec)) lebLongUptoCard

/-- THE SECOND FORM's CARD OF 'mandrellaw06.SectSplits'. -/
def sectSplitsUptoCard : Claim7 := { stood := { row := sectSplitsUptoRow, standIns := [], harness := (true, "e1edd8c75b64c0513390ff18c576625956ebf714f12b7df81edbd5d44fe04e51"), looks := true }, kinds := [], alts := [], laidByText := true, laidKinds := [.handle], laidTests := true, laidLooks := .later }
def SectSplitsUptoCardSaid : Prop := Claim7.holds Tryd.pinned (.plain (OpenSpec.upto sectSplitsSpec)) sectSplitsUptoCard

/-- THE SECOND FORM's CARD OF 'mandrellaw06.SectOrder'. -/
def sectOrderUptoCard : Claim7 := { stood := { row := sectOrderUptoRow, standIns := [], harness := (true, "e1edd8c75b64c0513390ff18c576625956ebf714f12b7df81edbd5d44fe04e51"), looks := true }, kinds := [], alts := [], laidByText := true, laidKinds := [.handle], laidTests := true, laidLooks := .later }
def SectOrderUptoCardSaid : Prop := Claim7.holds Tryd.pinned (.plain (OpenSpec.upto sectOrderSpec)) sectOrderUptoCard

/-- THE SECOND FORM's CARD OF 'mandrellaw06.SectJoins'. -/
def sectJoinsUptoCard : Claim7 := { stood := { row := sectJoinsUptoRow, standIns := [], harness := (true, "e1edd8c75b64c0513390ff18c576625956ebf714f12b7df81edbd5d44fe04e51"), looks := true }, kinds := [], alts := [], laidByText := true, laidKinds := [.handle], laidTests := true, laidLooks := .later }
def SectJoinsUptoCardSaid : Prop := Claim7.holds Tryd.pinned (.plain (OpenSpec.upto sectJoinsSpec)) sectJoinsUptoCard

/-- THE SECOND FORM's CARD OF 'mandrellaw06.SectBack'. -/
def sectBackUptoCard : Claim7 := { stood := { row := sectBackUptoRow, standIns := [], harness := (true, "e1edd8c75b64c0513390ff18c576625956ebf714f12b7df81edbd5d44fe04e51"), looks := true }, kinds := [], alts := [], laidByText := true, laidKinds := [.handle], laidTests := true, laidLooks := .later }
def SectBackUptoCardSaid : Prop := Claim7.holds Tryd.pinned (.plain (OpenSpec.upto sectBackSpec)) sectBackUptoCard

/-- THE SECOND FORM's CARD OF 'mandrellaw06.SectTexts'. -/
def sectTextsUptoCard : Claim7 := { stood := { row := sectTextsUptoRow, standIns := [], harness := (true, "e1edd8c75b64c0513390ff18c576625956ebf714f12b7df81edbd5d44fe04e51"), looks := true }, kinds := [], alts := [], laidByText := true, laidKinds := [.handle], laidTests := true, laidLooks := .later }
def SectTextsUptoCardSaid : Prop := Claim7.holds Tryd.pinned (.plain (OpenSpec.upto sectTextsSpec)) sectTextsUptoCard
end Rows
end Go.Proofs.YtljmikfpknmnnaaDoor
