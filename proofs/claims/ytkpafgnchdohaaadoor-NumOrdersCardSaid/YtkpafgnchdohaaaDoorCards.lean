/-
  DERIVED. GIVEN WITH THE SEED: THE CARDS: each row of YtkpafgnchdohaaaDoorRows.lean that lists a variable, with what it lists TIED to the program's text (the seventh form; the later family's looks); each row that meets fmt, with fmt's text TOLD by the authors' own Lean function (tested against real Go, not proved from fmt's source: count such statements apart). THE CARD IS WHAT COUNTS. Prove the row's statement (the work); the ties are given (YtkpafgnchdohaaaDoorTie.lean); close each card by the builder's one call (the guide's Derived/Test/ToyasCard.lean, 'card_holds'). Laid BY PROGRAM, IN A SANDBOX (cutbox-door.mjs). By AI agents, Wed Nov 11 2026. No macro, syntax, notation, axiom, sorry.
-/
import Derived.Test.YtkpafgnchdohaaaDoorRows
import GoSem.ClaimSeven
namespace Go.Proofs.YtkpafgnchdohaaaDoor
namespace Rows

/-- THE TIED CARD OF 'mandrellaw02.NumParts'. -/
def numPartsCard : Claim7 := { stood := { row := numPartsRow, standIns := [], harness := (true, "98cb6431cd1ea44c612050eb7b4b8965b9a1a0ded1872d4b0119016e6bf71443"), looks := true }, kinds := [], alts := [], laidByText := true, laidKinds := [.data], laidTests := true, laidLooks := .later }
def NumPartsCardSaid : Prop := Claim7.holds Tryd.pinned (.plain (OpenSpec.ofChange numPartsSpec)) numPartsCard

/-- THE TIED CARD OF 'mandrellaw02.NumTurns'. -/
def numTurnsCard : Claim7 := { stood := { row := numTurnsRow, standIns := [], harness := (true, "98cb6431cd1ea44c612050eb7b4b8965b9a1a0ded1872d4b0119016e6bf71443"), looks := true }, kinds := [], alts := [], laidByText := true, laidKinds := [.data], laidTests := true, laidLooks := .later }
def NumTurnsCardSaid : Prop := Claim7.holds Tryd.pinned (.plain (OpenSpec.ofChange numTurnsSpec)) numTurnsCard

/-- THE TIED CARD OF 'mandrellaw02.NumOrders'. -/
def numOrdersCard : Claim7 := { stood := { row := numOrdersRow, standIns := [], harness := (true, "98cb6431cd1ea44c612050eb7b4b8965b9a1a0ded1872d4b0119016e6bf71443"), looks := true }, kinds := [], alts := [], laidByText := true, laidKinds := [.data], laidTests := true, laidLooks := .later }
def NumOrdersCardSaid : Prop := Claim7.holds Tryd.pinned (.plain (OpenSpec.ofChange numOrdersSpec)) numOrdersCard

/-- THE TIED CARD OF 'mandrellaw02.NumExtends'. -/
def numExtendsCard : Claim7 := { stood := { row := numExtendsRow, standIns := [], harness := (true, "98cb6431cd1ea44c612050eb7b4b8965b9a1a0ded1872d4b0119016e6bf71443"), looks := true }, kinds := [], alts := [], laidByText := true, laidKinds := [.data], laidTests := true, laidLooks := .later }
def NumExtendsCardSaid : Prop := Claim7.holds Tryd.pinned (.plain (OpenSpec.ofChange numExtendsSpec)) numExtendsCard

/-- THE TIED CARD OF 'mandrellaw02.NumOnes'. -/
def numOnesCard : Claim7 := { stood := { row := numOnesRow, standIns := [], harness := (true, "98cb6431cd1ea44c612050eb7b4b8965b9a1a0ded1872d4b0119016e6bf71443"), looks := true }, kinds := [], alts := [], laidByText := true, laidKinds := [.data, .handle], laidTests := true, laidLooks := .later }
def NumOnesCardSaid : Prop := Claim7.holds Tryd.pinned (.plain (OpenSpec.ofChange numOnesSpec)) numOnesCard

/-- THE TIED CARD OF 'mandrellaw02.NumTwos'. -/
def numTwosCard : Claim7 := { stood := { row := numTwosRow, standIns := [], harness := (true, "98cb6431cd1ea44c612050eb7b4b8965b9a1a0ded1872d4b0119016e6bf71443"), looks := true }, kinds := [], alts := [], laidByText := true, laidKinds := [.data, .handle], laidTests := true, laidLooks := .later }
def NumTwosCardSaid : Prop := Claim7.holds Tryd.pinned (.plain (OpenSpec.ofChange numTwosSpec)) numTwosCard

/-- THE TIED CARD OF 'mandrellaw02.NumKinds'. -/
def numKindsCard : Claim7 := { stood := { row := numKindsRow, standIns := [], harness := (true, "98cb6431cd1ea44c612050eb7b4b8965b9a1a0ded1872d4b0119016e6bf71443"), looks := true }, kinds := [], alts := [], laidByText := true, laidKinds := [.data, .handle], laidTests := true, laidLooks := .later }
def NumKindsCardSaid : Prop := Claim7.holds Tryd.pinned (.plain (OpenSpec.ofChange numKindsSpec)) numKindsCard

/-- THE SECOND FORM's CARD OF 'mandrellaw02.NumParts'. -/
def numPartsUptoCard : Claim7 := { stood := { row := numPartsUptoRow, standIns := [], harness := (true, "98cb6431cd1ea44c612050eb7b4b8965b9a1a0ded1872d4b0119016e6bf71443"), looks := true }, kinds := [], alts := [], laidByText := true, laidKinds := [.data], laidTests := true, laidLooks := .later }
def NumPartsUptoCardSaid : Prop := Claim7.holds Tryd.pinned (.plain (OpenSpec.upto numPartsSpec)) numPartsUptoCard

/-- THE SECOND FORM's CARD OF 'mandrellaw02.NumTurns'. -/
def numTurnsUptoCard : Claim7 := { stood := { row := numTurnsUptoRow, standIns := [], harness := (true, "98cb6431cd1ea44c612050eb7b4b8965b9a1a0ded1872d4b0119016e6bf71443"), looks := true }, kinds := [], alts := [], laidByText := true, laidKinds := [.data], laidTests := true, laidLooks := .later }
def NumTurnsUptoCardSaid : Prop := Claim7.holds Tryd.pinned (.plain (OpenSpec.upto numTurnsSpec)) numTurnsUptoCard

/-- THE SECOND FORM's CARD OF 'mandrellaw02.NumOrders'. -/
def numOrdersUptoCard : Claim7 := { stood := { row := numOrdersUptoRow, standIns := [], harness := (true, "98cb6431cd1ea44c612050eb7b4b8965b9a1a0ded1872d4b0119016e6bf71443"), looks := true }, kinds := [], alts := [], laidByText := true, laidKinds := [.data], laidTests := true, laidLooks := .later }
def NumOrdersUptoCardSaid : Prop := Claim7.holds Tryd.pinned (.plain (OpenSpec.upto numOrdersSpec)) numOrdersUptoCard

/-- THE SECOND FORM's CARD OF 'mandrellaw02.NumExtends'. -/
def numExtendsUptoCard : Claim7 := { stood := { row := numExtendsUptoRow, standIns := [], harness := (true, "98cb6431cd1ea44c612050eb7b4b8965b9a1a0ded1872d4b0119016e6bf71443"), looks := true }, kinds := [], alts := [], laidByText := true, laidKinds := [.data], laidTests := true, laidLooks := .later }
def NumExtendsUptoCardSaid : Prop := Claim7.holds Tryd.pinned (.plain (OpenSpec.upto numExtendsSpec)) numExtendsUptoCard

/-- THE SECOND FORM's CARD OF 'mandrellaw02.NumOnes'. -/
def numOnesUptoCard : Claim7 := { stood := { row := numOnesUptoRow, standIns := [], harness := (true, "98cb6431cd1ea44c612050eb7b4b8965b9a1a0ded1872d4b0119016e6bf71443"), looks := true }, kinds := [], alts := [], laidByText := true, laidKinds := [.data, .handle], laidTests := true, laidLooks := .later }
def NumOnesUptoCardSaid : Prop := Claim7.holds Tryd.pinned (.plain (OpenSpec.upto numOnesSpec)) numOnesUptoCard

/-- THE SECOND FORM's CARD OF 'mandrellaw02.NumTwos'. -/
def numTwosUptoCard : Claim7 := { stood := { row := numTwosUptoRow, standIns := [], harness := (true, "98cb6431cd1ea44c612050eb7b4b8965b9a1a0ded1872d4b0119016e6bf71443"), looks := true }, kinds := [], alts := [], laidByText := true, laidKinds := [.data, .handle], laidTests := true, laidLooks := .later }
def NumTwosUptoCardSaid : Prop := Claim7.holds Tryd.pinned (.plain (OpenSpec.upto numTwosSpec)) numTwosUptoCard

/-- THE SECOND FORM's CARD OF 'mandrellaw02.NumKinds'. -/
def numKindsUptoCard : Claim7 := { stood := { row := numKindsUptoRow, standIns := [], harness := (true, "98cb6431cd1ea44c612050eb7b4b8965b9a1a0ded1872d4b0119016e6bf71443"), looks := true }, kinds := [], alts := [], laidByText := true, laidKinds := [.data, .handle], laidTests := true, laidLooks := .later }
def NumKindsUptoCardSaid : Prop := Claim7.holds Tryd.pinned (.plain (OpenSpec.upto numKindsSpec)) numKindsUptoCard
end Rows
end Go.Proofs.YtkpafgnchdohaaaDoor
