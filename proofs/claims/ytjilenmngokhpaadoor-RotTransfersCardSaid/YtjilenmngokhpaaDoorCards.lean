/-
  DERIVED. GIVEN WITH THE SEED: THE CARDS: each row of YtjilenmngokhpaaDoorRows.lean that lists a variable, with what it lists TIED to the program's text (the seventh form; the later family's looks); each row that meets fmt, with fmt's text TOLD by the authors' own Lean function (tested against real Go, not proved from fmt's source: count such statements apart). THE CARD IS WHAT COUNTS. Prove the row's statement (the work); the ties are given (YtjilenmngokhpaaDoorTie.lean); close each card by the builder's one call (the guide's Derived/Test/ToyasCard.lean, 'card_holds'). Laid BY PROGRAM, IN A SANDBOX (cutbox-door.mjs). By AI agents, Wed Nov 11 2026. No macro, syntax, notation, axiom, sorry.
-/
import Derived.Test.YtjilenmngokhpaaDoorRows
import GoSem.ClaimSeven
namespace Go.Proofs.YtjilenmngokhpaaDoor
namespace Rows

/-- THE TIED CARD OF 'trefoillaw18.RotSends'. -/
def rotSendsCard : Claim7 := { stood := { row := rotSendsRow, standIns := [], harness := (true, "eac4a608aea576130c7d0e11a0395033ad0786c7d60ba3827d0a50149d955a0a"), looks := false }, kinds := [], alts := [], laidByText := true, laidKinds := [.data], laidTests := true, laidLooks := .later }
def RotSendsCardSaid : Prop := Claim7.holds Tryd.pinned (.plain (OpenSpec.ofChange rotSendsSpec)) rotSendsCard

/-- THE TIED CARD OF 'trefoillaw18.RotChosen'. -/
def rotChosenCard : Claim7 := { stood := { row := rotChosenRow, standIns := [], harness := (true, "eac4a608aea576130c7d0e11a0395033ad0786c7d60ba3827d0a50149d955a0a"), looks := false }, kinds := [], alts := [], laidByText := true, laidKinds := [.data], laidTests := true, laidLooks := .later }
def RotChosenCardSaid : Prop := Claim7.holds Tryd.pinned (.plain (OpenSpec.ofChange rotChosenSpec)) rotChosenCard

/-- THE TIED CARD OF 'trefoillaw18.RotNumbers'. -/
def rotNumbersCard : Claim7 := { stood := { row := rotNumbersRow, standIns := [], harness := (true, "eac4a608aea576130c7d0e11a0395033ad0786c7d60ba3827d0a50149d955a0a"), looks := false }, kinds := [], alts := [], laidByText := true, laidKinds := [.data], laidTests := true, laidLooks := .later }
def RotNumbersCardSaid : Prop := Claim7.holds Tryd.pinned (.plain (OpenSpec.ofChange rotNumbersSpec)) rotNumbersCard

/-- THE TIED CARD OF 'trefoillaw18.RotTransfers'. -/
def rotTransfersCard : Claim7 := { stood := { row := rotTransfersRow, standIns := [], harness := (true, "eac4a608aea576130c7d0e11a0395033ad0786c7d60ba3827d0a50149d955a0a"), looks := false }, kinds := [], alts := [], laidByText := true, laidKinds := [.data], laidTests := true, laidLooks := .later }
def RotTransfersCardSaid : Prop := Claim7.holds Tryd.pinned (.plain (OpenSpec.ofChange rotTransfersSpec)) rotTransfersCard

/-- THE SECOND FORM's CARD OF 'trefoillaw18.RotSends'. -/
def rotSendsUptoCard : Claim7 := { stood := { row := rotSendsUptoRow, standIns := [], harness := (true, "eac4a608aea576130c7d0e11a0395033ad0786c7d60ba3827d0a50149d955a0a"), looks := false }, kinds := [], alts := [], laidByText := true, laidKinds := [.data], laidTests := true, laidLooks := .later }
def RotSendsUptoCardSaid : Prop := Claim7.holds Tryd.pinned (.plain (OpenSpec.upto rotSendsSpec)) rotSendsUptoCard

/-- THE SECOND FORM's CARD OF 'trefoillaw18.RotChosen'. -/
def rotChosenUptoCard : Claim7 := { stood := { row := rotChosenUptoRow, standIns := [], harness := (true, "eac4a608aea576130c7d0e11a0395033ad0786c7d60ba3827d0a50149d955a0a"), looks := false }, kinds := [], alts := [], laidByText := true, laidKinds := [.data], laidTests := true, laidLooks := .later }
def RotChosenUptoCardSaid : Prop := Claim7.holds Tryd.pinned (.plain (OpenSpec.upto rotChosenSpec)) rotChosenUptoCard

/-- THE SECOND FORM's CARD OF 'trefoillaw18.RotNumbers'. -/
def rotNumbersUptoCard : Claim7 := { stood := { row := rotNumbersUptoRow, standIns := [], harness := (true, "eac4a608aea576130c7d0e11a0395033ad0786c7d60ba3827d0a50149d955a0a"), looks := false }, kinds := [], alts := [], laidByText := true, laidKinds := [.data], laidTests := true, laidLooks := .later }
def RotNumbersUptoCardSaid : Prop := Claim7.holds Tryd.pinned (.plain (OpenSpec.upto rotNumbersSpec)) rotNumbersUptoCard

/-- THE SECOND FORM's CARD OF 'trefoillaw18.RotTransfers'. -/
def rotTransfersUptoCard : Claim7 := { stood := { row := rotTransfersUptoRow, standIns := [], harness := (true, "eac4a608aea576130c7d0e11a0395033ad0786c7d60ba3827d0a50149d955a0a"), looks := false }, kinds := [], alts := [], laidByText := true, laidKinds := [.data], laidTests := true, laidLooks := .later }
def RotTransfersUptoCardSaid : Prop := Claim7.holds Tryd.pinned (.plain (OpenSpec.upto rotTransfersSpec)) rotTransfersUptoCard
end Rows
end Go.Proofs.YtjilenmngokhpaaDoor
