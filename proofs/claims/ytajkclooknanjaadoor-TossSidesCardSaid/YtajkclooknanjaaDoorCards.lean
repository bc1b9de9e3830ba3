/-
  DERIVED. GIVEN WITH THE SEED: THE CARDS: each row of YtajkclooknanjaaDoorRows.lean that lists a variable, with what it lists TIED to the program's text (the seventh form; the later family's looks); each row that meets fmt, with fmt's text TOLD by the authors' own Lean function (tested against real Go, not proved from fmt's source: count such statements apart). THE CARD IS WHAT COUNTS. Prove the row's statement (the work); the ties are given (YtajkclooknanjaaDoorTie.lean); close each card by the builder's one call (the guide's Derived/Test/ToyasCard.lean, 'card_holds'). Laid BY PROGRAM, IN A SANDBOX (cutbox-door.mjs). By AI agents, Wed Nov 11 2026. No macro, syntax, notation, axiom, sorry.
-/
import Derived.Test.YtajkclooknanjaaDoorRows
import GoSem.ClaimSeven
namespace Go.Proofs.YtajkclooknanjaaDoor
namespace Rows

/-- THE TIED CARD OF 'trefoillaw27.CommitSums'. -/
def commitSumsCard : Claim7 := { stood := { row := commitSumsRow, standIns := [], harness := (true, "76c30030f4f16e0cab80c7227be92bd16545c1c7aab4e4eb45320bdb0e7ec2e6"), looks := false }, kinds := [], alts := [], laidByText := true, laidKinds := [.data], laidTests := true, laidLooks := .later }
def CommitSumsCardSaid : Prop := Claim7.holds Tryd.pinned (.plain (OpenSpec.ofChange commitSumsSpec)) commitSumsCard

/-- THE TIED CARD OF 'trefoillaw27.CommitBoxes'. -/
def commitBoxesCard : Claim7 := { stood := { row := commitBoxesRow, standIns := [], harness := (true, "76c30030f4f16e0cab80c7227be92bd16545c1c7aab4e4eb45320bdb0e7ec2e6"), looks := false }, kinds := [], alts := [], laidByText := true, laidKinds := [.data], laidTests := true, laidLooks := .later }
def CommitBoxesCardSaid : Prop := Claim7.holds Tryd.pinned (.plain (OpenSpec.ofChange commitBoxesSpec)) commitBoxesCard

/-- THE TIED CARD OF 'trefoillaw27.CommitNobody'. -/
def commitNobodyCard : Claim7 := { stood := { row := commitNobodyRow, standIns := [], harness := (true, "76c30030f4f16e0cab80c7227be92bd16545c1c7aab4e4eb45320bdb0e7ec2e6"), looks := false }, kinds := [], alts := [], laidByText := true, laidKinds := [.data], laidTests := true, laidLooks := .later }
def CommitNobodyCardSaid : Prop := Claim7.holds Tryd.pinned (.plain (OpenSpec.ofChange commitNobodySpec)) commitNobodyCard

/-- THE TIED CARD OF 'trefoillaw28.TossNobody'. -/
def tossNobodyCard : Claim7 := { stood := { row := tossNobodyRow, standIns := [], harness := (true, "76c30030f4f16e0cab80c7227be92bd16545c1c7aab4e4eb45320bdb0e7ec2e6"), looks := false }, kinds := [], alts := [], laidByText := true, laidKinds := [.data], laidTests := true, laidLooks := .later }
def TossNobodyCardSaid : Prop := Claim7.holds Tryd.pinned (.plain (OpenSpec.ofChange tossNobodySpec)) tossNobodyCard

/-- THE TIED CARD OF 'trefoillaw28.TossSides'. -/
def tossSidesCard : Claim7 := { stood := { row := tossSidesRow, standIns := [], harness := (true, "76c30030f4f16e0cab80c7227be92bd16545c1c7aab4e4eb45320bdb0e7ec2e6"), looks := false }, kinds := [], alts := [], laidByText := true, laidKinds := [.data], laidTests := true, laidLooks := .later }
def TossSidesCardSaid : Prop := Claim7.holds Tryd.pinned (.plain (OpenSpec.ofChange tossSidesSpec)) tossSidesCard

/-- THE TIED CARD OF 'trefoillaw28.TossFair'. -/
def tossFairCard : Claim7 := { stood := { row := tossFairRow, standIns := [], harness := (true, "76c30030f4f16e0cab80c7227be92bd16545c1c7aab4e4eb45320bdb0e7ec2e6"), looks := false }, kinds := [], alts := [], laidByText := true, laidKinds := [.data], laidTests := true, laidLooks := .later }
def TossFairCardSaid : Prop := Claim7.holds Tryd.pinned (.plain (OpenSpec.ofChange tossFairSpec)) tossFairCard

/-- THE SECOND FORM's CARD OF 'trefoillaw27.CommitSums'. -/
def commitSumsUptoCard : Claim7 := { stood := { row := commitSumsUptoRow, standIns := [], harness := (true, "76c30030f4f16e0cab80c7227be92bd16545c1c7aab4e4eb45320bdb0e7ec2e6"), looks := false }, kinds := [], alts := [], laidByText := true, laidKinds := [.data], laidTests := true, laidLooks := .later }
def CommitSumsUptoCardSaid : Prop := Claim7.holds Tryd.pinned (.plain (OpenSpec.upto commitSumsSpec)) commitSumsUptoCard

/-- THE SECOND FORM's CARD OF 'trefoillaw27.CommitBoxes'. -/
def commitBoxesUptoCard : Claim7 := { stood := { row := commitBoxesUptoRow, standIns := [], harness := (true, "76c30030f4f16e0cab80c7227be92bd16545c1c7aab4e4eb45320bdb0e7ec2e6"), looks := false }, kinds := [], alts := [], laidByText := true, laidKinds := [.data], laidTests := true, laidLooks := .later }
def CommitBoxesUptoCardSaid : Prop := Claim7.holds Tryd.pinned (.plain (OpenSpec.upto commitBoxesSpec)) commitBoxesUptoCard

/-- THE SECOND FORM's CARD OF 'trefoillaw27.CommitNobody'. -/
def commitNobodyUptoCard : Claim7 := { stood := { row := commitNobodyUptoRow, standIns := [], harness := (true, "76c30030f4f16e0cab80c7227be92bd16545c1c7aab4e4eb45320bdb0e7ec2e6"), looks := false }, kinds := [], alts := [], laidByText := true, laidKinds := [.data], laidTests := true, laidLooks := .later }
def CommitNobodyUptoCardSaid : Prop := Claim7.holds Tryd.pinned (.plain (OpenSpec.upto commitNobodySpec)) commitNobodyUptoCard

/-- THE SECOND FORM's CARD OF 'trefoillaw28.TossNobody'. -/
def tossNobodyUptoCard : Claim7 := { stood := { row := tossNobodyUptoRow, standIns := [], harness := (true, "76c30030f4f16e0cab80c7227be92bd16545c1c7aab4e4eb45320bdb0e7ec2e6"), looks := false }, kinds := [], alts := [], laidByText := true, laidKinds := [.data], laidTests := true, laidLooks := .later }
def TossNobodyUptoCardSaid : Prop := Claim7.holds Tryd.pinned (.plain (OpenSpec.upto tossNobodySpec)) tossNobodyUptoCard

/-- THE SECOND FORM's CARD OF 'trefoillaw28.TossSides'. -/
def tossSidesUptoCard : Claim7 := { stood := { row := tossSidesUptoRow, standIns := [], harness := (true, "76c30030f4f16e0cab80c7227be92bd16545c1c7aab4e4eb45320bdb0e7ec2e6"), looks := false }, kinds := [], alts := [], laidByText := true, laidKinds := [.data], laidTests := true, laidLooks := .later }
def TossSidesUptoCardSaid : Prop := Claim7.holds Tryd.pinned (.plain (OpenSpec.upto tossSidesSpec)) tossSidesUptoCard

/-- THE SECOND FORM's CARD OF 'trefoillaw28.TossFair'. -/
def tossFairUptoCard : Claim7 := { stood := { row := tossFairUptoRow, standIns := [], harness := (true, "76c30030f4f16e0cab80c7227be92bd16545c1c7aab4e4eb45320bdb0e7ec2e6"), looks := false }, kinds := [], alts := [], laidByText := true, laidKinds := [.data], laidTests := true, laidLooks := .later }
def TossFairUptoCardSaid : Prop := Claim7.holds Tryd.pinned (.plain (OpenSpec.upto tossFairSpec)) tossFairUptoCard
end Rows
end Go.Proofs.YtajkclooknanjaaDoor
