/-
  DERIVED. GIVEN WITH THE SEED: THE CARDS: each row of YtnnopgichjnhdaaDoorRows.lean that lists a variable, with what it lists TIED to the program's text (the seventh form; the later family's looks); each row that meets fmt, with fmt's text TOLD by the authors' own Lean function (tested against real Go, not proved from fmt's source: count such statements apart). THE CARD IS WHAT COUNTS. Prove the row's statement (the work); the ties are given (YtnnopgichjnhdaaDoorTie.lean); close each card by the builder's one call (the guide's Derived/Test/ToyasCard.lean, 'card_holds'). Laid BY PROGRAM, IN A SANDBOX (cutbox-door.mjs). By AI agents, Wed Nov 11 2026. No macro, syntax, notation, axiom, sorry.
-/
import Derived.Test.YtnnopgichjnhdaaDoorRows
import GoSem.ClaimSeven
namespace Go.Proofs.YtnnopgichjnhdaaDoor
namespace Rows

/-- THE TIED CARD OF 'trefoillaw04.ShaParts'. -/
def shaPartsCard : Claim7 := { stood := { row := shaPartsRow, standIns := [], harness := (true, "7fa7f25de8fbc4e328081a10ebc5ab6e7584724c2871b458ca3961379c77f655"), looks := false }, kinds := [], alts := [], laidByText := true, laidKinds := [.data], laidTests := true, laidLooks := .later }
def ShaPartsCardSaid : Prop := Claim7.holds Tryd.pinned (.plain (OpenSpec.ofChange shaPartsSpec)) shaPartsCard

/-- THE TIED CARD OF 'trefoillaw04.ShaNobody'. -/
def shaNobodyCard : Claim7 := { stood := { row := shaNobodyRow, standIns := [], harness := (true, "7fa7f25de8fbc4e328081a10ebc5ab6e7584724c2871b458ca3961379c77f655"), looks := false }, kinds := [], alts := [], laidByText := true, laidKinds := [.data], laidTests := true, laidLooks := .later }
def ShaNobodyCardSaid : Prop := Claim7.holds Tryd.pinned (.plain (OpenSpec.ofChange shaNobodySpec)) shaNobodyCard

/-- THE TIED CARD OF 'trefoillaw04.ShaSums'. -/
def shaSumsCard : Claim7 := { stood := { row := shaSumsRow, standIns := [], harness := (true, "7fa7f25de8fbc4e328081a10ebc5ab6e7584724c2871b458ca3961379c77f655"), looks := false }, kinds := [], alts := [], laidByText := true, laidKinds := [.data], laidTests := true, laidLooks := .later }
def ShaSumsCardSaid : Prop := Claim7.holds Tryd.pinned (.plain (OpenSpec.ofChange shaSumsSpec)) shaSumsCard

/-- THE TIED CARD OF 'trefoillaw04.ShaLow'. -/
def shaLowCard : Claim7 := { stood := { row := shaLowRow, standIns := [], harness := (true, "7fa7f25de8fbc4e328081a10ebc5ab6e7584724c2871b458ca3961379c77f655"), looks := false }, kinds := [], alts := [], laidByText := true, laidKinds := [.data], laidTests := true, laidLooks := .later }
def ShaLowCardSaid : Prop := Claim7.holds Tryd.pinned (.plain (OpenSpec.ofChange shaLowSpec)) shaLowCard

/-- THE TIED CARD OF 'trefoillaw04.ShaTagged'. -/
def shaTaggedCard : Claim7 := { stood := { row := shaTaggedRow, standIns := [], harness := (true, "7fa7f25de8fbc4e328081a10ebc5ab6e7584724c2871b458ca3961379c77f655"), looks := false }, kinds := [], alts := [], laidByText := true, laidKinds := [.data], laidTests := true, laidLooks := .later }
def ShaTaggedCardSaid : Prop := Claim7.holds Tryd.pinned (.plain (OpenSpec.ofChange shaTaggedSpec)) shaTaggedCard

/-- THE SECOND FORM's CARD OF 'trefoillaw04.ShaParts'. -/
def shaPartsUptoCard : Claim7 := { stood := { row := shaPartsUptoRow, standIns := [], harness := (true, "7fa7f25de8fbc4e328081a10ebc5ab6e7584724c2871b458ca3961379c77f655"), looks := false }, kinds := [], alts := [], laidByText := true, laidKinds := [.data], laidTests := true, laidLooks := .later }
def ShaPartsUptoCardSaid : Prop := Claim7.holds Tryd.pinned (.plain (OpenSpec.upto shaPartsSpec)) shaPartsUptoCard

/-- THE SECOND FORM's CARD OF 'trefoillaw04.ShaNobody'. -/
def shaNobodyUptoCard : Claim7 := { stood := { row := shaNobodyUptoRow, standIns := [], harness := (true, "7fa7f25de8fbc4e328081a10ebc5ab6e7584724c2871b458ca3961379c77f655"), looks := false }, kinds := [], alts := [], laidByText := true, laidKinds := [.data], laidTests := true, laidLooks := .later }
def ShaNobodyUptoCardSaid : Prop := Claim7.holds Tryd.pinned (.plain (OpenSpec.upto shaNobodySpec)) shaNobodyUptoCard

/-- THE SECOND FORM's CARD OF 'trefoillaw04.ShaSums'. -/
def shaSumsUptoCard : Claim7 := { stood := { row := shaSumsUptoRow, standIns := [], harness := (true, "7fa7f25de8fbc4e328081a10ebc5ab6e7584724c2871b458ca3961379c77f655"), looks := false }, kinds := [], alts := [], laidByText := true, laidKinds := [.data], laidTests := true, laidLooks := .later }
def ShaSumsUptoCardSaid : Prop := Claim7.holds Tryd.pinned (.plain (OpenSpec.upto shaSumsSpec)) shaSumsUptoCard

/-- THE SECOND FORM's CARD OF 'trefoillaw04.ShaLow'. -/
def shaLowUptoCard : Claim7 := { stood := { row := shaLowUptoRow, standIns := [], harness := (true, "7fa7f25de8fbc4e328081a10ebc5ab6e7584724c2871b458ca3961379c77f655"), looks := false }, kinds := [], alts := [], laidByText := true, laidKinds := [.data], laidTests := true, laidLooks := .later }
def ShaLowUptoCardSaid : Prop := Claim7.holds Tryd.pinned (.plain (OpenSpec.upto shaLowSpec)) shaLowUptoCard

/-- THE SECOND FORM's CARD OF 'trefoillaw04.ShaTagged'. -/
def shaTaggedUptoCard : Claim7 := { stood := { row := shaTaggedUptoRow, standIns := [], harness := (true, "7fa7f25de8fbc4e328081a10ebc5ab6e7584724c2871b458ca3961379c77f655"), looks := false }, kinds := [], alts := [], laidByText := true, laidKinds := [.data], laidTests := true, laidLooks := .later }
def ShaTaggedUptoCardSaid : Prop := Claim7.holds Tryd.pinned (.plain (OpenSpec.upto shaTaggedSpec)) shaTaggedUptoCard
end Rows
end Go.Proofs.YtnnopgichjnhdaaDoor
