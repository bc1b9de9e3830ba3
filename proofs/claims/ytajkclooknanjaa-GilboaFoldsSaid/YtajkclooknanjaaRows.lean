/-
  No cell of these rows narrows 'for every input' (looked for: loops, veiled, ifaces, maps, wideKeys, modest, calm, conditions, laid).
  DERIVED. THE GIVEN ROWS OF THIS SEAT. 3 by the template 'for every input the law returns true; each argument reads behind the call as it read before'; 0 by the template 'total and deterministic' (their statements: YtajkclooknanjaaTotals.lean).
  GIVEN WITH THE SEED: the statements are not yours to turn. If you find one false, say at which input.
  Laid BY PROGRAM, IN A SANDBOX (cutbox-rows.mjs): the forced cells as the released guide's own fill.sh prints them over the translation fca3f9cf17123d8d… (all of the seat's roots in one cut). By AI agents, Wed Nov 11 2026. No macro, syntax, notation, axiom, sorry.
-/
import Derived.Test.YtajkclooknanjaaChecked
import GoSem.Claim
import GoSem.ClaimJoined
import GoSem.ClaimMapViews
import Derived.JoinedTies
import Derived.KernelRfl
namespace Go.Proofs.Ytajkclooknanjaa
/- THE CELL 'sum', in the pinned program and in every row, IS THE sha256 OF THE DUMP (.gsa) THAT YtajkclooknanjaaProg.lean LOADS. Nothing in Lean hashes anything: it is a label: what it is worth is what the hold of that sum in a sandbox is worth. -/
noncomputable def Try.pinned : Pinned := { name := "ytajkclooknanjaa", sum := "fca3f9cf17123d8d69c62074e482eb5a4783f42fb32598522570380637d1c0a5", checked := Try.checked }
namespace Rows
def none {H : Type} : Left H := { results := [], args := [] }

/-- 'trefoillaw21.GilboaChoices': WHATEVER THE INPUT: true; the input reads as it did. -/
def gilboaChoicesSpec : ChangeSpec := { name := "gilboaChoices", fn := fun _ => fun
  | [d1, d2] => { results := [.lit (.bool true)], args := [d1, d2] }
  | _ => none }
def gilboaChoicesRow : OpenClaim := { program := "ytajkclooknanjaa", sum := "fca3f9cf17123d8d69c62074e482eb5a4783f42fb32598522570380637d1c0a5", func := "trefoil/trefoillaw21.GilboaChoices", spec := "gilboaChoices", unfollowed := true, recurses := true, apart := false }
def GilboaChoicesSaid : Prop := gilboaChoicesRow.holds Try.pinned (OpenSpec.ofChange gilboaChoicesSpec)

/-- ITS FALSE NEIGHBOUR: 'it returns false'. Refute it at one input. -/
def gilboaChoicesWrong : ChangeSpec := { name := "gilboaChoices", fn := fun _ => fun
  | [d1, d2] => { results := [.lit (.bool false)], args := [d1, d2] }
  | _ => none }
def GilboaChoicesWrongFalsely : Prop := gilboaChoicesRow.holds Try.pinned (OpenSpec.ofChange gilboaChoicesWrong)

/-- 'trefoillaw21.GilboaSpreads': WHATEVER THE INPUT: true; the input reads as it did. -/
def gilboaSpreadsSpec : ChangeSpec := { name := "gilboaSpreads", fn := fun _ => fun
  | [d1, d2, d3, d4] => { results := [.lit (.bool true)], args := [d1, d2, d3, d4] }
  | _ => none }
def gilboaSpreadsRow : OpenClaim := { program := "ytajkclooknanjaa", sum := "fca3f9cf17123d8d69c62074e482eb5a4783f42fb32598522570380637d1c0a5", func := "trefoil/trefoillaw21.GilboaSpreads", spec := "gilboaSpreads", unfollowed := true, recurses := true, apart := false }
def GilboaSpreadsSaid : Prop := gilboaSpreadsRow.holds Try.pinned (OpenSpec.ofChange gilboaSpreadsSpec)

/-- ITS FALSE NEIGHBOUR: 'it returns false'. Refute it at one input. -/
def gilboaSpreadsWrong : ChangeSpec := { name := "gilboaSpreads", fn := fun _ => fun
  | [d1, d2, d3, d4] => { results := [.lit (.bool false)], args := [d1, d2, d3, d4] }
  | _ => none }
def GilboaSpreadsWrongFalsely : Prop := gilboaSpreadsRow.holds Try.pinned (OpenSpec.ofChange gilboaSpreadsWrong)

/-- 'trefoillaw21.GilboaFolds': WHATEVER THE INPUT: true; the input reads as it did. -/
def gilboaFoldsSpec : ChangeSpec := { name := "gilboaFolds", fn := fun _ => fun
  | [d1, d2, d3, d4, d5] => { results := [.lit (.bool true)], args := [d1, d2, d3, d4, d5] }
  | _ => none }
def gilboaFoldsRow : OpenClaim := { program := "ytajkclooknanjaa", sum := "fca3f9cf17123d8d69c62074e482eb5a4783f42fb32598522570380637d1c0a5", func := "trefoil/trefoillaw21.GilboaFolds", spec := "gilboaFolds", unfollowed := true, recurses := true, apart := false }
def GilboaFoldsSaid : Prop := gilboaFoldsRow.holds Try.pinned (OpenSpec.ofChange gilboaFoldsSpec)

/-- ITS FALSE NEIGHBOUR: 'it returns false'. Refute it at one input. -/
def gilboaFoldsWrong : ChangeSpec := { name := "gilboaFolds", fn := fun _ => fun
  | [d1, d2, d3, d4, d5] => { results := [.lit (.bool false)], args := [d1, d2, d3, d4, d5] }
  | _ => none }
def GilboaFoldsWrongFalsely : Prop := gilboaFoldsRow.holds Try.pinned (OpenSpec.ofChange gilboaFoldsWrong)

/- THE SECOND FORM. 'bulk': how many values and letters a reading holds, each counted each time it is reached (what is shared counts as often as it is met; a slice's spare places count too). A statement '..UptoSaid' is the law's where the arguments, and the package variables that the reading takes, are together of bulk at most 1048576: NARROWER than '..Said'. Prove '..Said' where nothing that the law and all that it calls make is longer than what came in: it says more and counts as full. Else prove '..UptoSaid'. A law counts once. -/
mutual
def uptoBulk {H : Type} : DataW H → Nat
  | .lit (.string bytes) => bytes.length + 1
  | .lit _ => 1
  | .nil => 1
  | .ptr d => uptoBulk d + 1
  | .slice elems spare => uptoBulkAll elems + uptoBulkAll spare + 1
  | .agg parts => uptoBulkAll parts + 1
  | .iface _ d => uptoBulk d + 1
  | .map entries => uptoBulkEntries entries + 1
  | .held _ => 1
def uptoBulkAll {H : Type} : List (DataW H) → Nat
  | [] => 0
  | d :: r => uptoBulk d + uptoBulkAll r
def uptoBulkEntries {H : Type} : List (Lit × DataW H) → Nat
  | [] => 0
  | x :: r => uptoBulkEntry x + uptoBulkEntries r
def uptoBulkEntry {H : Type} : Lit × DataW H → Nat
  | (.string bytes, d) => bytes.length + uptoBulk d + 1
  | (_, d) => uptoBulk d + 1
 end
def uptoSmall : (H : Type) → List (DataW H) → Bool := fun _ ds => decide (uptoBulkAll ds ≤ 1048576)
def OpenSpec.upto (s : _root_.Go.ChangeSpec) : _root_.Go.OpenSpec := { _root_.Go.OpenSpec.ofChange s with cond := some uptoSmall }

/-- 'trefoillaw21.GilboaChoices', WHERE WHAT IT READS IS OF BULK AT MOST 1048576: true; the input reads as it did. -/
def gilboaChoicesUptoRow : OpenClaim := { program := "ytajkclooknanjaa", sum := "fca3f9cf17123d8d69c62074e482eb5a4783f42fb32598522570380637d1c0a5", func := "trefoil/trefoillaw21.GilboaChoices", spec := "gilboaChoices", unfollowed := true, recurses := true, apart := false, narrowed := true }
def GilboaChoicesUptoSaid : Prop := gilboaChoicesUptoRow.holds Try.pinned (OpenSpec.upto gilboaChoicesSpec)

/-- 'trefoillaw21.GilboaSpreads', WHERE WHAT IT READS IS OF BULK AT MOST 1048576: true; the input reads as it did. -/
def gilboaSpreadsUptoRow : OpenClaim := { program := "ytajkclooknanjaa", sum := "fca3f9cf17123d8d69c62074e482eb5a4783f42fb32598522570380637d1c0a5", func := "trefoil/trefoillaw21.GilboaSpreads", spec := "gilboaSpreads", unfollowed := true, recurses := true, apart := false, narrowed := true }
def GilboaSpreadsUptoSaid : Prop := gilboaSpreadsUptoRow.holds Try.pinned (OpenSpec.upto gilboaSpreadsSpec)

/-- 'trefoillaw21.GilboaFolds', WHERE WHAT IT READS IS OF BULK AT MOST 1048576: true; the input reads as it did. -/
def gilboaFoldsUptoRow : OpenClaim := { program := "ytajkclooknanjaa", sum := "fca3f9cf17123d8d69c62074e482eb5a4783f42fb32598522570380637d1c0a5", func := "trefoil/trefoillaw21.GilboaFolds", spec := "gilboaFolds", unfollowed := true, recurses := true, apart := false, narrowed := true }
def GilboaFoldsUptoSaid : Prop := gilboaFoldsUptoRow.holds Try.pinned (OpenSpec.upto gilboaFoldsSpec)

end Rows
end Go.Proofs.Ytajkclooknanjaa
