/-
  No cell of these rows narrows 'for every input' (looked for: loops, veiled, ifaces, maps, wideKeys, modest, calm, conditions, laid).
  DERIVED. THE GIVEN ROWS OF THIS SEAT. 6 by the template 'for every input the law returns true; each argument reads behind the call as it read before'; 0 by the template 'total and deterministic' (their statements: YtnnopgichjnhdaaTotals.lean).
  GIVEN WITH THE SEED: the statements are not yours to turn. If you find one false, say at which input.
  Laid BY PROGRAM, IN A SANDBOX (cutbox-rows.mjs): the forced cells as the released guide's own fill.sh prints them over the translation 05b62a21cf13e3df… (all of the seat's roots in one cut). By AI agents, Wed Nov 11 2026. No macro, syntax, notation, axiom, sorry.
-/
import Derived.Test.YtnnopgichjnhdaaChecked
import GoSem.Claim
import GoSem.ClaimJoined
import GoSem.ClaimMapViews
import Derived.JoinedTies
import Derived.KernelRfl
namespace Go.Proofs.Ytnnopgichjnhdaa
/- THE CELL 'sum', in the pinned program and in every row, IS THE sha256 OF THE DUMP (.gsa) THAT YtnnopgichjnhdaaProg.lean LOADS. Nothing in Lean hashes anything: it is a label: what it is worth is what the hold of that sum in a sandbox is worth. -/
noncomputable def Try.pinned : Pinned := { name := "ytnnopgichjnhdaa", sum := "05b62a21cf13e3dfc692de4086798b6f2dd8079a6d74f3c763c784f2ebe7f9f5", checked := Try.checked }
namespace Rows
def none {H : Type} : Left H := { results := [], args := [] }

/-- 'trefoillaw02.BitsMakes': WHATEVER THE INPUT: true; the input reads as it did. -/
def bitsMakesSpec : ChangeSpec := { name := "bitsMakes", fn := fun _ => fun
  | [d1, d2, d3] => { results := [.lit (.bool true)], args := [d1, d2, d3] }
  | _ => none }
def bitsMakesRow : OpenClaim := { program := "ytnnopgichjnhdaa", sum := "05b62a21cf13e3dfc692de4086798b6f2dd8079a6d74f3c763c784f2ebe7f9f5", func := "trefoil/trefoillaw02.BitsMakes", spec := "bitsMakes", apart := false }
def BitsMakesSaid : Prop := bitsMakesRow.holds Try.pinned (OpenSpec.ofChange bitsMakesSpec)

/-- ITS FALSE NEIGHBOUR: 'it returns false'. Refute it at one input. -/
def bitsMakesWrong : ChangeSpec := { name := "bitsMakes", fn := fun _ => fun
  | [d1, d2, d3] => { results := [.lit (.bool false)], args := [d1, d2, d3] }
  | _ => none }
def BitsMakesWrongFalsely : Prop := bitsMakesRow.holds Try.pinned (OpenSpec.ofChange bitsMakesWrong)

/-- 'trefoillaw02.BitsGets': WHATEVER THE INPUT: true; the input reads as it did. -/
def bitsGetsSpec : ChangeSpec := { name := "bitsGets", fn := fun _ => fun
  | [d1, d2, d3] => { results := [.lit (.bool true)], args := [d1, d2, d3] }
  | _ => none }
def bitsGetsRow : OpenClaim := { program := "ytnnopgichjnhdaa", sum := "05b62a21cf13e3dfc692de4086798b6f2dd8079a6d74f3c763c784f2ebe7f9f5", func := "trefoil/trefoillaw02.BitsGets", spec := "bitsGets", apart := false }
def BitsGetsSaid : Prop := bitsGetsRow.holds Try.pinned (OpenSpec.ofChange bitsGetsSpec)

/-- ITS FALSE NEIGHBOUR: 'it returns false'. Refute it at one input. -/
def bitsGetsWrong : ChangeSpec := { name := "bitsGets", fn := fun _ => fun
  | [d1, d2, d3] => { results := [.lit (.bool false)], args := [d1, d2, d3] }
  | _ => none }
def BitsGetsWrongFalsely : Prop := bitsGetsRow.holds Try.pinned (OpenSpec.ofChange bitsGetsWrong)

/-- 'trefoillaw02.BitsSpread': WHATEVER THE INPUT: true; the input reads as it did. -/
def bitsSpreadSpec : ChangeSpec := { name := "bitsSpread", fn := fun _ => fun
  | [d1, d2, d3] => { results := [.lit (.bool true)], args := [d1, d2, d3] }
  | _ => none }
def bitsSpreadRow : OpenClaim := { program := "ytnnopgichjnhdaa", sum := "05b62a21cf13e3dfc692de4086798b6f2dd8079a6d74f3c763c784f2ebe7f9f5", func := "trefoil/trefoillaw02.BitsSpread", spec := "bitsSpread", unfollowed := true, recurses := true, apart := false }
def BitsSpreadSaid : Prop := bitsSpreadRow.holds Try.pinned (OpenSpec.ofChange bitsSpreadSpec)

/-- ITS FALSE NEIGHBOUR: 'it returns false'. Refute it at one input. -/
def bitsSpreadWrong : ChangeSpec := { name := "bitsSpread", fn := fun _ => fun
  | [d1, d2, d3] => { results := [.lit (.bool false)], args := [d1, d2, d3] }
  | _ => none }
def BitsSpreadWrongFalsely : Prop := bitsSpreadRow.holds Try.pinned (OpenSpec.ofChange bitsSpreadWrong)

/-- 'trefoillaw02.BitsPairs': WHATEVER THE INPUT: true; the input reads as it did. -/
def bitsPairsSpec : ChangeSpec := { name := "bitsPairs", fn := fun _ => fun
  | [d1, d2] => { results := [.lit (.bool true)], args := [d1, d2] }
  | _ => none }
def bitsPairsRow : OpenClaim := { program := "ytnnopgichjnhdaa", sum := "05b62a21cf13e3dfc692de4086798b6f2dd8079a6d74f3c763c784f2ebe7f9f5", func := "trefoil/trefoillaw02.BitsPairs", spec := "bitsPairs", unfollowed := true, recurses := true, apart := false }
def BitsPairsSaid : Prop := bitsPairsRow.holds Try.pinned (OpenSpec.ofChange bitsPairsSpec)

/-- ITS FALSE NEIGHBOUR: 'it returns false'. Refute it at one input. -/
def bitsPairsWrong : ChangeSpec := { name := "bitsPairs", fn := fun _ => fun
  | [d1, d2] => { results := [.lit (.bool false)], args := [d1, d2] }
  | _ => none }
def BitsPairsWrongFalsely : Prop := bitsPairsRow.holds Try.pinned (OpenSpec.ofChange bitsPairsWrong)

/-- 'trefoillaw02.BitsReads': WHATEVER THE INPUT: true; the input reads as it did. -/
def bitsReadsSpec : ChangeSpec := { name := "bitsReads", fn := fun _ => fun
  | [d1, d2, d3] => { results := [.lit (.bool true)], args := [d1, d2, d3] }
  | _ => none }
def bitsReadsRow : OpenClaim := { program := "ytnnopgichjnhdaa", sum := "05b62a21cf13e3dfc692de4086798b6f2dd8079a6d74f3c763c784f2ebe7f9f5", func := "trefoil/trefoillaw02.BitsReads", spec := "bitsReads", apart := false }
def BitsReadsSaid : Prop := bitsReadsRow.holds Try.pinned (OpenSpec.ofChange bitsReadsSpec)

/-- ITS FALSE NEIGHBOUR: 'it returns false'. Refute it at one input. -/
def bitsReadsWrong : ChangeSpec := { name := "bitsReads", fn := fun _ => fun
  | [d1, d2, d3] => { results := [.lit (.bool false)], args := [d1, d2, d3] }
  | _ => none }
def BitsReadsWrongFalsely : Prop := bitsReadsRow.holds Try.pinned (OpenSpec.ofChange bitsReadsWrong)

/-- 'trefoillaw02.BitsParts': WHATEVER THE INPUT: true; the input reads as it did. -/
def bitsPartsSpec : ChangeSpec := { name := "bitsParts", fn := fun _ => fun
  | [d1, d2, d3, d4, d5] => { results := [.lit (.bool true)], args := [d1, d2, d3, d4, d5] }
  | _ => none }
def bitsPartsRow : OpenClaim := { program := "ytnnopgichjnhdaa", sum := "05b62a21cf13e3dfc692de4086798b6f2dd8079a6d74f3c763c784f2ebe7f9f5", func := "trefoil/trefoillaw02.BitsParts", spec := "bitsParts", apart := false }
def BitsPartsSaid : Prop := bitsPartsRow.holds Try.pinned (OpenSpec.ofChange bitsPartsSpec)

/-- ITS FALSE NEIGHBOUR: 'it returns false'. Refute it at one input. -/
def bitsPartsWrong : ChangeSpec := { name := "bitsParts", fn := fun _ => fun
  | [d1, d2, d3, d4, d5] => { results := [.lit (.bool false)], args := [d1, d2, d3, d4, d5] }
  | _ => none }
def BitsPartsWrongFalsely : Prop := bitsPartsRow.holds Try.pinned (OpenSpec.ofChange bitsPartsWrong)

/- THE SECOND FORM. 'bulk': how many values and letters a reading holds, each counted each time it is reached (what is shared counts as often as it is met; a slice's spare places count too). A statement '..UptoSaid' is the law's where the arguments, and the package variables that the reading takes, are together of bulk at most 1048576: NARROWER than '..Said'. Prove '..Said' where nothing that the law and all that it calls make is longer than what came in: it says more and counts as full. Else prove '..UptoSaid'. A law counts once. -/
mutual
def uptoBulk {H : Type} : DataW H → Nat
  | .lit (.string bytes) => bytes.length + 1
  | .lit _ => 1
  | .nil => 1
  | .ptr d => uptoBulk d + 1
  | .slice elems spare => uptoBulkAll elems + uptoBulkAll spare + 1
  | .agg parts => uptoBulkAll parts + 1
  | .iface _ d => uptoBulk d + 1
  | .map entries => uptoBulkEntries entries + 1
  | .held _ => 1
def uptoBulkAll {H : Type} : List (DataW H) → Nat
  | [] => 0
  | d :: r => uptoBulk d + uptoBulkAll r
def uptoBulkEntries {H : Type} : List (Lit × DataW H) → Nat
  | [] => 0
  | x :: r => uptoBulkEntry x + uptoBulkEntries r
def uptoBulkEntry {H : Type} : Lit × DataW H → Nat
  | (.string bytes, d) => bytes.length + uptoBulk d + 1
  | (_, d) => uptoBulk d + 1
 end
def uptoSmall : (H : Type) → List (DataW H) → Bool := fun _ ds => decide (uptoBulkAll ds ≤ 1048576)
def OpenSpec.upto (s : _root_.Go.ChangeSpec) : _root_.Go.OpenSpec := { _root_.Go.OpenSpec.ofChange s with cond := some uptoSmall }

/-- 'trefoillaw02.BitsMakes', WHERE WHAT IT READS IS OF BULK AT MOST 1048576: true; the input reads as it did. -/
def bitsMakesUptoRow : OpenClaim := { program := "ytnnopgichjnhdaa", sum := "05b62a21cf13e3dfc692de4086798b6f2dd8079a6d74f3c763c784f2ebe7f9f5", func := "trefoil/trefoillaw02.BitsMakes", spec := "bitsMakes", apart := false, narrowed := true }
def BitsMakesUptoSaid : Prop := bitsMakesUptoRow.holds Try.pinned (OpenSpec.upto bitsMakesSpec)

/-- 'trefoillaw02.BitsGets', WHERE WHAT IT READS IS OF BULK AT MOST 1048576: true; the input reads as it did. -/
def bitsGetsUptoRow : OpenClaim := { program := "ytnnopgichjnhdaa", sum := "05b62a21cf13e3dfc692de4086798b6f2dd8079a6d74f3c763c784f2ebe7f9f5", func := "trefoil/trefoillaw02.BitsGets", spec := "bitsGets", apart := false, narrowed := true }
def BitsGetsUptoSaid : Prop := bitsGetsUptoRow.holds Try.pinned (OpenSpec.upto bitsGetsSpec)

/-- 'trefoillaw02.BitsSpread', WHERE WHAT IT READS IS OF BULK AT MOST 1048576: true; the input reads as it did. -/
def bitsSpreadUptoRow : OpenClaim := { program := "ytnnopgichjnhdaa", sum := "05b62a21cf13e3dfc692de4086798b6f2dd8079a6d74f3c763c784f2ebe7f9f5", func := "trefoil/trefoillaw02.BitsSpread", spec := "bitsSpread", unfollowed := true, recurses := true, apart := false, narrowed := true }
def BitsSpreadUptoSaid : Prop := bitsSpreadUptoRow.holds Try.pinned (OpenSpec.upto bitsSpreadSpec)

/-- 'trefoillaw02.BitsPairs', WHERE WHAT IT READS IS OF BULK AT MOST 1048576: true; the input reads as it did. -/
def bitsPairsUptoRow : OpenClaim := { program := "ytnnopgichjnhdaa", sum := "05b62a21cf13e3dfc692de4086798b6f2dd8079a6d74f3c763c784f2ebe7f9f5", func := "trefoil/trefoillaw02.BitsPairs", spec := "bitsPairs", unfollowed := true, recurses := true, apart := false, narrowed := true }
def BitsPairsUptoSaid : Prop := bitsPairsUptoRow.holds Try.pinned (OpenSpec.upto bitsPairsSpec)

/-- 'trefoillaw02.BitsReads', WHERE WHAT IT READS IS OF BULK AT MOST 1048576: true; the input reads as it did. -/
def bitsReadsUptoRow : OpenClaim := { program := "ytnnopgichjnhdaa", sum := "05b62a21cf13e3dfc692de4086798b6f2dd8079a6d74f3c763c784f2ebe7f9f5", func := "trefoil/trefoillaw02.BitsReads", spec := "bitsReads", apart := false, narrowed := true }
def BitsReadsUptoSaid : Prop := bitsReadsUptoRow.holds Try.pinned (OpenSpec.upto bitsReadsSpec)

/-- 'trefoillaw02.BitsParts', WHERE WHAT IT READS IS OF BULK AT MOST 1048576: true; the input reads as it did. -/
def bitsPartsUptoRow : OpenClaim := { program := "ytnnopgichjnhdaa", sum := "05b62a21cf13e3dfc692de4086798b6f2dd8079a6d74f3c763c784f2ebe7f9f5", func := "trefoil/trefoillaw02.BitsParts", spec := "bitsParts", apart := false, narrowed := true }
def BitsPartsUptoSaid : Prop := bitsPartsUptoRow.holds Try.pinned (OpenSpec.upto bitsPartsSpec)

end Rows
end Go.Proofs.Ytnnopgichjnhdaa
