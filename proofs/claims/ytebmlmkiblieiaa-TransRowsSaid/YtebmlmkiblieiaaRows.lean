/-
  No cell of these rows narrows 'for every input' (looked for: loops, veiled, ifaces, maps, wideKeys, modest, calm, conditions, laid).
  DERIVED. THE GIVEN ROWS OF THIS SEAT. 12 by the template 'for every input the law returns true; each argument reads behind the call as it read before'; 0 by the template 'total and deterministic' (their statements: YtebmlmkiblieiaaTotals.lean).
  GIVEN WITH THE SEED: the statements are not yours to turn. If you find one false, say at which input.
  Laid BY PROGRAM, IN A SANDBOX (cutbox-rows.mjs): the forced cells as the released guide's own fill.sh prints them over the translation 21e501b29b98cb63… (all of the seat's roots in one cut). By AI agents, Wed Nov 11 2026. No macro, syntax, notation, axiom, sorry.
-/
import Derived.Test.YtebmlmkiblieiaaChecked
import GoSem.Claim
import GoSem.ClaimJoined
import GoSem.ClaimMapViews
import Derived.JoinedTies
import Derived.KernelRfl
namespace Go.Proofs.Ytebmlmkiblieiaa
/- THE CELL 'sum', in the pinned program and in every row, IS THE sha256 OF THE DUMP (.gsa) THAT YtebmlmkiblieiaaProg.lean LOADS. Nothing in Lean hashes anything: it is a label: what it is worth is what the hold of that sum in a sandbox is worth. -/
noncomputable def Try.pinned : Pinned := { name := "ytebmlmkiblieiaa", sum := "21e501b29b98cb637a894f14e050027214f25b8e174623990369ab4f27be271f", checked := Try.checked }
namespace Rows
def none {H : Type} : Left H := { results := [], args := [] }

/-- 'trefoillaw15.BaseotRows': WHATEVER THE INPUT: true; the input reads as it did. -/
def baseotRowsSpec : ChangeSpec := { name := "baseotRows", fn := fun _ => fun
  | [d1, d2, d3, d4] => { results := [.lit (.bool true)], args := [d1, d2, d3, d4] }
  | _ => none }
def baseotRowsRow : OpenClaim := { program := "ytebmlmkiblieiaa", sum := "21e501b29b98cb637a894f14e050027214f25b8e174623990369ab4f27be271f", func := "trefoil/trefoillaw15.BaseotRows", spec := "baseotRows", apart := false }
def BaseotRowsSaid : Prop := baseotRowsRow.holds Try.pinned (OpenSpec.ofChange baseotRowsSpec)

/-- ITS FALSE NEIGHBOUR: 'it returns false'. Refute it at one input. -/
def baseotRowsWrong : ChangeSpec := { name := "baseotRows", fn := fun _ => fun
  | [d1, d2, d3, d4] => { results := [.lit (.bool false)], args := [d1, d2, d3, d4] }
  | _ => none }
def BaseotRowsWrongFalsely : Prop := baseotRowsRow.holds Try.pinned (OpenSpec.ofChange baseotRowsWrong)

/-- 'trefoillaw07.PrgChild': WHATEVER THE INPUT: true; the input reads as it did. -/
def prgChildSpec : ChangeSpec := { name := "prgChild", fn := fun _ => fun
  | [d1, d2] => { results := [.lit (.bool true)], args := [d1, d2] }
  | _ => none }
def prgChildRow : OpenClaim := { program := "ytebmlmkiblieiaa", sum := "21e501b29b98cb637a894f14e050027214f25b8e174623990369ab4f27be271f", func := "trefoil/trefoillaw07.PrgChild", spec := "prgChild", apart := false }
def PrgChildSaid : Prop := prgChildRow.holds Try.pinned (OpenSpec.ofChange prgChildSpec)

/-- ITS FALSE NEIGHBOUR: 'it returns false'. Refute it at one input. -/
def prgChildWrong : ChangeSpec := { name := "prgChild", fn := fun _ => fun
  | [d1, d2] => { results := [.lit (.bool false)], args := [d1, d2] }
  | _ => none }
def PrgChildWrongFalsely : Prop := prgChildRow.holds Try.pinned (OpenSpec.ofChange prgChildWrong)

/-- 'trefoillaw07.PrgEven': WHATEVER THE INPUT: true; the input reads as it did. -/
def prgEvenSpec : ChangeSpec := { name := "prgEven", fn := fun _ => fun
  | [d1, d2] => { results := [.lit (.bool true)], args := [d1, d2] }
  | _ => none }
def prgEvenRow : OpenClaim := { program := "ytebmlmkiblieiaa", sum := "21e501b29b98cb637a894f14e050027214f25b8e174623990369ab4f27be271f", func := "trefoil/trefoillaw07.PrgEven", spec := "prgEven", apart := false }
def PrgEvenSaid : Prop := prgEvenRow.holds Try.pinned (OpenSpec.ofChange prgEvenSpec)

/-- ITS FALSE NEIGHBOUR: 'it returns false'. Refute it at one input. -/
def prgEvenWrong : ChangeSpec := { name := "prgEven", fn := fun _ => fun
  | [d1, d2] => { results := [.lit (.bool false)], args := [d1, d2] }
  | _ => none }
def PrgEvenWrongFalsely : Prop := prgEvenRow.holds Try.pinned (OpenSpec.ofChange prgEvenWrong)

/-- 'trefoillaw07.PrgNobody': WHATEVER THE INPUT: true; the input reads as it did. -/
def prgNobodySpec : ChangeSpec := { name := "prgNobody", fn := fun _ => fun
  | [d] => { results := [.lit (.bool true)], args := [d] }
  | _ => none }
def prgNobodyRow : OpenClaim := { program := "ytebmlmkiblieiaa", sum := "21e501b29b98cb637a894f14e050027214f25b8e174623990369ab4f27be271f", func := "trefoil/trefoillaw07.PrgNobody", spec := "prgNobody", apart := false }
def PrgNobodySaid : Prop := prgNobodyRow.holds Try.pinned (OpenSpec.ofChange prgNobodySpec)

/-- ITS FALSE NEIGHBOUR: 'it returns false'. Refute it at one input. -/
def prgNobodyWrong : ChangeSpec := { name := "prgNobody", fn := fun _ => fun
  | [d] => { results := [.lit (.bool false)], args := [d] }
  | _ => none }
def PrgNobodyWrongFalsely : Prop := prgNobodyRow.holds Try.pinned (OpenSpec.ofChange prgNobodyWrong)

/-- 'trefoillaw15.BaseotDeals': WHATEVER THE INPUT: true; the input reads as it did. -/
def baseotDealsSpec : ChangeSpec := { name := "baseotDeals", fn := fun _ => fun
  | [d1, d2] => { results := [.lit (.bool true)], args := [d1, d2] }
  | _ => none }
def baseotDealsRow : OpenClaim := { program := "ytebmlmkiblieiaa", sum := "21e501b29b98cb637a894f14e050027214f25b8e174623990369ab4f27be271f", func := "trefoil/trefoillaw15.BaseotDeals", spec := "baseotDeals", apart := false }
def BaseotDealsSaid : Prop := baseotDealsRow.holds Try.pinned (OpenSpec.ofChange baseotDealsSpec)

/-- ITS FALSE NEIGHBOUR: 'it returns false'. Refute it at one input. -/
def baseotDealsWrong : ChangeSpec := { name := "baseotDeals", fn := fun _ => fun
  | [d1, d2] => { results := [.lit (.bool false)], args := [d1, d2] }
  | _ => none }
def BaseotDealsWrongFalsely : Prop := baseotDealsRow.holds Try.pinned (OpenSpec.ofChange baseotDealsWrong)

/-- 'trefoillaw07.PrgSources': WHATEVER THE INPUT: true; the input reads as it did. -/
def prgSourcesSpec : ChangeSpec := { name := "prgSources", fn := fun _ => fun
  | [d1, d2, d3] => { results := [.lit (.bool true)], args := [d1, d2, d3] }
  | _ => none }
def prgSourcesRow : OpenClaim := { program := "ytebmlmkiblieiaa", sum := "21e501b29b98cb637a894f14e050027214f25b8e174623990369ab4f27be271f", func := "trefoil/trefoillaw07.PrgSources", spec := "prgSources", apart := false }
def PrgSourcesSaid : Prop := prgSourcesRow.holds Try.pinned (OpenSpec.ofChange prgSourcesSpec)

/-- ITS FALSE NEIGHBOUR: 'it returns false'. Refute it at one input. -/
def prgSourcesWrong : ChangeSpec := { name := "prgSources", fn := fun _ => fun
  | [d1, d2, d3] => { results := [.lit (.bool false)], args := [d1, d2, d3] }
  | _ => none }
def PrgSourcesWrongFalsely : Prop := prgSourcesRow.holds Try.pinned (OpenSpec.ofChange prgSourcesWrong)

/-- 'trefoillaw16.TransCols': WHATEVER THE INPUT: true; the input reads as it did. -/
def transColsSpec : ChangeSpec := { name := "transCols", fn := fun _ => fun
  | [d] => { results := [.lit (.bool true)], args := [d] }
  | _ => none }
def transColsRow : OpenClaim := { program := "ytebmlmkiblieiaa", sum := "21e501b29b98cb637a894f14e050027214f25b8e174623990369ab4f27be271f", func := "trefoil/trefoillaw16.TransCols", spec := "transCols", apart := false }
def TransColsSaid : Prop := transColsRow.holds Try.pinned (OpenSpec.ofChange transColsSpec)

/-- ITS FALSE NEIGHBOUR: 'it returns false'. Refute it at one input. -/
def transColsWrong : ChangeSpec := { name := "transCols", fn := fun _ => fun
  | [d] => { results := [.lit (.bool false)], args := [d] }
  | _ => none }
def TransColsWrongFalsely : Prop := transColsRow.holds Try.pinned (OpenSpec.ofChange transColsWrong)

/-- 'trefoillaw16.TransPacks': WHATEVER THE INPUT: true; the input reads as it did. -/
def transPacksSpec : ChangeSpec := { name := "transPacks", fn := fun _ => fun
  | [d1, d2] => { results := [.lit (.bool true)], args := [d1, d2] }
  | _ => none }
def transPacksRow : OpenClaim := { program := "ytebmlmkiblieiaa", sum := "21e501b29b98cb637a894f14e050027214f25b8e174623990369ab4f27be271f", func := "trefoil/trefoillaw16.TransPacks", spec := "transPacks", apart := false }
def TransPacksSaid : Prop := transPacksRow.holds Try.pinned (OpenSpec.ofChange transPacksSpec)

/-- ITS FALSE NEIGHBOUR: 'it returns false'. Refute it at one input. -/
def transPacksWrong : ChangeSpec := { name := "transPacks", fn := fun _ => fun
  | [d1, d2] => { results := [.lit (.bool false)], args := [d1, d2] }
  | _ => none }
def TransPacksWrongFalsely : Prop := transPacksRow.holds Try.pinned (OpenSpec.ofChange transPacksWrong)

/-- 'trefoillaw07.PrgJoins': WHATEVER THE INPUT: true; the input reads as it did. -/
def prgJoinsSpec : ChangeSpec := { name := "prgJoins", fn := fun _ => fun
  | [d1, d2, d3, d4, d5] => { results := [.lit (.bool true)], args := [d1, d2, d3, d4, d5] }
  | _ => none }
def prgJoinsRow : OpenClaim := { program := "ytebmlmkiblieiaa", sum := "21e501b29b98cb637a894f14e050027214f25b8e174623990369ab4f27be271f", func := "trefoil/trefoillaw07.PrgJoins", spec := "prgJoins", apart := false }
def PrgJoinsSaid : Prop := prgJoinsRow.holds Try.pinned (OpenSpec.ofChange prgJoinsSpec)

/-- ITS FALSE NEIGHBOUR: 'it returns false'. Refute it at one input. -/
def prgJoinsWrong : ChangeSpec := { name := "prgJoins", fn := fun _ => fun
  | [d1, d2, d3, d4, d5] => { results := [.lit (.bool false)], args := [d1, d2, d3, d4, d5] }
  | _ => none }
def PrgJoinsWrongFalsely : Prop := prgJoinsRow.holds Try.pinned (OpenSpec.ofChange prgJoinsWrong)

/-- 'trefoillaw15.BaseotMatches': WHATEVER THE INPUT: true; the input reads as it did. -/
def baseotMatchesSpec : ChangeSpec := { name := "baseotMatches", fn := fun _ => fun
  | [d1, d2, d3, d4, d5] => { results := [.lit (.bool true)], args := [d1, d2, d3, d4, d5] }
  | _ => none }
def baseotMatchesRow : OpenClaim := { program := "ytebmlmkiblieiaa", sum := "21e501b29b98cb637a894f14e050027214f25b8e174623990369ab4f27be271f", func := "trefoil/trefoillaw15.BaseotMatches", spec := "baseotMatches", apart := false }
def BaseotMatchesSaid : Prop := baseotMatchesRow.holds Try.pinned (OpenSpec.ofChange baseotMatchesSpec)

/-- ITS FALSE NEIGHBOUR: 'it returns false'. Refute it at one input. -/
def baseotMatchesWrong : ChangeSpec := { name := "baseotMatches", fn := fun _ => fun
  | [d1, d2, d3, d4, d5] => { results := [.lit (.bool false)], args := [d1, d2, d3, d4, d5] }
  | _ => none }
def BaseotMatchesWrongFalsely : Prop := baseotMatchesRow.holds Try.pinned (OpenSpec.ofChange baseotMatchesWrong)

/-- 'trefoillaw16.TransRows': WHATEVER THE INPUT: true; the input reads as it did. -/
def transRowsSpec : ChangeSpec := { name := "transRows", fn := fun _ => fun
  | [d1, d2, d3, d4] => { results := [.lit (.bool true)], args := [d1, d2, d3, d4] }
  | _ => none }
def transRowsRow : OpenClaim := { program := "ytebmlmkiblieiaa", sum := "21e501b29b98cb637a894f14e050027214f25b8e174623990369ab4f27be271f", func := "trefoil/trefoillaw16.TransRows", spec := "transRows", apart := false }
def TransRowsSaid : Prop := transRowsRow.holds Try.pinned (OpenSpec.ofChange transRowsSpec)

/-- ITS FALSE NEIGHBOUR: 'it returns false'. Refute it at one input. -/
def transRowsWrong : ChangeSpec := { name := "transRows", fn := fun _ => fun
  | [d1, d2, d3, d4] => { results := [.lit (.bool false)], args := [d1, d2, d3, d4] }
  | _ => none }
def TransRowsWrongFalsely : Prop := transRowsRow.holds Try.pinned (OpenSpec.ofChange transRowsWrong)

/-- 'trefoillaw07.PrgParts': WHATEVER THE INPUT: true; the input reads as it did. -/
def prgPartsSpec : ChangeSpec := { name := "prgParts", fn := fun _ => fun
  | [d1, d2, d3, d4] => { results := [.lit (.bool true)], args := [d1, d2, d3, d4] }
  | _ => none }
def prgPartsRow : OpenClaim := { program := "ytebmlmkiblieiaa", sum := "21e501b29b98cb637a894f14e050027214f25b8e174623990369ab4f27be271f", func := "trefoil/trefoillaw07.PrgParts", spec := "prgParts", apart := false }
def PrgPartsSaid : Prop := prgPartsRow.holds Try.pinned (OpenSpec.ofChange prgPartsSpec)

/-- ITS FALSE NEIGHBOUR: 'it returns false'. Refute it at one input. -/
def prgPartsWrong : ChangeSpec := { name := "prgParts", fn := fun _ => fun
  | [d1, d2, d3, d4] => { results := [.lit (.bool false)], args := [d1, d2, d3, d4] }
  | _ => none }
def PrgPartsWrongFalsely : Prop := prgPartsRow.holds Try.pinned (OpenSpec.ofChange prgPartsWrong)

/- THE SECOND FORM. 'bulk': how many values and letters a reading holds, each counted each time it is reached (what is shared counts as often as it is met; a slice's spare places count too). A statement '..UptoSaid' is the law's where the arguments, and the package variables that the reading takes, are together of bulk at most 1048576: NARROWER than '..Said'. Prove '..Said' where nothing that the law and all that it calls make is longer than what came in: it says more and counts as full. Else prove '..UptoSaid'. A law counts once. -/
mutual
def uptoBulk {H : Type} : DataW H → Nat
  | .lit (.string bytes) => bytes.length + 1
  | .lit _ => 1
  | .nil => 1
  | .ptr d => uptoBulk d + 1
  | .slice elems spare => uptoBulkAll elems + uptoBulkAll spare + 1
  | .agg parts => uptoBulkAll parts + 1
  | .iface _ d => uptoBulk d + 1
  | .map entries => uptoBulkEntries entries + 1
  | .held _ => 1
def uptoBulkAll {H : Type} : List (DataW H) → Nat
  | [] => 0
  | d :: r => uptoBulk d + uptoBulkAll r
def uptoBulkEntries {H : Type} : List (Lit × DataW H) → Nat
  | [] => 0
  | x :: r => uptoBulkEntry x + uptoBulkEntries r
def uptoBulkEntry {H : Type} : Lit × DataW H → Nat
  | (.string bytes, d) => bytes.length + uptoBulk d + 1
  | (_, d) => uptoBulk d + 1
 end
def uptoSmall : (H : Type) → List (DataW H) → Bool := fun _ ds => decide (uptoBulkAll ds ≤ 1048576)
def OpenSpec.upto (s : _root_.Go.ChangeSpec) : _root_.Go.OpenSpec := { _root_.Go.OpenSpec.ofChange s with cond := some uptoSmall }

/-- 'trefoillaw15.BaseotRows', WHERE WHAT IT READS IS OF BULK AT MOST 1048576: true; the input reads as it did. -/
def baseotRowsUptoRow : OpenClaim := { program := "ytebmlmkiblieiaa", sum := "21e501b29b98cb637a894f14e050027214f25b8e174623990369ab4f27be271f", func := "trefoil/trefoillaw15.BaseotRows", spec := "baseotRows", apart := false, narrowed := true }
def BaseotRowsUptoSaid : Prop := baseotRowsUptoRow.holds Try.pinned (OpenSpec.upto baseotRowsSpec)

/-- 'trefoillaw07.PrgChild', WHERE WHAT IT READS IS OF BULK AT MOST 1048576: true; the input reads as it did. -/
def prgChildUptoRow : OpenClaim := { program := "ytebmlmkiblieiaa", sum := "21e501b29b98cb637a894f14e050027214f25b8e174623990369ab4f27be271f", func := "trefoil/trefoillaw07.PrgChild", spec := "prgChild", apart := false, narrowed := true }
def PrgChildUptoSaid : Prop := prgChildUptoRow.holds Try.pinned (OpenSpec.upto prgChildSpec)

/-- 'trefoillaw07.PrgEven', WHERE WHAT IT READS IS OF BULK AT MOST 1048576: true; the input reads as it did. -/
def prgEvenUptoRow : OpenClaim := { program := "ytebmlmkiblieiaa", sum := "21e501b29b98cb637a894f14e050027214f25b8e174623990369ab4f27be271f", func := "trefoil/trefoillaw07.PrgEven", spec := "prgEven", apart := false, narrowed := true }
def PrgEvenUptoSaid : Prop := prgEvenUptoRow.holds Try.pinned (OpenSpec.upto prgEvenSpec)

/-- 'trefoillaw07.PrgNobody', WHERE WHAT IT READS IS OF BULK AT MOST 1048576: true; the input reads as it did. -/
def prgNobodyUptoRow : OpenClaim := { program := "ytebmlmkiblieiaa", sum := "21e501b29b98cb637a894f14e050027214f25b8e174623990369ab4f27be271f", func := "trefoil/trefoillaw07.PrgNobody", spec := "prgNobody", apart := false, narrowed := true }
def PrgNobodyUptoSaid : Prop := prgNobodyUptoRow.holds Try.pinned (OpenSpec.upto prgNobodySpec)

/-- 'trefoillaw15.BaseotDeals', WHERE WHAT IT READS IS OF BULK AT MOST 1048576: true; the input reads as it did. -/
def baseotDealsUptoRow : OpenClaim := { program := "ytebmlmkiblieiaa", sum := "21e501b29b98cb637a894f14e050027214f25b8e174623990369ab4f27be271f", func := "trefoil/trefoillaw15.BaseotDeals", spec := "baseotDeals", apart := false, narrowed := true }
def BaseotDealsUptoSaid : Prop := baseotDealsUptoRow.holds Try.pinned (OpenSpec.upto baseotDealsSpec)

/-- 'trefoillaw07.PrgSources', WHERE WHAT IT READS IS OF BULK AT MOST 1048576: true; the input reads as it did. -/
def prgSourcesUptoRow : OpenClaim := { program := "ytebmlmkiblieiaa", sum := "21e501b29b98cb637a894f14e050027214f25b8e174623990369ab4f27be271f", func := "trefoil/trefoillaw07.PrgSources", spec := "prgSources", apart := false, narrowed := true }
def PrgSourcesUptoSaid : Prop := prgSourcesUptoRow.holds Try.pinned (OpenSpec.upto prgSourcesSpec)

/-- 'trefoillaw16.TransCols', WHERE WHAT IT READS IS OF BULK AT MOST 1048576: true; the input reads as it did. -/
def transColsUptoRow : OpenClaim := { program := "ytebmlmkiblieiaa", sum := "21e501b29b98cb637a894f14e050027214f25b8e174623990369ab4f27be271f", func := "trefoil/trefoillaw16.TransCols", spec := "transCols", apart := false, narrowed := true }
def TransColsUptoSaid : Prop := transColsUptoRow.holds Try.pinned (OpenSpec.upto transColsSpec)

/-- 'trefoillaw16.TransPacks', WHERE WHAT IT READS IS OF BULK AT MOST 1048576: true; the input reads as it did. -/
def transPacksUptoRow : OpenClaim := { program := "ytebmlmkiblieiaa", sum := "21e501b29b98cb637a894f14e050027214f25b8e174623990369ab4f27be271f", func := "trefoil/trefoillaw16.TransPacks", spec := "transPacks", apart := false, narrowed := true }
def TransPacksUptoSaid : Prop := transPacksUptoRow.holds Try.pinned (OpenSpec.upto transPacksSpec)

/-- 'trefoillaw07.PrgJoins', WHERE WHAT IT READS IS OF BULK AT MOST 1048576: true; the input reads as it did. -/
def prgJoinsUptoRow : OpenClaim := { program := "ytebmlmkiblieiaa", sum := "21e501b29b98cb637a894f14e050027214f25b8e174623990369ab4f27be271f", func := "trefoil/trefoillaw07.PrgJoins", spec := "prgJoins", apart := false, narrowed := true }
def PrgJoinsUptoSaid : Prop := prgJoinsUptoRow.holds Try.pinned (OpenSpec.upto prgJoinsSpec)

/-- 'trefoillaw15.BaseotMatches', WHERE WHAT IT READS IS OF BULK AT MOST 1048576: true; the input reads as it did. -/
def baseotMatchesUptoRow : OpenClaim := { program := "ytebmlmkiblieiaa", sum := "21e501b29b98cb637a894f14e050027214f25b8e174623990369ab4f27be271f", func := "trefoil/trefoillaw15.BaseotMatches", spec := "baseotMatches", apart := false, narrowed := true }
def BaseotMatchesUptoSaid : Prop := baseotMatchesUptoRow.holds Try.pinned (OpenSpec.upto baseotMatchesSpec)

/-- 'trefoillaw16.TransRows', WHERE WHAT IT READS IS OF BULK AT MOST 1048576: true; the input reads as it did. -/
def transRowsUptoRow : OpenClaim := { program := "ytebmlmkiblieiaa", sum := "21e501b29b98cb637a894f14e050027214f25b8e174623990369ab4f27be271f", func := "trefoil/trefoillaw16.TransRows", spec := "transRows", apart := false, narrowed := true }
def TransRowsUptoSaid : Prop := transRowsUptoRow.holds Try.pinned (OpenSpec.upto transRowsSpec)

/-- 'trefoillaw07.PrgParts', WHERE WHAT IT READS IS OF BULK AT MOST 1048576: true; the input reads as it did. -/
def prgPartsUptoRow : OpenClaim := { program := "ytebmlmkiblieiaa", sum := "21e501b29b98cb637a894f14e050027214f25b8e174623990369ab4f27be271f", func := "trefoil/trefoillaw07.PrgParts", spec := "prgParts", apart := false, narrowed := true }
def PrgPartsUptoSaid : Prop := prgPartsUptoRow.holds Try.pinned (OpenSpec.upto prgPartsSpec)

end Rows
end Go.Proofs.Ytebmlmkiblieiaa
