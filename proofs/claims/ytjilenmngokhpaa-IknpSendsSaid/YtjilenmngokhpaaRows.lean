/-
  No cell of these rows narrows 'for every input' (looked for: loops, veiled, ifaces, maps, wideKeys, modest, calm, conditions, laid).
  DERIVED. THE GIVEN ROWS OF THIS SEAT. 8 by the template 'for every input the law returns true; each argument reads behind the call as it read before'; 0 by the template 'total and deterministic' (their statements: YtjilenmngokhpaaTotals.lean).
  GIVEN WITH THE SEED: the statements are not yours to turn. If you find one false, say at which input.
  Laid BY PROGRAM, IN A SANDBOX (cutbox-rows.mjs): the forced cells as the released guide's own fill.sh prints them over the translation d2b278fc2adbd196… (all of the seat's roots in one cut). By AI agents, Wed Nov 11 2026. No macro, syntax, notation, axiom, sorry.
-/
import Derived.Test.YtjilenmngokhpaaChecked
import GoSem.Claim
import GoSem.ClaimJoined
import GoSem.ClaimMapViews
import Derived.JoinedTies
import Derived.KernelRfl
namespace Go.Proofs.Ytjilenmngokhpaa
/- THE CELL 'sum', in the pinned program and in every row, IS THE sha256 OF THE DUMP (.gsa) THAT YtjilenmngokhpaaProg.lean LOADS. Nothing in Lean hashes anything: it is a label: what it is worth is what the hold of that sum in a sandbox is worth. -/
noncomputable def Try.pinned : Pinned := { name := "ytjilenmngokhpaa", sum := "d2b278fc2adbd196a02d8b6860251f1a3b538e46557306b39d07b0ff819089df", checked := Try.checked }
namespace Rows
def none {H : Type} : Left H := { results := [], args := [] }

/-- 'trefoillaw19.CotSends': WHATEVER THE INPUT: true; the input reads as it did. -/
def cotSendsSpec : ChangeSpec := { name := "cotSends", fn := fun _ => fun
  | [d1, d2, d3, d4] => { results := [.lit (.bool true)], args := [d1, d2, d3, d4] }
  | _ => none }
def cotSendsRow : OpenClaim := { program := "ytjilenmngokhpaa", sum := "d2b278fc2adbd196a02d8b6860251f1a3b538e46557306b39d07b0ff819089df", func := "trefoil/trefoillaw19.CotSends", spec := "cotSends", unfollowed := true, recurses := true, apart := false }
def CotSendsSaid : Prop := cotSendsRow.holds Try.pinned (OpenSpec.ofChange cotSendsSpec)

/-- ITS FALSE NEIGHBOUR: 'it returns false'. Refute it at one input. -/
def cotSendsWrong : ChangeSpec := { name := "cotSends", fn := fun _ => fun
  | [d1, d2, d3, d4] => { results := [.lit (.bool false)], args := [d1, d2, d3, d4] }
  | _ => none }
def CotSendsWrongFalsely : Prop := cotSendsRow.holds Try.pinned (OpenSpec.ofChange cotSendsWrong)

/-- 'trefoillaw19.CotReceives': WHATEVER THE INPUT: true; the input reads as it did. -/
def cotReceivesSpec : ChangeSpec := { name := "cotReceives", fn := fun _ => fun
  | [d1, d2, d3, d4, d5] => { results := [.lit (.bool true)], args := [d1, d2, d3, d4, d5] }
  | _ => none }
def cotReceivesRow : OpenClaim := { program := "ytjilenmngokhpaa", sum := "d2b278fc2adbd196a02d8b6860251f1a3b538e46557306b39d07b0ff819089df", func := "trefoil/trefoillaw19.CotReceives", spec := "cotReceives", unfollowed := true, recurses := true, apart := false }
def CotReceivesSaid : Prop := cotReceivesRow.holds Try.pinned (OpenSpec.ofChange cotReceivesSpec)

/-- ITS FALSE NEIGHBOUR: 'it returns false'. Refute it at one input. -/
def cotReceivesWrong : ChangeSpec := { name := "cotReceives", fn := fun _ => fun
  | [d1, d2, d3, d4, d5] => { results := [.lit (.bool false)], args := [d1, d2, d3, d4, d5] }
  | _ => none }
def CotReceivesWrongFalsely : Prop := cotReceivesRow.holds Try.pinned (OpenSpec.ofChange cotReceivesWrong)

/-- 'trefoillaw19.CotOpens': WHATEVER THE INPUT: true; the input reads as it did. -/
def cotOpensSpec : ChangeSpec := { name := "cotOpens", fn := fun _ => fun
  | [d1, d2, d3, d4, d5] => { results := [.lit (.bool true)], args := [d1, d2, d3, d4, d5] }
  | _ => none }
def cotOpensRow : OpenClaim := { program := "ytjilenmngokhpaa", sum := "d2b278fc2adbd196a02d8b6860251f1a3b538e46557306b39d07b0ff819089df", func := "trefoil/trefoillaw19.CotOpens", spec := "cotOpens", unfollowed := true, recurses := true, apart := false }
def CotOpensSaid : Prop := cotOpensRow.holds Try.pinned (OpenSpec.ofChange cotOpensSpec)

/-- ITS FALSE NEIGHBOUR: 'it returns false'. Refute it at one input. -/
def cotOpensWrong : ChangeSpec := { name := "cotOpens", fn := fun _ => fun
  | [d1, d2, d3, d4, d5] => { results := [.lit (.bool false)], args := [d1, d2, d3, d4, d5] }
  | _ => none }
def CotOpensWrongFalsely : Prop := cotOpensRow.holds Try.pinned (OpenSpec.ofChange cotOpensWrong)

/-- 'trefoillaw19.CotBlind': WHATEVER THE INPUT: true; the input reads as it did. -/
def cotBlindSpec : ChangeSpec := { name := "cotBlind", fn := fun _ => fun
  | [d1, d2, d3, d4, d5] => { results := [.lit (.bool true)], args := [d1, d2, d3, d4, d5] }
  | _ => none }
def cotBlindRow : OpenClaim := { program := "ytjilenmngokhpaa", sum := "d2b278fc2adbd196a02d8b6860251f1a3b538e46557306b39d07b0ff819089df", func := "trefoil/trefoillaw19.CotBlind", spec := "cotBlind", unfollowed := true, recurses := true, apart := false }
def CotBlindSaid : Prop := cotBlindRow.holds Try.pinned (OpenSpec.ofChange cotBlindSpec)

/-- ITS FALSE NEIGHBOUR: 'it returns false'. Refute it at one input. -/
def cotBlindWrong : ChangeSpec := { name := "cotBlind", fn := fun _ => fun
  | [d1, d2, d3, d4, d5] => { results := [.lit (.bool false)], args := [d1, d2, d3, d4, d5] }
  | _ => none }
def CotBlindWrongFalsely : Prop := cotBlindRow.holds Try.pinned (OpenSpec.ofChange cotBlindWrong)

/-- 'trefoillaw17.IknpSends': WHATEVER THE INPUT: true; the input reads as it did. -/
def iknpSendsSpec : ChangeSpec := { name := "iknpSends", fn := fun _ => fun
  | [d1, d2, d3, d4, d5, d6] => { results := [.lit (.bool true)], args := [d1, d2, d3, d4, d5, d6] }
  | _ => none }
def iknpSendsRow : OpenClaim := { program := "ytjilenmngokhpaa", sum := "d2b278fc2adbd196a02d8b6860251f1a3b538e46557306b39d07b0ff819089df", func := "trefoil/trefoillaw17.IknpSends", spec := "iknpSends", unfollowed := true, recurses := true, apart := false }
def IknpSendsSaid : Prop := iknpSendsRow.holds Try.pinned (OpenSpec.ofChange iknpSendsSpec)

/-- ITS FALSE NEIGHBOUR: 'it returns false'. Refute it at one input. -/
def iknpSendsWrong : ChangeSpec := { name := "iknpSends", fn := fun _ => fun
  | [d1, d2, d3, d4, d5, d6] => { results := [.lit (.bool false)], args := [d1, d2, d3, d4, d5, d6] }
  | _ => none }
def IknpSendsWrongFalsely : Prop := iknpSendsRow.holds Try.pinned (OpenSpec.ofChange iknpSendsWrong)

/-- 'trefoillaw17.IknpReceives': WHATEVER THE INPUT: true; the input reads as it did. -/
def iknpReceivesSpec : ChangeSpec := { name := "iknpReceives", fn := fun _ => fun
  | [d1, d2, d3, d4] => { results := [.lit (.bool true)], args := [d1, d2, d3, d4] }
  | _ => none }
def iknpReceivesRow : OpenClaim := { program := "ytjilenmngokhpaa", sum := "d2b278fc2adbd196a02d8b6860251f1a3b538e46557306b39d07b0ff819089df", func := "trefoil/trefoillaw17.IknpReceives", spec := "iknpReceives", unfollowed := true, recurses := true, apart := false }
def IknpReceivesSaid : Prop := iknpReceivesRow.holds Try.pinned (OpenSpec.ofChange iknpReceivesSpec)

/-- ITS FALSE NEIGHBOUR: 'it returns false'. Refute it at one input. -/
def iknpReceivesWrong : ChangeSpec := { name := "iknpReceives", fn := fun _ => fun
  | [d1, d2, d3, d4] => { results := [.lit (.bool false)], args := [d1, d2, d3, d4] }
  | _ => none }
def IknpReceivesWrongFalsely : Prop := iknpReceivesRow.holds Try.pinned (OpenSpec.ofChange iknpReceivesWrong)

/-- 'trefoillaw17.IknpJoins': WHATEVER THE INPUT: true; the input reads as it did. -/
def iknpJoinsSpec : ChangeSpec := { name := "iknpJoins", fn := fun _ => fun
  | [d1, d2, d3, d4] => { results := [.lit (.bool true)], args := [d1, d2, d3, d4] }
  | _ => none }
def iknpJoinsRow : OpenClaim := { program := "ytjilenmngokhpaa", sum := "d2b278fc2adbd196a02d8b6860251f1a3b538e46557306b39d07b0ff819089df", func := "trefoil/trefoillaw17.IknpJoins", spec := "iknpJoins", unfollowed := true, recurses := true, apart := false }
def IknpJoinsSaid : Prop := iknpJoinsRow.holds Try.pinned (OpenSpec.ofChange iknpJoinsSpec)

/-- ITS FALSE NEIGHBOUR: 'it returns false'. Refute it at one input. -/
def iknpJoinsWrong : ChangeSpec := { name := "iknpJoins", fn := fun _ => fun
  | [d1, d2, d3, d4] => { results := [.lit (.bool false)], args := [d1, d2, d3, d4] }
  | _ => none }
def IknpJoinsWrongFalsely : Prop := iknpJoinsRow.holds Try.pinned (OpenSpec.ofChange iknpJoinsWrong)

/-- 'trefoillaw17.IknpTells': WHATEVER THE INPUT: true; the input reads as it did. -/
def iknpTellsSpec : ChangeSpec := { name := "iknpTells", fn := fun _ => fun
  | [d1, d2, d3, d4, d5] => { results := [.lit (.bool true)], args := [d1, d2, d3, d4, d5] }
  | _ => none }
def iknpTellsRow : OpenClaim := { program := "ytjilenmngokhpaa", sum := "d2b278fc2adbd196a02d8b6860251f1a3b538e46557306b39d07b0ff819089df", func := "trefoil/trefoillaw17.IknpTells", spec := "iknpTells", unfollowed := true, recurses := true, apart := false }
def IknpTellsSaid : Prop := iknpTellsRow.holds Try.pinned (OpenSpec.ofChange iknpTellsSpec)

/-- ITS FALSE NEIGHBOUR: 'it returns false'. Refute it at one input. -/
def iknpTellsWrong : ChangeSpec := { name := "iknpTells", fn := fun _ => fun
  | [d1, d2, d3, d4, d5] => { results := [.lit (.bool false)], args := [d1, d2, d3, d4, d5] }
  | _ => none }
def IknpTellsWrongFalsely : Prop := iknpTellsRow.holds Try.pinned (OpenSpec.ofChange iknpTellsWrong)

/- THE SECOND FORM. 'bulk': how many values and letters a reading holds, each counted each time it is reached (what is shared counts as often as it is met; a slice's spare places count too). A statement '..UptoSaid' is the law's where the arguments, and the package variables that the reading takes, are together of bulk at most 1048576: NARROWER than '..Said'. Prove '..Said' where nothing that the law and all that it calls make is longer than what came in: it says more and counts as full. Else prove '..UptoSaid'. A law counts once. -/
mutual
def uptoBulk {H : Type} : DataW H → Nat
  | .lit (.string bytes) => bytes.length + 1
  | .lit _ => 1
  | .nil => 1
  | .ptr d => uptoBulk d + 1
  | .slice elems spare => uptoBulkAll elems + uptoBulkAll spare + 1
  | .agg parts => uptoBulkAll parts + 1
  | .iface _ d => uptoBulk d + 1
  | .map entries => uptoBulkEntries entries + 1
  | .held _ => 1
def uptoBulkAll {H : Type} : List (DataW H) → Nat
  | [] => 0
  | d :: r => uptoBulk d + uptoBulkAll r
def uptoBulkEntries {H : Type} : List (Lit × DataW H) → Nat
  | [] => 0
  | x :: r => uptoBulkEntry x + uptoBulkEntries r
def uptoBulkEntry {H : Type} : Lit × DataW H → Nat
  | (.string bytes, d) => bytes.length + uptoBulk d + 1
  | (_, d) => uptoBulk d + 1
 end
def uptoSmall : (H : Type) → List (DataW H) → Bool := fun _ ds => decide (uptoBulkAll ds ≤ 1048576)
def OpenSpec.upto (s : _root_.Go.ChangeSpec) : _root_.Go.OpenSpec := { _root_.Go.OpenSpec.ofChange s with cond := some uptoSmall }

/-- 'trefoillaw19.CotSends', WHERE WHAT IT READS IS OF BULK AT MOST 1048576: true; the input reads as it did. -/
def cotSendsUptoRow : OpenClaim := { program := "ytjilenmngokhpaa", sum := "d2b278fc2adbd196a02d8b6860251f1a3b538e46557306b39d07b0ff819089df", func := "trefoil/trefoillaw19.CotSends", spec := "cotSends", unfollowed := true, recurses := true, apart := false, narrowed := true }
def CotSendsUptoSaid : Prop := cotSendsUptoRow.holds Try.pinned (OpenSpec.upto cotSendsSpec)

/-- 'trefoillaw19.CotReceives', WHERE WHAT IT READS IS OF BULK AT MOST 1048576: true; the input reads as it did. -/
def cotReceivesUptoRow : OpenClaim := { program := "ytjilenmngokhpaa", sum := "d2b278fc2adbd196a02d8b6860251f1a3b538e46557306b39d07b0ff819089df", func := "trefoil/trefoillaw19.CotReceives", spec := "cotReceives", unfollowed := true, recurses := true, apart := false, narrowed := true }
def CotReceivesUptoSaid : Prop := cotReceivesUptoRow.holds Try.pinned (OpenSpec.upto cotReceivesSpec)

/-- 'trefoillaw19.CotOpens', WHERE WHAT IT READS IS OF BULK AT MOST 1048576: true; the input reads as it did. -/
def cotOpensUptoRow : OpenClaim := { program := "ytjilenmngokhpaa", sum := "d2b278fc2adbd196a02d8b6860251f1a3b538e46557306b39d07b0ff819089df", func := "trefoil/trefoillaw19.CotOpens", spec := "cotOpens", unfollowed := true, recurses := true, apart := false, narrowed := true }
def CotOpensUptoSaid : Prop := cotOpensUptoRow.holds Try.pinned (OpenSpec.upto cotOpensSpec)

/-- 'trefoillaw19.CotBlind', WHERE WHAT IT READS IS OF BULK AT MOST 1048576: true; the input reads as it did. -/
def cotBlindUptoRow : OpenClaim := { program := "ytjilenmngokhpaa", sum := "d2b278fc2adbd196a02d8b6860251f1a3b538e46557306b39d07b0ff819089df", func := "trefoil/trefoillaw19.CotBlind", spec := "cotBlind", unfollowed := true, recurses := true, apart := false, narrowed := true }
def CotBlindUptoSaid : Prop := cotBlindUptoRow.holds Try.pinned (OpenSpec.upto cotBlindSpec)

/-- 'trefoillaw17.IknpSends', WHERE WHAT IT READS IS OF BULK AT MOST 1048576: true; the input reads as it did. -/
def iknpSendsUptoRow : OpenClaim := { program := "ytjilenmngokhpaa", sum := "d2b278fc2adbd196a02d8b6860251f1a3b538e46557306b39d07b0ff819089df", func := "trefoil/trefoillaw17.IknpSends", spec := "iknpSends", unfollowed := true, recurses := true, apart := false, narrowed := true }
def IknpSendsUptoSaid : Prop := iknpSendsUptoRow.holds Try.pinned (OpenSpec.upto iknpSendsSpec)

/-- 'trefoillaw17.IknpReceives', WHERE WHAT IT READS IS OF BULK AT MOST 1048576: true; the input reads as it did. -/
def iknpReceivesUptoRow : OpenClaim := { program := "ytjilenmngokhpaa", sum := "d2b278fc2adbd196a02d8b6860251f1a3b538e46557306b39d07b0ff819089df", func := "trefoil/trefoillaw17.IknpReceives", spec := "iknpReceives", unfollowed := true, recurses := true, apart := false, narrowed := true }
def IknpReceivesUptoSaid : Prop := iknpReceivesUptoRow.holds Try.pinned (OpenSpec.upto iknpReceivesSpec)

/-- 'trefoillaw17.IknpJoins', WHERE WHAT IT READS IS OF BULK AT MOST 1048576: true; the input reads as it did. -/
def iknpJoinsUptoRow : OpenClaim := { program := "ytjilenmngokhpaa", sum := "d2b278fc2adbd196a02d8b6860251f1a3b538e46557306b39d07b0ff819089df", func := "trefoil/trefoillaw17.IknpJoins", spec := "iknpJoins", unfollowed := true, recurses := true, apart := false, narrowed := true }
def IknpJoinsUptoSaid : Prop := iknpJoinsUptoRow.holds Try.pinned (OpenSpec.upto iknpJoinsSpec)

/-- 'trefoillaw17.IknpTells', WHERE WHAT IT READS IS OF BULK AT MOST 1048576: true; the input reads as it did. -/
def iknpTellsUptoRow : OpenClaim := { program := "ytjilenmngokhpaa", sum := "d2b278fc2adbd196a02d8b6860251f1a3b538e46557306b39d07b0ff819089df", func := "trefoil/trefoillaw17.IknpTells", spec := "iknpTells", unfollowed := true, recurses := true, apart := false, narrowed := true }
def IknpTellsUptoSaid : Prop := iknpTellsUptoRow.holds Try.pinned (OpenSpec.upto iknpTellsSpec)

end Rows
end Go.Proofs.Ytjilenmngokhpaa
