/-
  No cell of these rows narrows 'for every input' (looked for: loops, veiled, ifaces, maps, wideKeys, modest, calm, conditions, laid).
  DERIVED. THE GIVEN ROWS OF THIS SEAT. 11 by the template 'for every input the law returns true; each argument reads behind the call as it read before'; 0 by the template 'total and deterministic' (their statements: YthljgbohdfpleaaTotals.lean).
  GIVEN WITH THE SEED: the statements are not yours to turn. If you find one false, say at which input.
  Laid BY PROGRAM, IN A SANDBOX (cutbox-rows.mjs): the forced cells as the released guide's own fill.sh prints them over the translation b7aa6781efee83d1… (all of the seat's roots in one cut). By AI agents, Wed Nov 11 2026. No macro, syntax, notation, axiom, sorry.
-/
import Derived.Test.YthljgbohdfpleaaChecked
import GoSem.Claim
import GoSem.ClaimJoined
import GoSem.ClaimMapViews
import Derived.JoinedTies
import Derived.KernelRfl
namespace Go.Proofs.Ythljgbohdfpleaa
/- THE CELL 'sum', in the pinned program and in every row, IS THE sha256 OF THE DUMP (.gsa) THAT YthljgbohdfpleaaProg.lean LOADS. Nothing in Lean hashes anything: it is a label: what it is worth is what the hold of that sum in a sandbox is worth. -/
noncomputable def Try.pinned : Pinned := { name := "ythljgbohdfpleaa", sum := "b7aa6781efee83d15d0090957bdf150b502fc4fcb0ac2df54af875df28cf12b8", checked := Try.checked }
namespace Rows
def none {H : Type} : Left H := { results := [], args := [] }

/-- 'trefoillaw05.ChachaQuarter': WHATEVER THE INPUT: true; the input reads as it did. -/
def chachaQuarterSpec : ChangeSpec := { name := "chachaQuarter", fn := fun _ => fun
  | [d1, d2, d3, d4] => { results := [.lit (.bool true)], args := [d1, d2, d3, d4] }
  | _ => none }
def chachaQuarterRow : OpenClaim := { program := "ythljgbohdfpleaa", sum := "b7aa6781efee83d15d0090957bdf150b502fc4fcb0ac2df54af875df28cf12b8", func := "trefoil/trefoillaw05.ChachaQuarter", spec := "chachaQuarter", apart := false }
def ChachaQuarterSaid : Prop := chachaQuarterRow.holds Try.pinned (OpenSpec.ofChange chachaQuarterSpec)

/-- ITS FALSE NEIGHBOUR: 'it returns false'. Refute it at one input. -/
def chachaQuarterWrong : ChangeSpec := { name := "chachaQuarter", fn := fun _ => fun
  | [d1, d2, d3, d4] => { results := [.lit (.bool false)], args := [d1, d2, d3, d4] }
  | _ => none }
def ChachaQuarterWrongFalsely : Prop := chachaQuarterRow.holds Try.pinned (OpenSpec.ofChange chachaQuarterWrong)

/-- 'trefoillaw03.RingInverse': WHATEVER THE INPUT: true; the input reads as it did. -/
def ringInverseSpec : ChangeSpec := { name := "ringInverse", fn := fun _ => fun
  | [d1, d2] => { results := [.lit (.bool true)], args := [d1, d2] }
  | _ => none }
def ringInverseRow : OpenClaim := { program := "ythljgbohdfpleaa", sum := "b7aa6781efee83d15d0090957bdf150b502fc4fcb0ac2df54af875df28cf12b8", func := "trefoil/trefoillaw03.RingInverse", spec := "ringInverse", apart := false }
def RingInverseSaid : Prop := ringInverseRow.holds Try.pinned (OpenSpec.ofChange ringInverseSpec)

/-- ITS FALSE NEIGHBOUR: 'it returns false'. Refute it at one input. -/
def ringInverseWrong : ChangeSpec := { name := "ringInverse", fn := fun _ => fun
  | [d1, d2] => { results := [.lit (.bool false)], args := [d1, d2] }
  | _ => none }
def RingInverseWrongFalsely : Prop := ringInverseRow.holds Try.pinned (OpenSpec.ofChange ringInverseWrong)

/-- 'trefoillaw05.ChachaNonces': WHATEVER THE INPUT: true; the input reads as it did. -/
def chachaNoncesSpec : ChangeSpec := { name := "chachaNonces", fn := fun _ => fun
  | [d1, d2] => { results := [.lit (.bool true)], args := [d1, d2] }
  | _ => none }
def chachaNoncesRow : OpenClaim := { program := "ythljgbohdfpleaa", sum := "b7aa6781efee83d15d0090957bdf150b502fc4fcb0ac2df54af875df28cf12b8", func := "trefoil/trefoillaw05.ChachaNonces", spec := "chachaNonces", apart := false }
def ChachaNoncesSaid : Prop := chachaNoncesRow.holds Try.pinned (OpenSpec.ofChange chachaNoncesSpec)

/-- ITS FALSE NEIGHBOUR: 'it returns false'. Refute it at one input. -/
def chachaNoncesWrong : ChangeSpec := { name := "chachaNonces", fn := fun _ => fun
  | [d1, d2] => { results := [.lit (.bool false)], args := [d1, d2] }
  | _ => none }
def ChachaNoncesWrongFalsely : Prop := chachaNoncesRow.holds Try.pinned (OpenSpec.ofChange chachaNoncesWrong)

/-- 'trefoillaw03.RingBits': WHATEVER THE INPUT: true; the input reads as it did. -/
def ringBitsSpec : ChangeSpec := { name := "ringBits", fn := fun _ => fun
  | [d1, d2] => { results := [.lit (.bool true)], args := [d1, d2] }
  | _ => none }
def ringBitsRow : OpenClaim := { program := "ythljgbohdfpleaa", sum := "b7aa6781efee83d15d0090957bdf150b502fc4fcb0ac2df54af875df28cf12b8", func := "trefoil/trefoillaw03.RingBits", spec := "ringBits", apart := false }
def RingBitsSaid : Prop := ringBitsRow.holds Try.pinned (OpenSpec.ofChange ringBitsSpec)

/-- ITS FALSE NEIGHBOUR: 'it returns false'. Refute it at one input. -/
def ringBitsWrong : ChangeSpec := { name := "ringBits", fn := fun _ => fun
  | [d1, d2] => { results := [.lit (.bool false)], args := [d1, d2] }
  | _ => none }
def RingBitsWrongFalsely : Prop := ringBitsRow.holds Try.pinned (OpenSpec.ofChange ringBitsWrong)

/-- 'trefoillaw03.RingReckons': WHATEVER THE INPUT: true; the input reads as it did. -/
def ringReckonsSpec : ChangeSpec := { name := "ringReckons", fn := fun _ => fun
  | [d1, d2, d3, d4] => { results := [.lit (.bool true)], args := [d1, d2, d3, d4] }
  | _ => none }
def ringReckonsRow : OpenClaim := { program := "ythljgbohdfpleaa", sum := "b7aa6781efee83d15d0090957bdf150b502fc4fcb0ac2df54af875df28cf12b8", func := "trefoil/trefoillaw03.RingReckons", spec := "ringReckons", unfollowed := true, recurses := true, apart := false }
def RingReckonsSaid : Prop := ringReckonsRow.holds Try.pinned (OpenSpec.ofChange ringReckonsSpec)

/-- ITS FALSE NEIGHBOUR: 'it returns false'. Refute it at one input. -/
def ringReckonsWrong : ChangeSpec := { name := "ringReckons", fn := fun _ => fun
  | [d1, d2, d3, d4] => { results := [.lit (.bool false)], args := [d1, d2, d3, d4] }
  | _ => none }
def RingReckonsWrongFalsely : Prop := ringReckonsRow.holds Try.pinned (OpenSpec.ofChange ringReckonsWrong)

/-- 'trefoillaw03.RingMatrix': WHATEVER THE INPUT: true; the input reads as it did. -/
def ringMatrixSpec : ChangeSpec := { name := "ringMatrix", fn := fun _ => fun
  | [d1, d2, d3, d4, d5, d6] => { results := [.lit (.bool true)], args := [d1, d2, d3, d4, d5, d6] }
  | _ => none }
def ringMatrixRow : OpenClaim := { program := "ythljgbohdfpleaa", sum := "b7aa6781efee83d15d0090957bdf150b502fc4fcb0ac2df54af875df28cf12b8", func := "trefoil/trefoillaw03.RingMatrix", spec := "ringMatrix", apart := false }
def RingMatrixSaid : Prop := ringMatrixRow.holds Try.pinned (OpenSpec.ofChange ringMatrixSpec)

/-- ITS FALSE NEIGHBOUR: 'it returns false'. Refute it at one input. -/
def ringMatrixWrong : ChangeSpec := { name := "ringMatrix", fn := fun _ => fun
  | [d1, d2, d3, d4, d5, d6] => { results := [.lit (.bool false)], args := [d1, d2, d3, d4, d5, d6] }
  | _ => none }
def RingMatrixWrongFalsely : Prop := ringMatrixRow.holds Try.pinned (OpenSpec.ofChange ringMatrixWrong)

/-- 'trefoillaw03.RingSpread': WHATEVER THE INPUT: true; the input reads as it did. -/
def ringSpreadSpec : ChangeSpec := { name := "ringSpread", fn := fun _ => fun
  | [d1, d2, d3, d4, d5, d6, d7] => { results := [.lit (.bool true)], args := [d1, d2, d3, d4, d5, d6, d7] }
  | _ => none }
def ringSpreadRow : OpenClaim := { program := "ythljgbohdfpleaa", sum := "b7aa6781efee83d15d0090957bdf150b502fc4fcb0ac2df54af875df28cf12b8", func := "trefoil/trefoillaw03.RingSpread", spec := "ringSpread", unfollowed := true, recurses := true, apart := false }
def RingSpreadSaid : Prop := ringSpreadRow.holds Try.pinned (OpenSpec.ofChange ringSpreadSpec)

/-- ITS FALSE NEIGHBOUR: 'it returns false'. Refute it at one input. -/
def ringSpreadWrong : ChangeSpec := { name := "ringSpread", fn := fun _ => fun
  | [d1, d2, d3, d4, d5, d6, d7] => { results := [.lit (.bool false)], args := [d1, d2, d3, d4, d5, d6, d7] }
  | _ => none }
def RingSpreadWrongFalsely : Prop := ringSpreadRow.holds Try.pinned (OpenSpec.ofChange ringSpreadWrong)

/-- 'trefoillaw05.ChachaBlocks': WHATEVER THE INPUT: true; the input reads as it did. -/
def chachaBlocksSpec : ChangeSpec := { name := "chachaBlocks", fn := fun _ => fun
  | [d1, d2, d3] => { results := [.lit (.bool true)], args := [d1, d2, d3] }
  | _ => none }
def chachaBlocksRow : OpenClaim := { program := "ythljgbohdfpleaa", sum := "b7aa6781efee83d15d0090957bdf150b502fc4fcb0ac2df54af875df28cf12b8", func := "trefoil/trefoillaw05.ChachaBlocks", spec := "chachaBlocks", apart := false }
def ChachaBlocksSaid : Prop := chachaBlocksRow.holds Try.pinned (OpenSpec.ofChange chachaBlocksSpec)

/-- ITS FALSE NEIGHBOUR: 'it returns false'. Refute it at one input. -/
def chachaBlocksWrong : ChangeSpec := { name := "chachaBlocks", fn := fun _ => fun
  | [d1, d2, d3] => { results := [.lit (.bool false)], args := [d1, d2, d3] }
  | _ => none }
def ChachaBlocksWrongFalsely : Prop := chachaBlocksRow.holds Try.pinned (OpenSpec.ofChange chachaBlocksWrong)

/-- 'trefoillaw03.RingLists': WHATEVER THE INPUT: true; the input reads as it did. -/
def ringListsSpec : ChangeSpec := { name := "ringLists", fn := fun _ => fun
  | [d1, d2, d3, d4] => { results := [.lit (.bool true)], args := [d1, d2, d3, d4] }
  | _ => none }
def ringListsRow : OpenClaim := { program := "ythljgbohdfpleaa", sum := "b7aa6781efee83d15d0090957bdf150b502fc4fcb0ac2df54af875df28cf12b8", func := "trefoil/trefoillaw03.RingLists", spec := "ringLists", unfollowed := true, recurses := true, apart := false }
def RingListsSaid : Prop := ringListsRow.holds Try.pinned (OpenSpec.ofChange ringListsSpec)

/-- ITS FALSE NEIGHBOUR: 'it returns false'. Refute it at one input. -/
def ringListsWrong : ChangeSpec := { name := "ringLists", fn := fun _ => fun
  | [d1, d2, d3, d4] => { results := [.lit (.bool false)], args := [d1, d2, d3, d4] }
  | _ => none }
def RingListsWrongFalsely : Prop := ringListsRow.holds Try.pinned (OpenSpec.ofChange ringListsWrong)

/-- 'trefoillaw05.ChachaGoesOn': WHATEVER THE INPUT: true; the input reads as it did. -/
def chachaGoesOnSpec : ChangeSpec := { name := "chachaGoesOn", fn := fun _ => fun
  | [d1, d2, d3, d4, d5] => { results := [.lit (.bool true)], args := [d1, d2, d3, d4, d5] }
  | _ => none }
def chachaGoesOnRow : OpenClaim := { program := "ythljgbohdfpleaa", sum := "b7aa6781efee83d15d0090957bdf150b502fc4fcb0ac2df54af875df28cf12b8", func := "trefoil/trefoillaw05.ChachaGoesOn", spec := "chachaGoesOn", apart := false }
def ChachaGoesOnSaid : Prop := chachaGoesOnRow.holds Try.pinned (OpenSpec.ofChange chachaGoesOnSpec)

/-- ITS FALSE NEIGHBOUR: 'it returns false'. Refute it at one input. -/
def chachaGoesOnWrong : ChangeSpec := { name := "chachaGoesOn", fn := fun _ => fun
  | [d1, d2, d3, d4, d5] => { results := [.lit (.bool false)], args := [d1, d2, d3, d4, d5] }
  | _ => none }
def ChachaGoesOnWrongFalsely : Prop := chachaGoesOnRow.holds Try.pinned (OpenSpec.ofChange chachaGoesOnWrong)

/-- 'trefoillaw05.ChachaStreams': WHATEVER THE INPUT: true; the input reads as it did. -/
def chachaStreamsSpec : ChangeSpec := { name := "chachaStreams", fn := fun _ => fun
  | [d1, d2, d3, d4, d5] => { results := [.lit (.bool true)], args := [d1, d2, d3, d4, d5] }
  | _ => none }
def chachaStreamsRow : OpenClaim := { program := "ythljgbohdfpleaa", sum := "b7aa6781efee83d15d0090957bdf150b502fc4fcb0ac2df54af875df28cf12b8", func := "trefoil/trefoillaw05.ChachaStreams", spec := "chachaStreams", apart := false }
def ChachaStreamsSaid : Prop := chachaStreamsRow.holds Try.pinned (OpenSpec.ofChange chachaStreamsSpec)

/-- ITS FALSE NEIGHBOUR: 'it returns false'. Refute it at one input. -/
def chachaStreamsWrong : ChangeSpec := { name := "chachaStreams", fn := fun _ => fun
  | [d1, d2, d3, d4, d5] => { results := [.lit (.bool false)], args := [d1, d2, d3, d4, d5] }
  | _ => none }
def ChachaStreamsWrongFalsely : Prop := chachaStreamsRow.holds Try.pinned (OpenSpec.ofChange chachaStreamsWrong)

/- THE SECOND FORM. 'bulk': how many values and letters a reading holds, each counted each time it is reached (what is shared counts as often as it is met; a slice's spare places count too). A statement '..UptoSaid' is the law's where the arguments, and the package variables that the reading takes, are together of bulk at most 1048576: NARROWER than '..Said'. Prove '..Said' where nothing that the law and all that it calls make is longer than what came in: it says more and counts as full. Else prove '..UptoSaid'. A law counts once. -/
mutual
def uptoBulk {H : Type} : DataW H → Nat
  | .lit (.string bytes) => bytes.length + 1
  | .lit _ => 1
  | .nil => 1
  | .ptr d => uptoBulk d + 1
  | .slice elems spare => uptoBulkAll elems + uptoBulkAll spare + 1
  | .agg parts => uptoBulkAll parts + 1
  | .iface _ d => uptoBulk d + 1
  | .map entries => uptoBulkEntries entries + 1
  | .held _ => 1
def uptoBulkAll {H : Type} : List (DataW H) → Nat
  | [] => 0
  | d :: r => uptoBulk d + uptoBulkAll r
def uptoBulkEntries {H : Type} : List (Lit × DataW H) → Nat
  | [] => 0
  | x :: r => uptoBulkEntry x + uptoBulkEntries r
def uptoBulkEntry {H : Type} : Lit × DataW H → Nat
  | (.string bytes, d) => bytes.length + uptoBulk d + 1
  | (_, d) => uptoBulk d + 1
 end
def uptoSmall : (H : Type) → List (DataW H) → Bool := fun _ ds => decide (uptoBulkAll ds ≤ 1048576)
def OpenSpec.upto (s : _root_.Go.ChangeSpec) : _root_.Go.OpenSpec := { _root_.Go.OpenSpec.ofChange s with cond := some uptoSmall }

/-- 'trefoillaw05.ChachaQuarter', WHERE WHAT IT READS IS OF BULK AT MOST 1048576: true; the input reads as it did. -/
def chachaQuarterUptoRow : OpenClaim := { program := "ythljgbohdfpleaa", sum := "b7aa6781efee83d15d0090957bdf150b502fc4fcb0ac2df54af875df28cf12b8", func := "trefoil/trefoillaw05.ChachaQuarter", spec := "chachaQuarter", apart := false, narrowed := true }
def ChachaQuarterUptoSaid : Prop := chachaQuarterUptoRow.holds Try.pinned (OpenSpec.upto chachaQuarterSpec)

/-- 'trefoillaw03.RingInverse', WHERE WHAT IT READS IS OF BULK AT MOST 1048576: true; the input reads as it did. -/
def ringInverseUptoRow : OpenClaim := { program := "ythljgbohdfpleaa", sum := "b7aa6781efee83d15d0090957bdf150b502fc4fcb0ac2df54af875df28cf12b8", func := "trefoil/trefoillaw03.RingInverse", spec := "ringInverse", apart := false, narrowed := true }
def RingInverseUptoSaid : Prop := ringInverseUptoRow.holds Try.pinned (OpenSpec.upto ringInverseSpec)

/-- 'trefoillaw05.ChachaNonces', WHERE WHAT IT READS IS OF BULK AT MOST 1048576: true; the input reads as it did. -/
def chachaNoncesUptoRow : OpenClaim := { program := "ythljgbohdfpleaa", sum := "b7aa6781efee83d15d0090957bdf150b502fc4fcb0ac2df54af875df28cf12b8", func := "trefoil/trefoillaw05.ChachaNonces", spec := "chachaNonces", apart := false, narrowed := true }
def ChachaNoncesUptoSaid : Prop := chachaNoncesUptoRow.holds Try.pinned (OpenSpec.upto chachaNoncesSpec)

/-- 'trefoillaw03.RingBits', WHERE WHAT IT READS IS OF BULK AT MOST 1048576: true; the input reads as it did. -/
def ringBitsUptoRow : OpenClaim := { program := "ythljgbohdfpleaa", sum := "b7aa6781efee83d15d0090957bdf150b502fc4fcb0ac2df54af875df28cf12b8", func := "trefoil/trefoillaw03.RingBits", spec := "ringBits", apart := false, narrowed := true }
def RingBitsUptoSaid : Prop := ringBitsUptoRow.holds Try.pinned (OpenSpec.upto ringBitsSpec)

/-- 'trefoillaw03.RingReckons', WHERE WHAT IT READS IS OF BULK AT MOST 1048576: true; the input reads as it did. -/
def ringReckonsUptoRow : OpenClaim := { program := "ythljgbohdfpleaa", sum := "b7aa6781efee83d15d0090957bdf150b502fc4fcb0ac2df54af875df28cf12b8", func := "trefoil/trefoillaw03.RingReckons", spec := "ringReckons", unfollowed := true, recurses := true, apart := false, narrowed := true }
def RingReckonsUptoSaid : Prop := ringReckonsUptoRow.holds Try.pinned (OpenSpec.upto ringReckonsSpec)

/-- 'trefoillaw03.RingMatrix', WHERE WHAT IT READS IS OF BULK AT MOST 1048576: true; the input reads as it did. -/
def ringMatrixUptoRow : OpenClaim := { program := "ythljgbohdfpleaa", sum := "b7aa6781efee83d15d0090957bdf150b502fc4fcb0ac2df54af875df28cf12b8", func := "trefoil/trefoillaw03.RingMatrix", spec := "ringMatrix", apart := false, narrowed := true }
def RingMatrixUptoSaid : Prop := ringMatrixUptoRow.holds Try.pinned (OpenSpec.upto ringMatrixSpec)

/-- 'trefoillaw03.RingSpread', WHERE WHAT IT READS IS OF BULK AT MOST 1048576: true; the input reads as it did. -/
def ringSpreadUptoRow : OpenClaim := { program := "ythljgbohdfpleaa", sum := "b7aa6781efee83d15d0090957bdf150b502fc4fcb0ac2df54af875df28cf12b8", func := "trefoil/trefoillaw03.RingSpread", spec := "ringSpread", unfollowed := true, recurses := true, apart := false, narrowed := true }
def RingSpreadUptoSaid : Prop := ringSpreadUptoRow.holds Try.pinned (OpenSpec.upto ringSpreadSpec)

/-- 'trefoillaw05.ChachaBlocks', WHERE WHAT IT READS IS OF BULK AT MOST 1048576: true; the input reads as it did. -/
def chachaBlocksUptoRow : OpenClaim := { program := "ythljgbohdfpleaa", sum := "b7aa6781efee83d15d0090957bdf150b502fc4fcb0ac2df54af875df28cf12b8", func := "trefoil/trefoillaw05.ChachaBlocks", spec := "chachaBlocks", apart := false, narrowed := true }
def ChachaBlocksUptoSaid : Prop := chachaBlocksUptoRow.holds Try.pinned (OpenSpec.upto chachaBlocksSpec)

/-- 'trefoillaw03.RingLists', WHERE WHAT IT READS IS OF BULK AT MOST 1048576: true; the input reads as it did. -/
def ringListsUptoRow : OpenClaim := { program := "ythljgbohdfpleaa", sum := "b7aa6781efee83d15d0090957bdf150b502fc4fcb0ac2df54af875df28cf12b8", func := "trefoil/trefoillaw03.RingLists", spec := "ringLists", unfollowed := true, recurses := true, apart := false, narrowed := true }
def RingListsUptoSaid : Prop := ringListsUptoRow.holds Try.pinned (OpenSpec.upto ringListsSpec)

/-- 'trefoillaw05.ChachaGoesOn', WHERE WHAT IT READS IS OF BULK AT MOST 1048576: true; the input reads as it did. -/
def chachaGoesOnUptoRow : OpenClaim := { program := "ythljgbohdfpleaa", sum := "b7aa6781efee83d15d0090957bdf150b502fc4fcb0ac2df54af875df28cf12b8", func := "trefoil/trefoillaw05.ChachaGoesOn", spec := "chachaGoesOn", apart := false, narrowed := true }
def ChachaGoesOnUptoSaid : Prop := chachaGoesOnUptoRow.holds Try.pinned (OpenSpec.upto chachaGoesOnSpec)

/-- 'trefoillaw05.ChachaStreams', WHERE WHAT IT READS IS OF BULK AT MOST 1048576: true; the input reads as it did. -/
def chachaStreamsUptoRow : OpenClaim := { program := "ythljgbohdfpleaa", sum := "b7aa6781efee83d15d0090957bdf150b502fc4fcb0ac2df54af875df28cf12b8", func := "trefoil/trefoillaw05.ChachaStreams", spec := "chachaStreams", apart := false, narrowed := true }
def ChachaStreamsUptoSaid : Prop := chachaStreamsUptoRow.holds Try.pinned (OpenSpec.upto chachaStreamsSpec)

end Rows
end Go.Proofs.Ythljgbohdfpleaa
