/-
  NARROWER THAN 'FOR EVERY INPUT', by the rows' own cells (each row's printed sentence says how): CommitSums: laid · CommitBoxes: laid · CommitNobody: laid · TossNobody: laid · TossSides: laid · TossFair: laid.
  DERIVED. THE GIVEN ROWS OF THIS SEAT. 6 by the template 'for every input the law returns true; each argument reads behind the call as it read before'; 0 by the template 'total and deterministic' (their statements: YtajkclooknanjaaDoorTotals.lean).
  GIVEN WITH THE SEED: the statements are not yours to turn. If you find one false, say at which input.
  Laid BY PROGRAM, IN A SANDBOX (cutbox-rows.mjs): the forced cells as the released guide's own fill.sh prints them over the translation 3c18bc129b52a57e… (all of the seat's roots in one cut). By AI agents, Wed Nov 11 2026. No macro, syntax, notation, axiom, sorry.
-/
import Derived.Test.YtajkclooknanjaaDoorChecked
import GoSem.Claim
import GoSem.ClaimJoined
import GoSem.ClaimMapViews
import Derived.JoinedTies
import Derived.KernelRfl
namespace Go.Proofs.YtajkclooknanjaaDoor
/- THE CELL 'sum', in the pinned program and in every row, IS THE sha256 OF THE DUMP (.gsa) THAT YtajkclooknanjaaDoorProg.lean LOADS. Nothing in Lean hashes anything: it is a label: what it is worth is what the hold of that sum in a sandbox is worth. -/
noncomputable def Tryd.pinned : Pinned := { name := "ytajkclooknanjaadoor", sum := "3c18bc129b52a57e96e2a76d2eb98877f00b245e3ea7ae3beda2258e6eae4f6d", checked := Tryd.checked }
namespace Rows
def none {H : Type} : Left H := { results := [], args := [] }

/- WHAT THE LISTED PACKAGE-LEVEL VARIABLES READ AS WHEN THE CALL BEGINS. Each datum BY PROGRAM (the guide's laid-datum.mjs) off the statement by which the dump's own 'gosem.cut.vars' lays the variable. In a bare row this is a premise. The card (YtajkclooknanjaaDoorCards.lean) ties it to the program's text. -/
def laid_trefoil_sha_rounds {H : Type} : DataW H := .agg [.lit (.int .u32 1116352408), .lit (.int .u32 1899447441), .lit (.int .u32 3049323471), .lit (.int .u32 3921009573), .lit (.int .u32 961987163), .lit (.int .u32 1508970993), .lit (.int .u32 2453635748), .lit (.int .u32 2870763221), .lit (.int .u32 3624381080), .lit (.int .u32 310598401), .lit (.int .u32 607225278), .lit (.int .u32 1426881987), .lit (.int .u32 1925078388), .lit (.int .u32 2162078206), .lit (.int .u32 2614888103), .lit (.int .u32 3248222580), .lit (.int .u32 3835390401), .lit (.int .u32 4022224774), .lit (.int .u32 264347078), .lit (.int .u32 604807628), .lit (.int .u32 770255983), .lit (.int .u32 1249150122), .lit (.int .u32 1555081692), .lit (.int .u32 1996064986), .lit (.int .u32 2554220882), .lit (.int .u32 2821834349), .lit (.int .u32 2952996808), .lit (.int .u32 3210313671), .lit (.int .u32 3336571891), .lit (.int .u32 3584528711), .lit (.int .u32 113926993), .lit (.int .u32 338241895), .lit (.int .u32 666307205), .lit (.int .u32 773529912), .lit (.int .u32 1294757372), .lit (.int .u32 1396182291), .lit (.int .u32 1695183700), .lit (.int .u32 1986661051), .lit (.int .u32 2177026350), .lit (.int .u32 2456956037), .lit (.int .u32 2730485921), .lit (.int .u32 2820302411), .lit (.int .u32 3259730800), .lit (.int .u32 3345764771), .lit (.int .u32 3516065817), .lit (.int .u32 3600352804), .lit (.int .u32 4094571909), .lit (.int .u32 275423344), .lit (.int .u32 430227734), .lit (.int .u32 506948616), .lit (.int .u32 659060556), .lit (.int .u32 883997877), .lit (.int .u32 958139571), .lit (.int .u32 1322822218), .lit (.int .u32 1537002063), .lit (.int .u32 1747873779), .lit (.int .u32 1955562222), .lit (.int .u32 2024104815), .lit (.int .u32 2227730452), .lit (.int .u32 2361852424), .lit (.int .u32 2428436474), .lit (.int .u32 2756734187), .lit (.int .u32 3204031479), .lit (.int .u32 3329325298)]

/-- 'trefoillaw27.CommitSums': WHATEVER THE INPUT: true; the input reads as it did. -/
def commitSumsSpec : ChangeSpec := { name := "commitSums", fn := fun _ => fun
  | [d1, d2, d3, d4, d5] => { results := [.lit (.bool true)], args := [d1, d2, d3, d4, d5] }
  | _ => none }
def commitSumsRow : OpenClaim := { program := "ytajkclooknanjaadoor", sum := "3c18bc129b52a57e96e2a76d2eb98877f00b245e3ea7ae3beda2258e6eae4f6d", func := "trefoil/trefoillaw27.CommitSums", spec := "commitSums", unfollowed := true, recurses := true, named := ["trefoil/sha.rounds"], apart := false, laid := [("trefoil/sha.rounds", laid_trefoil_sha_rounds)] }
def CommitSumsSaid : Prop := commitSumsRow.holds Tryd.pinned (OpenSpec.ofChange commitSumsSpec)

/-- ITS FALSE NEIGHBOUR: 'it returns false'. Refute it at one input. -/
def commitSumsWrong : ChangeSpec := { name := "commitSums", fn := fun _ => fun
  | [d1, d2, d3, d4, d5] => { results := [.lit (.bool false)], args := [d1, d2, d3, d4, d5] }
  | _ => none }
def CommitSumsWrongFalsely : Prop := commitSumsRow.holds Tryd.pinned (OpenSpec.ofChange commitSumsWrong)

/-- 'trefoillaw27.CommitBoxes': WHATEVER THE INPUT: true; the input reads as it did. -/
def commitBoxesSpec : ChangeSpec := { name := "commitBoxes", fn := fun _ => fun
  | [d] => { results := [.lit (.bool true)], args := [d] }
  | _ => none }
def commitBoxesRow : OpenClaim := { program := "ytajkclooknanjaadoor", sum := "3c18bc129b52a57e96e2a76d2eb98877f00b245e3ea7ae3beda2258e6eae4f6d", func := "trefoil/trefoillaw27.CommitBoxes", spec := "commitBoxes", unfollowed := true, recurses := true, named := ["trefoil/sha.rounds"], apart := false, laid := [("trefoil/sha.rounds", laid_trefoil_sha_rounds)] }
def CommitBoxesSaid : Prop := commitBoxesRow.holds Tryd.pinned (OpenSpec.ofChange commitBoxesSpec)

/-- ITS FALSE NEIGHBOUR: 'it returns false'. Refute it at one input. -/
def commitBoxesWrong : ChangeSpec := { name := "commitBoxes", fn := fun _ => fun
  | [d] => { results := [.lit (.bool false)], args := [d] }
  | _ => none }
def CommitBoxesWrongFalsely : Prop := commitBoxesRow.holds Tryd.pinned (OpenSpec.ofChange commitBoxesWrong)

/-- 'trefoillaw27.CommitNobody': WHATEVER THE INPUT: true; the input reads as it did. -/
def commitNobodySpec : ChangeSpec := { name := "commitNobody", fn := fun _ => fun
  | [d1, d2] => { results := [.lit (.bool true)], args := [d1, d2] }
  | _ => none }
def commitNobodyRow : OpenClaim := { program := "ytajkclooknanjaadoor", sum := "3c18bc129b52a57e96e2a76d2eb98877f00b245e3ea7ae3beda2258e6eae4f6d", func := "trefoil/trefoillaw27.CommitNobody", spec := "commitNobody", unfollowed := true, recurses := true, named := ["trefoil/sha.rounds"], apart := false, laid := [("trefoil/sha.rounds", laid_trefoil_sha_rounds)] }
def CommitNobodySaid : Prop := commitNobodyRow.holds Tryd.pinned (OpenSpec.ofChange commitNobodySpec)

/-- ITS FALSE NEIGHBOUR: 'it returns false'. Refute it at one input. -/
def commitNobodyWrong : ChangeSpec := { name := "commitNobody", fn := fun _ => fun
  | [d1, d2] => { results := [.lit (.bool false)], args := [d1, d2] }
  | _ => none }
def CommitNobodyWrongFalsely : Prop := commitNobodyRow.holds Tryd.pinned (OpenSpec.ofChange commitNobodyWrong)

/-- 'trefoillaw28.TossNobody': WHATEVER THE INPUT: true; the input reads as it did. -/
def tossNobodySpec : ChangeSpec := { name := "tossNobody", fn := fun _ => fun
  | [d1, d2] => { results := [.lit (.bool true)], args := [d1, d2] }
  | _ => none }
def tossNobodyRow : OpenClaim := { program := "ytajkclooknanjaadoor", sum := "3c18bc129b52a57e96e2a76d2eb98877f00b245e3ea7ae3beda2258e6eae4f6d", func := "trefoil/trefoillaw28.TossNobody", spec := "tossNobody", unfollowed := true, recurses := true, named := ["trefoil/sha.rounds"], apart := false, laid := [("trefoil/sha.rounds", laid_trefoil_sha_rounds)] }
def TossNobodySaid : Prop := tossNobodyRow.holds Tryd.pinned (OpenSpec.ofChange tossNobodySpec)

/-- ITS FALSE NEIGHBOUR: 'it returns false'. Refute it at one input. -/
def tossNobodyWrong : ChangeSpec := { name := "tossNobody", fn := fun _ => fun
  | [d1, d2] => { results := [.lit (.bool false)], args := [d1, d2] }
  | _ => none }
def TossNobodyWrongFalsely : Prop := tossNobodyRow.holds Tryd.pinned (OpenSpec.ofChange tossNobodyWrong)

/-- 'trefoillaw28.TossSides': WHATEVER THE INPUT: true; the input reads as it did. -/
def tossSidesSpec : ChangeSpec := { name := "tossSides", fn := fun _ => fun
  | [d1, d2, d3, d4] => { results := [.lit (.bool true)], args := [d1, d2, d3, d4] }
  | _ => none }
def tossSidesRow : OpenClaim := { program := "ytajkclooknanjaadoor", sum := "3c18bc129b52a57e96e2a76d2eb98877f00b245e3ea7ae3beda2258e6eae4f6d", func := "trefoil/trefoillaw28.TossSides", spec := "tossSides", unfollowed := true, recurses := true, named := ["trefoil/sha.rounds"], apart := false, laid := [("trefoil/sha.rounds", laid_trefoil_sha_rounds)] }
def TossSidesSaid : Prop := tossSidesRow.holds Tryd.pinned (OpenSpec.ofChange tossSidesSpec)

/-- ITS FALSE NEIGHBOUR: 'it returns false'. Refute it at one input. -/
def tossSidesWrong : ChangeSpec := { name := "tossSides", fn := fun _ => fun
  | [d1, d2, d3, d4] => { results := [.lit (.bool false)], args := [d1, d2, d3, d4] }
  | _ => none }
def TossSidesWrongFalsely : Prop := tossSidesRow.holds Tryd.pinned (OpenSpec.ofChange tossSidesWrong)

/-- 'trefoillaw28.TossFair': WHATEVER THE INPUT: true; the input reads as it did. -/
def tossFairSpec : ChangeSpec := { name := "tossFair", fn := fun _ => fun
  | [d1, d2, d3] => { results := [.lit (.bool true)], args := [d1, d2, d3] }
  | _ => none }
def tossFairRow : OpenClaim := { program := "ytajkclooknanjaadoor", sum := "3c18bc129b52a57e96e2a76d2eb98877f00b245e3ea7ae3beda2258e6eae4f6d", func := "trefoil/trefoillaw28.TossFair", spec := "tossFair", unfollowed := true, recurses := true, named := ["trefoil/sha.rounds"], apart := false, laid := [("trefoil/sha.rounds", laid_trefoil_sha_rounds)] }
def TossFairSaid : Prop := tossFairRow.holds Tryd.pinned (OpenSpec.ofChange tossFairSpec)

/-- ITS FALSE NEIGHBOUR: 'it returns false'. Refute it at one input. -/
def tossFairWrong : ChangeSpec := { name := "tossFair", fn := fun _ => fun
  | [d1, d2, d3] => { results := [.lit (.bool false)], args := [d1, d2, d3] }
  | _ => none }
def TossFairWrongFalsely : Prop := tossFairRow.holds Tryd.pinned (OpenSpec.ofChange tossFairWrong)

/- THE SECOND FORM. 'bulk': how many values and letters a reading holds, each counted each time it is reached (what is shared counts as often as it is met; a slice's spare places count too). A statement '..UptoSaid' is the law's where the arguments, and the package variables that the reading takes, are together of bulk at most 1048576: NARROWER than '..Said'. Prove '..Said' where nothing that the law and all that it calls make is longer than what came in: it says more and counts as full. Else prove '..UptoSaid'. A law counts once. -/
mutual
def uptoBulk {H : Type} : DataW H → Nat
  | .lit (.string bytes) => bytes.length + 1
  | .lit _ => 1
  | .nil => 1
  | .ptr d => uptoBulk d + 1
  | .slice elems spare => uptoBulkAll elems + uptoBulkAll spare + 1
  | .agg parts => uptoBulkAll parts + 1
  | .iface _ d => uptoBulk d + 1
  | .map entries => uptoBulkEntries entries + 1
  | .held _ => 1
def uptoBulkAll {H : Type} : List (DataW H) → Nat
  | [] => 0
  | d :: r => uptoBulk d + uptoBulkAll r
def uptoBulkEntries {H : Type} : List (Lit × DataW H) → Nat
  | [] => 0
  | x :: r => uptoBulkEntry x + uptoBulkEntries r
def uptoBulkEntry {H : Type} : Lit × DataW H → Nat
  | (.string bytes, d) => bytes.length + uptoBulk d + 1
  | (_, d) => uptoBulk d + 1
 end
def uptoSmall : (H : Type) → List (DataW H) → Bool := fun _ ds => decide (uptoBulkAll ds ≤ 1048576)
def OpenSpec.upto (s : _root_.Go.ChangeSpec) : _root_.Go.OpenSpec := { _root_.Go.OpenSpec.ofChange s with cond := some uptoSmall }

/-- 'trefoillaw27.CommitSums', WHERE WHAT IT READS IS OF BULK AT MOST 1048576: true; the input reads as it did. -/
def commitSumsUptoRow : OpenClaim := { program := "ytajkclooknanjaadoor", sum := "3c18bc129b52a57e96e2a76d2eb98877f00b245e3ea7ae3beda2258e6eae4f6d", func := "trefoil/trefoillaw27.CommitSums", spec := "commitSums", unfollowed := true, recurses := true, named := ["trefoil/sha.rounds"], apart := false, laid := [("trefoil/sha.rounds", laid_trefoil_sha_rounds)], narrowed := true }
def CommitSumsUptoSaid : Prop := commitSumsUptoRow.holds Tryd.pinned (OpenSpec.upto commitSumsSpec)

/-- 'trefoillaw27.CommitBoxes', WHERE WHAT IT READS IS OF BULK AT MOST 1048576: true; the input reads as it did. -/
def commitBoxesUptoRow : OpenClaim := { program := "ytajkclooknanjaadoor", sum := "3c18bc129b52a57e96e2a76d2eb98877f00b245e3ea7ae3beda2258e6eae4f6d", func := "trefoil/trefoillaw27.CommitBoxes", spec := "commitBoxes", unfollowed := true, recurses := true, named := ["trefoil/sha.rounds"], apart := false, laid := [("trefoil/sha.rounds", laid_trefoil_sha_rounds)], narrowed := true }
def CommitBoxesUptoSaid : Prop := commitBoxesUptoRow.holds Tryd.pinned (OpenSpec.upto commitBoxesSpec)

/-- 'trefoillaw27.CommitNobody', WHERE WHAT IT READS IS OF BULK AT MOST 1048576: true; the input reads as it did. -/
def commitNobodyUptoRow : OpenClaim := { program := "ytajkclooknanjaadoor", sum := "3c18bc129b52a57e96e2a76d2eb98877f00b245e3ea7ae3beda2258e6eae4f6d", func := "trefoil/trefoillaw27.CommitNobody", spec := "commitNobody", unfollowed := true, recurses := true, named := ["trefoil/sha.rounds"], apart := false, laid := [("trefoil/sha.rounds", laid_trefoil_sha_rounds)], narrowed := true }
def CommitNobodyUptoSaid : Prop := commitNobodyUptoRow.holds Tryd.pinned (OpenSpec.upto commitNobodySpec)

/-- 'trefoillaw28.TossNobody', WHERE WHAT IT READS IS OF BULK AT MOST 1048576: true; the input reads as it did. -/
def tossNobodyUptoRow : OpenClaim := { program := "ytajkclooknanjaadoor", sum := "3c18bc129b52a57e96e2a76d2eb98877f00b245e3ea7ae3beda2258e6eae4f6d", func := "trefoil/trefoillaw28.TossNobody", spec := "tossNobody", unfollowed := true, recurses := true, named := ["trefoil/sha.rounds"], apart := false, laid := [("trefoil/sha.rounds", laid_trefoil_sha_rounds)], narrowed := true }
def TossNobodyUptoSaid : Prop := tossNobodyUptoRow.holds Tryd.pinned (OpenSpec.upto tossNobodySpec)

/-- 'trefoillaw28.TossSides', WHERE WHAT IT READS IS OF BULK AT MOST 1048576: true; the input reads as it did. -/
def tossSidesUptoRow : OpenClaim := { program := "ytajkclooknanjaadoor", sum := "3c18bc129b52a57e96e2a76d2eb98877f00b245e3ea7ae3beda2258e6eae4f6d", func := "trefoil/trefoillaw28.TossSides", spec := "tossSides", unfollowed := true, recurses := true, named := ["trefoil/sha.rounds"], apart := false, laid := [("trefoil/sha.rounds", laid_trefoil_sha_rounds)], narrowed := true }
def TossSidesUptoSaid : Prop := tossSidesUptoRow.holds Tryd.pinned (OpenSpec.upto tossSidesSpec)

/-- 'trefoillaw28.TossFair', WHERE WHAT IT READS IS OF BULK AT MOST 1048576: true; the input reads as it did. -/
def tossFairUptoRow : OpenClaim := { program := "ytajkclooknanjaadoor", sum := "3c18bc129b52a57e96e2a76d2eb98877f00b245e3ea7ae3beda2258e6eae4f6d", func := "trefoil/trefoillaw28.TossFair", spec := "tossFair", unfollowed := true, recurses := true, named := ["trefoil/sha.rounds"], apart := false, laid := [("trefoil/sha.rounds", laid_trefoil_sha_rounds)], narrowed := true }
def TossFairUptoSaid : Prop := tossFairUptoRow.holds Tryd.pinned (OpenSpec.upto tossFairSpec)

end Rows
end Go.Proofs.YtajkclooknanjaaDoor
