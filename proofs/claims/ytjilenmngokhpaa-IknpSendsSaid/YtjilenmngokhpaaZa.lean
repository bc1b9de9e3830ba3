/-
  Layer 15 (baseot), as the seat of layer 17 has it.
-/
import Derived.Test.YtjilenmngokhpaaYb
import Derived.Test.YtjilenmngokhpaaV38
import Derived.Test.YtjilenmngokhpaaV44
open Go Go.V
namespace Go.Proofs.Ytjilenmngokhpaa
set_option maxRecDepth 100000
set_option linter.unusedSimpArgs false
set_option linter.unusedVariables false
/-- trefoil/baseot.Deal (0:master, 1:epoch, 2:master, 4:, 5:, 6:root, 7:s0, 8:r1, 9:s1, 10:r0) -/
def s23 : FnS := ⟨32, [0, 1, 2, 4, 5, 6, 7, 8, 9, 10],
    (.seq (.reg [⟨.var 2, (.e (.box 46 (.arr 32 .leaf))), [.t 0], none⟩,
      ⟨.var 3, (.e (.alloc 62 (.st [(.st [(.arr 2 .leaf), .leaf]), (.st [.leaf, .leaf])]) (.agg [(.agg [(.agg [(.u64 0), (.u64 0)]), .nils]), (.agg [.nils, .nils])]))), [], none⟩,
      ⟨.var 4, (.e (.alloc 62 (.st [(.st [(.arr 2 .leaf), .leaf]), (.st [.leaf, .leaf])]) (.agg [(.agg [(.agg [(.u64 0), (.u64 0)]), .nils]), (.agg [.nils, .nils])]))), [], none⟩])
    (.seq (.reg [⟨.new, (.q (.ld (.arr 32 .leaf))), [.t 2], none⟩,
      ⟨.new, (.q .mv), [.t 1], none⟩,
      ⟨.new, (.call 50), [.t 10, .t 11], none⟩,
      ⟨.var 5, (.e (.alloc 46 (.arr 32 .leaf) (.agg [(.u8 0), (.u8 0), (.u8 0), (.u8 0), (.u8 0), (.u8 0), (.u8 0), (.u8 0), (.u8 0), (.u8 0), (.u8 0), (.u8 0), (.u8 0), (.u8 0), (.u8 0), (.u8 0), (.u8 0), (.u8 0), (.u8 0), (.u8 0), (.u8 0), (.u8 0), (.u8 0), (.u8 0), (.u8 0), (.u8 0), (.u8 0), (.u8 0), (.u8 0), (.u8 0), (.u8 0), (.u8 0)]))), [], none⟩,
      ⟨.none, (.e (.store (.arr 32 .leaf))), [.t 5, .t 12], none⟩])
    (.seq (.reg [⟨.new, (.q (.ld (.arr 32 .leaf))), [.t 5], none⟩,
      ⟨.new, (.call 50), [.t 10, .c (.u64 0)], none⟩,
      ⟨.new, (.call 51), [.t 11], none⟩,
      ⟨.new, (.q .mv), [.t 12], none⟩,
      ⟨.new, (.q (.ext 0)), [.t 13], none⟩,
      ⟨.new, (.q (.ext 1)), [.t 13], none⟩,
      ⟨.var 6, (.e (.alloc 58 (.st [(.arr 2 .leaf), .leaf]) (.agg [(.agg [(.u64 0), (.u64 0)]), .nils]))), [], none⟩,
      ⟨.var 7, (.e (.alloc 60 (.st [.leaf, .leaf]) (.agg [.nils, .nils]))), [], none⟩,
      ⟨.none, (.e (.store (.st [(.arr 2 .leaf), .leaf]))), [.t 6, .t 14], none⟩,
      ⟨.none, (.e (.store (.st [.leaf, .leaf]))), [.t 7, .t 15], none⟩])
    (.seq (.reg [⟨.new, (.q (.ld (.arr 32 .leaf))), [.t 5], none⟩,
      ⟨.new, (.call 50), [.t 10, .c (.u64 1)], none⟩,
      ⟨.new, (.call 51), [.t 11], none⟩,
      ⟨.new, (.q .mv), [.t 12], none⟩,
      ⟨.new, (.q (.ext 0)), [.t 13], none⟩,
      ⟨.new, (.q (.ext 1)), [.t 13], none⟩,
      ⟨.var 8, (.e (.alloc 58 (.st [(.arr 2 .leaf), .leaf]) (.agg [(.agg [(.u64 0), (.u64 0)]), .nils]))), [], none⟩,
      ⟨.var 9, (.e (.alloc 60 (.st [.leaf, .leaf]) (.agg [.nils, .nils]))), [], none⟩,
      ⟨.none, (.e (.store (.st [(.arr 2 .leaf), .leaf]))), [.t 8, .t 14], none⟩,
      ⟨.none, (.e (.store (.st [.leaf, .leaf]))), [.t 9, .t 15], none⟩])
    (.seq (.draw [⟨.none, (.pairs [(3, 6), (4, 6)]), [], none⟩,
      ⟨.new, (.q (.ld (.st [(.arr 2 .leaf), .leaf]))), [.t 6], none⟩,
      ⟨.new, (.q (.ld (.st [.leaf, .leaf]))), [.t 9], none⟩,
      ⟨.new, (.e (.bld (.st [(.st [(.arr 2 .leaf), .leaf]), (.st [.leaf, .leaf])]) (.agg [(.agg [(.agg [(.u64 0), (.u64 0)]), .nils]), (.agg [.nils, .nils])]) [0, 1])), [.t 10, .t 11], none⟩,
      ⟨.new, (.q (.ld (.st [(.arr 2 .leaf), .leaf]))), [.t 8], none⟩,
      ⟨.new, (.q (.ld (.st [.leaf, .leaf]))), [.t 7], none⟩,
      ⟨.new, (.e (.bld (.st [(.st [(.arr 2 .leaf), .leaf]), (.st [.leaf, .leaf])]) (.agg [(.agg [(.agg [(.u64 0), (.u64 0)]), .nils]), (.agg [.nils, .nils])]) [0, 1])), [.t 13, .t 14], none⟩,
      ⟨.none, (.e (.store (.st [(.st [(.arr 2 .leaf), .leaf]), (.st [.leaf, .leaf])]))), [.t 3, .t 12], none⟩,
      ⟨.none, (.e (.store (.st [(.st [(.arr 2 .leaf), .leaf]), (.st [.leaf, .leaf])]))), [.t 4, .t 15], none⟩])
    .ret))))),
    [.cell 3 (.st [(.st [(.arr 2 .leaf), .leaf]), (.st [.leaf, .leaf])]), .cell 4 (.st [(.st [(.arr 2 .leaf), .leaf]), (.st [.leaf, .leaf])])]⟩

/-- trefoil/baseot.Other (0:a, 1:b, 2:a, 3:b, 4:) -/
def s49 : FnS := ⟨16, [0, 1, 2, 3, 4],
    (.seq (.reg [⟨.var 2, (.e (.box 56 (.arr 2 .leaf))), [.t 0], none⟩,
      ⟨.var 3, (.e (.box 56 (.arr 2 .leaf))), [.t 1], none⟩,
      ⟨.var 4, (.e (.alloc 56 (.arr 2 .leaf) (.agg [(.u64 0), (.u64 0)]))), [], none⟩])
    (.seq (.reg [⟨.new, (.q (.iaA 2 .leaf)), [.t 2, .c (.int 0)], none⟩,
      ⟨.new, (.q (.ld .leaf)), [.t 5], none⟩,
      ⟨.new, (.q (.iaA 2 .leaf)), [.t 3, .c (.int 0)], none⟩,
      ⟨.new, (.q (.ld .leaf)), [.t 7], none⟩,
      ⟨.new, (.q (.bin .xor)), [.t 6, .t 8], none⟩,
      ⟨.new, (.q (.iaA 2 .leaf)), [.t 2, .c (.int 1)], none⟩,
      ⟨.new, (.q (.ld .leaf)), [.t 10], none⟩,
      ⟨.new, (.q (.iaA 2 .leaf)), [.t 3, .c (.int 1)], none⟩,
      ⟨.new, (.q (.ld .leaf)), [.t 12], none⟩,
      ⟨.new, (.q (.bin .xor)), [.t 11, .t 13], none⟩,
      ⟨.new, (.e (.bld (.arr 2 .leaf) (.agg [(.u64 0), (.u64 0)]) [0, 1])), [.t 9, .t 14], none⟩,
      ⟨.none, (.e (.store (.arr 2 .leaf))), [.t 4, .t 15], none⟩])
    .ret)),
    [.cell 4 (.arr 2 .leaf)]⟩

/-- trefoil/baseot.deal (0:root, 1:root, 2:, 3:, 4:s, 5:r, 6:w, 8:i, 9:zero, 10:one, 20:, 21:, 49:) -/
def s51 : FnS := ⟨65, [0, 1, 2, 3, 4, 5, 6, 8, 9, 10, 20, 21, 49],
    (.seq (.reg [⟨.var 1, (.e (.box 46 (.arr 32 .leaf))), [.t 0], none⟩,
      ⟨.var 2, (.e (.alloc 58 (.st [(.arr 2 .leaf), .leaf]) (.agg [(.agg [(.u64 0), (.u64 0)]), .nils]))), [], none⟩,
      ⟨.var 3, (.e (.alloc 60 (.st [.leaf, .leaf]) (.agg [.nils, .nils]))), [], none⟩])
    (.seq (.reg [⟨.var 4, (.e (.alloc 58 (.st [(.arr 2 .leaf), .leaf]) (.agg [(.agg [(.u64 0), (.u64 0)]), .nils]))), [], none⟩])
    (.seq (.reg [⟨.var 5, (.e (.alloc 60 (.st [.leaf, .leaf]) (.agg [.nils, .nils]))), [], none⟩])
    (.seq (.reg [⟨.new, (.q (.ld (.arr 32 .leaf))), [.t 1], none⟩,
      ⟨.new, (.call 66), [.t 13, .c (.u32 9), .c (.int 0), .c (.int 2)], none⟩,
      ⟨.new, (.q .mv), [.t 14], none⟩,
      ⟨.new, (.q (.ext 0)), [.t 15], none⟩,
      ⟨.new, (.q (.ext 1)), [.t 15], none⟩,
      ⟨.var 6, (.q .mv), [.t 16], none⟩,
      ⟨.new, (.q .mv), [.t 17], none⟩])
    (.seq (.reg [⟨.new, (.q (.fa [(.arr 2 .leaf), .leaf] 0)), [.t 4], none⟩,
      ⟨.new, (.q (.slA 2 .leaf false false)), [.t 13], none⟩,
      ⟨.new, (.q .mv), [.t 6], none⟩,
      ⟨.new, (.e (.cpy .leaf)), [.t 14, .t 15], none⟩])
    (.seq (.seq (.reg [⟨.var 10, (.q .mv), [.c (.int 0)], none⟩])
    (.block 0 (.loop (.seq (.reg [⟨.var 11, (.q (.bin .lss)), [.t 10, .c (.int 128)], none⟩])
    (.seq (.cond (.t 11) .skip
    (.exit 0))
    (.seq (.block 1 (.seq (.reg [⟨.new, (.q .mv), [.t 10], none⟩,
      ⟨.var 7, (.q .mv), [.t 13], none⟩])
    (.seq (.draw [⟨.new, (.q (.ld (.arr 32 .leaf))), [.t 1], none⟩,
      ⟨.new, (.q .mv), [.t 7], none⟩,
      ⟨.new, (.q (.bin .mul)), [.c (.int 2), .t 14], none⟩,
      ⟨.new, (.q (.cv .u64)), [.t 15], none⟩,
      ⟨.new, (.callp 50), [.t 13, .t 16], none⟩,
      ⟨.new, (.q (.ld (.arr 32 .leaf))), [.t 1], none⟩,
      ⟨.new, (.q .mv), [.t 7], none⟩,
      ⟨.new, (.q (.bin .mul)), [.c (.int 2), .t 19], none⟩,
      ⟨.new, (.q (.bin .add)), [.t 20, .c (.int 1)], none⟩,
      ⟨.new, (.q (.cv .u64)), [.t 21], none⟩,
      ⟨.new, (.callp 50), [.t 18, .t 22], none⟩,
      ⟨.var 8, (.e (.alloc 46 (.arr 32 .leaf) (.agg [(.u8 0), (.u8 0), (.u8 0), (.u8 0), (.u8 0), (.u8 0), (.u8 0), (.u8 0), (.u8 0), (.u8 0), (.u8 0), (.u8 0), (.u8 0), (.u8 0), (.u8 0), (.u8 0), (.u8 0), (.u8 0), (.u8 0), (.u8 0), (.u8 0), (.u8 0), (.u8 0), (.u8 0), (.u8 0), (.u8 0), (.u8 0), (.u8 0), (.u8 0), (.u8 0), (.u8 0), (.u8 0)]))), [], none⟩,
      ⟨.var 9, (.e (.alloc 46 (.arr 32 .leaf) (.agg [(.u8 0), (.u8 0), (.u8 0), (.u8 0), (.u8 0), (.u8 0), (.u8 0), (.u8 0), (.u8 0), (.u8 0), (.u8 0), (.u8 0), (.u8 0), (.u8 0), (.u8 0), (.u8 0), (.u8 0), (.u8 0), (.u8 0), (.u8 0), (.u8 0), (.u8 0), (.u8 0), (.u8 0), (.u8 0), (.u8 0), (.u8 0), (.u8 0), (.u8 0), (.u8 0), (.u8 0), (.u8 0)]))), [], none⟩,
      ⟨.none, (.e (.store (.arr 32 .leaf))), [.t 8, .t 17], none⟩,
      ⟨.none, (.e (.store (.arr 32 .leaf))), [.t 9, .t 23], none⟩])
    (.seq (.draw [⟨.none, (.pairs [(4, 6), (4, 7)]), [], none⟩,
      ⟨.new, (.q (.fa [.leaf, .leaf] 0)), [.t 5], none⟩,
      ⟨.new, (.q (.ld .leaf)), [.t 13], none⟩,
      ⟨.new, (.q (.ld (.arr 32 .leaf))), [.t 8], none⟩,
      ⟨.new, (.e (.bsl 46 (.arr 32 .leaf) (.agg [(.u8 0), (.u8 0), (.u8 0), (.u8 0), (.u8 0), (.u8 0), (.u8 0), (.u8 0), (.u8 0), (.u8 0), (.u8 0), (.u8 0), (.u8 0), (.u8 0), (.u8 0), (.u8 0), (.u8 0), (.u8 0), (.u8 0), (.u8 0), (.u8 0), (.u8 0), (.u8 0), (.u8 0), (.u8 0), (.u8 0), (.u8 0), (.u8 0), (.u8 0), (.u8 0), (.u8 0), (.u8 0)]) 1 [0])), [.t 15], none⟩,
      ⟨.new, (.e (.app 46 (.arr 32 .leaf) 32)), [.t 14, .t 16], none⟩,
      ⟨.new, (.q (.fa [.leaf, .leaf] 1)), [.t 5], none⟩,
      ⟨.new, (.q (.ld .leaf)), [.t 18], none⟩,
      ⟨.new, (.q (.ld (.arr 32 .leaf))), [.t 9], none⟩,
      ⟨.new, (.e (.bsl 46 (.arr 32 .leaf) (.agg [(.u8 0), (.u8 0), (.u8 0), (.u8 0), (.u8 0), (.u8 0), (.u8 0), (.u8 0), (.u8 0), (.u8 0), (.u8 0), (.u8 0), (.u8 0), (.u8 0), (.u8 0), (.u8 0), (.u8 0), (.u8 0), (.u8 0), (.u8 0), (.u8 0), (.u8 0), (.u8 0), (.u8 0), (.u8 0), (.u8 0), (.u8 0), (.u8 0), (.u8 0), (.u8 0), (.u8 0), (.u8 0)]) 1 [0])), [.t 20], none⟩,
      ⟨.new, (.e (.app 46 (.arr 32 .leaf) 32)), [.t 19, .t 21], none⟩,
      ⟨.new, (.q (.fa [.leaf, .leaf] 0)), [.t 5], none⟩,
      ⟨.none, (.e (.store .leaf)), [.t 23, .t 17], none⟩,
      ⟨.new, (.q (.fa [.leaf, .leaf] 1)), [.t 5], none⟩,
      ⟨.none, (.e (.store .leaf)), [.t 24, .t 22], none⟩])
    (.seq (.reg [⟨.new, (.q (.fa [(.arr 2 .leaf), .leaf] 0)), [.t 4], none⟩,
      ⟨.new, (.q (.ld (.arr 2 .leaf))), [.t 13], none⟩,
      ⟨.new, (.q .mv), [.t 7], none⟩,
      ⟨.var 12, (.call 54), [.t 14, .t 15], none⟩])
    (.cond (.t 12) (.reg [⟨.new, (.q (.fa [(.arr 2 .leaf), .leaf] 1)), [.t 4], none⟩,
      ⟨.new, (.q (.ld .leaf)), [.t 13], none⟩,
      ⟨.new, (.q (.ld (.arr 32 .leaf))), [.t 9], none⟩,
      ⟨.new, (.e (.bsl 46 (.arr 32 .leaf) (.agg [(.u8 0), (.u8 0), (.u8 0), (.u8 0), (.u8 0), (.u8 0), (.u8 0), (.u8 0), (.u8 0), (.u8 0), (.u8 0), (.u8 0), (.u8 0), (.u8 0), (.u8 0), (.u8 0), (.u8 0), (.u8 0), (.u8 0), (.u8 0), (.u8 0), (.u8 0), (.u8 0), (.u8 0), (.u8 0), (.u8 0), (.u8 0), (.u8 0), (.u8 0), (.u8 0), (.u8 0), (.u8 0)]) 1 [0])), [.t 15], none⟩,
      ⟨.new, (.e (.app 46 (.arr 32 .leaf) 32)), [.t 14, .t 16], none⟩,
      ⟨.new, (.q (.fa [(.arr 2 .leaf), .leaf] 1)), [.t 4], none⟩,
      ⟨.none, (.e (.store .leaf)), [.t 18, .t 17], none⟩])
    (.reg [⟨.new, (.q (.fa [(.arr 2 .leaf), .leaf] 1)), [.t 4], none⟩,
      ⟨.new, (.q (.ld .leaf)), [.t 13], none⟩,
      ⟨.new, (.q (.ld (.arr 32 .leaf))), [.t 8], none⟩,
      ⟨.new, (.e (.bsl 46 (.arr 32 .leaf) (.agg [(.u8 0), (.u8 0), (.u8 0), (.u8 0), (.u8 0), (.u8 0), (.u8 0), (.u8 0), (.u8 0), (.u8 0), (.u8 0), (.u8 0), (.u8 0), (.u8 0), (.u8 0), (.u8 0), (.u8 0), (.u8 0), (.u8 0), (.u8 0), (.u8 0), (.u8 0), (.u8 0), (.u8 0), (.u8 0), (.u8 0), (.u8 0), (.u8 0), (.u8 0), (.u8 0), (.u8 0), (.u8 0)]) 1 [0])), [.t 15], none⟩,
      ⟨.new, (.e (.app 46 (.arr 32 .leaf) 32)), [.t 14, .t 16], none⟩,
      ⟨.new, (.q (.fa [(.arr 2 .leaf), .leaf] 1)), [.t 4], none⟩,
      ⟨.none, (.e (.store .leaf)), [.t 18, .t 17], none⟩])))))))
    (.reg [⟨.new, (.q (.bin .add)), [.t 10, .c (.int 1)], none⟩,
      ⟨.var 10, (.q .mv), [.t 13], none⟩])))))))
    (.seq (.draw [⟨.none, (.pairs [(1, 2)]), [], none⟩,
      ⟨.new, (.q (.ld (.st [(.arr 2 .leaf), .leaf]))), [.t 4], none⟩,
      ⟨.new, (.q (.ld (.st [.leaf, .leaf]))), [.t 5], none⟩,
      ⟨.none, (.e (.store (.st [(.arr 2 .leaf), .leaf]))), [.t 2, .t 13], none⟩,
      ⟨.none, (.e (.store (.st [.leaf, .leaf]))), [.t 3, .t 14], none⟩])
    .ret))))))),
    [.cell 2 (.st [(.arr 2 .leaf), .leaf]), .cell 3 (.st [.leaf, .leaf])]⟩

/-- trefoil/baseot.Bit (0:r, 1:i, 2:r, 4:, 10:) -/
def s54 : FnS := ⟨21, [0, 1, 2, 4, 10],
    (.seq (.reg [⟨.var 2, (.e (.box 56 (.arr 2 .leaf))), [.t 0], none⟩,
      ⟨.var 3, (.q .mv), [.c (.bool false)], none⟩])
    (.seq (.seq (.reg [⟨.new, (.q .mv), [.t 1], none⟩,
      ⟨.new, (.q (.bin .lss)), [.t 5, .c (.int 0)], none⟩,
      ⟨.new, (.q .mv), [.t 6], none⟩,
      ⟨.new, (.q .mv), [.t 1], (some (7, false))⟩,
      ⟨.new, (.q (.bin .geq)), [.t 8, .c (.int 128)], (some (7, false))⟩,
      ⟨.var 4, (.q .pick), [.t 7, .c (.bool true), .t 9], none⟩])
    (.cond (.t 4) (.seq (.reg [⟨.var 3, (.q .mv), [.c (.bool false)], none⟩])
    .ret)
    .skip))
    (.seq (.reg [⟨.new, (.q .mv), [.t 1], none⟩,
      ⟨.new, (.q (.bin .quo)), [.t 5, .c (.int 64)], none⟩,
      ⟨.new, (.q (.iaA 2 .leaf)), [.t 2, .t 6], none⟩,
      ⟨.new, (.q (.ld .leaf)), [.t 7], none⟩,
      ⟨.new, (.q .mv), [.t 1], none⟩,
      ⟨.new, (.q (.bin .rem)), [.t 9, .c (.int 64)], none⟩,
      ⟨.new, (.q (.cv .u64)), [.t 10], none⟩,
      ⟨.new, (.q (.bin .shr)), [.t 8, .t 11], none⟩,
      ⟨.new, (.q (.bin .and)), [.t 12, .c (.u64 1)], none⟩,
      ⟨.new, (.q (.bin .eql)), [.t 13, .c (.u64 1)], none⟩,
      ⟨.var 3, (.q .mv), [.t 14], none⟩])
    .ret))),
    [.t 3]⟩

/-- trefoil/trefoilref15.Bit (0:r, 1:i, 2:r, 4:, 10:, 12:) -/
def s59 : FnS := ⟨28, [0, 1, 2, 4, 10, 12],
    (.seq (.reg [⟨.var 2, (.e (.box 56 (.arr 2 .leaf))), [.t 0], none⟩,
      ⟨.var 3, (.q .mv), [.c (.bool false)], none⟩])
    (.seq (.seq (.reg [⟨.new, (.q .mv), [.t 1], none⟩,
      ⟨.new, (.q (.bin .lss)), [.t 6, .c (.int 0)], none⟩,
      ⟨.new, (.q .mv), [.t 7], none⟩,
      ⟨.new, (.q .mv), [.t 1], (some (8, false))⟩,
      ⟨.new, (.q (.bin .gtr)), [.t 9, .c (.int 127)], (some (8, false))⟩,
      ⟨.var 4, (.q .pick), [.t 8, .c (.bool true), .t 10], none⟩])
    (.cond (.t 4) (.seq (.reg [⟨.var 3, (.q .mv), [.c (.bool false)], none⟩])
    .ret)
    .skip))
    (.seq (.seq (.reg [⟨.new, (.q .mv), [.t 1], none⟩,
      ⟨.var 5, (.q (.bin .lss)), [.t 6, .c (.int 64)], none⟩])
    (.cond (.t 5) (.seq (.reg [⟨.new, (.q (.iaA 2 .leaf)), [.t 2, .c (.int 0)], none⟩,
      ⟨.new, (.q (.ld .leaf)), [.t 6], none⟩,
      ⟨.new, (.q .mv), [.t 1], none⟩,
      ⟨.new, (.q (.cv .u64)), [.t 8], none⟩,
      ⟨.new, (.q (.bin .shr)), [.t 7, .t 9], none⟩,
      ⟨.new, (.q (.bin .rem)), [.t 10, .c (.u64 2)], none⟩,
      ⟨.new, (.q (.bin .eql)), [.t 11, .c (.u64 1)], none⟩,
      ⟨.var 3, (.q .mv), [.t 12], none⟩])
    .ret)
    .skip))
    (.seq (.reg [⟨.new, (.q (.iaA 2 .leaf)), [.t 2, .c (.int 1)], none⟩,
      ⟨.new, (.q (.ld .leaf)), [.t 6], none⟩,
      ⟨.new, (.q .mv), [.t 1], none⟩,
      ⟨.new, (.q (.bin .sub)), [.t 8, .c (.int 64)], none⟩,
      ⟨.new, (.q (.cv .u64)), [.t 9], none⟩,
      ⟨.new, (.q (.bin .shr)), [.t 7, .t 10], none⟩,
      ⟨.new, (.q (.bin .rem)), [.t 11, .c (.u64 2)], none⟩,
      ⟨.new, (.q (.bin .eql)), [.t 12, .c (.u64 1)], none⟩,
      ⟨.var 3, (.q .mv), [.t 13], none⟩])
    .ret)))),
    [.t 3]⟩

/-- trefoil/baseot.Times (0:bit, 1:r, 3:r, 4:, 6:) -/
def s61 : FnS := ⟨9, [0, 1, 3, 4, 6],
    (.seq (.reg [⟨.var 2, (.e (.box 56 (.arr 2 .leaf))), [.t 1], none⟩,
      ⟨.var 3, (.e (.alloc 56 (.arr 2 .leaf) (.agg [(.u64 0), (.u64 0)]))), [], none⟩])
    (.seq (.seq (.reg [⟨.new, (.q .mv), [.t 0], none⟩,
      ⟨.var 4, (.q (.un .not)), [.t 5], none⟩])
    (.cond (.t 4) (.seq (.reg [⟨.new, (.e (.bld (.arr 2 .leaf) (.agg [(.u64 0), (.u64 0)]) [])), [], none⟩,
      ⟨.none, (.e (.store (.arr 2 .leaf))), [.t 3, .t 5], none⟩])
    .ret)
    .skip))
    (.seq (.reg [⟨.new, (.q (.ld (.arr 2 .leaf))), [.t 2], none⟩,
      ⟨.none, (.e (.store (.arr 2 .leaf))), [.t 3, .t 5], none⟩])
    .ret))),
    [.cell 3 (.arr 2 .leaf)]⟩

theorem c23 : cF P [] (drP P []) 23 2 s23.vm = some s23 := by kernel_rfl
theorem c49 : cF P [] (drP P []) 49 2 s49.vm = some s49 := by kernel_rfl
theorem c51 : cF P [] (drP P []) 51 1 s51.vm = some s51 := by kernel_rfl
theorem c54 : cF P [] (drP P []) 54 2 s54.vm = some s54 := by kernel_rfl
theorem c59 : cF P [] (drP P []) 59 2 s59.vm = some s59 := by kernel_rfl
theorem c61 : cF P [] (drP P []) 61 2 s61.vm = some s61 := by kernel_rfl
theorem f66g {K : AV → Heap → Prop} {H : Heap} {ks : List (BitVec 8)} {lane : BitVec 32} {a n : Nat} (hk : ks.length = 32) (hn : n ≤ 4096) (han : a + n ≤ 134217728) (h : K (.tup [.ro .leaf ((List.range n).map fun i => .u64 (wdg ks lane (a + i))), .int 0]) H) : wpF P [] 66 [.agg (ks.map .u8), .u32 lane, .int (a : Int), .int (n : Int)] H K := by
  refine wpF_go c66 rfl 4 ?_
  intro ha hb
  simp only [s66]
  have h0 : ((a : Int) < 0) = False := by simp
  have h01 : ((n : Int) < 0) = False := by simp
  have h1 : ((134217728 : Int) < (a : Int)) = False := by simp; omega
  have h11 : ((4096 : Int) < (n : Int)) = False := by simp; omega
  have h2 : 8 * (a : Int) = ((8 * a : Nat) : Int) := by omega
  have h3 : 8 * (n : Int) = ((8 * n : Nat) : Int) := by omega
  (refine gw7 @hk @h0 @h01 @h1 @h11 @h2 @h3 ?_; try exact True.intro)
  (repeat (refine And.intro (by omega) ?_))
  refine f84g hk (by omega) (by omega) ?_
  (refine gw0 ?_; try exact True.intro)
  (repeat (refine And.intro (by omega) ?_))
  refine wp_inv (Ix53 ks lane a n H) n ⟨0, _, _, _, _, _, by rw [fill_zero]; rfl, rfl, by omega⟩ ?_
  rintro k st ⟨i, u1, u2, u3, u4, u5, rfl, rfl, hi⟩
  unfold kbx
  by_cases hil : i < n
  · have hlt : ((i : Int) < (n : Int)) = True := by simp; omega
    have hL := fill_length (f := fun i => .u64 (wdg ks lane (a + i))) (z := .u64 0) hi
    have hL0 : (fillL (fun i => AV.u64 (wdg ks lane (a + i))) (.u64 0) n i)[i]? = some (.u64 0) := by
      unfold fillL
      rw [List.getElem?_append_right (by simp), List.length_map, List.length_range, Nat.sub_self, List.getElem?_replicate]
      rw [if_pos (by omega)]
    have hSet := fill_set (f := fun i => .u64 (wdg ks lane (a + i))) (z := .u64 0) hil
    generalize fillL (fun i => AV.u64 (wdg ks lane (a + i))) (.u64 0) n i = L at *
    have hLs : ∀ x, (L.set i x)[i]? = some x := fun x => by rw [List.getElem?_set_self (by omega)]
    have hLL : ∀ x y, (L.set i x).set i y = L.set i y := fun x y => List.set_set ..
    (refine gw1 @hlt ?_; try exact True.intro)
    refine wp_unroll 9 ?_
    have hpl : (part ks lane (8 * a) (8 * n)).length = 8 * n := part_len
    (refine gw5 @hlt @hL0 @hLs @hLL @hpl ?_; try exact True.intro)
    clear hL hL0 hLs hLL hpl ha hb h
    (repeat (refine And.intro (by omega) ?_))
    have hSet' : L.set i (AV.u64 (leW (part ks lane (8 * (a + i)) 8))) = fillL (fun i => AV.u64 (wdg ks lane (a + i))) (AV.u64 0) n (i + 1) := hSet
    simp only [leW] at hSet'
    have e : ∀ (k : Nat) (x : Int), k < 8 → x = 8 * (i : Int) + (k : Int) → (part ks lane (8 * a) (8 * n)).getD x.toNat 0 = (part ks lane (8 * (a + i)) 8).getD k 0 := fun k x hk hx => part_el hk hil hx
    refine ⟨n - (i + 1), by omega, i + 1, _, _, _, _, _, by rw [e 0 (8 * (i : Int) + 0) (by omega) rfl, e 1 (8 * (i : Int) + 1) (by omega) rfl, e 2 (8 * (i : Int) + 2) (by omega) rfl, e 3 (8 * (i : Int) + 3) (by omega) rfl, e 4 (8 * (i : Int) + 4) (by omega) rfl, e 5 (8 * (i : Int) + 5) (by omega) rfl, e 6 (8 * (i : Int) + 6) (by omega) rfl, e 7 (8 * (i : Int) + 7) (by omega) rfl, hSet']; rfl, rfl, by omega⟩
  · have hlt : ((i : Int) < (n : Int)) = False := by simp; omega
    have hie : i = n := by omega
    have ht : ∀ {kp : Nat → Bool} {N : Nat} {h : Heap}, mapO (demK kp N h 2) (List.take n (fillL (fun i => AV.u64 (wdg ks lane (a + i))) (.u64 0) n i)) = some ((List.range n).map fun i => .u64 (wdg ks lane (a + i))) := by
      intro kp N h
      rw [hie, fill_all, List.take_of_length_le (by simp)]; exact mapO_u64
    (refine gw2 @hlt @ht ?_; try exact True.intro)
    exact h
/-- a row's bit -/
def rb (x y : BitVec 64) (i : Int) : Bool := if 0 ≤ i ∧ i < 64 then x.getLsbD i.toNat else if 64 ≤ i ∧ i < 128 then y.getLsbD (i.toNat - 64) else false
def rowV (x y : BitVec 64) : AV := .agg [.u64 x, .u64 y]

theorem bit_and (x : BitVec 64) (j : Nat) : decide (x >>> j &&& 1 = 1) = x.getLsbD j := by
  have e : (x >>> j &&& 1 = 1) ↔ (x >>> j).toNat % 2 = 1 := by
    rw [← BitVec.toNat_inj, BitVec.toNat_and]
    have : (1 : BitVec 64).toNat = 1 := rfl
    rw [this, Nat.and_one_is_mod]
  rw [← BitVec.testBit_toNat, Nat.testBit_eq_decide_div_mod_eq, decide_eq_decide, e, BitVec.toNat_ushiftRight, Nat.shiftRight_eq_div_pow]
theorem bit_mod (x : BitVec 64) (j : Nat) : decide (x >>> j % 2 = 1) = x.getLsbD j := by
  have e : (x >>> j % 2 = 1) ↔ (x >>> j).toNat % 2 = 1 := by
    rw [← BitVec.toNat_inj, BitVec.toNat_umod]
    exact Iff.rfl
  rw [← BitVec.testBit_toNat, Nat.testBit_eq_decide_div_mod_eq, decide_eq_decide, e, BitVec.toNat_ushiftRight, Nat.shiftRight_eq_div_pow]

theorem f54 {K : AV → Heap → Prop} {H : Heap} {x y : BitVec 64} {i : Int} (h : K (.bool (rb x y i)) H) : wpF P [] 54 [rowV x y, .int i] H K := by
  refine wpF_go c54 rfl 3 ?_
  intro ha hb
  simp only [s54, rowV]
  unfold rb at h
  by_cases h0 : i < 0
  · rw [if_neg (by omega), if_neg (by omega)] at h
    (refine gw1 @h0 ?_; try exact True.intro)
    exact h
  by_cases h1 : 128 ≤ i
  · rw [if_neg (by omega), if_neg (by omega)] at h
    (refine gw2 @h0 @h1 ?_; try exact True.intro)
    exact h
  obtain ⟨j, rfl⟩ := Int.eq_ofNat_of_zero_le (show 0 ≤ i by omega)
  by_cases h2 : j < 64
  · rw [if_pos (by omega)] at h
    have hd : Int.tdiv (j : Int) 64 = 0 := by rw [Int.tdiv_eq_ediv_of_nonneg (by omega)]; omega
    have hm : Int.tmod (j : Int) 64 = (j : Int) := by rw [Int.tmod_eq_emod_of_nonneg (by omega)]; omega
    have he := ofInt_nat (i := j) (by omega)
    (refine gw5 @h0 @h1 @hd @hm @he ?_; try exact True.intro)
    rw [bit_and]
    exact ⟨by omega, by omega, h⟩
  · rw [if_neg (by omega), if_pos (by omega)] at h
    have hd : Int.tdiv (j : Int) 64 = 1 := by rw [Int.tdiv_eq_ediv_of_nonneg (by omega)]; omega
    have hm : Int.tmod (j : Int) 64 = ((j - 64 : Nat) : Int) := by rw [Int.tmod_eq_emod_of_nonneg (by omega)]; omega
    have he := ofInt_nat (i := j - 64) (by omega)
    (refine gw5 @h0 @h1 @hd @hm @he ?_; try exact True.intro)
    rw [bit_and]
    exact ⟨by omega, by omega, h⟩

theorem f59 {K : AV → Heap → Prop} {H : Heap} {x y : BitVec 64} {i : Int} (h : K (.bool (rb x y i)) H) : wpF P [] 59 [rowV x y, .int i] H K := by
  refine wpF_go c59 rfl 3 ?_
  intro ha hb
  simp only [s59, rowV]
  unfold rb at h
  by_cases h0 : i < 0
  · rw [if_neg (by omega), if_neg (by omega)] at h
    (refine gw1 @h0 ?_; try exact True.intro)
    exact h
  by_cases h1 : 127 < i
  · rw [if_neg (by omega), if_neg (by omega)] at h
    (refine gw2 @h0 @h1 ?_; try exact True.intro)
    exact h
  obtain ⟨j, rfl⟩ := Int.eq_ofNat_of_zero_le (show 0 ≤ i by omega)
  by_cases h2 : (j : Int) < 64
  · rw [if_pos (by omega)] at h
    have he := ofInt_nat (i := j) (by omega)
    (refine gw4 @h0 @h1 @h2 @he ?_; try exact True.intro)
    rw [bit_mod]
    exact ⟨by decide, h⟩
  · rw [if_neg (by omega), if_pos (by omega)] at h
    have hs : (j : Int) - 64 = ((j - 64 : Nat) : Int) := by omega
    have he := ofInt_nat (i := j - 64) (by omega)
    (refine gw5 @h0 @h1 @h2 @hs @he ?_; try exact True.intro)
    rw [bit_mod]
    exact ⟨by omega, by omega, by decide, h⟩

theorem f49 {K : AV → Heap → Prop} {H : Heap} {x y z w : BitVec 64} (h : K (rowV (x ^^^ z) (y ^^^ w)) H) : wpF P [] 49 [rowV x y, rowV z w] H K := by
  refine wpF_go c49 rfl 3 ?_
  intro ha hb
  simp only [s49, rowV]
  (refine gw0 ?_; try exact True.intro)
  exact h

theorem f61 {K : AV → Heap → Prop} {H : Heap} {b : Bool} {x y : BitVec 64} (h : K (if b = true then rowV x y else rowV 0 0) H) : wpF P [] 61 [.bool b, rowV x y] H K := by
  refine wpF_go c61 rfl 3 ?_
  intro ha hb
  simp only [s61, rowV]
  cases b with
  | true => (refine gw0 ?_; try exact True.intro); exact h
  | false => (refine gw0 ?_; try exact True.intro); exact h

/-- a row's bytes -/
def by8 (x : BitVec 64) : List (BitVec 8) := [(x >>> 0).setWidth 8, (x >>> 8).setWidth 8, (x >>> 16).setWidth 8, (x >>> 24).setWidth 8, (x >>> 32).setWidth 8, (x >>> 40).setWidth 8, (x >>> 48).setWidth 8, (x >>> 56).setWidth 8]
def rowB (x y : BitVec 64) : List (BitVec 8) := by8 x ++ by8 y

/-! the reference's bytes -/
/-- eight bits of a row, from j on -/
def rbN (x y : BitVec 64) (j : Nat) : Bool := rb x y (j : Int)
def partW (x y : BitVec 64) (i : Nat) : Nat → BitVec 8
  | 0 => 0
  | k + 1 => 2 * partW x y i k + (if rbN x y (8 * i + (7 - k)) = true then 1 else 0)

/-- the bytes put together up to the i-th -/
def plist (x y : BitVec 64) (i : Nat) : List (BitVec 8) := (List.range i).map fun i => partW x y i 8
def bxr (x y : BitVec 64) : Option Blk := some ⟨56, 0, false, .arr 1 (.arr 2 .leaf), .agg [.agg [.u64 x, .u64 y]]⟩
def Iw20 (x y : BitVec 64) (H : Heap) (q : Nat) (st : St) : Prop :=
  ∃ (i : Nat) (u1 u2 u3 u4 u5 : AV) (out : AV) (L : Heap), st = ⟨[.agg [.u64 x, .u64 y], .ptr H.length 0 [0] (.arr 2 .leaf), .str [], out, .int (i : Int), u1, u2, u3, u4, u5], H ++ bxr x y :: L⟩ ∧ q = 16 - i ∧ i ≤ 16 ∧
    ((i = 0 ∧ out = .nils ∧ L = []) ∨ (0 < i ∧ out = .own (H.length + 2) i [] 0 i .leaf ∧ ∃ T J, L = T :: some ⟨5, i, true, .arr i .leaf, .agg ((plist x y i).map .u8)⟩ :: J))
def Jw20 (x y : BitVec 64) (i : Nat) (out : AV) (G : Heap) (N : Nat) (q : Nat) (st : St) : Prop :=
  ∃ (c : Nat) (u4 u5 : AV), st = ⟨[.agg [.u64 x, .u64 y], .ptr N 0 [0] (.arr 2 .leaf), .str [], out, .int (i : Int), .u8 (partW x y i c), .int (7 - (c : Int)), .bool true, u4, u5], G⟩ ∧ q = 8 - c ∧ c ≤ 8

/-! both say the same -/
theorem part_nat {x y : BitVec 64} {i c : Nat} {w : Nat} {s : Nat} (hw : ∀ j, j < 8 → rbN x y (8 * i + j) = decide (w / 2 ^ (s + j) % 2 = 1)) (hc : c ≤ 8) : (partW x y i c).toNat = w / 2 ^ (s + (8 - c)) % 2 ^ c := by
  induction c with
  | zero => simp [partW, Nat.mod_one]
  | succ c ih =>
    have ih := ih (by omega)
    have hlt : (partW x y i c).toNat < 2 ^ c := by rw [ih]; exact Nat.mod_lt _ (Nat.two_pow_pos c)
    have hle : 2 ^ (c + 1) ≤ 2 ^ 8 := Nat.pow_le_pow_right (by omega) hc
    have hp : 2 ^ (c + 1) = 2 ^ c * 2 := Nat.pow_succ 2 c
    have hb : (if rbN x y (8 * i + (7 - c)) = true then (1 : BitVec 8) else 0).toNat = w / 2 ^ (s + (7 - c)) % 2 := by
      rw [hw (7 - c) (by omega)]
      have h2 : w / 2 ^ (s + (7 - c)) % 2 = 0 ∨ w / 2 ^ (s + (7 - c)) % 2 = 1 := by omega
      rcases h2 with h2 | h2 <;> rw [h2] <;> rfl
    show (2 * partW x y i c + (if rbN x y (8 * i + (7 - c)) = true then 1 else 0)).toNat = _
    rw [BitVec.toNat_add, BitVec.toNat_mul, hb, show (2 : BitVec 8).toNat = 2 from rfl]
    have e1 : s + (8 - c) = s + (7 - c) + 1 := by omega
    have e2 : s + (8 - (c + 1)) = s + (7 - c) := by omega
    rw [e1, Nat.pow_succ, ← Nat.div_div_eq_div_mul] at ih
    rw [e2]
    generalize w / 2 ^ (s + (7 - c)) = u at *
    have hm : u % 2 ^ (c + 1) = u % 2 + 2 * (u / 2 % 2 ^ c) := by rw [Nat.pow_succ, Nat.mul_comm (2 ^ c) 2, Nat.mod_mul]
    rw [hm, ← ih]
    have : 2 ^ 8 = 256 := rfl
    omega

theorem bitd (x : BitVec 64) (j : Nat) : x.getLsbD j = decide (x.toNat / 2 ^ j % 2 = 1) := by
  rw [← BitVec.testBit_toNat, Nat.testBit_eq_decide_div_mod_eq]

theorem part_x {x y : BitVec 64} {i : Nat} (hi : i < 8) : partW x y i 8 = (x >>> (8 * i)).setWidth 8 := by
  apply BitVec.eq_of_toNat_eq
  rw [part_nat (w := x.toNat) (s := 8 * i) ?_ (Nat.le_refl _), BitVec.toNat_setWidth, BitVec.toNat_ushiftRight, Nat.shiftRight_eq_div_pow]
  · rfl
  · intro j hj
    unfold rbN rb
    rw [if_pos (by omega), ← bitd]
    rfl
theorem part_y {x y : BitVec 64} {i : Nat} (hi : i < 8) : partW x y (8 + i) 8 = (y >>> (8 * i)).setWidth 8 := by
  apply BitVec.eq_of_toNat_eq
  rw [part_nat (w := y.toNat) (s := 8 * i) ?_ (Nat.le_refl _), BitVec.toNat_setWidth, BitVec.toNat_ushiftRight, Nat.shiftRight_eq_div_pow]
  · rfl
  · intro j hj
    unfold rbN rb
    rw [if_neg (by omega), if_pos (by omega), ← bitd]
    congr 1; omega
theorem plist_row (x y : BitVec 64) : plist x y 16 = rowB x y := by
  have e : plist x y 16 = [partW x y 0 8, partW x y 1 8, partW x y 2 8, partW x y 3 8, partW x y 4 8, partW x y 5 8, partW x y 6 8, partW x y 7 8,
    partW x y (8 + 0) 8, partW x y (8 + 1) 8, partW x y (8 + 2) 8, partW x y (8 + 3) 8, partW x y (8 + 4) 8, partW x y (8 + 5) 8, partW x y (8 + 6) 8, partW x y (8 + 7) 8] := rfl
  rw [e, part_x (by omega), part_x (by omega), part_x (by omega), part_x (by omega), part_x (by omega), part_x (by omega), part_x (by omega), part_x (by omega),
    part_y (by omega), part_y (by omega), part_y (by omega), part_y (by omega), part_y (by omega), part_y (by omega), part_y (by omega), part_y (by omega)]
  rfl

/-! the law -/
theorem rb_xor (x y z w : BitVec 64) (k : Int) : rb (x ^^^ z) (y ^^^ w) k = (rb x y k != rb z w k) := by
  unfold rb
  split
  · simp
  · split
    · simp
    · rfl
theorem rb_zero (k : Int) : rb 0 0 k = false := by
  unfold rb; split
  · simp
  · split <;> simp

def Iw3 (x y z w u v : BitVec 64) (b : Bool) (i : AV) (G : Heap) (N : Nat) (q : Nat) (st : St) : Prop :=
  ∃ (k : Nat) (u2 u3 : AV), st = ⟨[.agg [.u64 x, .u64 y], .agg [.u64 z, .u64 w], i, .bool b, .ptr N 0 [0] (.arr 2 .leaf), .ptr (N + 1) 0 [0] (.arr 2 .leaf), .bool false, .ptr (N + 2) 0 [0] (.arr 2 .leaf), .ptr (N + 3) 0 [0] (.arr 2 .leaf), .int (k : Int), .bool false, u2, u3], G⟩ ∧ q = 128 - k ∧ k ≤ 128

/-! seeds, and lists of them -/
def sdA (s : List (BitVec 8)) : AV := .agg (s.map .u8)
def sdL (f : Nat → List (BitVec 8)) (n : Nat) : List AV := (List.range n).map fun j => sdA (f j)
theorem sdL_len {f : Nat → List (BitVec 8)} {n : Nat} : (sdL f n).length = n := by simp [sdL]
theorem sdL_succ {f : Nat → List (BitVec 8)} {n : Nat} : sdL f n ++ [sdA (f n)] = sdL f (n + 1) := by simp [sdL, List.range_succ]
theorem demK_sd {kp : Nat → Bool} {N : Nat} {h : Heap} {d : Nat} {s : List (BitVec 8)} : demK kp N h (d + 2) (sdA s) = some (sdA s) := by
  unfold sdA
  rw [demK_agg, mapO_u8']
  rfl
theorem mapO_of {kp : Nat → Bool} {N : Nat} {h : Heap} {d : Nat} : ∀ {l : List AV}, (∀ x ∈ l, demK kp N h d x = some x) → mapO (demK kp N h d) l = some l
  | [], _ => rfl
  | x :: l, hx => by
    simp only [mapO]
    rw [hx x (by simp), mapO_of fun y hy => hx y (by simp [hy])]
theorem mapO_sd {kp : Nat → Bool} {N : Nat} {h : Heap} {d : Nat} {f : Nat → List (BitVec 8)} {n : Nat} : mapO (demK kp N h (d + 2)) (List.take n (sdL f n)) = some (sdL f n) := by
  rw [List.take_of_length_le (by rw [sdL_len]; exact Nat.le_refl _)]
  refine mapO_of fun x hx => ?_
  obtain ⟨j, _, rfl⟩ := List.mem_map.1 hx
  exact demK_sd
theorem bnds_sd {f : Nat → List (BitVec 8)} {n k : Nat} : AV.bnds k (sdL f n) = true := by
  refine bnds_iff.2 fun x hx => ?_
  obtain ⟨j, _, rfl⟩ := List.mem_map.1 hx
  simp only [sdA, AV.bnd]
  exact bnds_u8'

/-! one direction -/
def zS (ks : List (BitVec 8)) (i : Nat) : List (BitVec 8) := child ks (BitVec.ofNat 64 (2 * i))
def oS (ks : List (BitVec 8)) (i : Nat) : List (BitVec 8) := child ks (BitVec.ofNat 64 (2 * i + 1))
def kS (ks : List (BitVec 8)) (i : Nat) : List (BitVec 8) := if rb (wdg ks 9 0) (wdg ks 9 1) i = true then oS ks i else zS ks i
theorem zS_len {ks : List (BitVec 8)} {i : Nat} : (zS ks i).length = 32 := child_len _ _
theorem oS_len {ks : List (BitVec 8)} {i : Nat} : (oS ks i).length = 32 := child_len _ _

/-- a list of seeds that grew -/
def lB (i : Nat) (l : List AV) : Option Blk := some ⟨46, i, true, .arr i (.arr 32 .leaf), .agg l⟩
def sB (ks : List (BitVec 8)) (a : AV) : Option Blk := some ⟨58, 0, false, .arr 1 (.st [.arr 2 .leaf, .leaf]), .agg [.agg [.agg [.u64 (wdg ks 9 0), .u64 (wdg ks 9 1)], a]]⟩
def rB (a b : AV) : Option Blk := some ⟨60, 0, false, .arr 1 (.st [.leaf, .leaf]), .agg [.agg [a, b]]⟩
def s0B : Option Blk := some ⟨58, 0, false, .arr 1 (.st [.arr 2 .leaf, .leaf]), .agg [.agg [.agg [.u64 0, .u64 0], .nils]]⟩

def Iw60 (ks : List (BitVec 8)) (H : Heap) (k : Nat) (st : St) : Prop :=
  ∃ (i : Nat) (w u1 u2 u3 u4 u5 za oa ka : AV) (L : Heap), st = ⟨[.agg (ks.map .u8), .ptr H.length 0 [0] (.arr 32 .leaf), .ptr (H.length + 1) 0 [0] (.st [.arr 2 .leaf, .leaf]), .ptr (H.length + 2) 0 [0] (.st [.leaf, .leaf]),
      .ptr (H.length + 3) 0 [0] (.st [.arr 2 .leaf, .leaf]), .ptr (H.length + 4) 0 [0] (.st [.leaf, .leaf]), w, u1, u2, u3, .int (i : Int), u4, u5],
    H ++ kbx ks :: s0B :: rB .nils .nils :: sB ks ka :: rB za oa :: L⟩ ∧ k = 128 - i ∧ i ≤ 128 ∧
    ((i = 0 ∧ za = .nils ∧ oa = .nils ∧ ka = .nils ∧ L = []) ∨ (0 < i ∧ za = .own (H.length + 8) i [] 0 i (.arr 32 .leaf) ∧ oa = .own (H.length + 10) i [] 0 i (.arr 32 .leaf) ∧ ka = .own (H.length + 12) i [] 0 i (.arr 32 .leaf) ∧
      ∃ g1 g2 g3 g4 g5 J lz lo lk, L = g1 :: g2 :: g3 :: lB i lz :: g4 :: lB i lo :: g5 :: lB i lk :: J ∧ lz = sdL (zS ks) i ∧ lo = sdL (oS ks) i ∧ lk = sdL (kS ks) i))

theorem f51 {K : AV → Heap → Prop} {H : Heap} {ks : List (BitVec 8)} (hk : ks.length = 32) (h : K (.tup [.agg [rowV (wdg ks 9 0) (wdg ks 9 1), .ro (.arr 32 .leaf) (sdL (kS ks) 128)], .agg [.ro (.arr 32 .leaf) (sdL (zS ks) 128), .ro (.arr 32 .leaf) (sdL (oS ks) 128)]]) H) : wpF P [] 51 [.agg (ks.map .u8)] H K := by
  refine wpF_go c51 rfl 6 ?_
  intro ha hb
  simp only [s51]
  (refine gw1 @hk ?_; try exact True.intro)
  refine f66g (a := 0) (n := 2) hk (by omega) (by omega) ?_
  have e2 : (List.range 2).map (fun i => AV.u64 (wdg ks 9 (0 + i))) = [.u64 (wdg ks 9 0), .u64 (wdg ks 9 1)] := rfl
  rw [e2]
  simp (maxSteps := 2000000) only [↓vS_skip, ↓vS_reg, ↓vS_draw, ↓vS_seq, ↓wS_cond, ↓vS_block, ↓vS_exit, ↓vS_ret, ↓vI_nil, ↓vI_go, ↓wI_gd, ↓stepI_q, ↓stepI_e, ↓stepI_c, ↓stepI_v, ↓vD_nil, ↓vD_go, ↓wD_gd, ↓stepW_q, ↓stepW_e, ↓stepW_c, ↓stepW_v, ↓Kw_app, ↓KwD_app, ↓Kc_app, ↓Kp_app, ↓Kr_app, ↓Ks_n, ↓Ks_r, ↓Ks_x, ↓Kb_n, ↓Kb_r, ↓Kb_x, ↓Ku_n, ↓Ku_r, ↓Ku_x, ↓Kl_n, ↓Kl_r, ↓Kl_x, ↓Kend_n, ↓Kend_r, ↓Two_t, ↓Two_f, ↓unr_succ, ↓GdM_b, ↓GdM_t, ↓CdM_b, ↓TwU_t, ↓TwU_f, ↓ThI_app, ↓ThW_app, ↓ThK_app, ↓ThS_app, ↓stepI_p, ↓stepW_p, ↓stepI_w, ↓stepW_w, ↓xD_w, ↓stepI_n, ↓xD_n, ↓xD_q, ↓xD_e, ↓xD_c, ↓xD_v, ↓xD_p, ↓xD_m, ↓xD_s, ↓vX_nil, ↓vX_go, ↓wX_gd, ↓KwX_app, ↓stepI_m, ↓stepW_m, ↓hasSh_mbool, ↓hasSh_mu8, ↓hasSh_mu16, ↓hasSh_mu32, ↓hasSh_mu64, ↓hasSh_mint, putE_none, putE_var, putE_new, get_t, get_c, qev, eev, rsGet, rvGet, oneOf, binAV, isSh, bvBin, bvOp, bvCmp, bvSh, intBin, intSh, cvAV, unAV, AV.cnt, AV.num, Ken2_s, Ken3_s, htake_1, htake_2, beq_self_eq_true, beq_true, beq_false, Int.toNat_natCast, Int.natCast_nonneg, BitVec.reduceOfInt, BitVec.reduceToNat, bytesOf, List.map_cons, List.replicate_succ, Bool.not_eq_true, maxLen, Nat.reducePow, Nat.reduceMul, List.map_cons, List.map_nil, List.getD_cons_zero, List.getD_cons_succ, List.set_cons_zero, List.set_cons_succ, List.cons_append, List.nil_append, List.append_nil, List.take_succ_cons, List.take_zero, List.take_nil, List.length_cons, List.length_nil, List.replicate_succ, List.replicate_zero, Option.map_some, Option.map_none, List.getElem?_cons_zero, List.getElem?_cons_succ, true_and, and_true, if_true, if_false, ite_true, ite_false, reduceIte, reduceCtorEq, false_or, or_true, true_or, or_false, Option.some.injEq, Prod.mk.injEq, exists_eq_left', exists_eq_left, exists_eq_right, exists_and_left, exists_and_right, exists_const, and_assoc, decide_true, decide_false, Bool.false_eq_true, forall_const, Bool.not_true, Bool.not_false, false_implies, true_implies, Nat.reduceAdd, Nat.reduceSub, Nat.reduceMul, Nat.reduceLT, Nat.reduceLeDiff, Nat.reduceEqDiff, Int.reduceAdd, Int.reduceSub, Int.reduceMul, Int.reduceLT, Int.reduceLE, Int.reduceTMod, Int.reduceTDiv, Int.reduceToNat, Int.reduceEq, Int.reduceNe, Int.reduceNeg, ne_eq, not_false_eq_true, not_true_eq_false, InR, Bool.true_eq_false, Bool.false_eq_true, reduceDIte, Nat.zero_add, Nat.add_zero, Int.cast_ofNat_Int, eq_self, hget_0, hget_k, hget_z, hget_s, hset_0, hset_k, htake_0, lt_own0, lt_ownk, hasAt_nil, hasAt_arr, hasAt_st, hasSh_l, hasSh_aa, hasSh_sa, hasShs_n, hasShs_c, setAll, AV.isCell, Shape.size_leaf, Shape.size_arr, Shape.size_st, Shape.sizes_cons, Shape.sizes_nil, List.length_append, List.append_assoc, List.length_set, stP, ldP, getP, setP, psh, partsOf, slen, rd, dem, demK_own, demK_ptr, demK_agg, demK_tup, demK_fn, demK_ro, demK_rp, demK_bool, demK_u8, demK_u16, demK_u32, demK_u64, demK_int, demK_str, demK_nilp, demK_nils, demK_nilf, demK_un, mapO, AV.bnds, AV.bnd, bne_self_eq_false, AV.plain2, AV.plain, List.all_cons, List.all_nil, List.take_length, List.drop_zero, List.drop_succ_cons, Nat.mul_one, List.getElem?_nil, List.forall_mem_cons, List.not_mem_nil, implies_true, Bool.and_true, Bool.true_and, Bool.and_false, Bool.false_and, and_self, and_false, false_and, Nat.sub_zero, bnds, bnds_bool, bnds_bool', mapO_bool, mapO_bool', bnds_u8, bnds_u8', mapO_u8, mapO_u8', bnds_u16, bnds_u16', mapO_u16, mapO_u16', bnds_u32, bnds_u32', mapO_u32, mapO_u32', bnds_u64, bnds_u64', mapO_u64, mapO_u64', bnds_int, bnds_int', mapO_int, mapO_int', bt, bf, Bool.not_not, nilK_nils, nilK_own, nilK_ro, ninL_n, ninL_c, disL_n, disL_r, disL_c, chkL_n, chkL_c, apartL_e, fp_ld, fp_b2s, fp_st, fp_app, fp_appS, fp_cpy, fp_cpyS, tb_own, tb_ptr, tb_ro, tb_rp, tb_nils, tb_str, ne_ah, ne_ha, cpH, splL, Nat.min_self]
  refine wp_inv (Iw60 ks H) 128 ⟨0, _, _, _, _, _, _, _, _, _, [], rfl, rfl, by omega, .inl ⟨rfl, rfl, rfl, rfl, rfl⟩⟩ ?_
  rintro k st ⟨i, w, u1, u2, u3, u4, u5, za, oa, ka, L, rfl, rfl, hi, hc⟩
  unfold kbx s0B rB sB
  by_cases hil : i < 128
  · have hlt : ((i : Int) < 128) = True := by simp; omega
    have c1 : BitVec.ofInt 64 (2 * (i : Int)) = BitVec.ofNat 64 (2 * i) := by
      apply BitVec.eq_of_toNat_eq
      rw [BitVec.toNat_ofInt, BitVec.toNat_ofNat]
      omega
    have c2 : BitVec.ofInt 64 (2 * (i : Int) + 1) = BitVec.ofNat 64 (2 * i + 1) := by
      apply BitVec.eq_of_toNat_eq
      rw [BitVec.toNat_ofInt, BitVec.toNat_ofNat]
      omega
    have b1 : (-9223372036854775808 : Int) ≤ 2 * (i : Int) := by omega
    have b2 : 2 * (i : Int) ≤ 9223372036854775807 := by omega
    have b3 : (-9223372036854775808 : Int) ≤ 2 * (i : Int) + 1 := by omega
    have b4 : 2 * (i : Int) + 1 ≤ 9223372036854775807 := by omega
    have b5 : (-9223372036854775808 : Int) ≤ (i : Int) + 1 := by omega
    have b6 : (i : Int) + 1 ≤ 9223372036854775807 := by omega
    have hz := zS_len (ks := ks) (i := i)
    have ho := oS_len (ks := ks) (i := i)
    rcases hc with ⟨hi0, rfl, rfl, rfl, rfl⟩ | ⟨hi0, rfl, rfl, rfl, g1, g2, g3, g4, g5, J, lz, lo, lk, rfl, hlz, hlo, hlk⟩
    · (refine gw4 @hlt @c1 @b1 @b2 ?_; try exact True.intro)
      refine drawp _ (fun H' => f50 hk ⟨rfl, rfl⟩) ?_ bnd0_agg8
      rw [show child ks (BitVec.ofNat 64 (2 * i)) = zS ks i from rfl]
      (refine gw6 @hlt @c2 @b1 @b2 @b3 @b4 ?_; try exact True.intro)
      refine drawp _ (fun H' => f50 hk ⟨rfl, rfl⟩) ?_ bnd0_agg8
      rw [show child ks (BitVec.ofNat 64 (2 * i + 1)) = oS ks i from rfl]
      (refine gw8 @hlt @c2 @b1 @b2 @b3 @b4 @hz @ho ?_; try exact True.intro)
      refine f54 ?_
      by_cases hr : rb (wdg ks 9 0) (wdg ks 9 1) i = true
      · have hk2 : kS ks i = oS ks i := by unfold kS; rw [if_pos hr]
        (refine gw5 @hr @hz @ho @b5 @b6 ?_; try exact True.intro)
        subst hi0
        exact ⟨127, by omega, 1, _, _, _, _, _, _, _, _, _, _, rfl, rfl, by omega, .inr ⟨by omega, rfl, rfl, rfl, _, _, _, _, _, [], _, _, _, rfl, rfl, rfl, by rw [← hk2]; rfl⟩⟩
      · have hk2 : kS ks i = zS ks i := by unfold kS; rw [if_neg hr]
        rw [Bool.not_eq_true] at hr
        (refine gw5 @hr @hz @ho @b5 @b6 ?_; try exact True.intro)
        subst hi0
        exact ⟨127, by omega, 1, _, _, _, _, _, _, _, _, _, _, rfl, rfl, by omega, .inr ⟨by omega, rfl, rfl, rfl, _, _, _, _, _, [], _, _, _, rfl, rfl, rfl, by rw [← hk2]; rfl⟩⟩
    · unfold lB
      (refine gw4 @hlt @c1 @b1 @b2 ?_; try exact True.intro)
      refine drawp _ (fun H' => f50 hk ⟨rfl, rfl⟩) ?_ bnd0_agg8
      rw [show child ks (BitVec.ofNat 64 (2 * i)) = zS ks i from rfl]
      (refine gw6 @hlt @c2 @b1 @b2 @b3 @b4 ?_; try exact True.intro)
      refine drawp _ (fun H' => f50 hk ⟨rfl, rfl⟩) ?_ bnd0_agg8
      rw [show child ks (BitVec.ofNat 64 (2 * i + 1)) = oS ks i from rfl]
      (refine gw8 @hlt @c2 @b1 @b2 @b3 @b4 @hz @ho ?_; try exact True.intro)
      (repeat (refine And.intro (by omega) ?_))
      refine f54 ?_
      by_cases hr : rb (wdg ks 9 0) (wdg ks 9 1) i = true
      · have hk2 : kS ks i = oS ks i := by unfold kS; rw [if_pos hr]
        (refine gw5 @hr @hz @ho @b5 @b6 ?_; try exact True.intro)
        (repeat (refine And.intro (by omega) ?_))
        exact ⟨128 - (i + 1), by omega, i + 1, _, _, _, _, _, _, _, _, _, _, rfl, rfl, by omega, .inr ⟨by omega, rfl, rfl, rfl, _, _, _, _, _, _, _, _, _, rfl, by rw [hlz]; exact sdL_succ, by rw [hlo]; exact sdL_succ, by rw [hlk, ← hk2]; exact sdL_succ⟩⟩
      · have hk2 : kS ks i = zS ks i := by unfold kS; rw [if_neg hr]
        rw [Bool.not_eq_true] at hr
        (refine gw5 @hr @hz @ho @b5 @b6 ?_; try exact True.intro)
        (repeat (refine And.intro (by omega) ?_))
        exact ⟨128 - (i + 1), by omega, i + 1, _, _, _, _, _, _, _, _, _, _, rfl, rfl, by omega, .inr ⟨by omega, rfl, rfl, rfl, _, _, _, _, _, _, _, _, _, rfl, by rw [hlz]; exact sdL_succ, by rw [hlo]; exact sdL_succ, by rw [hlk, ← hk2]; exact sdL_succ⟩⟩
  · have hlt : ((i : Int) < 128) = False := by simp; omega
    rcases hc with ⟨hi0, _⟩ | ⟨hi0, rfl, rfl, rfl, g1, g2, g3, g4, g5, J, lz, lo, lk, rfl, hlz, hlo, hlk⟩
    · omega
    have hi8 : i = 128 := by omega
    subst hi8
    unfold lB
    have mz : ∀ {f : Nat → List (BitVec 8)} {kp : Nat → Bool} {N : Nat} {h : Heap}, mapO (demK kp N h 3) (List.take 128 (sdL f 128)) = some (sdL f 128) := mapO_sd
    unfold rowV at h
    subst hlz hlo hlk
    (refine gw2 @hlt @mz ?_; try exact True.intro)
    exact h

/-! the reference's -/
theorem kS_len {ks : List (BitVec 8)} {i : Nat} : (kS ks i).length = 32 := by unfold kS; split; exact oS_len; exact zS_len
def sndA (ks : List (BitVec 8)) : AV := .agg [.agg [.u64 (wdg ks 9 0), .u64 (wdg ks 9 1)], .ro (.arr 32 .leaf) (sdL (kS ks) 128)]
def rcvA (ks : List (BitVec 8)) : AV := .agg [.ro (.arr 32 .leaf) (sdL (zS ks) 128), .ro (.arr 32 .leaf) (sdL (oS ks) 128)]
def dirA (ks : List (BitVec 8)) : AV := .agg [.agg [.u64 (wdg ks 9 0), .u64 (wdg ks 9 1)], .ro (.arr 32 .leaf) (sdL (zS ks) 128), .ro (.arr 32 .leaf) (sdL (oS ks) 128), .ro (.arr 32 .leaf) (sdL (kS ks) 128)]

theorem demK_aggI {kp : Nat → Bool} {N : Nat} {h : Heap} {d : Nat} {l : List AV} (hx : ∀ x ∈ l, demK kp N h d x = some x) : demK kp N h (d + 1) (.agg l) = some (.agg l) := by
  rw [demK_agg, mapO_of hx]; rfl
theorem demK_tupI {kp : Nat → Bool} {N : Nat} {h : Heap} {d : Nat} {l : List AV} (hx : ∀ x ∈ l, demK kp N h d x = some x) : demK kp N h (d + 1) (.tup l) = some (.tup l) := by
  rw [demK_tup, mapO_of hx]; rfl
theorem demK_roI {kp : Nat → Bool} {N : Nat} {h : Heap} {d : Nat} {e : Shape} {z : List AV} (hz : AV.bnds N z = true) : demK kp N h (d + 1) (.ro e z) = some (.ro e z) := by rw [demK_ro, if_pos hz]
theorem dem_row {kp : Nat → Bool} {N : Nat} {h : Heap} {d : Nat} {x y : BitVec 64} : demK kp N h (d + 2) (.agg [.u64 x, .u64 y]) = some (.agg [.u64 x, .u64 y]) :=
  demK_aggI (by simp only [List.forall_mem_cons, List.not_mem_nil, false_implies, implies_true, and_true]; exact ⟨demK_u64, demK_u64⟩)
theorem f23 {K : AV → Heap → Prop} {H : Heap} {ks : List (BitVec 8)} {n : BitVec 64} (hk : ks.length = 32) (h : K (.tup [.agg [sndA (child (child ks n) 0), rcvA (child (child ks n) 1)], .agg [sndA (child (child ks n) 1), rcvA (child (child ks n) 0)]]) H) : wpF P [] 23 [.agg (ks.map .u8), .u64 n] H K := by
  refine wpF_go c23 rfl 6 ?_
  intro ha hb
  simp only [s23]
  (refine gw1 @hk ?_; try exact True.intro)
  refine f50 hk ?_
  have h1 := child_len ks n
  generalize child ks n = r at h h1 ⊢
  (refine gw1 @h1 ?_; try exact True.intro)
  refine f50 h1 ?_
  have h2 := child_len r 0
  have h3 := child_len r 1
  generalize child r 0 = r0 at h h2 ⊢
  (refine gw0 ?_; try exact True.intro)
  refine f51 h2 ?_
  simp only [rowV]
  (refine gw0 ?_; try exact True.intro)
  refine f50 h1 ?_
  generalize child r 1 = r1 at h h3 ⊢
  (refine gw0 ?_; try exact True.intro)
  refine f51 h3 ?_
  simp only [rowV, sndA, rcvA] at h ⊢
  have hzr0 : ∀ {k : Nat}, AV.bnds k (sdL (zS r0) 128) = true := bnds_sd
  generalize sdL (zS r0) 128 = zr0 at hzr0 h ⊢
  have hor0 : ∀ {k : Nat}, AV.bnds k (sdL (oS r0) 128) = true := bnds_sd
  generalize sdL (oS r0) 128 = or0 at hor0 h ⊢
  have hkr0 : ∀ {k : Nat}, AV.bnds k (sdL (kS r0) 128) = true := bnds_sd
  generalize sdL (kS r0) 128 = kr0 at hkr0 h ⊢
  have hzr1 : ∀ {k : Nat}, AV.bnds k (sdL (zS r1) 128) = true := bnds_sd
  generalize sdL (zS r1) 128 = zr1 at hzr1 h ⊢
  have hor1 : ∀ {k : Nat}, AV.bnds k (sdL (oS r1) 128) = true := bnds_sd
  generalize sdL (oS r1) 128 = or1 at hor1 h ⊢
  have hkr1 : ∀ {k : Nat}, AV.bnds k (sdL (kS r1) 128) = true := bnds_sd
  generalize sdL (kS r1) 128 = kr1 at hkr1 h ⊢
  generalize wdg r0 9 0 = x0 at h ⊢
  generalize wdg r0 9 1 = y0 at h ⊢
  generalize wdg r1 9 0 = x1 at h ⊢
  generalize wdg r1 9 1 = y1 at h ⊢
  simp (maxSteps := 2000000) only [↓vS_skip, ↓vS_reg, ↓vS_draw, ↓vS_seq, ↓wS_cond, ↓vS_block, ↓vS_exit, ↓vS_ret, ↓vI_nil, ↓vI_go, ↓wI_gd, ↓stepI_q, ↓stepI_e, ↓stepI_c, ↓stepI_v, ↓vD_nil, ↓vD_go, ↓wD_gd, ↓stepW_q, ↓stepW_e, ↓stepW_c, ↓stepW_v, ↓Kw_app, ↓KwD_app, ↓Kc_app, ↓Kp_app, ↓Kr_app, ↓Ks_n, ↓Ks_r, ↓Ks_x, ↓Kb_n, ↓Kb_r, ↓Kb_x, ↓Ku_n, ↓Ku_r, ↓Ku_x, ↓Kl_n, ↓Kl_r, ↓Kl_x, ↓Kend_n, ↓Kend_r, ↓Two_t, ↓Two_f, ↓unr_succ, ↓GdM_b, ↓GdM_t, ↓CdM_b, ↓TwU_t, ↓TwU_f, ↓ThI_app, ↓ThW_app, ↓ThK_app, ↓ThS_app, ↓stepI_p, ↓stepW_p, ↓stepI_w, ↓stepW_w, ↓xD_w, ↓stepI_n, ↓xD_n, ↓xD_q, ↓xD_e, ↓xD_c, ↓xD_v, ↓xD_p, ↓xD_m, ↓xD_s, ↓vX_nil, ↓vX_go, ↓wX_gd, ↓KwX_app, ↓stepI_m, ↓stepW_m, ↓hasSh_mbool, ↓hasSh_mu8, ↓hasSh_mu16, ↓hasSh_mu32, ↓hasSh_mu64, ↓hasSh_mint, putE_none, putE_var, putE_new, get_t, get_c, qev, eev, rsGet, rvGet, oneOf, binAV, isSh, bvBin, bvOp, bvCmp, bvSh, intBin, intSh, cvAV, unAV, AV.cnt, AV.num, Ken2_s, Ken3_s, htake_1, htake_2, beq_self_eq_true, beq_true, beq_false, Int.toNat_natCast, Int.natCast_nonneg, BitVec.reduceOfInt, BitVec.reduceToNat, bytesOf, List.map_cons, List.replicate_succ, Bool.not_eq_true, maxLen, Nat.reducePow, Nat.reduceMul, List.map_cons, List.map_nil, List.getD_cons_zero, List.getD_cons_succ, List.set_cons_zero, List.set_cons_succ, List.cons_append, List.nil_append, List.append_nil, List.take_succ_cons, List.take_zero, List.take_nil, List.length_cons, List.length_nil, List.replicate_succ, List.replicate_zero, Option.map_some, Option.map_none, List.getElem?_cons_zero, List.getElem?_cons_succ, true_and, and_true, if_true, if_false, ite_true, ite_false, reduceIte, reduceCtorEq, false_or, or_true, true_or, or_false, Option.some.injEq, Prod.mk.injEq, exists_eq_left', exists_eq_left, exists_eq_right, exists_and_left, exists_and_right, exists_const, and_assoc, decide_true, decide_false, Bool.false_eq_true, forall_const, Bool.not_true, Bool.not_false, false_implies, true_implies, Nat.reduceAdd, Nat.reduceSub, Nat.reduceMul, Nat.reduceLT, Nat.reduceLeDiff, Nat.reduceEqDiff, Int.reduceAdd, Int.reduceSub, Int.reduceMul, Int.reduceLT, Int.reduceLE, Int.reduceTMod, Int.reduceTDiv, Int.reduceToNat, Int.reduceEq, Int.reduceNe, Int.reduceNeg, ne_eq, not_false_eq_true, not_true_eq_false, InR, Bool.true_eq_false, Bool.false_eq_true, reduceDIte, Nat.zero_add, Nat.add_zero, Int.cast_ofNat_Int, eq_self, hget_0, hget_k, hget_z, hget_s, hset_0, hset_k, htake_0, lt_own0, lt_ownk, hasAt_nil, hasAt_arr, hasAt_st, hasSh_l, hasSh_aa, hasSh_sa, hasShs_n, hasShs_c, setAll, AV.isCell, Shape.size_leaf, Shape.size_arr, Shape.size_st, Shape.sizes_cons, Shape.sizes_nil, List.length_append, List.append_assoc, List.length_set, stP, ldP, getP, setP, psh, partsOf, slen, rd, demK_own, demK_ptr, demK_agg, demK_tup, demK_fn, demK_ro, demK_rp, demK_bool, demK_u8, demK_u16, demK_u32, demK_u64, demK_int, demK_str, demK_nilp, demK_nils, demK_nilf, demK_un, mapO, AV.bnds, AV.bnd, bne_self_eq_false, AV.plain2, AV.plain, List.all_cons, List.all_nil, List.take_length, List.drop_zero, List.drop_succ_cons, Nat.mul_one, List.getElem?_nil, List.forall_mem_cons, List.not_mem_nil, implies_true, Bool.and_true, Bool.true_and, Bool.and_false, Bool.false_and, and_self, and_false, false_and, Nat.sub_zero, bnds, bnds_bool, bnds_bool', mapO_bool, mapO_bool', bnds_u8, bnds_u8', mapO_u8, mapO_u8', bnds_u16, bnds_u16', mapO_u16, mapO_u16', bnds_u32, bnds_u32', mapO_u32, mapO_u32', bnds_u64, bnds_u64', mapO_u64, mapO_u64', bnds_int, bnds_int', mapO_int, mapO_int', bt, bf, Bool.not_not, nilK_nils, nilK_own, nilK_ro, ninL_n, ninL_c, disL_n, disL_r, disL_c, chkL_n, chkL_c, apartL_e, fp_ld, fp_b2s, fp_st, fp_app, fp_appS, fp_cpy, fp_cpyS, tb_own, tb_ptr, tb_ro, tb_rp, tb_nils, tb_str, ne_ah, ne_ha, hk]
  have hdem : ∀ {hp : Heap}, dem H.length hp 6 (.tup [.agg [.agg [.agg [.u64 x0, .u64 y0], .ro (.arr 32 .leaf) kr0], .agg [.ro (.arr 32 .leaf) zr1, .ro (.arr 32 .leaf) or1]], .agg [.agg [.agg [.u64 x1, .u64 y1], .ro (.arr 32 .leaf) kr1], .agg [.ro (.arr 32 .leaf) zr0, .ro (.arr 32 .leaf) or0]]]) =
      some (.tup [.agg [.agg [.agg [.u64 x0, .u64 y0], .ro (.arr 32 .leaf) kr0], .agg [.ro (.arr 32 .leaf) zr1, .ro (.arr 32 .leaf) or1]], .agg [.agg [.agg [.u64 x1, .u64 y1], .ro (.arr 32 .leaf) kr1], .agg [.ro (.arr 32 .leaf) zr0, .ro (.arr 32 .leaf) or0]]]) := by
    intro hp
    unfold dem
    refine demK_tupI ?_
    simp only [List.forall_mem_cons, List.not_mem_nil, false_implies, implies_true, and_true]
    refine ⟨demK_aggI ?_, demK_aggI ?_⟩
    · simp only [List.forall_mem_cons, List.not_mem_nil, false_implies, implies_true, and_true]
      refine ⟨demK_aggI ?_, demK_aggI ?_⟩
      · simp only [List.forall_mem_cons, List.not_mem_nil, false_implies, implies_true, and_true]
        exact ⟨dem_row, demK_roI hkr0⟩
      · simp only [List.forall_mem_cons, List.not_mem_nil, false_implies, implies_true, and_true]
        exact ⟨demK_roI hzr1, demK_roI hor1⟩
    · simp only [List.forall_mem_cons, List.not_mem_nil, false_implies, implies_true, and_true]
      refine ⟨demK_aggI ?_, demK_aggI ?_⟩
      · simp only [List.forall_mem_cons, List.not_mem_nil, false_implies, implies_true, and_true]
        exact ⟨dem_row, demK_roI hkr1⟩
      · simp only [List.forall_mem_cons, List.not_mem_nil, false_implies, implies_true, and_true]
        exact ⟨demK_roI hzr0, demK_roI hor0⟩
  rw [hdem]
  (refine gw0 ?_; try exact True.intro)
  exact h

end Go.Proofs.Ytjilenmngokhpaa
