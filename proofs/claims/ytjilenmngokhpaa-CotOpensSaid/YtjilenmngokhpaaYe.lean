/-
  Layer 19 (cot): what who chose has; the program's and the reference's; the law's own helpers.
-/
import Derived.Test.YtjilenmngokhpaaYc
import Derived.Test.YtjilenmngokhpaaV38
import Derived.Test.YtjilenmngokhpaaV44
section
open Go Go.V
namespace Go.Proofs.Ytjilenmngokhpaa
/-- trefoil/trefoillaw19.pairs (0:l, 2:, 3:out, 4:i, 8:) -/
def s13 : FnS := ⟨26, [0, 2, 3, 4, 8],
    (.seq (.reg [⟨.var 1, (.q .mv), [.c .nils], none⟩])
    (.seq (.reg [⟨.var 2, (.q .mv), [.c .nils], none⟩])
    (.seq (.seq (.reg [⟨.var 3, (.q .mv), [.c (.int 0)], none⟩])
    (.block 0 (.loop (.seq (.seq (.reg [⟨.new, (.q .mv), [.t 3], none⟩,
      ⟨.new, (.q .mv), [.t 0], none⟩,
      ⟨.new, (.q .len), [.t 6], none⟩,
      ⟨.var 4, (.q (.bin .lss)), [.t 5, .t 7], none⟩])
    (.cond (.t 4) .skip
    (.exit 0)))
    (.seq (.block 1 (.draw [⟨.new, (.q .mv), [.t 2], none⟩,
      ⟨.new, (.q .mv), [.t 0], none⟩,
      ⟨.new, (.q .mv), [.t 3], none⟩,
      ⟨.new, (.q (.iaS (.st [(.arr 32 .leaf), (.arr 32 .leaf)]))), [.t 6, .t 7], none⟩,
      ⟨.new, (.q (.fa [(.arr 32 .leaf), (.arr 32 .leaf)] 0)), [.t 8], none⟩,
      ⟨.new, (.q (.ld (.arr 32 .leaf))), [.t 9], none⟩,
      ⟨.new, (.q .mv), [.t 0], none⟩,
      ⟨.new, (.q .mv), [.t 3], none⟩,
      ⟨.new, (.q (.iaS (.st [(.arr 32 .leaf), (.arr 32 .leaf)]))), [.t 11, .t 12], none⟩,
      ⟨.new, (.q (.fa [(.arr 32 .leaf), (.arr 32 .leaf)] 1)), [.t 13], none⟩,
      ⟨.new, (.q (.ld (.arr 32 .leaf))), [.t 14], none⟩,
      ⟨.new, (.e (.bld (.st [(.arr 32 .leaf), (.arr 32 .leaf)]) (.agg [(.agg [(.u8 0), (.u8 0), (.u8 0), (.u8 0), (.u8 0), (.u8 0), (.u8 0), (.u8 0), (.u8 0), (.u8 0), (.u8 0), (.u8 0), (.u8 0), (.u8 0), (.u8 0), (.u8 0), (.u8 0), (.u8 0), (.u8 0), (.u8 0), (.u8 0), (.u8 0), (.u8 0), (.u8 0), (.u8 0), (.u8 0), (.u8 0), (.u8 0), (.u8 0), (.u8 0), (.u8 0), (.u8 0)]), (.agg [(.u8 0), (.u8 0), (.u8 0), (.u8 0), (.u8 0), (.u8 0), (.u8 0), (.u8 0), (.u8 0), (.u8 0), (.u8 0), (.u8 0), (.u8 0), (.u8 0), (.u8 0), (.u8 0), (.u8 0), (.u8 0), (.u8 0), (.u8 0), (.u8 0), (.u8 0), (.u8 0), (.u8 0), (.u8 0), (.u8 0), (.u8 0), (.u8 0), (.u8 0), (.u8 0), (.u8 0), (.u8 0)])]) [0, 1])), [.t 10, .t 15], none⟩,
      ⟨.new, (.e (.bsl 88 (.st [(.arr 32 .leaf), (.arr 32 .leaf)]) (.agg [(.agg [(.u8 0), (.u8 0), (.u8 0), (.u8 0), (.u8 0), (.u8 0), (.u8 0), (.u8 0), (.u8 0), (.u8 0), (.u8 0), (.u8 0), (.u8 0), (.u8 0), (.u8 0), (.u8 0), (.u8 0), (.u8 0), (.u8 0), (.u8 0), (.u8 0), (.u8 0), (.u8 0), (.u8 0), (.u8 0), (.u8 0), (.u8 0), (.u8 0), (.u8 0), (.u8 0), (.u8 0), (.u8 0)]), (.agg [(.u8 0), (.u8 0), (.u8 0), (.u8 0), (.u8 0), (.u8 0), (.u8 0), (.u8 0), (.u8 0), (.u8 0), (.u8 0), (.u8 0), (.u8 0), (.u8 0), (.u8 0), (.u8 0), (.u8 0), (.u8 0), (.u8 0), (.u8 0), (.u8 0), (.u8 0), (.u8 0), (.u8 0), (.u8 0), (.u8 0), (.u8 0), (.u8 0), (.u8 0), (.u8 0), (.u8 0), (.u8 0)])]) 1 [0])), [.t 16], none⟩,
      ⟨.new, (.e (.app 88 (.st [(.arr 32 .leaf), (.arr 32 .leaf)]) 64)), [.t 5, .t 17], none⟩,
      ⟨.var 2, (.q .mv), [.t 18], none⟩]))
    (.reg [⟨.new, (.q .mv), [.t 3], none⟩,
      ⟨.new, (.q (.bin .add)), [.t 5, .c (.int 1)], none⟩,
      ⟨.var 3, (.q .mv), [.t 6], none⟩]))))))
    (.seq (.reg [⟨.new, (.q .mv), [.t 2], none⟩,
      ⟨.var 1, (.q .mv), [.t 5], none⟩])
    .ret)))),
    [.t 1]⟩

/-- trefoil/cot.Receive (0:width, 1:n, 2:seeds, 3:choices, 4:fix, 8:choices, 10:, 11:, 12:e, 13:out, 14:j, 15:s, 16:l, 17:e, 18:i, 19:x, 24:, 45:, 49:, 50:, 51:, 52:, 64:, 66:, 67:, 68:, 76:) -/
def s17 : FnS := ⟨95, [0, 1, 2, 3, 4, 8, 10, 11, 12, 13, 14, 15, 16, 17, 18, 19, 24, 45, 49, 50, 51, 52, 64, 66, 67, 68, 76],
    (.seq (.reg [⟨.var 5, (.e (.box 37 (.st [.leaf, .leaf]))), [.t 3], none⟩,
      ⟨.var 6, (.q .mv), [.c .nils], none⟩,
      ⟨.var 7, (.q .mv), [.c (.int 0)], none⟩])
    (.seq (.seq (.reg [⟨.new, (.q .mv), [.t 0], none⟩,
      ⟨.new, (.q .mv), [.t 1], none⟩,
      ⟨.new, (.call 35), [.t 27, .t 28], none⟩,
      ⟨.var 8, (.q .mv), [.t 29], none⟩])
    (.seq (.reg [⟨.new, (.q .mv), [.t 8], none⟩,
      ⟨.var 16, (.q (.bin .neq)), [.t 27, .c (.int 0)], none⟩])
    (.cond (.t 16) (.seq (.reg [⟨.new, (.q .mv), [.t 8], none⟩,
      ⟨.var 6, (.q .mv), [.c .nils], none⟩,
      ⟨.var 7, (.q .mv), [.t 27], none⟩])
    .ret)
    .skip)))
    (.seq (.seq (.reg [⟨.new, (.q .mv), [.t 2], none⟩,
      ⟨.new, (.q .len), [.t 27], none⟩,
      ⟨.new, (.q (.ld (.st [.leaf, .leaf]))), [.t 5], none⟩,
      ⟨.new, (.call 46), [.t 29], none⟩,
      ⟨.new, (.q (.bin .neq)), [.t 28, .t 30], none⟩,
      ⟨.new, (.q .mv), [.t 31], none⟩,
      ⟨.new, (.q .mv), [.t 4], (some (32, false))⟩,
      ⟨.new, (.q .len), [.t 33], (some (32, false))⟩,
      ⟨.new, (.q .mv), [.t 1], (some (32, false))⟩,
      ⟨.new, (.q .mv), [.t 2], (some (32, false))⟩,
      ⟨.new, (.q .len), [.t 36], (some (32, false))⟩,
      ⟨.new, (.q (.bin .mul)), [.t 35, .t 37], (some (32, false))⟩,
      ⟨.new, (.q (.bin .neq)), [.t 34, .t 38], (some (32, false))⟩,
      ⟨.new, (.q .pick), [.t 32, .c (.bool true), .t 39], none⟩,
      ⟨.new, (.q .mv), [.t 40], none⟩,
      ⟨.new, (.q .mv), [.t 0], (some (41, false))⟩,
      ⟨.new, (.q .mv), [.t 4], (some (41, false))⟩,
      ⟨.new, (.call 36), [.t 42, .t 43], (some (41, false))⟩,
      ⟨.new, (.q (.un .not)), [.t 44], (some (41, false))⟩,
      ⟨.var 17, (.q .pick), [.t 41, .c (.bool true), .t 45], none⟩])
    (.cond (.t 17) (.seq (.reg [⟨.var 6, (.q .mv), [.c .nils], none⟩,
      ⟨.var 7, (.q .mv), [.c (.int 11)], none⟩])
    .ret)
    .skip))
    (.seq (.reg [⟨.new, (.q .mv), [.t 4], none⟩,
      ⟨.new, (.q .len), [.t 27], none⟩,
      ⟨.new, (.e (.mksl 49 .leaf 8 (.u64 0))), [.c (.int 0), .t 28], none⟩,
      ⟨.var 9, (.q .mv), [.t 29], none⟩])
    (.seq (.seq (.reg [⟨.var 18, (.q .mv), [.t 2], none⟩,
      ⟨.var 19, (.q .len), [.t 18], none⟩,
      ⟨.var 20, (.q .mv), [.c (.int 0)], none⟩])
    (.block 0 (.loop (.seq (.reg [⟨.var 21, (.q (.bin .lss)), [.t 20, .t 19], none⟩])
    (.seq (.cond (.t 21) .skip
    (.exit 0))
    (.seq (.block 1 (.seq (.reg [⟨.new, (.q .mv), [.t 20], none⟩,
      ⟨.new, (.q (.iaS (.arr 32 .leaf))), [.t 18, .t 20], none⟩,
      ⟨.new, (.q (.ld (.arr 32 .leaf))), [.t 28], none⟩,
      ⟨.var 11, (.e (.alloc 46 (.arr 32 .leaf) (.agg [(.u8 0), (.u8 0), (.u8 0), (.u8 0), (.u8 0), (.u8 0), (.u8 0), (.u8 0), (.u8 0), (.u8 0), (.u8 0), (.u8 0), (.u8 0), (.u8 0), (.u8 0), (.u8 0), (.u8 0), (.u8 0), (.u8 0), (.u8 0), (.u8 0), (.u8 0), (.u8 0), (.u8 0), (.u8 0), (.u8 0), (.u8 0), (.u8 0), (.u8 0), (.u8 0), (.u8 0), (.u8 0)]))), [], none⟩,
      ⟨.var 10, (.q .mv), [.t 27], none⟩,
      ⟨.none, (.e (.store (.arr 32 .leaf))), [.t 11, .t 29], none⟩])
    (.seq (.reg [⟨.new, (.q (.ld (.arr 32 .leaf))), [.t 11], none⟩,
      ⟨.new, (.q .mv), [.t 0], none⟩,
      ⟨.new, (.q .mv), [.t 1], none⟩,
      ⟨.new, (.call 37), [.t 27, .t 28, .t 29], none⟩,
      ⟨.new, (.q .mv), [.t 30], none⟩,
      ⟨.new, (.q (.ext 0)), [.t 31], none⟩,
      ⟨.new, (.q (.ext 1)), [.t 31], none⟩,
      ⟨.var 12, (.q .mv), [.t 32], none⟩,
      ⟨.var 13, (.q .mv), [.t 33], none⟩])
    (.seq (.seq (.reg [⟨.new, (.q .mv), [.t 13], none⟩,
      ⟨.var 22, (.q (.bin .neq)), [.t 27, .c (.int 0)], none⟩])
    (.cond (.t 22) (.seq (.reg [⟨.new, (.q .mv), [.t 13], none⟩,
      ⟨.var 6, (.q .mv), [.c .nils], none⟩,
      ⟨.var 7, (.q .mv), [.t 27], none⟩])
    .ret)
    .skip))
    (.seq (.reg [⟨.var 23, (.q .mv), [.t 1], none⟩,
      ⟨.var 24, (.q .mv), [.c (.int 0)], none⟩])
    (.block 2 (.loop (.seq (.reg [⟨.var 25, (.q (.bin .lss)), [.t 24, .t 23], none⟩])
    (.seq (.cond (.t 25) .skip
    (.exit 2))
    (.seq (.block 3 (.seq (.reg [⟨.new, (.q .mv), [.t 24], none⟩,
      ⟨.var 14, (.q .mv), [.t 27], none⟩])
    (.seq (.reg [⟨.new, (.q .mv), [.t 12], none⟩,
      ⟨.new, (.q .mv), [.t 14], none⟩,
      ⟨.new, (.q (.iaS .leaf)), [.t 27, .t 28], none⟩,
      ⟨.new, (.q (.ld .leaf)), [.t 29], none⟩,
      ⟨.var 15, (.q .mv), [.t 30], none⟩])
    (.seq (.seq (.reg [⟨.new, (.q (.ld (.st [.leaf, .leaf]))), [.t 5], none⟩,
      ⟨.new, (.q .mv), [.t 10], none⟩,
      ⟨.var 26, (.call 47), [.t 27, .t 28], none⟩])
    (.cond (.t 26) (.reg [⟨.new, (.q .mv), [.t 0], none⟩,
      ⟨.new, (.q .mv), [.t 15], none⟩,
      ⟨.new, (.q .mv), [.t 4], none⟩,
      ⟨.new, (.q .mv), [.t 10], none⟩,
      ⟨.new, (.q .mv), [.t 1], none⟩,
      ⟨.new, (.q (.bin .mul)), [.t 30, .t 31], none⟩,
      ⟨.new, (.q .mv), [.t 14], none⟩,
      ⟨.new, (.q (.bin .add)), [.t 32, .t 33], none⟩,
      ⟨.new, (.q (.iaS .leaf)), [.t 29, .t 34], none⟩,
      ⟨.new, (.q (.ld .leaf)), [.t 35], none⟩,
      ⟨.new, (.call 38), [.t 27, .t 28, .t 36], none⟩,
      ⟨.var 15, (.q .mv), [.t 37], none⟩])
    .skip))
    (.reg [⟨.new, (.q .mv), [.t 9], none⟩,
      ⟨.new, (.q .mv), [.t 15], none⟩,
      ⟨.new, (.e (.bsl 49 .leaf (.u64 0) 1 [0])), [.t 28], none⟩,
      ⟨.new, (.e (.app 49 .leaf 8)), [.t 27, .t 29], none⟩,
      ⟨.var 9, (.q .mv), [.t 30], none⟩])))))
    (.reg [⟨.new, (.q (.bin .add)), [.t 24, .c (.int 1)], none⟩,
      ⟨.var 24, (.q .mv), [.t 27], none⟩])))))))))))
    (.reg [⟨.new, (.q (.bin .add)), [.t 20, .c (.int 1)], none⟩,
      ⟨.var 20, (.q .mv), [.t 27], none⟩])))))))
    (.seq (.reg [⟨.new, (.q .mv), [.t 9], none⟩,
      ⟨.var 6, (.q .mv), [.t 27], none⟩,
      ⟨.var 7, (.q .mv), [.c (.int 0)], none⟩])
    .ret)))))),
    [.t 6, .t 7]⟩

/-- trefoil/trefoilref19.Receive (0:width, 1:n, 2:seeds, 3:choices, 4:fix, 10:, 11:, 12:out, 13:j, 14:l, 16:i, 41:, 45:, 60:, 66:) -/
def s18 : FnS := ⟨92, [0, 1, 2, 3, 4, 10, 11, 12, 13, 14, 16, 41, 45, 60, 66],
    (.seq (.reg [⟨.var 5, (.q .mv), [.c .nils], none⟩,
      ⟨.var 6, (.q .mv), [.c (.int 0)], none⟩])
    (.seq (.seq (.reg [⟨.new, (.q .mv), [.t 0], none⟩,
      ⟨.new, (.q .mv), [.t 1], none⟩,
      ⟨.new, (.call 41), [.t 15, .t 16], none⟩,
      ⟨.new, (.q .mv), [.t 17], none⟩,
      ⟨.new, (.q .mv), [.t 2], (some (18, false))⟩,
      ⟨.new, (.q .len), [.t 19], (some (18, false))⟩,
      ⟨.new, (.q .mv), [.t 3], (some (18, false))⟩,
      ⟨.new, (.q .len), [.t 21], (some (18, false))⟩,
      ⟨.new, (.q (.bin .neq)), [.t 20, .t 22], (some (18, false))⟩,
      ⟨.new, (.q .pick), [.t 18, .c (.bool true), .t 23], none⟩,
      ⟨.new, (.q .mv), [.t 24], none⟩,
      ⟨.new, (.q .mv), [.t 4], (some (25, false))⟩,
      ⟨.new, (.q .len), [.t 26], (some (25, false))⟩,
      ⟨.new, (.q .mv), [.t 1], (some (25, false))⟩,
      ⟨.new, (.q .mv), [.t 2], (some (25, false))⟩,
      ⟨.new, (.q .len), [.t 29], (some (25, false))⟩,
      ⟨.new, (.q (.bin .mul)), [.t 28, .t 30], (some (25, false))⟩,
      ⟨.new, (.q (.bin .neq)), [.t 27, .t 31], (some (25, false))⟩,
      ⟨.new, (.q .pick), [.t 25, .c (.bool true), .t 32], none⟩,
      ⟨.new, (.q .mv), [.t 33], none⟩,
      ⟨.new, (.q .mv), [.t 0], (some (34, false))⟩,
      ⟨.new, (.q .mv), [.t 4], (some (34, false))⟩,
      ⟨.new, (.call 21), [.t 35, .t 36], (some (34, false))⟩,
      ⟨.new, (.q (.un .not)), [.t 37], (some (34, false))⟩,
      ⟨.var 11, (.q .pick), [.t 34, .c (.bool true), .t 38], none⟩])
    (.cond (.t 11) (.seq (.reg [⟨.var 5, (.q .mv), [.c .nils], none⟩,
      ⟨.var 6, (.q .mv), [.c (.int 11)], none⟩])
    .ret)
    .skip))
    (.seq (.reg [⟨.var 7, (.q .mv), [.c .nils], none⟩])
    (.seq (.seq (.reg [⟨.var 8, (.q .mv), [.c (.int 0)], none⟩])
    (.block 0 (.loop (.seq (.seq (.reg [⟨.new, (.q .mv), [.t 8], none⟩,
      ⟨.new, (.q .mv), [.t 2], none⟩,
      ⟨.new, (.q .len), [.t 16], none⟩,
      ⟨.var 12, (.q (.bin .lss)), [.t 15, .t 17], none⟩])
    (.cond (.t 12) .skip
    (.exit 0)))
    (.seq (.block 1 (.seq (.reg [⟨.new, (.q .mv), [.t 2], none⟩,
      ⟨.new, (.q .mv), [.t 8], none⟩,
      ⟨.new, (.q (.iaS (.arr 32 .leaf))), [.t 15, .t 16], none⟩,
      ⟨.new, (.q (.ld (.arr 32 .leaf))), [.t 17], none⟩,
      ⟨.new, (.q .mv), [.t 0], none⟩,
      ⟨.new, (.q .mv), [.t 1], none⟩,
      ⟨.new, (.call 42), [.t 18, .t 19, .t 20], none⟩,
      ⟨.new, (.q .mv), [.t 21], none⟩,
      ⟨.new, (.q (.ext 0)), [.t 22], none⟩,
      ⟨.new, (.q (.ext 1)), [.t 22], none⟩,
      ⟨.var 9, (.q .mv), [.t 23], none⟩,
      ⟨.new, (.q .mv), [.t 24], none⟩])
    (.seq (.reg [⟨.var 10, (.q .mv), [.c (.int 0)], none⟩])
    (.block 2 (.loop (.seq (.seq (.reg [⟨.new, (.q .mv), [.t 10], none⟩,
      ⟨.new, (.q .mv), [.t 1], none⟩,
      ⟨.var 13, (.q (.bin .lss)), [.t 15, .t 16], none⟩])
    (.cond (.t 13) .skip
    (.exit 2)))
    (.seq (.block 3 (.seq (.seq (.reg [⟨.new, (.q .mv), [.t 3], none⟩,
      ⟨.new, (.q .mv), [.t 8], none⟩,
      ⟨.new, (.q (.iaS .leaf)), [.t 15, .t 16], none⟩,
      ⟨.var 14, (.q (.ld .leaf)), [.t 17], none⟩])
    (.cond (.t 14) (.draw [⟨.new, (.q .mv), [.t 9], none⟩,
      ⟨.new, (.q .mv), [.t 10], none⟩,
      ⟨.new, (.q .mv), [.t 0], none⟩,
      ⟨.new, (.q .mv), [.t 9], none⟩,
      ⟨.new, (.q .mv), [.t 10], none⟩,
      ⟨.new, (.q (.iaS .leaf)), [.t 18, .t 19], none⟩,
      ⟨.new, (.q (.ld .leaf)), [.t 20], none⟩,
      ⟨.new, (.q .mv), [.t 4], none⟩,
      ⟨.new, (.q .mv), [.t 8], none⟩,
      ⟨.new, (.q .mv), [.t 1], none⟩,
      ⟨.new, (.q (.bin .mul)), [.t 23, .t 24], none⟩,
      ⟨.new, (.q .mv), [.t 10], none⟩,
      ⟨.new, (.q (.bin .add)), [.t 25, .t 26], none⟩,
      ⟨.new, (.q (.iaS .leaf)), [.t 22, .t 27], none⟩,
      ⟨.new, (.q (.ld .leaf)), [.t 28], none⟩,
      ⟨.new, (.call 44), [.t 17, .t 21, .t 29], none⟩,
      ⟨.new, (.q (.iaS .leaf)), [.t 15, .t 16], none⟩,
      ⟨.none, (.e (.store .leaf)), [.t 31, .t 30], none⟩])
    .skip))
    (.reg [⟨.new, (.q .mv), [.t 7], none⟩,
      ⟨.new, (.q .mv), [.t 9], none⟩,
      ⟨.new, (.q .mv), [.t 10], none⟩,
      ⟨.new, (.q (.iaS .leaf)), [.t 16, .t 17], none⟩,
      ⟨.new, (.q (.ld .leaf)), [.t 18], none⟩,
      ⟨.new, (.e (.bsl 49 .leaf (.u64 0) 1 [0])), [.t 19], none⟩,
      ⟨.new, (.e (.app 49 .leaf 8)), [.t 15, .t 20], none⟩,
      ⟨.var 7, (.q .mv), [.t 21], none⟩])))
    (.reg [⟨.new, (.q .mv), [.t 10], none⟩,
      ⟨.new, (.q (.bin .add)), [.t 15, .c (.int 1)], none⟩,
      ⟨.var 10, (.q .mv), [.t 16], none⟩]))))))))
    (.reg [⟨.new, (.q .mv), [.t 8], none⟩,
      ⟨.new, (.q (.bin .add)), [.t 15, .c (.int 1)], none⟩,
      ⟨.var 8, (.q .mv), [.t 16], none⟩]))))))
    (.seq (.reg [⟨.new, (.q .mv), [.t 7], none⟩,
      ⟨.var 5, (.q .mv), [.t 15], none⟩,
      ⟨.var 6, (.q .mv), [.c (.int 0)], none⟩])
    .ret))))),
    [.t 5, .t 6]⟩

/-- trefoil/cot.Open (0:width, 1:a, 2:b, 6:, 7:) -/
def s20 : FnS := ⟨14, [0, 1, 2, 6, 7],
    (.seq (.reg [⟨.var 3, (.q .mv), [.c .nils], none⟩,
      ⟨.var 4, (.q .mv), [.c (.int 0)], none⟩])
    (.seq (.reg [⟨.new, (.q .mv), [.t 0], none⟩,
      ⟨.new, (.q .mv), [.t 1], none⟩,
      ⟨.new, (.q .mv), [.t 2], none⟩,
      ⟨.new, (.call 48), [.t 5, .t 6, .t 7], none⟩,
      ⟨.new, (.q (.ext 0)), [.t 8], none⟩,
      ⟨.new, (.q (.ext 1)), [.t 8], none⟩,
      ⟨.var 3, (.q .mv), [.t 9], none⟩,
      ⟨.var 4, (.q .mv), [.t 10], none⟩])
    .ret)),
    [.t 3, .t 4]⟩

set_option maxRecDepth 100000
set_option linter.unusedSimpArgs false
set_option linter.unusedVariables false
theorem c13 : cF P [] (drP P []) 13 1 s13.vm = some s13 := by kernel_rfl
theorem c17 : cF P [] (drP P []) 17 5 s17.vm = some s17 := by kernel_rfl
theorem c18 : cF P [] (drP P []) 18 5 s18.vm = some s18 := by kernel_rfl
theorem c20 : cF P [] (drP P []) 20 3 s20.vm = some s20 := by kernel_rfl
theorem take_next {α : Type} {xs : List α} {i : Nat} {d : α} (h : i < xs.length) : xs.take (i + 1) = xs.take i ++ [xs.getD i d] := by
  rw [List.take_add_one, List.getD_eq_getElem?_getD, List.getElem?_eq_getElem h]
  rfl
def prB (v n : Nat) (l : List Pr) : Option Blk := some ⟨88, v, true, .arr n prS, .agg (l.map prA)⟩
def I13 (l : List Pr) (H : Heap) (k : Nat) (st : St) : Prop :=
  ∃ (i : Nat) (out u4 : AV) (L : Heap), st = ⟨[.ro prS (l.map prA), .nils, out, .int (i : Int), u4], H ++ L⟩ ∧ k = l.length - i ∧ i ≤ l.length ∧
    ((i = 0 ∧ out = .nils ∧ L = []) ∨ (0 < i ∧ out = .own (H.length + 1) i [] 0 i prS ∧ ∃ T J, L = T :: prB i i (l.take i) :: J))
theorem prA_kind {l : List Pr} (hok : ∀ p ∈ l, p.ok) : ∀ q ∈ l.map prA, HasSh prS q := by
  intro q hq
  obtain ⟨p, hp, rfl⟩ := List.mem_map.1 hq
  obtain ⟨h1, h2⟩ := hok p hp
  unfold prA
  (refine gw2 @h1 @h2 ?_; try exact True.intro)
theorem mapO_prA {l : List Pr} {kp : Nat → Bool} {N : Nat} {h : Heap} {d : Nat} : mapO (demK kp N h (d + 3)) (l.map prA) = some (l.map prA) := by
  refine mapO_ext rfl fun t ht => ?_
  have ht' : t < l.length := by simpa using ht
  rw [ld_pr ht']
  (refine gw0 ?_; try exact True.intro)
/-- pairs, as the law's own helper hands them back -/
def prL (l : List Pr) : AV := if l.length = 0 then .nils else .ro prS (l.map prA)
theorem prL_isP {l : List Pr} : isP (prL l) l := by
  unfold prL isP
  by_cases h : l.length = 0
  · rw [if_pos h]; exact .inr ⟨List.length_eq_zero_iff.1 h, rfl⟩
  · rw [if_neg h]; exact .inl rfl
theorem f13 {K : AV → Heap → Prop} {H : Heap} {l : List Pr} (hl : l.length ≤ 1000) (hok : ∀ p ∈ l, p.ok) (h : K (prL l) H) : wpF P [] 13 [.ro prS (l.map prA)] H K := by
  refine wpF_go c13 rfl 4 ?_
  intro ha hb
  simp only [s13]
  clear ha hb
  have ll : (l.map prA).length = l.length := by simp
  (refine gw0 ?_; try exact True.intro)
  refine wp_inv (I13 l H) l.length ⟨0, _, _, [], by rw [List.append_nil]; rfl, rfl, Nat.zero_le _, .inl ⟨rfl, rfl, rfl⟩⟩ ?_
  rintro k st ⟨i, out, u4, L, rfl, rfl, hi, hc⟩
  by_cases hil : i < l.length
  · have e1 : ((i : Int) < (l.length : Int)) = True := by simp only [eq_iff_iff, iff_true]; omega
    have gp := ld_pr hil
    obtain ⟨hz, ho⟩ := pr_ok hok hil
    have hnx := take_next (d := prD) hil
    rcases hc with ⟨hi0, rfl, rfl⟩ | ⟨hi0, rfl, T, J, rfl⟩
    · (refine gw5 @e1 @ll @gp @hz @ho ?_; try exact True.intro)
      (repeat (refine And.intro (by omega) ?_))
      exact ⟨l.length - (i + 1), by omega, i + 1, _, _, _, rfl, rfl, by omega, .inr ⟨by omega, by rw [hi0], _, [], by rw [hnx, hi0]; rfl⟩⟩
    · unfold prB
      (refine gw5 @e1 @ll @gp @hz @ho ?_; try exact True.intro)
      (repeat (refine And.intro (by omega) ?_))
      exact ⟨l.length - (i + 1), by omega, i + 1, _, _, _, rfl, rfl, by omega, .inr ⟨by omega, rfl, _, _, by rw [hnx]; unfold prB; rw [List.map_append]; rfl⟩⟩
  · have e1 : ((i : Int) < (l.length : Int)) = False := by simp only [eq_iff_iff, iff_false]; omega
    have hie : i = l.length := by omega
    rw [hie, List.take_of_length_le (Nat.le_refl _)] at hc
    rcases hc with ⟨hi0, rfl, rfl⟩ | ⟨hi0, rfl, T, J, rfl⟩
    · (refine gw2 @e1 @ll ?_; try exact True.intro)
      unfold prL at h
      rw [if_pos hi0] at h
      exact h
    · unfold prB
      have ht1 : List.take l.length (l.map prA) = l.map prA := List.take_of_length_le (by simp)
      have hm1 := @mapO_prA l
      (refine gw4 @e1 @ll @ht1 @hm1 ?_; try exact True.intro)
      unfold prL at h
      rw [if_neg (by omega)] at h
      exact h
theorem f13p {K : AV → Heap → Prop} {H : Heap} {l : List Pr} (hl : l.length ≤ 1000) (hok : ∀ p ∈ l, p.ok) (h : ∀ A, isP A l → K A H) : wpF P [] 13 [.ro prS (l.map prA)] H K := f13 hl hok (h _ prL_isP)
def sdA (s : List (BitVec 8)) : AV := .agg (s.map .u8)
def isS (A : AV) (ss : List (List (BitVec 8))) : Prop := A = .ro (.arr 32 .leaf) (ss.map sdA) ∨ (ss = [] ∧ A = .nils)
theorem ld_sd {ss : List (List (BitVec 8))} {i : Nat} (h : i < ss.length) : (ss.map sdA).getD i .un = .agg ((ss.getD i []).map .u8) := by
  rw [List.getD_eq_getElem?_getD, List.getElem?_map, List.getD_eq_getElem?_getD, List.getElem?_eq_getElem h]; rfl
theorem sd_ok {ss : List (List (BitVec 8))} (hs : ∀ s ∈ ss, s.length = 32) {i : Nat} (h : i < ss.length) : (ss.getD i []).length = 32 := by
  rw [List.getD_eq_getElem?_getD, List.getElem?_eq_getElem h]
  exact hs _ (List.getElem_mem h)
/-- what who chose has -/
def rcF (W N : Nat) (ss : List (List (BitVec 8))) (c : Nat → Bool) (xs : List (BitVec 64)) (t : Nat) : BitVec 64 :=
  if c (t / N) then msk W (nuF (ss.getD (t / N) []) W (t % N) + xs.getD t 0) else nuF (ss.getD (t / N) []) W (t % N)
def vcB (m : Nat) (wv : List AV) : Option Blk := some ⟨37, 0, false, .arr 1 (.st [.leaf, .leaf]), .agg [.agg [.int (m : Int), .ro .leaf wv]]⟩
def I17a (W N m : Nat) (A : AV) (ss : List (List (BitVec 8))) (c : Nat → Bool) (wv : List AV) (xs : List (BitVec 64)) (H : Heap) (k : Nat) (st : St) : Prop :=
  ∃ (j t : Nat) (u10 u11 u12 u13 u14 u15 u21 u22 u23 u24 u25 u26 : AV) (J : Heap), st = ⟨[.int W, .int N, A, .agg [.int (m : Int), .ro .leaf wv], .ro .leaf (xs.map .u64), .ptr H.length 0 [0] (.st [.leaf, .leaf]), .nils, .int 0, .int 0, .own (H.length + 1) t [] 0 t .leaf, u10, u11, u12, u13, u14, u15, .bool false, .bool false, A, .int ss.length, .int j, u21, u22, u23, u24, u25, u26],
    H ++ vcB m wv :: uB t t (rL (rcF W N ss c xs) t) :: J⟩ ∧ k = ss.length - j ∧ j ≤ ss.length ∧ t = j * N + 0
def I17b (W N m : Nat) (A : AV) (ss : List (List (BitVec 8))) (c : Nat → Bool) (wv : List AV) (xs : List (BitVec 64)) (j : Nat) (p : AV) (H : Heap) (k : Nat) (st : St) : Prop :=
  ∃ (i t : Nat) (u14 u15 u25 u26 : AV) (J : Heap), st = ⟨[.int W, .int N, A, .agg [.int (m : Int), .ro .leaf wv], .ro .leaf (xs.map .u64), .ptr H.length 0 [0] (.st [.leaf, .leaf]), .nils, .int 0, .int 0, .own (H.length + 1) t [] 0 t .leaf, .int j, p, .ro .leaf (rL (nuF (ss.getD j []) W) N), .int 0, u14, u15, .bool false, .bool false, A, .int ss.length, .int j, .bool true, .bool false, .int N, .int i, u25, u26],
    H ++ vcB m wv :: uB t t (rL (rcF W N ss c xs) t) :: J⟩ ∧ k = N - i ∧ i ≤ N ∧ t = j * N + i
theorem f17 {K : AV → Heap → Prop} {H : Heap} {W N : Nat} {ss : List (List (BitVec 8))} {c : Nat → Bool} {xs : List (BitVec 64)} (hl : ss.length ≤ 1000) (hok : ∀ s ∈ ss, s.length = 32) (hw : okW W N = true) (hd : xs.length = N * ss.length) (hf : fitL W xs = true) (h : K (.tup [.ro .leaf (rL (rcF W N ss c xs) xs.length), .int 0]) H) : wpF P [] 17 [.int W, .int N, .ro (.arr 32 .leaf) (ss.map sdA), vec ss.length c, .ro .leaf (xs.map .u64)] H K := by
  refine wpF_go c17 rfl 4 ?_
  intro ha hb
  simp only [s17]
  clear ha hb
  have lm : (xs.map AV.u64).length = xs.length := by simp
  have ll : (ss.map sdA).length = ss.length := by simp
  obtain ⟨hg, hn1, hn2⟩ := okW_good hw
  obtain ⟨hw1, hw2⟩ := id hg
  have hN : 1 ≤ N ∧ N ≤ 6 := by omega
  have hW : 1 ≤ W ∧ W ≤ 64 := by omega
  have hx6 : N * ss.length ≤ 6 * 1000 := Nat.mul_le_mul hN.2 hl
  have hmu : (N : Int) * (ss.length : Int) = (xs.length : Int) := by rw [hd]; simp
  have h46 : ∀ {K : AV → Heap → Prop} {H : Heap}, K (.int (ss.length : Int)) H → wpF P [] 46 [vec ss.length c] H K := fun h => f46 h
  have h47 : ∀ {K : AV → Heap → Prop} {H : Heap} {j : Nat}, j < ss.length → K (.bool (c j)) H → wpF P [] 47 [vec ss.length c, .int (j : Int)] H K := fun {K} {H} {j} hj h => by
    refine f47 ?_
    rw [Int.toNat_natCast, show (decide ((0 : Int) ≤ ((j : Nat) : Int)) && Go.V.cut ss.length c j) = c j by unfold Go.V.cut; rw [decide_eq_true (Int.natCast_nonneg _), decide_eq_true hj, Bool.true_and, Bool.true_and]]
    exact h
  unfold vec at *
  generalize wdA ss.length c = wv at *
  (refine gw0 ?_; try exact True.intro)
  refine f35 ?_
  rw [if_pos hw]
  (refine gw1 @ll ?_; try exact True.intro)
  refine h46 ?_
  (refine gw3 @lm @ll @hmu ?_; try exact True.intro)
  (repeat (refine And.intro (by omega) ?_))
  refine f36L (by omega) ?_
  (refine gw3 @hf @lm @ll ?_; try exact True.intro)
  (repeat (refine And.intro (by omega) ?_))
  refine wp_inv (I17a W N ss.length (.ro (.arr 32 .leaf) (ss.map sdA)) ss c wv xs H) ss.length ⟨0, 0, _, _, _, _, _, _, _, _, _, _, _, _, [], rfl, rfl, Nat.zero_le _, by simp⟩ ?_
  rintro k st ⟨j, t, u10, u11, u12, u13, u14, u15, u21, u22, u23, u24, u25, u26, J, rfl, rfl, hj, ht⟩
  unfold uB vcB
  by_cases hjl : j < ss.length
  · have e1 : ((j : Int) < (ss.length : Int)) = True := by simp only [eq_iff_iff, iff_true]; omega
    have gp := ld_sd hjl
    have hz := sd_ok hok hjl
    (refine gw4 @e1 @ll @gp @hz ?_; try exact True.intro)
    refine f37 hz hg (by omega) ?_
    (refine gw0 ?_; try exact True.intro)
    generalize hpp : AV.ptr (H.length + (J.length + 1 + 1)) 0 [0] (.arr 32 .leaf) = pp
    refine wp_inv (I17b W N ss.length (.ro (.arr 32 .leaf) (ss.map sdA)) ss c wv xs j pp H) N ⟨0, t, _, _, _, _, _, rfl, rfl, Nat.zero_le _, ht⟩ ?_
    clear ht
    rintro k st ⟨i, t, u14, u15, u25, u26, J, rfl, rfl, hi, ht⟩
    unfold uB vcB
    by_cases hil : i < N
    · have e2 : ((i : Int) < (N : Int)) = True := by simp only [eq_iff_iff, iff_true]; omega
      have m1 : (j : Int) * (N : Int) = ((j * N : Nat) : Int) := by simp
      have hle : (j + 1) * N ≤ ss.length * N := Nat.mul_le_mul_right _ hjl
      rw [Nat.succ_mul, Nat.mul_comm ss.length, ← hd] at hle
      have hx : t < xs.length := by omega
      have g1 := ld_u64 hx
      obtain ⟨d1, d2⟩ := div_at (j := j) hil
      rw [← ht] at d1 d2
      have hrc : (if c j then msk W (nuF (ss.getD j []) W i + xs.getD t 0) else nuF (ss.getD j []) W i) = rcF W N ss c xs t := by
        unfold rcF
        rw [d1, d2]
      have gz : (rL (nuF (ss.getD j []) W) N).getD i .un = .u64 (nuF (ss.getD j []) W i) := ld_rng hil
      have lz := rL_len (F := nuF (ss.getD j []) W) (t := N)
      have r1 := rL_one (F := rcF W N ss c xs) (t := t) rfl
      have h47j : ∀ {K : AV → Heap → Prop} {H : Heap}, K (.bool (c j)) H → wpF P [] 47 [.agg [.int (ss.length : Int), .ro .leaf wv], .int (j : Int)] H K := fun h => h47 hjl h
      generalize nuF (ss.getD j []) W i = zi at *
      generalize c j = b at *
      generalize hp : j * N = p at *
      have had : (p : Int) + (i : Int) = ((p + i : Nat) : Int) := by omega
      rw [ht] at g1
      (refine gw7 @e2 @m1 @had @lm @g1 @gz @lz ?_; try exact True.intro)
      refine h47j ?_
      cases b with
      | true =>
        have hrc' : zi + xs.getD (p + i) 0 &&& maskV W = rcF W N ss c xs t := by rw [← ht]; exact hrc
        (refine gw7 @e2 @m1 @had @lm @g1 @gz @lz ?_; try exact True.intro)
        (repeat (refine And.intro (by omega) ?_))
        refine f38 ?_
        rw [hrc']
        (refine gw1 @r1 ?_; try exact True.intro)
        (repeat (refine And.intro (by omega) ?_))
        exact ⟨N - (i + 1), by omega, i + 1, t + 1, _, _, _, _, _, rfl, rfl, by omega, by rw [hp, ht]; rfl⟩
      | false =>
        have hrc' : zi = rcF W N ss c xs t := hrc
        rw [hrc']
        (refine gw1 @r1 ?_; try exact True.intro)
        (repeat (refine And.intro (by omega) ?_))
        exact ⟨N - (i + 1), by omega, i + 1, t + 1, _, _, _, _, _, rfl, rfl, by omega, by rw [hp, ht]; rfl⟩
    · have e2 : ((i : Int) < (N : Int)) = False := by simp only [eq_iff_iff, iff_false]; omega
      (refine gw1 @e2 ?_; try exact True.intro)
      (repeat (refine And.intro (by omega) ?_))
      exact ⟨ss.length - (j + 1), by omega, j + 1, t, _, _, _, _, _, _, _, _, _, _, _, _, _, rfl, rfl, by omega, by rw [ht, show i = N by omega, Nat.succ_mul]; rfl⟩
  · have e1 : ((j : Int) < (ss.length : Int)) = False := by simp only [eq_iff_iff, iff_false]; omega
    have hte : t = xs.length := by rw [ht, show j = ss.length by omega, hd, Nat.mul_comm]; rfl
    rw [← hte] at h
    have ht1 := take_rL (F := rcF W N ss c xs) (t := t)
    have hm1 := @mapO_rL
    (refine gw3 @e1 @ht1 @hm1 ?_; try exact True.intro)
    exact h
theorem f17n {K : AV → Heap → Prop} {H : Heap} {W N : Nat} {c : Nat → Bool} (hw : okW W N = true) (h : K (.tup [.ro .leaf [], .int 0]) H) : wpF P [] 17 [.int W, .int N, .nils, vec 0 c, .ro .leaf []] H K := by
  refine wpF_go c17 rfl 4 ?_
  intro ha hb
  simp only [s17]
  clear ha hb
  obtain ⟨hg, hn1, hn2⟩ := okW_good hw
  have hmu : (N : Int) * 0 = 0 := Int.mul_zero _
  have h46 : ∀ {K : AV → Heap → Prop} {H : Heap}, K (.int ((0 : Nat) : Int)) H → wpF P [] 46 [vec 0 c] H K := fun h => f46 h
  unfold vec at *
  generalize wdA 0 c = wv at *
  (refine gw0 ?_; try exact True.intro)
  refine f35 ?_
  rw [if_pos hw]
  (refine gw0 ?_; try exact True.intro)
  refine h46 ?_
  (refine gw1 @hmu ?_; try exact True.intro)
  refine f36L (xs := []) (by decide) ?_
  have hf : fitL (W : Int) [] = true := rfl
  (refine gw1 @hf ?_; try exact True.intro)
  refine wp_unroll 1 ?_
  (refine gw0 ?_; try exact True.intro)
  exact h
theorem f17e {K : AV → Heap → Prop} {H : Heap} {w n : Int} {m : Nat} {ss : List (List (BitVec 8))} {c : Nat → Bool} {xs : List (BitVec 64)} (hl : ss.length ≤ 1000) (hx : xs.length ≤ 100000) (hb : (okW w n && decide (ss.length = m) && decide ((xs.length : Int) = n * ss.length) && fitL w xs) = false) (h : K (.tup [.nils, .int 11]) H) : wpF P [] 17 [.int w, .int n, .ro (.arr 32 .leaf) (ss.map sdA), vec m c, .ro .leaf (xs.map .u64)] H K := by
  refine wpF_go c17 rfl 4 ?_
  intro ha hb'
  simp only [s17]
  clear ha hb'
  have lm : (xs.map AV.u64).length = xs.length := by simp
  have ll : (ss.map sdA).length = ss.length := by simp
  have h46 : ∀ {K : AV → Heap → Prop} {H : Heap}, K (.int (m : Int)) H → wpF P [] 46 [vec m c] H K := fun h => f46 h
  unfold vec at *
  generalize wdA m c = wv at *
  by_cases h1 : okW w n = true
  · obtain ⟨hg, hn1, hn2⟩ := okW_good h1
    have b1 : n * (ss.length : Int) ≤ 6 * 1000 := Int.mul_le_mul hn2 (by omega) (by omega) (by decide)
    have b2 : 0 ≤ n * (ss.length : Int) := Int.mul_nonneg (by omega) (by omega)
    by_cases h0 : ss.length = m
    · have e0 : ((ss.length : Int) = (m : Int)) = True := by rw [h0]; simp
      by_cases h2 : (xs.length : Int) = n * ss.length
      · have h3 : fitL w xs = false := by
          rw [h1, decide_eq_true h2, decide_eq_true h0, Bool.true_and, Bool.true_and, Bool.true_and] at hb
          exact hb
        have hne : ((xs.length : Int) = n * (ss.length : Int)) = True := eq_true h2
        generalize hM : n * (ss.length : Int) = M at *
        (refine gw0 ?_; try exact True.intro)
        refine f35 ?_
        rw [if_pos h1]
        (refine gw0 ?_; try exact True.intro)
        refine h46 ?_
        (refine gw5 @e0 @lm @ll @hM @hne ?_; try exact True.intro)
        (repeat (refine And.intro (by omega) ?_))
        refine f36L (by omega) ?_
        (refine gw1 @h3 ?_; try exact True.intro)
        exact h
      · have hne : ((xs.length : Int) = n * (ss.length : Int)) = False := eq_false h2
        generalize hM : n * (ss.length : Int) = M at *
        (refine gw0 ?_; try exact True.intro)
        refine f35 ?_
        rw [if_pos h1]
        (refine gw0 ?_; try exact True.intro)
        refine h46 ?_
        (refine gw5 @e0 @lm @ll @hM @hne ?_; try exact True.intro)
        (repeat (refine And.intro (by omega) ?_))
        exact h
    · have e0 : ((ss.length : Int) = (m : Int)) = False := by simp only [eq_iff_iff, iff_false]; omega
      (refine gw0 ?_; try exact True.intro)
      refine f35 ?_
      rw [if_pos h1]
      (refine gw0 ?_; try exact True.intro)
      refine h46 ?_
      (refine gw2 @e0 @ll ?_; try exact True.intro)
      exact h
  · have h1' : okW w n = false := by simpa using h1
    (refine gw0 ?_; try exact True.intro)
    refine f35 ?_
    rw [if_neg h1]
    (refine gw0 ?_; try exact True.intro)
    exact h
/-- the list that grows, wherever it lies -/
def outp (N0 : Nat) (F : Nat → BitVec 64) (t c : Nat) (out : AV) (L : Heap) : Prop :=
  (t = 0 ∧ out = .nils) ∨ (0 < t ∧ ∃ b, b < L.length ∧ b ≠ c ∧ out = .own (N0 + b) t [] 0 t .leaf ∧ Heap.get L b = uB t t (rL F t))
def rowF (W : Nat) (s : List (BitVec 8)) (b : Bool) (F : Nat → BitVec 64) (i j : Nat) : BitVec 64 := if j < i then F j else nuF s W j
def I18a (W N : Nat) (ss : List (List (BitVec 8))) (ch : List Bool) (xs : List (BitVec 64)) (H : Heap) (k : Nat) (st : St) : Prop :=
  ∃ (j t : Nat) (out u9 u10 c12 c13 c14 : AV) (L : Heap), st = ⟨[.int W, .int N, .ro (.arr 32 .leaf) (ss.map sdA), .ro .leaf (ch.map .bool), .ro .leaf (xs.map .u64), .nils, .int 0, out, .int j, u9, u10, .bool false, c12, c13, c14], H ++ L⟩ ∧ k = ss.length - j ∧ j ≤ ss.length ∧ t = j * N + 0 ∧ outp H.length (rcF W N ss (bfn ch) xs) t L.length out L
def I18b (W N : Nat) (ss : List (List (BitVec 8))) (ch : List Bool) (xs : List (BitVec 64)) (j c : Nat) (H : Heap) (k : Nat) (st : St) : Prop :=
  ∃ (i t : Nat) (out c13 c14 : AV) (L : Heap), st = ⟨[.int W, .int N, .ro (.arr 32 .leaf) (ss.map sdA), .ro .leaf (ch.map .bool), .ro .leaf (xs.map .u64), .nils, .int 0, out, .int j, .own (H.length + c) N [] 0 N .leaf, .int i, .bool false, .bool true, c13, c14], H ++ L⟩ ∧ k = N - i ∧ i ≤ N ∧ t = j * N + i ∧ outp H.length (rcF W N ss (bfn ch) xs) t c out L ∧ c < L.length ∧ Heap.get L c = uB N N (rL (fun q => if q < i then rcF W N ss (bfn ch) xs (j * N + q) else nuF (ss.getD j []) W q) N)
theorem f18 {K : AV → Heap → Prop} {H : Heap} {W N : Nat} {ss : List (List (BitVec 8))} {ch : List Bool} {xs : List (BitVec 64)} (hl : ss.length ≤ 1000) (hok : ∀ s ∈ ss, s.length = 32) (hw : okW W N = true) (hc : ss.length = ch.length) (hd : xs.length = N * ss.length) (hf : fitL W xs = true) (h : K (.tup [luL (rcF W N ss (bfn ch) xs) xs.length, .int 0]) H) : wpF P [] 18 [.int W, .int N, .ro (.arr 32 .leaf) (ss.map sdA), .ro .leaf (ch.map .bool), .ro .leaf (xs.map .u64)] H K := by
  refine wpF_go c18 rfl 4 ?_
  intro ha hb
  simp only [s18]
  clear ha hb
  have lm : (xs.map AV.u64).length = xs.length := by simp
  have ll : (ss.map sdA).length = ss.length := by simp
  have lc : (ch.map AV.bool).length = ss.length := by simp [hc]
  obtain ⟨hg, hn1, hn2⟩ := okW_good hw
  obtain ⟨hw1, hw2⟩ := id hg
  have hN : 1 ≤ N ∧ N ≤ 6 := by omega
  have hW : 1 ≤ W ∧ W ≤ 64 := by omega
  have hx6 : N * ss.length ≤ 6 * 1000 := Nat.mul_le_mul hN.2 hl
  have hmu : (N : Int) * (ss.length : Int) = (xs.length : Int) := by rw [hd]; simp
  have hff : (xs.all fun x => decide (rcut (rounds (W : Int)) x = x)) = true := by rw [fitL_eq hg]; exact hf
  have hcm : ∀ x, rcut (rounds (W : Int)) x = msk W x := fun x => f19g' hg x
  (refine gw0 ?_; try exact True.intro)
  refine f41 ?_
  have lc' : ch.length = ss.length := hc.symm
  (refine gw5 @hw @lm @ll @lc' @hmu ?_; try exact True.intro)
  (repeat (refine And.intro (by omega) ?_))
  refine f21 (by omega) ?_
  (refine gw1 @hff ?_; try exact True.intro)
  refine wp_inv (I18a W N ss ch xs H) ss.length ⟨0, 0, _, _, _, _, _, _, [], by rw [List.append_nil]; rfl, rfl, Nat.zero_le _, by simp, .inl ⟨rfl, rfl⟩⟩ ?_
  rintro k st ⟨j, t, out, u9, u10, c12, c13, c14, L, rfl, rfl, hj, ht, ho⟩
  by_cases hjl : j < ss.length
  · have e1 : ((j : Int) < (ss.length : Int)) = True := by simp only [eq_iff_iff, iff_true]; omega
    have gp := ld_sd hjl
    have hz := sd_ok hok hjl
    (refine gw4 @e1 @ll @gp @hz ?_; try exact True.intro)
    refine f42k hz hg (by omega) (by omega) ?_
    intro g J
    have ea : (H ++ L).length + 3 = H.length + (L.length + 3) := by rw [List.length_append, Nat.add_assoc]
    rw [ea, List.append_assoc]
    generalize hL2 : L ++ kbx (ss.getD j []) :: kbx (ss.getD j []) :: g :: uB N N (rL (nuF (ss.getD j []) W) N) :: J = L2
    (refine gw0 ?_; try exact True.intro)
    refine wp_inv (I18b W N ss ch xs j (L.length + 3) H) N ⟨0, t, _, _, _, L2, rfl, rfl, Nat.zero_le _, ht, ?_, ?_, ?_⟩ ?_
    · rcases ho with ⟨h1, h2⟩ | ⟨h1, b, h2, h3, h4, h5⟩
      · exact .inl ⟨h1, h2⟩
      · refine .inr ⟨h1, b, by rw [← hL2, List.length_append]; omega, by omega, h4, by rw [← hL2]; exact Heap.get_some_append h5⟩
    · rw [← hL2]; simp
    · rw [← hL2, hget_k]; rfl
    clear ht ho hL2 ea
    generalize L.length + 3 = c
    clear L L2 g
    rintro k st ⟨i, t, out, c13, c14, L, rfl, rfl, hi, ht, ho, hcl, hgc⟩
    by_cases hil : i < N
    · have e2 : ((i : Int) < (N : Int)) = True := by simp only [eq_iff_iff, iff_true]; omega
      have m1 : (j : Int) * (N : Int) = ((j * N : Nat) : Int) := by simp
      have hle : (j + 1) * N ≤ ss.length * N := Nat.mul_le_mul_right _ hjl
      rw [Nat.succ_mul, Nat.mul_comm ss.length, ← hd] at hle
      have hx : t < xs.length := by omega
      have g1 := ld_u64 hx
      obtain ⟨d1, d2⟩ := div_at (j := j) hil
      have hrc : (if bfn ch j then msk W (nuF (ss.getD j []) W i + xs.getD t 0) else nuF (ss.getD j []) W i) = rcF W N ss (bfn ch) xs t := by
        unfold rcF
        rw [ht, d1, d2]
      have gch := ld_bfn (l := ch) (i := j) (by omega)
      have r1 := rL_one (F := rcF W N ss (bfn ch) xs) (t := t) rfl
      have hat := rL_at (F := fun q => if q < i then rcF W N ss (bfn ch) xs (j * N + q) else nuF (ss.getD j []) W q) hil
      simp only [Nat.lt_irrefl, if_false] at hat
      have hst : rL (fun q => if q = i then rcF W N ss (bfn ch) xs t else if q < i then rcF W N ss (bfn ch) xs (j * N + q) else nuF (ss.getD j []) W q) N = rL (fun q => if q < i + 1 then rcF W N ss (bfn ch) xs (j * N + q) else nuF (ss.getD j []) W q) N := rL_congr fun q _ => by
        by_cases hq : q = i
        · rw [if_pos hq, if_pos (by omega), hq, ht]
        · rw [if_neg hq]
          by_cases hq2 : q < i
          · rw [if_pos hq2, if_pos (by omega)]
          · rw [if_neg hq2, if_neg (by omega)]
      have hset := rL_set (F := fun q => if q < i then rcF W N ss (bfn ch) xs (j * N + q) else nuF (ss.getD j []) W q) (n := N) (i := i) (x := rcF W N ss (bfn ch) xs t)
      rw [hst] at hset
      have hlen : (rL (fun q => if q < i then rcF W N ss (bfn ch) xs (j * N + q) else nuF (ss.getD j []) W q) N).length = N := rL_len
      have hat2 := rL_at (F := fun q => if q < i + 1 then rcF W N ss (bfn ch) xs (j * N + q) else nuF (ss.getD j []) W q) hil
      simp only [Nat.lt_succ_self, if_true, ← ht] at hat2
      have hnew : ¬ bfn ch j = true → rL (fun q => if q < i then rcF W N ss (bfn ch) xs (j * N + q) else nuF (ss.getD j []) W q) N = rL (fun q => if q < i + 1 then rcF W N ss (bfn ch) xs (j * N + q) else nuF (ss.getD j []) W q) N := fun hb => rL_congr fun q _ => by
        by_cases hq : q = i
        · subst hq
          rw [if_neg (Nat.lt_irrefl _), if_pos (Nat.lt_succ_self _), ← ht, ← hrc, if_neg hb]
        · by_cases hq2 : q < i
          · rw [if_pos hq2, if_pos (by omega)]
          · rw [if_neg hq2, if_neg (by omega)]
      generalize rL (fun q => if q < i then rcF W N ss (bfn ch) xs (j * N + q) else nuF (ss.getD j []) W q) N = R0 at *
      generalize hR1 : rL (fun q => if q < i + 1 then rcF W N ss (bfn ch) xs (j * N + q) else nuF (ss.getD j []) W q) N = R1 at *
      generalize nuF (ss.getD j []) W i = zi at *
      generalize hp : j * N = p at *
      have had : (p : Int) + (i : Int) = ((p + i : Nat) : Int) := by omega
      rw [ht] at g1
      unfold uB at hgc
      by_cases hbj : bfn ch j = true
      · have hrc' : msk W (zi + xs.getD (p + i) 0) = rcF W N ss (bfn ch) xs t := by rw [← ht, ← hrc, if_pos hbj]
        obtain ⟨L1, hL1⟩ : ∃ L1, List.set L c (some (Blk.mk 49 N true (.arr N .leaf) (.agg R1))) = L1 := ⟨_, rfl⟩
        have l1 : L1.length = L.length := by rw [← hL1, List.length_set]
        have gc1 : Heap.get L1 c = some (Blk.mk 49 N true (.arr N .leaf) (.agg R1)) := by rw [← hL1, Heap.get_set _ _ _ _ hcl, if_pos rfl]
        rcases ho with ⟨ht0, rfl⟩ | ⟨ht0, b, hb1, hb2, rfl, hgb⟩
        · (refine gw11 @e2 @m1 @had @lm @g1 @lc @gch @hbj @hgc @hat @hlen ?_; try exact True.intro)
          (repeat (refine And.intro (by omega) ?_))
          refine drawn _ (f44 ⟨rfl, rfl⟩) ?_
          rw [hcm, hrc']
          have lR1 : R1.length = N := by rw [← hR1]; exact rL_len
          have gc2 : ∀ X, Heap.get (L1 ++ X) c = some (Blk.mk 49 N true (.arr N .leaf) (.agg R1)) := fun X => Heap.get_some_append gc1
          (refine gw13 @e2 @m1 @had @lm @g1 @hgc @hat @hset @hL1 @gc1 @hat2 @hlen @lR1 ?_; try exact True.intro)
          (repeat (refine And.intro (by omega) ?_))
          refine ⟨N - (i + 1), by omega, i + 1, t + 1, _, _, _, _, rfl, rfl, by omega, by rw [hp, ht]; rfl, .inr ⟨by omega, L1.length + 1, by simp, by omega, by rw [ht0], ?_⟩, by simp; omega, ?_⟩
          · rw [hget_k, ht0]; rfl
          · rw [hp, hR1]; exact gc2 _
        · have gb1 : Heap.get L1 b = uB t t (rL (rcF W N ss (bfn ch) xs) t) := by rw [← hL1, Heap.get_set _ _ _ _ hcl, if_neg hb2]; exact hgb
          unfold uB at gb1
          have gb2 : ∀ X, Heap.get (L1 ++ X) b = some (Blk.mk 49 t true (.arr t .leaf) (.agg (rL (rcF W N ss (bfn ch) xs) t))) := fun X => Heap.get_some_append gb1
          have lR1 : R1.length = N := by rw [← hR1]; exact rL_len
          have sb2 : ∀ X y, List.set (L1 ++ X) b y = List.set L1 b y ++ X := fun X y => List.set_append_left _ _ (by omega)
          (refine gw11 @e2 @m1 @had @lm @g1 @lc @gch @hbj @hgc @hat @hlen ?_; try exact True.intro)
          (repeat (refine And.intro (by omega) ?_))
          refine drawn _ (f44 ⟨rfl, rfl⟩) ?_
          rw [hcm, hrc']
          simp (maxSteps := 2000000) only [↓vS_skip, ↓vS_reg, ↓vS_draw, ↓vS_seq, ↓wS_cond, ↓vS_block, ↓vS_exit, ↓vS_ret, ↓vI_nil, ↓vI_go, ↓wI_gd, ↓stepI_q, ↓stepI_e, ↓stepI_c, ↓stepI_v, ↓vD_nil, ↓vD_go, ↓wD_gd, ↓stepW_q, ↓stepW_e, ↓stepW_c, ↓stepW_v, ↓Kw_app, ↓KwD_app, ↓Kc_app, ↓Kp_app, ↓Kr_app, ↓Ks_n, ↓Ks_r, ↓Ks_x, ↓Kb_n, ↓Kb_r, ↓Kb_x, ↓Ku_n, ↓Ku_r, ↓Ku_x, ↓Kl_n, ↓Kl_r, ↓Kl_x, ↓Kend_n, ↓Kend_r, ↓Two_t, ↓Two_f, ↓unr_succ, ↓GdM_b, ↓GdM_t, ↓CdM_b, ↓TwU_t, ↓TwU_f, ↓ThI_app, ↓ThW_app, ↓ThK_app, ↓ThS_app, ↓stepI_p, ↓stepW_p, ↓stepI_w, ↓stepW_w, ↓xD_w, ↓stepI_n, ↓xD_n, ↓xD_q, ↓xD_e, ↓xD_c, ↓xD_v, ↓xD_p, ↓xD_m, ↓xD_s, ↓vX_nil, ↓vX_go, ↓wX_gd, ↓KwX_app, ↓stepI_m, ↓stepW_m, ↓hasSh_mbool, ↓hasSh_mu8, ↓hasSh_mu16, ↓hasSh_mu32, ↓hasSh_mu64, ↓hasSh_mint, putE_none, putE_var, putE_new, get_t, get_c, qev, eev, rsGet, rvGet, oneOf, binAV, isSh, bvBin, bvOp, bvCmp, bvSh, intBin, intSh, cvAV, unAV, AV.cnt, AV.num, Ken2_s, Ken3_s, htake_1, htake_2, beq_self_eq_true, beq_true, beq_false, Int.toNat_natCast, Int.natCast_nonneg, BitVec.reduceOfInt, BitVec.reduceToNat, bytesOf, List.map_cons, List.replicate_succ, Bool.not_eq_true, maxLen, Nat.reducePow, Nat.reduceMul, List.map_cons, List.map_nil, List.getD_cons_zero, List.getD_cons_succ, List.set_cons_zero, List.set_cons_succ, List.cons_append, List.nil_append, List.append_nil, List.take_succ_cons, List.take_zero, List.take_nil, List.length_cons, List.length_nil, List.replicate_succ, List.replicate_zero, Option.map_some, Option.map_none, List.getElem?_cons_zero, List.getElem?_cons_succ, true_and, and_true, if_true, if_false, ite_true, ite_false, reduceIte, reduceCtorEq, false_or, or_true, true_or, or_false, Option.some.injEq, Prod.mk.injEq, exists_eq_left', exists_eq_left, exists_eq_right, exists_and_left, exists_and_right, exists_const, and_assoc, decide_true, decide_false, Bool.false_eq_true, forall_const, Bool.not_true, Bool.not_false, false_implies, true_implies, Nat.reduceAdd, Nat.reduceSub, Nat.reduceMul, Nat.reduceLT, Nat.reduceLeDiff, Nat.reduceEqDiff, Int.reduceAdd, Int.reduceSub, Int.reduceMul, Int.reduceLT, Int.reduceLE, Int.reduceTMod, Int.reduceTDiv, Int.reduceToNat, Int.reduceEq, Int.reduceNe, Int.reduceNeg, ne_eq, not_false_eq_true, not_true_eq_false, InR, Bool.true_eq_false, Bool.false_eq_true, reduceDIte, Nat.zero_add, Nat.add_zero, Int.cast_ofNat_Int, eq_self, hget_0, hget_k, hget_z, hget_s, hset_0, hset_k, htake_0, lt_own0, lt_ownk, hasAt_nil, hasAt_arr, hasAt_st, hasSh_l, hasSh_aa, hasSh_sa, hasShs_n, hasShs_c, setAll, AV.isCell, Shape.size_leaf, Shape.size_arr, Shape.size_st, Shape.sizes_cons, Shape.sizes_nil, List.length_append, List.append_assoc, List.length_set, stP, ldP, getP, setP, psh, partsOf, slen, rd, dem, demK_own, demK_ptr, demK_agg, demK_tup, demK_fn, demK_ro, demK_rp, demK_bool, demK_u8, demK_u16, demK_u32, demK_u64, demK_int, demK_str, demK_nilp, demK_nils, demK_nilf, demK_un, mapO, AV.bnds, AV.bnd, bne_self_eq_false, AV.plain2, AV.plain, List.all_cons, List.all_nil, List.take_length, List.drop_zero, List.drop_succ_cons, Nat.mul_one, List.getElem?_nil, List.forall_mem_cons, List.not_mem_nil, implies_true, Bool.and_true, Bool.true_and, Bool.and_false, Bool.false_and, and_self, and_false, false_and, Nat.sub_zero, bnds, bnds_bool, bnds_bool', mapO_bool, mapO_bool', bnds_u8, bnds_u8', mapO_u8, mapO_u8', bnds_u16, bnds_u16', mapO_u16, mapO_u16', bnds_u32, bnds_u32', mapO_u32, mapO_u32', bnds_u64, bnds_u64', mapO_u64, mapO_u64', bnds_int, bnds_int', mapO_int, mapO_int', bt, bf, Bool.not_not, nilK_nils, nilK_own, nilK_ro, ninL_n, ninL_c, disL_n, disL_r, disL_c, chkL_n, chkL_c, apartL_e, fp_ld, fp_b2s, fp_st, fp_app, fp_appS, fp_cpy, fp_cpyS, tb_own, tb_ptr, tb_ro, tb_rp, tb_nils, tb_str, ne_ah, ne_ha, e2, m1, had, lm, g1, hgc, hat, hset, hL1, gc1, hat2, hlen, lR1, gb2, sb2, r1]
          (repeat (refine And.intro (by omega) ?_))
          refine ⟨N - (i + 1), by omega, i + 1, t + 1, _, _, _, _, rfl, rfl, by omega, by rw [hp, ht]; rfl, .inr ⟨by omega, b, by simp; omega, hb2, rfl, ?_⟩, by simp; omega, ?_⟩
          · exact Heap.get_some_append (by rw [Heap.get_set _ _ _ _ (by omega), if_pos rfl])
          · rw [hp, hR1]; exact Heap.get_some_append (by rw [Heap.get_set _ _ _ _ (by omega), if_neg (Ne.symm hb2)]; exact gc1)
      · have hbf : bfn ch j = false := by simpa using hbj
        have hrc' : zi = rcF W N ss (bfn ch) xs t := by rw [← hrc, if_neg hbj]
        have hR0 := hnew hbj
        rw [hR0] at hgc hat hlen
        rw [hrc'] at hat
        rcases ho with ⟨ht0, rfl⟩ | ⟨ht0, b, hb1, hb2, rfl, hgb⟩
        · (refine gw11 @e2 @m1 @had @lm @g1 @lc @gch @hbf @hgc @hat @hlen ?_; try exact True.intro)
          (repeat (refine And.intro (by omega) ?_))
          refine ⟨N - (i + 1), by omega, i + 1, t + 1, _, _, _, _, rfl, rfl, by omega, by rw [hp, ht]; rfl, .inr ⟨by omega, L.length + 1, by simp, by omega, by rw [ht0], ?_⟩, by simp; omega, ?_⟩
          · rw [hget_k, ht0]; rfl
          · rw [hp, hR1]; exact Heap.get_some_append hgc
        · unfold uB at hgb
          have gb2 : ∀ X, Heap.get (L ++ X) b = some (Blk.mk 49 t true (.arr t .leaf) (.agg (rL (rcF W N ss (bfn ch) xs) t))) := fun X => Heap.get_some_append hgb
          have sb2 : ∀ X y, List.set (L ++ X) b y = List.set L b y ++ X := fun X y => List.set_append_left _ _ hb1
          (refine gw14 @e2 @m1 @had @lm @g1 @lc @gch @hbf @hgc @hat @hlen @gb2 @sb2 @r1 ?_; try exact True.intro)
          (repeat (refine And.intro (by omega) ?_))
          refine ⟨N - (i + 1), by omega, i + 1, t + 1, _, _, _, _, rfl, rfl, by omega, by rw [hp, ht]; rfl, .inr ⟨by omega, b, by simp; omega, hb2, rfl, ?_⟩, by simp; omega, ?_⟩
          · exact Heap.get_some_append (by rw [Heap.get_set _ _ _ _ hb1, if_pos rfl])
          · rw [hp, hR1]; exact Heap.get_some_append (by rw [Heap.get_set _ _ _ _ hb1, if_neg (Ne.symm hb2)]; exact hgc)
    · have e2 : ((i : Int) < (N : Int)) = False := by simp only [eq_iff_iff, iff_false]; omega
      (refine gw1 @e2 ?_; try exact True.intro)
      (repeat (refine And.intro (by omega) ?_))
      refine ⟨ss.length - (j + 1), by omega, j + 1, t, _, _, _, _, _, _, L, rfl, rfl, by omega, by rw [ht, show i = N by omega, Nat.succ_mul]; rfl, ?_⟩
      rcases ho with ⟨h1, h2⟩ | ⟨h1, b, h2, h3, h4, h5⟩
      · exact .inl ⟨h1, h2⟩
      · exact .inr ⟨h1, b, h2, by omega, h4, h5⟩
  · have e1 : ((j : Int) < (ss.length : Int)) = False := by simp only [eq_iff_iff, iff_false]; omega
    have hte : t = xs.length := by rw [ht, show j = ss.length by omega, hd, Nat.mul_comm]; rfl
    rw [← hte] at h
    unfold luL at h
    rcases ho with ⟨ht0, rfl⟩ | ⟨ht0, b, hb1, hb2, rfl, hgb⟩
    · rw [if_pos ht0] at h
      (refine gw2 @e1 @ll ?_; try exact True.intro)
      exact h
    · rw [if_neg (by omega)] at h
      unfold uB at hgb
      have ht1 := take_rL (F := rcF W N ss (bfn ch) xs) (t := t)
      have hm1 := @mapO_rL
      (refine gw5 @e1 @ll @hgb @ht1 @hm1 ?_; try exact True.intro)
      exact h
theorem f18e {K : AV → Heap → Prop} {H : Heap} {w n : Int} {ss : List (List (BitVec 8))} {ch : List Bool} {xs : List (BitVec 64)} (hl : ss.length ≤ 1000) (hx : xs.length ≤ 100000) (hb : (okW w n && decide (ss.length = ch.length) && decide ((xs.length : Int) = n * ss.length) && fitL w xs) = false) (h : K (.tup [.nils, .int 11]) H) : wpF P [] 18 [.int w, .int n, .ro (.arr 32 .leaf) (ss.map sdA), .ro .leaf (ch.map .bool), .ro .leaf (xs.map .u64)] H K := by
  refine wpF_go c18 rfl 4 ?_
  intro ha hb'
  simp only [s18]
  clear ha hb'
  have lm : (xs.map AV.u64).length = xs.length := by simp
  have ll : (ss.map sdA).length = ss.length := by simp
  have lc : (ch.map AV.bool).length = ch.length := by simp
  by_cases h1 : okW w n = true
  · obtain ⟨hg, hn1, hn2⟩ := okW_good h1
    have b1 : n * (ss.length : Int) ≤ 6 * 1000 := Int.mul_le_mul hn2 (by omega) (by omega) (by decide)
    have b2 : 0 ≤ n * (ss.length : Int) := Int.mul_nonneg (by omega) (by omega)
    by_cases h0 : ss.length = ch.length
    · have e0 : ((ss.length : Int) = (ch.length : Int)) = True := by rw [h0]; simp
      by_cases h2 : (xs.length : Int) = n * ss.length
      · have h3 : (xs.all fun x => decide (rcut (rounds w) x = x)) = false := by
          rw [h1, decide_eq_true h2, decide_eq_true h0, Bool.true_and, Bool.true_and, Bool.true_and] at hb
          rw [fitL_eq hg]
          exact hb
        have hne : ((xs.length : Int) = n * (ss.length : Int)) = True := eq_true h2
        generalize hM : n * (ss.length : Int) = M at *
        (refine gw0 ?_; try exact True.intro)
        refine f41 ?_
        (refine gw7 @h1 @e0 @lc @lm @ll @hM @hne ?_; try exact True.intro)
        (repeat (refine And.intro (by omega) ?_))
        refine f21 (by omega) ?_
        (refine gw1 @h3 ?_; try exact True.intro)
        exact h
      · have hne : ((xs.length : Int) = n * (ss.length : Int)) = False := eq_false h2
        generalize hM : n * (ss.length : Int) = M at *
        (refine gw0 ?_; try exact True.intro)
        refine f41 ?_
        (refine gw7 @h1 @e0 @lc @lm @ll @hM @hne ?_; try exact True.intro)
        (repeat (refine And.intro (by omega) ?_))
        exact h
    · have e0 : ((ss.length : Int) = (ch.length : Int)) = False := by simp only [eq_iff_iff, iff_false]; omega
      (refine gw0 ?_; try exact True.intro)
      refine f41 ?_
      (refine gw4 @h1 @e0 @lc @ll ?_; try exact True.intro)
      exact h
  · have h1' : okW w n = false := by simpa using h1
    (refine gw0 ?_; try exact True.intro)
    refine f41 ?_
    (refine gw1 @h1' ?_; try exact True.intro)
    exact h
theorem f20 {K : AV → Heap → Prop} {H : Heap} {l : Int} {F G : Nat → BitVec 64} {n : Nat} (hb : n ≤ 1000000) (h : K (.tup [.ro .leaf (rL (fun j => addA l (F j) (G j)) n), .int 0]) H) : wpF P [] 20 [.int l, .ro .leaf (rL F n), .ro .leaf (rL G n)] H K := by
  refine wpF_go c20 rfl 4 ?_
  intro ha hb'
  simp only [s20]
  clear ha hb'
  (refine gw0 ?_; try exact True.intro)
  refine f48r hb ?_
  have hm1 := @bnds_rL
  (refine gw1 @hm1 ?_; try exact True.intro)
  exact h
end Go.Proofs.Ytjilenmngokhpaa

end

section
/-
  Layer 19 (cot): the chapter's example; CotSends and CotReceives walked.
-/
open Go Go.V
namespace Go.Proofs.Ytjilenmngokhpaa
/-- trefoil/trefoillaw19.some (0:) -/
def s33 : FnS := ⟨5, [0],
    (.seq (.reg [⟨.var 0, (.q .mv), [.c .nils], none⟩])
    (.seq (.reg [⟨.new, (.e (.bld (.arr 32 .leaf) (.agg [(.u8 0), (.u8 0), (.u8 0), (.u8 0), (.u8 0), (.u8 0), (.u8 0), (.u8 0), (.u8 0), (.u8 0), (.u8 0), (.u8 0), (.u8 0), (.u8 0), (.u8 0), (.u8 0), (.u8 0), (.u8 0), (.u8 0), (.u8 0), (.u8 0), (.u8 0), (.u8 0), (.u8 0), (.u8 0), (.u8 0), (.u8 0), (.u8 0), (.u8 0), (.u8 0), (.u8 0), (.u8 0)]) [0])), [.c (.u8 1)], none⟩,
      ⟨.new, (.e (.bld (.arr 32 .leaf) (.agg [(.u8 0), (.u8 0), (.u8 0), (.u8 0), (.u8 0), (.u8 0), (.u8 0), (.u8 0), (.u8 0), (.u8 0), (.u8 0), (.u8 0), (.u8 0), (.u8 0), (.u8 0), (.u8 0), (.u8 0), (.u8 0), (.u8 0), (.u8 0), (.u8 0), (.u8 0), (.u8 0), (.u8 0), (.u8 0), (.u8 0), (.u8 0), (.u8 0), (.u8 0), (.u8 0), (.u8 0), (.u8 0)]) [0])), [.c (.u8 2)], none⟩,
      ⟨.new, (.e (.bld (.st [(.arr 32 .leaf), (.arr 32 .leaf)]) (.agg [(.agg [(.u8 0), (.u8 0), (.u8 0), (.u8 0), (.u8 0), (.u8 0), (.u8 0), (.u8 0), (.u8 0), (.u8 0), (.u8 0), (.u8 0), (.u8 0), (.u8 0), (.u8 0), (.u8 0), (.u8 0), (.u8 0), (.u8 0), (.u8 0), (.u8 0), (.u8 0), (.u8 0), (.u8 0), (.u8 0), (.u8 0), (.u8 0), (.u8 0), (.u8 0), (.u8 0), (.u8 0), (.u8 0)]), (.agg [(.u8 0), (.u8 0), (.u8 0), (.u8 0), (.u8 0), (.u8 0), (.u8 0), (.u8 0), (.u8 0), (.u8 0), (.u8 0), (.u8 0), (.u8 0), (.u8 0), (.u8 0), (.u8 0), (.u8 0), (.u8 0), (.u8 0), (.u8 0), (.u8 0), (.u8 0), (.u8 0), (.u8 0), (.u8 0), (.u8 0), (.u8 0), (.u8 0), (.u8 0), (.u8 0), (.u8 0), (.u8 0)])]) [0, 1])), [.t 1, .t 2], none⟩,
      ⟨.new, (.e (.bsl 48 (.st [(.arr 32 .leaf), (.arr 32 .leaf)]) (.agg [(.agg [(.u8 0), (.u8 0), (.u8 0), (.u8 0), (.u8 0), (.u8 0), (.u8 0), (.u8 0), (.u8 0), (.u8 0), (.u8 0), (.u8 0), (.u8 0), (.u8 0), (.u8 0), (.u8 0), (.u8 0), (.u8 0), (.u8 0), (.u8 0), (.u8 0), (.u8 0), (.u8 0), (.u8 0), (.u8 0), (.u8 0), (.u8 0), (.u8 0), (.u8 0), (.u8 0), (.u8 0), (.u8 0)]), (.agg [(.u8 0), (.u8 0), (.u8 0), (.u8 0), (.u8 0), (.u8 0), (.u8 0), (.u8 0), (.u8 0), (.u8 0), (.u8 0), (.u8 0), (.u8 0), (.u8 0), (.u8 0), (.u8 0), (.u8 0), (.u8 0), (.u8 0), (.u8 0), (.u8 0), (.u8 0), (.u8 0), (.u8 0), (.u8 0), (.u8 0), (.u8 0), (.u8 0), (.u8 0), (.u8 0), (.u8 0), (.u8 0)])]) 1 [0])), [.t 3], none⟩,
      ⟨.var 0, (.q .mv), [.t 4], none⟩])
    .ret)),
    [.t 0]⟩

/-- trefoil/trefoillaw19.awake (0:, 1:fix, 2:own, 3:e, 4:one, 6:a, 7:f, 8:b, 9:g, 10:x, 11:h, 12:y, 13:i) -/
def s11 : FnS := ⟨88, [0, 1, 2, 3, 4, 6, 7, 8, 9, 10, 11, 12, 13],
    (.seq (.reg [⟨.var 0, (.q .mv), [.c (.bool false)], none⟩])
    (.seq (.reg [⟨.new, (.call 33), [], none⟩,
      ⟨.new, (.call 13), [.t 13], none⟩,
      ⟨.new, (.e (.bsl 49 .leaf (.u64 0) 1 [0])), [.c (.u64 7)], none⟩,
      ⟨.new, (.call 12), [.c (.int 8), .c (.int 1), .t 14, .t 15], none⟩,
      ⟨.new, (.q .mv), [.t 16], none⟩,
      ⟨.new, (.q (.ext 0)), [.t 17], none⟩,
      ⟨.new, (.q (.ext 1)), [.t 17], none⟩,
      ⟨.new, (.q (.ext 2)), [.t 17], none⟩,
      ⟨.var 1, (.q .mv), [.t 18], none⟩,
      ⟨.var 2, (.q .mv), [.t 19], none⟩,
      ⟨.var 3, (.q .mv), [.t 20], none⟩])
    (.seq (.reg [⟨.new, (.e (.bsl 4 .leaf (.bool false) 1 [0])), [.c (.bool true)], none⟩,
      ⟨.new, (.call 16), [.t 13], none⟩,
      ⟨.new, (.q .mv), [.t 14], none⟩,
      ⟨.new, (.q (.ext 0)), [.t 15], none⟩,
      ⟨.new, (.q (.ext 1)), [.t 15], none⟩,
      ⟨.var 4, (.e (.alloc 37 (.st [.leaf, .leaf]) (.agg [(.int 0), .nils]))), [], none⟩,
      ⟨.none, (.e (.store (.st [.leaf, .leaf]))), [.t 4, .t 16], none⟩,
      ⟨.new, (.q .mv), [.t 17], none⟩])
    (.seq (.reg [⟨.new, (.e (.bld (.arr 32 .leaf) (.agg [(.u8 0), (.u8 0), (.u8 0), (.u8 0), (.u8 0), (.u8 0), (.u8 0), (.u8 0), (.u8 0), (.u8 0), (.u8 0), (.u8 0), (.u8 0), (.u8 0), (.u8 0), (.u8 0), (.u8 0), (.u8 0), (.u8 0), (.u8 0), (.u8 0), (.u8 0), (.u8 0), (.u8 0), (.u8 0), (.u8 0), (.u8 0), (.u8 0), (.u8 0), (.u8 0), (.u8 0), (.u8 0)]) [0])), [.c (.u8 2)], none⟩,
      ⟨.new, (.e (.bsl 46 (.arr 32 .leaf) (.agg [(.u8 0), (.u8 0), (.u8 0), (.u8 0), (.u8 0), (.u8 0), (.u8 0), (.u8 0), (.u8 0), (.u8 0), (.u8 0), (.u8 0), (.u8 0), (.u8 0), (.u8 0), (.u8 0), (.u8 0), (.u8 0), (.u8 0), (.u8 0), (.u8 0), (.u8 0), (.u8 0), (.u8 0), (.u8 0), (.u8 0), (.u8 0), (.u8 0), (.u8 0), (.u8 0), (.u8 0), (.u8 0)]) 1 [0])), [.t 13], none⟩,
      ⟨.new, (.q (.ld (.st [.leaf, .leaf]))), [.t 4], none⟩,
      ⟨.new, (.q .mv), [.t 1], none⟩,
      ⟨.new, (.call 17), [.c (.int 8), .c (.int 1), .t 14, .t 15, .t 16], none⟩,
      ⟨.new, (.q .mv), [.t 17], none⟩,
      ⟨.new, (.q (.ext 0)), [.t 18], none⟩,
      ⟨.new, (.q (.ext 1)), [.t 18], none⟩,
      ⟨.var 5, (.q .mv), [.t 19], none⟩,
      ⟨.var 6, (.q .mv), [.t 20], none⟩])
    (.seq (.reg [⟨.new, (.e (.bld (.arr 32 .leaf) (.agg [(.u8 0), (.u8 0), (.u8 0), (.u8 0), (.u8 0), (.u8 0), (.u8 0), (.u8 0), (.u8 0), (.u8 0), (.u8 0), (.u8 0), (.u8 0), (.u8 0), (.u8 0), (.u8 0), (.u8 0), (.u8 0), (.u8 0), (.u8 0), (.u8 0), (.u8 0), (.u8 0), (.u8 0), (.u8 0), (.u8 0), (.u8 0), (.u8 0), (.u8 0), (.u8 0), (.u8 0), (.u8 0)]) [0])), [.c (.u8 1)], none⟩,
      ⟨.new, (.e (.bsl 46 (.arr 32 .leaf) (.agg [(.u8 0), (.u8 0), (.u8 0), (.u8 0), (.u8 0), (.u8 0), (.u8 0), (.u8 0), (.u8 0), (.u8 0), (.u8 0), (.u8 0), (.u8 0), (.u8 0), (.u8 0), (.u8 0), (.u8 0), (.u8 0), (.u8 0), (.u8 0), (.u8 0), (.u8 0), (.u8 0), (.u8 0), (.u8 0), (.u8 0), (.u8 0), (.u8 0), (.u8 0), (.u8 0), (.u8 0), (.u8 0)]) 1 [0])), [.t 13], none⟩,
      ⟨.new, (.q (.ld (.st [.leaf, .leaf]))), [.t 4], none⟩,
      ⟨.new, (.call 34), [.t 15], none⟩,
      ⟨.new, (.q .mv), [.t 1], none⟩,
      ⟨.new, (.call 17), [.c (.int 8), .c (.int 1), .t 14, .t 16, .t 17], none⟩,
      ⟨.new, (.q .mv), [.t 18], none⟩,
      ⟨.new, (.q (.ext 0)), [.t 19], none⟩,
      ⟨.new, (.q (.ext 1)), [.t 19], none⟩,
      ⟨.var 7, (.q .mv), [.t 20], none⟩,
      ⟨.var 8, (.q .mv), [.t 21], none⟩])
    (.seq (.reg [⟨.new, (.q .mv), [.t 2], none⟩,
      ⟨.new, (.q .mv), [.t 5], none⟩,
      ⟨.new, (.call 20), [.c (.int 8), .t 13, .t 14], none⟩,
      ⟨.new, (.q .mv), [.t 15], none⟩,
      ⟨.new, (.q (.ext 0)), [.t 16], none⟩,
      ⟨.new, (.q (.ext 1)), [.t 16], none⟩,
      ⟨.var 9, (.q .mv), [.t 17], none⟩,
      ⟨.var 10, (.q .mv), [.t 18], none⟩])
    (.seq (.reg [⟨.new, (.q .mv), [.t 2], none⟩,
      ⟨.new, (.q .mv), [.t 7], none⟩,
      ⟨.new, (.call 20), [.c (.int 8), .t 13, .t 14], none⟩,
      ⟨.new, (.q .mv), [.t 15], none⟩,
      ⟨.new, (.q (.ext 0)), [.t 16], none⟩,
      ⟨.new, (.q (.ext 1)), [.t 16], none⟩,
      ⟨.var 11, (.q .mv), [.t 17], none⟩,
      ⟨.var 12, (.q .mv), [.t 18], none⟩])
    (.seq (.reg [⟨.new, (.q .mv), [.t 3], none⟩,
      ⟨.new, (.q (.bin .eql)), [.t 13, .c (.int 0)], none⟩,
      ⟨.new, (.q .mv), [.t 14], none⟩,
      ⟨.new, (.q .mv), [.t 6], (some (15, true))⟩,
      ⟨.new, (.q .mv), [.t 3], (some (15, true))⟩,
      ⟨.new, (.q (.bin .eql)), [.t 16, .t 17], (some (15, true))⟩,
      ⟨.new, (.q .pick), [.t 15, .t 18, .c (.bool false)], none⟩,
      ⟨.new, (.q .mv), [.t 19], none⟩,
      ⟨.new, (.q .mv), [.t 8], (some (20, true))⟩,
      ⟨.new, (.q .mv), [.t 3], (some (20, true))⟩,
      ⟨.new, (.q (.bin .eql)), [.t 21, .t 22], (some (20, true))⟩,
      ⟨.new, (.q .pick), [.t 20, .t 23, .c (.bool false)], none⟩,
      ⟨.new, (.q .mv), [.t 24], none⟩,
      ⟨.new, (.q .mv), [.t 10], (some (25, true))⟩,
      ⟨.new, (.q .mv), [.t 3], (some (25, true))⟩,
      ⟨.new, (.q (.bin .eql)), [.t 26, .t 27], (some (25, true))⟩,
      ⟨.new, (.q .pick), [.t 25, .t 28, .c (.bool false)], none⟩,
      ⟨.new, (.q .mv), [.t 29], none⟩,
      ⟨.new, (.q .mv), [.t 12], (some (30, true))⟩,
      ⟨.new, (.q .mv), [.t 3], (some (30, true))⟩,
      ⟨.new, (.q (.bin .eql)), [.t 31, .t 32], (some (30, true))⟩,
      ⟨.new, (.q .pick), [.t 30, .t 33, .c (.bool false)], none⟩,
      ⟨.new, (.q .mv), [.t 34], none⟩,
      ⟨.new, (.q .mv), [.t 9], (some (35, true))⟩,
      ⟨.new, (.e (.bsl 49 .leaf (.u64 0) 1 [0])), [.c (.u64 7)], (some (35, true))⟩,
      ⟨.new, (.call 15), [.t 36, .t 37], (some (35, true))⟩,
      ⟨.new, (.q .pick), [.t 35, .t 38, .c (.bool false)], none⟩,
      ⟨.new, (.q .mv), [.t 39], none⟩,
      ⟨.new, (.q .mv), [.t 11], (some (40, true))⟩,
      ⟨.new, (.e (.bsl 49 .leaf (.u64 0) 1 [0])), [.c (.u64 0)], (some (40, true))⟩,
      ⟨.new, (.call 15), [.t 41, .t 42], (some (40, true))⟩,
      ⟨.new, (.q .pick), [.t 40, .t 43, .c (.bool false)], none⟩,
      ⟨.var 0, (.q .mv), [.t 44], none⟩])
    .ret)))))))),
    [.t 0]⟩

/-- trefoil/trefoillaw19.CotSends (0:width, 1:n, 2:l, 3:xs, 8:, 9:a, 10:b, 11:e, 12:c, 13:d, 14:f, 22:) -/
def s3 : FnS := ⟨59, [0, 1, 2, 3, 8, 9, 10, 11, 12, 13, 14, 22],
    (.seq (.reg [⟨.var 4, (.q .mv), [.c (.bool false)], none⟩])
    (.seq (.seq (.reg [⟨.new, (.q .mv), [.t 2], none⟩,
      ⟨.new, (.q .len), [.t 12], none⟩,
      ⟨.new, (.q (.bin .gtr)), [.t 13, .c (.int 30)], none⟩,
      ⟨.new, (.q .mv), [.t 14], none⟩,
      ⟨.new, (.q .mv), [.t 3], (some (15, false))⟩,
      ⟨.new, (.q .len), [.t 16], (some (15, false))⟩,
      ⟨.new, (.q (.bin .gtr)), [.t 17, .c (.int 200)], (some (15, false))⟩,
      ⟨.var 11, (.q .pick), [.t 15, .c (.bool true), .t 18], none⟩])
    (.cond (.t 11) (.seq (.reg [⟨.new, (.call 11), [], none⟩,
      ⟨.var 4, (.q .mv), [.t 12], none⟩])
    .ret)
    .skip))
    (.seq (.reg [⟨.new, (.q .mv), [.t 0], none⟩,
      ⟨.new, (.q .mv), [.t 1], none⟩,
      ⟨.new, (.q .mv), [.t 2], none⟩,
      ⟨.new, (.call 13), [.t 14], none⟩,
      ⟨.new, (.q .mv), [.t 3], none⟩,
      ⟨.new, (.call 12), [.t 12, .t 13, .t 15, .t 16], none⟩,
      ⟨.new, (.q .mv), [.t 17], none⟩,
      ⟨.new, (.q (.ext 0)), [.t 18], none⟩,
      ⟨.new, (.q (.ext 1)), [.t 18], none⟩,
      ⟨.new, (.q (.ext 2)), [.t 18], none⟩,
      ⟨.var 5, (.q .mv), [.t 19], none⟩,
      ⟨.var 6, (.q .mv), [.t 20], none⟩,
      ⟨.var 7, (.q .mv), [.t 21], none⟩])
    (.seq (.reg [⟨.new, (.q .mv), [.t 0], none⟩,
      ⟨.new, (.q .mv), [.t 1], none⟩,
      ⟨.new, (.q .mv), [.t 2], none⟩,
      ⟨.new, (.q .mv), [.t 3], none⟩,
      ⟨.new, (.call 14), [.t 12, .t 13, .t 14, .t 15], none⟩,
      ⟨.new, (.q .mv), [.t 16], none⟩,
      ⟨.new, (.q (.ext 0)), [.t 17], none⟩,
      ⟨.new, (.q (.ext 1)), [.t 17], none⟩,
      ⟨.new, (.q (.ext 2)), [.t 17], none⟩,
      ⟨.var 8, (.q .mv), [.t 18], none⟩,
      ⟨.var 9, (.q .mv), [.t 19], none⟩,
      ⟨.var 10, (.q .mv), [.t 20], none⟩])
    (.seq (.reg [⟨.new, (.q .mv), [.t 5], none⟩,
      ⟨.new, (.q .mv), [.t 8], none⟩,
      ⟨.new, (.call 15), [.t 12, .t 13], none⟩,
      ⟨.new, (.q .mv), [.t 14], none⟩,
      ⟨.new, (.q .mv), [.t 6], (some (15, true))⟩,
      ⟨.new, (.q .mv), [.t 9], (some (15, true))⟩,
      ⟨.new, (.call 15), [.t 16, .t 17], (some (15, true))⟩,
      ⟨.new, (.q .pick), [.t 15, .t 18, .c (.bool false)], none⟩,
      ⟨.new, (.q .mv), [.t 19], none⟩,
      ⟨.new, (.q .mv), [.t 7], (some (20, true))⟩,
      ⟨.new, (.q .mv), [.t 10], (some (20, true))⟩,
      ⟨.new, (.q (.bin .eql)), [.t 21, .t 22], (some (20, true))⟩,
      ⟨.new, (.q .pick), [.t 20, .t 23, .c (.bool false)], none⟩,
      ⟨.new, (.q .mv), [.t 24], none⟩,
      ⟨.new, (.call 11), [], (some (25, true))⟩,
      ⟨.new, (.q .pick), [.t 25, .t 26, .c (.bool false)], none⟩,
      ⟨.var 4, (.q .mv), [.t 27], none⟩])
    .ret))))),
    [.t 4]⟩

/-- trefoil/trefoillaw19.CotReceives (0:width, 1:n, 2:seeds, 3:choices, 4:fix, 10:, 11:v, 13:a, 14:e, 15:b, 16:f, 29:) -/
def s4 : FnS := ⟨65, [0, 1, 2, 3, 4, 10, 11, 13, 14, 15, 16, 29],
    (.seq (.reg [⟨.var 5, (.q .mv), [.c (.bool false)], none⟩])
    (.seq (.seq (.reg [⟨.new, (.q .mv), [.t 2], none⟩,
      ⟨.new, (.q .len), [.t 12], none⟩,
      ⟨.new, (.q (.bin .gtr)), [.t 13, .c (.int 30)], none⟩,
      ⟨.new, (.q .mv), [.t 14], none⟩,
      ⟨.new, (.q .mv), [.t 3], (some (15, false))⟩,
      ⟨.new, (.q .len), [.t 16], (some (15, false))⟩,
      ⟨.new, (.q (.bin .gtr)), [.t 17, .c (.int 30)], (some (15, false))⟩,
      ⟨.new, (.q .pick), [.t 15, .c (.bool true), .t 18], none⟩,
      ⟨.new, (.q .mv), [.t 19], none⟩,
      ⟨.new, (.q .mv), [.t 4], (some (20, false))⟩,
      ⟨.new, (.q .len), [.t 21], (some (20, false))⟩,
      ⟨.new, (.q (.bin .gtr)), [.t 22, .c (.int 200)], (some (20, false))⟩,
      ⟨.var 11, (.q .pick), [.t 20, .c (.bool true), .t 23], none⟩])
    (.cond (.t 11) (.seq (.reg [⟨.new, (.call 11), [], none⟩,
      ⟨.var 5, (.q .mv), [.t 12], none⟩])
    .ret)
    .skip))
    (.seq (.reg [⟨.new, (.q .mv), [.t 3], none⟩,
      ⟨.new, (.call 16), [.t 12], none⟩,
      ⟨.new, (.q .mv), [.t 13], none⟩,
      ⟨.new, (.q (.ext 0)), [.t 14], none⟩,
      ⟨.new, (.q (.ext 1)), [.t 14], none⟩,
      ⟨.var 6, (.e (.alloc 37 (.st [.leaf, .leaf]) (.agg [(.int 0), .nils]))), [], none⟩,
      ⟨.none, (.e (.store (.st [.leaf, .leaf]))), [.t 6, .t 15], none⟩,
      ⟨.new, (.q .mv), [.t 16], none⟩])
    (.seq (.reg [⟨.new, (.q .mv), [.t 0], none⟩,
      ⟨.new, (.q .mv), [.t 1], none⟩,
      ⟨.new, (.q .mv), [.t 2], none⟩,
      ⟨.new, (.q (.ld (.st [.leaf, .leaf]))), [.t 6], none⟩,
      ⟨.new, (.q .mv), [.t 4], none⟩,
      ⟨.new, (.call 17), [.t 12, .t 13, .t 14, .t 15, .t 16], none⟩,
      ⟨.new, (.q .mv), [.t 17], none⟩,
      ⟨.new, (.q (.ext 0)), [.t 18], none⟩,
      ⟨.new, (.q (.ext 1)), [.t 18], none⟩,
      ⟨.var 7, (.q .mv), [.t 19], none⟩,
      ⟨.var 8, (.q .mv), [.t 20], none⟩])
    (.seq (.reg [⟨.new, (.q .mv), [.t 0], none⟩,
      ⟨.new, (.q .mv), [.t 1], none⟩,
      ⟨.new, (.q .mv), [.t 2], none⟩,
      ⟨.new, (.q .mv), [.t 3], none⟩,
      ⟨.new, (.q .mv), [.t 4], none⟩,
      ⟨.new, (.call 18), [.t 12, .t 13, .t 14, .t 15, .t 16], none⟩,
      ⟨.new, (.q .mv), [.t 17], none⟩,
      ⟨.new, (.q (.ext 0)), [.t 18], none⟩,
      ⟨.new, (.q (.ext 1)), [.t 18], none⟩,
      ⟨.var 9, (.q .mv), [.t 19], none⟩,
      ⟨.var 10, (.q .mv), [.t 20], none⟩])
    (.seq (.reg [⟨.new, (.q .mv), [.t 7], none⟩,
      ⟨.new, (.q .mv), [.t 9], none⟩,
      ⟨.new, (.call 15), [.t 12, .t 13], none⟩,
      ⟨.new, (.q .mv), [.t 14], none⟩,
      ⟨.new, (.q .mv), [.t 8], (some (15, true))⟩,
      ⟨.new, (.q .mv), [.t 10], (some (15, true))⟩,
      ⟨.new, (.q (.bin .eql)), [.t 16, .t 17], (some (15, true))⟩,
      ⟨.new, (.q .pick), [.t 15, .t 18, .c (.bool false)], none⟩,
      ⟨.new, (.q .mv), [.t 19], none⟩,
      ⟨.new, (.call 11), [], (some (20, true))⟩,
      ⟨.new, (.q .pick), [.t 20, .t 21, .c (.bool false)], none⟩,
      ⟨.var 5, (.q .mv), [.t 22], none⟩])
    .ret)))))),
    [.t 5]⟩

set_option maxRecDepth 100000
set_option linter.unusedSimpArgs false
set_option linter.unusedVariables false
theorem c33 : cF P [] (drP P []) 33 0 s33.vm = some s33 := by kernel_rfl
theorem c11 : cF P [] (drP P []) 11 0 s11.vm = some s11 := by kernel_rfl
theorem c3 : cF P [] (drP P []) 3 4 s3.vm = some s3 := by kernel_rfl
theorem c4 : cF P [] (drP P []) 4 5 s4.vm = some s4 := by kernel_rfl
theorem fit_map {W : Nat} {F : Nat → BitVec 64} {n : Nat} : fitL (W : Int) ((List.range n).map fun i => msk W (F i)) = true := by
  unfold fitL
  rw [List.all_eq_true]
  intro x hx
  obtain ⟨i, _, rfl⟩ := List.mem_map.1 hx
  unfold msk
  rw [BitVec.and_assoc, BitVec.and_not_self]
  simp
/-- both shares come to the sender's number where 1 was chosen, and to nothing else -/
theorem cot_open {W N M t : Nat} {l : List Pr} {ss : List (List (BitVec 8))} {c : Nat → Bool} {xs : List (BitVec 64)} (ht : t < M) (hs : ss.getD (t / N) [] = if c (t / N) then (l.getD (t / N) prD).o else (l.getD (t / N) prD).z) :
    addA W (owF W N l t) (rcF W N ss c ((List.range M).map (fxF W N l xs)) t) = if c (t / N) then msk W (xs.getD t 0) else 0 := by
  show msk W (owF W N l t + rcF W N ss c ((List.range M).map (fxF W N l xs)) t) = _
  unfold owF rcF
  rw [hs, getD_rng ht]
  unfold fxF
  cases c (t / N) with
  | true =>
    simp only [if_true]
    generalize nuF (l.getD (t / N) prD).z W (t % N) = z
    generalize nuF (l.getD (t / N) prD).o W (t % N) = o
    generalize xs.getD t 0 = x
    rw [msk_add, msk_add', ← BitVec.add_assoc, msk_add', BitVec.add_assoc, BitVec.sub_eq_add_neg]
    congr 1
    rw [← BitVec.add_assoc o, BitVec.add_comm o x, BitVec.add_assoc x, ← BitVec.add_assoc o, BitVec.add_comm o z, BitVec.add_assoc z, BitVec.add_right_neg]
    rw [show ∀ y : BitVec 64, y + 0#64 = y from BitVec.add_zero, BitVec.add_comm x z, ← BitVec.add_assoc, BitVec.add_left_neg]
    exact BitVec.zero_add x
  | false =>
    simp only [Bool.false_eq_true, if_false]
    generalize nuF (l.getD (t / N) prD).z W (t % N) = z
    rw [msk_add, BitVec.add_left_neg]
    exact BitVec.zero_and
theorem bnds_prA {k : Nat} : ∀ {l : List Pr}, AV.bnds k (l.map prA) = true
  | [] => rfl
  | p :: l => by simp only [List.map_cons, AV.bnds, prA, AV.bnd, bnds_u8', Bool.and_true, bnds_prA]
theorem bnds_sdA {k : Nat} : ∀ {l : List (List (BitVec 8))}, AV.bnds k (l.map sdA) = true
  | [] => rfl
  | p :: l => by simp only [List.map_cons, AV.bnds, sdA, AV.bnd, bnds_u8', Bool.and_true, bnds_sdA]
def sd1 (k : BitVec 8) : List (BitVec 8) := k :: List.replicate 31 0
def awL : List Pr := [⟨sd1 1, sd1 2⟩]
theorem f33 {K : AV → Heap → Prop} {H : Heap} (h : K (.ro prS (awL.map prA)) H) : wpF P [] 33 [] H K := by
  refine wpF_go c33 rfl 5 ?_
  intro ha hb
  simp only [s33]
  (refine gw0 ?_; try exact True.intro)
  exact h
theorem f11 {K : AV → Heap → Prop} {H : Heap} (h : K (.bool true) H) : wpF P [] 11 [] H K := by
  refine wpF_go c11 rfl 3 ?_
  intro ha hb
  simp only [s11]
  clear ha hb
  (refine gw0 ?_; try exact True.intro)
  refine f33 ?_
  have hok : ∀ p ∈ awL, p.ok := fun p hp => by
    rw [List.mem_singleton.1 hp]; exact ⟨rfl, rfl⟩
  have h13 : ∀ {K : AV → Heap → Prop} {H : Heap}, K (.ro prS (awL.map prA)) H → wpF P [] 13 [.ro prS (awL.map prA)] H K := fun h => f13p (by decide) hok fun A hA => by
    rcases hA with rfl | ⟨h0, _⟩
    · exact h
    · cases h0
  have h12 : ∀ {K : AV → Heap → Prop} {H : Heap}, K (.tup [.ro .leaf (rL (fxF 8 1 awL [7]) 1), .ro .leaf (rL (owF 8 1 awL) 1), .int 0]) H → wpF P [] 12 [.int 8, .int 1, .ro prS (awL.map prA), .ro .leaf [.u64 7]] H K := fun h => f12 (W := 8) (N := 1) (l := awL) (xs := [7]) (by decide) hok (by decide) rfl (by decide) h
  generalize hA : AV.ro prS (awL.map prA) = A at h13 h12 ⊢
  (refine gw0 ?_; try exact True.intro)
  refine h13 ?_
  (refine gw0 ?_; try exact True.intro)
  refine wpF_give1 H.length 2 ?_
  have hAd : ∀ {kp : Nat → Bool} {N : Nat} {h : Heap}, demK kp N h 2 A = some A := by
    intro kp N h
    rw [← hA, demK_ro, if_pos bnds_prA]
  (refine gw1 @hAd ?_; try exact True.intro)
  refine h12 ?_
  have h34 : ∀ {K : AV → Heap → Prop} {H : Heap}, K (vec 1 (cut 1 fun i => !bfn [true] i)) H → wpF P [] 34 [vec 1 (bfn [true])] H K := fun h => f34 (by decide) h
  have h16 : ∀ {K : AV → Heap → Prop} {H : Heap}, K (.tup [vec 1 (bfn [true]), .int 0]) H → wpF P [] 16 [.ro .leaf [.bool true]] H K := fun h => f16 (l := [true]) (by decide) h
  have hff := fit_map (W := 8) (n := 1) (F := fun t => [(7 : BitVec 64)].getD t 0 + (nuF (awL.getD (t / 1) prD).z (8 : Nat) (t % 1) - nuF (awL.getD (t / 1) prD).o (8 : Nat) (t % 1)))
  have h17a : ∀ {K : AV → Heap → Prop} {H : Heap}, K (.tup [.ro .leaf (rL (rcF 8 1 [sd1 2] (bfn [true]) ((List.range 1).map (fxF 8 1 awL [7]))) 1), .int 0]) H → wpF P [] 17 [.int 8, .int 1, .ro (.arr 32 .leaf) [sdA (sd1 2)], vec 1 (bfn [true]), .ro .leaf (rL (fxF 8 1 awL [7]) 1)] H K := fun h => by
    rw [rL_map (F := fxF 8 1 awL [7])]
    exact f17 (W := 8) (N := 1) (ss := [sd1 2]) (c := bfn [true]) (xs := (List.range 1).map (fxF 8 1 awL [7])) (by decide) (fun s hs => by rw [List.mem_singleton.1 hs]; rfl) (by decide) rfl hff h
  have h17b : ∀ {K : AV → Heap → Prop} {H : Heap}, K (.tup [.ro .leaf (rL (rcF 8 1 [sd1 1] (cut 1 fun i => !bfn [true] i) ((List.range 1).map (fxF 8 1 awL [7]))) 1), .int 0]) H → wpF P [] 17 [.int 8, .int 1, .ro (.arr 32 .leaf) [sdA (sd1 1)], vec 1 (cut 1 fun i => !bfn [true] i), .ro .leaf (rL (fxF 8 1 awL [7]) 1)] H K := fun h => by
    rw [rL_map (F := fxF 8 1 awL [7])]
    exact f17 (W := 8) (N := 1) (ss := [sd1 1]) (c := cut 1 fun i => !bfn [true] i) (xs := (List.range 1).map (fxF 8 1 awL [7])) (by decide) (fun s hs => by rw [List.mem_singleton.1 hs]; rfl) (by decide) rfl hff h
  have o1 : rL (fun t => addA 8 (owF 8 1 awL t) (rcF 8 1 [sd1 2] (bfn [true]) ((List.range 1).map (fxF 8 1 awL [7])) t)) 1 = [.u64 7] := by
    have := cot_open (W := 8) (N := 1) (M := 1) (t := 0) (l := awL) (ss := [sd1 2]) (c := bfn [true]) (xs := [7]) (by decide) rfl
    exact congrArg (fun x => [AV.u64 x]) (this.trans (by decide +kernel))
  have o2 : rL (fun t => addA 8 (owF 8 1 awL t) (rcF 8 1 [sd1 1] (cut 1 fun i => !bfn [true] i) ((List.range 1).map (fxF 8 1 awL [7])) t)) 1 = [.u64 0] := by
    have := cot_open (W := 8) (N := 1) (M := 1) (t := 0) (l := awL) (ss := [sd1 1]) (c := cut 1 fun i => !bfn [true] i) (xs := [7]) (by decide) rfl
    exact congrArg (fun x => [AV.u64 x]) (this.trans (by decide +kernel))
  have h20a : ∀ {K : AV → Heap → Prop} {H : Heap}, K (.tup [.ro .leaf [.u64 7], .int 0]) H → wpF P [] 20 [.int 8, .ro .leaf (rL (owF 8 1 awL) 1), .ro .leaf (rL (rcF 8 1 [sd1 2] (bfn [true]) ((List.range 1).map (fxF 8 1 awL [7]))) 1)] H K := fun h => f20 (by decide) (by rw [o1]; exact h)
  have h20b : ∀ {K : AV → Heap → Prop} {H : Heap}, K (.tup [.ro .leaf [.u64 0], .int 0]) H → wpF P [] 20 [.int 8, .ro .leaf (rL (owF 8 1 awL) 1), .ro .leaf (rL (rcF 8 1 [sd1 1] (cut 1 fun i => !bfn [true] i) ((List.range 1).map (fxF 8 1 awL [7]))) 1)] H K := fun h => f20 (by decide) (by rw [o2]; exact h)
  clear o1 o2 hff hAd h12 h13 hA hok
  unfold vec at h34 h16 h17a h17b
  have b1 : ∀ {k F t}, AV.bnds k (rL F t) = true := @bnds_rL
  generalize rL (rcF 8 1 [sd1 2] (bfn [true]) ((List.range 1).map (fxF 8 1 awL [7]))) 1 = R1 at *
  generalize rL (rcF 8 1 [sd1 1] (cut 1 fun i => !bfn [true] i) ((List.range 1).map (fxF 8 1 awL [7]))) 1 = R2 at *
  generalize hv1 : wdA 1 (bfn [true]) = v1 at *
  generalize hv2 : wdA 1 (cut 1 fun i => !bfn [true] i) = v2 at *
  have bv1 : ∀ k, AV.bnds k v1 = true := fun k => by rw [← hv1]; exact bndA
  have bv2 : ∀ k, AV.bnds k v2 = true := fun k => by rw [← hv2]; exact bndA
  have s2 : sdA (sd1 2) = .agg [.u8 2, .u8 0, .u8 0, .u8 0, .u8 0, .u8 0, .u8 0, .u8 0, .u8 0, .u8 0, .u8 0, .u8 0, .u8 0, .u8 0, .u8 0, .u8 0, .u8 0, .u8 0, .u8 0, .u8 0, .u8 0, .u8 0, .u8 0, .u8 0, .u8 0, .u8 0, .u8 0, .u8 0, .u8 0, .u8 0, .u8 0, .u8 0] := rfl
  have s1 : sdA (sd1 1) = .agg [.u8 1, .u8 0, .u8 0, .u8 0, .u8 0, .u8 0, .u8 0, .u8 0, .u8 0, .u8 0, .u8 0, .u8 0, .u8 0, .u8 0, .u8 0, .u8 0, .u8 0, .u8 0, .u8 0, .u8 0, .u8 0, .u8 0, .u8 0, .u8 0, .u8 0, .u8 0, .u8 0, .u8 0, .u8 0, .u8 0, .u8 0, .u8 0] := rfl
  rw [s2] at h17a
  rw [s1] at h17b
  (refine gw0 ?_; try exact True.intro)
  refine wpF_give1 (H.length + 1) 2 ?_
  (refine gw0 ?_; try exact True.intro)
  refine h16 ?_
  (refine gw0 ?_; try exact True.intro)
  refine wpF_give1 (H.length + 3) 4 ?_
  (refine gw2 @bv1 @b1 ?_; try exact True.intro)
  refine h17a ?_
  (refine gw0 ?_; try exact True.intro)
  refine h34 ?_
  (refine gw0 ?_; try exact True.intro)
  refine wpF_give1 (H.length + 4) 4 ?_
  (refine gw2 @bv2 @b1 ?_; try exact True.intro)
  refine h17b ?_
  (refine gw0 ?_; try exact True.intro)
  refine h20a ?_
  (refine gw0 ?_; try exact True.intro)
  refine h20b ?_
  (refine gw0 ?_; try exact True.intro)
  refine wpF_lend1 2 ?_
  (refine gw0 ?_; try exact True.intro)
  refine f15 (a := [7]) (b := [7]) (.inl rfl) (.inl rfl) ?_
  (refine gw0 ?_; try exact True.intro)
  refine wpF_lend1 2 ?_
  (refine gw0 ?_; try exact True.intro)
  refine f15 (a := [0]) (b := [0]) (.inl rfl) (.inl rfl) ?_
  (refine gw0 ?_; try exact True.intro)
  exact h
theorem isL_lu {F : Nat → BitVec 64} {t : Nat} : isL (.ro .leaf (rL F t)) (((List.range t).map F).map .u64) := by rw [rL_map]; exact .inl rfl
theorem nums_isL {xs : List (BitVec 64)} {A B : AV} {K : AV → Heap → Prop} {H : Heap} (hA : isL A (xs.map .u64)) (hB : isL B (xs.map .u64)) (h : K (.bool true) H) : wpF P [] 15 [A, B] H K := f15 hA hB (by simpa using h)
theorem f3 {K : AV → Heap → Prop} {H : Heap} {w n : Int} {l : List Pr} {xs : List (BitVec 64)} (hok : ∀ p ∈ l, p.ok) (h : K (.bool true) H) : wpF P [] 3 [.int w, .int n, .ro prS (l.map prA), .ro .leaf (xs.map .u64)] H K := by
  refine wpF_go c3 rfl 3 ?_
  intro ha hb
  simp only [s3]
  clear ha hb
  have lm : (xs.map AV.u64).length = xs.length := by simp
  have ll : (l.map prA).length = l.length := by simp
  by_cases hl : 30 < l.length
  · have h1 : ((30 : Int) < (l.length : Int)) = True := by simp only [eq_iff_iff, iff_true]; omega
    (refine gw2 @ll @h1 ?_; try exact True.intro)
    refine f11 ?_
    (refine gw0 ?_; try exact True.intro)
    exact h
  have h1 : ((30 : Int) < (l.length : Int)) = False := by simp only [eq_iff_iff, iff_false]; omega
  by_cases hl2 : 200 < xs.length
  · have h2 : ((200 : Int) < (xs.length : Int)) = True := by simp only [eq_iff_iff, iff_true]; omega
    (refine gw4 @ll @h1 @lm @h2 ?_; try exact True.intro)
    refine f11 ?_
    (refine gw0 ?_; try exact True.intro)
    exact h
  have h2 : ((200 : Int) < (xs.length : Int)) = False := by simp only [eq_iff_iff, iff_false]; omega
  obtain ⟨z1, z2, A1, A2, B1, B2, e, a1, a2, b1, b2, p, q⟩ : ∃ (z1 z2 : List (BitVec 64)) (A1 A2 B1 B2 : AV) (e : Int), isL A1 (z1.map .u64) ∧ isL A2 (z2.map .u64) ∧ isL B1 (z1.map .u64) ∧ isL B2 (z2.map .u64) ∧
      (∀ A, isP A l → ∀ (K : AV → Heap → Prop) (H : Heap), K (.tup [A1, A2, .int e]) H → wpF P [] 12 [.int w, .int n, A, .ro .leaf (xs.map .u64)] H K) ∧ (∀ (K : AV → Heap → Prop) (H : Heap), K (.tup [B1, B2, .int e]) H → wpF P [] 14 [.int w, .int n, .ro prS (l.map prA), .ro .leaf (xs.map .u64)] H K) := by
    by_cases hc : (okW w n && decide ((xs.length : Int) = n * l.length) && fitL w xs) = true
    · obtain ⟨hc1, hf⟩ := Bool.and_eq_true_iff.1 hc
      obtain ⟨hw, hd⟩ := Bool.and_eq_true_iff.1 hc1
      obtain ⟨⟨w1, _⟩, n1, _⟩ := okW_good hw
      obtain ⟨W, rfl⟩ : ∃ W : Nat, w = W := ⟨w.toNat, by omega⟩
      obtain ⟨N, rfl⟩ : ∃ N : Nat, n = N := ⟨n.toNat, by omega⟩
      have hd' : xs.length = N * l.length := by
        have := of_decide_eq_true hd
        rw [show (N : Int) * (l.length : Int) = ((N * l.length : Nat) : Int) by simp] at this
        exact Int.ofNat_inj.1 this
      refine ⟨_, _, _, _, _, _, 0, isL_lu, isL_lu, luL_isL (F := fxF W N l xs) (t := xs.length), luL_isL (F := owF W N l) (t := xs.length), fun A hA K H h => ?_, fun K H h => f14 (by omega) hok hw hd' hf h⟩
      rcases hA with rfl | ⟨rfl, rfl⟩
      · exact f12 (by omega) hok hw hd' hf h
      · have hx0 : xs = [] := List.length_eq_zero_iff.1 (by rw [hd']; rfl)
        subst hx0
        exact f12n (.inl rfl) hw h
    · have hb : (okW w n && decide ((xs.length : Int) = n * l.length) && fitL w xs) = false := by simpa using hc
      exact ⟨[], [], .nils, .nils, .nils, .nils, 11, .inr ⟨rfl, rfl⟩, .inr ⟨rfl, rfl⟩, .inr ⟨rfl, rfl⟩, .inr ⟨rfl, rfl⟩, fun A hA K H h => f12e hA (.inl rfl) (by omega) (by omega) hb h, fun K H h => f14e (by omega) (by omega) hb h⟩
  (refine gw4 @ll @h1 @lm @h2 ?_; try exact True.intro)
  refine f13p (by omega) hok fun A hA => ?_
  (refine gw0 ?_; try exact True.intro)
  refine p A hA _ _ ?_
  (refine gw0 ?_; try exact True.intro)
  refine q _ _ ?_
  (refine gw0 ?_; try exact True.intro)
  refine nums_isL a1 b1 ?_
  (refine gw0 ?_; try exact True.intro)
  refine nums_isL a2 b2 ?_
  (refine gw0 ?_; try exact True.intro)
  refine f11 ?_
  (refine gw0 ?_; try exact True.intro)
  exact h
theorem f4 {K : AV → Heap → Prop} {H : Heap} {w n : Int} {ss : List (List (BitVec 8))} {ch : List Bool} {xs : List (BitVec 64)} (hok : ∀ s ∈ ss, s.length = 32) (h : K (.bool true) H) : wpF P [] 4 [.int w, .int n, .ro (.arr 32 .leaf) (ss.map sdA), .ro .leaf (ch.map .bool), .ro .leaf (xs.map .u64)] H K := by
  refine wpF_go c4 rfl 3 ?_
  intro ha hb
  simp only [s4]
  clear ha hb
  have lm : (xs.map AV.u64).length = xs.length := by simp
  have ll : (ss.map sdA).length = ss.length := by simp
  have lc : (ch.map AV.bool).length = ch.length := by simp
  by_cases hl : 30 < ss.length
  · have h1 : ((30 : Int) < (ss.length : Int)) = True := by simp only [eq_iff_iff, iff_true]; omega
    (refine gw2 @ll @h1 ?_; try exact True.intro)
    refine f11 ?_
    (refine gw0 ?_; try exact True.intro)
    exact h
  have h1 : ((30 : Int) < (ss.length : Int)) = False := by simp only [eq_iff_iff, iff_false]; omega
  by_cases hl3 : 30 < ch.length
  · have h3 : ((30 : Int) < (ch.length : Int)) = True := by simp only [eq_iff_iff, iff_true]; omega
    (refine gw4 @ll @h1 @lc @h3 ?_; try exact True.intro)
    refine f11 ?_
    (refine gw0 ?_; try exact True.intro)
    exact h
  have h3 : ((30 : Int) < (ch.length : Int)) = False := by simp only [eq_iff_iff, iff_false]; omega
  by_cases hl2 : 200 < xs.length
  · have h2 : ((200 : Int) < (xs.length : Int)) = True := by simp only [eq_iff_iff, iff_true]; omega
    (refine gw6 @ll @h1 @lc @h3 @lm @h2 ?_; try exact True.intro)
    refine f11 ?_
    (refine gw0 ?_; try exact True.intro)
    exact h
  have h2 : ((200 : Int) < (xs.length : Int)) = False := by simp only [eq_iff_iff, iff_false]; omega
  obtain ⟨z1, A1, B1, e, a1, b1, p, q⟩ : ∃ (z1 : List (BitVec 64)) (A1 B1 : AV) (e : Int), isL A1 (z1.map .u64) ∧ isL B1 (z1.map .u64) ∧
      (∀ (K : AV → Heap → Prop) (H : Heap), K (.tup [A1, .int e]) H → wpF P [] 17 [.int w, .int n, .ro (.arr 32 .leaf) (ss.map sdA), vec ch.length (bfn ch), .ro .leaf (xs.map .u64)] H K) ∧ (∀ (K : AV → Heap → Prop) (H : Heap), K (.tup [B1, .int e]) H → wpF P [] 18 [.int w, .int n, .ro (.arr 32 .leaf) (ss.map sdA), .ro .leaf (ch.map .bool), .ro .leaf (xs.map .u64)] H K) := by
    by_cases hc : (okW w n && decide (ss.length = ch.length) && decide ((xs.length : Int) = n * ss.length) && fitL w xs) = true
    · obtain ⟨hc1, hf⟩ := Bool.and_eq_true_iff.1 hc
      obtain ⟨hc2, hd⟩ := Bool.and_eq_true_iff.1 hc1
      obtain ⟨hw, hs⟩ := Bool.and_eq_true_iff.1 hc2
      obtain ⟨⟨w1, _⟩, n1, _⟩ := okW_good hw
      obtain ⟨W, rfl⟩ : ∃ W : Nat, w = W := ⟨w.toNat, by omega⟩
      obtain ⟨N, rfl⟩ : ∃ N : Nat, n = N := ⟨n.toNat, by omega⟩
      have hs' := of_decide_eq_true hs
      have hd' : xs.length = N * ss.length := by
        have := of_decide_eq_true hd
        rw [show (N : Int) * (ss.length : Int) = ((N * ss.length : Nat) : Int) by simp] at this
        exact Int.ofNat_inj.1 this
      refine ⟨_, _, _, 0, isL_lu, luL_isL (F := rcF W N ss (bfn ch) xs) (t := xs.length), fun K H h => ?_, fun K H h => f18 (by omega) hok hw hs' hd' hf h⟩
      rw [← hs']
      exact f17 (by omega) hok hw hd' hf h
    · have hb : (okW w n && decide (ss.length = ch.length) && decide ((xs.length : Int) = n * ss.length) && fitL w xs) = false := by simpa using hc
      exact ⟨[], .nils, .nils, 11, .inr ⟨rfl, rfl⟩, .inr ⟨rfl, rfl⟩, fun K H h => f17e (by omega) (by omega) hb h, fun K H h => f18e (by omega) (by omega) hb h⟩
  have h16 : ∀ {K : AV → Heap → Prop} {H : Heap}, K (.tup [vec ch.length (bfn ch), .int 0]) H → wpF P [] 16 [.ro .leaf (ch.map .bool)] H K := fun h => f16 (by omega) h
  unfold vec at p h16
  generalize wdA ch.length (bfn ch) = wv at *
  (refine gw6 @ll @h1 @lc @h3 @lm @h2 ?_; try exact True.intro)
  refine h16 ?_
  (refine gw0 ?_; try exact True.intro)
  refine p _ _ ?_
  (refine gw0 ?_; try exact True.intro)
  refine q _ _ ?_
  (refine gw0 ?_; try exact True.intro)
  refine nums_isL a1 b1 ?_
  (refine gw0 ?_; try exact True.intro)
  refine f11 ?_
  (refine gw0 ?_; try exact True.intro)
  exact h
end Go.Proofs.Ytjilenmngokhpaa

end
