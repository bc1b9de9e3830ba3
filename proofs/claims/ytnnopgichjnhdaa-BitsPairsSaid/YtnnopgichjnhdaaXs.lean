/-
  The laws BitsSpread and BitsPairs return true for all inputs.
-/
import Derived.Test.YtnnopgichjnhdaaXc
import Derived.Test.YtnnopgichjnhdaaV38
open Go Go.V
namespace Go.Proofs.Ytnnopgichjnhdaa
set_option maxRecDepth 100000
set_option linter.unusedSimpArgs false
set_option linter.unusedVariables false
/-- trefoil/trefoillaw02.BitsSpread (0:a, 1:b, 2:c, 6:, 7:x, 9:y, 11:z, 13:p, 15:q, 17:l, 19:m, 21:n, 23:o, 41:) -/
def s5 : FnS := ⟨122, [0, 1, 2, 6, 7, 9, 11, 13, 15, 17, 19, 21, 23, 41],
    (.seq (.reg [⟨.var 3, (.q .mv), [.c (.bool false)], none⟩])
    (.seq (.seq (.reg [⟨.new, (.q .mv), [.t 0], none⟩,
      ⟨.new, (.q .len), [.t 14], none⟩,
      ⟨.new, (.q (.bin .gtr)), [.t 15, .c (.int 600)], none⟩,
      ⟨.new, (.q .mv), [.t 16], none⟩,
      ⟨.new, (.q .mv), [.t 1], (some (17, false))⟩,
      ⟨.new, (.q .len), [.t 18], (some (17, false))⟩,
      ⟨.new, (.q .mv), [.t 0], (some (17, false))⟩,
      ⟨.new, (.q .len), [.t 20], (some (17, false))⟩,
      ⟨.new, (.q (.bin .neq)), [.t 19, .t 21], (some (17, false))⟩,
      ⟨.new, (.q .pick), [.t 17, .c (.bool true), .t 22], none⟩,
      ⟨.new, (.q .mv), [.t 23], none⟩,
      ⟨.new, (.q .mv), [.t 2], (some (24, false))⟩,
      ⟨.new, (.q .len), [.t 25], (some (24, false))⟩,
      ⟨.new, (.q .mv), [.t 0], (some (24, false))⟩,
      ⟨.new, (.q .len), [.t 27], (some (24, false))⟩,
      ⟨.new, (.q (.bin .neq)), [.t 26, .t 28], (some (24, false))⟩,
      ⟨.var 13, (.q .pick), [.t 24, .c (.bool true), .t 29], none⟩])
    (.cond (.t 13) (.seq (.reg [⟨.new, (.call 9), [], none⟩,
      ⟨.var 3, (.q .mv), [.t 14], none⟩])
    .ret)
    .skip))
    (.seq (.reg [⟨.new, (.q .mv), [.t 0], none⟩,
      ⟨.new, (.call 10), [.t 14], none⟩,
      ⟨.new, (.q .mv), [.t 15], none⟩,
      ⟨.new, (.q (.ext 0)), [.t 16], none⟩,
      ⟨.new, (.q (.ext 1)), [.t 16], none⟩,
      ⟨.var 4, (.e (.alloc 26 (.st [.leaf, .leaf]) (.agg [(.int 0), .nils]))), [], none⟩,
      ⟨.none, (.e (.store (.st [.leaf, .leaf]))), [.t 4, .t 17], none⟩,
      ⟨.new, (.q .mv), [.t 18], none⟩])
    (.seq (.reg [⟨.new, (.q .mv), [.t 1], none⟩,
      ⟨.new, (.call 10), [.t 14], none⟩,
      ⟨.new, (.q .mv), [.t 15], none⟩,
      ⟨.new, (.q (.ext 0)), [.t 16], none⟩,
      ⟨.new, (.q (.ext 1)), [.t 16], none⟩,
      ⟨.var 5, (.e (.alloc 26 (.st [.leaf, .leaf]) (.agg [(.int 0), .nils]))), [], none⟩,
      ⟨.none, (.e (.store (.st [.leaf, .leaf]))), [.t 5, .t 17], none⟩,
      ⟨.new, (.q .mv), [.t 18], none⟩])
    (.seq (.reg [⟨.new, (.q .mv), [.t 2], none⟩,
      ⟨.new, (.call 10), [.t 14], none⟩,
      ⟨.new, (.q .mv), [.t 15], none⟩,
      ⟨.new, (.q (.ext 0)), [.t 16], none⟩,
      ⟨.new, (.q (.ext 1)), [.t 16], none⟩,
      ⟨.var 6, (.e (.alloc 26 (.st [.leaf, .leaf]) (.agg [(.int 0), .nils]))), [], none⟩,
      ⟨.none, (.e (.store (.st [.leaf, .leaf]))), [.t 6, .t 17], none⟩,
      ⟨.new, (.q .mv), [.t 18], none⟩])
    (.seq (.reg [⟨.new, (.q (.ld (.st [.leaf, .leaf]))), [.t 4], none⟩,
      ⟨.new, (.q (.ld (.st [.leaf, .leaf]))), [.t 5], none⟩,
      ⟨.new, (.call 21), [.t 14, .t 15], none⟩,
      ⟨.new, (.q .mv), [.t 16], none⟩,
      ⟨.new, (.q (.ext 0)), [.t 17], none⟩,
      ⟨.new, (.q (.ext 1)), [.t 17], none⟩,
      ⟨.var 7, (.e (.alloc 26 (.st [.leaf, .leaf]) (.agg [(.int 0), .nils]))), [], none⟩,
      ⟨.none, (.e (.store (.st [.leaf, .leaf]))), [.t 7, .t 18], none⟩,
      ⟨.new, (.q .mv), [.t 19], none⟩])
    (.seq (.reg [⟨.new, (.q (.ld (.st [.leaf, .leaf]))), [.t 7], none⟩,
      ⟨.new, (.q (.ld (.st [.leaf, .leaf]))), [.t 5], none⟩,
      ⟨.new, (.call 21), [.t 14, .t 15], none⟩,
      ⟨.new, (.q .mv), [.t 16], none⟩,
      ⟨.new, (.q (.ext 0)), [.t 17], none⟩,
      ⟨.new, (.q (.ext 1)), [.t 17], none⟩,
      ⟨.var 8, (.e (.alloc 26 (.st [.leaf, .leaf]) (.agg [(.int 0), .nils]))), [], none⟩,
      ⟨.none, (.e (.store (.st [.leaf, .leaf]))), [.t 8, .t 18], none⟩,
      ⟨.new, (.q .mv), [.t 19], none⟩])
    (.seq (.reg [⟨.new, (.q (.ld (.st [.leaf, .leaf]))), [.t 7], none⟩,
      ⟨.new, (.q (.ld (.st [.leaf, .leaf]))), [.t 6], none⟩,
      ⟨.new, (.call 22), [.t 14, .t 15], none⟩,
      ⟨.new, (.q .mv), [.t 16], none⟩,
      ⟨.new, (.q (.ext 0)), [.t 17], none⟩,
      ⟨.new, (.q (.ext 1)), [.t 17], none⟩,
      ⟨.var 9, (.e (.alloc 26 (.st [.leaf, .leaf]) (.agg [(.int 0), .nils]))), [], none⟩,
      ⟨.none, (.e (.store (.st [.leaf, .leaf]))), [.t 9, .t 18], none⟩,
      ⟨.new, (.q .mv), [.t 19], none⟩])
    (.seq (.reg [⟨.new, (.q (.ld (.st [.leaf, .leaf]))), [.t 4], none⟩,
      ⟨.new, (.q (.ld (.st [.leaf, .leaf]))), [.t 6], none⟩,
      ⟨.new, (.call 22), [.t 14, .t 15], none⟩,
      ⟨.new, (.q .mv), [.t 16], none⟩,
      ⟨.new, (.q (.ext 0)), [.t 17], none⟩,
      ⟨.new, (.q (.ext 1)), [.t 17], none⟩,
      ⟨.var 10, (.e (.alloc 26 (.st [.leaf, .leaf]) (.agg [(.int 0), .nils]))), [], none⟩,
      ⟨.none, (.e (.store (.st [.leaf, .leaf]))), [.t 10, .t 18], none⟩,
      ⟨.new, (.q .mv), [.t 19], none⟩])
    (.seq (.reg [⟨.new, (.q (.ld (.st [.leaf, .leaf]))), [.t 5], none⟩,
      ⟨.new, (.q (.ld (.st [.leaf, .leaf]))), [.t 6], none⟩,
      ⟨.new, (.call 22), [.t 14, .t 15], none⟩,
      ⟨.new, (.q .mv), [.t 16], none⟩,
      ⟨.new, (.q (.ext 0)), [.t 17], none⟩,
      ⟨.new, (.q (.ext 1)), [.t 17], none⟩,
      ⟨.var 11, (.e (.alloc 26 (.st [.leaf, .leaf]) (.agg [(.int 0), .nils]))), [], none⟩,
      ⟨.none, (.e (.store (.st [.leaf, .leaf]))), [.t 11, .t 18], none⟩,
      ⟨.new, (.q .mv), [.t 19], none⟩])
    (.seq (.reg [⟨.new, (.q (.ld (.st [.leaf, .leaf]))), [.t 10], none⟩,
      ⟨.new, (.q (.ld (.st [.leaf, .leaf]))), [.t 11], none⟩,
      ⟨.new, (.call 21), [.t 14, .t 15], none⟩,
      ⟨.new, (.q .mv), [.t 16], none⟩,
      ⟨.new, (.q (.ext 0)), [.t 17], none⟩,
      ⟨.new, (.q (.ext 1)), [.t 17], none⟩,
      ⟨.var 12, (.e (.alloc 26 (.st [.leaf, .leaf]) (.agg [(.int 0), .nils]))), [], none⟩,
      ⟨.none, (.e (.store (.st [.leaf, .leaf]))), [.t 12, .t 18], none⟩,
      ⟨.new, (.q .mv), [.t 19], none⟩])
    (.seq (.draw [⟨.new, (.q (.ld (.st [.leaf, .leaf]))), [.t 8], none⟩,
      ⟨.new, (.q (.ld (.st [.leaf, .leaf]))), [.t 4], none⟩,
      ⟨.new, (.call 23), [.t 14, .t 15], none⟩,
      ⟨.new, (.q .mv), [.t 16], none⟩,
      ⟨.new, (.q (.ld (.st [.leaf, .leaf]))), [.t 9], (some (17, true))⟩,
      ⟨.new, (.q (.ld (.st [.leaf, .leaf]))), [.t 12], (some (17, true))⟩,
      ⟨.new, (.call 23), [.t 18, .t 19], (some (17, true))⟩,
      ⟨.new, (.q .pick), [.t 17, .t 20, .c (.bool false)], none⟩,
      ⟨.new, (.q .mv), [.t 21], none⟩,
      ⟨.new, (.q (.ld (.st [.leaf, .leaf]))), [.t 9], (some (22, true))⟩,
      ⟨.new, (.call 14), [.t 23], (some (22, true))⟩,
      ⟨.new, (.q .mv), [.t 0], (some (22, true))⟩,
      ⟨.new, (.q .len), [.t 25], (some (22, true))⟩,
      ⟨.new, (.q (.bin .eql)), [.t 24, .t 26], (some (22, true))⟩,
      ⟨.new, (.q .pick), [.t 22, .t 27, .c (.bool false)], none⟩,
      ⟨.new, (.q .mv), [.t 28], none⟩,
      ⟨.new, (.q (.ld (.st [.leaf, .leaf]))), [.t 7], (some (29, true))⟩,
      ⟨.new, (.call 19), [.t 30], (some (29, true))⟩,
      ⟨.new, (.q (.ld (.st [.leaf, .leaf]))), [.t 4], (some (29, true))⟩,
      ⟨.new, (.call 19), [.t 32], (some (29, true))⟩,
      ⟨.new, (.q (.ld (.st [.leaf, .leaf]))), [.t 5], (some (29, true))⟩,
      ⟨.new, (.call 19), [.t 34], (some (29, true))⟩,
      ⟨.new, (.q (.eqB true)), [.t 33, .t 35], (some (29, true))⟩,
      ⟨.new, (.q (.eqB false)), [.t 31, .t 36], (some (29, true))⟩,
      ⟨.new, (.q .pick), [.t 29, .t 37, .c (.bool false)], none⟩,
      ⟨.new, (.q .mv), [.t 38], none⟩,
      ⟨.new, (.call 9), [], (some (39, true))⟩,
      ⟨.new, (.q .pick), [.t 39, .t 40, .c (.bool false)], none⟩,
      ⟨.var 3, (.q .mv), [.t 41], none⟩])
    .ret)))))))))))),
    [.t 3]⟩

/-- trefoil/trefoillaw02.BitsPairs (0:a, 1:b, 4:, 5:x, 7:y, 9:p, 10:e, 11:q, 12:f, 13:not, 14:i, 15:one, 16:both, 17:i, 25:, 55:, 59:, 74:, 79:, 103:) -/
def s6 : FnS := ⟨151, [0, 1, 4, 5, 7, 9, 10, 11, 12, 13, 14, 15, 16, 17, 25, 55, 59, 74, 79, 103],
    (.seq (.reg [⟨.var 2, (.q .mv), [.c (.bool false)], none⟩])
    (.seq (.seq (.reg [⟨.new, (.q .mv), [.t 0], none⟩,
      ⟨.new, (.q .len), [.t 20], none⟩,
      ⟨.new, (.q (.bin .gtr)), [.t 21, .c (.int 1000)], none⟩,
      ⟨.new, (.q .mv), [.t 22], none⟩,
      ⟨.new, (.q .mv), [.t 1], (some (23, false))⟩,
      ⟨.new, (.q .len), [.t 24], (some (23, false))⟩,
      ⟨.new, (.q (.bin .gtr)), [.t 25, .c (.int 1000)], (some (23, false))⟩,
      ⟨.var 14, (.q .pick), [.t 23, .c (.bool true), .t 26], none⟩])
    (.cond (.t 14) (.seq (.reg [⟨.new, (.call 9), [], none⟩,
      ⟨.var 2, (.q .mv), [.t 20], none⟩])
    .ret)
    .skip))
    (.seq (.reg [⟨.new, (.q .mv), [.t 0], none⟩,
      ⟨.new, (.call 10), [.t 20], none⟩,
      ⟨.new, (.q .mv), [.t 21], none⟩,
      ⟨.new, (.q (.ext 0)), [.t 22], none⟩,
      ⟨.new, (.q (.ext 1)), [.t 22], none⟩,
      ⟨.var 3, (.e (.alloc 26 (.st [.leaf, .leaf]) (.agg [(.int 0), .nils]))), [], none⟩,
      ⟨.none, (.e (.store (.st [.leaf, .leaf]))), [.t 3, .t 23], none⟩,
      ⟨.new, (.q .mv), [.t 24], none⟩])
    (.seq (.reg [⟨.new, (.q .mv), [.t 1], none⟩,
      ⟨.new, (.call 10), [.t 20], none⟩,
      ⟨.new, (.q .mv), [.t 21], none⟩,
      ⟨.new, (.q (.ext 0)), [.t 22], none⟩,
      ⟨.new, (.q (.ext 1)), [.t 22], none⟩,
      ⟨.var 4, (.e (.alloc 26 (.st [.leaf, .leaf]) (.agg [(.int 0), .nils]))), [], none⟩,
      ⟨.none, (.e (.store (.st [.leaf, .leaf]))), [.t 4, .t 23], none⟩,
      ⟨.new, (.q .mv), [.t 24], none⟩])
    (.seq (.reg [⟨.new, (.q (.ld (.st [.leaf, .leaf]))), [.t 3], none⟩,
      ⟨.new, (.q (.ld (.st [.leaf, .leaf]))), [.t 4], none⟩,
      ⟨.new, (.call 21), [.t 20, .t 21], none⟩,
      ⟨.new, (.q .mv), [.t 22], none⟩,
      ⟨.new, (.q (.ext 0)), [.t 23], none⟩,
      ⟨.new, (.q (.ext 1)), [.t 23], none⟩,
      ⟨.var 5, (.e (.alloc 26 (.st [.leaf, .leaf]) (.agg [(.int 0), .nils]))), [], none⟩,
      ⟨.none, (.e (.store (.st [.leaf, .leaf]))), [.t 5, .t 24], none⟩,
      ⟨.var 6, (.q .mv), [.t 25], none⟩])
    (.seq (.reg [⟨.new, (.q (.ld (.st [.leaf, .leaf]))), [.t 3], none⟩,
      ⟨.new, (.q (.ld (.st [.leaf, .leaf]))), [.t 4], none⟩,
      ⟨.new, (.call 22), [.t 20, .t 21], none⟩,
      ⟨.new, (.q .mv), [.t 22], none⟩,
      ⟨.new, (.q (.ext 0)), [.t 23], none⟩,
      ⟨.new, (.q (.ext 1)), [.t 23], none⟩,
      ⟨.var 7, (.e (.alloc 26 (.st [.leaf, .leaf]) (.agg [(.int 0), .nils]))), [], none⟩,
      ⟨.none, (.e (.store (.st [.leaf, .leaf]))), [.t 7, .t 24], none⟩,
      ⟨.var 8, (.q .mv), [.t 25], none⟩])
    (.seq (.seq (.reg [⟨.new, (.q (.ld (.st [.leaf, .leaf]))), [.t 3], none⟩,
      ⟨.new, (.q (.ld (.st [.leaf, .leaf]))), [.t 4], none⟩,
      ⟨.new, (.call 23), [.t 20, .t 21], none⟩,
      ⟨.new, (.q .mv), [.t 0], none⟩,
      ⟨.new, (.q .mv), [.t 1], none⟩,
      ⟨.new, (.call 24), [.t 23, .t 24], none⟩,
      ⟨.var 15, (.q (.eqB true)), [.t 22, .t 25], none⟩])
    (.cond (.t 15) (.seq (.reg [⟨.var 2, (.q .mv), [.c (.bool false)], none⟩])
    .ret)
    .skip))
    (.seq (.reg [⟨.var 9, (.q .mv), [.c .nils], none⟩])
    (.seq (.seq (.reg [⟨.var 10, (.q .mv), [.c (.int 0)], none⟩])
    (.block 0 (.loop (.seq (.seq (.reg [⟨.new, (.q .mv), [.t 10], none⟩,
      ⟨.new, (.q .mv), [.t 0], none⟩,
      ⟨.new, (.q .len), [.t 21], none⟩,
      ⟨.var 16, (.q (.bin .lss)), [.t 20, .t 22], none⟩])
    (.cond (.t 16) .skip
    (.exit 0)))
    (.seq (.block 1 (.reg [⟨.new, (.q .mv), [.t 9], none⟩,
      ⟨.new, (.q .mv), [.t 0], none⟩,
      ⟨.new, (.q .mv), [.t 10], none⟩,
      ⟨.new, (.q (.iaS .leaf)), [.t 21, .t 22], none⟩,
      ⟨.new, (.q (.ld .leaf)), [.t 23], none⟩,
      ⟨.new, (.q (.un .not)), [.t 24], none⟩,
      ⟨.new, (.e (.bsl 4 .leaf (.bool false) 1 [0])), [.t 25], none⟩,
      ⟨.new, (.e (.app 4 .leaf 1)), [.t 20, .t 26], none⟩,
      ⟨.var 9, (.q .mv), [.t 27], none⟩]))
    (.reg [⟨.new, (.q .mv), [.t 10], none⟩,
      ⟨.new, (.q (.bin .add)), [.t 20, .c (.int 1)], none⟩,
      ⟨.var 10, (.q .mv), [.t 21], none⟩]))))))
    (.seq (.seq (.reg [⟨.new, (.q (.ld (.st [.leaf, .leaf]))), [.t 3], none⟩,
      ⟨.new, (.call 25), [.t 20], none⟩,
      ⟨.new, (.q .mv), [.t 9], none⟩,
      ⟨.new, (.call 11), [.t 21, .t 22], none⟩,
      ⟨.var 17, (.q (.un .not)), [.t 23], none⟩])
    (.cond (.t 17) (.seq (.reg [⟨.var 2, (.q .mv), [.c (.bool false)], none⟩])
    .ret)
    .skip))
    (.seq (.seq (.reg [⟨.new, (.q .mv), [.t 0], none⟩,
      ⟨.new, (.q .len), [.t 20], none⟩,
      ⟨.new, (.q .mv), [.t 1], none⟩,
      ⟨.new, (.q .len), [.t 22], none⟩,
      ⟨.var 18, (.q (.bin .neq)), [.t 21, .t 23], none⟩])
    (.cond (.t 18) (.seq (.reg [⟨.new, (.q .mv), [.t 6], none⟩,
      ⟨.new, (.q (.bin .eql)), [.t 20, .c (.int 11)], none⟩,
      ⟨.new, (.q .mv), [.t 21], none⟩,
      ⟨.new, (.q .mv), [.t 8], (some (22, true))⟩,
      ⟨.new, (.q .mv), [.t 6], (some (22, true))⟩,
      ⟨.new, (.q (.bin .eql)), [.t 23, .t 24], (some (22, true))⟩,
      ⟨.new, (.q .pick), [.t 22, .t 25, .c (.bool false)], none⟩,
      ⟨.new, (.q .mv), [.t 26], none⟩,
      ⟨.new, (.q (.ld (.st [.leaf, .leaf]))), [.t 5], (some (27, true))⟩,
      ⟨.new, (.call 14), [.t 28], (some (27, true))⟩,
      ⟨.new, (.q (.bin .eql)), [.t 29, .c (.int 0)], (some (27, true))⟩,
      ⟨.new, (.q .pick), [.t 27, .t 30, .c (.bool false)], none⟩,
      ⟨.new, (.q .mv), [.t 31], none⟩,
      ⟨.new, (.q (.ld (.st [.leaf, .leaf]))), [.t 7], (some (32, true))⟩,
      ⟨.new, (.call 14), [.t 33], (some (32, true))⟩,
      ⟨.new, (.q (.bin .eql)), [.t 34, .c (.int 0)], (some (32, true))⟩,
      ⟨.new, (.q .pick), [.t 32, .t 35, .c (.bool false)], none⟩,
      ⟨.new, (.q .mv), [.t 36], none⟩,
      ⟨.new, (.call 9), [], (some (37, true))⟩,
      ⟨.new, (.q .pick), [.t 37, .t 38, .c (.bool false)], none⟩,
      ⟨.var 2, (.q .mv), [.t 39], none⟩])
    .ret)
    .skip))
    (.seq (.reg [⟨.var 11, (.q .mv), [.c .nils], none⟩,
      ⟨.var 12, (.q .mv), [.c .nils], none⟩])
    (.seq (.seq (.reg [⟨.var 13, (.q .mv), [.c (.int 0)], none⟩])
    (.block 2 (.loop (.seq (.seq (.reg [⟨.new, (.q .mv), [.t 13], none⟩,
      ⟨.new, (.q .mv), [.t 0], none⟩,
      ⟨.new, (.q .len), [.t 21], none⟩,
      ⟨.var 19, (.q (.bin .lss)), [.t 20, .t 22], none⟩])
    (.cond (.t 19) .skip
    (.exit 2)))
    (.seq (.block 3 (.seq (.draw [⟨.new, (.q .mv), [.t 11], none⟩,
      ⟨.new, (.q .mv), [.t 0], none⟩,
      ⟨.new, (.q .mv), [.t 13], none⟩,
      ⟨.new, (.q (.iaS .leaf)), [.t 21, .t 22], none⟩,
      ⟨.new, (.q (.ld .leaf)), [.t 23], none⟩,
      ⟨.new, (.q .mv), [.t 1], none⟩,
      ⟨.new, (.q .mv), [.t 13], none⟩,
      ⟨.new, (.q (.iaS .leaf)), [.t 25, .t 26], none⟩,
      ⟨.new, (.q (.ld .leaf)), [.t 27], none⟩,
      ⟨.new, (.q (.eqB true)), [.t 24, .t 28], none⟩,
      ⟨.new, (.e (.bsl 4 .leaf (.bool false) 1 [0])), [.t 29], none⟩,
      ⟨.new, (.e (.app 4 .leaf 1)), [.t 20, .t 30], none⟩,
      ⟨.var 11, (.q .mv), [.t 31], none⟩])
    (.reg [⟨.new, (.q .mv), [.t 12], none⟩,
      ⟨.new, (.q .mv), [.t 0], none⟩,
      ⟨.new, (.q .mv), [.t 13], none⟩,
      ⟨.new, (.q (.iaS .leaf)), [.t 21, .t 22], none⟩,
      ⟨.new, (.q (.ld .leaf)), [.t 23], none⟩,
      ⟨.new, (.q .mv), [.t 24], none⟩,
      ⟨.new, (.q .mv), [.t 1], (some (25, true))⟩,
      ⟨.new, (.q .mv), [.t 13], (some (25, true))⟩,
      ⟨.new, (.q (.iaS .leaf)), [.t 26, .t 27], (some (25, true))⟩,
      ⟨.new, (.q (.ld .leaf)), [.t 28], (some (25, true))⟩,
      ⟨.new, (.q .pick), [.t 25, .t 29, .c (.bool false)], none⟩,
      ⟨.new, (.e (.bsl 4 .leaf (.bool false) 1 [0])), [.t 30], none⟩,
      ⟨.new, (.e (.app 4 .leaf 1)), [.t 20, .t 31], none⟩,
      ⟨.var 12, (.q .mv), [.t 32], none⟩])))
    (.reg [⟨.new, (.q .mv), [.t 13], none⟩,
      ⟨.new, (.q (.bin .add)), [.t 20, .c (.int 1)], none⟩,
      ⟨.var 13, (.q .mv), [.t 21], none⟩]))))))
    (.seq (.reg [⟨.new, (.q .mv), [.t 6], none⟩,
      ⟨.new, (.q (.bin .eql)), [.t 20, .c (.int 0)], none⟩,
      ⟨.new, (.q .mv), [.t 21], none⟩,
      ⟨.new, (.q .mv), [.t 8], (some (22, true))⟩,
      ⟨.new, (.q .mv), [.t 6], (some (22, true))⟩,
      ⟨.new, (.q (.bin .eql)), [.t 23, .t 24], (some (22, true))⟩,
      ⟨.new, (.q .pick), [.t 22, .t 25, .c (.bool false)], none⟩,
      ⟨.new, (.q .mv), [.t 26], none⟩,
      ⟨.new, (.q (.ld (.st [.leaf, .leaf]))), [.t 5], (some (27, true))⟩,
      ⟨.new, (.q .mv), [.t 11], (some (27, true))⟩,
      ⟨.new, (.call 11), [.t 28, .t 29], (some (27, true))⟩,
      ⟨.new, (.q .pick), [.t 27, .t 30, .c (.bool false)], none⟩,
      ⟨.new, (.q .mv), [.t 31], none⟩,
      ⟨.new, (.q (.ld (.st [.leaf, .leaf]))), [.t 7], (some (32, true))⟩,
      ⟨.new, (.q .mv), [.t 12], (some (32, true))⟩,
      ⟨.new, (.call 11), [.t 33, .t 34], (some (32, true))⟩,
      ⟨.new, (.q .pick), [.t 32, .t 35, .c (.bool false)], none⟩,
      ⟨.new, (.q .mv), [.t 36], none⟩,
      ⟨.new, (.call 9), [], (some (37, true))⟩,
      ⟨.new, (.q .pick), [.t 37, .t 38, .c (.bool false)], none⟩,
      ⟨.var 2, (.q .mv), [.t 39], none⟩])
    .ret)))))))))))))),
    [.t 2]⟩

theorem c5 : cF P [] (drP P []) 5 3 s5.vm = some s5 := by kernel_rfl
theorem c6 : cF P [] (drP P []) 6 2 s6.vm = some s6 := by kernel_rfl
theorem f5 {K : AV → Heap → Prop} {H : Heap} {a b c : List Bool} (h : K (.bool true) H) : wpF P [] 5 [.ro .leaf (a.map .bool), .ro .leaf (b.map .bool), .ro .leaf (c.map .bool)] H K := by
  refine wpF_go c5 rfl 3 ?_
  intro ha hb
  simp only [s5]
  by_cases h6 : 600 < a.length
  · have h1 : ((600 : Int) < (a.length : Int)) = True := by simp; omega
    (refine gw1 @h1 ?_; try exact True.intro)
    refine f9 ?_
    (refine gw0 ?_; try exact True.intro)
    exact h
  have h1 : ((600 : Int) < (a.length : Int)) = False := by simp; omega
  by_cases hbl : b.length = a.length
  rotate_left 1
  · have h2 : ((b.length : Int) = (a.length : Int)) = False := by simp; omega
    (refine gw2 @h1 @h2 ?_; try exact True.intro)
    refine f9 ?_
    (refine gw0 ?_; try exact True.intro)
    exact h
  have h2 : ((b.length : Int) = (a.length : Int)) = True := by simp; omega
  by_cases hcl : c.length = a.length
  rotate_left 1
  · have h3 : ((c.length : Int) = (a.length : Int)) = False := by simp; omega
    (refine gw3 @h1 @h2 @h3 ?_; try exact True.intro)
    refine f9 ?_
    (refine gw0 ?_; try exact True.intro)
    exact h
  have h3 : ((c.length : Int) = (a.length : Int)) = True := by simp; omega
  have oa : ∀ {K : AV → Heap → Prop} {H : Heap}, K (.tup [vec a.length (bfn a), .int 0]) H → wpF P [] 10 [.ro .leaf (a.map .bool)] H K := fun h => f10 (by omega) h
  have ob : ∀ {K : AV → Heap → Prop} {H : Heap}, K (.tup [vec a.length (bfn b), .int 0]) H → wpF P [] 10 [.ro .leaf (b.map .bool)] H K := fun h => f10 (by omega) (by rw [hbl]; exact h)
  have oc : ∀ {K : AV → Heap → Prop} {H : Heap}, K (.tup [vec a.length (bfn c), .int 0]) H → wpF P [] 10 [.ro .leaf (c.map .bool)] H K := fun h => f10 (by omega) (by rw [hcl]; exact h)
  have hn : a.length ≤ 1000 := by omega
  have len : ∀ {K : AV → Heap → Prop} {H : Heap} {f : Nat → Bool}, K (.int (a.length : Nat)) H → wpF P [] 14 [vec a.length f] H K := fun h => f14 h
  generalize bfn a = A at oa
  generalize bfn b = B at ob
  generalize bfn c = C at oc
  obtain ⟨n, hN⟩ : ∃ n, a.length = n := ⟨_, rfl⟩
  rw [hN] at oa ob oc h1 hn hbl hcl len
  have hnn : ((n : Int) = (n : Int)) = True := by simp
  (refine gw5 @hN @hbl @hcl @h1 @hnn ?_; try exact True.intro)
  refine oa ?_
  simp only [vec]
  (refine gw0 ?_; try exact True.intro)
  refine ob ?_
  simp only [vec]
  (refine gw0 ?_; try exact True.intro)
  refine oc ?_
  simp only [vec]
  (refine gw0 ?_; try exact True.intro)
  refine f21 (n := n) (m := n) (f := A) (g := B) (by omega) ?_
  rw [if_pos rfl]
  simp only [vec]
  (refine gw0 ?_; try exact True.intro)
  refine f21 (n := n) (m := n) (f := fun i => A i != B i) (g := B) (by omega) ?_
  rw [if_pos rfl]
  simp only [vec]
  (refine gw0 ?_; try exact True.intro)
  refine f22 (n := n) (m := n) (f := fun i => A i != B i) (g := C) (by omega) ?_
  rw [if_pos rfl]
  simp only [vec]
  (refine gw0 ?_; try exact True.intro)
  refine f22 (n := n) (m := n) (f := A) (g := C) (by omega) ?_
  rw [if_pos rfl]
  simp only [vec]
  (refine gw0 ?_; try exact True.intro)
  refine f22 (n := n) (m := n) (f := B) (g := C) (by omega) ?_
  rw [if_pos rfl]
  simp only [vec]
  (refine gw0 ?_; try exact True.intro)
  refine f21 (n := n) (m := n) (f := fun i => A i && C i) (g := fun i => B i && C i) (by omega) ?_
  rw [if_pos rfl]
  simp only [vec]
  (refine gw0 ?_; try exact True.intro)
  have q1 : (fun i => (A i != B i) != B i) = A := by funext i; cases A i <;> cases B i <;> rfl
  have q2 : (fun i => (A i != B i) && C i) = fun i => (A i && C i) != (B i && C i) := by funext i; cases A i <;> cases B i <;> cases C i <;> rfl
  refine drawn (.bool true) (f23 (n := n) (m := n) (f := fun i => (A i != B i) != B i) (g := A) ⟨by rw [q1, decide_eq_true rfl, decide_eq_true rfl]; rfl, rfl⟩) ?_
  (refine gw0 ?_; try exact True.intro)
  refine drawn (.bool true) (f23 (n := n) (m := n) (f := fun i => (A i != B i) && C i) (g := fun i => (A i && C i) != (B i && C i)) ⟨by rw [q2, decide_eq_true rfl, decide_eq_true rfl]; rfl, rfl⟩) ?_
  (refine gw0 ?_; try exact True.intro)
  refine drawn _ (f14 (n := n) (f := fun i => (A i != B i) && C i) ⟨rfl, rfl⟩) ?_
  (refine gw2 @hN @hnn ?_; try exact True.intro)
  refine drawn _ (f19 (n := n) (f := fun i => A i != B i) (by omega) ⟨rfl, rfl⟩) ?_
  (refine gw0 ?_; try exact True.intro)
  refine drawn _ (f19 (n := n) (f := A) (by omega) ⟨rfl, rfl⟩) ?_
  (refine gw0 ?_; try exact True.intro)
  refine drawn _ (f19 (n := n) (f := B) (by omega) ⟨rfl, rfl⟩) ?_
  have hx := cnt_xor (f := A) (g := B) (64 * nw n)
  have q3 : (decide (cnt (64 * nw n) (fun i => A i != B i) % 2 = 1) == !(decide (cnt (64 * nw n) A % 2 = 1) == decide (cnt (64 * nw n) B % 2 = 1))) = true := by
    rw [hx]
    have h1 : cnt (64 * nw n) A % 2 = 0 ∨ cnt (64 * nw n) A % 2 = 1 := by omega
    have h2 : cnt (64 * nw n) B % 2 = 0 ∨ cnt (64 * nw n) B % 2 = 1 := by omega
    rcases h1 with h1 | h1 <;> rcases h2 with h2 | h2 <;> rw [Nat.add_mod, h1, h2] <;> rfl
  (refine gw1 @q3 ?_; try exact True.intro)
  refine drawn (.bool true) (f9 ⟨rfl, rfl⟩) ?_
  (refine gw0 ?_; try exact True.intro)
  exact h

theorem bfn_inj {a b : List Bool} (hl : a.length = b.length) (h : ∀ i, i < a.length → bfn a i = bfn b i) : a = b := by
  apply List.ext_getElem hl
  intro i h1 h2
  have := h i h1
  simpa [bfn, List.getD_eq_getElem?_getD, h1, h2] using this
theorem same_eq (a b : List Bool) : (decide (a.length = b.length) && decide (wds a.length (bfn a) = wds b.length (bfn b))) = decide (a = b) := by
  by_cases h : a = b
  · subst h; simp
  · rw [decide_eq_false h]
    by_cases hl : a.length = b.length
    · rw [decide_eq_true hl, Bool.true_and, decide_eq_false]
      intro he
      refine h (bfn_inj hl ?_)
      rw [← hl] at he
      exact (wds_inj (fun i hi => bf_out hi) (fun i hi => bf_out (by omega))).1 he
    · rw [decide_eq_false hl, Bool.false_and]

def vbx (n : Nat) (f : Nat → Bool) : Option Blk := some ⟨26, 0, false, .arr 1 (.st [.leaf, .leaf]), .agg [.agg [.int (n : Int), .ro .leaf (wdA n f)]]⟩
/-- lists that grow in memory behind a heap of this length -/
def apl (te N : Nat) (F : Nat → AV) (i : Nat) (out : AV) (L : Heap) : Prop :=
  (i = 0 ∧ out = .nils ∧ L = []) ∨ (0 < i ∧ out = .own N i [] 0 i .leaf ∧ ∃ T J, L = T :: some ⟨te, i, true, .arr i .leaf, .agg ((List.range i).map F)⟩ :: J)
def I6 (a b : List Bool) (B1 B2 : Option Blk) (e : Int) (H : Heap) (k : Nat) (st : St) : Prop :=
  ∃ (i : Nat) (out : AV) (L : Heap) (u1 : AV), st = ⟨[.ro .leaf (a.map .bool), .ro .leaf (b.map .bool), .bool false, .ptr H.length 0 [0] (.st [.leaf, .leaf]), .ptr (H.length + 1) 0 [0] (.st [.leaf, .leaf]), .ptr (H.length + 2) 0 [0] (.st [.leaf, .leaf]), .int e,
    .ptr (H.length + 3) 0 [0] (.st [.leaf, .leaf]), .int e, out, .int (i : Int), .un, .un, .un, .bool false, .bool false, u1, .un, .un, .un], H ++ vbx a.length (bfn a) :: vbx b.length (bfn b) :: B1 :: B2 :: L⟩ ∧ k = a.length - i ∧ i ≤ a.length ∧
    apl 4 (H.length + 5) (fun i => .bool (!bfn a i)) i out L
def I6b (a b : List Bool) (H G : Heap) (k : Nat) (st : St) : Prop :=
  ∃ (i : Nat) (o1 o2 : AV) (L : Heap) (u1 : AV), st = ⟨[.ro .leaf (a.map .bool), .ro .leaf (b.map .bool), .bool false, .ptr H.length 0 [0] (.st [.leaf, .leaf]), .ptr (H.length + 1) 0 [0] (.st [.leaf, .leaf]), .ptr (H.length + 2) 0 [0] (.st [.leaf, .leaf]), .int 0,
    .ptr (H.length + 3) 0 [0] (.st [.leaf, .leaf]), .int 0, .own (H.length + 5) a.length [] 0 a.length .leaf, .int a.length, o1, o2, .int (i : Int), .bool false, .bool false, .bool false, .bool false, .bool false, u1], G ++ L⟩ ∧ k = a.length - i ∧ i ≤ a.length ∧
    ((i = 0 ∧ o1 = .nils ∧ o2 = .nils ∧ L = []) ∨ (0 < i ∧ o1 = .own (G.length + 1) i [] 0 i .leaf ∧ o2 = .own (G.length + 3) i [] 0 i .leaf ∧ ∃ T1 T2 J, L = T1 :: some ⟨4, i, true, .arr i .leaf, .agg ((List.range i).map fun i => .bool (bfn a i != bfn b i))⟩ ::
      T2 :: some ⟨4, i, true, .arr i .leaf, .agg ((List.range i).map fun i => .bool (bfn a i && bfn b i))⟩ :: J))
set_option maxHeartbeats 1000000 in
theorem f6 {K : AV → Heap → Prop} {H : Heap} {a b : List Bool} (h : K (.bool true) H) : wpF P [] 6 [.ro .leaf (a.map .bool), .ro .leaf (b.map .bool)] H K := by
  refine wpF_go c6 rfl 3 ?_
  intro ha hb
  simp only [s6]
  by_cases h6 : 1000 < a.length
  · have h1 : ((1000 : Int) < (a.length : Int)) = True := by simp; omega
    (refine gw1 @h1 ?_; try exact True.intro)
    refine f9 ?_
    (refine gw0 ?_; try exact True.intro)
    exact h
  have h1 : ((1000 : Int) < (a.length : Int)) = False := by simp; omega
  by_cases h7 : 1000 < b.length
  · have h2 : ((1000 : Int) < (b.length : Int)) = True := by simp; omega
    (refine gw2 @h1 @h2 ?_; try exact True.intro)
    refine f9 ?_
    (refine gw0 ?_; try exact True.intro)
    exact h
  have h2 : ((1000 : Int) < (b.length : Int)) = False := by simp; omega
  (refine gw2 @h1 @h2 ?_; try exact True.intro)
  refine f10 (by omega) ?_
  simp only [vec]
  (refine gw0 ?_; try exact True.intro)
  refine f10 (by omega) ?_
  simp only [vec]
  (refine gw0 ?_; try exact True.intro)
  refine f21 (n := a.length) (m := b.length) (f := bfn a) (g := bfn b) (by omega) ?_
  by_cases hab : a.length = b.length
  · rw [if_pos hab]
    simp only [vec]
    (refine gw0 ?_; try exact True.intro)
    refine f22 (n := a.length) (m := b.length) (f := bfn a) (g := bfn b) (by omega) ?_
    rw [if_pos hab]
    simp only [vec]
    (refine gw0 ?_; try exact True.intro)
    refine f23 (n := a.length) (m := b.length) (f := bfn a) (g := bfn b) ?_
    rw [same_eq]
    (refine gw0 ?_; try exact True.intro)
    refine f24 (.inl rfl) (.inl rfl) ?_
    have hx : (decide (a = b) == decide (a = b)) = true := by simp
    (refine gw1 @hx ?_; try exact True.intro)
    refine wp_inv (I6 a b (vbx a.length fun i => bfn a i != bfn b i) (vbx a.length fun i => bfn a i && bfn b i) 0 H) a.length ⟨0, .nils, [], .un, rfl, rfl, by omega, .inl ⟨rfl, rfl, rfl⟩⟩ ?_
    rintro k st ⟨i, out, L, u1, rfl, rfl, hi, ho⟩
    unfold vbx
    by_cases hil : i < a.length
    · have h3 : ((i : Int) < (a.length : Int)) = True := by simp; omega
      have gl := ld_bfn hil
      have hsn := rng_snoc (F := fun i => AV.bool (!bfn a i)) (i := i)
      rcases ho with ⟨rfl, rfl, rfl⟩ | ⟨hpos, rfl, T, J, rfl⟩
      · have h3 : ((0 : Int) < (a.length : Int)) = True := by simp; omega
        (refine gw2 @h3 @gl ?_; try exact True.intro)
        (repeat (refine And.intro (by omega) ?_))
        exact ⟨a.length - 1, by omega, 1, _, _, _, rfl, rfl, by omega, .inr ⟨by omega, rfl, _, [], rfl⟩⟩
      · (refine gw3 @h3 @gl @hsn ?_; try exact True.intro)
        (repeat (refine And.intro (by omega) ?_))
        exact ⟨a.length - (i + 1), by omega, i + 1, _, _, _, rfl, rfl, by omega, .inr ⟨by omega, rfl, _, _, rfl⟩⟩
    · have h3 : ((i : Int) < (a.length : Int)) = False := by simp; omega
      have hie : i = a.length := by omega
      subst hie
      have hab2 : ((a.length : Int) = (b.length : Int)) = True := by simp; omega
      have n25 : ∀ {K : AV → Heap → Prop} {H : Heap}, K (vec a.length (cut a.length fun i => !bfn a i)) H → wpF P [] 25 [vec a.length (bfn a)] H K := fun h => f25 (by omega) h
      rcases ho with ⟨h0, rfl, rfl⟩ | ⟨hpos, rfl, T, J, rfl⟩
      · have hb0 : b.length = 0 := by omega
        have ha0 : a = [] := List.eq_nil_of_length_eq_zero h0
        have hb0 : b = [] := List.eq_nil_of_length_eq_zero hb0
        subst ha0; subst hb0
        (refine gw1 @h3 ?_; try exact True.intro)
        refine n25 ?_
        simp only [vec]
        (refine gw0 ?_; try exact True.intro)
        refine f11n ?_
        (refine gw0 ?_; try exact True.intro)
        refine wp_unroll 1 ?_
        (refine gw0 ?_; try exact True.intro)
        refine f11n ?_
        (refine gw0 ?_; try exact True.intro)
        refine f11n ?_
        (refine gw0 ?_; try exact True.intro)
        refine f9 ?_
        (refine gw0 ?_; try exact True.intro)
        exact h
      · have ht : ∀ {kp : Nat → Bool} {N : Nat} {h : Heap}, mapO (demK kp N h 1) (List.take a.length ((List.range a.length).map fun i => AV.bool !bfn a i)) = some ((List.range a.length).map fun i => AV.bool !bfn a i) := by
          intro kp N h; rw [List.take_of_length_le (by simp)]; exact mapO_bool
        (refine gw1 @h3 ?_; try exact True.intro)
        refine n25 ?_
        simp only [vec]
        (refine gw0 ?_; try exact True.intro)
        refine wpF_give1 (H.length + 5) 2 ?_
        (refine gw2 @bndA @ht ?_; try exact True.intro)
        refine f11f (f := fun i => !bfn a i) (by omega) (.inr rfl) ?_
        obtain ⟨G, hG⟩ : ∃ G, G = H ++ vbx a.length (bfn a) :: vbx b.length (bfn b) :: vbx a.length (fun i => bfn a i != bfn b i) :: vbx a.length (fun i => bfn a i && bfn b i) :: T :: none :: J := ⟨_, rfl⟩
        have hG2 : ∀ L, Heap.get (G ++ L) (H.length + 2) = vbx a.length (fun i => bfn a i != bfn b i) := by
          intro L; rw [hG, List.append_assoc, hget_k]; rfl
        have hG3 : ∀ L, Heap.get (G ++ L) (H.length + 3) = vbx a.length (fun i => bfn a i && bfn b i) := by
          intro L; rw [hG, List.append_assoc, hget_k]; rfl
        have hGt : ∀ L, (G ++ L).take H.length = H := by
          intro L; rw [hG, List.append_assoc, List.take_left]
        unfold vbx at hG hG2 hG3
        rw [← hG]
        (refine gw1 @hab2 ?_; try exact True.intro)
        refine wp_inv (I6b a b H G) a.length ⟨0, .nils, .nils, [], .un, by rw [List.append_nil]; rfl, rfl, by omega, .inl ⟨rfl, rfl, rfl, rfl⟩⟩ ?_
        rintro k st ⟨i, o1, o2, L, u1, rfl, rfl, hi2, ho⟩
        clear hG
        by_cases hil2 : i < a.length
        · have h4 : ((i : Int) < (a.length : Int)) = True := by simp; omega
          have h5 : ((i : Int) < (b.length : Int)) = True := by simp; omega
          have gl := ld_bfn hil2
          have gl2 := ld_bfn (l := b) (i := i) (by omega)
          have hs1 := rng_snoc (F := fun i => AV.bool (bfn a i != bfn b i)) (i := i)
          have hs2 := rng_snoc (F := fun i => AV.bool (bfn a i && bfn b i)) (i := i)
          rcases ho with ⟨rfl, rfl, rfl, rfl⟩ | ⟨hpos2, rfl, rfl, T1, T2, J2, rfl⟩
          · have h4 : ((0 : Int) < (a.length : Int)) = True := by simp; omega
            have h5 : ((0 : Int) < (b.length : Int)) = True := by simp; omega
            have c1 : (List.range 1).map (fun i => AV.bool (bfn a i != bfn b i)) = [.bool (!(bfn a 0 == bfn b 0))] := rfl
            have c2 : (List.range 1).map (fun i => AV.bool (bfn a i && bfn b i)) = [.bool (bfn a 0 && bfn b 0)] := rfl
            cases hA : bfn a 0 with
            | true =>
              rw [hA] at gl c1 c2
              (refine gw4 @h4 @h5 @gl @gl2 ?_; try exact True.intro)
              (repeat (refine And.intro (by omega) ?_))
              exact ⟨a.length - 1, by omega, 1, _, _, _, _, rfl, rfl, by omega, .inr ⟨by omega, rfl, rfl, _, _, [], by rw [c1, c2]; rfl⟩⟩
            | false =>
              rw [hA] at gl c1 c2
              (refine gw4 @h4 @h5 @gl @gl2 ?_; try exact True.intro)
              (repeat (refine And.intro (by omega) ?_))
              exact ⟨a.length - 1, by omega, 1, _, _, _, _, rfl, rfl, by omega, .inr ⟨by omega, rfl, rfl, _, _, [], by rw [c1, c2]; rfl⟩⟩
          · cases hA : bfn a i with
            | true =>
              rw [hA] at gl hs1 hs2
              have hs1 : (List.range i).map (fun i => AV.bool (bfn a i != bfn b i)) ++ [.bool (!(true == bfn b i))] = (List.range (i + 1)).map fun i => AV.bool (bfn a i != bfn b i) := hs1
              have hs2 : (List.range i).map (fun i => AV.bool (bfn a i && bfn b i)) ++ [.bool (bfn b i)] = (List.range (i + 1)).map fun i => AV.bool (bfn a i && bfn b i) := hs2
              (refine gw6 @h4 @h5 @gl @gl2 @hs1 @hs2 ?_; try exact True.intro)
              (repeat (refine And.intro (by omega) ?_))
              exact ⟨a.length - (i + 1), by omega, i + 1, _, _, _, _, rfl, rfl, by omega, .inr ⟨by omega, rfl, rfl, _, _, _, rfl⟩⟩
            | false =>
              rw [hA] at gl hs1 hs2
              have hs1 : (List.range i).map (fun i => AV.bool (bfn a i != bfn b i)) ++ [.bool (!(false == bfn b i))] = (List.range (i + 1)).map fun i => AV.bool (bfn a i != bfn b i) := hs1
              have hs2 : (List.range i).map (fun i => AV.bool (bfn a i && bfn b i)) ++ [.bool false] = (List.range (i + 1)).map fun i => AV.bool (bfn a i && bfn b i) := hs2
              (refine gw6 @h4 @h5 @gl @gl2 @hs1 @hs2 ?_; try exact True.intro)
              (repeat (refine And.intro (by omega) ?_))
              exact ⟨a.length - (i + 1), by omega, i + 1, _, _, _, _, rfl, rfl, by omega, .inr ⟨by omega, rfl, rfl, _, _, _, rfl⟩⟩
        · have h4 : ((i : Int) < (a.length : Int)) = False := by simp; omega
          rcases ho with ⟨h0, _⟩ | ⟨hpos2, rfl, rfl, T1, T2, J2, rfl⟩
          · omega
          · have hie2 : i = a.length := by omega
            subst hie2
            have t1 : ∀ {kp : Nat → Bool} {N : Nat} {h : Heap}, mapO (demK kp N h 1) (List.take a.length ((List.range a.length).map fun i => AV.bool (bfn a i != bfn b i))) = some ((List.range a.length).map fun i => AV.bool (bfn a i != bfn b i)) := by
              intro kp N h; rw [List.take_of_length_le (by simp)]; exact mapO_bool
            have t2 : ∀ {kp : Nat → Bool} {N : Nat} {h : Heap}, mapO (demK kp N h 1) (List.take a.length ((List.range a.length).map fun i => AV.bool (bfn a i && bfn b i))) = some ((List.range a.length).map fun i => AV.bool (bfn a i && bfn b i)) := by
              intro kp N h; rw [List.take_of_length_le (by simp)]; exact mapO_bool
            have k1 : cut a.length (fun i => bfn a i != bfn b i) = fun i => bfn a i != bfn b i := cut_all fun i hi => by rw [bf_out hi, bf_out (by omega)]; rfl
            have k2 : cut a.length (fun i => bfn a i && bfn b i) = fun i => bfn a i && bfn b i := cut_all fun i hi => by rw [bf_out hi]; rfl
            have F1 : ∀ {K : AV → Heap → Prop} {H : Heap}, K (.bool true) H → wpF P [] 11 [vec a.length fun i => bfn a i != bfn b i, .ro .leaf ((List.range a.length).map fun i => .bool (bfn a i != bfn b i))] H K := by
              intro K H h
              have := f11f (f := fun i => bfn a i != bfn b i) (n := a.length) (H := H) (K := K) (by omega) (.inr rfl) h
              rwa [k1] at this
            have F2 : ∀ {K : AV → Heap → Prop} {H : Heap}, K (.bool true) H → wpF P [] 11 [vec a.length fun i => bfn a i && bfn b i, .ro .leaf ((List.range a.length).map fun i => .bool (bfn a i && bfn b i))] H K := by
              intro K H h
              have := f11f (f := fun i => bfn a i && bfn b i) (n := a.length) (H := H) (K := K) (by omega) (.inr rfl) h
              rwa [k2] at this
            (refine gw2 @h4 @hG2 ?_; try exact True.intro)
            refine wpF_give1 (G.length + 1) 2 ?_
            (refine gw2 @bndA @t1 ?_; try exact True.intro)
            refine F1 ?_
            (refine gw1 @hG3 ?_; try exact True.intro)
            refine wpF_give1 (G.length + 3) 2 ?_
            (refine gw2 @bndA @t2 ?_; try exact True.intro)
            refine F2 ?_
            (refine gw0 ?_; try exact True.intro)
            refine f9 ?_
            (refine gw1 @hGt ?_; try exact True.intro)
            exact h
  · rw [if_neg hab]
    (refine gw0 ?_; try exact True.intro)
    refine f22 (n := a.length) (m := b.length) (f := bfn a) (g := bfn b) (by omega) ?_
    rw [if_neg hab]
    (refine gw0 ?_; try exact True.intro)
    refine f23 (n := a.length) (m := b.length) (f := bfn a) (g := bfn b) ?_
    rw [same_eq]
    (refine gw0 ?_; try exact True.intro)
    refine f24 (.inl rfl) (.inl rfl) ?_
    have hx : (decide (a = b) == decide (a = b)) = true := by simp
    (refine gw1 @hx ?_; try exact True.intro)
    refine wp_inv (I6 a b rblk rblk 11 H) a.length ⟨0, .nils, [], .un, rfl, rfl, by omega, .inl ⟨rfl, rfl, rfl⟩⟩ ?_
    rintro k st ⟨i, out, L, u1, rfl, rfl, hi, ho⟩
    unfold vbx rblk
    by_cases hil : i < a.length
    · have h3 : ((i : Int) < (a.length : Int)) = True := by simp; omega
      have gl := ld_bfn hil
      have hsn := rng_snoc (F := fun i => AV.bool (!bfn a i)) (i := i)
      rcases ho with ⟨rfl, rfl, rfl⟩ | ⟨hpos, rfl, T, J, rfl⟩
      · have h3 : ((0 : Int) < (a.length : Int)) = True := by simp; omega
        (refine gw2 @h3 @gl ?_; try exact True.intro)
        (repeat (refine And.intro (by omega) ?_))
        exact ⟨a.length - 1, by omega, 1, _, _, _, rfl, rfl, by omega, .inr ⟨by omega, rfl, _, [], rfl⟩⟩
      · (refine gw3 @h3 @gl @hsn ?_; try exact True.intro)
        (repeat (refine And.intro (by omega) ?_))
        exact ⟨a.length - (i + 1), by omega, i + 1, _, _, _, rfl, rfl, by omega, .inr ⟨by omega, rfl, _, _, rfl⟩⟩
    · have h3 : ((i : Int) < (a.length : Int)) = False := by simp; omega
      have hie : i = a.length := by omega
      subst hie
      have hab2 : ((a.length : Int) = (b.length : Int)) = False := by simp; omega
      have n25 : ∀ {K : AV → Heap → Prop} {H : Heap}, K (vec a.length (cut a.length fun i => !bfn a i)) H → wpF P [] 25 [vec a.length (bfn a)] H K := fun h => f25 (by omega) h
      rcases ho with ⟨h0, rfl, rfl⟩ | ⟨hpos, rfl, T, J, rfl⟩
      · (refine gw1 @h3 ?_; try exact True.intro)
        refine n25 ?_
        simp only [vec]
        have hz : ((a.length : Nat) : Int) = 0 := by omega
        have ha0 : a = [] := List.eq_nil_of_length_eq_zero h0
        subst ha0
        have hab2 : ((0 : Int) = (b.length : Int)) = False := hab2
        (refine gw0 ?_; try exact True.intro)
        refine f11n ?_
        (refine gw1 @hab2 ?_; try exact True.intro)
        refine f14n ?_
        (refine gw0 ?_; try exact True.intro)
        refine f14n ?_
        (refine gw0 ?_; try exact True.intro)
        refine f9 ?_
        (refine gw0 ?_; try exact True.intro)
        exact h
      · have ht : ∀ {kp : Nat → Bool} {N : Nat} {h : Heap}, mapO (demK kp N h 1) (List.take a.length ((List.range a.length).map fun i => AV.bool !bfn a i)) = some ((List.range a.length).map fun i => AV.bool !bfn a i) := by
          intro kp N h; rw [List.take_of_length_le (by simp)]; exact mapO_bool
        (refine gw1 @h3 ?_; try exact True.intro)
        refine n25 ?_
        simp only [vec]
        (refine gw0 ?_; try exact True.intro)
        refine wpF_give1 (H.length + 5) 2 ?_
        (refine gw2 @bndA @ht ?_; try exact True.intro)
        refine f11f (f := fun i => !bfn a i) (by omega) (.inr rfl) ?_
        (refine gw1 @hab2 ?_; try exact True.intro)
        refine f14n ?_
        (refine gw0 ?_; try exact True.intro)
        refine f14n ?_
        (refine gw0 ?_; try exact True.intro)
        refine f9 ?_
        (refine gw0 ?_; try exact True.intro)
        exact h
end Go.Proofs.Ytnnopgichjnhdaa
