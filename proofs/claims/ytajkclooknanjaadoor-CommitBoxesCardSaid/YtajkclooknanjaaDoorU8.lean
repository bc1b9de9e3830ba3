/-
  Layer 27 (commit): the reference, and the law CommitBoxes, walked.
-/
import Derived.Test.YtajkclooknanjaaDoorHk
import Derived.Test.YtajkclooknanjaaDoorV38
open Go Go.V
namespace Go.Proofs.YtajkclooknanjaaDoor
/-- (trefoil/trefoilref27.Box).Bind (0:b, 1:party, 2:batch, 3:d, 4:b, 7:d, 8:, 9:, 12:) -/
def s13 : FnS := ⟨18, [0, 1, 2, 3, 4, 7, 8, 9, 12],
    (.seq (.reg [⟨.var 4, (.e (.box 35 (.st [.leaf, (.arr 32 .leaf), .leaf, .leaf, (.arr 32 .leaf)]))), [.t 0], none⟩,
      ⟨.var 5, (.e (.box 26 (.arr 32 .leaf))), [.t 3], none⟩,
      ⟨.var 6, (.e (.alloc 35 (.st [.leaf, (.arr 32 .leaf), .leaf, .leaf, (.arr 32 .leaf)]) (.agg [(.int 0), (.agg [(.u8 0), (.u8 0), (.u8 0), (.u8 0), (.u8 0), (.u8 0), (.u8 0), (.u8 0), (.u8 0), (.u8 0), (.u8 0), (.u8 0), (.u8 0), (.u8 0), (.u8 0), (.u8 0), (.u8 0), (.u8 0), (.u8 0), (.u8 0), (.u8 0), (.u8 0), (.u8 0), (.u8 0), (.u8 0), (.u8 0), (.u8 0), (.u8 0), (.u8 0), (.u8 0), (.u8 0), (.u8 0)]), (.int 0), (.u32 0), (.agg [(.u8 0), (.u8 0), (.u8 0), (.u8 0), (.u8 0), (.u8 0), (.u8 0), (.u8 0), (.u8 0), (.u8 0), (.u8 0), (.u8 0), (.u8 0), (.u8 0), (.u8 0), (.u8 0), (.u8 0), (.u8 0), (.u8 0), (.u8 0), (.u8 0), (.u8 0), (.u8 0), (.u8 0), (.u8 0), (.u8 0), (.u8 0), (.u8 0), (.u8 0), (.u8 0), (.u8 0), (.u8 0)])]))), [], none⟩,
      ⟨.var 7, (.q .mv), [.c (.int 0)], none⟩])
    (.seq (.seq (.reg [⟨.new, (.q (.fa [.leaf, (.arr 32 .leaf), .leaf, .leaf, (.arr 32 .leaf)] 0)), [.t 4], none⟩,
      ⟨.new, (.q (.ld .leaf)), [.t 9], none⟩,
      ⟨.var 8, (.q (.bin .neq)), [.t 10, .c (.int 0)], none⟩])
    (.cond (.t 8) (.seq (.reg [⟨.new, (.q (.ld (.st [.leaf, (.arr 32 .leaf), .leaf, .leaf, (.arr 32 .leaf)]))), [.t 4], none⟩,
      ⟨.none, (.e (.store (.st [.leaf, (.arr 32 .leaf), .leaf, .leaf, (.arr 32 .leaf)]))), [.t 6, .t 9], none⟩,
      ⟨.var 7, (.q .mv), [.c (.int 7)], none⟩])
    .ret)
    .skip))
    (.seq (.reg [⟨.new, (.q (.ld (.arr 32 .leaf))), [.t 5], none⟩,
      ⟨.new, (.q .mv), [.t 1], none⟩,
      ⟨.new, (.q .mv), [.t 2], none⟩,
      ⟨.new, (.e (.bld (.st [.leaf, (.arr 32 .leaf), .leaf, .leaf, (.arr 32 .leaf)]) (.agg [(.int 0), (.agg [(.u8 0), (.u8 0), (.u8 0), (.u8 0), (.u8 0), (.u8 0), (.u8 0), (.u8 0), (.u8 0), (.u8 0), (.u8 0), (.u8 0), (.u8 0), (.u8 0), (.u8 0), (.u8 0), (.u8 0), (.u8 0), (.u8 0), (.u8 0), (.u8 0), (.u8 0), (.u8 0), (.u8 0), (.u8 0), (.u8 0), (.u8 0), (.u8 0), (.u8 0), (.u8 0), (.u8 0), (.u8 0)]), (.int 0), (.u32 0), (.agg [(.u8 0), (.u8 0), (.u8 0), (.u8 0), (.u8 0), (.u8 0), (.u8 0), (.u8 0), (.u8 0), (.u8 0), (.u8 0), (.u8 0), (.u8 0), (.u8 0), (.u8 0), (.u8 0), (.u8 0), (.u8 0), (.u8 0), (.u8 0), (.u8 0), (.u8 0), (.u8 0), (.u8 0), (.u8 0), (.u8 0), (.u8 0), (.u8 0), (.u8 0), (.u8 0), (.u8 0), (.u8 0)])]) [0, 1, 2, 3])), [.c (.int 1), .t 9, .t 10, .t 11], none⟩,
      ⟨.none, (.e (.store (.st [.leaf, (.arr 32 .leaf), .leaf, .leaf, (.arr 32 .leaf)]))), [.t 6, .t 12], none⟩,
      ⟨.var 7, (.q .mv), [.c (.int 0)], none⟩])
    .ret))),
    [.cell 6 (.st [.leaf, (.arr 32 .leaf), .leaf, .leaf, (.arr 32 .leaf)]), .t 7]⟩

/-- (trefoil/trefoilref27.Box).Tell (0:b, 1:seed, 2:b, 3:seed, 4:, 5:, 8:, 12:, 22:) -/
def s15 : FnS := ⟨28, [0, 1, 2, 3, 4, 5, 8, 12, 22],
    (.seq (.reg [⟨.var 2, (.e (.box 35 (.st [.leaf, (.arr 32 .leaf), .leaf, .leaf, (.arr 32 .leaf)]))), [.t 0], none⟩,
      ⟨.var 3, (.e (.box 25 (.arr 32 .leaf))), [.t 1], none⟩,
      ⟨.var 4, (.e (.alloc 35 (.st [.leaf, (.arr 32 .leaf), .leaf, .leaf, (.arr 32 .leaf)]) (.agg [(.int 0), (.agg [(.u8 0), (.u8 0), (.u8 0), (.u8 0), (.u8 0), (.u8 0), (.u8 0), (.u8 0), (.u8 0), (.u8 0), (.u8 0), (.u8 0), (.u8 0), (.u8 0), (.u8 0), (.u8 0), (.u8 0), (.u8 0), (.u8 0), (.u8 0), (.u8 0), (.u8 0), (.u8 0), (.u8 0), (.u8 0), (.u8 0), (.u8 0), (.u8 0), (.u8 0), (.u8 0), (.u8 0), (.u8 0)]), (.int 0), (.u32 0), (.agg [(.u8 0), (.u8 0), (.u8 0), (.u8 0), (.u8 0), (.u8 0), (.u8 0), (.u8 0), (.u8 0), (.u8 0), (.u8 0), (.u8 0), (.u8 0), (.u8 0), (.u8 0), (.u8 0), (.u8 0), (.u8 0), (.u8 0), (.u8 0), (.u8 0), (.u8 0), (.u8 0), (.u8 0), (.u8 0), (.u8 0), (.u8 0), (.u8 0), (.u8 0), (.u8 0), (.u8 0), (.u8 0)])]))), [], none⟩,
      ⟨.var 5, (.q .mv), [.c (.int 0)], none⟩])
    (.seq (.seq (.reg [⟨.new, (.q (.fa [.leaf, (.arr 32 .leaf), .leaf, .leaf, (.arr 32 .leaf)] 0)), [.t 2], none⟩,
      ⟨.new, (.q (.ld .leaf)), [.t 9], none⟩,
      ⟨.var 6, (.q (.bin .eql)), [.t 10, .c (.int 0)], none⟩])
    (.cond (.t 6) (.seq (.reg [⟨.new, (.q (.ld (.st [.leaf, (.arr 32 .leaf), .leaf, .leaf, (.arr 32 .leaf)]))), [.t 2], none⟩,
      ⟨.none, (.e (.store (.st [.leaf, (.arr 32 .leaf), .leaf, .leaf, (.arr 32 .leaf)]))), [.t 4, .t 9], none⟩,
      ⟨.var 5, (.q .mv), [.c (.int 8)], none⟩])
    .ret)
    .skip))
    (.seq (.seq (.reg [⟨.new, (.q (.fa [.leaf, (.arr 32 .leaf), .leaf, .leaf, (.arr 32 .leaf)] 0)), [.t 2], none⟩,
      ⟨.new, (.q (.ld .leaf)), [.t 9], none⟩,
      ⟨.var 7, (.q (.bin .eql)), [.t 10, .c (.int 2)], none⟩])
    (.cond (.t 7) (.seq (.reg [⟨.new, (.q (.ld (.st [.leaf, (.arr 32 .leaf), .leaf, .leaf, (.arr 32 .leaf)]))), [.t 2], none⟩,
      ⟨.none, (.e (.store (.st [.leaf, (.arr 32 .leaf), .leaf, .leaf, (.arr 32 .leaf)]))), [.t 4, .t 9], none⟩,
      ⟨.var 5, (.q .mv), [.c (.int 7)], none⟩])
    .ret)
    .skip))
    (.seq (.seq (.draw [⟨.new, (.q (.fa [.leaf, (.arr 32 .leaf), .leaf, .leaf, (.arr 32 .leaf)] 2)), [.t 2], none⟩,
      ⟨.new, (.q (.ld .leaf)), [.t 9], none⟩,
      ⟨.new, (.q (.fa [.leaf, (.arr 32 .leaf), .leaf, .leaf, (.arr 32 .leaf)] 3)), [.t 2], none⟩,
      ⟨.new, (.q (.ld .leaf)), [.t 11], none⟩,
      ⟨.new, (.q (.ld (.arr 32 .leaf))), [.t 3], none⟩,
      ⟨.new, (.call 9), [.t 10, .t 12, .t 13], none⟩,
      ⟨.new, (.q (.fa [.leaf, (.arr 32 .leaf), .leaf, .leaf, (.arr 32 .leaf)] 1)), [.t 2], none⟩,
      ⟨.new, (.q (.ld (.arr 32 .leaf))), [.t 15], none⟩,
      ⟨.var 8, (.q (.eqA true 32 .u8)), [.t 14, .t 16], none⟩])
    (.cond (.t 8) (.seq (.reg [⟨.new, (.q (.ld (.st [.leaf, (.arr 32 .leaf), .leaf, .leaf, (.arr 32 .leaf)]))), [.t 2], none⟩,
      ⟨.none, (.e (.store (.st [.leaf, (.arr 32 .leaf), .leaf, .leaf, (.arr 32 .leaf)]))), [.t 4, .t 9], none⟩,
      ⟨.var 5, (.q .mv), [.c (.int 30)], none⟩])
    .ret)
    .skip))
    (.seq (.draw [⟨.none, (.pairs [(0, 2)]), [], none⟩,
      ⟨.new, (.q (.ld (.arr 32 .leaf))), [.t 3], none⟩,
      ⟨.new, (.q (.fa [.leaf, (.arr 32 .leaf), .leaf, .leaf, (.arr 32 .leaf)] 0)), [.t 2], none⟩,
      ⟨.none, (.e (.store .leaf)), [.t 10, .c (.int 2)], none⟩,
      ⟨.new, (.q (.fa [.leaf, (.arr 32 .leaf), .leaf, .leaf, (.arr 32 .leaf)] 4)), [.t 2], none⟩,
      ⟨.none, (.e (.store (.arr 32 .leaf))), [.t 11, .t 9], none⟩])
    (.seq (.reg [⟨.new, (.q (.ld (.st [.leaf, (.arr 32 .leaf), .leaf, .leaf, (.arr 32 .leaf)]))), [.t 2], none⟩,
      ⟨.none, (.e (.store (.st [.leaf, (.arr 32 .leaf), .leaf, .leaf, (.arr 32 .leaf)]))), [.t 4, .t 9], none⟩,
      ⟨.var 5, (.q .mv), [.c (.int 0)], none⟩])
    .ret)))))),
    [.cell 4 (.st [.leaf, (.arr 32 .leaf), .leaf, .leaf, (.arr 32 .leaf)]), .t 5]⟩

/-- trefoil/trefoillaw27.CommitBoxes (0:acts, 2:, 3:b, 4:r, 5:i, 6:a, 7:e, 8:f, 9:next, 10:d, 11:s, 12:ok, 20:, 30:, 53:, 117:) -/
def s4 : FnS := ⟨119, [0, 2, 3, 4, 5, 6, 7, 8, 9, 10, 11, 12, 20, 30, 53, 117],
    (.seq (.reg [⟨.var 1, (.q .mv), [.c (.bool false)], none⟩])
    (.seq (.reg [⟨.var 2, (.e (.alloc 33 (.st [(.arr 32 .leaf), .leaf, .leaf, .leaf, (.arr 32 .leaf)]) (.agg [(.agg [(.u8 0), (.u8 0), (.u8 0), (.u8 0), (.u8 0), (.u8 0), (.u8 0), (.u8 0), (.u8 0), (.u8 0), (.u8 0), (.u8 0), (.u8 0), (.u8 0), (.u8 0), (.u8 0), (.u8 0), (.u8 0), (.u8 0), (.u8 0), (.u8 0), (.u8 0), (.u8 0), (.u8 0), (.u8 0), (.u8 0), (.u8 0), (.u8 0), (.u8 0), (.u8 0), (.u8 0), (.u8 0)]), (.int 0), (.u32 0), (.int 0), (.agg [(.u8 0), (.u8 0), (.u8 0), (.u8 0), (.u8 0), (.u8 0), (.u8 0), (.u8 0), (.u8 0), (.u8 0), (.u8 0), (.u8 0), (.u8 0), (.u8 0), (.u8 0), (.u8 0), (.u8 0), (.u8 0), (.u8 0), (.u8 0), (.u8 0), (.u8 0), (.u8 0), (.u8 0), (.u8 0), (.u8 0), (.u8 0), (.u8 0), (.u8 0), (.u8 0), (.u8 0), (.u8 0)])]))), [], none⟩])
    (.seq (.reg [⟨.var 3, (.e (.alloc 35 (.st [.leaf, (.arr 32 .leaf), .leaf, .leaf, (.arr 32 .leaf)]) (.agg [(.int 0), (.agg [(.u8 0), (.u8 0), (.u8 0), (.u8 0), (.u8 0), (.u8 0), (.u8 0), (.u8 0), (.u8 0), (.u8 0), (.u8 0), (.u8 0), (.u8 0), (.u8 0), (.u8 0), (.u8 0), (.u8 0), (.u8 0), (.u8 0), (.u8 0), (.u8 0), (.u8 0), (.u8 0), (.u8 0), (.u8 0), (.u8 0), (.u8 0), (.u8 0), (.u8 0), (.u8 0), (.u8 0), (.u8 0)]), (.int 0), (.u32 0), (.agg [(.u8 0), (.u8 0), (.u8 0), (.u8 0), (.u8 0), (.u8 0), (.u8 0), (.u8 0), (.u8 0), (.u8 0), (.u8 0), (.u8 0), (.u8 0), (.u8 0), (.u8 0), (.u8 0), (.u8 0), (.u8 0), (.u8 0), (.u8 0), (.u8 0), (.u8 0), (.u8 0), (.u8 0), (.u8 0), (.u8 0), (.u8 0), (.u8 0), (.u8 0), (.u8 0), (.u8 0), (.u8 0)])]))), [], none⟩])
    (.seq (.seq (.reg [⟨.var 4, (.q .mv), [.c (.int 0)], none⟩])
    (.block 0 (.loop (.seq (.seq (.reg [⟨.new, (.q .mv), [.t 4], none⟩,
      ⟨.new, (.q .mv), [.t 0], none⟩,
      ⟨.new, (.q .len), [.t 17], none⟩,
      ⟨.new, (.q (.bin .lss)), [.t 16, .t 18], none⟩,
      ⟨.new, (.q .mv), [.t 19], none⟩,
      ⟨.new, (.q .mv), [.t 4], (some (20, true))⟩,
      ⟨.new, (.q (.bin .lss)), [.t 21, .c (.int 20)], (some (20, true))⟩,
      ⟨.var 12, (.q .pick), [.t 20, .t 22, .c (.bool false)], none⟩])
    (.cond (.t 12) .skip
    (.exit 0)))
    (.seq (.block 1 (.seq (.reg [⟨.new, (.q .mv), [.t 0], none⟩,
      ⟨.new, (.q .mv), [.t 4], none⟩,
      ⟨.new, (.q (.iaS (.st [.leaf, .leaf, .leaf, (.arr 32 .leaf), (.arr 32 .leaf)]))), [.t 16, .t 17], none⟩,
      ⟨.new, (.q (.ld (.st [.leaf, .leaf, .leaf, (.arr 32 .leaf), (.arr 32 .leaf)]))), [.t 18], none⟩,
      ⟨.var 5, (.e (.alloc 37 (.st [.leaf, .leaf, .leaf, (.arr 32 .leaf), (.arr 32 .leaf)]) (.agg [(.int 0), (.u8 0), (.u32 0), (.agg [(.u8 0), (.u8 0), (.u8 0), (.u8 0), (.u8 0), (.u8 0), (.u8 0), (.u8 0), (.u8 0), (.u8 0), (.u8 0), (.u8 0), (.u8 0), (.u8 0), (.u8 0), (.u8 0), (.u8 0), (.u8 0), (.u8 0), (.u8 0), (.u8 0), (.u8 0), (.u8 0), (.u8 0), (.u8 0), (.u8 0), (.u8 0), (.u8 0), (.u8 0), (.u8 0), (.u8 0), (.u8 0)]), (.agg [(.u8 0), (.u8 0), (.u8 0), (.u8 0), (.u8 0), (.u8 0), (.u8 0), (.u8 0), (.u8 0), (.u8 0), (.u8 0), (.u8 0), (.u8 0), (.u8 0), (.u8 0), (.u8 0), (.u8 0), (.u8 0), (.u8 0), (.u8 0), (.u8 0), (.u8 0), (.u8 0), (.u8 0), (.u8 0), (.u8 0), (.u8 0), (.u8 0), (.u8 0), (.u8 0), (.u8 0), (.u8 0)])]))), [], none⟩,
      ⟨.none, (.e (.store (.st [.leaf, .leaf, .leaf, (.arr 32 .leaf), (.arr 32 .leaf)]))), [.t 5, .t 19], none⟩])
    (.seq (.reg [⟨.var 6, (.q .mv), [.c (.int 0)], none⟩])
    (.seq (.reg [⟨.var 7, (.q .mv), [.c (.int 0)], none⟩])
    (.seq (.reg [⟨.new, (.q (.ld (.st [.leaf, (.arr 32 .leaf), .leaf, .leaf, (.arr 32 .leaf)]))), [.t 3], none⟩,
      ⟨.var 8, (.e (.alloc 35 (.st [.leaf, (.arr 32 .leaf), .leaf, .leaf, (.arr 32 .leaf)]) (.agg [(.int 0), (.agg [(.u8 0), (.u8 0), (.u8 0), (.u8 0), (.u8 0), (.u8 0), (.u8 0), (.u8 0), (.u8 0), (.u8 0), (.u8 0), (.u8 0), (.u8 0), (.u8 0), (.u8 0), (.u8 0), (.u8 0), (.u8 0), (.u8 0), (.u8 0), (.u8 0), (.u8 0), (.u8 0), (.u8 0), (.u8 0), (.u8 0), (.u8 0), (.u8 0), (.u8 0), (.u8 0), (.u8 0), (.u8 0)]), (.int 0), (.u32 0), (.agg [(.u8 0), (.u8 0), (.u8 0), (.u8 0), (.u8 0), (.u8 0), (.u8 0), (.u8 0), (.u8 0), (.u8 0), (.u8 0), (.u8 0), (.u8 0), (.u8 0), (.u8 0), (.u8 0), (.u8 0), (.u8 0), (.u8 0), (.u8 0), (.u8 0), (.u8 0), (.u8 0), (.u8 0), (.u8 0), (.u8 0), (.u8 0), (.u8 0), (.u8 0), (.u8 0), (.u8 0), (.u8 0)])]))), [], none⟩,
      ⟨.none, (.e (.store (.st [.leaf, (.arr 32 .leaf), .leaf, .leaf, (.arr 32 .leaf)]))), [.t 8, .t 16], none⟩])
    (.seq (.seq (.reg [⟨.new, (.q (.fa [.leaf, .leaf, .leaf, (.arr 32 .leaf), (.arr 32 .leaf)] 0)), [.t 5], none⟩,
      ⟨.new, (.q (.ld .leaf)), [.t 16], none⟩,
      ⟨.var 13, (.q (.bin .eql)), [.t 17, .c (.int 0)], none⟩])
    (.cond (.t 13) (.seq (.reg [⟨.new, (.q (.ld (.st [.leaf, (.arr 32 .leaf), .leaf, .leaf, (.arr 32 .leaf)]))), [.t 3], none⟩,
      ⟨.new, (.q (.fa [.leaf, .leaf, .leaf, (.arr 32 .leaf), (.arr 32 .leaf)] 1)), [.t 5], none⟩,
      ⟨.new, (.q (.ld .leaf)), [.t 17], none⟩,
      ⟨.new, (.q (.cv .i64)), [.t 18], none⟩,
      ⟨.new, (.q (.fa [.leaf, .leaf, .leaf, (.arr 32 .leaf), (.arr 32 .leaf)] 2)), [.t 5], none⟩,
      ⟨.new, (.q (.ld .leaf)), [.t 20], none⟩,
      ⟨.new, (.q (.fa [.leaf, .leaf, .leaf, (.arr 32 .leaf), (.arr 32 .leaf)] 3)), [.t 5], none⟩,
      ⟨.new, (.q (.ld (.arr 32 .leaf))), [.t 22], none⟩,
      ⟨.new, (.call 13), [.t 16, .t 19, .t 21, .t 23], none⟩,
      ⟨.new, (.q .mv), [.t 24], none⟩,
      ⟨.new, (.q (.ext 0)), [.t 25], none⟩,
      ⟨.new, (.q (.ext 1)), [.t 25], none⟩,
      ⟨.none, (.e (.store (.st [.leaf, (.arr 32 .leaf), .leaf, .leaf, (.arr 32 .leaf)]))), [.t 8, .t 26], none⟩,
      ⟨.var 6, (.q .mv), [.t 27], none⟩])
    (.reg [⟨.new, (.q (.fa [.leaf, .leaf, .leaf, (.arr 32 .leaf), (.arr 32 .leaf)] 1)), [.t 5], none⟩,
      ⟨.new, (.q (.ld .leaf)), [.t 16], none⟩,
      ⟨.new, (.q (.cv .i64)), [.t 17], none⟩,
      ⟨.new, (.q (.fa [.leaf, .leaf, .leaf, (.arr 32 .leaf), (.arr 32 .leaf)] 2)), [.t 5], none⟩,
      ⟨.new, (.q (.ld .leaf)), [.t 19], none⟩,
      ⟨.new, (.q (.fa [.leaf, .leaf, .leaf, (.arr 32 .leaf), (.arr 32 .leaf)] 3)), [.t 5], none⟩,
      ⟨.new, (.q (.ld (.arr 32 .leaf))), [.t 21], none⟩,
      ⟨.new, (.call 14), [.t 2, .t 18, .t 20, .t 22], none⟩,
      ⟨.var 7, (.q .mv), [.t 23], none⟩]))
    (.seq (.reg [⟨.new, (.q (.fa [.leaf, .leaf, .leaf, (.arr 32 .leaf), (.arr 32 .leaf)] 0)), [.t 5], none⟩,
      ⟨.new, (.q (.ld .leaf)), [.t 16], none⟩,
      ⟨.var 14, (.q (.bin .eql)), [.t 17, .c (.int 1)], none⟩])
    (.cond (.t 14) (.seq (.reg [⟨.new, (.q (.fa [.leaf, .leaf, .leaf, (.arr 32 .leaf), (.arr 32 .leaf)] 1)), [.t 5], none⟩,
      ⟨.new, (.q (.ld .leaf)), [.t 16], none⟩,
      ⟨.new, (.q (.cv .i64)), [.t 17], none⟩,
      ⟨.new, (.q (.fa [.leaf, .leaf, .leaf, (.arr 32 .leaf), (.arr 32 .leaf)] 2)), [.t 5], none⟩,
      ⟨.new, (.q (.ld .leaf)), [.t 19], none⟩,
      ⟨.new, (.q (.fa [.leaf, .leaf, .leaf, (.arr 32 .leaf), (.arr 32 .leaf)] 4)), [.t 5], none⟩,
      ⟨.new, (.q (.ld (.arr 32 .leaf))), [.t 21], none⟩,
      ⟨.new, (.call 9), [.t 18, .t 20, .t 22], none⟩,
      ⟨.var 9, (.e (.alloc 26 (.arr 32 .leaf) (.agg [(.u8 0), (.u8 0), (.u8 0), (.u8 0), (.u8 0), (.u8 0), (.u8 0), (.u8 0), (.u8 0), (.u8 0), (.u8 0), (.u8 0), (.u8 0), (.u8 0), (.u8 0), (.u8 0), (.u8 0), (.u8 0), (.u8 0), (.u8 0), (.u8 0), (.u8 0), (.u8 0), (.u8 0), (.u8 0), (.u8 0), (.u8 0), (.u8 0), (.u8 0), (.u8 0), (.u8 0), (.u8 0)]))), [], none⟩,
      ⟨.none, (.e (.store (.arr 32 .leaf))), [.t 9, .t 23], none⟩])
    (.seq (.reg [⟨.new, (.q (.ld (.st [.leaf, (.arr 32 .leaf), .leaf, .leaf, (.arr 32 .leaf)]))), [.t 3], none⟩,
      ⟨.new, (.q (.fa [.leaf, .leaf, .leaf, (.arr 32 .leaf), (.arr 32 .leaf)] 1)), [.t 5], none⟩,
      ⟨.new, (.q (.ld .leaf)), [.t 17], none⟩,
      ⟨.new, (.q (.cv .i64)), [.t 18], none⟩,
      ⟨.new, (.q (.fa [.leaf, .leaf, .leaf, (.arr 32 .leaf), (.arr 32 .leaf)] 2)), [.t 5], none⟩,
      ⟨.new, (.q (.ld .leaf)), [.t 20], none⟩,
      ⟨.new, (.q (.ld (.arr 32 .leaf))), [.t 9], none⟩,
      ⟨.new, (.call 13), [.t 16, .t 19, .t 21, .t 22], none⟩,
      ⟨.new, (.q .mv), [.t 23], none⟩,
      ⟨.new, (.q (.ext 0)), [.t 24], none⟩,
      ⟨.new, (.q (.ext 1)), [.t 24], none⟩,
      ⟨.none, (.e (.store (.st [.leaf, (.arr 32 .leaf), .leaf, .leaf, (.arr 32 .leaf)]))), [.t 8, .t 25], none⟩,
      ⟨.var 6, (.q .mv), [.t 26], none⟩])
    (.reg [⟨.new, (.q (.fa [.leaf, .leaf, .leaf, (.arr 32 .leaf), (.arr 32 .leaf)] 1)), [.t 5], none⟩,
      ⟨.new, (.q (.ld .leaf)), [.t 16], none⟩,
      ⟨.new, (.q (.cv .i64)), [.t 17], none⟩,
      ⟨.new, (.q (.fa [.leaf, .leaf, .leaf, (.arr 32 .leaf), (.arr 32 .leaf)] 2)), [.t 5], none⟩,
      ⟨.new, (.q (.ld .leaf)), [.t 19], none⟩,
      ⟨.new, (.q (.ld (.arr 32 .leaf))), [.t 9], none⟩,
      ⟨.new, (.call 14), [.t 2, .t 18, .t 20, .t 21], none⟩,
      ⟨.var 7, (.q .mv), [.t 22], none⟩])))
    (.seq (.reg [⟨.new, (.q (.ld (.st [.leaf, (.arr 32 .leaf), .leaf, .leaf, (.arr 32 .leaf)]))), [.t 3], none⟩,
      ⟨.new, (.q (.fa [.leaf, .leaf, .leaf, (.arr 32 .leaf), (.arr 32 .leaf)] 4)), [.t 5], none⟩,
      ⟨.new, (.q (.ld (.arr 32 .leaf))), [.t 17], none⟩,
      ⟨.new, (.call 15), [.t 16, .t 18], none⟩,
      ⟨.new, (.q .mv), [.t 19], none⟩,
      ⟨.new, (.q (.ext 0)), [.t 20], none⟩,
      ⟨.new, (.q (.ext 1)), [.t 20], none⟩,
      ⟨.none, (.e (.store (.st [.leaf, (.arr 32 .leaf), .leaf, .leaf, (.arr 32 .leaf)]))), [.t 8, .t 21], none⟩,
      ⟨.var 6, (.q .mv), [.t 22], none⟩])
    (.reg [⟨.new, (.q (.fa [.leaf, .leaf, .leaf, (.arr 32 .leaf), (.arr 32 .leaf)] 4)), [.t 5], none⟩,
      ⟨.new, (.q (.ld (.arr 32 .leaf))), [.t 16], none⟩,
      ⟨.new, (.call 16), [.t 2, .t 17], none⟩,
      ⟨.var 7, (.q .mv), [.t 18], none⟩]))))))
    (.seq (.reg [⟨.new, (.q (.ld (.st [.leaf, (.arr 32 .leaf), .leaf, .leaf, (.arr 32 .leaf)]))), [.t 8], none⟩,
      ⟨.none, (.e (.store (.st [.leaf, (.arr 32 .leaf), .leaf, .leaf, (.arr 32 .leaf)]))), [.t 3, .t 16], none⟩])
    (.seq (.reg [⟨.new, (.call 17), [.t 2], none⟩,
      ⟨.new, (.q .mv), [.t 16], none⟩,
      ⟨.new, (.q (.ext 0)), [.t 17], none⟩,
      ⟨.new, (.q (.ext 1)), [.t 17], none⟩,
      ⟨.var 10, (.e (.alloc 25 (.arr 32 .leaf) (.agg [(.u8 0), (.u8 0), (.u8 0), (.u8 0), (.u8 0), (.u8 0), (.u8 0), (.u8 0), (.u8 0), (.u8 0), (.u8 0), (.u8 0), (.u8 0), (.u8 0), (.u8 0), (.u8 0), (.u8 0), (.u8 0), (.u8 0), (.u8 0), (.u8 0), (.u8 0), (.u8 0), (.u8 0), (.u8 0), (.u8 0), (.u8 0), (.u8 0), (.u8 0), (.u8 0), (.u8 0), (.u8 0)]))), [], none⟩,
      ⟨.none, (.e (.store (.arr 32 .leaf))), [.t 10, .t 18], none⟩,
      ⟨.var 11, (.q .mv), [.t 19], none⟩])
    (.seq (.draw [⟨.new, (.q .mv), [.t 7], none⟩,
      ⟨.new, (.q .mv), [.t 6], none⟩,
      ⟨.new, (.q (.bin .neq)), [.t 16, .t 17], none⟩,
      ⟨.new, (.q .mv), [.t 18], none⟩,
      ⟨.new, (.q (.ld (.arr 32 .leaf))), [.t 10], (some (19, false))⟩,
      ⟨.new, (.q (.fa [.leaf, (.arr 32 .leaf), .leaf, .leaf, (.arr 32 .leaf)] 4)), [.t 3], (some (19, false))⟩,
      ⟨.new, (.q (.ld (.arr 32 .leaf))), [.t 21], (some (19, false))⟩,
      ⟨.new, (.q (.eqA true 32 .u8)), [.t 20, .t 22], (some (19, false))⟩,
      ⟨.new, (.q .pick), [.t 19, .c (.bool true), .t 23], none⟩,
      ⟨.new, (.q .mv), [.t 24], none⟩,
      ⟨.new, (.q .mv), [.t 11], (some (25, false))⟩,
      ⟨.new, (.q (.fa [.leaf, (.arr 32 .leaf), .leaf, .leaf, (.arr 32 .leaf)] 0)), [.t 3], (some (25, false))⟩,
      ⟨.new, (.q (.ld .leaf)), [.t 27], (some (25, false))⟩,
      ⟨.new, (.q (.bin .eql)), [.t 28, .c (.int 2)], (some (25, false))⟩,
      ⟨.new, (.q (.eqB true)), [.t 26, .t 29], (some (25, false))⟩,
      ⟨.new, (.q .pick), [.t 25, .c (.bool true), .t 30], none⟩,
      ⟨.new, (.q .mv), [.t 31], none⟩,
      ⟨.new, (.call 18), [.t 2], (some (32, false))⟩,
      ⟨.new, (.q (.fa [.leaf, (.arr 32 .leaf), .leaf, .leaf, (.arr 32 .leaf)] 0)), [.t 3], (some (32, false))⟩,
      ⟨.new, (.q (.ld .leaf)), [.t 34], (some (32, false))⟩,
      ⟨.new, (.q (.bin .gtr)), [.t 35, .c (.int 0)], (some (32, false))⟩,
      ⟨.new, (.q (.eqB true)), [.t 33, .t 36], (some (32, false))⟩,
      ⟨.var 15, (.q .pick), [.t 32, .c (.bool true), .t 37], none⟩])
    (.cond (.t 15) (.seq (.reg [⟨.var 1, (.q .mv), [.c (.bool false)], none⟩])
    .ret)
    .skip))))))))))
    (.reg [⟨.new, (.q .mv), [.t 4], none⟩,
      ⟨.new, (.q (.bin .add)), [.t 16, .c (.int 1)], none⟩,
      ⟨.var 4, (.q .mv), [.t 17], none⟩]))))))
    (.seq (.reg [⟨.new, (.call 12), [], none⟩,
      ⟨.var 1, (.q .mv), [.t 16], none⟩])
    .ret))))),
    [.t 1]⟩

set_option maxRecDepth 100000
set_option linter.unusedSimpArgs false
set_option linter.unusedVariables false
theorem c13 : cF P G (drP P G) 13 4 s13.vm = some s13 := by kernel_rfl
theorem c15 : cF P G (drP P G) 15 2 s15.vm = some s15 := by kernel_rfl
theorem c4 : cF P G (drP P G) 4 1 s4.vm = some s4 := by kernel_rfl
abbrev rxS : Shape := .st [.leaf, .arr 32 .leaf, .leaf, .leaf, .arr 32 .leaf]
/-- a box, as the reference has it -/
def rxA (z : Bx) : AV := .agg [.int z.s, .agg (z.d.map .u8), .int z.p, .u32 z.b, .agg (z.x.map .u8)]
def rxB (z : Bx) : Option Blk := some ⟨35, 0, false, .arr 1 rxS, .agg [rxA z]⟩
def bindR (z : Bx) (p : Int) (b : BitVec 32) (d : List (BitVec 8)) : Bx := if z.s = 0 then ⟨d, p, b, 1, z32⟩ else z
theorem f13 {K : AV → Heap → Prop} {H : Heap} {z : Bx} {p : Int} {b : BitVec 32} {d : List (BitVec 8)} (hd : d.length = 32) (hz : z.ok) (h : K (.tup [rxA (bindR z p b d), .int (bindE z)]) H) : wpF P G 13 [rxA z, .int p, .u32 b, .agg (d.map .u8)] H K := by
  refine wpF_go c13 rfl 5 ?_
  intro hA hB
  simp only [s13]
  clear hA hB
  obtain ⟨hz1, hz2⟩ := hz
  by_cases h0 : z.s = 0
  · have e1 : bindR z p b d = ⟨d, p, b, 1, z32⟩ := if_pos h0
    have e2 : bindE z = 0 := if_pos h0
    rw [e1, e2] at h
    unfold rxA at *
    (refine gw4 @h0 @hd @hz1 @hz2 ?_; try exact True.intro)
    exact h
  · have e1 : bindR z p b d = z := if_neg h0
    have e2 : bindE z = 7 := if_neg h0
    rw [e1, e2] at h
    unfold rxA at *
    (refine gw4 @h0 @hd @hz1 @hz2 ?_; try exact True.intro)
    exact h
theorem f15 {K : AV → Heap → Prop} {H : Heap} {z : Bx} {x : List (BitVec 8)} (hx : x.length = 32) (hz : z.ok) (h : K (.tup [rxA (tell z x), .int (tellE z x)]) H) : wpF P G 15 [rxA z, .agg (x.map .u8)] H K := by
  refine wpF_go c15 rfl 5 ?_
  intro hA hB
  simp only [s15]
  clear hA hB
  obtain ⟨hz1, hz2⟩ := hz
  by_cases h0 : z.s = 0
  · have e1 : tell z x = z := if_pos h0
    have e2 : tellE z x = 8 := if_pos h0
    rw [e1, e2] at h
    unfold rxA at *
    rw [h0] at h
    (refine gw4 @h0 @hx @hz1 @hz2 ?_; try exact True.intro)
    exact h
  · by_cases h2 : z.s = 2
    · have e1 : tell z x = z := by unfold tell; rw [if_neg h0, if_pos h2]
      have e2 : tellE z x = 7 := by unfold tellE; rw [if_neg h0, if_pos h2]
      rw [e1, e2] at h
      have h0' : ¬ ((2 : Int) = 0) := by decide
      unfold rxA at *
      rw [h2] at h
      (refine gw5 @h0' @h2 @hx @hz1 @hz2 ?_; try exact True.intro)
      exact h
    · have h9 : ∀ {K : AV → Heap → Prop} {H : Heap}, K (.agg ((com z.p z.b x).map .u8)) H → wpF P G 9 [.int z.p, .u32 z.b, .agg (x.map .u8)] H K := fun h => f9 hx h
      have hcl := com_len (p := z.p) (b := z.b) (s := x)
      by_cases hc : com z.p z.b x = z.d
      · have e1 : tell z x = ⟨z.d, z.p, z.b, 2, x⟩ := by unfold tell; rw [if_neg h0, if_neg h2, if_pos hc]
        have e2 : tellE z x = 0 := by unfold tellE; rw [if_neg h0, if_neg h2, if_pos hc]
        rw [e1, e2] at h
        unfold rxA at *
        rw [hc] at h9
        (refine gw5 @h0 @h2 @hx @hz1 @hz2 ?_; try exact True.intro)
        refine drawn _ (h9 ⟨rfl, rfl⟩) ?_
        (refine gw3 @hx @hz1 @hz2 ?_; try exact True.intro)
        exact ⟨m8_kind, h⟩
      · have e1 : tell z x = z := by unfold tell; rw [if_neg h0, if_neg h2, if_neg hc]
        have e2 : tellE z x = 30 := by unfold tellE; rw [if_neg h0, if_neg h2, if_neg hc]
        rw [e1, e2] at h
        have hne : ((com z.p z.b x).map AV.u8 = z.d.map AV.u8) = False := by
          simp only [eq_iff_iff, iff_false]
          exact fun h => hc ((List.map_inj_right (fun a b h => by injection h)).1 h)
        generalize com z.p z.b x = cc at *
        unfold rxA at *
        (refine gw5 @h0 @h2 @hx @hz1 @hz2 ?_; try exact True.intro)
        refine drawn _ (h9 ⟨rfl, rfl⟩) ?_
        (refine gw5 @hx @hz1 @hz2 @hcl @hne ?_; try exact True.intro)
        exact ⟨m8_kind, m8_kind, h⟩
/-- an act of the law -/
structure Ac where
  k : Int
  p : BitVec 8
  b : BitVec 32
  d : List (BitVec 8)
  s : List (BitVec 8)
abbrev acS : Shape := .st [.leaf, .leaf, .leaf, .arr 32 .leaf, .arr 32 .leaf]
def acA (a : Ac) : AV := .agg [.int a.k, .u8 a.p, .u32 a.b, .agg (a.d.map .u8), .agg (a.s.map .u8)]
def acOk (a : Ac) : Prop := a.d.length = 32 ∧ a.s.length = 32
/-- what a box may be -/
def Bx.good (z : Bx) : Prop := z.ok ∧ (z.s = 0 ∨ z.s = 1 ∨ z.s = 2) ∧ (z.s ≠ 2 → z.x = z32)
theorem bindR_eq {z : Bx} (hz : z.good) {p : Int} {b : BitVec 32} {d : List (BitVec 8)} : bindR z p b d = bind z p b d := by
  unfold bindR bind
  by_cases h : z.s = 0
  · rw [if_pos h, if_pos h, hz.2.2 (by rw [h]; decide)]
  · rw [if_neg h, if_neg h]
theorem bind_good {z : Bx} (hz : z.good) {p : Int} {b : BitVec 32} {d : List (BitVec 8)} (hd : d.length = 32) : (bind z p b d).good := by
  unfold bind
  by_cases h : z.s = 0
  · rw [if_pos h]
    exact ⟨⟨hd, hz.1.2⟩, .inr (.inl rfl), fun _ => hz.2.2 (by rw [h]; decide)⟩
  · rw [if_neg h]; exact hz
theorem tell_good {z : Bx} (hz : z.good) {x : List (BitVec 8)} (hx : x.length = 32) : (tell z x).good := by
  unfold tell
  split
  · exact hz
  · split
    · exact hz
    · split
      · exact ⟨⟨hz.1.1, hx⟩, .inr (.inr rfl), fun h => absurd rfl h⟩
      · exact hz
theorem sdX_good {z : Bx} (hz : z.good) : sdX z = z.x := by
  unfold sdX
  by_cases h : z.s = 2
  · rw [if_pos h]
  · rw [if_neg h, hz.2.2 h]
theorem pos_good {z : Bx} (hz : z.good) : decide (0 < z.s) = !decide (z.s = 0) := by
  rcases hz.2.1 with h | h | h <;> rw [h] <;> rfl
def I4 (al : List Ac) (H : Heap) (k : Nat) (st : St) : Prop :=
  ∃ (i : Nat) (z : Bx) (J : Heap) (u5 u6 u7 u8 u9 u10 u11 u12 u13 u14 u15 : AV), st = ⟨[.ro acS (al.map acA), .bool false, .ptr H.length 0 [0] bxS, .ptr (H.length + 1) 0 [0] rxS, .int (i : Int), u5, u6, u7, u8, u9, u10, u11, u12, u13, u14, u15], H ++ bxB z :: rxB z :: J⟩ ∧ k = 20 - i ∧ i ≤ 20 ∧ z.good
theorem f4 {K : AV → Heap → Prop} {H : Heap} {al : List Ac} (hl : al.length ≤ 9223372036854775807) (ha : ∀ a ∈ al, acOk a) (h : K (.bool true) H) : wpF P G 4 [.ro acS (al.map acA)] H K := by
  refine wpF_go c4 rfl 3 ?_
  intro hA hB
  simp only [s4]
  clear hA hB
  have lm : (al.map acA).length = al.length := by simp
  (refine gw0 ?_; try exact True.intro)
  refine wp_inv (I4 al H) 20 ⟨0, z0, [], _, _, _, _, _, _, _, _, _, _, _, rfl, rfl, by omega, ⟨⟨rfl, rfl⟩, .inl rfl, fun _ => rfl⟩⟩ ?_
  rintro k st ⟨i, z, J, u5, u6, u7, u8, u9, u10, u11, u12, u13, u14, u15, rfl, rfl, hi, hz⟩
  by_cases hil : i < al.length
  · by_cases h20 : i < 20
    · have h1 : ((i : Int) < (al.length : Int)) = True := by simp only [eq_iff_iff, iff_true]; omega
      have h2 : ((i : Int) < 20) = True := by simp only [eq_iff_iff, iff_true]; omega
      obtain ⟨a, hai⟩ : ∃ a, al[i]? = some a := ⟨al[i], List.getElem?_eq_getElem hil⟩
      have hao := ha a (List.mem_of_getElem? hai)
      obtain ⟨hd, hs⟩ := hao
      have g1 : (al.map acA).getD i .un = .agg [.int a.k, .u8 a.p, .u32 a.b, .agg (a.d.map .u8), .agg (a.s.map .u8)] := by
        rw [List.getD_eq_getElem?_getD, List.getElem?_map, hai]; rfl
      have hpz : -9223372036854775808 ≤ (a.p.toNat : Int) ∧ (a.p.toNat : Int) ≤ 9223372036854775807 := by have := a.p.isLt; omega
      by_cases hk0 : a.k = 0
      · have hz' := bind_good hz (p := (a.p.toNat : Int)) (b := a.b) hd
        have h13 : ∀ {K : AV → Heap → Prop} {H : Heap}, K (.tup [rxA (bind z a.p.toNat a.b a.d), .int (bindE z)]) H → wpF P G 13 [rxA z, .int a.p.toNat, .u32 a.b, .agg (a.d.map .u8)] H K := fun h => f13 hd hz.1 (by rw [bindR_eq hz]; exact h)
        have h14 : ∀ {K : AV → Heap → Prop} {L : Heap}, K (.int (bindE z)) (H ++ bxB (bind z a.p.toNat a.b a.d) :: L) → wpF P G 14 [.ptr H.length 0 [0] bxS, .int a.p.toNat, .u32 a.b, .agg (a.d.map .u8)] (H ++ bxB z :: L) K := fun h => f14 hd hz.1 h
        generalize bind z a.p.toNat a.b a.d = z' at *
        unfold rxB rxA
        (refine gw7 @h1 @h2 @g1 @lm @hd @hs @hk0 ?_; try exact True.intro)
        refine ⟨hz.1.1, hz.1.2, ?_⟩
        refine h13 ?_
        unfold rxA
        (refine gw1 @hk0 ?_; try exact True.intro)
        refine ⟨hz'.1.1, hz'.1.2, ?_⟩
        refine h14 ?_
        (refine gw1 @hk0 ?_; try exact True.intro)
        refine ⟨hz'.1.1, hz'.1.2, ?_⟩
        refine f17 (z := z') (by rw [hget_0, hget_z]) hz'.1 ?_
        rw [sdX_good hz']
        have hz1' := hz'.1.1
        have hz2' := hz'.1.2
        (refine gw2 @hz1' @hz2' ?_; try exact True.intro)
        refine ⟨m8_kind, ?_⟩
        refine drawn _ (f18 (z := z') (by rw [hget_0, hget_z]) ⟨rfl, rfl⟩) ?_
        rw [← pos_good hz']
        (refine gw0 ?_; try exact True.intro)
        (repeat (refine And.intro (by omega) ?_))
        exact ⟨20 - (i + 1), by omega, i + 1, z', _, _, _, _, _, _, _, _, _, _, _, _, rfl, rfl, by omega, hz'⟩
      · by_cases hk1 : a.k = 1
        · have hcl := com_len (p := (a.p.toNat : Int)) (b := a.b) (s := a.s)
          have h9 : ∀ {K : AV → Heap → Prop} {H : Heap}, K (.agg ((com a.p.toNat a.b a.s).map .u8)) H → wpF P G 9 [.int a.p.toNat, .u32 a.b, .agg (a.s.map .u8)] H K := fun h => f9 hs h
          generalize com a.p.toNat a.b a.s = c at *
          have hz' := bind_good hz (p := (a.p.toNat : Int)) (b := a.b) hcl
          have h13 : ∀ {K : AV → Heap → Prop} {H : Heap}, K (.tup [rxA (bind z a.p.toNat a.b c), .int (bindE z)]) H → wpF P G 13 [rxA z, .int a.p.toNat, .u32 a.b, .agg (c.map .u8)] H K := fun h => f13 hcl hz.1 (by rw [bindR_eq hz]; exact h)
          have h14 : ∀ {K : AV → Heap → Prop} {L : Heap}, K (.int (bindE z)) (H ++ bxB (bind z a.p.toNat a.b c) :: L) → wpF P G 14 [.ptr H.length 0 [0] bxS, .int a.p.toNat, .u32 a.b, .agg (c.map .u8)] (H ++ bxB z :: L) K := fun h => f14 hcl hz.1 h
          generalize bind z a.p.toNat a.b c = z' at *
          have e0 : ((1 : Int) = 0) = False := by simp
          unfold rxB rxA
          (refine gw8 @h1 @h2 @g1 @lm @hd @hs @hk1 @e0 ?_; try exact True.intro)
          refine ⟨hz.1.1, hz.1.2, ?_⟩
          refine h9 ?_
          (refine gw2 @hk1 @hcl ?_; try exact True.intro)
          refine h13 ?_
          unfold rxA
          (refine gw2 @hk1 @hcl ?_; try exact True.intro)
          refine ⟨hz'.1.1, hz'.1.2, ?_⟩
          refine h14 ?_
          (refine gw1 @hk1 ?_; try exact True.intro)
          refine ⟨hz'.1.1, hz'.1.2, ?_⟩
          refine f17 (z := z') (by rw [hget_0, hget_z]) hz'.1 ?_
          rw [sdX_good hz']
          have hz1' := hz'.1.1
          have hz2' := hz'.1.2
          (refine gw2 @hz1' @hz2' ?_; try exact True.intro)
          refine ⟨m8_kind, ?_⟩
          refine drawn _ (f18 (z := z') (by rw [hget_0, hget_z]) ⟨rfl, rfl⟩) ?_
          rw [← pos_good hz']
          (refine gw0 ?_; try exact True.intro)
          (repeat (refine And.intro (by omega) ?_))
          exact ⟨20 - (i + 1), by omega, i + 1, z', _, _, _, _, _, _, _, _, _, _, _, _, rfl, rfl, by omega, hz'⟩
        · have hz' := tell_good hz hs
          have h15 : ∀ {K : AV → Heap → Prop} {H : Heap}, K (.tup [rxA (tell z a.s), .int (tellE z a.s)]) H → wpF P G 15 [rxA z, .agg (a.s.map .u8)] H K := fun h => f15 hs hz.1 h
          have h16 : ∀ {K : AV → Heap → Prop} {L : Heap}, K (.int (tellE z a.s)) (H ++ bxB (tell z a.s) :: L) → wpF P G 16 [.ptr H.length 0 [0] bxS, .agg (a.s.map .u8)] (H ++ bxB z :: L) K := fun h => f16 hs hz.1 h
          generalize tell z a.s = z' at *
          have e0 : (a.k = 0) = False := by simp [hk0]
          have e1 : (a.k = 1) = False := by simp [hk1]
          unfold rxB rxA
          (refine gw8 @h1 @h2 @g1 @lm @hd @hs @e0 @e1 ?_; try exact True.intro)
          refine ⟨hz.1.1, hz.1.2, ?_⟩
          refine h15 ?_
          unfold rxA
          (refine gw2 @e0 @e1 ?_; try exact True.intro)
          refine ⟨hz'.1.1, hz'.1.2, ?_⟩
          refine h16 ?_
          (refine gw0 ?_; try exact True.intro)
          refine ⟨hz'.1.1, hz'.1.2, ?_⟩
          refine f17 (z := z') (by rw [hget_0, hget_z]) hz'.1 ?_
          rw [sdX_good hz']
          have hz1' := hz'.1.1
          have hz2' := hz'.1.2
          (refine gw2 @hz1' @hz2' ?_; try exact True.intro)
          refine ⟨m8_kind, ?_⟩
          refine drawn _ (f18 (z := z') (by rw [hget_0, hget_z]) ⟨rfl, rfl⟩) ?_
          rw [← pos_good hz']
          (refine gw0 ?_; try exact True.intro)
          (repeat (refine And.intro (by omega) ?_))
          exact ⟨20 - (i + 1), by omega, i + 1, z', _, _, _, _, _, _, _, _, _, _, _, _, rfl, rfl, by omega, hz'⟩
    · have h1 : ((i : Int) < (al.length : Int)) = True := by simp only [eq_iff_iff, iff_true]; omega
      have h2 : ((i : Int) < 20) = False := by simp only [eq_iff_iff, iff_false]; omega
      (refine gw3 @h1 @h2 @lm ?_; try exact True.intro)
      refine f12 ?_
      (refine gw0 ?_; try exact True.intro)
      exact h
  · have h1 : ((i : Int) < (al.length : Int)) = False := by simp only [eq_iff_iff, iff_false]; omega
    (refine gw2 @h1 @lm ?_; try exact True.intro)
    refine f12 ?_
    (refine gw0 ?_; try exact True.intro)
    exact h
end Go.Proofs.YtajkclooknanjaaDoor
