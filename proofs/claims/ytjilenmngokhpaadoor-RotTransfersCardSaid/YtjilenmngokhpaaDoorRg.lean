/-
  Layer 2 (bits), as this seat has it.
-/
import Derived.Test.YtjilenmngokhpaaDoorRa
import Derived.Test.YtjilenmngokhpaaDoorBm
import Derived.Test.YtjilenmngokhpaaDoorV38
import Derived.Test.YtjilenmngokhpaaDoorV44
section
open Go Go.V
namespace Go.Proofs.YtjilenmngokhpaaDoor
set_option maxRecDepth 100000
set_option linter.unusedSimpArgs false
set_option linter.unusedVariables false
/-- trefoil/bits.Of (0:l, 2:, 3:, 4:v, 5:e, 6:i, 7:b, 15:, 18:, 19:, 20:, 21:, 25:) -/
def s16 : FnS := ⟨40, [0, 2, 3, 4, 5, 6, 7, 15, 18, 19, 20, 21, 25],
    (.seq (.reg [⟨.var 1, (.e (.alloc 42 (.st [.leaf, .leaf]) (.agg [(.int 0), .nils]))), [], none⟩,
      ⟨.var 2, (.q .mv), [.c (.int 0)], none⟩])
    (.seq (.reg [⟨.new, (.q .mv), [.t 0], none⟩,
      ⟨.new, (.q .len), [.t 13], none⟩,
      ⟨.new, (.call 35), [.t 14], none⟩,
      ⟨.new, (.q .mv), [.t 15], none⟩,
      ⟨.new, (.q (.ext 0)), [.t 16], none⟩,
      ⟨.new, (.q (.ext 1)), [.t 16], none⟩,
      ⟨.var 3, (.e (.alloc 42 (.st [.leaf, .leaf]) (.agg [(.int 0), .nils]))), [], none⟩,
      ⟨.none, (.e (.store (.st [.leaf, .leaf]))), [.t 3, .t 17], none⟩,
      ⟨.var 4, (.q .mv), [.t 18], none⟩])
    (.seq (.seq (.reg [⟨.new, (.q .mv), [.t 4], none⟩,
      ⟨.var 7, (.q (.bin .neq)), [.t 13, .c (.int 0)], none⟩])
    (.cond (.t 7) (.seq (.reg [⟨.new, (.e (.bld (.st [.leaf, .leaf]) (.agg [(.int 0), .nils]) [])), [], none⟩,
      ⟨.new, (.q .mv), [.t 4], none⟩,
      ⟨.none, (.e (.store (.st [.leaf, .leaf]))), [.t 1, .t 13], none⟩,
      ⟨.var 2, (.q .mv), [.t 14], none⟩])
    .ret)
    .skip))
    (.seq (.seq (.reg [⟨.var 8, (.q .mv), [.t 0], none⟩,
      ⟨.var 9, (.q .len), [.t 8], none⟩,
      ⟨.var 10, (.q .mv), [.c (.int 0)], none⟩])
    (.block 0 (.loop (.seq (.reg [⟨.var 11, (.q (.bin .lss)), [.t 10, .t 9], none⟩])
    (.seq (.cond (.t 11) .skip
    (.exit 0))
    (.seq (.block 1 (.seq (.reg [⟨.new, (.q .mv), [.t 10], none⟩,
      ⟨.new, (.q (.iaS .leaf)), [.t 8, .t 10], none⟩,
      ⟨.new, (.q (.ld .leaf)), [.t 14], none⟩,
      ⟨.var 5, (.q .mv), [.t 13], none⟩,
      ⟨.var 6, (.q .mv), [.t 15], none⟩])
    (.seq (.reg [⟨.var 12, (.q .mv), [.t 6], none⟩])
    (.cond (.t 12) (.reg [⟨.new, (.q (.fa [.leaf, .leaf] 1)), [.t 3], none⟩,
      ⟨.new, (.q (.ld .leaf)), [.t 13], none⟩,
      ⟨.new, (.q .mv), [.t 5], none⟩,
      ⟨.new, (.q (.bin .quo)), [.t 15, .c (.int 64)], none⟩,
      ⟨.new, (.q (.iaS .leaf)), [.t 14, .t 16], none⟩,
      ⟨.new, (.q (.ld .leaf)), [.t 17], none⟩,
      ⟨.new, (.q .mv), [.t 5], none⟩,
      ⟨.new, (.q (.bin .rem)), [.t 19, .c (.int 64)], none⟩,
      ⟨.new, (.q (.cv .u64)), [.t 20], none⟩,
      ⟨.new, (.q (.bin .shl)), [.c (.u64 1), .t 21], none⟩,
      ⟨.new, (.q (.bin .or)), [.t 18, .t 22], none⟩,
      ⟨.new, (.q (.iaS .leaf)), [.t 14, .t 16], none⟩,
      ⟨.none, (.e (.store .leaf)), [.t 24, .t 23], none⟩])
    .skip))))
    (.reg [⟨.new, (.q (.bin .add)), [.t 10, .c (.int 1)], none⟩,
      ⟨.var 10, (.q .mv), [.t 13], none⟩])))))))
    (.seq (.reg [⟨.new, (.q (.ld (.st [.leaf, .leaf]))), [.t 3], none⟩,
      ⟨.none, (.e (.store (.st [.leaf, .leaf]))), [.t 1, .t 13], none⟩,
      ⟨.var 2, (.q .mv), [.c (.int 0)], none⟩])
    .ret))))),
    [.cell 1 (.st [.leaf, .leaf]), .t 2]⟩

/-- (trefoil/bits.Vec).Len (0:v, 1:v, 2:) -/
def s21 : FnS := ⟨5, [0, 1, 2],
    (.seq (.reg [⟨.var 1, (.e (.box 42 (.st [.leaf, .leaf]))), [.t 0], none⟩,
      ⟨.var 2, (.q .mv), [.c (.int 0)], none⟩])
    (.seq (.reg [⟨.new, (.q (.fa [.leaf, .leaf] 0)), [.t 1], none⟩,
      ⟨.new, (.q (.ld .leaf)), [.t 3], none⟩,
      ⟨.var 2, (.q .mv), [.t 4], none⟩])
    .ret)),
    [.t 2]⟩

/-- trefoil/trefoilref02.Nums (0:a, 1:b, 4:, 5:i, 10:, 14:, 25:) -/
def s24 : FnS := ⟨26, [0, 1, 4, 5, 10, 14, 25],
    (.seq (.reg [⟨.var 2, (.q .mv), [.c (.bool false)], none⟩])
    (.seq (.seq (.reg [⟨.new, (.q .mv), [.t 0], none⟩,
      ⟨.new, (.q .len), [.t 7], none⟩,
      ⟨.new, (.q .mv), [.t 1], none⟩,
      ⟨.new, (.q .len), [.t 9], none⟩,
      ⟨.var 4, (.q (.bin .neq)), [.t 8, .t 10], none⟩])
    (.cond (.t 4) (.seq (.reg [⟨.var 2, (.q .mv), [.c (.bool false)], none⟩])
    .ret)
    .skip))
    (.seq (.seq (.reg [⟨.var 3, (.q .mv), [.c (.int 0)], none⟩])
    (.block 0 (.loop (.seq (.seq (.reg [⟨.new, (.q .mv), [.t 3], none⟩,
      ⟨.new, (.q .mv), [.t 0], none⟩,
      ⟨.new, (.q .len), [.t 8], none⟩,
      ⟨.var 5, (.q (.bin .lss)), [.t 7, .t 9], none⟩])
    (.cond (.t 5) .skip
    (.exit 0)))
    (.seq (.block 1 (.seq (.draw [⟨.new, (.q .mv), [.t 0], none⟩,
      ⟨.new, (.q .mv), [.t 3], none⟩,
      ⟨.new, (.q (.iaS .leaf)), [.t 7, .t 8], none⟩,
      ⟨.new, (.q (.ld .leaf)), [.t 9], none⟩,
      ⟨.new, (.q .mv), [.t 1], none⟩,
      ⟨.new, (.q .mv), [.t 3], none⟩,
      ⟨.new, (.q (.iaS .leaf)), [.t 11, .t 12], none⟩,
      ⟨.new, (.q (.ld .leaf)), [.t 13], none⟩,
      ⟨.var 6, (.q (.bin .neq)), [.t 10, .t 14], none⟩])
    (.cond (.t 6) (.seq (.reg [⟨.var 2, (.q .mv), [.c (.bool false)], none⟩])
    .ret)
    .skip)))
    (.reg [⟨.new, (.q .mv), [.t 3], none⟩,
      ⟨.new, (.q (.bin .add)), [.t 7, .c (.int 1)], none⟩,
      ⟨.var 3, (.q .mv), [.t 8], none⟩]))))))
    (.seq (.reg [⟨.var 2, (.q .mv), [.c (.bool true)], none⟩])
    .ret)))),
    [.t 2]⟩

/-- (trefoil/bits.Vec).Get (0:v, 1:i, 2:v, 4:, 12:) -/
def s25 : FnS := ⟨25, [0, 1, 2, 4, 12],
    (.seq (.reg [⟨.var 2, (.e (.box 42 (.st [.leaf, .leaf]))), [.t 0], none⟩,
      ⟨.var 3, (.q .mv), [.c (.bool false)], none⟩])
    (.seq (.seq (.reg [⟨.new, (.q .mv), [.t 1], none⟩,
      ⟨.new, (.q (.bin .lss)), [.t 5, .c (.int 0)], none⟩,
      ⟨.new, (.q .mv), [.t 6], none⟩,
      ⟨.new, (.q .mv), [.t 1], (some (7, false))⟩,
      ⟨.new, (.q (.fa [.leaf, .leaf] 0)), [.t 2], (some (7, false))⟩,
      ⟨.new, (.q (.ld .leaf)), [.t 9], (some (7, false))⟩,
      ⟨.new, (.q (.bin .geq)), [.t 8, .t 10], (some (7, false))⟩,
      ⟨.var 4, (.q .pick), [.t 7, .c (.bool true), .t 11], none⟩])
    (.cond (.t 4) (.seq (.reg [⟨.var 3, (.q .mv), [.c (.bool false)], none⟩])
    .ret)
    .skip))
    (.seq (.reg [⟨.new, (.q (.fa [.leaf, .leaf] 1)), [.t 2], none⟩,
      ⟨.new, (.q (.ld .leaf)), [.t 5], none⟩,
      ⟨.new, (.q .mv), [.t 1], none⟩,
      ⟨.new, (.q (.bin .quo)), [.t 7, .c (.int 64)], none⟩,
      ⟨.new, (.q (.iaS .leaf)), [.t 6, .t 8], none⟩,
      ⟨.new, (.q (.ld .leaf)), [.t 9], none⟩,
      ⟨.new, (.q .mv), [.t 1], none⟩,
      ⟨.new, (.q (.bin .rem)), [.t 11, .c (.int 64)], none⟩,
      ⟨.new, (.q (.cv .u64)), [.t 12], none⟩,
      ⟨.new, (.q (.bin .shr)), [.t 10, .t 13], none⟩,
      ⟨.new, (.q (.bin .and)), [.t 14, .c (.u64 1)], none⟩,
      ⟨.new, (.q (.bin .eql)), [.t 15, .c (.u64 1)], none⟩,
      ⟨.var 3, (.q .mv), [.t 16], none⟩])
    .ret))),
    [.t 3]⟩

/-- trefoil/bits.New (0:n, 2:, 3:, 9:) -/
def s35 : FnS := ⟨16, [0, 2, 3, 9],
    (.seq (.reg [⟨.var 1, (.e (.alloc 42 (.st [.leaf, .leaf]) (.agg [(.int 0), .nils]))), [], none⟩,
      ⟨.var 2, (.q .mv), [.c (.int 0)], none⟩])
    (.seq (.seq (.reg [⟨.new, (.q .mv), [.t 0], none⟩,
      ⟨.new, (.q (.bin .lss)), [.t 4, .c (.int 0)], none⟩,
      ⟨.new, (.q .mv), [.t 5], none⟩,
      ⟨.new, (.q .mv), [.t 0], (some (6, false))⟩,
      ⟨.new, (.q (.bin .gtr)), [.t 7, .c (.int 4194304)], (some (6, false))⟩,
      ⟨.var 3, (.q .pick), [.t 6, .c (.bool true), .t 8], none⟩])
    (.cond (.t 3) (.seq (.reg [⟨.new, (.e (.bld (.st [.leaf, .leaf]) (.agg [(.int 0), .nils]) [])), [], none⟩,
      ⟨.none, (.e (.store (.st [.leaf, .leaf]))), [.t 1, .t 4], none⟩,
      ⟨.var 2, (.q .mv), [.c (.int 2)], none⟩])
    .ret)
    .skip))
    (.seq (.reg [⟨.new, (.q .mv), [.t 0], none⟩,
      ⟨.new, (.q .mv), [.t 0], none⟩,
      ⟨.new, (.call 52), [.t 5], none⟩,
      ⟨.new, (.e (.mksl 22 .leaf 8 (.u64 0))), [.t 6, .t 6], none⟩,
      ⟨.new, (.e (.bld (.st [.leaf, .leaf]) (.agg [(.int 0), .nils]) [0, 1])), [.t 4, .t 7], none⟩,
      ⟨.none, (.e (.store (.st [.leaf, .leaf]))), [.t 1, .t 8], none⟩,
      ⟨.var 2, (.q .mv), [.c (.int 0)], none⟩])
    .ret))),
    [.cell 1 (.st [.leaf, .leaf]), .t 2]⟩

/-- trefoil/bits.Xor (0:a, 1:b, 2:a, 3:b, 4:, 5:) -/
def s43 : FnS := ⟨11, [0, 1, 2, 3, 4, 5],
    (.seq (.reg [⟨.var 2, (.e (.box 42 (.st [.leaf, .leaf]))), [.t 0], none⟩,
      ⟨.var 3, (.e (.box 42 (.st [.leaf, .leaf]))), [.t 1], none⟩,
      ⟨.var 4, (.e (.alloc 42 (.st [.leaf, .leaf]) (.agg [(.int 0), .nils]))), [], none⟩,
      ⟨.var 5, (.q .mv), [.c (.int 0)], none⟩])
    (.seq (.reg [⟨.new, (.q (.ld (.st [.leaf, .leaf]))), [.t 2], none⟩,
      ⟨.new, (.q (.ld (.st [.leaf, .leaf]))), [.t 3], none⟩,
      ⟨.new, (.call 58), [.t 6, .t 7, .c (.fn 59 [])], none⟩,
      ⟨.new, (.q (.ext 0)), [.t 8], none⟩,
      ⟨.new, (.q (.ext 1)), [.t 8], none⟩,
      ⟨.none, (.e (.store (.st [.leaf, .leaf]))), [.t 4, .t 9], none⟩,
      ⟨.var 5, (.q .mv), [.t 10], none⟩])
    .ret)),
    [.cell 4 (.st [.leaf, .leaf]), .t 5]⟩

/-- trefoil/bits.words (0:n, 2:) -/
def s52 : FnS := ⟨6, [0, 2],
    (.seq (.reg [⟨.var 1, (.q .mv), [.c (.int 0)], none⟩])
    (.seq (.reg [⟨.new, (.q .mv), [.t 0], none⟩,
      ⟨.new, (.q (.bin .add)), [.t 2, .c (.int 63)], none⟩,
      ⟨.new, (.q (.bin .quo)), [.t 3, .c (.int 64)], none⟩,
      ⟨.var 1, (.q .mv), [.t 4], none⟩])
    .ret)),
    [.t 1]⟩

/-- trefoil/bits.zip (0:a, 1:b, 2:by, 3:a, 4:b, 6:, 7:, 8:out, 9:i, 14:, 25:, 26:, 27:) -/
def s58 : FnS := ⟨47, [0, 1, 2, 3, 4, 6, 7, 8, 9, 14, 25, 26, 27],
    (.seq (.reg [⟨.var 3, (.e (.box 42 (.st [.leaf, .leaf]))), [.t 0], none⟩,
      ⟨.var 4, (.e (.box 42 (.st [.leaf, .leaf]))), [.t 1], none⟩,
      ⟨.var 5, (.e (.alloc 42 (.st [.leaf, .leaf]) (.agg [(.int 0), .nils]))), [], none⟩,
      ⟨.var 6, (.q .mv), [.c (.int 0)], none⟩])
    (.seq (.seq (.reg [⟨.new, (.q (.fa [.leaf, .leaf] 0)), [.t 3], none⟩,
      ⟨.new, (.q (.ld .leaf)), [.t 13], none⟩,
      ⟨.new, (.q (.fa [.leaf, .leaf] 0)), [.t 4], none⟩,
      ⟨.new, (.q (.ld .leaf)), [.t 15], none⟩,
      ⟨.var 9, (.q (.bin .neq)), [.t 14, .t 16], none⟩])
    (.cond (.t 9) (.seq (.reg [⟨.new, (.e (.bld (.st [.leaf, .leaf]) (.agg [(.int 0), .nils]) [])), [], none⟩,
      ⟨.none, (.e (.store (.st [.leaf, .leaf]))), [.t 5, .t 13], none⟩,
      ⟨.var 6, (.q .mv), [.c (.int 11)], none⟩])
    .ret)
    .skip))
    (.seq (.draw [⟨.new, (.q (.fa [.leaf, .leaf] 0)), [.t 3], none⟩,
      ⟨.new, (.q (.ld .leaf)), [.t 13], none⟩,
      ⟨.new, (.q (.fa [.leaf, .leaf] 1)), [.t 3], none⟩,
      ⟨.new, (.q (.ld .leaf)), [.t 15], none⟩,
      ⟨.new, (.q .len), [.t 16], none⟩,
      ⟨.new, (.e (.mksl 22 .leaf 8 (.u64 0))), [.t 17, .t 17], none⟩,
      ⟨.new, (.e (.bld (.st [.leaf, .leaf]) (.agg [(.int 0), .nils]) [0, 1])), [.t 14, .t 18], none⟩,
      ⟨.var 7, (.e (.alloc 42 (.st [.leaf, .leaf]) (.agg [(.int 0), .nils]))), [], none⟩,
      ⟨.none, (.e (.store (.st [.leaf, .leaf]))), [.t 7, .t 19], none⟩])
    (.seq (.seq (.reg [⟨.new, (.q (.fa [.leaf, .leaf] 1)), [.t 7], none⟩,
      ⟨.new, (.q (.ld .leaf)), [.t 13], none⟩,
      ⟨.var 10, (.q .len), [.t 14], none⟩,
      ⟨.var 11, (.q .mv), [.c (.int 0)], none⟩])
    (.block 0 (.loop (.seq (.reg [⟨.var 12, (.q (.bin .lss)), [.t 11, .t 10], none⟩])
    (.seq (.cond (.t 12) .skip
    (.exit 0))
    (.seq (.block 1 (.seq (.reg [⟨.new, (.q .mv), [.t 11], none⟩,
      ⟨.var 8, (.q .mv), [.t 13], none⟩])
    (.draw [⟨.new, (.q (.fa [.leaf, .leaf] 1)), [.t 7], none⟩,
      ⟨.new, (.q (.ld .leaf)), [.t 13], none⟩,
      ⟨.new, (.q .mv), [.t 8], none⟩,
      ⟨.new, (.q .mv), [.t 2], none⟩,
      ⟨.new, (.q (.fa [.leaf, .leaf] 1)), [.t 3], none⟩,
      ⟨.new, (.q (.ld .leaf)), [.t 17], none⟩,
      ⟨.new, (.q .mv), [.t 8], none⟩,
      ⟨.new, (.q (.iaS .leaf)), [.t 18, .t 19], none⟩,
      ⟨.new, (.q (.ld .leaf)), [.t 20], none⟩,
      ⟨.new, (.q (.fa [.leaf, .leaf] 1)), [.t 4], none⟩,
      ⟨.new, (.q (.ld .leaf)), [.t 22], none⟩,
      ⟨.new, (.q .mv), [.t 8], none⟩,
      ⟨.new, (.q (.iaS .leaf)), [.t 23, .t 24], none⟩,
      ⟨.new, (.q (.ld .leaf)), [.t 25], none⟩,
      ⟨.new, .callv, [.t 16, .t 21, .t 26], none⟩,
      ⟨.new, (.q (.iaS .leaf)), [.t 14, .t 15], none⟩,
      ⟨.none, (.e (.store .leaf)), [.t 28, .t 27], none⟩])))
    (.reg [⟨.new, (.q (.bin .add)), [.t 11, .c (.int 1)], none⟩,
      ⟨.var 11, (.q .mv), [.t 13], none⟩])))))))
    (.seq (.reg [⟨.new, (.q (.ld (.st [.leaf, .leaf]))), [.t 7], none⟩,
      ⟨.none, (.e (.store (.st [.leaf, .leaf]))), [.t 5, .t 13], none⟩,
      ⟨.var 6, (.q .mv), [.c (.int 0)], none⟩])
    .ret))))),
    [.cell 5 (.st [.leaf, .leaf]), .t 6]⟩

/-- trefoil/bits.Xor$1 (0:x, 1:y, 4:) -/
def s59 : FnS := ⟨8, [0, 1, 4],
    (.seq (.reg [⟨.var 2, (.q .mv), [.c (.u64 0)], none⟩])
    (.seq (.reg [⟨.new, (.q .mv), [.t 0], none⟩,
      ⟨.new, (.q .mv), [.t 1], none⟩,
      ⟨.new, (.q (.bin .xor)), [.t 3, .t 4], none⟩,
      ⟨.var 2, (.q .mv), [.t 5], none⟩])
    .ret)),
    [.t 2]⟩

/-- (trefoil/bits.Vec).Raw (0:v, 1:v, 2:) -/
def s60 : FnS := ⟨6, [0, 1, 2],
    (.seq (.reg [⟨.var 1, (.e (.box 42 (.st [.leaf, .leaf]))), [.t 0], none⟩,
      ⟨.var 2, (.q .mv), [.c .nils], none⟩])
    (.seq (.reg [⟨.new, (.q (.fa [.leaf, .leaf] 1)), [.t 1], none⟩,
      ⟨.new, (.q (.ld .leaf)), [.t 3], none⟩,
      ⟨.new, (.call 75), [.t 4], none⟩,
      ⟨.var 2, (.q .mv), [.t 5], none⟩])
    .ret)),
    [.t 2]⟩

/-- trefoil/bits.Read (0:n, 1:s, 4:, 5:, 6:v, 7:e, 8:i, 9:r, 16:, 24:, 27:, 28:, 29:, 63:) -/
def s73 : FnS := ⟨66, [0, 1, 4, 5, 6, 7, 8, 9, 16, 24, 27, 28, 29, 63],
    (.seq (.reg [⟨.var 2, (.e (.alloc 42 (.st [.leaf, .leaf]) (.agg [(.int 0), .nils]))), [], none⟩,
      ⟨.var 3, (.q .mv), [.c (.int 0)], none⟩])
    (.seq (.reg [⟨.new, (.q .mv), [.t 0], none⟩,
      ⟨.new, (.call 35), [.t 14], none⟩,
      ⟨.new, (.q .mv), [.t 15], none⟩,
      ⟨.new, (.q (.ext 0)), [.t 16], none⟩,
      ⟨.new, (.q (.ext 1)), [.t 16], none⟩,
      ⟨.var 4, (.e (.alloc 42 (.st [.leaf, .leaf]) (.agg [(.int 0), .nils]))), [], none⟩,
      ⟨.none, (.e (.store (.st [.leaf, .leaf]))), [.t 4, .t 17], none⟩,
      ⟨.var 5, (.q .mv), [.t 18], none⟩])
    (.seq (.seq (.reg [⟨.new, (.q .mv), [.t 5], none⟩,
      ⟨.var 8, (.q (.bin .neq)), [.t 14, .c (.int 0)], none⟩])
    (.cond (.t 8) (.seq (.reg [⟨.new, (.e (.bld (.st [.leaf, .leaf]) (.agg [(.int 0), .nils]) [])), [], none⟩,
      ⟨.new, (.q .mv), [.t 5], none⟩,
      ⟨.none, (.e (.store (.st [.leaf, .leaf]))), [.t 2, .t 14], none⟩,
      ⟨.var 3, (.q .mv), [.t 15], none⟩])
    .ret)
    .skip))
    (.seq (.seq (.reg [⟨.new, (.q .mv), [.t 1], none⟩,
      ⟨.new, (.q .lenS), [.t 14], none⟩,
      ⟨.new, (.q .mv), [.t 0], none⟩,
      ⟨.new, (.q (.bin .add)), [.t 16, .c (.int 7)], none⟩,
      ⟨.new, (.q (.bin .quo)), [.t 17, .c (.int 8)], none⟩,
      ⟨.var 9, (.q (.bin .neq)), [.t 15, .t 18], none⟩])
    (.cond (.t 9) (.seq (.reg [⟨.new, (.e (.bld (.st [.leaf, .leaf]) (.agg [(.int 0), .nils]) [])), [], none⟩,
      ⟨.none, (.e (.store (.st [.leaf, .leaf]))), [.t 2, .t 14], none⟩,
      ⟨.var 3, (.q .mv), [.c (.int 11)], none⟩])
    .ret)
    .skip))
    (.seq (.seq (.reg [⟨.new, (.q .mv), [.t 1], none⟩,
      ⟨.var 10, (.q .lenS), [.t 14], none⟩,
      ⟨.var 11, (.q .mv), [.c (.int 0)], none⟩])
    (.block 0 (.loop (.seq (.reg [⟨.var 12, (.q (.bin .lss)), [.t 11, .t 10], none⟩])
    (.seq (.cond (.t 12) .skip
    (.exit 0))
    (.seq (.block 1 (.seq (.reg [⟨.new, (.q .mv), [.t 11], none⟩,
      ⟨.var 6, (.q .mv), [.t 14], none⟩])
    (.draw [⟨.new, (.q (.fa [.leaf, .leaf] 1)), [.t 4], none⟩,
      ⟨.new, (.q (.ld .leaf)), [.t 14], none⟩,
      ⟨.new, (.q .mv), [.t 6], none⟩,
      ⟨.new, (.q (.bin .quo)), [.t 16, .c (.int 8)], none⟩,
      ⟨.new, (.q (.iaS .leaf)), [.t 15, .t 17], none⟩,
      ⟨.new, (.q (.ld .leaf)), [.t 18], none⟩,
      ⟨.new, (.q .mv), [.t 1], none⟩,
      ⟨.new, (.q .mv), [.t 6], none⟩,
      ⟨.new, (.q .idxS), [.t 20, .t 21], none⟩,
      ⟨.new, (.q (.cv .u64)), [.t 22], none⟩,
      ⟨.new, (.q .mv), [.t 6], none⟩,
      ⟨.new, (.q (.bin .rem)), [.t 24, .c (.int 8)], none⟩,
      ⟨.new, (.q (.bin .mul)), [.c (.int 8), .t 25], none⟩,
      ⟨.new, (.q (.cv .u64)), [.t 26], none⟩,
      ⟨.new, (.q (.bin .shl)), [.t 23, .t 27], none⟩,
      ⟨.new, (.q (.bin .or)), [.t 19, .t 28], none⟩,
      ⟨.new, (.q (.iaS .leaf)), [.t 15, .t 17], none⟩,
      ⟨.none, (.e (.store .leaf)), [.t 30, .t 29], none⟩])))
    (.reg [⟨.new, (.q (.bin .add)), [.t 11, .c (.int 1)], none⟩,
      ⟨.var 11, (.q .mv), [.t 14], none⟩])))))))
    (.seq (.seq (.reg [⟨.new, (.q .mv), [.t 0], none⟩,
      ⟨.new, (.q (.bin .rem)), [.t 14, .c (.int 8)], none⟩,
      ⟨.var 7, (.q .mv), [.t 15], none⟩])
    (.seq (.reg [⟨.new, (.q .mv), [.t 7], none⟩,
      ⟨.new, (.q (.bin .neq)), [.t 14, .c (.int 0)], none⟩,
      ⟨.new, (.q .mv), [.t 15], none⟩,
      ⟨.new, (.q .mv), [.t 1], (some (16, true))⟩,
      ⟨.new, (.q .mv), [.t 1], (some (16, true))⟩,
      ⟨.new, (.q .lenS), [.t 18], (some (16, true))⟩,
      ⟨.new, (.q (.bin .sub)), [.t 19, .c (.int 1)], (some (16, true))⟩,
      ⟨.new, (.q .idxS), [.t 17, .t 20], (some (16, true))⟩,
      ⟨.new, (.q .mv), [.t 7], (some (16, true))⟩,
      ⟨.new, (.q (.cv .u64)), [.t 22], (some (16, true))⟩,
      ⟨.new, (.q (.bin .shr)), [.t 21, .t 23], (some (16, true))⟩,
      ⟨.new, (.q (.bin .neq)), [.t 24, .c (.u8 0)], (some (16, true))⟩,
      ⟨.var 13, (.q .pick), [.t 16, .t 25, .c (.bool false)], none⟩])
    (.cond (.t 13) (.seq (.reg [⟨.new, (.e (.bld (.st [.leaf, .leaf]) (.agg [(.int 0), .nils]) [])), [], none⟩,
      ⟨.none, (.e (.store (.st [.leaf, .leaf]))), [.t 2, .t 14], none⟩,
      ⟨.var 3, (.q .mv), [.c (.int 13)], none⟩])
    .ret)
    .skip)))
    (.seq (.reg [⟨.new, (.q (.ld (.st [.leaf, .leaf]))), [.t 4], none⟩,
      ⟨.none, (.e (.store (.st [.leaf, .leaf]))), [.t 2, .t 14], none⟩,
      ⟨.var 3, (.q .mv), [.c (.int 0)], none⟩])
    .ret))))))),
    [.cell 2 (.st [.leaf, .leaf]), .t 3]⟩

/-- (trefoil/bits.Vec).Part (0:v, 1:from, 2:to, 3:v, 6:, 7:, 8:out, 9:i, 22:, 35:, 36:, 37:) -/
def s74 : FnS := ⟨53, [0, 1, 2, 3, 6, 7, 8, 9, 22, 35, 36, 37],
    (.seq (.reg [⟨.var 3, (.e (.box 42 (.st [.leaf, .leaf]))), [.t 0], none⟩,
      ⟨.var 4, (.e (.alloc 42 (.st [.leaf, .leaf]) (.agg [(.int 0), .nils]))), [], none⟩,
      ⟨.var 5, (.q .mv), [.c (.int 0)], none⟩])
    (.seq (.seq (.reg [⟨.new, (.q .mv), [.t 1], none⟩,
      ⟨.new, (.q (.bin .lss)), [.t 12, .c (.int 0)], none⟩,
      ⟨.new, (.q .mv), [.t 13], none⟩,
      ⟨.new, (.q .mv), [.t 1], (some (14, false))⟩,
      ⟨.new, (.q .mv), [.t 2], (some (14, false))⟩,
      ⟨.new, (.q (.bin .gtr)), [.t 15, .t 16], (some (14, false))⟩,
      ⟨.new, (.q .pick), [.t 14, .c (.bool true), .t 17], none⟩,
      ⟨.new, (.q .mv), [.t 18], none⟩,
      ⟨.new, (.q .mv), [.t 2], (some (19, false))⟩,
      ⟨.new, (.q (.fa [.leaf, .leaf] 0)), [.t 3], (some (19, false))⟩,
      ⟨.new, (.q (.ld .leaf)), [.t 21], (some (19, false))⟩,
      ⟨.new, (.q (.bin .gtr)), [.t 20, .t 22], (some (19, false))⟩,
      ⟨.var 8, (.q .pick), [.t 19, .c (.bool true), .t 23], none⟩])
    (.cond (.t 8) (.seq (.reg [⟨.new, (.e (.bld (.st [.leaf, .leaf]) (.agg [(.int 0), .nils]) [])), [], none⟩,
      ⟨.none, (.e (.store (.st [.leaf, .leaf]))), [.t 4, .t 12], none⟩,
      ⟨.var 5, (.q .mv), [.c (.int 1)], none⟩])
    .ret)
    .skip))
    (.seq (.reg [⟨.new, (.q .mv), [.t 2], none⟩,
      ⟨.new, (.q .mv), [.t 1], none⟩,
      ⟨.new, (.q (.bin .sub)), [.t 12, .t 13], none⟩,
      ⟨.new, (.q .mv), [.t 2], none⟩,
      ⟨.new, (.q .mv), [.t 1], none⟩,
      ⟨.new, (.q (.bin .sub)), [.t 15, .t 16], none⟩,
      ⟨.new, (.call 52), [.t 17], none⟩,
      ⟨.new, (.e (.mksl 22 .leaf 8 (.u64 0))), [.t 18, .t 18], none⟩,
      ⟨.new, (.e (.bld (.st [.leaf, .leaf]) (.agg [(.int 0), .nils]) [0, 1])), [.t 14, .t 19], none⟩,
      ⟨.var 6, (.e (.alloc 42 (.st [.leaf, .leaf]) (.agg [(.int 0), .nils]))), [], none⟩,
      ⟨.none, (.e (.store (.st [.leaf, .leaf]))), [.t 6, .t 20], none⟩])
    (.seq (.seq (.reg [⟨.new, (.q (.fa [.leaf, .leaf] 1)), [.t 6], none⟩,
      ⟨.new, (.q (.ld .leaf)), [.t 12], none⟩,
      ⟨.var 9, (.q .len), [.t 13], none⟩,
      ⟨.var 10, (.q .mv), [.c (.int 0)], none⟩])
    (.block 0 (.loop (.seq (.reg [⟨.var 11, (.q (.bin .lss)), [.t 10, .t 9], none⟩])
    (.seq (.cond (.t 11) .skip
    (.exit 0))
    (.seq (.block 1 (.seq (.reg [⟨.new, (.q .mv), [.t 10], none⟩,
      ⟨.var 7, (.q .mv), [.t 12], none⟩])
    (.draw [⟨.new, (.q (.fa [.leaf, .leaf] 1)), [.t 6], none⟩,
      ⟨.new, (.q (.ld .leaf)), [.t 12], none⟩,
      ⟨.new, (.q .mv), [.t 7], none⟩,
      ⟨.new, (.q (.ld (.st [.leaf, .leaf]))), [.t 3], none⟩,
      ⟨.new, (.q .mv), [.t 1], none⟩,
      ⟨.new, (.q .mv), [.t 7], none⟩,
      ⟨.new, (.q (.bin .mul)), [.c (.int 64), .t 17], none⟩,
      ⟨.new, (.q (.bin .add)), [.t 16, .t 18], none⟩,
      ⟨.new, (.call 85), [.t 15, .t 19], none⟩,
      ⟨.new, (.q (.iaS .leaf)), [.t 13, .t 14], none⟩,
      ⟨.none, (.e (.store .leaf)), [.t 21, .t 20], none⟩])))
    (.reg [⟨.new, (.q (.bin .add)), [.t 10, .c (.int 1)], none⟩,
      ⟨.var 10, (.q .mv), [.t 12], none⟩])))))))
    (.seq (.reg [⟨.new, (.q (.ld (.st [.leaf, .leaf]))), [.t 6], none⟩,
      ⟨.new, (.call 86), [.t 12], none⟩])
    (.seq (.reg [⟨.new, (.q (.ld (.st [.leaf, .leaf]))), [.t 6], none⟩,
      ⟨.none, (.e (.store (.st [.leaf, .leaf]))), [.t 4, .t 12], none⟩,
      ⟨.var 5, (.q .mv), [.c (.int 0)], none⟩])
    .ret)))))),
    [.cell 4 (.st [.leaf, .leaf]), .t 5]⟩

/-- slices.Clone[[]uint64,uint64] (0:s, 2:, 4:) -/
def s75 : FnS := ⟨8, [0, 2, 4],
    (.seq (.reg [⟨.var 1, (.q .mv), [.c .nils], none⟩])
    (.seq (.seq (.reg [⟨.new, (.q .mv), [.t 0], none⟩,
      ⟨.var 2, (.nilq false), [.t 3], none⟩])
    (.cond (.t 2) (.seq (.reg [⟨.var 1, (.q .mv), [.c .nils], none⟩])
    .ret)
    .skip))
    (.seq (.reg [⟨.new, (.e (.bsl 22 .leaf (.u64 0) 0 [])), [], none⟩,
      ⟨.new, (.q .mv), [.t 0], none⟩,
      ⟨.new, (.e (.app 22 .leaf 8)), [.t 3, .t 4], none⟩,
      ⟨.var 1, (.q .mv), [.t 5], none⟩])
    .ret))),
    [.t 1]⟩

/-- (trefoil/bits.Vec).word (0:v, 1:at, 2:v, 4:, 5:i, 6:r, 7:x, 17:, 34:) -/
def s85 : FnS := ⟨47, [0, 1, 2, 4, 5, 6, 7, 17, 34],
    (.seq (.reg [⟨.var 2, (.e (.box 42 (.st [.leaf, .leaf]))), [.t 0], none⟩,
      ⟨.var 3, (.q .mv), [.c (.u64 0)], none⟩])
    (.seq (.reg [⟨.new, (.q .mv), [.t 1], none⟩,
      ⟨.new, (.q (.bin .quo)), [.t 9, .c (.int 64)], none⟩,
      ⟨.new, (.q .mv), [.t 1], none⟩,
      ⟨.new, (.q (.bin .rem)), [.t 11, .c (.int 64)], none⟩,
      ⟨.new, (.q (.cv .u64)), [.t 12], none⟩,
      ⟨.var 4, (.q .mv), [.t 10], none⟩,
      ⟨.var 5, (.q .mv), [.t 13], none⟩])
    (.seq (.reg [⟨.var 6, (.q .mv), [.c (.u64 0)], none⟩])
    (.seq (.seq (.reg [⟨.new, (.q .mv), [.t 4], none⟩,
      ⟨.new, (.q (.fa [.leaf, .leaf] 1)), [.t 2], none⟩,
      ⟨.new, (.q (.ld .leaf)), [.t 10], none⟩,
      ⟨.new, (.q .len), [.t 11], none⟩,
      ⟨.var 7, (.q (.bin .lss)), [.t 9, .t 12], none⟩])
    (.cond (.t 7) (.reg [⟨.new, (.q (.fa [.leaf, .leaf] 1)), [.t 2], none⟩,
      ⟨.new, (.q (.ld .leaf)), [.t 9], none⟩,
      ⟨.new, (.q .mv), [.t 4], none⟩,
      ⟨.new, (.q (.iaS .leaf)), [.t 10, .t 11], none⟩,
      ⟨.new, (.q (.ld .leaf)), [.t 12], none⟩,
      ⟨.new, (.q .mv), [.t 5], none⟩,
      ⟨.new, (.q (.bin .shr)), [.t 13, .t 14], none⟩,
      ⟨.var 6, (.q .mv), [.t 15], none⟩])
    .skip))
    (.seq (.seq (.reg [⟨.new, (.q .mv), [.t 5], none⟩,
      ⟨.new, (.q (.bin .gtr)), [.t 9, .c (.u64 0)], none⟩,
      ⟨.new, (.q .mv), [.t 10], none⟩,
      ⟨.new, (.q .mv), [.t 4], (some (11, true))⟩,
      ⟨.new, (.q (.bin .add)), [.t 12, .c (.int 1)], (some (11, true))⟩,
      ⟨.new, (.q (.fa [.leaf, .leaf] 1)), [.t 2], (some (11, true))⟩,
      ⟨.new, (.q (.ld .leaf)), [.t 14], (some (11, true))⟩,
      ⟨.new, (.q .len), [.t 15], (some (11, true))⟩,
      ⟨.new, (.q (.bin .lss)), [.t 13, .t 16], (some (11, true))⟩,
      ⟨.var 8, (.q .pick), [.t 11, .t 17, .c (.bool false)], none⟩])
    (.cond (.t 8) (.reg [⟨.new, (.q .mv), [.t 6], none⟩,
      ⟨.new, (.q (.fa [.leaf, .leaf] 1)), [.t 2], none⟩,
      ⟨.new, (.q (.ld .leaf)), [.t 10], none⟩,
      ⟨.new, (.q .mv), [.t 4], none⟩,
      ⟨.new, (.q (.bin .add)), [.t 12, .c (.int 1)], none⟩,
      ⟨.new, (.q (.iaS .leaf)), [.t 11, .t 13], none⟩,
      ⟨.new, (.q (.ld .leaf)), [.t 14], none⟩,
      ⟨.new, (.q .mv), [.t 5], none⟩,
      ⟨.new, (.q (.bin .sub)), [.c (.u64 64), .t 16], none⟩,
      ⟨.new, (.q (.bin .shl)), [.t 15, .t 17], none⟩,
      ⟨.new, (.q (.bin .or)), [.t 9, .t 18], none⟩,
      ⟨.var 6, (.q .mv), [.t 19], none⟩])
    .skip))
    (.seq (.reg [⟨.new, (.q .mv), [.t 6], none⟩,
      ⟨.var 3, (.q .mv), [.t 9], none⟩])
    .ret)))))),
    [.t 3]⟩

/-- (trefoil/bits.Vec).trim (0:v, 1:v, 2:r, 7:) -/
def s86 : FnS := ⟨22, [0, 1, 2, 7],
    (.seq (.reg [⟨.var 1, (.e (.box 42 (.st [.leaf, .leaf]))), [.t 0], none⟩])
    (.seq (.reg [⟨.new, (.q (.fa [.leaf, .leaf] 0)), [.t 1], none⟩,
      ⟨.new, (.q (.ld .leaf)), [.t 4], none⟩,
      ⟨.new, (.q (.bin .rem)), [.t 5, .c (.int 64)], none⟩,
      ⟨.var 2, (.q .mv), [.t 6], none⟩])
    (.seq (.reg [⟨.new, (.q .mv), [.t 2], none⟩,
      ⟨.var 3, (.q (.bin .neq)), [.t 4, .c (.int 0)], none⟩])
    (.cond (.t 3) (.reg [⟨.new, (.q (.fa [.leaf, .leaf] 1)), [.t 1], none⟩,
      ⟨.new, (.q (.ld .leaf)), [.t 4], none⟩,
      ⟨.new, (.q (.fa [.leaf, .leaf] 1)), [.t 1], none⟩,
      ⟨.new, (.q (.ld .leaf)), [.t 6], none⟩,
      ⟨.new, (.q .len), [.t 7], none⟩,
      ⟨.new, (.q (.bin .sub)), [.t 8, .c (.int 1)], none⟩,
      ⟨.new, (.q (.iaS .leaf)), [.t 5, .t 9], none⟩,
      ⟨.new, (.q (.ld .leaf)), [.t 10], none⟩,
      ⟨.new, (.q .mv), [.t 2], none⟩,
      ⟨.new, (.q (.cv .u64)), [.t 12], none⟩,
      ⟨.new, (.q (.bin .shl)), [.c (.u64 1), .t 13], none⟩,
      ⟨.new, (.q (.bin .sub)), [.t 14, .c (.u64 1)], none⟩,
      ⟨.new, (.q (.bin .and)), [.t 11, .t 15], none⟩,
      ⟨.new, (.q (.iaS .leaf)), [.t 5, .t 9], none⟩,
      ⟨.none, (.e (.store .leaf)), [.t 17, .t 16], none⟩])
    .skip)))),
    []⟩

theorem c16 : cF P G (drP P G) 16 1 s16.vm = some s16 := by kernel_rfl
theorem c21 : cF P G (drP P G) 21 1 s21.vm = some s21 := by kernel_rfl
theorem c24 : cF P G (drP P G) 24 2 s24.vm = some s24 := by kernel_rfl
theorem c25 : cF P G (drP P G) 25 2 s25.vm = some s25 := by kernel_rfl
theorem c35 : cF P G (drP P G) 35 1 s35.vm = some s35 := by kernel_rfl
theorem c43 : cF P G (drP P G) 43 2 s43.vm = some s43 := by kernel_rfl
theorem c52 : cF P G (drP P G) 52 1 s52.vm = some s52 := by kernel_rfl
theorem c58 : cF P G (drP P G) 58 3 s58.vm = some s58 := by kernel_rfl
theorem c59 : cF P G (drP P G) 59 2 s59.vm = some s59 := by kernel_rfl
theorem c60 : cF P G (drP P G) 60 1 s60.vm = some s60 := by kernel_rfl
theorem c73 : cF P G (drP P G) 73 2 s73.vm = some s73 := by kernel_rfl
theorem c74 : cF P G (drP P G) 74 3 s74.vm = some s74 := by kernel_rfl
theorem c75 : cF P G (drP P G) 75 1 s75.vm = some s75 := by kernel_rfl
theorem c85 : cF P G (drP P G) 85 2 s85.vm = some s85 := by kernel_rfl
theorem c86 : cF P G (drP P G) 86 1 s86.vm = some s86 := by kernel_rfl
theorem f52 {K : AV → Heap → Prop} {H : Heap} {n : Nat} (hn : n ≤ 1099511627776) (h : K (.int ((nw n : Nat) : Int)) H) : wpF P G 52 [.int (n : Int)] H K := by
  refine wpF_go c52 rfl 3 ?_
  intro ha hb
  simp only [s52]
  have e : Int.tdiv ((n : Int) + 63) 64 = ((nw n : Nat) : Int) := by unfold nw; exact tdiv_nat (n + 63) 64 (by omega)
  have hw : nw n ≤ 1099511627776 := by unfold nw; omega
  (refine gw1 @e ?_; try exact True.intro)
  exact ⟨by omega, by omega, by omega, by omega, h⟩

/-- a row of words that a call made -/
def wblk (n : Nat) (f : Nat → Bool) : Option Blk := some ⟨22, 0, true, .arr (nw n) .leaf, .agg (wdA n f)⟩
theorem f35 {K : AV → Heap → Prop} {H : Heap} {n : Nat} (hn : n ≤ 4194304) (h : ∀ B, K (.tup [.agg [.int (n : Int), .own (H.length + 1) 0 [] 0 (nw n) .leaf], .int 0]) (H ++ [B, wblk n fun _ => false])) : wpF P G 35 [.int (n : Int)] H K := by
  refine wpF_goK c35 rfl ?_
  intro ha hb
  simp only [s35]
  have h0 : ((n : Int) < 0) = False := by simp
  have h1 : ((4194304 : Int) < (n : Int)) = False := by simp; omega
  (refine gw2 @h0 @h1 ?_; try exact True.intro)
  refine f52 (by omega) ?_
  have hw : nw n ≤ 4194304 := by unfold nw; omega
  (refine gw3 @Kall_n @Kall_r @Ka2_s ?_; try exact True.intro)
  refine ⟨by omega, by omega, by omega, ?_⟩
  rw [zero_wdA]
  exact h _
theorem f35e {K : AV → Heap → Prop} {H : Heap} {n : Int} (hn : n < 0 ∨ 4194304 < n) (h : K (.tup [.agg [.int 0, .nils], .int 2]) H) : wpF P G 35 [.int n] H K := by
  refine wpF_go c35 rfl 3 ?_
  intro ha hb
  simp only [s35]
  by_cases h0 : n < 0
  · (refine gw1 @h0 ?_; try exact True.intro)
    exact h
  · have h1 : (4194304 : Int) < n := by omega
    (refine gw2 @h0 @h1 ?_; try exact True.intro)
    exact h

theorem f21 {K : AV → Heap → Prop} {H : Heap} {n : Nat} {f : Nat → Bool} (h : K (.int (n : Int)) H) : wpF P G 21 [vec n f] H K := by
  refine wpF_go c21 rfl 3 ?_
  intro ha hb
  simp only [s21, vec]
  (refine gw0 ?_; try exact True.intro)
  exact h
theorem f21n {K : AV → Heap → Prop} {H : Heap} {n : Int} (h : K (.int n) H) : wpF P G 21 [.agg [.int n, .nils]] H K := by
  refine wpF_go c21 rfl 3 ?_
  intro ha hb
  simp only [s21]
  (refine gw0 ?_; try exact True.intro)
  exact h

theorem f25 {K : AV → Heap → Prop} {H : Heap} {n : Nat} {f : Nat → Bool} {i : Int} (h : K (.bool (decide (0 ≤ i) && cut n f i.toNat)) H) : wpF P G 25 [vec n f, .int i] H K := by
  refine wpF_go c25 rfl 3 ?_
  intro ha hb
  simp only [s25, vec]
  by_cases h0 : i < 0
  · (refine gw1 @h0 ?_; try exact True.intro)
    rw [show decide (0 ≤ i) = false by simp; omega, Bool.false_and] at h
    exact h
  have hr : i ≤ 9223372036854775807 := (ha (.int i) (by simp)).2.2
  obtain ⟨j, rfl⟩ := Int.eq_ofNat_of_zero_le (show 0 ≤ i by omega)
  by_cases h1 : n ≤ j
  · have h2 : ((n : Int) ≤ (j : Int)) = True := by simp; omega
    rw [show cut n f (j : Int).toNat = false by simp [cut]; omega, Bool.and_false] at h
    (refine gw2 @h0 @h2 ?_; try exact True.intro)
    exact h
  · have h2 : ((n : Int) ≤ (j : Int)) = False := by simp; omega
    have hd := tdiv64 j
    have hm := tmod64 j
    have he := sh64 j
    have hg := wdA_get (f := f) (show j < n by omega)
    have hl : j / 64 < nw n := by unfold nw; omega
    have hlen : (wdA n f).length = nw n := wdA_len
    (refine gw7 @h0 @h2 @hd @hm @he @hg @hlen ?_; try exact True.intro)
    refine ⟨by omega, by omega, by omega, by omega, by omega, ?_⟩
    rw [bit_and1, wd_bit (by omega)]
    rw [show 64 * (j / 64) + j % 64 = j by omega]
    rw [show cut n f (j : Int).toNat = f j by simp [cut]; omega] at h
    simpa using h
def vblk (n N : Nat) : Option Blk := some ⟨42, 0, false, .arr 1 (.st [.leaf, .leaf]), .agg [.agg [.int (n : Int), .own N 0 [] 0 (nw n) .leaf]]⟩
def rblk : Option Blk := some ⟨42, 0, false, .arr 1 (.st [.leaf, .leaf]), .agg [.agg [.int 0, .nils]]⟩
theorem demA {n : Nat} {f : Nat → Bool} {kp : Nat → Bool} {N : Nat} {h : Heap} {d : Nat} : mapO (demK kp N h (d + 1)) (List.take (nw n) (wdA n f)) = some (wdA n f) := by
  rw [List.take_of_length_le (by rw [wdA_len]; exact Nat.le_refl _)]; exact mapO_u64
theorem bndA {n : Nat} {f : Nat → Bool} {k : Nat} : AV.bnds k (wdA n f) = true := bnds_u64
def Iy10 (l : List Bool) (B : Option Blk) (H : Heap) (k : Nat) (st : St) : Prop :=
  ∃ (i : Nat) (u1 u2 u4 u5 : AV), st = ⟨[.ro .leaf (l.map .bool), .ptr H.length 0 [0] (.st [.leaf, .leaf]), .int 0, .ptr (H.length + 3) 0 [0] (.st [.leaf, .leaf]), .int 0, u1, u2, .bool false, .ro .leaf (l.map .bool), .int l.length, .int i, u4, u5],
    H ++ [rblk, B, wblk l.length (cut i (bfn l)), vblk l.length (H.length + 2)]⟩ ∧ k = l.length - i ∧ i ≤ l.length
theorem f16 {K : AV → Heap → Prop} {H : Heap} {l : List Bool} (hn : l.length ≤ 4194304) (h : K (.tup [vec l.length (bfn l), .int 0]) H) : wpF P G 16 [.ro .leaf (l.map .bool)] H K := by
  refine wpF_go c16 rfl 4 ?_
  intro ha hb
  simp only [s16]
  (refine gw0 ?_; try exact True.intro)
  refine f35 hn ?_
  intro B
  have e2 : H.length + 1 + 1 = H.length + 2 := rfl
  (refine gw1 @e2 ?_; try exact True.intro)
  refine wp_inv (Iy10 l B H) l.length ⟨0, _, _, _, _, by rw [cut_zero]; rfl, rfl, by omega⟩ ?_
  rintro k st ⟨i, u1, u2, u4, u5, rfl, rfl, hi⟩
  unfold wblk vblk rblk
  by_cases hil : i < l.length
  · have h1 : ((i : Int) < (l.length : Int)) = True := by simp; omega
    have gl := ld_bfn hil
    cases hb2 : bfn l i with
    | false =>
      (refine gw3 @h1 @gl @hb2 ?_; try exact True.intro)
      (repeat (refine And.intro (by omega) ?_))
      refine ⟨l.length - (i + 1), by omega, i + 1, _, _, _, _, by rw [cut_false hb2]; rfl, rfl, by omega⟩
    | true =>
      have hd := tdiv64 i
      have hm := tmod64 i
      have he := sh64 i
      have hg := wdA_get (f := cut i (bfn l)) hil
      have hw : i / 64 < nw l.length := by unfold nw; omega
      have hget := lget_at (ps := wdA l.length (cut i (bfn l))) (i := i / 64) (by rw [wdA_len]; exact hw)
      (refine gw8 @h1 @gl @hb2 @hd @hm @he @hg @hget ?_; try exact True.intro)
      (repeat (refine And.intro (by omega) ?_))
      refine ⟨l.length - (i + 1), by omega, i + 1, _, _, _, _, by rw [wdA_or (cut_true hb2)]; rfl, rfl, by omega⟩
  · have h1 : ((i : Int) < (l.length : Int)) = False := by simp; omega
    have hie : i = l.length := by omega
    (refine gw2 @h1 @demA ?_; try exact True.intro)
    subst hie
    rw [cut_bfn]
    exact h

/-- a row of words is what another list's row is -/
theorem f75 {K : AV → Heap → Prop} {H : Heap} {n : Nat} {f : Nat → Bool} (hn : n ≤ 100000000) (h : K (.ro .leaf (wdA n f)) H) (h0 : n = 0 → K .nils H) : wpF P G 75 [.ro .leaf (wdA n f)] H K := by
  refine wpF_go c75 rfl 3 ?_
  intro ha hb
  simp only [s75]
  have hlen : (wdA n f).length = nw n := wdA_len
  have hw : nw n ≤ 100000000 := by unfold nw; omega
  have hm : ∀ {kp : Nat → Bool} {N : Nat} {h : Heap}, mapO (demK kp N h 2) (wdA n f) = some (wdA n f) := mapO_u64
  (refine gw1 @hm ?_; try exact True.intro)
  refine ⟨fun e => h0 ?_, ?_, ?_, ?_, h⟩
  · rw [e] at hlen; unfold nw at hlen; simp at hlen; omega
  · intro q hq
    obtain ⟨k, _, rfl⟩ := List.mem_map.1 hq
    rfl
  · omega
  · omega

/-- the words of bits, cloned -/
theorem f60 {K : AV → Heap → Prop} {H : Heap} {n : Nat} {f : Nat → Bool} (hn : n ≤ 100000000) (h : K (.ro .leaf (wdA n f)) H) (h0 : n = 0 → K .nils H) : wpF P G 60 [vec n f] H K := by
  refine wpF_go c60 rfl 3 ?_
  intro ha hb
  simp only [s60, vec]
  (refine gw0 ?_; try exact True.intro)
  refine f75 hn ?_ fun e => ?_
  · (refine gw1 @bndA ?_; try exact True.intro)
    exact h
  · (refine gw0 ?_; try exact True.intro)
    exact h0 e

def bxv (n : Nat) (f : Nat → Bool) : Option Blk := some ⟨42, 0, false, .arr 1 (.st [.leaf, .leaf]), .agg [.agg [.int (n : Int), .ro .leaf (wdA n f)]]⟩
/-! the reference -/
def wN (nb : Nat) (f : Nat → Bool) : Option Blk := some ⟨22, nb, true, .arr nb .leaf, .agg (wdN nb f)⟩
def Iy34 (l : List Bool) (H : Heap) (k : Nat) (st : St) : Prop :=
  ∃ (i : Nat) (u1 u2 u3 : AV) (out : AV) (L : Heap), st = ⟨[.ro .leaf (l.map .bool), .nils, out, .int (i : Int), u1, u2, u3], H ++ L⟩ ∧ k = l.length - i ∧ i ≤ l.length ∧
    ((i = 0 ∧ out = .nils ∧ L = []) ∨ (0 < i ∧ out = .own (H.length + 1) (nw i) [] 0 (nw i) .leaf ∧ ∃ T J, L = T :: wN (nw i) (cut i (bfn l)) :: J))
def Iy24 (a b : List Bool) (H : Heap) (k : Nat) (st : St) : Prop :=
  ∃ (i : Nat) (u1 u2 : AV), st = ⟨[.ro .leaf (a.map .bool), .ro .leaf (b.map .bool), .bool false, .int (i : Int), .bool false, u1, u2], H⟩ ∧ k = a.length - i ∧ i ≤ a.length ∧ ∀ j, j < i → a.getD j false = b.getD j false
def Iy32 (a b : List (BitVec 64)) (H : Heap) (k : Nat) (st : St) : Prop :=
  ∃ (i : Nat) (u1 u2 : AV), st = ⟨[.ro .leaf (a.map .u64), .ro .leaf (b.map .u64), .bool false, .int (i : Int), .bool false, u1, u2], H⟩ ∧ k = a.length - i ∧ i ≤ a.length ∧ ∀ j, j < i → a.getD j 0 = b.getD j 0
theorem f24r {K : AV → Heap → Prop} {H : Heap} {a b : List (BitVec 64)} (h : K (.bool (decide (a = b))) H) : wpF P G 24 [.ro .leaf (a.map .u64), .ro .leaf (b.map .u64)] H K := by
  refine wpF_go c24 rfl 3 ?_
  intro ha hb
  simp only [s24]
  have hla : (a.length : Int) ≤ 9223372036854775807 := by have := (ha (.ro .leaf (a.map .u64)) (by simp)).2.1; simp [maxLen] at this; omega
  by_cases hl : a.length = b.length
  · have hl' : ((a.length : Int) = (b.length : Int)) = True := by simp [hl]
    (refine gw1 @hl' ?_; try exact True.intro)
    refine wp_inv (Iy32 a b H) a.length ⟨0, _, _, rfl, rfl, by omega, fun j hj => by omega⟩ ?_
    rintro k st ⟨i, u1, u2, rfl, rfl, hi, hsame⟩
    by_cases hil : i < a.length
    · have h1 : ((i : Int) < (a.length : Int)) = True := by simp; omega
      have h2 : ((i : Int) < (b.length : Int)) = True := by simp; omega
      have g1 := ld_u64 hil
      have g2 := ld_u64 (ns := b) (i := i) (by omega)
      by_cases he : a.getD i 0 = b.getD i 0
      · have hx : (b.getD i 0 == b.getD i 0) = true := by simp
        rw [he] at g1
        (refine gw5 @h1 @h2 @g1 @g2 @hx ?_; try exact True.intro)
        (repeat (refine And.intro (by omega) ?_))
        refine ⟨a.length - (i + 1), by omega, i + 1, _, _, rfl, rfl, by omega, fun j hj => ?_⟩
        by_cases hji : j = i
        · subst hji; exact he
        · exact hsame j (by omega)
      · have hx : (a.getD i 0 = b.getD i 0) = False := eq_false he
        have hne : decide (a = b) = false := by
          simp; intro e; exact he (by rw [e])
        rw [hne] at h
        (refine gw5 @h1 @h2 @g1 @g2 @hx ?_; try exact True.intro)
        (repeat (refine And.intro (by omega) ?_))
        exact h
    · have h1 : ((i : Int) < (a.length : Int)) = False := by simp; omega
      have hab : a = b := by
        apply List.ext_getElem hl
        intro j h1 h2
        have := hsame j (by omega)
        simpa [List.getD_eq_getElem?_getD, h1, h2] using this
      rw [decide_eq_true hab] at h
      (refine gw1 @h1 ?_; try exact True.intro)
      exact h
  · have hl' : ((a.length : Int) = (b.length : Int)) = False := by simp; omega
    rw [show decide (a = b) = false by simp; intro e; exact hl (by rw [e])] at h
    (refine gw1 @hl' ?_; try exact True.intro)
    exact h

theorem f24 {K : AV → Heap → Prop} {H : Heap} {A B : AV} {a b : List (BitVec 64)} (hA : isL A (a.map .u64)) (hB : isL B (b.map .u64)) (h : K (.bool (decide (a = b))) H) : wpF P G 24 [A, B] H K := by
  have nilr : ∀ xs : List (BitVec 64), xs.map AV.u64 = [] → xs = [] := fun xs h => by simpa using h
  rcases hA with rfl | ⟨e1, rfl⟩
  · rcases hB with rfl | ⟨e2, rfl⟩
    · exact f24r h
    · have := nilr _ e2; subst this
      refine wpF_go c24 rfl 3 ?_
      intro ha hb
      simp only [s24]
      cases a with
      | nil =>
        (refine gw0 ?_; try exact True.intro)
        refine wp_unroll 1 ?_
        (refine gw0 ?_; try exact True.intro)
        exact h
      | cons x a =>
        have h1 : (((a.length + 1 : Nat) : Int) = 0) = False := by simp; omega
        rw [show decide (x :: a = []) = false from rfl] at h
        (refine gw1 @h1 ?_; try exact True.intro)
        exact h
  · have := nilr _ e1; subst this
    rcases hB with rfl | ⟨e2, rfl⟩
    · refine wpF_go c24 rfl 3 ?_
      intro ha hb
      simp only [s24]
      cases b with
      | nil =>
        (refine gw0 ?_; try exact True.intro)
        refine wp_unroll 1 ?_
        (refine gw0 ?_; try exact True.intro)
        exact h
      | cons x a =>
        rw [show decide ([] = x :: a) = false from rfl] at h
        have h1 : ((0 : Int) = ((a.length + 1 : Nat) : Int)) = False := by simp; omega
        (refine gw1 @h1 ?_; try exact True.intro)
        exact h
    · have := nilr _ e2; subst this
      refine wpF_go c24 rfl 3 ?_
      intro ha hb
      simp only [s24]
      (refine gw0 ?_; try exact True.intro)
      refine wp_unroll 1 ?_
      (refine gw0 ?_; try exact True.intro)
      exact h

def Iy15 (n : Nat) (w : List (BitVec 64)) (H : Heap) (k : Nat) (st : St) : Prop :=
  ∃ (i : Nat) (u1 : AV) (out : AV) (L : Heap), st = ⟨[.int (n : Int), .ro .leaf (w.map .u64), .nils, out, .int (i : Int), u1], H ++ L⟩ ∧ k = n - i ∧ i ≤ n ∧ apd 4 H.length (fun i => .bool (wf w i)) i out L
theorem f86 {K : AV → Heap → Prop} {H0 L : Heap} {n : Nat} {f : Nat → Bool} (hn : n ≤ 1000000000) (h : K (.tup []) (H0 ++ wblk n (cut n f) :: L)) : wpF P G 86 [.agg [.int (n : Int), .own H0.length 0 [] 0 (nw n) .leaf]] (H0 ++ wblk n f :: L) K := by
  refine wpF_goM c86 rfl ?_
  intro ha hB
  simp only [s86]
  have hm := tmod64 n
  have hfin : ∀ {X : Prop}, X → X := fun h => h
  by_cases hr : n % 64 = 0
  · have e : ((n % 64 : Nat) : Int) = 0 := by rw [hr]; rfl
    unfold wblk at *
    (refine gw5 @hm @e @Kmut_n @Kmut_r @Km2_s ?_; try exact True.intro)
    refine ⟨by omega, ?_⟩
    rw [← wdA_whole hr]
    exact mut_fin hB (by rintro k blk h; cases h; exact bnd_wdA) h
  · have e : (((n % 64 : Nat) : Int) = 0) = False := by simp; omega
    have hs := sh64 n
    have hw : 0 < nw n ∧ nw n ≤ 1000000000 := by unfold nw; omega
    have hk : (nw n : Int) - 1 = ((nw n - 1 : Nat) : Int) := by omega
    have hg := wdN_get (nb := nw n) (f := f) (k := nw n - 1) (by omega)
    rw [wdN_A] at hg
    have hget := lget_at (ps := wdA n f) (i := nw n - 1) (by rw [wdA_len]; omega)
    have htr := wdA_trim (f := f) hr
    unfold wblk at *
    (refine gw10 @hm @e @hs @hk @hg @hget @htr @Kmut_n @Kmut_r @Km2_s ?_; try exact True.intro)
    (repeat (refine And.intro (by omega) ?_))
    exact mut_fin hB (by rintro k blk h; cases h; exact bnd_wdA) h
theorem f86' {K : AV → Heap → Prop} {H0 L Hx : Heap} {n m : Nat} {f : Nat → Bool} (hm : m = H0.length) (hx : Hx = H0 ++ wblk n f :: L) (hn : n ≤ 1000000000) (h : K (.tup []) (H0 ++ wblk n (cut n f) :: L)) : wpF P G 86 [.agg [.int (n : Int), .own m 0 [] 0 (nw n) .leaf]] Hx K := by
  subst hm hx
  exact f86 hn h

/-- the bits of a list, as lists -/
theorem bools_map {l : List Bool} : ((List.range l.length).map fun i => AV.bool (bfn l i)) = l.map .bool := by
  apply List.ext_getElem
  · simp
  · intro i h1 h2
    simp [bfn, List.getD_eq_getElem?_getD, List.getElem?_eq_getElem (show i < l.length by simpa using h2)]
theorem wds_map {n : Nat} {f : Nat → Bool} : wdA n f = (wds n f).map .u64 := wdA_map
/-! the same of no list -/
theorem bfn_rep {n : Nat} : bfn (List.replicate n false) = fun _ => false := by
  funext i
  unfold bfn
  rw [List.getD_eq_getElem?_getD, List.getElem?_replicate]
  split <;> rfl
theorem wf_map {n : Nat} {w : List (BitVec 64)} : ((List.range n).map fun i => AV.bool (wf w i)) = ((List.range n).map (wf w)).map .bool := by rw [List.map_map]; rfl
theorem bfn_rng {n : Nat} {f : Nat → Bool} : bfn ((List.range n).map f) = cut n f := by
  funext i
  unfold bfn cut
  rw [List.getD_eq_getElem?_getD, List.getElem?_map]
  by_cases h : i < n
  · rw [List.getElem?_range h]; simp [h]
  · rw [List.getElem?_eq_none (by simp; omega)]; simp [h]
def Iy17 (n : Nat) (f : Nat → Bool) (H : Heap) (k : Nat) (st : St) : Prop :=
  ∃ (i : Nat) (u1 u2 : AV), st = ⟨[.agg [.int (n : Int), .ro .leaf (wdA n f)], .ptr H.length 0 [0] (.st [.leaf, .leaf]), .int 0, .int (cnt (64 * i) f : Nat), u1, .ro .leaf (wdA n f), .int (nw n : Nat), .int (i : Int), u2],
    H ++ [bxv n f]⟩ ∧ k = nw n - i ∧ i ≤ nw n
def Iy19 (n : Nat) (f : Nat → Bool) (H : Heap) (k : Nat) (st : St) : Prop :=
  ∃ (i : Nat) (x : BitVec 64) (u1 u2 : AV), st = ⟨[.agg [.int (n : Int), .ro .leaf (wdA n f)], .ptr H.length 0 [0] (.st [.leaf, .leaf]), .bool false, .u64 x, u1, .ro .leaf (wdA n f), .int (nw n : Nat), .int (i : Int), u2],
    H ++ [bxv n f]⟩ ∧ k = nw n - i ∧ i ≤ nw n ∧ pop x % 2 = cnt (64 * i) f % 2
def Iy18 (l : List Bool) (H : Heap) (k : Nat) (st : St) : Prop :=
  ∃ (i : Nat) (u1 u2 : AV), st = ⟨[.ro .leaf (l.map .bool), .int 0, .int (cnt i (bfn l) : Nat), .int (i : Int), u1, u2], H⟩ ∧ k = l.length - i ∧ i ≤ l.length
/-! bits turned -/
def ownv (n N : Nat) : AV := .agg [.int (n : Int), .own N 0 [] 0 (nw n) .leaf]
def Iy25 (n : Nat) (f : Nat → Bool) (H : Heap) (k : Nat) (st : St) : Prop :=
  ∃ (i : Nat) (u1 u2 u3 : AV), st = ⟨[.agg [.int (n : Int), .ro .leaf (wdA n f)], .ptr H.length 0 [0] (.st [.leaf, .leaf]), .ptr (H.length + 1) 0 [0] (.st [.leaf, .leaf]), .ptr (H.length + 3) 0 [0] (.st [.leaf, .leaf]), u1, u2, .ro .leaf (wdA n f), .int (nw n : Nat), .int (i : Int), u3],
    H ++ [bxv n f, rblk, some ⟨22, 0, true, .arr (nw n) .leaf, .agg (fillL (fun k => .u64 (wd (fun i => !f i) k)) (.u64 0) (nw n) i)⟩, vblk n (H.length + 2)]⟩ ∧ k = nw n - i ∧ i ≤ nw n
def aw : List Bool := [true, false, true]
theorem aw_w : wdA 3 (bfn aw) = [.u64 5] := by
  show [AV.u64 (wd (bfn aw) 0)] = _
  rw [show wd (bfn aw) 0 = 5 by decide]
theorem aw_n : wdA 3 (cut 3 fun i => !bfn aw i) = [.u64 2] := by
  show [AV.u64 (wd (cut 3 fun i => !bfn aw i) 0)] = _
  rw [show wd (cut 3 fun i => !bfn aw i) 0 = 2 by decide]
theorem f59 {H : Heap} {x y : BitVec 64} : wpF P G 59 [.u64 x, .u64 y] H (fun r h => r = .u64 (x ^^^ y) ∧ h = H) := by
  refine wpF_go c59 rfl 2 ?_
  intro ha hb
  simp only [s59]
  (refine gw0 ?_; try exact True.intro)
def Iy40 (n : Nat) (f g h : Nat → Bool) (c : FuncId) (H : Heap) (k : Nat) (st : St) : Prop :=
  ∃ (i : Nat) (u1 u2 u3 : AV), st = ⟨[.agg [.int (n : Int), .ro .leaf (wdA n f)], .agg [.int (n : Int), .ro .leaf (wdA n g)], .fn c [], .ptr H.length 0 [0] (.st [.leaf, .leaf]), .ptr (H.length + 1) 0 [0] (.st [.leaf, .leaf]), .ptr (H.length + 2) 0 [0] (.st [.leaf, .leaf]), .int 0, .ptr (H.length + 4) 0 [0] (.st [.leaf, .leaf]), u1, .bool false, .int (nw n : Nat), .int (i : Int), u2],
    H ++ [bxv n f, bxv n g, rblk, some ⟨22, 0, true, .arr (nw n) .leaf, .agg (fillL (fun k => .u64 (wd h k)) (.u64 0) (nw n) i)⟩, vblk n (H.length + 3)]⟩ ∧ k = nw n - i ∧ i ≤ nw n
theorem f58 {K : AV → Heap → Prop} {H : Heap} {n m : Nat} {f g e : Nat → Bool} {c : FuncId} {op : BitVec 64 → BitVec 64 → BitVec 64} (hn : n ≤ 100000000) (hop : ∀ k, op (wd f k) (wd g k) = wd e k)
    (hc : ∀ H x y, wpF P G c [.u64 x, .u64 y] H (fun r h => r = .u64 (op x y) ∧ h = H))
    (h : K (if n = m then .tup [vec n e, .int 0] else .tup [.agg [.int 0, .nils], .int 11]) H) : wpF P G 58 [vec n f, vec m g, .fn c []] H K := by
  refine wpF_go c58 rfl 4 ?_
  intro ha hb
  simp only [s58, vec]
  by_cases hnm : n = m
  · subst hnm
    rw [if_pos rfl] at h
    have hlen : (wdA n f).length = nw n := wdA_len
    have hlen2 : (wdA n g).length = nw n := wdA_len
    have hnw : nw n ≤ 100000000 := by unfold nw; omega
    (refine gw1 @hlen ?_; try exact True.intro)
    (repeat (refine And.intro (by omega) ?_))
    refine wp_inv (Iy40 n f g e c H) (nw n) ⟨0, _, _, .un, by rw [fill_zero]; rfl, rfl, by omega⟩ ?_
    rintro k st ⟨i, u1, u2, u3, rfl, rfl, hi⟩
    unfold bxv rblk vblk
    by_cases hil : i < nw n
    · have h1 : ((i : Int) < (nw n : Int)) = True := by simp; omega
      have hg : (wdA n f).getD i .un = .u64 (wd f i) := ld_rng hil
      have hg2 : (wdA n g).getD i .un = .u64 (wd g i) := ld_rng hil
      have hget := lget_at (ps := fillL (fun k => AV.u64 (wd e k)) (AV.u64 0) (nw n) i) (i := i) (by rw [fill_length (by omega)]; exact hil)
      (refine gw5 @h1 @hlen @hlen2 @hg @hg2 ?_; try exact True.intro)
      (repeat (refine And.intro (by omega) ?_))
      refine drawn _ (hc _ _ _) ?_
      rw [hop]
      (refine gw2 @h1 @hget ?_; try exact True.intro)
      (repeat (refine And.intro (by omega) ?_))
      exact ⟨nw n - (i + 1), by omega, i + 1, _, _, .un, by rw [← fill_set hil]; rfl, rfl, by omega⟩
    · have h1 : ((i : Int) < (nw n : Int)) = False := by simp; omega
      have hie : i = nw n := by omega
      have hf : fillL (fun k => AV.u64 (wd e k)) (AV.u64 0) (nw n) (nw n) = wdA n e := by rw [fill_all]; rfl
      subst hie
      (refine gw3 @h1 @hf @demA ?_; try exact True.intro)
      exact h
  · rw [if_neg hnm] at h
    have h1 : ((n : Int) = (m : Int)) = False := by simp; omega
    (refine gw1 @h1 ?_; try exact True.intro)
    exact h

theorem f43 {K : AV → Heap → Prop} {H : Heap} {n m : Nat} {f g : Nat → Bool} (hn : n ≤ 100000000) (h : K (if n = m then .tup [vec n fun i => f i != g i, .int 0] else .tup [.agg [.int 0, .nils], .int 11]) H) : wpF P G 43 [vec n f, vec m g] H K := by
  refine wpF_go c43 rfl 4 ?_
  intro ha hb
  simp only [s43, vec]
  (refine gw0 ?_; try exact True.intro)
  refine f58 (f := f) (g := g) (e := fun i => f i != g i) (op := fun x y => x ^^^ y) hn (fun k => wd_xor) (fun H x y => f59) ?_
  by_cases hnm : n = m
  · rw [if_pos hnm] at h ⊢
    simp only [vec] at h ⊢
    (refine gw1 @bndA ?_; try exact True.intro)
    exact h
  · rw [if_neg hnm] at h ⊢
    (refine gw0 ?_; try exact True.intro)
    exact h
def Iy43 (a b : List (BitVec 64)) (H : Heap) (k : Nat) (st : St) : Prop :=
  ∃ (i : Nat) (u1 u2 u3 : AV), st = ⟨[.ro .leaf (a.map .u64), .ro .leaf (b.map .u64), .bool false, u1, .bool false, .int a.length, .int (i : Int), u2, u3], H⟩ ∧ k = a.length - i ∧ i ≤ a.length ∧ ∀ j, j < i → a.getD j 0 = b.getD j 0
/-- bits that end where they end -/
def nrm (n : Nat) (f : Nat → Bool) : Prop := ∀ i, n ≤ i → f i = false
theorem wds_inj {n : Nat} {f g : Nat → Bool} (hf : nrm n f) (hg : nrm n g) : wds n f = wds n g ↔ ∀ i, i < n → f i = g i := by
  constructor
  · intro h i hi
    have h1 := wf_wds (f := f) (n := n) (i := i) (by unfold nw; omega)
    have h2 := wf_wds (f := g) (n := n) (i := i) (by unfold nw; omega)
    rw [← h1, h, h2]
  · intro h
    unfold wds
    apply List.map_congr_left
    intro k hk
    apply wd_congr
    intro j hj
    by_cases h1 : 64 * k + j < n
    · exact h _ h1
    · rw [hf _ (by omega), hg _ (by omega)]
theorem f73e {K : AV → Heap → Prop} {H : Heap} {n : Int} {s : List (BitVec 8)} (hn : n < 0 ∨ 4194304 < n) (h : K (.tup [.agg [.int 0, .nils], .int 2]) H) : wpF P G 73 [.int n, .str s] H K := by
  refine wpF_go c73 rfl 4 ?_
  intro ha hb
  simp only [s73]
  (refine gw0 ?_; try exact True.intro)
  refine f35e hn ?_
  (refine gw0 ?_; try exact True.intro)
  exact h
theorem f73s {K : AV → Heap → Prop} {H : Heap} {n : Nat} {s : List (BitVec 8)} (hn : n ≤ 4194304) (hs : s.length ≠ ny n) (h : K (.tup [.agg [.int 0, .nils], .int 11]) H) : wpF P G 73 [.int (n : Int), .str s] H K := by
  refine wpF_go c73 rfl 4 ?_
  intro ha hb
  simp only [s73]
  (refine gw0 ?_; try exact True.intro)
  refine f35 hn ?_
  intro B
  have e : Int.tdiv ((n : Int) + 7) 8 = ((ny n : Nat) : Int) := tdiv8 (n + 7)
  have hy : ny n ≤ 4194304 := by unfold ny; omega
  have h1 : ((s.length : Int) = (ny n : Int)) = False := by simp; omega
  (refine gw2 @e @h1 ?_; try exact True.intro)
  (repeat (refine And.intro (by omega) ?_))
  exact h
def Iy26 (n : Nat) (s : List (BitVec 8)) (B : Option Blk) (H : Heap) (k : Nat) (st : St) : Prop :=
  ∃ (i : Nat) (u1 u2 u3 : AV), st = ⟨[.int (n : Int), .str s, .ptr H.length 0 [0] (.st [.leaf, .leaf]), .int 0, .ptr (H.length + 3) 0 [0] (.st [.leaf, .leaf]), .int 0, u1, u2, .bool false, .bool false, .int s.length, .int (i : Int), u3, .un],
    H ++ [rblk, B, wblk n (cut (8 * i) (sf s)), vblk n (H.length + 2)]⟩ ∧ k = s.length - i ∧ i ≤ s.length
theorem f73 {K : AV → Heap → Prop} {H : Heap} {n : Nat} {s : List (BitVec 8)} (hn : n ≤ 4194304) (hs : s.length = ny n) (h : (Rb n s → K (.tup [.agg [.int 0, .nils], .int 13]) H) ∧ (¬ Rb n s → K (.tup [vec n (sf s), .int 0]) H)) : wpF P G 73 [.int (n : Int), .str s] H K := by
  refine wpF_go c73 rfl 4 ?_
  intro ha hb
  simp only [s73]
  have e2 : H.length + 1 + 1 = H.length + 2 := rfl
  (refine gw0 ?_; try exact True.intro)
  refine f35 hn ?_
  intro B
  have e : Int.tdiv ((n : Int) + 7) 8 = ((ny n : Nat) : Int) := tdiv8 (n + 7)
  have hy : ny n ≤ 4194304 := by unfold ny; omega
  have h1 : ((s.length : Int) = (ny n : Int)) = True := by simp; omega
  (refine gw3 @e2 @e @h1 ?_; try exact True.intro)
  (repeat (refine And.intro (by omega) ?_))
  refine wp_inv (Iy26 n s B H) s.length ⟨0, _, _, _, by rw [Nat.mul_zero, cut_zero]; rfl, rfl, by omega⟩ ?_
  rintro k st ⟨i, u1, u2, u3, rfl, rfl, hi⟩
  unfold wblk vblk rblk
  by_cases hil : i < s.length
  · have h2 : ((i : Int) < (s.length : Int)) = True := by simp; omega
    have hd := tdiv8 i
    have hm := tmod8 i
    have he : (BitVec.ofInt 64 (8 * ((i % 8 : Nat) : Int))).toNat = 8 * (i % 8) := ofInt64_nat (i := 8 * (i % 8)) (by omega)
    have hwi : i / 8 < nw n := by unfold nw; unfold ny at hs; omega
    have hg : (wdA n (cut (8 * i) (sf s))).getD (i / 8) .un = .u64 (wd (cut (8 * i) (sf s)) (i / 8)) := ld_rng hwi
    have hget := lget_at (ps := wdA n (cut (8 * i) (sf s))) (i := i / 8) (by rw [wdA_len]; exact hwi)
    have hby := wdA_byte (n := n) (s := s) i
    (refine gw7 @h2 @hd @hm @he @hg @hget @hby ?_; try exact True.intro)
    (repeat (refine And.intro (by omega) ?_))
    exact ⟨s.length - (i + 1), by omega, i + 1, _, _, _, rfl, rfl, by omega⟩
  · have h2 : ((i : Int) < (s.length : Int)) = False := by simp; omega
    have hie : i = s.length := by omega
    subst hie
    rw [cut_sf]
    have hm := tmod8 n
    have hbi := rb_iff hs
    by_cases h8 : n % 8 = 0
    · have e8 : ((n % 8 : Nat) : Int) = 0 := by rw [h8]; rfl
      have hnr : ¬ Rb n s := fun hr => (hbi.1 hr).1 h8
      (refine gw4 @h2 @hm @e8 @demA ?_; try exact True.intro)
      exact h.2 hnr
    · have e8 : (((n % 8 : Nat) : Int) = 0) = False := by simp; omega
      have hs8 := sh8 n
      have hk : (s.length : Int) - 1 = ((s.length - 1 : Nat) : Int) := by unfold ny at hs; omega
      have hlt : s.length - 1 < s.length := by unfold ny at hs; omega
      have hlt2 : (((s.length - 1 : Nat) : Int) < (s.length : Int)) = True := by simp; omega
      by_cases hz : (s.getD (s.length - 1) 0) >>> (n % 8) = 0
      · have hnr : ¬ Rb n s := fun hr => (hbi.1 hr).2 hz
        have hzt : ((s.getD (s.length - 1) 0) >>> (n % 8) = 0) = True := eq_true hz
        (refine gw8 @h2 @hm @e8 @hs8 @hk @hlt2 @hzt @demA ?_; try exact True.intro)
        (repeat (refine And.intro (by omega) ?_))
        exact h.2 hnr
      · have hr : Rb n s := hbi.2 ⟨h8, hz⟩
        have hzt : ((s.getD (s.length - 1) 0) >>> (n % 8) = 0) = False := eq_false hz
        (refine gw7 @h2 @hm @e8 @hs8 @hk @hlt2 @hzt ?_; try exact True.intro)
        (repeat (refine And.intro (by omega) ?_))
        exact h.1 hr

/-! the reference -/
theorem ny_sum (n : Nat) : ((n / 8 : Nat) : Int) + (((n % 8 + 7) / 8 : Nat) : Int) = ((ny n : Nat) : Int) := by unfold ny; omega
def Iy27 (n : Nat) (s : List (BitVec 8)) (H : Heap) (k : Nat) (st : St) : Prop :=
  ∃ (i : Nat) (u1 u2 u3 u4 : AV) (out : AV) (L : Heap), st = ⟨[.int (n : Int), .str s, .nils, .int 0, out, .int (i : Int), u1, .bool false, .bool false, u2, u3, u4], H ++ L⟩ ∧ k = 8 * s.length - i ∧ i ≤ 8 * s.length ∧
    apd 4 H.length (fun i => .bool (sf s i)) (min i n) out L ∧ ∀ j, n ≤ j → j < i → sf s j = false
/-- 64 bits from a place on -/
theorem wd_at {n a : Nat} {f : Nat → Bool} : wd (fun j => cut (64 * nw n) f (a + j)) 0 =
    (if a / 64 < nw n then wd f (a / 64) >>> (a % 64) else 0) ||| (if 0 < a % 64 ∧ a / 64 + 1 < nw n then wd f (a / 64 + 1) <<< (64 - a % 64) else 0) := by
  symm
  apply wd_of
  intro j hj
  rw [BitVec.getLsbD_or]
  have e1 : (if a / 64 < nw n then wd f (a / 64) >>> (a % 64) else (0 : BitVec 64)).getLsbD j = (decide (a / 64 < nw n) && decide (a % 64 + j < 64) && f (a + j)) := by
    by_cases h : a / 64 < nw n
    · rw [if_pos h, BitVec.getLsbD_ushiftRight]
      by_cases h2 : a % 64 + j < 64
      · rw [wd_bit h2, show 64 * (a / 64) + (a % 64 + j) = a + j by omega]; simp [h, h2]
      · rw [BitVec.getLsbD_of_ge _ _ (by omega)]; simp [h2]
    · rw [if_neg h]; simp [h]
  have e2 : (if 0 < a % 64 ∧ a / 64 + 1 < nw n then wd f (a / 64 + 1) <<< (64 - a % 64) else (0 : BitVec 64)).getLsbD j = (decide (a / 64 + 1 < nw n) && decide (64 ≤ a % 64 + j) && f (a + j)) := by
    by_cases h : 0 < a % 64 ∧ a / 64 + 1 < nw n
    · rw [if_pos h, BitVec.getLsbD_shiftLeft]
      by_cases h2 : 64 ≤ a % 64 + j
      · have h3 : ¬ j < 64 - a % 64 := by omega
        rw [wd_bit (by omega), show 64 * (a / 64 + 1) + (j - (64 - a % 64)) = a + j by omega]; simp [h.2, h2, h3, hj]
      · have h3 : j < 64 - a % 64 := by omega
        simp [h2, h3]
    · rw [if_neg h]
      by_cases h2 : 64 ≤ a % 64 + j
      · have : ¬ (a / 64 + 1 < nw n) := fun h4 => h ⟨by omega, h4⟩
        simp [this]
      · simp [h2]
  rw [e1, e2]
  unfold cut
  simp only [Nat.mul_zero, Nat.zero_add]
  by_cases h1 : a % 64 + j < 64
  · have h2 : ¬ 64 ≤ a % 64 + j := by omega
    have h3 : (a + j < 64 * nw n) ↔ (a / 64 < nw n) := by omega
    simp [h1, h2, h3]
  · have h2 : 64 ≤ a % 64 + j := by omega
    have h3 : (a + j < 64 * nw n) ↔ (a / 64 + 1 < nw n) := by omega
    simp [h1, h2, h3]

theorem f85 {K : AV → Heap → Prop} {H : Heap} {n a : Nat} {f : Nat → Bool} (hn : n ≤ 100000000) (ha : a ≤ 1000000000) (h : K (.u64 (wd (fun j => cut (64 * nw n) f (a + j)) 0)) H) : wpF P G 85 [vec n f, .int (a : Int)] H K := by
  refine wpF_go c85 rfl 3 ?_
  intro hA hb
  simp only [s85, vec]
  rw [wd_at] at h
  have orz : ∀ x : BitVec 64, x ||| 0 = x := fun x => BitVec.or_zero
  have hd := tdiv64 a
  have hm := tmod64 a
  have hs := sh64 a
  have hlen : (wdA n f).length = nw n := wdA_len
  have hnw : nw n ≤ 100000000 := by unfold nw; omega
  have hgt : ((0 : BitVec 64) < BitVec.ofInt 64 ((a % 64 : Nat) : Int)) = (0 < a % 64) := by
    rw [BitVec.lt_def, hs]; rfl
  have hsub : ((64 : BitVec 64) - BitVec.ofInt 64 ((a % 64 : Nat) : Int)).toNat = 64 - a % 64 := by
    rw [BitVec.toNat_sub, hs]
    have : (64 : BitVec 64).toNat = 64 := rfl
    rw [this]; omega
  have hi1 : ((a / 64 : Nat) : Int) + 1 = ((a / 64 + 1 : Nat) : Int) := by omega
  have hb1 : (((a / 64 : Nat) : Int)) ≤ 1000000000 := by omega
  by_cases h1 : a / 64 < nw n
  · rw [if_pos h1] at h
    have t1 : (((a / 64 : Nat) : Int) < (nw n : Int)) = True := by simp; omega
    have g1 : (wdA n f).getD (a / 64) .un = .u64 (wd f (a / 64)) := ld_rng h1
    by_cases h2 : 0 < a % 64
    · have t2 : (0 < a % 64) = True := eq_true h2
      by_cases h3 : a / 64 + 1 < nw n
      · rw [if_pos ⟨h2, h3⟩] at h
        have t3 : (((a / 64 + 1 : Nat) : Int) < (nw n : Int)) = True := by simp; omega
        have g2 : (wdA n f).getD (a / 64 + 1) .un = .u64 (wd f (a / 64 + 1)) := ld_rng h3
        (refine gw12 @hd @hm @hlen @t1 @g1 @hs @hgt @t2 @hi1 @t3 @g2 @hsub ?_; try exact True.intro)
        (repeat (refine And.intro (by omega) ?_))
        exact h
      · rw [if_neg (fun x => h3 x.2), orz] at h
        have t3 : (((a / 64 + 1 : Nat) : Int) < (nw n : Int)) = False := by simp; omega
        (refine gw10 @hd @hm @hlen @t1 @g1 @hs @hgt @t2 @hi1 @t3 ?_; try exact True.intro)
        (repeat (refine And.intro (by omega) ?_))
        exact h
    · have t2 : (0 < a % 64) = False := eq_false h2
      rw [if_neg (fun x => h2 x.1), orz] at h
      (refine gw8 @hd @hm @hlen @t1 @g1 @hs @hgt @t2 ?_; try exact True.intro)
      (repeat (refine And.intro (by omega) ?_))
      exact h
  · rw [if_neg h1, if_neg (by omega), orz] at h
    have t1 : (((a / 64 : Nat) : Int) < (nw n : Int)) = False := by simp; omega
    by_cases h2 : 0 < a % 64
    · have t2 : (0 < a % 64) = True := eq_true h2
      have t3 : (((a / 64 + 1 : Nat) : Int) < (nw n : Int)) = False := by simp; omega
      (refine gw9 @hd @hm @hlen @t1 @hs @hgt @t2 @hi1 @t3 ?_; try exact True.intro)
      (repeat (refine And.intro (by omega) ?_))
      exact h
    · have t2 : (0 < a % 64) = False := eq_false h2
      (refine gw7 @hd @hm @hlen @t1 @hs @hgt @t2 ?_; try exact True.intro)
      (repeat (refine And.intro (by omega) ?_))
      exact h

/-- a part that isn't there -/
theorem f74e {K : AV → Heap → Prop} {H : Heap} {n : Nat} {f : Nat → Bool} {a b : Int} (hab : a < 0 ∨ b < a ∨ (n : Int) < b) (h : K (.tup [.agg [.int 0, .nils], .int 1]) H) : wpF P G 74 [vec n f, .int a, .int b] H K := by
  refine wpF_go c74 rfl 4 ?_
  intro hA hb
  simp only [s74, vec]
  by_cases h1 : a < 0
  · (refine gw1 @h1 ?_; try exact True.intro)
    exact h
  by_cases h2 : b < a
  · (refine gw2 @h1 @h2 ?_; try exact True.intro)
    exact h
  have h3 : (n : Int) < b := by omega
  (refine gw3 @h1 @h2 @h3 ?_; try exact True.intro)
  exact h
def Iy30 (n : Nat) (f : Nat → Bool) (a b : Nat) (H : Heap) (k : Nat) (st : St) : Prop :=
  ∃ (i : Nat) (u1 u2 : AV), st = ⟨[.agg [.int (n : Int), .ro .leaf (wdA n f)], .int (a : Int), .int (b : Int), .ptr H.length 0 [0] (.st [.leaf, .leaf]), .ptr (H.length + 1) 0 [0] (.st [.leaf, .leaf]), .int 0, .ptr (H.length + 3) 0 [0] (.st [.leaf, .leaf]), u1, .bool false, .int (nw (b - a) : Nat), .int (i : Int), u2],
    H ++ [bxv n f, rblk, some ⟨22, 0, true, .arr (nw (b - a)) .leaf, .agg (fillL (fun k => .u64 (wd (fun j => cut (64 * nw n) f (a + j)) k)) (.u64 0) (nw (b - a)) i)⟩, vblk (b - a) (H.length + 2)]⟩ ∧ k = nw (b - a) - i ∧ i ≤ nw (b - a)
theorem f74 {K : AV → Heap → Prop} {H : Heap} {n : Nat} {f : Nat → Bool} {a b : Nat} (hn : n ≤ 100000000) (hab : a ≤ b) (hbn : b ≤ n) (h : K (.tup [vec (b - a) (cut (b - a) fun j => f (a + j)), .int 0]) H) : wpF P G 74 [vec n f, .int (a : Int), .int (b : Int)] H K := by
  refine wpF_go c74 rfl 4 ?_
  intro hA hb
  simp only [s74, vec]
  have h1 : ((a : Int) < 0) = False := by simp
  have h2 : ((b : Int) < (a : Int)) = False := by simp; omega
  have h3 : ((n : Int) < (b : Int)) = False := by simp; omega
  have e1 : (b : Int) - (a : Int) = ((b - a : Nat) : Int) := by omega
  (refine gw4 @h1 @h2 @h3 @e1 ?_; try exact True.intro)
  (repeat (refine And.intro (by omega) ?_))
  refine f52 (by omega) ?_
  have hnw : nw (b - a) ≤ 100000000 := by unfold nw; omega
  (refine gw0 ?_; try exact True.intro)
  (repeat (refine And.intro (by omega) ?_))
  refine wp_inv (Iy30 n f a b H) (nw (b - a)) ⟨0, _, _, by rw [fill_zero]; rfl, rfl, by omega⟩ ?_
  rintro k st ⟨i, u1, u2, rfl, rfl, hi⟩
  unfold bxv rblk vblk
  by_cases hil : i < nw (b - a)
  · have t1 : ((i : Int) < (nw (b - a) : Int)) = True := by simp; omega
    have hget := lget_at (ps := fillL (fun k => AV.u64 (wd (fun j => cut (64 * nw n) f (a + j)) k)) (AV.u64 0) (nw (b - a)) i) (i := i) (by rw [fill_length (by omega)]; exact hil)
    have e2 : (a : Int) + 64 * (i : Int) = ((a + 64 * i : Nat) : Int) := by omega
    have e3 : wd (fun j => cut (64 * nw n) f (a + 64 * i + j)) 0 = wd (fun j => cut (64 * nw n) f (a + j)) i := by
      apply wd_of
      intro j hj
      rw [wd_bit hj, Nat.mul_zero, Nat.zero_add, Nat.add_assoc]
    (refine gw2 @t1 @e2 ?_; try exact True.intro)
    (repeat (refine And.intro (by omega) ?_))
    have hbd : 64 * nw (b - a) ≤ (b - a) + 63 := by unfold nw; omega
    refine drawn _ (f85 (n := n) (f := f) hn (by omega) ⟨rfl, rfl⟩) ?_
    rw [e3]
    (refine gw2 @t1 @hget ?_; try exact True.intro)
    (repeat (refine And.intro (by omega) ?_))
    exact ⟨nw (b - a) - (i + 1), by omega, i + 1, _, _, by rw [← fill_set hil]; rfl, rfl, by omega⟩
  · have t1 : ((i : Int) < (nw (b - a) : Int)) = False := by simp; omega
    have hie : i = nw (b - a) := by omega
    have hf : fillL (fun k => AV.u64 (wd (fun j => cut (64 * nw n) f (a + j)) k)) (AV.u64 0) (nw (b - a)) (nw (b - a)) = wdA (b - a) fun j => cut (64 * nw n) f (a + j) := by rw [fill_all]; rfl
    have hc : cut (b - a) (fun j => cut (64 * nw n) f (a + j)) = cut (b - a) fun j => f (a + j) := by
      funext j
      unfold cut
      by_cases hj : j < b - a
      · have : a + j < 64 * nw n := by unfold nw; omega
        simp [hj, this]
      · simp [hj]
    subst hie
    (refine gw2 @t1 @hf ?_; try exact True.intro)
    refine f86' (H0 := H ++ [bxv n f, rblk]) (L := [vblk (b - a) (H.length + 2)]) (f := fun j => cut (64 * nw n) f (a + j)) (by simp) (by simp [rblk, vblk, wblk, bxv]) (by omega) ?_
    rw [hc]
    unfold bxv wblk vblk rblk
    (refine gw1 @demA ?_; try exact True.intro)
    exact h
end Go.Proofs.YtjilenmngokhpaaDoor

end

section
/-
  Layer 18 (rot): which seeds choices choose, as the program and the reference tell.
-/
open Go Go.V
namespace Go.Proofs.YtjilenmngokhpaaDoor
/-- trefoil/rot.Chosen (0:pairs, 1:seeds, 2:choices, 5:choices, 6:, 7:j, 8:p, 9:want, 21:, 22:, 23:, 24:, 25:, 33:, 41:) -/
def s17 : FnS := ⟨43, [0, 1, 2, 5, 6, 7, 8, 9, 21, 22, 23, 24, 25, 33, 41],
    (.seq (.reg [⟨.var 3, (.e (.box 42 (.st [.leaf, .leaf]))), [.t 2], none⟩,
      ⟨.var 4, (.q .mv), [.c (.bool false)], none⟩])
    (.seq (.seq (.reg [⟨.new, (.q .mv), [.t 0], none⟩,
      ⟨.new, (.q .len), [.t 15], none⟩,
      ⟨.new, (.q .mv), [.t 1], none⟩,
      ⟨.new, (.q .len), [.t 17], none⟩,
      ⟨.new, (.q (.bin .neq)), [.t 16, .t 18], none⟩,
      ⟨.new, (.q .mv), [.t 19], none⟩,
      ⟨.new, (.q .mv), [.t 1], (some (20, false))⟩,
      ⟨.new, (.q .len), [.t 21], (some (20, false))⟩,
      ⟨.new, (.q (.ld (.st [.leaf, .leaf]))), [.t 3], (some (20, false))⟩,
      ⟨.new, (.call 21), [.t 23], (some (20, false))⟩,
      ⟨.new, (.q (.bin .neq)), [.t 22, .t 24], (some (20, false))⟩,
      ⟨.var 8, (.q .pick), [.t 20, .c (.bool true), .t 25], none⟩])
    (.cond (.t 8) (.seq (.reg [⟨.var 4, (.q .mv), [.c (.bool false)], none⟩])
    .ret)
    .skip))
    (.seq (.seq (.reg [⟨.var 9, (.q .mv), [.t 0], none⟩,
      ⟨.var 10, (.q .len), [.t 9], none⟩,
      ⟨.var 11, (.q .mv), [.c (.int 0)], none⟩])
    (.block 0 (.loop (.seq (.reg [⟨.var 12, (.q (.bin .lss)), [.t 11, .t 10], none⟩])
    (.seq (.cond (.t 12) .skip
    (.exit 0))
    (.seq (.block 1 (.seq (.reg [⟨.new, (.q .mv), [.t 11], none⟩,
      ⟨.new, (.q (.iaS (.st [(.arr 32 .leaf), (.arr 32 .leaf)]))), [.t 9, .t 11], none⟩,
      ⟨.new, (.q (.ld (.st [(.arr 32 .leaf), (.arr 32 .leaf)]))), [.t 16], none⟩,
      ⟨.var 6, (.e (.alloc 74 (.st [(.arr 32 .leaf), (.arr 32 .leaf)]) (.agg [(.agg [(.u8 0), (.u8 0), (.u8 0), (.u8 0), (.u8 0), (.u8 0), (.u8 0), (.u8 0), (.u8 0), (.u8 0), (.u8 0), (.u8 0), (.u8 0), (.u8 0), (.u8 0), (.u8 0), (.u8 0), (.u8 0), (.u8 0), (.u8 0), (.u8 0), (.u8 0), (.u8 0), (.u8 0), (.u8 0), (.u8 0), (.u8 0), (.u8 0), (.u8 0), (.u8 0), (.u8 0), (.u8 0)]), (.agg [(.u8 0), (.u8 0), (.u8 0), (.u8 0), (.u8 0), (.u8 0), (.u8 0), (.u8 0), (.u8 0), (.u8 0), (.u8 0), (.u8 0), (.u8 0), (.u8 0), (.u8 0), (.u8 0), (.u8 0), (.u8 0), (.u8 0), (.u8 0), (.u8 0), (.u8 0), (.u8 0), (.u8 0), (.u8 0), (.u8 0), (.u8 0), (.u8 0), (.u8 0), (.u8 0), (.u8 0), (.u8 0)])]))), [], none⟩,
      ⟨.var 5, (.q .mv), [.t 15], none⟩,
      ⟨.none, (.e (.store (.st [(.arr 32 .leaf), (.arr 32 .leaf)]))), [.t 6, .t 17], none⟩])
    (.seq (.reg [⟨.new, (.q (.fa [(.arr 32 .leaf), (.arr 32 .leaf)] 0)), [.t 6], none⟩,
      ⟨.new, (.q (.ld (.arr 32 .leaf))), [.t 15], none⟩,
      ⟨.var 7, (.e (.alloc 28 (.arr 32 .leaf) (.agg [(.u8 0), (.u8 0), (.u8 0), (.u8 0), (.u8 0), (.u8 0), (.u8 0), (.u8 0), (.u8 0), (.u8 0), (.u8 0), (.u8 0), (.u8 0), (.u8 0), (.u8 0), (.u8 0), (.u8 0), (.u8 0), (.u8 0), (.u8 0), (.u8 0), (.u8 0), (.u8 0), (.u8 0), (.u8 0), (.u8 0), (.u8 0), (.u8 0), (.u8 0), (.u8 0), (.u8 0), (.u8 0)]))), [], none⟩,
      ⟨.none, (.e (.store (.arr 32 .leaf))), [.t 7, .t 16], none⟩])
    (.seq (.seq (.reg [⟨.new, (.q (.ld (.st [.leaf, .leaf]))), [.t 3], none⟩,
      ⟨.new, (.q .mv), [.t 5], none⟩,
      ⟨.var 13, (.call 25), [.t 15, .t 16], none⟩])
    (.cond (.t 13) (.reg [⟨.new, (.q (.fa [(.arr 32 .leaf), (.arr 32 .leaf)] 1)), [.t 6], none⟩,
      ⟨.new, (.q (.ld (.arr 32 .leaf))), [.t 15], none⟩,
      ⟨.none, (.e (.store (.arr 32 .leaf))), [.t 7, .t 16], none⟩])
    .skip))
    (.seq (.draw [⟨.new, (.q .mv), [.t 1], none⟩,
      ⟨.new, (.q .mv), [.t 5], none⟩,
      ⟨.new, (.q (.iaS (.arr 32 .leaf))), [.t 15, .t 16], none⟩,
      ⟨.new, (.q (.ld (.arr 32 .leaf))), [.t 17], none⟩,
      ⟨.new, (.q (.ld (.arr 32 .leaf))), [.t 7], none⟩,
      ⟨.var 14, (.q (.eqA true 32 .u8)), [.t 18, .t 19], none⟩])
    (.cond (.t 14) (.seq (.reg [⟨.var 4, (.q .mv), [.c (.bool false)], none⟩])
    .ret)
    .skip))))))
    (.reg [⟨.new, (.q (.bin .add)), [.t 11, .c (.int 1)], none⟩,
      ⟨.var 11, (.q .mv), [.t 15], none⟩])))))))
    (.seq (.reg [⟨.var 4, (.q .mv), [.c (.bool true)], none⟩])
    .ret)))),
    [.t 4]⟩

/-- trefoil/trefoillaw18.pairs (0:l, 2:, 3:out, 4:i, 8:) -/
def s18 : FnS := ⟨26, [0, 2, 3, 4, 8],
    (.seq (.reg [⟨.var 1, (.q .mv), [.c .nils], none⟩])
    (.seq (.reg [⟨.var 2, (.q .mv), [.c .nils], none⟩])
    (.seq (.seq (.reg [⟨.var 3, (.q .mv), [.c (.int 0)], none⟩])
    (.block 0 (.loop (.seq (.seq (.reg [⟨.new, (.q .mv), [.t 3], none⟩,
      ⟨.new, (.q .mv), [.t 0], none⟩,
      ⟨.new, (.q .len), [.t 6], none⟩,
      ⟨.var 4, (.q (.bin .lss)), [.t 5, .t 7], none⟩])
    (.cond (.t 4) .skip
    (.exit 0)))
    (.seq (.block 1 (.draw [⟨.new, (.q .mv), [.t 2], none⟩,
      ⟨.new, (.q .mv), [.t 0], none⟩,
      ⟨.new, (.q .mv), [.t 3], none⟩,
      ⟨.new, (.q (.iaS (.st [(.arr 32 .leaf), (.arr 32 .leaf)]))), [.t 6, .t 7], none⟩,
      ⟨.new, (.q (.fa [(.arr 32 .leaf), (.arr 32 .leaf)] 0)), [.t 8], none⟩,
      ⟨.new, (.q (.ld (.arr 32 .leaf))), [.t 9], none⟩,
      ⟨.new, (.q .mv), [.t 0], none⟩,
      ⟨.new, (.q .mv), [.t 3], none⟩,
      ⟨.new, (.q (.iaS (.st [(.arr 32 .leaf), (.arr 32 .leaf)]))), [.t 11, .t 12], none⟩,
      ⟨.new, (.q (.fa [(.arr 32 .leaf), (.arr 32 .leaf)] 1)), [.t 13], none⟩,
      ⟨.new, (.q (.ld (.arr 32 .leaf))), [.t 14], none⟩,
      ⟨.new, (.e (.bld (.st [(.arr 32 .leaf), (.arr 32 .leaf)]) (.agg [(.agg [(.u8 0), (.u8 0), (.u8 0), (.u8 0), (.u8 0), (.u8 0), (.u8 0), (.u8 0), (.u8 0), (.u8 0), (.u8 0), (.u8 0), (.u8 0), (.u8 0), (.u8 0), (.u8 0), (.u8 0), (.u8 0), (.u8 0), (.u8 0), (.u8 0), (.u8 0), (.u8 0), (.u8 0), (.u8 0), (.u8 0), (.u8 0), (.u8 0), (.u8 0), (.u8 0), (.u8 0), (.u8 0)]), (.agg [(.u8 0), (.u8 0), (.u8 0), (.u8 0), (.u8 0), (.u8 0), (.u8 0), (.u8 0), (.u8 0), (.u8 0), (.u8 0), (.u8 0), (.u8 0), (.u8 0), (.u8 0), (.u8 0), (.u8 0), (.u8 0), (.u8 0), (.u8 0), (.u8 0), (.u8 0), (.u8 0), (.u8 0), (.u8 0), (.u8 0), (.u8 0), (.u8 0), (.u8 0), (.u8 0), (.u8 0), (.u8 0)])]) [0, 1])), [.t 10, .t 15], none⟩,
      ⟨.new, (.e (.bsl 74 (.st [(.arr 32 .leaf), (.arr 32 .leaf)]) (.agg [(.agg [(.u8 0), (.u8 0), (.u8 0), (.u8 0), (.u8 0), (.u8 0), (.u8 0), (.u8 0), (.u8 0), (.u8 0), (.u8 0), (.u8 0), (.u8 0), (.u8 0), (.u8 0), (.u8 0), (.u8 0), (.u8 0), (.u8 0), (.u8 0), (.u8 0), (.u8 0), (.u8 0), (.u8 0), (.u8 0), (.u8 0), (.u8 0), (.u8 0), (.u8 0), (.u8 0), (.u8 0), (.u8 0)]), (.agg [(.u8 0), (.u8 0), (.u8 0), (.u8 0), (.u8 0), (.u8 0), (.u8 0), (.u8 0), (.u8 0), (.u8 0), (.u8 0), (.u8 0), (.u8 0), (.u8 0), (.u8 0), (.u8 0), (.u8 0), (.u8 0), (.u8 0), (.u8 0), (.u8 0), (.u8 0), (.u8 0), (.u8 0), (.u8 0), (.u8 0), (.u8 0), (.u8 0), (.u8 0), (.u8 0), (.u8 0), (.u8 0)])]) 1 [0])), [.t 16], none⟩,
      ⟨.new, (.e (.app 74 (.st [(.arr 32 .leaf), (.arr 32 .leaf)]) 64)), [.t 5, .t 17], none⟩,
      ⟨.var 2, (.q .mv), [.t 18], none⟩]))
    (.reg [⟨.new, (.q .mv), [.t 3], none⟩,
      ⟨.new, (.q (.bin .add)), [.t 5, .c (.int 1)], none⟩,
      ⟨.var 3, (.q .mv), [.t 6], none⟩]))))))
    (.seq (.reg [⟨.new, (.q .mv), [.t 2], none⟩,
      ⟨.var 1, (.q .mv), [.t 5], none⟩])
    .ret)))),
    [.t 1]⟩

/-- trefoil/trefoilref18.Chosen (0:pairs, 1:seeds, 2:choices, 6:, 7:j, 19:, 23:, 60:) -/
def s19 : FnS := ⟨61, [0, 1, 2, 6, 7, 19, 23, 60],
    (.seq (.reg [⟨.var 3, (.q .mv), [.c (.bool false)], none⟩])
    (.seq (.seq (.reg [⟨.new, (.q .mv), [.t 0], none⟩,
      ⟨.new, (.q .len), [.t 8], none⟩,
      ⟨.new, (.q .mv), [.t 1], none⟩,
      ⟨.new, (.q .len), [.t 10], none⟩,
      ⟨.new, (.q (.bin .neq)), [.t 9, .t 11], none⟩,
      ⟨.new, (.q .mv), [.t 12], none⟩,
      ⟨.new, (.q .mv), [.t 1], (some (13, false))⟩,
      ⟨.new, (.q .len), [.t 14], (some (13, false))⟩,
      ⟨.new, (.q .mv), [.t 2], (some (13, false))⟩,
      ⟨.new, (.q .len), [.t 16], (some (13, false))⟩,
      ⟨.new, (.q (.bin .neq)), [.t 15, .t 17], (some (13, false))⟩,
      ⟨.var 5, (.q .pick), [.t 13, .c (.bool true), .t 18], none⟩])
    (.cond (.t 5) (.seq (.reg [⟨.var 3, (.q .mv), [.c (.bool false)], none⟩])
    .ret)
    .skip))
    (.seq (.seq (.reg [⟨.var 4, (.q .mv), [.c (.int 0)], none⟩])
    (.block 0 (.loop (.seq (.seq (.reg [⟨.new, (.q .mv), [.t 4], none⟩,
      ⟨.new, (.q .mv), [.t 0], none⟩,
      ⟨.new, (.q .len), [.t 9], none⟩,
      ⟨.var 6, (.q (.bin .lss)), [.t 8, .t 10], none⟩])
    (.cond (.t 6) .skip
    (.exit 0)))
    (.seq (.block 1 (.seq (.draw [⟨.new, (.q .mv), [.t 2], none⟩,
      ⟨.new, (.q .mv), [.t 4], none⟩,
      ⟨.new, (.q (.iaS .leaf)), [.t 8, .t 9], none⟩,
      ⟨.new, (.q (.ld .leaf)), [.t 10], none⟩,
      ⟨.new, (.q .mv), [.t 11], none⟩,
      ⟨.new, (.q .mv), [.t 1], (some (12, true))⟩,
      ⟨.new, (.q .mv), [.t 4], (some (12, true))⟩,
      ⟨.new, (.q (.iaS (.arr 32 .leaf))), [.t 13, .t 14], (some (12, true))⟩,
      ⟨.new, (.q (.ld (.arr 32 .leaf))), [.t 15], (some (12, true))⟩,
      ⟨.new, (.q .mv), [.t 0], (some (12, true))⟩,
      ⟨.new, (.q .mv), [.t 4], (some (12, true))⟩,
      ⟨.new, (.q (.iaS (.st [(.arr 32 .leaf), (.arr 32 .leaf)]))), [.t 17, .t 18], (some (12, true))⟩,
      ⟨.new, (.q (.fa [(.arr 32 .leaf), (.arr 32 .leaf)] 1)), [.t 19], (some (12, true))⟩,
      ⟨.new, (.q (.ld (.arr 32 .leaf))), [.t 20], (some (12, true))⟩,
      ⟨.new, (.q (.eqA true 32 .u8)), [.t 16, .t 21], (some (12, true))⟩,
      ⟨.new, (.q .pick), [.t 12, .t 22, .c (.bool false)], none⟩,
      ⟨.new, (.q .mv), [.t 23], none⟩,
      ⟨.new, (.q .mv), [.t 2], (some (24, false))⟩,
      ⟨.new, (.q .mv), [.t 4], (some (24, false))⟩,
      ⟨.new, (.q (.iaS .leaf)), [.t 25, .t 26], (some (24, false))⟩,
      ⟨.new, (.q (.ld .leaf)), [.t 27], (some (24, false))⟩,
      ⟨.new, (.q (.un .not)), [.t 28], (some (24, false))⟩,
      ⟨.new, (.q .mv), [.t 29], (some (24, false))⟩,
      ⟨.new, (.q .mv), [.t 1], (some (30, true))⟩,
      ⟨.new, (.q .mv), [.t 4], (some (30, true))⟩,
      ⟨.new, (.q (.iaS (.arr 32 .leaf))), [.t 31, .t 32], (some (30, true))⟩,
      ⟨.new, (.q (.ld (.arr 32 .leaf))), [.t 33], (some (30, true))⟩,
      ⟨.new, (.q .mv), [.t 0], (some (30, true))⟩,
      ⟨.new, (.q .mv), [.t 4], (some (30, true))⟩,
      ⟨.new, (.q (.iaS (.st [(.arr 32 .leaf), (.arr 32 .leaf)]))), [.t 35, .t 36], (some (30, true))⟩,
      ⟨.new, (.q (.fa [(.arr 32 .leaf), (.arr 32 .leaf)] 0)), [.t 37], (some (30, true))⟩,
      ⟨.new, (.q (.ld (.arr 32 .leaf))), [.t 38], (some (30, true))⟩,
      ⟨.new, (.q (.eqA true 32 .u8)), [.t 34, .t 39], (some (30, true))⟩,
      ⟨.new, (.q .pick), [.t 30, .t 40, .c (.bool false)], (some (24, false))⟩,
      ⟨.var 7, (.q .pick), [.t 24, .c (.bool true), .t 41], none⟩])
    (.cond (.t 7) (.seq (.reg [⟨.var 3, (.q .mv), [.c (.bool false)], none⟩])
    .ret)
    .skip)))
    (.reg [⟨.new, (.q .mv), [.t 4], none⟩,
      ⟨.new, (.q (.bin .add)), [.t 8, .c (.int 1)], none⟩,
      ⟨.var 4, (.q .mv), [.t 9], none⟩]))))))
    (.seq (.reg [⟨.var 3, (.q .mv), [.c (.bool true)], none⟩])
    .ret)))),
    [.t 3]⟩

set_option maxRecDepth 100000
set_option linter.unusedSimpArgs false
set_option linter.unusedVariables false
theorem c17 : cF P G (drP P G) 17 3 s17.vm = some s17 := by kernel_rfl
theorem c18 : cF P G (drP P G) 18 1 s18.vm = some s18 := by kernel_rfl
theorem c19 : cF P G (drP P G) 19 3 s19.vm = some s19 := by kernel_rfl
theorem m8_eq {a b : List (BitVec 8)} : (a.map AV.u8 = b.map AV.u8) = (a = b) := by
  simp only [eq_iff_iff]
  refine ⟨fun h => ?_, fun h => by rw [h]⟩
  exact (List.map_inj_right (fun a b h => by injection h)).1 h
/-- what a choice chooses -/
def wnt (l : List Pr) (n : Nat) (f : Nat → Bool) (j : Nat) : List (BitVec 8) := if cut n f j = true then (l.getD j prD).o else (l.getD j prD).z
/-- are seeds those that choices choose? -/
def chs (l : List Pr) (ss : List (List (BitVec 8))) (n : Nat) (f : Nat → Bool) : Bool :=
  decide (l.length = ss.length) && (decide (ss.length = n) && (List.range l.length).all fun j => decide (ss.getD j [] = wnt l n f j))
theorem chs_1 {l : List Pr} {ss : List (List (BitVec 8))} {n : Nat} {f : Nat → Bool} (h : l.length ≠ ss.length) : chs l ss n f = false := by
  unfold chs; rw [decide_eq_false h]; rfl
theorem chs_2 {l : List Pr} {ss : List (List (BitVec 8))} {n : Nat} {f : Nat → Bool} (h : ss.length ≠ n) : chs l ss n f = false := by
  unfold chs; rw [decide_eq_false h, Bool.false_and, Bool.and_false]
theorem chs_3 {l : List Pr} {ss : List (List (BitVec 8))} {n : Nat} {f : Nat → Bool} {j : Nat} (hj : j < l.length) (h : ss.getD j [] ≠ wnt l n f j) : chs l ss n f = false := by
  unfold chs
  rw [show ((List.range l.length).all fun j => decide (ss.getD j [] = wnt l n f j)) = false from ?_, Bool.and_false, Bool.and_false]
  rw [List.all_eq_false]
  exact ⟨j, List.mem_range.2 hj, by simpa using h⟩
theorem chs_t {l : List Pr} {ss : List (List (BitVec 8))} {n : Nat} {f : Nat → Bool} (h1 : l.length = ss.length) (h2 : ss.length = n) (h : ∀ j, j < l.length → ss.getD j [] = wnt l n f j) : chs l ss n f = true := by
  unfold chs
  rw [decide_eq_true h1, decide_eq_true h2, Bool.true_and, Bool.true_and, List.all_eq_true]
  intro j hj
  exact decide_eq_true (h j (List.mem_range.1 hj))
def I17 (l : List Pr) (ss : List (List (BitVec 8))) (n : Nat) (f : Nat → Bool) (H : Heap) (k : Nat) (st : St) : Prop :=
  ∃ (j : Nat) (u5 u6 u7 u12 u13 u14 : AV) (J : Heap), st = ⟨[.ro prS (l.map prA), .ro (.arr 32 .leaf) (ss.map sdA), vec n f, .ptr H.length 0 [0] (.st [.leaf, .leaf]), .bool false, u5, u6, u7, .bool false, .ro prS (l.map prA), .int l.length, .int j, u12, u13, u14], H ++ bxv n f :: J⟩ ∧ k = l.length - j ∧ j ≤ l.length ∧
    ∀ t, t < j → ss.getD t [] = wnt l n f t
set_option maxHeartbeats 2000000 in
theorem f17r {K : AV → Heap → Prop} {H : Heap} {l : List Pr} {ss : List (List (BitVec 8))} {n : Nat} {f : Nat → Bool} (hl : l.length ≤ 1000) (hs : ss.length ≤ 1000) (hok : ∀ p ∈ l, p.ok) (hsk : ∀ s ∈ ss, s.length = 32) (h : K (.bool (chs l ss n f)) H) : wpF P G 17 [.ro prS (l.map prA), .ro (.arr 32 .leaf) (ss.map sdA), vec n f] H K := by
  refine wpF_go c17 rfl 4 ?_
  intro ha hb
  simp only [s17, vec]
  clear ha hb
  have ll : (l.map prA).length = l.length := by simp
  have ls : (ss.map sdA).length = ss.length := by simp
  by_cases h1 : l.length = ss.length
  rotate_left
  · have e1 : ((l.length : Int) = (ss.length : Int)) = False := by simp only [eq_iff_iff, iff_false]; omega
    rw [chs_1 h1] at h
    (refine gw3 @ll @ls @e1 ?_; try exact True.intro)
    exact h
  have e1 : ((l.length : Int) = (ss.length : Int)) = True := by simp only [eq_iff_iff, iff_true]; omega
  by_cases h2 : ss.length = n
  rotate_left
  · have e2 : ((ss.length : Int) = (n : Int)) = False := by simp only [eq_iff_iff, iff_false]; omega
    rw [chs_2 h2] at h
    (refine gw3 @ll @ls @e1 ?_; try exact True.intro)
    refine f21 ?_
    (refine gw2 @e2 @ls ?_; try exact True.intro)
    exact h
  have e2 : ((ss.length : Int) = (n : Int)) = True := by simp only [eq_iff_iff, iff_true]; omega
  (refine gw3 @ll @ls @e1 ?_; try exact True.intro)
  refine f21 ?_
  (refine gw2 @e2 @ls ?_; try exact True.intro)
  refine wp_inv (I17 l ss n f H) l.length ⟨0, _, _, _, _, _, _, [], rfl, rfl, Nat.zero_le _, fun t ht => absurd ht (Nat.not_lt_zero t)⟩ ?_
  rintro k st ⟨j, u5, u6, u7, u12, u13, u14, J, rfl, rfl, hj, hall⟩
  unfold bxv vec
  by_cases hjl : j < l.length
  · have e3 : ((j : Int) < (l.length : Int)) = True := by simp only [eq_iff_iff, iff_true]; omega
    have gp := ld_pr hjl
    obtain ⟨hz, ho⟩ := pr_ok hok hjl
    have gs := ld_sd (ss := ss) (i := j) (by omega)
    have hsl := sd_ok (ss := ss) hsk (i := j) (by omega)
    (refine gw5 @e3 @ll @gp @hz @ho ?_; try exact True.intro)
    refine f25 ?_
    cases hf : cut n f j with
    | false =>
      have hw : wnt l n f j = (l.getD j prD).z := by unfold wnt; rw [hf]; rfl
      have hk1 := m8_kind (d := ss.getD j [])
      have hk2 := m8_kind (d := (l.getD j prD).z)
      by_cases he : ss.getD j [] = (l.getD j prD).z
      · have hne : ((ss.getD j []).map AV.u8 = (l.getD j prD).z.map AV.u8) = True := by rw [m8_eq]; exact eq_true he
        (refine gw9 @hf @gs @hsl @hz @ho @gp @ls @ll @hne ?_; try exact True.intro)
        refine ⟨by omega, hk1, hk2, ?_⟩
        (repeat (refine And.intro (by omega) ?_))
        refine ⟨l.length - (j + 1), by omega, j + 1, _, _, _, _, _, _, _, rfl, rfl, by omega, fun t ht => ?_⟩
        by_cases htj : t = j
        · rw [htj, hw, he]
        · exact hall t (by omega)
      · have hne : ((ss.getD j []).map AV.u8 = (l.getD j prD).z.map AV.u8) = False := by rw [m8_eq]; exact eq_false he
        rw [chs_3 hjl (by rw [hw]; exact he)] at h
        (refine gw9 @hf @gs @hsl @hz @ho @gp @ls @ll @hne ?_; try exact True.intro)
        exact ⟨by omega, hk1, hk2, h⟩
    | true =>
      have hw : wnt l n f j = (l.getD j prD).o := by unfold wnt; rw [hf]; rfl
      have hk1 := m8_kind (d := ss.getD j [])
      have hk2 := m8_kind (d := (l.getD j prD).o)
      by_cases he : ss.getD j [] = (l.getD j prD).o
      · have hne : ((ss.getD j []).map AV.u8 = (l.getD j prD).o.map AV.u8) = True := by rw [m8_eq]; exact eq_true he
        (refine gw9 @hf @gs @hsl @hz @ho @gp @ls @ll @hne ?_; try exact True.intro)
        refine ⟨by omega, hk1, hk2, ?_⟩
        (repeat (refine And.intro (by omega) ?_))
        refine ⟨l.length - (j + 1), by omega, j + 1, _, _, _, _, _, _, _, rfl, rfl, by omega, fun t ht => ?_⟩
        by_cases htj : t = j
        · rw [htj, hw, he]
        · exact hall t (by omega)
      · have hne : ((ss.getD j []).map AV.u8 = (l.getD j prD).o.map AV.u8) = False := by rw [m8_eq]; exact eq_false he
        rw [chs_3 hjl (by rw [hw]; exact he)] at h
        (refine gw9 @hf @gs @hsl @hz @ho @gp @ls @ll @hne ?_; try exact True.intro)
        exact ⟨by omega, hk1, hk2, h⟩
  · have e3 : ((j : Int) < (l.length : Int)) = False := by simp only [eq_iff_iff, iff_false]; omega
    rw [chs_t h1 h2 (fun t ht => hall t (by omega))] at h
    (refine gw2 @e3 @ll ?_; try exact True.intro)
    exact h

theorem f17z {K : AV → Heap → Prop} {H : Heap} {A B : AV} {n : Nat} {f : Nat → Bool} (hA : A = .ro prS [] ∨ A = .nils) (hB : B = .ro (.arr 32 .leaf) [] ∨ B = .nils) (h : K (.bool (chs [] [] n f)) H) : wpF P G 17 [A, B, vec n f] H K := by
  refine wpF_go c17 rfl 4 ?_
  intro ha hb
  simp only [s17, vec]
  clear ha hb
  by_cases h2 : n = 0
  · have e2 : ((0 : Int) = (n : Int)) = True := by simp only [eq_iff_iff, iff_true]; omega
    rw [chs_t (l := []) (ss := []) rfl h2.symm (fun j hj => absurd hj (Nat.not_lt_zero j))] at h
    rcases hA with rfl | rfl <;> rcases hB with rfl | rfl
    all_goals
      (refine gw0 ?_; try exact True.intro)
      refine f21 ?_
      (refine gw1 @e2 ?_; try exact True.intro)
      refine wp_unroll 1 ?_
      (refine gw0 ?_; try exact True.intro)
      exact h
  · have e2 : ((0 : Int) = (n : Int)) = False := by simp only [eq_iff_iff, iff_false]; omega
    rw [chs_2 (l := []) (ss := []) (fun h => h2 h.symm)] at h
    rcases hA with rfl | rfl <;> rcases hB with rfl | rfl
    all_goals
      (refine gw0 ?_; try exact True.intro)
      refine f21 ?_
      (refine gw1 @e2 ?_; try exact True.intro)
      exact h
theorem f17 {K : AV → Heap → Prop} {H : Heap} {A B : AV} {l : List Pr} {ss : List (List (BitVec 8))} {n : Nat} {f : Nat → Bool} (hA : isP A l) (hB : isS B ss) (hl : l.length ≤ 1000) (hs : ss.length ≤ 1000) (hok : ∀ p ∈ l, p.ok) (hsk : ∀ s ∈ ss, s.length = 32) (h : K (.bool (chs l ss n f)) H) : wpF P G 17 [A, B, vec n f] H K := by
  have ll : (l.map prA).length = l.length := by simp
  have ls : (ss.map sdA).length = ss.length := by simp
  rcases hA with rfl | ⟨rfl, rfl⟩
  · rcases hB with rfl | ⟨rfl, rfl⟩
    · exact f17r hl hs hok hsk h
    · by_cases h0 : l.length = 0
      · have hl0 : l = [] := List.length_eq_zero_iff.1 h0
        subst hl0
        exact f17z (.inl rfl) (.inr rfl) h
      · have e1 : ((l.length : Int) = 0) = False := by simp only [eq_iff_iff, iff_false]; omega
        rw [chs_1 (by simpa using h0)] at h
        refine wpF_go c17 rfl 4 ?_
        intro ha hb
        simp only [s17, vec]
        (refine gw2 @ll @e1 ?_; try exact True.intro)
        exact h
  · rcases hB with rfl | ⟨rfl, rfl⟩
    · by_cases h0 : ss.length = 0
      · have hl0 : ss = [] := List.length_eq_zero_iff.1 h0
        subst hl0
        exact f17z (.inr rfl) (.inl rfl) h
      · have e1 : ((0 : Int) = (ss.length : Int)) = False := by simp only [eq_iff_iff, iff_false]; omega
        rw [chs_1 (show ([] : List Pr).length ≠ ss.length from fun e => h0 e.symm)] at h
        refine wpF_go c17 rfl 4 ?_
        intro ha hb
        simp only [s17, vec]
        (refine gw2 @ls @e1 ?_; try exact True.intro)
        exact h
    · exact f17z (.inr rfl) (.inr rfl) h

/-! pairs, as the law's own helper hands them back -/
def I18 (l : List Pr) (H : Heap) (k : Nat) (st : St) : Prop :=
  ∃ (i : Nat) (out u4 : AV) (L : Heap), st = ⟨[.ro prS (l.map prA), .nils, out, .int (i : Int), u4], H ++ L⟩ ∧ k = l.length - i ∧ i ≤ l.length ∧
    ((i = 0 ∧ out = .nils ∧ L = []) ∨ (0 < i ∧ out = .own (H.length + 1) i [] 0 i prS ∧ ∃ T J, L = T :: prB i i ((l.take i).map prA) :: J))
theorem take_next {α : Type} {xs : List α} {i : Nat} {d : α} (h : i < xs.length) : xs.take (i + 1) = xs.take i ++ [xs.getD i d] := by
  rw [List.take_add_one, List.getD_eq_getElem?_getD, List.getElem?_eq_getElem h]
  rfl
theorem f18 {K : AV → Heap → Prop} {H : Heap} {l : List Pr} (hl : l.length ≤ 1000) (hok : ∀ p ∈ l, p.ok) (h : K (prL l) H) : wpF P G 18 [.ro prS (l.map prA)] H K := by
  refine wpF_go c18 rfl 4 ?_
  intro ha hb
  simp only [s18]
  clear ha hb
  have ll : (l.map prA).length = l.length := by simp
  (refine gw0 ?_; try exact True.intro)
  refine wp_inv (I18 l H) l.length ⟨0, _, _, [], by rw [List.append_nil]; rfl, rfl, Nat.zero_le _, .inl ⟨rfl, rfl, rfl⟩⟩ ?_
  rintro k st ⟨i, out, u4, L, rfl, rfl, hi, hc⟩
  by_cases hil : i < l.length
  · have e1 : ((i : Int) < (l.length : Int)) = True := by simp only [eq_iff_iff, iff_true]; omega
    have gp := ld_pr hil
    obtain ⟨hz, ho⟩ := pr_ok hok hil
    have hnx := take_next (d := prD) hil
    rcases hc with ⟨hi0, rfl, rfl⟩ | ⟨hi0, rfl, T, J, rfl⟩
    · (refine gw5 @e1 @ll @gp @hz @ho ?_; try exact True.intro)
      (repeat (refine And.intro (by omega) ?_))
      exact ⟨l.length - (i + 1), by omega, i + 1, _, _, _, rfl, rfl, by omega, .inr ⟨by omega, by rw [hi0], _, [], by rw [hnx, hi0]; rfl⟩⟩
    · unfold prB
      (refine gw5 @e1 @ll @gp @hz @ho ?_; try exact True.intro)
      (repeat (refine And.intro (by omega) ?_))
      exact ⟨l.length - (i + 1), by omega, i + 1, _, _, _, rfl, rfl, by omega, .inr ⟨by omega, rfl, _, _, by rw [hnx]; unfold prB; rw [List.map_append]; rfl⟩⟩
  · have e1 : ((i : Int) < (l.length : Int)) = False := by simp only [eq_iff_iff, iff_false]; omega
    have hie : i = l.length := by omega
    rw [hie, List.take_of_length_le (Nat.le_refl _)] at hc
    rcases hc with ⟨hi0, rfl, rfl⟩ | ⟨hi0, rfl, T, J, rfl⟩
    · (refine gw2 @e1 @ll ?_; try exact True.intro)
      unfold prL at h
      rw [if_pos hi0] at h
      exact h
    · unfold prB
      have ht1 : List.take l.length (l.map prA) = l.map prA := List.take_of_length_le (by simp)
      have hm1 := @mapO_prA l
      (refine gw4 @e1 @ll @ht1 @hm1 ?_; try exact True.intro)
      unfold prL at h
      rw [if_neg (by omega)] at h
      exact h

/-! the reference -/
def I19 (l : List Pr) (ss : List (List (BitVec 8))) (c : List Bool) (H : Heap) (k : Nat) (st : St) : Prop :=
  ∃ (j : Nat) (u6 u7 : AV), st = ⟨[.ro prS (l.map prA), .ro (.arr 32 .leaf) (ss.map sdA), .ro .leaf (c.map .bool), .bool false, .int j, .bool false, u6, u7], H⟩ ∧ k = l.length - j ∧ j ≤ l.length ∧
    ∀ t, t < j → ss.getD t [] = wnt l c.length (bfn c) t
set_option maxHeartbeats 2000000 in
theorem f19 {K : AV → Heap → Prop} {H : Heap} {B : AV} {l : List Pr} {ss : List (List (BitVec 8))} {c : List Bool} (hB : isS B ss) (hl : l.length ≤ 1000) (hs : ss.length ≤ 1000) (hok : ∀ p ∈ l, p.ok) (hsk : ∀ s ∈ ss, s.length = 32) (h : K (.bool (chs l ss c.length (bfn c))) H) : wpF P G 19 [.ro prS (l.map prA), B, .ro .leaf (c.map .bool)] H K := by
  refine wpF_go c19 rfl 4 ?_
  intro ha hb
  simp only [s19]
  clear ha hb
  have ll : (l.map prA).length = l.length := by simp
  have ls : (ss.map sdA).length = ss.length := by simp
  have lc : (c.map AV.bool).length = c.length := by simp
  by_cases h1 : l.length = ss.length
  rotate_left
  · rw [chs_1 h1] at h
    rcases hB with rfl | ⟨rfl, rfl⟩
    · have e1 : ((l.length : Int) = (ss.length : Int)) = False := by simp only [eq_iff_iff, iff_false]; omega
      (refine gw4 @ll @ls @lc @e1 ?_; try exact True.intro)
      exact h
    · have e1 : ((l.length : Int) = 0) = False := by simp only [eq_iff_iff, iff_false]; simp only [List.length_nil] at h1; omega
      (refine gw4 @ll @ls @lc @e1 ?_; try exact True.intro)
      exact h
  have e1 : ((l.length : Int) = (ss.length : Int)) = True := by simp only [eq_iff_iff, iff_true]; omega
  by_cases h2 : ss.length = c.length
  rotate_left
  · rw [chs_2 h2] at h
    rcases hB with rfl | ⟨rfl, rfl⟩
    · have e2 : ((ss.length : Int) = (c.length : Int)) = False := by simp only [eq_iff_iff, iff_false]; omega
      (refine gw5 @ll @ls @lc @e1 @e2 ?_; try exact True.intro)
      exact h
    · have e1' : ((l.length : Int) = 0) = True := by simp only [eq_iff_iff, iff_true]; simp only [List.length_nil] at h1; omega
      have e2 : ((0 : Int) = (c.length : Int)) = False := by simp only [eq_iff_iff, iff_false]; simp only [List.length_nil] at h2; omega
      (refine gw5 @ll @ls @lc @e1' @e2 ?_; try exact True.intro)
      exact h
  have e2 : ((ss.length : Int) = (c.length : Int)) = True := by simp only [eq_iff_iff, iff_true]; omega
  rcases hB with rfl | ⟨rfl, rfl⟩
  rotate_left
  · have hl0 : l = [] := List.length_eq_zero_iff.1 h1
    have hc0 : c = [] := List.length_eq_zero_iff.1 h2.symm
    subst hl0
    subst hc0
    have ht : chs [] [] ([] : List Bool).length (bfn []) = true := chs_t rfl rfl (fun j hj => absurd hj (Nat.not_lt_zero j))
    rw [ht] at h
    simp only [List.map_nil]
    (refine gw0 ?_; try exact True.intro)
    refine wp_unroll 1 ?_
    (refine gw0 ?_; try exact True.intro)
    exact h
  (refine gw5 @ll @ls @lc @e1 @e2 ?_; try exact True.intro)
  refine wp_inv (I19 l ss c H) l.length ⟨0, _, _, rfl, rfl, Nat.zero_le _, fun t ht => absurd ht (Nat.not_lt_zero t)⟩ ?_
  rintro k st ⟨j, u6, u7, rfl, rfl, hj, hall⟩
  by_cases hjl : j < l.length
  · have e3 : ((j : Int) < (l.length : Int)) = True := by simp only [eq_iff_iff, iff_true]; omega
    have e4 : ((j : Int) < (ss.length : Int)) = True := by simp only [eq_iff_iff, iff_true]; omega
    have e5 : ((j : Int) < (c.length : Int)) = True := by simp only [eq_iff_iff, iff_true]; omega
    have gp := ld_pr hjl
    obtain ⟨hz, ho⟩ := pr_ok hok hjl
    have gs := ld_sd (ss := ss) (i := j) (by omega)
    have hsl := sd_ok (ss := ss) hsk (i := j) (by omega)
    have gc := ld_bfn (l := c) (i := j) (by omega)
    have hcut : cut c.length (bfn c) j = bfn c j := by unfold cut; rw [decide_eq_true (by omega), Bool.true_and]
    have hk1 := m8_kind (d := ss.getD j [])
    cases hf : bfn c j with
    | false =>
      have hw : wnt l c.length (bfn c) j = (l.getD j prD).z := by unfold wnt; rw [hcut, hf]; rfl
      have hk2 := m8_kind (d := (l.getD j prD).z)
      rw [hf] at gc
      by_cases he : ss.getD j [] = (l.getD j prD).z
      · have hne : ((ss.getD j []).map AV.u8 = (l.getD j prD).z.map AV.u8) = True := by rw [m8_eq]; exact eq_true he
        (refine gw13 @gs @hsl @hz @ho @gp @ls @ll @lc @gc @e3 @e4 @e5 @hne ?_; try exact True.intro)
        refine ⟨hk1, hk2, ?_⟩
        (repeat (refine And.intro (by omega) ?_))
        refine ⟨l.length - (j + 1), by omega, j + 1, _, _, rfl, rfl, by omega, fun t ht => ?_⟩
        by_cases htj : t = j
        · rw [htj, hw, he]
        · exact hall t (by omega)
      · have hne : ((ss.getD j []).map AV.u8 = (l.getD j prD).z.map AV.u8) = False := by rw [m8_eq]; exact eq_false he
        rw [chs_3 hjl (by rw [hw]; exact he)] at h
        (refine gw13 @gs @hsl @hz @ho @gp @ls @ll @lc @gc @e3 @e4 @e5 @hne ?_; try exact True.intro)
        exact ⟨hk1, hk2, h⟩
    | true =>
      have hw : wnt l c.length (bfn c) j = (l.getD j prD).o := by unfold wnt; rw [hcut, hf]; rfl
      have hk2 := m8_kind (d := (l.getD j prD).o)
      rw [hf] at gc
      by_cases he : ss.getD j [] = (l.getD j prD).o
      · have hne : ((ss.getD j []).map AV.u8 = (l.getD j prD).o.map AV.u8) = True := by rw [m8_eq]; exact eq_true he
        (refine gw13 @gs @hsl @hz @ho @gp @ls @ll @lc @gc @e3 @e4 @e5 @hne ?_; try exact True.intro)
        refine ⟨hk1, hk2, ?_⟩
        (repeat (refine And.intro (by omega) ?_))
        refine ⟨l.length - (j + 1), by omega, j + 1, _, _, rfl, rfl, by omega, fun t ht => ?_⟩
        by_cases htj : t = j
        · rw [htj, hw, he]
        · exact hall t (by omega)
      · have hne : ((ss.getD j []).map AV.u8 = (l.getD j prD).o.map AV.u8) = False := by rw [m8_eq]; exact eq_false he
        rw [chs_3 hjl (by rw [hw]; exact he)] at h
        (refine gw13 @gs @hsl @hz @ho @gp @ls @ll @lc @gc @e3 @e4 @e5 @hne ?_; try exact True.intro)
        exact ⟨hk1, hk2, h⟩
  · have e3 : ((j : Int) < (l.length : Int)) = False := by simp only [eq_iff_iff, iff_false]; omega
    rw [chs_t h1 h2 (fun t ht => hall t (by omega))] at h
    (refine gw2 @e3 @ll ?_; try exact True.intro)
    exact h
end Go.Proofs.YtjilenmngokhpaaDoor

end
