/-
  Layer 2 (bits), as the seat of layers 17 and 19 has it.
-/
import Derived.Test.YtjilenmngokhpaaYr
import Derived.Test.YtjilenmngokhpaaBm
import Derived.Test.YtjilenmngokhpaaBp
import Derived.Test.YtjilenmngokhpaaV38
import Derived.Test.YtjilenmngokhpaaV44
section
open Go Go.V
namespace Go.Proofs.Ytjilenmngokhpaa
set_option maxRecDepth 100000
set_option linter.unusedSimpArgs false
set_option linter.unusedVariables false
/-- trefoil/trefoilref02.Nums (0:a, 1:b, 4:, 5:i, 10:, 14:, 25:) -/
def s15 : FnS := ⟨26, [0, 1, 4, 5, 10, 14, 25],
    (.seq (.reg [⟨.var 2, (.q .mv), [.c (.bool false)], none⟩])
    (.seq (.seq (.reg [⟨.new, (.q .mv), [.t 0], none⟩,
      ⟨.new, (.q .len), [.t 7], none⟩,
      ⟨.new, (.q .mv), [.t 1], none⟩,
      ⟨.new, (.q .len), [.t 9], none⟩,
      ⟨.var 4, (.q (.bin .neq)), [.t 8, .t 10], none⟩])
    (.cond (.t 4) (.seq (.reg [⟨.var 2, (.q .mv), [.c (.bool false)], none⟩])
    .ret)
    .skip))
    (.seq (.seq (.reg [⟨.var 3, (.q .mv), [.c (.int 0)], none⟩])
    (.block 0 (.loop (.seq (.seq (.reg [⟨.new, (.q .mv), [.t 3], none⟩,
      ⟨.new, (.q .mv), [.t 0], none⟩,
      ⟨.new, (.q .len), [.t 8], none⟩,
      ⟨.var 5, (.q (.bin .lss)), [.t 7, .t 9], none⟩])
    (.cond (.t 5) .skip
    (.exit 0)))
    (.seq (.block 1 (.seq (.draw [⟨.new, (.q .mv), [.t 0], none⟩,
      ⟨.new, (.q .mv), [.t 3], none⟩,
      ⟨.new, (.q (.iaS .leaf)), [.t 7, .t 8], none⟩,
      ⟨.new, (.q (.ld .leaf)), [.t 9], none⟩,
      ⟨.new, (.q .mv), [.t 1], none⟩,
      ⟨.new, (.q .mv), [.t 3], none⟩,
      ⟨.new, (.q (.iaS .leaf)), [.t 11, .t 12], none⟩,
      ⟨.new, (.q (.ld .leaf)), [.t 13], none⟩,
      ⟨.var 6, (.q (.bin .neq)), [.t 10, .t 14], none⟩])
    (.cond (.t 6) (.seq (.reg [⟨.var 2, (.q .mv), [.c (.bool false)], none⟩])
    .ret)
    .skip)))
    (.reg [⟨.new, (.q .mv), [.t 3], none⟩,
      ⟨.new, (.q (.bin .add)), [.t 7, .c (.int 1)], none⟩,
      ⟨.var 3, (.q .mv), [.t 8], none⟩]))))))
    (.seq (.reg [⟨.var 2, (.q .mv), [.c (.bool true)], none⟩])
    .ret)))),
    [.t 2]⟩

/-- trefoil/bits.Of (0:l, 2:, 3:, 4:v, 5:e, 6:i, 7:b, 15:, 18:, 19:, 20:, 21:, 25:) -/
def s16 : FnS := ⟨40, [0, 2, 3, 4, 5, 6, 7, 15, 18, 19, 20, 21, 25],
    (.seq (.reg [⟨.var 1, (.e (.alloc 37 (.st [.leaf, .leaf]) (.agg [(.int 0), .nils]))), [], none⟩,
      ⟨.var 2, (.q .mv), [.c (.int 0)], none⟩])
    (.seq (.reg [⟨.new, (.q .mv), [.t 0], none⟩,
      ⟨.new, (.q .len), [.t 13], none⟩,
      ⟨.new, (.call 45), [.t 14], none⟩,
      ⟨.new, (.q .mv), [.t 15], none⟩,
      ⟨.new, (.q (.ext 0)), [.t 16], none⟩,
      ⟨.new, (.q (.ext 1)), [.t 16], none⟩,
      ⟨.var 3, (.e (.alloc 37 (.st [.leaf, .leaf]) (.agg [(.int 0), .nils]))), [], none⟩,
      ⟨.none, (.e (.store (.st [.leaf, .leaf]))), [.t 3, .t 17], none⟩,
      ⟨.var 4, (.q .mv), [.t 18], none⟩])
    (.seq (.seq (.reg [⟨.new, (.q .mv), [.t 4], none⟩,
      ⟨.var 7, (.q (.bin .neq)), [.t 13, .c (.int 0)], none⟩])
    (.cond (.t 7) (.seq (.reg [⟨.new, (.e (.bld (.st [.leaf, .leaf]) (.agg [(.int 0), .nils]) [])), [], none⟩,
      ⟨.new, (.q .mv), [.t 4], none⟩,
      ⟨.none, (.e (.store (.st [.leaf, .leaf]))), [.t 1, .t 13], none⟩,
      ⟨.var 2, (.q .mv), [.t 14], none⟩])
    .ret)
    .skip))
    (.seq (.seq (.reg [⟨.var 8, (.q .mv), [.t 0], none⟩,
      ⟨.var 9, (.q .len), [.t 8], none⟩,
      ⟨.var 10, (.q .mv), [.c (.int 0)], none⟩])
    (.block 0 (.loop (.seq (.reg [⟨.var 11, (.q (.bin .lss)), [.t 10, .t 9], none⟩])
    (.seq (.cond (.t 11) .skip
    (.exit 0))
    (.seq (.block 1 (.seq (.reg [⟨.new, (.q .mv), [.t 10], none⟩,
      ⟨.new, (.q (.iaS .leaf)), [.t 8, .t 10], none⟩,
      ⟨.new, (.q (.ld .leaf)), [.t 14], none⟩,
      ⟨.var 5, (.q .mv), [.t 13], none⟩,
      ⟨.var 6, (.q .mv), [.t 15], none⟩])
    (.seq (.reg [⟨.var 12, (.q .mv), [.t 6], none⟩])
    (.cond (.t 12) (.reg [⟨.new, (.q (.fa [.leaf, .leaf] 1)), [.t 3], none⟩,
      ⟨.new, (.q (.ld .leaf)), [.t 13], none⟩,
      ⟨.new, (.q .mv), [.t 5], none⟩,
      ⟨.new, (.q (.bin .quo)), [.t 15, .c (.int 64)], none⟩,
      ⟨.new, (.q (.iaS .leaf)), [.t 14, .t 16], none⟩,
      ⟨.new, (.q (.ld .leaf)), [.t 17], none⟩,
      ⟨.new, (.q .mv), [.t 5], none⟩,
      ⟨.new, (.q (.bin .rem)), [.t 19, .c (.int 64)], none⟩,
      ⟨.new, (.q (.cv .u64)), [.t 20], none⟩,
      ⟨.new, (.q (.bin .shl)), [.c (.u64 1), .t 21], none⟩,
      ⟨.new, (.q (.bin .or)), [.t 18, .t 22], none⟩,
      ⟨.new, (.q (.iaS .leaf)), [.t 14, .t 16], none⟩,
      ⟨.none, (.e (.store .leaf)), [.t 24, .t 23], none⟩])
    .skip))))
    (.reg [⟨.new, (.q (.bin .add)), [.t 10, .c (.int 1)], none⟩,
      ⟨.var 10, (.q .mv), [.t 13], none⟩])))))))
    (.seq (.reg [⟨.new, (.q (.ld (.st [.leaf, .leaf]))), [.t 3], none⟩,
      ⟨.none, (.e (.store (.st [.leaf, .leaf]))), [.t 1, .t 13], none⟩,
      ⟨.var 2, (.q .mv), [.c (.int 0)], none⟩])
    .ret))))),
    [.cell 1 (.st [.leaf, .leaf]), .t 2]⟩

/-- trefoil/trefoilref02.Same (0:a, 1:b, 4:, 5:i, 10:, 14:, 25:) -/
def s29 : FnS := ⟨26, [0, 1, 4, 5, 10, 14, 25],
    (.seq (.reg [⟨.var 2, (.q .mv), [.c (.bool false)], none⟩])
    (.seq (.seq (.reg [⟨.new, (.q .mv), [.t 0], none⟩,
      ⟨.new, (.q .len), [.t 7], none⟩,
      ⟨.new, (.q .mv), [.t 1], none⟩,
      ⟨.new, (.q .len), [.t 9], none⟩,
      ⟨.var 4, (.q (.bin .neq)), [.t 8, .t 10], none⟩])
    (.cond (.t 4) (.seq (.reg [⟨.var 2, (.q .mv), [.c (.bool false)], none⟩])
    .ret)
    .skip))
    (.seq (.seq (.reg [⟨.var 3, (.q .mv), [.c (.int 0)], none⟩])
    (.block 0 (.loop (.seq (.seq (.reg [⟨.new, (.q .mv), [.t 3], none⟩,
      ⟨.new, (.q .mv), [.t 0], none⟩,
      ⟨.new, (.q .len), [.t 8], none⟩,
      ⟨.var 5, (.q (.bin .lss)), [.t 7, .t 9], none⟩])
    (.cond (.t 5) .skip
    (.exit 0)))
    (.seq (.block 1 (.seq (.draw [⟨.new, (.q .mv), [.t 0], none⟩,
      ⟨.new, (.q .mv), [.t 3], none⟩,
      ⟨.new, (.q (.iaS .leaf)), [.t 7, .t 8], none⟩,
      ⟨.new, (.q (.ld .leaf)), [.t 9], none⟩,
      ⟨.new, (.q .mv), [.t 1], none⟩,
      ⟨.new, (.q .mv), [.t 3], none⟩,
      ⟨.new, (.q (.iaS .leaf)), [.t 11, .t 12], none⟩,
      ⟨.new, (.q (.ld .leaf)), [.t 13], none⟩,
      ⟨.var 6, (.q (.eqB true)), [.t 10, .t 14], none⟩])
    (.cond (.t 6) (.seq (.reg [⟨.var 2, (.q .mv), [.c (.bool false)], none⟩])
    .ret)
    .skip)))
    (.reg [⟨.new, (.q .mv), [.t 3], none⟩,
      ⟨.new, (.q (.bin .add)), [.t 7, .c (.int 1)], none⟩,
      ⟨.var 3, (.q .mv), [.t 8], none⟩]))))))
    (.seq (.reg [⟨.var 2, (.q .mv), [.c (.bool true)], none⟩])
    .ret)))),
    [.t 2]⟩

/-- (trefoil/bits.Vec).Bools (0:v, 1:v, 2:, 3:l, 4:i, 9:, 10:, 11:) -/
def s30 : FnS := ⟨21, [0, 1, 2, 3, 4, 9, 10, 11],
    (.seq (.reg [⟨.var 1, (.e (.box 37 (.st [.leaf, .leaf]))), [.t 0], none⟩,
      ⟨.var 2, (.q .mv), [.c .nils], none⟩])
    (.seq (.reg [⟨.new, (.q (.fa [.leaf, .leaf] 0)), [.t 1], none⟩,
      ⟨.new, (.q (.ld .leaf)), [.t 8], none⟩,
      ⟨.new, (.e (.mksl 4 .leaf 1 (.bool false))), [.t 9, .t 9], none⟩,
      ⟨.var 3, (.q .mv), [.t 10], none⟩])
    (.seq (.seq (.reg [⟨.new, (.q .mv), [.t 3], none⟩,
      ⟨.var 5, (.q .len), [.t 8], none⟩,
      ⟨.var 6, (.q .mv), [.c (.int 0)], none⟩])
    (.block 0 (.loop (.seq (.reg [⟨.var 7, (.q (.bin .lss)), [.t 6, .t 5], none⟩])
    (.seq (.cond (.t 7) .skip
    (.exit 0))
    (.seq (.block 1 (.seq (.reg [⟨.new, (.q .mv), [.t 6], none⟩,
      ⟨.var 4, (.q .mv), [.t 8], none⟩])
    (.reg [⟨.new, (.q .mv), [.t 3], none⟩,
      ⟨.new, (.q .mv), [.t 4], none⟩,
      ⟨.new, (.q (.ld (.st [.leaf, .leaf]))), [.t 1], none⟩,
      ⟨.new, (.q .mv), [.t 4], none⟩,
      ⟨.new, (.call 47), [.t 10, .t 11], none⟩,
      ⟨.new, (.q (.iaS .leaf)), [.t 8, .t 9], none⟩,
      ⟨.none, (.e (.store .leaf)), [.t 13, .t 12], none⟩])))
    (.reg [⟨.new, (.q (.bin .add)), [.t 6, .c (.int 1)], none⟩,
      ⟨.var 6, (.q .mv), [.t 8], none⟩])))))))
    (.seq (.reg [⟨.new, (.q .mv), [.t 3], none⟩,
      ⟨.var 2, (.q .mv), [.t 8], none⟩])
    .ret)))),
    [.t 2]⟩

/-- (trefoil/bits.Vec).Not (0:v, 1:v, 2:, 3:out, 4:i, 5:x, 14:, 15:, 16:, 17:) -/
def s34 : FnS := ⟨31, [0, 1, 2, 3, 4, 5, 14, 15, 16, 17],
    (.seq (.reg [⟨.var 1, (.e (.box 37 (.st [.leaf, .leaf]))), [.t 0], none⟩,
      ⟨.var 2, (.e (.alloc 37 (.st [.leaf, .leaf]) (.agg [(.int 0), .nils]))), [], none⟩])
    (.seq (.draw [⟨.new, (.q (.fa [.leaf, .leaf] 0)), [.t 1], none⟩,
      ⟨.new, (.q (.ld .leaf)), [.t 10], none⟩,
      ⟨.new, (.q (.fa [.leaf, .leaf] 1)), [.t 1], none⟩,
      ⟨.new, (.q (.ld .leaf)), [.t 12], none⟩,
      ⟨.new, (.q .len), [.t 13], none⟩,
      ⟨.new, (.e (.mksl 49 .leaf 8 (.u64 0))), [.t 14, .t 14], none⟩,
      ⟨.new, (.e (.bld (.st [.leaf, .leaf]) (.agg [(.int 0), .nils]) [0, 1])), [.t 11, .t 15], none⟩,
      ⟨.var 3, (.e (.alloc 37 (.st [.leaf, .leaf]) (.agg [(.int 0), .nils]))), [], none⟩,
      ⟨.none, (.e (.store (.st [.leaf, .leaf]))), [.t 3, .t 16], none⟩])
    (.seq (.seq (.reg [⟨.new, (.q (.fa [.leaf, .leaf] 1)), [.t 1], none⟩,
      ⟨.var 6, (.q (.ld .leaf)), [.t 10], none⟩,
      ⟨.var 7, (.q .len), [.t 6], none⟩,
      ⟨.var 8, (.q .mv), [.c (.int 0)], none⟩])
    (.block 0 (.loop (.seq (.reg [⟨.var 9, (.q (.bin .lss)), [.t 8, .t 7], none⟩])
    (.seq (.cond (.t 9) .skip
    (.exit 0))
    (.seq (.block 1 (.seq (.reg [⟨.new, (.q .mv), [.t 8], none⟩,
      ⟨.new, (.q (.iaS .leaf)), [.t 6, .t 8], none⟩,
      ⟨.new, (.q (.ld .leaf)), [.t 11], none⟩,
      ⟨.var 4, (.q .mv), [.t 10], none⟩,
      ⟨.var 5, (.q .mv), [.t 12], none⟩])
    (.reg [⟨.new, (.q (.fa [.leaf, .leaf] 1)), [.t 3], none⟩,
      ⟨.new, (.q (.ld .leaf)), [.t 10], none⟩,
      ⟨.new, (.q .mv), [.t 4], none⟩,
      ⟨.new, (.q .mv), [.t 5], none⟩,
      ⟨.new, (.q (.un .xor)), [.t 13], none⟩,
      ⟨.new, (.q (.iaS .leaf)), [.t 11, .t 12], none⟩,
      ⟨.none, (.e (.store .leaf)), [.t 15, .t 14], none⟩])))
    (.reg [⟨.new, (.q (.bin .add)), [.t 8, .c (.int 1)], none⟩,
      ⟨.var 8, (.q .mv), [.t 10], none⟩])))))))
    (.seq (.reg [⟨.new, (.q (.ld (.st [.leaf, .leaf]))), [.t 3], none⟩,
      ⟨.new, (.call 62), [.t 10], none⟩])
    (.seq (.reg [⟨.new, (.q (.ld (.st [.leaf, .leaf]))), [.t 3], none⟩,
      ⟨.none, (.e (.store (.st [.leaf, .leaf]))), [.t 2, .t 10], none⟩])
    .ret))))),
    [.cell 2 (.st [.leaf, .leaf])]⟩

/-- trefoil/bits.New (0:n, 2:, 3:, 9:) -/
def s45 : FnS := ⟨16, [0, 2, 3, 9],
    (.seq (.reg [⟨.var 1, (.e (.alloc 37 (.st [.leaf, .leaf]) (.agg [(.int 0), .nils]))), [], none⟩,
      ⟨.var 2, (.q .mv), [.c (.int 0)], none⟩])
    (.seq (.seq (.reg [⟨.new, (.q .mv), [.t 0], none⟩,
      ⟨.new, (.q (.bin .lss)), [.t 4, .c (.int 0)], none⟩,
      ⟨.new, (.q .mv), [.t 5], none⟩,
      ⟨.new, (.q .mv), [.t 0], (some (6, false))⟩,
      ⟨.new, (.q (.bin .gtr)), [.t 7, .c (.int 4194304)], (some (6, false))⟩,
      ⟨.var 3, (.q .pick), [.t 6, .c (.bool true), .t 8], none⟩])
    (.cond (.t 3) (.seq (.reg [⟨.new, (.e (.bld (.st [.leaf, .leaf]) (.agg [(.int 0), .nils]) [])), [], none⟩,
      ⟨.none, (.e (.store (.st [.leaf, .leaf]))), [.t 1, .t 4], none⟩,
      ⟨.var 2, (.q .mv), [.c (.int 2)], none⟩])
    .ret)
    .skip))
    (.seq (.reg [⟨.new, (.q .mv), [.t 0], none⟩,
      ⟨.new, (.q .mv), [.t 0], none⟩,
      ⟨.new, (.call 70), [.t 5], none⟩,
      ⟨.new, (.e (.mksl 49 .leaf 8 (.u64 0))), [.t 6, .t 6], none⟩,
      ⟨.new, (.e (.bld (.st [.leaf, .leaf]) (.agg [(.int 0), .nils]) [0, 1])), [.t 4, .t 7], none⟩,
      ⟨.none, (.e (.store (.st [.leaf, .leaf]))), [.t 1, .t 8], none⟩,
      ⟨.var 2, (.q .mv), [.c (.int 0)], none⟩])
    .ret))),
    [.cell 1 (.st [.leaf, .leaf]), .t 2]⟩

/-- (trefoil/bits.Vec).Len (0:v, 1:v, 2:) -/
def s46 : FnS := ⟨5, [0, 1, 2],
    (.seq (.reg [⟨.var 1, (.e (.box 37 (.st [.leaf, .leaf]))), [.t 0], none⟩,
      ⟨.var 2, (.q .mv), [.c (.int 0)], none⟩])
    (.seq (.reg [⟨.new, (.q (.fa [.leaf, .leaf] 0)), [.t 1], none⟩,
      ⟨.new, (.q (.ld .leaf)), [.t 3], none⟩,
      ⟨.var 2, (.q .mv), [.t 4], none⟩])
    .ret)),
    [.t 2]⟩

/-- (trefoil/bits.Vec).Get (0:v, 1:i, 2:v, 4:, 12:) -/
def s47 : FnS := ⟨25, [0, 1, 2, 4, 12],
    (.seq (.reg [⟨.var 2, (.e (.box 37 (.st [.leaf, .leaf]))), [.t 0], none⟩,
      ⟨.var 3, (.q .mv), [.c (.bool false)], none⟩])
    (.seq (.seq (.reg [⟨.new, (.q .mv), [.t 1], none⟩,
      ⟨.new, (.q (.bin .lss)), [.t 5, .c (.int 0)], none⟩,
      ⟨.new, (.q .mv), [.t 6], none⟩,
      ⟨.new, (.q .mv), [.t 1], (some (7, false))⟩,
      ⟨.new, (.q (.fa [.leaf, .leaf] 0)), [.t 2], (some (7, false))⟩,
      ⟨.new, (.q (.ld .leaf)), [.t 9], (some (7, false))⟩,
      ⟨.new, (.q (.bin .geq)), [.t 8, .t 10], (some (7, false))⟩,
      ⟨.var 4, (.q .pick), [.t 7, .c (.bool true), .t 11], none⟩])
    (.cond (.t 4) (.seq (.reg [⟨.var 3, (.q .mv), [.c (.bool false)], none⟩])
    .ret)
    .skip))
    (.seq (.reg [⟨.new, (.q (.fa [.leaf, .leaf] 1)), [.t 2], none⟩,
      ⟨.new, (.q (.ld .leaf)), [.t 5], none⟩,
      ⟨.new, (.q .mv), [.t 1], none⟩,
      ⟨.new, (.q (.bin .quo)), [.t 7, .c (.int 64)], none⟩,
      ⟨.new, (.q (.iaS .leaf)), [.t 6, .t 8], none⟩,
      ⟨.new, (.q (.ld .leaf)), [.t 9], none⟩,
      ⟨.new, (.q .mv), [.t 1], none⟩,
      ⟨.new, (.q (.bin .rem)), [.t 11, .c (.int 64)], none⟩,
      ⟨.new, (.q (.cv .u64)), [.t 12], none⟩,
      ⟨.new, (.q (.bin .shr)), [.t 10, .t 13], none⟩,
      ⟨.new, (.q (.bin .and)), [.t 14, .c (.u64 1)], none⟩,
      ⟨.new, (.q (.bin .eql)), [.t 15, .c (.u64 1)], none⟩,
      ⟨.var 3, (.q .mv), [.t 16], none⟩])
    .ret))),
    [.t 3]⟩

/-- trefoil/bits.Xor (0:a, 1:b, 2:a, 3:b, 4:, 5:) -/
def s55 : FnS := ⟨11, [0, 1, 2, 3, 4, 5],
    (.seq (.reg [⟨.var 2, (.e (.box 37 (.st [.leaf, .leaf]))), [.t 0], none⟩,
      ⟨.var 3, (.e (.box 37 (.st [.leaf, .leaf]))), [.t 1], none⟩,
      ⟨.var 4, (.e (.alloc 37 (.st [.leaf, .leaf]) (.agg [(.int 0), .nils]))), [], none⟩,
      ⟨.var 5, (.q .mv), [.c (.int 0)], none⟩])
    (.seq (.reg [⟨.new, (.q (.ld (.st [.leaf, .leaf]))), [.t 2], none⟩,
      ⟨.new, (.q (.ld (.st [.leaf, .leaf]))), [.t 3], none⟩,
      ⟨.new, (.call 76), [.t 6, .t 7, .c (.fn 77 [])], none⟩,
      ⟨.new, (.q (.ext 0)), [.t 8], none⟩,
      ⟨.new, (.q (.ext 1)), [.t 8], none⟩,
      ⟨.none, (.e (.store (.st [.leaf, .leaf]))), [.t 4, .t 9], none⟩,
      ⟨.var 5, (.q .mv), [.t 10], none⟩])
    .ret)),
    [.cell 4 (.st [.leaf, .leaf]), .t 5]⟩

/-- (trefoil/bits.Vec).trim (0:v, 1:v, 2:r, 7:) -/
def s62 : FnS := ⟨22, [0, 1, 2, 7],
    (.seq (.reg [⟨.var 1, (.e (.box 37 (.st [.leaf, .leaf]))), [.t 0], none⟩])
    (.seq (.reg [⟨.new, (.q (.fa [.leaf, .leaf] 0)), [.t 1], none⟩,
      ⟨.new, (.q (.ld .leaf)), [.t 4], none⟩,
      ⟨.new, (.q (.bin .rem)), [.t 5, .c (.int 64)], none⟩,
      ⟨.var 2, (.q .mv), [.t 6], none⟩])
    (.seq (.reg [⟨.new, (.q .mv), [.t 2], none⟩,
      ⟨.var 3, (.q (.bin .neq)), [.t 4, .c (.int 0)], none⟩])
    (.cond (.t 3) (.reg [⟨.new, (.q (.fa [.leaf, .leaf] 1)), [.t 1], none⟩,
      ⟨.new, (.q (.ld .leaf)), [.t 4], none⟩,
      ⟨.new, (.q (.fa [.leaf, .leaf] 1)), [.t 1], none⟩,
      ⟨.new, (.q (.ld .leaf)), [.t 6], none⟩,
      ⟨.new, (.q .len), [.t 7], none⟩,
      ⟨.new, (.q (.bin .sub)), [.t 8, .c (.int 1)], none⟩,
      ⟨.new, (.q (.iaS .leaf)), [.t 5, .t 9], none⟩,
      ⟨.new, (.q (.ld .leaf)), [.t 10], none⟩,
      ⟨.new, (.q .mv), [.t 2], none⟩,
      ⟨.new, (.q (.cv .u64)), [.t 12], none⟩,
      ⟨.new, (.q (.bin .shl)), [.c (.u64 1), .t 13], none⟩,
      ⟨.new, (.q (.bin .sub)), [.t 14, .c (.u64 1)], none⟩,
      ⟨.new, (.q (.bin .and)), [.t 11, .t 15], none⟩,
      ⟨.new, (.q (.iaS .leaf)), [.t 5, .t 9], none⟩,
      ⟨.none, (.e (.store .leaf)), [.t 17, .t 16], none⟩])
    .skip)))),
    []⟩

/-- trefoil/bits.words (0:n, 2:) -/
def s70 : FnS := ⟨6, [0, 2],
    (.seq (.reg [⟨.var 1, (.q .mv), [.c (.int 0)], none⟩])
    (.seq (.reg [⟨.new, (.q .mv), [.t 0], none⟩,
      ⟨.new, (.q (.bin .add)), [.t 2, .c (.int 63)], none⟩,
      ⟨.new, (.q (.bin .quo)), [.t 3, .c (.int 64)], none⟩,
      ⟨.var 1, (.q .mv), [.t 4], none⟩])
    .ret)),
    [.t 1]⟩

/-- trefoil/bits.zip (0:a, 1:b, 2:by, 3:a, 4:b, 6:, 7:, 8:out, 9:i, 14:, 25:, 26:, 27:) -/
def s76 : FnS := ⟨47, [0, 1, 2, 3, 4, 6, 7, 8, 9, 14, 25, 26, 27],
    (.seq (.reg [⟨.var 3, (.e (.box 37 (.st [.leaf, .leaf]))), [.t 0], none⟩,
      ⟨.var 4, (.e (.box 37 (.st [.leaf, .leaf]))), [.t 1], none⟩,
      ⟨.var 5, (.e (.alloc 37 (.st [.leaf, .leaf]) (.agg [(.int 0), .nils]))), [], none⟩,
      ⟨.var 6, (.q .mv), [.c (.int 0)], none⟩])
    (.seq (.seq (.reg [⟨.new, (.q (.fa [.leaf, .leaf] 0)), [.t 3], none⟩,
      ⟨.new, (.q (.ld .leaf)), [.t 13], none⟩,
      ⟨.new, (.q (.fa [.leaf, .leaf] 0)), [.t 4], none⟩,
      ⟨.new, (.q (.ld .leaf)), [.t 15], none⟩,
      ⟨.var 9, (.q (.bin .neq)), [.t 14, .t 16], none⟩])
    (.cond (.t 9) (.seq (.reg [⟨.new, (.e (.bld (.st [.leaf, .leaf]) (.agg [(.int 0), .nils]) [])), [], none⟩,
      ⟨.none, (.e (.store (.st [.leaf, .leaf]))), [.t 5, .t 13], none⟩,
      ⟨.var 6, (.q .mv), [.c (.int 11)], none⟩])
    .ret)
    .skip))
    (.seq (.draw [⟨.new, (.q (.fa [.leaf, .leaf] 0)), [.t 3], none⟩,
      ⟨.new, (.q (.ld .leaf)), [.t 13], none⟩,
      ⟨.new, (.q (.fa [.leaf, .leaf] 1)), [.t 3], none⟩,
      ⟨.new, (.q (.ld .leaf)), [.t 15], none⟩,
      ⟨.new, (.q .len), [.t 16], none⟩,
      ⟨.new, (.e (.mksl 49 .leaf 8 (.u64 0))), [.t 17, .t 17], none⟩,
      ⟨.new, (.e (.bld (.st [.leaf, .leaf]) (.agg [(.int 0), .nils]) [0, 1])), [.t 14, .t 18], none⟩,
      ⟨.var 7, (.e (.alloc 37 (.st [.leaf, .leaf]) (.agg [(.int 0), .nils]))), [], none⟩,
      ⟨.none, (.e (.store (.st [.leaf, .leaf]))), [.t 7, .t 19], none⟩])
    (.seq (.seq (.reg [⟨.new, (.q (.fa [.leaf, .leaf] 1)), [.t 7], none⟩,
      ⟨.new, (.q (.ld .leaf)), [.t 13], none⟩,
      ⟨.var 10, (.q .len), [.t 14], none⟩,
      ⟨.var 11, (.q .mv), [.c (.int 0)], none⟩])
    (.block 0 (.loop (.seq (.reg [⟨.var 12, (.q (.bin .lss)), [.t 11, .t 10], none⟩])
    (.seq (.cond (.t 12) .skip
    (.exit 0))
    (.seq (.block 1 (.seq (.reg [⟨.new, (.q .mv), [.t 11], none⟩,
      ⟨.var 8, (.q .mv), [.t 13], none⟩])
    (.draw [⟨.new, (.q (.fa [.leaf, .leaf] 1)), [.t 7], none⟩,
      ⟨.new, (.q (.ld .leaf)), [.t 13], none⟩,
      ⟨.new, (.q .mv), [.t 8], none⟩,
      ⟨.new, (.q .mv), [.t 2], none⟩,
      ⟨.new, (.q (.fa [.leaf, .leaf] 1)), [.t 3], none⟩,
      ⟨.new, (.q (.ld .leaf)), [.t 17], none⟩,
      ⟨.new, (.q .mv), [.t 8], none⟩,
      ⟨.new, (.q (.iaS .leaf)), [.t 18, .t 19], none⟩,
      ⟨.new, (.q (.ld .leaf)), [.t 20], none⟩,
      ⟨.new, (.q (.fa [.leaf, .leaf] 1)), [.t 4], none⟩,
      ⟨.new, (.q (.ld .leaf)), [.t 22], none⟩,
      ⟨.new, (.q .mv), [.t 8], none⟩,
      ⟨.new, (.q (.iaS .leaf)), [.t 23, .t 24], none⟩,
      ⟨.new, (.q (.ld .leaf)), [.t 25], none⟩,
      ⟨.new, .callv, [.t 16, .t 21, .t 26], none⟩,
      ⟨.new, (.q (.iaS .leaf)), [.t 14, .t 15], none⟩,
      ⟨.none, (.e (.store .leaf)), [.t 28, .t 27], none⟩])))
    (.reg [⟨.new, (.q (.bin .add)), [.t 11, .c (.int 1)], none⟩,
      ⟨.var 11, (.q .mv), [.t 13], none⟩])))))))
    (.seq (.reg [⟨.new, (.q (.ld (.st [.leaf, .leaf]))), [.t 7], none⟩,
      ⟨.none, (.e (.store (.st [.leaf, .leaf]))), [.t 5, .t 13], none⟩,
      ⟨.var 6, (.q .mv), [.c (.int 0)], none⟩])
    .ret))))),
    [.cell 5 (.st [.leaf, .leaf]), .t 6]⟩

/-- trefoil/bits.Xor$1 (0:x, 1:y, 4:) -/
def s77 : FnS := ⟨8, [0, 1, 4],
    (.seq (.reg [⟨.var 2, (.q .mv), [.c (.u64 0)], none⟩])
    (.seq (.reg [⟨.new, (.q .mv), [.t 0], none⟩,
      ⟨.new, (.q .mv), [.t 1], none⟩,
      ⟨.new, (.q (.bin .xor)), [.t 3, .t 4], none⟩,
      ⟨.var 2, (.q .mv), [.t 5], none⟩])
    .ret)),
    [.t 2]⟩

/-- (trefoil/bits.Vec).Raw (0:v, 1:v, 2:) -/
def s78 : FnS := ⟨6, [0, 1, 2],
    (.seq (.reg [⟨.var 1, (.e (.box 37 (.st [.leaf, .leaf]))), [.t 0], none⟩,
      ⟨.var 2, (.q .mv), [.c .nils], none⟩])
    (.seq (.reg [⟨.new, (.q (.fa [.leaf, .leaf] 1)), [.t 1], none⟩,
      ⟨.new, (.q (.ld .leaf)), [.t 3], none⟩,
      ⟨.new, (.call 89), [.t 4], none⟩,
      ⟨.var 2, (.q .mv), [.t 5], none⟩])
    .ret)),
    [.t 2]⟩

/-- trefoil/bits.Read (0:n, 1:s, 4:, 5:, 6:v, 7:e, 8:i, 9:r, 16:, 24:, 27:, 28:, 29:, 63:) -/
def s87 : FnS := ⟨66, [0, 1, 4, 5, 6, 7, 8, 9, 16, 24, 27, 28, 29, 63],
    (.seq (.reg [⟨.var 2, (.e (.alloc 37 (.st [.leaf, .leaf]) (.agg [(.int 0), .nils]))), [], none⟩,
      ⟨.var 3, (.q .mv), [.c (.int 0)], none⟩])
    (.seq (.reg [⟨.new, (.q .mv), [.t 0], none⟩,
      ⟨.new, (.call 45), [.t 14], none⟩,
      ⟨.new, (.q .mv), [.t 15], none⟩,
      ⟨.new, (.q (.ext 0)), [.t 16], none⟩,
      ⟨.new, (.q (.ext 1)), [.t 16], none⟩,
      ⟨.var 4, (.e (.alloc 37 (.st [.leaf, .leaf]) (.agg [(.int 0), .nils]))), [], none⟩,
      ⟨.none, (.e (.store (.st [.leaf, .leaf]))), [.t 4, .t 17], none⟩,
      ⟨.var 5, (.q .mv), [.t 18], none⟩])
    (.seq (.seq (.reg [⟨.new, (.q .mv), [.t 5], none⟩,
      ⟨.var 8, (.q (.bin .neq)), [.t 14, .c (.int 0)], none⟩])
    (.cond (.t 8) (.seq (.reg [⟨.new, (.e (.bld (.st [.leaf, .leaf]) (.agg [(.int 0), .nils]) [])), [], none⟩,
      ⟨.new, (.q .mv), [.t 5], none⟩,
      ⟨.none, (.e (.store (.st [.leaf, .leaf]))), [.t 2, .t 14], none⟩,
      ⟨.var 3, (.q .mv), [.t 15], none⟩])
    .ret)
    .skip))
    (.seq (.seq (.reg [⟨.new, (.q .mv), [.t 1], none⟩,
      ⟨.new, (.q .lenS), [.t 14], none⟩,
      ⟨.new, (.q .mv), [.t 0], none⟩,
      ⟨.new, (.q (.bin .add)), [.t 16, .c (.int 7)], none⟩,
      ⟨.new, (.q (.bin .quo)), [.t 17, .c (.int 8)], none⟩,
      ⟨.var 9, (.q (.bin .neq)), [.t 15, .t 18], none⟩])
    (.cond (.t 9) (.seq (.reg [⟨.new, (.e (.bld (.st [.leaf, .leaf]) (.agg [(.int 0), .nils]) [])), [], none⟩,
      ⟨.none, (.e (.store (.st [.leaf, .leaf]))), [.t 2, .t 14], none⟩,
      ⟨.var 3, (.q .mv), [.c (.int 11)], none⟩])
    .ret)
    .skip))
    (.seq (.seq (.reg [⟨.new, (.q .mv), [.t 1], none⟩,
      ⟨.var 10, (.q .lenS), [.t 14], none⟩,
      ⟨.var 11, (.q .mv), [.c (.int 0)], none⟩])
    (.block 0 (.loop (.seq (.reg [⟨.var 12, (.q (.bin .lss)), [.t 11, .t 10], none⟩])
    (.seq (.cond (.t 12) .skip
    (.exit 0))
    (.seq (.block 1 (.seq (.reg [⟨.new, (.q .mv), [.t 11], none⟩,
      ⟨.var 6, (.q .mv), [.t 14], none⟩])
    (.draw [⟨.new, (.q (.fa [.leaf, .leaf] 1)), [.t 4], none⟩,
      ⟨.new, (.q (.ld .leaf)), [.t 14], none⟩,
      ⟨.new, (.q .mv), [.t 6], none⟩,
      ⟨.new, (.q (.bin .quo)), [.t 16, .c (.int 8)], none⟩,
      ⟨.new, (.q (.iaS .leaf)), [.t 15, .t 17], none⟩,
      ⟨.new, (.q (.ld .leaf)), [.t 18], none⟩,
      ⟨.new, (.q .mv), [.t 1], none⟩,
      ⟨.new, (.q .mv), [.t 6], none⟩,
      ⟨.new, (.q .idxS), [.t 20, .t 21], none⟩,
      ⟨.new, (.q (.cv .u64)), [.t 22], none⟩,
      ⟨.new, (.q .mv), [.t 6], none⟩,
      ⟨.new, (.q (.bin .rem)), [.t 24, .c (.int 8)], none⟩,
      ⟨.new, (.q (.bin .mul)), [.c (.int 8), .t 25], none⟩,
      ⟨.new, (.q (.cv .u64)), [.t 26], none⟩,
      ⟨.new, (.q (.bin .shl)), [.t 23, .t 27], none⟩,
      ⟨.new, (.q (.bin .or)), [.t 19, .t 28], none⟩,
      ⟨.new, (.q (.iaS .leaf)), [.t 15, .t 17], none⟩,
      ⟨.none, (.e (.store .leaf)), [.t 30, .t 29], none⟩])))
    (.reg [⟨.new, (.q (.bin .add)), [.t 11, .c (.int 1)], none⟩,
      ⟨.var 11, (.q .mv), [.t 14], none⟩])))))))
    (.seq (.seq (.reg [⟨.new, (.q .mv), [.t 0], none⟩,
      ⟨.new, (.q (.bin .rem)), [.t 14, .c (.int 8)], none⟩,
      ⟨.var 7, (.q .mv), [.t 15], none⟩])
    (.seq (.reg [⟨.new, (.q .mv), [.t 7], none⟩,
      ⟨.new, (.q (.bin .neq)), [.t 14, .c (.int 0)], none⟩,
      ⟨.new, (.q .mv), [.t 15], none⟩,
      ⟨.new, (.q .mv), [.t 1], (some (16, true))⟩,
      ⟨.new, (.q .mv), [.t 1], (some (16, true))⟩,
      ⟨.new, (.q .lenS), [.t 18], (some (16, true))⟩,
      ⟨.new, (.q (.bin .sub)), [.t 19, .c (.int 1)], (some (16, true))⟩,
      ⟨.new, (.q .idxS), [.t 17, .t 20], (some (16, true))⟩,
      ⟨.new, (.q .mv), [.t 7], (some (16, true))⟩,
      ⟨.new, (.q (.cv .u64)), [.t 22], (some (16, true))⟩,
      ⟨.new, (.q (.bin .shr)), [.t 21, .t 23], (some (16, true))⟩,
      ⟨.new, (.q (.bin .neq)), [.t 24, .c (.u8 0)], (some (16, true))⟩,
      ⟨.var 13, (.q .pick), [.t 16, .t 25, .c (.bool false)], none⟩])
    (.cond (.t 13) (.seq (.reg [⟨.new, (.e (.bld (.st [.leaf, .leaf]) (.agg [(.int 0), .nils]) [])), [], none⟩,
      ⟨.none, (.e (.store (.st [.leaf, .leaf]))), [.t 2, .t 14], none⟩,
      ⟨.var 3, (.q .mv), [.c (.int 13)], none⟩])
    .ret)
    .skip)))
    (.seq (.reg [⟨.new, (.q (.ld (.st [.leaf, .leaf]))), [.t 4], none⟩,
      ⟨.none, (.e (.store (.st [.leaf, .leaf]))), [.t 2, .t 14], none⟩,
      ⟨.var 3, (.q .mv), [.c (.int 0)], none⟩])
    .ret))))))),
    [.cell 2 (.st [.leaf, .leaf]), .t 3]⟩

/-- (trefoil/bits.Vec).Part (0:v, 1:from, 2:to, 3:v, 6:, 7:, 8:out, 9:i, 22:, 35:, 36:, 37:) -/
def s88 : FnS := ⟨53, [0, 1, 2, 3, 6, 7, 8, 9, 22, 35, 36, 37],
    (.seq (.reg [⟨.var 3, (.e (.box 37 (.st [.leaf, .leaf]))), [.t 0], none⟩,
      ⟨.var 4, (.e (.alloc 37 (.st [.leaf, .leaf]) (.agg [(.int 0), .nils]))), [], none⟩,
      ⟨.var 5, (.q .mv), [.c (.int 0)], none⟩])
    (.seq (.seq (.reg [⟨.new, (.q .mv), [.t 1], none⟩,
      ⟨.new, (.q (.bin .lss)), [.t 12, .c (.int 0)], none⟩,
      ⟨.new, (.q .mv), [.t 13], none⟩,
      ⟨.new, (.q .mv), [.t 1], (some (14, false))⟩,
      ⟨.new, (.q .mv), [.t 2], (some (14, false))⟩,
      ⟨.new, (.q (.bin .gtr)), [.t 15, .t 16], (some (14, false))⟩,
      ⟨.new, (.q .pick), [.t 14, .c (.bool true), .t 17], none⟩,
      ⟨.new, (.q .mv), [.t 18], none⟩,
      ⟨.new, (.q .mv), [.t 2], (some (19, false))⟩,
      ⟨.new, (.q (.fa [.leaf, .leaf] 0)), [.t 3], (some (19, false))⟩,
      ⟨.new, (.q (.ld .leaf)), [.t 21], (some (19, false))⟩,
      ⟨.new, (.q (.bin .gtr)), [.t 20, .t 22], (some (19, false))⟩,
      ⟨.var 8, (.q .pick), [.t 19, .c (.bool true), .t 23], none⟩])
    (.cond (.t 8) (.seq (.reg [⟨.new, (.e (.bld (.st [.leaf, .leaf]) (.agg [(.int 0), .nils]) [])), [], none⟩,
      ⟨.none, (.e (.store (.st [.leaf, .leaf]))), [.t 4, .t 12], none⟩,
      ⟨.var 5, (.q .mv), [.c (.int 1)], none⟩])
    .ret)
    .skip))
    (.seq (.reg [⟨.new, (.q .mv), [.t 2], none⟩,
      ⟨.new, (.q .mv), [.t 1], none⟩,
      ⟨.new, (.q (.bin .sub)), [.t 12, .t 13], none⟩,
      ⟨.new, (.q .mv), [.t 2], none⟩,
      ⟨.new, (.q .mv), [.t 1], none⟩,
      ⟨.new, (.q (.bin .sub)), [.t 15, .t 16], none⟩,
      ⟨.new, (.call 70), [.t 17], none⟩,
      ⟨.new, (.e (.mksl 49 .leaf 8 (.u64 0))), [.t 18, .t 18], none⟩,
      ⟨.new, (.e (.bld (.st [.leaf, .leaf]) (.agg [(.int 0), .nils]) [0, 1])), [.t 14, .t 19], none⟩,
      ⟨.var 6, (.e (.alloc 37 (.st [.leaf, .leaf]) (.agg [(.int 0), .nils]))), [], none⟩,
      ⟨.none, (.e (.store (.st [.leaf, .leaf]))), [.t 6, .t 20], none⟩])
    (.seq (.seq (.reg [⟨.new, (.q (.fa [.leaf, .leaf] 1)), [.t 6], none⟩,
      ⟨.new, (.q (.ld .leaf)), [.t 12], none⟩,
      ⟨.var 9, (.q .len), [.t 13], none⟩,
      ⟨.var 10, (.q .mv), [.c (.int 0)], none⟩])
    (.block 0 (.loop (.seq (.reg [⟨.var 11, (.q (.bin .lss)), [.t 10, .t 9], none⟩])
    (.seq (.cond (.t 11) .skip
    (.exit 0))
    (.seq (.block 1 (.seq (.reg [⟨.new, (.q .mv), [.t 10], none⟩,
      ⟨.var 7, (.q .mv), [.t 12], none⟩])
    (.draw [⟨.new, (.q (.fa [.leaf, .leaf] 1)), [.t 6], none⟩,
      ⟨.new, (.q (.ld .leaf)), [.t 12], none⟩,
      ⟨.new, (.q .mv), [.t 7], none⟩,
      ⟨.new, (.q (.ld (.st [.leaf, .leaf]))), [.t 3], none⟩,
      ⟨.new, (.q .mv), [.t 1], none⟩,
      ⟨.new, (.q .mv), [.t 7], none⟩,
      ⟨.new, (.q (.bin .mul)), [.c (.int 64), .t 17], none⟩,
      ⟨.new, (.q (.bin .add)), [.t 16, .t 18], none⟩,
      ⟨.new, (.call 95), [.t 15, .t 19], none⟩,
      ⟨.new, (.q (.iaS .leaf)), [.t 13, .t 14], none⟩,
      ⟨.none, (.e (.store .leaf)), [.t 21, .t 20], none⟩])))
    (.reg [⟨.new, (.q (.bin .add)), [.t 10, .c (.int 1)], none⟩,
      ⟨.var 10, (.q .mv), [.t 12], none⟩])))))))
    (.seq (.reg [⟨.new, (.q (.ld (.st [.leaf, .leaf]))), [.t 6], none⟩,
      ⟨.new, (.call 62), [.t 12], none⟩])
    (.seq (.reg [⟨.new, (.q (.ld (.st [.leaf, .leaf]))), [.t 6], none⟩,
      ⟨.none, (.e (.store (.st [.leaf, .leaf]))), [.t 4, .t 12], none⟩,
      ⟨.var 5, (.q .mv), [.c (.int 0)], none⟩])
    .ret)))))),
    [.cell 4 (.st [.leaf, .leaf]), .t 5]⟩

/-- slices.Clone[[]uint64,uint64] (0:s, 2:, 4:) -/
def s89 : FnS := ⟨8, [0, 2, 4],
    (.seq (.reg [⟨.var 1, (.q .mv), [.c .nils], none⟩])
    (.seq (.seq (.reg [⟨.new, (.q .mv), [.t 0], none⟩,
      ⟨.var 2, (.nilq false), [.t 3], none⟩])
    (.cond (.t 2) (.seq (.reg [⟨.var 1, (.q .mv), [.c .nils], none⟩])
    .ret)
    .skip))
    (.seq (.reg [⟨.new, (.e (.bsl 49 .leaf (.u64 0) 0 [])), [], none⟩,
      ⟨.new, (.q .mv), [.t 0], none⟩,
      ⟨.new, (.e (.app 49 .leaf 8)), [.t 3, .t 4], none⟩,
      ⟨.var 1, (.q .mv), [.t 5], none⟩])
    .ret))),
    [.t 1]⟩

/-- (trefoil/bits.Vec).word (0:v, 1:at, 2:v, 4:, 5:i, 6:r, 7:x, 17:, 34:) -/
def s95 : FnS := ⟨47, [0, 1, 2, 4, 5, 6, 7, 17, 34],
    (.seq (.reg [⟨.var 2, (.e (.box 37 (.st [.leaf, .leaf]))), [.t 0], none⟩,
      ⟨.var 3, (.q .mv), [.c (.u64 0)], none⟩])
    (.seq (.reg [⟨.new, (.q .mv), [.t 1], none⟩,
      ⟨.new, (.q (.bin .quo)), [.t 9, .c (.int 64)], none⟩,
      ⟨.new, (.q .mv), [.t 1], none⟩,
      ⟨.new, (.q (.bin .rem)), [.t 11, .c (.int 64)], none⟩,
      ⟨.new, (.q (.cv .u64)), [.t 12], none⟩,
      ⟨.var 4, (.q .mv), [.t 10], none⟩,
      ⟨.var 5, (.q .mv), [.t 13], none⟩])
    (.seq (.reg [⟨.var 6, (.q .mv), [.c (.u64 0)], none⟩])
    (.seq (.seq (.reg [⟨.new, (.q .mv), [.t 4], none⟩,
      ⟨.new, (.q (.fa [.leaf, .leaf] 1)), [.t 2], none⟩,
      ⟨.new, (.q (.ld .leaf)), [.t 10], none⟩,
      ⟨.new, (.q .len), [.t 11], none⟩,
      ⟨.var 7, (.q (.bin .lss)), [.t 9, .t 12], none⟩])
    (.cond (.t 7) (.reg [⟨.new, (.q (.fa [.leaf, .leaf] 1)), [.t 2], none⟩,
      ⟨.new, (.q (.ld .leaf)), [.t 9], none⟩,
      ⟨.new, (.q .mv), [.t 4], none⟩,
      ⟨.new, (.q (.iaS .leaf)), [.t 10, .t 11], none⟩,
      ⟨.new, (.q (.ld .leaf)), [.t 12], none⟩,
      ⟨.new, (.q .mv), [.t 5], none⟩,
      ⟨.new, (.q (.bin .shr)), [.t 13, .t 14], none⟩,
      ⟨.var 6, (.q .mv), [.t 15], none⟩])
    .skip))
    (.seq (.seq (.reg [⟨.new, (.q .mv), [.t 5], none⟩,
      ⟨.new, (.q (.bin .gtr)), [.t 9, .c (.u64 0)], none⟩,
      ⟨.new, (.q .mv), [.t 10], none⟩,
      ⟨.new, (.q .mv), [.t 4], (some (11, true))⟩,
      ⟨.new, (.q (.bin .add)), [.t 12, .c (.int 1)], (some (11, true))⟩,
      ⟨.new, (.q (.fa [.leaf, .leaf] 1)), [.t 2], (some (11, true))⟩,
      ⟨.new, (.q (.ld .leaf)), [.t 14], (some (11, true))⟩,
      ⟨.new, (.q .len), [.t 15], (some (11, true))⟩,
      ⟨.new, (.q (.bin .lss)), [.t 13, .t 16], (some (11, true))⟩,
      ⟨.var 8, (.q .pick), [.t 11, .t 17, .c (.bool false)], none⟩])
    (.cond (.t 8) (.reg [⟨.new, (.q .mv), [.t 6], none⟩,
      ⟨.new, (.q (.fa [.leaf, .leaf] 1)), [.t 2], none⟩,
      ⟨.new, (.q (.ld .leaf)), [.t 10], none⟩,
      ⟨.new, (.q .mv), [.t 4], none⟩,
      ⟨.new, (.q (.bin .add)), [.t 12, .c (.int 1)], none⟩,
      ⟨.new, (.q (.iaS .leaf)), [.t 11, .t 13], none⟩,
      ⟨.new, (.q (.ld .leaf)), [.t 14], none⟩,
      ⟨.new, (.q .mv), [.t 5], none⟩,
      ⟨.new, (.q (.bin .sub)), [.c (.u64 64), .t 16], none⟩,
      ⟨.new, (.q (.bin .shl)), [.t 15, .t 17], none⟩,
      ⟨.new, (.q (.bin .or)), [.t 9, .t 18], none⟩,
      ⟨.var 6, (.q .mv), [.t 19], none⟩])
    .skip))
    (.seq (.reg [⟨.new, (.q .mv), [.t 6], none⟩,
      ⟨.var 3, (.q .mv), [.t 9], none⟩])
    .ret)))))),
    [.t 3]⟩

theorem c15 : cF P [] (drP P []) 15 2 s15.vm = some s15 := by kernel_rfl
theorem c16 : cF P [] (drP P []) 16 1 s16.vm = some s16 := by kernel_rfl
theorem c29 : cF P [] (drP P []) 29 2 s29.vm = some s29 := by kernel_rfl
theorem c30 : cF P [] (drP P []) 30 1 s30.vm = some s30 := by kernel_rfl
theorem c34 : cF P [] (drP P []) 34 1 s34.vm = some s34 := by kernel_rfl
theorem c45 : cF P [] (drP P []) 45 1 s45.vm = some s45 := by kernel_rfl
theorem c46 : cF P [] (drP P []) 46 1 s46.vm = some s46 := by kernel_rfl
theorem c47 : cF P [] (drP P []) 47 2 s47.vm = some s47 := by kernel_rfl
theorem c55 : cF P [] (drP P []) 55 2 s55.vm = some s55 := by kernel_rfl
theorem c62 : cF P [] (drP P []) 62 1 s62.vm = some s62 := by kernel_rfl
theorem c70 : cF P [] (drP P []) 70 1 s70.vm = some s70 := by kernel_rfl
theorem c76 : cF P [] (drP P []) 76 3 s76.vm = some s76 := by kernel_rfl
theorem c77 : cF P [] (drP P []) 77 2 s77.vm = some s77 := by kernel_rfl
theorem c78 : cF P [] (drP P []) 78 1 s78.vm = some s78 := by kernel_rfl
theorem c87 : cF P [] (drP P []) 87 2 s87.vm = some s87 := by kernel_rfl
theorem c88 : cF P [] (drP P []) 88 3 s88.vm = some s88 := by kernel_rfl
theorem c89 : cF P [] (drP P []) 89 1 s89.vm = some s89 := by kernel_rfl
theorem c95 : cF P [] (drP P []) 95 2 s95.vm = some s95 := by kernel_rfl
theorem f70 {K : AV → Heap → Prop} {H : Heap} {n : Nat} (hn : n ≤ 1099511627776) (h : K (.int ((nw n : Nat) : Int)) H) : wpF P [] 70 [.int (n : Int)] H K := by
  refine wpF_go c70 rfl 3 ?_
  intro ha hb
  simp only [s70]
  have e : Int.tdiv ((n : Int) + 63) 64 = ((nw n : Nat) : Int) := by unfold nw; exact tdiv_nat (n + 63) 64 (by omega)
  have hw : nw n ≤ 1099511627776 := by unfold nw; omega
  (refine gw1 @e ?_; try exact True.intro)
  exact ⟨by omega, by omega, by omega, by omega, h⟩

/-- a row of words that a call made -/
def wblk (n : Nat) (f : Nat → Bool) : Option Blk := some ⟨49, 0, true, .arr (nw n) .leaf, .agg (wdA n f)⟩
theorem f45 {K : AV → Heap → Prop} {H : Heap} {n : Nat} (hn : n ≤ 4194304) (h : ∀ B, K (.tup [.agg [.int (n : Int), .own (H.length + 1) 0 [] 0 (nw n) .leaf], .int 0]) (H ++ [B, wblk n fun _ => false])) : wpF P [] 45 [.int (n : Int)] H K := by
  refine wpF_goK c45 rfl ?_
  intro ha hb
  simp only [s45]
  have h0 : ((n : Int) < 0) = False := by simp
  have h1 : ((4194304 : Int) < (n : Int)) = False := by simp; omega
  (refine gw2 @h0 @h1 ?_; try exact True.intro)
  refine f70 (by omega) ?_
  have hw : nw n ≤ 4194304 := by unfold nw; omega
  (refine gw3 @Kall_n @Kall_r @Ka2_s ?_; try exact True.intro)
  refine ⟨by omega, by omega, by omega, ?_⟩
  rw [zero_wdA]
  exact h _
theorem f45e {K : AV → Heap → Prop} {H : Heap} {n : Int} (hn : n < 0 ∨ 4194304 < n) (h : K (.tup [.agg [.int 0, .nils], .int 2]) H) : wpF P [] 45 [.int n] H K := by
  refine wpF_go c45 rfl 3 ?_
  intro ha hb
  simp only [s45]
  by_cases h0 : n < 0
  · (refine gw1 @h0 ?_; try exact True.intro)
    exact h
  · have h1 : (4194304 : Int) < n := by omega
    (refine gw2 @h0 @h1 ?_; try exact True.intro)
    exact h

theorem f46 {K : AV → Heap → Prop} {H : Heap} {n : Nat} {f : Nat → Bool} (h : K (.int (n : Int)) H) : wpF P [] 46 [vec n f] H K := by
  refine wpF_go c46 rfl 3 ?_
  intro ha hb
  simp only [s46, vec]
  (refine gw0 ?_; try exact True.intro)
  exact h
theorem f46n {K : AV → Heap → Prop} {H : Heap} {n : Int} (h : K (.int n) H) : wpF P [] 46 [.agg [.int n, .nils]] H K := by
  refine wpF_go c46 rfl 3 ?_
  intro ha hb
  simp only [s46]
  (refine gw0 ?_; try exact True.intro)
  exact h

theorem f47 {K : AV → Heap → Prop} {H : Heap} {n : Nat} {f : Nat → Bool} {i : Int} (h : K (.bool (decide (0 ≤ i) && cut n f i.toNat)) H) : wpF P [] 47 [vec n f, .int i] H K := by
  refine wpF_go c47 rfl 3 ?_
  intro ha hb
  simp only [s47, vec]
  by_cases h0 : i < 0
  · (refine gw1 @h0 ?_; try exact True.intro)
    rw [show decide (0 ≤ i) = false by simp; omega, Bool.false_and] at h
    exact h
  have hr : i ≤ 9223372036854775807 := (ha (.int i) (by simp)).2.2
  obtain ⟨j, rfl⟩ := Int.eq_ofNat_of_zero_le (show 0 ≤ i by omega)
  by_cases h1 : n ≤ j
  · have h2 : ((n : Int) ≤ (j : Int)) = True := by simp; omega
    rw [show cut n f (j : Int).toNat = false by simp [cut]; omega, Bool.and_false] at h
    (refine gw2 @h0 @h2 ?_; try exact True.intro)
    exact h
  · have h2 : ((n : Int) ≤ (j : Int)) = False := by simp; omega
    have hd := tdiv64 j
    have hm := tmod64 j
    have he := sh64 j
    have hg := wdA_get (f := f) (show j < n by omega)
    have hl : j / 64 < nw n := by unfold nw; omega
    have hlen : (wdA n f).length = nw n := wdA_len
    (refine gw7 @h0 @h2 @hd @hm @he @hg @hlen ?_; try exact True.intro)
    refine ⟨by omega, by omega, by omega, by omega, by omega, ?_⟩
    rw [bit_and1, wd_bit (by omega)]
    rw [show 64 * (j / 64) + j % 64 = j by omega]
    rw [show cut n f (j : Int).toNat = f j by simp [cut]; omega] at h
    simpa using h
def vblk (n N : Nat) : Option Blk := some ⟨37, 0, false, .arr 1 (.st [.leaf, .leaf]), .agg [.agg [.int (n : Int), .own N 0 [] 0 (nw n) .leaf]]⟩
def rblk : Option Blk := some ⟨37, 0, false, .arr 1 (.st [.leaf, .leaf]), .agg [.agg [.int 0, .nils]]⟩
theorem demA {n : Nat} {f : Nat → Bool} {kp : Nat → Bool} {N : Nat} {h : Heap} {d : Nat} : mapO (demK kp N h (d + 1)) (List.take (nw n) (wdA n f)) = some (wdA n f) := by
  rw [List.take_of_length_le (by rw [wdA_len]; exact Nat.le_refl _)]; exact mapO_u64
theorem bndA {n : Nat} {f : Nat → Bool} {k : Nat} : AV.bnds k (wdA n f) = true := bnds_u64
def Iy10 (l : List Bool) (B : Option Blk) (H : Heap) (k : Nat) (st : St) : Prop :=
  ∃ (i : Nat) (u1 u2 u4 u5 : AV), st = ⟨[.ro .leaf (l.map .bool), .ptr H.length 0 [0] (.st [.leaf, .leaf]), .int 0, .ptr (H.length + 3) 0 [0] (.st [.leaf, .leaf]), .int 0, u1, u2, .bool false, .ro .leaf (l.map .bool), .int l.length, .int i, u4, u5],
    H ++ [rblk, B, wblk l.length (cut i (bfn l)), vblk l.length (H.length + 2)]⟩ ∧ k = l.length - i ∧ i ≤ l.length
theorem f16 {K : AV → Heap → Prop} {H : Heap} {l : List Bool} (hn : l.length ≤ 4194304) (h : K (.tup [vec l.length (bfn l), .int 0]) H) : wpF P [] 16 [.ro .leaf (l.map .bool)] H K := by
  refine wpF_go c16 rfl 4 ?_
  intro ha hb
  simp only [s16]
  (refine gw0 ?_; try exact True.intro)
  refine f45 hn ?_
  intro B
  have e2 : H.length + 1 + 1 = H.length + 2 := rfl
  (refine gw1 @e2 ?_; try exact True.intro)
  refine wp_inv (Iy10 l B H) l.length ⟨0, _, _, _, _, by rw [cut_zero]; rfl, rfl, by omega⟩ ?_
  rintro k st ⟨i, u1, u2, u4, u5, rfl, rfl, hi⟩
  unfold wblk vblk rblk
  by_cases hil : i < l.length
  · have h1 : ((i : Int) < (l.length : Int)) = True := by simp; omega
    have gl := ld_bfn hil
    cases hb2 : bfn l i with
    | false =>
      (refine gw3 @h1 @gl @hb2 ?_; try exact True.intro)
      (repeat (refine And.intro (by omega) ?_))
      refine ⟨l.length - (i + 1), by omega, i + 1, _, _, _, _, by rw [cut_false hb2]; rfl, rfl, by omega⟩
    | true =>
      have hd := tdiv64 i
      have hm := tmod64 i
      have he := sh64 i
      have hg := wdA_get (f := cut i (bfn l)) hil
      have hw : i / 64 < nw l.length := by unfold nw; omega
      have hget := lget_at (ps := wdA l.length (cut i (bfn l))) (i := i / 64) (by rw [wdA_len]; exact hw)
      (refine gw8 @h1 @gl @hb2 @hd @hm @he @hg @hget ?_; try exact True.intro)
      (repeat (refine And.intro (by omega) ?_))
      refine ⟨l.length - (i + 1), by omega, i + 1, _, _, _, _, by rw [wdA_or (cut_true hb2)]; rfl, rfl, by omega⟩
  · have h1 : ((i : Int) < (l.length : Int)) = False := by simp; omega
    have hie : i = l.length := by omega
    (refine gw2 @h1 @demA ?_; try exact True.intro)
    subst hie
    rw [cut_bfn]
    exact h

/-- a row of words is what another list's row is -/
theorem f89 {K : AV → Heap → Prop} {H : Heap} {n : Nat} {f : Nat → Bool} (hn : n ≤ 100000000) (h : K (.ro .leaf (wdA n f)) H) (h0 : n = 0 → K .nils H) : wpF P [] 89 [.ro .leaf (wdA n f)] H K := by
  refine wpF_go c89 rfl 3 ?_
  intro ha hb
  simp only [s89]
  have hlen : (wdA n f).length = nw n := wdA_len
  have hw : nw n ≤ 100000000 := by unfold nw; omega
  have hm : ∀ {kp : Nat → Bool} {N : Nat} {h : Heap}, mapO (demK kp N h 2) (wdA n f) = some (wdA n f) := mapO_u64
  (refine gw1 @hm ?_; try exact True.intro)
  refine ⟨fun e => h0 ?_, ?_, ?_, ?_, h⟩
  · rw [e] at hlen; unfold nw at hlen; simp at hlen; omega
  · intro q hq
    obtain ⟨k, _, rfl⟩ := List.mem_map.1 hq
    rfl
  · omega
  · omega

/-- the words of bits, cloned -/
theorem f78 {K : AV → Heap → Prop} {H : Heap} {n : Nat} {f : Nat → Bool} (hn : n ≤ 100000000) (h : K (.ro .leaf (wdA n f)) H) (h0 : n = 0 → K .nils H) : wpF P [] 78 [vec n f] H K := by
  refine wpF_go c78 rfl 3 ?_
  intro ha hb
  simp only [s78, vec]
  (refine gw0 ?_; try exact True.intro)
  refine f89 hn ?_ fun e => ?_
  · (refine gw1 @bndA ?_; try exact True.intro)
    exact h
  · (refine gw0 ?_; try exact True.intro)
    exact h0 e

def bxv (n : Nat) (f : Nat → Bool) : Option Blk := some ⟨37, 0, false, .arr 1 (.st [.leaf, .leaf]), .agg [.agg [.int (n : Int), .ro .leaf (wdA n f)]]⟩
def Iy33 (n : Nat) (f : Nat → Bool) (H : Heap) (k : Nat) (st : St) : Prop :=
  ∃ (i : Nat) (u1 u2 : AV), st = ⟨[.agg [.int (n : Int), .ro .leaf (wdA n f)], .ptr H.length 0 [0] (.st [.leaf, .leaf]), .nils, .own (H.length + 1) 0 [] 0 n .leaf, u1, .int n, .int i, u2],
    H ++ [bxv n f, some ⟨4, 0, true, .arr n .leaf, .agg (fillL (fun i => .bool (f i)) (.bool false) n i)⟩]⟩ ∧ k = n - i ∧ i ≤ n
theorem f30 {K : AV → Heap → Prop} {H : Heap} {n : Nat} {f : Nat → Bool} (hn : n ≤ 100000000) (h : K (.ro .leaf ((List.range n).map fun i => .bool (f i))) H) : wpF P [] 30 [vec n f] H K := by
  refine wpF_go c30 rfl 3 ?_
  intro ha hb
  simp only [s30, vec]
  (refine gw0 ?_; try exact True.intro)
  (repeat (refine And.intro (by omega) ?_))
  refine wp_inv (Iy33 n f H) n ⟨0, _, _, by rw [fill_zero]; rfl, rfl, by omega⟩ ?_
  rintro k st ⟨i, u1, u2, rfl, rfl, hi⟩
  unfold bxv
  by_cases hil : i < n
  · have h1 : ((i : Int) < (n : Int)) = True := by simp; omega
    have hget := lget_at (ps := fillL (fun i => AV.bool (f i)) (AV.bool false) n i) (i := i) (by rw [fill_length (by omega)]; exact hil)
    (refine gw1 @h1 ?_; try exact True.intro)
    refine f47 ?_
    rw [show (decide (0 ≤ (i : Int)) && cut n f (i : Int).toNat) = f i by simp [cut, hil]]
    (refine gw2 @h1 @hget ?_; try exact True.intro)
    (repeat (refine And.intro (by omega) ?_))
    exact ⟨n - (i + 1), by omega, i + 1, _, _, by rw [← fill_set hil]; rfl, rfl, by omega⟩
  · have h1 : ((i : Int) < (n : Int)) = False := by simp; omega
    have hie : i = n := by omega
    have ht : ∀ {kp : Nat → Bool} {N : Nat} {h : Heap}, mapO (demK kp N h 2) (List.take n (fillL (fun i => AV.bool (f i)) (AV.bool false) n i)) = some ((List.range n).map fun i => .bool (f i)) := by
      intro kp N h
      rw [hie, fill_all, List.take_of_length_le (by simp)]; exact mapO_bool
    (refine gw2 @h1 @ht ?_; try exact True.intro)
    exact h

/-! the reference -/
def wN (nb : Nat) (f : Nat → Bool) : Option Blk := some ⟨49, nb, true, .arr nb .leaf, .agg (wdN nb f)⟩
def Iy34 (l : List Bool) (H : Heap) (k : Nat) (st : St) : Prop :=
  ∃ (i : Nat) (u1 u2 u3 : AV) (out : AV) (L : Heap), st = ⟨[.ro .leaf (l.map .bool), .nils, out, .int (i : Int), u1, u2, u3], H ++ L⟩ ∧ k = l.length - i ∧ i ≤ l.length ∧
    ((i = 0 ∧ out = .nils ∧ L = []) ∨ (0 < i ∧ out = .own (H.length + 1) (nw i) [] 0 (nw i) .leaf ∧ ∃ T J, L = T :: wN (nw i) (cut i (bfn l)) :: J))
def Iy24 (a b : List Bool) (H : Heap) (k : Nat) (st : St) : Prop :=
  ∃ (i : Nat) (u1 u2 : AV), st = ⟨[.ro .leaf (a.map .bool), .ro .leaf (b.map .bool), .bool false, .int (i : Int), .bool false, u1, u2], H⟩ ∧ k = a.length - i ∧ i ≤ a.length ∧ ∀ j, j < i → a.getD j false = b.getD j false
theorem f29r {K : AV → Heap → Prop} {H : Heap} {a b : List Bool} (h : K (.bool (decide (a = b))) H) : wpF P [] 29 [.ro .leaf (a.map .bool), .ro .leaf (b.map .bool)] H K := by
  refine wpF_go c29 rfl 3 ?_
  intro ha hb
  simp only [s29]
  have hla : (a.length : Int) ≤ 9223372036854775807 := by have := (ha (.ro .leaf (a.map .bool)) (by simp)).2.1; simp [maxLen] at this; omega
  by_cases hl : a.length = b.length
  · have hl' : ((a.length : Int) = (b.length : Int)) = True := by simp [hl]
    (refine gw1 @hl' ?_; try exact True.intro)
    refine wp_inv (Iy24 a b H) a.length ⟨0, _, _, rfl, rfl, by omega, fun j hj => by omega⟩ ?_
    rintro k st ⟨i, u1, u2, rfl, rfl, hi, hsame⟩
    by_cases hil : i < a.length
    · have h1 : ((i : Int) < (a.length : Int)) = True := by simp; omega
      have h2 : ((i : Int) < (b.length : Int)) = True := by simp; omega
      have g1 := ld_bool hil
      have g2 := ld_bool (ns := b) (i := i) (by omega)
      by_cases he : a.getD i false = b.getD i false
      · have hx : (b.getD i false == b.getD i false) = true := by simp
        rw [he] at g1
        (refine gw5 @h1 @h2 @g1 @g2 @hx ?_; try exact True.intro)
        (repeat (refine And.intro (by omega) ?_))
        refine ⟨a.length - (i + 1), by omega, i + 1, _, _, rfl, rfl, by omega, fun j hj => ?_⟩
        by_cases hji : j = i
        · subst hji; exact he
        · exact hsame j (by omega)
      · have hx : (a.getD i false == b.getD i false) = false := beq_eq_false_iff_ne.2 he
        have hne : decide (a = b) = false := by
          simp; intro e; exact he (by rw [e])
        rw [hne] at h
        (refine gw5 @h1 @h2 @g1 @g2 @hx ?_; try exact True.intro)
        (repeat (refine And.intro (by omega) ?_))
        exact h
    · have h1 : ((i : Int) < (a.length : Int)) = False := by simp; omega
      have hab : a = b := by
        apply List.ext_getElem hl
        intro j h1 h2
        have := hsame j (by omega)
        simpa [List.getD_eq_getElem?_getD, h1, h2] using this
      rw [decide_eq_true hab] at h
      (refine gw1 @h1 ?_; try exact True.intro)
      exact h
  · have hl' : ((a.length : Int) = (b.length : Int)) = False := by simp; omega
    rw [show decide (a = b) = false by simp; intro e; exact hl (by rw [e])] at h
    (refine gw1 @hl' ?_; try exact True.intro)
    exact h

def Iy32 (a b : List (BitVec 64)) (H : Heap) (k : Nat) (st : St) : Prop :=
  ∃ (i : Nat) (u1 u2 : AV), st = ⟨[.ro .leaf (a.map .u64), .ro .leaf (b.map .u64), .bool false, .int (i : Int), .bool false, u1, u2], H⟩ ∧ k = a.length - i ∧ i ≤ a.length ∧ ∀ j, j < i → a.getD j 0 = b.getD j 0
theorem f15r {K : AV → Heap → Prop} {H : Heap} {a b : List (BitVec 64)} (h : K (.bool (decide (a = b))) H) : wpF P [] 15 [.ro .leaf (a.map .u64), .ro .leaf (b.map .u64)] H K := by
  refine wpF_go c15 rfl 3 ?_
  intro ha hb
  simp only [s15]
  have hla : (a.length : Int) ≤ 9223372036854775807 := by have := (ha (.ro .leaf (a.map .u64)) (by simp)).2.1; simp [maxLen] at this; omega
  by_cases hl : a.length = b.length
  · have hl' : ((a.length : Int) = (b.length : Int)) = True := by simp [hl]
    (refine gw1 @hl' ?_; try exact True.intro)
    refine wp_inv (Iy32 a b H) a.length ⟨0, _, _, rfl, rfl, by omega, fun j hj => by omega⟩ ?_
    rintro k st ⟨i, u1, u2, rfl, rfl, hi, hsame⟩
    by_cases hil : i < a.length
    · have h1 : ((i : Int) < (a.length : Int)) = True := by simp; omega
      have h2 : ((i : Int) < (b.length : Int)) = True := by simp; omega
      have g1 := ld_u64 hil
      have g2 := ld_u64 (ns := b) (i := i) (by omega)
      by_cases he : a.getD i 0 = b.getD i 0
      · have hx : (b.getD i 0 == b.getD i 0) = true := by simp
        rw [he] at g1
        (refine gw5 @h1 @h2 @g1 @g2 @hx ?_; try exact True.intro)
        (repeat (refine And.intro (by omega) ?_))
        refine ⟨a.length - (i + 1), by omega, i + 1, _, _, rfl, rfl, by omega, fun j hj => ?_⟩
        by_cases hji : j = i
        · subst hji; exact he
        · exact hsame j (by omega)
      · have hx : (a.getD i 0 = b.getD i 0) = False := eq_false he
        have hne : decide (a = b) = false := by
          simp; intro e; exact he (by rw [e])
        rw [hne] at h
        (refine gw5 @h1 @h2 @g1 @g2 @hx ?_; try exact True.intro)
        (repeat (refine And.intro (by omega) ?_))
        exact h
    · have h1 : ((i : Int) < (a.length : Int)) = False := by simp; omega
      have hab : a = b := by
        apply List.ext_getElem hl
        intro j h1 h2
        have := hsame j (by omega)
        simpa [List.getD_eq_getElem?_getD, h1, h2] using this
      rw [decide_eq_true hab] at h
      (refine gw1 @h1 ?_; try exact True.intro)
      exact h
  · have hl' : ((a.length : Int) = (b.length : Int)) = False := by simp; omega
    rw [show decide (a = b) = false by simp; intro e; exact hl (by rw [e])] at h
    (refine gw1 @hl' ?_; try exact True.intro)
    exact h

theorem f29 {K : AV → Heap → Prop} {H : Heap} {A B : AV} {a b : List Bool} (hA : isL A (a.map .bool)) (hB : isL B (b.map .bool)) (h : K (.bool (decide (a = b))) H) : wpF P [] 29 [A, B] H K := by
  have nilr : ∀ xs : List Bool, xs.map AV.bool = [] → xs = [] := fun xs h => by simpa using h
  rcases hA with rfl | ⟨e1, rfl⟩
  · rcases hB with rfl | ⟨e2, rfl⟩
    · exact f29r h
    · have := nilr _ e2; subst this
      refine wpF_go c29 rfl 3 ?_
      intro ha hb
      simp only [s29]
      cases a with
      | nil =>
        (refine gw0 ?_; try exact True.intro)
        refine wp_unroll 1 ?_
        (refine gw0 ?_; try exact True.intro)
        exact h
      | cons x a =>
        have h1 : (((a.length + 1 : Nat) : Int) = 0) = False := by simp; omega
        rw [show decide (x :: a = []) = false from rfl] at h
        (refine gw1 @h1 ?_; try exact True.intro)
        exact h
  · have := nilr _ e1; subst this
    rcases hB with rfl | ⟨e2, rfl⟩
    · refine wpF_go c29 rfl 3 ?_
      intro ha hb
      simp only [s29]
      cases b with
      | nil =>
        (refine gw0 ?_; try exact True.intro)
        refine wp_unroll 1 ?_
        (refine gw0 ?_; try exact True.intro)
        exact h
      | cons x a =>
        rw [show decide ([] = x :: a) = false from rfl] at h
        have h1 : ((0 : Int) = ((a.length + 1 : Nat) : Int)) = False := by simp; omega
        (refine gw1 @h1 ?_; try exact True.intro)
        exact h
    · have := nilr _ e2; subst this
      refine wpF_go c29 rfl 3 ?_
      intro ha hb
      simp only [s29]
      (refine gw0 ?_; try exact True.intro)
      refine wp_unroll 1 ?_
      (refine gw0 ?_; try exact True.intro)
      exact h

theorem f15 {K : AV → Heap → Prop} {H : Heap} {A B : AV} {a b : List (BitVec 64)} (hA : isL A (a.map .u64)) (hB : isL B (b.map .u64)) (h : K (.bool (decide (a = b))) H) : wpF P [] 15 [A, B] H K := by
  have nilr : ∀ xs : List (BitVec 64), xs.map AV.u64 = [] → xs = [] := fun xs h => by simpa using h
  rcases hA with rfl | ⟨e1, rfl⟩
  · rcases hB with rfl | ⟨e2, rfl⟩
    · exact f15r h
    · have := nilr _ e2; subst this
      refine wpF_go c15 rfl 3 ?_
      intro ha hb
      simp only [s15]
      cases a with
      | nil =>
        (refine gw0 ?_; try exact True.intro)
        refine wp_unroll 1 ?_
        (refine gw0 ?_; try exact True.intro)
        exact h
      | cons x a =>
        have h1 : (((a.length + 1 : Nat) : Int) = 0) = False := by simp; omega
        rw [show decide (x :: a = []) = false from rfl] at h
        (refine gw1 @h1 ?_; try exact True.intro)
        exact h
  · have := nilr _ e1; subst this
    rcases hB with rfl | ⟨e2, rfl⟩
    · refine wpF_go c15 rfl 3 ?_
      intro ha hb
      simp only [s15]
      cases b with
      | nil =>
        (refine gw0 ?_; try exact True.intro)
        refine wp_unroll 1 ?_
        (refine gw0 ?_; try exact True.intro)
        exact h
      | cons x a =>
        rw [show decide ([] = x :: a) = false from rfl] at h
        have h1 : ((0 : Int) = ((a.length + 1 : Nat) : Int)) = False := by simp; omega
        (refine gw1 @h1 ?_; try exact True.intro)
        exact h
    · have := nilr _ e2; subst this
      refine wpF_go c15 rfl 3 ?_
      intro ha hb
      simp only [s15]
      (refine gw0 ?_; try exact True.intro)
      refine wp_unroll 1 ?_
      (refine gw0 ?_; try exact True.intro)
      exact h

def Iy15 (n : Nat) (w : List (BitVec 64)) (H : Heap) (k : Nat) (st : St) : Prop :=
  ∃ (i : Nat) (u1 : AV) (out : AV) (L : Heap), st = ⟨[.int (n : Int), .ro .leaf (w.map .u64), .nils, out, .int (i : Int), u1], H ++ L⟩ ∧ k = n - i ∧ i ≤ n ∧ apd 4 H.length (fun i => .bool (wf w i)) i out L
theorem f62 {K : AV → Heap → Prop} {H0 L : Heap} {n : Nat} {f : Nat → Bool} (hn : n ≤ 1000000000) (h : K (.tup []) (H0 ++ wblk n (cut n f) :: L)) : wpF P [] 62 [.agg [.int (n : Int), .own H0.length 0 [] 0 (nw n) .leaf]] (H0 ++ wblk n f :: L) K := by
  refine wpF_goM c62 rfl ?_
  intro ha hB
  simp only [s62]
  have hm := tmod64 n
  have hfin : ∀ {X : Prop}, X → X := fun h => h
  by_cases hr : n % 64 = 0
  · have e : ((n % 64 : Nat) : Int) = 0 := by rw [hr]; rfl
    unfold wblk at *
    (refine gw5 @hm @e @Kmut_n @Kmut_r @Km2_s ?_; try exact True.intro)
    refine ⟨by omega, ?_⟩
    rw [← wdA_whole hr]
    exact mut_fin hB (by rintro k blk h; cases h; exact bnd_wdA) h
  · have e : (((n % 64 : Nat) : Int) = 0) = False := by simp; omega
    have hs := sh64 n
    have hw : 0 < nw n ∧ nw n ≤ 1000000000 := by unfold nw; omega
    have hk : (nw n : Int) - 1 = ((nw n - 1 : Nat) : Int) := by omega
    have hg := wdN_get (nb := nw n) (f := f) (k := nw n - 1) (by omega)
    rw [wdN_A] at hg
    have hget := lget_at (ps := wdA n f) (i := nw n - 1) (by rw [wdA_len]; omega)
    have htr := wdA_trim (f := f) hr
    unfold wblk at *
    (refine gw10 @hm @e @hs @hk @hg @hget @htr @Kmut_n @Kmut_r @Km2_s ?_; try exact True.intro)
    (repeat (refine And.intro (by omega) ?_))
    exact mut_fin hB (by rintro k blk h; cases h; exact bnd_wdA) h
theorem f62' {K : AV → Heap → Prop} {H0 L Hx : Heap} {n m : Nat} {f : Nat → Bool} (hm : m = H0.length) (hx : Hx = H0 ++ wblk n f :: L) (hn : n ≤ 1000000000) (h : K (.tup []) (H0 ++ wblk n (cut n f) :: L)) : wpF P [] 62 [.agg [.int (n : Int), .own m 0 [] 0 (nw n) .leaf]] Hx K := by
  subst hm hx
  exact f62 hn h

/-- the bits of a list, as lists -/
theorem bools_map {l : List Bool} : ((List.range l.length).map fun i => AV.bool (bfn l i)) = l.map .bool := by
  apply List.ext_getElem
  · simp
  · intro i h1 h2
    simp [bfn, List.getD_eq_getElem?_getD, List.getElem?_eq_getElem (show i < l.length by simpa using h2)]
theorem wds_map {n : Nat} {f : Nat → Bool} : wdA n f = (wds n f).map .u64 := wdA_map
/-! the same of no list -/
theorem bfn_rep {n : Nat} : bfn (List.replicate n false) = fun _ => false := by
  funext i
  unfold bfn
  rw [List.getD_eq_getElem?_getD, List.getElem?_replicate]
  split <;> rfl
theorem wf_map {n : Nat} {w : List (BitVec 64)} : ((List.range n).map fun i => AV.bool (wf w i)) = ((List.range n).map (wf w)).map .bool := by rw [List.map_map]; rfl
theorem bfn_rng {n : Nat} {f : Nat → Bool} : bfn ((List.range n).map f) = cut n f := by
  funext i
  unfold bfn cut
  rw [List.getD_eq_getElem?_getD, List.getElem?_map]
  by_cases h : i < n
  · rw [List.getElem?_range h]; simp [h]
  · rw [List.getElem?_eq_none (by simp; omega)]; simp [h]
def Iy17 (n : Nat) (f : Nat → Bool) (H : Heap) (k : Nat) (st : St) : Prop :=
  ∃ (i : Nat) (u1 u2 : AV), st = ⟨[.agg [.int (n : Int), .ro .leaf (wdA n f)], .ptr H.length 0 [0] (.st [.leaf, .leaf]), .int 0, .int (cnt (64 * i) f : Nat), u1, .ro .leaf (wdA n f), .int (nw n : Nat), .int (i : Int), u2],
    H ++ [bxv n f]⟩ ∧ k = nw n - i ∧ i ≤ nw n
def Iy19 (n : Nat) (f : Nat → Bool) (H : Heap) (k : Nat) (st : St) : Prop :=
  ∃ (i : Nat) (x : BitVec 64) (u1 u2 : AV), st = ⟨[.agg [.int (n : Int), .ro .leaf (wdA n f)], .ptr H.length 0 [0] (.st [.leaf, .leaf]), .bool false, .u64 x, u1, .ro .leaf (wdA n f), .int (nw n : Nat), .int (i : Int), u2],
    H ++ [bxv n f]⟩ ∧ k = nw n - i ∧ i ≤ nw n ∧ pop x % 2 = cnt (64 * i) f % 2
def Iy18 (l : List Bool) (H : Heap) (k : Nat) (st : St) : Prop :=
  ∃ (i : Nat) (u1 u2 : AV), st = ⟨[.ro .leaf (l.map .bool), .int 0, .int (cnt i (bfn l) : Nat), .int (i : Int), u1, u2], H⟩ ∧ k = l.length - i ∧ i ≤ l.length
/-! bits turned -/
def ownv (n N : Nat) : AV := .agg [.int (n : Int), .own N 0 [] 0 (nw n) .leaf]
def Iy25 (n : Nat) (f : Nat → Bool) (H : Heap) (k : Nat) (st : St) : Prop :=
  ∃ (i : Nat) (u1 u2 u3 : AV), st = ⟨[.agg [.int (n : Int), .ro .leaf (wdA n f)], .ptr H.length 0 [0] (.st [.leaf, .leaf]), .ptr (H.length + 1) 0 [0] (.st [.leaf, .leaf]), .ptr (H.length + 3) 0 [0] (.st [.leaf, .leaf]), u1, u2, .ro .leaf (wdA n f), .int (nw n : Nat), .int (i : Int), u3],
    H ++ [bxv n f, rblk, some ⟨49, 0, true, .arr (nw n) .leaf, .agg (fillL (fun k => .u64 (wd (fun i => !f i) k)) (.u64 0) (nw n) i)⟩, vblk n (H.length + 2)]⟩ ∧ k = nw n - i ∧ i ≤ nw n
theorem f34 {K : AV → Heap → Prop} {H : Heap} {n : Nat} {f : Nat → Bool} (hn : n ≤ 100000000) (h : K (vec n (cut n fun i => !f i)) H) : wpF P [] 34 [vec n f] H K := by
  refine wpF_go c34 rfl 4 ?_
  intro ha hb
  simp only [s34, vec]
  have hlen : (wdA n f).length = nw n := wdA_len
  have hnw : nw n ≤ 100000000 := by unfold nw; omega
  (refine gw1 @hlen ?_; try exact True.intro)
  (repeat (refine And.intro (by omega) ?_))
  refine wp_inv (Iy25 n f H) (nw n) ⟨0, _, _, _, by rw [fill_zero]; rfl, rfl, by omega⟩ ?_
  rintro k st ⟨i, u1, u2, u3, rfl, rfl, hi⟩
  unfold bxv rblk vblk
  by_cases hil : i < nw n
  · have h1 : ((i : Int) < (nw n : Int)) = True := by simp; omega
    have hg : (wdA n f).getD i .un = .u64 (wd f i) := ld_rng hil
    have hget := lget_at (ps := fillL (fun k => AV.u64 (wd (fun i => !f i) k)) (AV.u64 0) (nw n) i) (i := i) (by rw [fill_length (by omega)]; exact hil)
    have hnot := wd_not (f := f) (k := i)
    (refine gw5 @h1 @hlen @hg @hget @hnot ?_; try exact True.intro)
    (repeat (refine And.intro (by omega) ?_))
    exact ⟨nw n - (i + 1), by omega, i + 1, _, _, _, by rw [← fill_set hil]; rfl, rfl, by omega⟩
  · have h1 : ((i : Int) < (nw n : Int)) = False := by simp; omega
    have hie : i = nw n := by omega
    have hf : fillL (fun k => AV.u64 (wd (fun i => !f i) k)) (AV.u64 0) (nw n) (nw n) = wdA n fun i => !f i := by rw [fill_all]; rfl
    subst hie
    (refine gw2 @h1 @hf ?_; try exact True.intro)
    refine f62' (H0 := H ++ [bxv n f, rblk]) (L := [vblk n (H.length + 2)]) (f := fun i => !f i) (by simp) (by simp [rblk, vblk, wblk, bxv]) (by omega) ?_
    unfold bxv wblk vblk rblk
    (refine gw1 @demA ?_; try exact True.intro)
    exact h

def aw : List Bool := [true, false, true]
theorem aw_w : wdA 3 (bfn aw) = [.u64 5] := by
  show [AV.u64 (wd (bfn aw) 0)] = _
  rw [show wd (bfn aw) 0 = 5 by decide]
theorem aw_n : wdA 3 (cut 3 fun i => !bfn aw i) = [.u64 2] := by
  show [AV.u64 (wd (cut 3 fun i => !bfn aw i) 0)] = _
  rw [show wd (cut 3 fun i => !bfn aw i) 0 = 2 by decide]
theorem f77 {H : Heap} {x y : BitVec 64} : wpF P [] 77 [.u64 x, .u64 y] H (fun r h => r = .u64 (x ^^^ y) ∧ h = H) := by
  refine wpF_go c77 rfl 2 ?_
  intro ha hb
  simp only [s77]
  (refine gw0 ?_; try exact True.intro)
def Iy40 (n : Nat) (f g h : Nat → Bool) (c : FuncId) (H : Heap) (k : Nat) (st : St) : Prop :=
  ∃ (i : Nat) (u1 u2 u3 : AV), st = ⟨[.agg [.int (n : Int), .ro .leaf (wdA n f)], .agg [.int (n : Int), .ro .leaf (wdA n g)], .fn c [], .ptr H.length 0 [0] (.st [.leaf, .leaf]), .ptr (H.length + 1) 0 [0] (.st [.leaf, .leaf]), .ptr (H.length + 2) 0 [0] (.st [.leaf, .leaf]), .int 0, .ptr (H.length + 4) 0 [0] (.st [.leaf, .leaf]), u1, .bool false, .int (nw n : Nat), .int (i : Int), u2],
    H ++ [bxv n f, bxv n g, rblk, some ⟨49, 0, true, .arr (nw n) .leaf, .agg (fillL (fun k => .u64 (wd h k)) (.u64 0) (nw n) i)⟩, vblk n (H.length + 3)]⟩ ∧ k = nw n - i ∧ i ≤ nw n
theorem f76 {K : AV → Heap → Prop} {H : Heap} {n m : Nat} {f g e : Nat → Bool} {c : FuncId} {op : BitVec 64 → BitVec 64 → BitVec 64} (hn : n ≤ 100000000) (hop : ∀ k, op (wd f k) (wd g k) = wd e k)
    (hc : ∀ H x y, wpF P [] c [.u64 x, .u64 y] H (fun r h => r = .u64 (op x y) ∧ h = H))
    (h : K (if n = m then .tup [vec n e, .int 0] else .tup [.agg [.int 0, .nils], .int 11]) H) : wpF P [] 76 [vec n f, vec m g, .fn c []] H K := by
  refine wpF_go c76 rfl 4 ?_
  intro ha hb
  simp only [s76, vec]
  by_cases hnm : n = m
  · subst hnm
    rw [if_pos rfl] at h
    have hlen : (wdA n f).length = nw n := wdA_len
    have hlen2 : (wdA n g).length = nw n := wdA_len
    have hnw : nw n ≤ 100000000 := by unfold nw; omega
    (refine gw1 @hlen ?_; try exact True.intro)
    (repeat (refine And.intro (by omega) ?_))
    refine wp_inv (Iy40 n f g e c H) (nw n) ⟨0, _, _, .un, by rw [fill_zero]; rfl, rfl, by omega⟩ ?_
    rintro k st ⟨i, u1, u2, u3, rfl, rfl, hi⟩
    unfold bxv rblk vblk
    by_cases hil : i < nw n
    · have h1 : ((i : Int) < (nw n : Int)) = True := by simp; omega
      have hg : (wdA n f).getD i .un = .u64 (wd f i) := ld_rng hil
      have hg2 : (wdA n g).getD i .un = .u64 (wd g i) := ld_rng hil
      have hget := lget_at (ps := fillL (fun k => AV.u64 (wd e k)) (AV.u64 0) (nw n) i) (i := i) (by rw [fill_length (by omega)]; exact hil)
      (refine gw5 @h1 @hlen @hlen2 @hg @hg2 ?_; try exact True.intro)
      (repeat (refine And.intro (by omega) ?_))
      refine drawn _ (hc _ _ _) ?_
      rw [hop]
      (refine gw2 @h1 @hget ?_; try exact True.intro)
      (repeat (refine And.intro (by omega) ?_))
      exact ⟨nw n - (i + 1), by omega, i + 1, _, _, .un, by rw [← fill_set hil]; rfl, rfl, by omega⟩
    · have h1 : ((i : Int) < (nw n : Int)) = False := by simp; omega
      have hie : i = nw n := by omega
      have hf : fillL (fun k => AV.u64 (wd e k)) (AV.u64 0) (nw n) (nw n) = wdA n e := by rw [fill_all]; rfl
      subst hie
      (refine gw3 @h1 @hf @demA ?_; try exact True.intro)
      exact h
  · rw [if_neg hnm] at h
    have h1 : ((n : Int) = (m : Int)) = False := by simp; omega
    (refine gw1 @h1 ?_; try exact True.intro)
    exact h

theorem f55 {K : AV → Heap → Prop} {H : Heap} {n m : Nat} {f g : Nat → Bool} (hn : n ≤ 100000000) (h : K (if n = m then .tup [vec n fun i => f i != g i, .int 0] else .tup [.agg [.int 0, .nils], .int 11]) H) : wpF P [] 55 [vec n f, vec m g] H K := by
  refine wpF_go c55 rfl 4 ?_
  intro ha hb
  simp only [s55, vec]
  (refine gw0 ?_; try exact True.intro)
  refine f76 (f := f) (g := g) (e := fun i => f i != g i) (op := fun x y => x ^^^ y) hn (fun k => wd_xor) (fun H x y => f77) ?_
  by_cases hnm : n = m
  · rw [if_pos hnm] at h ⊢
    simp only [vec] at h ⊢
    (refine gw1 @bndA ?_; try exact True.intro)
    exact h
  · rw [if_neg hnm] at h ⊢
    (refine gw0 ?_; try exact True.intro)
    exact h
def Iy43 (a b : List (BitVec 64)) (H : Heap) (k : Nat) (st : St) : Prop :=
  ∃ (i : Nat) (u1 u2 u3 : AV), st = ⟨[.ro .leaf (a.map .u64), .ro .leaf (b.map .u64), .bool false, u1, .bool false, .int a.length, .int (i : Int), u2, u3], H⟩ ∧ k = a.length - i ∧ i ≤ a.length ∧ ∀ j, j < i → a.getD j 0 = b.getD j 0
/-- bits that end where they end -/
def nrm (n : Nat) (f : Nat → Bool) : Prop := ∀ i, n ≤ i → f i = false
theorem wds_inj {n : Nat} {f g : Nat → Bool} (hf : nrm n f) (hg : nrm n g) : wds n f = wds n g ↔ ∀ i, i < n → f i = g i := by
  constructor
  · intro h i hi
    have h1 := wf_wds (f := f) (n := n) (i := i) (by unfold nw; omega)
    have h2 := wf_wds (f := g) (n := n) (i := i) (by unfold nw; omega)
    rw [← h1, h, h2]
  · intro h
    unfold wds
    apply List.map_congr_left
    intro k hk
    apply wd_congr
    intro j hj
    by_cases h1 : 64 * k + j < n
    · exact h _ h1
    · rw [hf _ (by omega), hg _ (by omega)]
theorem f87e {K : AV → Heap → Prop} {H : Heap} {n : Int} {s : List (BitVec 8)} (hn : n < 0 ∨ 4194304 < n) (h : K (.tup [.agg [.int 0, .nils], .int 2]) H) : wpF P [] 87 [.int n, .str s] H K := by
  refine wpF_go c87 rfl 4 ?_
  intro ha hb
  simp only [s87]
  (refine gw0 ?_; try exact True.intro)
  refine f45e hn ?_
  (refine gw0 ?_; try exact True.intro)
  exact h
theorem f87s {K : AV → Heap → Prop} {H : Heap} {n : Nat} {s : List (BitVec 8)} (hn : n ≤ 4194304) (hs : s.length ≠ ny n) (h : K (.tup [.agg [.int 0, .nils], .int 11]) H) : wpF P [] 87 [.int (n : Int), .str s] H K := by
  refine wpF_go c87 rfl 4 ?_
  intro ha hb
  simp only [s87]
  (refine gw0 ?_; try exact True.intro)
  refine f45 hn ?_
  intro B
  have e : Int.tdiv ((n : Int) + 7) 8 = ((ny n : Nat) : Int) := tdiv8 (n + 7)
  have hy : ny n ≤ 4194304 := by unfold ny; omega
  have h1 : ((s.length : Int) = (ny n : Int)) = False := by simp; omega
  (refine gw2 @e @h1 ?_; try exact True.intro)
  (repeat (refine And.intro (by omega) ?_))
  exact h
def Iy26 (n : Nat) (s : List (BitVec 8)) (B : Option Blk) (H : Heap) (k : Nat) (st : St) : Prop :=
  ∃ (i : Nat) (u1 u2 u3 : AV), st = ⟨[.int (n : Int), .str s, .ptr H.length 0 [0] (.st [.leaf, .leaf]), .int 0, .ptr (H.length + 3) 0 [0] (.st [.leaf, .leaf]), .int 0, u1, u2, .bool false, .bool false, .int s.length, .int (i : Int), u3, .un],
    H ++ [rblk, B, wblk n (cut (8 * i) (sf s)), vblk n (H.length + 2)]⟩ ∧ k = s.length - i ∧ i ≤ s.length
theorem f87 {K : AV → Heap → Prop} {H : Heap} {n : Nat} {s : List (BitVec 8)} (hn : n ≤ 4194304) (hs : s.length = ny n) (h : (Rb n s → K (.tup [.agg [.int 0, .nils], .int 13]) H) ∧ (¬ Rb n s → K (.tup [vec n (sf s), .int 0]) H)) : wpF P [] 87 [.int (n : Int), .str s] H K := by
  refine wpF_go c87 rfl 4 ?_
  intro ha hb
  simp only [s87]
  have e2 : H.length + 1 + 1 = H.length + 2 := rfl
  (refine gw0 ?_; try exact True.intro)
  refine f45 hn ?_
  intro B
  have e : Int.tdiv ((n : Int) + 7) 8 = ((ny n : Nat) : Int) := tdiv8 (n + 7)
  have hy : ny n ≤ 4194304 := by unfold ny; omega
  have h1 : ((s.length : Int) = (ny n : Int)) = True := by simp; omega
  (refine gw3 @e2 @e @h1 ?_; try exact True.intro)
  (repeat (refine And.intro (by omega) ?_))
  refine wp_inv (Iy26 n s B H) s.length ⟨0, _, _, _, by rw [Nat.mul_zero, cut_zero]; rfl, rfl, by omega⟩ ?_
  rintro k st ⟨i, u1, u2, u3, rfl, rfl, hi⟩
  unfold wblk vblk rblk
  by_cases hil : i < s.length
  · have h2 : ((i : Int) < (s.length : Int)) = True := by simp; omega
    have hd := tdiv8 i
    have hm := tmod8 i
    have he : (BitVec.ofInt 64 (8 * ((i % 8 : Nat) : Int))).toNat = 8 * (i % 8) := ofInt64_nat (i := 8 * (i % 8)) (by omega)
    have hwi : i / 8 < nw n := by unfold nw; unfold ny at hs; omega
    have hg : (wdA n (cut (8 * i) (sf s))).getD (i / 8) .un = .u64 (wd (cut (8 * i) (sf s)) (i / 8)) := ld_rng hwi
    have hget := lget_at (ps := wdA n (cut (8 * i) (sf s))) (i := i / 8) (by rw [wdA_len]; exact hwi)
    have hby := wdA_byte (n := n) (s := s) i
    (refine gw7 @h2 @hd @hm @he @hg @hget @hby ?_; try exact True.intro)
    (repeat (refine And.intro (by omega) ?_))
    exact ⟨s.length - (i + 1), by omega, i + 1, _, _, _, rfl, rfl, by omega⟩
  · have h2 : ((i : Int) < (s.length : Int)) = False := by simp; omega
    have hie : i = s.length := by omega
    subst hie
    rw [cut_sf]
    have hm := tmod8 n
    have hbi := rb_iff hs
    by_cases h8 : n % 8 = 0
    · have e8 : ((n % 8 : Nat) : Int) = 0 := by rw [h8]; rfl
      have hnr : ¬ Rb n s := fun hr => (hbi.1 hr).1 h8
      (refine gw4 @h2 @hm @e8 @demA ?_; try exact True.intro)
      exact h.2 hnr
    · have e8 : (((n % 8 : Nat) : Int) = 0) = False := by simp; omega
      have hs8 := sh8 n
      have hk : (s.length : Int) - 1 = ((s.length - 1 : Nat) : Int) := by unfold ny at hs; omega
      have hlt : s.length - 1 < s.length := by unfold ny at hs; omega
      have hlt2 : (((s.length - 1 : Nat) : Int) < (s.length : Int)) = True := by simp; omega
      by_cases hz : (s.getD (s.length - 1) 0) >>> (n % 8) = 0
      · have hnr : ¬ Rb n s := fun hr => (hbi.1 hr).2 hz
        have hzt : ((s.getD (s.length - 1) 0) >>> (n % 8) = 0) = True := eq_true hz
        (refine gw8 @h2 @hm @e8 @hs8 @hk @hlt2 @hzt @demA ?_; try exact True.intro)
        (repeat (refine And.intro (by omega) ?_))
        exact h.2 hnr
      · have hr : Rb n s := hbi.2 ⟨h8, hz⟩
        have hzt : ((s.getD (s.length - 1) 0) >>> (n % 8) = 0) = False := eq_false hz
        (refine gw7 @h2 @hm @e8 @hs8 @hk @hlt2 @hzt ?_; try exact True.intro)
        (repeat (refine And.intro (by omega) ?_))
        exact h.1 hr

/-! the reference -/
theorem ny_sum (n : Nat) : ((n / 8 : Nat) : Int) + (((n % 8 + 7) / 8 : Nat) : Int) = ((ny n : Nat) : Int) := by unfold ny; omega
def Iy27 (n : Nat) (s : List (BitVec 8)) (H : Heap) (k : Nat) (st : St) : Prop :=
  ∃ (i : Nat) (u1 u2 u3 u4 : AV) (out : AV) (L : Heap), st = ⟨[.int (n : Int), .str s, .nils, .int 0, out, .int (i : Int), u1, .bool false, .bool false, u2, u3, u4], H ++ L⟩ ∧ k = 8 * s.length - i ∧ i ≤ 8 * s.length ∧
    apd 4 H.length (fun i => .bool (sf s i)) (min i n) out L ∧ ∀ j, n ≤ j → j < i → sf s j = false
/-- 64 bits from a place on -/
theorem wd_at {n a : Nat} {f : Nat → Bool} : wd (fun j => cut (64 * nw n) f (a + j)) 0 =
    (if a / 64 < nw n then wd f (a / 64) >>> (a % 64) else 0) ||| (if 0 < a % 64 ∧ a / 64 + 1 < nw n then wd f (a / 64 + 1) <<< (64 - a % 64) else 0) := by
  symm
  apply wd_of
  intro j hj
  rw [BitVec.getLsbD_or]
  have e1 : (if a / 64 < nw n then wd f (a / 64) >>> (a % 64) else (0 : BitVec 64)).getLsbD j = (decide (a / 64 < nw n) && decide (a % 64 + j < 64) && f (a + j)) := by
    by_cases h : a / 64 < nw n
    · rw [if_pos h, BitVec.getLsbD_ushiftRight]
      by_cases h2 : a % 64 + j < 64
      · rw [wd_bit h2, show 64 * (a / 64) + (a % 64 + j) = a + j by omega]; simp [h, h2]
      · rw [BitVec.getLsbD_of_ge _ _ (by omega)]; simp [h2]
    · rw [if_neg h]; simp [h]
  have e2 : (if 0 < a % 64 ∧ a / 64 + 1 < nw n then wd f (a / 64 + 1) <<< (64 - a % 64) else (0 : BitVec 64)).getLsbD j = (decide (a / 64 + 1 < nw n) && decide (64 ≤ a % 64 + j) && f (a + j)) := by
    by_cases h : 0 < a % 64 ∧ a / 64 + 1 < nw n
    · rw [if_pos h, BitVec.getLsbD_shiftLeft]
      by_cases h2 : 64 ≤ a % 64 + j
      · have h3 : ¬ j < 64 - a % 64 := by omega
        rw [wd_bit (by omega), show 64 * (a / 64 + 1) + (j - (64 - a % 64)) = a + j by omega]; simp [h.2, h2, h3, hj]
      · have h3 : j < 64 - a % 64 := by omega
        simp [h2, h3]
    · rw [if_neg h]
      by_cases h2 : 64 ≤ a % 64 + j
      · have : ¬ (a / 64 + 1 < nw n) := fun h4 => h ⟨by omega, h4⟩
        simp [this]
      · simp [h2]
  rw [e1, e2]
  unfold cut
  simp only [Nat.mul_zero, Nat.zero_add]
  by_cases h1 : a % 64 + j < 64
  · have h2 : ¬ 64 ≤ a % 64 + j := by omega
    have h3 : (a + j < 64 * nw n) ↔ (a / 64 < nw n) := by omega
    simp [h1, h2, h3]
  · have h2 : 64 ≤ a % 64 + j := by omega
    have h3 : (a + j < 64 * nw n) ↔ (a / 64 + 1 < nw n) := by omega
    simp [h1, h2, h3]

theorem f95 {K : AV → Heap → Prop} {H : Heap} {n a : Nat} {f : Nat → Bool} (hn : n ≤ 100000000) (ha : a ≤ 1000000000) (h : K (.u64 (wd (fun j => cut (64 * nw n) f (a + j)) 0)) H) : wpF P [] 95 [vec n f, .int (a : Int)] H K := by
  refine wpF_go c95 rfl 3 ?_
  intro hA hb
  simp only [s95, vec]
  rw [wd_at] at h
  have orz : ∀ x : BitVec 64, x ||| 0 = x := fun x => BitVec.or_zero
  have hd := tdiv64 a
  have hm := tmod64 a
  have hs := sh64 a
  have hlen : (wdA n f).length = nw n := wdA_len
  have hnw : nw n ≤ 100000000 := by unfold nw; omega
  have hgt : ((0 : BitVec 64) < BitVec.ofInt 64 ((a % 64 : Nat) : Int)) = (0 < a % 64) := by
    rw [BitVec.lt_def, hs]; rfl
  have hsub : ((64 : BitVec 64) - BitVec.ofInt 64 ((a % 64 : Nat) : Int)).toNat = 64 - a % 64 := by
    rw [BitVec.toNat_sub, hs]
    have : (64 : BitVec 64).toNat = 64 := rfl
    rw [this]; omega
  have hi1 : ((a / 64 : Nat) : Int) + 1 = ((a / 64 + 1 : Nat) : Int) := by omega
  have hb1 : (((a / 64 : Nat) : Int)) ≤ 1000000000 := by omega
  by_cases h1 : a / 64 < nw n
  · rw [if_pos h1] at h
    have t1 : (((a / 64 : Nat) : Int) < (nw n : Int)) = True := by simp; omega
    have g1 : (wdA n f).getD (a / 64) .un = .u64 (wd f (a / 64)) := ld_rng h1
    by_cases h2 : 0 < a % 64
    · have t2 : (0 < a % 64) = True := eq_true h2
      by_cases h3 : a / 64 + 1 < nw n
      · rw [if_pos ⟨h2, h3⟩] at h
        have t3 : (((a / 64 + 1 : Nat) : Int) < (nw n : Int)) = True := by simp; omega
        have g2 : (wdA n f).getD (a / 64 + 1) .un = .u64 (wd f (a / 64 + 1)) := ld_rng h3
        (refine gw12 @hd @hm @hlen @t1 @g1 @hs @hgt @t2 @hi1 @t3 @g2 @hsub ?_; try exact True.intro)
        (repeat (refine And.intro (by omega) ?_))
        exact h
      · rw [if_neg (fun x => h3 x.2), orz] at h
        have t3 : (((a / 64 + 1 : Nat) : Int) < (nw n : Int)) = False := by simp; omega
        (refine gw10 @hd @hm @hlen @t1 @g1 @hs @hgt @t2 @hi1 @t3 ?_; try exact True.intro)
        (repeat (refine And.intro (by omega) ?_))
        exact h
    · have t2 : (0 < a % 64) = False := eq_false h2
      rw [if_neg (fun x => h2 x.1), orz] at h
      (refine gw8 @hd @hm @hlen @t1 @g1 @hs @hgt @t2 ?_; try exact True.intro)
      (repeat (refine And.intro (by omega) ?_))
      exact h
  · rw [if_neg h1, if_neg (by omega), orz] at h
    have t1 : (((a / 64 : Nat) : Int) < (nw n : Int)) = False := by simp; omega
    by_cases h2 : 0 < a % 64
    · have t2 : (0 < a % 64) = True := eq_true h2
      have t3 : (((a / 64 + 1 : Nat) : Int) < (nw n : Int)) = False := by simp; omega
      (refine gw9 @hd @hm @hlen @t1 @hs @hgt @t2 @hi1 @t3 ?_; try exact True.intro)
      (repeat (refine And.intro (by omega) ?_))
      exact h
    · have t2 : (0 < a % 64) = False := eq_false h2
      (refine gw7 @hd @hm @hlen @t1 @hs @hgt @t2 ?_; try exact True.intro)
      (repeat (refine And.intro (by omega) ?_))
      exact h

/-- a part that isn't there -/
theorem f88e {K : AV → Heap → Prop} {H : Heap} {n : Nat} {f : Nat → Bool} {a b : Int} (hab : a < 0 ∨ b < a ∨ (n : Int) < b) (h : K (.tup [.agg [.int 0, .nils], .int 1]) H) : wpF P [] 88 [vec n f, .int a, .int b] H K := by
  refine wpF_go c88 rfl 4 ?_
  intro hA hb
  simp only [s88, vec]
  by_cases h1 : a < 0
  · (refine gw1 @h1 ?_; try exact True.intro)
    exact h
  by_cases h2 : b < a
  · (refine gw2 @h1 @h2 ?_; try exact True.intro)
    exact h
  have h3 : (n : Int) < b := by omega
  (refine gw3 @h1 @h2 @h3 ?_; try exact True.intro)
  exact h
def Iy30 (n : Nat) (f : Nat → Bool) (a b : Nat) (H : Heap) (k : Nat) (st : St) : Prop :=
  ∃ (i : Nat) (u1 u2 : AV), st = ⟨[.agg [.int (n : Int), .ro .leaf (wdA n f)], .int (a : Int), .int (b : Int), .ptr H.length 0 [0] (.st [.leaf, .leaf]), .ptr (H.length + 1) 0 [0] (.st [.leaf, .leaf]), .int 0, .ptr (H.length + 3) 0 [0] (.st [.leaf, .leaf]), u1, .bool false, .int (nw (b - a) : Nat), .int (i : Int), u2],
    H ++ [bxv n f, rblk, some ⟨49, 0, true, .arr (nw (b - a)) .leaf, .agg (fillL (fun k => .u64 (wd (fun j => cut (64 * nw n) f (a + j)) k)) (.u64 0) (nw (b - a)) i)⟩, vblk (b - a) (H.length + 2)]⟩ ∧ k = nw (b - a) - i ∧ i ≤ nw (b - a)
theorem f88 {K : AV → Heap → Prop} {H : Heap} {n : Nat} {f : Nat → Bool} {a b : Nat} (hn : n ≤ 100000000) (hab : a ≤ b) (hbn : b ≤ n) (h : K (.tup [vec (b - a) (cut (b - a) fun j => f (a + j)), .int 0]) H) : wpF P [] 88 [vec n f, .int (a : Int), .int (b : Int)] H K := by
  refine wpF_go c88 rfl 4 ?_
  intro hA hb
  simp only [s88, vec]
  have h1 : ((a : Int) < 0) = False := by simp
  have h2 : ((b : Int) < (a : Int)) = False := by simp; omega
  have h3 : ((n : Int) < (b : Int)) = False := by simp; omega
  have e1 : (b : Int) - (a : Int) = ((b - a : Nat) : Int) := by omega
  (refine gw4 @h1 @h2 @h3 @e1 ?_; try exact True.intro)
  (repeat (refine And.intro (by omega) ?_))
  refine f70 (by omega) ?_
  have hnw : nw (b - a) ≤ 100000000 := by unfold nw; omega
  (refine gw0 ?_; try exact True.intro)
  (repeat (refine And.intro (by omega) ?_))
  refine wp_inv (Iy30 n f a b H) (nw (b - a)) ⟨0, _, _, by rw [fill_zero]; rfl, rfl, by omega⟩ ?_
  rintro k st ⟨i, u1, u2, rfl, rfl, hi⟩
  unfold bxv rblk vblk
  by_cases hil : i < nw (b - a)
  · have t1 : ((i : Int) < (nw (b - a) : Int)) = True := by simp; omega
    have hget := lget_at (ps := fillL (fun k => AV.u64 (wd (fun j => cut (64 * nw n) f (a + j)) k)) (AV.u64 0) (nw (b - a)) i) (i := i) (by rw [fill_length (by omega)]; exact hil)
    have e2 : (a : Int) + 64 * (i : Int) = ((a + 64 * i : Nat) : Int) := by omega
    have e3 : wd (fun j => cut (64 * nw n) f (a + 64 * i + j)) 0 = wd (fun j => cut (64 * nw n) f (a + j)) i := by
      apply wd_of
      intro j hj
      rw [wd_bit hj, Nat.mul_zero, Nat.zero_add, Nat.add_assoc]
    (refine gw2 @t1 @e2 ?_; try exact True.intro)
    (repeat (refine And.intro (by omega) ?_))
    have hbd : 64 * nw (b - a) ≤ (b - a) + 63 := by unfold nw; omega
    refine drawn _ (f95 (n := n) (f := f) hn (by omega) ⟨rfl, rfl⟩) ?_
    rw [e3]
    (refine gw2 @t1 @hget ?_; try exact True.intro)
    (repeat (refine And.intro (by omega) ?_))
    exact ⟨nw (b - a) - (i + 1), by omega, i + 1, _, _, by rw [← fill_set hil]; rfl, rfl, by omega⟩
  · have t1 : ((i : Int) < (nw (b - a) : Int)) = False := by simp; omega
    have hie : i = nw (b - a) := by omega
    have hf : fillL (fun k => AV.u64 (wd (fun j => cut (64 * nw n) f (a + j)) k)) (AV.u64 0) (nw (b - a)) (nw (b - a)) = wdA (b - a) fun j => cut (64 * nw n) f (a + j) := by rw [fill_all]; rfl
    have hc : cut (b - a) (fun j => cut (64 * nw n) f (a + j)) = cut (b - a) fun j => f (a + j) := by
      funext j
      unfold cut
      by_cases hj : j < b - a
      · have : a + j < 64 * nw n := by unfold nw; omega
        simp [hj, this]
      · simp [hj]
    subst hie
    (refine gw2 @t1 @hf ?_; try exact True.intro)
    refine f62' (H0 := H ++ [bxv n f, rblk]) (L := [vblk (b - a) (H.length + 2)]) (f := fun j => cut (64 * nw n) f (a + j)) (by simp) (by simp [rblk, vblk, wblk, bxv]) (by omega) ?_
    rw [hc]
    unfold bxv wblk vblk rblk
    (refine gw1 @demA ?_; try exact True.intro)
    exact h
end Go.Proofs.Ytjilenmngokhpaa

end

section
/-
  Layer 7 (prg.Bits), as the seat of layers 17 and 19 has it.
-/
open Go Go.V
namespace Go.Proofs.Ytjilenmngokhpaa
set_option maxRecDepth 100000
set_option linter.unusedSimpArgs false
set_option linter.unusedVariables false
/-- trefoil/trefoilref07.Bits (0:seed, 1:lane, 2:from, 3:n, 4:seed, 8:, 9:, 10:s, 11:e, 12:out, 13:i, 27:, 43:, 52:) -/
def s58 : FnS := ⟨69, [0, 1, 2, 3, 4, 8, 9, 10, 11, 12, 13, 27, 43, 52],
    (.seq (.reg [⟨.var 4, (.e (.box 46 (.arr 32 .leaf))), [.t 0], none⟩,
      ⟨.var 5, (.q .mv), [.c .nils], none⟩,
      ⟨.var 6, (.q .mv), [.c (.int 0)], none⟩])
    (.seq (.seq (.reg [⟨.new, (.q .mv), [.t 2], none⟩,
      ⟨.new, (.q (.bin .lss)), [.t 14, .c (.int 0)], none⟩,
      ⟨.new, (.q .mv), [.t 15], none⟩,
      ⟨.new, (.q .mv), [.t 3], (some (16, false))⟩,
      ⟨.new, (.q (.bin .lss)), [.t 17, .c (.int 0)], (some (16, false))⟩,
      ⟨.new, (.q .pick), [.t 16, .c (.bool true), .t 18], none⟩,
      ⟨.new, (.q .mv), [.t 19], none⟩,
      ⟨.new, (.q .mv), [.t 3], (some (20, false))⟩,
      ⟨.new, (.q (.bin .gtr)), [.t 21, .c (.int 65536)], (some (20, false))⟩,
      ⟨.new, (.q .pick), [.t 20, .c (.bool true), .t 22], none⟩,
      ⟨.new, (.q .mv), [.t 23], none⟩,
      ⟨.new, (.q .mv), [.t 2], (some (24, false))⟩,
      ⟨.new, (.q (.bin .gtr)), [.t 25, .c (.int 1073741824)], (some (24, false))⟩,
      ⟨.var 11, (.q .pick), [.t 24, .c (.bool true), .t 26], none⟩])
    (.cond (.t 11) (.seq (.reg [⟨.var 5, (.q .mv), [.c .nils], none⟩,
      ⟨.var 6, (.q .mv), [.c (.int 2)], none⟩])
    .ret)
    .skip))
    (.seq (.reg [⟨.new, (.q (.ld (.arr 32 .leaf))), [.t 4], none⟩,
      ⟨.new, (.q .mv), [.t 1], none⟩,
      ⟨.new, (.q .mv), [.t 2], none⟩,
      ⟨.new, (.q (.bin .quo)), [.t 16, .c (.int 8)], none⟩,
      ⟨.new, (.q .mv), [.t 2], none⟩,
      ⟨.new, (.q (.bin .rem)), [.t 18, .c (.int 8)], none⟩,
      ⟨.new, (.q .mv), [.t 3], none⟩,
      ⟨.new, (.q (.bin .add)), [.t 19, .t 20], none⟩,
      ⟨.new, (.q (.bin .add)), [.t 21, .c (.int 7)], none⟩,
      ⟨.new, (.q (.bin .quo)), [.t 22, .c (.int 8)], none⟩,
      ⟨.new, (.call 80), [.t 14, .t 15, .t 17, .t 23], none⟩,
      ⟨.new, (.q .mv), [.t 24], none⟩,
      ⟨.new, (.q (.ext 0)), [.t 25], none⟩,
      ⟨.new, (.q (.ext 1)), [.t 25], none⟩,
      ⟨.var 7, (.q .mv), [.t 26], none⟩,
      ⟨.var 8, (.q .mv), [.t 27], none⟩])
    (.seq (.seq (.reg [⟨.new, (.q .mv), [.t 8], none⟩,
      ⟨.var 12, (.q (.bin .neq)), [.t 14, .c (.int 0)], none⟩])
    (.cond (.t 12) (.seq (.reg [⟨.new, (.q .mv), [.t 8], none⟩,
      ⟨.var 5, (.q .mv), [.c .nils], none⟩,
      ⟨.var 6, (.q .mv), [.t 14], none⟩])
    .ret)
    .skip))
    (.seq (.reg [⟨.var 9, (.q .mv), [.c .nils], none⟩])
    (.seq (.seq (.reg [⟨.new, (.q .mv), [.t 2], none⟩,
      ⟨.new, (.q (.bin .rem)), [.t 14, .c (.int 8)], none⟩,
      ⟨.var 10, (.q .mv), [.t 15], none⟩])
    (.block 0 (.loop (.seq (.seq (.reg [⟨.new, (.q .mv), [.t 10], none⟩,
      ⟨.new, (.q .mv), [.t 2], none⟩,
      ⟨.new, (.q (.bin .rem)), [.t 15, .c (.int 8)], none⟩,
      ⟨.new, (.q .mv), [.t 3], none⟩,
      ⟨.new, (.q (.bin .add)), [.t 16, .t 17], none⟩,
      ⟨.var 13, (.q (.bin .lss)), [.t 14, .t 18], none⟩])
    (.cond (.t 13) .skip
    (.exit 0)))
    (.seq (.block 1 (.reg [⟨.new, (.q .mv), [.t 9], none⟩,
      ⟨.new, (.q .mv), [.t 7], none⟩,
      ⟨.new, (.q .mv), [.t 10], none⟩,
      ⟨.new, (.q (.bin .quo)), [.t 16, .c (.int 8)], none⟩,
      ⟨.new, (.q .idxS), [.t 15, .t 17], none⟩,
      ⟨.new, (.q .mv), [.t 10], none⟩,
      ⟨.new, (.q (.bin .rem)), [.t 19, .c (.int 8)], none⟩,
      ⟨.new, (.q (.cv .u64)), [.t 20], none⟩,
      ⟨.new, (.q (.bin .shr)), [.t 18, .t 21], none⟩,
      ⟨.new, (.q (.bin .rem)), [.t 22, .c (.u8 2)], none⟩,
      ⟨.new, (.q (.bin .eql)), [.t 23, .c (.u8 1)], none⟩,
      ⟨.new, (.e (.bsl 4 .leaf (.bool false) 1 [0])), [.t 24], none⟩,
      ⟨.new, (.e (.app 4 .leaf 1)), [.t 14, .t 25], none⟩,
      ⟨.var 9, (.q .mv), [.t 26], none⟩]))
    (.reg [⟨.new, (.q .mv), [.t 10], none⟩,
      ⟨.new, (.q (.bin .add)), [.t 14, .c (.int 1)], none⟩,
      ⟨.var 10, (.q .mv), [.t 15], none⟩]))))))
    (.seq (.reg [⟨.new, (.q .mv), [.t 9], none⟩,
      ⟨.var 5, (.q .mv), [.t 14], none⟩,
      ⟨.var 6, (.q .mv), [.c (.int 0)], none⟩])
    .ret))))))),
    [.t 5, .t 6]⟩

/-- trefoil/prg.Bits (0:seed, 1:lane, 2:from, 3:n, 4:seed, 8:, 9:, 10:first, 11:skip, 12:s, 13:e, 14:v, 28:, 47:, 59:) -/
def s75 : FnS := ⟨70, [0, 1, 2, 3, 4, 8, 9, 10, 11, 12, 13, 14, 28, 47, 59],
    (.seq (.reg [⟨.var 4, (.e (.box 46 (.arr 32 .leaf))), [.t 0], none⟩,
      ⟨.var 5, (.e (.alloc 37 (.st [.leaf, .leaf]) (.agg [(.int 0), .nils]))), [], none⟩,
      ⟨.var 6, (.q .mv), [.c (.int 0)], none⟩])
    (.seq (.seq (.reg [⟨.new, (.q .mv), [.t 2], none⟩,
      ⟨.new, (.q (.bin .lss)), [.t 15, .c (.int 0)], none⟩,
      ⟨.new, (.q .mv), [.t 16], none⟩,
      ⟨.new, (.q .mv), [.t 3], (some (17, false))⟩,
      ⟨.new, (.q (.bin .lss)), [.t 18, .c (.int 0)], (some (17, false))⟩,
      ⟨.new, (.q .pick), [.t 17, .c (.bool true), .t 19], none⟩,
      ⟨.new, (.q .mv), [.t 20], none⟩,
      ⟨.new, (.q .mv), [.t 2], (some (21, false))⟩,
      ⟨.new, (.q (.bin .gtr)), [.t 22, .c (.int 1073741824)], (some (21, false))⟩,
      ⟨.new, (.q .pick), [.t 21, .c (.bool true), .t 23], none⟩,
      ⟨.new, (.q .mv), [.t 24], none⟩,
      ⟨.new, (.q .mv), [.t 3], (some (25, false))⟩,
      ⟨.new, (.q (.bin .gtr)), [.t 26, .c (.int 65536)], (some (25, false))⟩,
      ⟨.var 12, (.q .pick), [.t 25, .c (.bool true), .t 27], none⟩])
    (.cond (.t 12) (.seq (.reg [⟨.new, (.e (.bld (.st [.leaf, .leaf]) (.agg [(.int 0), .nils]) [])), [], none⟩,
      ⟨.none, (.e (.store (.st [.leaf, .leaf]))), [.t 5, .t 15], none⟩,
      ⟨.var 6, (.q .mv), [.c (.int 2)], none⟩])
    .ret)
    .skip))
    (.seq (.reg [⟨.new, (.q .mv), [.t 2], none⟩,
      ⟨.new, (.q (.bin .quo)), [.t 15, .c (.int 8)], none⟩,
      ⟨.new, (.q .mv), [.t 2], none⟩,
      ⟨.new, (.q (.bin .rem)), [.t 17, .c (.int 8)], none⟩,
      ⟨.var 7, (.q .mv), [.t 16], none⟩,
      ⟨.var 8, (.q .mv), [.t 18], none⟩])
    (.seq (.reg [⟨.new, (.q (.ld (.arr 32 .leaf))), [.t 4], none⟩,
      ⟨.new, (.q .mv), [.t 1], none⟩,
      ⟨.new, (.q .mv), [.t 7], none⟩,
      ⟨.new, (.q .mv), [.t 8], none⟩,
      ⟨.new, (.q .mv), [.t 3], none⟩,
      ⟨.new, (.q (.bin .add)), [.t 18, .t 19], none⟩,
      ⟨.new, (.q (.bin .add)), [.t 20, .c (.int 7)], none⟩,
      ⟨.new, (.q (.bin .quo)), [.t 21, .c (.int 8)], none⟩,
      ⟨.new, (.call 84), [.t 15, .t 16, .t 17, .t 22], none⟩,
      ⟨.new, (.q .mv), [.t 23], none⟩,
      ⟨.new, (.q (.ext 0)), [.t 24], none⟩,
      ⟨.new, (.q (.ext 1)), [.t 24], none⟩,
      ⟨.var 9, (.q .mv), [.t 25], none⟩,
      ⟨.var 10, (.q .mv), [.t 26], none⟩])
    (.seq (.seq (.reg [⟨.new, (.q .mv), [.t 10], none⟩,
      ⟨.var 13, (.q (.bin .neq)), [.t 15, .c (.int 0)], none⟩])
    (.cond (.t 13) (.seq (.reg [⟨.new, (.e (.bld (.st [.leaf, .leaf]) (.agg [(.int 0), .nils]) [])), [], none⟩,
      ⟨.new, (.q .mv), [.t 10], none⟩,
      ⟨.none, (.e (.store (.st [.leaf, .leaf]))), [.t 5, .t 15], none⟩,
      ⟨.var 6, (.q .mv), [.t 16], none⟩])
    .ret)
    .skip))
    (.seq (.reg [⟨.new, (.q .mv), [.t 9], none⟩,
      ⟨.new, (.q .lenS), [.t 15], none⟩,
      ⟨.new, (.q (.bin .mul)), [.c (.int 8), .t 16], none⟩,
      ⟨.new, (.q .mv), [.t 9], none⟩,
      ⟨.new, (.call 87), [.t 17, .t 18], none⟩,
      ⟨.new, (.q .mv), [.t 19], none⟩,
      ⟨.new, (.q (.ext 0)), [.t 20], none⟩,
      ⟨.new, (.q (.ext 1)), [.t 20], none⟩,
      ⟨.var 11, (.e (.alloc 37 (.st [.leaf, .leaf]) (.agg [(.int 0), .nils]))), [], none⟩,
      ⟨.none, (.e (.store (.st [.leaf, .leaf]))), [.t 11, .t 21], none⟩,
      ⟨.var 10, (.q .mv), [.t 22], none⟩])
    (.seq (.seq (.reg [⟨.new, (.q .mv), [.t 10], none⟩,
      ⟨.var 14, (.q (.bin .neq)), [.t 15, .c (.int 0)], none⟩])
    (.cond (.t 14) (.seq (.reg [⟨.new, (.e (.bld (.st [.leaf, .leaf]) (.agg [(.int 0), .nils]) [])), [], none⟩,
      ⟨.new, (.q .mv), [.t 10], none⟩,
      ⟨.none, (.e (.store (.st [.leaf, .leaf]))), [.t 5, .t 15], none⟩,
      ⟨.var 6, (.q .mv), [.t 16], none⟩])
    .ret)
    .skip))
    (.seq (.reg [⟨.new, (.q (.ld (.st [.leaf, .leaf]))), [.t 11], none⟩,
      ⟨.new, (.q .mv), [.t 8], none⟩,
      ⟨.new, (.q .mv), [.t 8], none⟩,
      ⟨.new, (.q .mv), [.t 3], none⟩,
      ⟨.new, (.q (.bin .add)), [.t 17, .t 18], none⟩,
      ⟨.new, (.call 88), [.t 15, .t 16, .t 19], none⟩,
      ⟨.new, (.q (.ext 0)), [.t 20], none⟩,
      ⟨.new, (.q (.ext 1)), [.t 20], none⟩,
      ⟨.none, (.e (.store (.st [.leaf, .leaf]))), [.t 5, .t 21], none⟩,
      ⟨.var 6, (.q .mv), [.t 22], none⟩])
    .ret)))))))),
    [.cell 5 (.st [.leaf, .leaf]), .t 6]⟩

theorem c58 : cF P [] (drP P []) 58 4 s58.vm = some s58 := by kernel_rfl
theorem c75 : cF P [] (drP P []) 75 4 s75.vm = some s75 := by kernel_rfl
/-- a bit of a stream -/
def gbit (ks : List (BitVec 8)) (lane : BitVec 32) (k : Nat) : Bool := (gB ks lane (k / 8)).getLsbD (k % 8)
theorem pbit {ks : List (BitVec 8)} {lane : BitVec 32} {a m k : Nat} (h : (a % 8 + k) / 8 < m) : sf (part ks lane (a / 8) m) (a % 8 + k) = gbit ks lane (a + k) := by
  unfold sf gbit
  rw [List.getD_eq_getElem?_getD, part_get h, show a / 8 + (a % 8 + k) / 8 = (a + k) / 8 by omega, show (a % 8 + k) % 8 = (a + k) % 8 by omega, Option.getD_some]

theorem f75e {K : AV → Heap → Prop} {H : Heap} {ks : List (BitVec 8)} {lane : BitVec 32} {a n : Int} (hk : ks.length = 32) (hb : a < 0 ∨ n < 0 ∨ 1073741824 < a ∨ 65536 < n) (h : K (.tup [.agg [.int 0, .nils], .int 2]) H) : wpF P [] 75 [.agg (ks.map .u8), .u32 lane, .int a, .int n] H K := by
  refine wpF_go c75 rfl 4 ?_
  intro ha hb'
  simp only [s75]
  by_cases h0 : a < 0
  · (refine gw2 @hk @h0 ?_; try exact True.intro)
    exact h
  by_cases h1 : n < 0
  · (refine gw3 @hk @h0 @h1 ?_; try exact True.intro)
    exact h
  by_cases h2 : 1073741824 < a
  · (refine gw4 @hk @h0 @h1 @h2 ?_; try exact True.intro)
    exact h
  have h3 : 65536 < n := by omega
  (refine gw5 @hk @h0 @h1 @h2 @h3 ?_; try exact True.intro)
  exact h

theorem f75g {K : AV → Heap → Prop} {H : Heap} {ks : List (BitVec 8)} {lane : BitVec 32} {a n : Nat} (hk : ks.length = 32) (hn : n ≤ 65536) (han : a ≤ 1073741824) (h : K (.tup [vec n (cut n fun j => gbit ks lane (a + j)), .int 0]) H) : wpF P [] 75 [.agg (ks.map .u8), .u32 lane, .int (a : Int), .int (n : Int)] H K := by
  refine wpF_go c75 rfl 4 ?_
  intro ha hb
  simp only [s75]
  have h0 : ((a : Int) < 0) = False := by simp
  have h01 : ((n : Int) < 0) = False := by simp
  have h1 : ((1073741824 : Int) < (a : Int)) = False := by simp; omega
  have h2 : ((65536 : Int) < (n : Int)) = False := by simp; omega
  have hm : Int.tmod (a : Int) 8 = ((a % 8 : Nat) : Int) := (Int.ofNat_tmod a 8).symm
  have hd : Int.tdiv (a : Int) 8 = ((a / 8 : Nat) : Int) := (Int.ofNat_tdiv a 8).symm
  have hs : ((a % 8 : Nat) : Int) + (n : Int) + 7 = ((a % 8 + n + 7 : Nat) : Int) := by omega
  have hs1 : ((a % 8 : Nat) : Int) + (n : Int) = ((a % 8 + n : Nat) : Int) := by omega
  have hs2 : ((a % 8 + n : Nat) : Int) + 7 = ((a % 8 + n + 7 : Nat) : Int) := by omega
  have hd2 : Int.tdiv ((a % 8 + n + 7 : Nat) : Int) 8 = (((a % 8 + n + 7) / 8 : Nat) : Int) := (Int.ofNat_tdiv _ 8).symm
  (refine gw10 @hk @h0 @h01 @h1 @h2 @hm @hd @hs1 @hs2 @hd2 ?_; try exact True.intro)
  (repeat (refine And.intro (by omega) ?_))
  refine f84g hk (by omega) (by omega) ?_
  have hpl := part_len (ks := ks) (lane := lane) (a := a / 8) (n := (a % 8 + n + 7) / 8)
  have h8 : 8 * (((a % 8 + n + 7) / 8 : Nat) : Int) = ((8 * ((a % 8 + n + 7) / 8) : Nat) : Int) := by omega
  (refine gw2 @hpl @h8 ?_; try exact True.intro)
  (repeat (refine And.intro (by omega) ?_))
  refine f87 (by omega) (by rw [hpl]; unfold ny; omega) ⟨fun hR => ?_, fun _ => ?_⟩
  · obtain ⟨j, h3, h4⟩ := hR
    rw [sf_out (by rw [hpl]; exact h3)] at h4; cases h4
  simp only [vec]
  (refine gw1 @hs1 ?_; try exact True.intro)
  (repeat (refine And.intro (by omega) ?_))
  refine f88 (by omega) (by omega) (by omega) ?_
  have e : a % 8 + n - a % 8 = n := by omega
  have ef : (cut n fun j => sf (part ks lane (a / 8) ((a % 8 + n + 7) / 8)) (a % 8 + j)) = cut n fun j => gbit ks lane (a + j) := by
    funext j
    unfold cut
    by_cases hj : j < n
    · dsimp only
      rw [pbit (by omega)]
    · simp [hj]
  rw [e, ef]
  simp only [vec] at h ⊢
  (refine gw1 @bndA ?_; try exact True.intro)
  exact h

/-! the reference's -/
theorem f58e {K : AV → Heap → Prop} {H : Heap} {ks : List (BitVec 8)} {lane : BitVec 32} {a n : Int} (hk : ks.length = 32) (hb : a < 0 ∨ n < 0 ∨ 1073741824 < a ∨ 65536 < n) (h : K (.tup [.nils, .int 2]) H) : wpF P [] 58 [.agg (ks.map .u8), .u32 lane, .int a, .int n] H K := by
  refine wpF_go c58 rfl 4 ?_
  intro ha hb'
  simp only [s58]
  by_cases h0 : a < 0
  · (refine gw2 @hk @h0 ?_; try exact True.intro)
    exact h
  by_cases h1 : n < 0
  · (refine gw3 @hk @h0 @h1 ?_; try exact True.intro)
    exact h
  by_cases h3 : 65536 < n
  · (refine gw4 @hk @h0 @h1 @h3 ?_; try exact True.intro)
    exact h
  have h2 : 1073741824 < a := by omega
  (refine gw5 @hk @h0 @h1 @h2 @h3 ?_; try exact True.intro)
  exact h

theorem bit_mod8 (x : BitVec 8) (j : Nat) : decide (x >>> j % 2 = 1) = x.getLsbD j := by
  have e : (x >>> j % 2 = 1) ↔ (x >>> j).toNat % 2 = 1 := by
    rw [← BitVec.toNat_inj, BitVec.toNat_umod]
    exact Iff.rfl
  rw [← BitVec.testBit_toNat, Nat.testBit_eq_decide_div_mod_eq, decide_eq_decide, e, BitVec.toNat_ushiftRight, Nat.shiftRight_eq_div_pow]

def bB (t : Nat) (l : List AV) : Option Blk := some ⟨4, t, true, .arr t .leaf, .agg l⟩
def gbL (ks : List (BitVec 8)) (lane : BitVec 32) (a t : Nat) : List AV := (List.range t).map fun j => .bool (gbit ks lane (a + j))
def Iz54 (ks : List (BitVec 8)) (lane : BitVec 32) (a n : Nat) (s : List (BitVec 8)) (H : Heap) (k : Nat) (st : St) : Prop :=
  ∃ (t : Nat) (out u : AV) (L : Heap), st = ⟨[.agg (ks.map .u8), .u32 lane, .int (a : Int), .int (n : Int), .ptr H.length 0 [0] (.arr 32 .leaf), .nils, .int 0, .str s, .int 0, out, .int ((a % 8 + t : Nat) : Int), .bool false, .bool false, u],
    H ++ kbx ks :: L⟩ ∧ k = n - t ∧ t ≤ n ∧ ((t = 0 ∧ out = .nils ∧ L = []) ∨ (0 < t ∧ out = .own (H.length + 2) t [] 0 t .leaf ∧ ∃ g J l, L = g :: bB t l :: J ∧ l = gbL ks lane a t))

theorem f58g {K : AV → Heap → Prop} {H : Heap} {ks : List (BitVec 8)} {lane : BitVec 32} {a n : Nat} (hk : ks.length = 32) (hn : n ≤ 65536) (han : a ≤ 1073741824) (h : K (.tup [if n = 0 then .nils else .ro .leaf (gbL ks lane a n), .int 0]) H) : wpF P [] 58 [.agg (ks.map .u8), .u32 lane, .int (a : Int), .int (n : Int)] H K := by
  refine wpF_go c58 rfl 4 ?_
  intro ha hb
  simp only [s58]
  have h0 : ((a : Int) < 0) = False := by simp
  have h01 : ((n : Int) < 0) = False := by simp
  have h1 : ((1073741824 : Int) < (a : Int)) = False := by simp; omega
  have h2 : ((65536 : Int) < (n : Int)) = False := by simp; omega
  have hm : Int.tmod (a : Int) 8 = ((a % 8 : Nat) : Int) := (Int.ofNat_tmod a 8).symm
  have hd : Int.tdiv (a : Int) 8 = ((a / 8 : Nat) : Int) := (Int.ofNat_tdiv a 8).symm
  have hs1 : ((a % 8 : Nat) : Int) + (n : Int) = ((a % 8 + n : Nat) : Int) := by omega
  have hs2 : ((a % 8 + n : Nat) : Int) + 7 = ((a % 8 + n + 7 : Nat) : Int) := by omega
  have hd2 : Int.tdiv ((a % 8 + n + 7 : Nat) : Int) 8 = (((a % 8 + n + 7) / 8 : Nat) : Int) := (Int.ofNat_tdiv _ 8).symm
  (refine gw10 @hk @h0 @h01 @h1 @h2 @hm @hd @hs1 @hs2 @hd2 ?_; try exact True.intro)
  (repeat (refine And.intro (by omega) ?_))
  refine f80g hk (by omega) (by omega) ?_
  have hpl := part_len (ks := ks) (lane := lane) (a := a / 8) (n := (a % 8 + n + 7) / 8)
  have hpb : ∀ t, t < n → ((part ks lane (a / 8) ((a % 8 + n + 7) / 8)).getD ((a % 8 + t) / 8) 0).getLsbD ((a % 8 + t) % 8) = gbit ks lane (a + t) := fun t ht => pbit (by omega)
  generalize part ks lane (a / 8) ((a % 8 + n + 7) / 8) = s at hpl hpb ⊢
  (refine gw1 @hm ?_; try exact True.intro)
  (repeat (refine And.intro (by omega) ?_))
  refine wp_inv (Iz54 ks lane a n s H) n ⟨0, _, _, [], rfl, rfl, by omega, .inl ⟨rfl, rfl, rfl⟩⟩ ?_
  rintro k st ⟨t, out, u, L, rfl, rfl, ht, hc⟩
  unfold kbx
  by_cases htl : t < n
  · have hlt : (((a % 8 + t : Nat) : Int) < ((a % 8 + n : Nat) : Int)) = True := by simp; omega
    have hm2 : Int.tmod ((a % 8 + t : Nat) : Int) 8 = (((a % 8 + t) % 8 : Nat) : Int) := (Int.ofNat_tmod _ 8).symm
    have hd3 : Int.tdiv ((a % 8 + t : Nat) : Int) 8 = (((a % 8 + t) / 8 : Nat) : Int) := (Int.ofNat_tdiv _ 8).symm
    have hb8 : (BitVec.ofInt 64 (((a % 8 + t) % 8 : Nat) : Int)).toNat = (a % 8 + t) % 8 := by rw [BitVec.toNat_ofInt]; omega
    have hq := hpb t htl
    have hbm := bit_mod8 (s.getD ((a % 8 + t) / 8) 0) ((a % 8 + t) % 8)
    rw [hq] at hbm
    have n2 : ((2 : BitVec 8) = 0) = False := by decide
    have he : ((a % 8 + t : Nat) : Int) + 1 = ((a % 8 + (t + 1) : Nat) : Int) := by omega
    have b1 : (-9223372036854775808 : Int) ≤ ((a % 8 : Nat) : Int) := by omega
    have b2 : ((a % 8 : Nat) : Int) ≤ 9223372036854775807 := by omega
    rcases hc with ⟨ht0, rfl, rfl⟩ | ⟨ht0, rfl, g, J, l, rfl, hl⟩
    · (refine gw9 @hm @hs1 @hlt @hm2 @hd3 @hb8 @hbm @hpl @n2 ?_; try exact True.intro)
      (repeat (refine And.intro (by omega) ?_))
      rw [he]
      subst ht0
      exact ⟨n - 1, by omega, 1, _, _, _, rfl, rfl, by omega, .inr ⟨by omega, rfl, _, [], _, rfl, rfl⟩⟩
    · unfold bB
      (refine gw9 @hm @hs1 @hlt @hm2 @hd3 @hb8 @hbm @hpl @n2 ?_; try exact True.intro)
      (repeat (refine And.intro (by omega) ?_))
      rw [he]
      exact ⟨n - (t + 1), by omega, t + 1, _, _, _, rfl, rfl, by omega, .inr ⟨by omega, rfl, _, _, _, rfl, by rw [hl]; simp [gbL, List.range_succ]⟩⟩
  · have hlt : (((a % 8 + t : Nat) : Int) < ((a % 8 + n : Nat) : Int)) = False := by simp; omega
    have hie : t = n := by omega
    subst hie
    have b1 : (-9223372036854775808 : Int) ≤ ((a % 8 : Nat) : Int) := by omega
    have b2 : ((a % 8 : Nat) : Int) ≤ 9223372036854775807 := by omega
    rcases hc with ⟨ht0, rfl, rfl⟩ | ⟨ht0, rfl, g, J, l, rfl, hl⟩
    · rw [if_pos ht0] at h
      (refine gw3 @hm @hs1 @hlt ?_; try exact True.intro)
      (repeat (refine And.intro (by omega) ?_))
      exact h
    · rw [if_neg (by omega), ← hl] at h
      have mt : ∀ {kp : Nat → Bool} {N : Nat} {h : Heap}, mapO (demK kp N h 2) (List.take t l) = some l := by
        intro kp N h
        rw [List.take_of_length_le (by rw [hl]; simp [gbL]), hl]; exact mapO_bool
      unfold bB
      (refine gw4 @hm @hs1 @hlt @mt ?_; try exact True.intro)
      (repeat (refine And.intro (by omega) ?_))
      exact h
theorem f30n {K : AV → Heap → Prop} {H : Heap} (h : K (.ro .leaf []) H) : wpF P [] 30 [.agg [.int 0, .nils]] H K := by
  refine wpF_go c30 rfl 3 ?_
  intro ha hb
  simp only [s30]
  (refine gw0 ?_; try exact True.intro)
  refine wp_unroll 1 ?_
  (refine gw0 ?_; try exact True.intro)
  exact h
end Go.Proofs.Ytjilenmngokhpaa

end
