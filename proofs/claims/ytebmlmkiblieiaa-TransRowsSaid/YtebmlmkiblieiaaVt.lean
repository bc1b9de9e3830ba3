/-
  Layer 2 (bits), as this seat's program has it: what its functions hand back.
-/
import Derived.Test.YtebmlmkiblieiaaW
import Derived.Test.YtebmlmkiblieiaaBp
import Derived.Test.YtebmlmkiblieiaaV38
open Go Go.V
namespace Go.Proofs.Ytebmlmkiblieiaa
set_option maxRecDepth 100000
set_option linter.unusedSimpArgs false
set_option linter.unusedVariables false
/-- trefoil/trefoilref02.Same (0:a, 1:b, 4:, 5:i, 10:, 14:, 25:) -/
def s38 : FnS := ⟨26, [0, 1, 4, 5, 10, 14, 25],
    (.seq (.reg [⟨.var 2, (.q .mv), [.c (.bool false)], none⟩])
    (.seq (.seq (.reg [⟨.new, (.q .mv), [.t 0], none⟩,
      ⟨.new, (.q .len), [.t 7], none⟩,
      ⟨.new, (.q .mv), [.t 1], none⟩,
      ⟨.new, (.q .len), [.t 9], none⟩,
      ⟨.var 4, (.q (.bin .neq)), [.t 8, .t 10], none⟩])
    (.cond (.t 4) (.seq (.reg [⟨.var 2, (.q .mv), [.c (.bool false)], none⟩])
    .ret)
    .skip))
    (.seq (.seq (.reg [⟨.var 3, (.q .mv), [.c (.int 0)], none⟩])
    (.block 0 (.loop (.seq (.seq (.reg [⟨.new, (.q .mv), [.t 3], none⟩,
      ⟨.new, (.q .mv), [.t 0], none⟩,
      ⟨.new, (.q .len), [.t 8], none⟩,
      ⟨.var 5, (.q (.bin .lss)), [.t 7, .t 9], none⟩])
    (.cond (.t 5) .skip
    (.exit 0)))
    (.seq (.block 1 (.seq (.draw [⟨.new, (.q .mv), [.t 0], none⟩,
      ⟨.new, (.q .mv), [.t 3], none⟩,
      ⟨.new, (.q (.iaS .leaf)), [.t 7, .t 8], none⟩,
      ⟨.new, (.q (.ld .leaf)), [.t 9], none⟩,
      ⟨.new, (.q .mv), [.t 1], none⟩,
      ⟨.new, (.q .mv), [.t 3], none⟩,
      ⟨.new, (.q (.iaS .leaf)), [.t 11, .t 12], none⟩,
      ⟨.new, (.q (.ld .leaf)), [.t 13], none⟩,
      ⟨.var 6, (.q (.eqB true)), [.t 10, .t 14], none⟩])
    (.cond (.t 6) (.seq (.reg [⟨.var 2, (.q .mv), [.c (.bool false)], none⟩])
    .ret)
    .skip)))
    (.reg [⟨.new, (.q .mv), [.t 3], none⟩,
      ⟨.new, (.q (.bin .add)), [.t 7, .c (.int 1)], none⟩,
      ⟨.var 3, (.q .mv), [.t 8], none⟩]))))))
    (.seq (.reg [⟨.var 2, (.q .mv), [.c (.bool true)], none⟩])
    .ret)))),
    [.t 2]⟩

/-- (trefoil/bits.Vec).Bools (0:v, 1:v, 2:, 3:l, 4:i, 9:, 10:, 11:) -/
def s39 : FnS := ⟨21, [0, 1, 2, 3, 4, 9, 10, 11],
    (.seq (.reg [⟨.var 1, (.e (.box 77 (.st [.leaf, .leaf]))), [.t 0], none⟩,
      ⟨.var 2, (.q .mv), [.c .nils], none⟩])
    (.seq (.reg [⟨.new, (.q (.fa [.leaf, .leaf] 0)), [.t 1], none⟩,
      ⟨.new, (.q (.ld .leaf)), [.t 8], none⟩,
      ⟨.new, (.e (.mksl 4 .leaf 1 (.bool false))), [.t 9, .t 9], none⟩,
      ⟨.var 3, (.q .mv), [.t 10], none⟩])
    (.seq (.seq (.reg [⟨.new, (.q .mv), [.t 3], none⟩,
      ⟨.var 5, (.q .len), [.t 8], none⟩,
      ⟨.var 6, (.q .mv), [.c (.int 0)], none⟩])
    (.block 0 (.loop (.seq (.reg [⟨.var 7, (.q (.bin .lss)), [.t 6, .t 5], none⟩])
    (.seq (.cond (.t 7) .skip
    (.exit 0))
    (.seq (.block 1 (.seq (.reg [⟨.new, (.q .mv), [.t 6], none⟩,
      ⟨.var 4, (.q .mv), [.t 8], none⟩])
    (.reg [⟨.new, (.q .mv), [.t 3], none⟩,
      ⟨.new, (.q .mv), [.t 4], none⟩,
      ⟨.new, (.q (.ld (.st [.leaf, .leaf]))), [.t 1], none⟩,
      ⟨.new, (.q .mv), [.t 4], none⟩,
      ⟨.new, (.call 66), [.t 10, .t 11], none⟩,
      ⟨.new, (.q (.iaS .leaf)), [.t 8, .t 9], none⟩,
      ⟨.none, (.e (.store .leaf)), [.t 13, .t 12], none⟩])))
    (.reg [⟨.new, (.q (.bin .add)), [.t 6, .c (.int 1)], none⟩,
      ⟨.var 6, (.q .mv), [.t 8], none⟩])))))))
    (.seq (.reg [⟨.new, (.q .mv), [.t 3], none⟩,
      ⟨.var 2, (.q .mv), [.t 8], none⟩])
    .ret)))),
    [.t 2]⟩

/-- trefoil/trefoilref02.Nums (0:a, 1:b, 4:, 5:i, 10:, 14:, 25:) -/
def s55 : FnS := ⟨26, [0, 1, 4, 5, 10, 14, 25],
    (.seq (.reg [⟨.var 2, (.q .mv), [.c (.bool false)], none⟩])
    (.seq (.seq (.reg [⟨.new, (.q .mv), [.t 0], none⟩,
      ⟨.new, (.q .len), [.t 7], none⟩,
      ⟨.new, (.q .mv), [.t 1], none⟩,
      ⟨.new, (.q .len), [.t 9], none⟩,
      ⟨.var 4, (.q (.bin .neq)), [.t 8, .t 10], none⟩])
    (.cond (.t 4) (.seq (.reg [⟨.var 2, (.q .mv), [.c (.bool false)], none⟩])
    .ret)
    .skip))
    (.seq (.seq (.reg [⟨.var 3, (.q .mv), [.c (.int 0)], none⟩])
    (.block 0 (.loop (.seq (.seq (.reg [⟨.new, (.q .mv), [.t 3], none⟩,
      ⟨.new, (.q .mv), [.t 0], none⟩,
      ⟨.new, (.q .len), [.t 8], none⟩,
      ⟨.var 5, (.q (.bin .lss)), [.t 7, .t 9], none⟩])
    (.cond (.t 5) .skip
    (.exit 0)))
    (.seq (.block 1 (.seq (.draw [⟨.new, (.q .mv), [.t 0], none⟩,
      ⟨.new, (.q .mv), [.t 3], none⟩,
      ⟨.new, (.q (.iaS .leaf)), [.t 7, .t 8], none⟩,
      ⟨.new, (.q (.ld .leaf)), [.t 9], none⟩,
      ⟨.new, (.q .mv), [.t 1], none⟩,
      ⟨.new, (.q .mv), [.t 3], none⟩,
      ⟨.new, (.q (.iaS .leaf)), [.t 11, .t 12], none⟩,
      ⟨.new, (.q (.ld .leaf)), [.t 13], none⟩,
      ⟨.var 6, (.q (.bin .neq)), [.t 10, .t 14], none⟩])
    (.cond (.t 6) (.seq (.reg [⟨.var 2, (.q .mv), [.c (.bool false)], none⟩])
    .ret)
    .skip)))
    (.reg [⟨.new, (.q .mv), [.t 3], none⟩,
      ⟨.new, (.q (.bin .add)), [.t 7, .c (.int 1)], none⟩,
      ⟨.var 3, (.q .mv), [.t 8], none⟩]))))))
    (.seq (.reg [⟨.var 2, (.q .mv), [.c (.bool true)], none⟩])
    .ret)))),
    [.t 2]⟩

/-- (trefoil/bits.Vec).Count (0:v, 1:v, 2:, 3:n, 5:x, 7:, 8:, 9:, 10:) -/
def s63 : FnS := ⟨19, [0, 1, 2, 3, 5, 7, 8, 9, 10],
    (.seq (.reg [⟨.var 1, (.e (.box 77 (.st [.leaf, .leaf]))), [.t 0], none⟩,
      ⟨.var 2, (.q .mv), [.c (.int 0)], none⟩])
    (.seq (.reg [⟨.var 3, (.q .mv), [.c (.int 0)], none⟩])
    (.seq (.seq (.reg [⟨.new, (.q (.fa [.leaf, .leaf] 1)), [.t 1], none⟩,
      ⟨.var 5, (.q (.ld .leaf)), [.t 9], none⟩,
      ⟨.var 6, (.q .len), [.t 5], none⟩,
      ⟨.var 7, (.q .mv), [.c (.int 0)], none⟩])
    (.block 0 (.loop (.seq (.reg [⟨.var 8, (.q (.bin .lss)), [.t 7, .t 6], none⟩])
    (.seq (.cond (.t 8) .skip
    (.exit 0))
    (.seq (.block 1 (.seq (.reg [⟨.new, (.q (.iaS .leaf)), [.t 5, .t 7], none⟩,
      ⟨.new, (.q (.ld .leaf)), [.t 9], none⟩,
      ⟨.var 4, (.q .mv), [.t 10], none⟩])
    (.reg [⟨.new, (.q .mv), [.t 3], none⟩,
      ⟨.new, (.q .mv), [.t 4], none⟩,
      ⟨.new, (.call 81), [.t 10], none⟩,
      ⟨.new, (.q (.bin .add)), [.t 9, .t 11], none⟩,
      ⟨.var 3, (.q .mv), [.t 12], none⟩])))
    (.reg [⟨.new, (.q (.bin .add)), [.t 7, .c (.int 1)], none⟩,
      ⟨.var 7, (.q .mv), [.t 9], none⟩])))))))
    (.seq (.reg [⟨.new, (.q .mv), [.t 3], none⟩,
      ⟨.var 2, (.q .mv), [.t 9], none⟩])
    .ret)))),
    [.t 2]⟩

/-- trefoil/bits.Words (0:n, 1:l, 4:, 5:, 6:v, 7:e, 14:, 21:) -/
def s65 : FnS := ⟨30, [0, 1, 4, 5, 6, 7, 14, 21],
    (.seq (.reg [⟨.var 2, (.e (.alloc 77 (.st [.leaf, .leaf]) (.agg [(.int 0), .nils]))), [], none⟩,
      ⟨.var 3, (.q .mv), [.c (.int 0)], none⟩])
    (.seq (.reg [⟨.new, (.q .mv), [.t 0], none⟩,
      ⟨.new, (.call 82), [.t 8], none⟩,
      ⟨.new, (.q .mv), [.t 9], none⟩,
      ⟨.new, (.q (.ext 0)), [.t 10], none⟩,
      ⟨.new, (.q (.ext 1)), [.t 10], none⟩,
      ⟨.var 4, (.e (.alloc 77 (.st [.leaf, .leaf]) (.agg [(.int 0), .nils]))), [], none⟩,
      ⟨.none, (.e (.store (.st [.leaf, .leaf]))), [.t 4, .t 11], none⟩,
      ⟨.var 5, (.q .mv), [.t 12], none⟩])
    (.seq (.seq (.reg [⟨.new, (.q .mv), [.t 5], none⟩,
      ⟨.var 6, (.q (.bin .neq)), [.t 8, .c (.int 0)], none⟩])
    (.cond (.t 6) (.seq (.reg [⟨.new, (.e (.bld (.st [.leaf, .leaf]) (.agg [(.int 0), .nils]) [])), [], none⟩,
      ⟨.new, (.q .mv), [.t 5], none⟩,
      ⟨.none, (.e (.store (.st [.leaf, .leaf]))), [.t 2, .t 8], none⟩,
      ⟨.var 3, (.q .mv), [.t 9], none⟩])
    .ret)
    .skip))
    (.seq (.seq (.reg [⟨.new, (.q .mv), [.t 1], none⟩,
      ⟨.new, (.q .len), [.t 8], none⟩,
      ⟨.new, (.q .mv), [.t 0], none⟩,
      ⟨.new, (.call 83), [.t 10], none⟩,
      ⟨.var 7, (.q (.bin .neq)), [.t 9, .t 11], none⟩])
    (.cond (.t 7) (.seq (.reg [⟨.new, (.e (.bld (.st [.leaf, .leaf]) (.agg [(.int 0), .nils]) [])), [], none⟩,
      ⟨.none, (.e (.store (.st [.leaf, .leaf]))), [.t 2, .t 8], none⟩,
      ⟨.var 3, (.q .mv), [.c (.int 11)], none⟩])
    .ret)
    .skip))
    (.seq (.reg [⟨.new, (.q (.fa [.leaf, .leaf] 1)), [.t 4], none⟩,
      ⟨.new, (.q (.ld .leaf)), [.t 8], none⟩,
      ⟨.new, (.q .mv), [.t 1], none⟩,
      ⟨.new, (.e (.cpy .leaf)), [.t 9, .t 10], none⟩])
    (.seq (.reg [⟨.new, (.q (.ld (.st [.leaf, .leaf]))), [.t 4], none⟩,
      ⟨.new, (.call 84), [.t 8], none⟩])
    (.seq (.reg [⟨.new, (.q (.ld (.st [.leaf, .leaf]))), [.t 4], none⟩,
      ⟨.none, (.e (.store (.st [.leaf, .leaf]))), [.t 2, .t 8], none⟩,
      ⟨.var 3, (.q .mv), [.c (.int 0)], none⟩])
    .ret))))))),
    [.cell 2 (.st [.leaf, .leaf]), .t 3]⟩

/-- (trefoil/bits.Vec).Get (0:v, 1:i, 2:v, 4:, 12:) -/
def s66 : FnS := ⟨25, [0, 1, 2, 4, 12],
    (.seq (.reg [⟨.var 2, (.e (.box 77 (.st [.leaf, .leaf]))), [.t 0], none⟩,
      ⟨.var 3, (.q .mv), [.c (.bool false)], none⟩])
    (.seq (.seq (.reg [⟨.new, (.q .mv), [.t 1], none⟩,
      ⟨.new, (.q (.bin .lss)), [.t 5, .c (.int 0)], none⟩,
      ⟨.new, (.q .mv), [.t 6], none⟩,
      ⟨.new, (.q .mv), [.t 1], (some (7, false))⟩,
      ⟨.new, (.q (.fa [.leaf, .leaf] 0)), [.t 2], (some (7, false))⟩,
      ⟨.new, (.q (.ld .leaf)), [.t 9], (some (7, false))⟩,
      ⟨.new, (.q (.bin .geq)), [.t 8, .t 10], (some (7, false))⟩,
      ⟨.var 4, (.q .pick), [.t 7, .c (.bool true), .t 11], none⟩])
    (.cond (.t 4) (.seq (.reg [⟨.var 3, (.q .mv), [.c (.bool false)], none⟩])
    .ret)
    .skip))
    (.seq (.reg [⟨.new, (.q (.fa [.leaf, .leaf] 1)), [.t 2], none⟩,
      ⟨.new, (.q (.ld .leaf)), [.t 5], none⟩,
      ⟨.new, (.q .mv), [.t 1], none⟩,
      ⟨.new, (.q (.bin .quo)), [.t 7, .c (.int 64)], none⟩,
      ⟨.new, (.q (.iaS .leaf)), [.t 6, .t 8], none⟩,
      ⟨.new, (.q (.ld .leaf)), [.t 9], none⟩,
      ⟨.new, (.q .mv), [.t 1], none⟩,
      ⟨.new, (.q (.bin .rem)), [.t 11, .c (.int 64)], none⟩,
      ⟨.new, (.q (.cv .u64)), [.t 12], none⟩,
      ⟨.new, (.q (.bin .shr)), [.t 10, .t 13], none⟩,
      ⟨.new, (.q (.bin .and)), [.t 14, .c (.u64 1)], none⟩,
      ⟨.new, (.q (.bin .eql)), [.t 15, .c (.u64 1)], none⟩,
      ⟨.var 3, (.q .mv), [.t 16], none⟩])
    .ret))),
    [.t 3]⟩

/-- (trefoil/bits.Vec).Len (0:v, 1:v, 2:) -/
def s67 : FnS := ⟨5, [0, 1, 2],
    (.seq (.reg [⟨.var 1, (.e (.box 77 (.st [.leaf, .leaf]))), [.t 0], none⟩,
      ⟨.var 2, (.q .mv), [.c (.int 0)], none⟩])
    (.seq (.reg [⟨.new, (.q (.fa [.leaf, .leaf] 0)), [.t 1], none⟩,
      ⟨.new, (.q (.ld .leaf)), [.t 3], none⟩,
      ⟨.var 2, (.q .mv), [.t 4], none⟩])
    .ret)),
    [.t 2]⟩

/-- (trefoil/bits.Vec).Raw (0:v, 1:v, 2:) -/
def s68 : FnS := ⟨6, [0, 1, 2],
    (.seq (.reg [⟨.var 1, (.e (.box 77 (.st [.leaf, .leaf]))), [.t 0], none⟩,
      ⟨.var 2, (.q .mv), [.c .nils], none⟩])
    (.seq (.reg [⟨.new, (.q (.fa [.leaf, .leaf] 1)), [.t 1], none⟩,
      ⟨.new, (.q (.ld .leaf)), [.t 3], none⟩,
      ⟨.new, (.call 85), [.t 4], none⟩,
      ⟨.var 2, (.q .mv), [.t 5], none⟩])
    .ret)),
    [.t 2]⟩

/-- trefoil/bits.Read (0:n, 1:s, 4:, 5:, 6:v, 7:e, 8:i, 9:r, 16:, 24:, 27:, 28:, 29:, 63:) -/
def s69 : FnS := ⟨66, [0, 1, 4, 5, 6, 7, 8, 9, 16, 24, 27, 28, 29, 63],
    (.seq (.reg [⟨.var 2, (.e (.alloc 77 (.st [.leaf, .leaf]) (.agg [(.int 0), .nils]))), [], none⟩,
      ⟨.var 3, (.q .mv), [.c (.int 0)], none⟩])
    (.seq (.reg [⟨.new, (.q .mv), [.t 0], none⟩,
      ⟨.new, (.call 82), [.t 14], none⟩,
      ⟨.new, (.q .mv), [.t 15], none⟩,
      ⟨.new, (.q (.ext 0)), [.t 16], none⟩,
      ⟨.new, (.q (.ext 1)), [.t 16], none⟩,
      ⟨.var 4, (.e (.alloc 77 (.st [.leaf, .leaf]) (.agg [(.int 0), .nils]))), [], none⟩,
      ⟨.none, (.e (.store (.st [.leaf, .leaf]))), [.t 4, .t 17], none⟩,
      ⟨.var 5, (.q .mv), [.t 18], none⟩])
    (.seq (.seq (.reg [⟨.new, (.q .mv), [.t 5], none⟩,
      ⟨.var 8, (.q (.bin .neq)), [.t 14, .c (.int 0)], none⟩])
    (.cond (.t 8) (.seq (.reg [⟨.new, (.e (.bld (.st [.leaf, .leaf]) (.agg [(.int 0), .nils]) [])), [], none⟩,
      ⟨.new, (.q .mv), [.t 5], none⟩,
      ⟨.none, (.e (.store (.st [.leaf, .leaf]))), [.t 2, .t 14], none⟩,
      ⟨.var 3, (.q .mv), [.t 15], none⟩])
    .ret)
    .skip))
    (.seq (.seq (.reg [⟨.new, (.q .mv), [.t 1], none⟩,
      ⟨.new, (.q .lenS), [.t 14], none⟩,
      ⟨.new, (.q .mv), [.t 0], none⟩,
      ⟨.new, (.q (.bin .add)), [.t 16, .c (.int 7)], none⟩,
      ⟨.new, (.q (.bin .quo)), [.t 17, .c (.int 8)], none⟩,
      ⟨.var 9, (.q (.bin .neq)), [.t 15, .t 18], none⟩])
    (.cond (.t 9) (.seq (.reg [⟨.new, (.e (.bld (.st [.leaf, .leaf]) (.agg [(.int 0), .nils]) [])), [], none⟩,
      ⟨.none, (.e (.store (.st [.leaf, .leaf]))), [.t 2, .t 14], none⟩,
      ⟨.var 3, (.q .mv), [.c (.int 11)], none⟩])
    .ret)
    .skip))
    (.seq (.seq (.reg [⟨.new, (.q .mv), [.t 1], none⟩,
      ⟨.var 10, (.q .lenS), [.t 14], none⟩,
      ⟨.var 11, (.q .mv), [.c (.int 0)], none⟩])
    (.block 0 (.loop (.seq (.reg [⟨.var 12, (.q (.bin .lss)), [.t 11, .t 10], none⟩])
    (.seq (.cond (.t 12) .skip
    (.exit 0))
    (.seq (.block 1 (.seq (.reg [⟨.new, (.q .mv), [.t 11], none⟩,
      ⟨.var 6, (.q .mv), [.t 14], none⟩])
    (.draw [⟨.new, (.q (.fa [.leaf, .leaf] 1)), [.t 4], none⟩,
      ⟨.new, (.q (.ld .leaf)), [.t 14], none⟩,
      ⟨.new, (.q .mv), [.t 6], none⟩,
      ⟨.new, (.q (.bin .quo)), [.t 16, .c (.int 8)], none⟩,
      ⟨.new, (.q (.iaS .leaf)), [.t 15, .t 17], none⟩,
      ⟨.new, (.q (.ld .leaf)), [.t 18], none⟩,
      ⟨.new, (.q .mv), [.t 1], none⟩,
      ⟨.new, (.q .mv), [.t 6], none⟩,
      ⟨.new, (.q .idxS), [.t 20, .t 21], none⟩,
      ⟨.new, (.q (.cv .u64)), [.t 22], none⟩,
      ⟨.new, (.q .mv), [.t 6], none⟩,
      ⟨.new, (.q (.bin .rem)), [.t 24, .c (.int 8)], none⟩,
      ⟨.new, (.q (.bin .mul)), [.c (.int 8), .t 25], none⟩,
      ⟨.new, (.q (.cv .u64)), [.t 26], none⟩,
      ⟨.new, (.q (.bin .shl)), [.t 23, .t 27], none⟩,
      ⟨.new, (.q (.bin .or)), [.t 19, .t 28], none⟩,
      ⟨.new, (.q (.iaS .leaf)), [.t 15, .t 17], none⟩,
      ⟨.none, (.e (.store .leaf)), [.t 30, .t 29], none⟩])))
    (.reg [⟨.new, (.q (.bin .add)), [.t 11, .c (.int 1)], none⟩,
      ⟨.var 11, (.q .mv), [.t 14], none⟩])))))))
    (.seq (.seq (.reg [⟨.new, (.q .mv), [.t 0], none⟩,
      ⟨.new, (.q (.bin .rem)), [.t 14, .c (.int 8)], none⟩,
      ⟨.var 7, (.q .mv), [.t 15], none⟩])
    (.seq (.reg [⟨.new, (.q .mv), [.t 7], none⟩,
      ⟨.new, (.q (.bin .neq)), [.t 14, .c (.int 0)], none⟩,
      ⟨.new, (.q .mv), [.t 15], none⟩,
      ⟨.new, (.q .mv), [.t 1], (some (16, true))⟩,
      ⟨.new, (.q .mv), [.t 1], (some (16, true))⟩,
      ⟨.new, (.q .lenS), [.t 18], (some (16, true))⟩,
      ⟨.new, (.q (.bin .sub)), [.t 19, .c (.int 1)], (some (16, true))⟩,
      ⟨.new, (.q .idxS), [.t 17, .t 20], (some (16, true))⟩,
      ⟨.new, (.q .mv), [.t 7], (some (16, true))⟩,
      ⟨.new, (.q (.cv .u64)), [.t 22], (some (16, true))⟩,
      ⟨.new, (.q (.bin .shr)), [.t 21, .t 23], (some (16, true))⟩,
      ⟨.new, (.q (.bin .neq)), [.t 24, .c (.u8 0)], (some (16, true))⟩,
      ⟨.var 13, (.q .pick), [.t 16, .t 25, .c (.bool false)], none⟩])
    (.cond (.t 13) (.seq (.reg [⟨.new, (.e (.bld (.st [.leaf, .leaf]) (.agg [(.int 0), .nils]) [])), [], none⟩,
      ⟨.none, (.e (.store (.st [.leaf, .leaf]))), [.t 2, .t 14], none⟩,
      ⟨.var 3, (.q .mv), [.c (.int 13)], none⟩])
    .ret)
    .skip)))
    (.seq (.reg [⟨.new, (.q (.ld (.st [.leaf, .leaf]))), [.t 4], none⟩,
      ⟨.none, (.e (.store (.st [.leaf, .leaf]))), [.t 2, .t 14], none⟩,
      ⟨.var 3, (.q .mv), [.c (.int 0)], none⟩])
    .ret))))))),
    [.cell 2 (.st [.leaf, .leaf]), .t 3]⟩

/-- trefoil/trefoilref02.Read (0:n, 1:s, 4:, 5:, 6:out, 7:i, 8:b, 14:, 24:, 29:, 47:, 50:) -/
def s70 : FnS := ⟨56, [0, 1, 4, 5, 6, 7, 8, 14, 24, 29, 47, 50],
    (.seq (.reg [⟨.var 2, (.q .mv), [.c .nils], none⟩,
      ⟨.var 3, (.q .mv), [.c (.int 0)], none⟩])
    (.seq (.seq (.reg [⟨.new, (.q .mv), [.t 0], none⟩,
      ⟨.new, (.q (.bin .lss)), [.t 12, .c (.int 0)], none⟩,
      ⟨.new, (.q .mv), [.t 13], none⟩,
      ⟨.new, (.q .mv), [.t 0], (some (14, false))⟩,
      ⟨.new, (.q (.bin .gtr)), [.t 15, .c (.int 4194304)], (some (14, false))⟩,
      ⟨.var 7, (.q .pick), [.t 14, .c (.bool true), .t 16], none⟩])
    (.cond (.t 7) (.seq (.reg [⟨.var 2, (.q .mv), [.c .nils], none⟩,
      ⟨.var 3, (.q .mv), [.c (.int 2)], none⟩])
    .ret)
    .skip))
    (.seq (.seq (.reg [⟨.new, (.q .mv), [.t 1], none⟩,
      ⟨.new, (.q .lenS), [.t 12], none⟩,
      ⟨.new, (.q .mv), [.t 0], none⟩,
      ⟨.new, (.q (.bin .quo)), [.t 14, .c (.int 8)], none⟩,
      ⟨.new, (.q .mv), [.t 0], none⟩,
      ⟨.new, (.q (.bin .rem)), [.t 16, .c (.int 8)], none⟩,
      ⟨.new, (.q (.bin .add)), [.t 17, .c (.int 7)], none⟩,
      ⟨.new, (.q (.bin .quo)), [.t 18, .c (.int 8)], none⟩,
      ⟨.new, (.q (.bin .add)), [.t 15, .t 19], none⟩,
      ⟨.var 8, (.q (.bin .neq)), [.t 13, .t 20], none⟩])
    (.cond (.t 8) (.seq (.reg [⟨.var 2, (.q .mv), [.c .nils], none⟩,
      ⟨.var 3, (.q .mv), [.c (.int 11)], none⟩])
    .ret)
    .skip))
    (.seq (.reg [⟨.var 4, (.q .mv), [.c .nils], none⟩])
    (.seq (.seq (.reg [⟨.var 5, (.q .mv), [.c (.int 0)], none⟩])
    (.block 0 (.loop (.seq (.seq (.reg [⟨.new, (.q .mv), [.t 5], none⟩,
      ⟨.new, (.q .mv), [.t 1], none⟩,
      ⟨.new, (.q .lenS), [.t 13], none⟩,
      ⟨.new, (.q (.bin .mul)), [.c (.int 8), .t 14], none⟩,
      ⟨.var 9, (.q (.bin .lss)), [.t 12, .t 15], none⟩])
    (.cond (.t 9) .skip
    (.exit 0)))
    (.seq (.block 1 (.seq (.reg [⟨.new, (.q .mv), [.t 1], none⟩,
      ⟨.new, (.q .mv), [.t 5], none⟩,
      ⟨.new, (.q (.bin .quo)), [.t 13, .c (.int 8)], none⟩,
      ⟨.new, (.q .idxS), [.t 12, .t 14], none⟩,
      ⟨.new, (.q .mv), [.t 5], none⟩,
      ⟨.new, (.q (.bin .rem)), [.t 16, .c (.int 8)], none⟩,
      ⟨.new, (.q (.cv .u64)), [.t 17], none⟩,
      ⟨.new, (.q (.bin .shr)), [.t 15, .t 18], none⟩,
      ⟨.new, (.q (.bin .rem)), [.t 19, .c (.u8 2)], none⟩,
      ⟨.new, (.q (.bin .eql)), [.t 20, .c (.u8 1)], none⟩,
      ⟨.var 6, (.q .mv), [.t 21], none⟩])
    (.seq (.seq (.reg [⟨.new, (.q .mv), [.t 5], none⟩,
      ⟨.new, (.q .mv), [.t 0], none⟩,
      ⟨.new, (.q (.bin .geq)), [.t 12, .t 13], none⟩,
      ⟨.new, (.q .mv), [.t 14], none⟩,
      ⟨.new, (.q .mv), [.t 6], (some (15, true))⟩,
      ⟨.var 10, (.q .pick), [.t 15, .t 16, .c (.bool false)], none⟩])
    (.cond (.t 10) (.seq (.reg [⟨.var 2, (.q .mv), [.c .nils], none⟩,
      ⟨.var 3, (.q .mv), [.c (.int 13)], none⟩])
    .ret)
    .skip))
    (.seq (.reg [⟨.new, (.q .mv), [.t 5], none⟩,
      ⟨.new, (.q .mv), [.t 0], none⟩,
      ⟨.var 11, (.q (.bin .lss)), [.t 12, .t 13], none⟩])
    (.cond (.t 11) (.reg [⟨.new, (.q .mv), [.t 4], none⟩,
      ⟨.new, (.q .mv), [.t 6], none⟩,
      ⟨.new, (.e (.bsl 4 .leaf (.bool false) 1 [0])), [.t 13], none⟩,
      ⟨.new, (.e (.app 4 .leaf 1)), [.t 12, .t 14], none⟩,
      ⟨.var 4, (.q .mv), [.t 15], none⟩])
    .skip)))))
    (.reg [⟨.new, (.q .mv), [.t 5], none⟩,
      ⟨.new, (.q (.bin .add)), [.t 12, .c (.int 1)], none⟩,
      ⟨.var 5, (.q .mv), [.t 13], none⟩]))))))
    (.seq (.reg [⟨.new, (.q .mv), [.t 4], none⟩,
      ⟨.var 2, (.q .mv), [.t 12], none⟩,
      ⟨.var 3, (.q .mv), [.c (.int 0)], none⟩])
    .ret)))))),
    [.t 2, .t 3]⟩

/-- (trefoil/bits.Vec).Bytes (0:v, 1:v, 2:, 3:b, 4:i, 11:, 12:, 13:) -/
def s71 : FnS := ⟨33, [0, 1, 2, 3, 4, 11, 12, 13],
    (.seq (.reg [⟨.var 1, (.e (.box 77 (.st [.leaf, .leaf]))), [.t 0], none⟩,
      ⟨.var 2, (.q .mv), [.c (.str [])], none⟩])
    (.seq (.reg [⟨.new, (.q (.fa [.leaf, .leaf] 0)), [.t 1], none⟩,
      ⟨.new, (.q (.ld .leaf)), [.t 8], none⟩,
      ⟨.new, (.q (.bin .add)), [.t 9, .c (.int 7)], none⟩,
      ⟨.new, (.q (.bin .quo)), [.t 10, .c (.int 8)], none⟩,
      ⟨.new, (.e (.mksl 5 .leaf 1 (.u8 0))), [.t 11, .t 11], none⟩,
      ⟨.var 3, (.q .mv), [.t 12], none⟩])
    (.seq (.seq (.reg [⟨.new, (.q .mv), [.t 3], none⟩,
      ⟨.var 5, (.q .len), [.t 8], none⟩,
      ⟨.var 6, (.q .mv), [.c (.int 0)], none⟩])
    (.block 0 (.loop (.seq (.reg [⟨.var 7, (.q (.bin .lss)), [.t 6, .t 5], none⟩])
    (.seq (.cond (.t 7) .skip
    (.exit 0))
    (.seq (.block 1 (.seq (.reg [⟨.new, (.q .mv), [.t 6], none⟩,
      ⟨.var 4, (.q .mv), [.t 8], none⟩])
    (.reg [⟨.new, (.q .mv), [.t 3], none⟩,
      ⟨.new, (.q .mv), [.t 4], none⟩,
      ⟨.new, (.q (.fa [.leaf, .leaf] 1)), [.t 1], none⟩,
      ⟨.new, (.q (.ld .leaf)), [.t 10], none⟩,
      ⟨.new, (.q .mv), [.t 4], none⟩,
      ⟨.new, (.q (.bin .quo)), [.t 12, .c (.int 8)], none⟩,
      ⟨.new, (.q (.iaS .leaf)), [.t 11, .t 13], none⟩,
      ⟨.new, (.q (.ld .leaf)), [.t 14], none⟩,
      ⟨.new, (.q .mv), [.t 4], none⟩,
      ⟨.new, (.q (.bin .rem)), [.t 16, .c (.int 8)], none⟩,
      ⟨.new, (.q (.bin .mul)), [.c (.int 8), .t 17], none⟩,
      ⟨.new, (.q (.cv .u64)), [.t 18], none⟩,
      ⟨.new, (.q (.bin .shr)), [.t 15, .t 19], none⟩,
      ⟨.new, (.q (.cv .u8)), [.t 20], none⟩,
      ⟨.new, (.q (.iaS .leaf)), [.t 8, .t 9], none⟩,
      ⟨.none, (.e (.store .leaf)), [.t 22, .t 21], none⟩])))
    (.reg [⟨.new, (.q (.bin .add)), [.t 6, .c (.int 1)], none⟩,
      ⟨.var 6, (.q .mv), [.t 8], none⟩])))))))
    (.seq (.reg [⟨.new, (.q .mv), [.t 3], none⟩,
      ⟨.new, (.q .b2s), [.t 8], none⟩,
      ⟨.var 2, (.q .mv), [.t 9], none⟩])
    .ret)))),
    [.t 2]⟩

/-- (trefoil/bits.Vec).Part (0:v, 1:from, 2:to, 3:v, 6:, 7:, 8:out, 9:i, 22:, 35:, 36:, 37:) -/
def s73 : FnS := ⟨53, [0, 1, 2, 3, 6, 7, 8, 9, 22, 35, 36, 37],
    (.seq (.reg [⟨.var 3, (.e (.box 77 (.st [.leaf, .leaf]))), [.t 0], none⟩,
      ⟨.var 4, (.e (.alloc 77 (.st [.leaf, .leaf]) (.agg [(.int 0), .nils]))), [], none⟩,
      ⟨.var 5, (.q .mv), [.c (.int 0)], none⟩])
    (.seq (.seq (.reg [⟨.new, (.q .mv), [.t 1], none⟩,
      ⟨.new, (.q (.bin .lss)), [.t 12, .c (.int 0)], none⟩,
      ⟨.new, (.q .mv), [.t 13], none⟩,
      ⟨.new, (.q .mv), [.t 1], (some (14, false))⟩,
      ⟨.new, (.q .mv), [.t 2], (some (14, false))⟩,
      ⟨.new, (.q (.bin .gtr)), [.t 15, .t 16], (some (14, false))⟩,
      ⟨.new, (.q .pick), [.t 14, .c (.bool true), .t 17], none⟩,
      ⟨.new, (.q .mv), [.t 18], none⟩,
      ⟨.new, (.q .mv), [.t 2], (some (19, false))⟩,
      ⟨.new, (.q (.fa [.leaf, .leaf] 0)), [.t 3], (some (19, false))⟩,
      ⟨.new, (.q (.ld .leaf)), [.t 21], (some (19, false))⟩,
      ⟨.new, (.q (.bin .gtr)), [.t 20, .t 22], (some (19, false))⟩,
      ⟨.var 8, (.q .pick), [.t 19, .c (.bool true), .t 23], none⟩])
    (.cond (.t 8) (.seq (.reg [⟨.new, (.e (.bld (.st [.leaf, .leaf]) (.agg [(.int 0), .nils]) [])), [], none⟩,
      ⟨.none, (.e (.store (.st [.leaf, .leaf]))), [.t 4, .t 12], none⟩,
      ⟨.var 5, (.q .mv), [.c (.int 1)], none⟩])
    .ret)
    .skip))
    (.seq (.reg [⟨.new, (.q .mv), [.t 2], none⟩,
      ⟨.new, (.q .mv), [.t 1], none⟩,
      ⟨.new, (.q (.bin .sub)), [.t 12, .t 13], none⟩,
      ⟨.new, (.q .mv), [.t 2], none⟩,
      ⟨.new, (.q .mv), [.t 1], none⟩,
      ⟨.new, (.q (.bin .sub)), [.t 15, .t 16], none⟩,
      ⟨.new, (.call 83), [.t 17], none⟩,
      ⟨.new, (.e (.mksl 22 .leaf 8 (.u64 0))), [.t 18, .t 18], none⟩,
      ⟨.new, (.e (.bld (.st [.leaf, .leaf]) (.agg [(.int 0), .nils]) [0, 1])), [.t 14, .t 19], none⟩,
      ⟨.var 6, (.e (.alloc 77 (.st [.leaf, .leaf]) (.agg [(.int 0), .nils]))), [], none⟩,
      ⟨.none, (.e (.store (.st [.leaf, .leaf]))), [.t 6, .t 20], none⟩])
    (.seq (.seq (.reg [⟨.new, (.q (.fa [.leaf, .leaf] 1)), [.t 6], none⟩,
      ⟨.new, (.q (.ld .leaf)), [.t 12], none⟩,
      ⟨.var 9, (.q .len), [.t 13], none⟩,
      ⟨.var 10, (.q .mv), [.c (.int 0)], none⟩])
    (.block 0 (.loop (.seq (.reg [⟨.var 11, (.q (.bin .lss)), [.t 10, .t 9], none⟩])
    (.seq (.cond (.t 11) .skip
    (.exit 0))
    (.seq (.block 1 (.seq (.reg [⟨.new, (.q .mv), [.t 10], none⟩,
      ⟨.var 7, (.q .mv), [.t 12], none⟩])
    (.draw [⟨.new, (.q (.fa [.leaf, .leaf] 1)), [.t 6], none⟩,
      ⟨.new, (.q (.ld .leaf)), [.t 12], none⟩,
      ⟨.new, (.q .mv), [.t 7], none⟩,
      ⟨.new, (.q (.ld (.st [.leaf, .leaf]))), [.t 3], none⟩,
      ⟨.new, (.q .mv), [.t 1], none⟩,
      ⟨.new, (.q .mv), [.t 7], none⟩,
      ⟨.new, (.q (.bin .mul)), [.c (.int 64), .t 17], none⟩,
      ⟨.new, (.q (.bin .add)), [.t 16, .t 18], none⟩,
      ⟨.new, (.call 86), [.t 15, .t 19], none⟩,
      ⟨.new, (.q (.iaS .leaf)), [.t 13, .t 14], none⟩,
      ⟨.none, (.e (.store .leaf)), [.t 21, .t 20], none⟩])))
    (.reg [⟨.new, (.q (.bin .add)), [.t 10, .c (.int 1)], none⟩,
      ⟨.var 10, (.q .mv), [.t 12], none⟩])))))))
    (.seq (.reg [⟨.new, (.q (.ld (.st [.leaf, .leaf]))), [.t 6], none⟩,
      ⟨.new, (.call 84), [.t 12], none⟩])
    (.seq (.reg [⟨.new, (.q (.ld (.st [.leaf, .leaf]))), [.t 6], none⟩,
      ⟨.none, (.e (.store (.st [.leaf, .leaf]))), [.t 4, .t 12], none⟩,
      ⟨.var 5, (.q .mv), [.c (.int 0)], none⟩])
    .ret)))))),
    [.cell 4 (.st [.leaf, .leaf]), .t 5]⟩

/-- trefoil/bits.Of (0:l, 2:, 3:, 4:v, 5:e, 6:i, 7:b, 15:, 18:, 19:, 20:, 21:, 25:) -/
def s75 : FnS := ⟨40, [0, 2, 3, 4, 5, 6, 7, 15, 18, 19, 20, 21, 25],
    (.seq (.reg [⟨.var 1, (.e (.alloc 77 (.st [.leaf, .leaf]) (.agg [(.int 0), .nils]))), [], none⟩,
      ⟨.var 2, (.q .mv), [.c (.int 0)], none⟩])
    (.seq (.reg [⟨.new, (.q .mv), [.t 0], none⟩,
      ⟨.new, (.q .len), [.t 13], none⟩,
      ⟨.new, (.call 82), [.t 14], none⟩,
      ⟨.new, (.q .mv), [.t 15], none⟩,
      ⟨.new, (.q (.ext 0)), [.t 16], none⟩,
      ⟨.new, (.q (.ext 1)), [.t 16], none⟩,
      ⟨.var 3, (.e (.alloc 77 (.st [.leaf, .leaf]) (.agg [(.int 0), .nils]))), [], none⟩,
      ⟨.none, (.e (.store (.st [.leaf, .leaf]))), [.t 3, .t 17], none⟩,
      ⟨.var 4, (.q .mv), [.t 18], none⟩])
    (.seq (.seq (.reg [⟨.new, (.q .mv), [.t 4], none⟩,
      ⟨.var 7, (.q (.bin .neq)), [.t 13, .c (.int 0)], none⟩])
    (.cond (.t 7) (.seq (.reg [⟨.new, (.e (.bld (.st [.leaf, .leaf]) (.agg [(.int 0), .nils]) [])), [], none⟩,
      ⟨.new, (.q .mv), [.t 4], none⟩,
      ⟨.none, (.e (.store (.st [.leaf, .leaf]))), [.t 1, .t 13], none⟩,
      ⟨.var 2, (.q .mv), [.t 14], none⟩])
    .ret)
    .skip))
    (.seq (.seq (.reg [⟨.var 8, (.q .mv), [.t 0], none⟩,
      ⟨.var 9, (.q .len), [.t 8], none⟩,
      ⟨.var 10, (.q .mv), [.c (.int 0)], none⟩])
    (.block 0 (.loop (.seq (.reg [⟨.var 11, (.q (.bin .lss)), [.t 10, .t 9], none⟩])
    (.seq (.cond (.t 11) .skip
    (.exit 0))
    (.seq (.block 1 (.seq (.reg [⟨.new, (.q .mv), [.t 10], none⟩,
      ⟨.new, (.q (.iaS .leaf)), [.t 8, .t 10], none⟩,
      ⟨.new, (.q (.ld .leaf)), [.t 14], none⟩,
      ⟨.var 5, (.q .mv), [.t 13], none⟩,
      ⟨.var 6, (.q .mv), [.t 15], none⟩])
    (.seq (.reg [⟨.var 12, (.q .mv), [.t 6], none⟩])
    (.cond (.t 12) (.reg [⟨.new, (.q (.fa [.leaf, .leaf] 1)), [.t 3], none⟩,
      ⟨.new, (.q (.ld .leaf)), [.t 13], none⟩,
      ⟨.new, (.q .mv), [.t 5], none⟩,
      ⟨.new, (.q (.bin .quo)), [.t 15, .c (.int 64)], none⟩,
      ⟨.new, (.q (.iaS .leaf)), [.t 14, .t 16], none⟩,
      ⟨.new, (.q (.ld .leaf)), [.t 17], none⟩,
      ⟨.new, (.q .mv), [.t 5], none⟩,
      ⟨.new, (.q (.bin .rem)), [.t 19, .c (.int 64)], none⟩,
      ⟨.new, (.q (.cv .u64)), [.t 20], none⟩,
      ⟨.new, (.q (.bin .shl)), [.c (.u64 1), .t 21], none⟩,
      ⟨.new, (.q (.bin .or)), [.t 18, .t 22], none⟩,
      ⟨.new, (.q (.iaS .leaf)), [.t 14, .t 16], none⟩,
      ⟨.none, (.e (.store .leaf)), [.t 24, .t 23], none⟩])
    .skip))))
    (.reg [⟨.new, (.q (.bin .add)), [.t 10, .c (.int 1)], none⟩,
      ⟨.var 10, (.q .mv), [.t 13], none⟩])))))))
    (.seq (.reg [⟨.new, (.q (.ld (.st [.leaf, .leaf]))), [.t 3], none⟩,
      ⟨.none, (.e (.store (.st [.leaf, .leaf]))), [.t 1, .t 13], none⟩,
      ⟨.var 2, (.q .mv), [.c (.int 0)], none⟩])
    .ret))))),
    [.cell 1 (.st [.leaf, .leaf]), .t 2]⟩

/-- trefoil/trefoilref02.Bytes (0:l, 2:, 3:out, 4:i, 8:, 13:, 20:) -/
def s76 : FnS := ⟨37, [0, 2, 3, 4, 8, 13, 20],
    (.seq (.reg [⟨.var 1, (.q .mv), [.c (.str [])], none⟩])
    (.seq (.reg [⟨.var 2, (.q .mv), [.c .nils], none⟩])
    (.seq (.seq (.reg [⟨.var 3, (.q .mv), [.c (.int 0)], none⟩])
    (.block 0 (.loop (.seq (.seq (.reg [⟨.new, (.q .mv), [.t 3], none⟩,
      ⟨.new, (.q .mv), [.t 0], none⟩,
      ⟨.new, (.q .len), [.t 8], none⟩,
      ⟨.var 4, (.q (.bin .lss)), [.t 7, .t 9], none⟩])
    (.cond (.t 4) .skip
    (.exit 0)))
    (.seq (.block 1 (.seq (.seq (.reg [⟨.new, (.q .mv), [.t 3], none⟩,
      ⟨.new, (.q (.bin .rem)), [.t 7, .c (.int 8)], none⟩,
      ⟨.var 5, (.q (.bin .eql)), [.t 8, .c (.int 0)], none⟩])
    (.cond (.t 5) (.reg [⟨.new, (.q .mv), [.t 2], none⟩,
      ⟨.new, (.e (.bsl 5 .leaf (.u8 0) 1 [0])), [.c (.u8 0)], none⟩,
      ⟨.new, (.e (.app 5 .leaf 1)), [.t 7, .t 8], none⟩,
      ⟨.var 2, (.q .mv), [.t 9], none⟩])
    .skip))
    (.seq (.reg [⟨.new, (.q .mv), [.t 0], none⟩,
      ⟨.new, (.q .mv), [.t 3], none⟩,
      ⟨.new, (.q (.iaS .leaf)), [.t 7, .t 8], none⟩,
      ⟨.var 6, (.q (.ld .leaf)), [.t 9], none⟩])
    (.cond (.t 6) (.reg [⟨.new, (.q .mv), [.t 2], none⟩,
      ⟨.new, (.q .mv), [.t 3], none⟩,
      ⟨.new, (.q (.bin .quo)), [.t 8, .c (.int 8)], none⟩,
      ⟨.new, (.q .mv), [.t 2], none⟩,
      ⟨.new, (.q .mv), [.t 3], none⟩,
      ⟨.new, (.q (.bin .quo)), [.t 11, .c (.int 8)], none⟩,
      ⟨.new, (.q (.iaS .leaf)), [.t 10, .t 12], none⟩,
      ⟨.new, (.q (.ld .leaf)), [.t 13], none⟩,
      ⟨.new, (.q .mv), [.t 3], none⟩,
      ⟨.new, (.q (.bin .rem)), [.t 15, .c (.int 8)], none⟩,
      ⟨.new, (.q (.cv .u64)), [.t 16], none⟩,
      ⟨.new, (.q (.bin .shl)), [.c (.u8 1), .t 17], none⟩,
      ⟨.new, (.q (.bin .add)), [.t 14, .t 18], none⟩,
      ⟨.new, (.q (.iaS .leaf)), [.t 7, .t 9], none⟩,
      ⟨.none, (.e (.store .leaf)), [.t 20, .t 19], none⟩])
    .skip))))
    (.reg [⟨.new, (.q .mv), [.t 3], none⟩,
      ⟨.new, (.q (.bin .add)), [.t 7, .c (.int 1)], none⟩,
      ⟨.var 3, (.q .mv), [.t 8], none⟩]))))))
    (.seq (.reg [⟨.new, (.q .mv), [.t 2], none⟩,
      ⟨.new, (.q .b2s), [.t 7], none⟩,
      ⟨.var 1, (.q .mv), [.t 8], none⟩])
    .ret)))),
    [.t 1]⟩

/-- math/bits.OnesCount64 (0:x, 2:) -/
def s81 : FnS := ⟨35, [0, 2],
    (.seq (.reg [⟨.var 1, (.q .mv), [.c (.int 0)], none⟩])
    (.seq (.reg [⟨.new, (.q .mv), [.t 0], none⟩,
      ⟨.new, (.q (.bin .shr)), [.t 2, .c (.u64 1)], none⟩,
      ⟨.new, (.q (.bin .and)), [.t 3, .c (.u64 6148914691236517205)], none⟩,
      ⟨.new, (.q .mv), [.t 0], none⟩,
      ⟨.new, (.q (.bin .and)), [.t 5, .c (.u64 6148914691236517205)], none⟩,
      ⟨.new, (.q (.bin .add)), [.t 4, .t 6], none⟩,
      ⟨.var 0, (.q .mv), [.t 7], none⟩])
    (.seq (.reg [⟨.new, (.q .mv), [.t 0], none⟩,
      ⟨.new, (.q (.bin .shr)), [.t 2, .c (.u64 2)], none⟩,
      ⟨.new, (.q (.bin .and)), [.t 3, .c (.u64 3689348814741910323)], none⟩,
      ⟨.new, (.q .mv), [.t 0], none⟩,
      ⟨.new, (.q (.bin .and)), [.t 5, .c (.u64 3689348814741910323)], none⟩,
      ⟨.new, (.q (.bin .add)), [.t 4, .t 6], none⟩,
      ⟨.var 0, (.q .mv), [.t 7], none⟩])
    (.seq (.reg [⟨.new, (.q .mv), [.t 0], none⟩,
      ⟨.new, (.q (.bin .shr)), [.t 2, .c (.u64 4)], none⟩,
      ⟨.new, (.q .mv), [.t 0], none⟩,
      ⟨.new, (.q (.bin .add)), [.t 3, .t 4], none⟩,
      ⟨.new, (.q (.bin .and)), [.t 5, .c (.u64 1085102592571150095)], none⟩,
      ⟨.var 0, (.q .mv), [.t 6], none⟩])
    (.seq (.reg [⟨.new, (.q .mv), [.t 0], none⟩,
      ⟨.new, (.q .mv), [.t 0], none⟩,
      ⟨.new, (.q (.bin .shr)), [.t 3, .c (.u64 8)], none⟩,
      ⟨.new, (.q (.bin .add)), [.t 2, .t 4], none⟩,
      ⟨.var 0, (.q .mv), [.t 5], none⟩])
    (.seq (.reg [⟨.new, (.q .mv), [.t 0], none⟩,
      ⟨.new, (.q .mv), [.t 0], none⟩,
      ⟨.new, (.q (.bin .shr)), [.t 3, .c (.u64 16)], none⟩,
      ⟨.new, (.q (.bin .add)), [.t 2, .t 4], none⟩,
      ⟨.var 0, (.q .mv), [.t 5], none⟩])
    (.seq (.reg [⟨.new, (.q .mv), [.t 0], none⟩,
      ⟨.new, (.q .mv), [.t 0], none⟩,
      ⟨.new, (.q (.bin .shr)), [.t 3, .c (.u64 32)], none⟩,
      ⟨.new, (.q (.bin .add)), [.t 2, .t 4], none⟩,
      ⟨.var 0, (.q .mv), [.t 5], none⟩])
    (.seq (.reg [⟨.new, (.q .mv), [.t 0], none⟩,
      ⟨.new, (.q (.cv .i64)), [.t 2], none⟩,
      ⟨.new, (.q (.bin .and)), [.t 3, .c (.int 127)], none⟩,
      ⟨.var 1, (.q .mv), [.t 4], none⟩])
    .ret)))))))),
    [.t 1]⟩

/-- trefoil/bits.New (0:n, 2:, 3:, 9:) -/
def s82 : FnS := ⟨16, [0, 2, 3, 9],
    (.seq (.reg [⟨.var 1, (.e (.alloc 77 (.st [.leaf, .leaf]) (.agg [(.int 0), .nils]))), [], none⟩,
      ⟨.var 2, (.q .mv), [.c (.int 0)], none⟩])
    (.seq (.seq (.reg [⟨.new, (.q .mv), [.t 0], none⟩,
      ⟨.new, (.q (.bin .lss)), [.t 4, .c (.int 0)], none⟩,
      ⟨.new, (.q .mv), [.t 5], none⟩,
      ⟨.new, (.q .mv), [.t 0], (some (6, false))⟩,
      ⟨.new, (.q (.bin .gtr)), [.t 7, .c (.int 4194304)], (some (6, false))⟩,
      ⟨.var 3, (.q .pick), [.t 6, .c (.bool true), .t 8], none⟩])
    (.cond (.t 3) (.seq (.reg [⟨.new, (.e (.bld (.st [.leaf, .leaf]) (.agg [(.int 0), .nils]) [])), [], none⟩,
      ⟨.none, (.e (.store (.st [.leaf, .leaf]))), [.t 1, .t 4], none⟩,
      ⟨.var 2, (.q .mv), [.c (.int 2)], none⟩])
    .ret)
    .skip))
    (.seq (.reg [⟨.new, (.q .mv), [.t 0], none⟩,
      ⟨.new, (.q .mv), [.t 0], none⟩,
      ⟨.new, (.call 83), [.t 5], none⟩,
      ⟨.new, (.e (.mksl 22 .leaf 8 (.u64 0))), [.t 6, .t 6], none⟩,
      ⟨.new, (.e (.bld (.st [.leaf, .leaf]) (.agg [(.int 0), .nils]) [0, 1])), [.t 4, .t 7], none⟩,
      ⟨.none, (.e (.store (.st [.leaf, .leaf]))), [.t 1, .t 8], none⟩,
      ⟨.var 2, (.q .mv), [.c (.int 0)], none⟩])
    .ret))),
    [.cell 1 (.st [.leaf, .leaf]), .t 2]⟩

/-- trefoil/bits.words (0:n, 2:) -/
def s83 : FnS := ⟨6, [0, 2],
    (.seq (.reg [⟨.var 1, (.q .mv), [.c (.int 0)], none⟩])
    (.seq (.reg [⟨.new, (.q .mv), [.t 0], none⟩,
      ⟨.new, (.q (.bin .add)), [.t 2, .c (.int 63)], none⟩,
      ⟨.new, (.q (.bin .quo)), [.t 3, .c (.int 64)], none⟩,
      ⟨.var 1, (.q .mv), [.t 4], none⟩])
    .ret)),
    [.t 1]⟩

/-- (trefoil/bits.Vec).trim (0:v, 1:v, 2:r, 7:) -/
def s84 : FnS := ⟨22, [0, 1, 2, 7],
    (.seq (.reg [⟨.var 1, (.e (.box 77 (.st [.leaf, .leaf]))), [.t 0], none⟩])
    (.seq (.reg [⟨.new, (.q (.fa [.leaf, .leaf] 0)), [.t 1], none⟩,
      ⟨.new, (.q (.ld .leaf)), [.t 4], none⟩,
      ⟨.new, (.q (.bin .rem)), [.t 5, .c (.int 64)], none⟩,
      ⟨.var 2, (.q .mv), [.t 6], none⟩])
    (.seq (.reg [⟨.new, (.q .mv), [.t 2], none⟩,
      ⟨.var 3, (.q (.bin .neq)), [.t 4, .c (.int 0)], none⟩])
    (.cond (.t 3) (.reg [⟨.new, (.q (.fa [.leaf, .leaf] 1)), [.t 1], none⟩,
      ⟨.new, (.q (.ld .leaf)), [.t 4], none⟩,
      ⟨.new, (.q (.fa [.leaf, .leaf] 1)), [.t 1], none⟩,
      ⟨.new, (.q (.ld .leaf)), [.t 6], none⟩,
      ⟨.new, (.q .len), [.t 7], none⟩,
      ⟨.new, (.q (.bin .sub)), [.t 8, .c (.int 1)], none⟩,
      ⟨.new, (.q (.iaS .leaf)), [.t 5, .t 9], none⟩,
      ⟨.new, (.q (.ld .leaf)), [.t 10], none⟩,
      ⟨.new, (.q .mv), [.t 2], none⟩,
      ⟨.new, (.q (.cv .u64)), [.t 12], none⟩,
      ⟨.new, (.q (.bin .shl)), [.c (.u64 1), .t 13], none⟩,
      ⟨.new, (.q (.bin .sub)), [.t 14, .c (.u64 1)], none⟩,
      ⟨.new, (.q (.bin .and)), [.t 11, .t 15], none⟩,
      ⟨.new, (.q (.iaS .leaf)), [.t 5, .t 9], none⟩,
      ⟨.none, (.e (.store .leaf)), [.t 17, .t 16], none⟩])
    .skip)))),
    []⟩

/-- slices.Clone[[]uint64,uint64] (0:s, 2:, 4:) -/
def s85 : FnS := ⟨8, [0, 2, 4],
    (.seq (.reg [⟨.var 1, (.q .mv), [.c .nils], none⟩])
    (.seq (.seq (.reg [⟨.new, (.q .mv), [.t 0], none⟩,
      ⟨.var 2, (.nilq false), [.t 3], none⟩])
    (.cond (.t 2) (.seq (.reg [⟨.var 1, (.q .mv), [.c .nils], none⟩])
    .ret)
    .skip))
    (.seq (.reg [⟨.new, (.e (.bsl 22 .leaf (.u64 0) 0 [])), [], none⟩,
      ⟨.new, (.q .mv), [.t 0], none⟩,
      ⟨.new, (.e (.app 22 .leaf 8)), [.t 3, .t 4], none⟩,
      ⟨.var 1, (.q .mv), [.t 5], none⟩])
    .ret))),
    [.t 1]⟩

/-- (trefoil/bits.Vec).word (0:v, 1:at, 2:v, 4:, 5:i, 6:r, 7:x, 17:, 34:) -/
def s86 : FnS := ⟨47, [0, 1, 2, 4, 5, 6, 7, 17, 34],
    (.seq (.reg [⟨.var 2, (.e (.box 77 (.st [.leaf, .leaf]))), [.t 0], none⟩,
      ⟨.var 3, (.q .mv), [.c (.u64 0)], none⟩])
    (.seq (.reg [⟨.new, (.q .mv), [.t 1], none⟩,
      ⟨.new, (.q (.bin .quo)), [.t 9, .c (.int 64)], none⟩,
      ⟨.new, (.q .mv), [.t 1], none⟩,
      ⟨.new, (.q (.bin .rem)), [.t 11, .c (.int 64)], none⟩,
      ⟨.new, (.q (.cv .u64)), [.t 12], none⟩,
      ⟨.var 4, (.q .mv), [.t 10], none⟩,
      ⟨.var 5, (.q .mv), [.t 13], none⟩])
    (.seq (.reg [⟨.var 6, (.q .mv), [.c (.u64 0)], none⟩])
    (.seq (.seq (.reg [⟨.new, (.q .mv), [.t 4], none⟩,
      ⟨.new, (.q (.fa [.leaf, .leaf] 1)), [.t 2], none⟩,
      ⟨.new, (.q (.ld .leaf)), [.t 10], none⟩,
      ⟨.new, (.q .len), [.t 11], none⟩,
      ⟨.var 7, (.q (.bin .lss)), [.t 9, .t 12], none⟩])
    (.cond (.t 7) (.reg [⟨.new, (.q (.fa [.leaf, .leaf] 1)), [.t 2], none⟩,
      ⟨.new, (.q (.ld .leaf)), [.t 9], none⟩,
      ⟨.new, (.q .mv), [.t 4], none⟩,
      ⟨.new, (.q (.iaS .leaf)), [.t 10, .t 11], none⟩,
      ⟨.new, (.q (.ld .leaf)), [.t 12], none⟩,
      ⟨.new, (.q .mv), [.t 5], none⟩,
      ⟨.new, (.q (.bin .shr)), [.t 13, .t 14], none⟩,
      ⟨.var 6, (.q .mv), [.t 15], none⟩])
    .skip))
    (.seq (.seq (.reg [⟨.new, (.q .mv), [.t 5], none⟩,
      ⟨.new, (.q (.bin .gtr)), [.t 9, .c (.u64 0)], none⟩,
      ⟨.new, (.q .mv), [.t 10], none⟩,
      ⟨.new, (.q .mv), [.t 4], (some (11, true))⟩,
      ⟨.new, (.q (.bin .add)), [.t 12, .c (.int 1)], (some (11, true))⟩,
      ⟨.new, (.q (.fa [.leaf, .leaf] 1)), [.t 2], (some (11, true))⟩,
      ⟨.new, (.q (.ld .leaf)), [.t 14], (some (11, true))⟩,
      ⟨.new, (.q .len), [.t 15], (some (11, true))⟩,
      ⟨.new, (.q (.bin .lss)), [.t 13, .t 16], (some (11, true))⟩,
      ⟨.var 8, (.q .pick), [.t 11, .t 17, .c (.bool false)], none⟩])
    (.cond (.t 8) (.reg [⟨.new, (.q .mv), [.t 6], none⟩,
      ⟨.new, (.q (.fa [.leaf, .leaf] 1)), [.t 2], none⟩,
      ⟨.new, (.q (.ld .leaf)), [.t 10], none⟩,
      ⟨.new, (.q .mv), [.t 4], none⟩,
      ⟨.new, (.q (.bin .add)), [.t 12, .c (.int 1)], none⟩,
      ⟨.new, (.q (.iaS .leaf)), [.t 11, .t 13], none⟩,
      ⟨.new, (.q (.ld .leaf)), [.t 14], none⟩,
      ⟨.new, (.q .mv), [.t 5], none⟩,
      ⟨.new, (.q (.bin .sub)), [.c (.u64 64), .t 16], none⟩,
      ⟨.new, (.q (.bin .shl)), [.t 15, .t 17], none⟩,
      ⟨.new, (.q (.bin .or)), [.t 9, .t 18], none⟩,
      ⟨.var 6, (.q .mv), [.t 19], none⟩])
    .skip))
    (.seq (.reg [⟨.new, (.q .mv), [.t 6], none⟩,
      ⟨.var 3, (.q .mv), [.t 9], none⟩])
    .ret)))))),
    [.t 3]⟩

theorem c38 : cF P [] (drP P []) 38 2 s38.vm = some s38 := by kernel_rfl
theorem c39 : cF P [] (drP P []) 39 1 s39.vm = some s39 := by kernel_rfl
theorem c55 : cF P [] (drP P []) 55 2 s55.vm = some s55 := by kernel_rfl
theorem c63 : cF P [] (drP P []) 63 1 s63.vm = some s63 := by kernel_rfl
theorem c65 : cF P [] (drP P []) 65 2 s65.vm = some s65 := by kernel_rfl
theorem c66 : cF P [] (drP P []) 66 2 s66.vm = some s66 := by kernel_rfl
theorem c67 : cF P [] (drP P []) 67 1 s67.vm = some s67 := by kernel_rfl
theorem c68 : cF P [] (drP P []) 68 1 s68.vm = some s68 := by kernel_rfl
theorem c69 : cF P [] (drP P []) 69 2 s69.vm = some s69 := by kernel_rfl
theorem c70 : cF P [] (drP P []) 70 2 s70.vm = some s70 := by kernel_rfl
theorem c71 : cF P [] (drP P []) 71 1 s71.vm = some s71 := by kernel_rfl
theorem c73 : cF P [] (drP P []) 73 3 s73.vm = some s73 := by kernel_rfl
theorem c75 : cF P [] (drP P []) 75 1 s75.vm = some s75 := by kernel_rfl
theorem c76 : cF P [] (drP P []) 76 1 s76.vm = some s76 := by kernel_rfl
theorem c81 : cF P [] (drP P []) 81 1 s81.vm = some s81 := by kernel_rfl
theorem c82 : cF P [] (drP P []) 82 1 s82.vm = some s82 := by kernel_rfl
theorem c83 : cF P [] (drP P []) 83 1 s83.vm = some s83 := by kernel_rfl
theorem c84 : cF P [] (drP P []) 84 1 s84.vm = some s84 := by kernel_rfl
theorem c85 : cF P [] (drP P []) 85 1 s85.vm = some s85 := by kernel_rfl
theorem c86 : cF P [] (drP P []) 86 2 s86.vm = some s86 := by kernel_rfl
theorem f83 {K : AV → Heap → Prop} {H : Heap} {n : Nat} (hn : n ≤ 1099511627776) (h : K (.int ((nw n : Nat) : Int)) H) : wpF P [] 83 [.int (n : Int)] H K := by
  refine wpF_go c83 rfl 3 ?_
  intro ha hb
  simp only [s83]
  have e : Int.tdiv ((n : Int) + 63) 64 = ((nw n : Nat) : Int) := by unfold nw; exact tdiv_nat (n + 63) 64 (by omega)
  have hw : nw n ≤ 1099511627776 := by unfold nw; omega
  (refine gw1 @e ?_; try exact True.intro)
  exact ⟨by omega, by omega, by omega, by omega, h⟩

/-- a row of words that a call made -/
def wblk (n : Nat) (f : Nat → Bool) : Option Blk := some ⟨22, 0, true, .arr (nw n) .leaf, .agg (wdA n f)⟩
theorem f82 {K : AV → Heap → Prop} {H : Heap} {n : Nat} (hn : n ≤ 4194304) (h : ∀ B, K (.tup [.agg [.int (n : Int), .own (H.length + 1) 0 [] 0 (nw n) .leaf], .int 0]) (H ++ [B, wblk n fun _ => false])) : wpF P [] 82 [.int (n : Int)] H K := by
  refine wpF_goK c82 rfl ?_
  intro ha hb
  simp only [s82]
  have h0 : ((n : Int) < 0) = False := by simp
  have h1 : ((4194304 : Int) < (n : Int)) = False := by simp; omega
  (refine gw2 @h0 @h1 ?_; try exact True.intro)
  refine f83 (by omega) ?_
  have hw : nw n ≤ 4194304 := by unfold nw; omega
  (refine gw3 @Kall_n @Kall_r @Ka2_s ?_; try exact True.intro)
  refine ⟨by omega, by omega, by omega, ?_⟩
  rw [zero_wdA]
  exact h _
theorem f82e {K : AV → Heap → Prop} {H : Heap} {n : Int} (hn : n < 0 ∨ 4194304 < n) (h : K (.tup [.agg [.int 0, .nils], .int 2]) H) : wpF P [] 82 [.int n] H K := by
  refine wpF_go c82 rfl 3 ?_
  intro ha hb
  simp only [s82]
  by_cases h0 : n < 0
  · (refine gw1 @h0 ?_; try exact True.intro)
    exact h
  · have h1 : (4194304 : Int) < n := by omega
    (refine gw2 @h0 @h1 ?_; try exact True.intro)
    exact h

theorem f67 {K : AV → Heap → Prop} {H : Heap} {n : Nat} {f : Nat → Bool} (h : K (.int (n : Int)) H) : wpF P [] 67 [vec n f] H K := by
  refine wpF_go c67 rfl 3 ?_
  intro ha hb
  simp only [s67, vec]
  (refine gw0 ?_; try exact True.intro)
  exact h
theorem f67n {K : AV → Heap → Prop} {H : Heap} {n : Int} (h : K (.int n) H) : wpF P [] 67 [.agg [.int n, .nils]] H K := by
  refine wpF_go c67 rfl 3 ?_
  intro ha hb
  simp only [s67]
  (refine gw0 ?_; try exact True.intro)
  exact h

theorem f66 {K : AV → Heap → Prop} {H : Heap} {n : Nat} {f : Nat → Bool} {i : Int} (h : K (.bool (decide (0 ≤ i) && cut n f i.toNat)) H) : wpF P [] 66 [vec n f, .int i] H K := by
  refine wpF_go c66 rfl 3 ?_
  intro ha hb
  simp only [s66, vec]
  by_cases h0 : i < 0
  · (refine gw1 @h0 ?_; try exact True.intro)
    rw [show decide (0 ≤ i) = false by simp; omega, Bool.false_and] at h
    exact h
  have hr : i ≤ 9223372036854775807 := (ha (.int i) (by simp)).2.2
  obtain ⟨j, rfl⟩ := Int.eq_ofNat_of_zero_le (show 0 ≤ i by omega)
  by_cases h1 : n ≤ j
  · have h2 : ((n : Int) ≤ (j : Int)) = True := by simp; omega
    rw [show cut n f (j : Int).toNat = false by simp [cut]; omega, Bool.and_false] at h
    (refine gw2 @h0 @h2 ?_; try exact True.intro)
    exact h
  · have h2 : ((n : Int) ≤ (j : Int)) = False := by simp; omega
    have hd := tdiv64 j
    have hm := tmod64 j
    have he := sh64 j
    have hg := wdA_get (f := f) (show j < n by omega)
    have hl : j / 64 < nw n := by unfold nw; omega
    have hlen : (wdA n f).length = nw n := wdA_len
    (refine gw7 @h0 @h2 @hd @hm @he @hg @hlen ?_; try exact True.intro)
    refine ⟨by omega, by omega, by omega, by omega, by omega, ?_⟩
    rw [bit_and1, wd_bit (by omega)]
    rw [show 64 * (j / 64) + j % 64 = j by omega]
    rw [show cut n f (j : Int).toNat = f j by simp [cut]; omega] at h
    simpa using h
def vblk (n N : Nat) : Option Blk := some ⟨77, 0, false, .arr 1 (.st [.leaf, .leaf]), .agg [.agg [.int (n : Int), .own N 0 [] 0 (nw n) .leaf]]⟩
def rblk : Option Blk := some ⟨77, 0, false, .arr 1 (.st [.leaf, .leaf]), .agg [.agg [.int 0, .nils]]⟩
theorem demA {n : Nat} {f : Nat → Bool} {kp : Nat → Bool} {N : Nat} {h : Heap} {d : Nat} : mapO (demK kp N h (d + 1)) (List.take (nw n) (wdA n f)) = some (wdA n f) := by
  rw [List.take_of_length_le (by rw [wdA_len]; exact Nat.le_refl _)]; exact mapO_u64
theorem bndA {n : Nat} {f : Nat → Bool} {k : Nat} : AV.bnds k (wdA n f) = true := bnds_u64
def Ix10 (l : List Bool) (B : Option Blk) (H : Heap) (k : Nat) (st : St) : Prop :=
  ∃ (i : Nat) (u1 u2 u4 u5 : AV), st = ⟨[.ro .leaf (l.map .bool), .ptr H.length 0 [0] (.st [.leaf, .leaf]), .int 0, .ptr (H.length + 3) 0 [0] (.st [.leaf, .leaf]), .int 0, u1, u2, .bool false, .ro .leaf (l.map .bool), .int l.length, .int i, u4, u5],
    H ++ [rblk, B, wblk l.length (cut i (bfn l)), vblk l.length (H.length + 2)]⟩ ∧ k = l.length - i ∧ i ≤ l.length
theorem f75 {K : AV → Heap → Prop} {H : Heap} {l : List Bool} (hn : l.length ≤ 4194304) (h : K (.tup [vec l.length (bfn l), .int 0]) H) : wpF P [] 75 [.ro .leaf (l.map .bool)] H K := by
  refine wpF_go c75 rfl 4 ?_
  intro ha hb
  simp only [s75]
  (refine gw0 ?_; try exact True.intro)
  refine f82 hn ?_
  intro B
  have e2 : H.length + 1 + 1 = H.length + 2 := rfl
  (refine gw1 @e2 ?_; try exact True.intro)
  refine wp_inv (Ix10 l B H) l.length ⟨0, _, _, _, _, by rw [cut_zero]; rfl, rfl, by omega⟩ ?_
  rintro k st ⟨i, u1, u2, u4, u5, rfl, rfl, hi⟩
  unfold wblk vblk rblk
  by_cases hil : i < l.length
  · have h1 : ((i : Int) < (l.length : Int)) = True := by simp; omega
    have gl := ld_bfn hil
    cases hb2 : bfn l i with
    | false =>
      (refine gw3 @h1 @gl @hb2 ?_; try exact True.intro)
      (repeat (refine And.intro (by omega) ?_))
      refine ⟨l.length - (i + 1), by omega, i + 1, _, _, _, _, by rw [cut_false hb2]; rfl, rfl, by omega⟩
    | true =>
      have hd := tdiv64 i
      have hm := tmod64 i
      have he := sh64 i
      have hg := wdA_get (f := cut i (bfn l)) hil
      have hw : i / 64 < nw l.length := by unfold nw; omega
      have hget := lget_at (ps := wdA l.length (cut i (bfn l))) (i := i / 64) (by rw [wdA_len]; exact hw)
      (refine gw8 @h1 @gl @hb2 @hd @hm @he @hg @hget ?_; try exact True.intro)
      (repeat (refine And.intro (by omega) ?_))
      refine ⟨l.length - (i + 1), by omega, i + 1, _, _, _, _, by rw [wdA_or (cut_true hb2)]; rfl, rfl, by omega⟩
  · have h1 : ((i : Int) < (l.length : Int)) = False := by simp; omega
    have hie : i = l.length := by omega
    (refine gw2 @h1 @demA ?_; try exact True.intro)
    subst hie
    rw [cut_bfn]
    exact h

/-- a row of words is what another list's row is -/
theorem f85 {K : AV → Heap → Prop} {H : Heap} {n : Nat} {f : Nat → Bool} (hn : n ≤ 100000000) (h : K (.ro .leaf (wdA n f)) H) (h0 : n = 0 → K .nils H) : wpF P [] 85 [.ro .leaf (wdA n f)] H K := by
  refine wpF_go c85 rfl 3 ?_
  intro ha hb
  simp only [s85]
  have hlen : (wdA n f).length = nw n := wdA_len
  have hw : nw n ≤ 100000000 := by unfold nw; omega
  have hm : ∀ {kp : Nat → Bool} {N : Nat} {h : Heap}, mapO (demK kp N h 2) (wdA n f) = some (wdA n f) := mapO_u64
  (refine gw1 @hm ?_; try exact True.intro)
  refine ⟨fun e => h0 ?_, ?_, ?_, ?_, h⟩
  · rw [e] at hlen; unfold nw at hlen; simp at hlen; omega
  · intro q hq
    obtain ⟨k, _, rfl⟩ := List.mem_map.1 hq
    rfl
  · omega
  · omega

/-- the words of bits, cloned -/
theorem f68 {K : AV → Heap → Prop} {H : Heap} {n : Nat} {f : Nat → Bool} (hn : n ≤ 100000000) (h : K (.ro .leaf (wdA n f)) H) (h0 : n = 0 → K .nils H) : wpF P [] 68 [vec n f] H K := by
  refine wpF_go c68 rfl 3 ?_
  intro ha hb
  simp only [s68, vec]
  (refine gw0 ?_; try exact True.intro)
  refine f85 hn ?_ fun e => ?_
  · (refine gw1 @bndA ?_; try exact True.intro)
    exact h
  · (refine gw0 ?_; try exact True.intro)
    exact h0 e

def bxv (n : Nat) (f : Nat → Bool) : Option Blk := some ⟨77, 0, false, .arr 1 (.st [.leaf, .leaf]), .agg [.agg [.int (n : Int), .ro .leaf (wdA n f)]]⟩
def Ix33 (n : Nat) (f : Nat → Bool) (H : Heap) (k : Nat) (st : St) : Prop :=
  ∃ (i : Nat) (u1 u2 : AV), st = ⟨[.agg [.int (n : Int), .ro .leaf (wdA n f)], .ptr H.length 0 [0] (.st [.leaf, .leaf]), .nils, .own (H.length + 1) 0 [] 0 n .leaf, u1, .int n, .int i, u2],
    H ++ [bxv n f, some ⟨4, 0, true, .arr n .leaf, .agg (fillL (fun i => .bool (f i)) (.bool false) n i)⟩]⟩ ∧ k = n - i ∧ i ≤ n
theorem f39 {K : AV → Heap → Prop} {H : Heap} {n : Nat} {f : Nat → Bool} (hn : n ≤ 100000000) (h : K (.ro .leaf ((List.range n).map fun i => .bool (f i))) H) : wpF P [] 39 [vec n f] H K := by
  refine wpF_go c39 rfl 3 ?_
  intro ha hb
  simp only [s39, vec]
  (refine gw0 ?_; try exact True.intro)
  (repeat (refine And.intro (by omega) ?_))
  refine wp_inv (Ix33 n f H) n ⟨0, _, _, by rw [fill_zero]; rfl, rfl, by omega⟩ ?_
  rintro k st ⟨i, u1, u2, rfl, rfl, hi⟩
  unfold bxv
  by_cases hil : i < n
  · have h1 : ((i : Int) < (n : Int)) = True := by simp; omega
    have hget := lget_at (ps := fillL (fun i => AV.bool (f i)) (AV.bool false) n i) (i := i) (by rw [fill_length (by omega)]; exact hil)
    (refine gw1 @h1 ?_; try exact True.intro)
    refine f66 ?_
    rw [show (decide (0 ≤ (i : Int)) && cut n f (i : Int).toNat) = f i by simp [cut, hil]]
    (refine gw2 @h1 @hget ?_; try exact True.intro)
    (repeat (refine And.intro (by omega) ?_))
    exact ⟨n - (i + 1), by omega, i + 1, _, _, by rw [← fill_set hil]; rfl, rfl, by omega⟩
  · have h1 : ((i : Int) < (n : Int)) = False := by simp; omega
    have hie : i = n := by omega
    have ht : ∀ {kp : Nat → Bool} {N : Nat} {h : Heap}, mapO (demK kp N h 2) (List.take n (fillL (fun i => AV.bool (f i)) (AV.bool false) n i)) = some ((List.range n).map fun i => .bool (f i)) := by
      intro kp N h
      rw [hie, fill_all, List.take_of_length_le (by simp)]; exact mapO_bool
    (refine gw2 @h1 @ht ?_; try exact True.intro)
    exact h

def Ix28 (n : Nat) (f : Nat → Bool) (H : Heap) (k : Nat) (st : St) : Prop :=
  ∃ (i : Nat) (u1 u2 : AV), st = ⟨[.agg [.int (n : Int), .ro .leaf (wdA n f)], .ptr H.length 0 [0] (.st [.leaf, .leaf]), .str [], .own (H.length + 1) 0 [] 0 (ny n) .leaf, u1, .int (ny n : Nat), .int i, u2],
    H ++ [bxv n f, some ⟨5, 0, true, .arr (ny n) .leaf, .agg (fillL (fun i => .u8 (by1 f i)) (.u8 0) (ny n) i)⟩]⟩ ∧ k = ny n - i ∧ i ≤ ny n
theorem f71 {K : AV → Heap → Prop} {H : Heap} {n : Nat} {f : Nat → Bool} (hn : n ≤ 100000000) (h : K (.str (bys n f)) H) : wpF P [] 71 [vec n f] H K := by
  refine wpF_go c71 rfl 3 ?_
  intro ha hb
  simp only [s71, vec]
  have e : Int.tdiv ((n : Int) + 7) 8 = ((ny n : Nat) : Int) := tdiv8 (n + 7)
  have hy : ny n ≤ 100000000 := by unfold ny; omega
  (refine gw1 @e ?_; try exact True.intro)
  (repeat (refine And.intro (by omega) ?_))
  refine wp_inv (Ix28 n f H) (ny n) ⟨0, _, _, by rw [fill_zero]; rfl, rfl, by omega⟩ ?_
  rintro k st ⟨i, u1, u2, rfl, rfl, hi⟩
  unfold bxv
  by_cases hil : i < ny n
  · have h1 : ((i : Int) < (ny n : Int)) = True := by simp; omega
    have hget := lget_at (ps := fillL (fun i => AV.u8 (by1 f i)) (AV.u8 0) (ny n) i) (i := i) (by rw [fill_length (by omega)]; exact hil)
    have hd := tdiv8 i
    have hm := tmod8 i
    have he : (BitVec.ofInt 64 (8 * ((i % 8 : Nat) : Int))).toNat = 8 * (i % 8) := ofInt64_nat (i := 8 * (i % 8)) (by omega)
    have hwi : i / 8 < nw n := by unfold nw; unfold ny at hil; omega
    have hg : (wdA n f).getD (i / 8) .un = .u64 (wd f (i / 8)) := ld_rng hwi
    have hlen : (wdA n f).length = nw n := wdA_len
    (refine gw8 @h1 @hget @hd @hm @he @hg @hlen @wd_by1 ?_; try exact True.intro)
    (repeat (refine And.intro (by omega) ?_))
    exact ⟨ny n - (i + 1), by omega, i + 1, _, _, by rw [← fill_set hil]; rfl, rfl, by omega⟩
  · have h1 : ((i : Int) < (ny n : Int)) = False := by simp; omega
    have hie : i = ny n := by omega
    have ht : List.take (ny n) (fillL (fun i => AV.u8 (by1 f i)) (AV.u8 0) (ny n) i) = (bys n f).map .u8 := by
      rw [hie, fill_all, List.take_of_length_le (by simp)]; unfold bys; rw [List.map_map]; rfl
    (refine gw3 @h1 @ht @bytesOf_m ?_; try exact True.intro)
    exact h

/-! the reference -/
def wN (nb : Nat) (f : Nat → Bool) : Option Blk := some ⟨22, nb, true, .arr nb .leaf, .agg (wdN nb f)⟩
def Ix34 (l : List Bool) (H : Heap) (k : Nat) (st : St) : Prop :=
  ∃ (i : Nat) (u1 u2 u3 : AV) (out : AV) (L : Heap), st = ⟨[.ro .leaf (l.map .bool), .nils, out, .int (i : Int), u1, u2, u3], H ++ L⟩ ∧ k = l.length - i ∧ i ≤ l.length ∧
    ((i = 0 ∧ out = .nils ∧ L = []) ∨ (0 < i ∧ out = .own (H.length + 1) (nw i) [] 0 (nw i) .leaf ∧ ∃ T J, L = T :: wN (nw i) (cut i (bfn l)) :: J))
def yN (nb : Nat) (f : Nat → Bool) : Option Blk := some ⟨5, nb, true, .arr nb .leaf, .agg (byN nb f)⟩
def Ix35 (l : List Bool) (H : Heap) (k : Nat) (st : St) : Prop :=
  ∃ (i : Nat) (u1 u2 u3 : AV) (out : AV) (L : Heap), st = ⟨[.ro .leaf (l.map .bool), .str [], out, .int (i : Int), u1, u2, u3], H ++ L⟩ ∧ k = l.length - i ∧ i ≤ l.length ∧
    ((i = 0 ∧ out = .nils ∧ L = []) ∨ (0 < i ∧ out = .own (H.length + 1) (ny i) [] 0 (ny i) .leaf ∧ ∃ T J, L = T :: yN (ny i) (cut i (bfn l)) :: J))
theorem f76 {K : AV → Heap → Prop} {H : Heap} {l : List Bool} (hn : l.length ≤ 1000000) (h : K (.str (bys l.length (bfn l))) H) : wpF P [] 76 [.ro .leaf (l.map .bool)] H K := by
  refine wpF_go c76 rfl 3 ?_
  intro ha hb
  simp only [s76]
  (refine gw0 ?_; try exact True.intro)
  refine wp_inv (Ix35 l H) l.length ⟨0, _, _, _, _, [], by rw [List.append_nil]; rfl, rfl, by omega, .inl ⟨rfl, rfl, rfl⟩⟩ ?_
  rintro k st ⟨i, u1, u2, u3, out, L, rfl, rfl, hi, ho⟩
  by_cases hil : i < l.length
  · have h1 : ((i : Int) < (l.length : Int)) = True := by simp; omega
    have gl := ld_bfn hil
    have hd := tdiv8 i
    have hm := tmod8 i
    have hs := sh8 i
    have hg0 : cut i (bfn l) i = false := cut_ge (Nat.le_refl i)
    by_cases h8 : i % 8 = 0
    · have e8 : Int.tmod (i : Int) 8 = 0 := by rw [hm, h8]; rfl
      have hk8 : i / 8 = ny i := by unfold ny; omega
      have hny : ny (i + 1) = ny i + 1 := by unfold ny; omega
      have hsn : byN (ny i) (cut i (bfn l)) ++ [AV.u8 0] = byN (ny i + 1) (cut i (bfn l)) := byN_snoc fun j hj => cut_ge (by unfold ny at hj; omega)
      have hg := byN_get (nb := ny i + 1) (f := cut i (bfn l)) (k := i / 8) (by omega)
      have hlt : (((i / 8 : Nat) : Int) < ((ny i + 1 : Nat) : Int)) = True := by simp; omega
      have hget := lget_at (ps := byN (ny i + 1) (cut i (bfn l))) (i := i / 8) (by rw [byN_len]; omega)
      rcases ho with ⟨rfl, rfl, rfl⟩ | ⟨hpos, rfl, T, J, rfl⟩
      · have hsn : [AV.u8 0] = byN 1 (cut 0 (bfn l)) := hsn
        have h1 : ((0 : Int) < (l.length : Int)) = True := by simp; omega
        cases hb2 : bfn l 0 with
        | false =>
          (refine gw3 @h1 @gl @hb2 ?_; try exact True.intro)
          (repeat (refine And.intro (by omega) ?_))
          refine ⟨l.length - 1, by omega, 1, _, _, _, _, _, rfl, rfl, by omega, .inr ⟨by omega, rfl, _, [], by rw [cut_false hb2, hsn]; rfl⟩⟩
        | true =>
          have hx : ([AV.u8 0].set 0 (.u8 (0 + 1 <<< 0))) = byN 1 (cut 1 (bfn l)) := by
            have := byN_add (nb := 1) (cut_true hb2) hg0
            rw [← hsn] at this
            have h0 : by1 (cut 0 (bfn l)) (0 / 8) = 0 := by rw [cut_zero]; exact by1_false
            rw [h0] at this
            exact this
          (refine gw3 @h1 @gl @hb2 ?_; try exact True.intro)
          (repeat (refine And.intro (by omega) ?_))
          refine ⟨l.length - 1, by omega, 1, _, _, _, _, _, rfl, rfl, by omega, .inr ⟨by omega, rfl, _, [], by rw [show ny 1 = 1 from rfl]; unfold yN; rw [← hx]; rfl⟩⟩
      · unfold yN
        cases hb2 : bfn l i with
        | false =>
          (refine gw5 @h1 @gl @hb2 @e8 @hsn ?_; try exact True.intro)
          (repeat (refine And.intro (by omega) ?_))
          refine ⟨l.length - (i + 1), by omega, i + 1, _, _, _, _, _, rfl, rfl, by omega, .inr ⟨by omega, by rw [hny], _, _, by rw [cut_false hb2, hny]; rfl⟩⟩
        | true =>
          have hadd := byN_add (nb := ny i + 1) (cut_true hb2) hg0
          (refine gw9 @h1 @gl @hb2 @hd @e8 @hsn @hg @hget @hlt ?_; try exact True.intro)
          rw [h8] at hadd
          (repeat (refine And.intro (by omega) ?_))
          refine ⟨l.length - (i + 1), by omega, i + 1, _, _, _, _, _, rfl, rfl, by omega, .inr ⟨by omega, by rw [hny], _, _, by rw [hadd, hny]; rfl⟩⟩
    · have e8 : (((i % 8 : Nat) : Int) = 0) = False := by simp; omega
      have hny : ny (i + 1) = ny i := by unfold ny; omega
      rcases ho with ⟨rfl, rfl, rfl⟩ | ⟨hpos, rfl, T, J, rfl⟩
      · exact absurd rfl h8
      · have hlt : i / 8 < ny i := by unfold ny; omega
        have hg := byN_get (f := cut i (bfn l)) hlt
        have hget := lget_at (ps := byN (ny i) (cut i (bfn l))) (i := i / 8) (by rw [byN_len]; omega)
        unfold yN
        cases hb2 : bfn l i with
        | false =>
          (refine gw5 @h1 @gl @hb2 @hm @e8 ?_; try exact True.intro)
          (repeat (refine And.intro (by omega) ?_))
          refine ⟨l.length - (i + 1), by omega, i + 1, _, _, _, _, _, rfl, rfl, by omega, .inr ⟨by omega, by rw [hny], _, _, by rw [cut_false hb2, hny]; rfl⟩⟩
        | true =>
          have hadd := byN_add (nb := ny i) (cut_true hb2) hg0
          (refine gw9 @h1 @gl @hb2 @hd @hm @hs @e8 @hg @hget ?_; try exact True.intro)
          (repeat (refine And.intro (by omega) ?_))
          refine ⟨l.length - (i + 1), by omega, i + 1, _, _, _, _, _, rfl, rfl, by omega, .inr ⟨by omega, by rw [hny], _, _, by rw [hadd, hny]; rfl⟩⟩
  · have h1 : ((i : Int) < (l.length : Int)) = False := by simp; omega
    have hie : i = l.length := by omega
    subst hie
    rcases ho with ⟨h0, rfl, rfl⟩ | ⟨hpos, rfl, T, J, rfl⟩
    · have e : bys l.length (bfn l) = [] := by rw [h0]; rfl
      rw [e] at h
      (refine gw1 @h1 ?_; try exact True.intro)
      exact h
    · unfold yN
      rw [byN_bys, cut_bfn]
      have ht : List.take (ny l.length) ((bys l.length (bfn l)).map AV.u8) = (bys l.length (bfn l)).map AV.u8 := List.take_of_length_le (by simp [bys])
      (refine gw3 @h1 @ht @bytesOf_m ?_; try exact True.intro)
      exact h


def Ix24 (a b : List Bool) (H : Heap) (k : Nat) (st : St) : Prop :=
  ∃ (i : Nat) (u1 u2 : AV), st = ⟨[.ro .leaf (a.map .bool), .ro .leaf (b.map .bool), .bool false, .int (i : Int), .bool false, u1, u2], H⟩ ∧ k = a.length - i ∧ i ≤ a.length ∧ ∀ j, j < i → a.getD j false = b.getD j false
theorem f38r {K : AV → Heap → Prop} {H : Heap} {a b : List Bool} (h : K (.bool (decide (a = b))) H) : wpF P [] 38 [.ro .leaf (a.map .bool), .ro .leaf (b.map .bool)] H K := by
  refine wpF_go c38 rfl 3 ?_
  intro ha hb
  simp only [s38]
  have hla : (a.length : Int) ≤ 9223372036854775807 := by have := (ha (.ro .leaf (a.map .bool)) (by simp)).2.1; simp [maxLen] at this; omega
  by_cases hl : a.length = b.length
  · have hl' : ((a.length : Int) = (b.length : Int)) = True := by simp [hl]
    (refine gw1 @hl' ?_; try exact True.intro)
    refine wp_inv (Ix24 a b H) a.length ⟨0, _, _, rfl, rfl, by omega, fun j hj => by omega⟩ ?_
    rintro k st ⟨i, u1, u2, rfl, rfl, hi, hsame⟩
    by_cases hil : i < a.length
    · have h1 : ((i : Int) < (a.length : Int)) = True := by simp; omega
      have h2 : ((i : Int) < (b.length : Int)) = True := by simp; omega
      have g1 := ld_bool hil
      have g2 := ld_bool (ns := b) (i := i) (by omega)
      by_cases he : a.getD i false = b.getD i false
      · have hx : (b.getD i false == b.getD i false) = true := by simp
        rw [he] at g1
        (refine gw5 @h1 @h2 @g1 @g2 @hx ?_; try exact True.intro)
        (repeat (refine And.intro (by omega) ?_))
        refine ⟨a.length - (i + 1), by omega, i + 1, _, _, rfl, rfl, by omega, fun j hj => ?_⟩
        by_cases hji : j = i
        · subst hji; exact he
        · exact hsame j (by omega)
      · have hx : (a.getD i false == b.getD i false) = false := beq_eq_false_iff_ne.2 he
        have hne : decide (a = b) = false := by
          simp; intro e; exact he (by rw [e])
        rw [hne] at h
        (refine gw5 @h1 @h2 @g1 @g2 @hx ?_; try exact True.intro)
        (repeat (refine And.intro (by omega) ?_))
        exact h
    · have h1 : ((i : Int) < (a.length : Int)) = False := by simp; omega
      have hab : a = b := by
        apply List.ext_getElem hl
        intro j h1 h2
        have := hsame j (by omega)
        simpa [List.getD_eq_getElem?_getD, h1, h2] using this
      rw [decide_eq_true hab] at h
      (refine gw1 @h1 ?_; try exact True.intro)
      exact h
  · have hl' : ((a.length : Int) = (b.length : Int)) = False := by simp; omega
    rw [show decide (a = b) = false by simp; intro e; exact hl (by rw [e])] at h
    (refine gw1 @hl' ?_; try exact True.intro)
    exact h

def Ix32 (a b : List (BitVec 64)) (H : Heap) (k : Nat) (st : St) : Prop :=
  ∃ (i : Nat) (u1 u2 : AV), st = ⟨[.ro .leaf (a.map .u64), .ro .leaf (b.map .u64), .bool false, .int (i : Int), .bool false, u1, u2], H⟩ ∧ k = a.length - i ∧ i ≤ a.length ∧ ∀ j, j < i → a.getD j 0 = b.getD j 0
theorem f55r {K : AV → Heap → Prop} {H : Heap} {a b : List (BitVec 64)} (h : K (.bool (decide (a = b))) H) : wpF P [] 55 [.ro .leaf (a.map .u64), .ro .leaf (b.map .u64)] H K := by
  refine wpF_go c55 rfl 3 ?_
  intro ha hb
  simp only [s55]
  have hla : (a.length : Int) ≤ 9223372036854775807 := by have := (ha (.ro .leaf (a.map .u64)) (by simp)).2.1; simp [maxLen] at this; omega
  by_cases hl : a.length = b.length
  · have hl' : ((a.length : Int) = (b.length : Int)) = True := by simp [hl]
    (refine gw1 @hl' ?_; try exact True.intro)
    refine wp_inv (Ix32 a b H) a.length ⟨0, _, _, rfl, rfl, by omega, fun j hj => by omega⟩ ?_
    rintro k st ⟨i, u1, u2, rfl, rfl, hi, hsame⟩
    by_cases hil : i < a.length
    · have h1 : ((i : Int) < (a.length : Int)) = True := by simp; omega
      have h2 : ((i : Int) < (b.length : Int)) = True := by simp; omega
      have g1 := ld_u64 hil
      have g2 := ld_u64 (ns := b) (i := i) (by omega)
      by_cases he : a.getD i 0 = b.getD i 0
      · have hx : (b.getD i 0 == b.getD i 0) = true := by simp
        rw [he] at g1
        (refine gw5 @h1 @h2 @g1 @g2 @hx ?_; try exact True.intro)
        (repeat (refine And.intro (by omega) ?_))
        refine ⟨a.length - (i + 1), by omega, i + 1, _, _, rfl, rfl, by omega, fun j hj => ?_⟩
        by_cases hji : j = i
        · subst hji; exact he
        · exact hsame j (by omega)
      · have hx : (a.getD i 0 = b.getD i 0) = False := eq_false he
        have hne : decide (a = b) = false := by
          simp; intro e; exact he (by rw [e])
        rw [hne] at h
        (refine gw5 @h1 @h2 @g1 @g2 @hx ?_; try exact True.intro)
        (repeat (refine And.intro (by omega) ?_))
        exact h
    · have h1 : ((i : Int) < (a.length : Int)) = False := by simp; omega
      have hab : a = b := by
        apply List.ext_getElem hl
        intro j h1 h2
        have := hsame j (by omega)
        simpa [List.getD_eq_getElem?_getD, h1, h2] using this
      rw [decide_eq_true hab] at h
      (refine gw1 @h1 ?_; try exact True.intro)
      exact h
  · have hl' : ((a.length : Int) = (b.length : Int)) = False := by simp; omega
    rw [show decide (a = b) = false by simp; intro e; exact hl (by rw [e])] at h
    (refine gw1 @hl' ?_; try exact True.intro)
    exact h

theorem f38 {K : AV → Heap → Prop} {H : Heap} {A B : AV} {a b : List Bool} (hA : isL A (a.map .bool)) (hB : isL B (b.map .bool)) (h : K (.bool (decide (a = b))) H) : wpF P [] 38 [A, B] H K := by
  have nilr : ∀ xs : List Bool, xs.map AV.bool = [] → xs = [] := fun xs h => by simpa using h
  rcases hA with rfl | ⟨e1, rfl⟩
  · rcases hB with rfl | ⟨e2, rfl⟩
    · exact f38r h
    · have := nilr _ e2; subst this
      refine wpF_go c38 rfl 3 ?_
      intro ha hb
      simp only [s38]
      cases a with
      | nil =>
        (refine gw0 ?_; try exact True.intro)
        refine wp_unroll 1 ?_
        (refine gw0 ?_; try exact True.intro)
        exact h
      | cons x a =>
        have h1 : (((a.length + 1 : Nat) : Int) = 0) = False := by simp; omega
        rw [show decide (x :: a = []) = false from rfl] at h
        (refine gw1 @h1 ?_; try exact True.intro)
        exact h
  · have := nilr _ e1; subst this
    rcases hB with rfl | ⟨e2, rfl⟩
    · refine wpF_go c38 rfl 3 ?_
      intro ha hb
      simp only [s38]
      cases b with
      | nil =>
        (refine gw0 ?_; try exact True.intro)
        refine wp_unroll 1 ?_
        (refine gw0 ?_; try exact True.intro)
        exact h
      | cons x a =>
        rw [show decide ([] = x :: a) = false from rfl] at h
        have h1 : ((0 : Int) = ((a.length + 1 : Nat) : Int)) = False := by simp; omega
        (refine gw1 @h1 ?_; try exact True.intro)
        exact h
    · have := nilr _ e2; subst this
      refine wpF_go c38 rfl 3 ?_
      intro ha hb
      simp only [s38]
      (refine gw0 ?_; try exact True.intro)
      refine wp_unroll 1 ?_
      (refine gw0 ?_; try exact True.intro)
      exact h

theorem f55 {K : AV → Heap → Prop} {H : Heap} {A B : AV} {a b : List (BitVec 64)} (hA : isL A (a.map .u64)) (hB : isL B (b.map .u64)) (h : K (.bool (decide (a = b))) H) : wpF P [] 55 [A, B] H K := by
  have nilr : ∀ xs : List (BitVec 64), xs.map AV.u64 = [] → xs = [] := fun xs h => by simpa using h
  rcases hA with rfl | ⟨e1, rfl⟩
  · rcases hB with rfl | ⟨e2, rfl⟩
    · exact f55r h
    · have := nilr _ e2; subst this
      refine wpF_go c55 rfl 3 ?_
      intro ha hb
      simp only [s55]
      cases a with
      | nil =>
        (refine gw0 ?_; try exact True.intro)
        refine wp_unroll 1 ?_
        (refine gw0 ?_; try exact True.intro)
        exact h
      | cons x a =>
        have h1 : (((a.length + 1 : Nat) : Int) = 0) = False := by simp; omega
        rw [show decide (x :: a = []) = false from rfl] at h
        (refine gw1 @h1 ?_; try exact True.intro)
        exact h
  · have := nilr _ e1; subst this
    rcases hB with rfl | ⟨e2, rfl⟩
    · refine wpF_go c55 rfl 3 ?_
      intro ha hb
      simp only [s55]
      cases b with
      | nil =>
        (refine gw0 ?_; try exact True.intro)
        refine wp_unroll 1 ?_
        (refine gw0 ?_; try exact True.intro)
        exact h
      | cons x a =>
        rw [show decide ([] = x :: a) = false from rfl] at h
        have h1 : ((0 : Int) = ((a.length + 1 : Nat) : Int)) = False := by simp; omega
        (refine gw1 @h1 ?_; try exact True.intro)
        exact h
    · have := nilr _ e2; subst this
      refine wpF_go c55 rfl 3 ?_
      intro ha hb
      simp only [s55]
      (refine gw0 ?_; try exact True.intro)
      refine wp_unroll 1 ?_
      (refine gw0 ?_; try exact True.intro)
      exact h

def Ix15 (n : Nat) (w : List (BitVec 64)) (H : Heap) (k : Nat) (st : St) : Prop :=
  ∃ (i : Nat) (u1 : AV) (out : AV) (L : Heap), st = ⟨[.int (n : Int), .ro .leaf (w.map .u64), .nils, out, .int (i : Int), u1], H ++ L⟩ ∧ k = n - i ∧ i ≤ n ∧ apd 4 H.length (fun i => .bool (wf w i)) i out L
theorem f84 {K : AV → Heap → Prop} {H0 L : Heap} {n : Nat} {f : Nat → Bool} (hn : n ≤ 1000000000) (h : K (.tup []) (H0 ++ wblk n (cut n f) :: L)) : wpF P [] 84 [.agg [.int (n : Int), .own H0.length 0 [] 0 (nw n) .leaf]] (H0 ++ wblk n f :: L) K := by
  refine wpF_goM c84 rfl ?_
  intro ha hB
  simp only [s84]
  have hm := tmod64 n
  have hfin : ∀ {X : Prop}, X → X := fun h => h
  by_cases hr : n % 64 = 0
  · have e : ((n % 64 : Nat) : Int) = 0 := by rw [hr]; rfl
    unfold wblk at *
    (refine gw5 @hm @e @Kmut_n @Kmut_r @Km2_s ?_; try exact True.intro)
    refine ⟨by omega, ?_⟩
    rw [← wdA_whole hr]
    exact mut_fin hB (by rintro k blk h; cases h; exact bnd_wdA) h
  · have e : (((n % 64 : Nat) : Int) = 0) = False := by simp; omega
    have hs := sh64 n
    have hw : 0 < nw n ∧ nw n ≤ 1000000000 := by unfold nw; omega
    have hk : (nw n : Int) - 1 = ((nw n - 1 : Nat) : Int) := by omega
    have hg := wdN_get (nb := nw n) (f := f) (k := nw n - 1) (by omega)
    rw [wdN_A] at hg
    have hget := lget_at (ps := wdA n f) (i := nw n - 1) (by rw [wdA_len]; omega)
    have htr := wdA_trim (f := f) hr
    unfold wblk at *
    (refine gw10 @hm @e @hs @hk @hg @hget @htr @Kmut_n @Kmut_r @Km2_s ?_; try exact True.intro)
    (repeat (refine And.intro (by omega) ?_))
    exact mut_fin hB (by rintro k blk h; cases h; exact bnd_wdA) h
theorem f84' {K : AV → Heap → Prop} {H0 L Hx : Heap} {n m : Nat} {f : Nat → Bool} (hm : m = H0.length) (hx : Hx = H0 ++ wblk n f :: L) (hn : n ≤ 1000000000) (h : K (.tup []) (H0 ++ wblk n (cut n f) :: L)) : wpF P [] 84 [.agg [.int (n : Int), .own m 0 [] 0 (nw n) .leaf]] Hx K := by
  subst hm hx
  exact f84 hn h

/-- words that aren't there -/
theorem f65e {K : AV → Heap → Prop} {H : Heap} {n : Int} {w : List (BitVec 64)} (hn : n < 0 ∨ 4194304 < n) (h : K (.tup [.agg [.int 0, .nils], .int 2]) H) : wpF P [] 65 [.int n, .ro .leaf (w.map .u64)] H K := by
  refine wpF_go c65 rfl 4 ?_
  intro ha hb
  simp only [s65]
  (refine gw0 ?_; try exact True.intro)
  refine f82e hn ?_
  (refine gw0 ?_; try exact True.intro)
  exact h
theorem f65s {K : AV → Heap → Prop} {H : Heap} {n : Nat} {w : List (BitVec 64)} (hn : n ≤ 4194304) (hw : w.length ≠ nw n) (h : K (.tup [.agg [.int 0, .nils], .int 11]) H) : wpF P [] 65 [.int (n : Int), .ro .leaf (w.map .u64)] H K := by
  refine wpF_go c65 rfl 4 ?_
  intro ha hb
  simp only [s65]
  (refine gw0 ?_; try exact True.intro)
  refine f82 hn ?_
  intro B
  have h1 : ((w.length : Int) = (nw n : Int)) = False := by simp; omega
  (refine gw0 ?_; try exact True.intro)
  refine f83 (by omega) ?_
  (refine gw1 @h1 ?_; try exact True.intro)
  exact h
theorem f65 {K : AV → Heap → Prop} {H : Heap} {n : Nat} {w : List (BitVec 64)} (hn : n ≤ 4194304) (hw : w.length = nw n) (h : K (.tup [vec n (cut n (wf w)), .int 0]) H) : wpF P [] 65 [.int (n : Int), .ro .leaf (w.map .u64)] H K := by
  refine wpF_go c65 rfl 4 ?_
  intro ha hb
  simp only [s65]
  (refine gw0 ?_; try exact True.intro)
  refine f82 hn ?_
  intro B
  have e2 : H.length + 1 + 1 = H.length + 2 := rfl
  have h1 : ((w.length : Int) = (nw n : Int)) = True := by simp; omega
  (refine gw1 @e2 ?_; try exact True.intro)
  refine f83 (by omega) ?_
  unfold wblk
  have hmin : min w.length (nw n) = nw n := by omega
  have htk : List.take (nw n) (w.map AV.u64) = wdA n (wf w) := by rw [wdA_wf hw, List.take_of_length_le (by simp; omega)]
  have hsp : splL (wdA n fun x => false) 0 (wdA n (wf w)) = wdA n (wf w) := splL_full (by rw [wdA_len, wdA_len]; omega)
  (refine gw5 @h1 @hmin @htk @cpH_own @hsp ?_; try exact True.intro)
  refine ⟨?_, ?_⟩
  · intro q hq
    obtain ⟨x, _, rfl⟩ := List.mem_map.1 hq
    rfl
  refine f84' (H0 := H ++ [rblk, B]) (L := [vblk n (H.length + 2)]) (f := wf w) (by simp) (by simp [rblk, vblk, wblk]) (by omega) ?_
  unfold wblk vblk rblk
  (refine gw1 @demA ?_; try exact True.intro)
  exact h

/-- the bits of a list, as lists -/
theorem bools_map {l : List Bool} : ((List.range l.length).map fun i => AV.bool (bfn l i)) = l.map .bool := by
  apply List.ext_getElem
  · simp
  · intro i h1 h2
    simp [bfn, List.getD_eq_getElem?_getD, List.getElem?_eq_getElem (show i < l.length by simpa using h2)]
theorem wds_map {n : Nat} {f : Nat → Bool} : wdA n f = (wds n f).map .u64 := wdA_map
/-! the same of no list -/
theorem f76n {K : AV → Heap → Prop} {H : Heap} (h : K (.str []) H) : wpF P [] 76 [.nils] H K := by
  refine wpF_go c76 rfl 3 ?_
  intro ha hb
  simp only [s76]
  (refine gw0 ?_; try exact True.intro)
  refine wp_unroll 1 ?_
  (refine gw0 ?_; try exact True.intro)
  exact h
theorem bfn_rep {n : Nat} : bfn (List.replicate n false) = fun _ => false := by
  funext i
  unfold bfn
  rw [List.getD_eq_getElem?_getD, List.getElem?_replicate]
  split <;> rfl
theorem wf_map {n : Nat} {w : List (BitVec 64)} : ((List.range n).map fun i => AV.bool (wf w i)) = ((List.range n).map (wf w)).map .bool := by rw [List.map_map]; rfl
theorem bfn_rng {n : Nat} {f : Nat → Bool} : bfn ((List.range n).map f) = cut n f := by
  funext i
  unfold bfn cut
  rw [List.getD_eq_getElem?_getD, List.getElem?_map]
  by_cases h : i < n
  · rw [List.getElem?_range h]; simp [h]
  · rw [List.getElem?_eq_none (by simp; omega)]; simp [h]
theorem f81 {K : AV → Heap → Prop} {H : Heap} {x : BitVec 64} (h : K (.int (pop x : Nat)) H) : wpF P [] 81 [.u64 x] H K := by
  refine wpF_go c81 rfl 3 ?_
  intro ha hb
  simp only [s81]
  (refine gw0 ?_; try exact True.intro)
  have e := ones_pop x rfl rfl rfl rfl rfl
  rw [and127, e]
  exact h

def Ix17 (n : Nat) (f : Nat → Bool) (H : Heap) (k : Nat) (st : St) : Prop :=
  ∃ (i : Nat) (u1 u2 : AV), st = ⟨[.agg [.int (n : Int), .ro .leaf (wdA n f)], .ptr H.length 0 [0] (.st [.leaf, .leaf]), .int 0, .int (cnt (64 * i) f : Nat), u1, .ro .leaf (wdA n f), .int (nw n : Nat), .int (i : Int), u2],
    H ++ [bxv n f]⟩ ∧ k = nw n - i ∧ i ≤ nw n
theorem f63 {K : AV → Heap → Prop} {H : Heap} {n : Nat} {f : Nat → Bool} (hn : n ≤ 100000000) (h : K (.int (cnt (64 * nw n) f : Nat)) H) : wpF P [] 63 [vec n f] H K := by
  refine wpF_go c63 rfl 3 ?_
  intro ha hb
  simp only [s63, vec]
  have hlen : (wdA n f).length = nw n := wdA_len
  have hnw : nw n ≤ 100000000 := by unfold nw; omega
  (refine gw1 @hlen ?_; try exact True.intro)
  refine wp_inv (Ix17 n f H) (nw n) ⟨0, _, _, rfl, rfl, by omega⟩ ?_
  rintro k st ⟨i, u1, u2, rfl, rfl, hi⟩
  unfold bxv
  by_cases hil : i < nw n
  · have h1 : ((i : Int) < (nw n : Int)) = True := by simp; omega
    have hg : (wdA n f).getD i .un = .u64 (wd f i) := ld_rng hil
    (refine gw3 @h1 @hlen @hg ?_; try exact True.intro)
    refine f81 ?_
    have hc : (cnt (64 * i) f : Int) + (pop (wd f i) : Nat) = ((cnt (64 * (i + 1)) f : Nat) : Int) := by rw [cnt_words]; omega
    have hle : cnt (64 * (i + 1)) f ≤ 64 * (i + 1) := cnt_le
    (refine gw1 @hc ?_; try exact True.intro)
    (repeat (refine And.intro (by omega) ?_))
    exact ⟨nw n - (i + 1), by omega, i + 1, _, _, rfl, rfl, by omega⟩
  · have h1 : ((i : Int) < (nw n : Int)) = False := by simp; omega
    have hie : i = nw n := by omega
    subst hie
    (refine gw1 @h1 ?_; try exact True.intro)
    exact h

def Ix19 (n : Nat) (f : Nat → Bool) (H : Heap) (k : Nat) (st : St) : Prop :=
  ∃ (i : Nat) (x : BitVec 64) (u1 u2 : AV), st = ⟨[.agg [.int (n : Int), .ro .leaf (wdA n f)], .ptr H.length 0 [0] (.st [.leaf, .leaf]), .bool false, .u64 x, u1, .ro .leaf (wdA n f), .int (nw n : Nat), .int (i : Int), u2],
    H ++ [bxv n f]⟩ ∧ k = nw n - i ∧ i ≤ nw n ∧ pop x % 2 = cnt (64 * i) f % 2
def Ix18 (l : List Bool) (H : Heap) (k : Nat) (st : St) : Prop :=
  ∃ (i : Nat) (u1 u2 : AV), st = ⟨[.ro .leaf (l.map .bool), .int 0, .int (cnt i (bfn l) : Nat), .int (i : Int), u1, u2], H⟩ ∧ k = l.length - i ∧ i ≤ l.length
/-! bits turned -/
def ownv (n N : Nat) : AV := .agg [.int (n : Int), .own N 0 [] 0 (nw n) .leaf]
def Ix25 (n : Nat) (f : Nat → Bool) (H : Heap) (k : Nat) (st : St) : Prop :=
  ∃ (i : Nat) (u1 u2 u3 : AV), st = ⟨[.agg [.int (n : Int), .ro .leaf (wdA n f)], .ptr H.length 0 [0] (.st [.leaf, .leaf]), .ptr (H.length + 1) 0 [0] (.st [.leaf, .leaf]), .ptr (H.length + 3) 0 [0] (.st [.leaf, .leaf]), u1, u2, .ro .leaf (wdA n f), .int (nw n : Nat), .int (i : Int), u3],
    H ++ [bxv n f, rblk, some ⟨22, 0, true, .arr (nw n) .leaf, .agg (fillL (fun k => .u64 (wd (fun i => !f i) k)) (.u64 0) (nw n) i)⟩, vblk n (H.length + 2)]⟩ ∧ k = nw n - i ∧ i ≤ nw n
def aw : List Bool := [true, false, true]
theorem aw_w : wdA 3 (bfn aw) = [.u64 5] := by
  show [AV.u64 (wd (bfn aw) 0)] = _
  rw [show wd (bfn aw) 0 = 5 by decide]
theorem aw_n : wdA 3 (cut 3 fun i => !bfn aw i) = [.u64 2] := by
  show [AV.u64 (wd (cut 3 fun i => !bfn aw i) 0)] = _
  rw [show wd (cut 3 fun i => !bfn aw i) 0 = 2 by decide]
def Ix40 (n : Nat) (f g h : Nat → Bool) (c : FuncId) (H : Heap) (k : Nat) (st : St) : Prop :=
  ∃ (i : Nat) (u1 u2 u3 : AV), st = ⟨[.agg [.int (n : Int), .ro .leaf (wdA n f)], .agg [.int (n : Int), .ro .leaf (wdA n g)], .fn c [], .ptr H.length 0 [0] (.st [.leaf, .leaf]), .ptr (H.length + 1) 0 [0] (.st [.leaf, .leaf]), .ptr (H.length + 2) 0 [0] (.st [.leaf, .leaf]), .int 0, .ptr (H.length + 4) 0 [0] (.st [.leaf, .leaf]), u1, .bool false, .int (nw n : Nat), .int (i : Int), u2],
    H ++ [bxv n f, bxv n g, rblk, some ⟨22, 0, true, .arr (nw n) .leaf, .agg (fillL (fun k => .u64 (wd h k)) (.u64 0) (nw n) i)⟩, vblk n (H.length + 3)]⟩ ∧ k = nw n - i ∧ i ≤ nw n
def Ix43 (a b : List (BitVec 64)) (H : Heap) (k : Nat) (st : St) : Prop :=
  ∃ (i : Nat) (u1 u2 u3 : AV), st = ⟨[.ro .leaf (a.map .u64), .ro .leaf (b.map .u64), .bool false, u1, .bool false, .int a.length, .int (i : Int), u2, u3], H⟩ ∧ k = a.length - i ∧ i ≤ a.length ∧ ∀ j, j < i → a.getD j 0 = b.getD j 0
/-- bits that end where they end -/
def nrm (n : Nat) (f : Nat → Bool) : Prop := ∀ i, n ≤ i → f i = false
theorem wds_inj {n : Nat} {f g : Nat → Bool} (hf : nrm n f) (hg : nrm n g) : wds n f = wds n g ↔ ∀ i, i < n → f i = g i := by
  constructor
  · intro h i hi
    have h1 := wf_wds (f := f) (n := n) (i := i) (by unfold nw; omega)
    have h2 := wf_wds (f := g) (n := n) (i := i) (by unfold nw; omega)
    rw [← h1, h, h2]
  · intro h
    unfold wds
    apply List.map_congr_left
    intro k hk
    apply wd_congr
    intro j hj
    by_cases h1 : 64 * k + j < n
    · exact h _ h1
    · rw [hf _ (by omega), hg _ (by omega)]
theorem f69e {K : AV → Heap → Prop} {H : Heap} {n : Int} {s : List (BitVec 8)} (hn : n < 0 ∨ 4194304 < n) (h : K (.tup [.agg [.int 0, .nils], .int 2]) H) : wpF P [] 69 [.int n, .str s] H K := by
  refine wpF_go c69 rfl 4 ?_
  intro ha hb
  simp only [s69]
  (refine gw0 ?_; try exact True.intro)
  refine f82e hn ?_
  (refine gw0 ?_; try exact True.intro)
  exact h
theorem f69s {K : AV → Heap → Prop} {H : Heap} {n : Nat} {s : List (BitVec 8)} (hn : n ≤ 4194304) (hs : s.length ≠ ny n) (h : K (.tup [.agg [.int 0, .nils], .int 11]) H) : wpF P [] 69 [.int (n : Int), .str s] H K := by
  refine wpF_go c69 rfl 4 ?_
  intro ha hb
  simp only [s69]
  (refine gw0 ?_; try exact True.intro)
  refine f82 hn ?_
  intro B
  have e : Int.tdiv ((n : Int) + 7) 8 = ((ny n : Nat) : Int) := tdiv8 (n + 7)
  have hy : ny n ≤ 4194304 := by unfold ny; omega
  have h1 : ((s.length : Int) = (ny n : Int)) = False := by simp; omega
  (refine gw2 @e @h1 ?_; try exact True.intro)
  (repeat (refine And.intro (by omega) ?_))
  exact h
def Ix26 (n : Nat) (s : List (BitVec 8)) (B : Option Blk) (H : Heap) (k : Nat) (st : St) : Prop :=
  ∃ (i : Nat) (u1 u2 u3 : AV), st = ⟨[.int (n : Int), .str s, .ptr H.length 0 [0] (.st [.leaf, .leaf]), .int 0, .ptr (H.length + 3) 0 [0] (.st [.leaf, .leaf]), .int 0, u1, u2, .bool false, .bool false, .int s.length, .int (i : Int), u3, .un],
    H ++ [rblk, B, wblk n (cut (8 * i) (sf s)), vblk n (H.length + 2)]⟩ ∧ k = s.length - i ∧ i ≤ s.length
theorem f69 {K : AV → Heap → Prop} {H : Heap} {n : Nat} {s : List (BitVec 8)} (hn : n ≤ 4194304) (hs : s.length = ny n) (h : (Rb n s → K (.tup [.agg [.int 0, .nils], .int 13]) H) ∧ (¬ Rb n s → K (.tup [vec n (sf s), .int 0]) H)) : wpF P [] 69 [.int (n : Int), .str s] H K := by
  refine wpF_go c69 rfl 4 ?_
  intro ha hb
  simp only [s69]
  have e2 : H.length + 1 + 1 = H.length + 2 := rfl
  (refine gw0 ?_; try exact True.intro)
  refine f82 hn ?_
  intro B
  have e : Int.tdiv ((n : Int) + 7) 8 = ((ny n : Nat) : Int) := tdiv8 (n + 7)
  have hy : ny n ≤ 4194304 := by unfold ny; omega
  have h1 : ((s.length : Int) = (ny n : Int)) = True := by simp; omega
  (refine gw3 @e2 @e @h1 ?_; try exact True.intro)
  (repeat (refine And.intro (by omega) ?_))
  refine wp_inv (Ix26 n s B H) s.length ⟨0, _, _, _, by rw [Nat.mul_zero, cut_zero]; rfl, rfl, by omega⟩ ?_
  rintro k st ⟨i, u1, u2, u3, rfl, rfl, hi⟩
  unfold wblk vblk rblk
  by_cases hil : i < s.length
  · have h2 : ((i : Int) < (s.length : Int)) = True := by simp; omega
    have hd := tdiv8 i
    have hm := tmod8 i
    have he : (BitVec.ofInt 64 (8 * ((i % 8 : Nat) : Int))).toNat = 8 * (i % 8) := ofInt64_nat (i := 8 * (i % 8)) (by omega)
    have hwi : i / 8 < nw n := by unfold nw; unfold ny at hs; omega
    have hg : (wdA n (cut (8 * i) (sf s))).getD (i / 8) .un = .u64 (wd (cut (8 * i) (sf s)) (i / 8)) := ld_rng hwi
    have hget := lget_at (ps := wdA n (cut (8 * i) (sf s))) (i := i / 8) (by rw [wdA_len]; exact hwi)
    have hby := wdA_byte (n := n) (s := s) i
    (refine gw7 @h2 @hd @hm @he @hg @hget @hby ?_; try exact True.intro)
    (repeat (refine And.intro (by omega) ?_))
    exact ⟨s.length - (i + 1), by omega, i + 1, _, _, _, rfl, rfl, by omega⟩
  · have h2 : ((i : Int) < (s.length : Int)) = False := by simp; omega
    have hie : i = s.length := by omega
    subst hie
    rw [cut_sf]
    have hm := tmod8 n
    have hbi := rb_iff hs
    by_cases h8 : n % 8 = 0
    · have e8 : ((n % 8 : Nat) : Int) = 0 := by rw [h8]; rfl
      have hnr : ¬ Rb n s := fun hr => (hbi.1 hr).1 h8
      (refine gw4 @h2 @hm @e8 @demA ?_; try exact True.intro)
      exact h.2 hnr
    · have e8 : (((n % 8 : Nat) : Int) = 0) = False := by simp; omega
      have hs8 := sh8 n
      have hk : (s.length : Int) - 1 = ((s.length - 1 : Nat) : Int) := by unfold ny at hs; omega
      have hlt : s.length - 1 < s.length := by unfold ny at hs; omega
      have hlt2 : (((s.length - 1 : Nat) : Int) < (s.length : Int)) = True := by simp; omega
      by_cases hz : (s.getD (s.length - 1) 0) >>> (n % 8) = 0
      · have hnr : ¬ Rb n s := fun hr => (hbi.1 hr).2 hz
        have hzt : ((s.getD (s.length - 1) 0) >>> (n % 8) = 0) = True := eq_true hz
        (refine gw8 @h2 @hm @e8 @hs8 @hk @hlt2 @hzt @demA ?_; try exact True.intro)
        (repeat (refine And.intro (by omega) ?_))
        exact h.2 hnr
      · have hr : Rb n s := hbi.2 ⟨h8, hz⟩
        have hzt : ((s.getD (s.length - 1) 0) >>> (n % 8) = 0) = False := eq_false hz
        (refine gw7 @h2 @hm @e8 @hs8 @hk @hlt2 @hzt ?_; try exact True.intro)
        (repeat (refine And.intro (by omega) ?_))
        exact h.1 hr

/-! the reference -/
theorem ny_sum (n : Nat) : ((n / 8 : Nat) : Int) + (((n % 8 + 7) / 8 : Nat) : Int) = ((ny n : Nat) : Int) := by unfold ny; omega
theorem f70e {K : AV → Heap → Prop} {H : Heap} {n : Int} {s : List (BitVec 8)} (hn : n < 0 ∨ 4194304 < n) (h : K (.tup [.nils, .int 2]) H) : wpF P [] 70 [.int n, .str s] H K := by
  refine wpF_go c70 rfl 4 ?_
  intro ha hb
  simp only [s70]
  by_cases h0 : n < 0
  · (refine gw1 @h0 ?_; try exact True.intro)
    exact h
  · have h1 : (4194304 : Int) < n := by omega
    (refine gw2 @h0 @h1 ?_; try exact True.intro)
    exact h
theorem f70s {K : AV → Heap → Prop} {H : Heap} {n : Nat} {s : List (BitVec 8)} (hn : n ≤ 4194304) (hs : s.length ≠ ny n) (h : K (.tup [.nils, .int 11]) H) : wpF P [] 70 [.int (n : Int), .str s] H K := by
  refine wpF_go c70 rfl 4 ?_
  intro ha hb
  simp only [s70]
  have h0 : ((n : Int) < 0) = False := by simp
  have h1 : ((4194304 : Int) < (n : Int)) = False := by simp; omega
  have hd := tdiv8 n
  have hm := tmod8 n
  have hd2 : Int.tdiv (((n % 8 : Nat) : Int) + 7) 8 = (((n % 8 + 7) / 8 : Nat) : Int) := tdiv8 (n % 8 + 7)
  have hsum := ny_sum n
  have hy : ny n ≤ 4194304 := by unfold ny; omega
  have h2 : ((s.length : Int) = (ny n : Int)) = False := by simp; omega
  (refine gw7 @h0 @h1 @hd @hm @hd2 @hsum @h2 ?_; try exact True.intro)
  (repeat (refine And.intro (by omega) ?_))
  exact h
def Ix27 (n : Nat) (s : List (BitVec 8)) (H : Heap) (k : Nat) (st : St) : Prop :=
  ∃ (i : Nat) (u1 u2 u3 u4 : AV) (out : AV) (L : Heap), st = ⟨[.int (n : Int), .str s, .nils, .int 0, out, .int (i : Int), u1, .bool false, .bool false, u2, u3, u4], H ++ L⟩ ∧ k = 8 * s.length - i ∧ i ≤ 8 * s.length ∧
    apd 4 H.length (fun i => .bool (sf s i)) (min i n) out L ∧ ∀ j, n ≤ j → j < i → sf s j = false
theorem f70 {K : AV → Heap → Prop} {H : Heap} {n : Nat} {s : List (BitVec 8)} (hn : n ≤ 4194304) (hs : s.length = ny n)
    (h : (Rb n s → K (.tup [.nils, .int 13]) H) ∧ (¬ Rb n s → K (.tup [if n = 0 then .nils else .ro .leaf ((List.range n).map fun i => .bool (sf s i)), .int 0]) H)) : wpF P [] 70 [.int (n : Int), .str s] H K := by
  refine wpF_go c70 rfl 4 ?_
  intro ha hb
  simp only [s70]
  have h0 : ((n : Int) < 0) = False := by simp
  have h1 : ((4194304 : Int) < (n : Int)) = False := by simp; omega
  have hd := tdiv8 n
  have hm := tmod8 n
  have hd2 : Int.tdiv (((n % 8 : Nat) : Int) + 7) 8 = (((n % 8 + 7) / 8 : Nat) : Int) := tdiv8 (n % 8 + 7)
  have hsum := ny_sum n
  have hy : ny n ≤ 4194304 := by unfold ny; omega
  have hyn : n ≤ 8 * ny n := by unfold ny; omega
  have h2 : ((s.length : Int) = (ny n : Int)) = True := by simp; omega
  (refine gw7 @h0 @h1 @hd @hm @hd2 @hsum @h2 ?_; try exact True.intro)
  (repeat (refine And.intro (by omega) ?_))
  clear hd hm hd2 hsum
  refine wp_inv (Ix27 n s H) (8 * s.length) ⟨0, _, _, _, _, _, [], by rw [List.append_nil]; rfl, rfl, by omega, .inl ⟨by omega, rfl, rfl⟩, fun j _ hj => by omega⟩ ?_
  rintro k st ⟨i, u1, u2, u3, u4, out, L, rfl, rfl, hi, ho, hno⟩
  have e8 : (8 : Int) * (s.length : Int) = ((8 * s.length : Nat) : Int) := by omega
  by_cases hil : i < 8 * s.length
  · have h3 : ((i : Int) < ((8 * s.length : Nat) : Int)) = True := by simp; omega
    have hd := tdiv8 i
    have hm := tmod8 i
    have hs8 := sh8 i
    have hlt : (((i / 8 : Nat) : Int) < (s.length : Int)) = True := by simp; omega
    have hn2 : ((2 : BitVec 8) = 0) = False := by decide
    have hbit : decide ((s.getD (i / 8) 0) >>> (i % 8) % 2 = 1) = sf s i := bit_mod8 _ _
    by_cases hin : i < n
    · have h4 : ((n : Int) ≤ (i : Int)) = False := by simp; omega
      have h5 : ((i : Int) < (n : Int)) = True := by simp; omega
      rw [Nat.min_eq_left (by omega)] at ho
      have hsn := rng_snoc (F := fun i => AV.bool (sf s i)) (i := i)
      have hmin : min (i + 1) n = i + 1 := by omega
      rcases ho with ⟨rfl, rfl, rfl⟩ | ⟨hpos, rfl, T, J, rfl⟩
      · have h3 : ((0 : Int) < ((8 * s.length : Nat) : Int)) = True := by simp; omega
        have h4 : ((n : Int) ≤ 0) = False := by simp; omega
        have h5 : ((0 : Int) < (n : Int)) = True := by simp; omega
        have hlt : ((0 : Int) < (s.length : Int)) = True := by simp; omega
        have hbit : decide ((s.getD 0 0) % 2 = 1) = sf s 0 := by
          have := hbit
          rwa [show 0 % 8 = 0 from rfl, show 0 / 8 = 0 from rfl, BitVec.ushiftRight_zero] at this
        have hz : ∀ x : BitVec 8, x >>> 0 = x := fun x => BitVec.ushiftRight_zero x
        (refine gw8 @e8 @h3 @h4 @h5 @hlt @hn2 @hz @hbit ?_; try exact True.intro)
        (repeat (refine And.intro (by omega) ?_))
        refine ⟨8 * s.length - 1, by omega, 1, _, _, _, _, _, _, rfl, rfl, by omega, ?_, fun j h1 h2 => by omega⟩
        rw [hmin]
        exact .inr ⟨by omega, rfl, _, [], rfl⟩
      · (refine gw11 @e8 @h3 @h4 @h5 @hd @hm @hs8 @hlt @hn2 @hbit @hsn ?_; try exact True.intro)
        (repeat (refine And.intro (by omega) ?_))
        refine ⟨8 * s.length - (i + 1), by omega, i + 1, _, _, _, _, _, _, rfl, rfl, by omega, ?_, fun j h1 h2 => by omega⟩
        rw [hmin]
        exact .inr ⟨by omega, rfl, _, _, rfl⟩
    · have h4 : ((n : Int) ≤ (i : Int)) = True := by simp; omega
      have h5 : ((i : Int) < (n : Int)) = False := by simp; omega
      rw [Nat.min_eq_right (by omega)] at ho
      have hmin : min (i + 1) n = n := by omega
      cases hb2 : sf s i with
      | true =>
        rw [hb2] at hbit
        rcases ho with ⟨_, rfl, rfl⟩ | ⟨hpos, rfl, T, J, rfl⟩
        · (refine gw9 @e8 @h3 @h4 @hd @hm @hs8 @hlt @hn2 @hbit ?_; try exact True.intro)
          (repeat (refine And.intro (by omega) ?_))
          exact h.1 ⟨i, by omega, hb2⟩
        · (refine gw9 @e8 @h3 @h4 @hd @hm @hs8 @hlt @hn2 @hbit ?_; try exact True.intro)
          (repeat (refine And.intro (by omega) ?_))
          exact h.1 ⟨i, by omega, hb2⟩
      | false =>
        rw [hb2] at hbit
        (refine gw10 @e8 @h3 @h4 @h5 @hd @hm @hs8 @hlt @hn2 @hbit ?_; try exact True.intro)
        (repeat (refine And.intro (by omega) ?_))
        refine ⟨8 * s.length - (i + 1), by omega, i + 1, _, _, _, _, _, _, rfl, rfl, by omega, ?_, fun j h1 h2 => ?_⟩
        · rw [hmin]; exact ho
        · by_cases hji : j = i
          · subst hji; exact hb2
          · exact hno j h1 (by omega)
  · have h3 : ((i : Int) < ((8 * s.length : Nat) : Int)) = False := by simp; omega
    have hie : i = 8 * s.length := by omega
    have hnr : ¬ Rb n s := by
      rintro ⟨j, h1, h2⟩
      rcases Nat.lt_or_ge j i with h | h
      · rw [hno j h1 h] at h2; cases h2
      · rw [sf_out (by omega)] at h2; cases h2
    have hf := h.2 hnr
    rw [Nat.min_eq_right (by omega)] at ho
    rcases ho with ⟨hz, rfl, rfl⟩ | ⟨hpos, rfl, T, J, rfl⟩
    · rw [if_pos hz] at hf
      (refine gw2 @e8 @h3 ?_; try exact True.intro)
      exact ⟨by omega, by omega, hf⟩
    · rw [if_neg (by omega)] at hf
      have ht : ∀ {kp : Nat → Bool} {N : Nat} {h : Heap}, mapO (demK kp N h 2) (List.take n ((List.range n).map fun i => AV.bool (sf s i))) = some ((List.range n).map fun i => AV.bool (sf s i)) := by
        intro kp N h; rw [List.take_of_length_le (by simp)]; exact mapO_bool
      (refine gw3 @e8 @h3 @ht ?_; try exact True.intro)
      exact ⟨by omega, by omega, hf⟩
/-- 64 bits from a place on -/
theorem wd_at {n a : Nat} {f : Nat → Bool} : wd (fun j => cut (64 * nw n) f (a + j)) 0 =
    (if a / 64 < nw n then wd f (a / 64) >>> (a % 64) else 0) ||| (if 0 < a % 64 ∧ a / 64 + 1 < nw n then wd f (a / 64 + 1) <<< (64 - a % 64) else 0) := by
  symm
  apply wd_of
  intro j hj
  rw [BitVec.getLsbD_or]
  have e1 : (if a / 64 < nw n then wd f (a / 64) >>> (a % 64) else (0 : BitVec 64)).getLsbD j = (decide (a / 64 < nw n) && decide (a % 64 + j < 64) && f (a + j)) := by
    by_cases h : a / 64 < nw n
    · rw [if_pos h, BitVec.getLsbD_ushiftRight]
      by_cases h2 : a % 64 + j < 64
      · rw [wd_bit h2, show 64 * (a / 64) + (a % 64 + j) = a + j by omega]; simp [h, h2]
      · rw [BitVec.getLsbD_of_ge _ _ (by omega)]; simp [h2]
    · rw [if_neg h]; simp [h]
  have e2 : (if 0 < a % 64 ∧ a / 64 + 1 < nw n then wd f (a / 64 + 1) <<< (64 - a % 64) else (0 : BitVec 64)).getLsbD j = (decide (a / 64 + 1 < nw n) && decide (64 ≤ a % 64 + j) && f (a + j)) := by
    by_cases h : 0 < a % 64 ∧ a / 64 + 1 < nw n
    · rw [if_pos h, BitVec.getLsbD_shiftLeft]
      by_cases h2 : 64 ≤ a % 64 + j
      · have h3 : ¬ j < 64 - a % 64 := by omega
        rw [wd_bit (by omega), show 64 * (a / 64 + 1) + (j - (64 - a % 64)) = a + j by omega]; simp [h.2, h2, h3, hj]
      · have h3 : j < 64 - a % 64 := by omega
        simp [h2, h3]
    · rw [if_neg h]
      by_cases h2 : 64 ≤ a % 64 + j
      · have : ¬ (a / 64 + 1 < nw n) := fun h4 => h ⟨by omega, h4⟩
        simp [this]
      · simp [h2]
  rw [e1, e2]
  unfold cut
  simp only [Nat.mul_zero, Nat.zero_add]
  by_cases h1 : a % 64 + j < 64
  · have h2 : ¬ 64 ≤ a % 64 + j := by omega
    have h3 : (a + j < 64 * nw n) ↔ (a / 64 < nw n) := by omega
    simp [h1, h2, h3]
  · have h2 : 64 ≤ a % 64 + j := by omega
    have h3 : (a + j < 64 * nw n) ↔ (a / 64 + 1 < nw n) := by omega
    simp [h1, h2, h3]

theorem f86 {K : AV → Heap → Prop} {H : Heap} {n a : Nat} {f : Nat → Bool} (hn : n ≤ 100000000) (ha : a ≤ 1000000000) (h : K (.u64 (wd (fun j => cut (64 * nw n) f (a + j)) 0)) H) : wpF P [] 86 [vec n f, .int (a : Int)] H K := by
  refine wpF_go c86 rfl 3 ?_
  intro hA hb
  simp only [s86, vec]
  rw [wd_at] at h
  have orz : ∀ x : BitVec 64, x ||| 0 = x := fun x => BitVec.or_zero
  have hd := tdiv64 a
  have hm := tmod64 a
  have hs := sh64 a
  have hlen : (wdA n f).length = nw n := wdA_len
  have hnw : nw n ≤ 100000000 := by unfold nw; omega
  have hgt : ((0 : BitVec 64) < BitVec.ofInt 64 ((a % 64 : Nat) : Int)) = (0 < a % 64) := by
    rw [BitVec.lt_def, hs]; rfl
  have hsub : ((64 : BitVec 64) - BitVec.ofInt 64 ((a % 64 : Nat) : Int)).toNat = 64 - a % 64 := by
    rw [BitVec.toNat_sub, hs]
    have : (64 : BitVec 64).toNat = 64 := rfl
    rw [this]; omega
  have hi1 : ((a / 64 : Nat) : Int) + 1 = ((a / 64 + 1 : Nat) : Int) := by omega
  have hb1 : (((a / 64 : Nat) : Int)) ≤ 1000000000 := by omega
  by_cases h1 : a / 64 < nw n
  · rw [if_pos h1] at h
    have t1 : (((a / 64 : Nat) : Int) < (nw n : Int)) = True := by simp; omega
    have g1 : (wdA n f).getD (a / 64) .un = .u64 (wd f (a / 64)) := ld_rng h1
    by_cases h2 : 0 < a % 64
    · have t2 : (0 < a % 64) = True := eq_true h2
      by_cases h3 : a / 64 + 1 < nw n
      · rw [if_pos ⟨h2, h3⟩] at h
        have t3 : (((a / 64 + 1 : Nat) : Int) < (nw n : Int)) = True := by simp; omega
        have g2 : (wdA n f).getD (a / 64 + 1) .un = .u64 (wd f (a / 64 + 1)) := ld_rng h3
        (refine gw12 @hd @hm @hlen @t1 @g1 @hs @hgt @t2 @hi1 @t3 @g2 @hsub ?_; try exact True.intro)
        (repeat (refine And.intro (by omega) ?_))
        exact h
      · rw [if_neg (fun x => h3 x.2), orz] at h
        have t3 : (((a / 64 + 1 : Nat) : Int) < (nw n : Int)) = False := by simp; omega
        (refine gw10 @hd @hm @hlen @t1 @g1 @hs @hgt @t2 @hi1 @t3 ?_; try exact True.intro)
        (repeat (refine And.intro (by omega) ?_))
        exact h
    · have t2 : (0 < a % 64) = False := eq_false h2
      rw [if_neg (fun x => h2 x.1), orz] at h
      (refine gw8 @hd @hm @hlen @t1 @g1 @hs @hgt @t2 ?_; try exact True.intro)
      (repeat (refine And.intro (by omega) ?_))
      exact h
  · rw [if_neg h1, if_neg (by omega), orz] at h
    have t1 : (((a / 64 : Nat) : Int) < (nw n : Int)) = False := by simp; omega
    by_cases h2 : 0 < a % 64
    · have t2 : (0 < a % 64) = True := eq_true h2
      have t3 : (((a / 64 + 1 : Nat) : Int) < (nw n : Int)) = False := by simp; omega
      (refine gw9 @hd @hm @hlen @t1 @hs @hgt @t2 @hi1 @t3 ?_; try exact True.intro)
      (repeat (refine And.intro (by omega) ?_))
      exact h
    · have t2 : (0 < a % 64) = False := eq_false h2
      (refine gw7 @hd @hm @hlen @t1 @hs @hgt @t2 ?_; try exact True.intro)
      (repeat (refine And.intro (by omega) ?_))
      exact h

/-- a part that isn't there -/
theorem f73e {K : AV → Heap → Prop} {H : Heap} {n : Nat} {f : Nat → Bool} {a b : Int} (hab : a < 0 ∨ b < a ∨ (n : Int) < b) (h : K (.tup [.agg [.int 0, .nils], .int 1]) H) : wpF P [] 73 [vec n f, .int a, .int b] H K := by
  refine wpF_go c73 rfl 4 ?_
  intro hA hb
  simp only [s73, vec]
  by_cases h1 : a < 0
  · (refine gw1 @h1 ?_; try exact True.intro)
    exact h
  by_cases h2 : b < a
  · (refine gw2 @h1 @h2 ?_; try exact True.intro)
    exact h
  have h3 : (n : Int) < b := by omega
  (refine gw3 @h1 @h2 @h3 ?_; try exact True.intro)
  exact h
def Ix30 (n : Nat) (f : Nat → Bool) (a b : Nat) (H : Heap) (k : Nat) (st : St) : Prop :=
  ∃ (i : Nat) (u1 u2 : AV), st = ⟨[.agg [.int (n : Int), .ro .leaf (wdA n f)], .int (a : Int), .int (b : Int), .ptr H.length 0 [0] (.st [.leaf, .leaf]), .ptr (H.length + 1) 0 [0] (.st [.leaf, .leaf]), .int 0, .ptr (H.length + 3) 0 [0] (.st [.leaf, .leaf]), u1, .bool false, .int (nw (b - a) : Nat), .int (i : Int), u2],
    H ++ [bxv n f, rblk, some ⟨22, 0, true, .arr (nw (b - a)) .leaf, .agg (fillL (fun k => .u64 (wd (fun j => cut (64 * nw n) f (a + j)) k)) (.u64 0) (nw (b - a)) i)⟩, vblk (b - a) (H.length + 2)]⟩ ∧ k = nw (b - a) - i ∧ i ≤ nw (b - a)
theorem f73 {K : AV → Heap → Prop} {H : Heap} {n : Nat} {f : Nat → Bool} {a b : Nat} (hn : n ≤ 100000000) (hab : a ≤ b) (hbn : b ≤ n) (h : K (.tup [vec (b - a) (cut (b - a) fun j => f (a + j)), .int 0]) H) : wpF P [] 73 [vec n f, .int (a : Int), .int (b : Int)] H K := by
  refine wpF_go c73 rfl 4 ?_
  intro hA hb
  simp only [s73, vec]
  have h1 : ((a : Int) < 0) = False := by simp
  have h2 : ((b : Int) < (a : Int)) = False := by simp; omega
  have h3 : ((n : Int) < (b : Int)) = False := by simp; omega
  have e1 : (b : Int) - (a : Int) = ((b - a : Nat) : Int) := by omega
  (refine gw4 @h1 @h2 @h3 @e1 ?_; try exact True.intro)
  (repeat (refine And.intro (by omega) ?_))
  refine f83 (by omega) ?_
  have hnw : nw (b - a) ≤ 100000000 := by unfold nw; omega
  (refine gw0 ?_; try exact True.intro)
  (repeat (refine And.intro (by omega) ?_))
  refine wp_inv (Ix30 n f a b H) (nw (b - a)) ⟨0, _, _, by rw [fill_zero]; rfl, rfl, by omega⟩ ?_
  rintro k st ⟨i, u1, u2, rfl, rfl, hi⟩
  unfold bxv rblk vblk
  by_cases hil : i < nw (b - a)
  · have t1 : ((i : Int) < (nw (b - a) : Int)) = True := by simp; omega
    have hget := lget_at (ps := fillL (fun k => AV.u64 (wd (fun j => cut (64 * nw n) f (a + j)) k)) (AV.u64 0) (nw (b - a)) i) (i := i) (by rw [fill_length (by omega)]; exact hil)
    have e2 : (a : Int) + 64 * (i : Int) = ((a + 64 * i : Nat) : Int) := by omega
    have e3 : wd (fun j => cut (64 * nw n) f (a + 64 * i + j)) 0 = wd (fun j => cut (64 * nw n) f (a + j)) i := by
      apply wd_of
      intro j hj
      rw [wd_bit hj, Nat.mul_zero, Nat.zero_add, Nat.add_assoc]
    (refine gw2 @t1 @e2 ?_; try exact True.intro)
    (repeat (refine And.intro (by omega) ?_))
    have hbd : 64 * nw (b - a) ≤ (b - a) + 63 := by unfold nw; omega
    refine drawn _ (f86 (n := n) (f := f) hn (by omega) ⟨rfl, rfl⟩) ?_
    rw [e3]
    (refine gw2 @t1 @hget ?_; try exact True.intro)
    (repeat (refine And.intro (by omega) ?_))
    exact ⟨nw (b - a) - (i + 1), by omega, i + 1, _, _, by rw [← fill_set hil]; rfl, rfl, by omega⟩
  · have t1 : ((i : Int) < (nw (b - a) : Int)) = False := by simp; omega
    have hie : i = nw (b - a) := by omega
    have hf : fillL (fun k => AV.u64 (wd (fun j => cut (64 * nw n) f (a + j)) k)) (AV.u64 0) (nw (b - a)) (nw (b - a)) = wdA (b - a) fun j => cut (64 * nw n) f (a + j) := by rw [fill_all]; rfl
    have hc : cut (b - a) (fun j => cut (64 * nw n) f (a + j)) = cut (b - a) fun j => f (a + j) := by
      funext j
      unfold cut
      by_cases hj : j < b - a
      · have : a + j < 64 * nw n := by unfold nw; omega
        simp [hj, this]
      · simp [hj]
    subst hie
    (refine gw2 @t1 @hf ?_; try exact True.intro)
    refine f84' (H0 := H ++ [bxv n f, rblk]) (L := [vblk (b - a) (H.length + 2)]) (f := fun j => cut (64 * nw n) f (a + j)) (by simp) (by simp [rblk, vblk, wblk, bxv]) (by omega) ?_
    rw [hc]
    unfold bxv wblk vblk rblk
    (refine gw1 @demA ?_; try exact True.intro)
    exact h
end Go.Proofs.Ytebmlmkiblieiaa
