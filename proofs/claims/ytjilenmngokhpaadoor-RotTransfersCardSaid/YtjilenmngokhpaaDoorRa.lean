/-
  Layer 4 (sha), as this seat's program has it: blocks, and states as bytes.
-/
import Derived.Test.YtjilenmngokhpaaDoorBm
import Derived.Test.YtjilenmngokhpaaDoorV38
import Derived.Test.YtjilenmngokhpaaDoorV44
import Derived.KernelRfl
import Derived.Test.YtjilenmngokhpaaDoorRows
section
open Go Go.V
namespace Go.Proofs.YtjilenmngokhpaaDoor
noncomputable abbrev P := Go.Proofs.Tryd.prog
def G : Globs := [(0, .arr 64 .leaf, .agg (rnds.map .u32))]
set_option maxRecDepth 100000
set_option linter.unusedSimpArgs false
set_option linter.unusedVariables false
/-- (*trefoil/sha.Sums).Write (0:x, 1:s, 5:, 10:, 36:) -/
def s47 : FnS := ⟨53, [0, 1, 5, 10, 36],
    (.seq (.seq (.reg [⟨.new, (.q .mv), [.t 0], none⟩,
      ⟨.var 2, (.q (.eqP false)), [.t 5, .c .nilp], none⟩])
    (.cond (.t 2) .ret
    .skip))
    (.seq (.seq (.reg [⟨.new, (.q .mv), [.t 0], none⟩,
      ⟨.new, (.q .nilc), [.t 5], none⟩,
      ⟨.new, (.q (.fa [(.arr 8 .leaf), .leaf, .leaf, .leaf] 3)), [.t 6], none⟩,
      ⟨.new, (.q (.ld .leaf)), [.t 7], none⟩,
      ⟨.var 3, (.q (.un .not)), [.t 8], none⟩])
    (.cond (.t 3) (.reg [⟨.new, (.q .mv), [.t 0], none⟩,
      ⟨.new, (.q .mv), [.t 0], none⟩,
      ⟨.new, (.call 62), [], none⟩,
      ⟨.new, (.q .nilc), [.t 5], none⟩,
      ⟨.new, (.q (.fa [(.arr 8 .leaf), .leaf, .leaf, .leaf] 0)), [.t 8], none⟩,
      ⟨.none, (.e (.store (.arr 8 .leaf))), [.t 9, .t 7], none⟩,
      ⟨.new, (.q .nilc), [.t 6], none⟩,
      ⟨.new, (.q (.fa [(.arr 8 .leaf), .leaf, .leaf, .leaf] 3)), [.t 10], none⟩,
      ⟨.none, (.e (.store .leaf)), [.t 11, .c (.bool true)], none⟩])
    .skip))
    (.seq (.reg [⟨.new, (.q .mv), [.t 0], none⟩,
      ⟨.new, (.q .nilc), [.t 5], none⟩,
      ⟨.new, (.q (.fa [(.arr 8 .leaf), .leaf, .leaf, .leaf] 2)), [.t 6], none⟩,
      ⟨.new, (.q (.ld .leaf)), [.t 7], none⟩,
      ⟨.new, (.q .mv), [.t 1], none⟩,
      ⟨.new, (.q .lenS), [.t 9], none⟩,
      ⟨.new, (.q (.cv .u64)), [.t 10], none⟩,
      ⟨.new, (.q (.bin .add)), [.t 8, .t 11], none⟩,
      ⟨.new, (.q .nilc), [.t 5], none⟩,
      ⟨.new, (.q (.fa [(.arr 8 .leaf), .leaf, .leaf, .leaf] 2)), [.t 13], none⟩,
      ⟨.none, (.e (.store .leaf)), [.t 14, .t 12], none⟩])
    (.seq (.reg [⟨.new, (.q .mv), [.t 0], none⟩,
      ⟨.new, (.q .nilc), [.t 5], none⟩,
      ⟨.new, (.q (.fa [(.arr 8 .leaf), .leaf, .leaf, .leaf] 1)), [.t 6], none⟩,
      ⟨.new, (.q (.ld .leaf)), [.t 7], none⟩,
      ⟨.new, (.q .mv), [.t 1], none⟩,
      ⟨.new, (.q (.bin .add)), [.t 8, .t 9], none⟩,
      ⟨.var 1, (.q .mv), [.t 10], none⟩])
    (.seq (.block 0 (.loop (.seq (.seq (.reg [⟨.new, (.q .mv), [.t 1], none⟩,
      ⟨.new, (.q .lenS), [.t 5], none⟩,
      ⟨.var 4, (.q (.bin .geq)), [.t 6, .c (.int 64)], none⟩])
    (.cond (.t 4) .skip
    (.exit 0)))
    (.block 1 (.seq (.draw [⟨.new, (.q .mv), [.t 0], none⟩,
      ⟨.new, (.q .mv), [.t 0], none⟩,
      ⟨.new, (.q .nilc), [.t 6], none⟩,
      ⟨.new, (.q (.fa [(.arr 8 .leaf), .leaf, .leaf, .leaf] 0)), [.t 7], none⟩,
      ⟨.new, (.q (.ld (.arr 8 .leaf))), [.t 8], none⟩,
      ⟨.new, (.q .mv), [.t 1], none⟩,
      ⟨.new, (.q (.slS false true)), [.t 10, .c (.int 64)], none⟩,
      ⟨.new, (.call 63), [.t 9, .t 11], none⟩,
      ⟨.new, (.q .nilc), [.t 5], none⟩,
      ⟨.new, (.q (.fa [(.arr 8 .leaf), .leaf, .leaf, .leaf] 0)), [.t 13], none⟩,
      ⟨.none, (.e (.store (.arr 8 .leaf))), [.t 14, .t 12], none⟩])
    (.reg [⟨.new, (.q .mv), [.t 1], none⟩,
      ⟨.new, (.q (.slS true false)), [.t 5, .c (.int 64)], none⟩,
      ⟨.var 1, (.q .mv), [.t 6], none⟩]))))))
    (.reg [⟨.new, (.q .mv), [.t 0], none⟩,
      ⟨.new, (.q .mv), [.t 1], none⟩,
      ⟨.new, (.q .nilc), [.t 5], none⟩,
      ⟨.new, (.q (.fa [(.arr 8 .leaf), .leaf, .leaf, .leaf] 1)), [.t 7], none⟩,
      ⟨.none, (.e (.store .leaf)), [.t 8, .t 6], none⟩])))))),
    []⟩

/-- (*trefoil/sha.Sums).Sum (0:x, 2:, 3:h, 4:b, 5:end, 6:n, 7:i, 8:i, 10:, 20:, 41:, 47:, 48:, 65:) -/
def s48 : FnS := ⟨78, [0, 2, 3, 4, 5, 6, 7, 8, 10, 20, 41, 47, 48, 65],
    (.seq (.reg [⟨.var 1, (.e (.alloc 76 (.arr 32 .leaf) (.agg [(.u8 0), (.u8 0), (.u8 0), (.u8 0), (.u8 0), (.u8 0), (.u8 0), (.u8 0), (.u8 0), (.u8 0), (.u8 0), (.u8 0), (.u8 0), (.u8 0), (.u8 0), (.u8 0), (.u8 0), (.u8 0), (.u8 0), (.u8 0), (.u8 0), (.u8 0), (.u8 0), (.u8 0), (.u8 0), (.u8 0), (.u8 0), (.u8 0), (.u8 0), (.u8 0), (.u8 0), (.u8 0)]))), [], none⟩])
    (.seq (.seq (.reg [⟨.new, (.q .mv), [.t 0], none⟩,
      ⟨.var 8, (.q (.eqP false)), [.t 14, .c .nilp], none⟩])
    (.cond (.t 8) (.seq (.reg [⟨.new, (.e (.bld (.arr 32 .leaf) (.agg [(.u8 0), (.u8 0), (.u8 0), (.u8 0), (.u8 0), (.u8 0), (.u8 0), (.u8 0), (.u8 0), (.u8 0), (.u8 0), (.u8 0), (.u8 0), (.u8 0), (.u8 0), (.u8 0), (.u8 0), (.u8 0), (.u8 0), (.u8 0), (.u8 0), (.u8 0), (.u8 0), (.u8 0), (.u8 0), (.u8 0), (.u8 0), (.u8 0), (.u8 0), (.u8 0), (.u8 0), (.u8 0)]) [])), [], none⟩,
      ⟨.none, (.e (.store (.arr 32 .leaf))), [.t 1, .t 14], none⟩])
    .ret)
    .skip))
    (.seq (.reg [⟨.new, (.q .mv), [.t 0], none⟩,
      ⟨.new, (.q .nilc), [.t 14], none⟩,
      ⟨.new, (.q (.fa [(.arr 8 .leaf), .leaf, .leaf, .leaf] 0)), [.t 15], none⟩,
      ⟨.new, (.q (.ld (.arr 8 .leaf))), [.t 16], none⟩,
      ⟨.var 2, (.e (.alloc 99 (.arr 8 .leaf) (.agg [(.u32 0), (.u32 0), (.u32 0), (.u32 0), (.u32 0), (.u32 0), (.u32 0), (.u32 0)]))), [], none⟩,
      ⟨.none, (.e (.store (.arr 8 .leaf))), [.t 2, .t 17], none⟩])
    (.seq (.seq (.reg [⟨.new, (.q .mv), [.t 0], none⟩,
      ⟨.new, (.q .nilc), [.t 14], none⟩,
      ⟨.new, (.q (.fa [(.arr 8 .leaf), .leaf, .leaf, .leaf] 3)), [.t 15], none⟩,
      ⟨.new, (.q (.ld .leaf)), [.t 16], none⟩,
      ⟨.var 9, (.q (.un .not)), [.t 17], none⟩])
    (.cond (.t 9) (.reg [⟨.new, (.call 62), [], none⟩,
      ⟨.none, (.e (.store (.arr 8 .leaf))), [.t 2, .t 14], none⟩])
    .skip))
    (.seq (.reg [⟨.new, (.e (.mksl 5 .leaf 1 (.u8 0))), [.c (.int 128), .c (.int 128)], none⟩,
      ⟨.var 3, (.q .mv), [.t 14], none⟩])
    (.seq (.reg [⟨.new, (.q .mv), [.t 3], none⟩,
      ⟨.new, (.q .mv), [.t 0], none⟩,
      ⟨.new, (.q .nilc), [.t 15], none⟩,
      ⟨.new, (.q (.fa [(.arr 8 .leaf), .leaf, .leaf, .leaf] 1)), [.t 16], none⟩,
      ⟨.new, (.q (.ld .leaf)), [.t 17], none⟩,
      ⟨.new, (.e .cpyS), [.t 14, .t 18], none⟩])
    (.seq (.reg [⟨.new, (.q .mv), [.t 3], none⟩,
      ⟨.new, (.q .mv), [.t 0], none⟩,
      ⟨.new, (.q .nilc), [.t 15], none⟩,
      ⟨.new, (.q (.fa [(.arr 8 .leaf), .leaf, .leaf, .leaf] 1)), [.t 16], none⟩,
      ⟨.new, (.q (.ld .leaf)), [.t 17], none⟩,
      ⟨.new, (.q .lenS), [.t 18], none⟩,
      ⟨.new, (.q (.iaS .leaf)), [.t 14, .t 19], none⟩,
      ⟨.none, (.e (.store .leaf)), [.t 20, .c (.u8 128)], none⟩])
    (.seq (.reg [⟨.var 4, (.q .mv), [.c (.int 64)], none⟩])
    (.seq (.seq (.reg [⟨.new, (.q .mv), [.t 0], none⟩,
      ⟨.new, (.q .nilc), [.t 14], none⟩,
      ⟨.new, (.q (.fa [(.arr 8 .leaf), .leaf, .leaf, .leaf] 1)), [.t 15], none⟩,
      ⟨.new, (.q (.ld .leaf)), [.t 16], none⟩,
      ⟨.new, (.q .lenS), [.t 17], none⟩,
      ⟨.var 10, (.q (.bin .geq)), [.t 18, .c (.int 56)], none⟩])
    (.cond (.t 10) (.reg [⟨.var 4, (.q .mv), [.c (.int 128)], none⟩])
    .skip))
    (.seq (.reg [⟨.new, (.q .mv), [.t 0], none⟩,
      ⟨.new, (.q .nilc), [.t 14], none⟩,
      ⟨.new, (.q (.fa [(.arr 8 .leaf), .leaf, .leaf, .leaf] 2)), [.t 15], none⟩,
      ⟨.new, (.q (.ld .leaf)), [.t 16], none⟩,
      ⟨.new, (.q (.bin .mul)), [.t 17, .c (.u64 8)], none⟩,
      ⟨.var 5, (.q .mv), [.t 18], none⟩])
    (.seq (.seq (.reg [⟨.var 11, (.q .mv), [.c (.int 0)], none⟩])
    (.block 0 (.loop (.seq (.reg [⟨.var 12, (.q (.bin .lss)), [.t 11, .c (.int 8)], none⟩])
    (.seq (.cond (.t 12) .skip
    (.exit 0))
    (.seq (.block 1 (.seq (.reg [⟨.new, (.q .mv), [.t 11], none⟩,
      ⟨.var 6, (.q .mv), [.t 14], none⟩])
    (.reg [⟨.new, (.q .mv), [.t 3], none⟩,
      ⟨.new, (.q .mv), [.t 4], none⟩,
      ⟨.new, (.q (.bin .sub)), [.t 15, .c (.int 1)], none⟩,
      ⟨.new, (.q .mv), [.t 6], none⟩,
      ⟨.new, (.q (.bin .sub)), [.t 16, .t 17], none⟩,
      ⟨.new, (.q .mv), [.t 5], none⟩,
      ⟨.new, (.q .mv), [.t 6], none⟩,
      ⟨.new, (.q (.bin .mul)), [.c (.int 8), .t 20], none⟩,
      ⟨.new, (.q (.cv .u64)), [.t 21], none⟩,
      ⟨.new, (.q (.bin .shr)), [.t 19, .t 22], none⟩,
      ⟨.new, (.q (.cv .u8)), [.t 23], none⟩,
      ⟨.new, (.q (.iaS .leaf)), [.t 14, .t 18], none⟩,
      ⟨.none, (.e (.store .leaf)), [.t 25, .t 24], none⟩])))
    (.reg [⟨.new, (.q (.bin .add)), [.t 11, .c (.int 1)], none⟩,
      ⟨.var 11, (.q .mv), [.t 14], none⟩])))))))
    (.seq (.seq (.reg [⟨.var 7, (.q .mv), [.c (.int 0)], none⟩])
    (.block 2 (.loop (.seq (.seq (.reg [⟨.new, (.q .mv), [.t 7], none⟩,
      ⟨.new, (.q .mv), [.t 4], none⟩,
      ⟨.var 13, (.q (.bin .lss)), [.t 14, .t 15], none⟩])
    (.cond (.t 13) .skip
    (.exit 2)))
    (.seq (.block 3 (.draw [⟨.new, (.q (.ld (.arr 8 .leaf))), [.t 2], none⟩,
      ⟨.new, (.q .mv), [.t 3], none⟩,
      ⟨.new, (.q .mv), [.t 7], none⟩,
      ⟨.new, (.q .mv), [.t 7], none⟩,
      ⟨.new, (.q (.bin .add)), [.t 17, .c (.int 64)], none⟩,
      ⟨.new, (.q (.slV .leaf true true)), [.t 15, .t 16, .t 18], none⟩,
      ⟨.new, (.q .b2s), [.t 19], none⟩,
      ⟨.new, (.call 63), [.t 14, .t 20], none⟩,
      ⟨.none, (.e (.store (.arr 8 .leaf))), [.t 2, .t 21], none⟩]))
    (.reg [⟨.new, (.q .mv), [.t 7], none⟩,
      ⟨.new, (.q (.bin .add)), [.t 14, .c (.int 64)], none⟩,
      ⟨.var 7, (.q .mv), [.t 15], none⟩]))))))
    (.seq (.reg [⟨.new, (.q (.ld (.arr 8 .leaf))), [.t 2], none⟩,
      ⟨.new, (.call 64), [.t 14], none⟩,
      ⟨.none, (.e (.store (.arr 32 .leaf))), [.t 1, .t 15], none⟩])
    .ret))))))))))))),
    [.cell 1 (.arr 32 .leaf)]⟩

/-- trefoil/sha.begin (0:) -/
def s62 : FnS := ⟨2, [0],
    (.seq (.reg [⟨.var 0, (.e (.alloc 99 (.arr 8 .leaf) (.agg [(.u32 0), (.u32 0), (.u32 0), (.u32 0), (.u32 0), (.u32 0), (.u32 0), (.u32 0)]))), [], none⟩])
    (.seq (.reg [⟨.new, (.e (.bld (.arr 8 .leaf) (.agg [(.u32 0), (.u32 0), (.u32 0), (.u32 0), (.u32 0), (.u32 0), (.u32 0), (.u32 0)]) [0, 1, 2, 3, 4, 5, 6, 7])), [.c (.u32 1779033703), .c (.u32 3144134277), .c (.u32 1013904242), .c (.u32 2773480762), .c (.u32 1359893119), .c (.u32 2600822924), .c (.u32 528734635), .c (.u32 1541459225)], none⟩,
      ⟨.none, (.e (.store (.arr 8 .leaf))), [.t 0, .t 1], none⟩])
    .ret)),
    [.cell 0 (.arr 8 .leaf)]⟩

/-- (trefoil/sha.state).block (0:h, 1:s, 2:h, 4:, 5:w, 6:i, 7:i, 8:a, 9:b, 10:x, 11:y, 12:v, 13:i, 14:a, 15:e, 16:x, 17:t, 18:y, 19:u, 20:i, 21:, 22:, 36:, 79:, 80:, 161:, 162:) -/
def s63 : FnS := ⟨174, [0, 1, 2, 4, 5, 6, 7, 8, 9, 10, 11, 12, 13, 14, 15, 16, 17, 18, 19, 20, 21, 22, 36, 79, 80, 161, 162],
    (.seq (.reg [⟨.var 2, (.e (.box 99 (.arr 8 .leaf))), [.t 0], none⟩,
      ⟨.var 3, (.e (.alloc 99 (.arr 8 .leaf) (.agg [(.u32 0), (.u32 0), (.u32 0), (.u32 0), (.u32 0), (.u32 0), (.u32 0), (.u32 0)]))), [], none⟩])
    (.seq (.reg [⟨.var 4, (.e (.alloc 136 (.arr 64 .leaf) (.agg [(.u32 0), (.u32 0), (.u32 0), (.u32 0), (.u32 0), (.u32 0), (.u32 0), (.u32 0), (.u32 0), (.u32 0), (.u32 0), (.u32 0), (.u32 0), (.u32 0), (.u32 0), (.u32 0), (.u32 0), (.u32 0), (.u32 0), (.u32 0), (.u32 0), (.u32 0), (.u32 0), (.u32 0), (.u32 0), (.u32 0), (.u32 0), (.u32 0), (.u32 0), (.u32 0), (.u32 0), (.u32 0), (.u32 0), (.u32 0), (.u32 0), (.u32 0), (.u32 0), (.u32 0), (.u32 0), (.u32 0), (.u32 0), (.u32 0), (.u32 0), (.u32 0), (.u32 0), (.u32 0), (.u32 0), (.u32 0), (.u32 0), (.u32 0), (.u32 0), (.u32 0), (.u32 0), (.u32 0), (.u32 0), (.u32 0), (.u32 0), (.u32 0), (.u32 0), (.u32 0), (.u32 0), (.u32 0), (.u32 0), (.u32 0)]))), [], none⟩])
    (.seq (.seq (.reg [⟨.var 20, (.q .mv), [.c (.int 0)], none⟩])
    (.block 0 (.loop (.seq (.reg [⟨.var 21, (.q (.bin .lss)), [.t 20, .c (.int 16)], none⟩])
    (.seq (.cond (.t 21) .skip
    (.exit 0))
    (.seq (.block 1 (.seq (.reg [⟨.new, (.q .mv), [.t 20], none⟩,
      ⟨.var 5, (.q .mv), [.t 27], none⟩])
    (.reg [⟨.new, (.q .mv), [.t 5], none⟩,
      ⟨.new, (.q .mv), [.t 1], none⟩,
      ⟨.new, (.q .mv), [.t 5], none⟩,
      ⟨.new, (.q (.bin .mul)), [.c (.int 4), .t 29], none⟩,
      ⟨.new, (.q .mv), [.t 5], none⟩,
      ⟨.new, (.q (.bin .mul)), [.c (.int 4), .t 31], none⟩,
      ⟨.new, (.q (.bin .add)), [.t 32, .c (.int 4)], none⟩,
      ⟨.new, (.q (.slS true true)), [.t 28, .t 30, .t 33], none⟩,
      ⟨.new, (.call 76), [.t 34], none⟩,
      ⟨.new, (.q (.iaA 64 .leaf)), [.t 4, .t 27], none⟩,
      ⟨.none, (.e (.store .leaf)), [.t 36, .t 35], none⟩])))
    (.reg [⟨.new, (.q (.bin .add)), [.t 20, .c (.int 1)], none⟩,
      ⟨.var 20, (.q .mv), [.t 27], none⟩])))))))
    (.seq (.seq (.reg [⟨.var 6, (.q .mv), [.c (.int 16)], none⟩])
    (.block 2 (.loop (.seq (.seq (.reg [⟨.new, (.q .mv), [.t 6], none⟩,
      ⟨.var 22, (.q (.bin .lss)), [.t 27, .c (.int 64)], none⟩])
    (.cond (.t 22) .skip
    (.exit 2)))
    (.seq (.block 3 (.seq (.draw [⟨.new, (.q .mv), [.t 6], none⟩,
      ⟨.new, (.q (.bin .sub)), [.t 27, .c (.int 15)], none⟩,
      ⟨.new, (.q (.iaA 64 .leaf)), [.t 4, .t 28], none⟩,
      ⟨.new, (.q (.ld .leaf)), [.t 29], none⟩,
      ⟨.new, (.q .mv), [.t 6], none⟩,
      ⟨.new, (.q (.bin .sub)), [.t 31, .c (.int 2)], none⟩,
      ⟨.new, (.q (.iaA 64 .leaf)), [.t 4, .t 32], none⟩,
      ⟨.new, (.q (.ld .leaf)), [.t 33], none⟩,
      ⟨.var 7, (.q .mv), [.t 30], none⟩,
      ⟨.var 8, (.q .mv), [.t 34], none⟩])
    (.seq (.reg [⟨.new, (.q .mv), [.t 7], none⟩,
      ⟨.new, (.call 77), [.t 27, .c (.int (-7))], none⟩,
      ⟨.new, (.q .mv), [.t 7], none⟩,
      ⟨.new, (.call 77), [.t 29, .c (.int (-18))], none⟩,
      ⟨.new, (.q (.bin .xor)), [.t 28, .t 30], none⟩,
      ⟨.new, (.q .mv), [.t 7], none⟩,
      ⟨.new, (.q (.bin .shr)), [.t 32, .c (.u64 3)], none⟩,
      ⟨.new, (.q (.bin .xor)), [.t 31, .t 33], none⟩,
      ⟨.var 9, (.q .mv), [.t 34], none⟩])
    (.seq (.reg [⟨.new, (.q .mv), [.t 8], none⟩,
      ⟨.new, (.call 77), [.t 27, .c (.int (-17))], none⟩,
      ⟨.new, (.q .mv), [.t 8], none⟩,
      ⟨.new, (.call 77), [.t 29, .c (.int (-19))], none⟩,
      ⟨.new, (.q (.bin .xor)), [.t 28, .t 30], none⟩,
      ⟨.new, (.q .mv), [.t 8], none⟩,
      ⟨.new, (.q (.bin .shr)), [.t 32, .c (.u64 10)], none⟩,
      ⟨.new, (.q (.bin .xor)), [.t 31, .t 33], none⟩,
      ⟨.var 10, (.q .mv), [.t 34], none⟩])
    (.draw [⟨.new, (.q .mv), [.t 6], none⟩,
      ⟨.new, (.q .mv), [.t 6], none⟩,
      ⟨.new, (.q (.bin .sub)), [.t 28, .c (.int 16)], none⟩,
      ⟨.new, (.q (.iaA 64 .leaf)), [.t 4, .t 29], none⟩,
      ⟨.new, (.q (.ld .leaf)), [.t 30], none⟩,
      ⟨.new, (.q .mv), [.t 9], none⟩,
      ⟨.new, (.q (.bin .add)), [.t 31, .t 32], none⟩,
      ⟨.new, (.q .mv), [.t 6], none⟩,
      ⟨.new, (.q (.bin .sub)), [.t 34, .c (.int 7)], none⟩,
      ⟨.new, (.q (.iaA 64 .leaf)), [.t 4, .t 35], none⟩,
      ⟨.new, (.q (.ld .leaf)), [.t 36], none⟩,
      ⟨.new, (.q (.bin .add)), [.t 33, .t 37], none⟩,
      ⟨.new, (.q .mv), [.t 10], none⟩,
      ⟨.new, (.q (.bin .add)), [.t 38, .t 39], none⟩,
      ⟨.new, (.q (.iaA 64 .leaf)), [.t 4, .t 27], none⟩,
      ⟨.none, (.e (.store .leaf)), [.t 41, .t 40], none⟩])))))
    (.reg [⟨.new, (.q .mv), [.t 6], none⟩,
      ⟨.new, (.q (.bin .add)), [.t 27, .c (.int 1)], none⟩,
      ⟨.var 6, (.q .mv), [.t 28], none⟩]))))))
    (.seq (.reg [⟨.new, (.q (.ld (.arr 8 .leaf))), [.t 2], none⟩,
      ⟨.var 11, (.e (.alloc 99 (.arr 8 .leaf) (.agg [(.u32 0), (.u32 0), (.u32 0), (.u32 0), (.u32 0), (.u32 0), (.u32 0), (.u32 0)]))), [], none⟩,
      ⟨.none, (.e (.store (.arr 8 .leaf))), [.t 11, .t 27], none⟩])
    (.seq (.seq (.reg [⟨.var 23, (.q .mv), [.c (.int 0)], none⟩])
    (.block 4 (.loop (.seq (.reg [⟨.var 24, (.q (.bin .lss)), [.t 23, .c (.int 64)], none⟩])
    (.seq (.cond (.t 24) .skip
    (.exit 4))
    (.seq (.block 5 (.seq (.reg [⟨.new, (.q .mv), [.t 23], none⟩,
      ⟨.var 12, (.q .mv), [.t 27], none⟩])
    (.seq (.draw [⟨.new, (.q (.iaA 8 .leaf)), [.t 11, .c (.int 0)], none⟩,
      ⟨.new, (.q (.ld .leaf)), [.t 27], none⟩,
      ⟨.new, (.q (.iaA 8 .leaf)), [.t 11, .c (.int 4)], none⟩,
      ⟨.new, (.q (.ld .leaf)), [.t 29], none⟩,
      ⟨.var 13, (.q .mv), [.t 28], none⟩,
      ⟨.var 14, (.q .mv), [.t 30], none⟩])
    (.seq (.reg [⟨.new, (.q .mv), [.t 14], none⟩,
      ⟨.new, (.call 77), [.t 27, .c (.int (-6))], none⟩,
      ⟨.new, (.q .mv), [.t 14], none⟩,
      ⟨.new, (.call 77), [.t 29, .c (.int (-11))], none⟩,
      ⟨.new, (.q (.bin .xor)), [.t 28, .t 30], none⟩,
      ⟨.new, (.q .mv), [.t 14], none⟩,
      ⟨.new, (.call 77), [.t 32, .c (.int (-25))], none⟩,
      ⟨.new, (.q (.bin .xor)), [.t 31, .t 33], none⟩,
      ⟨.var 15, (.q .mv), [.t 34], none⟩])
    (.seq (.draw [⟨.new, (.q (.iaA 8 .leaf)), [.t 11, .c (.int 7)], none⟩,
      ⟨.new, (.q (.ld .leaf)), [.t 27], none⟩,
      ⟨.new, (.q .mv), [.t 15], none⟩,
      ⟨.new, (.q (.bin .add)), [.t 28, .t 29], none⟩,
      ⟨.new, (.q .mv), [.t 14], none⟩,
      ⟨.new, (.q (.iaA 8 .leaf)), [.t 11, .c (.int 5)], none⟩,
      ⟨.new, (.q (.ld .leaf)), [.t 32], none⟩,
      ⟨.new, (.q (.bin .and)), [.t 31, .t 33], none⟩,
      ⟨.new, (.q .mv), [.t 14], none⟩,
      ⟨.new, (.q (.un .xor)), [.t 35], none⟩,
      ⟨.new, (.q (.iaA 8 .leaf)), [.t 11, .c (.int 6)], none⟩,
      ⟨.new, (.q (.ld .leaf)), [.t 37], none⟩,
      ⟨.new, (.q (.bin .and)), [.t 36, .t 38], none⟩,
      ⟨.new, (.q (.bin .xor)), [.t 34, .t 39], none⟩,
      ⟨.new, (.q (.bin .add)), [.t 30, .t 40], none⟩,
      ⟨.new, (.q .mv), [.t 12], none⟩,
      ⟨.new, (.q (.iaA 64 .leaf)), [.c (.rp (.arr 64 .leaf) (.agg (rnds.map .u32))), .t 42], none⟩,
      ⟨.new, (.q (.ld .leaf)), [.t 43], none⟩,
      ⟨.new, (.q (.bin .add)), [.t 41, .t 44], none⟩,
      ⟨.new, (.q .mv), [.t 12], none⟩,
      ⟨.new, (.q (.iaA 64 .leaf)), [.t 4, .t 46], none⟩,
      ⟨.new, (.q (.ld .leaf)), [.t 47], none⟩,
      ⟨.new, (.q (.bin .add)), [.t 45, .t 48], none⟩,
      ⟨.var 16, (.q .mv), [.t 49], none⟩])
    (.seq (.reg [⟨.new, (.q .mv), [.t 13], none⟩,
      ⟨.new, (.call 77), [.t 27, .c (.int (-2))], none⟩,
      ⟨.new, (.q .mv), [.t 13], none⟩,
      ⟨.new, (.call 77), [.t 29, .c (.int (-13))], none⟩,
      ⟨.new, (.q (.bin .xor)), [.t 28, .t 30], none⟩,
      ⟨.new, (.q .mv), [.t 13], none⟩,
      ⟨.new, (.call 77), [.t 32, .c (.int (-22))], none⟩,
      ⟨.new, (.q (.bin .xor)), [.t 31, .t 33], none⟩,
      ⟨.var 17, (.q .mv), [.t 34], none⟩])
    (.seq (.reg [⟨.new, (.q .mv), [.t 17], none⟩,
      ⟨.new, (.q .mv), [.t 13], none⟩,
      ⟨.new, (.q (.iaA 8 .leaf)), [.t 11, .c (.int 1)], none⟩,
      ⟨.new, (.q (.ld .leaf)), [.t 29], none⟩,
      ⟨.new, (.q (.bin .and)), [.t 28, .t 30], none⟩,
      ⟨.new, (.q .mv), [.t 13], none⟩,
      ⟨.new, (.q (.iaA 8 .leaf)), [.t 11, .c (.int 2)], none⟩,
      ⟨.new, (.q (.ld .leaf)), [.t 33], none⟩,
      ⟨.new, (.q (.bin .and)), [.t 32, .t 34], none⟩,
      ⟨.new, (.q (.bin .xor)), [.t 31, .t 35], none⟩,
      ⟨.new, (.q (.iaA 8 .leaf)), [.t 11, .c (.int 1)], none⟩,
      ⟨.new, (.q (.ld .leaf)), [.t 37], none⟩,
      ⟨.new, (.q (.iaA 8 .leaf)), [.t 11, .c (.int 2)], none⟩,
      ⟨.new, (.q (.ld .leaf)), [.t 39], none⟩,
      ⟨.new, (.q (.bin .and)), [.t 38, .t 40], none⟩,
      ⟨.new, (.q (.bin .xor)), [.t 36, .t 41], none⟩,
      ⟨.new, (.q (.bin .add)), [.t 27, .t 42], none⟩,
      ⟨.var 18, (.q .mv), [.t 43], none⟩])
    (.reg [⟨.new, (.q .mv), [.t 16], none⟩,
      ⟨.new, (.q .mv), [.t 18], none⟩,
      ⟨.new, (.q (.bin .add)), [.t 27, .t 28], none⟩,
      ⟨.new, (.q .mv), [.t 13], none⟩,
      ⟨.new, (.q (.iaA 8 .leaf)), [.t 11, .c (.int 1)], none⟩,
      ⟨.new, (.q (.ld .leaf)), [.t 31], none⟩,
      ⟨.new, (.q (.iaA 8 .leaf)), [.t 11, .c (.int 2)], none⟩,
      ⟨.new, (.q (.ld .leaf)), [.t 33], none⟩,
      ⟨.new, (.q (.iaA 8 .leaf)), [.t 11, .c (.int 3)], none⟩,
      ⟨.new, (.q (.ld .leaf)), [.t 35], none⟩,
      ⟨.new, (.q .mv), [.t 16], none⟩,
      ⟨.new, (.q (.bin .add)), [.t 36, .t 37], none⟩,
      ⟨.new, (.q .mv), [.t 14], none⟩,
      ⟨.new, (.q (.iaA 8 .leaf)), [.t 11, .c (.int 5)], none⟩,
      ⟨.new, (.q (.ld .leaf)), [.t 40], none⟩,
      ⟨.new, (.q (.iaA 8 .leaf)), [.t 11, .c (.int 6)], none⟩,
      ⟨.new, (.q (.ld .leaf)), [.t 42], none⟩,
      ⟨.new, (.e (.bld (.arr 8 .leaf) (.agg [(.u32 0), (.u32 0), (.u32 0), (.u32 0), (.u32 0), (.u32 0), (.u32 0), (.u32 0)]) [0, 1, 2, 3, 4, 5, 6, 7])), [.t 29, .t 30, .t 32, .t 34, .t 38, .t 39, .t 41, .t 43], none⟩,
      ⟨.none, (.e (.store (.arr 8 .leaf))), [.t 11, .t 44], none⟩]))))))))
    (.reg [⟨.new, (.q (.bin .add)), [.t 23, .c (.int 1)], none⟩,
      ⟨.var 23, (.q .mv), [.t 27], none⟩])))))))
    (.seq (.seq (.reg [⟨.var 25, (.q .mv), [.c (.int 0)], none⟩])
    (.block 6 (.loop (.seq (.reg [⟨.var 26, (.q (.bin .lss)), [.t 25, .c (.int 8)], none⟩])
    (.seq (.cond (.t 26) .skip
    (.exit 6))
    (.seq (.block 7 (.seq (.reg [⟨.new, (.q .mv), [.t 25], none⟩,
      ⟨.var 19, (.q .mv), [.t 27], none⟩])
    (.draw [⟨.new, (.q .mv), [.t 19], none⟩,
      ⟨.new, (.q (.iaA 8 .leaf)), [.t 11, .t 27], none⟩,
      ⟨.new, (.q (.ld .leaf)), [.t 28], none⟩,
      ⟨.new, (.q .mv), [.t 19], none⟩,
      ⟨.new, (.q (.iaA 8 .leaf)), [.t 2, .t 30], none⟩,
      ⟨.new, (.q (.ld .leaf)), [.t 31], none⟩,
      ⟨.new, (.q (.bin .add)), [.t 29, .t 32], none⟩,
      ⟨.new, (.q (.iaA 8 .leaf)), [.t 11, .t 27], none⟩,
      ⟨.none, (.e (.store .leaf)), [.t 34, .t 33], none⟩])))
    (.reg [⟨.new, (.q (.bin .add)), [.t 25, .c (.int 1)], none⟩,
      ⟨.var 25, (.q .mv), [.t 27], none⟩])))))))
    (.seq (.reg [⟨.new, (.q (.ld (.arr 8 .leaf))), [.t 11], none⟩,
      ⟨.none, (.e (.store (.arr 8 .leaf))), [.t 3, .t 27], none⟩])
    .ret)))))))),
    [.cell 3 (.arr 8 .leaf)]⟩

/-- (trefoil/sha.state).bytes (0:h, 1:h, 2:, 3:d, 4:i, 5:w, 6:, 7:, 8:) -/
def s64 : FnS := ⟨39, [0, 1, 2, 3, 4, 5, 6, 7, 8],
    (.seq (.reg [⟨.var 1, (.e (.box 99 (.arr 8 .leaf))), [.t 0], none⟩,
      ⟨.var 2, (.e (.alloc 76 (.arr 32 .leaf) (.agg [(.u8 0), (.u8 0), (.u8 0), (.u8 0), (.u8 0), (.u8 0), (.u8 0), (.u8 0), (.u8 0), (.u8 0), (.u8 0), (.u8 0), (.u8 0), (.u8 0), (.u8 0), (.u8 0), (.u8 0), (.u8 0), (.u8 0), (.u8 0), (.u8 0), (.u8 0), (.u8 0), (.u8 0), (.u8 0), (.u8 0), (.u8 0), (.u8 0), (.u8 0), (.u8 0), (.u8 0), (.u8 0)]))), [], none⟩])
    (.seq (.reg [⟨.var 3, (.e (.alloc 76 (.arr 32 .leaf) (.agg [(.u8 0), (.u8 0), (.u8 0), (.u8 0), (.u8 0), (.u8 0), (.u8 0), (.u8 0), (.u8 0), (.u8 0), (.u8 0), (.u8 0), (.u8 0), (.u8 0), (.u8 0), (.u8 0), (.u8 0), (.u8 0), (.u8 0), (.u8 0), (.u8 0), (.u8 0), (.u8 0), (.u8 0), (.u8 0), (.u8 0), (.u8 0), (.u8 0), (.u8 0), (.u8 0), (.u8 0), (.u8 0)]))), [], none⟩])
    (.seq (.seq (.reg [⟨.var 6, (.q (.ld (.arr 8 .leaf))), [.t 1], none⟩,
      ⟨.var 7, (.q .mv), [.c (.int 0)], none⟩])
    (.block 0 (.loop (.seq (.reg [⟨.var 8, (.q (.bin .lss)), [.t 7, .c (.int 8)], none⟩])
    (.seq (.cond (.t 8) .skip
    (.exit 0))
    (.seq (.block 1 (.seq (.reg [⟨.new, (.q .mv), [.t 7], none⟩,
      ⟨.new, (.q (.idx 8 .leaf)), [.t 6, .t 7], none⟩,
      ⟨.var 4, (.q .mv), [.t 9], none⟩,
      ⟨.var 5, (.q .mv), [.t 10], none⟩])
    (.reg [⟨.new, (.q .mv), [.t 4], none⟩,
      ⟨.new, (.q (.bin .mul)), [.c (.int 4), .t 9], none⟩,
      ⟨.new, (.q .mv), [.t 4], none⟩,
      ⟨.new, (.q (.bin .mul)), [.c (.int 4), .t 11], none⟩,
      ⟨.new, (.q (.bin .add)), [.t 12, .c (.int 1)], none⟩,
      ⟨.new, (.q .mv), [.t 4], none⟩,
      ⟨.new, (.q (.bin .mul)), [.c (.int 4), .t 14], none⟩,
      ⟨.new, (.q (.bin .add)), [.t 15, .c (.int 2)], none⟩,
      ⟨.new, (.q .mv), [.t 4], none⟩,
      ⟨.new, (.q (.bin .mul)), [.c (.int 4), .t 17], none⟩,
      ⟨.new, (.q (.bin .add)), [.t 18, .c (.int 3)], none⟩,
      ⟨.new, (.q .mv), [.t 5], none⟩,
      ⟨.new, (.q (.bin .shr)), [.t 20, .c (.u64 24)], none⟩,
      ⟨.new, (.q (.cv .u8)), [.t 21], none⟩,
      ⟨.new, (.q .mv), [.t 5], none⟩,
      ⟨.new, (.q (.bin .shr)), [.t 23, .c (.u64 16)], none⟩,
      ⟨.new, (.q (.cv .u8)), [.t 24], none⟩,
      ⟨.new, (.q .mv), [.t 5], none⟩,
      ⟨.new, (.q (.bin .shr)), [.t 26, .c (.u64 8)], none⟩,
      ⟨.new, (.q (.cv .u8)), [.t 27], none⟩,
      ⟨.new, (.q .mv), [.t 5], none⟩,
      ⟨.new, (.q (.cv .u8)), [.t 29], none⟩,
      ⟨.new, (.q (.iaA 32 .leaf)), [.t 3, .t 10], none⟩,
      ⟨.none, (.e (.store .leaf)), [.t 31, .t 22], none⟩,
      ⟨.new, (.q (.iaA 32 .leaf)), [.t 3, .t 13], none⟩,
      ⟨.none, (.e (.store .leaf)), [.t 32, .t 25], none⟩,
      ⟨.new, (.q (.iaA 32 .leaf)), [.t 3, .t 16], none⟩,
      ⟨.none, (.e (.store .leaf)), [.t 33, .t 28], none⟩,
      ⟨.new, (.q (.iaA 32 .leaf)), [.t 3, .t 19], none⟩,
      ⟨.none, (.e (.store .leaf)), [.t 34, .t 30], none⟩])))
    (.reg [⟨.new, (.q (.bin .add)), [.t 7, .c (.int 1)], none⟩,
      ⟨.var 7, (.q .mv), [.t 9], none⟩])))))))
    (.seq (.reg [⟨.new, (.q (.ld (.arr 32 .leaf))), [.t 3], none⟩,
      ⟨.none, (.e (.store (.arr 32 .leaf))), [.t 2, .t 9], none⟩])
    .ret)))),
    [.cell 2 (.arr 32 .leaf)]⟩

/-- trefoil/sha.word (0:s, 2:, 3:w, 5:, 6:, 8:, 10:, 12:) -/
def s76 : FnS := ⟨38, [0, 2, 3, 5, 6, 8, 10, 12],
    (.seq (.reg [⟨.var 1, (.q .mv), [.c (.u32 0)], none⟩])
    (.seq (.reg [⟨.var 2, (.q .mv), [.c (.u32 0)], none⟩])
    (.seq (.seq (.reg [⟨.new, (.q .mv), [.t 0], none⟩,
      ⟨.var 3, (.q .lenS), [.t 8], none⟩])
    (.block 0 (.seq (.block 5 (.seq (.block 4 (.seq (.block 3 (.seq (.block 2 (.seq (.block 1 (.seq (.seq (.seq (.reg [⟨.new, (.q (.bin .eql)), [.t 3, .c (.int 3)], none⟩,
      ⟨.var 4, (.q .mv), [.t 8], none⟩])
    (.cond (.t 4) (.exit 2)
    .skip))
    (.seq (.seq (.reg [⟨.new, (.q (.bin .eql)), [.t 3, .c (.int 2)], none⟩,
      ⟨.var 5, (.q .mv), [.t 8], none⟩])
    (.cond (.t 5) (.exit 3)
    .skip))
    (.seq (.seq (.reg [⟨.new, (.q (.bin .eql)), [.t 3, .c (.int 1)], none⟩,
      ⟨.var 6, (.q .mv), [.t 8], none⟩])
    (.cond (.t 6) (.exit 4)
    .skip))
    (.seq (.reg [⟨.new, (.q (.bin .eql)), [.t 3, .c (.int 0)], none⟩,
      ⟨.var 7, (.q .mv), [.t 8], none⟩])
    (.cond (.t 7) (.exit 5)
    .skip)))))
    (.exit 1)))
    (.reg [⟨.new, (.q .mv), [.t 2], none⟩,
      ⟨.new, (.q .mv), [.t 0], none⟩,
      ⟨.new, (.q .idxS), [.t 9, .c (.int 3)], none⟩,
      ⟨.new, (.q (.cv .u32)), [.t 10], none⟩,
      ⟨.new, (.q (.bin .or)), [.t 8, .t 11], none⟩,
      ⟨.var 2, (.q .mv), [.t 12], none⟩])))
    (.reg [⟨.new, (.q .mv), [.t 2], none⟩,
      ⟨.new, (.q .mv), [.t 0], none⟩,
      ⟨.new, (.q .idxS), [.t 9, .c (.int 2)], none⟩,
      ⟨.new, (.q (.cv .u32)), [.t 10], none⟩,
      ⟨.new, (.q (.bin .shl)), [.t 11, .c (.u64 8)], none⟩,
      ⟨.new, (.q (.bin .or)), [.t 8, .t 12], none⟩,
      ⟨.var 2, (.q .mv), [.t 13], none⟩])))
    (.reg [⟨.new, (.q .mv), [.t 2], none⟩,
      ⟨.new, (.q .mv), [.t 0], none⟩,
      ⟨.new, (.q .idxS), [.t 9, .c (.int 1)], none⟩,
      ⟨.new, (.q (.cv .u32)), [.t 10], none⟩,
      ⟨.new, (.q (.bin .shl)), [.t 11, .c (.u64 16)], none⟩,
      ⟨.new, (.q (.bin .or)), [.t 8, .t 12], none⟩,
      ⟨.var 2, (.q .mv), [.t 13], none⟩])))
    (.seq (.reg [⟨.new, (.q .mv), [.t 2], none⟩,
      ⟨.new, (.q .mv), [.t 0], none⟩,
      ⟨.new, (.q .idxS), [.t 9, .c (.int 0)], none⟩,
      ⟨.new, (.q (.cv .u32)), [.t 10], none⟩,
      ⟨.new, (.q (.bin .shl)), [.t 11, .c (.u64 24)], none⟩,
      ⟨.new, (.q (.bin .or)), [.t 8, .t 12], none⟩,
      ⟨.var 2, (.q .mv), [.t 13], none⟩])
    (.exit 0))))
    (.exit 0))))
    (.seq (.reg [⟨.new, (.q .mv), [.t 2], none⟩,
      ⟨.var 1, (.q .mv), [.t 8], none⟩])
    .ret)))),
    [.t 1]⟩

/-- math/bits.RotateLeft32 (0:x, 1:k, 4:, 5:s) -/
def s77 : FnS := ⟨17, [0, 1, 4, 5],
    (.seq (.reg [⟨.var 2, (.q .mv), [.c (.u32 0)], none⟩])
    (.seq (.reg [⟨.new, (.q .mv), [.t 1], none⟩,
      ⟨.new, (.q (.cv .u64)), [.t 4], none⟩,
      ⟨.new, (.q (.bin .and)), [.t 5, .c (.u64 31)], none⟩,
      ⟨.var 3, (.q .mv), [.t 6], none⟩])
    (.seq (.reg [⟨.new, (.q .mv), [.t 0], none⟩,
      ⟨.new, (.q .mv), [.t 3], none⟩,
      ⟨.new, (.q (.bin .shl)), [.t 4, .t 5], none⟩,
      ⟨.new, (.q .mv), [.t 0], none⟩,
      ⟨.new, (.q .mv), [.t 3], none⟩,
      ⟨.new, (.q (.bin .sub)), [.c (.u64 32), .t 8], none⟩,
      ⟨.new, (.q (.bin .shr)), [.t 7, .t 9], none⟩,
      ⟨.new, (.q (.bin .or)), [.t 6, .t 10], none⟩,
      ⟨.var 2, (.q .mv), [.t 11], none⟩])
    .ret))),
    [.t 2]⟩

theorem c47 : cF P G (drP P G) 47 2 s47.vm = some s47 := by kernel_rfl
theorem c48 : cF P G (drP P G) 48 1 s48.vm = some s48 := by kernel_rfl
theorem c62 : cF P G (drP P G) 62 0 s62.vm = some s62 := by kernel_rfl
theorem c63 : cF P G (drP P G) 63 2 s63.vm = some s63 := by kernel_rfl
theorem c64 : cF P G (drP P G) 64 1 s64.vm = some s64 := by kernel_rfl
theorem c76 : cF P G (drP P G) 76 1 s76.vm = some s76 := by kernel_rfl
theorem c77 : cF P G (drP P G) 77 2 s77.vm = some s77 := by kernel_rfl
/-- a state as Go has it -/
def stA (v : S8) : AV := .agg [.u32 v.a, .u32 v.b, .u32 v.c, .u32 v.d, .u32 v.e, .u32 v.f, .u32 v.g, .u32 v.h]
theorem f62 {K : AV → Heap → Prop} {H : Heap} (h : K (stA ini) H) : wpF P G 62 [] H K := by
  refine wpF_go c62 rfl 3 ?_
  intro ha hb
  simp only [s62]
  (refine gw0 ?_; try exact True.intro)
  exact h
theorem f77 {K : AV → Heap → Prop} {H : Heap} {x : BitVec 32} {n : Nat} {z : Int} (h1 : (BitVec.ofInt 64 z &&& 31).toNat = 32 - n) (h2 : ((32 : BitVec 64) - (BitVec.ofInt 64 z &&& 31)).toNat = n) (h : K (.u32 (ror x n)) H) : wpF P G 77 [.u32 x, .int z] H K := by
  refine wpF_go c77 rfl 3 ?_
  intro ha hb
  simp only [s77]
  (refine gw2 @h1 @h2 ?_; try exact True.intro)
  rw [BitVec.or_comm]
  exact h
theorem or4 (a b c d : BitVec 8) : (((0 : BitVec 32) ||| d.setWidth 32 ||| c.setWidth 32 <<< 8) ||| b.setWidth 32 <<< 16) ||| a.setWidth 32 <<< 24 = le4 d c b a := by
  unfold le4
  rw [show (0 : BitVec 32) ||| d.setWidth 32 = d.setWidth 32 from BitVec.zero_or]
theorem f76' {K : AV → Heap → Prop} {H : Heap} {a b c d : BitVec 8} (h : K (.u32 (le4 d c b a)) H) : wpF P G 76 [.str [a, b, c, d]] H K := by
  refine wpF_go c76 rfl 2 ?_
  intro ha hb
  simp only [s76]
  clear ha hb
  rw [← or4] at h
  simp (maxSteps := 2000000) (implicitDefEqProofs := false) only [↓vS_skip, ↓vS_reg, ↓vS_draw, ↓vS_seq, ↓wS_cond, ↓vS_block, ↓vS_exit, ↓vS_ret, ↓vI_nil, ↓vI_go, ↓wI_gd, ↓stepI_q, ↓stepI_e, ↓stepI_c, ↓stepI_v, ↓vD_nil, ↓vD_go, ↓wD_gd, ↓stepW_q, ↓stepW_e, ↓stepW_c, ↓stepW_v, ↓Kw_app, ↓KwD_app, ↓Kc_app, ↓Kp_app, ↓Kr_app, ↓Ks_n, ↓Ks_r, ↓Ks_x, ↓Kb_n, ↓Kb_r, ↓Kb_x, ↓Ku_n, ↓Ku_r, ↓Ku_x, ↓Kl_n, ↓Kl_r, ↓Kl_x, ↓Kend_n, ↓Kend_r, ↓Two_t, ↓Two_f, ↓unr_succ, ↓GdM_b, ↓GdM_t, ↓CdM_b, ↓TwU_t, ↓TwU_f, ↓ThI_app, ↓ThW_app, ↓ThK_app, ↓ThS_app, ↓stepI_p, ↓stepW_p, ↓stepI_w, ↓stepW_w, ↓xD_w, ↓stepI_n, ↓xD_n, ↓xD_q, ↓xD_e, ↓xD_c, ↓xD_v, ↓xD_p, ↓xD_m, ↓xD_s, ↓vX_nil, ↓vX_go, ↓wX_gd, ↓KwX_app, ↓stepI_m, ↓stepW_m, ↓hasSh_mbool, ↓hasSh_mu8, ↓hasSh_mu16, ↓hasSh_mu32, ↓hasSh_mu64, ↓hasSh_mint, putE_none, putE_var, putE_new, get_t, get_c, qev, eev, rsGet, rvGet, oneOf, binAV, isSh, bvBin, bvOp, bvCmp, bvSh, intBin, intSh, cvAV, unAV, AV.cnt, AV.num, Ken2_s, Ken3_s, htake_1, htake_2, beq_self_eq_true, beq_true, beq_false, Int.toNat_natCast, Int.natCast_nonneg, BitVec.reduceOfInt, BitVec.reduceToNat, bytesOf, List.map_cons, List.replicate_succ, Bool.not_eq_true, maxLen, Nat.reducePow, Nat.reduceMul, List.map_cons, List.map_nil, List.getD_cons_zero, List.getD_cons_succ, List.set_cons_zero, List.set_cons_succ, List.cons_append, List.nil_append, List.append_nil, List.take_succ_cons, List.take_zero, List.take_nil, List.length_cons, List.length_nil, List.replicate_succ, List.replicate_zero, Option.map_some, Option.map_none, List.getElem?_cons_zero, List.getElem?_cons_succ, true_and, and_true, if_true, if_false, ite_true, ite_false, reduceIte, reduceCtorEq, false_or, or_true, true_or, or_false, Option.some.injEq, Prod.mk.injEq, exists_eq_left', exists_eq_left, exists_eq_right, exists_and_left, exists_and_right, exists_const, and_assoc, decide_true, decide_false, Bool.false_eq_true, forall_const, Bool.not_true, Bool.not_false, false_implies, true_implies, Nat.reduceAdd, Nat.reduceSub, Nat.reduceMul, Nat.reduceLT, Nat.reduceLeDiff, Nat.reduceEqDiff, Int.reduceAdd, Int.reduceSub, Int.reduceMul, Int.reduceLT, Int.reduceLE, Int.reduceTMod, Int.reduceTDiv, Int.reduceToNat, Int.reduceEq, Int.reduceNe, Int.reduceNeg, ne_eq, not_false_eq_true, not_true_eq_false, InR, Bool.true_eq_false, Bool.false_eq_true, reduceDIte, Nat.zero_add, Nat.add_zero, Int.cast_ofNat_Int, eq_self, hget_0, hget_k, hget_z, hget_s, hset_0, hset_k, htake_0, lt_own0, lt_ownk, hasAt_nil, hasAt_arr, hasAt_st, hasSh_l, hasSh_aa, hasSh_sa, hasShs_n, hasShs_c, setAll, AV.isCell, Shape.size_leaf, Shape.size_arr, Shape.size_st, Shape.sizes_cons, Shape.sizes_nil, List.length_append, List.append_assoc, List.length_set, stP, ldP, getP, setP, psh, partsOf, slen, rd, dem, demK_own, demK_ptr, demK_agg, demK_tup, demK_fn, demK_ro, demK_rp, demK_bool, demK_u8, demK_u16, demK_u32, demK_u64, demK_int, demK_str, demK_nilp, demK_nils, demK_nilf, demK_un, mapO, AV.bnds, AV.bnd, bne_self_eq_false, AV.plain2, AV.plain, List.all_cons, List.all_nil, List.take_length, List.drop_zero, List.drop_succ_cons, Nat.mul_one, List.getElem?_nil, List.forall_mem_cons, List.not_mem_nil, implies_true, Bool.and_true, Bool.true_and, Bool.and_false, Bool.false_and, and_self, and_false, false_and, Nat.sub_zero, bnds, bnds_bool, bnds_bool', mapO_bool, mapO_bool', bnds_u8, bnds_u8', mapO_u8, mapO_u8', bnds_u16, bnds_u16', mapO_u16, mapO_u16', bnds_u32, bnds_u32', mapO_u32, mapO_u32', bnds_u64, bnds_u64', mapO_u64, mapO_u64', bnds_int, bnds_int', mapO_int, mapO_int', bt, bf, Bool.not_not, nilK_nils, nilK_own, nilK_ro, ninL_n, ninL_c, disL_n, disL_r, disL_c, chkL_n, chkL_c, apartL_e, fp_ld, fp_b2s, fp_st, fp_app, fp_appS, fp_cpy, fp_cpyS, tb_own, tb_ptr, tb_ro, tb_rp, tb_nils, tb_str, ne_ah, ne_ha, List.length_map]
  exact h
theorem f76 {K : AV → Heap → Prop} {H : Heap} {s : List (BitVec 8)} (hs : s.length = 4) (h : K (.u32 (le4 (s.getD 3 0) (s.getD 2 0) (s.getD 1 0) (s.getD 0 0))) H) : wpF P G 76 [.str s] H K := by
  match s, hs, h with
  | [a, b, c, d], _, h => exact f76' h

/-- the first bytes of a state -/
def dgL (v : S8) (i : Nat) : List AV := (List.range 32).map fun k => .u8 (if k < 4 * i then (dg v).getD k 0 else 0)
theorem dgL_at {v : S8} {i k : Nat} (h : k < 32) : ∃ x, (dgL v i)[k]? = some x := by
  unfold dgL
  rw [List.getElem?_map, List.getElem?_range h]
  exact ⟨_, rfl⟩
theorem dg_word {v : S8} {i : Nat} (h : i < 8) : (dg v).getD (4 * i) 0 = (v.l.getD i 0 >>> 24).setWidth 8 ∧ (dg v).getD (4 * i + 1) 0 = (v.l.getD i 0 >>> 16).setWidth 8 ∧ (dg v).getD (4 * i + 2) 0 = (v.l.getD i 0 >>> 8).setWidth 8 ∧ (dg v).getD (4 * i + 3) 0 = (v.l.getD i 0).setWidth 8 := by
  rcases (show i = 0 ∨ i = 1 ∨ i = 2 ∨ i = 3 ∨ i = 4 ∨ i = 5 ∨ i = 6 ∨ i = 7 by omega) with rfl | rfl | rfl | rfl | rfl | rfl | rfl | rfl <;> exact ⟨rfl, rfl, rfl, rfl⟩
theorem dgL_set {v : S8} {i : Nat} (h : i < 8) : ((((dgL v i).set (4 * i) (.u8 ((v.l.getD i 0 >>> 24).setWidth 8))).set (4 * i + 1) (.u8 ((v.l.getD i 0 >>> 16).setWidth 8))).set (4 * i + 2) (.u8 ((v.l.getD i 0 >>> 8).setWidth 8))).set (4 * i + 3) (.u8 ((v.l.getD i 0).setWidth 8)) = dgL v (i + 1) := by
  obtain ⟨h0, h1, h2, h3⟩ := dg_word (v := v) h
  unfold dgL
  rw [rng_set, rng_set, rng_set, rng_set]
  refine rng_congr fun k hk => ?_
  by_cases e3 : k = 4 * i + 3
  · rw [if_pos e3, if_pos (by omega), e3, h3]
  · rw [if_neg e3]
    by_cases e2 : k = 4 * i + 2
    · rw [if_pos e2, if_pos (by omega), e2, h2]
    · rw [if_neg e2]
      by_cases e1 : k = 4 * i + 1
      · rw [if_pos e1, if_pos (by omega), e1, h1]
      · rw [if_neg e1]
        by_cases e0 : k = 4 * i
        · rw [if_pos e0, if_pos (by omega), e0, h0]
        · rw [if_neg e0]
          by_cases h : k < 4 * i
          · rw [if_pos h, if_pos (by omega)]
          · rw [if_neg h, if_neg (by omega)]
theorem dgL_all {v : S8} : dgL v 8 = (dg v).map .u8 := by
  unfold dgL
  apply List.ext_getElem?
  intro k
  by_cases hk : k < 32
  · have hk' : k < (dg v).length := hk
    rw [List.getElem?_map, List.getElem?_range hk, List.getElem?_map, List.getElem?_eq_getElem hk']
    simp only [Option.map_some]
    rw [if_pos (by omega), List.getD_eq_getElem?_getD, List.getElem?_eq_getElem hk']
    rfl
  · rw [List.getElem?_eq_none (by simp; omega), List.getElem?_eq_none (by rw [List.length_map]; show 32 ≤ k; omega)]
def dB (l : List AV) : Option Blk := some ⟨76, 0, false, .arr 1 (.arr 32 .leaf), .agg [.agg l]⟩
def Ix20 (v : S8) (H L : Heap) (u1 u2 u3 : AV) (k : Nat) (st : St) : Prop :=
  ∃ (i : Nat) (u4 u5 u8 : AV), st = ⟨[stA v, .ptr H.length 0 [0] (.arr 8 .leaf), .ptr (H.length + 1) 0 [0] (.arr 32 .leaf), .ptr (H.length + 2) 0 [0] (.arr 32 .leaf), u4, u5, stA v, .int (i : Int), u8], H ++ [some ⟨99, 0, false, .arr 1 (.arr 8 .leaf), .agg [stA v]⟩, dB (List.replicate 32 (.u8 0)), dB (dgL v i)]⟩ ∧ k = 8 - i ∧ i ≤ 8
theorem f64 {K : AV → Heap → Prop} {H : Heap} {v : S8} (h : K (.agg ((dg v).map .u8)) H) : wpF P G 64 [stA v] H K := by
  refine wpF_go c64 rfl 3 ?_
  intro ha hb
  simp only [s64]
  have hsh : HasSh (.arr 8 .leaf) (stA v) := by unfold stA; simp [HasSh, AV.isCell]
  (refine gw1 @hsh ?_; try exact True.intro)
  refine wp_inv (Ix20 v H [] .un .un .un) 8 ⟨0, _, _, _, rfl, rfl, by omega⟩ ?_
  rintro k st ⟨i, u4, u5, u8, rfl, rfl, hi⟩
  unfold dB
  by_cases hil : i < 8
  · have h1 : ((i : Int) < 8) = True := by simp only [eq_iff_iff, iff_true]; omega
    have hv : [AV.u32 v.a, .u32 v.b, .u32 v.c, .u32 v.d, .u32 v.e, .u32 v.f, .u32 v.g, .u32 v.h].getD i .un = .u32 (v.l.getD i 0) := by
      rcases (show i = 0 ∨ i = 1 ∨ i = 2 ∨ i = 3 ∨ i = 4 ∨ i = 5 ∨ i = 6 ∨ i = 7 by omega) with rfl | rfl | rfl | rfl | rfl | rfl | rfl | rfl <;> rfl
    have e4 : 4 * (i : Int) = ((4 * i : Nat) : Int) := by omega
    have e5 : ((4 * i : Nat) : Int) + 1 = ((4 * i + 1 : Nat) : Int) := by omega
    have e6 : ((4 * i : Nat) : Int) + 2 = ((4 * i + 2 : Nat) : Int) := by omega
    have e7 : ((4 * i : Nat) : Int) + 3 = ((4 * i + 3 : Nat) : Int) := by omega
    obtain ⟨x0, g0⟩ := dgL_at (v := v) (i := i) (k := 4 * i) (by omega)
    obtain ⟨x1, g1⟩ := dgL_at (v := v) (i := i) (k := 4 * i + 1) (by omega)
    obtain ⟨x2, g2⟩ := dgL_at (v := v) (i := i) (k := 4 * i + 2) (by omega)
    obtain ⟨x3, g3⟩ := dgL_at (v := v) (i := i) (k := 4 * i + 3) (by omega)
    have k1 : ∀ y, ((dgL v i).set (4 * i) y)[4 * i + 1]? = some x1 := fun y => by rw [List.getElem?_set_ne (by omega), g1]
    have k2 : ∀ y z, (((dgL v i).set (4 * i) y).set (4 * i + 1) z)[4 * i + 2]? = some x2 := fun y z => by rw [List.getElem?_set_ne (by omega), List.getElem?_set_ne (by omega), g2]
    have k3 : ∀ y z w, ((((dgL v i).set (4 * i) y).set (4 * i + 1) z).set (4 * i + 2) w)[4 * i + 3]? = some x3 := fun y z w => by rw [List.getElem?_set_ne (by omega), List.getElem?_set_ne (by omega), List.getElem?_set_ne (by omega), g3]
    have hset := dgL_set (v := v) hil
    unfold stA
    (refine gw11 @h1 @hv @e4 @e5 @e6 @e7 @g0 @k1 @k2 @k3 @hset ?_; try exact True.intro)
    (repeat (refine And.intro (by omega) ?_))
    exact ⟨8 - (i + 1), by omega, i + 1, _, _, _, rfl, rfl, by omega⟩
  · have h1 : ((i : Int) < 8) = False := by simp only [eq_iff_iff, iff_false]; omega
    have hie : i = 8 := by omega
    subst hie
    rw [dgL_all]
    (refine gw1 @h1 ?_; try exact True.intro)
    exact ⟨rfl, h⟩
def swA (s : List (BitVec 8)) (i : Nat) : List AV := (List.range 64).map fun k => .u32 (if k < i then sW s k else 0)
theorem swA_at {s : List (BitVec 8)} {i k : Nat} (h : k < i) (h2 : k < 64) : (swA s i)[k]? = some (.u32 (sW s k)) := by
  unfold swA
  rw [List.getElem?_map, List.getElem?_range h2]
  simp [h]
theorem swA_end {s : List (BitVec 8)} {i : Nat} (h2 : i < 64) : (swA s i)[i]? = some (.u32 0) := by
  unfold swA
  rw [List.getElem?_map, List.getElem?_range h2]
  simp
theorem swA_set {s : List (BitVec 8)} {i : Nat} : (swA s i).set i (.u32 (sW s i)) = swA s (i + 1) := by
  unfold swA
  rw [rng_set]
  refine rng_congr fun k hk => ?_
  by_cases e : k = i
  · subst e; rw [if_pos rfl, if_pos (by omega)]
  · rw [if_neg e]
    by_cases h2 : k < i
    · rw [if_pos h2, if_pos (by omega)]
    · rw [if_neg h2, if_neg (by omega)]
def hB (v : S8) : Option Blk := some ⟨99, 0, false, .arr 1 (.arr 8 .leaf), .agg [stA v]⟩
def wB (l : List AV) : Option Blk := some ⟨136, 0, false, .arr 1 (.arr 64 .leaf), .agg [.agg l]⟩
def z8 : S8 := ⟨0, 0, 0, 0, 0, 0, 0, 0⟩
def I19a (h : S8) (s : List (BitVec 8)) (H : Heap) (k : Nat) (st : St) : Prop :=
  ∃ (i : Nat) (u5 u21 : AV), st = ⟨[stA h, .str s, .ptr H.length 0 [0] (.arr 8 .leaf), .ptr (H.length + 1) 0 [0] (.arr 8 .leaf), .ptr (H.length + 2) 0 [0] (.arr 64 .leaf), u5, .un, .un, .un, .un, .un, .un, .un, .un, .un, .un, .un, .un, .un, .un, .int (i : Int), u21, .un, .un, .un, .un, .un], H ++ [hB h, hB z8, wB (swA s i)]⟩ ∧ k = 16 - i ∧ i ≤ 16
def I19b (h : S8) (s : List (BitVec 8)) (H : Heap) (u5 : AV) (k : Nat) (st : St) : Prop :=
  ∃ (i : Nat) (u7 u8 u9 u10 u22 : AV), st = ⟨[stA h, .str s, .ptr H.length 0 [0] (.arr 8 .leaf), .ptr (H.length + 1) 0 [0] (.arr 8 .leaf), .ptr (H.length + 2) 0 [0] (.arr 64 .leaf), u5, .int ((16 + i : Nat) : Int), u7, u8, u9, u10, .un, .un, .un, .un, .un, .un, .un, .un, .un, .int 16, .bool false, u22, .un, .un, .un, .un], H ++ [hB h, hB z8, wB (swA s (16 + i))]⟩ ∧ k = 48 - i ∧ i ≤ 48
def I19c (h : S8) (s : List (BitVec 8)) (H : Heap) (u5 u7 u8 u9 u10 : AV) (k : Nat) (st : St) : Prop :=
  ∃ (i : Nat) (u12 u13 u14 u15 u16 u17 u18 u24 : AV), st = ⟨[stA h, .str s, .ptr H.length 0 [0] (.arr 8 .leaf), .ptr (H.length + 1) 0 [0] (.arr 8 .leaf), .ptr (H.length + 2) 0 [0] (.arr 64 .leaf), u5, .int 64, u7, u8, u9, u10, .ptr (H.length + 3) 0 [0] (.arr 8 .leaf), u12, u13, u14, u15, u16, u17, u18, .un, .int 16, .bool false, .bool false, .int (i : Int), u24, .un, .un], H ++ [hB h, hB z8, wB (swA s (16 + 48)), hB (rds s h i)]⟩ ∧ k = 64 - i ∧ i ≤ 64
theorem f63 {K : AV → Heap → Prop} {H : Heap} {h0 : S8} {s : List (BitVec 8)} (hs : s.length = 64) (h : K (stA (comp h0 s)) H) : wpF P G 63 [stA h0, .str s] H K := by
  refine wpF_go c63 rfl 3 ?_
  intro ha hb
  simp only [s63]
  have hsh : HasSh (.arr 8 .leaf) (stA h0) := by unfold stA; simp [HasSh, AV.isCell]
  (refine gw1 @hsh ?_; try exact True.intro)
  refine wp_inv (I19a h0 s H) 16 ⟨0, _, _, rfl, rfl, by omega⟩ ?_
  rintro k st ⟨i, u5, u21, rfl, rfl, hi⟩
  unfold wB
  by_cases hil : i < 16
  · have h1 : ((i : Int) < 16) = True := by simp only [eq_iff_iff, iff_true]; omega
    have e4 : 4 * (i : Int) = ((4 * i : Nat) : Int) := by omega
    have e5 : ((4 * i : Nat) : Int) + 4 = ((4 * i + 4 : Nat) : Int) := by omega
    have e6 : 4 * i + 4 - 4 * i = 4 := by omega
    have g1 := swA_end (s := s) (i := i) (by omega)
    have g2 := swA_set (s := s) (i := i)
    have hw : le4 ((List.take 4 (List.drop (4 * i) s)).getD 3 0) ((List.take 4 (List.drop (4 * i) s)).getD 2 0) ((List.take 4 (List.drop (4 * i) s)).getD 1 0) ((List.take 4 (List.drop (4 * i) s)).getD 0 0) = sW s i := by
      rw [sW_lo hil]
      unfold bw
      simp [List.getD_eq_getElem?_getD, List.getElem?_take, List.getElem?_drop]
    (refine gw5 @h1 @e4 @e5 @e6 @hs ?_; try exact True.intro)
    (repeat (refine And.intro (by omega) ?_))
    refine f76 (by rw [List.length_take, List.length_drop]; omega) ?_
    rw [hw]
    (refine gw2 @g1 @g2 ?_; try exact True.intro)
    (repeat (refine And.intro (by omega) ?_))
    exact ⟨16 - (i + 1), by omega, i + 1, _, _, rfl, rfl, by omega⟩
  · have h1 : ((i : Int) < 16) = False := by simp only [eq_iff_iff, iff_false]; omega
    have hie : i = 16 := by omega
    subst hie
    (refine gw1 @h1 ?_; try exact True.intro)
    (refine gw0 ?_; try exact True.intro)
    refine wp_inv (I19b h0 s H u5) 48 ⟨0, _, _, _, _, _, rfl, rfl, by omega⟩ ?_
    rintro k st ⟨i, u7, u8, u9, u10, u22, rfl, rfl, hi⟩
    unfold wB
    by_cases hil : i < 48
    · have h1 : (((16 + i : Nat) : Int) < 64) = True := by simp only [eq_iff_iff, iff_true]; omega
      have e1 : ((16 + i : Nat) : Int) - 15 = ((i + 1 : Nat) : Int) := by omega
      have e2 : ((16 + i : Nat) : Int) - 2 = ((i + 14 : Nat) : Int) := by omega
      have e3 : ((16 + i : Nat) : Int) - 16 = ((i : Nat) : Int) := by omega
      have e4 : ((16 + i : Nat) : Int) - 7 = ((i + 9 : Nat) : Int) := by omega
      have g1 := swA_at (s := s) (i := 16 + i) (k := i + 1) (by omega) (by omega)
      have g2 := swA_at (s := s) (i := 16 + i) (k := i + 14) (by omega) (by omega)
      have g3 := swA_at (s := s) (i := 16 + i) (k := i) (by omega) (by omega)
      have g4 := swA_at (s := s) (i := 16 + i) (k := i + 9) (by omega) (by omega)
      have g5 := swA_end (s := s) (i := 16 + i) (by omega)
      have g6 := swA_set (s := s) (i := 16 + i)
      have hw := sW_hi (s := s) hil
      unfold sg0 sg1 at hw
      (refine gw5 @h1 @e1 @e2 @g1 @g2 ?_; try exact True.intro)
      (repeat (refine And.intro (by omega) ?_))
      refine f77 (n := 7) (by decide) (by decide) ?_
      (refine gw0 ?_; try exact True.intro)
      refine f77 (n := 18) (by decide) (by decide) ?_
      (refine gw0 ?_; try exact True.intro)
      refine f77 (n := 17) (by decide) (by decide) ?_
      (refine gw0 ?_; try exact True.intro)
      refine f77 (n := 19) (by decide) (by decide) ?_
      (refine gw5 @e3 @e4 @g3 @g4 @g5 ?_; try exact True.intro)
      (repeat (refine And.intro (by omega) ?_))
      rw [← hw, g6]
      exact ⟨48 - (i + 1), by omega, i + 1, _, _, _, _, _, rfl, rfl, by omega⟩
    · have h1 : (((16 + i : Nat) : Int) < 64) = False := by simp only [eq_iff_iff, iff_false]; omega
      have hie : i = 48 := by omega
      subst hie
      unfold hB
      (refine gw2 @h1 @hsh ?_; try exact True.intro)
      (refine gw0 ?_; try exact True.intro)
      refine wp_inv (I19c h0 s H u5 u7 u8 u9 u10) 64 ⟨0, _, _, _, _, _, _, _, _, rfl, rfl, by omega⟩ ?_
      rintro k st ⟨i, u12, u13, u14, u15, u16, u17, u18, u24, rfl, rfl, hi⟩
      unfold hB wB
      generalize hv : rds s h0 i = v
      by_cases hil : i < 64
      · have h1 : ((i : Int) < 64) = True := by simp only [eq_iff_iff, iff_true]; omega
        have g1 := swA_at (s := s) (i := 16 + 48) (k := i) (by omega) hil
        have g2 : (rnds.map AV.u32).getD i .un = .u32 (rnds.getD i 0) := ld_u32 (by show i < 64; exact hil)
        unfold stA
        (refine gw1 @h1 ?_; try exact True.intro)
        refine f77 (n := 6) (by decide) (by decide) ?_
        (refine gw0 ?_; try exact True.intro)
        refine f77 (n := 11) (by decide) (by decide) ?_
        (refine gw0 ?_; try exact True.intro)
        refine f77 (n := 25) (by decide) (by decide) ?_
        (refine gw3 @h1 @g1 @g2 ?_; try exact True.intro)
        refine f77 (n := 2) (by decide) (by decide) ?_
        (refine gw0 ?_; try exact True.intro)
        refine f77 (n := 13) (by decide) (by decide) ?_
        (refine gw0 ?_; try exact True.intro)
        refine f77 (n := 22) (by decide) (by decide) ?_
        (refine gw0 ?_; try exact True.intro)
        (repeat (refine And.intro (by omega) ?_))
        exact ⟨64 - (i + 1), by omega, i + 1, _, _, _, _, _, _, _, _, by rw [show rds s h0 (i + 1) = rnd (rnds.getD i 0) (sW s i) v by rw [← hv]; rfl]; rfl, rfl, by omega⟩
      · have h1 : ((i : Int) < 64) = False := by simp only [eq_iff_iff, iff_false]; omega
        have hie : i = 64 := by omega
        subst hie
        (refine gw1 @h1 ?_; try exact True.intro)
        unfold stA
        refine wp_unroll 9 ?_
        (refine gw0 ?_; try exact True.intro)
        (repeat (refine And.intro (by omega) ?_))
        unfold comp at h
        rw [hv] at h
        exact h
/-- what has taken bytes -/
def smV (h : S8) (r : List (BitVec 8)) (n : Nat) : AV := .agg [stA h, .str r, .u64 (BitVec.ofNat 64 n), .bool true]
def smT (l : List (BitVec 8)) : AV := smV (hb l (l.length / 64)) (l.drop (64 * (l.length / 64))) l.length
def smF : AV := .agg [stA z8, .str [], .u64 0, .bool false]
def smA (on : Bool) (l : List (BitVec 8)) : AV := if on = true then smT l else smF
def smB (x : AV) : Option Blk := some ⟨101, 0, false, .arr 1 (.st [.arr 8 .leaf, .leaf, .leaf, .leaf]), .agg [x]⟩
def Ix9 (p u2 u3 : AV) (m r0 : List (BitVec 8)) (n : Nat) (H0 L : Heap) (k : Nat) (st : St) : Prop :=
  ∃ (j : Nat) (u4 : AV), st = ⟨[p, .str (m.drop (64 * j)), u2, u3, u4], H0 ++ smB (smV (hb m j) r0 n) :: L⟩ ∧ k = m.length / 64 - j ∧ j ≤ m.length / 64
theorem f47 {K : AV → Heap → Prop} {H0 L : Heap} {on : Bool} {l s : List (BitVec 8)} (hl : on = false → l = []) (hs : l.length + s.length ≤ 1000000000) (h : K (.tup []) (H0 ++ smB (smT (l ++ s)) :: L)) :
    wpF P G 47 [.ptr H0.length 0 [0] (.st [.arr 8 .leaf, .leaf, .leaf, .leaf]), .str s] (H0 ++ smB (smA on l) :: L) K := by
  refine wpF_goM c47 rfl ?_
  intro hA hB
  simp only [s47]
  have hsh : ∀ v, HasSh (.arr 8 .leaf) (stA v) := by intro v; unfold stA; simp [HasSh, AV.isCell]
  have hq : 64 * (l.length / 64) ≤ l.length := by omega
  have e1 : l.drop (64 * (l.length / 64)) ++ s = (l ++ s).drop (64 * (l.length / 64)) := by rw [List.drop_append_of_le_length hq]
  have e2 := hb_app (l := l) (r := s) (m := l.length / 64) hq
  have e3 : BitVec.ofNat 64 l.length + BitVec.ofInt 64 (s.length : Int) = BitVec.ofNat 64 (l ++ s).length := by
    rw [List.length_append, show BitVec.ofInt 64 (s.length : Int) = BitVec.ofNat 64 s.length from BitVec.ofInt_natCast .., BitVec.ofNat_add]
  have hqq : l.length / 64 ≤ (l ++ s).length / 64 := by rw [List.length_append]; omega
  have hle : (l ++ s).length ≤ 1000000000 := by rw [List.length_append]; exact hs
  have hms : l = [] → s = l ++ s := fun h => by rw [h]; rfl
  generalize l ++ s = m at *
  have ez : ∀ x : BitVec 64, 0 + x = x := fun x => BitVec.zero_add x
  cases on with
  | false =>
    have hl' := hl rfl
    have e0 : hb l 0 = ini := rfl
    have e4 : BitVec.ofInt 64 (s.length : Int) = BitVec.ofNat 64 m.length := by
      rw [← hms hl']; exact BitVec.ofInt_natCast ..
    have e5 : s = m.drop (64 * (l.length / 64)) := by rw [← hms hl', hl']; rfl
    have e6 : hb l (l.length / 64) = ini := by rw [hl']; rfl
    rw [e6] at e2
    unfold smB smA smF
    (refine gw3 @Kmut_n @Kmut_r @Km2_s ?_; try exact True.intro)
    refine f62 ?_
    (refine gw6 @hsh @e4 @ez @Kmut_n @Kmut_r @Km2_s ?_; try exact True.intro)
    (repeat (refine And.intro (by omega) ?_))
    (refine gw3 @Kmut_n @Kmut_r @Km2_s ?_; try exact True.intro)
    rw [e5]
    refine wp_inv (Ix9 (.ptr H0.length 0 [0] (.st [.arr 8 .leaf, .leaf, .leaf, .leaf])) (.bool false) (.bool true) m ([]) m.length H0 L) (m.length / 64 - l.length / 64) ⟨l.length / 64, _, by rw [e2]; rfl, rfl, hqq⟩ ?_
    rintro k st ⟨j, u4, rfl, rfl, hj⟩
    unfold smB smV
    have hdl : (m.drop (64 * j)).length = m.length - 64 * j := List.length_drop ..
    by_cases hjl : j < m.length / 64
    · have h1 : ((64 : Int) ≤ ((m.drop (64 * j)).length : Int)) = True := by rw [hdl]; simp only [eq_iff_iff, iff_true]; omega
      have hck : List.take 64 (m.drop (64 * j)) = ck m j := rfl
      have hcl : (ck m j).length = 64 := by rw [← hck, List.length_take, hdl]; omega
      have hdd : List.drop 64 (m.drop (64 * j)) = m.drop (64 * (j + 1)) := by rw [List.drop_drop]; rfl
      have htk : List.take ((m.drop (64 * j)).length - 64) (m.drop (64 * (j + 1))) = m.drop (64 * (j + 1)) := List.take_of_length_le (by rw [List.length_drop, List.length_drop]; omega)
      (refine gw6 @h1 @hck @hsh @Kmut_n @Kmut_r @Km2_s ?_; try exact True.intro)
      refine drawn _ (f63 hcl ⟨rfl, rfl⟩) ?_
      (refine gw6 @hsh @hdd @htk @Kmut_n @Kmut_r @Km2_s ?_; try exact True.intro)
      (repeat (refine And.intro (by omega) ?_))
      exact ⟨m.length / 64 - (j + 1), by omega, j + 1, _, rfl, rfl, by omega⟩
    · have h1 : ((64 : Int) ≤ ((m.drop (64 * j)).length : Int)) = False := by rw [hdl]; simp only [eq_iff_iff, iff_false]; omega
      have hje : j = m.length / 64 := by omega
      (refine gw4 @h1 @Kmut_n @Kmut_r @Km2_s ?_; try exact True.intro)
      rw [hje]
      refine ⟨Nat.le_refl _, ?_⟩
      have hfin := mut_fin (E := []) hB (y := smB (smT m)) (by rintro k blk h; cases h; rfl) h
      simp only [List.append_nil] at hfin
      exact hfin
  | true =>
    unfold smB smA smT smV
    have hdr : (l.drop (64 * (l.length / 64))).length ≤ l.length := by rw [List.length_drop]; omega
    (refine gw5 @e1 @e3 @Kmut_n @Kmut_r @Km2_s ?_; try exact True.intro)
    refine ⟨by omega, ?_⟩
    refine wp_inv (Ix9 (.ptr H0.length 0 [0] (.st [.arr 8 .leaf, .leaf, .leaf, .leaf])) (.bool false) (.bool false) m (l.drop (64 * (l.length / 64))) m.length H0 L) (m.length / 64 - l.length / 64) ⟨l.length / 64, _, by rw [e2]; rfl, rfl, hqq⟩ ?_
    rintro k st ⟨j, u4, rfl, rfl, hj⟩
    unfold smB smV
    have hdl : (m.drop (64 * j)).length = m.length - 64 * j := List.length_drop ..
    by_cases hjl : j < m.length / 64
    · have h1 : ((64 : Int) ≤ ((m.drop (64 * j)).length : Int)) = True := by rw [hdl]; simp only [eq_iff_iff, iff_true]; omega
      have hck : List.take 64 (m.drop (64 * j)) = ck m j := rfl
      have hcl : (ck m j).length = 64 := by rw [← hck, List.length_take, hdl]; omega
      have hdd : List.drop 64 (m.drop (64 * j)) = m.drop (64 * (j + 1)) := by rw [List.drop_drop]; rfl
      have htk : List.take ((m.drop (64 * j)).length - 64) (m.drop (64 * (j + 1))) = m.drop (64 * (j + 1)) := List.take_of_length_le (by rw [List.length_drop, List.length_drop]; omega)
      (refine gw6 @h1 @hck @hsh @Kmut_n @Kmut_r @Km2_s ?_; try exact True.intro)
      refine drawn _ (f63 hcl ⟨rfl, rfl⟩) ?_
      (refine gw6 @hsh @hdd @htk @Kmut_n @Kmut_r @Km2_s ?_; try exact True.intro)
      (repeat (refine And.intro (by omega) ?_))
      exact ⟨m.length / 64 - (j + 1), by omega, j + 1, _, rfl, rfl, by omega⟩
    · have h1 : ((64 : Int) ≤ ((m.drop (64 * j)).length : Int)) = False := by rw [hdl]; simp only [eq_iff_iff, iff_false]; omega
      have hje : j = m.length / 64 := by omega
      (refine gw4 @h1 @Kmut_n @Kmut_r @Km2_s ?_; try exact True.intro)
      rw [hje]
      refine ⟨Nat.le_refl _, ?_⟩
      have hfin := mut_fin (E := []) hB (y := smB (smT m)) (by rintro k blk h; cases h; rfl) h
      simp only [List.append_nil] at hfin
      exact hfin
theorem f47' {K : AV → Heap → Prop} {H0 L Hx : Heap} {on : Bool} {l s : List (BitVec 8)} {m : Nat} (hm : m = H0.length) (hx : Hx = H0 ++ smB (smA on l) :: L) (hl : on = false → l = []) (hs : l.length + s.length ≤ 1000000000) (h : K (.tup []) (H0 ++ smB (smT (l ++ s)) :: L)) :
    wpF P G 47 [.ptr m 0 [0] (.st [.arr 8 .leaf, .leaf, .leaf, .leaf]), .str s] Hx K := by
  subst hm hx
  exact f47 hl hs h
/-- nobody takes nothing -/
theorem f47n {K : AV → Heap → Prop} {H : Heap} {s : List (BitVec 8)} (h : K (.tup []) H) : wpF P G 47 [.nilp, .str s] H K := by
  refine wpF_go c47 rfl 3 ?_
  intro ha hb
  simp only [s47]
  (refine gw0 ?_; try exact True.intro)
  exact h
/-- 128 bytes -/
def bL (f : Nat → BitVec 8) : List AV := (List.range 128).map fun k => .u8 (f k)
theorem bL_len {f : Nat → BitVec 8} : (bL f).length = 128 := by simp [bL]
theorem bL_at {f : Nat → BitVec 8} {k : Nat} (h : k < 128) : (bL f)[k]? = some (.u8 (f k)) := by
  unfold bL
  rw [List.getElem?_map, List.getElem?_range h]; rfl
theorem bL_set {f : Nat → BitVec 8} {q : Nat} {v : BitVec 8} : (bL f).set q (.u8 v) = bL fun k => if k = q then v else f k := by
  unfold bL
  rw [rng_set]
  refine rng_congr fun k hk => ?_
  by_cases e : k = q
  · rw [if_pos e]
    show AV.u8 v = AV.u8 (if k = q then v else f k)
    rw [if_pos e]
  · rw [if_neg e]
    show AV.u8 (f k) = AV.u8 (if k = q then v else f k)
    rw [if_neg e]
theorem bL_congr {f g : Nat → BitVec 8} (h : ∀ k, k < 128 → f k = g k) : bL f = bL g := by
  unfold bL
  exact rng_congr fun k hk => by rw [h k hk]
theorem bL_cpy {r : List (BitVec 8)} (hr : r.length ≤ 128) : splL (bL fun _ => 0) 0 (List.take (min r.length 128) (r.map .u8)) = bL fun k => r.getD k 0 := by
  unfold splL
  rw [Nat.min_eq_left hr, List.take_of_length_le (l := r.map AV.u8) (by simp)]
  apply List.ext_getElem?
  intro k
  by_cases hk : k < 128
  · rw [bL_at hk]
    simp only [List.take_zero, List.nil_append, Nat.zero_add, List.length_map]
    by_cases h : k < r.length
    · rw [List.getElem?_append_left (by simpa using h), List.getElem?_map, List.getElem?_eq_getElem h, List.getD_eq_getElem?_getD, List.getElem?_eq_getElem h]
      rfl
    · rw [List.getElem?_append_right (by simpa using h), List.length_map, List.getElem?_drop, show r.length + (k - r.length) = k by omega, bL_at hk, List.getD_eq_getElem?_getD, List.getElem?_eq_none (by omega)]
      rfl
  · rw [List.getElem?_eq_none (l := bL _) (by rw [bL_len]; omega), List.getElem?_eq_none (by simp only [List.length_append, List.length_take, List.length_map, List.length_drop, bL_len]; omega)]
/-- the bytes behind the last whole block, as they are put together -/
def pg (l : List (BitVec 8)) (e i k : Nat) : BitVec 8 :=
  if k < l.length % 64 then (l.drop (64 * (l.length / 64))).getD k 0 else if k = l.length % 64 then 128 else if e ≤ k + i ∧ k < e then ((BitVec.ofNat 64 l.length * 8) >>> (8 * (e - 1 - k))).setWidth 8 else 0
def pe (l : List (BitVec 8)) : Nat := if l.length % 64 < 56 then 64 else 128
theorem pe_pad {l : List (BitVec 8)} : (pad l).length = 64 * (l.length / 64) + pe l := by
  rw [pad_len]
  unfold pe zc
  split <;> omega
theorem pg_pad {l : List (BitVec 8)} {k : Nat} (hk : k < pe l) : (pad l)[64 * (l.length / 64) + k]? = some (pg l (pe l) 8 k) := by
  have hr : l.length = 64 * (l.length / 64) + l.length % 64 := by omega
  have hp := pe_pad (l := l)
  rw [pad_len] at hp
  unfold pad pg
  by_cases h1 : k < l.length % 64
  · rw [if_pos h1, List.getElem?_append_left (by omega), List.getD_eq_getElem?_getD, List.getElem?_drop, List.getElem?_eq_getElem (by omega)]
    rfl
  · rw [if_neg h1, List.getElem?_append_right (by omega)]
    by_cases h2 : k = l.length % 64
    · rw [if_pos h2, show 64 * (l.length / 64) + k - l.length = 0 by omega]; rfl
    · rw [if_neg h2, show 64 * (l.length / 64) + k - l.length = (k - l.length % 64 - 1) + 1 by omega, List.getElem?_cons_succ]
      by_cases h3 : pe l ≤ k + 8 ∧ k < pe l
      · rw [if_pos h3, List.getElem?_append_right (by rw [List.length_replicate]; omega), List.length_replicate]
        unfold len8
        rw [List.getElem?_map, List.getElem?_range (by omega)]
        simp only [Option.map_some]
        rw [show 7 - (k - l.length % 64 - 1 - zc l.length) = pe l - 1 - k by omega]
      · rw [if_neg h3, List.getElem?_append_left (by rw [List.length_replicate]; omega), List.getElem?_replicate, if_pos (by omega)]
theorem pg_ck {l : List (BitVec 8)} {i : Nat} (hi : 64 * i + 64 ≤ pe l) : List.take 64 (List.drop (64 * i) (bL (pg l (pe l) 8))) = (ck (pad l) (l.length / 64 + i)).map .u8 := by
  have hp := pe_pad (l := l)
  have h128 : pe l ≤ 128 := by unfold pe; split <;> omega
  unfold ck
  apply List.ext_getElem?
  intro k
  by_cases hk : k < 64
  · rw [List.getElem?_take, if_pos hk, List.getElem?_drop, bL_at (by omega), List.getElem?_map, List.getElem?_take, if_pos hk, List.getElem?_drop, show 64 * (l.length / 64 + i) + k = 64 * (l.length / 64) + (64 * i + k) by omega, pg_pad (by omega)]
    rfl
  · rw [List.getElem?_eq_none (by simp; omega), List.getElem?_eq_none (by simp; omega)]
theorem pg_start {l : List (BitVec 8)} {e : Nat} (he : l.length % 64 < e) : (bL fun k => if k = l.length % 64 then 128 else (l.drop (64 * (l.length / 64))).getD k 0) = bL (pg l e 0) := by
  refine bL_congr fun k hk => ?_
  unfold pg
  have hdl : (l.drop (64 * (l.length / 64))).length = l.length % 64 := by rw [List.length_drop]; omega
  by_cases h1 : k < l.length % 64
  · rw [if_pos h1, if_neg (by omega)]
  · rw [if_neg h1]
    by_cases h2 : k = l.length % 64
    · rw [if_pos h2, if_pos h2]
    · rw [if_neg h2, if_neg h2, if_neg (by omega), List.getD_eq_getElem?_getD, List.getElem?_eq_none (by omega)]
      rfl
theorem pg_step {l : List (BitVec 8)} {e i : Nat} (hi : i < 8) (he : l.length % 64 + 9 ≤ e) : (bL (pg l e i)).set (e - 1 - i) (.u8 (((BitVec.ofNat 64 l.length * 8) >>> (8 * i)).setWidth 8)) = bL (pg l e (i + 1)) := by
  rw [bL_set]
  refine bL_congr fun k hk => ?_
  unfold pg
  by_cases e1 : k = e - 1 - i
  · rw [if_pos e1, if_neg (by omega), if_neg (by omega), if_pos (by omega), show e - 1 - k = i by omega]
  · rw [if_neg e1]
    by_cases h1 : k < l.length % 64
    · rw [if_pos h1, if_pos h1]
    · rw [if_neg h1, if_neg h1]
      by_cases h2 : k = l.length % 64
      · rw [if_pos h2, if_pos h2]
      · rw [if_neg h2, if_neg h2]
        by_cases h3 : e ≤ k + i ∧ k < e
        · rw [if_pos h3, if_pos (by omega)]
        · rw [if_neg h3, if_neg (by omega)]
theorem bL_zero : List.replicate 128 (AV.u8 0) = bL fun _ => 0 := by
  unfold bL
  apply List.ext_getElem?
  intro k
  by_cases hk : k < 128
  · rw [List.getElem?_replicate, if_pos hk, List.getElem?_map, List.getElem?_range hk]; rfl
  · rw [List.getElem?_eq_none (by simp; omega), List.getElem?_eq_none (by simp; omega)]
def X32 : Option Blk := some ⟨76, 0, false, .arr 1 (.arr 32 .leaf), .agg [.agg (List.replicate 32 (.u8 0))]⟩
def I10a (l : List (BitVec 8)) (p : AV) (e : Nat) (H : Heap) (u9 u10 : AV) (k : Nat) (st : St) : Prop :=
  ∃ (i : Nat) (u6 u12 : AV), st = ⟨[p, .ptr H.length 0 [0] (.arr 32 .leaf), .ptr (H.length + 1) 0 [0] (.arr 8 .leaf), .own (H.length + 2) 0 [] 0 128 .leaf, .int (e : Int), .u64 (BitVec.ofNat 64 l.length * 8), u6, .un, .bool false, u9, u10, .int (i : Int), u12, .un],
    H ++ [X32, hB (hb l (l.length / 64)), some ⟨5, 0, true, .arr 128 .leaf, .agg (bL (pg l e i))⟩]⟩ ∧ k = 8 - i ∧ i ≤ 8
def I10b (l : List (BitVec 8)) (p : AV) (e : Nat) (H : Heap) (u6 u9 u10 : AV) (k : Nat) (st : St) : Prop :=
  ∃ (j : Nat) (u13 : AV), st = ⟨[p, .ptr H.length 0 [0] (.arr 32 .leaf), .ptr (H.length + 1) 0 [0] (.arr 8 .leaf), .own (H.length + 2) 0 [] 0 128 .leaf, .int (e : Int), .u64 (BitVec.ofNat 64 l.length * 8), u6, .int ((64 * j : Nat) : Int), .bool false, u9, u10, .int 8, .bool false, u13],
    H ++ [X32, hB (hb (pad l) (l.length / 64 + j)), some ⟨5, 0, true, .arr 128 .leaf, .agg (bL (pg l e 8))⟩]⟩ ∧ k = e / 64 - j ∧ 64 * j ≤ e
theorem f48 {K : AV → Heap → Prop} {H : Heap} {b : Nat} {on : Bool} {l : List (BitVec 8)} (hg : Heap.get H b = smB (smA on l)) (hl : on = false → l = []) (hle : l.length ≤ 1000000000) (h : K (.agg ((sha l).map .u8)) H) : wpF P G 48 [.ptr b 0 [0] (.st [.arr 8 .leaf, .leaf, .leaf, .leaf])] H K := by
  refine wpF_goW c48 rfl 3 ?_
  intro ha hb
  simp only [s48]
  clear ha hb
  have hsh : ∀ v, HasSh (.arr 8 .leaf) (stA v) := by intro v; unfold stA; simp [HasSh, AV.isCell]
  have hbl : b < H.length := Heap.get_lt hg
  have hgX : ∀ X : List (Option Blk), Heap.get (H ++ X) b = smB (smA on l) := fun X => Heap.get_some_append hg
  have key : smA on l = .agg [(if on = true then stA (hb l (l.length / 64)) else stA z8), .str (l.drop (64 * (l.length / 64))), .u64 (BitVec.ofNat 64 l.length), .bool on] := by
    cases on with
    | false => rw [hl rfl]; rfl
    | true => rfl
  rw [key] at hgX
  unfold smB at hgX
  have hsi : HasSh (.arr 8 .leaf) (if on = true then stA (hb l (l.length / 64)) else stA z8) := by split <;> exact hsh _
  refine WPS_seqS ?_
  (refine gw2 @thenQ_n @thenQ_r ?_; try exact True.intro)
  refine WPS_seqS ?_
  (refine gw2 @thenQ_n @thenQ_r ?_; try exact True.intro)
  refine WPS_seqS ?_
  (refine gw4 @thenQ_n @thenQ_r @hgX @hsi ?_; try exact True.intro)
  refine WPS_seqS ?_
  have e6 : on = false → hb l (l.length / 64) = ini := fun h => by rw [hl h]; rfl
  clear hg key
  have hdl : (l.drop (64 * (l.length / 64))).length = l.length % 64 := by rw [List.length_drop]; omega
  have hcp := bL_cpy (r := l.drop (64 * (l.length / 64))) (by omega)
  rw [hdl] at hcp
  have hr : l.length % 64 < 64 := Nat.mod_lt _ (by omega)
  cases on
  case' false =>
    simp only [if_true, if_false, Bool.false_eq_true, reduceCtorEq] at hgX hsi ⊢
    (refine gw4 @thenQ_n @thenQ_r @hgX @hsh ?_; try exact True.intro)
    refine f62 ?_
    (refine gw4 @thenQ_n @thenQ_r @hgX @hsh ?_; try exact True.intro)
    rw [← e6 rfl]
  case' true =>
    simp only [if_true, if_false, Bool.false_eq_true, reduceCtorEq] at hgX hsi ⊢
    (refine gw4 @thenQ_n @thenQ_r @hgX @hsh ?_; try exact True.intro)
  all_goals
    refine WPS_seqS ?_
    simp (maxSteps := 2000000) only [↓vS_skip, ↓vS_reg, ↓vS_draw, ↓vS_seq, ↓wS_cond, ↓vS_block, ↓vS_exit, ↓vS_ret, ↓vI_nil, ↓vI_go, ↓wI_gd, ↓stepI_q, ↓stepI_e, ↓stepI_c, ↓stepI_v, ↓vD_nil, ↓vD_go, ↓wD_gd, ↓stepW_q, ↓stepW_e, ↓stepW_c, ↓stepW_v, ↓Kw_app, ↓KwD_app, ↓Kc_app, ↓Kp_app, ↓Kr_app, ↓Ks_n, ↓Ks_r, ↓Ks_x, ↓Kb_n, ↓Kb_r, ↓Kb_x, ↓Ku_n, ↓Ku_r, ↓Ku_x, ↓Kl_n, ↓Kl_r, ↓Kl_x, ↓Kend_n, ↓Kend_r, ↓Two_t, ↓Two_f, ↓unr_succ, ↓GdM_b, ↓GdM_t, ↓CdM_b, ↓TwU_t, ↓TwU_f, ↓ThI_app, ↓ThW_app, ↓ThK_app, ↓ThS_app, ↓stepI_p, ↓stepW_p, ↓stepI_w, ↓stepW_w, ↓xD_w, ↓stepI_n, ↓xD_n, ↓xD_q, ↓xD_e, ↓xD_c, ↓xD_v, ↓xD_p, ↓xD_m, ↓xD_s, ↓vX_nil, ↓vX_go, ↓wX_gd, ↓KwX_app, ↓stepI_m, ↓stepW_m, ↓hasSh_mbool, ↓hasSh_mu8, ↓hasSh_mu16, ↓hasSh_mu32, ↓hasSh_mu64, ↓hasSh_mint, putE_none, putE_var, putE_new, get_t, get_c, qev, eev, rsGet, rvGet, oneOf, binAV, isSh, bvBin, bvOp, bvCmp, bvSh, intBin, intSh, cvAV, unAV, AV.cnt, AV.num, Ken2_s, Ken3_s, htake_1, htake_2, beq_self_eq_true, beq_true, beq_false, Int.toNat_natCast, Int.natCast_nonneg, BitVec.reduceOfInt, BitVec.reduceToNat, bytesOf, List.map_cons, Bool.not_eq_true, maxLen, Nat.reducePow, Nat.reduceMul, List.map_cons, List.map_nil, List.getD_cons_zero, List.getD_cons_succ, List.set_cons_zero, List.set_cons_succ, List.cons_append, List.nil_append, List.append_nil, List.take_succ_cons, List.take_zero, List.take_nil, List.length_cons, List.length_nil, Option.map_some, Option.map_none, List.getElem?_cons_zero, List.getElem?_cons_succ, true_and, and_true, if_true, if_false, ite_true, ite_false, reduceIte, reduceCtorEq, false_or, or_true, true_or, or_false, Option.some.injEq, Prod.mk.injEq, exists_eq_left', exists_eq_left, exists_eq_right, exists_and_left, exists_and_right, exists_const, and_assoc, decide_true, decide_false, Bool.false_eq_true, forall_const, Bool.not_true, Bool.not_false, false_implies, true_implies, Nat.reduceAdd, Nat.reduceSub, Nat.reduceMul, Nat.reduceLT, Nat.reduceLeDiff, Nat.reduceEqDiff, Int.reduceAdd, Int.reduceSub, Int.reduceMul, Int.reduceLT, Int.reduceLE, Int.reduceTMod, Int.reduceTDiv, Int.reduceToNat, Int.reduceEq, Int.reduceNe, Int.reduceNeg, ne_eq, not_false_eq_true, not_true_eq_false, InR, Bool.true_eq_false, Bool.false_eq_true, reduceDIte, Nat.zero_add, Nat.add_zero, Int.cast_ofNat_Int, eq_self, hget_0, hget_k, hget_z, hget_s, hset_0, hset_k, htake_0, lt_own0, lt_ownk, hasAt_nil, hasAt_arr, hasAt_st, hasSh_l, hasSh_aa, hasSh_sa, hasShs_n, hasShs_c, setAll, AV.isCell, Shape.size_leaf, Shape.size_arr, Shape.size_st, Shape.sizes_cons, Shape.sizes_nil, List.length_append, List.append_assoc, List.length_set, stP, ldP, getP, setP, psh, partsOf, slen, rd, dem, demK_own, demK_ptr, demK_agg, demK_tup, demK_fn, demK_ro, demK_rp, demK_bool, demK_u8, demK_u16, demK_u32, demK_u64, demK_int, demK_str, demK_nilp, demK_nils, demK_nilf, demK_un, mapO, AV.bnds, AV.bnd, bne_self_eq_false, AV.plain2, AV.plain, List.all_cons, List.all_nil, List.take_length, List.drop_zero, List.drop_succ_cons, Nat.mul_one, List.getElem?_nil, List.forall_mem_cons, List.not_mem_nil, implies_true, Bool.and_true, Bool.true_and, Bool.and_false, Bool.false_and, and_self, and_false, false_and, Nat.sub_zero, bnds, bnds_bool, bnds_bool', mapO_bool, mapO_bool', bnds_u8, bnds_u8', mapO_u8, mapO_u8', bnds_u16, bnds_u16', mapO_u16, mapO_u16', bnds_u32, bnds_u32', mapO_u32, mapO_u32', bnds_u64, bnds_u64', mapO_u64, mapO_u64', bnds_int, bnds_int', mapO_int, mapO_int', bt, bf, Bool.not_not, nilK_nils, nilK_own, nilK_ro, ninL_n, ninL_c, disL_n, disL_r, disL_c, chkL_n, chkL_c, apartL_e, fp_ld, fp_b2s, fp_st, fp_app, fp_appS, fp_cpy, fp_cpyS, tb_own, tb_ptr, tb_ro, tb_rp, tb_nils, tb_str, ne_ah, ne_ha, thenQ_n]
    rw [bL_zero]
    refine WPS_seqS ?_
    (refine gw4 @thenQ_n @hgX @cpH_own @hdl ?_; try exact True.intro)
    have hb0 : hb (pad l) (l.length / 64 + 0) = hb l (l.length / 64) := hb_app (by omega)
    rw [hcp]
    refine wpS_ok ?_
    have ga := bL_at (f := fun k => (l.drop (64 * (l.length / 64))).getD k 0) (k := l.length % 64) (by omega)
    by_cases h56 : l.length % 64 < 56
    · have hp : pe l = 64 := if_pos h56
      have h5 : ((56 : Int) ≤ ((l.length % 64 : Nat) : Int)) = False := by simp only [eq_iff_iff, iff_false]; omega
      have gs : (bL fun k => (l.drop (64 * (l.length / 64))).getD k 0).set (l.length % 64) (.u8 128) = bL (pg l 64 0) := by rw [bL_set, pg_start (e := 64) (by omega)]
      (refine gw5 @hgX @hdl @ga @gs @h5 ?_; try exact True.intro)
      (repeat (refine And.intro (by omega) ?_))
      (refine gw1 @hgX ?_; try exact True.intro)
      refine wp_inv (I10a l _ 64 H _ _) 8 ⟨0, _, _, rfl, rfl, by omega⟩ ?_
      rintro k st ⟨i, u6, u12, rfl, rfl, hi⟩
      unfold X32 hB
      by_cases hil : i < 8
      · have h6 : ((i : Int) < 8) = True := by simp only [eq_iff_iff, iff_true]; omega
        have e1 : (63 : Int) - (i : Int) = ((64 - 1 - i : Nat) : Int) := by omega
        have e2 : 8 * (i : Int) = ((8 * i : Nat) : Int) := by omega
        have e3 : (BitVec.ofInt 64 ((8 * i : Nat) : Int)).toNat = 8 * i := ofInt64_nat (by omega)
        have gb := bL_at (f := pg l 64 i) (k := 64 - 1 - i) (by omega)
        have gt := pg_step (l := l) (e := 64) hil (by omega)
        (refine gw6 @h6 @e1 @e2 @e3 @gb @gt ?_; try exact True.intro)
        (repeat (refine And.intro (by omega) ?_))
        exact ⟨8 - (i + 1), by omega, i + 1, _, _, rfl, rfl, by omega⟩
      · have h6 : ((i : Int) < 8) = False := by simp only [eq_iff_iff, iff_false]; omega
        have hie : i = 8 := by omega
        subst hie
        (refine gw1 @h6 ?_; try exact True.intro)
        (refine gw0 ?_; try exact True.intro)
        refine wp_inv (I10b l _ 64 H u6 _ _) 1 ⟨0, _, by rw [hb0]; rfl, rfl, by omega⟩ ?_
        rintro k st ⟨j, u13, rfl, rfl, hj⟩
        unfold X32 hB
        by_cases hjl : 64 * j < 64
        · have h7 : (((64 * j : Nat) : Int) < 64) = True := by simp only [eq_iff_iff, iff_true]; omega
          have e4 : ((64 * j : Nat) : Int) + 64 = ((64 * j + 64 : Nat) : Int) := by omega
          have e5 : 64 * j + 64 - 64 * j = 64 := by omega
          have hcl : (ck (pad l) (l.length / 64 + j)).length = 64 := by unfold ck; rw [List.length_take, List.length_drop, pe_pad, hp]; omega
          have hby : bytesOf (List.take 64 (List.drop (64 * j) (bL (pg l 64 8)))) = some (ck (pad l) (l.length / 64 + j)) := by
            have := pg_ck (l := l) (i := j) (by omega)
            rw [hp] at this
            rw [this, bytesOf_m]
          (refine gw5 @h7 @e4 @e5 @hsh @hby ?_; try exact True.intro)
          (repeat (refine And.intro (by omega) ?_))
          refine drawn _ (f63 hcl ⟨rfl, rfl⟩) ?_
          (refine gw2 @hsh @e4 ?_; try exact True.intro)
          (repeat (refine And.intro (by omega) ?_))
          exact ⟨64 / 64 - (j + 1), by omega, j + 1, _, rfl, rfl, by omega⟩
        · have h7 : (((64 * j : Nat) : Int) < 64) = False := by simp only [eq_iff_iff, iff_false]; omega
          have hje : l.length / 64 + j = (pad l).length / 64 := by rw [pe_pad, hp]; omega
          rw [hje]
          unfold sha at h
          (refine gw2 @h7 @hsh ?_; try exact True.intro)
          refine f64 ?_
          have hdd := dg_len (v := hb (pad l) ((pad l).length / 64))
          generalize dg (hb (pad l) ((pad l).length / 64)) = d at h hdd ⊢
          (refine gw0 ?_; try exact True.intro)
          exact ⟨hdd, h⟩
    · have hp : pe l = 128 := if_neg h56
      have h5 : ((56 : Int) ≤ ((l.length % 64 : Nat) : Int)) = True := by simp only [eq_iff_iff, iff_true]; omega
      have gs : (bL fun k => (l.drop (64 * (l.length / 64))).getD k 0).set (l.length % 64) (.u8 128) = bL (pg l 128 0) := by rw [bL_set, pg_start (e := 128) (by omega)]
      (refine gw5 @hgX @hdl @ga @gs @h5 ?_; try exact True.intro)
      (repeat (refine And.intro (by omega) ?_))
      (refine gw1 @hgX ?_; try exact True.intro)
      refine wp_inv (I10a l _ 128 H _ _) 8 ⟨0, _, _, rfl, rfl, by omega⟩ ?_
      rintro k st ⟨i, u6, u12, rfl, rfl, hi⟩
      unfold X32 hB
      by_cases hil : i < 8
      · have h6 : ((i : Int) < 8) = True := by simp only [eq_iff_iff, iff_true]; omega
        have e1 : (127 : Int) - (i : Int) = ((128 - 1 - i : Nat) : Int) := by omega
        have e2 : 8 * (i : Int) = ((8 * i : Nat) : Int) := by omega
        have e3 : (BitVec.ofInt 64 ((8 * i : Nat) : Int)).toNat = 8 * i := ofInt64_nat (by omega)
        have gb := bL_at (f := pg l 128 i) (k := 128 - 1 - i) (by omega)
        have gt := pg_step (l := l) (e := 128) hil (by omega)
        (refine gw6 @h6 @e1 @e2 @e3 @gb @gt ?_; try exact True.intro)
        (repeat (refine And.intro (by omega) ?_))
        exact ⟨8 - (i + 1), by omega, i + 1, _, _, rfl, rfl, by omega⟩
      · have h6 : ((i : Int) < 8) = False := by simp only [eq_iff_iff, iff_false]; omega
        have hie : i = 8 := by omega
        subst hie
        (refine gw1 @h6 ?_; try exact True.intro)
        (refine gw0 ?_; try exact True.intro)
        refine wp_inv (I10b l _ 128 H u6 _ _) 2 ⟨0, _, by rw [hb0]; rfl, rfl, by omega⟩ ?_
        rintro k st ⟨j, u13, rfl, rfl, hj⟩
        unfold X32 hB
        by_cases hjl : 64 * j < 128
        · have h7 : (((64 * j : Nat) : Int) < 128) = True := by simp only [eq_iff_iff, iff_true]; omega
          have e4 : ((64 * j : Nat) : Int) + 64 = ((64 * j + 64 : Nat) : Int) := by omega
          have e5 : 64 * j + 64 - 64 * j = 64 := by omega
          have hcl : (ck (pad l) (l.length / 64 + j)).length = 64 := by unfold ck; rw [List.length_take, List.length_drop, pe_pad, hp]; omega
          have hby : bytesOf (List.take 64 (List.drop (64 * j) (bL (pg l 128 8)))) = some (ck (pad l) (l.length / 64 + j)) := by
            have := pg_ck (l := l) (i := j) (by omega)
            rw [hp] at this
            rw [this, bytesOf_m]
          (refine gw5 @h7 @e4 @e5 @hsh @hby ?_; try exact True.intro)
          (repeat (refine And.intro (by omega) ?_))
          refine drawn _ (f63 hcl ⟨rfl, rfl⟩) ?_
          (refine gw2 @hsh @e4 ?_; try exact True.intro)
          (repeat (refine And.intro (by omega) ?_))
          exact ⟨128 / 64 - (j + 1), by omega, j + 1, _, rfl, rfl, by omega⟩
        · have h7 : (((64 * j : Nat) : Int) < 128) = False := by simp only [eq_iff_iff, iff_false]; omega
          have hje : l.length / 64 + j = (pad l).length / 64 := by rw [pe_pad, hp]; omega
          rw [hje]
          unfold sha at h
          (refine gw2 @h7 @hsh ?_; try exact True.intro)
          refine f64 ?_
          have hdd := dg_len (v := hb (pad l) ((pad l).length / 64))
          generalize dg (hb (pad l) ((pad l).length / 64)) = d at h hdd ⊢
          (refine gw0 ?_; try exact True.intro)
          exact ⟨hdd, h⟩
end Go.Proofs.YtjilenmngokhpaaDoor

end

section
/-
  The reference of layer 4 and tagged sums, as this seat has them.
-/
open Go Go.V
namespace Go.Proofs.YtjilenmngokhpaaDoor
set_option maxRecDepth 100000
set_option linter.unusedSimpArgs false
set_option linter.unusedVariables false
/-- trefoil/sha.Tagged (0:tag, 1:parts, 4:, 5:x, 6:put, 8:p, 13:, 14:, 15:, 16:) -/
def s29 : FnS := ⟨24, [0, 1, 4, 5, 6, 8, 13, 14, 15, 16],
    (.seq (.reg [⟨.var 2, (.e (.alloc 76 (.arr 32 .leaf) (.agg [(.u8 0), (.u8 0), (.u8 0), (.u8 0), (.u8 0), (.u8 0), (.u8 0), (.u8 0), (.u8 0), (.u8 0), (.u8 0), (.u8 0), (.u8 0), (.u8 0), (.u8 0), (.u8 0), (.u8 0), (.u8 0), (.u8 0), (.u8 0), (.u8 0), (.u8 0), (.u8 0), (.u8 0), (.u8 0), (.u8 0), (.u8 0), (.u8 0), (.u8 0), (.u8 0), (.u8 0), (.u8 0)]))), [], none⟩])
    (.seq (.reg [⟨.var 3, (.e (.alloc 101 (.st [(.arr 8 .leaf), .leaf, .leaf, .leaf]) (.agg [(.agg [(.u32 0), (.u32 0), (.u32 0), (.u32 0), (.u32 0), (.u32 0), (.u32 0), (.u32 0)]), (.str []), (.u64 0), (.bool false)]))), [], none⟩])
    (.seq (.reg [⟨.new, (.q (.mkf 46)), [.t 3], none⟩,
      ⟨.var 4, (.q .mv), [.t 10], none⟩])
    (.seq (.reg [⟨.new, (.q .mv), [.t 4], none⟩,
      ⟨.new, (.q .mv), [.t 0], none⟩,
      ⟨.new, .callv, [.t 10, .t 11], none⟩])
    (.seq (.seq (.reg [⟨.var 6, (.q .mv), [.t 1], none⟩,
      ⟨.var 7, (.q .len), [.t 6], none⟩,
      ⟨.var 8, (.q .mv), [.c (.int 0)], none⟩])
    (.block 0 (.loop (.seq (.reg [⟨.var 9, (.q (.bin .lss)), [.t 8, .t 7], none⟩])
    (.seq (.cond (.t 9) .skip
    (.exit 0))
    (.seq (.block 1 (.seq (.reg [⟨.new, (.q (.iaS .leaf)), [.t 6, .t 8], none⟩,
      ⟨.new, (.q (.ld .leaf)), [.t 10], none⟩,
      ⟨.var 5, (.q .mv), [.t 11], none⟩])
    (.reg [⟨.new, (.q .mv), [.t 4], none⟩,
      ⟨.new, (.q .mv), [.t 5], none⟩,
      ⟨.new, .callv, [.t 10, .t 11], none⟩])))
    (.reg [⟨.new, (.q (.bin .add)), [.t 8, .c (.int 1)], none⟩,
      ⟨.var 8, (.q .mv), [.t 10], none⟩])))))))
    (.seq (.reg [⟨.new, (.call 48), [.t 3], none⟩,
      ⟨.none, (.e (.store (.arr 32 .leaf))), [.t 2, .t 10], none⟩])
    .ret)))))),
    [.cell 2 (.arr 32 .leaf)]⟩

/-- trefoil/trefoilref04.Tagged (0:tag, 1:parts, 4:, 5:s, 6:i, 12:) -/
def s32 : FnS := ⟨24, [0, 1, 4, 5, 6, 12],
    (.seq (.reg [⟨.var 2, (.e (.alloc 76 (.arr 32 .leaf) (.agg [(.u8 0), (.u8 0), (.u8 0), (.u8 0), (.u8 0), (.u8 0), (.u8 0), (.u8 0), (.u8 0), (.u8 0), (.u8 0), (.u8 0), (.u8 0), (.u8 0), (.u8 0), (.u8 0), (.u8 0), (.u8 0), (.u8 0), (.u8 0), (.u8 0), (.u8 0), (.u8 0), (.u8 0), (.u8 0), (.u8 0), (.u8 0), (.u8 0), (.u8 0), (.u8 0), (.u8 0), (.u8 0)]))), [], none⟩])
    (.seq (.reg [⟨.new, (.q .mv), [.t 0], none⟩,
      ⟨.new, (.call 49), [.t 6], none⟩,
      ⟨.var 3, (.q .mv), [.t 7], none⟩])
    (.seq (.seq (.reg [⟨.var 4, (.q .mv), [.c (.int 0)], none⟩])
    (.block 0 (.loop (.seq (.seq (.reg [⟨.new, (.q .mv), [.t 4], none⟩,
      ⟨.new, (.q .mv), [.t 1], none⟩,
      ⟨.new, (.q .len), [.t 7], none⟩,
      ⟨.var 5, (.q (.bin .lss)), [.t 6, .t 8], none⟩])
    (.cond (.t 5) .skip
    (.exit 0)))
    (.seq (.block 1 (.reg [⟨.new, (.q .mv), [.t 3], none⟩,
      ⟨.new, (.q .mv), [.t 1], none⟩,
      ⟨.new, (.q .mv), [.t 4], none⟩,
      ⟨.new, (.q (.iaS .leaf)), [.t 7, .t 8], none⟩,
      ⟨.new, (.q (.ld .leaf)), [.t 9], none⟩,
      ⟨.new, (.call 49), [.t 10], none⟩,
      ⟨.new, (.q (.bin .add)), [.t 6, .t 11], none⟩,
      ⟨.var 3, (.q .mv), [.t 12], none⟩]))
    (.reg [⟨.new, (.q .mv), [.t 4], none⟩,
      ⟨.new, (.q (.bin .add)), [.t 6, .c (.int 1)], none⟩,
      ⟨.var 4, (.q .mv), [.t 7], none⟩]))))))
    (.seq (.reg [⟨.new, (.q .mv), [.t 3], none⟩,
      ⟨.new, (.call 50), [.t 6], none⟩,
      ⟨.none, (.e (.store (.arr 32 .leaf))), [.t 2, .t 7], none⟩])
    .ret)))),
    [.cell 2 (.arr 32 .leaf)]⟩

/-- trefoil/sha.Tagged$1 (0:s, 1:, 3:n) -/
def s46 : FnS := ⟨22, [0, 1, 3],
    (.seq (.reg [⟨.new, (.q .mv), [.t 0], none⟩,
      ⟨.new, (.q .lenS), [.t 3], none⟩,
      ⟨.var 2, (.q .mv), [.t 4], none⟩])
    (.seq (.reg [⟨.new, (.q .mv), [.t 2], none⟩,
      ⟨.new, (.q (.bin .shr)), [.t 3, .c (.u64 24)], none⟩,
      ⟨.new, (.q (.cv .u8)), [.t 4], none⟩,
      ⟨.new, (.q .mv), [.t 2], none⟩,
      ⟨.new, (.q (.bin .shr)), [.t 6, .c (.u64 16)], none⟩,
      ⟨.new, (.q (.cv .u8)), [.t 7], none⟩,
      ⟨.new, (.q .mv), [.t 2], none⟩,
      ⟨.new, (.q (.bin .shr)), [.t 9, .c (.u64 8)], none⟩,
      ⟨.new, (.q (.cv .u8)), [.t 10], none⟩,
      ⟨.new, (.q .mv), [.t 2], none⟩,
      ⟨.new, (.q (.cv .u8)), [.t 12], none⟩,
      ⟨.new, (.e (.bsl 5 .leaf (.u8 0) 4 [0, 1, 2, 3])), [.t 5, .t 8, .t 11, .t 13], none⟩,
      ⟨.new, (.q .b2s), [.t 14], none⟩,
      ⟨.new, (.call 47), [.t 1, .t 15], none⟩])
    (.reg [⟨.new, (.q .mv), [.t 0], none⟩,
      ⟨.new, (.call 47), [.t 1, .t 3], none⟩]))),
    []⟩

/-- trefoil/trefoilref04.Long (0:s, 2:, 3:n) -/
def s49 : FnS := ⟨21, [0, 2, 3],
    (.seq (.reg [⟨.var 1, (.q .mv), [.c (.str [])], none⟩])
    (.seq (.reg [⟨.new, (.q .mv), [.t 0], none⟩,
      ⟨.new, (.q .lenS), [.t 3], none⟩,
      ⟨.var 2, (.q .mv), [.t 4], none⟩])
    (.seq (.reg [⟨.new, (.q .mv), [.t 2], none⟩,
      ⟨.new, (.q (.bin .quo)), [.t 3, .c (.int 16777216)], none⟩,
      ⟨.new, (.q (.cv .u8)), [.t 4], none⟩,
      ⟨.new, (.q .mv), [.t 2], none⟩,
      ⟨.new, (.q (.bin .quo)), [.t 6, .c (.int 65536)], none⟩,
      ⟨.new, (.q (.cv .u8)), [.t 7], none⟩,
      ⟨.new, (.q .mv), [.t 2], none⟩,
      ⟨.new, (.q (.bin .quo)), [.t 9, .c (.int 256)], none⟩,
      ⟨.new, (.q (.cv .u8)), [.t 10], none⟩,
      ⟨.new, (.q .mv), [.t 2], none⟩,
      ⟨.new, (.q (.cv .u8)), [.t 12], none⟩,
      ⟨.new, (.e (.bsl 5 .leaf (.u8 0) 4 [0, 1, 2, 3])), [.t 5, .t 8, .t 11, .t 13], none⟩,
      ⟨.new, (.q .b2s), [.t 14], none⟩,
      ⟨.new, (.q .mv), [.t 0], none⟩,
      ⟨.new, (.q (.bin .add)), [.t 15, .t 16], none⟩,
      ⟨.var 1, (.q .mv), [.t 17], none⟩])
    .ret))),
    [.t 1]⟩

/-- trefoil/trefoilref04.Sum (0:s, 2:, 3:k, 4:h, 5:p, 6:i, 7:d, 8:i, 16:, 28:) -/
def s50 : FnS := ⟨46, [0, 2, 3, 4, 5, 6, 7, 8, 16, 28],
    (.seq (.reg [⟨.var 1, (.e (.alloc 76 (.arr 32 .leaf) (.agg [(.u8 0), (.u8 0), (.u8 0), (.u8 0), (.u8 0), (.u8 0), (.u8 0), (.u8 0), (.u8 0), (.u8 0), (.u8 0), (.u8 0), (.u8 0), (.u8 0), (.u8 0), (.u8 0), (.u8 0), (.u8 0), (.u8 0), (.u8 0), (.u8 0), (.u8 0), (.u8 0), (.u8 0), (.u8 0), (.u8 0), (.u8 0), (.u8 0), (.u8 0), (.u8 0), (.u8 0), (.u8 0)]))), [], none⟩])
    (.seq (.reg [⟨.new, (.call 65), [], none⟩,
      ⟨.var 2, (.q .mv), [.t 10], none⟩])
    (.seq (.reg [⟨.new, (.e (.bsl 87 .leaf (.u32 0) 8 [0, 1, 2, 3, 4, 5, 6, 7])), [.c (.u32 1779033703), .c (.u32 3144134277), .c (.u32 1013904242), .c (.u32 2773480762), .c (.u32 1359893119), .c (.u32 2600822924), .c (.u32 528734635), .c (.u32 1541459225)], none⟩,
      ⟨.var 3, (.q .mv), [.t 10], none⟩])
    (.seq (.reg [⟨.new, (.q .mv), [.t 0], none⟩,
      ⟨.new, (.call 66), [.t 10], none⟩,
      ⟨.var 4, (.q .mv), [.t 11], none⟩])
    (.seq (.seq (.reg [⟨.var 5, (.q .mv), [.c (.int 0)], none⟩])
    (.block 0 (.loop (.seq (.seq (.reg [⟨.new, (.q .mv), [.t 5], none⟩,
      ⟨.new, (.q .mv), [.t 4], none⟩,
      ⟨.new, (.q .lenS), [.t 11], none⟩,
      ⟨.var 8, (.q (.bin .lss)), [.t 10, .t 12], none⟩])
    (.cond (.t 8) .skip
    (.exit 0)))
    (.seq (.block 1 (.reg [⟨.new, (.q .mv), [.t 3], none⟩,
      ⟨.new, (.q .mv), [.t 2], none⟩,
      ⟨.new, (.q .mv), [.t 4], none⟩,
      ⟨.new, (.q .mv), [.t 5], none⟩,
      ⟨.new, (.q .mv), [.t 5], none⟩,
      ⟨.new, (.q (.bin .add)), [.t 14, .c (.int 64)], none⟩,
      ⟨.new, (.q (.slS true true)), [.t 12, .t 13, .t 15], none⟩,
      ⟨.new, (.call 67), [.t 10, .t 11, .t 16], none⟩,
      ⟨.var 3, (.q .mv), [.t 17], none⟩]))
    (.reg [⟨.new, (.q .mv), [.t 5], none⟩,
      ⟨.new, (.q (.bin .add)), [.t 10, .c (.int 64)], none⟩,
      ⟨.var 5, (.q .mv), [.t 11], none⟩]))))))
    (.seq (.reg [⟨.var 6, (.e (.alloc 76 (.arr 32 .leaf) (.agg [(.u8 0), (.u8 0), (.u8 0), (.u8 0), (.u8 0), (.u8 0), (.u8 0), (.u8 0), (.u8 0), (.u8 0), (.u8 0), (.u8 0), (.u8 0), (.u8 0), (.u8 0), (.u8 0), (.u8 0), (.u8 0), (.u8 0), (.u8 0), (.u8 0), (.u8 0), (.u8 0), (.u8 0), (.u8 0), (.u8 0), (.u8 0), (.u8 0), (.u8 0), (.u8 0), (.u8 0), (.u8 0)]))), [], none⟩])
    (.seq (.seq (.reg [⟨.var 7, (.q .mv), [.c (.int 0)], none⟩])
    (.block 2 (.loop (.seq (.seq (.reg [⟨.new, (.q .mv), [.t 7], none⟩,
      ⟨.var 9, (.q (.bin .lss)), [.t 10, .c (.int 32)], none⟩])
    (.cond (.t 9) .skip
    (.exit 2)))
    (.seq (.block 3 (.reg [⟨.new, (.q .mv), [.t 7], none⟩,
      ⟨.new, (.q .mv), [.t 3], none⟩,
      ⟨.new, (.q .mv), [.t 7], none⟩,
      ⟨.new, (.q (.bin .quo)), [.t 12, .c (.int 4)], none⟩,
      ⟨.new, (.q (.iaS .leaf)), [.t 11, .t 13], none⟩,
      ⟨.new, (.q (.ld .leaf)), [.t 14], none⟩,
      ⟨.new, (.q .mv), [.t 7], none⟩,
      ⟨.new, (.q (.bin .rem)), [.t 16, .c (.int 4)], none⟩,
      ⟨.new, (.q (.bin .mul)), [.c (.int 8), .t 17], none⟩,
      ⟨.new, (.q (.bin .sub)), [.c (.int 24), .t 18], none⟩,
      ⟨.new, (.q (.cv .u64)), [.t 19], none⟩,
      ⟨.new, (.q (.bin .shr)), [.t 15, .t 20], none⟩,
      ⟨.new, (.q (.cv .u8)), [.t 21], none⟩,
      ⟨.new, (.q (.iaA 32 .leaf)), [.t 6, .t 10], none⟩,
      ⟨.none, (.e (.store .leaf)), [.t 23, .t 22], none⟩]))
    (.reg [⟨.new, (.q .mv), [.t 7], none⟩,
      ⟨.new, (.q (.bin .add)), [.t 10, .c (.int 1)], none⟩,
      ⟨.var 7, (.q .mv), [.t 11], none⟩]))))))
    (.seq (.reg [⟨.new, (.q (.ld (.arr 32 .leaf))), [.t 6], none⟩,
      ⟨.none, (.e (.store (.arr 32 .leaf))), [.t 1, .t 10], none⟩])
    .ret)))))))),
    [.cell 1 (.arr 32 .leaf)]⟩

/-- trefoil/trefoilref04.Rounds (0:, 1:out, 2:p, 3:x, 4:i, 7:, 12:, 14:, 23:) -/
def s65 : FnS := ⟨35, [0, 1, 2, 3, 4, 7, 12, 14, 23],
    (.seq (.reg [⟨.var 0, (.q .mv), [.c .nils], none⟩])
    (.seq (.reg [⟨.var 1, (.q .mv), [.c .nils], none⟩])
    (.seq (.seq (.reg [⟨.var 2, (.q .mv), [.c (.u64 2)], none⟩])
    (.block 0 (.loop (.seq (.seq (.reg [⟨.new, (.q .mv), [.t 1], none⟩,
      ⟨.new, (.q .len), [.t 9], none⟩,
      ⟨.var 5, (.q (.bin .lss)), [.t 10, .c (.int 64)], none⟩])
    (.cond (.t 5) .skip
    (.exit 0)))
    (.seq (.block 1 (.seq (.seq (.reg [⟨.new, (.q .mv), [.t 2], none⟩,
      ⟨.new, (.call 78), [.t 9], none⟩,
      ⟨.var 6, (.q (.un .not)), [.t 10], none⟩])
    (.cond (.t 6) (.exit 1)
    .skip))
    (.seq (.reg [⟨.var 3, (.q .mv), [.c (.u64 0)], none⟩])
    (.seq (.seq (.reg [⟨.var 4, (.q .mv), [.c (.int 35)], none⟩])
    (.block 2 (.loop (.seq (.seq (.reg [⟨.new, (.q .mv), [.t 4], none⟩,
      ⟨.var 7, (.q (.bin .geq)), [.t 9, .c (.int 0)], none⟩])
    (.cond (.t 7) .skip
    (.exit 2)))
    (.seq (.block 3 (.seq (.reg [⟨.new, (.q .mv), [.t 3], none⟩,
      ⟨.new, (.q .mv), [.t 4], none⟩,
      ⟨.new, (.q (.cv .u64)), [.t 10], none⟩,
      ⟨.new, (.q (.bin .shl)), [.c (.u64 1), .t 11], none⟩,
      ⟨.new, (.q (.bin .add)), [.t 9, .t 12], none⟩,
      ⟨.new, (.q .mv), [.t 2], none⟩,
      ⟨.var 8, (.call 79), [.t 13, .t 14], none⟩])
    (.cond (.t 8) (.reg [⟨.new, (.q .mv), [.t 3], none⟩,
      ⟨.new, (.q .mv), [.t 4], none⟩,
      ⟨.new, (.q (.cv .u64)), [.t 10], none⟩,
      ⟨.new, (.q (.bin .shl)), [.c (.u64 1), .t 11], none⟩,
      ⟨.new, (.q (.bin .add)), [.t 9, .t 12], none⟩,
      ⟨.var 3, (.q .mv), [.t 13], none⟩])
    .skip)))
    (.reg [⟨.new, (.q .mv), [.t 4], none⟩,
      ⟨.new, (.q (.bin .sub)), [.t 9, .c (.int 1)], none⟩,
      ⟨.var 4, (.q .mv), [.t 10], none⟩]))))))
    (.reg [⟨.new, (.q .mv), [.t 1], none⟩,
      ⟨.new, (.q .mv), [.t 3], none⟩,
      ⟨.new, (.q (.cv .u32)), [.t 10], none⟩,
      ⟨.new, (.e (.bsl 87 .leaf (.u32 0) 1 [0])), [.t 11], none⟩,
      ⟨.new, (.e (.app 87 .leaf 4)), [.t 9, .t 12], none⟩,
      ⟨.var 1, (.q .mv), [.t 13], none⟩])))))
    (.reg [⟨.new, (.q .mv), [.t 2], none⟩,
      ⟨.new, (.q (.bin .add)), [.t 9, .c (.u64 1)], none⟩,
      ⟨.var 2, (.q .mv), [.t 10], none⟩]))))))
    (.seq (.reg [⟨.new, (.q .mv), [.t 1], none⟩,
      ⟨.var 0, (.q .mv), [.t 9], none⟩])
    .ret)))),
    [.t 0]⟩

/-- trefoil/trefoilref04.Padded (0:s, 2:, 3:n, 4:out, 5:i, 13:, 17:) -/
def s66 : FnS := ⟨32, [0, 2, 3, 4, 5, 13, 17],
    (.seq (.reg [⟨.var 1, (.q .mv), [.c (.str [])], none⟩])
    (.seq (.reg [⟨.new, (.q .mv), [.t 0], none⟩,
      ⟨.new, (.q .lenS), [.t 7], none⟩,
      ⟨.var 2, (.q .mv), [.t 8], none⟩])
    (.seq (.reg [⟨.new, (.q .mv), [.t 0], none⟩,
      ⟨.new, (.q (.bin .add)), [.t 7, .c (.str [128])], none⟩,
      ⟨.var 3, (.q .mv), [.t 8], none⟩])
    (.seq (.block 0 (.loop (.seq (.seq (.reg [⟨.new, (.q .mv), [.t 3], none⟩,
      ⟨.new, (.q .lenS), [.t 7], none⟩,
      ⟨.new, (.q (.bin .rem)), [.t 8, .c (.int 64)], none⟩,
      ⟨.var 5, (.q (.bin .neq)), [.t 9, .c (.int 56)], none⟩])
    (.cond (.t 5) .skip
    (.exit 0)))
    (.block 1 (.reg [⟨.new, (.q .mv), [.t 3], none⟩,
      ⟨.new, (.q (.bin .add)), [.t 7, .c (.str [0])], none⟩,
      ⟨.var 3, (.q .mv), [.t 8], none⟩])))))
    (.seq (.seq (.reg [⟨.var 4, (.q .mv), [.c (.int 7)], none⟩])
    (.block 2 (.loop (.seq (.seq (.reg [⟨.new, (.q .mv), [.t 4], none⟩,
      ⟨.var 6, (.q (.bin .geq)), [.t 7, .c (.int 0)], none⟩])
    (.cond (.t 6) .skip
    (.exit 2)))
    (.seq (.block 3 (.reg [⟨.new, (.q .mv), [.t 3], none⟩,
      ⟨.new, (.q .mv), [.t 2], none⟩,
      ⟨.new, (.q (.bin .mul)), [.c (.int 8), .t 8], none⟩,
      ⟨.new, (.q .mv), [.t 4], none⟩,
      ⟨.new, (.q (.bin .mul)), [.c (.int 8), .t 10], none⟩,
      ⟨.new, (.q (.cv .u64)), [.t 11], none⟩,
      ⟨.new, (.q (.bin .shr)), [.t 9, .t 12], none⟩,
      ⟨.new, (.q (.cv .u8)), [.t 13], none⟩,
      ⟨.new, (.e (.bsl 5 .leaf (.u8 0) 1 [0])), [.t 14], none⟩,
      ⟨.new, (.q .b2s), [.t 15], none⟩,
      ⟨.new, (.q (.bin .add)), [.t 7, .t 16], none⟩,
      ⟨.var 3, (.q .mv), [.t 17], none⟩]))
    (.reg [⟨.new, (.q .mv), [.t 4], none⟩,
      ⟨.new, (.q (.bin .sub)), [.t 7, .c (.int 1)], none⟩,
      ⟨.var 4, (.q .mv), [.t 8], none⟩]))))))
    (.seq (.reg [⟨.new, (.q .mv), [.t 3], none⟩,
      ⟨.var 1, (.q .mv), [.t 7], none⟩])
    .ret)))))),
    [.t 1]⟩

/-- trefoil/trefoilref04.with (0:h, 1:k, 2:s, 6:, 7:w, 8:i, 9:i, 10:x, 11:y, 12:a, 13:b, 14:c, 15:d, 16:e, 17:f, 18:g, 19:z, 20:i, 21:t, 22:u, 24:, 60:, 130:) -/
def s67 : FnS := ⟨235, [0, 1, 2, 6, 7, 8, 9, 10, 11, 12, 13, 14, 15, 16, 17, 18, 19, 20, 21, 22, 24, 60, 130],
    (.seq (.reg [⟨.var 3, (.q .mv), [.c .nils], none⟩])
    (.seq (.reg [⟨.var 4, (.q .mv), [.c .nils], none⟩])
    (.seq (.seq (.reg [⟨.var 5, (.q .mv), [.c (.int 0)], none⟩])
    (.block 0 (.loop (.seq (.seq (.reg [⟨.new, (.q .mv), [.t 5], none⟩,
      ⟨.var 20, (.q (.bin .lss)), [.t 23, .c (.int 16)], none⟩])
    (.cond (.t 20) .skip
    (.exit 0)))
    (.seq (.block 1 (.draw [⟨.new, (.q .mv), [.t 4], none⟩,
      ⟨.new, (.q .mv), [.t 2], none⟩,
      ⟨.new, (.q .mv), [.t 5], none⟩,
      ⟨.new, (.q (.bin .mul)), [.c (.int 4), .t 25], none⟩,
      ⟨.new, (.q .idxS), [.t 24, .t 26], none⟩,
      ⟨.new, (.q (.cv .u32)), [.t 27], none⟩,
      ⟨.new, (.q (.bin .mul)), [.t 28, .c (.u32 16777216)], none⟩,
      ⟨.new, (.q .mv), [.t 2], none⟩,
      ⟨.new, (.q .mv), [.t 5], none⟩,
      ⟨.new, (.q (.bin .mul)), [.c (.int 4), .t 31], none⟩,
      ⟨.new, (.q (.bin .add)), [.t 32, .c (.int 1)], none⟩,
      ⟨.new, (.q .idxS), [.t 30, .t 33], none⟩,
      ⟨.new, (.q (.cv .u32)), [.t 34], none⟩,
      ⟨.new, (.q (.bin .mul)), [.t 35, .c (.u32 65536)], none⟩,
      ⟨.new, (.q (.bin .add)), [.t 29, .t 36], none⟩,
      ⟨.new, (.q .mv), [.t 2], none⟩,
      ⟨.new, (.q .mv), [.t 5], none⟩,
      ⟨.new, (.q (.bin .mul)), [.c (.int 4), .t 39], none⟩,
      ⟨.new, (.q (.bin .add)), [.t 40, .c (.int 2)], none⟩,
      ⟨.new, (.q .idxS), [.t 38, .t 41], none⟩,
      ⟨.new, (.q (.cv .u32)), [.t 42], none⟩,
      ⟨.new, (.q (.bin .mul)), [.t 43, .c (.u32 256)], none⟩,
      ⟨.new, (.q (.bin .add)), [.t 37, .t 44], none⟩,
      ⟨.new, (.q .mv), [.t 2], none⟩,
      ⟨.new, (.q .mv), [.t 5], none⟩,
      ⟨.new, (.q (.bin .mul)), [.c (.int 4), .t 47], none⟩,
      ⟨.new, (.q (.bin .add)), [.t 48, .c (.int 3)], none⟩,
      ⟨.new, (.q .idxS), [.t 46, .t 49], none⟩,
      ⟨.new, (.q (.cv .u32)), [.t 50], none⟩,
      ⟨.new, (.q (.bin .add)), [.t 45, .t 51], none⟩,
      ⟨.new, (.e (.bsl 87 .leaf (.u32 0) 1 [0])), [.t 52], none⟩,
      ⟨.new, (.e (.app 87 .leaf 4)), [.t 23, .t 53], none⟩,
      ⟨.var 4, (.q .mv), [.t 54], none⟩]))
    (.reg [⟨.new, (.q .mv), [.t 5], none⟩,
      ⟨.new, (.q (.bin .add)), [.t 23, .c (.int 1)], none⟩,
      ⟨.var 5, (.q .mv), [.t 24], none⟩]))))))
    (.seq (.seq (.reg [⟨.var 6, (.q .mv), [.c (.int 16)], none⟩])
    (.block 2 (.loop (.seq (.seq (.reg [⟨.new, (.q .mv), [.t 6], none⟩,
      ⟨.var 21, (.q (.bin .lss)), [.t 23, .c (.int 64)], none⟩])
    (.cond (.t 21) .skip
    (.exit 2)))
    (.seq (.block 3 (.seq (.draw [⟨.new, (.q .mv), [.t 4], none⟩,
      ⟨.new, (.q .mv), [.t 6], none⟩,
      ⟨.new, (.q (.bin .sub)), [.t 24, .c (.int 15)], none⟩,
      ⟨.new, (.q (.iaS .leaf)), [.t 23, .t 25], none⟩,
      ⟨.new, (.q (.ld .leaf)), [.t 26], none⟩,
      ⟨.new, (.q .mv), [.t 4], none⟩,
      ⟨.new, (.q .mv), [.t 6], none⟩,
      ⟨.new, (.q (.bin .sub)), [.t 29, .c (.int 2)], none⟩,
      ⟨.new, (.q (.iaS .leaf)), [.t 28, .t 30], none⟩,
      ⟨.new, (.q (.ld .leaf)), [.t 31], none⟩,
      ⟨.var 7, (.q .mv), [.t 27], none⟩,
      ⟨.var 8, (.q .mv), [.t 32], none⟩])
    (.draw [⟨.new, (.q .mv), [.t 4], none⟩,
      ⟨.new, (.q .mv), [.t 4], none⟩,
      ⟨.new, (.q .mv), [.t 6], none⟩,
      ⟨.new, (.q (.bin .sub)), [.t 25, .c (.int 16)], none⟩,
      ⟨.new, (.q (.iaS .leaf)), [.t 24, .t 26], none⟩,
      ⟨.new, (.q (.ld .leaf)), [.t 27], none⟩,
      ⟨.new, (.q .mv), [.t 7], none⟩,
      ⟨.new, (.call 80), [.t 29, .c (.u64 7)], none⟩,
      ⟨.new, (.q .mv), [.t 7], none⟩,
      ⟨.new, (.call 80), [.t 31, .c (.u64 18)], none⟩,
      ⟨.new, (.q (.bin .xor)), [.t 30, .t 32], none⟩,
      ⟨.new, (.q .mv), [.t 7], none⟩,
      ⟨.new, (.q (.bin .quo)), [.t 34, .c (.u32 8)], none⟩,
      ⟨.new, (.q (.bin .xor)), [.t 33, .t 35], none⟩,
      ⟨.new, (.q (.bin .add)), [.t 28, .t 36], none⟩,
      ⟨.new, (.q .mv), [.t 4], none⟩,
      ⟨.new, (.q .mv), [.t 6], none⟩,
      ⟨.new, (.q (.bin .sub)), [.t 39, .c (.int 7)], none⟩,
      ⟨.new, (.q (.iaS .leaf)), [.t 38, .t 40], none⟩,
      ⟨.new, (.q (.ld .leaf)), [.t 41], none⟩,
      ⟨.new, (.q (.bin .add)), [.t 37, .t 42], none⟩,
      ⟨.new, (.q .mv), [.t 8], none⟩,
      ⟨.new, (.call 80), [.t 44, .c (.u64 17)], none⟩,
      ⟨.new, (.q .mv), [.t 8], none⟩,
      ⟨.new, (.call 80), [.t 46, .c (.u64 19)], none⟩,
      ⟨.new, (.q (.bin .xor)), [.t 45, .t 47], none⟩,
      ⟨.new, (.q .mv), [.t 8], none⟩,
      ⟨.new, (.q (.bin .quo)), [.t 49, .c (.u32 1024)], none⟩,
      ⟨.new, (.q (.bin .xor)), [.t 48, .t 50], none⟩,
      ⟨.new, (.q (.bin .add)), [.t 43, .t 51], none⟩,
      ⟨.new, (.e (.bsl 87 .leaf (.u32 0) 1 [0])), [.t 52], none⟩,
      ⟨.new, (.e (.app 87 .leaf 4)), [.t 23, .t 53], none⟩,
      ⟨.var 4, (.q .mv), [.t 54], none⟩])))
    (.reg [⟨.new, (.q .mv), [.t 6], none⟩,
      ⟨.new, (.q (.bin .add)), [.t 23, .c (.int 1)], none⟩,
      ⟨.var 6, (.q .mv), [.t 24], none⟩]))))))
    (.seq (.draw [⟨.new, (.q .mv), [.t 0], none⟩,
      ⟨.new, (.q (.iaS .leaf)), [.t 23, .c (.int 0)], none⟩,
      ⟨.new, (.q (.ld .leaf)), [.t 24], none⟩,
      ⟨.new, (.q .mv), [.t 0], none⟩,
      ⟨.new, (.q (.iaS .leaf)), [.t 26, .c (.int 1)], none⟩,
      ⟨.new, (.q (.ld .leaf)), [.t 27], none⟩,
      ⟨.new, (.q .mv), [.t 0], none⟩,
      ⟨.new, (.q (.iaS .leaf)), [.t 29, .c (.int 2)], none⟩,
      ⟨.new, (.q (.ld .leaf)), [.t 30], none⟩,
      ⟨.new, (.q .mv), [.t 0], none⟩,
      ⟨.new, (.q (.iaS .leaf)), [.t 32, .c (.int 3)], none⟩,
      ⟨.new, (.q (.ld .leaf)), [.t 33], none⟩,
      ⟨.new, (.q .mv), [.t 0], none⟩,
      ⟨.new, (.q (.iaS .leaf)), [.t 35, .c (.int 4)], none⟩,
      ⟨.new, (.q (.ld .leaf)), [.t 36], none⟩,
      ⟨.new, (.q .mv), [.t 0], none⟩,
      ⟨.new, (.q (.iaS .leaf)), [.t 38, .c (.int 5)], none⟩,
      ⟨.new, (.q (.ld .leaf)), [.t 39], none⟩,
      ⟨.new, (.q .mv), [.t 0], none⟩,
      ⟨.new, (.q (.iaS .leaf)), [.t 41, .c (.int 6)], none⟩,
      ⟨.new, (.q (.ld .leaf)), [.t 42], none⟩,
      ⟨.new, (.q .mv), [.t 0], none⟩,
      ⟨.new, (.q (.iaS .leaf)), [.t 44, .c (.int 7)], none⟩,
      ⟨.new, (.q (.ld .leaf)), [.t 45], none⟩,
      ⟨.var 9, (.q .mv), [.t 25], none⟩,
      ⟨.var 10, (.q .mv), [.t 28], none⟩,
      ⟨.var 11, (.q .mv), [.t 31], none⟩,
      ⟨.var 12, (.q .mv), [.t 34], none⟩,
      ⟨.var 13, (.q .mv), [.t 37], none⟩,
      ⟨.var 14, (.q .mv), [.t 40], none⟩,
      ⟨.var 15, (.q .mv), [.t 43], none⟩,
      ⟨.var 16, (.q .mv), [.t 46], none⟩])
    (.seq (.seq (.reg [⟨.var 17, (.q .mv), [.c (.int 0)], none⟩])
    (.block 4 (.loop (.seq (.seq (.reg [⟨.new, (.q .mv), [.t 17], none⟩,
      ⟨.var 22, (.q (.bin .lss)), [.t 23, .c (.int 64)], none⟩])
    (.cond (.t 22) .skip
    (.exit 4)))
    (.seq (.block 5 (.seq (.draw [⟨.new, (.q .mv), [.t 16], none⟩,
      ⟨.new, (.q .mv), [.t 13], none⟩,
      ⟨.new, (.call 80), [.t 24, .c (.u64 6)], none⟩,
      ⟨.new, (.q .mv), [.t 13], none⟩,
      ⟨.new, (.call 80), [.t 26, .c (.u64 11)], none⟩,
      ⟨.new, (.q (.bin .xor)), [.t 25, .t 27], none⟩,
      ⟨.new, (.q .mv), [.t 13], none⟩,
      ⟨.new, (.call 80), [.t 29, .c (.u64 25)], none⟩,
      ⟨.new, (.q (.bin .xor)), [.t 28, .t 30], none⟩,
      ⟨.new, (.q (.bin .add)), [.t 23, .t 31], none⟩,
      ⟨.new, (.q .mv), [.t 13], none⟩,
      ⟨.new, (.q .mv), [.t 14], none⟩,
      ⟨.new, (.q (.bin .and)), [.t 33, .t 34], none⟩,
      ⟨.new, (.q .mv), [.t 13], none⟩,
      ⟨.new, (.q (.bin .sub)), [.c (.u32 4294967295), .t 36], none⟩,
      ⟨.new, (.q .mv), [.t 15], none⟩,
      ⟨.new, (.q (.bin .and)), [.t 37, .t 38], none⟩,
      ⟨.new, (.q (.bin .xor)), [.t 35, .t 39], none⟩,
      ⟨.new, (.q (.bin .add)), [.t 32, .t 40], none⟩,
      ⟨.new, (.q .mv), [.t 1], none⟩,
      ⟨.new, (.q .mv), [.t 17], none⟩,
      ⟨.new, (.q (.iaS .leaf)), [.t 42, .t 43], none⟩,
      ⟨.new, (.q (.ld .leaf)), [.t 44], none⟩,
      ⟨.new, (.q (.bin .add)), [.t 41, .t 45], none⟩,
      ⟨.new, (.q .mv), [.t 4], none⟩,
      ⟨.new, (.q .mv), [.t 17], none⟩,
      ⟨.new, (.q (.iaS .leaf)), [.t 47, .t 48], none⟩,
      ⟨.new, (.q (.ld .leaf)), [.t 49], none⟩,
      ⟨.new, (.q (.bin .add)), [.t 46, .t 50], none⟩,
      ⟨.var 18, (.q .mv), [.t 51], none⟩])
    (.seq (.reg [⟨.new, (.q .mv), [.t 9], none⟩,
      ⟨.new, (.call 80), [.t 23, .c (.u64 2)], none⟩,
      ⟨.new, (.q .mv), [.t 9], none⟩,
      ⟨.new, (.call 80), [.t 25, .c (.u64 13)], none⟩,
      ⟨.new, (.q (.bin .xor)), [.t 24, .t 26], none⟩,
      ⟨.new, (.q .mv), [.t 9], none⟩,
      ⟨.new, (.call 80), [.t 28, .c (.u64 22)], none⟩,
      ⟨.new, (.q (.bin .xor)), [.t 27, .t 29], none⟩,
      ⟨.new, (.q .mv), [.t 9], none⟩,
      ⟨.new, (.q .mv), [.t 10], none⟩,
      ⟨.new, (.q (.bin .and)), [.t 31, .t 32], none⟩,
      ⟨.new, (.q .mv), [.t 9], none⟩,
      ⟨.new, (.q .mv), [.t 11], none⟩,
      ⟨.new, (.q (.bin .and)), [.t 34, .t 35], none⟩,
      ⟨.new, (.q (.bin .or)), [.t 33, .t 36], none⟩,
      ⟨.new, (.q .mv), [.t 10], none⟩,
      ⟨.new, (.q .mv), [.t 11], none⟩,
      ⟨.new, (.q (.bin .and)), [.t 38, .t 39], none⟩,
      ⟨.new, (.q (.bin .or)), [.t 37, .t 40], none⟩,
      ⟨.new, (.q (.bin .add)), [.t 30, .t 41], none⟩,
      ⟨.var 19, (.q .mv), [.t 42], none⟩])
    (.seq (.reg [⟨.new, (.q .mv), [.t 15], none⟩,
      ⟨.new, (.q .mv), [.t 14], none⟩,
      ⟨.new, (.q .mv), [.t 13], none⟩,
      ⟨.new, (.q .mv), [.t 12], none⟩,
      ⟨.new, (.q .mv), [.t 18], none⟩,
      ⟨.new, (.q (.bin .add)), [.t 26, .t 27], none⟩,
      ⟨.var 16, (.q .mv), [.t 23], none⟩,
      ⟨.var 15, (.q .mv), [.t 24], none⟩,
      ⟨.var 14, (.q .mv), [.t 25], none⟩,
      ⟨.var 13, (.q .mv), [.t 28], none⟩])
    (.reg [⟨.new, (.q .mv), [.t 11], none⟩,
      ⟨.new, (.q .mv), [.t 10], none⟩,
      ⟨.new, (.q .mv), [.t 9], none⟩,
      ⟨.new, (.q .mv), [.t 18], none⟩,
      ⟨.new, (.q .mv), [.t 19], none⟩,
      ⟨.new, (.q (.bin .add)), [.t 26, .t 27], none⟩,
      ⟨.var 12, (.q .mv), [.t 23], none⟩,
      ⟨.var 11, (.q .mv), [.t 24], none⟩,
      ⟨.var 10, (.q .mv), [.t 25], none⟩,
      ⟨.var 9, (.q .mv), [.t 28], none⟩])))))
    (.reg [⟨.new, (.q .mv), [.t 17], none⟩,
      ⟨.new, (.q (.bin .add)), [.t 23, .c (.int 1)], none⟩,
      ⟨.var 17, (.q .mv), [.t 24], none⟩]))))))
    (.seq (.draw [⟨.new, (.q .mv), [.t 0], none⟩,
      ⟨.new, (.q (.iaS .leaf)), [.t 23, .c (.int 0)], none⟩,
      ⟨.new, (.q (.ld .leaf)), [.t 24], none⟩,
      ⟨.new, (.q .mv), [.t 9], none⟩,
      ⟨.new, (.q (.bin .add)), [.t 25, .t 26], none⟩,
      ⟨.new, (.q .mv), [.t 0], none⟩,
      ⟨.new, (.q (.iaS .leaf)), [.t 28, .c (.int 1)], none⟩,
      ⟨.new, (.q (.ld .leaf)), [.t 29], none⟩,
      ⟨.new, (.q .mv), [.t 10], none⟩,
      ⟨.new, (.q (.bin .add)), [.t 30, .t 31], none⟩,
      ⟨.new, (.q .mv), [.t 0], none⟩,
      ⟨.new, (.q (.iaS .leaf)), [.t 33, .c (.int 2)], none⟩,
      ⟨.new, (.q (.ld .leaf)), [.t 34], none⟩,
      ⟨.new, (.q .mv), [.t 11], none⟩,
      ⟨.new, (.q (.bin .add)), [.t 35, .t 36], none⟩,
      ⟨.new, (.q .mv), [.t 0], none⟩,
      ⟨.new, (.q (.iaS .leaf)), [.t 38, .c (.int 3)], none⟩,
      ⟨.new, (.q (.ld .leaf)), [.t 39], none⟩,
      ⟨.new, (.q .mv), [.t 12], none⟩,
      ⟨.new, (.q (.bin .add)), [.t 40, .t 41], none⟩,
      ⟨.new, (.q .mv), [.t 0], none⟩,
      ⟨.new, (.q (.iaS .leaf)), [.t 43, .c (.int 4)], none⟩,
      ⟨.new, (.q (.ld .leaf)), [.t 44], none⟩,
      ⟨.new, (.q .mv), [.t 13], none⟩,
      ⟨.new, (.q (.bin .add)), [.t 45, .t 46], none⟩,
      ⟨.new, (.q .mv), [.t 0], none⟩,
      ⟨.new, (.q (.iaS .leaf)), [.t 48, .c (.int 5)], none⟩,
      ⟨.new, (.q (.ld .leaf)), [.t 49], none⟩,
      ⟨.new, (.q .mv), [.t 14], none⟩,
      ⟨.new, (.q (.bin .add)), [.t 50, .t 51], none⟩,
      ⟨.new, (.q .mv), [.t 0], none⟩,
      ⟨.new, (.q (.iaS .leaf)), [.t 53, .c (.int 6)], none⟩,
      ⟨.new, (.q (.ld .leaf)), [.t 54], none⟩,
      ⟨.new, (.q .mv), [.t 15], none⟩,
      ⟨.new, (.q (.bin .add)), [.t 55, .t 56], none⟩,
      ⟨.new, (.q .mv), [.t 0], none⟩,
      ⟨.new, (.q (.iaS .leaf)), [.t 58, .c (.int 7)], none⟩,
      ⟨.new, (.q (.ld .leaf)), [.t 59], none⟩,
      ⟨.new, (.q .mv), [.t 16], none⟩,
      ⟨.new, (.q (.bin .add)), [.t 60, .t 61], none⟩,
      ⟨.new, (.e (.bsl 87 .leaf (.u32 0) 8 [0, 1, 2, 3, 4, 5, 6, 7])), [.t 27, .t 32, .t 37, .t 42, .t 47, .t 52, .t 57, .t 62], none⟩,
      ⟨.var 3, (.q .mv), [.t 63], none⟩])
    .ret))))))),
    [.t 3]⟩

/-- trefoil/trefoilref04.prime (0:n, 2:, 3:d, 8:, 14:) -/
def s78 : FnS := ⟨17, [0, 2, 3, 8, 14],
    (.seq (.reg [⟨.var 1, (.q .mv), [.c (.bool false)], none⟩])
    (.seq (.seq (.reg [⟨.var 2, (.q .mv), [.c (.u64 2)], none⟩])
    (.block 0 (.loop (.seq (.seq (.reg [⟨.new, (.q .mv), [.t 2], none⟩,
      ⟨.new, (.q .mv), [.t 2], none⟩,
      ⟨.new, (.q (.bin .mul)), [.t 5, .t 6], none⟩,
      ⟨.new, (.q .mv), [.t 0], none⟩,
      ⟨.var 3, (.q (.bin .leq)), [.t 7, .t 8], none⟩])
    (.cond (.t 3) .skip
    (.exit 0)))
    (.seq (.block 1 (.seq (.reg [⟨.new, (.q .mv), [.t 0], none⟩,
      ⟨.new, (.q .mv), [.t 2], none⟩,
      ⟨.new, (.q (.bin .rem)), [.t 5, .t 6], none⟩,
      ⟨.var 4, (.q (.bin .eql)), [.t 7, .c (.u64 0)], none⟩])
    (.cond (.t 4) (.seq (.reg [⟨.var 1, (.q .mv), [.c (.bool false)], none⟩])
    .ret)
    .skip)))
    (.reg [⟨.new, (.q .mv), [.t 2], none⟩,
      ⟨.new, (.q (.bin .add)), [.t 5, .c (.u64 1)], none⟩,
      ⟨.var 2, (.q .mv), [.t 6], none⟩]))))))
    (.seq (.reg [⟨.new, (.q .mv), [.t 0], none⟩,
      ⟨.new, (.q (.bin .gtr)), [.t 5, .c (.u64 1)], none⟩,
      ⟨.var 1, (.q .mv), [.t 6], none⟩])
    .ret))),
    [.t 1]⟩

/-- trefoil/trefoilref04.cube (0:x, 1:n, 4:, 5:h, 6:l, 7:a, 8:b, 9:c, 10:d, 11:e, 12:i, 13:i, 14:f, 15:i, 51:, 79:, 109:, 118:) -/
def s79 : FnS := ⟨126, [0, 1, 4, 5, 6, 7, 8, 9, 10, 11, 12, 13, 14, 15, 51, 79, 109, 118],
    (.seq (.reg [⟨.var 2, (.q .mv), [.c (.bool false)], none⟩])
    (.seq (.reg [⟨.new, (.q .mv), [.t 0], none⟩,
      ⟨.new, (.q (.bin .shr)), [.t 18, .c (.u64 18)], none⟩,
      ⟨.new, (.q .mv), [.t 0], none⟩,
      ⟨.new, (.q (.bin .and)), [.t 20, .c (.u64 262143)], none⟩,
      ⟨.var 3, (.q .mv), [.t 19], none⟩,
      ⟨.var 4, (.q .mv), [.t 21], none⟩])
    (.seq (.reg [⟨.new, (.q .mv), [.t 3], none⟩,
      ⟨.new, (.q .mv), [.t 3], none⟩,
      ⟨.new, (.q (.bin .mul)), [.t 18, .t 19], none⟩,
      ⟨.new, (.q .mv), [.t 3], none⟩,
      ⟨.new, (.q (.bin .mul)), [.c (.u64 2), .t 21], none⟩,
      ⟨.new, (.q .mv), [.t 4], none⟩,
      ⟨.new, (.q (.bin .mul)), [.t 22, .t 23], none⟩,
      ⟨.new, (.q .mv), [.t 4], none⟩,
      ⟨.new, (.q .mv), [.t 4], none⟩,
      ⟨.new, (.q (.bin .mul)), [.t 25, .t 26], none⟩,
      ⟨.var 5, (.q .mv), [.t 20], none⟩,
      ⟨.var 6, (.q .mv), [.t 24], none⟩,
      ⟨.var 7, (.q .mv), [.t 27], none⟩])
    (.seq (.reg [⟨.var 8, (.e (.alloc 148 (.arr 8 .leaf) (.agg [(.u64 0), (.u64 0), (.u64 0), (.u64 0), (.u64 0), (.u64 0), (.u64 0), (.u64 0)]))), [], none⟩])
    (.seq (.reg [⟨.new, (.q .mv), [.t 7], none⟩,
      ⟨.new, (.q (.bin .and)), [.t 18, .c (.u64 262143)], none⟩,
      ⟨.new, (.q (.iaA 8 .leaf)), [.t 8, .c (.int 0)], none⟩,
      ⟨.none, (.e (.store .leaf)), [.t 20, .t 19], none⟩])
    (.seq (.reg [⟨.new, (.q .mv), [.t 6], none⟩,
      ⟨.new, (.q .mv), [.t 7], none⟩,
      ⟨.new, (.q (.bin .shr)), [.t 19, .c (.u64 18)], none⟩,
      ⟨.new, (.q (.bin .add)), [.t 18, .t 20], none⟩,
      ⟨.var 6, (.q .mv), [.t 21], none⟩])
    (.seq (.reg [⟨.new, (.q .mv), [.t 6], none⟩,
      ⟨.new, (.q (.bin .and)), [.t 18, .c (.u64 262143)], none⟩,
      ⟨.new, (.q (.iaA 8 .leaf)), [.t 8, .c (.int 1)], none⟩,
      ⟨.none, (.e (.store .leaf)), [.t 20, .t 19], none⟩])
    (.seq (.reg [⟨.new, (.q .mv), [.t 5], none⟩,
      ⟨.new, (.q .mv), [.t 6], none⟩,
      ⟨.new, (.q (.bin .shr)), [.t 19, .c (.u64 18)], none⟩,
      ⟨.new, (.q (.bin .add)), [.t 18, .t 20], none⟩,
      ⟨.var 5, (.q .mv), [.t 21], none⟩])
    (.seq (.reg [⟨.new, (.q .mv), [.t 5], none⟩,
      ⟨.new, (.q (.bin .and)), [.t 18, .c (.u64 262143)], none⟩,
      ⟨.new, (.q (.iaA 8 .leaf)), [.t 8, .c (.int 2)], none⟩,
      ⟨.none, (.e (.store .leaf)), [.t 20, .t 19], none⟩])
    (.seq (.reg [⟨.new, (.q .mv), [.t 5], none⟩,
      ⟨.new, (.q (.bin .shr)), [.t 18, .c (.u64 18)], none⟩,
      ⟨.new, (.q (.iaA 8 .leaf)), [.t 8, .c (.int 3)], none⟩,
      ⟨.none, (.e (.store .leaf)), [.t 20, .t 19], none⟩])
    (.seq (.reg [⟨.var 9, (.e (.alloc 148 (.arr 8 .leaf) (.agg [(.u64 0), (.u64 0), (.u64 0), (.u64 0), (.u64 0), (.u64 0), (.u64 0), (.u64 0)]))), [], none⟩])
    (.seq (.seq (.reg [⟨.var 10, (.q .mv), [.c (.int 0)], none⟩])
    (.block 0 (.loop (.seq (.seq (.reg [⟨.new, (.q .mv), [.t 10], none⟩,
      ⟨.var 14, (.q (.bin .lss)), [.t 18, .c (.int 4)], none⟩])
    (.cond (.t 14) .skip
    (.exit 0)))
    (.seq (.block 1 (.seq (.draw [⟨.new, (.q .mv), [.t 10], none⟩,
      ⟨.new, (.q .mv), [.t 10], none⟩,
      ⟨.new, (.q (.iaA 8 .leaf)), [.t 9, .t 19], none⟩,
      ⟨.new, (.q (.ld .leaf)), [.t 20], none⟩,
      ⟨.new, (.q .mv), [.t 10], none⟩,
      ⟨.new, (.q (.iaA 8 .leaf)), [.t 8, .t 22], none⟩,
      ⟨.new, (.q (.ld .leaf)), [.t 23], none⟩,
      ⟨.new, (.q .mv), [.t 4], none⟩,
      ⟨.new, (.q (.bin .mul)), [.t 24, .t 25], none⟩,
      ⟨.new, (.q (.bin .add)), [.t 21, .t 26], none⟩,
      ⟨.new, (.q (.iaA 8 .leaf)), [.t 9, .t 18], none⟩,
      ⟨.none, (.e (.store .leaf)), [.t 28, .t 27], none⟩])
    (.draw [⟨.new, (.q .mv), [.t 10], none⟩,
      ⟨.new, (.q (.bin .add)), [.t 18, .c (.int 1)], none⟩,
      ⟨.new, (.q .mv), [.t 10], none⟩,
      ⟨.new, (.q (.bin .add)), [.t 20, .c (.int 1)], none⟩,
      ⟨.new, (.q (.iaA 8 .leaf)), [.t 9, .t 21], none⟩,
      ⟨.new, (.q (.ld .leaf)), [.t 22], none⟩,
      ⟨.new, (.q .mv), [.t 10], none⟩,
      ⟨.new, (.q (.iaA 8 .leaf)), [.t 8, .t 24], none⟩,
      ⟨.new, (.q (.ld .leaf)), [.t 25], none⟩,
      ⟨.new, (.q .mv), [.t 3], none⟩,
      ⟨.new, (.q (.bin .mul)), [.t 26, .t 27], none⟩,
      ⟨.new, (.q (.bin .add)), [.t 23, .t 28], none⟩,
      ⟨.new, (.q (.iaA 8 .leaf)), [.t 9, .t 19], none⟩,
      ⟨.none, (.e (.store .leaf)), [.t 30, .t 29], none⟩])))
    (.reg [⟨.new, (.q .mv), [.t 10], none⟩,
      ⟨.new, (.q (.bin .add)), [.t 18, .c (.int 1)], none⟩,
      ⟨.var 10, (.q .mv), [.t 19], none⟩]))))))
    (.seq (.seq (.reg [⟨.var 11, (.q .mv), [.c (.int 0)], none⟩])
    (.block 2 (.loop (.seq (.seq (.reg [⟨.new, (.q .mv), [.t 11], none⟩,
      ⟨.var 15, (.q (.bin .lss)), [.t 18, .c (.int 7)], none⟩])
    (.cond (.t 15) .skip
    (.exit 2)))
    (.seq (.block 3 (.seq (.draw [⟨.new, (.q .mv), [.t 11], none⟩,
      ⟨.new, (.q (.bin .add)), [.t 18, .c (.int 1)], none⟩,
      ⟨.new, (.q .mv), [.t 11], none⟩,
      ⟨.new, (.q (.bin .add)), [.t 20, .c (.int 1)], none⟩,
      ⟨.new, (.q (.iaA 8 .leaf)), [.t 9, .t 21], none⟩,
      ⟨.new, (.q (.ld .leaf)), [.t 22], none⟩,
      ⟨.new, (.q .mv), [.t 11], none⟩,
      ⟨.new, (.q (.iaA 8 .leaf)), [.t 9, .t 24], none⟩,
      ⟨.new, (.q (.ld .leaf)), [.t 25], none⟩,
      ⟨.new, (.q (.bin .shr)), [.t 26, .c (.u64 18)], none⟩,
      ⟨.new, (.q (.bin .add)), [.t 23, .t 27], none⟩,
      ⟨.new, (.q (.iaA 8 .leaf)), [.t 9, .t 19], none⟩,
      ⟨.none, (.e (.store .leaf)), [.t 29, .t 28], none⟩])
    (.reg [⟨.new, (.q .mv), [.t 11], none⟩,
      ⟨.new, (.q .mv), [.t 11], none⟩,
      ⟨.new, (.q (.iaA 8 .leaf)), [.t 9, .t 19], none⟩,
      ⟨.new, (.q (.ld .leaf)), [.t 20], none⟩,
      ⟨.new, (.q (.bin .and)), [.t 21, .c (.u64 262143)], none⟩,
      ⟨.new, (.q (.iaA 8 .leaf)), [.t 9, .t 18], none⟩,
      ⟨.none, (.e (.store .leaf)), [.t 23, .t 22], none⟩])))
    (.reg [⟨.new, (.q .mv), [.t 11], none⟩,
      ⟨.new, (.q (.bin .add)), [.t 18, .c (.int 1)], none⟩,
      ⟨.var 11, (.q .mv), [.t 19], none⟩]))))))
    (.seq (.reg [⟨.var 12, (.e (.alloc 148 (.arr 8 .leaf) (.agg [(.u64 0), (.u64 0), (.u64 0), (.u64 0), (.u64 0), (.u64 0), (.u64 0), (.u64 0)]))), [], none⟩])
    (.seq (.reg [⟨.new, (.q .mv), [.t 1], none⟩,
      ⟨.new, (.q (.bin .mul)), [.t 18, .c (.u64 64)], none⟩,
      ⟨.new, (.q (.bin .and)), [.t 19, .c (.u64 262143)], none⟩,
      ⟨.new, (.q (.iaA 8 .leaf)), [.t 12, .c (.int 5)], none⟩,
      ⟨.none, (.e (.store .leaf)), [.t 21, .t 20], none⟩])
    (.seq (.reg [⟨.new, (.q .mv), [.t 1], none⟩,
      ⟨.new, (.q (.bin .mul)), [.t 18, .c (.u64 64)], none⟩,
      ⟨.new, (.q (.bin .shr)), [.t 19, .c (.u64 18)], none⟩,
      ⟨.new, (.q (.iaA 8 .leaf)), [.t 12, .c (.int 6)], none⟩,
      ⟨.none, (.e (.store .leaf)), [.t 21, .t 20], none⟩])
    (.seq (.seq (.reg [⟨.var 13, (.q .mv), [.c (.int 7)], none⟩])
    (.block 4 (.loop (.seq (.seq (.reg [⟨.new, (.q .mv), [.t 13], none⟩,
      ⟨.var 16, (.q (.bin .geq)), [.t 18, .c (.int 0)], none⟩])
    (.cond (.t 16) .skip
    (.exit 4)))
    (.seq (.block 5 (.seq (.draw [⟨.new, (.q .mv), [.t 13], none⟩,
      ⟨.new, (.q (.iaA 8 .leaf)), [.t 9, .t 18], none⟩,
      ⟨.new, (.q (.ld .leaf)), [.t 19], none⟩,
      ⟨.new, (.q .mv), [.t 13], none⟩,
      ⟨.new, (.q (.iaA 8 .leaf)), [.t 12, .t 21], none⟩,
      ⟨.new, (.q (.ld .leaf)), [.t 22], none⟩,
      ⟨.var 17, (.q (.bin .neq)), [.t 20, .t 23], none⟩])
    (.cond (.t 17) (.seq (.draw [⟨.new, (.q .mv), [.t 13], none⟩,
      ⟨.new, (.q (.iaA 8 .leaf)), [.t 9, .t 18], none⟩,
      ⟨.new, (.q (.ld .leaf)), [.t 19], none⟩,
      ⟨.new, (.q .mv), [.t 13], none⟩,
      ⟨.new, (.q (.iaA 8 .leaf)), [.t 12, .t 21], none⟩,
      ⟨.new, (.q (.ld .leaf)), [.t 22], none⟩,
      ⟨.new, (.q (.bin .lss)), [.t 20, .t 23], none⟩,
      ⟨.var 2, (.q .mv), [.t 24], none⟩])
    .ret)
    .skip)))
    (.reg [⟨.new, (.q .mv), [.t 13], none⟩,
      ⟨.new, (.q (.bin .sub)), [.t 18, .c (.int 1)], none⟩,
      ⟨.var 13, (.q .mv), [.t 19], none⟩]))))))
    (.seq (.reg [⟨.var 2, (.q .mv), [.c (.bool true)], none⟩])
    .ret)))))))))))))))))),
    [.t 2]⟩

/-- trefoil/trefoilref04.right (0:x, 1:n, 4:) -/
def s80 : FnS := ⟨13, [0, 1, 4],
    (.seq (.reg [⟨.var 2, (.q .mv), [.c (.u32 0)], none⟩])
    (.seq (.reg [⟨.new, (.q .mv), [.t 0], none⟩,
      ⟨.new, (.q .mv), [.t 1], none⟩,
      ⟨.new, (.q (.bin .shr)), [.t 3, .t 4], none⟩,
      ⟨.new, (.q .mv), [.t 0], none⟩,
      ⟨.new, (.q .mv), [.t 1], none⟩,
      ⟨.new, (.q (.bin .sub)), [.c (.u64 32), .t 7], none⟩,
      ⟨.new, (.q (.bin .shl)), [.t 6, .t 8], none⟩,
      ⟨.new, (.q (.bin .or)), [.t 5, .t 9], none⟩,
      ⟨.var 2, (.q .mv), [.t 10], none⟩])
    .ret)),
    [.t 2]⟩

theorem c29 : cF P G (drP P G) 29 2 s29.vm = some s29 := by kernel_rfl
theorem c32 : cF P G (drP P G) 32 2 s32.vm = some s32 := by kernel_rfl
theorem c46 : cF P G (drP P G) 46 2 s46.vm = some s46 := by kernel_rfl
theorem c49 : cF P G (drP P G) 49 1 s49.vm = some s49 := by kernel_rfl
theorem c50 : cF P G (drP P G) 50 1 s50.vm = some s50 := by kernel_rfl
theorem c65 : cF P G (drP P G) 65 0 s65.vm = some s65 := by kernel_rfl
theorem c66 : cF P G (drP P G) 66 1 s66.vm = some s66 := by kernel_rfl
theorem c67 : cF P G (drP P G) 67 3 s67.vm = some s67 := by kernel_rfl
theorem c78 : cF P G (drP P G) 78 1 s78.vm = some s78 := by kernel_rfl
theorem c79 : cF P G (drP P G) 79 2 s79.vm = some s79 := by kernel_rfl
theorem c80 : cF P G (drP P G) 80 2 s80.vm = some s80 := by kernel_rfl
theorem f80 {K : AV → Heap → Prop} {H : Heap} {x : BitVec 32} {n : Nat} {k : BitVec 64} (h1 : k.toNat = n) (h2 : ((32 : BitVec 64) - k).toNat = 32 - n) (h : K (.u32 (ror x n)) H) : wpF P G 80 [.u32 x, .u64 k] H K := by
  refine wpF_go c80 rfl 3 ?_
  intro ha hb
  simp only [s80]
  (refine gw2 @h1 @h2 ?_; try exact True.intro)
  exact h
theorem g64 {e : List (BitVec 64)} {i : Nat} (he : e.length = 8) (h : i < 8) : (e.map AV.u64)[i]? = some (.u64 (e.getD i 0)) := by
  rw [List.getElem?_map, List.getElem?_eq_getElem (by omega), List.getD_eq_getElem?_getD, List.getElem?_eq_getElem (by omega)]
  rfl
theorem set64 {e : List (BitVec 64)} {i : Nat} {v : BitVec 64} : (e.map AV.u64).set i (.u64 v) = (e.set i v).map .u64 := by rw [List.map_set]
def eB (l : List (BitVec 64)) : Option Blk := some ⟨148, 0, false, .arr 1 (.arr 8 .leaf), .agg [.agg (l.map .u64)]⟩
def J29a (x n : BitVec 64) (a b c : BitVec 64) (H : Heap) (k : Nat) (st : St) : Prop :=
  ∃ (i : Nat) (u14 : AV), st = ⟨[.u64 x, .u64 n, .bool false, .u64 (x >>> 18), .u64 (x &&& 262143), .u64 a, .u64 b, .u64 c, .ptr H.length 0 [0] (.arr 8 .leaf), .ptr (H.length + 1) 0 [0] (.arr 8 .leaf), .int (i : Int), .un, .un, .un, u14, .un, .un, .un],
    H ++ [eB (sqD x), eB (itA (x &&& 262143) (x >>> 18) (sqD x) i)]⟩ ∧ k = 4 - i ∧ i ≤ 4
def J29b (x n : BitVec 64) (a b c : BitVec 64) (e : List (BitVec 64)) (H : Heap) (k : Nat) (st : St) : Prop :=
  ∃ (i : Nat) (u15 : AV), st = ⟨[.u64 x, .u64 n, .bool false, .u64 (x >>> 18), .u64 (x &&& 262143), .u64 a, .u64 b, .u64 c, .ptr H.length 0 [0] (.arr 8 .leaf), .ptr (H.length + 1) 0 [0] (.arr 8 .leaf), .int 4, .int (i : Int), .un, .un, .bool false, u15, .un, .un],
    H ++ [eB (sqD x), eB (itB e i)]⟩ ∧ k = 7 - i ∧ i ≤ 7
def J29c (x n : BitVec 64) (a b c : BitVec 64) (e f : List (BitVec 64)) (H : Heap) (k : Nat) (st : St) : Prop :=
  ∃ (z : Int) (u16 u17 : AV), st = ⟨[.u64 x, .u64 n, .bool false, .u64 (x >>> 18), .u64 (x &&& 262143), .u64 a, .u64 b, .u64 c, .ptr H.length 0 [0] (.arr 8 .leaf), .ptr (H.length + 1) 0 [0] (.arr 8 .leaf), .int 4, .int 7, .ptr (H.length + 2) 0 [0] (.arr 8 .leaf), .int z, .bool false, .bool false, u16, u17],
    H ++ [eB (sqD x), eB e, eB f]⟩ ∧ z = (k : Int) - 1 ∧ k ≤ 8 ∧ cm e f 8 = cm e f k
theorem f79 {K : AV → Heap → Prop} {H : Heap} {x n : BitVec 64} (h : K (.bool (cubeF x n)) H) : wpF P G 79 [.u64 x, .u64 n] H K := by
  refine wpF_go c79 rfl 3 ?_
  intro ha hb
  simp only [s79]
  clear ha hb
  (refine gw0 ?_; try exact True.intro)
  refine wp_inv (J29a x n _ _ _ H) 4 ⟨0, _, rfl, rfl, by omega⟩ ?_
  generalize x >>> 18 * x >>> 18 + (2 * x >>> 18 * (x &&& 262143) + ((x &&& 262143) * (x &&& 262143)) >>> 18) >>> 18 = a
  generalize 2 * x >>> 18 * (x &&& 262143) + ((x &&& 262143) * (x &&& 262143)) >>> 18 = b
  generalize (x &&& 262143) * (x &&& 262143) = c
  unfold cubeF at h
  rintro k st ⟨i, u14, rfl, rfl, hi⟩
  have ld : (sqD x).length = 8 := rfl
  by_cases hil : i < 4
  · have h1 : ((i : Int) < 4) = True := by simp only [eq_iff_iff, iff_true]; omega
    have le := itA_len (l := x &&& 262143) (h := x >>> 18) (d := sqD x) (i := i)
    have hnext : itA (x &&& 262143) (x >>> 18) (sqD x) (i + 1) = stA2 (x &&& 262143) (x >>> 18) (sqD x) (itA (x &&& 262143) (x >>> 18) (sqD x) i) i := rfl
    unfold eB
    generalize itA (x &&& 262143) (x >>> 18) (sqD x) i = e at *
    have gd := g64 (e := sqD x) (i := i) ld (by omega)
    have ge := g64 (e := e) (i := i) le (by omega)
    have hs : (e.map AV.u64).set i (.u64 (e.getD i 0 + (sqD x).getD i 0 * (x &&& 262143))) = (stA1 (x &&& 262143) (x >>> 18) (sqD x) e i).map .u64 := set64
    have l1 : (stA1 (x &&& 262143) (x >>> 18) (sqD x) e i).length = 8 := by unfold stA1; rw [List.length_set, le]
    have g2 := g64 (i := i + 1) l1 (by omega)
    have hs2 : ((stA1 (x &&& 262143) (x >>> 18) (sqD x) e i).map AV.u64).set (i + 1) (.u64 ((stA1 (x &&& 262143) (x >>> 18) (sqD x) e i).getD (i + 1) 0 + (sqD x).getD i 0 * (x >>> 18))) = (stA2 (x &&& 262143) (x >>> 18) (sqD x) e i).map .u64 := set64
    have e1 : (i : Int) + 1 = ((i + 1 : Nat) : Int) := rfl
    generalize stA1 (x &&& 262143) (x >>> 18) (sqD x) e i = e' at *
    generalize stA2 (x &&& 262143) (x >>> 18) (sqD x) e i = e'' at *
    generalize hsq : sqD x = d at *
    (refine gw7 @h1 @gd @ge @hs @g2 @hs2 @e1 ?_; try exact True.intro)
    (repeat (refine And.intro (by omega) ?_))
    exact ⟨4 - (i + 1), by omega, i + 1, _, by rw [hsq, hnext]; rfl, rfl, by omega⟩
  · have h1 : ((i : Int) < 4) = False := by simp only [eq_iff_iff, iff_false]; omega
    have hie : i = 4 := by omega
    subst hie
    have le := itA_len (l := x &&& 262143) (h := x >>> 18) (d := sqD x) (i := 4)
    generalize itA (x &&& 262143) (x >>> 18) (sqD x) 4 = e at *
    (refine gw1 @h1 ?_; try exact True.intro)
    (refine gw0 ?_; try exact True.intro)
    refine wp_inv (J29b x n a b c e H) 7 ⟨0, _, rfl, rfl, by omega⟩ ?_
    rintro k st ⟨i, u15, rfl, rfl, hi⟩
    by_cases hil : i < 7
    · have h1 : ((i : Int) < 7) = True := by simp only [eq_iff_iff, iff_true]; omega
      have le := itB_len (e := e) (i := i)
      have hnext : itB e (i + 1) = stB2 (itB e i) i := rfl
      unfold eB
      generalize itB e i = r at *
      have l0 : r.length = 8 := by omega
      have ge := g64 (e := r) (i := i) l0 (by omega)
      have ge1 := g64 (e := r) (i := i + 1) l0 (by omega)
      have hs : (r.map AV.u64).set (i + 1) (.u64 (r.getD (i + 1) 0 + r.getD i 0 >>> 18)) = (stB1 r i).map .u64 := set64
      have l1 : (stB1 r i).length = 8 := by unfold stB1; rw [List.length_set, l0]
      have g2 := g64 (i := i) l1 (by omega)
      have hs2 : ((stB1 r i).map AV.u64).set i (.u64 ((stB1 r i).getD i 0 &&& 262143)) = (stB2 r i).map .u64 := set64
      have e1 : (i : Int) + 1 = ((i + 1 : Nat) : Int) := rfl
      generalize stB1 r i = e' at *
      generalize stB2 r i = e'' at *
      (refine gw7 @h1 @ge @ge1 @hs @g2 @hs2 @e1 ?_; try exact True.intro)
      (repeat (refine And.intro (by omega) ?_))
      exact ⟨7 - (i + 1), by omega, i + 1, _, by rw [hnext]; rfl, rfl, by omega⟩
    · have h1 : ((i : Int) < 7) = False := by simp only [eq_iff_iff, iff_false]; omega
      have hie : i = 7 := by omega
      subst hie
      have le := itB_len (e := e) (i := 7)
      generalize itB e 7 = r at *
      (refine gw1 @h1 ?_; try exact True.intro)
      unfold eB
      (refine gw0 ?_; try exact True.intro)
      refine wp_inv (J29c x n a b c r (fD n) H) 8 ⟨7, _, _, rfl, rfl, by omega, rfl⟩ ?_
      have lf : (fD n).length = 8 := rfl
      generalize fD n = f at *
      rintro k st ⟨z, u16, u17, rfl, hz, hk, hcm⟩
      unfold eB
      cases k with
      | zero =>
        have h1 : (0 ≤ z) = False := by simp only [eq_iff_iff, iff_false]; omega
        rw [hcm] at h
        (refine gw1 @h1 ?_; try exact True.intro)
        exact h
      | succ i =>
        obtain rfl : z = (i : Int) := by omega
        have h1 : (0 ≤ (i : Int)) = True := by simp only [eq_iff_iff, iff_true]; omega
        have ge := g64 (e := r) (i := i) (by omega) (by omega)
        have gf := g64 (e := f) (i := i) lf (by omega)
        by_cases hne : r.getD i 0 = f.getD i 0
        · have h2 : (r.getD i 0 = f.getD i 0) = True := by simp only [eq_iff_iff, iff_true]; exact hne
          (refine gw4 @h1 @ge @gf @h2 ?_; try exact True.intro)
          (repeat (refine And.intro (by omega) ?_))
          exact ⟨i, by omega, _, _, _, rfl, rfl, by omega, by rw [hcm, cm, if_pos hne]⟩
        · have h2 : (r.getD i 0 = f.getD i 0) = False := by simp only [eq_iff_iff, iff_false]; exact hne
          rw [hcm, cm, if_neg hne] at h
          (refine gw4 @h1 @ge @gf @h2 ?_; try exact True.intro)
          (repeat (refine And.intro (by omega) ?_))
          exact h

/-! which numbers are prime -/
theorem ofNat_le64 {a b : Nat} (ha : a < 2 ^ 64) (hb : b < 2 ^ 64) : (BitVec.ofNat 64 a ≤ BitVec.ofNat 64 b) = (a ≤ b) := by
  rw [BitVec.le_def, BitVec.toNat_ofNat, BitVec.toNat_ofNat, Nat.mod_eq_of_lt ha, Nat.mod_eq_of_lt hb]
theorem ofNat_mul64 (a b : Nat) : BitVec.ofNat 64 a * BitVec.ofNat 64 b = BitVec.ofNat 64 (a * b) := (BitVec.ofNat_mul a b).symm
theorem ofNat_rem64 {a b : Nat} (ha : a < 2 ^ 64) (hb : b < 2 ^ 64) : BitVec.ofNat 64 a % BitVec.ofNat 64 b = BitVec.ofNat 64 (a % b) := by
  apply BitVec.eq_of_toNat_eq
  have h1 : a % b ≤ a := Nat.mod_le _ _
  rw [BitVec.toNat_umod, BitVec.toNat_ofNat, BitVec.toNat_ofNat, BitVec.toNat_ofNat, Nat.mod_eq_of_lt ha, Nat.mod_eq_of_lt hb, Nat.mod_eq_of_lt (show a % b < 2 ^ 64 by omega)]
theorem ofNat_zero64 {a : Nat} (ha : a < 2 ^ 64) : (BitVec.ofNat 64 a = 0) = (a = 0) := by
  rw [← BitVec.toNat_inj, BitVec.toNat_ofNat, Nat.mod_eq_of_lt ha]; rfl
def Ix28 (n : Nat) (H : Heap) (k : Nat) (st : St) : Prop :=
  ∃ (d : Nat) (u3 u4 : AV), st = ⟨[.u64 (BitVec.ofNat 64 n), .bool false, .u64 (BitVec.ofNat 64 d), u3, u4], H⟩ ∧ 2 ≤ d ∧ d ≤ 33 ∧ d + k = 42 ∧ prD n d k = isP n
theorem f78 {K : AV → Heap → Prop} {H : Heap} {n : Nat} (hn : n ≤ 1000) (h : K (.bool (isP n)) H) : wpF P G 78 [.u64 (BitVec.ofNat 64 n)] H K := by
  refine wpF_go c78 rfl 3 ?_
  intro ha hb
  simp only [s78]
  (refine gw0 ?_; try exact True.intro)
  refine wp_inv (Ix28 n H) 40 ⟨2, _, _, rfl, by omega, by omega, by omega, rfl⟩ ?_
  rintro k st ⟨d, u3, u4, rfl, h2, h33, hk, hp⟩
  have hdd : d * d ≤ 33 * 33 := Nat.mul_le_mul h33 h33
  have e1 := ofNat_mul64 d d
  have hr : n % d ≤ n := Nat.mod_le _ _
  have e3 := ofNat_rem64 (a := n) (b := d) (by omega) (by omega)
  have e4 : BitVec.ofNat 64 d + 1 = BitVec.ofNat 64 (d + 1) := (BitVec.ofNat_add d 1).symm
  have hd0 : ¬ BitVec.ofNat 64 d = 0 := by rw [ofNat_zero64 (by omega)]; omega
  cases k with
  | zero => omega
  | succ k =>
    rw [prD] at hp
    by_cases hle : d * d ≤ n
    · rw [if_pos hle] at hp
      have e2 : (BitVec.ofNat 64 (d * d) ≤ BitVec.ofNat 64 n) = True := by rw [ofNat_le64 (by omega) (by omega)]; simp only [eq_iff_iff, iff_true]; exact hle
      by_cases h0 : n % d = 0
      · rw [if_pos h0] at hp
        have e5 : (BitVec.ofNat 64 (n % d) = 0) = True := by rw [ofNat_zero64 (by omega)]; simp only [eq_iff_iff, iff_true]; exact h0
        rw [← hp] at h
        (refine gw4 @e1 @e2 @e3 @e5 ?_; try exact True.intro)
        exact ⟨hd0, h⟩
      · rw [if_neg h0] at hp
        have e5 : (BitVec.ofNat 64 (n % d) = 0) = False := by rw [ofNat_zero64 (by omega)]; simp only [eq_iff_iff, iff_false]; exact h0
        have hd32 : d ≤ 32 := by
          rcases Nat.lt_or_ge 32 d with hg | hg
          · have : 33 * 33 ≤ d * d := Nat.mul_le_mul hg hg
            omega
          · exact hg
        (refine gw5 @e1 @e2 @e3 @e5 @e4 ?_; try exact True.intro)
        exact ⟨hd0, k, by omega, d + 1, _, _, rfl, by omega, by omega, by omega, hp⟩
    · rw [if_neg hle] at hp
      have e2 : (BitVec.ofNat 64 (d * d) ≤ BitVec.ofNat 64 n) = False := by rw [ofNat_le64 (by omega) (by omega)]; simp only [eq_iff_iff, iff_false]; exact hle
      rw [← hp] at h
      (refine gw2 @e1 @e2 ?_; try exact True.intro)
      have e6 : (1 < BitVec.ofNat 64 n) = (1 < n) := by
        rw [BitVec.lt_def, BitVec.toNat_ofNat, Nat.mod_eq_of_lt (by omega)]; rfl
      simp only [e6]
      exact h

/-! the constants -/
def u4B (t : Nat) (l : List AV) : Option Blk := some ⟨87, t, true, .arr t .leaf, .agg l⟩
def rk (c : Nat) : List AV := (rnds.take c).map .u32
theorem rk_succ {c : Nat} (h : c < 64) {w : BitVec 32} (hw : w = rnds.getD c 0) : rk c ++ [.u32 w] = rk (c + 1) := by
  unfold rk
  have hl : c < rnds.length := h
  rw [hw, List.getD_eq_getElem?_getD, List.getElem?_eq_getElem hl, Option.getD_some, List.take_succ_eq_append_getElem hl, List.map_append]
  rfl
theorem rk_len {c : Nat} (h : c ≤ 64) : (rk c).length = c := by
  unfold rk
  rw [List.length_map, List.length_take]
  exact Nat.min_eq_left h
def Ix21 (H : Heap) (k : Nat) (st : St) : Prop :=
  ∃ (p : Nat) (out u3 u4 u5 u6 u7 u8 : AV) (L : Heap), st = ⟨[.nils, out, .u64 (BitVec.ofNat 64 p), u3, u4, u5, u6, u7, u8], H ++ L⟩ ∧ k = 312 - p ∧ 2 ≤ p ∧ p ≤ 312 ∧
    ((pc p = 0 ∧ out = .nils ∧ L = []) ∨ (0 < pc p ∧ out = .own (H.length + 1) (pc p) [] 0 (pc p) .leaf ∧ ∃ g J l, L = g :: u4B (pc p) l :: J ∧ l = rk (pc p)))
def I21b (p : Nat) (out u6 : AV) (G : Heap) (k : Nat) (st : St) : Prop :=
  ∃ (z : Int) (x : BitVec 64) (u7 u8 : AV), st = ⟨[.nils, out, .u64 (BitVec.ofNat 64 p), .u64 x, .int z, .bool true, u6, u7, u8], G⟩ ∧ z = (k : Int) - 1 ∧ k ≤ 36 ∧ gr (BitVec.ofNat 64 p) x k = gr (BitVec.ofNat 64 p) 0 36
theorem f65 {K : AV → Heap → Prop} {H : Heap} (h : K (.ro .leaf (rnds.map .u32)) H) : wpF P G 65 [] H K := by
  refine wpF_go c65 rfl 3 ?_
  intro ha hb
  simp only [s65]
  clear ha hb
  (refine gw0 ?_; try exact True.intro)
  refine wp_inv (Ix21 H) 310 ⟨2, _, _, _, _, _, _, _, [], by rw [List.append_nil]; rfl, rfl, by omega, by omega, .inl ⟨pc_0, rfl, rfl⟩⟩ ?_
  rintro k st ⟨p, out, u3, u4, u5, u6, u7, u8, L, rfl, rfl, hp2, hp3, hc⟩
  by_cases hp : p < 312
  · have hp64 := (ok_at hp2 hp).2
    have h1 : ((pc p : Int) < 64) = True := by simp only [eq_iff_iff, iff_true]; omega
    have h10 : ((0 : Int) < 64) = True := by simp
    have e4 : BitVec.ofNat 64 p + 1 = BitVec.ofNat 64 (p + 1) := (BitVec.ofNat_add p 1).symm
    cases hpr : isP p with
    | false =>
      have hno := pc_no hp2 hp hpr
      rcases hc with ⟨hc0, rfl, rfl⟩ | ⟨hc0, rfl, g, J, l, rfl, hl⟩
      · (refine gw1 @h10 ?_; try exact True.intro)
        refine f78 (by omega) ?_
        rw [hpr]
        (refine gw1 @e4 ?_; try exact True.intro)
        exact ⟨312 - (p + 1), by omega, p + 1, _, _, _, _, _, _, _, [], by rw [List.append_nil], rfl, by omega, by omega, .inl ⟨by rw [hno]; exact hc0, rfl, rfl⟩⟩
      · (refine gw1 @h1 ?_; try exact True.intro)
        refine f78 (by omega) ?_
        rw [hpr]
        (refine gw1 @e4 ?_; try exact True.intro)
        exact ⟨312 - (p + 1), by omega, p + 1, _, _, _, _, _, _, _, _, rfl, rfl, by omega, by omega, .inr ⟨by rw [hno]; exact hc0, by rw [hno], _, _, _, by rw [hno], by rw [hno]; exact hl⟩⟩
    | true =>
      have hyes := pc_yes hp2 hp hpr
      rcases hc with ⟨hc0, rfl, rfl⟩ | ⟨hc0, rfl, g, J, l, rfl, hl⟩
      · (refine gw1 @h10 ?_; try exact True.intro)
        refine f78 (by omega) ?_
        rw [hpr]
        (refine gw0 ?_; try exact True.intro)
        refine wp_inv (I21b p .nils (.bool false) H) 36 ⟨35, 0, _, _, rfl, rfl, by omega, rfl⟩ ?_
        rintro k st ⟨z, x, u7, u8, rfl, hz, hk, hg⟩
        cases k with
        | zero =>
          have h5 : (0 ≤ z) = False := by simp only [eq_iff_iff, iff_false]; omega
          rw [gr] at hg
          have hx : x.setWidth 32 = rnds.getD (pc p) 0 := by rw [hg]; exact hyes.1
          (refine gw2 @h5 @e4 ?_; try exact True.intro)
          exact ⟨312 - (p + 1), by omega, p + 1, _, _, _, _, _, _, _, _, rfl, rfl, by omega, by omega, .inr ⟨by omega, by rw [hyes.2, hc0], _, [], [.u32 (x.setWidth 32)], by rw [hyes.2, hc0]; rfl, by rw [hyes.2, hc0, hx, hc0]; rfl⟩⟩
        | succ i =>
          obtain rfl : z = (i : Int) := by omega
          have h5 : (0 ≤ (i : Int)) = True := by simp only [eq_iff_iff, iff_true]; omega
          have e5 : (BitVec.ofInt 64 (i : Int)).toNat = i := ofInt64_nat (by omega)
          have e6 : (i : Int) - 1 = ((i : Nat) : Int) - 1 := rfl
          rw [gr] at hg
          (refine gw2 @h5 @e5 ?_; try exact True.intro)
          refine f79 ?_
          (refine gw0 ?_; try exact True.intro)
          refine ⟨fun hcf => ?_, fun hcf => ?_⟩
          · rw [if_pos hcf] at hg
            (refine gw1 @e5 ?_; try exact True.intro)
            (repeat (refine And.intro (by omega) ?_))
            exact ⟨i, by omega, _, _, _, _, rfl, rfl, by omega, hg⟩
          · rw [if_neg (by rw [hcf]; decide)] at hg
            (refine gw0 ?_; try exact True.intro)
            (repeat (refine And.intro (by omega) ?_))
            exact ⟨i, by omega, _, _, _, _, rfl, rfl, by omega, hg⟩
      · (refine gw1 @h1 ?_; try exact True.intro)
        refine f78 (by omega) ?_
        rw [hpr]
        (refine gw0 ?_; try exact True.intro)
        refine wp_inv (I21b p (.own (H.length + 1) (pc p) [] 0 (pc p) .leaf) (.bool false) (H ++ g :: u4B (pc p) l :: J)) 36 ⟨35, 0, _, _, rfl, rfl, by omega, rfl⟩ ?_
        rintro k st ⟨z, x, u7, u8, rfl, hz, hk, hg⟩
        cases k with
        | zero =>
          have h5 : (0 ≤ z) = False := by simp only [eq_iff_iff, iff_false]; omega
          rw [gr] at hg
          have hx : x.setWidth 32 = rnds.getD (pc p) 0 := by rw [hg]; exact hyes.1
          unfold u4B
          (refine gw2 @h5 @e4 ?_; try exact True.intro)
          (repeat (refine And.intro (by omega) ?_))
          exact ⟨312 - (p + 1), by omega, p + 1, _, _, _, _, _, _, _, _, rfl, rfl, by omega, by omega, .inr ⟨by omega, by rw [hyes.2], _, _, _, by rw [hyes.2]; rfl, by rw [hyes.2, hl]; exact rk_succ hp64 hx⟩⟩
        | succ i =>
          obtain rfl : z = (i : Int) := by omega
          have h5 : (0 ≤ (i : Int)) = True := by simp only [eq_iff_iff, iff_true]; omega
          have e5 : (BitVec.ofInt 64 (i : Int)).toNat = i := ofInt64_nat (by omega)
          have e6 : (i : Int) - 1 = ((i : Nat) : Int) - 1 := rfl
          rw [gr] at hg
          (refine gw2 @h5 @e5 ?_; try exact True.intro)
          refine f79 ?_
          (refine gw0 ?_; try exact True.intro)
          refine ⟨fun hcf => ?_, fun hcf => ?_⟩
          · rw [if_pos hcf] at hg
            (refine gw1 @e5 ?_; try exact True.intro)
            (repeat (refine And.intro (by omega) ?_))
            exact ⟨i, by omega, _, _, _, _, rfl, rfl, by omega, hg⟩
          · rw [if_neg (by rw [hcf]; decide)] at hg
            (refine gw0 ?_; try exact True.intro)
            (repeat (refine And.intro (by omega) ?_))
            exact ⟨i, by omega, _, _, _, _, rfl, rfl, by omega, hg⟩
  · have hpe : p = 312 := by omega
    subst hpe
    rcases hc with ⟨hc0, rfl, rfl⟩ | ⟨hc0, rfl, g, J, l, rfl, hl⟩
    · rw [pc_end] at hc0; omega
    · have hall : rk (pc 312) = rnds.map .u32 := by rw [pc_end]; unfold rk; rw [List.take_of_length_le (by decide)]
      rw [hall] at hl
      rw [pc_end]
      unfold u4B
      have htk : List.take 64 l = rnds.map .u32 := by rw [hl]; exact List.take_of_length_le (by decide)
      rw [hl] at *
      (refine gw1 @htk ?_; try exact True.intro)
      exact h
def wL (s : List (BitVec 8)) (t : Nat) : List AV := (List.range t).map fun k => .u32 (sW s k)
theorem wL_len {s : List (BitVec 8)} {t : Nat} : (wL s t).length = t := by simp [wL]
theorem wL_at {s : List (BitVec 8)} {t k : Nat} (h : k < t) : (wL s t)[k]? = some (.u32 (sW s k)) := by
  unfold wL
  rw [List.getElem?_map, List.getElem?_range h]; rfl
theorem wL_succ {s : List (BitVec 8)} {t : Nat} {w : BitVec 32} (hw : w = sW s t) : wL s t ++ [.u32 w] = wL s (t + 1) := by
  rw [hw]; unfold wL; rw [List.range_succ, List.map_append]; rfl
theorem udiv8 (x : BitVec 32) : x / (8 : BitVec 32) = x >>> 3 := by
  apply BitVec.eq_of_toNat_eq
  rw [BitVec.toNat_udiv, BitVec.toNat_ushiftRight, Nat.shiftRight_eq_div_pow]; rfl
theorem udiv1024 (x : BitVec 32) : x / (1024 : BitVec 32) = x >>> 10 := by
  apply BitVec.eq_of_toNat_eq
  rw [BitVec.toNat_udiv, BitVec.toNat_ushiftRight, Nat.shiftRight_eq_div_pow]; rfl
def stL (v : S8) : List AV := v.l.map .u32
def I23a (v : S8) (s : List (BitVec 8)) (H : Heap) (k : Nat) (st : St) : Prop :=
  ∃ (t : Nat) (w u20 : AV) (L : Heap), st = ⟨[.ro .leaf (stL v), .ro .leaf (rnds.map .u32), .str s, .nils, w, .int (t : Int), .un, .un, .un, .un, .un, .un, .un, .un, .un, .un, .un, .un, .un, .un, u20, .un, .un], H ++ L⟩ ∧ k = 16 - t ∧ t ≤ 16 ∧
    ((t = 0 ∧ w = .nils ∧ L = []) ∨ (0 < t ∧ w = .own (H.length + 1) t [] 0 t .leaf ∧ ∃ g J l, L = g :: u4B t l :: J ∧ l = wL s t))
def I23b (v : S8) (s : List (BitVec 8)) (H : Heap) (g : Option Blk) (k : Nat) (st : St) : Prop :=
  ∃ (i : Nat) (u7 u8 u21 : AV) (J : Heap) (l : List AV), st = ⟨[.ro .leaf (stL v), .ro .leaf (rnds.map .u32), .str s, .nils, .own (H.length + 1) (16 + i) [] 0 (16 + i) .leaf, .int 16, .int ((16 + i : Nat) : Int), u7, u8, .un, .un, .un, .un, .un, .un, .un, .un, .un, .un, .un, .bool false, u21, .un], H ++ g :: u4B (16 + i) l :: J⟩ ∧ k = 48 - i ∧ i ≤ 48 ∧ l = wL s (16 + i)
def I23c (v : S8) (s : List (BitVec 8)) (H : Heap) (G' : List (Option Blk)) (u7 u8 : AV) (k : Nat) (st : St) : Prop :=
  ∃ (i : Nat) (r : S8) (u18 u19 u22 : AV), st = ⟨[.ro .leaf [.u32 v.a, .u32 v.b, .u32 v.c, .u32 v.d, .u32 v.e, .u32 v.f, .u32 v.g, .u32 v.h], .ro .leaf (rnds.map .u32), .str s, .nils, .own (H.length + 1) 64 [] 0 64 .leaf, .int 16, .int 64, u7, u8, .u32 r.a, .u32 r.b, .u32 r.c, .u32 r.d, .u32 r.e, .u32 r.f, .u32 r.g, .u32 r.h, .int (i : Int), u18, u19, .bool false, .bool false, u22], H ++ G'⟩ ∧ k = 64 - i ∧ i ≤ 64 ∧ r = rds s v i
theorem f67 {K : AV → Heap → Prop} {H : Heap} {v : S8} {s : List (BitVec 8)} (hs : s.length = 64) (h : K (.ro .leaf (stL (comp v s))) H) : wpF P G 67 [.ro .leaf (stL v), .ro .leaf (rnds.map .u32), .str s] H K := by
  refine wpF_go c67 rfl 3 ?_
  intro ha hb
  simp only [s67]
  clear ha hb
  (refine gw0 ?_; try exact True.intro)
  refine wp_inv (I23a v s H) 16 ⟨0, _, _, [], by rw [List.append_nil]; rfl, rfl, by omega, .inl ⟨rfl, rfl, rfl⟩⟩ ?_
  rintro k st ⟨t, w, u20, L, rfl, rfl, ht, hc⟩
  by_cases htl : t < 16
  · have h1 : ((t : Int) < 16) = True := by simp only [eq_iff_iff, iff_true]; omega
    have e4 : 4 * (t : Int) = ((4 * t : Nat) : Int) := by omega
    have e5 : ((4 * t : Nat) : Int) + 1 = ((4 * t + 1 : Nat) : Int) := by omega
    have e6 : ((4 * t : Nat) : Int) + 2 = ((4 * t + 2 : Nat) : Int) := by omega
    have e7 : ((4 * t : Nat) : Int) + 3 = ((4 * t + 3 : Nat) : Int) := by omega
    have hw : (s.getD (4 * t) 0).setWidth 32 * 16777216 + (s.getD (4 * t + 1) 0).setWidth 32 * 65536 + (s.getD (4 * t + 2) 0).setWidth 32 * 256 + (s.getD (4 * t + 3) 0).setWidth 32 = sW s t := by
      rw [sW_lo htl]
      exact be4_eq _ _ _ _
    rcases hc with ⟨ht0, rfl, rfl⟩ | ⟨ht0, rfl, g, J, l, rfl, hl⟩
    · (refine gw7 @h1 @e4 @e5 @e6 @e7 @hs @hw ?_; try exact True.intro)
      (repeat (refine And.intro (by omega) ?_))
      subst ht0
      exact ⟨15, by omega, 1, _, _, _, rfl, rfl, by omega, .inr ⟨by omega, rfl, _, [], [.u32 (sW s 0)], rfl, rfl⟩⟩
    · unfold u4B
      (refine gw7 @h1 @e4 @e5 @e6 @e7 @hs @hw ?_; try exact True.intro)
      (repeat (refine And.intro (by omega) ?_))
      exact ⟨16 - (t + 1), by omega, t + 1, _, _, _, rfl, rfl, by omega, .inr ⟨by omega, rfl, _, _, _, rfl, by rw [hl]; exact wL_succ rfl⟩⟩
  · have ht16 : t = 16 := by omega
    subst ht16
    have h1 : ((16 : Int) < 16) = False := by simp
    rcases hc with ⟨ht0, rfl, rfl⟩ | ⟨ht0, rfl, g, J, l, rfl, hl⟩
    · omega
    (refine gw1 @h1 ?_; try exact True.intro)
    (refine gw0 ?_; try exact True.intro)
    refine wp_inv (I23b v s H g) 48 ⟨0, _, _, _, J, l, rfl, rfl, by omega, hl⟩ ?_
    rintro k st ⟨i, u7, u8, u21, J, l, rfl, rfl, hi, hl⟩
    have ll : l.length = 16 + i := by rw [hl, wL_len]
    by_cases hil : i < 48
    · have h1 : (((16 + i : Nat) : Int) < 64) = True := by simp only [eq_iff_iff, iff_true]; omega
      have e1 : ((16 + i : Nat) : Int) - 15 = ((i + 1 : Nat) : Int) := by omega
      have e2 : ((16 + i : Nat) : Int) - 2 = ((i + 14 : Nat) : Int) := by omega
      have e3 : ((16 + i : Nat) : Int) - 16 = ((i : Nat) : Int) := by omega
      have e4 : ((16 + i : Nat) : Int) - 7 = ((i + 9 : Nat) : Int) := by omega
      have g1 : l[i + 1]? = some (.u32 (sW s (i + 1))) := by rw [hl]; exact wL_at (by omega)
      have g2 : l[i + 14]? = some (.u32 (sW s (i + 14))) := by rw [hl]; exact wL_at (by omega)
      have g3 : l[i]? = some (.u32 (sW s i)) := by rw [hl]; exact wL_at (by omega)
      have g4 : l[i + 9]? = some (.u32 (sW s (i + 9))) := by rw [hl]; exact wL_at (by omega)
      have hw := sW_hi (s := s) hil
      unfold sg0 sg1 at hw
      rw [← udiv8, ← udiv1024] at hw
      unfold u4B
      (refine gw7 @h1 @e1 @e2 @e3 @g1 @g2 @g3 ?_; try exact True.intro)
      (repeat (refine And.intro (by omega) ?_))
      refine drawn _ (f80 (n := 7) (by decide) (by decide) ⟨rfl, rfl⟩) ?_
      (refine gw0 ?_; try exact True.intro)
      refine drawn _ (f80 (n := 18) (by decide) (by decide) ⟨rfl, rfl⟩) ?_
      (refine gw2 @e4 @g4 ?_; try exact True.intro)
      refine ⟨by decide, ?_⟩
      (repeat (refine And.intro (by omega) ?_))
      refine drawn _ (f80 (n := 17) (by decide) (by decide) ⟨rfl, rfl⟩) ?_
      (refine gw0 ?_; try exact True.intro)
      refine drawn _ (f80 (n := 19) (by decide) (by decide) ⟨rfl, rfl⟩) ?_
      (refine gw0 ?_; try exact True.intro)
      refine ⟨by decide, ?_⟩
      (repeat (refine And.intro (by omega) ?_))
      rw [← hw]
      exact ⟨48 - (i + 1), by omega, i + 1, _, _, _, _, _, rfl, rfl, by omega, by rw [hl]; exact wL_succ rfl⟩
    · have h1 : (((16 + i : Nat) : Int) < 64) = False := by simp only [eq_iff_iff, iff_false]; omega
      have hie : i = 48 := by omega
      subst hie
      have hsl : stL v = [.u32 v.a, .u32 v.b, .u32 v.c, .u32 v.d, .u32 v.e, .u32 v.f, .u32 v.g, .u32 v.h] := rfl
      unfold u4B
      rw [hsl]
      (refine gw1 @h1 ?_; try exact True.intro)
      (refine gw0 ?_; try exact True.intro)
      have gl : ∀ i, i < 64 → l[i]? = some (.u32 (sW s i)) := fun i hi => by rw [hl]; exact wL_at hi
      refine wp_inv (I23c v s H (g :: some ⟨87, 64, true, .arr 64 .leaf, .agg l⟩ :: J) u7 u8) 64 ⟨0, v, _, _, _, rfl, rfl, by omega, rfl⟩ ?_
      rintro k st ⟨i, r, u18, u19, u22, rfl, rfl, hi, hr⟩
      by_cases hil : i < 64
      · have h1 : ((i : Int) < 64) = True := by simp only [eq_iff_iff, iff_true]; omega
        have g1 := gl i hil
        have g2 : (rnds.map AV.u32).getD i .un = .u32 (rnds.getD i 0) := ld_u32 (by show i < 64; exact hil)
        have lr : (rnds.map AV.u32).length = 64 := rfl
        have hnx : rds s v (i + 1) = rnd (rnds.getD i 0) (sW s i) r := by rw [hr]; rfl
        generalize rnds.getD i 0 = rki at *
        generalize sW s i = wi at *
        have ht : r.h + (ror r.e 6 ^^^ ror r.e 11 ^^^ ror r.e 25) + (r.e &&& r.f ^^^ (4294967295 - r.e) &&& r.g) + rki + wi = rt rki wi r := by rw [not_sub]; rfl
        have hu : (ror r.a 2 ^^^ ror r.a 13 ^^^ ror r.a 22) + (r.a &&& r.b ||| r.a &&& r.c ||| r.b &&& r.c) = ru r := by rw [maj_or]; rfl
        (refine gw1 @h1 ?_; try exact True.intro)
        refine drawn _ (f80 (n := 6) (by decide) (by decide) ⟨rfl, rfl⟩) ?_
        (refine gw0 ?_; try exact True.intro)
        refine drawn _ (f80 (n := 11) (by decide) (by decide) ⟨rfl, rfl⟩) ?_
        (refine gw0 ?_; try exact True.intro)
        refine drawn _ (f80 (n := 25) (by decide) (by decide) ⟨rfl, rfl⟩) ?_
        (refine gw4 @g1 @g2 @lr @ht ?_; try exact True.intro)
        (repeat (refine And.intro (by omega) ?_))
        refine f80 (n := 2) (by decide) (by decide) ?_
        (refine gw0 ?_; try exact True.intro)
        refine f80 (n := 13) (by decide) (by decide) ?_
        (refine gw0 ?_; try exact True.intro)
        refine f80 (n := 22) (by decide) (by decide) ?_
        (refine gw1 @hu ?_; try exact True.intro)
        (repeat (refine And.intro (by omega) ?_))
        exact ⟨64 - (i + 1), by omega, i + 1, rnd rki wi r, _, _, _, rfl, rfl, by omega, by rw [hnx]⟩
      · have h1 : ((i : Int) < 64) = False := by simp only [eq_iff_iff, iff_false]; omega
        have hie : i = 64 := by omega
        subst hie
        (refine gw1 @h1 ?_; try exact True.intro)
        have he : stL (comp v s) = [.u32 (v.a + r.a), .u32 (v.b + r.b), .u32 (v.c + r.c), .u32 (v.d + r.d), .u32 (v.e + r.e), .u32 (v.f + r.f), .u32 (v.g + r.g), .u32 (v.h + r.h)] := by
          unfold comp S8.plus stL S8.l
          rw [← hr]
          simp only [List.map_cons, List.map_nil, BitVec.add_comm]
        rw [← he]
        exact h
def zs (t : Nat) : List (BitVec 8) := List.replicate t 0
theorem zs_len {t : Nat} : (zs t).length = t := List.length_replicate
theorem zs_snoc {s : List (BitVec 8)} {t : Nat} : (s ++ 128 :: zs t) ++ [0] = s ++ 128 :: zs (t + 1) := by
  unfold zs
  rw [List.append_assoc, List.cons_append, List.replicate_succ']
theorem len8_snoc {n j : Nat} (hj : j < 8) : (len8 n).take j ++ [((BitVec.ofNat 64 n * 8) >>> (8 * (7 - j))).setWidth 8] = (len8 n).take (j + 1) := by
  unfold len8
  rw [List.take_add_one, List.getElem?_map, List.getElem?_range hj]
  rfl
theorem tm64 {n m : Nat} (h : n % 64 = m) : ((n : Nat) : Int).tmod 64 = (m : Int) := by rw [← h]; rfl
theorem sh_byte {n k : Nat} (hn : n ≤ 1000000000) (hk : k < 8) : ∃ X : Nat, X ≤ 8 * n ∧ (8 * (n : Int)).fdiv (2 ^ min (BitVec.ofInt 64 (8 * (k : Int))).toNat 64) = (X : Int) ∧ BitVec.ofInt 8 (X : Int) = ((BitVec.ofNat 64 n * 8) >>> (8 * k)).setWidth 8 := by
  refine ⟨8 * n / 2 ^ (8 * k), Nat.div_le_self _ _, ?_, ?_⟩
  · have e : (BitVec.ofInt 64 (8 * (k : Int))).toNat = 8 * k := by
      rw [show (8 * (k : Int)) = ((8 * k : Nat) : Int) by omega, BitVec.ofInt_natCast, BitVec.toNat_ofNat]
      omega
    rw [e, Nat.min_eq_left (by omega), Int.fdiv_eq_ediv_of_nonneg _ (Int.le_of_lt (Int.pow_pos (by decide)))]
    simp
  · rw [BitVec.ofInt_natCast]
    apply BitVec.eq_of_toNat_eq
    rw [BitVec.toNat_ofNat, BitVec.toNat_setWidth, BitVec.toNat_ushiftRight, BitVec.toNat_mul, BitVec.toNat_ofNat, Nat.shiftRight_eq_div_pow]
    rw [show n % 2 ^ 64 * BitVec.toNat (8 : BitVec 64) % 2 ^ 64 = 8 * n by
      rw [show BitVec.toNat (8 : BitVec 64) = 8 from rfl]; omega]
def I22a (s : List (BitVec 8)) (H : Heap) (k : Nat) (st : St) : Prop :=
  ∃ (t : Nat) (u6 : AV), st = ⟨[.str s, .str [], .int (s.length : Int), .str (s ++ 128 :: zs t), .un, u6, .un], H⟩ ∧ k = zc s.length - t ∧ t ≤ zc s.length
def I22b (s : List (BitVec 8)) (w : Nat → List (BitVec 8)) (H : Heap) (k : Nat) (st : St) : Prop :=
  ∃ (z : Int) (u7 : AV) (J : Heap), st = ⟨[.str s, .str [], .int (s.length : Int), .str (w k), .int z, .bool false, u7], H ++ J⟩ ∧ z = (k : Int) - 1 ∧ k ≤ 8
theorem f66 {K : AV → Heap → Prop} {H : Heap} {s : List (BitVec 8)} (hle : s.length ≤ 1000000000) (h : K (.str (pad s)) H) : wpF P G 66 [.str s] H K := by
  refine wpF_go c66 rfl 3 ?_
  intro ha hb
  simp only [s66]
  clear ha hb
  have hz : zc s.length ≤ 63 := by unfold zc; omega
  (refine gw0 ?_; try exact True.intro)
  (repeat (refine And.intro (by omega) ?_))
  refine wp_inv (I22a s H) (zc s.length) ⟨0, _, rfl, rfl, by omega⟩ ?_
  rintro k st ⟨t, u6, rfl, rfl, ht⟩
  by_cases htl : t < zc s.length
  · have e1 : ∃ m : Nat, m < 64 ∧ m ≠ 56 ∧ ((s.length + (t + 1) : Nat) : Int).tmod 64 = (m : Int) := by
      refine ⟨(s.length + (t + 1)) % 64, by omega, ?_, rfl⟩
      unfold zc at htl
      omega
    obtain ⟨m, hm, hm', e1⟩ := e1
    have e2 : ((m : Int) = 56) = False := by simp only [eq_iff_iff, iff_false]; omega
    (refine gw4 @e1 @e2 @zs_len @zs_snoc ?_; try exact True.intro)
    (repeat (refine And.intro (by omega) ?_))
    exact ⟨zc s.length - (t + 1), by omega, t + 1, _, rfl, rfl, by omega⟩
  · have hte : t = zc s.length := by omega
    have e1 : ((s.length + (zc s.length + 1) : Nat) : Int).tmod 64 = 56 := tm64 (m := 56) (by unfold zc; omega)
    have hw : pad s = s ++ 128 :: (zs (zc s.length) ++ (len8 s.length).take 8) := by
      rw [List.take_of_length_le (by rw [len8_len]; omega)]; rfl
    have h0 : s ++ 128 :: zs (zc s.length) = s ++ 128 :: (zs (zc s.length) ++ (len8 s.length).take (8 - 8)) := by simp
    have hst : ∀ k, k + 1 ≤ 8 → (s ++ 128 :: (zs (zc s.length) ++ (len8 s.length).take (8 - (k + 1)))) ++ [((BitVec.ofNat 64 s.length * 8) >>> (8 * k)).setWidth 8] = s ++ 128 :: (zs (zc s.length) ++ (len8 s.length).take (8 - k)) := by
      intro k hk
      rw [show 8 - k = (8 - (k + 1)) + 1 by omega, ← len8_snoc (by omega), show 7 - (8 - (k + 1)) = k by omega]
      simp only [List.append_assoc, List.cons_append]
    have hl : ∀ k, k ≤ 8 → (s ++ 128 :: (zs (zc s.length) ++ (len8 s.length).take (8 - k))).length ≤ s.length + 80 := by
      intro k hk
      simp only [List.length_append, List.length_cons, zs_len, List.length_take, len8_len]
      omega
    rw [hte]
    rw [hw, show List.take 8 (len8 s.length) = List.take (8 - 0) (len8 s.length) from rfl] at h
    (refine gw2 @e1 @zs_len ?_; try exact True.intro)
    clear e1 hw hte htl
    generalize hW : (fun k => s ++ 128 :: (zs (zc s.length) ++ (len8 s.length).take (8 - k))) = w at *
    have W : ∀ k, s ++ 128 :: (zs (zc s.length) ++ (len8 s.length).take (8 - k)) = w k := fun k => by rw [← hW]
    simp only [W] at h0 hst hl h
    rw [h0]
    clear W hW h0
    (refine gw0 ?_; try exact True.intro)
    refine wp_inv (I22b s w H) 8 ⟨7, _, [], by rw [List.append_nil], rfl, by omega⟩ ?_
    rintro k st ⟨z, u7, J, rfl, rfl, hk⟩
    cases k with
    | zero =>
      have h1 : ((0 : Int) ≤ ((0 : Nat) : Int) - 1) = False := by simp
      (refine gw1 @h1 ?_; try exact True.intro)
      exact h
    | succ k =>
      have h1 : ((0 : Int) ≤ ((k + 1 : Nat) : Int) - 1) = True := by simp only [eq_iff_iff, iff_true]; omega
      have e1 : ((k + 1 : Nat) : Int) - 1 = (k : Int) := by omega
      obtain ⟨X, hX, e2, e3⟩ := sh_byte hle (show k < 8 by omega)
      have hl' := hl (k + 1) (by omega)
      have hst' := hst k (by omega)
      (refine gw5 @h1 @e1 @e2 @e3 @hst' ?_; try exact True.intro)
      (repeat (refine And.intro (by omega) ?_))
      exact ⟨k, by omega, (k : Int) - 1, _, J ++ _, by rw [← List.append_assoc], rfl, by omega⟩
theorem kill_own1 {H L : Heap} {x : Option Blk} : kill (fun b => decide (b < H.length + 1)) 0 (H ++ x :: L) = H ++ x :: List.replicate L.length none := by
  have := kill_own (H := H ++ [x]) (L := L)
  simpa using this
theorem dg_at {v : S8} {i : Nat} (h : i < 32) : ((v.l.getD (i / 4) 0) >>> (24 - 8 * (i % 4))).setWidth 8 = (dg v).getD i 0 := by
  rcases i with _|_|_|_|_|_|_|_|_|_|_|_|_|_|_|_|_|_|_|_|_|_|_|_|_|_|_|_|_|_|_|_|i
  all_goals first | rfl | omega
/-- the first bytes of a sum -/
def dL (v : S8) (i : Nat) : List AV := (List.range 32).map fun k => .u8 (if k < i then (dg v).getD k 0 else 0)
theorem dL_len {v : S8} {i : Nat} : (dL v i).length = 32 := by simp [dL]
theorem dL_zero {v : S8} : dL v 0 = List.replicate 32 (.u8 0) := by
  unfold dL
  apply List.ext_getElem?
  intro k
  by_cases hk : k < 32
  · rw [List.getElem?_replicate, if_pos hk, List.getElem?_map, List.getElem?_range hk]; rfl
  · rw [List.getElem?_eq_none (by simp; omega), List.getElem?_eq_none (by simp; omega)]
theorem dL_set {v : S8} {i : Nat} (h : i < 32) : (dL v i).set i (.u8 ((dg v).getD i 0)) = dL v (i + 1) := by
  unfold dL
  rw [rng_set]
  refine rng_congr fun k hk => ?_
  by_cases e : k = i
  · rw [if_pos e, e, if_pos (by omega)]
  · rw [if_neg e]
    by_cases h2 : k < i
    · rw [if_pos h2, if_pos (by omega)]
    · rw [if_neg h2, if_neg (by omega)]
theorem dL_all {v : S8} : dL v 32 = (dg v).map .u8 := by
  unfold dL
  apply List.ext_getElem?
  intro k
  by_cases hk : k < 32
  · rw [List.getElem?_map, List.getElem?_range hk, List.getElem?_map, List.getElem?_eq_getElem (by rw [dg_len]; exact hk)]
    simp only [Option.map_some, if_pos hk, List.getD_eq_getElem?_getD]
    rw [List.getElem?_eq_getElem (by rw [dg_len]; exact hk)]
    rfl
  · rw [List.getElem?_eq_none (by simp; omega), List.getElem?_eq_none (by rw [List.length_map, dg_len]; omega)]
def Y32 (l : List AV) : Option Blk := some ⟨76, 0, false, .arr 1 (.arr 32 .leaf), .agg [.agg l]⟩
def I13a (s : List (BitVec 8)) (q : Nat) (H : Heap) (k : Nat) (st : St) : Prop :=
  ∃ (m : Nat) (u8 : AV), st = ⟨[.str s, .ptr H.length 0 [0] (.arr 32 .leaf), .ro .leaf (rnds.map .u32), .ro .leaf (stL (hb (pad s) m)), .str (pad s), .int ((64 * m : Nat) : Int), .un, .un, u8, .un], H ++ [Y32 (dL ini 0), none]⟩ ∧ k = q - m ∧ m ≤ q
def I13b (s : List (BitVec 8)) (q : Nat) (v : S8) (H : Heap) (k : Nat) (st : St) : Prop :=
  ∃ (i : Nat) (u9 : AV), st = ⟨[.str s, .ptr H.length 0 [0] (.arr 32 .leaf), .ro .leaf (rnds.map .u32), .ro .leaf (stL v), .str (pad s), .int ((64 * q : Nat) : Int), .ptr (H.length + 2) 0 [0] (.arr 32 .leaf), .int (i : Int), .bool false, u9], H ++ [Y32 (dL ini 0), none, Y32 (dL v i)]⟩ ∧ k = 32 - i ∧ i ≤ 32
theorem f50 {K : AV → Heap → Prop} {H : Heap} {s : List (BitVec 8)} (hle : s.length ≤ 1000000000) (h : K (.agg ((sha s).map .u8)) H) : wpF P G 50 [.str s] H K := by
  refine wpF_go c50 rfl 3 ?_
  intro ha hb
  simp only [s50]
  clear ha hb
  (refine gw0 ?_; try exact True.intro)
  refine f65 ?_
  (refine gw0 ?_; try exact True.intro)
  refine f66 hle ?_
  (refine gw0 ?_; try exact True.intro)
  refine WPS_freeze (fun b => decide (b < H.length + 1)) 4 (env' := [.str s, .ptr H.length 0 [0] (.arr 32 .leaf), .ro .leaf (rnds.map .u32), .ro .leaf (stL ini), .str (pad s), .int 0, .un, .un, .un, .un]) ?_ ?_
  · have hsl : stL ini = [.u32 1779033703, .u32 3144134277, .u32 1013904242, .u32 2773480762, .u32 1359893119, .u32 2600822924, .u32 528734635, .u32 1541459225] := rfl
    rw [hsl]
    simp only [mapO]
    (refine gw0 ?_; try exact True.intro)
    simp
  rw [kill_own1]
  have hpl : ∃ q, (pad s).length = 64 * q := by
    have := pe_pad (l := s)
    unfold pe at this
    split at this
    · exact ⟨s.length / 64 + 1, by omega⟩
    · exact ⟨s.length / 64 + 2, by omega⟩
  obtain ⟨q, hq⟩ := hpl
  have hq2 : 64 * q ≤ s.length + 72 := by rw [← hq, pad_len]; unfold zc; omega
  have hsha : sha s = dg (hb (pad s) q) := by
    unfold sha; rw [hq, Nat.mul_div_cancel_left _ (by decide)]
  refine wp_inv (I13a s q H) q ⟨0, _, rfl, rfl, by omega⟩ ?_
  rintro k st ⟨m, u8, rfl, rfl, hm⟩
  by_cases hml : m < q
  · have h1 : (((64 * m : Nat) : Int) < ((64 * q : Nat) : Int)) = True := by simp only [eq_iff_iff, iff_true]; omega
    have e1 : ((64 * m : Nat) : Int) + 64 = ((64 * (m + 1) : Nat) : Int) := by omega
    have e2 : 64 * (m + 1) - 64 * m = 64 := by omega
    have e3 : List.take 64 (List.drop (64 * m) (pad s)) = ck (pad s) m := rfl
    have l3 : (ck (pad s) m).length = 64 := by unfold ck; rw [List.length_take, List.length_drop, hq]; omega
    have e4 : comp (hb (pad s) m) (ck (pad s) m) = hb (pad s) (m + 1) := rfl
    (refine gw5 @h1 @hq @e1 @e2 @e3 ?_; try exact True.intro)
    (repeat (refine And.intro (by omega) ?_))
    refine f67 l3 ?_
    rw [e4]
    (refine gw1 @e1 ?_; try exact True.intro)
    (repeat (refine And.intro (by omega) ?_))
    exact ⟨q - (m + 1), by omega, m + 1, _, rfl, rfl, by omega⟩
  · have hme : m = q := by omega
    subst hme
    have h1 : (((64 * m : Nat) : Int) < ((64 * m : Nat) : Int)) = False := by simp
    (refine gw2 @h1 @hq ?_; try exact True.intro)
    generalize hb (pad s) m = v at *
    (refine gw0 ?_; try exact True.intro)
    refine wp_inv (I13b s m v H) 32 ⟨0, _, rfl, rfl, by omega⟩ ?_
    rintro k st ⟨i, u9, rfl, rfl, hi⟩
    by_cases hil : i < 32
    · have h1 : ((i : Int) < 32) = True := by simp only [eq_iff_iff, iff_true]; omega
      have e1 : (i : Int).tdiv 4 = ((i / 4 : Nat) : Int) := rfl
      have e2 : (i : Int).tmod 4 = ((i % 4 : Nat) : Int) := rfl
      have e3 : (24 : Int) - 8 * ((i % 4 : Nat) : Int) = ((24 - 8 * (i % 4) : Nat) : Int) := by omega
      have g1 : (stL v).getD (i / 4) .un = .u32 (v.l.getD (i / 4) 0) := by
        unfold stL
        rw [List.getD_eq_getElem?_getD, List.getElem?_map, List.getElem?_eq_getElem (by show i / 4 < 8; omega), List.getD_eq_getElem?_getD, List.getElem?_eq_getElem (by show i / 4 < 8; omega)]
        rfl
      have e4 : (BitVec.ofInt 64 ((24 - 8 * (i % 4) : Nat) : Int)).toNat = 24 - 8 * (i % 4) := ofInt64_nat (by omega)
      have l1 : (stL v).length = 8 := rfl
      have g2 : (dL v i)[i]? = some (.u8 (if i < i then (dg v).getD i 0 else 0)) := by unfold dL; rw [List.getElem?_map, List.getElem?_range hil]; rfl
      have hv := dg_at (v := v) hil
      have hset := dL_set (v := v) hil
      unfold Y32
      (refine gw10 @h1 @e1 @e2 @e3 @e4 @g1 @l1 @g2 @hv @hset ?_; try exact True.intro)
      (repeat (refine And.intro (by omega) ?_))
      exact ⟨32 - (i + 1), by omega, i + 1, _, rfl, rfl, by omega⟩
    · have h1 : ((i : Int) < 32) = False := by simp only [eq_iff_iff, iff_false]; omega
      have hie : i = 32 := by omega
      subst hie
      have hdd := dg_len (v := v)
      unfold Y32
      rw [dL_all]
      rw [hsha] at h
      generalize dg v = d at h hdd ⊢
      (refine gw1 @h1 ?_; try exact True.intro)
      exact ⟨hdd, h⟩
theorem m8_kind {d : List (BitVec 8)} : ∀ x, x ∈ d.map AV.u8 → AV.isKind .u8 x = true := fun x hx => by
  obtain ⟨a, _, rfl⟩ := List.mem_map.1 hx; rfl
theorem f48n {K : AV → Heap → Prop} {H : Heap} (h : K (.agg [.u8 0, .u8 0, .u8 0, .u8 0, .u8 0, .u8 0, .u8 0, .u8 0, .u8 0, .u8 0, .u8 0, .u8 0, .u8 0, .u8 0, .u8 0, .u8 0, .u8 0, .u8 0, .u8 0, .u8 0, .u8 0, .u8 0, .u8 0, .u8 0, .u8 0, .u8 0, .u8 0, .u8 0, .u8 0, .u8 0, .u8 0, .u8 0]) H) : wpF P G 48 [.nilp] H K := by
  refine wpF_go c48 rfl 3 ?_
  intro ha hb
  simp only [s48]
  clear ha hb
  (refine gw0 ?_; try exact True.intro)
  exact h
/-- the first i texts, one behind the other -/
def ct (ls : List (List (BitVec 8))) : Nat → List (BitVec 8)
  | 0 => []
  | i + 1 => ct ls i ++ ls.getD i []
theorem hct0 (ls : List (List (BitVec 8))) (i : Nat) (h : decide (0 < i) = false) : ct ls i = [] := by
  have : i = 0 := by simpa using h
  rw [this]; rfl
def Ix3 (ls : List (List (BitVec 8))) (H : Heap) (k : Nat) (st : St) : Prop :=
  ∃ (i : Nat) (u6 u7 u8 : AV), st = ⟨[.ro .leaf (ls.map .str), .bool false, .ptr H.length 0 [0] (.st [.arr 8 .leaf, .leaf, .leaf, .leaf]), .str (ct ls i), .int (i : Int), .bool false, u6, u7, u8, .un], H ++ [smB (smA (decide (0 < i)) (ct ls i))]⟩ ∧ k = ls.length - i ∧ i ≤ ls.length ∧ (ct ls i).length ≤ 200 * i
/-- how long a part is, as four bytes, and the part -/
def ln4 (n : Nat) : List (BitVec 8) := [BitVec.ofNat 8 (n / 16777216), BitVec.ofNat 8 (n / 65536), BitVec.ofNat 8 (n / 256), BitVec.ofNat 8 n]
def lg (s : List (BitVec 8)) : List (BitVec 8) := ln4 s.length ++ s
theorem lg_len {s : List (BitVec 8)} : (lg s).length = s.length + 4 := by unfold lg ln4; simp
theorem fd2 (n k m : Nat) (h : 2 ^ k = m) (h64 : min k 64 = k) : ((n : Nat) : Int).fdiv (2 ^ min k 64) = ((n / m : Nat) : Int) := by
  rw [h64, Int.fdiv_eq_ediv_of_nonneg _ (Int.le_of_lt (Int.pow_pos (by decide))), ← h]; simp
theorem f46 {K : AV → Heap → Prop} {H0 L : Heap} {on : Bool} {l s : List (BitVec 8)} (hl : on = false → l = []) (hs : l.length + s.length ≤ 20000000) (h : K (.tup []) (H0 ++ smB (smT (l ++ lg s)) :: L)) :
    wpF P G 46 [.str s, .ptr H0.length 0 [0] (.st [.arr 8 .leaf, .leaf, .leaf, .leaf])] (H0 ++ smB (smA on l) :: L) K := by
  refine wpF_goM c46 rfl ?_
  intro hA hB
  simp only [s46]
  have e1 := fd2 s.length 24 16777216 (by decide) (by decide)
  have e2 := fd2 s.length 16 65536 (by decide) (by decide)
  have e3 := fd2 s.length 8 256 (by decide) (by decide)
  have e4 : ∀ n : Nat, BitVec.ofInt 8 (n : Int) = BitVec.ofNat 8 n := fun n => BitVec.ofInt_natCast _ _
  (refine gw7 @e1 @e2 @e3 @e4 @Kmut_n @Kmut_r @Km2_s ?_; try exact True.intro)
  (repeat (refine And.intro (by omega) ?_))
  refine f47' (H0 := H0) (on := on) (l := l) rfl rfl hl (by simp; omega) ?_
  (refine gw3 @Kmut_n @Kmut_r @Km2_s ?_; try exact True.intro)
  refine f47' (H0 := H0) (on := true) (l := l ++ [BitVec.ofNat 8 (s.length / 16777216), BitVec.ofNat 8 (s.length / 65536), BitVec.ofNat 8 (s.length / 256), BitVec.ofNat 8 s.length]) rfl rfl (fun h => by cases h) (by simp; omega) ?_
  rw [show (l ++ [BitVec.ofNat 8 (s.length / 16777216), BitVec.ofNat 8 (s.length / 65536), BitVec.ofNat 8 (s.length / 256), BitVec.ofNat 8 s.length]) ++ s = l ++ lg s by unfold lg ln4; rw [List.append_assoc]]
  (refine gw3 @Kmut_n @Kmut_r @Km2_s ?_; try exact True.intro)
  refine ⟨by omega, ?_⟩
  have hfin := mut_fin (E := [some ⟨5, 0, true, .arr 4 .leaf, .agg [.u8 (BitVec.ofNat 8 (s.length / 16777216)), .u8 (BitVec.ofNat 8 (s.length / 65536)), .u8 (BitVec.ofNat 8 (s.length / 256)), .u8 (BitVec.ofNat 8 s.length)]⟩]) hB (y := smB (smT (l ++ lg s))) (by rintro k blk h; cases h; rfl) h
  exact hfin
theorem f46' {K : AV → Heap → Prop} {H0 L Hx : Heap} {on : Bool} {l s : List (BitVec 8)} {m : Nat} (hm : m = H0.length) (hx : Hx = H0 ++ smB (smA on l) :: L) (hl : on = false → l = []) (hs : l.length + s.length ≤ 20000000) (h : K (.tup []) (H0 ++ smB (smT (l ++ lg s)) :: L)) :
    wpF P G 46 [.str s, .ptr m 0 [0] (.st [.arr 8 .leaf, .leaf, .leaf, .leaf])] Hx K := by
  subst hm hx
  exact f46 hl hs h
theorem f49 {K : AV → Heap → Prop} {H : Heap} {s : List (BitVec 8)} (hs : s.length ≤ 2000000) (h : K (.str (lg s)) H) : wpF P G 49 [.str s] H K := by
  refine wpF_go c49 rfl 3 ?_
  intro hA hB
  simp only [s49]
  have e1 : ((s.length : Nat) : Int).tdiv 16777216 = ((s.length / 16777216 : Nat) : Int) := rfl
  have e2 : ((s.length : Nat) : Int).tdiv 65536 = ((s.length / 65536 : Nat) : Int) := rfl
  have e3 : ((s.length : Nat) : Int).tdiv 256 = ((s.length / 256 : Nat) : Int) := rfl
  have e4 : ∀ n : Nat, BitVec.ofInt 8 (n : Int) = BitVec.ofNat 8 n := fun n => BitVec.ofInt_natCast _ _
  (refine gw4 @e1 @e2 @e3 @e4 ?_; try exact True.intro)
  (repeat (refine And.intro (by omega) ?_))
  exact h
/-- all parts behind a tag, each with how long it is -/
def lgs (ls : List (List (BitVec 8))) : Nat → List (BitVec 8)
  | 0 => []
  | i + 1 => lgs ls i ++ lg (ls.getD i [])
def sz (ls : List (List (BitVec 8))) : Nat → Nat
  | 0 => 0
  | i + 1 => sz ls i + (ls.getD i []).length
theorem lgs_len {ls : List (List (BitVec 8))} : ∀ {i : Nat}, (lgs ls i).length = sz ls i + 4 * i
  | 0 => rfl
  | i + 1 => by rw [lgs, sz, List.length_append, lgs_len, lg_len]; omega
theorem sz_mono {ls : List (List (BitVec 8))} {i : Nat} : ∀ {k : Nat}, sz ls i ≤ sz ls (i + k)
  | 0 => Nat.le_refl _
  | k + 1 => by rw [← Nat.add_assoc, sz]; have := sz_mono (ls := ls) (i := i) (k := k); omega
theorem ls_at {ls : List (List (BitVec 8))} {i : Nat} (h : i < ls.length) : (ls.map AV.str).getD i .un = .str (ls.getD i []) := by
  rw [List.getD_eq_getElem?_getD, List.getElem?_map, List.getElem?_eq_getElem h, List.getD_eq_getElem?_getD, List.getElem?_eq_getElem h]
  rfl
def Ix17 (tag : List (BitVec 8)) (ls : List (List (BitVec 8))) (H : Heap) (k : Nat) (st : St) : Prop :=
  ∃ (i : Nat) (u5 : AV), st = ⟨[.str tag, .ro .leaf (ls.map .str), .ptr H.length 0 [0] (.arr 32 .leaf), .str (lg tag ++ lgs ls i), .int (i : Int), u5], H ++ [Y32 (dL ini 0)]⟩ ∧ k = ls.length - i ∧ i ≤ ls.length
theorem f32 {K : AV → Heap → Prop} {H : Heap} {tag : List (BitVec 8)} {ls : List (List (BitVec 8))} (hs : tag.length + sz ls ls.length + ls.length ≤ 2000000) (h : K (.agg ((sha (lg tag ++ lgs ls ls.length)).map .u8)) H) : wpF P G 32 [.str tag, .ro .leaf (ls.map .str)] H K := by
  refine wpF_go c32 rfl 3 ?_
  intro ha hb
  simp only [s32]
  clear ha hb
  have lm : (ls.map AV.str).length = ls.length := by simp
  (refine gw0 ?_; try exact True.intro)
  refine f49 (by omega) ?_
  (refine gw0 ?_; try exact True.intro)
  refine wp_inv (Ix17 tag ls H) ls.length ⟨0, _, by rw [lgs, List.append_nil]; rfl, rfl, by omega⟩ ?_
  rintro k st ⟨i, u5, rfl, rfl, hi⟩
  by_cases hil : i < ls.length
  · have h2 : ((i : Int) < (ls.length : Int)) = True := by simp only [eq_iff_iff, iff_true]; omega
    have g1 := ls_at hil
    have hz1 : sz ls (i + 1) ≤ sz ls ls.length := by
      have := sz_mono (ls := ls) (i := i + 1) (k := ls.length - (i + 1))
      rwa [show i + 1 + (ls.length - (i + 1)) = ls.length by omega] at this
    have hz2 : sz ls (i + 1) = sz ls i + (ls.getD i []).length := rfl
    have hl1 : (lg tag ++ lgs ls i).length ≤ 20000000 := by rw [List.length_append, lg_len, lgs_len]; omega
    have hl2 := lg_len (s := ls.getD i [])
    have hn : (lg tag ++ lgs ls i) ++ lg (ls.getD i []) = lg tag ++ lgs ls (i + 1) := by rw [lgs, List.append_assoc]
    generalize hA : lg tag ++ lgs ls i = A at *
    (refine gw3 @h2 @g1 @lm ?_; try exact True.intro)
    refine f49 (by omega) ?_
    (refine gw1 @hn ?_; try exact True.intro)
    (repeat (refine And.intro (by omega) ?_))
    exact ⟨ls.length - (i + 1), by omega, i + 1, _, rfl, rfl, by omega⟩
  · have h2 : ((i : Int) < (ls.length : Int)) = False := by simp only [eq_iff_iff, iff_false]; omega
    have hie : i = ls.length := by omega
    subst hie
    have hl1 : (lg tag ++ lgs ls ls.length).length ≤ 20000000 := by rw [List.length_append, lg_len, lgs_len]; omega
    have hd := sha_len (l := lg tag ++ lgs ls ls.length)
    have h13 : ∀ {K : AV → Heap → Prop} {H : Heap}, K (.agg ((sha (lg tag ++ lgs ls ls.length)).map .u8)) H → wpF P G 50 [.str (lg tag ++ lgs ls ls.length)] H K := fun h => f50 (by omega) h
    generalize sha (lg tag ++ lgs ls ls.length) = d at *
    generalize lg tag ++ lgs ls ls.length = A at *
    unfold Y32
    (refine gw2 @h2 @lm ?_; try exact True.intro)
    refine h13 ?_
    (refine gw1 @hd ?_; try exact True.intro)
    exact h
def Ix16 (tag : List (BitVec 8)) (ls : List (List (BitVec 8))) (p f : AV) (n : Int) (H J : Heap) (k : Nat) (st : St) : Prop :=
  ∃ (i : Nat) (u5 u9 : AV), st = ⟨[.str tag, .ro .leaf (ls.map .str), p, .ptr (H.length + 1) 0 [0] (.st [.arr 8 .leaf, .leaf, .leaf, .leaf]), f, u5, .ro .leaf (ls.map .str), .int n, .int (i : Int), u9], H ++ Y32 (dL ini 0) :: smB (smT (lg tag ++ lgs ls i)) :: J⟩ ∧ k = ls.length - i ∧ i ≤ ls.length
theorem f29 {K : AV → Heap → Prop} {H : Heap} {tag : List (BitVec 8)} {ls : List (List (BitVec 8))} (hs : tag.length + sz ls ls.length + ls.length ≤ 2000000) (h : K (.agg ((sha (lg tag ++ lgs ls ls.length)).map .u8)) H) : wpF P G 29 [.str tag, .ro .leaf (ls.map .str)] H K := by
  refine wpF_go c29 rfl 3 ?_
  intro ha hb
  simp only [s29]
  clear ha hb
  have lm : (ls.map AV.str).length = ls.length := by simp
  (refine gw0 ?_; try exact True.intro)
  refine f46' (H0 := H ++ [Y32 (dL ini 0)]) (L := []) (on := false) (l := []) (s := tag) (by simp) (by rw [List.append_assoc]; rfl) (fun _ => rfl) (by simp; omega) ?_
  rw [List.append_assoc, List.nil_append]
  simp only [List.cons_append, List.nil_append]
  unfold Y32
  (refine gw1 @lm ?_; try exact True.intro)
  refine wp_inv (Ix16 tag ls _ _ _ H []) ls.length ⟨0, _, _, by rw [lgs, List.append_nil]; rfl, rfl, by omega⟩ ?_
  rintro k st ⟨i, u5, u9, rfl, rfl, hi⟩
  by_cases hil : i < ls.length
  · have h2 : ((i : Int) < (ls.length : Int)) = True := by simp only [eq_iff_iff, iff_true]; omega
    have g1 := ls_at hil
    have hz1 : sz ls (i + 1) ≤ sz ls ls.length := by
      have := sz_mono (ls := ls) (i := i + 1) (k := ls.length - (i + 1))
      rwa [show i + 1 + (ls.length - (i + 1)) = ls.length by omega] at this
    have hz2 : sz ls (i + 1) = sz ls i + (ls.getD i []).length := rfl
    have hl1 : (lg tag ++ lgs ls i).length + (ls.getD i []).length ≤ 20000000 := by rw [List.length_append, lg_len, lgs_len]; omega
    have hn : (lg tag ++ lgs ls i) ++ lg (ls.getD i []) = lg tag ++ lgs ls (i + 1) := by rw [lgs, List.append_assoc]
    generalize hA : lg tag ++ lgs ls i = A at *
    (refine gw3 @h2 @g1 @lm ?_; try exact True.intro)
    refine f46' (H0 := H ++ [Y32 (dL ini 0)]) (L := []) (on := true) (l := A) (by simp) (by rw [List.append_assoc]; rfl) (fun h => by cases h) (by omega) ?_
    rw [hn, List.append_assoc]
    simp only [List.cons_append, List.nil_append]
    (refine gw0 ?_; try exact True.intro)
    (repeat (refine And.intro (by omega) ?_))
    exact ⟨ls.length - (i + 1), by omega, i + 1, _, _, rfl, rfl, by omega⟩
  · have h2 : ((i : Int) < (ls.length : Int)) = False := by simp only [eq_iff_iff, iff_false]; omega
    have hie : i = ls.length := by omega
    subst hie
    have hl1 : (lg tag ++ lgs ls ls.length).length ≤ 20000000 := by rw [List.length_append, lg_len, lgs_len]; omega
    have hd := sha_len (l := lg tag ++ lgs ls ls.length)
    have h10 : ∀ {K : AV → Heap → Prop} {H : Heap} {b : Nat}, Heap.get H b = smB (smT (lg tag ++ lgs ls ls.length)) → K (.agg ((sha (lg tag ++ lgs ls ls.length)).map .u8)) H → wpF P G 48 [.ptr b 0 [0] (.st [.arr 8 .leaf, .leaf, .leaf, .leaf])] H K := fun hg h => f48 (on := true) hg (fun h => by cases h) (by omega) h
    generalize sha (lg tag ++ lgs ls ls.length) = d at *
    generalize lg tag ++ lgs ls ls.length = A at *
    unfold Y32
    (refine gw2 @h2 @lm ?_; try exact True.intro)
    refine h10 (by rw [hget_k]; rfl) ?_
    (refine gw1 @hd ?_; try exact True.intro)
    exact h
end Go.Proofs.YtjilenmngokhpaaDoor

end

section
/-
  Layer 15 (rows and their bytes), as this seat has it.
-/
open Go Go.V
namespace Go.Proofs.YtjilenmngokhpaaDoor
set_option maxRecDepth 100000
set_option linter.unusedSimpArgs false
set_option linter.unusedVariables false
/-- trefoil/baseot.Bytes (0:r, 1:r, 2:, 3:b, 5:w, 6:i, 8:, 9:, 10:, 12:, 13:) -/
def s31 : FnS := ⟨28, [0, 1, 2, 3, 5, 6, 8, 9, 10, 12, 13],
    (.seq (.reg [⟨.var 1, (.e (.box 24 (.arr 2 .leaf))), [.t 0], none⟩,
      ⟨.var 2, (.q .mv), [.c (.str [])], none⟩])
    (.seq (.reg [⟨.new, (.e (.mksl 5 .leaf 1 (.u8 0))), [.c (.int 0), .c (.int 16)], none⟩,
      ⟨.var 3, (.q .mv), [.t 11], none⟩])
    (.seq (.seq (.reg [⟨.var 6, (.q (.ld (.arr 2 .leaf))), [.t 1], none⟩,
      ⟨.var 7, (.q .mv), [.c (.int 0)], none⟩])
    (.block 0 (.loop (.seq (.reg [⟨.var 8, (.q (.bin .lss)), [.t 7, .c (.int 2)], none⟩])
    (.seq (.cond (.t 8) .skip
    (.exit 0))
    (.seq (.block 1 (.seq (.reg [⟨.new, (.q (.idx 2 .leaf)), [.t 6, .t 7], none⟩,
      ⟨.var 4, (.q .mv), [.t 11], none⟩])
    (.seq (.reg [⟨.var 9, (.q .mv), [.c (.int 0)], none⟩])
    (.block 2 (.loop (.seq (.reg [⟨.var 10, (.q (.bin .lss)), [.t 9, .c (.int 8)], none⟩])
    (.seq (.cond (.t 10) .skip
    (.exit 2))
    (.seq (.block 3 (.seq (.reg [⟨.new, (.q .mv), [.t 9], none⟩,
      ⟨.var 5, (.q .mv), [.t 11], none⟩])
    (.reg [⟨.new, (.q .mv), [.t 3], none⟩,
      ⟨.new, (.q .mv), [.t 4], none⟩,
      ⟨.new, (.q .mv), [.t 5], none⟩,
      ⟨.new, (.q (.bin .mul)), [.c (.int 8), .t 13], none⟩,
      ⟨.new, (.q (.cv .u64)), [.t 14], none⟩,
      ⟨.new, (.q (.bin .shr)), [.t 12, .t 15], none⟩,
      ⟨.new, (.q (.cv .u8)), [.t 16], none⟩,
      ⟨.new, (.e (.bsl 5 .leaf (.u8 0) 1 [0])), [.t 17], none⟩,
      ⟨.new, (.e (.app 5 .leaf 1)), [.t 11, .t 18], none⟩,
      ⟨.var 3, (.q .mv), [.t 19], none⟩])))
    (.reg [⟨.new, (.q (.bin .add)), [.t 9, .c (.int 1)], none⟩,
      ⟨.var 9, (.q .mv), [.t 11], none⟩])))))))))
    (.reg [⟨.new, (.q (.bin .add)), [.t 7, .c (.int 1)], none⟩,
      ⟨.var 7, (.q .mv), [.t 11], none⟩])))))))
    (.seq (.reg [⟨.new, (.q .mv), [.t 3], none⟩,
      ⟨.new, (.q .b2s), [.t 11], none⟩,
      ⟨.var 2, (.q .mv), [.t 12], none⟩])
    .ret)))),
    [.t 2]⟩

/-- trefoil/trefoilref15.Bytes (0:r, 1:r, 2:, 3:b, 4:i, 5:n, 6:k, 8:, 12:, 22:) -/
def s33 : FnS := ⟨31, [0, 1, 2, 3, 4, 5, 6, 8, 12, 22],
    (.seq (.reg [⟨.var 1, (.e (.box 24 (.arr 2 .leaf))), [.t 0], none⟩,
      ⟨.var 2, (.q .mv), [.c (.str [])], none⟩])
    (.seq (.reg [⟨.var 3, (.q .mv), [.c .nils], none⟩])
    (.seq (.seq (.reg [⟨.var 4, (.q .mv), [.c (.int 0)], none⟩])
    (.block 0 (.loop (.seq (.seq (.reg [⟨.new, (.q .mv), [.t 4], none⟩,
      ⟨.var 7, (.q (.bin .lss)), [.t 10, .c (.int 16)], none⟩])
    (.cond (.t 7) .skip
    (.exit 0)))
    (.seq (.block 1 (.seq (.reg [⟨.var 5, (.q .mv), [.c (.u8 0)], none⟩])
    (.seq (.seq (.reg [⟨.var 6, (.q .mv), [.c (.int 7)], none⟩])
    (.block 2 (.loop (.seq (.seq (.reg [⟨.new, (.q .mv), [.t 6], none⟩,
      ⟨.var 8, (.q (.bin .geq)), [.t 10, .c (.int 0)], none⟩])
    (.cond (.t 8) .skip
    (.exit 2)))
    (.seq (.block 3 (.seq (.reg [⟨.new, (.q .mv), [.t 5], none⟩,
      ⟨.new, (.q (.bin .mul)), [.c (.u8 2), .t 10], none⟩,
      ⟨.var 5, (.q .mv), [.t 11], none⟩])
    (.seq (.reg [⟨.new, (.q (.ld (.arr 2 .leaf))), [.t 1], none⟩,
      ⟨.new, (.q .mv), [.t 4], none⟩,
      ⟨.new, (.q (.bin .mul)), [.c (.int 8), .t 11], none⟩,
      ⟨.new, (.q .mv), [.t 6], none⟩,
      ⟨.new, (.q (.bin .add)), [.t 12, .t 13], none⟩,
      ⟨.var 9, (.call 51), [.t 10, .t 14], none⟩])
    (.cond (.t 9) (.reg [⟨.new, (.q .mv), [.t 5], none⟩,
      ⟨.new, (.q (.bin .add)), [.t 10, .c (.u8 1)], none⟩,
      ⟨.var 5, (.q .mv), [.t 11], none⟩])
    .skip))))
    (.reg [⟨.new, (.q .mv), [.t 6], none⟩,
      ⟨.new, (.q (.bin .sub)), [.t 10, .c (.int 1)], none⟩,
      ⟨.var 6, (.q .mv), [.t 11], none⟩]))))))
    (.reg [⟨.new, (.q .mv), [.t 3], none⟩,
      ⟨.new, (.q .mv), [.t 5], none⟩,
      ⟨.new, (.e (.bsl 5 .leaf (.u8 0) 1 [0])), [.t 11], none⟩,
      ⟨.new, (.e (.app 5 .leaf 1)), [.t 10, .t 12], none⟩,
      ⟨.var 3, (.q .mv), [.t 13], none⟩]))))
    (.reg [⟨.new, (.q .mv), [.t 4], none⟩,
      ⟨.new, (.q (.bin .add)), [.t 10, .c (.int 1)], none⟩,
      ⟨.var 4, (.q .mv), [.t 11], none⟩]))))))
    (.seq (.reg [⟨.new, (.q .mv), [.t 3], none⟩,
      ⟨.new, (.q .b2s), [.t 10], none⟩,
      ⟨.var 2, (.q .mv), [.t 11], none⟩])
    .ret)))),
    [.t 2]⟩

/-- trefoil/baseot.Other (0:a, 1:b, 2:a, 3:b, 4:) -/
def s34 : FnS := ⟨16, [0, 1, 2, 3, 4],
    (.seq (.reg [⟨.var 2, (.e (.box 24 (.arr 2 .leaf))), [.t 0], none⟩,
      ⟨.var 3, (.e (.box 24 (.arr 2 .leaf))), [.t 1], none⟩,
      ⟨.var 4, (.e (.alloc 24 (.arr 2 .leaf) (.agg [(.u64 0), (.u64 0)]))), [], none⟩])
    (.seq (.reg [⟨.new, (.q (.iaA 2 .leaf)), [.t 2, .c (.int 0)], none⟩,
      ⟨.new, (.q (.ld .leaf)), [.t 5], none⟩,
      ⟨.new, (.q (.iaA 2 .leaf)), [.t 3, .c (.int 0)], none⟩,
      ⟨.new, (.q (.ld .leaf)), [.t 7], none⟩,
      ⟨.new, (.q (.bin .xor)), [.t 6, .t 8], none⟩,
      ⟨.new, (.q (.iaA 2 .leaf)), [.t 2, .c (.int 1)], none⟩,
      ⟨.new, (.q (.ld .leaf)), [.t 10], none⟩,
      ⟨.new, (.q (.iaA 2 .leaf)), [.t 3, .c (.int 1)], none⟩,
      ⟨.new, (.q (.ld .leaf)), [.t 12], none⟩,
      ⟨.new, (.q (.bin .xor)), [.t 11, .t 13], none⟩,
      ⟨.new, (.e (.bld (.arr 2 .leaf) (.agg [(.u64 0), (.u64 0)]) [0, 1])), [.t 9, .t 14], none⟩,
      ⟨.none, (.e (.store (.arr 2 .leaf))), [.t 4, .t 15], none⟩])
    .ret)),
    [.cell 4 (.arr 2 .leaf)]⟩

/-- trefoil/baseot.Bit (0:r, 1:i, 2:r, 4:, 10:) -/
def s45 : FnS := ⟨21, [0, 1, 2, 4, 10],
    (.seq (.reg [⟨.var 2, (.e (.box 24 (.arr 2 .leaf))), [.t 0], none⟩,
      ⟨.var 3, (.q .mv), [.c (.bool false)], none⟩])
    (.seq (.seq (.reg [⟨.new, (.q .mv), [.t 1], none⟩,
      ⟨.new, (.q (.bin .lss)), [.t 5, .c (.int 0)], none⟩,
      ⟨.new, (.q .mv), [.t 6], none⟩,
      ⟨.new, (.q .mv), [.t 1], (some (7, false))⟩,
      ⟨.new, (.q (.bin .geq)), [.t 8, .c (.int 128)], (some (7, false))⟩,
      ⟨.var 4, (.q .pick), [.t 7, .c (.bool true), .t 9], none⟩])
    (.cond (.t 4) (.seq (.reg [⟨.var 3, (.q .mv), [.c (.bool false)], none⟩])
    .ret)
    .skip))
    (.seq (.reg [⟨.new, (.q .mv), [.t 1], none⟩,
      ⟨.new, (.q (.bin .quo)), [.t 5, .c (.int 64)], none⟩,
      ⟨.new, (.q (.iaA 2 .leaf)), [.t 2, .t 6], none⟩,
      ⟨.new, (.q (.ld .leaf)), [.t 7], none⟩,
      ⟨.new, (.q .mv), [.t 1], none⟩,
      ⟨.new, (.q (.bin .rem)), [.t 9, .c (.int 64)], none⟩,
      ⟨.new, (.q (.cv .u64)), [.t 10], none⟩,
      ⟨.new, (.q (.bin .shr)), [.t 8, .t 11], none⟩,
      ⟨.new, (.q (.bin .and)), [.t 12, .c (.u64 1)], none⟩,
      ⟨.new, (.q (.bin .eql)), [.t 13, .c (.u64 1)], none⟩,
      ⟨.var 3, (.q .mv), [.t 14], none⟩])
    .ret))),
    [.t 3]⟩

/-- trefoil/trefoilref15.Bit (0:r, 1:i, 2:r, 4:, 10:, 12:) -/
def s51 : FnS := ⟨28, [0, 1, 2, 4, 10, 12],
    (.seq (.reg [⟨.var 2, (.e (.box 24 (.arr 2 .leaf))), [.t 0], none⟩,
      ⟨.var 3, (.q .mv), [.c (.bool false)], none⟩])
    (.seq (.seq (.reg [⟨.new, (.q .mv), [.t 1], none⟩,
      ⟨.new, (.q (.bin .lss)), [.t 6, .c (.int 0)], none⟩,
      ⟨.new, (.q .mv), [.t 7], none⟩,
      ⟨.new, (.q .mv), [.t 1], (some (8, false))⟩,
      ⟨.new, (.q (.bin .gtr)), [.t 9, .c (.int 127)], (some (8, false))⟩,
      ⟨.var 4, (.q .pick), [.t 8, .c (.bool true), .t 10], none⟩])
    (.cond (.t 4) (.seq (.reg [⟨.var 3, (.q .mv), [.c (.bool false)], none⟩])
    .ret)
    .skip))
    (.seq (.seq (.reg [⟨.new, (.q .mv), [.t 1], none⟩,
      ⟨.var 5, (.q (.bin .lss)), [.t 6, .c (.int 64)], none⟩])
    (.cond (.t 5) (.seq (.reg [⟨.new, (.q (.iaA 2 .leaf)), [.t 2, .c (.int 0)], none⟩,
      ⟨.new, (.q (.ld .leaf)), [.t 6], none⟩,
      ⟨.new, (.q .mv), [.t 1], none⟩,
      ⟨.new, (.q (.cv .u64)), [.t 8], none⟩,
      ⟨.new, (.q (.bin .shr)), [.t 7, .t 9], none⟩,
      ⟨.new, (.q (.bin .rem)), [.t 10, .c (.u64 2)], none⟩,
      ⟨.new, (.q (.bin .eql)), [.t 11, .c (.u64 1)], none⟩,
      ⟨.var 3, (.q .mv), [.t 12], none⟩])
    .ret)
    .skip))
    (.seq (.reg [⟨.new, (.q (.iaA 2 .leaf)), [.t 2, .c (.int 1)], none⟩,
      ⟨.new, (.q (.ld .leaf)), [.t 6], none⟩,
      ⟨.new, (.q .mv), [.t 1], none⟩,
      ⟨.new, (.q (.bin .sub)), [.t 8, .c (.int 64)], none⟩,
      ⟨.new, (.q (.cv .u64)), [.t 9], none⟩,
      ⟨.new, (.q (.bin .shr)), [.t 7, .t 10], none⟩,
      ⟨.new, (.q (.bin .rem)), [.t 11, .c (.u64 2)], none⟩,
      ⟨.new, (.q (.bin .eql)), [.t 12, .c (.u64 1)], none⟩,
      ⟨.var 3, (.q .mv), [.t 13], none⟩])
    .ret)))),
    [.t 3]⟩

theorem c31 : cF P G (drP P G) 31 1 s31.vm = some s31 := by kernel_rfl
theorem c33 : cF P G (drP P G) 33 1 s33.vm = some s33 := by kernel_rfl
theorem c34 : cF P G (drP P G) 34 2 s34.vm = some s34 := by kernel_rfl
theorem c45 : cF P G (drP P G) 45 2 s45.vm = some s45 := by kernel_rfl
theorem c51 : cF P G (drP P G) 51 2 s51.vm = some s51 := by kernel_rfl
theorem ofInt_natW {i : Nat} (h : i < 18446744073709551616) : (BitVec.ofInt 64 (i : Int)).toNat = i := by
  rw [BitVec.toNat_ofInt]; omega

/-- a row's bit -/
def rb (x y : BitVec 64) (i : Int) : Bool := if 0 ≤ i ∧ i < 64 then x.getLsbD i.toNat else if 64 ≤ i ∧ i < 128 then y.getLsbD (i.toNat - 64) else false
def rowV (x y : BitVec 64) : AV := .agg [.u64 x, .u64 y]

theorem bit_and (x : BitVec 64) (j : Nat) : decide (x >>> j &&& 1 = 1) = x.getLsbD j := by
  have e : (x >>> j &&& 1 = 1) ↔ (x >>> j).toNat % 2 = 1 := by
    rw [← BitVec.toNat_inj, BitVec.toNat_and]
    have : (1 : BitVec 64).toNat = 1 := rfl
    rw [this, Nat.and_one_is_mod]
  rw [← BitVec.testBit_toNat, Nat.testBit_eq_decide_div_mod_eq, decide_eq_decide, e, BitVec.toNat_ushiftRight, Nat.shiftRight_eq_div_pow]
theorem bit_mod (x : BitVec 64) (j : Nat) : decide (x >>> j % 2 = 1) = x.getLsbD j := by
  have e : (x >>> j % 2 = 1) ↔ (x >>> j).toNat % 2 = 1 := by
    rw [← BitVec.toNat_inj, BitVec.toNat_umod]
    exact Iff.rfl
  rw [← BitVec.testBit_toNat, Nat.testBit_eq_decide_div_mod_eq, decide_eq_decide, e, BitVec.toNat_ushiftRight, Nat.shiftRight_eq_div_pow]

theorem f45 {K : AV → Heap → Prop} {H : Heap} {x y : BitVec 64} {i : Int} (h : K (.bool (rb x y i)) H) : wpF P G 45 [rowV x y, .int i] H K := by
  refine wpF_go c45 rfl 3 ?_
  intro ha hb
  simp only [s45, rowV]
  unfold rb at h
  by_cases h0 : i < 0
  · rw [if_neg (by omega), if_neg (by omega)] at h
    (refine gw1 @h0 ?_; try exact True.intro)
    exact h
  by_cases h1 : 128 ≤ i
  · rw [if_neg (by omega), if_neg (by omega)] at h
    (refine gw2 @h0 @h1 ?_; try exact True.intro)
    exact h
  obtain ⟨j, rfl⟩ := Int.eq_ofNat_of_zero_le (show 0 ≤ i by omega)
  by_cases h2 : j < 64
  · rw [if_pos (by omega)] at h
    have hd : Int.tdiv (j : Int) 64 = 0 := by rw [Int.tdiv_eq_ediv_of_nonneg (by omega)]; omega
    have hm : Int.tmod (j : Int) 64 = (j : Int) := by rw [Int.tmod_eq_emod_of_nonneg (by omega)]; omega
    have he := ofInt_natW (i := j) (by omega)
    (refine gw5 @h0 @h1 @hd @hm @he ?_; try exact True.intro)
    rw [bit_and]
    exact ⟨by omega, by omega, h⟩
  · rw [if_neg (by omega), if_pos (by omega)] at h
    have hd : Int.tdiv (j : Int) 64 = 1 := by rw [Int.tdiv_eq_ediv_of_nonneg (by omega)]; omega
    have hm : Int.tmod (j : Int) 64 = ((j - 64 : Nat) : Int) := by rw [Int.tmod_eq_emod_of_nonneg (by omega)]; omega
    have he := ofInt_natW (i := j - 64) (by omega)
    (refine gw5 @h0 @h1 @hd @hm @he ?_; try exact True.intro)
    rw [bit_and]
    exact ⟨by omega, by omega, h⟩

theorem f51 {K : AV → Heap → Prop} {H : Heap} {x y : BitVec 64} {i : Int} (h : K (.bool (rb x y i)) H) : wpF P G 51 [rowV x y, .int i] H K := by
  refine wpF_go c51 rfl 3 ?_
  intro ha hb
  simp only [s51, rowV]
  unfold rb at h
  by_cases h0 : i < 0
  · rw [if_neg (by omega), if_neg (by omega)] at h
    (refine gw1 @h0 ?_; try exact True.intro)
    exact h
  by_cases h1 : 127 < i
  · rw [if_neg (by omega), if_neg (by omega)] at h
    (refine gw2 @h0 @h1 ?_; try exact True.intro)
    exact h
  obtain ⟨j, rfl⟩ := Int.eq_ofNat_of_zero_le (show 0 ≤ i by omega)
  by_cases h2 : (j : Int) < 64
  · rw [if_pos (by omega)] at h
    have he := ofInt_natW (i := j) (by omega)
    (refine gw4 @h0 @h1 @h2 @he ?_; try exact True.intro)
    rw [bit_mod]
    exact ⟨by decide, h⟩
  · rw [if_neg (by omega), if_pos (by omega)] at h
    have hs : (j : Int) - 64 = ((j - 64 : Nat) : Int) := by omega
    have he := ofInt_natW (i := j - 64) (by omega)
    (refine gw5 @h0 @h1 @h2 @hs @he ?_; try exact True.intro)
    rw [bit_mod]
    exact ⟨by omega, by omega, by decide, h⟩

theorem f34 {K : AV → Heap → Prop} {H : Heap} {x y z w : BitVec 64} (h : K (rowV (x ^^^ z) (y ^^^ w)) H) : wpF P G 34 [rowV x y, rowV z w] H K := by
  refine wpF_go c34 rfl 3 ?_
  intro ha hb
  simp only [s34, rowV]
  (refine gw0 ?_; try exact True.intro)
  exact h

/-- a row's bytes -/
def by8 (x : BitVec 64) : List (BitVec 8) := [(x >>> 0).setWidth 8, (x >>> 8).setWidth 8, (x >>> 16).setWidth 8, (x >>> 24).setWidth 8, (x >>> 32).setWidth 8, (x >>> 40).setWidth 8, (x >>> 48).setWidth 8, (x >>> 56).setWidth 8]
def rowB (x y : BitVec 64) : List (BitVec 8) := by8 x ++ by8 y

theorem f31 {K : AV → Heap → Prop} {H : Heap} {x y : BitVec 64} (h : K (.str (rowB x y)) H) : wpF P G 31 [rowV x y] H K := by
  refine wpF_go c31 rfl 3 ?_
  intro ha hb
  simp only [s31, rowV]
  (refine gw0 ?_; try exact True.intro)
  refine wp_unroll 3 ?_
  (refine gw0 ?_; try exact True.intro)
  refine wp_unroll 9 ?_
  (refine gw0 ?_; try exact True.intro)
  refine wp_unroll 9 ?_
  (refine gw0 ?_; try exact True.intro)
  exact h

/-! the reference's bytes -/
/-- eight bits of a row, from j on -/
def rbN (x y : BitVec 64) (j : Nat) : Bool := rb x y (j : Int)
def partW (x y : BitVec 64) (i : Nat) : Nat → BitVec 8
  | 0 => 0
  | k + 1 => 2 * partW x y i k + (if rbN x y (8 * i + (7 - k)) = true then 1 else 0)

/-- the bytes put together up to the i-th -/
def plist (x y : BitVec 64) (i : Nat) : List (BitVec 8) := (List.range i).map fun i => partW x y i 8
def bxr (x y : BitVec 64) : Option Blk := some ⟨24, 0, false, .arr 1 (.arr 2 .leaf), .agg [.agg [.u64 x, .u64 y]]⟩
def Iw20 (x y : BitVec 64) (H : Heap) (q : Nat) (st : St) : Prop :=
  ∃ (i : Nat) (u1 u2 u3 u4 u5 : AV) (out : AV) (L : Heap), st = ⟨[.agg [.u64 x, .u64 y], .ptr H.length 0 [0] (.arr 2 .leaf), .str [], out, .int (i : Int), u1, u2, u3, u4, u5], H ++ bxr x y :: L⟩ ∧ q = 16 - i ∧ i ≤ 16 ∧
    ((i = 0 ∧ out = .nils ∧ L = []) ∨ (0 < i ∧ out = .own (H.length + 2) i [] 0 i .leaf ∧ ∃ T J, L = T :: some ⟨5, i, true, .arr i .leaf, .agg ((plist x y i).map .u8)⟩ :: J))
def Jw20 (x y : BitVec 64) (i : Nat) (out : AV) (G : Heap) (N : Nat) (q : Nat) (st : St) : Prop :=
  ∃ (c : Nat) (u4 u5 : AV), st = ⟨[.agg [.u64 x, .u64 y], .ptr N 0 [0] (.arr 2 .leaf), .str [], out, .int (i : Int), .u8 (partW x y i c), .int (7 - (c : Int)), .bool true, u4, u5], G⟩ ∧ q = 8 - c ∧ c ≤ 8

set_option maxHeartbeats 2000000 in
theorem f33 {K : AV → Heap → Prop} {H : Heap} {x y : BitVec 64} (h : K (.str (plist x y 16)) H) : wpF P G 33 [rowV x y] H K := by
  refine wpF_go c33 rfl 3 ?_
  intro ha hb
  simp only [s33, rowV]
  (refine gw0 ?_; try exact True.intro)
  refine wp_inv (Iw20 x y H) 16 ⟨0, _, _, _, _, _, _, [], rfl, rfl, by omega, .inl ⟨rfl, rfl, rfl⟩⟩ ?_
  rintro q st ⟨i, u1, u2, u3, u4, u5, out, L, rfl, rfl, hi, hc⟩
  by_cases hil : i < 16
  · have h1 : ((i : Int) < (16 : Int)) = True := by simp; omega
    (refine gw1 @h1 ?_; try exact True.intro)
    refine wp_inv (Jw20 x y i out (H ++ bxr x y :: L) H.length) 8 ⟨0, _, _, rfl, rfl, by omega⟩ ?_
    rintro q2 st2 ⟨c, w4, w5, rfl, rfl, hcc⟩
    by_cases hcl : c < 8
    · have h2 : ((0 : Int) ≤ 7 - (c : Int)) = True := by simp; omega
      have eb : ∀ k : Int, k = 8 * (i : Int) + (7 - (c : Int)) → rb x y k = rbN x y (8 * i + (7 - c)) := by
        rintro k rfl
        unfold rbN
        congr 1; omega
      unfold bxr
      (refine gw1 @h2 ?_; try exact True.intro)
      refine ⟨by omega, by omega, by omega, by omega, ?_⟩
      refine f51 ?_
      rw [eb _ rfl]
      have ep : partW x y i (c + 1) = 2 * partW x y i c + (if rbN x y (8 * i + (7 - c)) = true then 1 else 0) := rfl
      have ek : (7 : Int) - (c : Int) - 1 = 7 - ((c + 1 : Nat) : Int) := by omega
      cases hb2 : rbN x y (8 * i + (7 - c)) with
      | true =>
        rw [hb2, if_pos rfl] at ep
        (refine gw1 @h2 ?_; try exact True.intro)
        refine ⟨by omega, by omega, 8 - (c + 1), by omega, c + 1, _, _, by rw [ep, ← ek], rfl, by omega⟩
      | false =>
        rw [hb2, if_neg (by decide)] at ep
        have e0 : 2 * partW x y i c + 0 = 2 * partW x y i c := by simp
        rw [e0] at ep
        (refine gw1 @h2 ?_; try exact True.intro)
        refine ⟨by omega, by omega, 8 - (c + 1), by omega, c + 1, _, _, by rw [ep, ← ek], rfl, by omega⟩
    · have h2 : ((0 : Int) ≤ 7 - (c : Int)) = False := by simp; omega
      have hc8 : c = 8 := by omega
      have e : plist x y (i + 1) = plist x y i ++ [partW x y i c] := by
        rw [hc8]; unfold plist; rw [List.range_succ, List.map_append]; rfl
      rcases hc with ⟨rfl, rfl, rfl⟩ | ⟨hpos, rfl, T, J, rfl⟩
      · have e : plist x y 1 = [partW x y 0 c] := e
        (refine gw1 @h2 ?_; try exact True.intro)
        refine ⟨16 - (0 + 1), by omega, 0 + 1, _, _, _, _, _, _, _, rfl, rfl, by omega, .inr ⟨by omega, rfl, _, [], by rw [e]; rfl⟩⟩
      · (refine gw1 @h2 ?_; try exact True.intro)
        repeat (refine And.intro (by omega) ?_)
        refine ⟨16 - (i + 1), by omega, i + 1, _, _, _, _, _, _, _, rfl, rfl, by omega, .inr ⟨by omega, rfl, _, _, by rw [e, List.map_append]; rfl⟩⟩
  · have h1 : ((i : Int) < (16 : Int)) = False := by simp; omega
    have hie : i = 16 := by omega
    subst hie
    rcases hc with ⟨h0, _⟩ | ⟨hpos, rfl, T, J, rfl⟩
    · omega
    · have hall : List.take 16 ((plist x y 16).map AV.u8) = (plist x y 16).map AV.u8 := List.take_of_length_le (by simp [plist])
      (refine gw3 @h1 @hall @bytesOf_m ?_; try exact True.intro)
      exact h

/-! both say the same -/
theorem part_nat {x y : BitVec 64} {i c : Nat} {w : Nat} {s : Nat} (hw : ∀ j, j < 8 → rbN x y (8 * i + j) = decide (w / 2 ^ (s + j) % 2 = 1)) (hc : c ≤ 8) : (partW x y i c).toNat = w / 2 ^ (s + (8 - c)) % 2 ^ c := by
  induction c with
  | zero => simp [partW, Nat.mod_one]
  | succ c ih =>
    have ih := ih (by omega)
    have hlt : (partW x y i c).toNat < 2 ^ c := by rw [ih]; exact Nat.mod_lt _ (Nat.two_pow_pos c)
    have hle : 2 ^ (c + 1) ≤ 2 ^ 8 := Nat.pow_le_pow_right (by omega) hc
    have hp : 2 ^ (c + 1) = 2 ^ c * 2 := Nat.pow_succ 2 c
    have hb : (if rbN x y (8 * i + (7 - c)) = true then (1 : BitVec 8) else 0).toNat = w / 2 ^ (s + (7 - c)) % 2 := by
      rw [hw (7 - c) (by omega)]
      have h2 : w / 2 ^ (s + (7 - c)) % 2 = 0 ∨ w / 2 ^ (s + (7 - c)) % 2 = 1 := by omega
      rcases h2 with h2 | h2 <;> rw [h2] <;> rfl
    show (2 * partW x y i c + (if rbN x y (8 * i + (7 - c)) = true then 1 else 0)).toNat = _
    rw [BitVec.toNat_add, BitVec.toNat_mul, hb, show (2 : BitVec 8).toNat = 2 from rfl]
    have e1 : s + (8 - c) = s + (7 - c) + 1 := by omega
    have e2 : s + (8 - (c + 1)) = s + (7 - c) := by omega
    rw [e1, Nat.pow_succ, ← Nat.div_div_eq_div_mul] at ih
    rw [e2]
    generalize w / 2 ^ (s + (7 - c)) = u at *
    have hm : u % 2 ^ (c + 1) = u % 2 + 2 * (u / 2 % 2 ^ c) := by rw [Nat.pow_succ, Nat.mul_comm (2 ^ c) 2, Nat.mod_mul]
    rw [hm, ← ih]
    have : 2 ^ 8 = 256 := rfl
    omega

theorem bitd (x : BitVec 64) (j : Nat) : x.getLsbD j = decide (x.toNat / 2 ^ j % 2 = 1) := by
  rw [← BitVec.testBit_toNat, Nat.testBit_eq_decide_div_mod_eq]

theorem part_x {x y : BitVec 64} {i : Nat} (hi : i < 8) : partW x y i 8 = (x >>> (8 * i)).setWidth 8 := by
  apply BitVec.eq_of_toNat_eq
  rw [part_nat (w := x.toNat) (s := 8 * i) ?_ (Nat.le_refl _), BitVec.toNat_setWidth, BitVec.toNat_ushiftRight, Nat.shiftRight_eq_div_pow]
  · rfl
  · intro j hj
    unfold rbN rb
    rw [if_pos (by omega), ← bitd]
    rfl
theorem part_y {x y : BitVec 64} {i : Nat} (hi : i < 8) : partW x y (8 + i) 8 = (y >>> (8 * i)).setWidth 8 := by
  apply BitVec.eq_of_toNat_eq
  rw [part_nat (w := y.toNat) (s := 8 * i) ?_ (Nat.le_refl _), BitVec.toNat_setWidth, BitVec.toNat_ushiftRight, Nat.shiftRight_eq_div_pow]
  · rfl
  · intro j hj
    unfold rbN rb
    rw [if_neg (by omega), if_pos (by omega), ← bitd]
    congr 1; omega
theorem plist_row (x y : BitVec 64) : plist x y 16 = rowB x y := by
  have e : plist x y 16 = [partW x y 0 8, partW x y 1 8, partW x y 2 8, partW x y 3 8, partW x y 4 8, partW x y 5 8, partW x y 6 8, partW x y 7 8,
    partW x y (8 + 0) 8, partW x y (8 + 1) 8, partW x y (8 + 2) 8, partW x y (8 + 3) 8, partW x y (8 + 4) 8, partW x y (8 + 5) 8, partW x y (8 + 6) 8, partW x y (8 + 7) 8] := rfl
  rw [e, part_x (by omega), part_x (by omega), part_x (by omega), part_x (by omega), part_x (by omega), part_x (by omega), part_x (by omega), part_x (by omega),
    part_y (by omega), part_y (by omega), part_y (by omega), part_y (by omega), part_y (by omega), part_y (by omega), part_y (by omega), part_y (by omega)]
  rfl

/-! the law -/
theorem rb_xor (x y z w : BitVec 64) (k : Int) : rb (x ^^^ z) (y ^^^ w) k = (rb x y k != rb z w k) := by
  unfold rb
  split
  · simp
  · split
    · simp
    · rfl
theorem rb_zero (k : Int) : rb 0 0 k = false := by
  unfold rb; split
  · simp
  · split <;> simp

def Iw3 (x y z w u v : BitVec 64) (b : Bool) (i : AV) (G : Heap) (N : Nat) (q : Nat) (st : St) : Prop :=
  ∃ (k : Nat) (u2 u3 : AV), st = ⟨[.agg [.u64 x, .u64 y], .agg [.u64 z, .u64 w], i, .bool b, .ptr N 0 [0] (.arr 2 .leaf), .ptr (N + 1) 0 [0] (.arr 2 .leaf), .bool false, .ptr (N + 2) 0 [0] (.arr 2 .leaf), .ptr (N + 3) 0 [0] (.arr 2 .leaf), .int (k : Int), .bool false, u2, u3], G⟩ ∧ q = 128 - k ∧ k ≤ 128

end Go.Proofs.YtjilenmngokhpaaDoor

end

section
/-
  Layer 18 (rot): the seeds of rows, as the program and the reference have them; the chapter's example.
-/
open Go Go.V
namespace Go.Proofs.YtjilenmngokhpaaDoor
/-- trefoil/rot.number (0:n, 2:, 3:b, 4:i, 7:, 8:, 9:) -/
def s30 : FnS := ⟨23, [0, 2, 3, 4, 7, 8, 9],
    (.seq (.reg [⟨.var 1, (.q .mv), [.c (.str [])], none⟩])
    (.seq (.reg [⟨.new, (.e (.mksl 5 .leaf 1 (.u8 0))), [.c (.int 8), .c (.int 8)], none⟩,
      ⟨.var 2, (.q .mv), [.t 7], none⟩])
    (.seq (.seq (.reg [⟨.new, (.q .mv), [.t 2], none⟩,
      ⟨.var 4, (.q .len), [.t 7], none⟩,
      ⟨.var 5, (.q .mv), [.c (.int 0)], none⟩])
    (.block 0 (.loop (.seq (.reg [⟨.var 6, (.q (.bin .lss)), [.t 5, .t 4], none⟩])
    (.seq (.cond (.t 6) .skip
    (.exit 0))
    (.seq (.block 1 (.seq (.reg [⟨.new, (.q .mv), [.t 5], none⟩,
      ⟨.var 3, (.q .mv), [.t 7], none⟩])
    (.reg [⟨.new, (.q .mv), [.t 2], none⟩,
      ⟨.new, (.q .mv), [.t 3], none⟩,
      ⟨.new, (.q .mv), [.t 0], none⟩,
      ⟨.new, (.q .mv), [.t 3], none⟩,
      ⟨.new, (.q (.bin .mul)), [.c (.int 8), .t 10], none⟩,
      ⟨.new, (.q (.cv .u64)), [.t 11], none⟩,
      ⟨.new, (.q (.bin .shr)), [.t 9, .t 12], none⟩,
      ⟨.new, (.q (.cv .u8)), [.t 13], none⟩,
      ⟨.new, (.q (.iaS .leaf)), [.t 7, .t 8], none⟩,
      ⟨.none, (.e (.store .leaf)), [.t 15, .t 14], none⟩])))
    (.reg [⟨.new, (.q (.bin .add)), [.t 5, .c (.int 1)], none⟩,
      ⟨.var 5, (.q .mv), [.t 7], none⟩])))))))
    (.seq (.reg [⟨.new, (.q .mv), [.t 2], none⟩,
      ⟨.new, (.q .b2s), [.t 7], none⟩,
      ⟨.var 1, (.q .mv), [.t 8], none⟩])
    .ret)))),
    [.t 1]⟩

/-- trefoil/rot.Hash (0:n, 1:r, 3:r, 4:) -/
def s8 : FnS := ⟨11, [0, 1, 3, 4],
    (.seq (.reg [⟨.var 2, (.e (.box 24 (.arr 2 .leaf))), [.t 1], none⟩,
      ⟨.var 3, (.e (.alloc 28 (.arr 32 .leaf) (.agg [(.u8 0), (.u8 0), (.u8 0), (.u8 0), (.u8 0), (.u8 0), (.u8 0), (.u8 0), (.u8 0), (.u8 0), (.u8 0), (.u8 0), (.u8 0), (.u8 0), (.u8 0), (.u8 0), (.u8 0), (.u8 0), (.u8 0), (.u8 0), (.u8 0), (.u8 0), (.u8 0), (.u8 0), (.u8 0), (.u8 0), (.u8 0), (.u8 0), (.u8 0), (.u8 0), (.u8 0), (.u8 0)]))), [], none⟩])
    (.seq (.draw [⟨.new, (.q .mv), [.t 0], none⟩,
      ⟨.new, (.call 30), [.t 4], none⟩,
      ⟨.new, (.q (.ld (.arr 2 .leaf))), [.t 2], none⟩,
      ⟨.new, (.call 31), [.t 6], none⟩,
      ⟨.new, (.e (.bsl 9 .leaf (.str []) 2 [0, 1])), [.t 5, .t 7], none⟩,
      ⟨.new, (.call 29), [.c (.str [114, 111, 116]), .t 8], none⟩,
      ⟨.none, (.e (.store (.arr 32 .leaf))), [.t 3, .t 9], none⟩])
    .ret)),
    [.cell 3 (.arr 32 .leaf)]⟩

/-- trefoil/trefoilref18.Hash (0:n, 1:r, 3:r, 4:, 5:b, 6:i, 8:) -/
def s9 : FnS := ⟨25, [0, 1, 3, 4, 5, 6, 8],
    (.seq (.reg [⟨.var 2, (.e (.box 24 (.arr 2 .leaf))), [.t 1], none⟩,
      ⟨.var 3, (.e (.alloc 28 (.arr 32 .leaf) (.agg [(.u8 0), (.u8 0), (.u8 0), (.u8 0), (.u8 0), (.u8 0), (.u8 0), (.u8 0), (.u8 0), (.u8 0), (.u8 0), (.u8 0), (.u8 0), (.u8 0), (.u8 0), (.u8 0), (.u8 0), (.u8 0), (.u8 0), (.u8 0), (.u8 0), (.u8 0), (.u8 0), (.u8 0), (.u8 0), (.u8 0), (.u8 0), (.u8 0), (.u8 0), (.u8 0), (.u8 0), (.u8 0)]))), [], none⟩])
    (.seq (.reg [⟨.var 4, (.q .mv), [.c .nils], none⟩])
    (.seq (.seq (.reg [⟨.var 5, (.q .mv), [.c (.int 0)], none⟩])
    (.block 0 (.loop (.seq (.seq (.reg [⟨.new, (.q .mv), [.t 5], none⟩,
      ⟨.var 6, (.q (.bin .lss)), [.t 7, .c (.int 8)], none⟩])
    (.cond (.t 6) .skip
    (.exit 0)))
    (.seq (.block 1 (.seq (.reg [⟨.new, (.q .mv), [.t 4], none⟩,
      ⟨.new, (.q .mv), [.t 0], none⟩,
      ⟨.new, (.q (.bin .rem)), [.t 8, .c (.u64 256)], none⟩,
      ⟨.new, (.q (.cv .u8)), [.t 9], none⟩,
      ⟨.new, (.e (.bsl 5 .leaf (.u8 0) 1 [0])), [.t 10], none⟩,
      ⟨.new, (.e (.app 5 .leaf 1)), [.t 7, .t 11], none⟩,
      ⟨.var 4, (.q .mv), [.t 12], none⟩])
    (.reg [⟨.new, (.q .mv), [.t 0], none⟩,
      ⟨.new, (.q (.bin .quo)), [.t 7, .c (.u64 256)], none⟩,
      ⟨.var 0, (.q .mv), [.t 8], none⟩])))
    (.reg [⟨.new, (.q .mv), [.t 5], none⟩,
      ⟨.new, (.q (.bin .add)), [.t 7, .c (.int 1)], none⟩,
      ⟨.var 5, (.q .mv), [.t 8], none⟩]))))))
    (.seq (.draw [⟨.new, (.q .mv), [.t 4], none⟩,
      ⟨.new, (.q .b2s), [.t 7], none⟩,
      ⟨.new, (.q (.ld (.arr 2 .leaf))), [.t 2], none⟩,
      ⟨.new, (.call 33), [.t 9], none⟩,
      ⟨.new, (.e (.bsl 9 .leaf (.str []) 2 [0, 1])), [.t 8, .t 10], none⟩,
      ⟨.new, (.call 32), [.c (.str [114, 111, 116]), .t 11], none⟩,
      ⟨.none, (.e (.store (.arr 32 .leaf))), [.t 3, .t 12], none⟩])
    .ret)))),
    [.cell 3 (.arr 32 .leaf)]⟩

/-- trefoil/rot.Send (0:delta, 1:from, 2:rows, 3:delta, 6:, 7:out, 8:j, 9:q, 10:n, 14:, 15:, 16:, 17:) -/
def s11 : FnS := ⟨39, [0, 1, 2, 3, 6, 7, 8, 9, 10, 14, 15, 16, 17],
    (.seq (.reg [⟨.var 3, (.e (.box 24 (.arr 2 .leaf))), [.t 0], none⟩,
      ⟨.var 4, (.q .mv), [.c .nils], none⟩])
    (.seq (.reg [⟨.new, (.q .mv), [.t 2], none⟩,
      ⟨.new, (.q .len), [.t 13], none⟩,
      ⟨.new, (.e (.mksl 74 (.st [(.arr 32 .leaf), (.arr 32 .leaf)]) 64 (.agg [(.agg [(.u8 0), (.u8 0), (.u8 0), (.u8 0), (.u8 0), (.u8 0), (.u8 0), (.u8 0), (.u8 0), (.u8 0), (.u8 0), (.u8 0), (.u8 0), (.u8 0), (.u8 0), (.u8 0), (.u8 0), (.u8 0), (.u8 0), (.u8 0), (.u8 0), (.u8 0), (.u8 0), (.u8 0), (.u8 0), (.u8 0), (.u8 0), (.u8 0), (.u8 0), (.u8 0), (.u8 0), (.u8 0)]), (.agg [(.u8 0), (.u8 0), (.u8 0), (.u8 0), (.u8 0), (.u8 0), (.u8 0), (.u8 0), (.u8 0), (.u8 0), (.u8 0), (.u8 0), (.u8 0), (.u8 0), (.u8 0), (.u8 0), (.u8 0), (.u8 0), (.u8 0), (.u8 0), (.u8 0), (.u8 0), (.u8 0), (.u8 0), (.u8 0), (.u8 0), (.u8 0), (.u8 0), (.u8 0), (.u8 0), (.u8 0), (.u8 0)])]))), [.c (.int 0), .t 14], none⟩,
      ⟨.var 5, (.q .mv), [.t 15], none⟩])
    (.seq (.seq (.reg [⟨.var 9, (.q .mv), [.t 2], none⟩,
      ⟨.var 10, (.q .len), [.t 9], none⟩,
      ⟨.var 11, (.q .mv), [.c (.int 0)], none⟩])
    (.block 0 (.loop (.seq (.reg [⟨.var 12, (.q (.bin .lss)), [.t 11, .t 10], none⟩])
    (.seq (.cond (.t 12) .skip
    (.exit 0))
    (.seq (.block 1 (.seq (.reg [⟨.new, (.q .mv), [.t 11], none⟩,
      ⟨.new, (.q (.iaS (.arr 2 .leaf))), [.t 9, .t 11], none⟩,
      ⟨.new, (.q (.ld (.arr 2 .leaf))), [.t 14], none⟩,
      ⟨.var 7, (.e (.alloc 24 (.arr 2 .leaf) (.agg [(.u64 0), (.u64 0)]))), [], none⟩,
      ⟨.var 6, (.q .mv), [.t 13], none⟩,
      ⟨.none, (.e (.store (.arr 2 .leaf))), [.t 7, .t 15], none⟩])
    (.seq (.reg [⟨.new, (.q .mv), [.t 1], none⟩,
      ⟨.new, (.q .mv), [.t 6], none⟩,
      ⟨.new, (.q (.cv .u64)), [.t 14], none⟩,
      ⟨.new, (.q (.bin .add)), [.t 13, .t 15], none⟩,
      ⟨.var 8, (.q .mv), [.t 16], none⟩])
    (.draw [⟨.new, (.q .mv), [.t 5], none⟩,
      ⟨.new, (.q .mv), [.t 8], none⟩,
      ⟨.new, (.q (.ld (.arr 2 .leaf))), [.t 7], none⟩,
      ⟨.new, (.call 8), [.t 14, .t 15], none⟩,
      ⟨.new, (.q .mv), [.t 8], none⟩,
      ⟨.new, (.q (.ld (.arr 2 .leaf))), [.t 7], none⟩,
      ⟨.new, (.q (.ld (.arr 2 .leaf))), [.t 3], none⟩,
      ⟨.new, (.call 34), [.t 18, .t 19], none⟩,
      ⟨.new, (.call 8), [.t 17, .t 20], none⟩,
      ⟨.new, (.e (.bld (.st [(.arr 32 .leaf), (.arr 32 .leaf)]) (.agg [(.agg [(.u8 0), (.u8 0), (.u8 0), (.u8 0), (.u8 0), (.u8 0), (.u8 0), (.u8 0), (.u8 0), (.u8 0), (.u8 0), (.u8 0), (.u8 0), (.u8 0), (.u8 0), (.u8 0), (.u8 0), (.u8 0), (.u8 0), (.u8 0), (.u8 0), (.u8 0), (.u8 0), (.u8 0), (.u8 0), (.u8 0), (.u8 0), (.u8 0), (.u8 0), (.u8 0), (.u8 0), (.u8 0)]), (.agg [(.u8 0), (.u8 0), (.u8 0), (.u8 0), (.u8 0), (.u8 0), (.u8 0), (.u8 0), (.u8 0), (.u8 0), (.u8 0), (.u8 0), (.u8 0), (.u8 0), (.u8 0), (.u8 0), (.u8 0), (.u8 0), (.u8 0), (.u8 0), (.u8 0), (.u8 0), (.u8 0), (.u8 0), (.u8 0), (.u8 0), (.u8 0), (.u8 0), (.u8 0), (.u8 0), (.u8 0), (.u8 0)])]) [0, 1])), [.t 16, .t 21], none⟩,
      ⟨.new, (.e (.bsl 74 (.st [(.arr 32 .leaf), (.arr 32 .leaf)]) (.agg [(.agg [(.u8 0), (.u8 0), (.u8 0), (.u8 0), (.u8 0), (.u8 0), (.u8 0), (.u8 0), (.u8 0), (.u8 0), (.u8 0), (.u8 0), (.u8 0), (.u8 0), (.u8 0), (.u8 0), (.u8 0), (.u8 0), (.u8 0), (.u8 0), (.u8 0), (.u8 0), (.u8 0), (.u8 0), (.u8 0), (.u8 0), (.u8 0), (.u8 0), (.u8 0), (.u8 0), (.u8 0), (.u8 0)]), (.agg [(.u8 0), (.u8 0), (.u8 0), (.u8 0), (.u8 0), (.u8 0), (.u8 0), (.u8 0), (.u8 0), (.u8 0), (.u8 0), (.u8 0), (.u8 0), (.u8 0), (.u8 0), (.u8 0), (.u8 0), (.u8 0), (.u8 0), (.u8 0), (.u8 0), (.u8 0), (.u8 0), (.u8 0), (.u8 0), (.u8 0), (.u8 0), (.u8 0), (.u8 0), (.u8 0), (.u8 0), (.u8 0)])]) 1 [0])), [.t 22], none⟩,
      ⟨.new, (.e (.app 74 (.st [(.arr 32 .leaf), (.arr 32 .leaf)]) 64)), [.t 13, .t 23], none⟩,
      ⟨.var 5, (.q .mv), [.t 24], none⟩]))))
    (.reg [⟨.new, (.q (.bin .add)), [.t 11, .c (.int 1)], none⟩,
      ⟨.var 11, (.q .mv), [.t 13], none⟩])))))))
    (.seq (.reg [⟨.new, (.q .mv), [.t 5], none⟩,
      ⟨.var 4, (.q .mv), [.t 13], none⟩])
    .ret)))),
    [.t 4]⟩

/-- trefoil/trefoilref18.Send (0:delta, 1:from, 2:rows, 3:delta, 6:, 7:out, 8:j, 9:n, 13:) -/
def s12 : FnS := ⟨50, [0, 1, 2, 3, 6, 7, 8, 9, 13],
    (.seq (.reg [⟨.var 3, (.e (.box 24 (.arr 2 .leaf))), [.t 0], none⟩,
      ⟨.var 4, (.q .mv), [.c .nils], none⟩])
    (.seq (.reg [⟨.var 5, (.q .mv), [.c .nils], none⟩])
    (.seq (.seq (.reg [⟨.var 6, (.q .mv), [.c (.int 0)], none⟩])
    (.block 0 (.loop (.seq (.seq (.reg [⟨.new, (.q .mv), [.t 6], none⟩,
      ⟨.new, (.q .mv), [.t 2], none⟩,
      ⟨.new, (.q .len), [.t 10], none⟩,
      ⟨.var 8, (.q (.bin .lss)), [.t 9, .t 11], none⟩])
    (.cond (.t 8) .skip
    (.exit 0)))
    (.seq (.block 1 (.seq (.reg [⟨.new, (.q .mv), [.t 1], none⟩,
      ⟨.new, (.q .mv), [.t 6], none⟩,
      ⟨.new, (.q (.cv .u64)), [.t 10], none⟩,
      ⟨.new, (.q (.bin .add)), [.t 9, .t 11], none⟩,
      ⟨.var 7, (.q .mv), [.t 12], none⟩])
    (.draw [⟨.new, (.q .mv), [.t 5], none⟩,
      ⟨.new, (.q .mv), [.t 7], none⟩,
      ⟨.new, (.q .mv), [.t 2], none⟩,
      ⟨.new, (.q .mv), [.t 6], none⟩,
      ⟨.new, (.q (.iaS (.arr 2 .leaf))), [.t 11, .t 12], none⟩,
      ⟨.new, (.q (.ld (.arr 2 .leaf))), [.t 13], none⟩,
      ⟨.new, (.call 9), [.t 10, .t 14], none⟩,
      ⟨.new, (.q .mv), [.t 7], none⟩,
      ⟨.new, (.q .mv), [.t 2], none⟩,
      ⟨.new, (.q .mv), [.t 6], none⟩,
      ⟨.new, (.q (.iaS (.arr 2 .leaf))), [.t 17, .t 18], none⟩,
      ⟨.new, (.q (.iaA 2 .leaf)), [.t 19, .c (.int 0)], none⟩,
      ⟨.new, (.q (.ld .leaf)), [.t 20], none⟩,
      ⟨.new, (.q (.iaA 2 .leaf)), [.t 3, .c (.int 0)], none⟩,
      ⟨.new, (.q (.ld .leaf)), [.t 22], none⟩,
      ⟨.new, (.q (.bin .xor)), [.t 21, .t 23], none⟩,
      ⟨.new, (.q .mv), [.t 2], none⟩,
      ⟨.new, (.q .mv), [.t 6], none⟩,
      ⟨.new, (.q (.iaS (.arr 2 .leaf))), [.t 25, .t 26], none⟩,
      ⟨.new, (.q (.iaA 2 .leaf)), [.t 27, .c (.int 1)], none⟩,
      ⟨.new, (.q (.ld .leaf)), [.t 28], none⟩,
      ⟨.new, (.q (.iaA 2 .leaf)), [.t 3, .c (.int 1)], none⟩,
      ⟨.new, (.q (.ld .leaf)), [.t 30], none⟩,
      ⟨.new, (.q (.bin .xor)), [.t 29, .t 31], none⟩,
      ⟨.new, (.e (.bld (.arr 2 .leaf) (.agg [(.u64 0), (.u64 0)]) [0, 1])), [.t 24, .t 32], none⟩,
      ⟨.new, (.call 9), [.t 16, .t 33], none⟩,
      ⟨.new, (.e (.bld (.st [(.arr 32 .leaf), (.arr 32 .leaf)]) (.agg [(.agg [(.u8 0), (.u8 0), (.u8 0), (.u8 0), (.u8 0), (.u8 0), (.u8 0), (.u8 0), (.u8 0), (.u8 0), (.u8 0), (.u8 0), (.u8 0), (.u8 0), (.u8 0), (.u8 0), (.u8 0), (.u8 0), (.u8 0), (.u8 0), (.u8 0), (.u8 0), (.u8 0), (.u8 0), (.u8 0), (.u8 0), (.u8 0), (.u8 0), (.u8 0), (.u8 0), (.u8 0), (.u8 0)]), (.agg [(.u8 0), (.u8 0), (.u8 0), (.u8 0), (.u8 0), (.u8 0), (.u8 0), (.u8 0), (.u8 0), (.u8 0), (.u8 0), (.u8 0), (.u8 0), (.u8 0), (.u8 0), (.u8 0), (.u8 0), (.u8 0), (.u8 0), (.u8 0), (.u8 0), (.u8 0), (.u8 0), (.u8 0), (.u8 0), (.u8 0), (.u8 0), (.u8 0), (.u8 0), (.u8 0), (.u8 0), (.u8 0)])]) [0, 1])), [.t 15, .t 34], none⟩,
      ⟨.new, (.e (.bsl 47 (.st [(.arr 32 .leaf), (.arr 32 .leaf)]) (.agg [(.agg [(.u8 0), (.u8 0), (.u8 0), (.u8 0), (.u8 0), (.u8 0), (.u8 0), (.u8 0), (.u8 0), (.u8 0), (.u8 0), (.u8 0), (.u8 0), (.u8 0), (.u8 0), (.u8 0), (.u8 0), (.u8 0), (.u8 0), (.u8 0), (.u8 0), (.u8 0), (.u8 0), (.u8 0), (.u8 0), (.u8 0), (.u8 0), (.u8 0), (.u8 0), (.u8 0), (.u8 0), (.u8 0)]), (.agg [(.u8 0), (.u8 0), (.u8 0), (.u8 0), (.u8 0), (.u8 0), (.u8 0), (.u8 0), (.u8 0), (.u8 0), (.u8 0), (.u8 0), (.u8 0), (.u8 0), (.u8 0), (.u8 0), (.u8 0), (.u8 0), (.u8 0), (.u8 0), (.u8 0), (.u8 0), (.u8 0), (.u8 0), (.u8 0), (.u8 0), (.u8 0), (.u8 0), (.u8 0), (.u8 0), (.u8 0), (.u8 0)])]) 1 [0])), [.t 35], none⟩,
      ⟨.new, (.e (.app 47 (.st [(.arr 32 .leaf), (.arr 32 .leaf)]) 64)), [.t 9, .t 36], none⟩,
      ⟨.var 5, (.q .mv), [.t 37], none⟩])))
    (.reg [⟨.new, (.q .mv), [.t 6], none⟩,
      ⟨.new, (.q (.bin .add)), [.t 9, .c (.int 1)], none⟩,
      ⟨.var 6, (.q .mv), [.t 10], none⟩]))))))
    (.seq (.reg [⟨.new, (.q .mv), [.t 5], none⟩,
      ⟨.var 4, (.q .mv), [.t 9], none⟩])
    .ret)))),
    [.t 4]⟩

/-- trefoil/rot.Receive (0:from, 1:rows, 4:, 5:out, 6:j, 7:t, 11:, 12:, 13:, 14:) -/
def s14 : FnS := ⟨29, [0, 1, 4, 5, 6, 7, 11, 12, 13, 14],
    (.seq (.reg [⟨.var 2, (.q .mv), [.c .nils], none⟩])
    (.seq (.reg [⟨.new, (.q .mv), [.t 1], none⟩,
      ⟨.new, (.q .len), [.t 10], none⟩,
      ⟨.new, (.e (.mksl 28 (.arr 32 .leaf) 32 (.agg [(.u8 0), (.u8 0), (.u8 0), (.u8 0), (.u8 0), (.u8 0), (.u8 0), (.u8 0), (.u8 0), (.u8 0), (.u8 0), (.u8 0), (.u8 0), (.u8 0), (.u8 0), (.u8 0), (.u8 0), (.u8 0), (.u8 0), (.u8 0), (.u8 0), (.u8 0), (.u8 0), (.u8 0), (.u8 0), (.u8 0), (.u8 0), (.u8 0), (.u8 0), (.u8 0), (.u8 0), (.u8 0)]))), [.c (.int 0), .t 11], none⟩,
      ⟨.var 3, (.q .mv), [.t 12], none⟩])
    (.seq (.seq (.reg [⟨.var 6, (.q .mv), [.t 1], none⟩,
      ⟨.var 7, (.q .len), [.t 6], none⟩,
      ⟨.var 8, (.q .mv), [.c (.int 0)], none⟩])
    (.block 0 (.loop (.seq (.reg [⟨.var 9, (.q (.bin .lss)), [.t 8, .t 7], none⟩])
    (.seq (.cond (.t 9) .skip
    (.exit 0))
    (.seq (.block 1 (.seq (.reg [⟨.new, (.q .mv), [.t 8], none⟩,
      ⟨.new, (.q (.iaS (.arr 2 .leaf))), [.t 6, .t 8], none⟩,
      ⟨.new, (.q (.ld (.arr 2 .leaf))), [.t 11], none⟩,
      ⟨.var 5, (.e (.alloc 24 (.arr 2 .leaf) (.agg [(.u64 0), (.u64 0)]))), [], none⟩,
      ⟨.var 4, (.q .mv), [.t 10], none⟩,
      ⟨.none, (.e (.store (.arr 2 .leaf))), [.t 5, .t 12], none⟩])
    (.reg [⟨.new, (.q .mv), [.t 3], none⟩,
      ⟨.new, (.q .mv), [.t 0], none⟩,
      ⟨.new, (.q .mv), [.t 4], none⟩,
      ⟨.new, (.q (.cv .u64)), [.t 12], none⟩,
      ⟨.new, (.q (.bin .add)), [.t 11, .t 13], none⟩,
      ⟨.new, (.q (.ld (.arr 2 .leaf))), [.t 5], none⟩,
      ⟨.new, (.call 8), [.t 14, .t 15], none⟩,
      ⟨.new, (.e (.bsl 28 (.arr 32 .leaf) (.agg [(.u8 0), (.u8 0), (.u8 0), (.u8 0), (.u8 0), (.u8 0), (.u8 0), (.u8 0), (.u8 0), (.u8 0), (.u8 0), (.u8 0), (.u8 0), (.u8 0), (.u8 0), (.u8 0), (.u8 0), (.u8 0), (.u8 0), (.u8 0), (.u8 0), (.u8 0), (.u8 0), (.u8 0), (.u8 0), (.u8 0), (.u8 0), (.u8 0), (.u8 0), (.u8 0), (.u8 0), (.u8 0)]) 1 [0])), [.t 16], none⟩,
      ⟨.new, (.e (.app 28 (.arr 32 .leaf) 32)), [.t 10, .t 17], none⟩,
      ⟨.var 3, (.q .mv), [.t 18], none⟩])))
    (.reg [⟨.new, (.q (.bin .add)), [.t 8, .c (.int 1)], none⟩,
      ⟨.var 8, (.q .mv), [.t 10], none⟩])))))))
    (.seq (.reg [⟨.new, (.q .mv), [.t 3], none⟩,
      ⟨.var 2, (.q .mv), [.t 10], none⟩])
    .ret)))),
    [.t 2]⟩

/-- trefoil/trefoilref18.Receive (0:from, 1:rows, 4:, 5:out, 6:j, 10:) -/
def s15 : FnS := ⟨26, [0, 1, 4, 5, 6, 10],
    (.seq (.reg [⟨.var 2, (.q .mv), [.c .nils], none⟩])
    (.seq (.reg [⟨.var 3, (.q .mv), [.c .nils], none⟩])
    (.seq (.seq (.reg [⟨.var 4, (.q .mv), [.c (.int 0)], none⟩])
    (.block 0 (.loop (.seq (.seq (.reg [⟨.new, (.q .mv), [.t 4], none⟩,
      ⟨.new, (.q .mv), [.t 1], none⟩,
      ⟨.new, (.q .len), [.t 7], none⟩,
      ⟨.var 5, (.q (.bin .lss)), [.t 6, .t 8], none⟩])
    (.cond (.t 5) .skip
    (.exit 0)))
    (.seq (.block 1 (.reg [⟨.new, (.q .mv), [.t 3], none⟩,
      ⟨.new, (.q .mv), [.t 0], none⟩,
      ⟨.new, (.q .mv), [.t 4], none⟩,
      ⟨.new, (.q (.cv .u64)), [.t 8], none⟩,
      ⟨.new, (.q (.bin .add)), [.t 7, .t 9], none⟩,
      ⟨.new, (.q .mv), [.t 1], none⟩,
      ⟨.new, (.q .mv), [.t 4], none⟩,
      ⟨.new, (.q (.iaS (.arr 2 .leaf))), [.t 11, .t 12], none⟩,
      ⟨.new, (.q (.ld (.arr 2 .leaf))), [.t 13], none⟩,
      ⟨.new, (.call 9), [.t 10, .t 14], none⟩,
      ⟨.new, (.e (.bsl 28 (.arr 32 .leaf) (.agg [(.u8 0), (.u8 0), (.u8 0), (.u8 0), (.u8 0), (.u8 0), (.u8 0), (.u8 0), (.u8 0), (.u8 0), (.u8 0), (.u8 0), (.u8 0), (.u8 0), (.u8 0), (.u8 0), (.u8 0), (.u8 0), (.u8 0), (.u8 0), (.u8 0), (.u8 0), (.u8 0), (.u8 0), (.u8 0), (.u8 0), (.u8 0), (.u8 0), (.u8 0), (.u8 0), (.u8 0), (.u8 0)]) 1 [0])), [.t 15], none⟩,
      ⟨.new, (.e (.app 28 (.arr 32 .leaf) 32)), [.t 6, .t 16], none⟩,
      ⟨.var 3, (.q .mv), [.t 17], none⟩]))
    (.reg [⟨.new, (.q .mv), [.t 4], none⟩,
      ⟨.new, (.q (.bin .add)), [.t 6, .c (.int 1)], none⟩,
      ⟨.var 4, (.q .mv), [.t 7], none⟩]))))))
    (.seq (.reg [⟨.new, (.q .mv), [.t 3], none⟩,
      ⟨.var 2, (.q .mv), [.t 6], none⟩])
    .ret)))),
    [.t 2]⟩

/-- trefoil/trefoillaw18.same (0:a, 1:b, 4:, 5:i, 10:, 14:, 40:) -/
def s10 : FnS := ⟨41, [0, 1, 4, 5, 10, 14, 40],
    (.seq (.reg [⟨.var 2, (.q .mv), [.c (.bool false)], none⟩])
    (.seq (.seq (.reg [⟨.new, (.q .mv), [.t 0], none⟩,
      ⟨.new, (.q .len), [.t 7], none⟩,
      ⟨.new, (.q .mv), [.t 1], none⟩,
      ⟨.new, (.q .len), [.t 9], none⟩,
      ⟨.var 4, (.q (.bin .neq)), [.t 8, .t 10], none⟩])
    (.cond (.t 4) (.seq (.reg [⟨.var 2, (.q .mv), [.c (.bool false)], none⟩])
    .ret)
    .skip))
    (.seq (.seq (.reg [⟨.var 3, (.q .mv), [.c (.int 0)], none⟩])
    (.block 0 (.loop (.seq (.seq (.reg [⟨.new, (.q .mv), [.t 3], none⟩,
      ⟨.new, (.q .mv), [.t 0], none⟩,
      ⟨.new, (.q .len), [.t 8], none⟩,
      ⟨.var 5, (.q (.bin .lss)), [.t 7, .t 9], none⟩])
    (.cond (.t 5) .skip
    (.exit 0)))
    (.seq (.block 1 (.seq (.draw [⟨.new, (.q .mv), [.t 0], none⟩,
      ⟨.new, (.q .mv), [.t 3], none⟩,
      ⟨.new, (.q (.iaS (.st [(.arr 32 .leaf), (.arr 32 .leaf)]))), [.t 7, .t 8], none⟩,
      ⟨.new, (.q (.fa [(.arr 32 .leaf), (.arr 32 .leaf)] 0)), [.t 9], none⟩,
      ⟨.new, (.q (.ld (.arr 32 .leaf))), [.t 10], none⟩,
      ⟨.new, (.q .mv), [.t 1], none⟩,
      ⟨.new, (.q .mv), [.t 3], none⟩,
      ⟨.new, (.q (.iaS (.st [(.arr 32 .leaf), (.arr 32 .leaf)]))), [.t 12, .t 13], none⟩,
      ⟨.new, (.q (.fa [(.arr 32 .leaf), (.arr 32 .leaf)] 0)), [.t 14], none⟩,
      ⟨.new, (.q (.ld (.arr 32 .leaf))), [.t 15], none⟩,
      ⟨.new, (.q (.eqA true 32 .u8)), [.t 11, .t 16], none⟩,
      ⟨.new, (.q .mv), [.t 17], none⟩,
      ⟨.new, (.q .mv), [.t 0], (some (18, false))⟩,
      ⟨.new, (.q .mv), [.t 3], (some (18, false))⟩,
      ⟨.new, (.q (.iaS (.st [(.arr 32 .leaf), (.arr 32 .leaf)]))), [.t 19, .t 20], (some (18, false))⟩,
      ⟨.new, (.q (.fa [(.arr 32 .leaf), (.arr 32 .leaf)] 1)), [.t 21], (some (18, false))⟩,
      ⟨.new, (.q (.ld (.arr 32 .leaf))), [.t 22], (some (18, false))⟩,
      ⟨.new, (.q .mv), [.t 1], (some (18, false))⟩,
      ⟨.new, (.q .mv), [.t 3], (some (18, false))⟩,
      ⟨.new, (.q (.iaS (.st [(.arr 32 .leaf), (.arr 32 .leaf)]))), [.t 24, .t 25], (some (18, false))⟩,
      ⟨.new, (.q (.fa [(.arr 32 .leaf), (.arr 32 .leaf)] 1)), [.t 26], (some (18, false))⟩,
      ⟨.new, (.q (.ld (.arr 32 .leaf))), [.t 27], (some (18, false))⟩,
      ⟨.new, (.q (.eqA true 32 .u8)), [.t 23, .t 28], (some (18, false))⟩,
      ⟨.var 6, (.q .pick), [.t 18, .c (.bool true), .t 29], none⟩])
    (.cond (.t 6) (.seq (.reg [⟨.var 2, (.q .mv), [.c (.bool false)], none⟩])
    .ret)
    .skip)))
    (.reg [⟨.new, (.q .mv), [.t 3], none⟩,
      ⟨.new, (.q (.bin .add)), [.t 7, .c (.int 1)], none⟩,
      ⟨.var 3, (.q .mv), [.t 8], none⟩]))))))
    (.seq (.reg [⟨.var 2, (.q .mv), [.c (.bool true)], none⟩])
    .ret)))),
    [.t 2]⟩

/-- trefoil/trefoillaw18.seeds (0:a, 1:b, 4:, 5:i, 10:, 14:, 25:) -/
def s13 : FnS := ⟨26, [0, 1, 4, 5, 10, 14, 25],
    (.seq (.reg [⟨.var 2, (.q .mv), [.c (.bool false)], none⟩])
    (.seq (.seq (.reg [⟨.new, (.q .mv), [.t 0], none⟩,
      ⟨.new, (.q .len), [.t 7], none⟩,
      ⟨.new, (.q .mv), [.t 1], none⟩,
      ⟨.new, (.q .len), [.t 9], none⟩,
      ⟨.var 4, (.q (.bin .neq)), [.t 8, .t 10], none⟩])
    (.cond (.t 4) (.seq (.reg [⟨.var 2, (.q .mv), [.c (.bool false)], none⟩])
    .ret)
    .skip))
    (.seq (.seq (.reg [⟨.var 3, (.q .mv), [.c (.int 0)], none⟩])
    (.block 0 (.loop (.seq (.seq (.reg [⟨.new, (.q .mv), [.t 3], none⟩,
      ⟨.new, (.q .mv), [.t 0], none⟩,
      ⟨.new, (.q .len), [.t 8], none⟩,
      ⟨.var 5, (.q (.bin .lss)), [.t 7, .t 9], none⟩])
    (.cond (.t 5) .skip
    (.exit 0)))
    (.seq (.block 1 (.seq (.draw [⟨.new, (.q .mv), [.t 0], none⟩,
      ⟨.new, (.q .mv), [.t 3], none⟩,
      ⟨.new, (.q (.iaS (.arr 32 .leaf))), [.t 7, .t 8], none⟩,
      ⟨.new, (.q (.ld (.arr 32 .leaf))), [.t 9], none⟩,
      ⟨.new, (.q .mv), [.t 1], none⟩,
      ⟨.new, (.q .mv), [.t 3], none⟩,
      ⟨.new, (.q (.iaS (.arr 32 .leaf))), [.t 11, .t 12], none⟩,
      ⟨.new, (.q (.ld (.arr 32 .leaf))), [.t 13], none⟩,
      ⟨.var 6, (.q (.eqA true 32 .u8)), [.t 10, .t 14], none⟩])
    (.cond (.t 6) (.seq (.reg [⟨.var 2, (.q .mv), [.c (.bool false)], none⟩])
    .ret)
    .skip)))
    (.reg [⟨.new, (.q .mv), [.t 3], none⟩,
      ⟨.new, (.q (.bin .add)), [.t 7, .c (.int 1)], none⟩,
      ⟨.var 3, (.q .mv), [.t 8], none⟩]))))))
    (.seq (.reg [⟨.var 2, (.q .mv), [.c (.bool true)], none⟩])
    .ret)))),
    [.t 2]⟩

/-- trefoil/trefoillaw18.awake (0:, 1:p, 2:q) -/
def s7 : FnS := ⟨48, [0, 1, 2],
    (.seq (.reg [⟨.var 0, (.q .mv), [.c (.bool false)], none⟩])
    (.seq (.reg [⟨.new, (.e (.bld (.arr 2 .leaf) (.agg [(.u64 0), (.u64 0)]) [])), [], none⟩,
      ⟨.new, (.e (.bld (.arr 2 .leaf) (.agg [(.u64 0), (.u64 0)]) [])), [], none⟩,
      ⟨.new, (.e (.bsl 24 (.arr 2 .leaf) (.agg [(.u64 0), (.u64 0)]) 1 [0])), [.t 4], none⟩,
      ⟨.new, (.call 11), [.t 3, .c (.u64 5), .t 5], none⟩,
      ⟨.var 1, (.q .mv), [.t 6], none⟩])
    (.seq (.reg [⟨.new, (.e (.bld (.arr 2 .leaf) (.agg [(.u64 0), (.u64 0)]) [0, 1])), [.c (.u64 1), .c (.u64 0)], none⟩,
      ⟨.new, (.e (.bld (.arr 2 .leaf) (.agg [(.u64 0), (.u64 0)]) [])), [], none⟩,
      ⟨.new, (.e (.bsl 24 (.arr 2 .leaf) (.agg [(.u64 0), (.u64 0)]) 1 [0])), [.t 4], none⟩,
      ⟨.new, (.call 11), [.t 3, .c (.u64 5), .t 5], none⟩,
      ⟨.var 2, (.q .mv), [.t 6], none⟩])
    (.seq (.draw [⟨.new, (.q .mv), [.t 1], none⟩,
      ⟨.new, (.q .len), [.t 3], none⟩,
      ⟨.new, (.q (.bin .eql)), [.t 4, .c (.int 1)], none⟩,
      ⟨.new, (.q .mv), [.t 5], none⟩,
      ⟨.new, (.q .mv), [.t 2], (some (6, true))⟩,
      ⟨.new, (.q .len), [.t 7], (some (6, true))⟩,
      ⟨.new, (.q (.bin .eql)), [.t 8, .c (.int 1)], (some (6, true))⟩,
      ⟨.new, (.q .pick), [.t 6, .t 9, .c (.bool false)], none⟩,
      ⟨.new, (.q .mv), [.t 10], none⟩,
      ⟨.new, (.q .mv), [.t 1], (some (11, true))⟩,
      ⟨.new, (.q (.iaS (.st [(.arr 32 .leaf), (.arr 32 .leaf)]))), [.t 12, .c (.int 0)], (some (11, true))⟩,
      ⟨.new, (.q (.fa [(.arr 32 .leaf), (.arr 32 .leaf)] 0)), [.t 13], (some (11, true))⟩,
      ⟨.new, (.q (.ld (.arr 32 .leaf))), [.t 14], (some (11, true))⟩,
      ⟨.new, (.q .mv), [.t 1], (some (11, true))⟩,
      ⟨.new, (.q (.iaS (.st [(.arr 32 .leaf), (.arr 32 .leaf)]))), [.t 16, .c (.int 0)], (some (11, true))⟩,
      ⟨.new, (.q (.fa [(.arr 32 .leaf), (.arr 32 .leaf)] 1)), [.t 17], (some (11, true))⟩,
      ⟨.new, (.q (.ld (.arr 32 .leaf))), [.t 18], (some (11, true))⟩,
      ⟨.new, (.q (.eqA false 32 .u8)), [.t 15, .t 19], (some (11, true))⟩,
      ⟨.new, (.q .pick), [.t 11, .t 20, .c (.bool false)], none⟩,
      ⟨.new, (.q .mv), [.t 21], none⟩,
      ⟨.new, (.q .mv), [.t 1], (some (22, true))⟩,
      ⟨.new, (.q (.iaS (.st [(.arr 32 .leaf), (.arr 32 .leaf)]))), [.t 23, .c (.int 0)], (some (22, true))⟩,
      ⟨.new, (.q (.fa [(.arr 32 .leaf), (.arr 32 .leaf)] 0)), [.t 24], (some (22, true))⟩,
      ⟨.new, (.q (.ld (.arr 32 .leaf))), [.t 25], (some (22, true))⟩,
      ⟨.new, (.e (.bld (.arr 2 .leaf) (.agg [(.u64 0), (.u64 0)]) [])), [], (some (22, true))⟩,
      ⟨.new, (.call 9), [.c (.u64 5), .t 27], (some (22, true))⟩,
      ⟨.new, (.q (.eqA false 32 .u8)), [.t 26, .t 28], (some (22, true))⟩,
      ⟨.new, (.q .pick), [.t 22, .t 29, .c (.bool false)], none⟩,
      ⟨.new, (.q .mv), [.t 30], none⟩,
      ⟨.new, (.q .mv), [.t 2], (some (31, true))⟩,
      ⟨.new, (.q (.iaS (.st [(.arr 32 .leaf), (.arr 32 .leaf)]))), [.t 32, .c (.int 0)], (some (31, true))⟩,
      ⟨.new, (.q (.fa [(.arr 32 .leaf), (.arr 32 .leaf)] 1)), [.t 33], (some (31, true))⟩,
      ⟨.new, (.q (.ld (.arr 32 .leaf))), [.t 34], (some (31, true))⟩,
      ⟨.new, (.e (.bld (.arr 2 .leaf) (.agg [(.u64 0), (.u64 0)]) [0, 1])), [.c (.u64 1), .c (.u64 0)], (some (31, true))⟩,
      ⟨.new, (.call 9), [.c (.u64 5), .t 36], (some (31, true))⟩,
      ⟨.new, (.q (.eqA false 32 .u8)), [.t 35, .t 37], (some (31, true))⟩,
      ⟨.new, (.q .pick), [.t 31, .t 38, .c (.bool false)], none⟩,
      ⟨.var 0, (.q .mv), [.t 39], none⟩])
    .ret)))),
    [.t 0]⟩

set_option maxRecDepth 100000
set_option linter.unusedSimpArgs false
set_option linter.unusedVariables false
theorem c30 : cF P G (drP P G) 30 1 s30.vm = some s30 := by kernel_rfl
theorem c8 : cF P G (drP P G) 8 2 s8.vm = some s8 := by kernel_rfl
theorem c9 : cF P G (drP P G) 9 2 s9.vm = some s9 := by kernel_rfl
theorem c11 : cF P G (drP P G) 11 3 s11.vm = some s11 := by kernel_rfl
theorem c12 : cF P G (drP P G) 12 3 s12.vm = some s12 := by kernel_rfl
theorem c14 : cF P G (drP P G) 14 2 s14.vm = some s14 := by kernel_rfl
theorem c15 : cF P G (drP P G) 15 2 s15.vm = some s15 := by kernel_rfl
theorem c10 : cF P G (drP P G) 10 2 s10.vm = some s10 := by kernel_rfl
theorem c13 : cF P G (drP P G) 13 2 s13.vm = some s13 := by kernel_rfl
theorem c7 : cF P G (drP P G) 7 0 s7.vm = some s7 := by kernel_rfl
/-! a transfer's number as bytes -/
theorem f30 {K : AV → Heap → Prop} {H : Heap} {n : BitVec 64} (h : K (.str (by8 n)) H) : wpF P G 30 [.u64 n] H K := by
  refine wpF_go c30 rfl 3 ?_
  intro ha hb
  simp only [s30]
  (refine gw0 ?_; try exact True.intro)
  refine wp_unroll 9 ?_
  (refine gw0 ?_; try exact True.intro)
  exact h
/-- 'rot' -/
def tgR : List (BitVec 8) := [114, 111, 116]
abbrev Rw := BitVec 64 × BitVec 64
/-- the seed of a number and a row -/
def hsh (n : BitVec 64) (p : Rw) : List (BitVec 8) := sha (lg tgR ++ lgs [by8 n, rowB p.1 p.2] 2)
theorem hsh_len {n : BitVec 64} {p : Rw} : (hsh n p).length = 32 := sha_len
theorem hsh_sz {n : BitVec 64} {p : Rw} : tgR.length + sz [by8 n, rowB p.1 p.2] 2 + 2 ≤ 2000000 := by
  simp only [sz, List.getD_cons_zero, List.getD_cons_succ, by8, rowB, List.length_append, List.length_cons, List.length_nil, tgR]
  omega
theorem m8_plain {d : List (BitVec 8)} : (AV.agg (d.map AV.u8)).plain2 = true := by
  simp only [AV.plain2, List.all_map, List.all_eq_true]
  intro x _; rfl
theorem f8 {K : AV → Heap → Prop} {H : Heap} {n : BitVec 64} {p : Rw} (h : K (.agg ((hsh n p).map .u8)) H) : wpF P G 8 [.u64 n, rowV p.1 p.2] H K := by
  refine wpF_go c8 rfl 3 ?_
  intro ha hb
  simp only [s8, rowV]
  clear ha hb
  (refine gw0 ?_; try exact True.intro)
  refine drawn _ (f30 ⟨rfl, rfl⟩) ?_
  (refine gw0 ?_; try exact True.intro)
  refine drawn _ (f31 ⟨rfl, rfl⟩) ?_
  (refine gw0 ?_; try exact True.intro)
  refine drawn (.agg ((hsh n p).map .u8)) (wpF_lend1 3 ?_) ?_
  · (refine gw0 ?_; try exact True.intro)
    exact f29 (tag := tgR) (ls := [by8 n, rowB p.1 p.2]) hsh_sz ⟨m8_plain, rfl, rfl⟩
  · (refine gw0 ?_; try exact True.intro)
    exact ⟨hsh_len, h⟩
theorem q256 (x : BitVec 64) : x / (256 : BitVec 64) = x >>> 8 := by
  apply BitVec.eq_of_toNat_eq
  rw [BitVec.toNat_udiv, BitVec.toNat_ushiftRight, Nat.shiftRight_eq_div_pow]; rfl
theorem r256 (x : BitVec 64) : (x % (256 : BitVec 64)).setWidth 8 = x.setWidth 8 := by
  apply BitVec.eq_of_toNat_eq
  rw [BitVec.toNat_setWidth, BitVec.toNat_setWidth, BitVec.toNat_umod, show (256 : BitVec 64).toNat = 256 from rfl]
  omega
theorem sh_sh (x : BitVec 64) (a b : Nat) : (x >>> a) >>> b = x >>> (a + b) := by rw [BitVec.shiftRight_add]
set_option maxHeartbeats 2000000 in
theorem f9 {K : AV → Heap → Prop} {H : Heap} {n : BitVec 64} {p : Rw} (h : K (.agg ((hsh n p).map .u8)) H) : wpF P G 9 [.u64 n, rowV p.1 p.2] H K := by
  refine wpF_go c9 rfl 3 ?_
  intro ha hb
  simp only [s9, rowV]
  clear ha hb
  (refine gw0 ?_; try exact True.intro)
  refine wp_unroll 9 ?_
  (refine gw3 @q256 @r256 @sh_sh ?_; try exact True.intro)
  repeat (refine And.intro (by decide) ?_)
  refine drawn _ (f33 ⟨rfl, rfl⟩) ?_
  rw [plist_row]
  (refine gw0 ?_; try exact True.intro)
  have e : ([BitVec.setWidth 8 n, BitVec.setWidth 8 (n >>> 8), BitVec.setWidth 8 (n >>> 16), BitVec.setWidth 8 (n >>> 24), BitVec.setWidth 8 (n >>> 32), BitVec.setWidth 8 (n >>> 40), BitVec.setWidth 8 (n >>> 48), BitVec.setWidth 8 (n >>> 56)] : List (BitVec 8)) = by8 n := rfl
  refine drawn (.agg ((hsh n p).map .u8)) (wpF_lend1 3 ?_) ?_
  · (refine gw0 ?_; try exact True.intro)
    exact f32 (tag := tgR) (ls := [by8 n, rowB p.1 p.2]) hsh_sz ⟨m8_plain, rfl, rfl⟩
  · (refine gw0 ?_; try exact True.intro)
    exact ⟨hsh_len, h⟩

/-! both sides' seeds -/
def rwP (p : Rw) : AV := .agg [.u64 p.1, .u64 p.2]
theorem ld_rw {l : List Rw} {i : Nat} (h : i < l.length) : (l.map rwP).getD i .un = .agg [.u64 (l.getD i (0, 0)).1, .u64 (l.getD i (0, 0)).2] := by
  rw [List.getD_eq_getElem?_getD, List.getElem?_map, List.getD_eq_getElem?_getD, List.getElem?_eq_getElem h]; rfl
structure Pr where
  z : List (BitVec 8)
  o : List (BitVec 8)
abbrev prS : Shape := .st [.arr 32 .leaf, .arr 32 .leaf]
def prA (p : Pr) : AV := .agg [.agg (p.z.map .u8), .agg (p.o.map .u8)]
def Pr.ok (p : Pr) : Prop := p.z.length = 32 ∧ p.o.length = 32
def prD : Pr := ⟨[], []⟩
theorem ld_pr {l : List Pr} {i : Nat} (h : i < l.length) : (l.map prA).getD i .un = .agg [.agg ((l.getD i prD).z.map .u8), .agg ((l.getD i prD).o.map .u8)] := by
  rw [List.getD_eq_getElem?_getD, List.getElem?_map, List.getD_eq_getElem?_getD, List.getElem?_eq_getElem h]; rfl
theorem pr_ok {l : List Pr} (hl : ∀ p ∈ l, p.ok) {i : Nat} (h : i < l.length) : (l.getD i prD).ok := by
  rw [List.getD_eq_getElem?_getD, List.getElem?_eq_getElem h]
  exact hl _ (List.getElem_mem h)
theorem mapO_prA {l : List Pr} {kp : Nat → Bool} {N : Nat} {h : Heap} {d : Nat} : mapO (demK kp N h (d + 3)) (l.map prA) = some (l.map prA) := by
  refine mapO_ext rfl fun t ht => ?_
  have ht' : t < l.length := by simpa using ht
  rw [ld_pr ht']
  (refine gw0 ?_; try exact True.intro)
/-- a list of pairs, or none -/
def isP (A : AV) (l : List Pr) : Prop := A = .ro prS (l.map prA) ∨ (l = [] ∧ A = .nils)
def sdA (s : List (BitVec 8)) : AV := .agg (s.map .u8)
def isS (A : AV) (ss : List (List (BitVec 8))) : Prop := A = .ro (.arr 32 .leaf) (ss.map sdA) ∨ (ss = [] ∧ A = .nils)
theorem ld_sd {ss : List (List (BitVec 8))} {i : Nat} (h : i < ss.length) : (ss.map sdA).getD i .un = .agg ((ss.getD i []).map .u8) := by
  rw [List.getD_eq_getElem?_getD, List.getElem?_map, List.getD_eq_getElem?_getD, List.getElem?_eq_getElem h]; rfl
theorem sd_ok {ss : List (List (BitVec 8))} (hs : ∀ s ∈ ss, s.length = 32) {i : Nat} (h : i < ss.length) : (ss.getD i []).length = 32 := by
  rw [List.getD_eq_getElem?_getD, List.getElem?_eq_getElem h]
  exact hs _ (List.getElem_mem h)
theorem mapO_sdA {l : List (List (BitVec 8))} {kp : Nat → Bool} {N : Nat} {h : Heap} {d : Nat} : mapO (demK kp N h (d + 2)) (l.map sdA) = some (l.map sdA) := by
  refine mapO_ext rfl fun t ht => ?_
  have ht' : t < l.length := by simpa using ht
  rw [ld_sd ht']
  (refine gw0 ?_; try exact True.intro)
def prL (l : List Pr) : AV := if l.length = 0 then .nils else .ro prS (l.map prA)
theorem prL_isP {l : List Pr} : isP (prL l) l := by
  unfold prL isP
  by_cases h : l.length = 0
  · rw [if_pos h]; exact .inr ⟨List.length_eq_zero_iff.1 h, rfl⟩
  · rw [if_neg h]; exact .inl rfl
def ssL (l : List (List (BitVec 8))) : AV := if l.length = 0 then .nils else .ro (.arr 32 .leaf) (l.map sdA)
theorem ssL_isS {l : List (List (BitVec 8))} : isS (ssL l) l := by
  unfold ssL isS
  by_cases h : l.length = 0
  · rw [if_pos h]; exact .inr ⟨List.length_eq_zero_iff.1 h, rfl⟩
  · rw [if_neg h]; exact .inl rfl
/-- the seeds of who sends -/
def sndF (d : Rw) (fr : BitVec 64) (rows : List Rw) (j : Nat) : Pr :=
  ⟨hsh (fr + BitVec.ofInt 64 (j : Int)) (rows.getD j (0, 0)), hsh (fr + BitVec.ofInt 64 (j : Int)) ((rows.getD j (0, 0)).1 ^^^ d.1, (rows.getD j (0, 0)).2 ^^^ d.2)⟩
def sndL (d : Rw) (fr : BitVec 64) (rows : List Rw) (n : Nat) : List Pr := (List.range n).map (sndF d fr rows)
theorem sndL_len {d : Rw} {fr : BitVec 64} {rows : List Rw} {n : Nat} : (sndL d fr rows n).length = n := by simp [sndL]
theorem sndL_succ {d : Rw} {fr : BitVec 64} {rows : List Rw} {n : Nat} : (sndL d fr rows n).map prA ++ [prA (sndF d fr rows n)] = (sndL d fr rows (n + 1)).map prA := by simp [sndL, List.range_succ]
theorem sndL_ok {d : Rw} {fr : BitVec 64} {rows : List Rw} {n : Nat} : ∀ p ∈ sndL d fr rows n, p.ok := by
  intro p hp
  obtain ⟨j, _, rfl⟩ := List.mem_map.1 hp
  exact ⟨hsh_len, hsh_len⟩
def prB (v n : Nat) (l : List AV) : Option Blk := some ⟨74, v, true, .arr n prS, .agg l⟩
def prC (v n : Nat) (l : List AV) : Option Blk := some ⟨47, v, true, .arr n prS, .agg l⟩
def I11 (d : Rw) (fr : BitVec 64) (rows : List Rw) (H : Heap) (k : Nat) (st : St) : Prop :=
  ∃ (j v : Nat) (u6 u7 u8 u12 : AV) (J : Heap), st = ⟨[.agg [.u64 d.1, .u64 d.2], .u64 fr, .ro (.arr 2 .leaf) (rows.map rwP), .ptr H.length 0 [0] (.arr 2 .leaf), .nils, .own (H.length + 1) v [] 0 j prS, u6, u7, u8, .ro (.arr 2 .leaf) (rows.map rwP), .int rows.length, .int j, u12],
    H ++ bxr d.1 d.2 :: prB v j ((sndL d fr rows j).map prA) :: J⟩ ∧ k = rows.length - j ∧ j ≤ rows.length
set_option maxHeartbeats 2000000 in
theorem f11 {K : AV → Heap → Prop} {H : Heap} {d : Rw} {fr : BitVec 64} {rows : List Rw} (hn : rows.length ≤ 1000) (h : K (.ro prS ((sndL d fr rows rows.length).map prA)) H) : wpF P G 11 [.agg [.u64 d.1, .u64 d.2], .u64 fr, .ro (.arr 2 .leaf) (rows.map rwP)] H K := by
  refine wpF_go c11 rfl 4 ?_
  intro ha hb
  simp only [s11]
  clear ha hb
  have ll : (rows.map rwP).length = rows.length := by simp
  (refine gw1 @ll ?_; try exact True.intro)
  (repeat (refine And.intro (by omega) ?_))
  refine wp_inv (I11 d fr rows H) rows.length ⟨0, 0, _, _, _, _, [], rfl, rfl, Nat.zero_le _⟩ ?_
  rintro k st ⟨j, v, u6, u7, u8, u12, J, rfl, rfl, hj⟩
  unfold bxr prB
  by_cases hjl : j < rows.length
  · have e1 : ((j : Int) < (rows.length : Int)) = True := by simp only [eq_iff_iff, iff_true]; omega
    have gp := ld_rw hjl
    have hnx : (sndL d fr rows j).map prA ++ [.agg [.agg ((hsh (fr + BitVec.ofInt 64 (j : Int)) (rows.getD j (0, 0))).map .u8), .agg ((hsh (fr + BitVec.ofInt 64 (j : Int)) ((rows.getD j (0, 0)).1 ^^^ d.1, (rows.getD j (0, 0)).2 ^^^ d.2)).map .u8)]] = (sndL d fr rows (j + 1)).map prA := sndL_succ
    have hsl : ((sndL d fr rows j).map prA).length = j := by simp [sndL]
    (refine gw3 @e1 @ll @gp ?_; try exact True.intro)
    refine drawn _ (f8 (n := fr + BitVec.ofInt 64 (j : Int)) (p := rows.getD j (0, 0)) ⟨rfl, rfl⟩) ?_
    (refine gw0 ?_; try exact True.intro)
    refine drawn _ (f34 ⟨rfl, rfl⟩) ?_
    unfold rowV
    (refine gw0 ?_; try exact True.intro)
    refine drawn _ (f8 (n := fr + BitVec.ofInt 64 (j : Int)) (p := ((rows.getD j (0, 0)).1 ^^^ d.1, (rows.getD j (0, 0)).2 ^^^ d.2)) ⟨rfl, rfl⟩) ?_
    have h1 := hsh_len (n := fr + BitVec.ofInt 64 (j : Int)) (p := rows.getD j (0, 0))
    have h2 := hsh_len (n := fr + BitVec.ofInt 64 (j : Int)) (p := ((rows.getD j (0, 0)).1 ^^^ d.1, (rows.getD j (0, 0)).2 ^^^ d.2))
    generalize hsh (fr + BitVec.ofInt 64 (j : Int)) (rows.getD j (0, 0)) = g1 at *
    generalize hsh (fr + BitVec.ofInt 64 (j : Int)) ((rows.getD j (0, 0)).1 ^^^ d.1, (rows.getD j (0, 0)).2 ^^^ d.2) = g2 at *
    (refine gw4 @h1 @h2 @hsl @hnx ?_; try exact True.intro)
    (repeat (refine And.intro (by omega) ?_))
    exact ⟨rows.length - (j + 1), by omega, j + 1, _, _, _, _, _, _, rfl, rfl, by omega⟩
  · have e1 : ((j : Int) < (rows.length : Int)) = False := by simp only [eq_iff_iff, iff_false]; omega
    have hje : j = rows.length := by omega
    subst hje
    have ht1 : List.take rows.length ((sndL d fr rows rows.length).map prA) = (sndL d fr rows rows.length).map prA := List.take_of_length_le (by simp [sndL])
    have hm1 := @mapO_prA (sndL d fr rows rows.length)
    (refine gw4 @e1 @ll @ht1 @hm1 ?_; try exact True.intro)
    exact h

def I12 (d : Rw) (fr : BitVec 64) (rows : List Rw) (H : Heap) (k : Nat) (st : St) : Prop :=
  ∃ (j : Nat) (out u7 u8 : AV) (L : Heap), st = ⟨[.agg [.u64 d.1, .u64 d.2], .u64 fr, .ro (.arr 2 .leaf) (rows.map rwP), .ptr H.length 0 [0] (.arr 2 .leaf), .nils, out, .int j, u7, u8],
    H ++ bxr d.1 d.2 :: L⟩ ∧ k = rows.length - j ∧ j ≤ rows.length ∧
    ((j = 0 ∧ out = .nils ∧ L = []) ∨ (0 < j ∧ out = .own (H.length + 2) j [] 0 j prS ∧ ∃ T J, L = T :: prC j j ((sndL d fr rows j).map prA) :: J))
set_option maxHeartbeats 2000000 in
theorem f12 {K : AV → Heap → Prop} {H : Heap} {d : Rw} {fr : BitVec 64} {rows : List Rw} (hn : rows.length ≤ 1000) (h : K (prL (sndL d fr rows rows.length)) H) : wpF P G 12 [.agg [.u64 d.1, .u64 d.2], .u64 fr, .ro (.arr 2 .leaf) (rows.map rwP)] H K := by
  refine wpF_go c12 rfl 4 ?_
  intro ha hb
  simp only [s12]
  clear ha hb
  have ll : (rows.map rwP).length = rows.length := by simp
  (refine gw0 ?_; try exact True.intro)
  refine wp_inv (I12 d fr rows H) rows.length ⟨0, _, _, _, [], rfl, rfl, Nat.zero_le _, .inl ⟨rfl, rfl, rfl⟩⟩ ?_
  rintro k st ⟨j, out, u7, u8, L, rfl, rfl, hj, hc⟩
  unfold bxr
  by_cases hjl : j < rows.length
  · have e1 : ((j : Int) < (rows.length : Int)) = True := by simp only [eq_iff_iff, iff_true]; omega
    have gp := ld_rw hjl
    have hnx : (sndL d fr rows j).map prA ++ [.agg [.agg ((hsh (fr + BitVec.ofInt 64 (j : Int)) (rows.getD j (0, 0))).map .u8), .agg ((hsh (fr + BitVec.ofInt 64 (j : Int)) ((rows.getD j (0, 0)).1 ^^^ d.1, (rows.getD j (0, 0)).2 ^^^ d.2)).map .u8)]] = (sndL d fr rows (j + 1)).map prA := sndL_succ
    have hsl : ((sndL d fr rows j).map prA).length = j := by simp [sndL]
    rcases hc with ⟨hi0, rfl, rfl⟩ | ⟨hi0, rfl, T, J, rfl⟩
    · (refine gw3 @e1 @ll @gp ?_; try exact True.intro)
      (repeat (refine And.intro (by omega) ?_))
      refine drawn _ (f9 (n := fr + BitVec.ofInt 64 (j : Int)) (p := rows.getD j (0, 0)) ⟨rfl, rfl⟩) ?_
      (refine gw2 @ll @gp ?_; try exact True.intro)
      (repeat (refine And.intro (by omega) ?_))
      refine drawn _ (f9 (n := fr + BitVec.ofInt 64 (j : Int)) (p := ((rows.getD j (0, 0)).1 ^^^ d.1, (rows.getD j (0, 0)).2 ^^^ d.2)) ⟨rfl, rfl⟩) ?_
      have h1 := hsh_len (n := fr + BitVec.ofInt 64 (j : Int)) (p := rows.getD j (0, 0))
      have h2 := hsh_len (n := fr + BitVec.ofInt 64 (j : Int)) (p := ((rows.getD j (0, 0)).1 ^^^ d.1, (rows.getD j (0, 0)).2 ^^^ d.2))
      generalize hsh (fr + BitVec.ofInt 64 (j : Int)) (rows.getD j (0, 0)) = g1 at *
      generalize hsh (fr + BitVec.ofInt 64 (j : Int)) ((rows.getD j (0, 0)).1 ^^^ d.1, (rows.getD j (0, 0)).2 ^^^ d.2) = g2 at *
      (refine gw2 @h1 @h2 ?_; try exact True.intro)
      (repeat (refine And.intro (by omega) ?_))
      subst hi0
      exact ⟨rows.length - 1, by omega, 1, _, _, _, _, rfl, rfl, by omega, .inr ⟨by omega, rfl, _, [], by rw [← hnx]; rfl⟩⟩
    · unfold prC
      (refine gw3 @e1 @ll @gp ?_; try exact True.intro)
      (repeat (refine And.intro (by omega) ?_))
      refine drawn _ (f9 (n := fr + BitVec.ofInt 64 (j : Int)) (p := rows.getD j (0, 0)) ⟨rfl, rfl⟩) ?_
      (refine gw2 @ll @gp ?_; try exact True.intro)
      (repeat (refine And.intro (by omega) ?_))
      refine drawn _ (f9 (n := fr + BitVec.ofInt 64 (j : Int)) (p := ((rows.getD j (0, 0)).1 ^^^ d.1, (rows.getD j (0, 0)).2 ^^^ d.2)) ⟨rfl, rfl⟩) ?_
      have h1 := hsh_len (n := fr + BitVec.ofInt 64 (j : Int)) (p := rows.getD j (0, 0))
      have h2 := hsh_len (n := fr + BitVec.ofInt 64 (j : Int)) (p := ((rows.getD j (0, 0)).1 ^^^ d.1, (rows.getD j (0, 0)).2 ^^^ d.2))
      generalize hsh (fr + BitVec.ofInt 64 (j : Int)) (rows.getD j (0, 0)) = g1 at *
      generalize hsh (fr + BitVec.ofInt 64 (j : Int)) ((rows.getD j (0, 0)).1 ^^^ d.1, (rows.getD j (0, 0)).2 ^^^ d.2) = g2 at *
      (refine gw4 @h1 @h2 @hsl @hnx ?_; try exact True.intro)
      (repeat (refine And.intro (by omega) ?_))
      exact ⟨rows.length - (j + 1), by omega, j + 1, _, _, _, _, rfl, rfl, by omega, .inr ⟨by omega, rfl, _, _, rfl⟩⟩
  · have e1 : ((j : Int) < (rows.length : Int)) = False := by simp only [eq_iff_iff, iff_false]; omega
    have hje : j = rows.length := by omega
    subst hje
    rcases hc with ⟨hi0, rfl, rfl⟩ | ⟨hi0, rfl, T, J, rfl⟩
    · (refine gw2 @e1 @ll ?_; try exact True.intro)
      unfold prL at h
      rw [sndL_len, if_pos hi0] at h
      exact h
    · unfold prC
      have ht1 : List.take rows.length ((sndL d fr rows rows.length).map prA) = (sndL d fr rows rows.length).map prA := List.take_of_length_le (by simp [sndL])
      have hm1 := @mapO_prA (sndL d fr rows rows.length)
      (refine gw4 @e1 @ll @ht1 @hm1 ?_; try exact True.intro)
      unfold prL at h
      rw [sndL_len, if_neg (by omega)] at h
      exact h

def rcvF (fr : BitVec 64) (rows : List Rw) (j : Nat) : List (BitVec 8) := hsh (fr + BitVec.ofInt 64 (j : Int)) (rows.getD j (0, 0))
def rcvL (fr : BitVec 64) (rows : List Rw) (n : Nat) : List (List (BitVec 8)) := (List.range n).map (rcvF fr rows)
theorem rcvL_len {fr : BitVec 64} {rows : List Rw} {n : Nat} : (rcvL fr rows n).length = n := by simp [rcvL]
theorem rcvL_succ {fr : BitVec 64} {rows : List Rw} {n : Nat} : (rcvL fr rows n).map sdA ++ [sdA (rcvF fr rows n)] = (rcvL fr rows (n + 1)).map sdA := by simp [rcvL, List.range_succ]
theorem rcvL_ok {fr : BitVec 64} {rows : List Rw} {n : Nat} : ∀ s ∈ rcvL fr rows n, s.length = 32 := by
  intro p hp
  obtain ⟨j, _, rfl⟩ := List.mem_map.1 hp
  exact hsh_len
def ssB (v n : Nat) (l : List AV) : Option Blk := some ⟨28, v, true, .arr n (.arr 32 .leaf), .agg l⟩
def I14 (fr : BitVec 64) (rows : List Rw) (H : Heap) (k : Nat) (st : St) : Prop :=
  ∃ (j v : Nat) (u4 u5 u9 : AV) (J : Heap), st = ⟨[.u64 fr, .ro (.arr 2 .leaf) (rows.map rwP), .nils, .own H.length v [] 0 j (.arr 32 .leaf), u4, u5, .ro (.arr 2 .leaf) (rows.map rwP), .int rows.length, .int j, u9],
    H ++ ssB v j ((rcvL fr rows j).map sdA) :: J⟩ ∧ k = rows.length - j ∧ j ≤ rows.length
set_option maxHeartbeats 2000000 in
theorem f14 {K : AV → Heap → Prop} {H : Heap} {fr : BitVec 64} {rows : List Rw} (hn : rows.length ≤ 1000) (h : K (.ro (.arr 32 .leaf) ((rcvL fr rows rows.length).map sdA)) H) : wpF P G 14 [.u64 fr, .ro (.arr 2 .leaf) (rows.map rwP)] H K := by
  refine wpF_go c14 rfl 4 ?_
  intro ha hb
  simp only [s14]
  clear ha hb
  have ll : (rows.map rwP).length = rows.length := by simp
  (refine gw1 @ll ?_; try exact True.intro)
  (repeat (refine And.intro (by omega) ?_))
  refine wp_inv (I14 fr rows H) rows.length ⟨0, 0, _, _, _, [], rfl, rfl, Nat.zero_le _⟩ ?_
  rintro k st ⟨j, v, u4, u5, u9, J, rfl, rfl, hj⟩
  unfold ssB
  by_cases hjl : j < rows.length
  · have e1 : ((j : Int) < (rows.length : Int)) = True := by simp only [eq_iff_iff, iff_true]; omega
    have gp := ld_rw hjl
    have hnx : (rcvL fr rows j).map sdA ++ [.agg ((hsh (fr + BitVec.ofInt 64 (j : Int)) (rows.getD j (0, 0))).map .u8)] = (rcvL fr rows (j + 1)).map sdA := rcvL_succ
    have hsl : ((rcvL fr rows j).map sdA).length = j := by simp [rcvL]
    (refine gw3 @e1 @ll @gp ?_; try exact True.intro)
    refine f8 (n := fr + BitVec.ofInt 64 (j : Int)) (p := rows.getD j (0, 0)) ?_
    have h1 := hsh_len (n := fr + BitVec.ofInt 64 (j : Int)) (p := rows.getD j (0, 0))
    generalize hsh (fr + BitVec.ofInt 64 (j : Int)) (rows.getD j (0, 0)) = g1 at *
    (refine gw3 @h1 @hsl @hnx ?_; try exact True.intro)
    (repeat (refine And.intro (by omega) ?_))
    exact ⟨rows.length - (j + 1), by omega, j + 1, _, _, _, _, _, rfl, rfl, by omega⟩
  · have e1 : ((j : Int) < (rows.length : Int)) = False := by simp only [eq_iff_iff, iff_false]; omega
    have hje : j = rows.length := by omega
    subst hje
    have ht1 : List.take rows.length ((rcvL fr rows rows.length).map sdA) = (rcvL fr rows rows.length).map sdA := List.take_of_length_le (by simp [rcvL])
    have hm1 := @mapO_sdA (rcvL fr rows rows.length)
    (refine gw4 @e1 @ll @ht1 @hm1 ?_; try exact True.intro)
    exact h
def I15 (fr : BitVec 64) (rows : List Rw) (H : Heap) (k : Nat) (st : St) : Prop :=
  ∃ (j : Nat) (out u5 : AV) (L : Heap), st = ⟨[.u64 fr, .ro (.arr 2 .leaf) (rows.map rwP), .nils, out, .int j, u5],
    H ++ L⟩ ∧ k = rows.length - j ∧ j ≤ rows.length ∧
    ((j = 0 ∧ out = .nils ∧ L = []) ∨ (0 < j ∧ out = .own (H.length + 1) j [] 0 j (.arr 32 .leaf) ∧ ∃ T J, L = T :: ssB j j ((rcvL fr rows j).map sdA) :: J))
set_option maxHeartbeats 2000000 in
theorem f15 {K : AV → Heap → Prop} {H : Heap} {fr : BitVec 64} {rows : List Rw} (hn : rows.length ≤ 1000) (h : K (ssL (rcvL fr rows rows.length)) H) : wpF P G 15 [.u64 fr, .ro (.arr 2 .leaf) (rows.map rwP)] H K := by
  refine wpF_go c15 rfl 4 ?_
  intro ha hb
  simp only [s15]
  clear ha hb
  have ll : (rows.map rwP).length = rows.length := by simp
  (refine gw0 ?_; try exact True.intro)
  refine wp_inv (I15 fr rows H) rows.length ⟨0, _, _, [], by rw [List.append_nil]; rfl, rfl, Nat.zero_le _, .inl ⟨rfl, rfl, rfl⟩⟩ ?_
  rintro k st ⟨j, out, u5, L, rfl, rfl, hj, hc⟩
  by_cases hjl : j < rows.length
  · have e1 : ((j : Int) < (rows.length : Int)) = True := by simp only [eq_iff_iff, iff_true]; omega
    have gp := ld_rw hjl
    have hnx : (rcvL fr rows j).map sdA ++ [.agg ((hsh (fr + BitVec.ofInt 64 (j : Int)) (rows.getD j (0, 0))).map .u8)] = (rcvL fr rows (j + 1)).map sdA := rcvL_succ
    have hsl : ((rcvL fr rows j).map sdA).length = j := by simp [rcvL]
    rcases hc with ⟨hi0, rfl, rfl⟩ | ⟨hi0, rfl, T, J, rfl⟩
    · (refine gw3 @e1 @ll @gp ?_; try exact True.intro)
      (repeat (refine And.intro (by omega) ?_))
      refine f9 (n := fr + BitVec.ofInt 64 (j : Int)) (p := rows.getD j (0, 0)) ?_
      have h1 := hsh_len (n := fr + BitVec.ofInt 64 (j : Int)) (p := rows.getD j (0, 0))
      generalize hsh (fr + BitVec.ofInt 64 (j : Int)) (rows.getD j (0, 0)) = g1 at *
      (refine gw1 @h1 ?_; try exact True.intro)
      (repeat (refine And.intro (by omega) ?_))
      subst hi0
      exact ⟨rows.length - 1, by omega, 1, _, _, _, rfl, rfl, by omega, .inr ⟨by omega, rfl, _, [], by rw [← hnx]; rfl⟩⟩
    · unfold ssB
      (refine gw3 @e1 @ll @gp ?_; try exact True.intro)
      (repeat (refine And.intro (by omega) ?_))
      refine f9 (n := fr + BitVec.ofInt 64 (j : Int)) (p := rows.getD j (0, 0)) ?_
      have h1 := hsh_len (n := fr + BitVec.ofInt 64 (j : Int)) (p := rows.getD j (0, 0))
      generalize hsh (fr + BitVec.ofInt 64 (j : Int)) (rows.getD j (0, 0)) = g1 at *
      (refine gw3 @h1 @hsl @hnx ?_; try exact True.intro)
      (repeat (refine And.intro (by omega) ?_))
      exact ⟨rows.length - (j + 1), by omega, j + 1, _, _, _, rfl, rfl, by omega, .inr ⟨by omega, rfl, _, _, rfl⟩⟩
  · have e1 : ((j : Int) < (rows.length : Int)) = False := by simp only [eq_iff_iff, iff_false]; omega
    have hje : j = rows.length := by omega
    subst hje
    rcases hc with ⟨hi0, rfl, rfl⟩ | ⟨hi0, rfl, T, J, rfl⟩
    · (refine gw2 @e1 @ll ?_; try exact True.intro)
      unfold ssL at h
      rw [rcvL_len, if_pos hi0] at h
      exact h
    · unfold ssB
      have ht1 : List.take rows.length ((rcvL fr rows rows.length).map sdA) = (rcvL fr rows rows.length).map sdA := List.take_of_length_le (by simp [rcvL])
      have hm1 := @mapO_sdA (rcvL fr rows rows.length)
      (refine gw4 @e1 @ll @ht1 @hm1 ?_; try exact True.intro)
      unfold ssL at h
      rw [rcvL_len, if_neg (by omega)] at h
      exact h

/-! the law's own looks -/
def I13 (A B : AV) (n : Nat) (H : Heap) (k : Nat) (st : St) : Prop :=
  ∃ (j : Nat) (u5 u6 : AV), st = ⟨[A, B, .bool false, .int j, .bool false, u5, u6], H⟩ ∧ k = n - j ∧ j ≤ n
theorem f13 {K : AV → Heap → Prop} {H : Heap} {A B : AV} {ss : List (List (BitVec 8))} (hn : ss.length ≤ 1000) (hok : ∀ s ∈ ss, s.length = 32) (hA : isS A ss) (hB : isS B ss) (h : K (.bool true) H) : wpF P G 13 [A, B] H K := by
  have key : ∀ A B, isS A ss → isS B ss → wpF P G 13 [A, B] H K := by
    intro A B hA hB
    refine wpF_go c13 rfl 4 ?_
    intro ha hb
    simp only [s13]
    clear ha hb
    have ll : (ss.map sdA).length = ss.length := by simp
    by_cases h0 : ss = []
    · subst h0
      rcases hA with rfl | ⟨_, rfl⟩ <;> rcases hB with rfl | ⟨_, rfl⟩
      all_goals
        try simp only [List.map_nil]
        (refine gw0 ?_; try exact True.intro)
        refine wp_unroll 1 ?_
        (refine gw0 ?_; try exact True.intro)
        exact h
    · rcases hA with rfl | ⟨h1, _⟩
      rotate_left
      · exact absurd h1 h0
      rcases hB with rfl | ⟨h1, _⟩
      rotate_left
      · exact absurd h1 h0
      (refine gw1 @ll ?_; try exact True.intro)
      refine wp_inv (I13 (.ro (.arr 32 .leaf) (ss.map sdA)) (.ro (.arr 32 .leaf) (ss.map sdA)) ss.length H) ss.length ⟨0, _, _, rfl, rfl, Nat.zero_le _⟩ ?_
      rintro k st ⟨j, u5, u6, rfl, rfl, hj⟩
      by_cases hjl : j < ss.length
      · have e1 : ((j : Int) < (ss.length : Int)) = True := by simp only [eq_iff_iff, iff_true]; omega
        have gs := ld_sd hjl
        have hl := sd_ok hok hjl
        have hk := m8_kind (d := ss.getD j [])
        (refine gw4 @e1 @ll @gs @hl ?_; try exact True.intro)
        refine ⟨hk, ?_⟩
        (repeat (refine And.intro (by omega) ?_))
        exact ⟨ss.length - (j + 1), by omega, j + 1, _, _, rfl, rfl, by omega⟩
      · have e1 : ((j : Int) < (ss.length : Int)) = False := by simp only [eq_iff_iff, iff_false]; omega
        (refine gw2 @e1 @ll ?_; try exact True.intro)
        exact h
  exact key A B hA hB
def I10 (A B : AV) (n : Nat) (H : Heap) (k : Nat) (st : St) : Prop :=
  ∃ (j : Nat) (u5 u6 : AV), st = ⟨[A, B, .bool false, .int j, .bool false, u5, u6], H⟩ ∧ k = n - j ∧ j ≤ n
set_option maxHeartbeats 2000000 in
theorem f10 {K : AV → Heap → Prop} {H : Heap} {A B : AV} {l : List Pr} (hn : l.length ≤ 1000) (hok : ∀ p ∈ l, p.ok) (hA : isP A l) (hB : isP B l) (h : K (.bool true) H) : wpF P G 10 [A, B] H K := by
  refine wpF_go c10 rfl 4 ?_
  intro ha hb
  simp only [s10]
  clear ha hb
  have ll : (l.map prA).length = l.length := by simp
  by_cases h0 : l = []
  · subst h0
    rcases hA with rfl | ⟨_, rfl⟩ <;> rcases hB with rfl | ⟨_, rfl⟩
    all_goals
      try simp only [List.map_nil]
      (refine gw0 ?_; try exact True.intro)
      refine wp_unroll 1 ?_
      (refine gw0 ?_; try exact True.intro)
      exact h
  · rcases hA with rfl | ⟨h1, _⟩
    rotate_left
    · exact absurd h1 h0
    rcases hB with rfl | ⟨h1, _⟩
    rotate_left
    · exact absurd h1 h0
    (refine gw1 @ll ?_; try exact True.intro)
    refine wp_inv (I10 (.ro prS (l.map prA)) (.ro prS (l.map prA)) l.length H) l.length ⟨0, _, _, rfl, rfl, Nat.zero_le _⟩ ?_
    rintro k st ⟨j, u5, u6, rfl, rfl, hj⟩
    by_cases hjl : j < l.length
    · have e1 : ((j : Int) < (l.length : Int)) = True := by simp only [eq_iff_iff, iff_true]; omega
      have gs := ld_pr hjl
      obtain ⟨hz, ho⟩ := pr_ok hok hjl
      have hk1 := m8_kind (d := (l.getD j prD).z)
      have hk2 := m8_kind (d := (l.getD j prD).o)
      (refine gw5 @e1 @ll @gs @hz @ho ?_; try exact True.intro)
      refine ⟨hk1, hk2, ?_⟩
      (repeat (refine And.intro (by omega) ?_))
      exact ⟨l.length - (j + 1), by omega, j + 1, _, _, rfl, rfl, by omega⟩
    · have e1 : ((j : Int) < (l.length : Int)) = False := by simp only [eq_iff_iff, iff_false]; omega
      (refine gw2 @e1 @ll ?_; try exact True.intro)
      exact h
set_option maxHeartbeats 2000000 in
theorem f7 {K : AV → Heap → Prop} {H : Heap} (h : K (.bool true) H) : wpF P G 7 [] H K := by
  refine wpF_go c7 rfl 4 ?_
  intro ha hb
  simp only [s7]
  clear ha hb
  (refine gw0 ?_; try exact True.intro)
  refine wpF_give1 H.length 4 ?_
  (refine gw0 ?_; try exact True.intro)
  refine f11 (d := (0, 0)) (fr := 5) (rows := [(0, 0)]) (by decide) ?_
  have e1 : sndL (0, 0) 5 [(0, 0)] [((0, 0) : Rw)].length = [⟨hsh 5 (0, 0), hsh 5 (0, 0)⟩] := by
    show [sndF (0, 0) 5 [(0, 0)] 0] = _
    unfold sndF
    rw [show (5 : BitVec 64) + BitVec.ofInt 64 ((0 : Nat) : Int) = 5 by decide]
    rfl
  have e2 : sndL (1, 0) 5 [(0, 0)] [((0, 0) : Rw)].length = [⟨hsh 5 (0, 0), hsh 5 (1, 0)⟩] := by
    show [sndF (1, 0) 5 [(0, 0)] 0] = _
    unfold sndF
    rw [show (5 : BitVec 64) + BitVec.ofInt 64 ((0 : Nat) : Int) = 5 by decide]
    rfl
  rw [e1]
  simp only [prA, List.map_cons, List.map_nil]
  (refine gw0 ?_; try exact True.intro)
  refine wpF_give1 (H.length + 1) 4 ?_
  (refine gw0 ?_; try exact True.intro)
  refine f11 (d := (1, 0)) (fr := 5) (rows := [(0, 0)]) (by decide) ?_
  rw [e2]
  simp only [prA, List.map_cons, List.map_nil]
  (refine gw0 ?_; try exact True.intro)
  refine ⟨hsh_len, hsh_len, m8_kind, drawn _ (f9 (n := 5) (p := (0, 0)) ⟨rfl, rfl⟩) ?_⟩
  (refine gw0 ?_; try exact True.intro)
  refine ⟨hsh_len, hsh_len, m8_kind, drawn _ (f9 (n := 5) (p := (1, 0)) ⟨rfl, rfl⟩) ?_⟩
  (refine gw0 ?_; try exact True.intro)
  refine ⟨hsh_len, hsh_len, m8_kind, ?_⟩
  exact h
end Go.Proofs.YtjilenmngokhpaaDoor

end
