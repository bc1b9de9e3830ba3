/-
  Layers 5 and 7 (chacha, prg), as this seat has them.
-/
import Derived.Test.YtjilenmngokhpaaDoorRa
import Derived.Test.YtjilenmngokhpaaDoorV38
import Derived.Test.YtjilenmngokhpaaDoorV44
open Go Go.V
namespace Go.Proofs.YtjilenmngokhpaaDoor
set_option maxRecDepth 100000
set_option linter.unusedSimpArgs false
set_option linter.unusedVariables false
/-- trefoil/prg.Words (0:seed, 1:lane, 2:from, 3:n, 4:seed, 8:, 9:, 10:s, 11:e, 12:out, 13:i, 14:k, 28:, 40:, 45:, 46:, 47:, 49:, 50:) -/
def s36 : FnS := ⟨72, [0, 1, 2, 3, 4, 8, 9, 10, 11, 12, 13, 14, 28, 40, 45, 46, 47, 49, 50],
    (.seq (.reg [⟨.var 4, (.e (.box 28 (.arr 32 .leaf))), [.t 0], none⟩,
      ⟨.var 5, (.q .mv), [.c .nils], none⟩,
      ⟨.var 6, (.q .mv), [.c (.int 0)], none⟩])
    (.seq (.seq (.reg [⟨.new, (.q .mv), [.t 2], none⟩,
      ⟨.new, (.q (.bin .lss)), [.t 19, .c (.int 0)], none⟩,
      ⟨.new, (.q .mv), [.t 20], none⟩,
      ⟨.new, (.q .mv), [.t 3], (some (21, false))⟩,
      ⟨.new, (.q (.bin .lss)), [.t 22, .c (.int 0)], (some (21, false))⟩,
      ⟨.new, (.q .pick), [.t 21, .c (.bool true), .t 23], none⟩,
      ⟨.new, (.q .mv), [.t 24], none⟩,
      ⟨.new, (.q .mv), [.t 2], (some (25, false))⟩,
      ⟨.new, (.q (.bin .gtr)), [.t 26, .c (.int 134217728)], (some (25, false))⟩,
      ⟨.new, (.q .pick), [.t 25, .c (.bool true), .t 27], none⟩,
      ⟨.new, (.q .mv), [.t 28], none⟩,
      ⟨.new, (.q .mv), [.t 3], (some (29, false))⟩,
      ⟨.new, (.q (.bin .gtr)), [.t 30, .c (.int 4096)], (some (29, false))⟩,
      ⟨.var 12, (.q .pick), [.t 29, .c (.bool true), .t 31], none⟩])
    (.cond (.t 12) (.seq (.reg [⟨.var 5, (.q .mv), [.c .nils], none⟩,
      ⟨.var 6, (.q .mv), [.c (.int 2)], none⟩])
    .ret)
    .skip))
    (.seq (.reg [⟨.new, (.q (.ld (.arr 32 .leaf))), [.t 4], none⟩,
      ⟨.new, (.q .mv), [.t 1], none⟩,
      ⟨.new, (.q .mv), [.t 2], none⟩,
      ⟨.new, (.q (.bin .mul)), [.c (.int 8), .t 21], none⟩,
      ⟨.new, (.q .mv), [.t 3], none⟩,
      ⟨.new, (.q (.bin .mul)), [.c (.int 8), .t 23], none⟩,
      ⟨.new, (.call 53), [.t 19, .t 20, .t 22, .t 24], none⟩,
      ⟨.new, (.q .mv), [.t 25], none⟩,
      ⟨.new, (.q (.ext 0)), [.t 26], none⟩,
      ⟨.new, (.q (.ext 1)), [.t 26], none⟩,
      ⟨.var 7, (.q .mv), [.t 27], none⟩,
      ⟨.var 8, (.q .mv), [.t 28], none⟩])
    (.seq (.seq (.reg [⟨.new, (.q .mv), [.t 8], none⟩,
      ⟨.var 13, (.q (.bin .neq)), [.t 19, .c (.int 0)], none⟩])
    (.cond (.t 13) (.seq (.reg [⟨.new, (.q .mv), [.t 8], none⟩,
      ⟨.var 5, (.q .mv), [.c .nils], none⟩,
      ⟨.var 6, (.q .mv), [.t 19], none⟩])
    .ret)
    .skip))
    (.seq (.reg [⟨.new, (.q .mv), [.t 3], none⟩,
      ⟨.new, (.e (.mksl 22 .leaf 8 (.u64 0))), [.t 19, .t 19], none⟩,
      ⟨.var 9, (.q .mv), [.t 20], none⟩])
    (.seq (.seq (.reg [⟨.new, (.q .mv), [.t 9], none⟩,
      ⟨.var 14, (.q .len), [.t 19], none⟩,
      ⟨.var 15, (.q .mv), [.c (.int 0)], none⟩])
    (.block 0 (.loop (.seq (.reg [⟨.var 16, (.q (.bin .lss)), [.t 15, .t 14], none⟩])
    (.seq (.cond (.t 16) .skip
    (.exit 0))
    (.seq (.block 1 (.seq (.reg [⟨.new, (.q .mv), [.t 15], none⟩,
      ⟨.var 10, (.q .mv), [.t 19], none⟩])
    (.seq (.reg [⟨.var 17, (.q .mv), [.c (.int 0)], none⟩])
    (.block 2 (.loop (.seq (.reg [⟨.var 18, (.q (.bin .lss)), [.t 17, .c (.int 8)], none⟩])
    (.seq (.cond (.t 18) .skip
    (.exit 2))
    (.seq (.block 3 (.seq (.reg [⟨.new, (.q .mv), [.t 17], none⟩,
      ⟨.var 11, (.q .mv), [.t 19], none⟩])
    (.draw [⟨.new, (.q .mv), [.t 9], none⟩,
      ⟨.new, (.q .mv), [.t 10], none⟩,
      ⟨.new, (.q (.iaS .leaf)), [.t 19, .t 20], none⟩,
      ⟨.new, (.q (.ld .leaf)), [.t 21], none⟩,
      ⟨.new, (.q .mv), [.t 7], none⟩,
      ⟨.new, (.q .mv), [.t 10], none⟩,
      ⟨.new, (.q (.bin .mul)), [.c (.int 8), .t 24], none⟩,
      ⟨.new, (.q .mv), [.t 11], none⟩,
      ⟨.new, (.q (.bin .add)), [.t 25, .t 26], none⟩,
      ⟨.new, (.q .idxS), [.t 23, .t 27], none⟩,
      ⟨.new, (.q (.cv .u64)), [.t 28], none⟩,
      ⟨.new, (.q .mv), [.t 11], none⟩,
      ⟨.new, (.q (.bin .mul)), [.c (.int 8), .t 30], none⟩,
      ⟨.new, (.q (.cv .u64)), [.t 31], none⟩,
      ⟨.new, (.q (.bin .shl)), [.t 29, .t 32], none⟩,
      ⟨.new, (.q (.bin .or)), [.t 22, .t 33], none⟩,
      ⟨.new, (.q (.iaS .leaf)), [.t 19, .t 20], none⟩,
      ⟨.none, (.e (.store .leaf)), [.t 35, .t 34], none⟩])))
    (.reg [⟨.new, (.q (.bin .add)), [.t 17, .c (.int 1)], none⟩,
      ⟨.var 17, (.q .mv), [.t 19], none⟩])))))))))
    (.reg [⟨.new, (.q (.bin .add)), [.t 15, .c (.int 1)], none⟩,
      ⟨.var 15, (.q .mv), [.t 19], none⟩])))))))
    (.seq (.reg [⟨.new, (.q .mv), [.t 9], none⟩,
      ⟨.var 5, (.q .mv), [.t 19], none⟩,
      ⟨.var 6, (.q .mv), [.c (.int 0)], none⟩])
    .ret))))))),
    [.t 5, .t 6]⟩

/-- trefoil/prg.Child (0:seed, 1:number, 2:seed, 4:, 5:s, 7:out) -/
def s39 : FnS := ⟨19, [0, 1, 2, 4, 5, 7],
    (.seq (.reg [⟨.var 2, (.e (.box 28 (.arr 32 .leaf))), [.t 0], none⟩,
      ⟨.var 3, (.e (.alloc 28 (.arr 32 .leaf) (.agg [(.u8 0), (.u8 0), (.u8 0), (.u8 0), (.u8 0), (.u8 0), (.u8 0), (.u8 0), (.u8 0), (.u8 0), (.u8 0), (.u8 0), (.u8 0), (.u8 0), (.u8 0), (.u8 0), (.u8 0), (.u8 0), (.u8 0), (.u8 0), (.u8 0), (.u8 0), (.u8 0), (.u8 0), (.u8 0), (.u8 0), (.u8 0), (.u8 0), (.u8 0), (.u8 0), (.u8 0), (.u8 0)]))), [], none⟩])
    (.seq (.draw [⟨.new, (.q (.ld (.arr 32 .leaf))), [.t 2], none⟩,
      ⟨.new, (.q .mv), [.t 1], none⟩,
      ⟨.new, (.call 56), [.c (.u32 4294967295), .t 7], none⟩,
      ⟨.new, (.call 55), [.t 6, .t 8, .c (.u32 0)], none⟩,
      ⟨.new, (.q .mv), [.t 9], none⟩,
      ⟨.new, (.q (.ext 0)), [.t 10], none⟩,
      ⟨.new, (.q (.ext 1)), [.t 10], none⟩,
      ⟨.var 4, (.q .mv), [.t 11], none⟩,
      ⟨.new, (.q .mv), [.t 12], none⟩])
    (.seq (.reg [⟨.var 5, (.e (.alloc 28 (.arr 32 .leaf) (.agg [(.u8 0), (.u8 0), (.u8 0), (.u8 0), (.u8 0), (.u8 0), (.u8 0), (.u8 0), (.u8 0), (.u8 0), (.u8 0), (.u8 0), (.u8 0), (.u8 0), (.u8 0), (.u8 0), (.u8 0), (.u8 0), (.u8 0), (.u8 0), (.u8 0), (.u8 0), (.u8 0), (.u8 0), (.u8 0), (.u8 0), (.u8 0), (.u8 0), (.u8 0), (.u8 0), (.u8 0), (.u8 0)]))), [], none⟩])
    (.seq (.reg [⟨.new, (.q (.slA 32 .leaf false false)), [.t 5], none⟩,
      ⟨.new, (.q .mv), [.t 4], none⟩,
      ⟨.new, (.e .cpyS), [.t 6, .t 7], none⟩])
    (.seq (.reg [⟨.new, (.q (.ld (.arr 32 .leaf))), [.t 5], none⟩,
      ⟨.none, (.e (.store (.arr 32 .leaf))), [.t 3, .t 6], none⟩])
    .ret))))),
    [.cell 3 (.arr 32 .leaf)]⟩

/-- trefoil/prg.Bytes (0:seed, 1:lane, 2:from, 3:n, 4:seed, 8:, 9:, 10:skip, 11:s, 12:e, 28:, 45:) -/
def s53 : FnS := ⟨50, [0, 1, 2, 3, 4, 8, 9, 10, 11, 12, 28, 45],
    (.seq (.reg [⟨.var 4, (.e (.box 28 (.arr 32 .leaf))), [.t 0], none⟩,
      ⟨.var 5, (.q .mv), [.c (.str [])], none⟩,
      ⟨.var 6, (.q .mv), [.c (.int 0)], none⟩])
    (.seq (.seq (.reg [⟨.new, (.q .mv), [.t 2], none⟩,
      ⟨.new, (.q (.bin .lss)), [.t 12, .c (.int 0)], none⟩,
      ⟨.new, (.q .mv), [.t 13], none⟩,
      ⟨.new, (.q .mv), [.t 3], (some (14, false))⟩,
      ⟨.new, (.q (.bin .lss)), [.t 15, .c (.int 0)], (some (14, false))⟩,
      ⟨.new, (.q .pick), [.t 14, .c (.bool true), .t 16], none⟩,
      ⟨.new, (.q .mv), [.t 17], none⟩,
      ⟨.new, (.q .mv), [.t 3], (some (18, false))⟩,
      ⟨.new, (.q (.bin .gtr)), [.t 19, .c (.int 32768)], (some (18, false))⟩,
      ⟨.new, (.q .pick), [.t 18, .c (.bool true), .t 20], none⟩,
      ⟨.new, (.q .mv), [.t 21], none⟩,
      ⟨.new, (.q .mv), [.t 2], (some (22, false))⟩,
      ⟨.new, (.q .mv), [.t 3], (some (22, false))⟩,
      ⟨.new, (.q (.bin .sub)), [.c (.int 1073741824), .t 24], (some (22, false))⟩,
      ⟨.new, (.q (.bin .gtr)), [.t 23, .t 25], (some (22, false))⟩,
      ⟨.var 10, (.q .pick), [.t 22, .c (.bool true), .t 26], none⟩])
    (.cond (.t 10) (.seq (.reg [⟨.var 5, (.q .mv), [.c (.str [])], none⟩,
      ⟨.var 6, (.q .mv), [.c (.int 2)], none⟩])
    .ret)
    .skip))
    (.seq (.reg [⟨.new, (.q .mv), [.t 2], none⟩,
      ⟨.new, (.q (.bin .rem)), [.t 12, .c (.int 64)], none⟩,
      ⟨.var 7, (.q .mv), [.t 13], none⟩])
    (.seq (.draw [⟨.new, (.q (.ld (.arr 32 .leaf))), [.t 4], none⟩,
      ⟨.new, (.q .mv), [.t 1], none⟩,
      ⟨.new, (.call 56), [.t 13, .c (.u64 0)], none⟩,
      ⟨.new, (.q .mv), [.t 2], none⟩,
      ⟨.new, (.q (.bin .quo)), [.t 15, .c (.int 64)], none⟩,
      ⟨.new, (.q (.cv .u32)), [.t 16], none⟩,
      ⟨.new, (.q .mv), [.t 7], none⟩,
      ⟨.new, (.q .mv), [.t 3], none⟩,
      ⟨.new, (.q (.bin .add)), [.t 18, .t 19], none⟩,
      ⟨.new, (.call 68), [.t 12, .t 14, .t 17, .t 20], none⟩,
      ⟨.new, (.q .mv), [.t 21], none⟩,
      ⟨.new, (.q (.ext 0)), [.t 22], none⟩,
      ⟨.new, (.q (.ext 1)), [.t 22], none⟩,
      ⟨.var 8, (.q .mv), [.t 23], none⟩,
      ⟨.var 9, (.q .mv), [.t 24], none⟩])
    (.seq (.seq (.reg [⟨.new, (.q .mv), [.t 9], none⟩,
      ⟨.var 11, (.q (.bin .neq)), [.t 12, .c (.int 0)], none⟩])
    (.cond (.t 11) (.seq (.reg [⟨.new, (.q .mv), [.t 9], none⟩,
      ⟨.var 5, (.q .mv), [.c (.str [])], none⟩,
      ⟨.var 6, (.q .mv), [.t 12], none⟩])
    .ret)
    .skip))
    (.seq (.reg [⟨.new, (.q .mv), [.t 8], none⟩,
      ⟨.new, (.q .mv), [.t 7], none⟩,
      ⟨.new, (.q (.slS true false)), [.t 12, .t 13], none⟩,
      ⟨.var 5, (.q .mv), [.t 14], none⟩,
      ⟨.var 6, (.q .mv), [.c (.int 0)], none⟩])
    .ret)))))),
    [.t 5, .t 6]⟩

/-- trefoil/chacha.Block (0:key, 1:nonce, 2:counter, 3:key, 6:, 7:, 8:g, 9:v, 10:b, 11:i, 12:x, 15:, 21:, 22:, 33:, 34:, 35:) -/
def s55 : FnS := ⟨60, [0, 1, 2, 3, 6, 7, 8, 9, 10, 11, 12, 15, 21, 22, 33, 34, 35],
    (.seq (.reg [⟨.var 3, (.e (.box 28 (.arr 32 .leaf))), [.t 0], none⟩,
      ⟨.var 4, (.q .mv), [.c (.str [])], none⟩,
      ⟨.var 5, (.q .mv), [.c (.int 0)], none⟩])
    (.seq (.seq (.reg [⟨.new, (.q .mv), [.t 1], none⟩,
      ⟨.new, (.q .lenS), [.t 17], none⟩,
      ⟨.var 11, (.q (.bin .neq)), [.t 18, .c (.int 12)], none⟩])
    (.cond (.t 11) (.seq (.reg [⟨.var 4, (.q .mv), [.c (.str [])], none⟩,
      ⟨.var 5, (.q .mv), [.c (.int 11)], none⟩])
    .ret)
    .skip))
    (.seq (.reg [⟨.new, (.q (.ld (.arr 32 .leaf))), [.t 3], none⟩,
      ⟨.new, (.q .mv), [.t 1], none⟩,
      ⟨.new, (.q .mv), [.t 2], none⟩,
      ⟨.new, (.call 71), [.t 17, .t 18, .t 19], none⟩,
      ⟨.var 6, (.e (.alloc 130 (.arr 16 .leaf) (.agg [(.u32 0), (.u32 0), (.u32 0), (.u32 0), (.u32 0), (.u32 0), (.u32 0), (.u32 0), (.u32 0), (.u32 0), (.u32 0), (.u32 0), (.u32 0), (.u32 0), (.u32 0), (.u32 0)]))), [], none⟩,
      ⟨.none, (.e (.store (.arr 16 .leaf))), [.t 6, .t 20], none⟩])
    (.seq (.reg [⟨.new, (.q (.ld (.arr 16 .leaf))), [.t 6], none⟩,
      ⟨.var 7, (.e (.alloc 130 (.arr 16 .leaf) (.agg [(.u32 0), (.u32 0), (.u32 0), (.u32 0), (.u32 0), (.u32 0), (.u32 0), (.u32 0), (.u32 0), (.u32 0), (.u32 0), (.u32 0), (.u32 0), (.u32 0), (.u32 0), (.u32 0)]))), [], none⟩,
      ⟨.none, (.e (.store (.arr 16 .leaf))), [.t 7, .t 17], none⟩])
    (.seq (.seq (.reg [⟨.var 12, (.q .mv), [.c (.int 0)], none⟩])
    (.block 0 (.loop (.seq (.reg [⟨.var 13, (.q (.bin .lss)), [.t 12, .c (.int 10)], none⟩])
    (.seq (.cond (.t 13) .skip
    (.exit 0))
    (.seq (.block 1 (.seq (.reg [⟨.new, (.call 72), [.t 7, .c (.int 0), .c (.int 4), .c (.int 8), .c (.int 12)], none⟩])
    (.seq (.reg [⟨.new, (.call 72), [.t 7, .c (.int 1), .c (.int 5), .c (.int 9), .c (.int 13)], none⟩])
    (.seq (.reg [⟨.new, (.call 72), [.t 7, .c (.int 2), .c (.int 6), .c (.int 10), .c (.int 14)], none⟩])
    (.seq (.reg [⟨.new, (.call 72), [.t 7, .c (.int 3), .c (.int 7), .c (.int 11), .c (.int 15)], none⟩])
    (.seq (.reg [⟨.new, (.call 72), [.t 7, .c (.int 0), .c (.int 5), .c (.int 10), .c (.int 15)], none⟩])
    (.seq (.reg [⟨.new, (.call 72), [.t 7, .c (.int 1), .c (.int 6), .c (.int 11), .c (.int 12)], none⟩])
    (.seq (.reg [⟨.new, (.call 72), [.t 7, .c (.int 2), .c (.int 7), .c (.int 8), .c (.int 13)], none⟩])
    (.reg [⟨.new, (.call 72), [.t 7, .c (.int 3), .c (.int 4), .c (.int 9), .c (.int 14)], none⟩])))))))))
    (.reg [⟨.new, (.q (.bin .add)), [.t 12, .c (.int 1)], none⟩,
      ⟨.var 12, (.q .mv), [.t 17], none⟩])))))))
    (.seq (.reg [⟨.new, (.e (.mksl 5 .leaf 1 (.u8 0))), [.c (.int 0), .c (.int 64)], none⟩,
      ⟨.var 8, (.q .mv), [.t 17], none⟩])
    (.seq (.seq (.reg [⟨.var 14, (.q (.ld (.arr 16 .leaf))), [.t 7], none⟩,
      ⟨.var 15, (.q .mv), [.c (.int 0)], none⟩])
    (.block 2 (.loop (.seq (.reg [⟨.var 16, (.q (.bin .lss)), [.t 15, .c (.int 16)], none⟩])
    (.seq (.cond (.t 16) .skip
    (.exit 2))
    (.seq (.block 3 (.seq (.reg [⟨.new, (.q .mv), [.t 15], none⟩,
      ⟨.new, (.q (.idx 16 .leaf)), [.t 14, .t 15], none⟩,
      ⟨.var 9, (.q .mv), [.t 17], none⟩,
      ⟨.var 10, (.q .mv), [.t 18], none⟩])
    (.seq (.reg [⟨.new, (.q .mv), [.t 10], none⟩,
      ⟨.new, (.q .mv), [.t 9], none⟩,
      ⟨.new, (.q (.iaA 16 .leaf)), [.t 6, .t 18], none⟩,
      ⟨.new, (.q (.ld .leaf)), [.t 19], none⟩,
      ⟨.new, (.q (.bin .add)), [.t 17, .t 20], none⟩,
      ⟨.var 10, (.q .mv), [.t 21], none⟩])
    (.reg [⟨.new, (.q .mv), [.t 8], none⟩,
      ⟨.new, (.q .mv), [.t 10], none⟩,
      ⟨.new, (.q (.cv .u8)), [.t 18], none⟩,
      ⟨.new, (.q .mv), [.t 10], none⟩,
      ⟨.new, (.q (.bin .shr)), [.t 20, .c (.u64 8)], none⟩,
      ⟨.new, (.q (.cv .u8)), [.t 21], none⟩,
      ⟨.new, (.q .mv), [.t 10], none⟩,
      ⟨.new, (.q (.bin .shr)), [.t 23, .c (.u64 16)], none⟩,
      ⟨.new, (.q (.cv .u8)), [.t 24], none⟩,
      ⟨.new, (.q .mv), [.t 10], none⟩,
      ⟨.new, (.q (.bin .shr)), [.t 26, .c (.u64 24)], none⟩,
      ⟨.new, (.q (.cv .u8)), [.t 27], none⟩,
      ⟨.new, (.e (.bsl 5 .leaf (.u8 0) 4 [0, 1, 2, 3])), [.t 19, .t 22, .t 25, .t 28], none⟩,
      ⟨.new, (.e (.app 5 .leaf 1)), [.t 17, .t 29], none⟩,
      ⟨.var 8, (.q .mv), [.t 30], none⟩]))))
    (.reg [⟨.new, (.q (.bin .add)), [.t 15, .c (.int 1)], none⟩,
      ⟨.var 15, (.q .mv), [.t 17], none⟩])))))))
    (.seq (.reg [⟨.new, (.q .mv), [.t 8], none⟩,
      ⟨.new, (.q .b2s), [.t 17], none⟩,
      ⟨.var 4, (.q .mv), [.t 18], none⟩,
      ⟨.var 5, (.q .mv), [.c (.int 0)], none⟩])
    .ret)))))))),
    [.t 4, .t 5]⟩

/-- trefoil/chacha.Nonce (0:lane, 1:number, 4:, 5:b, 6:i, 7:i, 9:, 10:, 22:, 23:) -/
def s56 : FnS := ⟨38, [0, 1, 4, 5, 6, 7, 9, 10, 22, 23],
    (.seq (.reg [⟨.var 2, (.q .mv), [.c (.str [])], none⟩])
    (.seq (.reg [⟨.new, (.e (.mksl 5 .leaf 1 (.u8 0))), [.c (.int 12), .c (.int 12)], none⟩,
      ⟨.var 3, (.q .mv), [.t 10], none⟩])
    (.seq (.seq (.reg [⟨.var 6, (.q .mv), [.c (.int 0)], none⟩])
    (.block 0 (.loop (.seq (.reg [⟨.var 7, (.q (.bin .lss)), [.t 6, .c (.int 4)], none⟩])
    (.seq (.cond (.t 7) .skip
    (.exit 0))
    (.seq (.block 1 (.seq (.reg [⟨.new, (.q .mv), [.t 6], none⟩,
      ⟨.var 4, (.q .mv), [.t 10], none⟩])
    (.reg [⟨.new, (.q .mv), [.t 3], none⟩,
      ⟨.new, (.q .mv), [.t 4], none⟩,
      ⟨.new, (.q .mv), [.t 0], none⟩,
      ⟨.new, (.q .mv), [.t 4], none⟩,
      ⟨.new, (.q (.bin .mul)), [.c (.int 8), .t 13], none⟩,
      ⟨.new, (.q (.cv .u64)), [.t 14], none⟩,
      ⟨.new, (.q (.bin .shr)), [.t 12, .t 15], none⟩,
      ⟨.new, (.q (.cv .u8)), [.t 16], none⟩,
      ⟨.new, (.q (.iaS .leaf)), [.t 10, .t 11], none⟩,
      ⟨.none, (.e (.store .leaf)), [.t 18, .t 17], none⟩])))
    (.reg [⟨.new, (.q (.bin .add)), [.t 6, .c (.int 1)], none⟩,
      ⟨.var 6, (.q .mv), [.t 10], none⟩])))))))
    (.seq (.seq (.reg [⟨.var 8, (.q .mv), [.c (.int 0)], none⟩])
    (.block 2 (.loop (.seq (.reg [⟨.var 9, (.q (.bin .lss)), [.t 8, .c (.int 8)], none⟩])
    (.seq (.cond (.t 9) .skip
    (.exit 2))
    (.seq (.block 3 (.seq (.reg [⟨.new, (.q .mv), [.t 8], none⟩,
      ⟨.var 5, (.q .mv), [.t 10], none⟩])
    (.reg [⟨.new, (.q .mv), [.t 3], none⟩,
      ⟨.new, (.q .mv), [.t 5], none⟩,
      ⟨.new, (.q (.bin .add)), [.c (.int 4), .t 11], none⟩,
      ⟨.new, (.q .mv), [.t 1], none⟩,
      ⟨.new, (.q .mv), [.t 5], none⟩,
      ⟨.new, (.q (.bin .mul)), [.c (.int 8), .t 14], none⟩,
      ⟨.new, (.q (.cv .u64)), [.t 15], none⟩,
      ⟨.new, (.q (.bin .shr)), [.t 13, .t 16], none⟩,
      ⟨.new, (.q (.cv .u8)), [.t 17], none⟩,
      ⟨.new, (.q (.iaS .leaf)), [.t 10, .t 12], none⟩,
      ⟨.none, (.e (.store .leaf)), [.t 19, .t 18], none⟩])))
    (.reg [⟨.new, (.q (.bin .add)), [.t 8, .c (.int 1)], none⟩,
      ⟨.var 8, (.q .mv), [.t 10], none⟩])))))))
    (.seq (.reg [⟨.new, (.q .mv), [.t 3], none⟩,
      ⟨.new, (.q .b2s), [.t 10], none⟩,
      ⟨.var 2, (.q .mv), [.t 11], none⟩])
    .ret))))),
    [.t 2]⟩

/-- trefoil/chacha.Stream (0:key, 1:nonce, 2:counter, 3:n, 4:key, 8:, 9:, 10:b, 11:s, 13:, 17:, 24:, 40:) -/
def s68 : FnS := ⟨57, [0, 1, 2, 3, 4, 8, 9, 10, 11, 13, 17, 24, 40],
    (.seq (.reg [⟨.var 4, (.e (.box 28 (.arr 32 .leaf))), [.t 0], none⟩,
      ⟨.var 5, (.q .mv), [.c (.str [])], none⟩,
      ⟨.var 6, (.q .mv), [.c (.int 0)], none⟩])
    (.seq (.block 0 (.seq (.reg [⟨.new, (.q .mv), [.t 1], none⟩,
      ⟨.new, (.q .lenS), [.t 13], none⟩,
      ⟨.new, (.q (.bin .neq)), [.t 14, .c (.int 12)], none⟩,
      ⟨.var 9, (.q .mv), [.t 15], none⟩])
    (.cond (.t 9) (.seq (.reg [⟨.var 5, (.q .mv), [.c (.str [])], none⟩,
      ⟨.var 6, (.q .mv), [.c (.int 11)], none⟩])
    .ret)
    (.seq (.reg [⟨.new, (.q .mv), [.t 3], none⟩,
      ⟨.new, (.q (.bin .lss)), [.t 13, .c (.int 0)], none⟩,
      ⟨.new, (.q .mv), [.t 14], none⟩,
      ⟨.new, (.q .mv), [.t 3], (some (15, false))⟩,
      ⟨.new, (.q (.bin .gtr)), [.t 16, .c (.int 65536)], (some (15, false))⟩,
      ⟨.new, (.q .pick), [.t 15, .c (.bool true), .t 17], none⟩,
      ⟨.var 10, (.q .mv), [.t 18], none⟩])
    (.cond (.t 10) (.seq (.reg [⟨.var 5, (.q .mv), [.c (.str [])], none⟩,
      ⟨.var 6, (.q .mv), [.c (.int 2)], none⟩])
    .ret)
    (.seq (.reg [⟨.new, (.q .mv), [.t 2], none⟩,
      ⟨.new, (.q (.cv .u64)), [.t 13], none⟩,
      ⟨.new, (.q .mv), [.t 3], none⟩,
      ⟨.new, (.q (.bin .add)), [.t 15, .c (.int 64)], none⟩,
      ⟨.new, (.q (.bin .sub)), [.t 16, .c (.int 1)], none⟩,
      ⟨.new, (.q (.bin .quo)), [.t 17, .c (.int 64)], none⟩,
      ⟨.new, (.q (.cv .u64)), [.t 18], none⟩,
      ⟨.new, (.q (.bin .add)), [.t 14, .t 19], none⟩,
      ⟨.new, (.q (.bin .gtr)), [.t 20, .c (.u64 4294967296)], none⟩,
      ⟨.var 11, (.q .mv), [.t 21], none⟩])
    (.cond (.t 11) (.seq (.reg [⟨.var 5, (.q .mv), [.c (.str [])], none⟩,
      ⟨.var 6, (.q .mv), [.c (.int 24)], none⟩])
    .ret)
    .skip)))))))
    (.seq (.reg [⟨.new, (.q .mv), [.t 3], none⟩,
      ⟨.new, (.q (.bin .add)), [.t 13, .c (.int 64)], none⟩,
      ⟨.new, (.e (.mksl 5 .leaf 1 (.u8 0))), [.c (.int 0), .t 14], none⟩,
      ⟨.var 7, (.q .mv), [.t 15], none⟩])
    (.seq (.block 1 (.loop (.seq (.seq (.reg [⟨.new, (.q .mv), [.t 7], none⟩,
      ⟨.new, (.q .len), [.t 13], none⟩,
      ⟨.new, (.q .mv), [.t 3], none⟩,
      ⟨.var 12, (.q (.bin .lss)), [.t 14, .t 15], none⟩])
    (.cond (.t 12) .skip
    (.exit 1)))
    (.block 2 (.seq (.reg [⟨.new, (.q (.ld (.arr 32 .leaf))), [.t 4], none⟩,
      ⟨.new, (.q .mv), [.t 1], none⟩,
      ⟨.new, (.q .mv), [.t 2], none⟩,
      ⟨.new, (.call 55), [.t 13, .t 14, .t 15], none⟩,
      ⟨.new, (.q .mv), [.t 16], none⟩,
      ⟨.new, (.q (.ext 0)), [.t 17], none⟩,
      ⟨.new, (.q (.ext 1)), [.t 17], none⟩,
      ⟨.var 8, (.q .mv), [.t 18], none⟩,
      ⟨.new, (.q .mv), [.t 19], none⟩])
    (.seq (.reg [⟨.new, (.q .mv), [.t 7], none⟩,
      ⟨.new, (.q .mv), [.t 8], none⟩,
      ⟨.new, (.e (.appS 5)), [.t 13, .t 14], none⟩,
      ⟨.var 7, (.q .mv), [.t 15], none⟩])
    (.reg [⟨.new, (.q .mv), [.t 2], none⟩,
      ⟨.new, (.q (.bin .add)), [.t 13, .c (.u32 1)], none⟩,
      ⟨.var 2, (.q .mv), [.t 14], none⟩])))))))
    (.seq (.reg [⟨.new, (.q .mv), [.t 7], none⟩,
      ⟨.new, (.q .mv), [.t 3], none⟩,
      ⟨.new, (.q (.slV .leaf false true)), [.t 13, .t 14], none⟩,
      ⟨.new, (.q .b2s), [.t 15], none⟩,
      ⟨.var 5, (.q .mv), [.t 16], none⟩,
      ⟨.var 6, (.q .mv), [.c (.int 0)], none⟩])
    .ret))))),
    [.t 5, .t 6]⟩

/-- trefoil/chacha.start (0:key, 1:nonce, 2:counter, 3:key, 6:, 7:g, 8:i, 9:i, 11:, 12:, 28:, 29:) -/
def s71 : FnS := ⟨44, [0, 1, 2, 3, 6, 7, 8, 9, 11, 12, 28, 29],
    (.seq (.reg [⟨.var 3, (.e (.box 28 (.arr 32 .leaf))), [.t 0], none⟩,
      ⟨.var 4, (.e (.alloc 130 (.arr 16 .leaf) (.agg [(.u32 0), (.u32 0), (.u32 0), (.u32 0), (.u32 0), (.u32 0), (.u32 0), (.u32 0), (.u32 0), (.u32 0), (.u32 0), (.u32 0), (.u32 0), (.u32 0), (.u32 0), (.u32 0)]))), [], none⟩])
    (.seq (.reg [⟨.new, (.e (.bld (.arr 16 .leaf) (.agg [(.u32 0), (.u32 0), (.u32 0), (.u32 0), (.u32 0), (.u32 0), (.u32 0), (.u32 0), (.u32 0), (.u32 0), (.u32 0), (.u32 0), (.u32 0), (.u32 0), (.u32 0), (.u32 0)]) [0, 1, 2, 3])), [.c (.u32 1634760805), .c (.u32 857760878), .c (.u32 2036477234), .c (.u32 1797285236)], none⟩,
      ⟨.var 5, (.e (.alloc 130 (.arr 16 .leaf) (.agg [(.u32 0), (.u32 0), (.u32 0), (.u32 0), (.u32 0), (.u32 0), (.u32 0), (.u32 0), (.u32 0), (.u32 0), (.u32 0), (.u32 0), (.u32 0), (.u32 0), (.u32 0), (.u32 0)]))), [], none⟩,
      ⟨.none, (.e (.store (.arr 16 .leaf))), [.t 5, .t 12], none⟩])
    (.seq (.seq (.reg [⟨.var 8, (.q .mv), [.c (.int 0)], none⟩])
    (.block 0 (.loop (.seq (.reg [⟨.var 9, (.q (.bin .lss)), [.t 8, .c (.int 8)], none⟩])
    (.seq (.cond (.t 9) .skip
    (.exit 0))
    (.seq (.block 1 (.seq (.reg [⟨.new, (.q .mv), [.t 8], none⟩,
      ⟨.var 6, (.q .mv), [.t 12], none⟩])
    (.reg [⟨.new, (.q .mv), [.t 6], none⟩,
      ⟨.new, (.q (.bin .add)), [.c (.int 4), .t 12], none⟩,
      ⟨.new, (.q .mv), [.t 6], none⟩,
      ⟨.new, (.q (.bin .mul)), [.c (.int 4), .t 14], none⟩,
      ⟨.new, (.q .mv), [.t 6], none⟩,
      ⟨.new, (.q (.bin .mul)), [.c (.int 4), .t 16], none⟩,
      ⟨.new, (.q (.bin .add)), [.t 17, .c (.int 4)], none⟩,
      ⟨.new, (.q (.slA 32 .leaf true true)), [.t 3, .t 15, .t 18], none⟩,
      ⟨.new, (.q .b2s), [.t 19], none⟩,
      ⟨.new, (.call 83), [.t 20], none⟩,
      ⟨.new, (.q (.iaA 16 .leaf)), [.t 5, .t 13], none⟩,
      ⟨.none, (.e (.store .leaf)), [.t 22, .t 21], none⟩])))
    (.reg [⟨.new, (.q (.bin .add)), [.t 8, .c (.int 1)], none⟩,
      ⟨.var 8, (.q .mv), [.t 12], none⟩])))))))
    (.seq (.reg [⟨.new, (.q .mv), [.t 2], none⟩,
      ⟨.new, (.q (.iaA 16 .leaf)), [.t 5, .c (.int 12)], none⟩,
      ⟨.none, (.e (.store .leaf)), [.t 13, .t 12], none⟩])
    (.seq (.seq (.reg [⟨.var 10, (.q .mv), [.c (.int 0)], none⟩])
    (.block 2 (.loop (.seq (.reg [⟨.var 11, (.q (.bin .lss)), [.t 10, .c (.int 3)], none⟩])
    (.seq (.cond (.t 11) .skip
    (.exit 2))
    (.seq (.block 3 (.seq (.reg [⟨.new, (.q .mv), [.t 10], none⟩,
      ⟨.var 7, (.q .mv), [.t 12], none⟩])
    (.reg [⟨.new, (.q .mv), [.t 7], none⟩,
      ⟨.new, (.q (.bin .add)), [.c (.int 13), .t 12], none⟩,
      ⟨.new, (.q .mv), [.t 1], none⟩,
      ⟨.new, (.q .mv), [.t 7], none⟩,
      ⟨.new, (.q (.bin .mul)), [.c (.int 4), .t 15], none⟩,
      ⟨.new, (.q .mv), [.t 7], none⟩,
      ⟨.new, (.q (.bin .mul)), [.c (.int 4), .t 17], none⟩,
      ⟨.new, (.q (.bin .add)), [.t 18, .c (.int 4)], none⟩,
      ⟨.new, (.q (.slS true true)), [.t 14, .t 16, .t 19], none⟩,
      ⟨.new, (.call 83), [.t 20], none⟩,
      ⟨.new, (.q (.iaA 16 .leaf)), [.t 5, .t 13], none⟩,
      ⟨.none, (.e (.store .leaf)), [.t 22, .t 21], none⟩])))
    (.reg [⟨.new, (.q (.bin .add)), [.t 10, .c (.int 1)], none⟩,
      ⟨.var 10, (.q .mv), [.t 12], none⟩])))))))
    (.seq (.reg [⟨.new, (.q (.ld (.arr 16 .leaf))), [.t 5], none⟩,
      ⟨.none, (.e (.store (.arr 16 .leaf))), [.t 4, .t 12], none⟩])
    .ret)))))),
    [.cell 4 (.arr 16 .leaf)]⟩

/-- (*trefoil/chacha.grid).turn (0:g, 1:a, 2:b, 3:c, 4:d) -/
def s72 : FnS := ⟨52, [0, 1, 2, 3, 4],
    (.draw [⟨.new, (.q .mv), [.t 0], none⟩,
      ⟨.new, (.q .mv), [.t 1], none⟩,
      ⟨.new, (.q .mv), [.t 0], none⟩,
      ⟨.new, (.q .mv), [.t 2], none⟩,
      ⟨.new, (.q .mv), [.t 0], none⟩,
      ⟨.new, (.q .mv), [.t 3], none⟩,
      ⟨.new, (.q .mv), [.t 0], none⟩,
      ⟨.new, (.q .mv), [.t 4], none⟩,
      ⟨.new, (.q .mv), [.t 0], none⟩,
      ⟨.new, (.q .mv), [.t 1], none⟩,
      ⟨.new, (.q .nilc), [.t 13], none⟩,
      ⟨.new, (.q (.iaA 16 .leaf)), [.t 15, .t 14], none⟩,
      ⟨.new, (.q (.ld .leaf)), [.t 16], none⟩,
      ⟨.new, (.q .mv), [.t 0], none⟩,
      ⟨.new, (.q .mv), [.t 2], none⟩,
      ⟨.new, (.q .nilc), [.t 18], none⟩,
      ⟨.new, (.q (.iaA 16 .leaf)), [.t 20, .t 19], none⟩,
      ⟨.new, (.q (.ld .leaf)), [.t 21], none⟩,
      ⟨.new, (.q .mv), [.t 0], none⟩,
      ⟨.new, (.q .mv), [.t 3], none⟩,
      ⟨.new, (.q .nilc), [.t 23], none⟩,
      ⟨.new, (.q (.iaA 16 .leaf)), [.t 25, .t 24], none⟩,
      ⟨.new, (.q (.ld .leaf)), [.t 26], none⟩,
      ⟨.new, (.q .mv), [.t 0], none⟩,
      ⟨.new, (.q .mv), [.t 4], none⟩,
      ⟨.new, (.q .nilc), [.t 28], none⟩,
      ⟨.new, (.q (.iaA 16 .leaf)), [.t 30, .t 29], none⟩,
      ⟨.new, (.q (.ld .leaf)), [.t 31], none⟩,
      ⟨.new, (.call 84), [.t 17, .t 22, .t 27, .t 32], none⟩,
      ⟨.new, (.q .mv), [.t 33], none⟩,
      ⟨.new, (.q (.ext 0)), [.t 34], none⟩,
      ⟨.new, (.q (.ext 1)), [.t 34], none⟩,
      ⟨.new, (.q (.ext 2)), [.t 34], none⟩,
      ⟨.new, (.q (.ext 3)), [.t 34], none⟩,
      ⟨.new, (.q .nilc), [.t 5], none⟩,
      ⟨.new, (.q (.iaA 16 .leaf)), [.t 39, .t 6], none⟩,
      ⟨.none, (.e (.store .leaf)), [.t 40, .t 35], none⟩,
      ⟨.new, (.q .nilc), [.t 7], none⟩,
      ⟨.new, (.q (.iaA 16 .leaf)), [.t 41, .t 8], none⟩,
      ⟨.none, (.e (.store .leaf)), [.t 42, .t 36], none⟩,
      ⟨.new, (.q .nilc), [.t 9], none⟩,
      ⟨.new, (.q (.iaA 16 .leaf)), [.t 43, .t 10], none⟩,
      ⟨.none, (.e (.store .leaf)), [.t 44, .t 37], none⟩,
      ⟨.new, (.q .nilc), [.t 11], none⟩,
      ⟨.new, (.q (.iaA 16 .leaf)), [.t 45, .t 12], none⟩,
      ⟨.none, (.e (.store .leaf)), [.t 46, .t 38], none⟩]),
    []⟩

/-- trefoil/chacha.word (0:s, 2:) -/
def s83 : FnS := ⟨21, [0, 2],
    (.seq (.reg [⟨.var 1, (.q .mv), [.c (.u32 0)], none⟩])
    (.seq (.draw [⟨.new, (.q .mv), [.t 0], none⟩,
      ⟨.new, (.q .idxS), [.t 2, .c (.int 0)], none⟩,
      ⟨.new, (.q (.cv .u32)), [.t 3], none⟩,
      ⟨.new, (.q .mv), [.t 0], none⟩,
      ⟨.new, (.q .idxS), [.t 5, .c (.int 1)], none⟩,
      ⟨.new, (.q (.cv .u32)), [.t 6], none⟩,
      ⟨.new, (.q (.bin .shl)), [.t 7, .c (.u64 8)], none⟩,
      ⟨.new, (.q (.bin .or)), [.t 4, .t 8], none⟩,
      ⟨.new, (.q .mv), [.t 0], none⟩,
      ⟨.new, (.q .idxS), [.t 10, .c (.int 2)], none⟩,
      ⟨.new, (.q (.cv .u32)), [.t 11], none⟩,
      ⟨.new, (.q (.bin .shl)), [.t 12, .c (.u64 16)], none⟩,
      ⟨.new, (.q (.bin .or)), [.t 9, .t 13], none⟩,
      ⟨.new, (.q .mv), [.t 0], none⟩,
      ⟨.new, (.q .idxS), [.t 15, .c (.int 3)], none⟩,
      ⟨.new, (.q (.cv .u32)), [.t 16], none⟩,
      ⟨.new, (.q (.bin .shl)), [.t 17, .c (.u64 24)], none⟩,
      ⟨.new, (.q (.bin .or)), [.t 14, .t 18], none⟩,
      ⟨.var 1, (.q .mv), [.t 19], none⟩])
    .ret)),
    [.t 1]⟩

/-- trefoil/chacha.Quarter (0:a, 1:b, 2:c, 3:d, 8:, 9:, 10:, 11:) -/
def s84 : FnS := ⟨44, [0, 1, 2, 3, 8, 9, 10, 11],
    (.seq (.reg [⟨.var 4, (.q .mv), [.c (.u32 0)], none⟩,
      ⟨.var 5, (.q .mv), [.c (.u32 0)], none⟩,
      ⟨.var 6, (.q .mv), [.c (.u32 0)], none⟩,
      ⟨.var 7, (.q .mv), [.c (.u32 0)], none⟩])
    (.seq (.reg [⟨.new, (.q .mv), [.t 0], none⟩,
      ⟨.new, (.q .mv), [.t 1], none⟩,
      ⟨.new, (.q (.bin .add)), [.t 8, .t 9], none⟩,
      ⟨.var 0, (.q .mv), [.t 10], none⟩])
    (.seq (.reg [⟨.new, (.q .mv), [.t 3], none⟩,
      ⟨.new, (.q .mv), [.t 0], none⟩,
      ⟨.new, (.q (.bin .xor)), [.t 8, .t 9], none⟩,
      ⟨.new, (.call 77), [.t 10, .c (.int 16)], none⟩,
      ⟨.var 3, (.q .mv), [.t 11], none⟩])
    (.seq (.reg [⟨.new, (.q .mv), [.t 2], none⟩,
      ⟨.new, (.q .mv), [.t 3], none⟩,
      ⟨.new, (.q (.bin .add)), [.t 8, .t 9], none⟩,
      ⟨.var 2, (.q .mv), [.t 10], none⟩])
    (.seq (.reg [⟨.new, (.q .mv), [.t 1], none⟩,
      ⟨.new, (.q .mv), [.t 2], none⟩,
      ⟨.new, (.q (.bin .xor)), [.t 8, .t 9], none⟩,
      ⟨.new, (.call 77), [.t 10, .c (.int 12)], none⟩,
      ⟨.var 1, (.q .mv), [.t 11], none⟩])
    (.seq (.reg [⟨.new, (.q .mv), [.t 0], none⟩,
      ⟨.new, (.q .mv), [.t 1], none⟩,
      ⟨.new, (.q (.bin .add)), [.t 8, .t 9], none⟩,
      ⟨.var 0, (.q .mv), [.t 10], none⟩])
    (.seq (.reg [⟨.new, (.q .mv), [.t 3], none⟩,
      ⟨.new, (.q .mv), [.t 0], none⟩,
      ⟨.new, (.q (.bin .xor)), [.t 8, .t 9], none⟩,
      ⟨.new, (.call 77), [.t 10, .c (.int 8)], none⟩,
      ⟨.var 3, (.q .mv), [.t 11], none⟩])
    (.seq (.reg [⟨.new, (.q .mv), [.t 2], none⟩,
      ⟨.new, (.q .mv), [.t 3], none⟩,
      ⟨.new, (.q (.bin .add)), [.t 8, .t 9], none⟩,
      ⟨.var 2, (.q .mv), [.t 10], none⟩])
    (.seq (.reg [⟨.new, (.q .mv), [.t 1], none⟩,
      ⟨.new, (.q .mv), [.t 2], none⟩,
      ⟨.new, (.q (.bin .xor)), [.t 8, .t 9], none⟩,
      ⟨.new, (.call 77), [.t 10, .c (.int 7)], none⟩,
      ⟨.var 1, (.q .mv), [.t 11], none⟩])
    (.seq (.reg [⟨.new, (.q .mv), [.t 0], none⟩,
      ⟨.new, (.q .mv), [.t 1], none⟩,
      ⟨.new, (.q .mv), [.t 2], none⟩,
      ⟨.new, (.q .mv), [.t 3], none⟩,
      ⟨.var 4, (.q .mv), [.t 8], none⟩,
      ⟨.var 5, (.q .mv), [.t 9], none⟩,
      ⟨.var 6, (.q .mv), [.t 10], none⟩,
      ⟨.var 7, (.q .mv), [.t 11], none⟩])
    .ret)))))))))),
    [.t 4, .t 5, .t 6, .t 7]⟩

theorem c36 : cF P G (drP P G) 36 4 s36.vm = some s36 := by kernel_rfl
theorem c39 : cF P G (drP P G) 39 2 s39.vm = some s39 := by kernel_rfl
theorem c53 : cF P G (drP P G) 53 4 s53.vm = some s53 := by kernel_rfl
theorem c55 : cF P G (drP P G) 55 3 s55.vm = some s55 := by kernel_rfl
theorem c56 : cF P G (drP P G) 56 2 s56.vm = some s56 := by kernel_rfl
theorem c68 : cF P G (drP P G) 68 4 s68.vm = some s68 := by kernel_rfl
theorem c71 : cF P G (drP P G) 71 3 s71.vm = some s71 := by kernel_rfl
theorem c72 : cF P G (drP P G) 72 5 s72.vm = some s72 := by kernel_rfl
theorem c83 : cF P G (drP P G) 83 1 s83.vm = some s83 := by kernel_rfl
theorem c84 : cF P G (drP P G) 84 4 s84.vm = some s84 := by kernel_rfl
def rotl (x : BitVec 32) (k : Nat) : BitVec 32 := x <<< k ||| x >>> (32 - k)

theorem dem1 {N : Nat} {h : Heap} {x : BitVec 32} {d : Nat} : dem N h (d + 1) (.u32 x) = some (.u32 x) := by simp [dem, demK]


theorem shift_k : ∀ k, k < 32 → (BitVec.ofInt 64 (k : Nat) &&& 31).toNat = k ∧ (32 - (BitVec.ofInt 64 (k : Nat) &&& 31)).toNat = 32 - k := by decide

theorem shift_64 : ∀ k : Nat, k ≤ 32 → (32 - BitVec.ofNat 64 k).toNat = 32 - k := by decide

theorem f77c {K : AV → Heap → Prop} {H : Heap} {x : BitVec 32} {k : Nat} (hk : k < 32) (h : K (.u32 (rotl x k)) H) : wpF P G 77 [.u32 x, .int k] H K := by
  refine wpF_go c77 rfl 2 ?_
  intro ha hb
  simp only [s77]
  (refine gw0 ?_; try exact True.intro)
  rw [(shift_k k hk).1, (shift_k k hk).2]
  exact h

def q1 (a b d : BitVec 32) (k : Nat) : BitVec 32 := rotl (d ^^^ (a + b)) k

structure W4 where
  a : BitVec 32
  b : BitVec 32
  c : BitVec 32
  d : BitVec 32

/-- half of a quarter round -/
def half (k l : Nat) (w : W4) : W4 :=
  let a := w.a + w.b
  let d := rotl (w.d ^^^ a) k
  let c := w.c + d
  let b := rotl (w.b ^^^ c) l
  ⟨a, b, c, d⟩

def quarter (w : W4) : W4 := half 8 7 (half 16 12 w)

theorem f84 {K : AV → Heap → Prop} {H : Heap} {a b c d : BitVec 32} (h : K (.tup [.u32 (quarter ⟨a, b, c, d⟩).a, .u32 (quarter ⟨a, b, c, d⟩).b, .u32 (quarter ⟨a, b, c, d⟩).c, .u32 (quarter ⟨a, b, c, d⟩).d]) H) : wpF P G 84 [.u32 a, .u32 b, .u32 c, .u32 d] H K := by
  refine wpF_go c84 rfl 2 ?_
  intro ha hb
  simp only [s84]
  (refine gw0 ?_; try exact True.intro)
  refine f77c (k := 16) (by decide) ?_
  (refine gw0 ?_; try exact True.intro)
  refine f77c (k := 12) (by decide) ?_
  (refine gw0 ?_; try exact True.intro)
  refine f77c (k := 8) (by decide) ?_
  (refine gw0 ?_; try exact True.intro)
  refine f77c (k := 7) (by decide) ?_
  (refine gw0 ?_; try exact True.intro)
  exact h

def nonceV (a : BitVec 32) (n : BitVec 64) : List (BitVec 8) :=
  [(a >>> 0).setWidth 8, (a >>> 8).setWidth 8, (a >>> 16).setWidth 8, (a >>> 24).setWidth 8,
   (n >>> 0).setWidth 8, (n >>> 8).setWidth 8, (n >>> 16).setWidth 8, (n >>> 24).setWidth 8,
   (n >>> 32).setWidth 8, (n >>> 40).setWidth 8, (n >>> 48).setWidth 8, (n >>> 56).setWidth 8]

theorem f56 {K : AV → Heap → Prop} {H : Heap} {a : BitVec 32} {n : BitVec 64} (h : K (.str (nonceV a n)) H) : wpF P G 56 [.u32 a, .u64 n] H K := by
  refine wpF_go c56 rfl 2 ?_
  intro ha hb
  simp only [s56]
  (refine gw0 ?_; try exact True.intro)
  refine wp_unroll 5 ?_
  (refine gw0 ?_; try exact True.intro)
  refine wp_unroll 9 ?_
  (refine gw0 ?_; try exact True.intro)
  exact h

/-- a word of four bytes -/
def le32 (a b c d : BitVec 8) : BitVec 32 := ((a.setWidth 32 ||| b.setWidth 32 <<< 8) ||| c.setWidth 32 <<< 16) ||| d.setWidth 32 <<< 24

theorem or_sh32 (x y : BitVec 32) (i : Nat) (hx : x.toNat < 2 ^ i) (hy : y.toNat * 2 ^ i < 2 ^ 32) : (x ||| y <<< i).toNat = x.toNat + y.toNat * 2 ^ i := by
  rw [BitVec.toNat_or, BitVec.toNat_shiftLeft, Nat.shiftLeft_eq, Nat.mod_eq_of_lt hy, Nat.or_comm, ← Nat.shiftLeft_eq, ← Nat.shiftLeft_add_eq_or_of_lt hx, Nat.add_comm]

theorem le32_eq (a b c d : BitVec 8) : a.setWidth 32 + 256#32 * b.setWidth 32 + 65536#32 * c.setWidth 32 + 16777216#32 * d.setWidth 32 = le32 a b c d := by
  have ha := a.isLt
  have hb := b.isLt
  have hc := c.isLt
  have hd := d.isLt
  have sa : (a.setWidth 32).toNat = a.toNat := by rw [BitVec.toNat_setWidth]; omega
  have sb : (b.setWidth 32).toNat = b.toNat := by rw [BitVec.toNat_setWidth]; omega
  have sc : (c.setWidth 32).toNat = c.toNat := by rw [BitVec.toNat_setWidth]; omega
  have sd : (d.setWidth 32).toNat = d.toNat := by rw [BitVec.toNat_setWidth]; omega
  have e1 := or_sh32 (a.setWidth 32) (b.setWidth 32) 8 (by omega) (by omega)
  have e2 := or_sh32 (a.setWidth 32 ||| b.setWidth 32 <<< 8) (c.setWidth 32) 16 (by omega) (by omega)
  have e3 := or_sh32 ((a.setWidth 32 ||| b.setWidth 32 <<< 8) ||| c.setWidth 32 <<< 16) (d.setWidth 32) 24 (by omega) (by omega)
  apply BitVec.eq_of_toNat_eq
  unfold le32
  rw [e3, e2, e1]
  simp only [BitVec.toNat_add, BitVec.toNat_mul, BitVec.toNat_ofNat, sa, sb, sc, sd]
  omega

theorem f83 {K : AV → Heap → Prop} {H : Heap} {a b c d : BitVec 8} {r : List (BitVec 8)} (h : K (.u32 (le32 a b c d)) H) : wpF P G 83 [.str (a :: b :: c :: d :: r)] H K := by
  refine wpF_go c83 rfl 2 ?_
  intro ha hb
  simp only [s83]
  (refine gw0 ?_; try exact True.intro)
  exact ⟨by omega, by omega, by omega, by omega, h⟩

/-- four places of the grid turned -/
def turnL (g : List (BitVec 32)) (a b c d : Nat) : List (BitVec 32) :=
  let q := quarter ⟨g.getD a 0, g.getD b 0, g.getD c 0, g.getD d 0⟩
  (((g.set a q.a).set b q.b).set c q.c).set d q.d

def grd (g : List (BitVec 32)) : Option Blk := some ⟨130, 0, false, .arr 1 (.arr 16 .leaf), .agg [.agg (g.map .u32)]⟩

theorem f72 {K : AV → Heap → Prop} {H0 L : Heap} {g : List (BitVec 32)} (hg : g.length = 16) {a b c d : Nat} (ha : a < 16) (hb : b < 16) (hc : c < 16) (hd : d < 16)
    (h : K (.tup []) (H0 ++ grd (turnL g a b c d) :: L)) : wpF P G 72 [.ptr H0.length 0 [0] (.arr 16 .leaf), .int a, .int b, .int c, .int d] (H0 ++ grd g :: L) K := by
  refine wpF_goM c72 rfl ?_
  intro hA hB
  simp only [s72]
  have la : (a : Int) < 16 := by omega
  have lb : (b : Int) < 16 := by omega
  have lc : (c : Int) < 16 := by omega
  have ld : (d : Int) < 16 := by omega
  have ga : (g.map AV.u32)[a]? = some (.u32 (g.getD a 0)) := by simp [List.getD_eq_getElem?_getD, List.getElem?_eq_getElem (show a < g.length by omega)]
  have gb : (g.map AV.u32)[b]? = some (.u32 (g.getD b 0)) := by simp [List.getD_eq_getElem?_getD, List.getElem?_eq_getElem (show b < g.length by omega)]
  have gc : (g.map AV.u32)[c]? = some (.u32 (g.getD c 0)) := by simp [List.getD_eq_getElem?_getD, List.getElem?_eq_getElem (show c < g.length by omega)]
  have gd : (g.map AV.u32)[d]? = some (.u32 (g.getD d 0)) := by simp [List.getD_eq_getElem?_getD, List.getElem?_eq_getElem (show d < g.length by omega)]
  unfold grd at *
  (refine gw8 @la @lb @lc @ld @ga @gb @gc @gd ?_; try exact True.intro)
  refine drawn _ (f84 ⟨rfl, rfl⟩) ?_
  generalize hq : quarter ⟨g.getD a 0, g.getD b 0, g.getD c 0, g.getD d 0⟩ = q at *
  have e1 := lget_at (ps := (g.map AV.u32).set a (.u32 q.a)) (i := b) (by simp; omega)
  have e2 := lget_at (ps := ((g.map AV.u32).set a (.u32 q.a)).set b (.u32 q.b)) (i := c) (by simp; omega)
  have e3 := lget_at (ps := (((g.map AV.u32).set a (.u32 q.a)).set b (.u32 q.b)).set c (.u32 q.c)) (i := d) (by simp; omega)
  (refine gw11 @la @lb @lc @ld @ga @e1 @e2 @e3 @Kmut_n @Kmut_r @Km2_s ?_; try exact True.intro)
  have hlen : H0.length + (L.length + 1) = (H0 ++ grd g :: L).length := by simp
  refine ⟨Nat.le_refl _, ?_, ?_⟩
  · rw [hlen]
    exact HBnd_upd hB (by rintro blk h; cases h; simp only [AV.bnd, AV.bnds, Bool.and_true]; rw [show ((((g.map AV.u32).set a (.u32 q.a)).set b (.u32 q.b)).set c (.u32 q.c)).set d (.u32 q.d) = ((((g.set a q.a).set b q.b).set c q.c).set d q.d).map AV.u32 by simp [List.map_set]]; exact bnds_u32')
  · rw [List.take_of_length_le (by simp)]
    simpa only [turnL, hq, List.map_set] using h

theorem turnL_length (g : List (BitVec 32)) (a b c d : Nat) : (turnL g a b c d).length = g.length := by simp [turnL]

/-- the same, at a place in the heap that is named by its number -/
theorem f72' {K : AV → Heap → Prop} {H0 L Hx : Heap} {g : List (BitVec 32)} {n : Nat} (hn : n = H0.length) (hx : Hx = H0 ++ grd g :: L) (hg : g.length = 16) {a b c d : Nat} (ha : a < 16) (hb : b < 16) (hc : c < 16) (hd : d < 16)
    (h : K (.tup []) (H0 ++ grd (turnL g a b c d) :: L)) : wpF P G 72 [.ptr n 0 [0] (.arr 16 .leaf), .int a, .int b, .int c, .int d] Hx K := by
  subst hn hx
  exact f72 hg ha hb hc hd h

theorem f72b {K : AV → Heap → Prop} {H : Heap} {B1 B2 : Option Blk} {g : List (BitVec 32)} {a b c d : Nat} (hg : g.length = 16) (ha : a < 16) (hb : b < 16) (hc : c < 16) (hd : d < 16)
    (h : K (.tup []) (H ++ [B1, B2, grd (turnL g a b c d)])) : wpF P G 72 [.ptr (H.length + 2) 0 [0] (.arr 16 .leaf), .int a, .int b, .int c, .int d] (H ++ [B1, B2, grd g]) K :=
  f72' (H0 := H ++ [B1, B2]) (L := []) (by simp) (by simp) hg ha hb hc hd (by simpa using h)

def k32 (ks : List (BitVec 8)) (i : Nat) : BitVec 32 := le32 (ks.getD i 0) (ks.getD (i + 1) 0) (ks.getD (i + 2) 0) (ks.getD (i + 3) 0)
/-- the grid that a block begins with -/
def grid0 (ks ns : List (BitVec 8)) (c : BitVec 32) : List (BitVec 32) :=
  [1634760805, 857760878, 2036477234, 1797285236, k32 ks 0, k32 ks 4, k32 ks 8, k32 ks 12, k32 ks 16, k32 ks 20, k32 ks 24, k32 ks 28, c, k32 ns 0, k32 ns 4, k32 ns 8]

theorem f71 {K : AV → Heap → Prop} {H : Heap} {ks ns : List (BitVec 8)} {c : BitVec 32} (hk : ks.length = 32) (hn : ns.length = 12) (h : K (.agg ((grid0 ks ns c).map .u32)) H) : wpF P G 71 [.agg (ks.map .u8), .str ns, .u32 c] H K := by
  match ks, hk, ns, hn with
  | [k0, k1, k2, k3, k4, k5, k6, k7, k8, k9, k10, k11, k12, k13, k14, k15, k16, k17, k18, k19, k20, k21, k22, k23, k24, k25, k26, k27, k28, k29, k30, k31], _, [n0, n1, n2, n3, n4, n5, n6, n7, n8, n9, n10, n11], _ =>
  refine wpF_go c71 rfl 3 ?_
  intro ha hb
  simp only [s71]
  (refine gw0 ?_; try exact True.intro)
  refine wp_unroll 9 ?_
  (refine gw0 ?_; try exact True.intro)
  refine f83 ?_
  (refine gw0 ?_; try exact True.intro)
  refine f83 ?_
  (refine gw0 ?_; try exact True.intro)
  refine f83 ?_
  (refine gw0 ?_; try exact True.intro)
  refine f83 ?_
  (refine gw0 ?_; try exact True.intro)
  refine f83 ?_
  (refine gw0 ?_; try exact True.intro)
  refine f83 ?_
  (refine gw0 ?_; try exact True.intro)
  refine f83 ?_
  (refine gw0 ?_; try exact True.intro)
  refine f83 ?_
  (refine gw0 ?_; try exact True.intro)
  refine wp_unroll 4 ?_
  (refine gw0 ?_; try exact True.intro)
  refine f83 ?_
  (refine gw0 ?_; try exact True.intro)
  refine f83 ?_
  (refine gw0 ?_; try exact True.intro)
  refine f83 ?_
  (refine gw0 ?_; try exact True.intro)
  exact h

theorem grid0_length (ks ns : List (BitVec 8)) (c : BitVec 32) : (grid0 ks ns c).length = 16 := rfl

/-- one double round -/
def dround (g : List (BitVec 32)) : List (BitVec 32) :=
  turnL (turnL (turnL (turnL (turnL (turnL (turnL (turnL g 0 4 8 12) 1 5 9 13) 2 6 10 14) 3 7 11 15) 0 5 10 15) 1 6 11 12) 2 7 8 13) 3 4 9 14
def itr (f : List (BitVec 32) → List (BitVec 32)) : Nat → List (BitVec 32) → List (BitVec 32)
  | 0, g => g
  | n + 1, g => f (itr f n g)
theorem dround_length (g : List (BitVec 32)) : (dround g).length = g.length := by simp [dround, turnL_length]
theorem itr_length (n : Nat) (g : List (BitVec 32)) : (itr dround n g).length = g.length := by
  induction n with
  | zero => rfl
  | succ n ih => rw [itr, dround_length, ih]

/-- the bytes of a word -/
def by4 (x : BitVec 32) : List (BitVec 8) := [x.setWidth 8, (x >>> 8).setWidth 8, (x >>> 16).setWidth 8, (x >>> 24).setWidth 8]
def outB (v g : List (BitVec 32)) : Nat → List (BitVec 8)
  | 0 => []
  | i + 1 => outB v g i ++ by4 (v.getD i 0 + g.getD i 0)
theorem outB_length (v g : List (BitVec 32)) (i : Nat) : (outB v g i).length = 4 * i := by
  induction i with
  | zero => rfl
  | succ i ih => rw [outB, List.length_append, ih]; rfl
/-- a block -/
def blk (ks ns : List (BitVec 8)) (c : BitVec 32) : List (BitVec 8) := outB (itr dround 10 (grid0 ks ns c)) (grid0 ks ns c) 16

def kbx (ks : List (BitVec 8)) : Option Blk := some ⟨28, 0, false, .arr 1 (.arr 32 .leaf), .agg [.agg (ks.map .u8)]⟩

def Ic44 (ks ns : List (BitVec 8)) (c : BitVec 32) (H : Heap) (k : Nat) (st : St) : Prop :=
  ∃ (i : Nat) (u1 u2 u3 u4 u5 u6 u7 u8 : AV), st = ⟨[.agg (ks.map .u8), .str ns, .u32 c, .ptr H.length 0 [0] (.arr 32 .leaf), .str [], .int 0, .ptr (H.length + 1) 0 [0] (.arr 16 .leaf), .ptr (H.length + 2) 0 [0] (.arr 16 .leaf), u1, u2, u3, .bool false, .int i, u4, u5, u6, u7], H ++ [kbx ks, grd (grid0 ks ns c), grd (itr dround i (grid0 ks ns c))]⟩ ∧ k = 10 - i ∧ i ≤ 10

def Jc44 (ks ns : List (BitVec 8)) (c : BitVec 32) (H : Heap) (k : Nat) (st : St) : Prop :=
  ∃ (i : Nat) (J : Heap) (u2 u3 u4 u7 u8 : AV), st = ⟨[.agg (ks.map .u8), .str ns, .u32 c, .ptr H.length 0 [0] (.arr 32 .leaf), .str [], .int 0, .ptr (H.length + 1) 0 [0] (.arr 16 .leaf), .ptr (H.length + 2) 0 [0] (.arr 16 .leaf), .own (H.length + 3) i [] 0 (4 * i) .leaf, u2, u3, .bool false, u8, u4, .agg ((itr dround 10 (grid0 ks ns c)).map .u32), .int i, u7],
    H ++ kbx ks :: grd (grid0 ks ns c) :: grd (itr dround 10 (grid0 ks ns c)) :: some ⟨5, i, true, .arr (4 * i) .leaf, .agg ((outB (itr dround 10 (grid0 ks ns c)) (grid0 ks ns c) i).map .u8)⟩ :: J⟩ ∧ k = 16 - i ∧ i ≤ 16

set_option maxHeartbeats 1000000 in
theorem f55 {K : AV → Heap → Prop} {H : Heap} {ks ns : List (BitVec 8)} {c : BitVec 32} (hk : ks.length = 32) (h : K (if ns.length = 12 then .tup [.str (blk ks ns c), .int 0] else .tup [.str [], .int 11]) H) : wpF P G 55 [.agg (ks.map .u8), .str ns, .u32 c] H K := by
  refine wpF_go c55 rfl 3 ?_
  intro ha hb
  simp only [s55]
  by_cases hn : ns.length = 12
  · have h1 : ((ns.length : Int) = 12) = True := by simp; omega
    rw [if_pos hn] at h
    (refine gw2 @h1 @hk ?_; try exact True.intro)
    refine f71 hk hn ?_
    (refine gw1 @grid0_length ?_; try exact True.intro)
    refine wp_inv (Ic44 ks ns c H) 10 ⟨0, _, _, _, _, _, _, _, .un, rfl, rfl, by omega⟩ ?_
    rintro k st ⟨i, u1, u2, u3, u4, u5, u6, u7, u8, rfl, rfl, hi⟩
    by_cases hil : i < 10
    · have h2 : ((i : Int) < 10) = True := by simp; omega
      (refine gw1 @h2 ?_; try exact True.intro)
      refine f72b (a := 0) (b := 4) (c := 8) (d := 12) (by simp [turnL_length, itr_length, grid0_length]) (by decide) (by decide) (by decide) (by decide) ?_
      (refine gw0 ?_; try exact True.intro)
      refine f72b (a := 1) (b := 5) (c := 9) (d := 13) (by simp [turnL_length, itr_length, grid0_length]) (by decide) (by decide) (by decide) (by decide) ?_
      (refine gw0 ?_; try exact True.intro)
      refine f72b (a := 2) (b := 6) (c := 10) (d := 14) (by simp [turnL_length, itr_length, grid0_length]) (by decide) (by decide) (by decide) (by decide) ?_
      (refine gw0 ?_; try exact True.intro)
      refine f72b (a := 3) (b := 7) (c := 11) (d := 15) (by simp [turnL_length, itr_length, grid0_length]) (by decide) (by decide) (by decide) (by decide) ?_
      (refine gw0 ?_; try exact True.intro)
      refine f72b (a := 0) (b := 5) (c := 10) (d := 15) (by simp [turnL_length, itr_length, grid0_length]) (by decide) (by decide) (by decide) (by decide) ?_
      (refine gw0 ?_; try exact True.intro)
      refine f72b (a := 1) (b := 6) (c := 11) (d := 12) (by simp [turnL_length, itr_length, grid0_length]) (by decide) (by decide) (by decide) (by decide) ?_
      (refine gw0 ?_; try exact True.intro)
      refine f72b (a := 2) (b := 7) (c := 8) (d := 13) (by simp [turnL_length, itr_length, grid0_length]) (by decide) (by decide) (by decide) (by decide) ?_
      (refine gw0 ?_; try exact True.intro)
      refine f72b (a := 3) (b := 4) (c := 9) (d := 14) (by simp [turnL_length, itr_length, grid0_length]) (by decide) (by decide) (by decide) (by decide) ?_
      (refine gw0 ?_; try exact True.intro)
      refine ⟨by omega, by omega, 10 - (i + 1), by omega, i + 1, _, _, _, _, _, _, _, .un, rfl, rfl, by omega⟩
    · have h2 : ((i : Int) < 10) = False := by simp; omega
      have hie : i = 10 := by omega
      subst hie
      have hl10 : (itr dround 10 (grid0 ks ns c)).length = 16 := by rw [itr_length, grid0_length]
      simp (maxSteps := 2000000) only [↓vS_skip, ↓vS_reg, ↓vS_draw, ↓vS_seq, ↓wS_cond, ↓vS_block, ↓vS_exit, ↓vS_ret, ↓vI_nil, ↓vI_go, ↓wI_gd, ↓stepI_q, ↓stepI_e, ↓stepI_c, ↓stepI_v, ↓vD_nil, ↓vD_go, ↓wD_gd, ↓stepW_q, ↓stepW_e, ↓stepW_c, ↓stepW_v, ↓Kw_app, ↓KwD_app, ↓Kc_app, ↓Kp_app, ↓Kr_app, ↓Ks_n, ↓Ks_r, ↓Ks_x, ↓Kb_n, ↓Kb_r, ↓Kb_x, ↓Ku_n, ↓Ku_r, ↓Ku_x, ↓Kl_n, ↓Kl_r, ↓Kl_x, ↓Kend_n, ↓Kend_r, ↓Two_t, ↓Two_f, ↓unr_succ, ↓GdM_b, ↓GdM_t, ↓CdM_b, ↓TwU_t, ↓TwU_f, ↓ThI_app, ↓ThW_app, ↓ThK_app, ↓ThS_app, ↓stepI_p, ↓stepW_p, ↓stepI_w, ↓stepW_w, ↓xD_w, ↓stepI_n, ↓xD_n, ↓xD_q, ↓xD_e, ↓xD_c, ↓xD_v, ↓xD_p, ↓xD_m, ↓xD_s, ↓vX_nil, ↓vX_go, ↓wX_gd, ↓KwX_app, ↓stepI_m, ↓stepW_m, ↓hasSh_mbool, ↓hasSh_mu8, ↓hasSh_mu16, ↓hasSh_mu32, ↓hasSh_mu64, ↓hasSh_mint, putE_none, putE_var, putE_new, get_t, get_c, qev, eev, rsGet, rvGet, oneOf, binAV, isSh, bvBin, bvOp, bvCmp, bvSh, intBin, intSh, cvAV, unAV, AV.cnt, AV.num, Ken2_s, Ken3_s, htake_1, htake_2, beq_self_eq_true, beq_true, beq_false, Int.toNat_natCast, Int.natCast_nonneg, BitVec.reduceOfInt, BitVec.reduceToNat, bytesOf, List.map_cons, List.replicate_succ, Bool.not_eq_true, maxLen, Nat.reducePow, Nat.reduceMul, List.map_cons, List.map_nil, List.getD_cons_zero, List.getD_cons_succ, List.set_cons_zero, List.set_cons_succ, List.cons_append, List.nil_append, List.append_nil, List.take_succ_cons, List.take_zero, List.take_nil, List.length_cons, List.length_nil, List.replicate_succ, List.replicate_zero, Option.map_some, Option.map_none, List.getElem?_cons_zero, List.getElem?_cons_succ, true_and, and_true, if_true, if_false, ite_true, ite_false, reduceIte, reduceCtorEq, false_or, or_true, true_or, or_false, Option.some.injEq, Prod.mk.injEq, exists_eq_left', exists_eq_left, exists_eq_right, exists_and_left, exists_and_right, exists_const, and_assoc, decide_true, decide_false, Bool.false_eq_true, forall_const, Bool.not_true, Bool.not_false, false_implies, true_implies, Nat.reduceAdd, Nat.reduceSub, Nat.reduceMul, Nat.reduceLT, Nat.reduceLeDiff, Nat.reduceEqDiff, Int.reduceAdd, Int.reduceSub, Int.reduceMul, Int.reduceLT, Int.reduceLE, Int.reduceTMod, Int.reduceTDiv, Int.reduceToNat, Int.reduceEq, Int.reduceNe, Int.reduceNeg, ne_eq, not_false_eq_true, not_true_eq_false, InR, Bool.true_eq_false, Bool.false_eq_true, reduceDIte, Nat.zero_add, Nat.add_zero, Int.cast_ofNat_Int, eq_self, hget_0, hget_k, hget_z, hget_s, hset_0, hset_k, htake_0, lt_own0, lt_ownk, hasAt_nil, hasAt_arr, hasAt_st, hasSh_l, hasSh_aa, hasSh_sa, hasShs_n, hasShs_c, setAll, AV.isCell, Shape.size_leaf, Shape.size_arr, Shape.size_st, Shape.sizes_cons, Shape.sizes_nil, List.length_append, List.append_assoc, List.length_set, stP, ldP, getP, setP, psh, partsOf, slen, rd, dem, demK_own, demK_ptr, demK_agg, demK_tup, demK_fn, demK_ro, demK_rp, demK_bool, demK_u8, demK_u16, demK_u32, demK_u64, demK_int, demK_str, demK_nilp, demK_nils, demK_nilf, demK_un, mapO, AV.bnds, AV.bnd, bne_self_eq_false, AV.plain2, AV.plain, List.all_cons, List.all_nil, List.take_length, List.drop_zero, List.drop_succ_cons, Nat.mul_one, List.getElem?_nil, List.forall_mem_cons, List.not_mem_nil, implies_true, Bool.and_true, Bool.true_and, Bool.and_false, Bool.false_and, and_self, and_false, false_and, Nat.sub_zero, bnds, bnds_bool, bnds_bool', mapO_bool, mapO_bool', bnds_u8, bnds_u8', mapO_u8, mapO_u8', bnds_u16, bnds_u16', mapO_u16, mapO_u16', bnds_u32, bnds_u32', mapO_u32, mapO_u32', bnds_u64, bnds_u64', mapO_u64, mapO_u64', bnds_int, bnds_int', mapO_int, mapO_int', bt, bf, Bool.not_not, nilK_nils, nilK_own, nilK_ro, ninL_n, ninL_c, disL_n, disL_r, disL_c, chkL_n, chkL_c, apartL_e, fp_ld, fp_b2s, fp_st, fp_app, fp_appS, fp_cpy, fp_cpyS, tb_own, tb_ptr, tb_ro, tb_rp, tb_nils, tb_str, ne_ah, ne_ha, h2, grd]
      refine wp_inv (Jc44 ks ns c H) 16 ⟨0, [], _, _, _, _, _, rfl, rfl, by omega⟩ ?_
      rintro k st ⟨i, J, u2, u3, u4, u7, u8, rfl, rfl, hi⟩
      by_cases hil : i < 16
      · have h3 : ((i : Int) < 16) = True := by simp; omega
        have g1 := ld_u32 (ns := itr dround 10 (grid0 ks ns c)) (i := i) (by omega)
        have g2 : ((grid0 ks ns c).map AV.u32)[i]? = some (.u32 ((grid0 ks ns c).getD i 0)) := by
          have : i < (grid0 ks ns c).length := by rw [grid0_length]; exact hil
          simp [List.getD_eq_getElem?_getD, List.getElem?_eq_getElem this]
        simp (maxSteps := 2000000) only [↓vS_skip, ↓vS_reg, ↓vS_draw, ↓vS_seq, ↓wS_cond, ↓vS_block, ↓vS_exit, ↓vS_ret, ↓vI_nil, ↓vI_go, ↓wI_gd, ↓stepI_q, ↓stepI_e, ↓stepI_c, ↓stepI_v, ↓vD_nil, ↓vD_go, ↓wD_gd, ↓stepW_q, ↓stepW_e, ↓stepW_c, ↓stepW_v, ↓Kw_app, ↓KwD_app, ↓Kc_app, ↓Kp_app, ↓Kr_app, ↓Ks_n, ↓Ks_r, ↓Ks_x, ↓Kb_n, ↓Kb_r, ↓Kb_x, ↓Ku_n, ↓Ku_r, ↓Ku_x, ↓Kl_n, ↓Kl_r, ↓Kl_x, ↓Kend_n, ↓Kend_r, ↓Two_t, ↓Two_f, ↓unr_succ, ↓GdM_b, ↓GdM_t, ↓CdM_b, ↓TwU_t, ↓TwU_f, ↓ThI_app, ↓ThW_app, ↓ThK_app, ↓ThS_app, ↓stepI_p, ↓stepW_p, ↓stepI_w, ↓stepW_w, ↓xD_w, ↓stepI_n, ↓xD_n, ↓xD_q, ↓xD_e, ↓xD_c, ↓xD_v, ↓xD_p, ↓xD_m, ↓xD_s, ↓vX_nil, ↓vX_go, ↓wX_gd, ↓KwX_app, ↓stepI_m, ↓stepW_m, ↓hasSh_mbool, ↓hasSh_mu8, ↓hasSh_mu16, ↓hasSh_mu32, ↓hasSh_mu64, ↓hasSh_mint, putE_none, putE_var, putE_new, get_t, get_c, qev, eev, rsGet, rvGet, oneOf, binAV, isSh, bvBin, bvOp, bvCmp, bvSh, intBin, intSh, cvAV, unAV, AV.cnt, AV.num, Ken2_s, Ken3_s, htake_1, htake_2, beq_self_eq_true, beq_true, beq_false, Int.toNat_natCast, Int.natCast_nonneg, BitVec.reduceOfInt, BitVec.reduceToNat, bytesOf, List.map_cons, List.replicate_succ, Bool.not_eq_true, maxLen, Nat.reducePow, Nat.reduceMul, List.map_cons, List.map_nil, List.getD_cons_zero, List.getD_cons_succ, List.set_cons_zero, List.set_cons_succ, List.cons_append, List.nil_append, List.append_nil, List.take_succ_cons, List.take_zero, List.take_nil, List.length_cons, List.length_nil, List.replicate_succ, List.replicate_zero, Option.map_some, Option.map_none, List.getElem?_cons_zero, List.getElem?_cons_succ, true_and, and_true, if_true, if_false, ite_true, ite_false, reduceIte, reduceCtorEq, false_or, or_true, true_or, or_false, Option.some.injEq, Prod.mk.injEq, exists_eq_left', exists_eq_left, exists_eq_right, exists_and_left, exists_and_right, exists_const, and_assoc, decide_true, decide_false, Bool.false_eq_true, forall_const, Bool.not_true, Bool.not_false, false_implies, true_implies, Nat.reduceAdd, Nat.reduceSub, Nat.reduceMul, Nat.reduceLT, Nat.reduceLeDiff, Nat.reduceEqDiff, Int.reduceAdd, Int.reduceSub, Int.reduceMul, Int.reduceLT, Int.reduceLE, Int.reduceTMod, Int.reduceTDiv, Int.reduceToNat, Int.reduceEq, Int.reduceNe, Int.reduceNeg, ne_eq, not_false_eq_true, not_true_eq_false, InR, Bool.true_eq_false, Bool.false_eq_true, reduceDIte, Nat.zero_add, Nat.add_zero, Int.cast_ofNat_Int, eq_self, hget_0, hget_k, hget_z, hget_s, hset_0, hset_k, htake_0, lt_own0, lt_ownk, hasAt_nil, hasAt_arr, hasAt_st, hasSh_l, hasSh_aa, hasSh_sa, hasShs_n, hasShs_c, setAll, AV.isCell, Shape.size_leaf, Shape.size_arr, Shape.size_st, Shape.sizes_cons, Shape.sizes_nil, List.length_append, List.append_assoc, List.length_set, stP, ldP, getP, setP, psh, partsOf, slen, rd, dem, demK_own, demK_ptr, demK_agg, demK_tup, demK_fn, demK_ro, demK_rp, demK_bool, demK_u8, demK_u16, demK_u32, demK_u64, demK_int, demK_str, demK_nilp, demK_nils, demK_nilf, demK_un, mapO, AV.bnds, AV.bnd, bne_self_eq_false, AV.plain2, AV.plain, List.all_cons, List.all_nil, List.take_length, List.drop_zero, List.drop_succ_cons, Nat.mul_one, List.getElem?_nil, List.forall_mem_cons, List.not_mem_nil, implies_true, Bool.and_true, Bool.true_and, Bool.and_false, Bool.false_and, and_self, and_false, false_and, Nat.sub_zero, bnds, bnds_bool, bnds_bool', mapO_bool, mapO_bool', bnds_u8, bnds_u8', mapO_u8, mapO_u8', bnds_u16, bnds_u16', mapO_u16, mapO_u16', bnds_u32, bnds_u32', mapO_u32, mapO_u32', bnds_u64, bnds_u64', mapO_u64, mapO_u64', bnds_int, bnds_int', mapO_int, mapO_int', bt, bf, Bool.not_not, nilK_nils, nilK_own, nilK_ro, ninL_n, ninL_c, disL_n, disL_r, disL_c, chkL_n, chkL_c, apartL_e, fp_ld, fp_b2s, fp_st, fp_app, fp_appS, fp_cpy, fp_cpyS, tb_own, tb_ptr, tb_ro, tb_rp, tb_nils, tb_str, ne_ah, ne_ha, h3, g1, g2, grd, hl10, List.length_map]
        have e : (outB (itr dround 10 (grid0 ks ns c)) (grid0 ks ns c) (i + 1)).map AV.u8 = (outB (itr dround 10 (grid0 ks ns c)) (grid0 ks ns c) i).map AV.u8 ++ (by4 ((itr dround 10 (grid0 ks ns c)).getD i 0 + (grid0 ks ns c).getD i 0)).map AV.u8 := by simp only [outB, List.map_append]
        refine ⟨by omega, by omega, by omega, by omega, 16 - (i + 1), by omega, i + 1, _, _, _, _, _, _, by rw [e]; rfl, rfl, by omega⟩
      · have h3 : ((i : Int) < 16) = False := by simp; omega
        have hie : i = 16 := by omega
        subst hie
        have hl64 : List.take 64 ((outB (itr dround 10 (grid0 ks ns c)) (grid0 ks ns c) 16).map AV.u8) = (outB (itr dround 10 (grid0 ks ns c)) (grid0 ks ns c) 16).map AV.u8 := by
          rw [List.take_of_length_le]; simp [outB_length]
        (refine gw3 @h3 @hl64 @bytesOf_m ?_; try exact True.intro)
        exact h
  · have h1 : ((ns.length : Int) = 12) = False := by simp; omega
    rw [if_neg hn] at h
    (refine gw2 @h1 @hk ?_; try exact True.intro)
    exact h

/-! the reference's block -/
def cols (g : List (BitVec 32)) : List (BitVec 32) := turnL (turnL (turnL (turnL g 0 4 8 12) 1 5 9 13) 2 6 10 14) 3 7 11 15
def dias (g : List (BitVec 32)) : List (BitVec 32) := turnL (turnL (turnL (turnL g 0 5 10 15) 1 6 11 12) 2 7 8 13) 3 4 9 14
def hr (g : List (BitVec 32)) : Nat → List (BitVec 32)
  | 0 => g
  | r + 1 => if r % 2 = 0 then cols (hr g r) else dias (hr g r)
theorem hr_length (g : List (BitVec 32)) (r : Nat) : (hr g r).length = g.length := by
  induction r with
  | zero => rfl
  | succ r ih => rw [hr]; split <;> simp [cols, dias, turnL_length, ih]
theorem hr_two (g : List (BitVec 32)) (n : Nat) : hr g (2 * n) = itr dround n g := by
  induction n with
  | zero => rfl
  | succ n ih =>
    have e : 2 * (n + 1) = 2 * n + 1 + 1 := by omega
    rw [e, hr, if_neg (by omega), hr, if_pos (by omega), ih, itr]
    generalize itr dround n g = x
    unfold dias cols dround
    rfl
theorem sixteen {g : List (BitVec 32)} (h : g.length = 16) : ∃ a0 a1 a2 a3 a4 a5 a6 a7 a8 a9 a10 a11 a12 a13 a14 a15, g = [a0, a1, a2, a3, a4, a5, a6, a7, a8, a9, a10, a11, a12, a13, a14, a15] := by
  match g, h with
  | [a0, a1, a2, a3, a4, a5, a6, a7, a8, a9, a10, a11, a12, a13, a14, a15], _ => exact ⟨a0, a1, a2, a3, a4, a5, a6, a7, a8, a9, a10, a11, a12, a13, a14, a15, rfl⟩
theorem div8 (x : BitVec 32) : x / (256 : BitVec 32) = x >>> 8 := by
  apply BitVec.eq_of_toNat_eq
  rw [BitVec.toNat_udiv, BitVec.toNat_ushiftRight, Nat.shiftRight_eq_div_pow]; rfl
theorem div16 (x : BitVec 32) : x / (65536 : BitVec 32) = x >>> 16 := by
  apply BitVec.eq_of_toNat_eq
  rw [BitVec.toNat_udiv, BitVec.toNat_ushiftRight, Nat.shiftRight_eq_div_pow]; rfl
theorem div24 (x : BitVec 32) : x / (16777216 : BitVec 32) = x >>> 24 := by
  apply BitVec.eq_of_toNat_eq
  rw [BitVec.toNat_udiv, BitVec.toNat_ushiftRight, Nat.shiftRight_eq_div_pow]; rfl


def Ic45 (G : List (BitVec 32)) (c : BitVec 32) (H : Heap) (k : Nat) (st : St) : Prop :=
  ∃ (r : Nat) (J : Heap) (a0 a1 a7 : AV) (b0 t2 t3 t4 t5 t6 t7 t8 t9 t10 : Option Blk) (u11 u12 u13 u14 u15 u16 u17 u18 u21 u22 u23 u24 : AV), st = ⟨[a0, a1, .u32 c, .ptr H.length 0 [0] (.arr 32 .leaf), .str [], .int 0, .own (H.length + 1) 9 [] 0 16 .leaf, a7, .int 8, .own (H.length + 11) 1 [] 0 16 .leaf, .int r, u11, u12, u13, u14, u15, u16, u17, u18, .bool false, .bool false, u21, u22, u23, u24],
    H ++ b0 :: some ⟨87, 9, true, .arr 16 .leaf, .agg (G.map .u32)⟩ :: t2 :: t3 :: t4 :: t5 :: t6 :: t7 :: t8 :: t9 :: t10 :: some ⟨87, 1, true, .arr 16 .leaf, .agg ((hr G r).map .u32)⟩ :: J⟩ ∧ k = 20 - r ∧ r ≤ 20

theorem blk_length (ks ns : List (BitVec 8)) (c : BitVec 32) : (blk ks ns c).length = 64 := by unfold blk; rw [outB_length]

/-- so many blocks, one behind the other -/
def sb (ks ns : List (BitVec 8)) (c : BitVec 32) : Nat → List (BitVec 8)
  | 0 => []
  | m + 1 => sb ks ns c m ++ blk ks ns (c + BitVec.ofNat 32 m)
theorem sb_length (ks ns : List (BitVec 8)) (c : BitVec 32) (m : Nat) : (sb ks ns c m).length = 64 * m := by
  induction m with
  | zero => rfl
  | succ m ih => rw [sb, List.length_append, ih, blk_length]; rfl

def nblk (m : Nat) : Nat := (m + 63) / 64
/-- a stream's first m bytes -/
def stm (ks ns : List (BitVec 8)) (c : BitVec 32) (m : Nat) : List (BitVec 8) := (sb ks ns c (nblk m)).take m
theorem stm_length (ks ns : List (BitVec 8)) (c : BitVec 32) (m : Nat) : (stm ks ns c m).length = m := by
  unfold stm
  rw [List.length_take, sb_length]
  unfold nblk
  omega
/-- what Stream hands back -/
def strV (ks ns : List (BitVec 8)) (c : BitVec 32) (n : Int) : AV :=
  if ns.length = 12 then
    if 0 ≤ n ∧ n ≤ 65536 then
      if c.toNat + nblk n.toNat ≤ 4294967296 then .tup [.str (stm ks ns c n.toNat), .int 0] else .tup [.str [], .int 24]
    else .tup [.str [], .int 2]
  else .tup [.str [], .int 11]

def Ic50 (ks ns : List (BitVec 8)) (c : BitVec 32) (m : Nat) (H : Heap) (k : Nat) (st : St) : Prop :=
  ∃ (i : Nat) (J : Heap) (u1 u2 : AV), st = ⟨[.agg (ks.map .u8), .str ns, .u32 (c + BitVec.ofNat 32 i), .int m, .ptr H.length 0 [0] (.arr 32 .leaf), .str [], .int 0, .own (H.length + 1) i [] 0 (64 * i) .leaf, u1, .bool false, .bool false, .bool false, u2],
    H ++ kbx ks :: some ⟨5, i, true, .arr (64 * i) .leaf, .agg ((sb ks ns c i).map .u8)⟩ :: J⟩ ∧ k = nblk m - i ∧ i ≤ nblk m

set_option maxHeartbeats 1000000 in
theorem f68 {K : AV → Heap → Prop} {H : Heap} {ks ns : List (BitVec 8)} {c : BitVec 32} {n : Int} (hk : ks.length = 32) (h : K (strV ks ns c n) H) : wpF P G 68 [.agg (ks.map .u8), .str ns, .u32 c, .int n] H K := by
  refine wpF_go c68 rfl 3 ?_
  intro ha hb
  simp only [s68]
  unfold strV at h
  by_cases hn : ns.length = 12
  rotate_left 1
  · have h1 : ((ns.length : Int) = 12) = False := by simp; omega
    rw [if_neg hn] at h
    (refine gw2 @h1 @hk ?_; try exact True.intro)
    exact h
  have h1 : ((ns.length : Int) = 12) = True := by simp; omega
  rw [if_pos hn] at h
  by_cases hn0 : n < 0
  · rw [if_neg (by omega)] at h
    (refine gw3 @h1 @hk @hn0 ?_; try exact True.intro)
    exact h
  by_cases hn1 : 65536 < n
  · rw [if_neg (by omega)] at h
    (refine gw4 @h1 @hk @hn0 @hn1 ?_; try exact True.intro)
    exact h
  rw [if_pos (by omega)] at h
  obtain ⟨m, rfl⟩ := Int.eq_ofNat_of_zero_le (show 0 ≤ n by omega)
  have hm : m ≤ 65536 := by omega
  simp only [Int.toNat_natCast] at h
  have ht : Int.tdiv ((m : Int) + 64 - 1) 64 = ((nblk m : Nat) : Int) := by
    unfold nblk
    rw [Int.tdiv_eq_ediv_of_nonneg (by omega)]
    omega
  have hnb : nblk m ≤ 1024 := by unfold nblk; omega
  have hc := c.isLt
  have hs : (c.setWidth 64 + BitVec.ofInt 64 ((nblk m : Nat) : Int)).toNat = c.toNat + nblk m := by
    rw [BitVec.toNat_add, BitVec.toNat_setWidth, BitVec.toNat_ofInt]
    omega
  by_cases hc1 : c.toNat + nblk m ≤ 4294967296
  rotate_left 1
  · rw [if_neg hc1] at h
    have h2 : ((4294967296 : BitVec 64) < c.setWidth 64 + BitVec.ofInt 64 ((nblk m : Nat) : Int)) = True := by
      rw [BitVec.lt_def, hs]
      exact eq_true (show 4294967296 < _ by omega)
    (refine gw6 @h1 @hk @hn0 @hn1 @ht @h2 ?_; try exact True.intro)
    repeat (refine ⟨by omega, ?_⟩)
    exact h
  rw [if_pos hc1] at h
  have h2 : ((4294967296 : BitVec 64) < c.setWidth 64 + BitVec.ofInt 64 ((nblk m : Nat) : Int)) = False := by
    rw [BitVec.lt_def, hs]
    exact eq_false (show ¬ 4294967296 < _ by omega)
  (refine gw6 @h1 @hk @hn0 @hn1 @ht @h2 ?_; try exact True.intro)
  repeat (refine ⟨by omega, ?_⟩)
  refine wp_inv (Ic50 ks ns c m H) (nblk m) ⟨0, [], _, _, by rw [show c + BitVec.ofNat 32 0 = c from BitVec.add_zero c]; rfl, rfl, by omega⟩ ?_
  rintro k st ⟨i, J, u1, u2, rfl, rfl, hi⟩
  by_cases hil : 64 * i < m
  · have h3 : (((64 * i : Nat) : Int) < (m : Int)) = True := by simp; omega
    have hin : i < nblk m := by unfold nblk; omega
    unfold kbx
    (refine gw1 @h3 ?_; try exact True.intro)
    refine f55 hk ?_
    rw [if_pos hn]
    have hbl := blk_length ks ns (c + BitVec.ofNat 32 i)
    (refine gw1 @hbl ?_; try exact True.intro)
    have e : (sb ks ns c (i + 1)).map AV.u8 = (sb ks ns c i).map AV.u8 ++ (blk ks ns (c + BitVec.ofNat 32 i)).map AV.u8 := by simp only [sb, List.map_append]
    have e2 : c + BitVec.ofNat 32 (i + 1) = c + BitVec.ofNat 32 i + 1 := by
      apply BitVec.eq_of_toNat_eq
      simp [BitVec.toNat_add]
      omega
    refine ⟨by omega, nblk m - (i + 1), by omega, i + 1, _, _, _, by rw [e, e2]; rfl, rfl, by omega⟩
  · have h3 : (((64 * i : Nat) : Int) < (m : Int)) = False := by simp; omega
    have hin : i = nblk m := by unfold nblk; unfold nblk at hi; omega
    subst hin
    have hmt : List.take m ((sb ks ns c (nblk m)).map AV.u8) = (stm ks ns c m).map AV.u8 := by rw [stm, List.map_take]
    (refine gw3 @h3 @hmt @bytesOf_m ?_; try exact True.intro)
    exact ⟨by omega, h⟩


def cutV (n : BitVec 64) : BitVec 64 := if n = 0 then 0 else -(-n % n)

theorem cut3 : cutV 3 = 18446744073709551615 := by decide +kernel
theorem cut4 : cutV 4 = 0 := by decide +kernel

/-! the reference's nonce -/
theorem divs32 (x : BitVec 32) (k : Nat) : x >>> k / (256 : BitVec 32) = x >>> (k + 8) := by
  apply BitVec.eq_of_toNat_eq
  rw [BitVec.toNat_udiv, BitVec.toNat_ushiftRight, BitVec.toNat_ushiftRight, Nat.shiftRight_add, Nat.shiftRight_eq_div_pow (x.toNat >>> k)]; rfl
theorem divs64 (x : BitVec 64) (k : Nat) : x >>> k / (256 : BitVec 64) = x >>> (k + 8) := by
  apply BitVec.eq_of_toNat_eq
  rw [BitVec.toNat_udiv, BitVec.toNat_ushiftRight, BitVec.toNat_ushiftRight, Nat.shiftRight_add, Nat.shiftRight_eq_div_pow (x.toNat >>> k)]; rfl

theorem nonce_len (a : BitVec 32) (n : BitVec 64) : (nonceV a n).length = 12 := rfl

/-- a child's seed -/
def child (ks : List (BitVec 8)) (n : BitVec 64) : List (BitVec 8) := (blk ks (nonceV 4294967295 n) 0).take 32
theorem child_len (ks : List (BitVec 8)) (n : BitVec 64) : (child ks n).length = 32 := by
  unfold child
  rw [List.length_take, show (blk ks (nonceV 4294967295 n) 0).length = 64 by unfold blk; rw [outB_length]]; rfl

theorem f39 {K : AV → Heap → Prop} {H : Heap} {ks : List (BitVec 8)} {n : BitVec 64} (hk : ks.length = 32) (h : K (.agg ((child ks n).map .u8)) H) : wpF P G 39 [.agg (ks.map .u8), .u64 n] H K := by
  refine wpF_go c39 rfl 3 ?_
  intro ha hb
  simp only [s39]
  (refine gw1 @hk ?_; try exact True.intro)
  refine drawn _ (f56 ⟨rfl, rfl⟩) ?_
  (refine gw0 ?_; try exact True.intro)
  refine drawn _ (f55 hk (by rw [if_pos (nonce_len _ _)]; exact ⟨rfl, rfl⟩)) ?_
  have hbl : (blk ks (nonceV 4294967295 n) 0).length = 64 := by unfold blk; rw [outB_length]
  have ht : List.take 32 ((blk ks (nonceV 4294967295 n) 0).map AV.u8) = (child ks n).map AV.u8 := by rw [child, List.map_take]
  have hcl := child_len ks n
  have hm : min 64 32 = 32 := rfl
  have hs : splL [AV.u8 0, AV.u8 0, AV.u8 0, AV.u8 0, AV.u8 0, AV.u8 0, AV.u8 0, AV.u8 0, AV.u8 0, AV.u8 0, AV.u8 0, AV.u8 0, AV.u8 0, AV.u8 0, AV.u8 0, AV.u8 0, AV.u8 0, AV.u8 0, AV.u8 0, AV.u8 0, AV.u8 0, AV.u8 0, AV.u8 0, AV.u8 0, AV.u8 0, AV.u8 0, AV.u8 0, AV.u8 0, AV.u8 0, AV.u8 0, AV.u8 0, AV.u8 0] 0 ((child ks n).map AV.u8) = (child ks n).map AV.u8 := by
    simp [splL, hcl]
  simp (maxSteps := 2000000) only [↓vS_skip, ↓vS_reg, ↓vS_draw, ↓vS_seq, ↓wS_cond, ↓vS_block, ↓vS_exit, ↓vS_ret, ↓vI_nil, ↓vI_go, ↓wI_gd, ↓stepI_q, ↓stepI_e, ↓stepI_c, ↓stepI_v, ↓vD_nil, ↓vD_go, ↓wD_gd, ↓stepW_q, ↓stepW_e, ↓stepW_c, ↓stepW_v, ↓Kw_app, ↓KwD_app, ↓Kc_app, ↓Kp_app, ↓Kr_app, ↓Ks_n, ↓Ks_r, ↓Ks_x, ↓Kb_n, ↓Kb_r, ↓Kb_x, ↓Ku_n, ↓Ku_r, ↓Ku_x, ↓Kl_n, ↓Kl_r, ↓Kl_x, ↓Kend_n, ↓Kend_r, ↓Two_t, ↓Two_f, ↓unr_succ, ↓GdM_b, ↓GdM_t, ↓CdM_b, ↓TwU_t, ↓TwU_f, ↓ThI_app, ↓ThW_app, ↓ThK_app, ↓ThS_app, ↓stepI_p, ↓stepW_p, ↓stepI_w, ↓stepW_w, ↓xD_w, ↓stepI_n, ↓xD_n, ↓xD_q, ↓xD_e, ↓xD_c, ↓xD_v, ↓xD_p, ↓xD_m, ↓xD_s, ↓vX_nil, ↓vX_go, ↓wX_gd, ↓KwX_app, ↓stepI_m, ↓stepW_m, ↓hasSh_mbool, ↓hasSh_mu8, ↓hasSh_mu16, ↓hasSh_mu32, ↓hasSh_mu64, ↓hasSh_mint, putE_none, putE_var, putE_new, get_t, get_c, qev, eev, rsGet, rvGet, oneOf, binAV, isSh, bvBin, bvOp, bvCmp, bvSh, intBin, intSh, cvAV, unAV, AV.cnt, AV.num, Ken2_s, Ken3_s, htake_1, htake_2, beq_self_eq_true, beq_true, beq_false, Int.toNat_natCast, Int.natCast_nonneg, BitVec.reduceOfInt, BitVec.reduceToNat, bytesOf, List.map_cons, List.replicate_succ, Bool.not_eq_true, maxLen, Nat.reducePow, Nat.reduceMul, List.map_cons, List.map_nil, List.getD_cons_zero, List.getD_cons_succ, List.set_cons_zero, List.set_cons_succ, List.cons_append, List.nil_append, List.append_nil, List.take_succ_cons, List.take_zero, List.take_nil, List.length_cons, List.length_nil, List.replicate_succ, List.replicate_zero, Option.map_some, Option.map_none, List.getElem?_cons_zero, List.getElem?_cons_succ, true_and, and_true, if_true, if_false, ite_true, ite_false, reduceIte, reduceCtorEq, false_or, or_true, true_or, or_false, Option.some.injEq, Prod.mk.injEq, exists_eq_left', exists_eq_left, exists_eq_right, exists_and_left, exists_and_right, exists_const, and_assoc, decide_true, decide_false, Bool.false_eq_true, forall_const, Bool.not_true, Bool.not_false, false_implies, true_implies, Nat.reduceAdd, Nat.reduceSub, Nat.reduceMul, Nat.reduceLT, Nat.reduceLeDiff, Nat.reduceEqDiff, Int.reduceAdd, Int.reduceSub, Int.reduceMul, Int.reduceLT, Int.reduceLE, Int.reduceTMod, Int.reduceTDiv, Int.reduceToNat, Int.reduceEq, Int.reduceNe, Int.reduceNeg, ne_eq, not_false_eq_true, not_true_eq_false, InR, Bool.true_eq_false, Bool.false_eq_true, reduceDIte, Nat.zero_add, Nat.add_zero, Int.cast_ofNat_Int, eq_self, hget_0, hget_k, hget_z, hget_s, hset_0, hset_k, htake_0, lt_own0, lt_ownk, hasAt_nil, hasAt_arr, hasAt_st, hasSh_l, hasSh_aa, hasSh_sa, hasShs_n, hasShs_c, setAll, AV.isCell, Shape.size_leaf, Shape.size_arr, Shape.size_st, Shape.sizes_cons, Shape.sizes_nil, List.length_append, List.append_assoc, List.length_set, stP, ldP, getP, setP, psh, partsOf, slen, rd, dem, demK_own, demK_ptr, demK_agg, demK_tup, demK_fn, demK_ro, demK_rp, demK_bool, demK_u8, demK_u16, demK_u32, demK_u64, demK_int, demK_str, demK_nilp, demK_nils, demK_nilf, demK_un, mapO, AV.bnds, AV.bnd, bne_self_eq_false, AV.plain2, AV.plain, List.all_cons, List.all_nil, List.take_length, List.drop_zero, List.drop_succ_cons, Nat.mul_one, List.getElem?_nil, List.forall_mem_cons, List.not_mem_nil, implies_true, Bool.and_true, Bool.true_and, Bool.and_false, Bool.false_and, and_self, and_false, false_and, Nat.sub_zero, bnds, bnds_bool, bnds_bool', mapO_bool, mapO_bool', bnds_u8, bnds_u8', mapO_u8, mapO_u8', bnds_u16, bnds_u16', mapO_u16, mapO_u16', bnds_u32, bnds_u32', mapO_u32, mapO_u32', bnds_u64, bnds_u64', mapO_u64, mapO_u64', bnds_int, bnds_int', mapO_int, mapO_int', bt, bf, Bool.not_not, nilK_nils, nilK_own, nilK_ro, ninL_n, ninL_c, disL_n, disL_r, disL_c, chkL_n, chkL_c, apartL_e, fp_ld, fp_b2s, fp_st, fp_app, fp_appS, fp_cpy, fp_cpyS, tb_own, tb_ptr, tb_ro, tb_rp, tb_nils, tb_str, ne_ah, ne_ha, hbl, ht, hm, cpH, List.length_map, hcl, hs]
  exact h

def chF (B : List (BitVec 8)) (i : Nat) : AV := .u8 (B.getD i 0)
def Ix23 (ks B : List (BitVec 8)) (n : BitVec 64) (H : Heap) (k : Nat) (st : St) : Prop :=
  ∃ (i : Nat) (u1 u2 : AV), st = ⟨[.agg (ks.map .u8), .u64 n, .ptr H.length 0 [0] (.arr 32 .leaf), .ptr (H.length + 1) 0 [0] (.arr 32 .leaf), .str B, .ptr (H.length + 2) 0 [0] (.arr 32 .leaf), .int i, u1],
    H ++ [some ⟨28, 0, false, .arr 1 (.arr 32 .leaf), .agg [.agg (ks.map .u8)]⟩, some ⟨28, 0, false, .arr 1 (.arr 32 .leaf), .agg [.agg ((List.replicate 32 0).map .u8)]⟩, some ⟨28, 0, false, .arr 1 (.arr 32 .leaf), .agg [.agg (fillL (chF B) (.u8 0) 32 i)]⟩]⟩ ∧ k = 32 - i ∧ i ≤ 32

/-! bytes -/
/-- a byte of a stream -/
def gB (ks : List (BitVec 8)) (lane : BitVec 32) (k : Nat) : BitVec 8 := (blk ks (nonceV lane 0) (BitVec.ofNat 32 (k / 64))).getD (k % 64) 0
/-- a part of a stream -/
def part (ks : List (BitVec 8)) (lane : BitVec 32) (a n : Nat) : List (BitVec 8) := (List.range n).map fun j => gB ks lane (a + j)
theorem part_len {ks : List (BitVec 8)} {lane : BitVec 32} {a n : Nat} : (part ks lane a n).length = n := by simp [part]
theorem part_get {ks : List (BitVec 8)} {lane : BitVec 32} {a n k : Nat} (h : k < n) : (part ks lane a n)[k]? = some (gB ks lane (a + k)) := by simp [part, h]

theorem sb_get {ks ns : List (BitVec 8)} {c : BitVec 32} : ∀ {m k : Nat}, k < 64 * m → (sb ks ns c m)[k]? = some ((blk ks ns (c + BitVec.ofNat 32 (k / 64))).getD (k % 64) 0)
  | 0, k, h => by omega
  | m + 1, k, h => by
    rw [sb]
    rcases Nat.lt_or_ge k (64 * m) with h1 | h1
    · rw [List.getElem?_append_left (by rw [sb_length]; exact h1)]
      exact sb_get h1
    · rw [List.getElem?_append_right (by rw [sb_length]; exact h1), sb_length]
      have e1 : k / 64 = m := by omega
      have e2 : k - 64 * m = k % 64 := by omega
      rw [e1, e2]
      have hl := blk_length ks ns (c + BitVec.ofNat 32 m)
      rw [List.getD_eq_getElem?_getD, List.getElem?_eq_getElem (by rw [hl]; omega)]
      rfl
theorem ofNat_add32 (a b : Nat) : BitVec.ofNat 32 a + BitVec.ofNat 32 b = BitVec.ofNat 32 (a + b) := (BitVec.ofNat_add a b).symm
theorem sb_part {ks : List (BitVec 8)} {lane : BitVec 32} {a n m : Nat} (h : a % 64 + n ≤ 64 * m) : ((sb ks (nonceV lane 0) (BitVec.ofNat 32 (a / 64)) m).drop (a % 64)).take n = part ks lane a n := by
  apply List.ext_getElem?
  intro j
  rcases Nat.lt_or_ge j n with hj | hj
  · rw [List.getElem?_take_of_lt hj, List.getElem?_drop, sb_get (by omega), part_get hj, ofNat_add32]
    unfold gB
    rw [show a / 64 + (a % 64 + j) / 64 = (a + j) / 64 by omega, show (a % 64 + j) % 64 = (a + j) % 64 by omega]
  · rw [List.getElem?_eq_none (by simp; omega), List.getElem?_eq_none (by rw [part_len]; exact hj)]
theorem stm_part {ks : List (BitVec 8)} {lane : BitVec 32} {a n : Nat} : (stm ks (nonceV lane 0) (BitVec.ofNat 32 (a / 64)) (a % 64 + n)).drop (a % 64) = part ks lane a n := by
  unfold stm
  rw [List.drop_take, show a % 64 + n - a % 64 = n by omega]
  exact sb_part (by unfold nblk; omega)
theorem strV_ok {ks ns : List (BitVec 8)} {c : BitVec 32} {m : Nat} (hn : ns.length = 12) (hm : m ≤ 65536) (hc : c.toNat + nblk m ≤ 4294967296) : strV ks ns c (m : Int) = .tup [.str (stm ks ns c m), .int 0] := by
  unfold strV
  rw [if_pos hn, if_pos (by omega)]
  simp only [Int.toNat_natCast]
  rw [if_pos hc]

theorem f53e {K : AV → Heap → Prop} {H : Heap} {ks : List (BitVec 8)} {lane : BitVec 32} {a n : Int} (hk : ks.length = 32) (hb : a < 0 ∨ n < 0 ∨ 32768 < n ∨ 1073741824 - n < a) (h : K (.tup [.str [], .int 2]) H) : wpF P G 53 [.agg (ks.map .u8), .u32 lane, .int a, .int n] H K := by
  refine wpF_go c53 rfl 3 ?_
  intro ha hb'
  simp only [s53]
  by_cases h0 : a < 0
  · (refine gw2 @hk @h0 ?_; try exact True.intro)
    exact h
  by_cases h1 : n < 0
  · (refine gw3 @hk @h0 @h1 ?_; try exact True.intro)
    exact h
  by_cases h2 : 32768 < n
  · (refine gw4 @hk @h0 @h1 @h2 ?_; try exact True.intro)
    exact h
  have h3 : 1073741824 - n < a := by omega
  (refine gw5 @hk @h0 @h1 @h2 @h3 ?_; try exact True.intro)
  exact ⟨by omega, by omega, h⟩

theorem f53g {K : AV → Heap → Prop} {H : Heap} {ks : List (BitVec 8)} {lane : BitVec 32} {a n : Nat} (hk : ks.length = 32) (hn : n ≤ 32768) (han : a + n ≤ 1073741824) (h : K (.tup [.str (part ks lane a n), .int 0]) H) : wpF P G 53 [.agg (ks.map .u8), .u32 lane, .int (a : Int), .int (n : Int)] H K := by
  refine wpF_go c53 rfl 3 ?_
  intro ha hb
  simp only [s53]
  have h0 : ((a : Int) < 0) = False := by simp
  have h01 : ((n : Int) < 0) = False := by simp
  have h02 : ((32768 : Int) < (n : Int)) = False := by simp; omega
  have h1 : (1073741824 - (n : Int) < (a : Int)) = False := by simp; omega
  have h2 : Int.tmod (a : Int) 64 = ((a % 64 : Nat) : Int) := (Int.ofNat_tmod a 64).symm
  have h3 : Int.tdiv (a : Int) 64 = ((a / 64 : Nat) : Int) := (Int.ofNat_tdiv a 64).symm
  have h4 : BitVec.ofInt 32 ((a / 64 : Nat) : Int) = BitVec.ofNat 32 (a / 64) := by
    apply BitVec.eq_of_toNat_eq
    rw [BitVec.toNat_ofInt, BitVec.toNat_ofNat]
    omega
  have h5 : ((a % 64 : Nat) : Int) + (n : Int) = ((a % 64 + n : Nat) : Int) := by omega
  have b1 : (-9223372036854775808 : Int) ≤ 1073741824 - (n : Int) := by omega
  have b2 : 1073741824 - (n : Int) ≤ 9223372036854775807 := by omega
  (refine gw8 @hk @h0 @h01 @h02 @h1 @h2 @b1 @b2 ?_; try exact True.intro)
  refine ⟨by omega, by omega, ?_⟩
  refine drawn _ (f56 ⟨rfl, rfl⟩) ?_
  (refine gw3 @h3 @h4 @h5 ?_; try exact True.intro)
  have hcn : (BitVec.ofNat 32 (a / 64)).toNat ≤ 16777216 := by rw [BitVec.toNat_ofNat]; omega
  have hs : strV ks (nonceV lane 0) (BitVec.ofNat 32 (a / 64)) ((a % 64 + n : Nat) : Int) = .tup [.str (stm ks (nonceV lane 0) (BitVec.ofNat 32 (a / 64)) (a % 64 + n)), .int 0] := strV_ok (nonce_len _ _) (by omega) (by unfold nblk; omega)
  refine ⟨by omega, by omega, by omega, by omega, ?_⟩
  refine drawn _ (f68 hk (by rw [hs]; exact ⟨rfl, rfl⟩)) ?_
  have hl := stm_length ks (nonceV lane 0) (BitVec.ofNat 32 (a / 64)) (a % 64 + n)
  have ht : List.take (a % 64 + n - a % 64) ((stm ks (nonceV lane 0) (BitVec.ofNat 32 (a / 64)) (a % 64 + n)).drop (a % 64)) = part ks lane a n := by
    rw [List.take_of_length_le (by rw [List.length_drop, hl]; omega)]; exact stm_part
  (refine gw2 @hl @ht ?_; try exact True.intro)
  exact ⟨by omega, by omega, h⟩

/-! the reference's -/
theorem sb_succ (ks ns : List (BitVec 8)) (c : BitVec 32) (m : Nat) : sb ks ns c (m + 1) = sb ks ns c m ++ blk ks ns (c + BitVec.ofNat 32 m) := rfl
theorem sb_zero (ks ns : List (BitVec 8)) (c : BitVec 32) : sb ks ns c 0 = [] := rfl
def Ix52 (ks : List (BitVec 8)) (lane : BitVec 32) (a n : Nat) (H : Heap) (k : Nat) (st : St) : Prop :=
  ∃ (i : Nat) (S : List (BitVec 8)) (u1 u2 : AV), st = ⟨[.agg (ks.map .u8), .u32 lane, .int (a : Int), .int (n : Int), .ptr H.length 0 [0] (.arr 32 .leaf), .str [], .int 0, .str S, .int ((a / 64 + i : Nat) : Int), u1, .bool false, u2], H ++ [kbx ks]⟩ ∧
    S = sb ks (nonceV lane 0) (BitVec.ofNat 32 (a / 64)) i ∧ k = nblk (a % 64 + n) - i ∧ i ≤ nblk (a % 64 + n)

/-! words -/
/-- a word of eight bytes, as the code makes it -/
def leW (l : List (BitVec 8)) : BitVec 64 := (0 : BitVec 64) ||| (l.getD 0 0).setWidth 64 <<< 0 ||| (l.getD 1 0).setWidth 64 <<< 8 ||| (l.getD 2 0).setWidth 64 <<< 16 ||| (l.getD 3 0).setWidth 64 <<< 24 ||| (l.getD 4 0).setWidth 64 <<< 32 ||| (l.getD 5 0).setWidth 64 <<< 40 ||| (l.getD 6 0).setWidth 64 <<< 48 ||| (l.getD 7 0).setWidth 64 <<< 56
/-- a word of a stream -/
def wdg (ks : List (BitVec 8)) (lane : BitVec 32) (j : Nat) : BitVec 64 := leW (part ks lane (8 * j) 8)

theorem part_el {ks : List (BitVec 8)} {lane : BitVec 32} {a n i k : Nat} {x : Int} (hk : k < 8) (hi : i < n) (hx : x = 8 * (i : Int) + (k : Int)) : (part ks lane (8 * a) (8 * n)).getD x.toNat 0 = (part ks lane (8 * (a + i)) 8).getD k 0 := by
  have e : x.toNat = 8 * i + k := by omega
  rw [e, List.getD_eq_getElem?_getD, List.getD_eq_getElem?_getD, part_get (by omega), part_get hk, show 8 * a + (8 * i + k) = 8 * (a + i) + k by omega]

theorem f36e {K : AV → Heap → Prop} {H : Heap} {ks : List (BitVec 8)} {lane : BitVec 32} {a n : Int} (hk : ks.length = 32) (hb : a < 0 ∨ n < 0 ∨ 4096 < n ∨ 134217728 - n < a) (h : K (.tup [.nils, .int 2]) H) : wpF P G 36 [.agg (ks.map .u8), .u32 lane, .int a, .int n] H K := by
  refine wpF_go c36 rfl 4 ?_
  intro ha hb'
  simp only [s36]
  by_cases h0 : a < 0
  · (refine gw2 @hk @h0 ?_; try exact True.intro)
    exact h
  by_cases h1 : n < 0
  · (refine gw3 @hk @h0 @h1 ?_; try exact True.intro)
    exact h
  by_cases h2 : 134217728 < a
  · (refine gw4 @hk @h0 @h1 @h2 ?_; try exact True.intro)
    exact h
  by_cases h3 : 4096 < n
  · (refine gw5 @hk @h0 @h1 @h2 @h3 ?_; try exact True.intro)
    exact h
  (refine gw5 @hk @h0 @h1 @h2 @h3 ?_; try exact True.intro)
  (repeat (refine And.intro (by omega) ?_))
  refine f53e hk (by omega) ?_
  (refine gw0 ?_; try exact True.intro)
  exact h

def Ix53 (ks : List (BitVec 8)) (lane : BitVec 32) (a n : Nat) (H : Heap) (k : Nat) (st : St) : Prop :=
  ∃ (i : Nat) (u1 u2 u3 u4 u5 : AV), st = ⟨[.agg (ks.map .u8), .u32 lane, .int (a : Int), .int (n : Int), .ptr H.length 0 [0] (.arr 32 .leaf), .nils, .int 0, .str (part ks lane (8 * a) (8 * n)), .int 0, .own (H.length + 1) 0 [] 0 n .leaf, u1, u2, .bool false, .bool false, .int (n : Int), .int (i : Int), u3, u4, u5],
    H ++ [kbx ks, some ⟨22, 0, true, .arr n .leaf, .agg (fillL (fun i => .u64 (wdg ks lane (a + i))) (.u64 0) n i)⟩]⟩ ∧ k = n - i ∧ i ≤ n

/-! a word of eight bytes, the other way -/
theorem or_sh64 (x y : BitVec 64) (i : Nat) (hx : x.toNat < 2 ^ i) (hy : y.toNat * 2 ^ i < 2 ^ 64) : (x ||| y <<< i).toNat = x.toNat + y.toNat * 2 ^ i := by
  rw [BitVec.toNat_or, BitVec.toNat_shiftLeft, Nat.shiftLeft_eq, Nat.mod_eq_of_lt hy, Nat.or_comm, ← Nat.shiftLeft_eq, ← Nat.shiftLeft_add_eq_or_of_lt hx, Nat.add_comm]
theorem hs64 (x : BitVec 64) (b : BitVec 8) (hx : x.toNat < 2 ^ 56) : ((256 : BitVec 64) * x + b.setWidth 64).toNat = 256 * x.toNat + b.toNat := by
  have hb := b.isLt
  rw [BitVec.toNat_add, BitVec.toNat_mul, BitVec.toNat_setWidth]
  have z : (256 : BitVec 64).toNat = 256 := rfl
  rw [z]
  omega
def rW (l : List (BitVec 8)) : BitVec 64 := (256 : BitVec 64) * ((256 : BitVec 64) * ((256 : BitVec 64) * ((256 : BitVec 64) * ((256 : BitVec 64) * ((256 : BitVec 64) * ((256 : BitVec 64) * ((256 : BitVec 64) * 0 + (l.getD 7 0).setWidth 64) + (l.getD 6 0).setWidth 64) + (l.getD 5 0).setWidth 64) + (l.getD 4 0).setWidth 64) + (l.getD 3 0).setWidth 64) + (l.getD 2 0).setWidth 64) + (l.getD 1 0).setWidth 64) + (l.getD 0 0).setWidth 64
theorem leW_rW (l : List (BitVec 8)) : leW l = rW l := by
  unfold leW rW
  generalize l.getD 0 0 = b0
  generalize l.getD 1 0 = b1
  generalize l.getD 2 0 = b2
  generalize l.getD 3 0 = b3
  generalize l.getD 4 0 = b4
  generalize l.getD 5 0 = b5
  generalize l.getD 6 0 = b6
  generalize l.getD 7 0 = b7
  have h0 := b0.isLt
  have h1 := b1.isLt
  have h2 := b2.isLt
  have h3 := b3.isLt
  have h4 := b4.isLt
  have h5 := b5.isLt
  have h6 := b6.isLt
  have h7 := b7.isLt
  have s0 : ∀ b : BitVec 8, (b.setWidth 64).toNat = b.toNat := fun b => by rw [BitVec.toNat_setWidth]; have := b.isLt; omega
  have z : (0 : BitVec 64).toNat = 0 := rfl
  have e0 := or_sh64 0 (b0.setWidth 64) 0 (by rw [z]; decide) (by rw [s0]; omega)
  rw [s0, z] at e0
  have e1 := or_sh64 _ (b1.setWidth 64) 8 (by rw [e0]; omega) (by rw [s0]; omega)
  rw [s0, e0] at e1
  have e2 := or_sh64 _ (b2.setWidth 64) 16 (by rw [e1]; omega) (by rw [s0]; omega)
  rw [s0, e1] at e2
  have e3 := or_sh64 _ (b3.setWidth 64) 24 (by rw [e2]; omega) (by rw [s0]; omega)
  rw [s0, e2] at e3
  have e4 := or_sh64 _ (b4.setWidth 64) 32 (by rw [e3]; omega) (by rw [s0]; omega)
  rw [s0, e3] at e4
  have e5 := or_sh64 _ (b5.setWidth 64) 40 (by rw [e4]; omega) (by rw [s0]; omega)
  rw [s0, e4] at e5
  have e6 := or_sh64 _ (b6.setWidth 64) 48 (by rw [e5]; omega) (by rw [s0]; omega)
  rw [s0, e5] at e6
  have e7 := or_sh64 _ (b7.setWidth 64) 56 (by rw [e6]; omega) (by rw [s0]; omega)
  rw [s0, e6] at e7
  have f0 := hs64 0 b7 (by rw [z]; decide)
  rw [z] at f0
  have f1 := hs64 _ b6 (by rw [f0]; omega)
  rw [f0] at f1
  have f2 := hs64 _ b5 (by rw [f1]; omega)
  rw [f1] at f2
  have f3 := hs64 _ b4 (by rw [f2]; omega)
  rw [f2] at f3
  have f4 := hs64 _ b3 (by rw [f3]; omega)
  rw [f3] at f4
  have f5 := hs64 _ b2 (by rw [f4]; omega)
  rw [f4] at f5
  have f6 := hs64 _ b1 (by rw [f5]; omega)
  rw [f5] at f6
  have f7 := hs64 _ b0 (by rw [f6]; omega)
  rw [f6] at f7
  apply BitVec.eq_of_toNat_eq
  rw [e7, f7]
  omega


def oW (ks : List (BitVec 8)) (lane : BitVec 32) (a i : Nat) : Option Blk := some ⟨22, i, true, .arr i .leaf, .agg ((List.range i).map fun j => .u64 (wdg ks lane (a + j)))⟩
def Ix34 (ks : List (BitVec 8)) (lane : BitVec 32) (a n : Nat) (H : Heap) (k : Nat) (st : St) : Prop :=
  ∃ (i : Nat) (out u1 u2 u3 u4 : AV) (L : Heap), st = ⟨[.agg (ks.map .u8), .u32 lane, .int (a : Int), .int (n : Int), .ptr H.length 0 [0] (.arr 32 .leaf), .nils, .int 0, .str (part ks lane (8 * a) (8 * n)), .int 0, out, .int (i : Int), u1, u2, .bool false, .bool false, u3, u4],
    H ++ kbx ks :: L⟩ ∧ k = n - i ∧ i ≤ n ∧ ((i = 0 ∧ out = .nils ∧ L = []) ∨ (0 < i ∧ out = .own (H.length + 2) i [] 0 i .leaf ∧ ∃ g J, L = g :: oW ks lane a i :: J))

end Go.Proofs.YtjilenmngokhpaaDoor
