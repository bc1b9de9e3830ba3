/-
  Layer 3 (ring), what fits (layer 19), as the seat of layers 17 and 19 has them.
-/
import Derived.Test.YtjilenmngokhpaaYa
import Derived.Test.YtjilenmngokhpaaBm
import Derived.Test.YtjilenmngokhpaaV38
import Derived.Test.YtjilenmngokhpaaV44
open Go Go.V
namespace Go.Proofs.Ytjilenmngokhpaa
set_option maxRecDepth 100000
set_option linter.unusedSimpArgs false
set_option linter.unusedVariables false
/-- trefoil/trefoilref03.Fit (0:l, 1:x, 4:, 5:out, 6:i, 13:) -/
def s19 : FnS := ⟨24, [0, 1, 4, 5, 6, 13],
    (.seq (.reg [⟨.var 2, (.q .mv), [.c (.u64 0)], none⟩])
    (.seq (.reg [⟨.var 3, (.q .mv), [.c (.u64 0)], none⟩])
    (.seq (.seq (.reg [⟨.var 4, (.q .mv), [.c (.int 0)], none⟩])
    (.block 0 (.loop (.seq (.seq (.reg [⟨.new, (.q .mv), [.t 4], none⟩,
      ⟨.new, (.q (.bin .lss)), [.t 6, .c (.int 64)], none⟩,
      ⟨.new, (.q .mv), [.t 7], none⟩,
      ⟨.new, (.q .mv), [.t 4], (some (8, true))⟩,
      ⟨.new, (.q .mv), [.t 0], (some (8, true))⟩,
      ⟨.new, (.q (.bin .lss)), [.t 9, .t 10], (some (8, true))⟩,
      ⟨.var 5, (.q .pick), [.t 8, .t 11, .c (.bool false)], none⟩])
    (.cond (.t 5) .skip
    (.exit 0)))
    (.seq (.block 1 (.reg [⟨.new, (.q .mv), [.t 3], none⟩,
      ⟨.new, (.q .mv), [.t 1], none⟩,
      ⟨.new, (.q .mv), [.t 4], none⟩,
      ⟨.new, (.q (.cv .u64)), [.t 8], none⟩,
      ⟨.new, (.q (.bin .shl)), [.c (.u64 1), .t 9], none⟩,
      ⟨.new, (.q (.bin .and)), [.t 7, .t 10], none⟩,
      ⟨.new, (.q (.bin .or)), [.t 6, .t 11], none⟩,
      ⟨.var 3, (.q .mv), [.t 12], none⟩]))
    (.reg [⟨.new, (.q .mv), [.t 4], none⟩,
      ⟨.new, (.q (.bin .add)), [.t 6, .c (.int 1)], none⟩,
      ⟨.var 4, (.q .mv), [.t 7], none⟩]))))))
    (.seq (.reg [⟨.new, (.q .mv), [.t 3], none⟩,
      ⟨.var 2, (.q .mv), [.t 6], none⟩])
    .ret)))),
    [.t 2]⟩

/-- trefoil/trefoilref19.Fits (0:width, 1:l, 4:, 5:i, 9:, 22:) -/
def s21 : FnS := ⟨23, [0, 1, 4, 5, 9, 22],
    (.seq (.reg [⟨.var 2, (.q .mv), [.c (.bool false)], none⟩])
    (.seq (.seq (.reg [⟨.var 3, (.q .mv), [.c (.int 0)], none⟩])
    (.block 0 (.loop (.seq (.seq (.reg [⟨.new, (.q .mv), [.t 3], none⟩,
      ⟨.new, (.q .mv), [.t 1], none⟩,
      ⟨.new, (.q .len), [.t 7], none⟩,
      ⟨.var 4, (.q (.bin .lss)), [.t 6, .t 8], none⟩])
    (.cond (.t 4) .skip
    (.exit 0)))
    (.seq (.block 1 (.seq (.draw [⟨.new, (.q .mv), [.t 0], none⟩,
      ⟨.new, (.q .mv), [.t 1], none⟩,
      ⟨.new, (.q .mv), [.t 3], none⟩,
      ⟨.new, (.q (.iaS .leaf)), [.t 7, .t 8], none⟩,
      ⟨.new, (.q (.ld .leaf)), [.t 9], none⟩,
      ⟨.new, (.call 19), [.t 6, .t 10], none⟩,
      ⟨.new, (.q .mv), [.t 1], none⟩,
      ⟨.new, (.q .mv), [.t 3], none⟩,
      ⟨.new, (.q (.iaS .leaf)), [.t 12, .t 13], none⟩,
      ⟨.new, (.q (.ld .leaf)), [.t 14], none⟩,
      ⟨.var 5, (.q (.bin .neq)), [.t 11, .t 15], none⟩])
    (.cond (.t 5) (.seq (.reg [⟨.var 2, (.q .mv), [.c (.bool false)], none⟩])
    .ret)
    .skip)))
    (.reg [⟨.new, (.q .mv), [.t 3], none⟩,
      ⟨.new, (.q (.bin .add)), [.t 6, .c (.int 1)], none⟩,
      ⟨.var 3, (.q .mv), [.t 7], none⟩]))))))
    (.seq (.reg [⟨.var 2, (.q .mv), [.c (.bool true)], none⟩])
    .ret))),
    [.t 2]⟩

/-- trefoil/ring.Fits (0:l, 1:xs, 4:, 5:m) -/
def s36 : FnS := ⟨12, [0, 1, 4, 5],
    (.seq (.reg [⟨.var 2, (.q .mv), [.c (.bool false)], none⟩])
    (.seq (.reg [⟨.new, (.q .mv), [.t 0], none⟩,
      ⟨.new, (.call 63), [.t 4], none⟩,
      ⟨.var 3, (.e (.alloc 49 .leaf (.u64 0))), [], none⟩,
      ⟨.none, (.e (.store .leaf)), [.t 3, .t 5], none⟩])
    (.seq (.reg [⟨.new, (.q .mv), [.t 1], none⟩,
      ⟨.new, (.q (.mkf 65)), [.t 3], none⟩,
      ⟨.new, (.call 64), [.t 4, .t 5], none⟩,
      ⟨.new, (.q (.un .not)), [.t 6], none⟩,
      ⟨.var 2, (.q .mv), [.t 7], none⟩])
    .ret))),
    [.t 2]⟩

/-- trefoil/ring.Add (0:l, 1:a, 2:b, 6:) -/
def s38 : FnS := ⟨13, [0, 1, 2, 6],
    (.seq (.reg [⟨.var 3, (.q .mv), [.c (.u64 0)], none⟩])
    (.seq (.reg [⟨.new, (.q .mv), [.t 1], none⟩,
      ⟨.new, (.q .mv), [.t 2], none⟩,
      ⟨.new, (.q (.bin .add)), [.t 4, .t 5], none⟩,
      ⟨.new, (.q .mv), [.t 0], none⟩,
      ⟨.new, (.call 63), [.t 7], none⟩,
      ⟨.new, (.q (.bin .and)), [.t 6, .t 8], none⟩,
      ⟨.var 3, (.q .mv), [.t 9], none⟩])
    .ret)),
    [.t 3]⟩

/-- trefoil/trefoilref03.Sub (0:l, 1:a, 2:b, 6:) -/
def s43 : FnS := ⟨12, [0, 1, 2, 6],
    (.seq (.reg [⟨.var 3, (.q .mv), [.c (.u64 0)], none⟩])
    (.seq (.reg [⟨.new, (.q .mv), [.t 0], none⟩,
      ⟨.new, (.q .mv), [.t 1], none⟩,
      ⟨.new, (.q .mv), [.t 2], none⟩,
      ⟨.new, (.call 69), [.c (.int 64), .t 6], none⟩,
      ⟨.new, (.call 44), [.t 4, .t 5, .t 7], none⟩,
      ⟨.var 3, (.q .mv), [.t 8], none⟩])
    .ret)),
    [.t 3]⟩

/-- trefoil/trefoilref03.Add (0:l, 1:a, 2:b, 6:, 7:out, 8:carry, 9:i, 10:x, 11:y, 12:s, 19:) -/
def s44 : FnS := ⟨47, [0, 1, 2, 6, 7, 8, 9, 10, 11, 12, 19],
    (.seq (.reg [⟨.var 3, (.q .mv), [.c (.u64 0)], none⟩])
    (.seq (.reg [⟨.var 4, (.q .mv), [.c (.u64 0)], none⟩,
      ⟨.var 5, (.q .mv), [.c (.u64 0)], none⟩])
    (.seq (.seq (.reg [⟨.var 6, (.q .mv), [.c (.int 0)], none⟩])
    (.block 0 (.loop (.seq (.seq (.reg [⟨.new, (.q .mv), [.t 6], none⟩,
      ⟨.new, (.q (.bin .lss)), [.t 11, .c (.int 64)], none⟩,
      ⟨.new, (.q .mv), [.t 12], none⟩,
      ⟨.new, (.q .mv), [.t 6], (some (13, true))⟩,
      ⟨.new, (.q .mv), [.t 0], (some (13, true))⟩,
      ⟨.new, (.q (.bin .lss)), [.t 14, .t 15], (some (13, true))⟩,
      ⟨.var 10, (.q .pick), [.t 13, .t 16, .c (.bool false)], none⟩])
    (.cond (.t 10) .skip
    (.exit 0)))
    (.seq (.block 1 (.seq (.reg [⟨.new, (.q .mv), [.t 1], none⟩,
      ⟨.new, (.q .mv), [.t 6], none⟩,
      ⟨.new, (.q (.cv .u64)), [.t 12], none⟩,
      ⟨.new, (.q (.bin .shr)), [.t 11, .t 13], none⟩,
      ⟨.new, (.q (.bin .rem)), [.t 14, .c (.u64 2)], none⟩,
      ⟨.new, (.q .mv), [.t 2], none⟩,
      ⟨.new, (.q .mv), [.t 6], none⟩,
      ⟨.new, (.q (.cv .u64)), [.t 17], none⟩,
      ⟨.new, (.q (.bin .shr)), [.t 16, .t 18], none⟩,
      ⟨.new, (.q (.bin .rem)), [.t 19, .c (.u64 2)], none⟩,
      ⟨.var 7, (.q .mv), [.t 15], none⟩,
      ⟨.var 8, (.q .mv), [.t 20], none⟩])
    (.seq (.reg [⟨.new, (.q .mv), [.t 7], none⟩,
      ⟨.new, (.q .mv), [.t 8], none⟩,
      ⟨.new, (.q (.bin .add)), [.t 11, .t 12], none⟩,
      ⟨.new, (.q .mv), [.t 5], none⟩,
      ⟨.new, (.q (.bin .add)), [.t 13, .t 14], none⟩,
      ⟨.var 9, (.q .mv), [.t 15], none⟩])
    (.seq (.reg [⟨.new, (.q .mv), [.t 4], none⟩,
      ⟨.new, (.q .mv), [.t 9], none⟩,
      ⟨.new, (.q (.bin .rem)), [.t 12, .c (.u64 2)], none⟩,
      ⟨.new, (.q .mv), [.t 6], none⟩,
      ⟨.new, (.q (.cv .u64)), [.t 14], none⟩,
      ⟨.new, (.q (.bin .shl)), [.t 13, .t 15], none⟩,
      ⟨.new, (.q (.bin .or)), [.t 11, .t 16], none⟩,
      ⟨.var 4, (.q .mv), [.t 17], none⟩])
    (.reg [⟨.new, (.q .mv), [.t 9], none⟩,
      ⟨.new, (.q (.bin .quo)), [.t 11, .c (.u64 2)], none⟩,
      ⟨.var 5, (.q .mv), [.t 12], none⟩])))))
    (.reg [⟨.new, (.q .mv), [.t 6], none⟩,
      ⟨.new, (.q (.bin .add)), [.t 11, .c (.int 1)], none⟩,
      ⟨.var 6, (.q .mv), [.t 12], none⟩]))))))
    (.seq (.reg [⟨.new, (.q .mv), [.t 4], none⟩,
      ⟨.var 3, (.q .mv), [.t 11], none⟩])
    .ret)))),
    [.t 3]⟩

/-- trefoil/ring.AddAll (0:l, 1:a, 2:b, 3:l, 6:, 7:) -/
def s48 : FnS := ⟨14, [0, 1, 2, 3, 6, 7],
    (.seq (.reg [⟨.var 3, (.e (.box 3 .leaf)), [.t 0], none⟩,
      ⟨.var 4, (.q .mv), [.c .nils], none⟩,
      ⟨.var 5, (.q .mv), [.c (.int 0)], none⟩])
    (.seq (.reg [⟨.new, (.q .mv), [.t 1], none⟩,
      ⟨.new, (.q .mv), [.t 2], none⟩,
      ⟨.new, (.q (.mkf 72)), [.t 3], none⟩,
      ⟨.new, (.call 71), [.t 6, .t 7, .t 8], none⟩,
      ⟨.new, (.q (.ext 0)), [.t 9], none⟩,
      ⟨.new, (.q (.ext 1)), [.t 9], none⟩,
      ⟨.var 4, (.q .mv), [.t 10], none⟩,
      ⟨.var 5, (.q .mv), [.t 11], none⟩])
    .ret)),
    [.t 4, .t 5]⟩

/-- trefoil/ring.mask (0:l, 2:, 3:m) -/
def s63 : FnS := ⟨11, [0, 2, 3],
    (.seq (.reg [⟨.var 1, (.q .mv), [.c (.u64 0)], none⟩])
    (.seq (.reg [⟨.new, (.q .mv), [.t 0], none⟩,
      ⟨.new, (.call 82), [.t 3], none⟩,
      ⟨.new, (.q .mv), [.t 4], none⟩,
      ⟨.new, (.q (.ext 0)), [.t 5], none⟩,
      ⟨.new, (.q (.ext 1)), [.t 5], none⟩,
      ⟨.var 2, (.q .mv), [.t 6], none⟩,
      ⟨.new, (.q .mv), [.t 7], none⟩])
    (.seq (.reg [⟨.new, (.q .mv), [.t 2], none⟩,
      ⟨.var 1, (.q .mv), [.t 3], none⟩])
    .ret))),
    [.t 1]⟩

/-- slices.ContainsFunc[[]uint64,uint64] (0:s, 1:f, 4:) -/
def s64 : FnS := ⟨9, [0, 1, 4],
    (.seq (.reg [⟨.var 2, (.q .mv), [.c (.bool false)], none⟩])
    (.seq (.reg [⟨.new, (.q .mv), [.t 0], none⟩,
      ⟨.new, (.q .mv), [.t 1], none⟩,
      ⟨.new, (.call 83), [.t 3, .t 4], none⟩,
      ⟨.new, (.q (.bin .geq)), [.t 5, .c (.int 0)], none⟩,
      ⟨.var 2, (.q .mv), [.t 6], none⟩])
    .ret)),
    [.t 2]⟩

/-- trefoil/ring.Fits$1 (0:x, 1:, 3:) -/
def s65 : FnS := ⟨8, [0, 1, 3],
    (.seq (.reg [⟨.var 2, (.q .mv), [.c (.bool false)], none⟩])
    (.seq (.reg [⟨.new, (.q .mv), [.t 0], none⟩,
      ⟨.new, (.q (.ld .leaf)), [.t 1], none⟩,
      ⟨.new, (.q (.bin .andNot)), [.t 3, .t 4], none⟩,
      ⟨.new, (.q (.bin .neq)), [.t 5, .c (.u64 0)], none⟩,
      ⟨.var 2, (.q .mv), [.t 6], none⟩])
    .ret)),
    [.t 2]⟩

/-- trefoil/trefoilref03.Neg (0:l, 1:a, 4:) -/
def s69 : FnS := ⟨9, [0, 1, 4],
    (.seq (.reg [⟨.var 2, (.q .mv), [.c (.u64 0)], none⟩])
    (.seq (.reg [⟨.new, (.q .mv), [.t 0], none⟩,
      ⟨.new, (.q .mv), [.t 1], none⟩,
      ⟨.new, (.q (.bin .sub)), [.c (.u64 18446744073709551615), .t 4], none⟩,
      ⟨.new, (.call 44), [.t 3, .t 5, .c (.u64 1)], none⟩,
      ⟨.var 2, (.q .mv), [.t 6], none⟩])
    .ret)),
    [.t 2]⟩

/-- trefoil/ring.pairs (0:a, 1:b, 2:by, 6:, 7:, 8:out, 9:i, 14:, 19:, 20:, 21:) -/
def s71 : FnS := ⟨38, [0, 1, 2, 6, 7, 8, 9, 14, 19, 20, 21],
    (.seq (.reg [⟨.var 3, (.q .mv), [.c .nils], none⟩,
      ⟨.var 4, (.q .mv), [.c (.int 0)], none⟩])
    (.seq (.seq (.reg [⟨.new, (.q .mv), [.t 0], none⟩,
      ⟨.new, (.q .len), [.t 11], none⟩,
      ⟨.new, (.q .mv), [.t 1], none⟩,
      ⟨.new, (.q .len), [.t 13], none⟩,
      ⟨.var 7, (.q (.bin .neq)), [.t 12, .t 14], none⟩])
    (.cond (.t 7) (.seq (.reg [⟨.var 3, (.q .mv), [.c .nils], none⟩,
      ⟨.var 4, (.q .mv), [.c (.int 11)], none⟩])
    .ret)
    .skip))
    (.seq (.reg [⟨.new, (.q .mv), [.t 0], none⟩,
      ⟨.new, (.q .len), [.t 11], none⟩,
      ⟨.new, (.e (.mksl 49 .leaf 8 (.u64 0))), [.t 12, .t 12], none⟩,
      ⟨.var 5, (.q .mv), [.t 13], none⟩])
    (.seq (.seq (.reg [⟨.new, (.q .mv), [.t 5], none⟩,
      ⟨.var 8, (.q .len), [.t 11], none⟩,
      ⟨.var 9, (.q .mv), [.c (.int 0)], none⟩])
    (.block 0 (.loop (.seq (.reg [⟨.var 10, (.q (.bin .lss)), [.t 9, .t 8], none⟩])
    (.seq (.cond (.t 10) .skip
    (.exit 0))
    (.seq (.block 1 (.seq (.reg [⟨.new, (.q .mv), [.t 9], none⟩,
      ⟨.var 6, (.q .mv), [.t 11], none⟩])
    (.draw [⟨.new, (.q .mv), [.t 5], none⟩,
      ⟨.new, (.q .mv), [.t 6], none⟩,
      ⟨.new, (.q .mv), [.t 2], none⟩,
      ⟨.new, (.q .mv), [.t 0], none⟩,
      ⟨.new, (.q .mv), [.t 6], none⟩,
      ⟨.new, (.q (.iaS .leaf)), [.t 14, .t 15], none⟩,
      ⟨.new, (.q (.ld .leaf)), [.t 16], none⟩,
      ⟨.new, (.q .mv), [.t 1], none⟩,
      ⟨.new, (.q .mv), [.t 6], none⟩,
      ⟨.new, (.q (.iaS .leaf)), [.t 18, .t 19], none⟩,
      ⟨.new, (.q (.ld .leaf)), [.t 20], none⟩,
      ⟨.new, .callv, [.t 13, .t 17, .t 21], none⟩,
      ⟨.new, (.q (.iaS .leaf)), [.t 11, .t 12], none⟩,
      ⟨.none, (.e (.store .leaf)), [.t 23, .t 22], none⟩])))
    (.reg [⟨.new, (.q (.bin .add)), [.t 9, .c (.int 1)], none⟩,
      ⟨.var 9, (.q .mv), [.t 11], none⟩])))))))
    (.seq (.reg [⟨.new, (.q .mv), [.t 5], none⟩,
      ⟨.var 3, (.q .mv), [.t 11], none⟩,
      ⟨.var 4, (.q .mv), [.c (.int 0)], none⟩])
    .ret))))),
    [.t 3, .t 4]⟩

/-- trefoil/ring.AddAll$1 (0:x, 1:y, 2:, 5:) -/
def s72 : FnS := ⟨10, [0, 1, 2, 5],
    (.seq (.reg [⟨.var 3, (.q .mv), [.c (.u64 0)], none⟩])
    (.seq (.reg [⟨.new, (.q (.ld .leaf)), [.t 2], none⟩,
      ⟨.new, (.q .mv), [.t 0], none⟩,
      ⟨.new, (.q .mv), [.t 1], none⟩,
      ⟨.new, (.call 38), [.t 4, .t 5, .t 6], none⟩,
      ⟨.var 3, (.q .mv), [.t 7], none⟩])
    .ret)),
    [.t 3]⟩

/-- trefoil/ring.Mask (0:l, 2:, 3:, 9:) -/
def s82 : FnS := ⟨14, [0, 2, 3, 9],
    (.seq (.reg [⟨.var 1, (.q .mv), [.c (.u64 0)], none⟩,
      ⟨.var 2, (.q .mv), [.c (.int 0)], none⟩])
    (.seq (.seq (.reg [⟨.new, (.q .mv), [.t 0], none⟩,
      ⟨.new, (.q (.bin .lss)), [.t 4, .c (.int 1)], none⟩,
      ⟨.new, (.q .mv), [.t 5], none⟩,
      ⟨.new, (.q .mv), [.t 0], (some (6, false))⟩,
      ⟨.new, (.q (.bin .gtr)), [.t 7, .c (.int 64)], (some (6, false))⟩,
      ⟨.var 3, (.q .pick), [.t 6, .c (.bool true), .t 8], none⟩])
    (.cond (.t 3) (.seq (.reg [⟨.var 1, (.q .mv), [.c (.u64 0)], none⟩,
      ⟨.var 2, (.q .mv), [.c (.int 11)], none⟩])
    .ret)
    .skip))
    (.seq (.reg [⟨.new, (.q .mv), [.t 0], none⟩,
      ⟨.new, (.q (.bin .sub)), [.c (.int 64), .t 4], none⟩,
      ⟨.new, (.q (.cv .u64)), [.t 5], none⟩,
      ⟨.new, (.q (.bin .shr)), [.c (.u64 18446744073709551615), .t 6], none⟩,
      ⟨.var 1, (.q .mv), [.t 7], none⟩,
      ⟨.var 2, (.q .mv), [.c (.int 0)], none⟩])
    .ret))),
    [.t 1, .t 2]⟩

/-- slices.IndexFunc[[]uint64,uint64] (0:s, 1:f, 4:, 5:i, 7:, 8:, 9:, 16:) -/
def s83 : FnS := ⟨19, [0, 1, 4, 5, 7, 8, 9, 16],
    (.seq (.reg [⟨.var 2, (.q .mv), [.c (.int 0)], none⟩])
    (.seq (.seq (.reg [⟨.new, (.q .mv), [.t 0], none⟩,
      ⟨.var 4, (.q .len), [.t 8], none⟩,
      ⟨.var 5, (.q .mv), [.c (.int 0)], none⟩])
    (.block 0 (.loop (.seq (.reg [⟨.var 6, (.q (.bin .lss)), [.t 5, .t 4], none⟩])
    (.seq (.cond (.t 6) .skip
    (.exit 0))
    (.seq (.block 1 (.seq (.reg [⟨.new, (.q .mv), [.t 5], none⟩,
      ⟨.var 3, (.q .mv), [.t 8], none⟩])
    (.seq (.reg [⟨.new, (.q .mv), [.t 1], none⟩,
      ⟨.new, (.q .mv), [.t 0], none⟩,
      ⟨.new, (.q .mv), [.t 3], none⟩,
      ⟨.new, (.q (.iaS .leaf)), [.t 9, .t 10], none⟩,
      ⟨.new, (.q (.ld .leaf)), [.t 11], none⟩,
      ⟨.var 7, .callv, [.t 8, .t 12], none⟩])
    (.cond (.t 7) (.seq (.reg [⟨.new, (.q .mv), [.t 3], none⟩,
      ⟨.var 2, (.q .mv), [.t 8], none⟩])
    .ret)
    .skip))))
    (.reg [⟨.new, (.q (.bin .add)), [.t 5, .c (.int 1)], none⟩,
      ⟨.var 5, (.q .mv), [.t 8], none⟩])))))))
    (.seq (.reg [⟨.var 2, (.q .mv), [.c (.int (-1))], none⟩])
    .ret))),
    [.t 2]⟩

theorem c19 : cF P [] (drP P []) 19 2 s19.vm = some s19 := by kernel_rfl
theorem c21 : cF P [] (drP P []) 21 2 s21.vm = some s21 := by kernel_rfl
theorem c36 : cF P [] (drP P []) 36 2 s36.vm = some s36 := by kernel_rfl
theorem c38 : cF P [] (drP P []) 38 3 s38.vm = some s38 := by kernel_rfl
theorem c43 : cF P [] (drP P []) 43 3 s43.vm = some s43 := by kernel_rfl
theorem c44 : cF P [] (drP P []) 44 3 s44.vm = some s44 := by kernel_rfl
theorem c48 : cF P [] (drP P []) 48 3 s48.vm = some s48 := by kernel_rfl
theorem c63 : cF P [] (drP P []) 63 1 s63.vm = some s63 := by kernel_rfl
theorem c64 : cF P [] (drP P []) 64 2 s64.vm = some s64 := by kernel_rfl
theorem c65 : cF P [] (drP P []) 65 2 s65.vm = some s65 := by kernel_rfl
theorem c69 : cF P [] (drP P []) 69 2 s69.vm = some s69 := by kernel_rfl
theorem c71 : cF P [] (drP P []) 71 3 s71.vm = some s71 := by kernel_rfl
theorem c72 : cF P [] (drP P []) 72 3 s72.vm = some s72 := by kernel_rfl
theorem c82 : cF P [] (drP P []) 82 1 s82.vm = some s82 := by kernel_rfl
theorem c83 : cF P [] (drP P []) 83 2 s83.vm = some s83 := by kernel_rfl
/-- may there be so many bits? -/
def good (l : Int) : Prop := 1 ≤ l ∧ l ≤ 64
instance (l : Int) : Decidable (good l) := by unfold good; infer_instance

/-- the lowest bits -/
def rcut (n : Nat) (x : BitVec 64) : BitVec 64 := BitVec.ofNat 64 (x.toNat % 2 ^ n)

def maskV (l : Int) : BitVec 64 := if good l then 18446744073709551615#64 >>> (64 - l.toNat) else 0

theorem f82 {K : AV → Heap → Prop} {H : Heap} {l : Int} (h : K (.tup [.u64 (maskV l), .int (if good l then 0 else 11)]) H) : wpF P [] 82 [.int l] H K := by
  refine wpF_go c82 rfl 2 ?_
  intro ha hb
  simp only [s82]
  by_cases h1 : l < 1
  · have hg : ¬ good l := by unfold good; omega
    simp only [maskV, hg, if_false] at h
    (refine gw1 @h1 ?_; try exact True.intro)
    exact h
  · by_cases h2 : 64 < l
    · have hg : ¬ good l := by unfold good; omega
      simp only [maskV, hg, if_false] at h
      (refine gw2 @h1 @h2 ?_; try exact True.intro)
      exact h
    · have hg : good l := by unfold good; omega
      simp only [maskV, hg, if_true] at h
      (refine gw2 @h1 @h2 ?_; try exact True.intro)
      have e : (BitVec.ofInt 64 (64 - l)).toNat = 64 - l.toNat := by rw [BitVec.toNat_ofInt]; unfold good at hg; omega
      rw [e]
      exact ⟨by unfold good at hg; omega, by unfold good at hg; omega, h⟩

theorem f63 {K : AV → Heap → Prop} {H : Heap} {l : Int} (h : K (.u64 (maskV l)) H) : wpF P [] 63 [.int l] H K := by
  refine wpF_go c63 rfl 2 ?_
  intro ha hb
  simp only [s63]
  (refine gw0 ?_; try exact True.intro)
  refine f82 ?_
  (refine gw0 ?_; try exact True.intro)
  exact h

theorem f38 {K : AV → Heap → Prop} {H : Heap} {l : Int} {x y : BitVec 64} (h : K (.u64 ((x + y) &&& maskV l)) H) : wpF P [] 38 [.int l, .u64 x, .u64 y] H K := by
  refine wpF_go c38 rfl 2 ?_
  intro ha hb
  simp only [s38]
  (refine gw0 ?_; try exact True.intro)
  refine f63 ?_
  (refine gw0 ?_; try exact True.intro)
  exact h
theorem ofInt_nat {i : Nat} (h : i < 18446744073709551616) : (BitVec.ofInt 64 (i : Int)).toNat = i := by
  rw [BitVec.toNat_ofInt]; omega

/-- what is kept while two numbers are added bit by bit -/
def AddInv (a b : BitVec 64) (i : Nat) (out c : BitVec 64) : Prop :=
  a.toNat % 2 ^ i + b.toNat % 2 ^ i = out.toNat + c.toNat * 2 ^ i ∧ out.toNat < 2 ^ i ∧ c.toNat ≤ 1

theorem bit_toNat (a : BitVec 64) (i : Nat) : ((a >>> i) % 2).toNat = a.toNat / 2 ^ i % 2 := by
  simp [BitVec.toNat_umod, BitVec.toNat_ushiftRight, Nat.shiftRight_eq_div_pow]

theorem or_bit {out t : BitVec 64} {i : Nat} (hi : i < 64) (ho : out.toNat < 2 ^ i) (ht : t.toNat ≤ 1) : (out ||| t <<< i).toNat = out.toNat + t.toNat * 2 ^ i := by
  rw [BitVec.toNat_or, BitVec.toNat_shiftLeft, Nat.shiftLeft_eq]
  have h1 : t.toNat * 2 ^ i < 2 ^ 64 := by
    have : 2 ^ i ≤ 2 ^ 63 := Nat.pow_le_pow_right (by decide) (by omega)
    have h2 : t.toNat * 2 ^ i ≤ 1 * 2 ^ i := Nat.mul_le_mul_right _ ht
    omega
  rw [Nat.mod_eq_of_lt h1, Nat.or_comm, Nat.mul_comm t.toNat, ← Nat.two_pow_add_eq_or_of_lt ho]
  omega

theorem AddInv.step {a b out c : BitVec 64} {i : Nat} (hi : i < 64) (h : AddInv a b i out c) :
    AddInv a b (i + 1) (out ||| ((a >>> i % 2 + b >>> i % 2 + c) % 2) <<< i) ((a >>> i % 2 + b >>> i % 2 + c) / 2) := by
  obtain ⟨h1, h2, h3⟩ := h
  have ea := bit_toNat a i
  have eb := bit_toNat b i
  have es : (a >>> i % 2 + b >>> i % 2 + c).toNat = a.toNat / 2 ^ i % 2 + b.toNat / 2 ^ i % 2 + c.toNat := by
    rw [BitVec.toNat_add, BitVec.toNat_add, ea, eb]; omega
  have e2 : ((a >>> i % 2 + b >>> i % 2 + c) % 2).toNat = (a.toNat / 2 ^ i % 2 + b.toNat / 2 ^ i % 2 + c.toNat) % 2 := by
    rw [BitVec.toNat_umod, es]; rfl
  have e3 : ((a >>> i % 2 + b >>> i % 2 + c) / 2).toNat = (a.toNat / 2 ^ i % 2 + b.toNat / 2 ^ i % 2 + c.toNat) / 2 := by
    rw [BitVec.toNat_udiv, es]; rfl
  unfold AddInv
  rw [or_bit hi h2 (by rw [e2]; omega), e2, e3]
  have ha : a.toNat % 2 ^ (i + 1) = a.toNat % 2 ^ i + 2 ^ i * (a.toNat / 2 ^ i % 2) := by rw [Nat.pow_succ, Nat.mod_mul]
  have hb : b.toNat % 2 ^ (i + 1) = b.toNat % 2 ^ i + 2 ^ i * (b.toNat / 2 ^ i % 2) := by rw [Nat.pow_succ, Nat.mod_mul]
  rw [ha, hb, Nat.pow_succ]
  have hx : a.toNat / 2 ^ i % 2 < 2 := Nat.mod_lt _ (by decide)
  have hy : b.toNat / 2 ^ i % 2 < 2 := Nat.mod_lt _ (by decide)
  generalize a.toNat / 2 ^ i % 2 = x at *
  generalize b.toNat / 2 ^ i % 2 = y at *
  generalize 2 ^ i = p at *
  have hd : (x + y + c.toNat) = (x + y + c.toNat) % 2 + 2 * ((x + y + c.toNat) / 2) := by omega
  have hs : p * x + p * y + c.toNat * p = p * (x + y + c.toNat) := by rw [Nat.mul_add, Nat.mul_add, Nat.mul_comm c.toNat]
  have hm : p * (x + y + c.toNat) = p * ((x + y + c.toNat) % 2) + p * (2 * ((x + y + c.toNat) / 2)) := by rw [← Nat.mul_add, ← hd]
  generalize hq : (x + y + c.toNat) / 2 = q at *
  generalize hr : (x + y + c.toNat) % 2 = r at *
  refine ⟨?_, ?_, by omega⟩
  · rw [Nat.mul_comm r p, show q * (p * 2) = p * (2 * q) by rw [Nat.mul_comm q, Nat.mul_assoc]]
    omega
  · have : r * p ≤ 1 * p := Nat.mul_le_mul_right _ (by omega)
    omega

/-- how many rounds -/
def rounds (l : Int) : Nat := if l ≤ 0 then 0 else min l.toNat 64

theorem AddInv.done {a b out c : BitVec 64} {i : Nat} (hi : i ≤ 64) (h : AddInv a b i out c) : out = rcut i (a + b) := by
  obtain ⟨h1, h2, h3⟩ := h
  apply BitVec.eq_of_toNat_eq
  have hp : 2 ^ i ∣ 2 ^ 64 := Nat.pow_dvd_pow 2 hi
  have : (a.toNat + b.toNat) % 2 ^ 64 % 2 ^ i = out.toNat := by
    rw [Nat.mod_mod_of_dvd _ hp, Nat.add_mod, h1, Nat.add_mul_mod_self_right, Nat.mod_eq_of_lt h2]
  simp only [rcut, BitVec.toNat_ofNat, BitVec.toNat_add, this]
  have := out.isLt
  omega

def Ix33 (l : Int) (x y : BitVec 64) (H : Heap) (k : Nat) (st : St) : Prop :=
  ∃ (i : Nat) (out c : BitVec 64) (u1 u2 u3 u4 : AV), st = ⟨[.int l, .u64 x, .u64 y, .u64 0, .u64 out, .u64 c, .int i, u1, u2, u3, u4], H⟩ ∧ k = 64 - i ∧ i ≤ rounds l ∧ AddInv x y i out c

theorem f44 {K : AV → Heap → Prop} {H : Heap} {l : Int} {x y : BitVec 64} (h : K (.u64 (rcut (rounds l) (x + y))) H) : wpF P [] 44 [.int l, .u64 x, .u64 y] H K := by
  refine wpF_go c44 rfl 2 ?_
  intro ha hb
  simp only [s44]
  (refine gw0 ?_; try exact True.intro)
  refine wp_inv (Ix33 l x y H) 64 ⟨0, 0, 0, .un, .un, .un, .un, rfl, rfl, Nat.zero_le _, by simp [AddInv, Nat.mod_one]⟩ ?_
  rintro k st ⟨i, out, c, u1, u2, u3, u4, rfl, rfl, hi, inv⟩
  have hr64 : rounds l ≤ 64 := by unfold rounds; split <;> omega
  by_cases hir : i < rounds l
  · have h1 : (i : Int) < 64 := by omega
    have h2 : (i : Int) < l := by unfold rounds at hir; split at hir <;> omega
    have he : (BitVec.ofInt 64 (i : Int)).toNat = i := ofInt_nat (by omega)
    (refine gw3 @h1 @h2 @he ?_; try exact True.intro)

    refine ⟨by decide, by decide, by decide, by decide, by omega, by omega, 64 - (i + 1), by omega, i + 1, _, _, _, _, _, _, rfl, rfl, by omega, inv.step (by omega)⟩
  · have hie : i = rounds l := by omega
    have hstop : ¬ ((i : Int) < 64) ∨ ¬ ((i : Int) < l) := by
      rw [hie]; unfold rounds; split <;> omega
    rw [← hie, ← inv.done (by omega)] at h
    by_cases h1 : (i : Int) < 64
    · have h2 : ¬ ((i : Int) < l) := hstop.resolve_left (fun h => h h1)
      (refine gw2 @h1 @h2 ?_; try exact True.intro)
      exact h
    · (refine gw1 @h1 ?_; try exact True.intro)
      exact h

def Ix27 (l : Int) (x : BitVec 64) (H : Heap) (k : Nat) (st : St) : Prop :=
  ∃ (i : Nat) (out : BitVec 64) (u1 : AV), st = ⟨[.int l, .u64 x, .u64 0, .u64 out, .int i, u1], H⟩ ∧ k = 64 - i ∧ i ≤ rounds l ∧ out.toNat = x.toNat % 2 ^ i

theorem and_bit (x : BitVec 64) {i : Nat} (hi : i < 64) : (x &&& (1#64 <<< i)) = (x >>> i % 2) <<< i := by
  ext j hj
  simp only [BitVec.getElem_and, BitVec.getElem_shiftLeft, BitVec.getElem_one]
  by_cases h : j < i
  · simp [h]
  · have hm : (x >>> i % 2) = (BitVec.ofBool (x.getLsbD i)).setWidth 64 := by
      apply BitVec.eq_of_toNat_eq
      rw [bit_toNat]
      simp only [BitVec.toNat_setWidth, BitVec.toNat_ofBool, BitVec.getLsbD, Nat.testBit, Nat.shiftRight_eq_div_pow, Nat.one_and_eq_mod_two]
      have : x.toNat / 2 ^ i % 2 < 2 := Nat.mod_lt _ (by decide)
      rcases (by omega : x.toNat / 2 ^ i % 2 = 0 ∨ x.toNat / 2 ^ i % 2 = 1) with h | h <;> simp [h]
    rw [hm]
    by_cases hji : j = i
    · subst hji
      simp [BitVec.getElem_eq_testBit_toNat, BitVec.getLsbD]
      cases x.toNat.testBit j <;> simp
    · have : j - i ≠ 0 := by omega
      simp [h, this, BitVec.getElem_setWidth]

theorem f19 {K : AV → Heap → Prop} {H : Heap} {l : Int} {x : BitVec 64} (h : K (.u64 (rcut (rounds l) x)) H) : wpF P [] 19 [.int l, .u64 x] H K := by
  refine wpF_go c19 rfl 2 ?_
  intro ha hb
  simp only [s19]
  (refine gw0 ?_; try exact True.intro)
  refine wp_inv (Ix27 l x H) 64 ⟨0, 0, .un, rfl, rfl, Nat.zero_le _, by simp [Nat.mod_one]⟩ ?_
  rintro k st ⟨i, out, u1, rfl, rfl, hi, inv⟩
  have hr64 : rounds l ≤ 64 := by unfold rounds; split <;> omega
  by_cases hir : i < rounds l
  · have h1 : (i : Int) < 64 := by omega
    have h2 : (i : Int) < l := by unfold rounds at hir; split at hir <;> omega
    have he : (BitVec.ofInt 64 (i : Int)).toNat = i := ofInt_nat (by omega)
    (refine gw3 @h1 @h2 @he ?_; try exact True.intro)
    refine ⟨by omega, by omega, 64 - (i + 1), by omega, i + 1, _, _, rfl, rfl, by omega, ?_⟩
    have e1 : x &&& (1 : BitVec 64) <<< i = (x >>> i % 2) <<< i := and_bit x (by omega)
    rw [e1, or_bit (by omega) (by rw [inv]; exact Nat.mod_lt _ (Nat.two_pow_pos i)) (by rw [bit_toNat]; omega), bit_toNat, inv, Nat.pow_succ, Nat.mod_mul, Nat.mul_comm (2 ^ i)]
  · have hie : i = rounds l := by omega
    have hstop : ¬ ((i : Int) < 64) ∨ ¬ ((i : Int) < l) := by
      rw [hie]; unfold rounds; split <;> omega
    have ho : out = rcut (rounds l) x := by
      apply BitVec.eq_of_toNat_eq
      rw [inv, hie]
      simp only [rcut, BitVec.toNat_ofNat]
      have := x.isLt
      have h2 := Nat.mod_le x.toNat (2 ^ rounds l)
      omega
    rw [← ho] at h
    by_cases h1 : (i : Int) < 64
    · have h2 : ¬ ((i : Int) < l) := hstop.resolve_left (fun h => h h1)
      (refine gw2 @h1 @h2 ?_; try exact True.intro)
      exact h
    · (refine gw1 @h1 ?_; try exact True.intro)
      exact h

theorem rounds_64 : rounds 64 = 64 := rfl
theorem cut_64 (x : BitVec 64) : rcut 64 x = x := by
  apply BitVec.eq_of_toNat_eq
  simp only [rcut, BitVec.toNat_ofNat]
  have := x.isLt
  omega

theorem f69 {K : AV → Heap → Prop} {H : Heap} {l : Int} {x : BitVec 64} (h : K (.u64 (rcut (rounds l) (18446744073709551615 - x + 1))) H) : wpF P [] 69 [.int l, .u64 x] H K := by
  refine wpF_go c69 rfl 2 ?_
  intro ha hb
  simp only [s69]
  (refine gw0 ?_; try exact True.intro)
  refine f44 ?_
  (refine gw0 ?_; try exact True.intro)
  exact h

theorem neg_eq (x : BitVec 64) : (18446744073709551615 - x + 1 : BitVec 64) = -x := by
  rw [show (18446744073709551615 : BitVec 64) = -1 from by decide]
  grind

theorem f43 {K : AV → Heap → Prop} {H : Heap} {l : Int} {x y : BitVec 64} (h : K (.u64 (rcut (rounds l) (x - y))) H) : wpF P [] 43 [.int l, .u64 x, .u64 y] H K := by
  refine wpF_go c43 rfl 2 ?_
  intro ha hb
  simp only [s43]
  (refine gw0 ?_; try exact True.intro)
  refine f69 ?_
  rw [rounds_64, cut_64, neg_eq]
  (refine gw0 ?_; try exact True.intro)
  refine f44 ?_
  (refine gw0 ?_; try exact True.intro)
  rw [show x + -y = x - y from (BitVec.sub_eq_add_neg x y).symm]
  exact h

def nst (a x : BitVec 64) : BitVec 64 := x * (2 - a * x)

def newton (a : BitVec 64) : BitVec 64 := nst a (nst a (nst a (nst a (nst a (nst a a)))))

theorem half_cases (x : BitVec 64) : x = 2 * (x >>> 1) ∨ x = 2 * (x >>> 1) + 1 := by
  have h := x.isLt
  have e : (2 * (x >>> 1)).toNat = 2 * (x.toNat / 2) := by
    rw [BitVec.toNat_mul, BitVec.toNat_ushiftRight, Nat.shiftRight_eq_div_pow]
    show (2 * (x.toNat / 2 ^ 1)) % 2 ^ 64 = _
    omega
  rcases Nat.mod_two_eq_zero_or_one x.toNat with h1 | h1
  · left; apply BitVec.eq_of_toNat_eq; rw [e]; omega
  · right; apply BitVec.eq_of_toNat_eq
    rw [BitVec.toNat_add, e]
    show x.toNat = (2 * (x.toNat / 2) + 1) % 2 ^ 64
    omega

theorem odd_half {x : BitVec 64} (h : x.toNat % 2 = 1) : x = 2 * (x >>> 1) + 1 := by
  rcases half_cases x with h1 | h1
  · exfalso
    have e : (2 * (x >>> 1)).toNat % 2 = 0 := by
      rw [BitVec.toNat_mul]
      show (2 * (x >>> 1).toNat) % 2 ^ 64 % 2 = 0
      omega
    rw [← h1] at e; omega
  · exact h1

theorem odd_sq {a : BitVec 64} (h : a.toNat % 2 = 1) : ∃ t : BitVec 64, 1 - a * a = 8 * t := by
  have h1 := odd_half h
  generalize a >>> 1 = b at h1
  rcases half_cases b with h2 | h2
  · generalize b >>> 1 = d at h2
    exact ⟨-(2 * d * d + d), by rw [h1, h2]; grind⟩
  · generalize b >>> 1 = d at h2
    exact ⟨-(2 * d * d + 3 * d + 1), by rw [h1, h2]; grind⟩

theorem nst_err (a x : BitVec 64) : 1 - a * nst a x = (1 - a * x) * (1 - a * x) := by
  unfold nst; grind

theorem newton_ok {a : BitVec 64} (h : a.toNat % 2 = 1) : a * newton a = 1 := by
  obtain ⟨t, e0⟩ := odd_sq h
  have e1 := nst_err a a
  rw [e0, show (8 * t) * (8 * t) = 64 * (t * t) by grind] at e1
  have e2 := nst_err a (nst a a)
  rw [e1, show (64 * (t * t)) * (64 * (t * t)) = 4096 * (t * t * t * t) by grind] at e2
  generalize t * t * t * t = u at e2
  have e3 := nst_err a (nst a (nst a a))
  rw [e2, show (4096 * u) * (4096 * u) = 16777216 * (u * u) by grind] at e3
  generalize u * u = v at e3
  have e4 := nst_err a (nst a (nst a (nst a a)))
  rw [e3, show (16777216 * v) * (16777216 * v) = 281474976710656 * (v * v) by grind] at e4
  generalize v * v = q at e4
  have e5 := nst_err a (nst a (nst a (nst a (nst a a))))
  rw [e4, show (281474976710656 * q) * (281474976710656 * q) = 0 by grind] at e5
  have e6 := nst_err a (nst a (nst a (nst a (nst a (nst a a)))))
  rw [e5] at e6
  have e7 : 1 - a * newton a = 0 := by unfold newton; rw [e6]; grind
  grind

theorem odd_iff (a : BitVec 64) : (a &&& 1 = 0) ↔ a.toNat % 2 = 0 := by
  constructor
  · intro h
    have := congrArg BitVec.toNat h
    rw [BitVec.toNat_and] at this
    have e : (1 : BitVec 64).toNat = 1 := by decide
    rw [e, Nat.and_one_is_mod] at this
    simpa using this
  · intro h
    apply BitVec.eq_of_toNat_eq
    rw [BitVec.toNat_and]
    have e : (1 : BitVec 64).toNat = 1 := by decide
    rw [e, Nat.and_one_is_mod, h]; rfl

theorem mod_iff (a : BitVec 64) : (a % 2 = 0) ↔ a.toNat % 2 = 0 := by
  constructor
  · intro h
    have := congrArg BitVec.toNat h
    rw [BitVec.toNat_umod] at this
    simpa using this
  · intro h
    apply BitVec.eq_of_toNat_eq
    rw [BitVec.toNat_umod]
    show a.toNat % 2 = 0
    exact h

/-- The number by which an odd one comes to 1 is but one. -/
theorem inv_uniq {a out : BitVec 64} {n : Nat} (hn : n ≤ 64) (h0 : 1 ≤ n) (ha : a.toNat % 2 = 1) (h1 : out.toNat < 2 ^ n) (h2 : (a * out).toNat % 2 ^ n = 1 % 2 ^ n) : out = rcut n (newton a) := by
  have hw := newton_ok ha
  have ho : out = newton a * (a * out) := by
    have : newton a * (a * out) = (a * newton a) * out := by grind
    rw [this, hw]; grind
  have hp : 2 ^ n ∣ 2 ^ 64 := Nat.pow_dvd_pow 2 hn
  have e : out.toNat % 2 ^ n = (newton a).toNat % 2 ^ n := by
    have := congrArg (fun z => z.toNat % 2 ^ n) ho
    rw [this, BitVec.toNat_mul, Nat.mod_mod_of_dvd _ hp, Nat.mul_mod, h2, ← Nat.mul_mod, Nat.mul_one]
  apply BitVec.eq_of_toNat_eq
  simp only [rcut, BitVec.toNat_ofNat]
  rw [← e, Nat.mod_eq_of_lt h1]
  have := out.isLt
  omega

def InvI (a : BitVec 64) (i : Nat) (out sum : BitVec 64) : Prop := sum = a * out ∧ out.toNat < 2 ^ i ∧ sum.toNat % 2 ^ i = 1 % 2 ^ i

theorem InvI.stay {a out sum : BitVec 64} {i : Nat} (h : InvI a i out sum) (hb : sum.toNat / 2 ^ i % 2 = if i = 0 then 1 else 0) : InvI a (i + 1) out sum := by
  obtain ⟨h1, h2, h3⟩ := h
  refine ⟨h1, by rw [Nat.pow_succ]; omega, ?_⟩
  rw [Nat.pow_succ, Nat.mod_mul, h3, hb]
  split
  · rename_i h; subst h; rfl
  · rename_i h
    have : 2 ≤ 2 ^ i := by
      have := Nat.pow_le_pow_right (n := 2) (by decide) (show 1 ≤ i by omega)
      simpa using this
    rw [Nat.mod_eq_of_lt (by omega : 1 < 2 ^ i), Nat.mod_eq_of_lt (by omega : 1 < 2 ^ i * 2), Nat.mul_zero]

theorem InvI.flip {a out sum : BitVec 64} {i : Nat} (hi : i < 64) (ha : a.toNat % 2 = 1) (h : InvI a i out sum) (hb : sum.toNat / 2 ^ i % 2 ≠ if i = 0 then 1 else 0) : InvI a (i + 1) (out ||| (1 : BitVec 64) <<< i) (sum + a <<< i) := by
  obtain ⟨h1, h2, h3⟩ := h
  have e1 : (1 : BitVec 64).toNat = 1 := by decide
  have eo := or_bit (t := 1) hi h2 (by rw [e1]; exact Nat.le_refl _)
  rw [e1, Nat.one_mul] at eo
  have hp64 : 2 ^ (i + 1) ∣ 2 ^ 64 := Nat.pow_dvd_pow 2 (by omega)
  refine ⟨?_, by rw [eo, Nat.pow_succ]; omega, ?_⟩
  · have e2 : (out ||| (1 : BitVec 64) <<< i) = out + (1 : BitVec 64) <<< i := by
      apply BitVec.eq_of_toNat_eq
      rw [eo, BitVec.toNat_add, BitVec.toNat_shiftLeft, e1, Nat.shiftLeft_eq, Nat.one_mul]
      have h5 : 2 ^ i ≤ 2 ^ 63 := Nat.pow_le_pow_right (by decide) (by omega)
      rw [Nat.mod_eq_of_lt (by omega : 2 ^ i < 2 ^ 64), Nat.mod_eq_of_lt (by omega)]
    rw [e2, h1]
    have e3 : a <<< i = a * ((1 : BitVec 64) <<< i) := by
      apply BitVec.eq_of_toNat_eq
      have h5 : 2 ^ i ≤ 2 ^ 63 := Nat.pow_le_pow_right (by decide) (by omega)
      rw [BitVec.toNat_mul, BitVec.toNat_shiftLeft, BitVec.toNat_shiftLeft, e1, Nat.shiftLeft_eq, Nat.shiftLeft_eq, Nat.one_mul, Nat.mod_eq_of_lt (by omega : 2 ^ i < 2 ^ 64)]
    rw [e3]; grind
  · rw [BitVec.toNat_add, BitVec.toNat_shiftLeft, Nat.shiftLeft_eq, Nat.mod_mod_of_dvd _ hp64, Nat.add_mod, Nat.mod_mod_of_dvd _ hp64, ← Nat.add_mod]
    rw [Nat.pow_succ, Nat.mod_mul, Nat.add_mul_mod_self_right, h3, Nat.add_mul_div_right _ _ (Nat.two_pow_pos i)]
    have e4 : (sum.toNat / 2 ^ i + a.toNat) % 2 = if i = 0 then 1 else 0 := by
      have hw : (if i = 0 then 1 else 0) < 2 := by split <;> omega
      generalize (if i = 0 then 1 else 0) = w at hb hw ⊢
      omega
    rw [e4]
    split
    · rename_i h; subst h; rfl
    · rename_i h
      have : 2 ≤ 2 ^ i := by
        have := Nat.pow_le_pow_right (n := 2) (by decide) (show 1 ≤ i by omega)
        simpa using this
      rw [Nat.mod_eq_of_lt (by omega : 1 < 2 ^ i), Nat.mod_eq_of_lt (by omega : 1 < 2 ^ i * 2), Nat.mul_zero]

def Ix19 (l : Int) (a : BitVec 64) (H : Heap) (k : Nat) (st : St) : Prop :=
  ∃ (i : Nat) (out sum : BitVec 64) (u1 u2 u3 u4 u5 : AV), st = ⟨[.int l, .u64 a, .u64 0, .bool false, .u64 out, .u64 sum, .int i, u1, u2, u3, u4, u5], H⟩ ∧ k = 64 - i ∧ (i : Int) ≤ l ∧ InvI a i out sum

theorem mask_nat {l : Int} (h : good l) : (maskV l).toNat = 2 ^ l.toNat - 1 := by
  unfold maskV
  rw [if_pos h]
  have key : ∀ n, n ≤ 64 → ((18446744073709551615#64) >>> (64 - n)).toNat = 2 ^ n - 1 := by decide +kernel
  exact key _ (by unfold good at h; omega)

theorem and_mask {l : Int} (h : good l) (x : BitVec 64) : x &&& maskV l = rcut l.toNat x := by
  apply BitVec.eq_of_toNat_eq
  rw [BitVec.toNat_and, mask_nat h, Nat.and_two_pow_sub_one_eq_mod]
  simp only [rcut, BitVec.toNat_ofNat]
  have := x.isLt
  have h2 := Nat.mod_le x.toNat (2 ^ l.toNat)
  omega

theorem mask_zero {l : Int} : maskV l = 0 ↔ ¬ good l := by
  constructor
  · intro h hg
    have := mask_nat hg
    rw [h] at this
    have h2 : 2 ≤ 2 ^ l.toNat := by
      have := Nat.pow_le_pow_right (n := 2) (by decide) (show 1 ≤ l.toNat by unfold good at hg; omega)
      simpa using this
    have h3 : (0 : BitVec 64).toNat = 0 := by decide
    omega
  · intro h; unfold maskV; rw [if_neg h]

theorem cut_nat {n : Nat} (x : BitVec 64) : (rcut n x).toNat = x.toNat % 2 ^ n := by
  simp only [rcut, BitVec.toNat_ofNat]
  have := x.isLt
  have h2 := Nat.mod_le x.toNat (2 ^ n)
  omega

theorem cut_mul_cut {n : Nat} (hn : n ≤ 64) (a x : BitVec 64) : rcut n (a * rcut n x) = rcut n (a * x) := by
  have hp : 2 ^ n ∣ 2 ^ 64 := Nat.pow_dvd_pow 2 hn
  apply BitVec.eq_of_toNat_eq
  rw [cut_nat, cut_nat, BitVec.toNat_mul, BitVec.toNat_mul, cut_nat, Nat.mod_mod_of_dvd _ hp, Nat.mod_mod_of_dvd _ hp, Nat.mul_mod, Nat.mod_mod, ← Nat.mul_mod]

/-! sums, products and powers rcut to n bits -/

theorem cut_add_cut {n : Nat} (hn : n ≤ 64) (x y : BitVec 64) : rcut n (rcut n x + y) = rcut n (x + y) := by
  apply BitVec.eq_of_toNat_eq
  rw [cut_nat, cut_nat, BitVec.toNat_add, BitVec.toNat_add, cut_nat]
  have hd : 2 ^ n ∣ 2 ^ 64 := Nat.pow_dvd_pow 2 hn
  rw [Nat.mod_mod_of_dvd _ hd, Nat.mod_mod_of_dvd _ hd, Nat.mod_add_mod]

theorem cut_mul_cut' {n : Nat} (hn : n ≤ 64) (x y : BitVec 64) : rcut n (rcut n x * y) = rcut n (x * y) := by
  rw [BitVec.mul_comm, cut_mul_cut hn, BitVec.mul_comm]

theorem cut_cut {n : Nat} (x : BitVec 64) : rcut n (rcut n x) = rcut n x := by
  apply BitVec.eq_of_toNat_eq
  rw [cut_nat, cut_nat, Nat.mod_mod]

def bitV (b : BitVec 64) (i : Nat) : BitVec 64 := if b.toNat / 2 ^ i % 2 = 1 then 1#64 <<< i else 0

theorem rcut_succ (b : BitVec 64) {i : Nat} (hi : i < 64) : rcut (i + 1) b = rcut i b + bitV b i := by
  have h2 : b.toNat / 2 ^ i % 2 = 0 ∨ b.toNat / 2 ^ i % 2 = 1 := by omega
  have hlt : b.toNat % 2 ^ i < 2 ^ i := Nat.mod_lt _ (Nat.two_pow_pos i)
  have hle : 2 ^ (i + 1) ≤ 2 ^ 64 := Nat.pow_le_pow_right (by omega) (by omega)
  have hp : 2 ^ (i + 1) = 2 * 2 ^ i := by rw [Nat.pow_succ, Nat.mul_comm]
  have hm : b.toNat % 2 ^ (i + 1) = b.toNat % 2 ^ i + 2 ^ i * (b.toNat / 2 ^ i % 2) := by
    rw [Nat.pow_succ, Nat.mod_mul]
  have hs : (1#64 <<< i).toNat = 2 ^ i := by
    have z1 : (1#64 : BitVec 64).toNat = 1 := rfl
    rw [BitVec.toNat_shiftLeft, z1, Nat.shiftLeft_eq, Nat.one_mul, Nat.mod_eq_of_lt (by omega)]
  apply BitVec.eq_of_toNat_eq
  rw [BitVec.toNat_add, cut_nat, cut_nat, hm]
  unfold bitV
  generalize b.toNat % 2 ^ i = m at hlt
  rcases h2 with h | h
  · rw [h, if_neg (by omega)]
    have z0 : (0 : BitVec 64).toNat = 0 := rfl
    rw [z0, Nat.mul_zero, Nat.add_zero, Nat.mod_eq_of_lt (Nat.lt_trans hlt (by omega))]
  · rw [h, if_pos rfl, hs, Nat.mul_one, Nat.mod_eq_of_lt (by omega)]

theorem rcut_zero (b : BitVec 64) : rcut 0 b = 0 := by simp [rcut, Nat.mod_one]
theorem rounds_le (l : Int) : rounds l ≤ 64 := by unfold rounds; split <;> omega

def pw (a : BitVec 64) : Nat → BitVec 64
  | 0 => 1
  | n + 1 => pw a n * a

theorem pw_add (a : BitVec 64) (m n : Nat) : pw a (m + n) = pw a m * pw a n := by
  induction n with
  | zero => simp [pw]
  | succ n ih => rw [← Nat.add_assoc, pw, ih, pw, BitVec.mul_assoc]

theorem pw_sq (a : BitVec 64) (n : Nat) : pw (a * a) n = pw a (2 * n) := by
  induction n with
  | zero => rfl
  | succ n ih =>
    have : 2 * (n + 1) = 2 * n + 1 + 1 := by omega
    rw [this, pw, pw, pw, ih, BitVec.mul_assoc]

theorem mod2_iff (b : BitVec 64) (i : Nat) : (b >>> i % 2 = 1) ↔ b.toNat / 2 ^ i % 2 = 1 := by
  rw [← BitVec.toNat_inj, bit_toNat]
  exact Iff.rfl

theorem bv_mul_one' (x : BitVec 64) : x * 1 = x := BitVec.mul_one x
theorem bv_mul_one1 (x : BitVec 64) : x * 1#64 = x := BitVec.mul_one x
theorem shl0 : (1#64 <<< 0) = 1#64 := rfl
theorem cut_z (n : Nat) : rcut n 0 = 0 := by simp [rcut]

def Ix35 (l : Int) (x y : BitVec 64) (H : Heap) (k : Nat) (st : St) : Prop :=
  ∃ (i : Nat) (u1 u2 : AV), st = ⟨[.int l, .u64 (x * 1#64 <<< i), .u64 y, .u64 0, .u64 (rcut (rounds l) (x * rcut i y)), .int i, u1, u2], H⟩ ∧ k = 64 - i ∧ i ≤ rounds l

def Ix37 (l : Int) (a n : BitVec 64) (H : Heap) (k : Nat) (st : St) : Prop :=
  ∃ (i : Int) (u1 u2 : AV), st = ⟨[.int l, .u64 a, .u64 n, .u64 0, .u64 (rcut (rounds l) (pw a (n.toNat / 2 ^ k))), .int i, u1, u2], H⟩ ∧ i = (k : Int) - 1 ∧ k ≤ 64

/-! the code's power -/

def msk (l : Int) (x : BitVec 64) : BitVec 64 := x &&& maskV l

theorem msk_cases (l : Int) : (good l ∧ ∀ x, msk l x = rcut l.toNat x) ∨ (¬ good l ∧ ∀ x, msk l x = 0) := by
  by_cases hg : good l
  · exact .inl ⟨hg, fun x => and_mask hg x⟩
  · refine .inr ⟨hg, fun x => ?_⟩
    unfold msk
    rw [mask_zero.2 hg]
    exact BitVec.and_zero

theorem msk_mul (l : Int) (x y : BitVec 64) : msk l (x * msk l y) = msk l (x * y) := by
  rcases msk_cases l with ⟨hg, h⟩ | ⟨hg, h⟩
  · simp only [h]; exact cut_mul_cut (by unfold good at hg; omega) x y
  · simp only [h]

theorem msk_mul' (l : Int) (x y : BitVec 64) : msk l (msk l x * y) = msk l (x * y) := by
  rw [BitVec.mul_comm, msk_mul, BitVec.mul_comm]

theorem msk_pw (l : Int) (a : BitVec 64) (n : Nat) : ∀ x, msk l (x * pw (msk l a) n) = msk l (x * pw a n) := by
  induction n with
  | zero => intro x; rfl
  | succ n ih =>
    intro x
    rw [pw, pw, ← BitVec.mul_assoc, msk_mul, BitVec.mul_assoc, BitVec.mul_comm (pw (msk l a) n) a, ← BitVec.mul_assoc, ih, BitVec.mul_assoc, BitVec.mul_comm a]

def Ix31 (l : Int) (a0 : BitVec 64) (n0 : Nat) (H : Heap) (k : Nat) (st : St) : Prop :=
  ∃ (a n out : BitVec 64) (u1 u2 : AV), st = ⟨[.int l, .u64 a, .u64 n, .u64 0, .u64 out, u1, u2], H⟩ ∧ k = n.toNat ∧ msk l out = out ∧ msk l (out * pw a n.toNat) = msk l (pw a0 n0)

/-! Fits -/

/-- the heap with the number that the closure reads -/
def hM (m : BitVec 64) (H : Heap) : Heap := H ++ [some ⟨49, 0, false, .arr 1 .leaf, .agg [.u64 m]⟩]

theorem f65 {K : AV → Heap → Prop} {H : Heap} {x m : BitVec 64} (h : K (.bool (!decide (x &&& ~~~m = 0))) (hM m H)) : wpF P [] 65 [.u64 x, .ptr H.length 0 [0] .leaf] (hM m H) K := by
  refine wpF_go c65 rfl 2 ?_
  intro ha hb
  simp only [s65]
  unfold hM at *
  (refine gw0 ?_; try exact True.intro)
  exact ⟨List.take_of_length_le (by simp), h⟩

theorem fits_iff {l : Int} (hg : good l) (x : BitVec 64) : (x &&& ~~~maskV l = 0) ↔ rcut l.toNat x = x := by
  rw [← and_mask hg]
  constructor
  · intro h
    have : x = (x &&& maskV l) ||| (x &&& ~~~maskV l) := by
      rw [← BitVec.and_or_distrib_left, BitVec.or_not_self, BitVec.and_allOnes]
    rw [h] at this
    exact (this.trans BitVec.or_zero).symm
  · intro h
    rw [← h, BitVec.and_assoc, BitVec.and_not_self]
    exact BitVec.and_zero

theorem f19g {K : AV → Heap → Prop} {H : Heap} {l : Int} (hg : good l) {x : BitVec 64} (h : K (.u64 (x &&& maskV l)) H) : wpF P [] 19 [.int l, .u64 x] H K := by
  refine f19 ?_
  have hr : rounds l = l.toNat := by unfold rounds; unfold good at hg; split <;> omega
  rw [hr, ← and_mask hg]
  exact h

/-- what is made of the i-th two -/
def pg (g : BitVec 64 → BitVec 64 → BitVec 64) (xs ys : List (BitVec 64)) (i : Nat) : BitVec 64 := g (xs.getD i 0) (ys.getD i 0)
def lst (f : Nat → BitVec 64) (n : Nat) : AV := .ro .leaf ((List.range n).map fun i => .u64 (f i))

def Ix60 (c : FuncId) (caps : List AV) (g : BitVec 64 → BitVec 64 → BitVec 64) (xs ys : List (BitVec 64)) (H : Heap) (k : Nat) (st : St) : Prop :=
  ∃ (i : Nat) (u1 u2 : AV), st = ⟨[.ro .leaf (xs.map .u64), .ro .leaf (ys.map .u64), .fn c caps, .nils, .int 0, .own H.length 0 [] 0 xs.length .leaf, u1, .bool false, .int xs.length, .int i, u2],
    H ++ [some ⟨49, 0, true, .arr xs.length .leaf, .agg (fillL (fun i => .u64 (pg g xs ys i)) (.u64 0) xs.length i)⟩]⟩ ∧ k = xs.length - i ∧ i ≤ xs.length

theorem f71 {K : AV → Heap → Prop} {H : Heap} {c : FuncId} {caps : List AV} {g : BitVec 64 → BitVec 64 → BitVec 64} {xs ys : List (BitVec 64)} (hb : xs.length ≤ 1000000)
    (hc : ∀ (L : Heap) x y, wpF P [] c (.u64 x :: .u64 y :: caps) (H ++ L) (fun r h => r = .u64 (g x y) ∧ h = H ++ L))
    (h : K (if xs.length = ys.length then .tup [lst (pg g xs ys) xs.length, .int 0] else .tup [.nils, .int 11]) H) : wpF P [] 71 [.ro .leaf (xs.map .u64), .ro .leaf (ys.map .u64), .fn c caps] H K := by
  refine wpF_go c71 rfl 3 ?_
  intro ha hbb
  simp only [s71]
  by_cases hl : xs.length = ys.length
  · have hl' : ((xs.length : Int) = (ys.length : Int)) = True := by simp [hl]
    rw [if_pos hl] at h
    (refine gw1 @hl' ?_; try exact True.intro)
    refine ⟨by omega, by omega, by omega, ?_⟩
    refine wp_inv (Ix60 c caps g xs ys H) xs.length ⟨0, _, _, by rw [fill_zero]; rfl, rfl, by omega⟩ ?_
    rintro k st ⟨i, u1, u2, rfl, rfl, hi⟩
    by_cases hil : i < xs.length
    · have h1 : ((i : Int) < (xs.length : Int)) = True := by simp [hil]
      have h2 : ((i : Int) < (ys.length : Int)) = True := by simp; omega
      have g1 := ld_u64 hil
      have g2 := ld_u64 (ns := ys) (i := i) (by omega)
      have hget := lget_at (ps := fillL (fun i => AV.u64 (pg g xs ys i)) (AV.u64 0) xs.length i) (i := i) (by rw [fill_length (by omega)]; exact hil)
      (refine gw4 @h1 @h2 @g1 @g2 ?_; try exact True.intro)
      refine drawn _ (hc _ _ _) ?_
      (refine gw2 @h1 @hget ?_; try exact True.intro)
      refine ⟨by omega, by omega, xs.length - (i + 1), by omega, i + 1, _, _, by rw [← fill_set hil]; rfl, rfl, by omega⟩
    · have hie : i = xs.length := by omega
      have h1 : ((i : Int) < (xs.length : Int)) = False := by simp; omega
      (refine gw1 @h1 ?_; try exact True.intro)
      have ht : List.take xs.length (fillL (fun i => AV.u64 (pg g xs ys i)) (AV.u64 0) xs.length i) = (List.range xs.length).map fun i => .u64 (pg g xs ys i) := by
        rw [hie, fill_all, List.take_of_length_le (by simp)]
      rw [ht]
      (refine gw0 ?_; try exact True.intro)
      exact h
  · have hl' : ((xs.length : Int) = (ys.length : Int)) = False := by simp; omega
    rw [if_neg hl] at h
    (refine gw1 @hl' ?_; try exact True.intro)
    exact h

/-! the three functions that are handed to it -/
def hB (l : Int) (H : Heap) : Heap := H ++ [some ⟨3, 0, false, .arr 1 .leaf, .agg [.int l]⟩]

theorem f72 {l : Int} {H L : Heap} {x y : BitVec 64} : wpF P [] 72 [.u64 x, .u64 y, .ptr H.length 0 [0] .leaf] (hB l H ++ L) (fun r h => r = .u64 ((x + y) &&& maskV l) ∧ h = hB l H ++ L) := by
  refine wpF_go c72 rfl 2 ?_
  intro ha hb
  simp only [s72]
  unfold hB at *
  (refine gw0 ?_; try exact True.intro)
  refine f38 ?_
  (refine gw0 ?_; try exact True.intro)
  exact List.take_of_length_le (by simp)

def addA (l : Int) (x y : BitVec 64) : BitVec 64 := (x + y) &&& maskV l
def subA (l : Int) (x y : BitVec 64) : BitVec 64 := (x - y) &&& maskV l

theorem f48 {K : AV → Heap → Prop} {H : Heap} {l : Int} {xs ys : List (BitVec 64)} (hb : xs.length ≤ 1000000)
    (h : K (if xs.length = ys.length then .tup [lst (pg (addA l) xs ys) xs.length, .int 0] else .tup [.nils, .int 11]) H) : wpF P [] 48 [.int l, .ro .leaf (xs.map .u64), .ro .leaf (ys.map .u64)] H K := by
  refine wpF_go c48 rfl 3 ?_
  intro ha hbb
  simp only [s48]
  (refine gw0 ?_; try exact True.intro)
  refine f71 (g := addA l) hb (fun L x y => f72) ?_
  by_cases hl : xs.length = ys.length
  · rw [if_pos hl] at h ⊢
    unfold lst at *
    (refine gw0 ?_; try exact True.intro)
    exact h
  · rw [if_neg hl] at h ⊢
    (refine gw0 ?_; try exact True.intro)
    exact h

/-! sums -/
def sumF (f : Nat → BitVec 64) : Nat → BitVec 64
  | 0 => 0
  | n + 1 => sumF f n + f n
def mulA (x y : BitVec 64) : BitVec 64 := x * y

theorem f27g' {l : Int} (hg : good l) (x : BitVec 64) : rcut (rounds l) x = x &&& maskV l := by
  have hr : rounds l = l.toNat := by unfold rounds; unfold good at hg; split <;> omega
  rw [hr, and_mask hg]

def Ix47 (l : Int) (xs ys : List (BitVec 64)) (A P : AV) (H : Heap) (k : Nat) (st : St) : Prop :=
  ∃ (i : Nat) (u1 u2 : AV), st = ⟨[.int l, A, P, .u64 0, .int 0, lst (pg mulA xs ys) xs.length, .int 0, .u64 (sumF (pg mulA xs ys) i), u1, .bool false, lst (pg mulA xs ys) xs.length, .int xs.length, .int i, u2], H⟩ ∧ k = xs.length - i ∧ i ≤ xs.length

def Ix48 (l : Int) (xs ys : List (BitVec 64)) (H : Heap) (k : Nat) (st : St) : Prop :=
  ∃ (i : Nat) (u1 : AV), st = ⟨[.int l, .ro .leaf (xs.map .u64), .ro .leaf (ys.map .u64), .u64 0, .int 0, .u64 (rcut (rounds l) (sumF (pg mulA xs ys) i)), .int i, .bool false, u1], H⟩ ∧ k = xs.length - i ∧ i ≤ xs.length

theorem cut_add_cut' {n : Nat} (hn : n ≤ 64) (x y : BitVec 64) : rcut n (x + rcut n y) = rcut n (x + y) := by
  rw [BitVec.add_comm, cut_add_cut hn, BitVec.add_comm]

def Ix49 (l : Int) (k0 : BitVec 64) (xs : List (BitVec 64)) (H : Heap) (k : Nat) (st : St) : Prop :=
  ∃ (i : Nat) (u1 u2 u3 : AV), st = ⟨[.int l, .u64 k0, .ro .leaf (xs.map .u64), .nils, .own H.length 0 [] 0 xs.length .leaf, u1, u2, .ro .leaf (xs.map .u64), .int xs.length, .int i, u3],
    H ++ [some ⟨49, 0, true, .arr xs.length .leaf, .agg (fillL (fun i => .u64 (msk l (k0 * xs.getD i 0))) (.u64 0) xs.length i)⟩]⟩ ∧ k = xs.length - i ∧ i ≤ xs.length

/-- do all numbers fit? -/
def fitL (l : Int) (xs : List (BitVec 64)) : Bool := xs.all fun x => decide (x &&& ~~~maskV l = 0)
def I42L (m : BitVec 64) (xs : List (BitVec 64)) (H : Heap) (k : Nat) (st : St) : Prop :=
  ∃ (i : Nat) (u3 u6 u7 : AV), st = ⟨[.ro .leaf (xs.map .u64), .fn 65 [.ptr H.length 0 [0] .leaf], .int 0, u3, .int xs.length, .int i, u6, u7], hM m H⟩ ∧ k = xs.length - i ∧ i ≤ xs.length ∧ ∀ j, j < i → xs.getD j 0 &&& ~~~m = 0
theorem all_get {xs : List (BitVec 64)} {p : BitVec 64 → Bool} : xs.all p = true ↔ ∀ j, j < xs.length → p (xs.getD j 0) = true := by
  rw [List.all_eq_true]
  constructor
  · intro h j hj
    rw [List.getD_eq_getElem?_getD, List.getElem?_eq_getElem hj]
    exact h _ (List.getElem_mem hj)
  · intro h x hx
    obtain ⟨j, hj, rfl⟩ := List.getElem_of_mem hx
    have := h j hj
    rwa [List.getD_eq_getElem?_getD, List.getElem?_eq_getElem hj] at this
theorem f83L {K : AV → Heap → Prop} {H : Heap} {m : BitVec 64} {xs : List (BitVec 64)} (hn : xs.length ≤ 1000000000) (h : ∀ r : Int, decide (0 ≤ r) = (!xs.all fun x => decide (x &&& ~~~m = 0)) → K (.int r) (hM m H)) : wpF P [] 83 [.ro .leaf (xs.map .u64), .fn 65 [.ptr H.length 0 [0] .leaf]] (hM m H) K := by
  refine wpF_go c83 rfl 2 ?_
  intro ha hb
  simp only [s83]
  clear ha hb
  have lm : (xs.map AV.u64).length = xs.length := by simp
  (refine gw1 @lm ?_; try exact True.intro)
  refine wp_inv (I42L m xs H) xs.length ⟨0, _, _, _, rfl, rfl, by omega, fun j hj => by omega⟩ ?_
  rintro k st ⟨i, u3, u6, u7, rfl, rfl, hi, hj⟩
  by_cases hil : i < xs.length
  · have h1 : ((i : Int) < (xs.length : Int)) = True := by simp [hil]
    have g1 := ld_u64 hil
    (refine gw3 @h1 @g1 @lm ?_; try exact True.intro)
    refine f65 ?_
    by_cases hx : xs.getD i 0 &&& ~~~m = 0
    · rw [decide_eq_true hx]
      (refine gw0 ?_; try exact True.intro)
      (repeat (refine And.intro (by omega) ?_))
      refine ⟨xs.length - (i + 1), by omega, i + 1, _, _, _, rfl, rfl, by omega, fun j hj' => ?_⟩
      by_cases hji : j = i
      · rw [hji]; exact hx
      · exact hj j (by omega)
    · have h2 := h (i : Int) (by
        have : (xs.all fun x => decide (x &&& ~~~m = 0)) = false := by
          rw [Bool.eq_false_iff]
          intro hc
          exact hx (of_decide_eq_true (all_get.1 hc i hil))
        rw [this]
        simp)
      rw [decide_eq_false hx]
      (refine gw0 ?_; try exact True.intro)
      exact h2
  · have h1 : ((i : Int) < (xs.length : Int)) = False := by simp; omega
    have h2 := h (-1) (by
      have : (xs.all fun x => decide (x &&& ~~~m = 0)) = true := all_get.2 fun j hj' => decide_eq_true (hj j (by omega))
      rw [this]
      rfl)
    (refine gw1 @h1 ?_; try exact True.intro)
    exact h2
theorem f83n {K : AV → Heap → Prop} {H : Heap} {A : AV} (h : K (.int (-1)) H) : wpF P [] 83 [.nils, A] H K := by
  refine wpF_go c83 rfl 2 ?_
  intro ha hb
  simp only [s83]
  clear ha hb
  (refine gw0 ?_; try exact True.intro)
  refine wp_unroll 1 ?_
  (refine gw0 ?_; try exact True.intro)
  exact h
theorem f64L {K : AV → Heap → Prop} {H : Heap} {m : BitVec 64} {xs : List (BitVec 64)} (hn : xs.length ≤ 1000000000) (h : K (.bool (!xs.all fun x => decide (x &&& ~~~m = 0))) (hM m H)) : wpF P [] 64 [.ro .leaf (xs.map .u64), .fn 65 [.ptr H.length 0 [0] .leaf]] (hM m H) K := by
  refine wpF_go c64 rfl 2 ?_
  intro ha hb
  simp only [s64]
  clear ha hb
  (refine gw0 ?_; try exact True.intro)
  refine f83L hn fun r hr => ?_
  rw [← hr] at h
  (refine gw0 ?_; try exact True.intro)
  exact h
theorem f64n {K : AV → Heap → Prop} {H : Heap} {A : AV} (h : K (.bool false) H) : wpF P [] 64 [.nils, A] H K := by
  refine wpF_go c64 rfl 2 ?_
  intro ha hb
  simp only [s64]
  clear ha hb
  (refine gw0 ?_; try exact True.intro)
  refine f83n ?_
  (refine gw0 ?_; try exact True.intro)
  exact h
theorem f36L {K : AV → Heap → Prop} {H : Heap} {l : Int} {xs : List (BitVec 64)} (hn : xs.length ≤ 1000000000) (h : K (.bool (fitL l xs)) H) : wpF P [] 36 [.int l, .ro .leaf (xs.map .u64)] H K := by
  refine wpF_go c36 rfl 2 ?_
  intro ha hb
  simp only [s36]
  clear ha hb
  (refine gw0 ?_; try exact True.intro)
  refine f63 ?_
  (refine gw0 ?_; try exact True.intro)
  refine f64L (m := maskV l) hn ?_
  unfold hM
  (refine gw0 ?_; try exact True.intro)
  unfold fitL at h
  exact h
theorem f36n {K : AV → Heap → Prop} {H : Heap} {l : Int} (h : K (.bool true) H) : wpF P [] 36 [.int l, .nils] H K := by
  refine wpF_go c36 rfl 2 ?_
  intro ha hb
  simp only [s36]
  clear ha hb
  (refine gw0 ?_; try exact True.intro)
  refine f63 ?_
  (refine gw0 ?_; try exact True.intro)
  refine f64n ?_
  (refine gw0 ?_; try exact True.intro)
  exact h
theorem fits_eq {l : Int} (hg : good l) (x : BitVec 64) : decide (x &&& ~~~maskV l = 0) = decide (rcut (rounds l) x = x) := by
  have hr : rounds l = l.toNat := by unfold rounds; unfold good at hg; split <;> omega
  rw [hr]
  simp only [fits_iff hg x]
def I29L (l : Int) (A : AV) (xs : List (BitVec 64)) (H : Heap) (k : Nat) (st : St) : Prop :=
  ∃ (i : Nat) (u4 u5 : AV), st = ⟨[.int l, A, .bool false, .int i, u4, u5], H⟩ ∧ k = xs.length - i ∧ i ≤ xs.length ∧ ∀ j, j < i → rcut (rounds l) (xs.getD j 0) = xs.getD j 0
theorem f21 {K : AV → Heap → Prop} {H : Heap} {l : Int} {xs : List (BitVec 64)} (hn : xs.length ≤ 1000000000) (h : K (.bool (xs.all fun x => decide (rcut (rounds l) x = x))) H) : wpF P [] 21 [.int l, .ro .leaf (xs.map .u64)] H K := by
  refine wpF_go c21 rfl 2 ?_
  intro ha hb
  simp only [s21]
  clear ha hb
  have lm : (xs.map AV.u64).length = xs.length := by simp
  (refine gw1 @lm ?_; try exact True.intro)
  refine wp_inv (I29L l (.ro .leaf (xs.map .u64)) xs H) xs.length ⟨0, _, _, rfl, rfl, by omega, fun j hj => by omega⟩ ?_
  rintro k st ⟨i, u4, u5, rfl, rfl, hi, hj⟩
  by_cases hil : i < xs.length
  · have h1 : ((i : Int) < (xs.length : Int)) = True := by simp [hil]
    have g1 := ld_u64 hil
    (refine gw3 @h1 @g1 @lm ?_; try exact True.intro)
    refine drawn _ (f19 ⟨rfl, rfl⟩) ?_
    by_cases hx : rcut (rounds l) (xs.getD i 0) = xs.getD i 0
    · (refine gw4 @h1 @g1 @lm @hx ?_; try exact True.intro)
      (repeat (refine And.intro (by omega) ?_))
      refine ⟨xs.length - (i + 1), by omega, i + 1, _, _, rfl, rfl, by omega, fun j hj' => ?_⟩
      by_cases hji : j = i
      · rw [hji]; exact hx
      · exact hj j (by omega)
    · have : (xs.all fun x => decide (rcut (rounds l) x = x)) = false := by
        rw [Bool.eq_false_iff]
        intro hc
        exact hx (of_decide_eq_true (all_get.1 hc i hil))
      rw [this] at h
      (refine gw4 @h1 @g1 @lm @hx ?_; try exact True.intro)
      exact h
  · have h1 : ((i : Int) < (xs.length : Int)) = False := by simp; omega
    have : (xs.all fun x => decide (rcut (rounds l) x = x)) = true := all_get.2 fun j hj' => decide_eq_true (hj j (by omega))
    rw [this] at h
    (refine gw2 @h1 @lm ?_; try exact True.intro)
    exact h
theorem f21n {K : AV → Heap → Prop} {H : Heap} {l : Int} (h : K (.bool true) H) : wpF P [] 21 [.int l, .nils] H K := by
  refine wpF_go c21 rfl 2 ?_
  intro ha hb
  simp only [s21]
  clear ha hb
  (refine gw0 ?_; try exact True.intro)
  refine wp_unroll 1 ?_
  (refine gw0 ?_; try exact True.intro)
  exact h
theorem fitL_eq {l : Int} (hg : good l) {xs : List (BitVec 64)} : (xs.all fun x => decide (rcut (rounds l) x = x)) = fitL l xs := by
  unfold fitL
  congr 1
  funext x
  exact (fits_eq hg x).symm
/-- are a width, and a row's length, good? -/
def okW (w n : Int) : Bool := decide (1 ≤ w) && decide (w ≤ 64) && decide (1 ≤ n) && decide (n ≤ 6)
theorem okW_good {w n : Int} (h : okW w n = true) : good w ∧ 1 ≤ n ∧ n ≤ 6 := by
  simp only [okW, Bool.and_eq_true, decide_eq_true_eq] at h
  exact ⟨⟨h.1.1.1, h.1.1.2⟩, h.1.2, h.2⟩
/-- a list by its places -/
def rL (F : Nat → BitVec 64) (t : Nat) : List AV := (List.range t).map fun i => .u64 (F i)
theorem rL_len {F : Nat → BitVec 64} {t : Nat} : (rL F t).length = t := by simp [rL]
theorem rL_app {F G : Nat → BitVec 64} {t n : Nat} (h : ∀ j, j < n → G j = F (t + j)) : rL F t ++ rL G n = rL F (t + n) := by
  unfold rL
  rw [List.range_add, List.map_append, List.map_map]
  congr 1
  exact List.map_congr_left fun j hj => by rw [h j (List.mem_range.1 hj)]; rfl
theorem rL_one {F : Nat → BitVec 64} {t : Nat} {x : BitVec 64} (h : x = F t) : rL F t ++ [.u64 x] = rL F (t + 1) := by
  rw [h]; unfold rL; rw [List.range_succ, List.map_append]; rfl
theorem rL_kind {F : Nat → BitVec 64} {t : Nat} : ∀ q : AV, q ∈ rL F t → (match q with | AV.agg ps => false | AV.tup ps => false | AV.un => false | x => true) = true := by
  intro q hq
  obtain ⟨b, _, rfl⟩ := List.mem_map.1 hq
  rfl
theorem rL_map {F : Nat → BitVec 64} {t : Nat} : rL F t = ((List.range t).map F).map .u64 := by unfold rL; rw [List.map_map]; rfl
theorem lst_rL {F : Nat → BitVec 64} {t : Nat} : lst F t = .ro .leaf (rL F t) := rfl
theorem mapO_rL {kp : Nat → Bool} {N : Nat} {h : Heap} {d : Nat} {F : Nat → BitVec 64} {t : Nat} : mapO (demK kp N h (d + 1)) (rL F t) = some (rL F t) := by rw [rL_map]; exact mapO_u64
theorem bnds_rL {k : Nat} {F : Nat → BitVec 64} {t : Nat} : AV.bnds k (rL F t) = true := by rw [rL_map]; exact bnds_u64'
theorem take_rL {F : Nat → BitVec 64} {t : Nat} : List.take t (rL F t) = rL F t := List.take_of_length_le (by rw [rL_len]; exact Nat.le_refl _)
def uB (v t : Nat) (l : List AV) : Option Blk := some ⟨49, v, true, .arr t .leaf, .agg l⟩
theorem getD_rng {F : Nat → BitVec 64} {n j : Nat} (h : j < n) : ((List.range n).map F).getD j 0 = F j := by
  rw [List.getD_eq_getElem?_getD, List.getElem?_map, List.getElem?_range h]; rfl
theorem rL_congr {F G : Nat → BitVec 64} {n : Nat} (h : ∀ j, j < n → F j = G j) : rL F n = rL G n := List.map_congr_left fun j hj => by rw [h j (List.mem_range.1 hj)]
theorem f48r {K : AV → Heap → Prop} {H : Heap} {l : Int} {F G : Nat → BitVec 64} {n : Nat} (hb : n ≤ 1000000) (h : K (.tup [.ro .leaf (rL (fun j => addA l (F j) (G j)) n), .int 0]) H) : wpF P [] 48 [.int l, .ro .leaf (rL F n), .ro .leaf (rL G n)] H K := by
  rw [rL_map, rL_map]
  refine f48 (by simpa using hb) ?_
  have hl : ((List.range n).map F).length = n := by simp
  have hl' : ((List.range n).map G).length = n := by simp
  rw [hl, hl', if_pos rfl, lst_rL, rL_congr (G := fun j => addA l (F j) (G j)) fun j hj => by unfold pg; rw [getD_rng hj, getD_rng hj]]
  exact h
/-- what is spread -/
def spF (W N : Nat) (xs : List (BitVec 64)) (t : Nat) : BitVec 64 := msk W (xs.getD (t / N / W * N + t % N) 0 <<< (t / N % W))
theorem spF_at {W N : Nat} {xs : List (BitVec 64)} {i k j : Nat} (hk : k < W) (hj : j < N) : spF W N xs ((i * W + k) * N + j) = msk W (xs.getD (i * N + j) 0 <<< k) := by
  unfold spF
  have e1 : ((i * W + k) * N + j) / N = i * W + k := by
    rw [Nat.mul_comm, Nat.mul_add_div (by omega), Nat.div_eq_of_lt hj, Nat.add_zero]
  have e2 : ((i * W + k) * N + j) % N = j := by
    rw [Nat.mul_comm, Nat.mul_add_mod, Nat.mod_eq_of_lt hj]
  have e3 : (i * W + k) / W = i := by
    rw [Nat.mul_comm, Nat.mul_add_div (by omega), Nat.div_eq_of_lt hk, Nat.add_zero]
  have e4 : (i * W + k) % W = k := by
    rw [Nat.mul_comm, Nat.mul_add_mod, Nat.mod_eq_of_lt hk]
  rw [e1, e2, e3, e4]
def rwF (W N : Nat) (xs : List (BitVec 64)) (i k j : Nat) : BitVec 64 := msk W (xs.getD (i * N + j) 0 <<< k)
theorem msk_fit {l : Int} {x : BitVec 64} (h : x &&& ~~~maskV l = 0) : msk l x = x := by
  unfold msk
  have : x = (x &&& maskV l) ||| (x &&& ~~~maskV l) := by
    rw [← BitVec.and_or_distrib_left, BitVec.or_not_self, BitVec.and_allOnes]
  rw [h] at this
  exact (this.trans BitVec.or_zero).symm
theorem fitL_at {l : Int} {xs : List (BitVec 64)} (h : fitL l xs = true) (i : Nat) : msk l (xs.getD i 0) = xs.getD i 0 := by
  by_cases hi : i < xs.length
  · exact msk_fit (of_decide_eq_true (all_get.1 h i hi))
  · rw [List.getD_eq_getElem?_getD, List.getElem?_eq_none (by omega)]
    exact BitVec.zero_and
theorem dbl_shl (x : BitVec 64) (k : Nat) : 2 * (x <<< k) = x <<< (k + 1) := by
  apply BitVec.eq_of_toNat_eq
  simp only [BitVec.toNat_mul, BitVec.toNat_shiftLeft, Nat.shiftLeft_eq, Nat.pow_succ]
  have : (2 : BitVec 64).toNat = 2 := rfl
  rw [this, Nat.mul_mod_mod]
  congr 1
  rw [Nat.mul_comm, Nat.mul_assoc]
theorem rwF_next {W N : Nat} {xs : List (BitVec 64)} {i k j : Nat} : msk W (2 * rwF W N xs i k j) = rwF W N xs i (k + 1) j := by
  unfold rwF
  rw [msk_mul, dbl_shl]
theorem rL_row0 {W N : Nat} {xs : List (BitVec 64)} {i : Nat} (hf : fitL (W : Int) xs = true) (h : i * N + N ≤ xs.length) : List.take N (List.drop (i * N) (xs.map AV.u64)) = rL (rwF W N xs i 0) N := by
  apply List.ext_getElem?
  intro j
  by_cases hj : j < N
  · have hlt : i * N + j < xs.length := by omega
    rw [List.getElem?_take_of_lt hj, List.getElem?_drop, List.getElem?_map]
    unfold rL
    rw [List.getElem?_map, List.getElem?_range hj, List.getElem?_eq_getElem hlt]
    simp only [Option.map_some]
    unfold rwF
    rw [BitVec.shiftLeft_zero, fitL_at hf, List.getD_eq_getElem?_getD, List.getElem?_eq_getElem hlt]
    rfl
  · rw [List.getElem?_take_eq_none (by omega), List.getElem?_eq_none (by rw [rL_len]; omega)]
/-- a list that grows by one element -/
def apU (N : Nat) (F : Nat → BitVec 64) (t : Nat) (out : AV) (L : Heap) : Prop :=
  (t = 0 ∧ out = .nils ∧ L = []) ∨ (0 < t ∧ out = .own (N + 1) t [] 0 t .leaf ∧ ∃ T J, L = T :: uB t t (rL F t) :: J)
/-- the list that came of it -/
def luL (F : Nat → BitVec 64) (t : Nat) : AV := if t = 0 then .nils else .ro .leaf (rL F t)
theorem luL_isL {F : Nat → BitVec 64} {t : Nat} : isL (luL F t) (((List.range t).map F).map .u64) := by
  unfold luL isL
  by_cases h : t = 0
  · rw [if_pos h, h]; exact .inr ⟨rfl, rfl⟩
  · rw [if_neg h, rL_map]; exact .inl rfl
end Go.Proofs.Ytjilenmngokhpaa
