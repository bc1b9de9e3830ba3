/-
  Any part of a stream of layer 7: as bytes, and as words; the reference's.
-/
import Derived.Test.YtebmlmkiblieiaaDc
import Derived.Test.YtebmlmkiblieiaaFf
import Derived.Test.YtebmlmkiblieiaaV38
open Go Go.V
namespace Go.Proofs.Ytebmlmkiblieiaa
/-- trefoil/prg.Bytes (0:seed, 1:lane, 2:from, 3:n, 4:seed, 8:, 9:, 10:skip, 11:s, 12:e, 28:, 45:) -/
def s45 : FnS := ⟨50, [0, 1, 2, 3, 4, 8, 9, 10, 11, 12, 28, 45],
    (.seq (.reg [⟨.var 4, (.e (.box 32 (.arr 32 .leaf))), [.t 0], none⟩,
      ⟨.var 5, (.q .mv), [.c (.str [])], none⟩,
      ⟨.var 6, (.q .mv), [.c (.int 0)], none⟩])
    (.seq (.seq (.reg [⟨.new, (.q .mv), [.t 2], none⟩,
      ⟨.new, (.q (.bin .lss)), [.t 12, .c (.int 0)], none⟩,
      ⟨.new, (.q .mv), [.t 13], none⟩,
      ⟨.new, (.q .mv), [.t 3], (some (14, false))⟩,
      ⟨.new, (.q (.bin .lss)), [.t 15, .c (.int 0)], (some (14, false))⟩,
      ⟨.new, (.q .pick), [.t 14, .c (.bool true), .t 16], none⟩,
      ⟨.new, (.q .mv), [.t 17], none⟩,
      ⟨.new, (.q .mv), [.t 3], (some (18, false))⟩,
      ⟨.new, (.q (.bin .gtr)), [.t 19, .c (.int 32768)], (some (18, false))⟩,
      ⟨.new, (.q .pick), [.t 18, .c (.bool true), .t 20], none⟩,
      ⟨.new, (.q .mv), [.t 21], none⟩,
      ⟨.new, (.q .mv), [.t 2], (some (22, false))⟩,
      ⟨.new, (.q .mv), [.t 3], (some (22, false))⟩,
      ⟨.new, (.q (.bin .sub)), [.c (.int 1073741824), .t 24], (some (22, false))⟩,
      ⟨.new, (.q (.bin .gtr)), [.t 23, .t 25], (some (22, false))⟩,
      ⟨.var 10, (.q .pick), [.t 22, .c (.bool true), .t 26], none⟩])
    (.cond (.t 10) (.seq (.reg [⟨.var 5, (.q .mv), [.c (.str [])], none⟩,
      ⟨.var 6, (.q .mv), [.c (.int 2)], none⟩])
    .ret)
    .skip))
    (.seq (.reg [⟨.new, (.q .mv), [.t 2], none⟩,
      ⟨.new, (.q (.bin .rem)), [.t 12, .c (.int 64)], none⟩,
      ⟨.var 7, (.q .mv), [.t 13], none⟩])
    (.seq (.draw [⟨.new, (.q (.ld (.arr 32 .leaf))), [.t 4], none⟩,
      ⟨.new, (.q .mv), [.t 1], none⟩,
      ⟨.new, (.call 57), [.t 13, .c (.u64 0)], none⟩,
      ⟨.new, (.q .mv), [.t 2], none⟩,
      ⟨.new, (.q (.bin .quo)), [.t 15, .c (.int 64)], none⟩,
      ⟨.new, (.q (.cv .u32)), [.t 16], none⟩,
      ⟨.new, (.q .mv), [.t 7], none⟩,
      ⟨.new, (.q .mv), [.t 3], none⟩,
      ⟨.new, (.q (.bin .add)), [.t 18, .t 19], none⟩,
      ⟨.new, (.call 72), [.t 12, .t 14, .t 17, .t 20], none⟩,
      ⟨.new, (.q .mv), [.t 21], none⟩,
      ⟨.new, (.q (.ext 0)), [.t 22], none⟩,
      ⟨.new, (.q (.ext 1)), [.t 22], none⟩,
      ⟨.var 8, (.q .mv), [.t 23], none⟩,
      ⟨.var 9, (.q .mv), [.t 24], none⟩])
    (.seq (.seq (.reg [⟨.new, (.q .mv), [.t 9], none⟩,
      ⟨.var 11, (.q (.bin .neq)), [.t 12, .c (.int 0)], none⟩])
    (.cond (.t 11) (.seq (.reg [⟨.new, (.q .mv), [.t 9], none⟩,
      ⟨.var 5, (.q .mv), [.c (.str [])], none⟩,
      ⟨.var 6, (.q .mv), [.t 12], none⟩])
    .ret)
    .skip))
    (.seq (.reg [⟨.new, (.q .mv), [.t 8], none⟩,
      ⟨.new, (.q .mv), [.t 7], none⟩,
      ⟨.new, (.q (.slS true false)), [.t 12, .t 13], none⟩,
      ⟨.var 5, (.q .mv), [.t 14], none⟩,
      ⟨.var 6, (.q .mv), [.c (.int 0)], none⟩])
    .ret)))))),
    [.t 5, .t 6]⟩

/-- trefoil/trefoilref07.Bytes (0:seed, 1:lane, 2:from, 3:n, 4:seed, 8:, 9:, 10:s, 11:i, 12:b, 29:, 38:) -/
def s52 : FnS := ⟨59, [0, 1, 2, 3, 4, 8, 9, 10, 11, 12, 29, 38],
    (.seq (.reg [⟨.var 4, (.e (.box 32 (.arr 32 .leaf))), [.t 0], none⟩,
      ⟨.var 5, (.q .mv), [.c (.str [])], none⟩,
      ⟨.var 6, (.q .mv), [.c (.int 0)], none⟩])
    (.seq (.seq (.reg [⟨.new, (.q .mv), [.t 2], none⟩,
      ⟨.new, (.q (.bin .lss)), [.t 12, .c (.int 0)], none⟩,
      ⟨.new, (.q .mv), [.t 13], none⟩,
      ⟨.new, (.q .mv), [.t 3], (some (14, false))⟩,
      ⟨.new, (.q (.bin .lss)), [.t 15, .c (.int 0)], (some (14, false))⟩,
      ⟨.new, (.q .pick), [.t 14, .c (.bool true), .t 16], none⟩,
      ⟨.new, (.q .mv), [.t 17], none⟩,
      ⟨.new, (.q .mv), [.t 3], (some (18, false))⟩,
      ⟨.new, (.q (.bin .gtr)), [.t 19, .c (.int 32768)], (some (18, false))⟩,
      ⟨.new, (.q .pick), [.t 18, .c (.bool true), .t 20], none⟩,
      ⟨.new, (.q .mv), [.t 21], none⟩,
      ⟨.new, (.q .mv), [.t 2], (some (22, false))⟩,
      ⟨.new, (.q .mv), [.t 3], (some (22, false))⟩,
      ⟨.new, (.q (.bin .sub)), [.c (.int 1073741824), .t 24], (some (22, false))⟩,
      ⟨.new, (.q (.bin .gtr)), [.t 23, .t 25], (some (22, false))⟩,
      ⟨.var 10, (.q .pick), [.t 22, .c (.bool true), .t 26], none⟩])
    (.cond (.t 10) (.seq (.reg [⟨.var 5, (.q .mv), [.c (.str [])], none⟩,
      ⟨.var 6, (.q .mv), [.c (.int 2)], none⟩])
    .ret)
    .skip))
    (.seq (.reg [⟨.var 7, (.q .mv), [.c (.str [])], none⟩])
    (.seq (.seq (.reg [⟨.new, (.q .mv), [.t 2], none⟩,
      ⟨.new, (.q (.bin .quo)), [.t 12, .c (.int 64)], none⟩,
      ⟨.var 8, (.q .mv), [.t 13], none⟩])
    (.block 0 (.loop (.seq (.seq (.reg [⟨.new, (.q .mv), [.t 7], none⟩,
      ⟨.new, (.q .lenS), [.t 12], none⟩,
      ⟨.new, (.q .mv), [.t 2], none⟩,
      ⟨.new, (.q (.bin .rem)), [.t 14, .c (.int 64)], none⟩,
      ⟨.new, (.q .mv), [.t 3], none⟩,
      ⟨.new, (.q (.bin .add)), [.t 15, .t 16], none⟩,
      ⟨.var 11, (.q (.bin .lss)), [.t 13, .t 17], none⟩])
    (.cond (.t 11) .skip
    (.exit 0)))
    (.seq (.block 1 (.seq (.draw [⟨.new, (.q (.ld (.arr 32 .leaf))), [.t 4], none⟩,
      ⟨.new, (.q .mv), [.t 1], none⟩,
      ⟨.new, (.call 59), [.t 13, .c (.u64 0)], none⟩,
      ⟨.new, (.q .mv), [.t 8], none⟩,
      ⟨.new, (.q (.cv .u32)), [.t 15], none⟩,
      ⟨.new, (.call 58), [.t 12, .t 14, .t 16], none⟩,
      ⟨.new, (.q .mv), [.t 17], none⟩,
      ⟨.new, (.q (.ext 0)), [.t 18], none⟩,
      ⟨.new, (.q (.ext 1)), [.t 18], none⟩,
      ⟨.var 9, (.q .mv), [.t 19], none⟩,
      ⟨.new, (.q .mv), [.t 20], none⟩])
    (.reg [⟨.new, (.q .mv), [.t 7], none⟩,
      ⟨.new, (.q .mv), [.t 9], none⟩,
      ⟨.new, (.q (.bin .add)), [.t 12, .t 13], none⟩,
      ⟨.var 7, (.q .mv), [.t 14], none⟩])))
    (.reg [⟨.new, (.q .mv), [.t 8], none⟩,
      ⟨.new, (.q (.bin .add)), [.t 12, .c (.int 1)], none⟩,
      ⟨.var 8, (.q .mv), [.t 13], none⟩]))))))
    (.seq (.reg [⟨.new, (.q .mv), [.t 7], none⟩,
      ⟨.new, (.q .mv), [.t 2], none⟩,
      ⟨.new, (.q (.bin .rem)), [.t 13, .c (.int 64)], none⟩,
      ⟨.new, (.q (.slS true false)), [.t 12, .t 14], none⟩,
      ⟨.new, (.q .mv), [.t 3], none⟩,
      ⟨.new, (.q (.slS false true)), [.t 15, .t 16], none⟩,
      ⟨.var 5, (.q .mv), [.t 17], none⟩,
      ⟨.var 6, (.q .mv), [.c (.int 0)], none⟩])
    .ret))))),
    [.t 5, .t 6]⟩

/-- trefoil/prg.Words (0:seed, 1:lane, 2:from, 3:n, 4:seed, 8:, 9:, 10:s, 11:e, 12:out, 13:i, 14:k, 28:, 40:, 45:, 46:, 47:, 49:, 50:) -/
def s53 : FnS := ⟨72, [0, 1, 2, 3, 4, 8, 9, 10, 11, 12, 13, 14, 28, 40, 45, 46, 47, 49, 50],
    (.seq (.reg [⟨.var 4, (.e (.box 32 (.arr 32 .leaf))), [.t 0], none⟩,
      ⟨.var 5, (.q .mv), [.c .nils], none⟩,
      ⟨.var 6, (.q .mv), [.c (.int 0)], none⟩])
    (.seq (.seq (.reg [⟨.new, (.q .mv), [.t 2], none⟩,
      ⟨.new, (.q (.bin .lss)), [.t 19, .c (.int 0)], none⟩,
      ⟨.new, (.q .mv), [.t 20], none⟩,
      ⟨.new, (.q .mv), [.t 3], (some (21, false))⟩,
      ⟨.new, (.q (.bin .lss)), [.t 22, .c (.int 0)], (some (21, false))⟩,
      ⟨.new, (.q .pick), [.t 21, .c (.bool true), .t 23], none⟩,
      ⟨.new, (.q .mv), [.t 24], none⟩,
      ⟨.new, (.q .mv), [.t 2], (some (25, false))⟩,
      ⟨.new, (.q (.bin .gtr)), [.t 26, .c (.int 134217728)], (some (25, false))⟩,
      ⟨.new, (.q .pick), [.t 25, .c (.bool true), .t 27], none⟩,
      ⟨.new, (.q .mv), [.t 28], none⟩,
      ⟨.new, (.q .mv), [.t 3], (some (29, false))⟩,
      ⟨.new, (.q (.bin .gtr)), [.t 30, .c (.int 4096)], (some (29, false))⟩,
      ⟨.var 12, (.q .pick), [.t 29, .c (.bool true), .t 31], none⟩])
    (.cond (.t 12) (.seq (.reg [⟨.var 5, (.q .mv), [.c .nils], none⟩,
      ⟨.var 6, (.q .mv), [.c (.int 2)], none⟩])
    .ret)
    .skip))
    (.seq (.reg [⟨.new, (.q (.ld (.arr 32 .leaf))), [.t 4], none⟩,
      ⟨.new, (.q .mv), [.t 1], none⟩,
      ⟨.new, (.q .mv), [.t 2], none⟩,
      ⟨.new, (.q (.bin .mul)), [.c (.int 8), .t 21], none⟩,
      ⟨.new, (.q .mv), [.t 3], none⟩,
      ⟨.new, (.q (.bin .mul)), [.c (.int 8), .t 23], none⟩,
      ⟨.new, (.call 45), [.t 19, .t 20, .t 22, .t 24], none⟩,
      ⟨.new, (.q .mv), [.t 25], none⟩,
      ⟨.new, (.q (.ext 0)), [.t 26], none⟩,
      ⟨.new, (.q (.ext 1)), [.t 26], none⟩,
      ⟨.var 7, (.q .mv), [.t 27], none⟩,
      ⟨.var 8, (.q .mv), [.t 28], none⟩])
    (.seq (.seq (.reg [⟨.new, (.q .mv), [.t 8], none⟩,
      ⟨.var 13, (.q (.bin .neq)), [.t 19, .c (.int 0)], none⟩])
    (.cond (.t 13) (.seq (.reg [⟨.new, (.q .mv), [.t 8], none⟩,
      ⟨.var 5, (.q .mv), [.c .nils], none⟩,
      ⟨.var 6, (.q .mv), [.t 19], none⟩])
    .ret)
    .skip))
    (.seq (.reg [⟨.new, (.q .mv), [.t 3], none⟩,
      ⟨.new, (.e (.mksl 22 .leaf 8 (.u64 0))), [.t 19, .t 19], none⟩,
      ⟨.var 9, (.q .mv), [.t 20], none⟩])
    (.seq (.seq (.reg [⟨.new, (.q .mv), [.t 9], none⟩,
      ⟨.var 14, (.q .len), [.t 19], none⟩,
      ⟨.var 15, (.q .mv), [.c (.int 0)], none⟩])
    (.block 0 (.loop (.seq (.reg [⟨.var 16, (.q (.bin .lss)), [.t 15, .t 14], none⟩])
    (.seq (.cond (.t 16) .skip
    (.exit 0))
    (.seq (.block 1 (.seq (.reg [⟨.new, (.q .mv), [.t 15], none⟩,
      ⟨.var 10, (.q .mv), [.t 19], none⟩])
    (.seq (.reg [⟨.var 17, (.q .mv), [.c (.int 0)], none⟩])
    (.block 2 (.loop (.seq (.reg [⟨.var 18, (.q (.bin .lss)), [.t 17, .c (.int 8)], none⟩])
    (.seq (.cond (.t 18) .skip
    (.exit 2))
    (.seq (.block 3 (.seq (.reg [⟨.new, (.q .mv), [.t 17], none⟩,
      ⟨.var 11, (.q .mv), [.t 19], none⟩])
    (.draw [⟨.new, (.q .mv), [.t 9], none⟩,
      ⟨.new, (.q .mv), [.t 10], none⟩,
      ⟨.new, (.q (.iaS .leaf)), [.t 19, .t 20], none⟩,
      ⟨.new, (.q (.ld .leaf)), [.t 21], none⟩,
      ⟨.new, (.q .mv), [.t 7], none⟩,
      ⟨.new, (.q .mv), [.t 10], none⟩,
      ⟨.new, (.q (.bin .mul)), [.c (.int 8), .t 24], none⟩,
      ⟨.new, (.q .mv), [.t 11], none⟩,
      ⟨.new, (.q (.bin .add)), [.t 25, .t 26], none⟩,
      ⟨.new, (.q .idxS), [.t 23, .t 27], none⟩,
      ⟨.new, (.q (.cv .u64)), [.t 28], none⟩,
      ⟨.new, (.q .mv), [.t 11], none⟩,
      ⟨.new, (.q (.bin .mul)), [.c (.int 8), .t 30], none⟩,
      ⟨.new, (.q (.cv .u64)), [.t 31], none⟩,
      ⟨.new, (.q (.bin .shl)), [.t 29, .t 32], none⟩,
      ⟨.new, (.q (.bin .or)), [.t 22, .t 33], none⟩,
      ⟨.new, (.q (.iaS .leaf)), [.t 19, .t 20], none⟩,
      ⟨.none, (.e (.store .leaf)), [.t 35, .t 34], none⟩])))
    (.reg [⟨.new, (.q (.bin .add)), [.t 17, .c (.int 1)], none⟩,
      ⟨.var 17, (.q .mv), [.t 19], none⟩])))))))))
    (.reg [⟨.new, (.q (.bin .add)), [.t 15, .c (.int 1)], none⟩,
      ⟨.var 15, (.q .mv), [.t 19], none⟩])))))))
    (.seq (.reg [⟨.new, (.q .mv), [.t 9], none⟩,
      ⟨.var 5, (.q .mv), [.t 19], none⟩,
      ⟨.var 6, (.q .mv), [.c (.int 0)], none⟩])
    .ret))))))),
    [.t 5, .t 6]⟩

/-- trefoil/trefoilref07.Words (0:seed, 1:lane, 2:from, 3:n, 4:seed, 8:, 9:, 10:s, 11:e, 12:out, 13:i, 14:w, 15:k, 29:, 41:, 45:, 49:) -/
def s34 : FnS := ⟨67, [0, 1, 2, 3, 4, 8, 9, 10, 11, 12, 13, 14, 15, 29, 41, 45, 49],
    (.seq (.reg [⟨.var 4, (.e (.box 32 (.arr 32 .leaf))), [.t 0], none⟩,
      ⟨.var 5, (.q .mv), [.c .nils], none⟩,
      ⟨.var 6, (.q .mv), [.c (.int 0)], none⟩])
    (.seq (.seq (.reg [⟨.new, (.q .mv), [.t 2], none⟩,
      ⟨.new, (.q (.bin .lss)), [.t 17, .c (.int 0)], none⟩,
      ⟨.new, (.q .mv), [.t 18], none⟩,
      ⟨.new, (.q .mv), [.t 3], (some (19, false))⟩,
      ⟨.new, (.q (.bin .lss)), [.t 20, .c (.int 0)], (some (19, false))⟩,
      ⟨.new, (.q .pick), [.t 19, .c (.bool true), .t 21], none⟩,
      ⟨.new, (.q .mv), [.t 22], none⟩,
      ⟨.new, (.q .mv), [.t 3], (some (23, false))⟩,
      ⟨.new, (.q (.bin .gtr)), [.t 24, .c (.int 4096)], (some (23, false))⟩,
      ⟨.new, (.q .pick), [.t 23, .c (.bool true), .t 25], none⟩,
      ⟨.new, (.q .mv), [.t 26], none⟩,
      ⟨.new, (.q .mv), [.t 2], (some (27, false))⟩,
      ⟨.new, (.q (.bin .gtr)), [.t 28, .c (.int 134217728)], (some (27, false))⟩,
      ⟨.var 13, (.q .pick), [.t 27, .c (.bool true), .t 29], none⟩])
    (.cond (.t 13) (.seq (.reg [⟨.var 5, (.q .mv), [.c .nils], none⟩,
      ⟨.var 6, (.q .mv), [.c (.int 2)], none⟩])
    .ret)
    .skip))
    (.seq (.reg [⟨.new, (.q (.ld (.arr 32 .leaf))), [.t 4], none⟩,
      ⟨.new, (.q .mv), [.t 1], none⟩,
      ⟨.new, (.q .mv), [.t 2], none⟩,
      ⟨.new, (.q (.bin .mul)), [.c (.int 8), .t 19], none⟩,
      ⟨.new, (.q .mv), [.t 3], none⟩,
      ⟨.new, (.q (.bin .mul)), [.c (.int 8), .t 21], none⟩,
      ⟨.new, (.call 52), [.t 17, .t 18, .t 20, .t 22], none⟩,
      ⟨.new, (.q .mv), [.t 23], none⟩,
      ⟨.new, (.q (.ext 0)), [.t 24], none⟩,
      ⟨.new, (.q (.ext 1)), [.t 24], none⟩,
      ⟨.var 7, (.q .mv), [.t 25], none⟩,
      ⟨.var 8, (.q .mv), [.t 26], none⟩])
    (.seq (.seq (.reg [⟨.new, (.q .mv), [.t 8], none⟩,
      ⟨.var 14, (.q (.bin .neq)), [.t 17, .c (.int 0)], none⟩])
    (.cond (.t 14) (.seq (.reg [⟨.new, (.q .mv), [.t 8], none⟩,
      ⟨.var 5, (.q .mv), [.c .nils], none⟩,
      ⟨.var 6, (.q .mv), [.t 17], none⟩])
    .ret)
    .skip))
    (.seq (.reg [⟨.var 9, (.q .mv), [.c .nils], none⟩])
    (.seq (.seq (.reg [⟨.var 10, (.q .mv), [.c (.int 0)], none⟩])
    (.block 0 (.loop (.seq (.seq (.reg [⟨.new, (.q .mv), [.t 10], none⟩,
      ⟨.new, (.q .mv), [.t 3], none⟩,
      ⟨.var 15, (.q (.bin .lss)), [.t 17, .t 18], none⟩])
    (.cond (.t 15) .skip
    (.exit 0)))
    (.seq (.block 1 (.seq (.reg [⟨.var 11, (.q .mv), [.c (.u64 0)], none⟩])
    (.seq (.seq (.reg [⟨.var 12, (.q .mv), [.c (.int 7)], none⟩])
    (.block 2 (.loop (.seq (.seq (.reg [⟨.new, (.q .mv), [.t 12], none⟩,
      ⟨.var 16, (.q (.bin .geq)), [.t 17, .c (.int 0)], none⟩])
    (.cond (.t 16) .skip
    (.exit 2)))
    (.seq (.block 3 (.reg [⟨.new, (.q .mv), [.t 11], none⟩,
      ⟨.new, (.q (.bin .mul)), [.c (.u64 256), .t 17], none⟩,
      ⟨.new, (.q .mv), [.t 7], none⟩,
      ⟨.new, (.q .mv), [.t 10], none⟩,
      ⟨.new, (.q (.bin .mul)), [.c (.int 8), .t 20], none⟩,
      ⟨.new, (.q .mv), [.t 12], none⟩,
      ⟨.new, (.q (.bin .add)), [.t 21, .t 22], none⟩,
      ⟨.new, (.q .idxS), [.t 19, .t 23], none⟩,
      ⟨.new, (.q (.cv .u64)), [.t 24], none⟩,
      ⟨.new, (.q (.bin .add)), [.t 18, .t 25], none⟩,
      ⟨.var 11, (.q .mv), [.t 26], none⟩]))
    (.reg [⟨.new, (.q .mv), [.t 12], none⟩,
      ⟨.new, (.q (.bin .sub)), [.t 17, .c (.int 1)], none⟩,
      ⟨.var 12, (.q .mv), [.t 18], none⟩]))))))
    (.reg [⟨.new, (.q .mv), [.t 9], none⟩,
      ⟨.new, (.q .mv), [.t 11], none⟩,
      ⟨.new, (.e (.bsl 22 .leaf (.u64 0) 1 [0])), [.t 18], none⟩,
      ⟨.new, (.e (.app 22 .leaf 8)), [.t 17, .t 19], none⟩,
      ⟨.var 9, (.q .mv), [.t 20], none⟩]))))
    (.reg [⟨.new, (.q .mv), [.t 10], none⟩,
      ⟨.new, (.q (.bin .add)), [.t 17, .c (.int 1)], none⟩,
      ⟨.var 10, (.q .mv), [.t 18], none⟩]))))))
    (.seq (.reg [⟨.new, (.q .mv), [.t 9], none⟩,
      ⟨.var 5, (.q .mv), [.t 17], none⟩,
      ⟨.var 6, (.q .mv), [.c (.int 0)], none⟩])
    .ret))))))),
    [.t 5, .t 6]⟩

set_option maxRecDepth 100000
set_option linter.unusedSimpArgs false
set_option linter.unusedVariables false
theorem c45 : cF P [] (drP P []) 45 4 s45.vm = some s45 := by kernel_rfl
theorem c52 : cF P [] (drP P []) 52 4 s52.vm = some s52 := by kernel_rfl
theorem c53 : cF P [] (drP P []) 53 4 s53.vm = some s53 := by kernel_rfl
theorem c34 : cF P [] (drP P []) 34 4 s34.vm = some s34 := by kernel_rfl
/-! bytes -/
/-- a byte of a stream -/
def gB (ks : List (BitVec 8)) (lane : BitVec 32) (k : Nat) : BitVec 8 := (blk ks (nonceV lane 0) (BitVec.ofNat 32 (k / 64))).getD (k % 64) 0
/-- a part of a stream -/
def part (ks : List (BitVec 8)) (lane : BitVec 32) (a n : Nat) : List (BitVec 8) := (List.range n).map fun j => gB ks lane (a + j)
theorem part_len {ks : List (BitVec 8)} {lane : BitVec 32} {a n : Nat} : (part ks lane a n).length = n := by simp [part]
theorem part_get {ks : List (BitVec 8)} {lane : BitVec 32} {a n k : Nat} (h : k < n) : (part ks lane a n)[k]? = some (gB ks lane (a + k)) := by simp [part, h]

theorem sb_get {ks ns : List (BitVec 8)} {c : BitVec 32} : ∀ {m k : Nat}, k < 64 * m → (sb ks ns c m)[k]? = some ((blk ks ns (c + BitVec.ofNat 32 (k / 64))).getD (k % 64) 0)
  | 0, k, h => by omega
  | m + 1, k, h => by
    rw [sb]
    rcases Nat.lt_or_ge k (64 * m) with h1 | h1
    · rw [List.getElem?_append_left (by rw [sb_length]; exact h1)]
      exact sb_get h1
    · rw [List.getElem?_append_right (by rw [sb_length]; exact h1), sb_length]
      have e1 : k / 64 = m := by omega
      have e2 : k - 64 * m = k % 64 := by omega
      rw [e1, e2]
      have hl := blk_length ks ns (c + BitVec.ofNat 32 m)
      rw [List.getD_eq_getElem?_getD, List.getElem?_eq_getElem (by rw [hl]; omega)]
      rfl
theorem ofNat_add32 (a b : Nat) : BitVec.ofNat 32 a + BitVec.ofNat 32 b = BitVec.ofNat 32 (a + b) := (BitVec.ofNat_add a b).symm
theorem sb_part {ks : List (BitVec 8)} {lane : BitVec 32} {a n m : Nat} (h : a % 64 + n ≤ 64 * m) : ((sb ks (nonceV lane 0) (BitVec.ofNat 32 (a / 64)) m).drop (a % 64)).take n = part ks lane a n := by
  apply List.ext_getElem?
  intro j
  rcases Nat.lt_or_ge j n with hj | hj
  · rw [List.getElem?_take_of_lt hj, List.getElem?_drop, sb_get (by omega), part_get hj, ofNat_add32]
    unfold gB
    rw [show a / 64 + (a % 64 + j) / 64 = (a + j) / 64 by omega, show (a % 64 + j) % 64 = (a + j) % 64 by omega]
  · rw [List.getElem?_eq_none (by simp; omega), List.getElem?_eq_none (by rw [part_len]; exact hj)]
theorem stm_part {ks : List (BitVec 8)} {lane : BitVec 32} {a n : Nat} : (stm ks (nonceV lane 0) (BitVec.ofNat 32 (a / 64)) (a % 64 + n)).drop (a % 64) = part ks lane a n := by
  unfold stm
  rw [List.drop_take, show a % 64 + n - a % 64 = n by omega]
  exact sb_part (by unfold nblk; omega)
theorem strV_ok {ks ns : List (BitVec 8)} {c : BitVec 32} {m : Nat} (hn : ns.length = 12) (hm : m ≤ 65536) (hc : c.toNat + nblk m ≤ 4294967296) : strV ks ns c (m : Int) = .tup [.str (stm ks ns c m), .int 0] := by
  unfold strV
  rw [if_pos hn, if_pos (by omega)]
  simp only [Int.toNat_natCast]
  rw [if_pos hc]

theorem f45e {K : AV → Heap → Prop} {H : Heap} {ks : List (BitVec 8)} {lane : BitVec 32} {a n : Int} (hk : ks.length = 32) (hb : a < 0 ∨ n < 0 ∨ 32768 < n ∨ 1073741824 - n < a) (h : K (.tup [.str [], .int 2]) H) : wpF P [] 45 [.agg (ks.map .u8), .u32 lane, .int a, .int n] H K := by
  refine wpF_go c45 rfl 3 ?_
  intro ha hb'
  simp only [s45]
  by_cases h0 : a < 0
  · (refine gw2 @hk @h0 ?_; try exact True.intro)
    exact h
  by_cases h1 : n < 0
  · (refine gw3 @hk @h0 @h1 ?_; try exact True.intro)
    exact h
  by_cases h2 : 32768 < n
  · (refine gw4 @hk @h0 @h1 @h2 ?_; try exact True.intro)
    exact h
  have h3 : 1073741824 - n < a := by omega
  (refine gw5 @hk @h0 @h1 @h2 @h3 ?_; try exact True.intro)
  exact ⟨by omega, by omega, h⟩

theorem f45g {K : AV → Heap → Prop} {H : Heap} {ks : List (BitVec 8)} {lane : BitVec 32} {a n : Nat} (hk : ks.length = 32) (hn : n ≤ 32768) (han : a + n ≤ 1073741824) (h : K (.tup [.str (part ks lane a n), .int 0]) H) : wpF P [] 45 [.agg (ks.map .u8), .u32 lane, .int (a : Int), .int (n : Int)] H K := by
  refine wpF_go c45 rfl 3 ?_
  intro ha hb
  simp only [s45]
  have h0 : ((a : Int) < 0) = False := by simp
  have h01 : ((n : Int) < 0) = False := by simp
  have h02 : ((32768 : Int) < (n : Int)) = False := by simp; omega
  have h1 : (1073741824 - (n : Int) < (a : Int)) = False := by simp; omega
  have h2 : Int.tmod (a : Int) 64 = ((a % 64 : Nat) : Int) := (Int.ofNat_tmod a 64).symm
  have h3 : Int.tdiv (a : Int) 64 = ((a / 64 : Nat) : Int) := (Int.ofNat_tdiv a 64).symm
  have h4 : BitVec.ofInt 32 ((a / 64 : Nat) : Int) = BitVec.ofNat 32 (a / 64) := by
    apply BitVec.eq_of_toNat_eq
    rw [BitVec.toNat_ofInt, BitVec.toNat_ofNat]
    omega
  have h5 : ((a % 64 : Nat) : Int) + (n : Int) = ((a % 64 + n : Nat) : Int) := by omega
  have b1 : (-9223372036854775808 : Int) ≤ 1073741824 - (n : Int) := by omega
  have b2 : 1073741824 - (n : Int) ≤ 9223372036854775807 := by omega
  (refine gw8 @hk @h0 @h01 @h02 @h1 @h2 @b1 @b2 ?_; try exact True.intro)
  refine ⟨by omega, by omega, ?_⟩
  refine drawn _ (f57 ⟨rfl, rfl⟩) ?_
  (refine gw3 @h3 @h4 @h5 ?_; try exact True.intro)
  have hcn : (BitVec.ofNat 32 (a / 64)).toNat ≤ 16777216 := by rw [BitVec.toNat_ofNat]; omega
  have hs : strV ks (nonceV lane 0) (BitVec.ofNat 32 (a / 64)) ((a % 64 + n : Nat) : Int) = .tup [.str (stm ks (nonceV lane 0) (BitVec.ofNat 32 (a / 64)) (a % 64 + n)), .int 0] := strV_ok (nonce_len _ _) (by omega) (by unfold nblk; omega)
  refine ⟨by omega, by omega, by omega, by omega, ?_⟩
  refine drawn _ (f72 hk (by rw [hs]; exact ⟨rfl, rfl⟩)) ?_
  have hl := stm_length ks (nonceV lane 0) (BitVec.ofNat 32 (a / 64)) (a % 64 + n)
  have ht : List.take (a % 64 + n - a % 64) ((stm ks (nonceV lane 0) (BitVec.ofNat 32 (a / 64)) (a % 64 + n)).drop (a % 64)) = part ks lane a n := by
    rw [List.take_of_length_le (by rw [List.length_drop, hl]; omega)]; exact stm_part
  (refine gw2 @hl @ht ?_; try exact True.intro)
  exact ⟨by omega, by omega, h⟩

/-! the reference's -/
theorem f52e {K : AV → Heap → Prop} {H : Heap} {ks : List (BitVec 8)} {lane : BitVec 32} {a n : Int} (hk : ks.length = 32) (hb : a < 0 ∨ n < 0 ∨ 32768 < n ∨ 1073741824 - n < a) (h : K (.tup [.str [], .int 2]) H) : wpF P [] 52 [.agg (ks.map .u8), .u32 lane, .int a, .int n] H K := by
  refine wpF_go c52 rfl 3 ?_
  intro ha hb'
  simp only [s52]
  by_cases h0 : a < 0
  · (refine gw2 @hk @h0 ?_; try exact True.intro)
    exact h
  by_cases h1 : n < 0
  · (refine gw3 @hk @h0 @h1 ?_; try exact True.intro)
    exact h
  by_cases h2 : 32768 < n
  · (refine gw4 @hk @h0 @h1 @h2 ?_; try exact True.intro)
    exact h
  have h3 : 1073741824 - n < a := by omega
  (refine gw5 @hk @h0 @h1 @h2 @h3 ?_; try exact True.intro)
  exact ⟨by omega, by omega, h⟩

theorem sb_succ (ks ns : List (BitVec 8)) (c : BitVec 32) (m : Nat) : sb ks ns c (m + 1) = sb ks ns c m ++ blk ks ns (c + BitVec.ofNat 32 m) := rfl
theorem sb_zero (ks ns : List (BitVec 8)) (c : BitVec 32) : sb ks ns c 0 = [] := rfl
def I52 (ks : List (BitVec 8)) (lane : BitVec 32) (a n : Nat) (H : Heap) (k : Nat) (st : St) : Prop :=
  ∃ (i : Nat) (S : List (BitVec 8)) (u1 u2 : AV), st = ⟨[.agg (ks.map .u8), .u32 lane, .int (a : Int), .int (n : Int), .ptr H.length 0 [0] (.arr 32 .leaf), .str [], .int 0, .str S, .int ((a / 64 + i : Nat) : Int), u1, .bool false, u2], H ++ [kbx ks]⟩ ∧
    S = sb ks (nonceV lane 0) (BitVec.ofNat 32 (a / 64)) i ∧ k = nblk (a % 64 + n) - i ∧ i ≤ nblk (a % 64 + n)

theorem f52g {K : AV → Heap → Prop} {H : Heap} {ks : List (BitVec 8)} {lane : BitVec 32} {a n : Nat} (hk : ks.length = 32) (hn : n ≤ 32768) (han : a + n ≤ 1073741824) (h : K (.tup [.str (part ks lane a n), .int 0]) H) : wpF P [] 52 [.agg (ks.map .u8), .u32 lane, .int (a : Int), .int (n : Int)] H K := by
  refine wpF_go c52 rfl 3 ?_
  intro ha hb
  simp only [s52]
  have h0 : ((a : Int) < 0) = False := by simp
  have h01 : ((n : Int) < 0) = False := by simp
  have h02 : ((32768 : Int) < (n : Int)) = False := by simp; omega
  have h1 : (1073741824 - (n : Int) < (a : Int)) = False := by simp; omega
  have h2 : Int.tmod (a : Int) 64 = ((a % 64 : Nat) : Int) := (Int.ofNat_tmod a 64).symm
  have h3 : Int.tdiv (a : Int) 64 = ((a / 64 : Nat) : Int) := (Int.ofNat_tdiv a 64).symm
  have b1 : (-9223372036854775808 : Int) ≤ 1073741824 - (n : Int) := by omega
  have b2 : 1073741824 - (n : Int) ≤ 9223372036854775807 := by omega
  (refine gw8 @hk @h0 @h01 @h02 @h1 @h3 @b1 @b2 ?_; try exact True.intro)
  refine ⟨by omega, by omega, ?_⟩
  refine wp_inv (I52 ks lane a n H) (nblk (a % 64 + n)) ⟨0, [], _, _, rfl, rfl, by omega, by omega⟩ ?_
  rintro k st ⟨i, S, u1, u2, rfl, hS, rfl, hi⟩
  unfold kbx
  have hSl : S.length = 64 * i := by rw [hS, sb_length]
  have b3 : (-9223372036854775808 : Int) ≤ ((a % 64 : Nat) : Int) := by omega
  have b4 : ((a % 64 : Nat) : Int) ≤ 9223372036854775807 := by omega
  have h5 : ((a % 64 : Nat) : Int) + (n : Int) = ((a % 64 + n : Nat) : Int) := by omega
  have b5 : (-9223372036854775808 : Int) ≤ ((a % 64 + n : Nat) : Int) := by omega
  have b6 : ((a % 64 + n : Nat) : Int) ≤ 9223372036854775807 := by omega
  by_cases hlt : 64 * i < a % 64 + n
  · have hS1 : ((S.length : Int) < ((a % 64 + n : Nat) : Int)) = True := by rw [hSl]; simp; omega
    have hi2 : i < nblk (a % 64 + n) := by unfold nblk; omega
    (refine gw7 @h2 @h5 @hS1 @b3 @b4 @b5 @b6 ?_; try exact True.intro)
    refine drawn _ (f59 ⟨rfl, rfl⟩) ?_
    have h4 : BitVec.ofInt 32 ((a / 64 + i : Nat) : Int) = BitVec.ofNat 32 (a / 64 + i) := by
      apply BitVec.eq_of_toNat_eq
      rw [BitVec.toNat_ofInt, BitVec.toNat_ofNat]
      unfold nblk at hi
      omega
    (refine gw1 @h4 ?_; try exact True.intro)
    refine drawn _ (f58 hk (by rw [if_pos (nonce_len _ _)]; exact ⟨rfl, rfl⟩)) ?_
    have hbl : (blk ks (nonceV lane 0) (BitVec.ofNat 32 (a / 64 + i))).length = 64 := blk_length _ _ _
    have hS' : S ++ blk ks (nonceV lane 0) (BitVec.ofNat 32 (a / 64 + i)) = sb ks (nonceV lane 0) (BitVec.ofNat 32 (a / 64)) (i + 1) := by rw [sb_succ, ofNat_add32, hS]
    generalize blk ks (nonceV lane 0) (BitVec.ofNat 32 (a / 64 + i)) = B at hbl hS' ⊢
    (refine gw1 @hbl ?_; try exact True.intro)
    have he : ((a / 64 + i : Nat) : Int) + 1 = ((a / 64 + (i + 1) : Nat) : Int) := by omega
    have hnb : nblk (a % 64 + n) ≤ 600 := by unfold nblk; omega
    refine ⟨by omega, by omega, by omega, nblk (a % 64 + n) - (i + 1), by omega, i + 1, S ++ B, _, _, by rw [he]; rfl, hS', rfl, by omega⟩
  · have hS1 : ((S.length : Int) < ((a % 64 + n : Nat) : Int)) = False := by rw [hSl]; simp; omega
    have hp : List.take n (S.drop (a % 64)) = part ks lane a n := by rw [hS]; exact sb_part (by omega)
    have hl : (S.drop (a % 64)).length = 64 * i - a % 64 := by rw [List.length_drop, hSl]
    (refine gw7 @h2 @h5 @hS1 @b3 @b4 @b5 @b6 ?_; try exact True.intro)
    have ht : List.take (S.length - a % 64) (S.drop (a % 64)) = S.drop (a % 64) := List.take_of_length_le (by rw [hl, hSl]; omega)
    rw [ht, hp, hl]
    exact ⟨by omega, by omega, by omega, h⟩

/-! words -/
/-- a word of eight bytes, as the code makes it -/
def leW (l : List (BitVec 8)) : BitVec 64 := (0 : BitVec 64) ||| (l.getD 0 0).setWidth 64 <<< 0 ||| (l.getD 1 0).setWidth 64 <<< 8 ||| (l.getD 2 0).setWidth 64 <<< 16 ||| (l.getD 3 0).setWidth 64 <<< 24 ||| (l.getD 4 0).setWidth 64 <<< 32 ||| (l.getD 5 0).setWidth 64 <<< 40 ||| (l.getD 6 0).setWidth 64 <<< 48 ||| (l.getD 7 0).setWidth 64 <<< 56
/-- a word of a stream -/
def wdg (ks : List (BitVec 8)) (lane : BitVec 32) (j : Nat) : BitVec 64 := leW (part ks lane (8 * j) 8)

theorem part_el {ks : List (BitVec 8)} {lane : BitVec 32} {a n i k : Nat} {x : Int} (hk : k < 8) (hi : i < n) (hx : x = 8 * (i : Int) + (k : Int)) : (part ks lane (8 * a) (8 * n)).getD x.toNat 0 = (part ks lane (8 * (a + i)) 8).getD k 0 := by
  have e : x.toNat = 8 * i + k := by omega
  rw [e, List.getD_eq_getElem?_getD, List.getD_eq_getElem?_getD, part_get (by omega), part_get hk, show 8 * a + (8 * i + k) = 8 * (a + i) + k by omega]

theorem f53e {K : AV → Heap → Prop} {H : Heap} {ks : List (BitVec 8)} {lane : BitVec 32} {a n : Int} (hk : ks.length = 32) (hb : a < 0 ∨ n < 0 ∨ 4096 < n ∨ 134217728 - n < a) (h : K (.tup [.nils, .int 2]) H) : wpF P [] 53 [.agg (ks.map .u8), .u32 lane, .int a, .int n] H K := by
  refine wpF_go c53 rfl 4 ?_
  intro ha hb'
  simp only [s53]
  by_cases h0 : a < 0
  · (refine gw2 @hk @h0 ?_; try exact True.intro)
    exact h
  by_cases h1 : n < 0
  · (refine gw3 @hk @h0 @h1 ?_; try exact True.intro)
    exact h
  by_cases h2 : 134217728 < a
  · (refine gw4 @hk @h0 @h1 @h2 ?_; try exact True.intro)
    exact h
  by_cases h3 : 4096 < n
  · (refine gw5 @hk @h0 @h1 @h2 @h3 ?_; try exact True.intro)
    exact h
  (refine gw5 @hk @h0 @h1 @h2 @h3 ?_; try exact True.intro)
  (repeat (refine And.intro (by omega) ?_))
  refine f45e hk (by omega) ?_
  (refine gw0 ?_; try exact True.intro)
  exact h

def I53 (ks : List (BitVec 8)) (lane : BitVec 32) (a n : Nat) (H : Heap) (k : Nat) (st : St) : Prop :=
  ∃ (i : Nat) (u1 u2 u3 u4 u5 : AV), st = ⟨[.agg (ks.map .u8), .u32 lane, .int (a : Int), .int (n : Int), .ptr H.length 0 [0] (.arr 32 .leaf), .nils, .int 0, .str (part ks lane (8 * a) (8 * n)), .int 0, .own (H.length + 1) 0 [] 0 n .leaf, u1, u2, .bool false, .bool false, .int (n : Int), .int (i : Int), u3, u4, u5],
    H ++ [kbx ks, some ⟨22, 0, true, .arr n .leaf, .agg (fillL (fun i => .u64 (wdg ks lane (a + i))) (.u64 0) n i)⟩]⟩ ∧ k = n - i ∧ i ≤ n

theorem f53g {K : AV → Heap → Prop} {H : Heap} {ks : List (BitVec 8)} {lane : BitVec 32} {a n : Nat} (hk : ks.length = 32) (hn : n ≤ 4096) (han : a + n ≤ 134217728) (h : K (.tup [.ro .leaf ((List.range n).map fun i => .u64 (wdg ks lane (a + i))), .int 0]) H) : wpF P [] 53 [.agg (ks.map .u8), .u32 lane, .int (a : Int), .int (n : Int)] H K := by
  refine wpF_go c53 rfl 4 ?_
  intro ha hb
  simp only [s53]
  have h0 : ((a : Int) < 0) = False := by simp
  have h01 : ((n : Int) < 0) = False := by simp
  have h1 : ((134217728 : Int) < (a : Int)) = False := by simp; omega
  have h11 : ((4096 : Int) < (n : Int)) = False := by simp; omega
  have h2 : 8 * (a : Int) = ((8 * a : Nat) : Int) := by omega
  have h3 : 8 * (n : Int) = ((8 * n : Nat) : Int) := by omega
  (refine gw7 @hk @h0 @h01 @h1 @h11 @h2 @h3 ?_; try exact True.intro)
  (repeat (refine And.intro (by omega) ?_))
  refine f45g hk (by omega) (by omega) ?_
  (refine gw0 ?_; try exact True.intro)
  (repeat (refine And.intro (by omega) ?_))
  refine wp_inv (I53 ks lane a n H) n ⟨0, _, _, _, _, _, by rw [fill_zero]; rfl, rfl, by omega⟩ ?_
  rintro k st ⟨i, u1, u2, u3, u4, u5, rfl, rfl, hi⟩
  unfold kbx
  by_cases hil : i < n
  · have hlt : ((i : Int) < (n : Int)) = True := by simp; omega
    have hL := fill_length (f := fun i => .u64 (wdg ks lane (a + i))) (z := .u64 0) hi
    have hL0 : (fillL (fun i => AV.u64 (wdg ks lane (a + i))) (.u64 0) n i)[i]? = some (.u64 0) := by
      unfold fillL
      rw [List.getElem?_append_right (by simp), List.length_map, List.length_range, Nat.sub_self, List.getElem?_replicate]
      rw [if_pos (by omega)]
    have hSet := fill_set (f := fun i => .u64 (wdg ks lane (a + i))) (z := .u64 0) hil
    generalize fillL (fun i => AV.u64 (wdg ks lane (a + i))) (.u64 0) n i = L at *
    have hLs : ∀ x, (L.set i x)[i]? = some x := fun x => by rw [List.getElem?_set_self (by omega)]
    have hLL : ∀ x y, (L.set i x).set i y = L.set i y := fun x y => List.set_set ..
    (refine gw1 @hlt ?_; try exact True.intro)
    refine wp_unroll 9 ?_
    have hpl : (part ks lane (8 * a) (8 * n)).length = 8 * n := part_len
    (refine gw5 @hlt @hL0 @hLs @hLL @hpl ?_; try exact True.intro)
    clear hL hL0 hLs hLL hpl ha hb h
    (repeat (refine And.intro (by omega) ?_))
    have hSet' : L.set i (AV.u64 (leW (part ks lane (8 * (a + i)) 8))) = fillL (fun i => AV.u64 (wdg ks lane (a + i))) (AV.u64 0) n (i + 1) := hSet
    simp only [leW] at hSet'
    have e : ∀ (k : Nat) (x : Int), k < 8 → x = 8 * (i : Int) + (k : Int) → (part ks lane (8 * a) (8 * n)).getD x.toNat 0 = (part ks lane (8 * (a + i)) 8).getD k 0 := fun k x hk hx => part_el hk hil hx
    refine ⟨n - (i + 1), by omega, i + 1, _, _, _, _, _, by rw [e 0 (8 * (i : Int) + 0) (by omega) rfl, e 1 (8 * (i : Int) + 1) (by omega) rfl, e 2 (8 * (i : Int) + 2) (by omega) rfl, e 3 (8 * (i : Int) + 3) (by omega) rfl, e 4 (8 * (i : Int) + 4) (by omega) rfl, e 5 (8 * (i : Int) + 5) (by omega) rfl, e 6 (8 * (i : Int) + 6) (by omega) rfl, e 7 (8 * (i : Int) + 7) (by omega) rfl, hSet']; rfl, rfl, by omega⟩
  · have hlt : ((i : Int) < (n : Int)) = False := by simp; omega
    have hie : i = n := by omega
    have ht : ∀ {kp : Nat → Bool} {N : Nat} {h : Heap}, mapO (demK kp N h 2) (List.take n (fillL (fun i => AV.u64 (wdg ks lane (a + i))) (.u64 0) n i)) = some ((List.range n).map fun i => .u64 (wdg ks lane (a + i))) := by
      intro kp N h
      rw [hie, fill_all, List.take_of_length_le (by simp)]; exact mapO_u64
    (refine gw2 @hlt @ht ?_; try exact True.intro)
    exact h
/-! a word of eight bytes, the other way -/
theorem or_sh64 (x y : BitVec 64) (i : Nat) (hx : x.toNat < 2 ^ i) (hy : y.toNat * 2 ^ i < 2 ^ 64) : (x ||| y <<< i).toNat = x.toNat + y.toNat * 2 ^ i := by
  rw [BitVec.toNat_or, BitVec.toNat_shiftLeft, Nat.shiftLeft_eq, Nat.mod_eq_of_lt hy, Nat.or_comm, ← Nat.shiftLeft_eq, ← Nat.shiftLeft_add_eq_or_of_lt hx, Nat.add_comm]
theorem hs64 (x : BitVec 64) (b : BitVec 8) (hx : x.toNat < 2 ^ 56) : ((256 : BitVec 64) * x + b.setWidth 64).toNat = 256 * x.toNat + b.toNat := by
  have hb := b.isLt
  rw [BitVec.toNat_add, BitVec.toNat_mul, BitVec.toNat_setWidth]
  have z : (256 : BitVec 64).toNat = 256 := rfl
  rw [z]
  omega
def rW (l : List (BitVec 8)) : BitVec 64 := (256 : BitVec 64) * ((256 : BitVec 64) * ((256 : BitVec 64) * ((256 : BitVec 64) * ((256 : BitVec 64) * ((256 : BitVec 64) * ((256 : BitVec 64) * ((256 : BitVec 64) * 0 + (l.getD 7 0).setWidth 64) + (l.getD 6 0).setWidth 64) + (l.getD 5 0).setWidth 64) + (l.getD 4 0).setWidth 64) + (l.getD 3 0).setWidth 64) + (l.getD 2 0).setWidth 64) + (l.getD 1 0).setWidth 64) + (l.getD 0 0).setWidth 64
theorem leW_rW (l : List (BitVec 8)) : leW l = rW l := by
  unfold leW rW
  generalize l.getD 0 0 = b0
  generalize l.getD 1 0 = b1
  generalize l.getD 2 0 = b2
  generalize l.getD 3 0 = b3
  generalize l.getD 4 0 = b4
  generalize l.getD 5 0 = b5
  generalize l.getD 6 0 = b6
  generalize l.getD 7 0 = b7
  have h0 := b0.isLt
  have h1 := b1.isLt
  have h2 := b2.isLt
  have h3 := b3.isLt
  have h4 := b4.isLt
  have h5 := b5.isLt
  have h6 := b6.isLt
  have h7 := b7.isLt
  have s0 : ∀ b : BitVec 8, (b.setWidth 64).toNat = b.toNat := fun b => by rw [BitVec.toNat_setWidth]; have := b.isLt; omega
  have z : (0 : BitVec 64).toNat = 0 := rfl
  have e0 := or_sh64 0 (b0.setWidth 64) 0 (by rw [z]; decide) (by rw [s0]; omega)
  rw [s0, z] at e0
  have e1 := or_sh64 _ (b1.setWidth 64) 8 (by rw [e0]; omega) (by rw [s0]; omega)
  rw [s0, e0] at e1
  have e2 := or_sh64 _ (b2.setWidth 64) 16 (by rw [e1]; omega) (by rw [s0]; omega)
  rw [s0, e1] at e2
  have e3 := or_sh64 _ (b3.setWidth 64) 24 (by rw [e2]; omega) (by rw [s0]; omega)
  rw [s0, e2] at e3
  have e4 := or_sh64 _ (b4.setWidth 64) 32 (by rw [e3]; omega) (by rw [s0]; omega)
  rw [s0, e3] at e4
  have e5 := or_sh64 _ (b5.setWidth 64) 40 (by rw [e4]; omega) (by rw [s0]; omega)
  rw [s0, e4] at e5
  have e6 := or_sh64 _ (b6.setWidth 64) 48 (by rw [e5]; omega) (by rw [s0]; omega)
  rw [s0, e5] at e6
  have e7 := or_sh64 _ (b7.setWidth 64) 56 (by rw [e6]; omega) (by rw [s0]; omega)
  rw [s0, e6] at e7
  have f0 := hs64 0 b7 (by rw [z]; decide)
  rw [z] at f0
  have f1 := hs64 _ b6 (by rw [f0]; omega)
  rw [f0] at f1
  have f2 := hs64 _ b5 (by rw [f1]; omega)
  rw [f1] at f2
  have f3 := hs64 _ b4 (by rw [f2]; omega)
  rw [f2] at f3
  have f4 := hs64 _ b3 (by rw [f3]; omega)
  rw [f3] at f4
  have f5 := hs64 _ b2 (by rw [f4]; omega)
  rw [f4] at f5
  have f6 := hs64 _ b1 (by rw [f5]; omega)
  rw [f5] at f6
  have f7 := hs64 _ b0 (by rw [f6]; omega)
  rw [f6] at f7
  apply BitVec.eq_of_toNat_eq
  rw [e7, f7]
  omega


theorem f34e {K : AV → Heap → Prop} {H : Heap} {ks : List (BitVec 8)} {lane : BitVec 32} {a n : Int} (hk : ks.length = 32) (hb : a < 0 ∨ n < 0 ∨ 4096 < n ∨ 134217728 - n < a) (h : K (.tup [.nils, .int 2]) H) : wpF P [] 34 [.agg (ks.map .u8), .u32 lane, .int a, .int n] H K := by
  refine wpF_go c34 rfl 4 ?_
  intro ha hb'
  simp only [s34]
  by_cases h0 : a < 0
  · (refine gw2 @hk @h0 ?_; try exact True.intro)
    exact h
  by_cases h1 : n < 0
  · (refine gw3 @hk @h0 @h1 ?_; try exact True.intro)
    exact h
  by_cases h3 : 4096 < n
  · (refine gw4 @hk @h0 @h1 @h3 ?_; try exact True.intro)
    exact h
  by_cases h2 : 134217728 < a
  · (refine gw5 @hk @h0 @h1 @h2 @h3 ?_; try exact True.intro)
    exact h
  (refine gw5 @hk @h0 @h1 @h2 @h3 ?_; try exact True.intro)
  (repeat (refine And.intro (by omega) ?_))
  refine f52e hk (by omega) ?_
  (refine gw0 ?_; try exact True.intro)
  exact h

def oW (ks : List (BitVec 8)) (lane : BitVec 32) (a i : Nat) : Option Blk := some ⟨22, i, true, .arr i .leaf, .agg ((List.range i).map fun j => .u64 (wdg ks lane (a + j)))⟩
def I34 (ks : List (BitVec 8)) (lane : BitVec 32) (a n : Nat) (H : Heap) (k : Nat) (st : St) : Prop :=
  ∃ (i : Nat) (out u1 u2 u3 u4 : AV) (L : Heap), st = ⟨[.agg (ks.map .u8), .u32 lane, .int (a : Int), .int (n : Int), .ptr H.length 0 [0] (.arr 32 .leaf), .nils, .int 0, .str (part ks lane (8 * a) (8 * n)), .int 0, out, .int (i : Int), u1, u2, .bool false, .bool false, u3, u4],
    H ++ kbx ks :: L⟩ ∧ k = n - i ∧ i ≤ n ∧ ((i = 0 ∧ out = .nils ∧ L = []) ∨ (0 < i ∧ out = .own (H.length + 2) i [] 0 i .leaf ∧ ∃ g J, L = g :: oW ks lane a i :: J))

theorem f34g {K : AV → Heap → Prop} {H : Heap} {ks : List (BitVec 8)} {lane : BitVec 32} {a n : Nat} (hk : ks.length = 32) (hn : n ≤ 4096) (han : a + n ≤ 134217728) (h : K (.tup [if n = 0 then .nils else .ro .leaf ((List.range n).map fun i => .u64 (wdg ks lane (a + i))), .int 0]) H) : wpF P [] 34 [.agg (ks.map .u8), .u32 lane, .int (a : Int), .int (n : Int)] H K := by
  refine wpF_go c34 rfl 4 ?_
  intro ha hb
  simp only [s34]
  have h0 : ((a : Int) < 0) = False := by simp
  have h01 : ((n : Int) < 0) = False := by simp
  have h1 : ((134217728 : Int) < (a : Int)) = False := by simp; omega
  have h11 : ((4096 : Int) < (n : Int)) = False := by simp; omega
  have h2 : 8 * (a : Int) = ((8 * a : Nat) : Int) := by omega
  have h3 : 8 * (n : Int) = ((8 * n : Nat) : Int) := by omega
  (refine gw7 @hk @h0 @h01 @h1 @h11 @h2 @h3 ?_; try exact True.intro)
  (repeat (refine And.intro (by omega) ?_))
  refine f52g hk (by omega) (by omega) ?_
  (refine gw0 ?_; try exact True.intro)
  refine wp_inv (I34 ks lane a n H) n ⟨0, _, _, _, _, _, [], rfl, rfl, by omega, .inl ⟨rfl, rfl, rfl⟩⟩ ?_
  rintro k st ⟨i, out, u1, u2, u3, u4, L, rfl, rfl, hi, hc⟩
  unfold kbx
  by_cases hil : i < n
  · have hlt : ((i : Int) < (n : Int)) = True := by simp; omega
    have hpl : (part ks lane (8 * a) (8 * n)).length = 8 * n := part_len
    have e : ∀ (k : Nat) (x : Int), k < 8 → x = 8 * (i : Int) + (k : Int) → (part ks lane (8 * a) (8 * n)).getD x.toNat 0 = (part ks lane (8 * (a + i)) 8).getD k 0 := fun k x hk hx => part_el hk hil hx
    have e0 := e 0 (8 * (i : Int) + 0) (by omega) rfl
    have e1 := e 1 (8 * (i : Int) + 1) (by omega) rfl
    have e2 := e 2 (8 * (i : Int) + 2) (by omega) rfl
    have e3 := e 3 (8 * (i : Int) + 3) (by omega) rfl
    have e4 := e 4 (8 * (i : Int) + 4) (by omega) rfl
    have e5 := e 5 (8 * (i : Int) + 5) (by omega) rfl
    have e6 := e 6 (8 * (i : Int) + 6) (by omega) rfl
    have e7 := e 7 (8 * (i : Int) + 7) (by omega) rfl
    (refine gw1 @hlt ?_; try exact True.intro)
    refine wp_unroll 9 ?_
    (refine gw10 @hlt @hpl @e0 @e1 @e2 @e3 @e4 @e5 @e6 @e7 ?_; try exact True.intro)
    clear ha hb h e e0 e1 e2 e3 e4 e5 e6 e7
    (repeat (refine And.intro (by omega) ?_))
    have hw : rW (part ks lane (8 * (a + i)) 8) = wdg ks lane (a + i) := by rw [← leW_rW]; rfl
    simp only [rW] at hw
    rw [hw]
    rcases hc with ⟨rfl, rfl, rfl⟩ | ⟨hi0, rfl, g, J, rfl⟩
    · (refine gw0 ?_; try exact True.intro)
      exact ⟨n - 1, by omega, 1, _, _, _, _, _, _, rfl, rfl, by omega, .inr ⟨by omega, rfl, _, [], rfl⟩⟩
    · unfold oW
      (refine gw0 ?_; try exact True.intro)
      (repeat (refine And.intro (by omega) ?_))
      have er : (List.range i).map (fun j => AV.u64 (wdg ks lane (a + j))) ++ [AV.u64 (wdg ks lane (a + i))] = (List.range (i + 1)).map fun j => AV.u64 (wdg ks lane (a + j)) := by simp [List.range_succ]
      rw [er]
      exact ⟨n - (i + 1), by omega, i + 1, _, _, _, _, _, _, rfl, rfl, by omega, .inr ⟨by omega, rfl, _, _, rfl⟩⟩
  · have hlt : ((i : Int) < (n : Int)) = False := by simp; omega
    have hie : i = n := by omega
    subst hie
    rcases hc with ⟨rfl, rfl, rfl⟩ | ⟨hi0, rfl, g, J, rfl⟩
    · rw [if_pos rfl] at h
      (refine gw1 @hlt ?_; try exact True.intro)
      exact h
    · rw [if_neg (by omega)] at h
      have ht : ∀ {kp : Nat → Bool} {N : Nat} {h : Heap}, mapO (demK kp N h 2) (List.take i ((List.range i).map fun j => AV.u64 (wdg ks lane (a + j)))) = some ((List.range i).map fun j => .u64 (wdg ks lane (a + j))) := by
        intro kp N h
        rw [List.take_of_length_le (by simp)]; exact mapO_u64
      unfold oW
      (refine gw2 @hlt @ht ?_; try exact True.intro)
      exact h
end Go.Proofs.Ytebmlmkiblieiaa
