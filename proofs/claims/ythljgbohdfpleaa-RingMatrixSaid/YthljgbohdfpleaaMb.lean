/-
  RingMatrix (layer 3): the product of all matrices, and a matrix turned.
-/
import Derived.Test.YthljgbohdfpleaaMa
import Derived.Test.YthljgbohdfpleaaV37
open Go Go.V
namespace Go.Proofs.Ythljgbohdfpleaa
/-- trefoil/trefoilref03.MatMul (0:l, 1:m, 2:k, 3:n, 4:a, 5:b, 12:, 13:, 14:out, 15:i, 16:j, 17:col, 18:t, 19:s, 51:, 54:, 59:, 64:) -/
def s39 : FnS := ⟨99, [0, 1, 2, 3, 4, 5, 12, 13, 14, 15, 16, 17, 18, 19, 51, 54, 59, 64],
    (.seq (.reg [⟨.var 6, (.q .mv), [.c .nils], none⟩,
      ⟨.var 7, (.q .mv), [.c (.int 0)], none⟩])
    (.seq (.seq (.reg [⟨.new, (.q .mv), [.t 0], none⟩,
      ⟨.new, (.call 25), [.t 18], none⟩,
      ⟨.new, (.q (.un .not)), [.t 19], none⟩,
      ⟨.new, (.q .mv), [.t 20], none⟩,
      ⟨.new, (.q .mv), [.t 1], (some (21, false))⟩,
      ⟨.new, (.q .mv), [.t 2], (some (21, false))⟩,
      ⟨.new, (.call 42), [.t 22, .t 23], (some (21, false))⟩,
      ⟨.new, (.q (.un .not)), [.t 24], (some (21, false))⟩,
      ⟨.new, (.q .pick), [.t 21, .c (.bool true), .t 25], none⟩,
      ⟨.new, (.q .mv), [.t 26], none⟩,
      ⟨.new, (.q .mv), [.t 2], (some (27, false))⟩,
      ⟨.new, (.q .mv), [.t 3], (some (27, false))⟩,
      ⟨.new, (.call 42), [.t 28, .t 29], (some (27, false))⟩,
      ⟨.new, (.q (.un .not)), [.t 30], (some (27, false))⟩,
      ⟨.new, (.q .pick), [.t 27, .c (.bool true), .t 31], none⟩,
      ⟨.new, (.q .mv), [.t 32], none⟩,
      ⟨.new, (.q .mv), [.t 4], (some (33, false))⟩,
      ⟨.new, (.q .len), [.t 34], (some (33, false))⟩,
      ⟨.new, (.q .mv), [.t 1], (some (33, false))⟩,
      ⟨.new, (.q .mv), [.t 2], (some (33, false))⟩,
      ⟨.new, (.q (.bin .mul)), [.t 36, .t 37], (some (33, false))⟩,
      ⟨.new, (.q (.bin .neq)), [.t 35, .t 38], (some (33, false))⟩,
      ⟨.new, (.q .pick), [.t 33, .c (.bool true), .t 39], none⟩,
      ⟨.new, (.q .mv), [.t 40], none⟩,
      ⟨.new, (.q .mv), [.t 5], (some (41, false))⟩,
      ⟨.new, (.q .len), [.t 42], (some (41, false))⟩,
      ⟨.new, (.q .mv), [.t 2], (some (41, false))⟩,
      ⟨.new, (.q .mv), [.t 3], (some (41, false))⟩,
      ⟨.new, (.q (.bin .mul)), [.t 44, .t 45], (some (41, false))⟩,
      ⟨.new, (.q (.bin .neq)), [.t 43, .t 46], (some (41, false))⟩,
      ⟨.var 14, (.q .pick), [.t 41, .c (.bool true), .t 47], none⟩])
    (.cond (.t 14) (.seq (.reg [⟨.var 6, (.q .mv), [.c .nils], none⟩,
      ⟨.var 7, (.q .mv), [.c (.int 11)], none⟩])
    .ret)
    .skip))
    (.seq (.reg [⟨.var 8, (.q .mv), [.c .nils], none⟩])
    (.seq (.seq (.reg [⟨.var 9, (.q .mv), [.c (.int 0)], none⟩])
    (.block 0 (.loop (.seq (.seq (.reg [⟨.new, (.q .mv), [.t 9], none⟩,
      ⟨.new, (.q .mv), [.t 1], none⟩,
      ⟨.var 15, (.q (.bin .lss)), [.t 18, .t 19], none⟩])
    (.cond (.t 15) .skip
    (.exit 0)))
    (.seq (.block 1 (.seq (.reg [⟨.var 10, (.q .mv), [.c (.int 0)], none⟩])
    (.block 2 (.loop (.seq (.seq (.reg [⟨.new, (.q .mv), [.t 10], none⟩,
      ⟨.new, (.q .mv), [.t 3], none⟩,
      ⟨.var 16, (.q (.bin .lss)), [.t 18, .t 19], none⟩])
    (.cond (.t 16) .skip
    (.exit 2)))
    (.seq (.block 3 (.seq (.reg [⟨.var 11, (.q .mv), [.c .nils], none⟩])
    (.seq (.seq (.reg [⟨.var 12, (.q .mv), [.c (.int 0)], none⟩])
    (.block 4 (.loop (.seq (.seq (.reg [⟨.new, (.q .mv), [.t 12], none⟩,
      ⟨.new, (.q .mv), [.t 2], none⟩,
      ⟨.var 17, (.q (.bin .lss)), [.t 18, .t 19], none⟩])
    (.cond (.t 17) .skip
    (.exit 4)))
    (.seq (.block 5 (.reg [⟨.new, (.q .mv), [.t 11], none⟩,
      ⟨.new, (.q .mv), [.t 5], none⟩,
      ⟨.new, (.q .mv), [.t 12], none⟩,
      ⟨.new, (.q .mv), [.t 3], none⟩,
      ⟨.new, (.q (.bin .mul)), [.t 20, .t 21], none⟩,
      ⟨.new, (.q .mv), [.t 10], none⟩,
      ⟨.new, (.q (.bin .add)), [.t 22, .t 23], none⟩,
      ⟨.new, (.q (.iaS .leaf)), [.t 19, .t 24], none⟩,
      ⟨.new, (.q (.ld .leaf)), [.t 25], none⟩,
      ⟨.new, (.e (.bsl 30 .leaf (.u64 0) 1 [0])), [.t 26], none⟩,
      ⟨.new, (.e (.app 30 .leaf 8)), [.t 18, .t 27], none⟩,
      ⟨.var 11, (.q .mv), [.t 28], none⟩]))
    (.reg [⟨.new, (.q .mv), [.t 12], none⟩,
      ⟨.new, (.q (.bin .add)), [.t 18, .c (.int 1)], none⟩,
      ⟨.var 12, (.q .mv), [.t 19], none⟩]))))))
    (.seq (.reg [⟨.new, (.q .mv), [.t 0], none⟩,
      ⟨.new, (.q .mv), [.t 4], none⟩,
      ⟨.new, (.q .mv), [.t 9], none⟩,
      ⟨.new, (.q .mv), [.t 2], none⟩,
      ⟨.new, (.q (.bin .mul)), [.t 20, .t 21], none⟩,
      ⟨.new, (.q .mv), [.t 9], none⟩,
      ⟨.new, (.q .mv), [.t 2], none⟩,
      ⟨.new, (.q (.bin .mul)), [.t 23, .t 24], none⟩,
      ⟨.new, (.q .mv), [.t 2], none⟩,
      ⟨.new, (.q (.bin .add)), [.t 25, .t 26], none⟩,
      ⟨.new, (.q (.slV .leaf true true)), [.t 19, .t 22, .t 27], none⟩,
      ⟨.new, (.q .mv), [.t 11], none⟩,
      ⟨.new, (.call 48), [.t 18, .t 28, .t 29], none⟩,
      ⟨.new, (.q .mv), [.t 30], none⟩,
      ⟨.new, (.q (.ext 0)), [.t 31], none⟩,
      ⟨.new, (.q (.ext 1)), [.t 31], none⟩,
      ⟨.var 13, (.q .mv), [.t 32], none⟩,
      ⟨.new, (.q .mv), [.t 33], none⟩])
    (.reg [⟨.new, (.q .mv), [.t 8], none⟩,
      ⟨.new, (.q .mv), [.t 13], none⟩,
      ⟨.new, (.e (.bsl 30 .leaf (.u64 0) 1 [0])), [.t 19], none⟩,
      ⟨.new, (.e (.app 30 .leaf 8)), [.t 18, .t 20], none⟩,
      ⟨.var 8, (.q .mv), [.t 21], none⟩])))))
    (.reg [⟨.new, (.q .mv), [.t 10], none⟩,
      ⟨.new, (.q (.bin .add)), [.t 18, .c (.int 1)], none⟩,
      ⟨.var 10, (.q .mv), [.t 19], none⟩])))))))
    (.reg [⟨.new, (.q .mv), [.t 9], none⟩,
      ⟨.new, (.q (.bin .add)), [.t 18, .c (.int 1)], none⟩,
      ⟨.var 9, (.q .mv), [.t 19], none⟩]))))))
    (.seq (.reg [⟨.new, (.q .mv), [.t 8], none⟩,
      ⟨.var 6, (.q .mv), [.t 18], none⟩,
      ⟨.var 7, (.q .mv), [.c (.int 0)], none⟩])
    .ret))))),
    [.t 6, .t 7]⟩

/-- trefoil/ring.Turn (0:m, 1:k, 2:a, 6:, 7:, 8:out, 9:i, 10:j, 22:, 26:, 27:, 28:, 30:, 31:, 32:) -/
def s40 : FnS := ⟨52, [0, 1, 2, 6, 7, 8, 9, 10, 22, 26, 27, 28, 30, 31, 32],
    (.seq (.reg [⟨.var 3, (.q .mv), [.c .nils], none⟩,
      ⟨.var 4, (.q .mv), [.c (.int 0)], none⟩])
    (.seq (.seq (.reg [⟨.new, (.q .mv), [.t 0], none⟩,
      ⟨.new, (.q .mv), [.t 1], none⟩,
      ⟨.new, (.call 59), [.t 15, .t 16], none⟩,
      ⟨.new, (.q (.un .not)), [.t 17], none⟩,
      ⟨.new, (.q .mv), [.t 18], none⟩,
      ⟨.new, (.q .mv), [.t 2], (some (19, false))⟩,
      ⟨.new, (.q .len), [.t 20], (some (19, false))⟩,
      ⟨.new, (.q .mv), [.t 0], (some (19, false))⟩,
      ⟨.new, (.q .mv), [.t 1], (some (19, false))⟩,
      ⟨.new, (.q (.bin .mul)), [.t 22, .t 23], (some (19, false))⟩,
      ⟨.new, (.q (.bin .neq)), [.t 21, .t 24], (some (19, false))⟩,
      ⟨.var 8, (.q .pick), [.t 19, .c (.bool true), .t 25], none⟩])
    (.cond (.t 8) (.seq (.reg [⟨.var 3, (.q .mv), [.c .nils], none⟩,
      ⟨.var 4, (.q .mv), [.c (.int 11)], none⟩])
    .ret)
    .skip))
    (.seq (.reg [⟨.new, (.q .mv), [.t 2], none⟩,
      ⟨.new, (.q .len), [.t 15], none⟩,
      ⟨.new, (.e (.mksl 30 .leaf 8 (.u64 0))), [.t 16, .t 16], none⟩,
      ⟨.var 5, (.q .mv), [.t 17], none⟩])
    (.seq (.seq (.reg [⟨.var 9, (.q .mv), [.t 0], none⟩,
      ⟨.var 10, (.q .mv), [.c (.int 0)], none⟩])
    (.block 0 (.loop (.seq (.reg [⟨.var 11, (.q (.bin .lss)), [.t 10, .t 9], none⟩])
    (.seq (.cond (.t 11) .skip
    (.exit 0))
    (.seq (.block 1 (.seq (.reg [⟨.new, (.q .mv), [.t 10], none⟩,
      ⟨.var 6, (.q .mv), [.t 15], none⟩])
    (.seq (.reg [⟨.var 12, (.q .mv), [.t 1], none⟩,
      ⟨.var 13, (.q .mv), [.c (.int 0)], none⟩])
    (.block 2 (.loop (.seq (.reg [⟨.var 14, (.q (.bin .lss)), [.t 13, .t 12], none⟩])
    (.seq (.cond (.t 14) .skip
    (.exit 2))
    (.seq (.block 3 (.seq (.reg [⟨.new, (.q .mv), [.t 13], none⟩,
      ⟨.var 7, (.q .mv), [.t 15], none⟩])
    (.reg [⟨.new, (.q .mv), [.t 5], none⟩,
      ⟨.new, (.q .mv), [.t 7], none⟩,
      ⟨.new, (.q .mv), [.t 0], none⟩,
      ⟨.new, (.q (.bin .mul)), [.t 16, .t 17], none⟩,
      ⟨.new, (.q .mv), [.t 6], none⟩,
      ⟨.new, (.q (.bin .add)), [.t 18, .t 19], none⟩,
      ⟨.new, (.q .mv), [.t 2], none⟩,
      ⟨.new, (.q .mv), [.t 6], none⟩,
      ⟨.new, (.q .mv), [.t 1], none⟩,
      ⟨.new, (.q (.bin .mul)), [.t 22, .t 23], none⟩,
      ⟨.new, (.q .mv), [.t 7], none⟩,
      ⟨.new, (.q (.bin .add)), [.t 24, .t 25], none⟩,
      ⟨.new, (.q (.iaS .leaf)), [.t 21, .t 26], none⟩,
      ⟨.new, (.q (.ld .leaf)), [.t 27], none⟩,
      ⟨.new, (.q (.iaS .leaf)), [.t 15, .t 20], none⟩,
      ⟨.none, (.e (.store .leaf)), [.t 29, .t 28], none⟩])))
    (.reg [⟨.new, (.q (.bin .add)), [.t 13, .c (.int 1)], none⟩,
      ⟨.var 13, (.q .mv), [.t 15], none⟩])))))))))
    (.reg [⟨.new, (.q (.bin .add)), [.t 10, .c (.int 1)], none⟩,
      ⟨.var 10, (.q .mv), [.t 15], none⟩])))))))
    (.seq (.reg [⟨.new, (.q .mv), [.t 5], none⟩,
      ⟨.var 3, (.q .mv), [.t 15], none⟩,
      ⟨.var 4, (.q .mv), [.c (.int 0)], none⟩])
    .ret))))),
    [.t 3, .t 4]⟩

/-- trefoil/trefoillaw03.RingMatrix (0:l, 1:m, 2:k, 3:n, 4:a, 5:b, 12:, 13:p, 14:e, 15:q, 16:f, 17:t, 18:g, 19:i, 20:j, 28:, 65:, 77:, 96:, 99:, 104:, 123:) -/
def s8 : FnS := ⟨125, [0, 1, 2, 3, 4, 5, 12, 13, 14, 15, 16, 17, 18, 19, 20, 28, 65, 77, 96, 99, 104, 123],
    (.seq (.reg [⟨.var 6, (.q .mv), [.c (.bool false)], none⟩])
    (.seq (.seq (.reg [⟨.new, (.q .mv), [.t 4], none⟩,
      ⟨.new, (.q .len), [.t 22], none⟩,
      ⟨.new, (.q (.bin .gtr)), [.t 23, .c (.int 40)], none⟩,
      ⟨.new, (.q .mv), [.t 24], none⟩,
      ⟨.new, (.q .mv), [.t 5], (some (25, false))⟩,
      ⟨.new, (.q .len), [.t 26], (some (25, false))⟩,
      ⟨.new, (.q (.bin .gtr)), [.t 27, .c (.int 40)], (some (25, false))⟩,
      ⟨.var 15, (.q .pick), [.t 25, .c (.bool true), .t 28], none⟩])
    (.cond (.t 15) (.seq (.reg [⟨.new, (.call 22), [], none⟩,
      ⟨.var 6, (.q .mv), [.t 22], none⟩])
    .ret)
    .skip))
    (.seq (.reg [⟨.new, (.q .mv), [.t 0], none⟩,
      ⟨.new, (.q .mv), [.t 1], none⟩,
      ⟨.new, (.q .mv), [.t 2], none⟩,
      ⟨.new, (.q .mv), [.t 3], none⟩,
      ⟨.new, (.q .mv), [.t 4], none⟩,
      ⟨.new, (.q .mv), [.t 5], none⟩,
      ⟨.new, (.call 38), [.t 22, .t 23, .t 24, .t 25, .t 26, .t 27], none⟩,
      ⟨.new, (.q .mv), [.t 28], none⟩,
      ⟨.new, (.q (.ext 0)), [.t 29], none⟩,
      ⟨.new, (.q (.ext 1)), [.t 29], none⟩,
      ⟨.var 7, (.q .mv), [.t 30], none⟩,
      ⟨.var 8, (.q .mv), [.t 31], none⟩])
    (.seq (.reg [⟨.new, (.q .mv), [.t 0], none⟩,
      ⟨.new, (.q .mv), [.t 1], none⟩,
      ⟨.new, (.q .mv), [.t 2], none⟩,
      ⟨.new, (.q .mv), [.t 3], none⟩,
      ⟨.new, (.q .mv), [.t 4], none⟩,
      ⟨.new, (.q .mv), [.t 5], none⟩,
      ⟨.new, (.call 39), [.t 22, .t 23, .t 24, .t 25, .t 26, .t 27], none⟩,
      ⟨.new, (.q .mv), [.t 28], none⟩,
      ⟨.new, (.q (.ext 0)), [.t 29], none⟩,
      ⟨.new, (.q (.ext 1)), [.t 29], none⟩,
      ⟨.var 9, (.q .mv), [.t 30], none⟩,
      ⟨.var 10, (.q .mv), [.t 31], none⟩])
    (.seq (.reg [⟨.new, (.q .mv), [.t 1], none⟩,
      ⟨.new, (.q .mv), [.t 2], none⟩,
      ⟨.new, (.q .mv), [.t 4], none⟩,
      ⟨.new, (.call 40), [.t 22, .t 23, .t 24], none⟩,
      ⟨.new, (.q .mv), [.t 25], none⟩,
      ⟨.new, (.q (.ext 0)), [.t 26], none⟩,
      ⟨.new, (.q (.ext 1)), [.t 26], none⟩,
      ⟨.var 11, (.q .mv), [.t 27], none⟩,
      ⟨.var 12, (.q .mv), [.t 28], none⟩])
    (.seq (.seq (.reg [⟨.new, (.q .mv), [.t 7], none⟩,
      ⟨.new, (.q .mv), [.t 9], none⟩,
      ⟨.new, (.call 41), [.t 22, .t 23], none⟩,
      ⟨.new, (.q (.un .not)), [.t 24], none⟩,
      ⟨.new, (.q .mv), [.t 25], none⟩,
      ⟨.new, (.q .mv), [.t 8], (some (26, false))⟩,
      ⟨.new, (.q .mv), [.t 10], (some (26, false))⟩,
      ⟨.new, (.q (.bin .neq)), [.t 27, .t 28], (some (26, false))⟩,
      ⟨.var 16, (.q .pick), [.t 26, .c (.bool true), .t 29], none⟩])
    (.cond (.t 16) (.seq (.reg [⟨.var 6, (.q .mv), [.c (.bool false)], none⟩])
    .ret)
    .skip))
    (.seq (.seq (.reg [⟨.new, (.q .mv), [.t 1], none⟩,
      ⟨.new, (.q .mv), [.t 2], none⟩,
      ⟨.new, (.call 42), [.t 22, .t 23], none⟩,
      ⟨.new, (.q (.un .not)), [.t 24], none⟩,
      ⟨.new, (.q .mv), [.t 25], none⟩,
      ⟨.new, (.q .mv), [.t 4], (some (26, false))⟩,
      ⟨.new, (.q .len), [.t 27], (some (26, false))⟩,
      ⟨.new, (.q .mv), [.t 1], (some (26, false))⟩,
      ⟨.new, (.q .mv), [.t 2], (some (26, false))⟩,
      ⟨.new, (.q (.bin .mul)), [.t 29, .t 30], (some (26, false))⟩,
      ⟨.new, (.q (.bin .neq)), [.t 28, .t 31], (some (26, false))⟩,
      ⟨.var 17, (.q .pick), [.t 26, .c (.bool true), .t 32], none⟩])
    (.cond (.t 17) (.seq (.reg [⟨.new, (.q .mv), [.t 11], none⟩,
      ⟨.new, (.q .len), [.t 22], none⟩,
      ⟨.new, (.q (.bin .eql)), [.t 23, .c (.int 0)], none⟩,
      ⟨.new, (.q .mv), [.t 24], none⟩,
      ⟨.new, (.q .mv), [.t 12], (some (25, true))⟩,
      ⟨.new, (.q (.bin .eql)), [.t 26, .c (.int 11)], (some (25, true))⟩,
      ⟨.new, (.q .pick), [.t 25, .t 27, .c (.bool false)], none⟩,
      ⟨.new, (.q .mv), [.t 28], none⟩,
      ⟨.new, (.call 22), [], (some (29, true))⟩,
      ⟨.new, (.q .pick), [.t 29, .t 30, .c (.bool false)], none⟩,
      ⟨.var 6, (.q .mv), [.t 31], none⟩])
    .ret)
    .skip))
    (.seq (.seq (.reg [⟨.new, (.q .mv), [.t 12], none⟩,
      ⟨.new, (.q (.bin .neq)), [.t 22, .c (.int 0)], none⟩,
      ⟨.new, (.q .mv), [.t 23], none⟩,
      ⟨.new, (.q .mv), [.t 11], (some (24, false))⟩,
      ⟨.new, (.q .len), [.t 25], (some (24, false))⟩,
      ⟨.new, (.q .mv), [.t 4], (some (24, false))⟩,
      ⟨.new, (.q .len), [.t 27], (some (24, false))⟩,
      ⟨.new, (.q (.bin .neq)), [.t 26, .t 28], (some (24, false))⟩,
      ⟨.var 18, (.q .pick), [.t 24, .c (.bool true), .t 29], none⟩])
    (.cond (.t 18) (.seq (.reg [⟨.var 6, (.q .mv), [.c (.bool false)], none⟩])
    .ret)
    .skip))
    (.seq (.seq (.reg [⟨.var 13, (.q .mv), [.c (.int 0)], none⟩])
    (.block 0 (.loop (.seq (.seq (.reg [⟨.new, (.q .mv), [.t 13], none⟩,
      ⟨.new, (.q .mv), [.t 1], none⟩,
      ⟨.var 19, (.q (.bin .lss)), [.t 22, .t 23], none⟩])
    (.cond (.t 19) .skip
    (.exit 0)))
    (.seq (.block 1 (.seq (.reg [⟨.var 14, (.q .mv), [.c (.int 0)], none⟩])
    (.block 2 (.loop (.seq (.seq (.reg [⟨.new, (.q .mv), [.t 14], none⟩,
      ⟨.new, (.q .mv), [.t 2], none⟩,
      ⟨.var 20, (.q (.bin .lss)), [.t 22, .t 23], none⟩])
    (.cond (.t 20) .skip
    (.exit 2)))
    (.seq (.block 3 (.seq (.draw [⟨.new, (.q .mv), [.t 11], none⟩,
      ⟨.new, (.q .mv), [.t 14], none⟩,
      ⟨.new, (.q .mv), [.t 1], none⟩,
      ⟨.new, (.q (.bin .mul)), [.t 23, .t 24], none⟩,
      ⟨.new, (.q .mv), [.t 13], none⟩,
      ⟨.new, (.q (.bin .add)), [.t 25, .t 26], none⟩,
      ⟨.new, (.q (.iaS .leaf)), [.t 22, .t 27], none⟩,
      ⟨.new, (.q (.ld .leaf)), [.t 28], none⟩,
      ⟨.new, (.q .mv), [.t 4], none⟩,
      ⟨.new, (.q .mv), [.t 13], none⟩,
      ⟨.new, (.q .mv), [.t 2], none⟩,
      ⟨.new, (.q (.bin .mul)), [.t 31, .t 32], none⟩,
      ⟨.new, (.q .mv), [.t 14], none⟩,
      ⟨.new, (.q (.bin .add)), [.t 33, .t 34], none⟩,
      ⟨.new, (.q (.iaS .leaf)), [.t 30, .t 35], none⟩,
      ⟨.new, (.q (.ld .leaf)), [.t 36], none⟩,
      ⟨.var 21, (.q (.bin .neq)), [.t 29, .t 37], none⟩])
    (.cond (.t 21) (.seq (.reg [⟨.var 6, (.q .mv), [.c (.bool false)], none⟩])
    .ret)
    .skip)))
    (.reg [⟨.new, (.q .mv), [.t 14], none⟩,
      ⟨.new, (.q (.bin .add)), [.t 22, .c (.int 1)], none⟩,
      ⟨.var 14, (.q .mv), [.t 23], none⟩])))))))
    (.reg [⟨.new, (.q .mv), [.t 13], none⟩,
      ⟨.new, (.q (.bin .add)), [.t 22, .c (.int 1)], none⟩,
      ⟨.var 13, (.q .mv), [.t 23], none⟩]))))))
    (.seq (.reg [⟨.new, (.call 22), [], none⟩,
      ⟨.var 6, (.q .mv), [.t 22], none⟩])
    .ret)))))))))),
    [.t 6]⟩

set_option maxRecDepth 100000
set_option linter.unusedSimpArgs false
set_option linter.unusedVariables false
theorem c39 : cF P [] (drP P []) 39 6 s39.vm = some s39 := by kernel_rfl
theorem c40 : cF P [] (drP P []) 40 3 s40.vm = some s40 := by kernel_rfl
theorem c8 : cF P [] (drP P []) 8 6 s8.vm = some s8 := by kernel_rfl

/-- may these be multiplied? -/
def okM (l m k n : Int) (xs ys : List (BitVec 64)) : Prop := sz m k ∧ sz k n ∧ (xs.length : Int) = m * k ∧ (ys.length : Int) = k * n ∧ good l

set_option maxHeartbeats 1000000 in
theorem f38e {K : AV → Heap → Prop} {H : Heap} {l m k n : Int} {xs ys : List (BitVec 64)} (hn : ¬ okM l m k n xs ys)
    (h : K (.tup [.nils, .int 11]) H) : wpF P [] 38 [.int l, .int m, .int k, .int n, .ro .leaf (xs.map .u64), .ro .leaf (ys.map .u64)] H K := by
  refine wpF_go c38 rfl 3 ?_
  intro ha hb
  simp only [s38]
  (refine gw0 ?_; try exact True.intro)
  refine f59 ?_
  by_cases h1 : sz m k
  rotate_left 1
  · have d1 : decide (sz m k) = false := by simp [h1]
    rw [d1]
    (refine gw0 ?_; try exact True.intro)
    exact h
  have d1 : decide (sz m k) = true := by simp [h1]
  rw [d1]
  (refine gw0 ?_; try exact True.intro)
  refine f59 ?_
  by_cases h2 : sz k n
  rotate_left 1
  · have d1 : decide (sz k n) = false := by simp [h2]
    rw [d1]
    (refine gw0 ?_; try exact True.intro)
    exact h
  have d1 : decide (sz k n) = true := by simp [h2]
  rw [d1]
  have b1 : -100 ≤ m * k ∧ m * k ≤ 100 := by
    unfold sz at h1
    obtain ⟨m', rfl⟩ : ∃ m' : Nat, m = (m' : Int) := ⟨m.toNat, by omega⟩
    obtain ⟨k', rfl⟩ : ∃ k' : Nat, k = (k' : Int) := ⟨k.toNat, by omega⟩
    have : m' * k' ≤ 6 * 6 := Nat.mul_le_mul (by omega) (by omega)
    have e : (m' : Int) * (k' : Int) = ((m' * k' : Nat) : Int) := by simp
    omega
  have b2 : -100 ≤ k * n ∧ k * n ≤ 100 := by
    unfold sz at h2
    obtain ⟨m', rfl⟩ : ∃ m' : Nat, k = (m' : Int) := ⟨k.toNat, by omega⟩
    obtain ⟨k', rfl⟩ : ∃ k' : Nat, n = (k' : Int) := ⟨n.toNat, by omega⟩
    have : m' * k' ≤ 6 * 6 := Nat.mul_le_mul (by omega) (by omega)
    have e : (m' : Int) * (k' : Int) = ((m' * k' : Nat) : Int) := by simp
    omega
  by_cases h3 : (xs.length : Int) = m * k
  rotate_left 1
  · have e3 := eq_false h3
    (refine gw1 @e3 ?_; try exact True.intro)
    repeat (refine And.intro (by omega) ?_)
    exact h
  have e3 := eq_true h3
  by_cases h4 : (ys.length : Int) = k * n
  rotate_left 1
  · have e4 := eq_false h4
    (refine gw2 @e3 @e4 ?_; try exact True.intro)
    repeat (refine And.intro (by omega) ?_)
    exact h
  have e4 := eq_true h4
  have hg : ¬ good l := fun hg => hn ⟨h1, h2, h3, h4, hg⟩
  have hz : (maskV l = 0) = True := eq_true (mask_zero.2 hg)
  (refine gw2 @e3 @e4 ?_; try exact True.intro)
  repeat (refine And.intro (by omega) ?_)
  refine f56 ?_
  (refine gw1 @hz ?_; try exact True.intro)
  exact h

/-! the reference's product -/
def A39 (l : Int) (m k n : Nat) (xs ys : List (BitVec 64)) : List AV := [.int l, .int (m : Int), .int (k : Int), .int (n : Int), .ro .leaf (xs.map .u64), .ro .leaf (ys.map .u64), .nils, .int 0]
/-- a list that was put together number by number -/
def Lst (H : Heap) (ns : List (BitVec 64)) (out : AV) (G : Heap) : Prop :=
  (ns = [] ∧ out = .nils ∧ ∃ X, G = H ++ X) ∨ (ns ≠ [] ∧ ∃ H' J, (∃ X, H' = H ++ X) ∧ out = .own H'.length ns.length [] 0 ns.length .leaf ∧ G = H' ++ some ⟨30, ns.length, true, .arr ns.length .leaf, .agg (ns.map .u64)⟩ :: J)
def prodL (l : Int) (k n : Nat) (xs ys : List (BitVec 64)) (c : Nat) : List (BitVec 64) := (List.range c).map (mmF l k n xs ys)
def colL (n j : Nat) (ys : List (BitVec 64)) (t : Nat) : List (BitVec 64) := (List.range t).map fun t => ys.getD (t * n + j) 0

def I39 (l : Int) (m k n : Nat) (xs ys : List (BitVec 64)) (H : Heap) (q : Nat) (st : St) : Prop :=
  ∃ (i : Nat) (out u1 u2 u3 u4 u5 u6 u7 : AV) (G : Heap), st = ⟨A39 l m k n xs ys ++ [out, .int (i : Int), u1, u2, u3, u4, .bool false, u5, u6, u7], G⟩ ∧ q = m - i ∧ i ≤ m ∧ Lst H (prodL l k n xs ys (i * n)) out G
def J39 (l : Int) (m k n : Nat) (xs ys : List (BitVec 64)) (H : Heap) (i : Nat) (q : Nat) (st : St) : Prop :=
  ∃ (j : Nat) (out u2 u3 u4 u6 u7 : AV) (G : Heap), st = ⟨A39 l m k n xs ys ++ [out, .int (i : Int), .int (j : Int), u2, u3, u4, .bool false, .bool true, u6, u7], G⟩ ∧ q = n - j ∧ j ≤ n ∧ Lst H (prodL l k n xs ys (i * n + j)) out G
def T39 (l : Int) (m k n : Nat) (xs ys : List (BitVec 64)) (i j : Nat) (out : AV) (G : Heap) (q : Nat) (st : St) : Prop :=
  ∃ (t : Nat) (col u4 u7 : AV) (L : Heap), st = ⟨A39 l m k n xs ys ++ [out, .int (i : Int), .int (j : Int), col, .int (t : Int), u4, .bool false, .bool true, .bool true, u7], G ++ L⟩ ∧ q = k - t ∧ t ≤ k ∧
    ((t = 0 ∧ col = .nils ∧ L = []) ∨ (0 < t ∧ col = .own (G.length + 1) t [] 0 t .leaf ∧ ∃ T J, L = T :: some ⟨30, t, true, .arr t .leaf, .agg ((colL n j ys t).map .u64)⟩ :: J))

set_option maxHeartbeats 4000000 in
theorem f39 {K : AV → Heap → Prop} {H : Heap} {l : Int} {m k n : Nat} {xs ys : List (BitVec 64)} (hg : good l) (h1 : sz m k) (h2 : sz k n) (hx : xs.length = m * k) (hy : ys.length = k * n)
    (h : K (.tup [lst (mmF l k n xs ys) (m * n), .int 0]) H) : wpF P [] 39 [.int l, .int (m : Int), .int (k : Int), .int (n : Int), .ro .leaf (xs.map .u64), .ro .leaf (ys.map .u64)] H K := by
  refine wpF_go c39 rfl 3 ?_
  intro ha hb
  simp only [s39]
  have d0 : decide (good l) = true := by simp [hg]
  have d1 : decide (sz (m : Int) (k : Int)) = true := by simp [h1]
  have d2 : decide (sz (k : Int) (n : Int)) = true := by simp [h2]
  have hm6 : 1 ≤ m ∧ m ≤ 6 := by unfold sz at h1; omega
  have hk6 : 1 ≤ k ∧ k ≤ 6 := by unfold sz at h1; omega
  have hn6 : 1 ≤ n ∧ n ≤ 6 := by unfold sz at h2; omega
  have pmk : m * k ≤ 36 := Nat.mul_le_mul hm6.2 hk6.2
  have pkn : k * n ≤ 36 := Nat.mul_le_mul hk6.2 hn6.2
  have pmn : m * n ≤ 36 := Nat.mul_le_mul hm6.2 hn6.2
  have emk : (m : Int) * (k : Int) = ((m * k : Nat) : Int) := by simp
  have ekn : (k : Int) * (n : Int) = ((k * n : Nat) : Int) := by simp
  have emn : (m : Int) * (n : Int) = ((m * n : Nat) : Int) := by simp
  have hz : (maskV l = 0) = False := eq_false fun h => mask_zero.1 h hg
  (refine gw0 ?_; try exact True.intro)
  refine f25 ?_
  rw [d0]
  (refine gw0 ?_; try exact True.intro)
  refine f42 ?_
  rw [d1]
  (refine gw0 ?_; try exact True.intro)
  refine f42 ?_
  rw [d2]
  (refine gw4 @hx @hy @emk @ekn ?_; try exact True.intro)
  repeat (refine And.intro (by omega) ?_)
  refine wp_inv (I39 l m k n xs ys H) m ⟨0, _, _, _, _, _, _, _, _, _, by unfold A39; rfl, rfl, by omega, .inl ⟨by rw [Nat.zero_mul]; rfl, rfl, [], by rw [List.append_nil]⟩⟩ ?_
  rintro q st ⟨i, out, u1, u2, u3, u4, u5, u6, u7, G, rfl, rfl, hi, hO⟩
  unfold A39
  by_cases hil : i < m
  · have h1 : ((i : Int) < (m : Int)) = True := by simp [hil]
    (refine gw1 @h1 ?_; try exact True.intro)
    refine wp_inv (J39 l m k n xs ys H i) n ⟨0, _, _, _, _, _, _, _, by unfold A39; rfl, rfl, by omega, hO⟩ ?_
    rintro q2 st2 ⟨j, out, w2, w3, w4, w6, w7, G, rfl, rfl, hj, hO⟩
    unfold A39
    by_cases hjl : j < n
    · have h2 : ((j : Int) < (n : Int)) = True := by simp [hjl]
      (refine gw1 @h2 ?_; try exact True.intro)
      refine wp_inv (T39 l m k n xs ys i j out G) k ⟨0, _, _, _, [], by unfold A39; rw [List.append_nil]; rfl, rfl, by omega, .inl ⟨rfl, rfl, rfl⟩⟩ ?_
      rintro q3 st3 ⟨t, col, z4, z7, L, rfl, rfl, ht, hC⟩
      unfold A39
      by_cases htl : t < k
      · have h3 : ((t : Int) < (k : Int)) = True := by simp [htl]
        have etn : (t : Int) * (n : Int) + (j : Int) = ((t * n + j : Nat) : Int) := by simp
        have tt : ((t : Int) * (n : Int) + (j : Int)).toNat = t * n + j := by rw [etn]; rfl
        have p2 : t * n + j < k * n := idx_lt htl hjl
        have g2 := ld_u64 (ns := ys) (i := t * n + j) (by omega)
        have e : colL n j ys (t + 1) = colL n j ys t ++ [ys.getD (t * n + j) 0] := by unfold colL; rw [List.range_succ, List.map_append]; rfl
        have q2 : (t : Int) * (n : Int) = ((t * n : Nat) : Int) := by simp
        rcases hC with ⟨rfl, rfl, rfl⟩ | ⟨hpos, rfl, T, J, rfl⟩
        · have h6 : ((0 : Int) < (k : Int)) = True := by simp; omega
          have e0 : (0 : Int) * (n : Int) = 0 := by simp
          have e1 : (0 : Int) + (j : Int) = (j : Int) := by simp
          have g3 := ld_u64 (ns := ys) (i := j) (by omega)
          have e2 : colL n j ys 1 = [ys.getD j 0] := by rw [show (1 : Nat) = 0 + 1 from rfl, e, Nat.zero_mul, Nat.zero_add]; rfl
          (refine gw5 @h6 @e0 @e1 @g3 @hy ?_; try exact True.intro)
          repeat (refine And.intro (by omega) ?_)
          refine ⟨k - (0 + 1), by omega, 0 + 1, _, _, _, _, rfl, rfl, by omega, .inr ⟨by omega, rfl, _, [], by rw [e2]; rfl⟩⟩
        · (refine gw4 @h3 @tt @g2 @hy ?_; try exact True.intro)
          repeat (refine And.intro (by omega) ?_)
          refine ⟨k - (t + 1), by omega, t + 1, _, _, _, _, rfl, rfl, by omega, .inr ⟨by omega, rfl, _, _, by rw [e, List.map_append]; rfl⟩⟩
      · have h3 : ((t : Int) < (k : Int)) = False := by simp; omega
        have htk : t = k := by omega
        rcases hC with ⟨h0, rfl, rfl⟩ | ⟨hpos, rfl, T, J, rfl⟩
        · omega
        · subst htk
          have ett : (i : Int) * (t : Int) = ((i * t : Nat) : Int) := by simp
          have p3 : (i + 1) * t ≤ m * t := Nat.mul_le_mul_right t hil
          have p4 : (i + 1) * t = i * t + t := Nat.succ_mul i t
          (refine gw3 @h3 @ett @hx ?_; try exact True.intro)
          repeat (refine And.intro (by omega) ?_)
          have er : List.take (((i * t : Nat) : Int) + (t : Int)).toNat (List.map AV.u64 xs) = List.map AV.u64 (xs.take (i * t + t)) := by
            rw [show (((i * t : Nat) : Int) + (t : Int)).toNat = i * t + t by omega, List.map_take]
          have erl : ((xs.drop (i * t)).take t).length = t := by rw [List.length_take, List.length_drop]; omega
          have er : List.take ((((i * t : Nat) : Int) + (t : Int)).toNat - i * t) (List.drop (i * t) (List.map AV.u64 xs)) = List.map AV.u64 ((xs.drop (i * t)).take t) := by
            rw [show (((i * t : Nat) : Int) + (t : Int)).toNat - i * t = t by omega, List.map_take, List.map_drop]
          have ecl : (colL n j ys t).length = t := by simp [colL]
          have ec : List.take t (List.map AV.u64 (colL n j ys t)) = List.map AV.u64 (colL n j ys t) := List.take_of_length_le (by simp [ecl])
          have erg : ∀ s, s < t → ((xs.drop (i * t)).take t).getD s 0 = xs.getD (i * t + s) 0 := by
            intro s hs
            simp only [List.getD_eq_getElem?_getD, List.getElem?_take, hs, if_true, List.getElem?_drop]
          have esum : cut (rounds l) (sumF (pg mulA ((xs.drop (i * t)).take t) (colL n j ys t)) t) = mmF l t n xs ys (i * n + j) := by
            unfold mmF msk
            rw [f27g' hg, (dm hjl).1, (dm hjl).2]
            congr 1
            refine sum_congr fun s hs => ?_
            unfold pg mulA mmT
            rw [erg s hs, colL, getD_rng _ hs]
          rw [er]
          generalize (xs.drop (i * t)).take t = rs at er erl erg esum
          refine wpF_lend1 2 ?_
          (refine gw1 @ec ?_; try exact True.intro)
          refine f48 (by rw [erl]; omega) ?_
          rw [if_pos (by omega), erl, esum]
          have ep : prodL l t n xs ys (i * n + (j + 1)) = prodL l t n xs ys (i * n + j) ++ [mmF l t n xs ys (i * n + j)] := by
            rw [← Nat.add_assoc]; unfold prodL; rw [List.range_succ, List.map_append]; rfl
          generalize mmF l t n xs ys (i * n + j) = val at ep
          have hpl : (prodL l t n xs ys (i * n + j)).length = i * n + j := by rw [prodL, List.length_map, List.length_range]
          generalize prodL l t n xs ys (i * n + j) = ps at ep hO hpl
          have pmn2 : i * n + j < m * n := idx_lt hil hjl
          rcases hO with ⟨rfl, rfl, X, hX⟩ | ⟨hne, H', J', ⟨X, hX⟩, rfl, rfl⟩
          · (refine gw0 ?_; try exact True.intro)
            refine ⟨by omega, by omega, n - (j + 1), by omega, j + 1, _, _, _, _, _, _, _, rfl, rfl, by omega, .inr ⟨by rw [ep]; simp, G ++ T :: some ⟨30, t, true, .arr t .leaf, .agg (List.map AV.u64 (colL n j ys t))⟩ :: (J ++ [some ⟨30, 0, true, .arr 1 .leaf, .agg [.u64 val]⟩]), [], ⟨X ++ T :: some ⟨30, t, true, .arr t .leaf, .agg (List.map AV.u64 (colL n j ys t))⟩ :: (J ++ [some ⟨30, 0, true, .arr 1 .leaf, .agg [.u64 val]⟩]), by rw [hX, List.append_assoc]⟩, by rw [ep]; simp, by rw [ep]; simp⟩⟩
          · (refine gw0 ?_; try exact True.intro)
            refine ⟨by omega, by omega, by omega, by omega, n - (j + 1), by omega, j + 1, _, _, _, _, _, _, _, rfl, rfl, by omega, .inr ⟨by rw [ep]; simp, H', _, ⟨X, hX⟩, by rw [ep]; simp, by rw [ep, List.map_append, List.length_append]; rfl⟩⟩
    · have h2 : ((j : Int) < (n : Int)) = False := by simp; omega
      have hjn : j = n := by omega
      have hsm : i * n + j = (i + 1) * n := by rw [Nat.succ_mul, hjn]
      rw [hsm] at hO
      (refine gw1 @h2 ?_; try exact True.intro)
      refine ⟨by omega, by omega, m - (i + 1), by omega, i + 1, _, _, _, _, _, _, _, _, _, rfl, rfl, by omega, hO⟩
  · have h1 : ((i : Int) < (m : Int)) = False := by simp; omega
    have him : i = m := by omega
    subst him
    have hne : prodL l k n xs ys (i * n) ≠ [] := by
      intro hc
      have h0 : (prodL l k n xs ys (i * n)).length = 0 := by rw [hc]; rfl
      rw [prodL, List.length_map, List.length_range] at h0
      have : 1 * 1 ≤ i * n := Nat.mul_le_mul hm6.1 hn6.1
      omega
    rcases hO with ⟨hc, _⟩ | ⟨_, H', J, hN, rfl, rfl⟩
    · exact (hne hc).elim
    have hl : (prodL l k n xs ys (i * n)).length = i * n := by rw [prodL, List.length_map, List.length_range]
    have ht : List.take (i * n) (List.map AV.u64 (prodL l k n xs ys (i * n))) = (List.range (i * n)).map fun p => .u64 (mmF l k n xs ys p) := by
      rw [List.take_of_length_le (by simp [hl])]
      unfold prodL; rw [List.map_map]; rfl
    obtain ⟨X, hX⟩ := hN
    have hNb : (H'.length < H.length) = False := by rw [hX]; simp
    have htk : ∀ Y, List.take H.length (H' ++ Y) = H := by intro Y; rw [hX]; simp
    (refine gw5 @h1 @hl @ht @hNb @htk ?_; try exact True.intro)
    exact h

theorem bnd6 {m k : Int} (h : sz m k) : (0 ≤ m * k ∧ m * k ≤ 36) ∧ ∃ m' k' : Nat, m = (m' : Int) ∧ k = (k' : Int) ∧ m * k = ((m' * k' : Nat) : Int) ∧ 1 ≤ m' ∧ m' ≤ 6 ∧ 1 ≤ k' ∧ k' ≤ 6 := by
  unfold sz at h
  obtain ⟨m', rfl⟩ : ∃ m' : Nat, m = (m' : Int) := ⟨m.toNat, by omega⟩
  obtain ⟨k', rfl⟩ : ∃ k' : Nat, k = (k' : Int) := ⟨k.toNat, by omega⟩
  have : m' * k' ≤ 6 * 6 := Nat.mul_le_mul (by omega) (by omega)
  have e : (m' : Int) * (k' : Int) = ((m' * k' : Nat) : Int) := by simp
  exact ⟨by omega, m', k', rfl, rfl, e, by omega⟩

set_option maxHeartbeats 1000000 in
theorem f39e {K : AV → Heap → Prop} {H : Heap} {l m k n : Int} {xs ys : List (BitVec 64)} (hn : ¬ okM l m k n xs ys)
    (h : K (.tup [.nils, .int 11]) H) : wpF P [] 39 [.int l, .int m, .int k, .int n, .ro .leaf (xs.map .u64), .ro .leaf (ys.map .u64)] H K := by
  refine wpF_go c39 rfl 3 ?_
  intro ha hb
  simp only [s39]
  (refine gw0 ?_; try exact True.intro)
  refine f25 ?_
  by_cases hg : good l
  rotate_left 1
  · have d1 : decide (good l) = false := by simp [hg]
    rw [d1]
    (refine gw0 ?_; try exact True.intro)
    exact h
  have d1 : decide (good l) = true := by simp [hg]
  rw [d1]
  (refine gw0 ?_; try exact True.intro)
  refine f42 ?_
  by_cases h1 : sz m k
  rotate_left 1
  · have d1 : decide (sz m k) = false := by simp [h1]
    rw [d1]
    (refine gw0 ?_; try exact True.intro)
    exact h
  have d1 : decide (sz m k) = true := by simp [h1]
  rw [d1]
  (refine gw0 ?_; try exact True.intro)
  refine f42 ?_
  by_cases h2 : sz k n
  rotate_left 1
  · have d1 : decide (sz k n) = false := by simp [h2]
    rw [d1]
    (refine gw0 ?_; try exact True.intro)
    exact h
  have d1 : decide (sz k n) = true := by simp [h2]
  rw [d1]
  have b1 := (bnd6 h1).1
  have b2 := (bnd6 h2).1
  by_cases h3 : (xs.length : Int) = m * k
  rotate_left 1
  · have e3 := eq_false h3
    (refine gw1 @e3 ?_; try exact True.intro)
    repeat (refine And.intro (by omega) ?_)
    exact h
  have e3 := eq_true h3
  by_cases h4 : (ys.length : Int) = k * n
  rotate_left 1
  · have e4 := eq_false h4
    (refine gw2 @e3 @e4 ?_; try exact True.intro)
    repeat (refine And.intro (by omega) ?_)
    exact h
  exact (hn ⟨h1, h2, h3, h4, hg⟩).elim

/-! a matrix turned -/
/-- what lies at a place when i rows, and j of the next one, were turned -/
def tnF (m k : Nat) (xs : List (BitVec 64)) (i j p : Nat) : AV := .u64 (if p % m < i ∨ (p % m = i ∧ p / m < j) then xs.getD (p % m * k + p / m) 0 else 0)
def trn (m k : Nat) (xs : List (BitVec 64)) (p : Nat) : BitVec 64 := xs.getD (p % m * k + p / m) 0
def tnL (m k : Nat) (xs : List (BitVec 64)) (i j : Nat) : List AV := (List.range (m * k)).map (tnF m k xs i j)
theorem set_rng {f : Nat → AV} {n p : Nat} {v : AV} : ((List.range n).map f).set p v = (List.range n).map fun q => if q = p then v else f q := by
  apply List.ext_getElem
  · simp
  · intro i h1 h2
    simp only [List.getElem_set, List.getElem_map, List.getElem_range]
    by_cases e : p = i
    · simp [e]
    · rw [if_neg e, if_neg (fun h => e h.symm)]
theorem tnL_zero (m k : Nat) (xs : List (BitVec 64)) : List.replicate (m * k) (AV.u64 0) = tnL m k xs 0 0 := by
  apply List.ext_getElem
  · simp [tnL]
  · intro i h1 h2
    simp [tnL, tnF]
theorem tnL_set {m k : Nat} {xs : List (BitVec 64)} {i j : Nat} (hi : i < m) (hj : j < k) : (tnL m k xs i j).set (j * m + i) (.u64 (xs.getD (i * k + j) 0)) = tnL m k xs i (j + 1) := by
  unfold tnL
  rw [set_rng]
  refine List.map_congr_left fun p hp => ?_
  have d1 := dm (i := j) (j := i) (n := m) hi
  unfold tnF
  by_cases e : p = j * m + i
  · subst e
    rw [if_pos rfl, d1.1, d1.2, if_pos (by omega)]
  · rw [if_neg e]
    have hc : (p % m < i ∨ (p % m = i ∧ p / m < j + 1)) ↔ (p % m < i ∨ (p % m = i ∧ p / m < j)) := by
      constructor
      · rintro (h | ⟨h, h'⟩)
        · exact .inl h
        · refine .inr ⟨h, ?_⟩
          by_cases hj : p / m = j
          · have := Nat.div_add_mod p m
            rw [h, hj, Nat.mul_comm] at this
            exact (e this.symm).elim
          · omega
      · rintro (h | ⟨h, h'⟩)
        · exact .inl h
        · exact .inr ⟨h, by omega⟩
    simp only [hc]
theorem tnL_row {m k : Nat} {xs : List (BitVec 64)} {i : Nat} (hm : 0 < m) : tnL m k xs i k = tnL m k xs (i + 1) 0 := by
  unfold tnL
  refine List.map_congr_left fun p hp => ?_
  have hp := List.mem_range.1 hp
  have h2 : p / m < k := Nat.div_lt_of_lt_mul hp
  unfold tnF
  have hc := (by intro a b hb; omega : ∀ a b : Nat, b < k → ((a < i ∨ (a = i ∧ b < k)) ↔ (a < i + 1 ∨ (a = i + 1 ∧ b < 0)))) (p % m) (p / m) h2
  simp only [hc]
theorem tnL_all {m k : Nat} {xs : List (BitVec 64)} (hm : 0 < m) : tnL m k xs m 0 = (List.range (m * k)).map fun p => .u64 (trn m k xs p) := by
  unfold tnL
  refine List.map_congr_left fun p hp => ?_
  unfold tnF trn
  rw [if_pos (.inl (Nat.mod_lt _ hm))]

def A40 (m k : Nat) (xs : List (BitVec 64)) (H : Heap) : List AV := [.int (m : Int), .int (k : Int), .ro .leaf (xs.map .u64), .nils, .int 0, .own H.length 0 [] 0 (m * k) .leaf]
def B40 (m k : Nat) (xs : List (BitVec 64)) (i j : Nat) : Option Blk := some ⟨30, 0, true, .arr (m * k) .leaf, .agg (tnL m k xs i j)⟩
def I40 (m k : Nat) (xs : List (BitVec 64)) (H : Heap) (q : Nat) (st : St) : Prop :=
  ∃ (i : Nat) (u1 u2 u3 u4 u5 u6 : AV), st = ⟨A40 m k xs H ++ [u1, u2, .bool false, .int (m : Int), .int (i : Int), u3, u4, u5, u6], H ++ [B40 m k xs i 0]⟩ ∧ q = m - i ∧ i ≤ m
def J40 (m k : Nat) (xs : List (BitVec 64)) (i : Nat) (H : Heap) (q : Nat) (st : St) : Prop :=
  ∃ (j : Nat) (u2 u6 : AV), st = ⟨A40 m k xs H ++ [.int (i : Int), u2, .bool false, .int (m : Int), .int (i : Int), .bool true, .int (k : Int), .int (j : Int), u6], H ++ [B40 m k xs i j]⟩ ∧ q = k - j ∧ j ≤ k

set_option maxHeartbeats 1000000 in
theorem f40 {K : AV → Heap → Prop} {H : Heap} {m k : Nat} {xs : List (BitVec 64)} (h1 : sz m k) (hx : xs.length = m * k)
    (h : K (.tup [lst (trn m k xs) (m * k), .int 0]) H) : wpF P [] 40 [.int (m : Int), .int (k : Int), .ro .leaf (xs.map .u64)] H K := by
  refine wpF_go c40 rfl 3 ?_
  intro ha hb
  simp only [s40]
  have d1 : decide (sz (m : Int) (k : Int)) = true := by simp [h1]
  have hm6 : 1 ≤ m ∧ m ≤ 6 := by unfold sz at h1; omega
  have hk6 : 1 ≤ k ∧ k ≤ 6 := by unfold sz at h1; omega
  have pmk : m * k ≤ 36 := Nat.mul_le_mul hm6.2 hk6.2
  have emk : (m : Int) * (k : Int) = ((m * k : Nat) : Int) := by simp
  (refine gw0 ?_; try exact True.intro)
  refine f59 ?_
  rw [d1]
  (refine gw2 @hx @emk ?_; try exact True.intro)
  repeat (refine And.intro (by omega) ?_)
  refine wp_inv (I40 m k xs H) m ⟨0, _, _, _, _, _, _, by unfold A40 B40; rw [← tnL_zero]; rfl, rfl, by omega⟩ ?_
  rintro q st ⟨i, u1, u2, u3, u4, u5, u6, rfl, rfl, hi⟩
  unfold A40
  by_cases hil : i < m
  · have h1 : ((i : Int) < (m : Int)) = True := by simp [hil]
    (refine gw1 @h1 ?_; try exact True.intro)
    refine wp_inv (J40 m k xs i H) k ⟨0, _, _, by unfold A40; rfl, rfl, by omega⟩ ?_
    rintro q2 st2 ⟨j, w2, w6, rfl, rfl, hj⟩
    unfold A40
    by_cases hjl : j < k
    · have h2 : ((j : Int) < (k : Int)) = True := by simp [hjl]
      have e1 : (i : Int) * (k : Int) + (j : Int) = ((i * k + j : Nat) : Int) := by simp
      have e2 : (j : Int) * (m : Int) + (i : Int) = ((j * m + i : Nat) : Int) := by simp
      have t1 : ((i : Int) * (k : Int) + (j : Int)).toNat = i * k + j := by rw [e1]; rfl
      have t2 : ((j : Int) * (m : Int) + (i : Int)).toNat = j * m + i := by rw [e2]; rfl
      have p1 : i * k + j < m * k := idx_lt hil hjl
      have p2 : j * m + i < m * k := by have := idx_lt hjl hil; rw [Nat.mul_comm k m] at this; exact this
      have g1 := ld_u64 (ns := xs) (i := i * k + j) (by omega)
      have hget := lget_at (ps := tnL m k xs i j) (i := j * m + i) (by simp [tnL, p2])
      unfold B40
      (refine gw6 @h2 @t1 @t2 @g1 @hget @hx ?_; try exact True.intro)
      have q1 : (i : Int) * (k : Int) = ((i * k : Nat) : Int) := by simp
      have q2 : (j : Int) * (m : Int) = ((j * m : Nat) : Int) := by simp
      rw [q1, q2]
      repeat (refine And.intro (by omega) ?_)
      refine ⟨k - (j + 1), by omega, j + 1, _, _, by unfold B40; rw [← tnL_set hil hjl]; rfl, rfl, by omega⟩
    · have h2 : ((j : Int) < (k : Int)) = False := by simp; omega
      have hjk : j = k := by omega
      (refine gw1 @h2 ?_; try exact True.intro)
      refine ⟨by omega, by omega, m - (i + 1), by omega, i + 1, _, _, _, _, _, _, by rw [hjk]; unfold B40; rw [tnL_row (by omega)]; rfl, rfl, by omega⟩
  · have h1 : ((i : Int) < (m : Int)) = False := by simp; omega
    have him : i = m := by omega
    unfold B40
    rw [him, tnL_all (by omega)]
    have h1 : ((m : Int) < (m : Int)) = False := by simp
    have ht : List.take (m * k) ((List.range (m * k)).map fun p => AV.u64 (trn m k xs p)) = (List.range (m * k)).map fun p => .u64 (trn m k xs p) := List.take_of_length_le (by simp)
    (refine gw2 @h1 @ht ?_; try exact True.intro)
    exact h

theorem f40e {K : AV → Heap → Prop} {H : Heap} {m k : Int} {xs : List (BitVec 64)} (hn : ¬ (sz m k ∧ (xs.length : Int) = m * k))
    (h : K (.tup [.nils, .int 11]) H) : wpF P [] 40 [.int m, .int k, .ro .leaf (xs.map .u64)] H K := by
  refine wpF_go c40 rfl 3 ?_
  intro ha hb
  simp only [s40]
  (refine gw0 ?_; try exact True.intro)
  refine f59 ?_
  by_cases h1 : sz m k
  rotate_left 1
  · have d1 : decide (sz m k) = false := by simp [h1]
    rw [d1]
    (refine gw0 ?_; try exact True.intro)
    exact h
  have d1 : decide (sz m k) = true := by simp [h1]
  rw [d1]
  have b1 := (bnd6 h1).1
  by_cases h3 : (xs.length : Int) = m * k
  rotate_left 1
  · have e3 := eq_false h3
    (refine gw1 @e3 ?_; try exact True.intro)
    repeat (refine And.intro (by omega) ?_)
    exact h
  exact (hn ⟨h1, h3⟩).elim

theorem f41n {K : AV → Heap → Prop} {H : Heap} (h : K (.bool true) H) : wpF P [] 41 [.nils, .nils] H K := by
  refine wpF_go c41 rfl 3 ?_
  intro ha hb
  simp only [s41]
  (refine gw0 ?_; try exact True.intro)
  refine wp_unroll 2 ?_
  (refine gw0 ?_; try exact True.intro)
  exact h

/-! the law -/
def I8 (m k : Nat) (A : List AV) (H : Heap) (q : Nat) (st : St) : Prop :=
  ∃ (i : Nat) (u1 u2 u3 u4 : AV), st = ⟨A ++ [.int (i : Int), u1, .bool false, .bool false, .bool false, .bool false, u2, u3, u4], H⟩ ∧ q = m - i ∧ i ≤ m
def J8 (m k : Nat) (i : Nat) (A : List AV) (H : Heap) (q : Nat) (st : St) : Prop :=
  ∃ (j : Nat) (u3 u4 : AV), st = ⟨A ++ [.int (i : Int), .int (j : Int), .bool false, .bool false, .bool false, .bool false, .bool true, u3, u4], H⟩ ∧ q = k - j ∧ j ≤ k

theorem both (l m k n : Int) (xs ys : List (BitVec 64)) : ∃ (pa : AV) (pe : Int),
    (∀ {K : AV → Heap → Prop} {H : Heap}, K (.tup [pa, .int pe]) H → wpF P [] 38 [.int l, .int m, .int k, .int n, .ro .leaf (xs.map .u64), .ro .leaf (ys.map .u64)] H K) ∧
    (∀ {K : AV → Heap → Prop} {H : Heap}, K (.tup [pa, .int pe]) H → wpF P [] 39 [.int l, .int m, .int k, .int n, .ro .leaf (xs.map .u64), .ro .leaf (ys.map .u64)] H K) ∧
    (∀ {K : AV → Heap → Prop} {H : Heap}, K (.bool true) H → wpF P [] 41 [pa, pa] H K) := by
  by_cases hok : okM l m k n xs ys
  · obtain ⟨h1, h2, hx, hy, hg⟩ := hok
    obtain ⟨_, m, k, rfl, rfl, emk, mm⟩ := bnd6 h1
    obtain ⟨_, k', n, ek, rfl, ekn, kk⟩ := bnd6 h2
    have ek : k = k' := by omega
    subst ek
    have hx : xs.length = m * k := by omega
    have hy : ys.length = k * n := by omega
    have pmn : m * n ≤ 6 * 6 := Nat.mul_le_mul (by omega) (by omega)
    exact ⟨_, _, fun h => f38 hg h1 h2 hx hy h, fun h => f39 hg h1 h2 hx hy h, fun h => f41 (by omega) h⟩
  · exact ⟨_, _, fun h => f38e hok h, fun h => f39e hok h, fun h => f41n h⟩

set_option maxHeartbeats 4000000 in
theorem f8 {K : AV → Heap → Prop} {H : Heap} {l m0 k0 n0 : Int} {xs ys : List (BitVec 64)} (h : K (.bool true) H) :
    wpF P [] 8 [.int l, .int m0, .int k0, .int n0, .ro .leaf (xs.map .u64), .ro .leaf (ys.map .u64)] H K := by
  refine wpF_go c8 rfl 3 ?_
  intro ha hbb
  simp only [s8]
  by_cases x1 : 40 < xs.length
  · have i1 : ((40 : Int) < (xs.length : Int)) = True := by simp; omega
    (refine gw1 @i1 ?_; try exact True.intro)
    refine f22 ?_
    (refine gw0 ?_; try exact True.intro)
    exact h
  have i1 : ((40 : Int) < (xs.length : Int)) = False := by simp; omega
  by_cases x2 : 40 < ys.length
  · have i2 : ((40 : Int) < (ys.length : Int)) = True := by simp; omega
    (refine gw2 @i1 @i2 ?_; try exact True.intro)
    refine f22 ?_
    (refine gw0 ?_; try exact True.intro)
    exact h
  have i2 : ((40 : Int) < (ys.length : Int)) = False := by simp; omega
  obtain ⟨pa, pe, g38, g39, g41⟩ := both l m0 k0 n0 xs ys
  (refine gw2 @i1 @i2 ?_; try exact True.intro)
  refine g38 ?_
  (refine gw0 ?_; try exact True.intro)
  refine g39 ?_
  (refine gw0 ?_; try exact True.intro)
  by_cases hok : sz m0 k0 ∧ (xs.length : Int) = m0 * k0
  · obtain ⟨h1, hx⟩ := hok
    obtain ⟨_, m, k, rfl, rfl, emk, mm⟩ := bnd6 h1
    have hx : xs.length = m * k := by omega
    have d1 : decide (sz (m : Int) (k : Int)) = true := by simp [h1]
    refine f40 h1 hx ?_
    (refine gw0 ?_; try exact True.intro)
    refine g41 ?_
    (refine gw0 ?_; try exact True.intro)
    refine f42 ?_
    rw [d1]
    have lt : lst (trn m k xs) (m * k) = .ro .leaf ((List.range (m * k)).map fun i => .u64 (trn m k xs i)) := rfl
    have pmk : m * k ≤ 6 * 6 := Nat.mul_le_mul (by omega) (by omega)
    (refine gw3 @hx @emk @lt ?_; try exact True.intro)
    refine ⟨by omega, by omega, ?_⟩
    refine wp_inv (I8 m k [.int l, .int (m : Int), .int (k : Int), .int n0, .ro .leaf (xs.map .u64), .ro .leaf (ys.map .u64), .bool false, pa, .int pe, pa, .int pe, .ro .leaf ((List.range (m * k)).map fun i => .u64 (trn m k xs i)), .int 0] H) m ⟨0, _, _, _, _, rfl, rfl, by omega⟩ ?_
    rintro q st ⟨i, u1, u2, u3, u4, rfl, rfl, hi⟩
    by_cases hil : i < m
    · have h1 : ((i : Int) < (m : Int)) = True := by simp [hil]
      (refine gw1 @h1 ?_; try exact True.intro)
      refine wp_inv (J8 m k i [.int l, .int (m : Int), .int (k : Int), .int n0, .ro .leaf (xs.map .u64), .ro .leaf (ys.map .u64), .bool false, pa, .int pe, pa, .int pe, .ro .leaf ((List.range (m * k)).map fun i => .u64 (trn m k xs i)), .int 0] H) k ⟨0, _, _, rfl, rfl, by omega⟩ ?_
      rintro q2 st2 ⟨j, w3, w4, rfl, rfl, hj⟩
      by_cases hjl : j < k
      · have h2 : ((j : Int) < (k : Int)) = True := by simp [hjl]
        have e1 : (i : Int) * (k : Int) + (j : Int) = ((i * k + j : Nat) : Int) := by simp
        have e2 : (j : Int) * (m : Int) + (i : Int) = ((j * m + i : Nat) : Int) := by simp
        have t1 : ((i : Int) * (k : Int) + (j : Int)).toNat = i * k + j := by rw [e1]; rfl
        have t2 : ((j : Int) * (m : Int) + (i : Int)).toNat = j * m + i := by rw [e2]; rfl
        have p1 : i * k + j < m * k := idx_lt hil hjl
        have p2 : j * m + i < m * k := by have := idx_lt hjl hil; rw [Nat.mul_comm k m] at this; exact this
        have g1 := ld_u64 (ns := xs) (i := i * k + j) (by omega)
        have g2 := ld_rng (f := fun i => .u64 (trn m k xs i)) p2
        have e3 : trn m k xs (j * m + i) = xs.getD (i * k + j) 0 := by
          unfold trn; rw [(dm (i := j) (j := i) (n := m) hil).1, (dm (i := j) (j := i) (n := m) hil).2]
        (refine gw7 @h2 @t1 @t2 @g1 @g2 @e3 @hx ?_; try exact True.intro)
        have q1 : (i : Int) * (k : Int) = ((i * k : Nat) : Int) := by simp
        have q2 : (j : Int) * (m : Int) = ((j * m : Nat) : Int) := by simp
        rw [q1, q2]
        repeat (refine And.intro (by omega) ?_)
        refine ⟨k - (j + 1), by omega, j + 1, _, _, rfl, rfl, by omega⟩
      · have h2 : ((j : Int) < (k : Int)) = False := by simp; omega
        have hjk : j = k := by omega
        (refine gw1 @h2 ?_; try exact True.intro)
        refine ⟨by omega, by omega, m - (i + 1), by omega, i + 1, _, _, _, _, rfl, rfl, by omega⟩
    · have h1 : ((i : Int) < (m : Int)) = False := by simp; omega
      (refine gw1 @h1 ?_; try exact True.intro)
      refine f22 ?_
      (refine gw0 ?_; try exact True.intro)
      exact h
  · refine f40e hok ?_
    (refine gw0 ?_; try exact True.intro)
    refine g41 ?_
    (refine gw0 ?_; try exact True.intro)
    refine f42 ?_
    by_cases h1 : sz m0 k0
    rotate_left 1
    · have d1 : decide (sz m0 k0) = false := by simp [h1]
      rw [d1]
      (refine gw0 ?_; try exact True.intro)
      refine f22 ?_
      (refine gw0 ?_; try exact True.intro)
      exact h
    have d1 : decide (sz m0 k0) = true := by simp [h1]
    rw [d1]
    have b1 := (bnd6 h1).1
    have e3 : ((xs.length : Int) = m0 * k0) = False := eq_false fun hc => hok ⟨h1, hc⟩
    (refine gw1 @e3 ?_; try exact True.intro)
    repeat (refine And.intro (by omega) ?_)
    refine f22 ?_
    (refine gw0 ?_; try exact True.intro)
    exact h
end Go.Proofs.Ythljgbohdfpleaa
