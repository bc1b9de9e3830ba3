/-
  The law BaseotRows returns true for all inputs: every bit of a row, rows put together, and their bytes are what the reference says.
-/
import Derived.Test.YtebmlmkiblieiaaV37
import Derived.KernelRfl
import Derived.Test.YtebmlmkiblieiaaRows
open Go Go.V
namespace Go.Proofs.Ytebmlmkiblieiaa
noncomputable abbrev P := Go.Proofs.Try.prog
/-- trefoil/baseot.Other (0:a, 1:b, 2:a, 3:b, 4:) -/
def s15 : FnS := ⟨16, [0, 1, 2, 3, 4],
    (.seq (.reg [⟨.var 2, (.e (.box 24 (.arr 2 .leaf))), [.t 0], none⟩,
      ⟨.var 3, (.e (.box 24 (.arr 2 .leaf))), [.t 1], none⟩,
      ⟨.var 4, (.e (.alloc 24 (.arr 2 .leaf) (.agg [(.u64 0), (.u64 0)]))), [], none⟩])
    (.seq (.reg [⟨.new, (.q (.iaA 2 .leaf)), [.t 2, .c (.int 0)], none⟩,
      ⟨.new, (.q (.ld .leaf)), [.t 5], none⟩,
      ⟨.new, (.q (.iaA 2 .leaf)), [.t 3, .c (.int 0)], none⟩,
      ⟨.new, (.q (.ld .leaf)), [.t 7], none⟩,
      ⟨.new, (.q (.bin .xor)), [.t 6, .t 8], none⟩,
      ⟨.new, (.q (.iaA 2 .leaf)), [.t 2, .c (.int 1)], none⟩,
      ⟨.new, (.q (.ld .leaf)), [.t 10], none⟩,
      ⟨.new, (.q (.iaA 2 .leaf)), [.t 3, .c (.int 1)], none⟩,
      ⟨.new, (.q (.ld .leaf)), [.t 12], none⟩,
      ⟨.new, (.q (.bin .xor)), [.t 11, .t 13], none⟩,
      ⟨.new, (.e (.bld (.arr 2 .leaf) (.agg [(.u64 0), (.u64 0)]) [0, 1])), [.t 9, .t 14], none⟩,
      ⟨.none, (.e (.store (.arr 2 .leaf))), [.t 4, .t 15], none⟩])
    .ret)),
    [.cell 4 (.arr 2 .leaf)]⟩

/-- trefoil/baseot.Times (0:bit, 1:r, 3:r, 4:, 6:) -/
def s16 : FnS := ⟨9, [0, 1, 3, 4, 6],
    (.seq (.reg [⟨.var 2, (.e (.box 24 (.arr 2 .leaf))), [.t 1], none⟩,
      ⟨.var 3, (.e (.alloc 24 (.arr 2 .leaf) (.agg [(.u64 0), (.u64 0)]))), [], none⟩])
    (.seq (.seq (.reg [⟨.new, (.q .mv), [.t 0], none⟩,
      ⟨.var 4, (.q (.un .not)), [.t 5], none⟩])
    (.cond (.t 4) (.seq (.reg [⟨.new, (.e (.bld (.arr 2 .leaf) (.agg [(.u64 0), (.u64 0)]) [])), [], none⟩,
      ⟨.none, (.e (.store (.arr 2 .leaf))), [.t 3, .t 5], none⟩])
    .ret)
    .skip))
    (.seq (.reg [⟨.new, (.q (.ld (.arr 2 .leaf))), [.t 2], none⟩,
      ⟨.none, (.e (.store (.arr 2 .leaf))), [.t 3, .t 5], none⟩])
    .ret))),
    [.cell 3 (.arr 2 .leaf)]⟩

/-- trefoil/baseot.Bit (0:r, 1:i, 2:r, 4:, 10:) -/
def s17 : FnS := ⟨21, [0, 1, 2, 4, 10],
    (.seq (.reg [⟨.var 2, (.e (.box 24 (.arr 2 .leaf))), [.t 0], none⟩,
      ⟨.var 3, (.q .mv), [.c (.bool false)], none⟩])
    (.seq (.seq (.reg [⟨.new, (.q .mv), [.t 1], none⟩,
      ⟨.new, (.q (.bin .lss)), [.t 5, .c (.int 0)], none⟩,
      ⟨.new, (.q .mv), [.t 6], none⟩,
      ⟨.new, (.q .mv), [.t 1], (some (7, false))⟩,
      ⟨.new, (.q (.bin .geq)), [.t 8, .c (.int 128)], (some (7, false))⟩,
      ⟨.var 4, (.q .pick), [.t 7, .c (.bool true), .t 9], none⟩])
    (.cond (.t 4) (.seq (.reg [⟨.var 3, (.q .mv), [.c (.bool false)], none⟩])
    .ret)
    .skip))
    (.seq (.reg [⟨.new, (.q .mv), [.t 1], none⟩,
      ⟨.new, (.q (.bin .quo)), [.t 5, .c (.int 64)], none⟩,
      ⟨.new, (.q (.iaA 2 .leaf)), [.t 2, .t 6], none⟩,
      ⟨.new, (.q (.ld .leaf)), [.t 7], none⟩,
      ⟨.new, (.q .mv), [.t 1], none⟩,
      ⟨.new, (.q (.bin .rem)), [.t 9, .c (.int 64)], none⟩,
      ⟨.new, (.q (.cv .u64)), [.t 10], none⟩,
      ⟨.new, (.q (.bin .shr)), [.t 8, .t 11], none⟩,
      ⟨.new, (.q (.bin .and)), [.t 12, .c (.u64 1)], none⟩,
      ⟨.new, (.q (.bin .eql)), [.t 13, .c (.u64 1)], none⟩,
      ⟨.var 3, (.q .mv), [.t 14], none⟩])
    .ret))),
    [.t 3]⟩

/-- trefoil/trefoilref15.Bit (0:r, 1:i, 2:r, 4:, 10:, 12:) -/
def s18 : FnS := ⟨28, [0, 1, 2, 4, 10, 12],
    (.seq (.reg [⟨.var 2, (.e (.box 24 (.arr 2 .leaf))), [.t 0], none⟩,
      ⟨.var 3, (.q .mv), [.c (.bool false)], none⟩])
    (.seq (.seq (.reg [⟨.new, (.q .mv), [.t 1], none⟩,
      ⟨.new, (.q (.bin .lss)), [.t 6, .c (.int 0)], none⟩,
      ⟨.new, (.q .mv), [.t 7], none⟩,
      ⟨.new, (.q .mv), [.t 1], (some (8, false))⟩,
      ⟨.new, (.q (.bin .gtr)), [.t 9, .c (.int 127)], (some (8, false))⟩,
      ⟨.var 4, (.q .pick), [.t 8, .c (.bool true), .t 10], none⟩])
    (.cond (.t 4) (.seq (.reg [⟨.var 3, (.q .mv), [.c (.bool false)], none⟩])
    .ret)
    .skip))
    (.seq (.seq (.reg [⟨.new, (.q .mv), [.t 1], none⟩,
      ⟨.var 5, (.q (.bin .lss)), [.t 6, .c (.int 64)], none⟩])
    (.cond (.t 5) (.seq (.reg [⟨.new, (.q (.iaA 2 .leaf)), [.t 2, .c (.int 0)], none⟩,
      ⟨.new, (.q (.ld .leaf)), [.t 6], none⟩,
      ⟨.new, (.q .mv), [.t 1], none⟩,
      ⟨.new, (.q (.cv .u64)), [.t 8], none⟩,
      ⟨.new, (.q (.bin .shr)), [.t 7, .t 9], none⟩,
      ⟨.new, (.q (.bin .rem)), [.t 10, .c (.u64 2)], none⟩,
      ⟨.new, (.q (.bin .eql)), [.t 11, .c (.u64 1)], none⟩,
      ⟨.var 3, (.q .mv), [.t 12], none⟩])
    .ret)
    .skip))
    (.seq (.reg [⟨.new, (.q (.iaA 2 .leaf)), [.t 2, .c (.int 1)], none⟩,
      ⟨.new, (.q (.ld .leaf)), [.t 6], none⟩,
      ⟨.new, (.q .mv), [.t 1], none⟩,
      ⟨.new, (.q (.bin .sub)), [.t 8, .c (.int 64)], none⟩,
      ⟨.new, (.q (.cv .u64)), [.t 9], none⟩,
      ⟨.new, (.q (.bin .shr)), [.t 7, .t 10], none⟩,
      ⟨.new, (.q (.bin .rem)), [.t 11, .c (.u64 2)], none⟩,
      ⟨.new, (.q (.bin .eql)), [.t 12, .c (.u64 1)], none⟩,
      ⟨.var 3, (.q .mv), [.t 13], none⟩])
    .ret)))),
    [.t 3]⟩

/-- trefoil/baseot.Bytes (0:r, 1:r, 2:, 3:b, 5:w, 6:i, 8:, 9:, 10:, 12:, 13:) -/
def s19 : FnS := ⟨28, [0, 1, 2, 3, 5, 6, 8, 9, 10, 12, 13],
    (.seq (.reg [⟨.var 1, (.e (.box 24 (.arr 2 .leaf))), [.t 0], none⟩,
      ⟨.var 2, (.q .mv), [.c (.str [])], none⟩])
    (.seq (.reg [⟨.new, (.e (.mksl 5 .leaf 1 (.u8 0))), [.c (.int 0), .c (.int 16)], none⟩,
      ⟨.var 3, (.q .mv), [.t 11], none⟩])
    (.seq (.seq (.reg [⟨.var 6, (.q (.ld (.arr 2 .leaf))), [.t 1], none⟩,
      ⟨.var 7, (.q .mv), [.c (.int 0)], none⟩])
    (.block 0 (.loop (.seq (.reg [⟨.var 8, (.q (.bin .lss)), [.t 7, .c (.int 2)], none⟩])
    (.seq (.cond (.t 8) .skip
    (.exit 0))
    (.seq (.block 1 (.seq (.reg [⟨.new, (.q (.idx 2 .leaf)), [.t 6, .t 7], none⟩,
      ⟨.var 4, (.q .mv), [.t 11], none⟩])
    (.seq (.reg [⟨.var 9, (.q .mv), [.c (.int 0)], none⟩])
    (.block 2 (.loop (.seq (.reg [⟨.var 10, (.q (.bin .lss)), [.t 9, .c (.int 8)], none⟩])
    (.seq (.cond (.t 10) .skip
    (.exit 2))
    (.seq (.block 3 (.seq (.reg [⟨.new, (.q .mv), [.t 9], none⟩,
      ⟨.var 5, (.q .mv), [.t 11], none⟩])
    (.reg [⟨.new, (.q .mv), [.t 3], none⟩,
      ⟨.new, (.q .mv), [.t 4], none⟩,
      ⟨.new, (.q .mv), [.t 5], none⟩,
      ⟨.new, (.q (.bin .mul)), [.c (.int 8), .t 13], none⟩,
      ⟨.new, (.q (.cv .u64)), [.t 14], none⟩,
      ⟨.new, (.q (.bin .shr)), [.t 12, .t 15], none⟩,
      ⟨.new, (.q (.cv .u8)), [.t 16], none⟩,
      ⟨.new, (.e (.bsl 5 .leaf (.u8 0) 1 [0])), [.t 17], none⟩,
      ⟨.new, (.e (.app 5 .leaf 1)), [.t 11, .t 18], none⟩,
      ⟨.var 3, (.q .mv), [.t 19], none⟩])))
    (.reg [⟨.new, (.q (.bin .add)), [.t 9, .c (.int 1)], none⟩,
      ⟨.var 9, (.q .mv), [.t 11], none⟩])))))))))
    (.reg [⟨.new, (.q (.bin .add)), [.t 7, .c (.int 1)], none⟩,
      ⟨.var 7, (.q .mv), [.t 11], none⟩])))))))
    (.seq (.reg [⟨.new, (.q .mv), [.t 3], none⟩,
      ⟨.new, (.q .b2s), [.t 11], none⟩,
      ⟨.var 2, (.q .mv), [.t 12], none⟩])
    .ret)))),
    [.t 2]⟩

/-- trefoil/trefoilref15.Bytes (0:r, 1:r, 2:, 3:b, 4:i, 5:n, 6:k, 8:, 12:, 22:) -/
def s20 : FnS := ⟨31, [0, 1, 2, 3, 4, 5, 6, 8, 12, 22],
    (.seq (.reg [⟨.var 1, (.e (.box 24 (.arr 2 .leaf))), [.t 0], none⟩,
      ⟨.var 2, (.q .mv), [.c (.str [])], none⟩])
    (.seq (.reg [⟨.var 3, (.q .mv), [.c .nils], none⟩])
    (.seq (.seq (.reg [⟨.var 4, (.q .mv), [.c (.int 0)], none⟩])
    (.block 0 (.loop (.seq (.seq (.reg [⟨.new, (.q .mv), [.t 4], none⟩,
      ⟨.var 7, (.q (.bin .lss)), [.t 10, .c (.int 16)], none⟩])
    (.cond (.t 7) .skip
    (.exit 0)))
    (.seq (.block 1 (.seq (.reg [⟨.var 5, (.q .mv), [.c (.u8 0)], none⟩])
    (.seq (.seq (.reg [⟨.var 6, (.q .mv), [.c (.int 7)], none⟩])
    (.block 2 (.loop (.seq (.seq (.reg [⟨.new, (.q .mv), [.t 6], none⟩,
      ⟨.var 8, (.q (.bin .geq)), [.t 10, .c (.int 0)], none⟩])
    (.cond (.t 8) .skip
    (.exit 2)))
    (.seq (.block 3 (.seq (.reg [⟨.new, (.q .mv), [.t 5], none⟩,
      ⟨.new, (.q (.bin .mul)), [.c (.u8 2), .t 10], none⟩,
      ⟨.var 5, (.q .mv), [.t 11], none⟩])
    (.seq (.reg [⟨.new, (.q (.ld (.arr 2 .leaf))), [.t 1], none⟩,
      ⟨.new, (.q .mv), [.t 4], none⟩,
      ⟨.new, (.q (.bin .mul)), [.c (.int 8), .t 11], none⟩,
      ⟨.new, (.q .mv), [.t 6], none⟩,
      ⟨.new, (.q (.bin .add)), [.t 12, .t 13], none⟩,
      ⟨.var 9, (.call 18), [.t 10, .t 14], none⟩])
    (.cond (.t 9) (.reg [⟨.new, (.q .mv), [.t 5], none⟩,
      ⟨.new, (.q (.bin .add)), [.t 10, .c (.u8 1)], none⟩,
      ⟨.var 5, (.q .mv), [.t 11], none⟩])
    .skip))))
    (.reg [⟨.new, (.q .mv), [.t 6], none⟩,
      ⟨.new, (.q (.bin .sub)), [.t 10, .c (.int 1)], none⟩,
      ⟨.var 6, (.q .mv), [.t 11], none⟩]))))))
    (.reg [⟨.new, (.q .mv), [.t 3], none⟩,
      ⟨.new, (.q .mv), [.t 5], none⟩,
      ⟨.new, (.e (.bsl 5 .leaf (.u8 0) 1 [0])), [.t 11], none⟩,
      ⟨.new, (.e (.app 5 .leaf 1)), [.t 10, .t 12], none⟩,
      ⟨.var 3, (.q .mv), [.t 13], none⟩]))))
    (.reg [⟨.new, (.q .mv), [.t 4], none⟩,
      ⟨.new, (.q (.bin .add)), [.t 10, .c (.int 1)], none⟩,
      ⟨.var 4, (.q .mv), [.t 11], none⟩]))))))
    (.seq (.reg [⟨.new, (.q .mv), [.t 3], none⟩,
      ⟨.new, (.q .b2s), [.t 10], none⟩,
      ⟨.var 2, (.q .mv), [.t 11], none⟩])
    .ret)))),
    [.t 2]⟩

/-- trefoil/trefoillaw15.awake (0:) -/
def s21 : FnS := ⟨16, [0],
    (.seq (.reg [⟨.var 0, (.q .mv), [.c (.bool false)], none⟩])
    (.seq (.draw [⟨.new, (.e (.bld (.arr 2 .leaf) (.agg [(.u64 0), (.u64 0)]) [0, 1])), [.c (.u64 1), .c (.u64 0)], none⟩,
      ⟨.new, (.callp 17), [.t 1, .c (.int 0)], none⟩,
      ⟨.new, (.q .mv), [.t 2], none⟩,
      ⟨.new, (.e (.bld (.arr 2 .leaf) (.agg [(.u64 0), (.u64 0)]) [0, 1])), [.c (.u64 1), .c (.u64 0)], (some (3, true))⟩,
      ⟨.new, (.callp 17), [.t 4, .c (.int 64)], (some (3, true))⟩,
      ⟨.new, (.q (.un .not)), [.t 5], (some (3, true))⟩,
      ⟨.new, (.q .pick), [.t 3, .t 6, .c (.bool false)], none⟩,
      ⟨.new, (.q .mv), [.t 7], none⟩,
      ⟨.new, (.e (.bld (.arr 2 .leaf) (.agg [(.u64 0), (.u64 0)]) [0, 1])), [.c (.u64 258), .c (.u64 0)], (some (8, true))⟩,
      ⟨.new, (.callp 19), [.t 9], (some (8, true))⟩,
      ⟨.new, (.e (.mksl 5 .leaf 1 (.u8 0))), [.c (.int 14), .c (.int 14)], (some (8, true))⟩,
      ⟨.new, (.q .b2s), [.t 11], (some (8, true))⟩,
      ⟨.new, (.q (.bin .add)), [.c (.str [2, 1]), .t 12], (some (8, true))⟩,
      ⟨.new, (.q (.bin .eql)), [.t 10, .t 13], (some (8, true))⟩,
      ⟨.new, (.q .pick), [.t 8, .t 14, .c (.bool false)], none⟩,
      ⟨.var 0, (.q .mv), [.t 15], none⟩])
    .ret)),
    [.t 0]⟩

/-- trefoil/trefoillaw15.BaseotRows (0:a, 1:b, 2:i, 3:bit, 4:a, 5:b, 8:, 9:x, 10:y, 11:k, 31:, 33:, 58:) -/
def s3 : FnS := ⟨60, [0, 1, 2, 3, 4, 5, 8, 9, 10, 11, 31, 33, 58],
    (.seq (.reg [⟨.var 4, (.e (.box 24 (.arr 2 .leaf))), [.t 0], none⟩,
      ⟨.var 5, (.e (.box 24 (.arr 2 .leaf))), [.t 1], none⟩,
      ⟨.var 6, (.q .mv), [.c (.bool false)], none⟩])
    (.seq (.draw [⟨.new, (.q (.ld (.arr 2 .leaf))), [.t 4], none⟩,
      ⟨.new, (.q (.ld (.arr 2 .leaf))), [.t 5], none⟩,
      ⟨.new, (.callp 15), [.t 13, .t 14], none⟩,
      ⟨.new, (.q .mv), [.t 3], none⟩,
      ⟨.new, (.q (.ld (.arr 2 .leaf))), [.t 4], none⟩,
      ⟨.new, (.callp 16), [.t 16, .t 17], none⟩,
      ⟨.var 7, (.e (.alloc 24 (.arr 2 .leaf) (.agg [(.u64 0), (.u64 0)]))), [], none⟩,
      ⟨.var 8, (.e (.alloc 24 (.arr 2 .leaf) (.agg [(.u64 0), (.u64 0)]))), [], none⟩,
      ⟨.none, (.e (.store (.arr 2 .leaf))), [.t 7, .t 15], none⟩,
      ⟨.none, (.e (.store (.arr 2 .leaf))), [.t 8, .t 18], none⟩])
    (.seq (.seq (.draw [⟨.new, (.q (.ld (.arr 2 .leaf))), [.t 4], none⟩,
      ⟨.new, (.q .mv), [.t 2], none⟩,
      ⟨.new, (.call 17), [.t 13, .t 14], none⟩,
      ⟨.new, (.q (.ld (.arr 2 .leaf))), [.t 4], none⟩,
      ⟨.new, (.q .mv), [.t 2], none⟩,
      ⟨.new, (.call 18), [.t 16, .t 17], none⟩,
      ⟨.new, (.q (.eqB true)), [.t 15, .t 18], none⟩,
      ⟨.new, (.q .mv), [.t 19], none⟩,
      ⟨.new, (.q (.ld (.arr 2 .leaf))), [.t 4], (some (20, false))⟩,
      ⟨.new, (.call 19), [.t 21], (some (20, false))⟩,
      ⟨.new, (.q (.ld (.arr 2 .leaf))), [.t 4], (some (20, false))⟩,
      ⟨.new, (.call 20), [.t 23], (some (20, false))⟩,
      ⟨.new, (.q (.bin .neq)), [.t 22, .t 24], (some (20, false))⟩,
      ⟨.var 10, (.q .pick), [.t 20, .c (.bool true), .t 25], none⟩])
    (.cond (.t 10) (.seq (.reg [⟨.var 6, (.q .mv), [.c (.bool false)], none⟩])
    .ret)
    .skip))
    (.seq (.seq (.reg [⟨.var 9, (.q .mv), [.c (.int 0)], none⟩])
    (.block 0 (.loop (.seq (.seq (.reg [⟨.new, (.q .mv), [.t 9], none⟩,
      ⟨.var 11, (.q (.bin .lss)), [.t 13, .c (.int 128)], none⟩])
    (.cond (.t 11) .skip
    (.exit 0)))
    (.seq (.block 1 (.seq (.draw [⟨.new, (.q (.ld (.arr 2 .leaf))), [.t 7], none⟩,
      ⟨.new, (.q .mv), [.t 9], none⟩,
      ⟨.new, (.call 18), [.t 13, .t 14], none⟩,
      ⟨.new, (.q (.ld (.arr 2 .leaf))), [.t 4], none⟩,
      ⟨.new, (.q .mv), [.t 9], none⟩,
      ⟨.new, (.call 18), [.t 16, .t 17], none⟩,
      ⟨.new, (.q (.ld (.arr 2 .leaf))), [.t 5], none⟩,
      ⟨.new, (.q .mv), [.t 9], none⟩,
      ⟨.new, (.call 18), [.t 19, .t 20], none⟩,
      ⟨.new, (.q (.eqB true)), [.t 18, .t 21], none⟩,
      ⟨.new, (.q (.eqB true)), [.t 15, .t 22], none⟩,
      ⟨.new, (.q .mv), [.t 23], none⟩,
      ⟨.new, (.q (.ld (.arr 2 .leaf))), [.t 8], (some (24, false))⟩,
      ⟨.new, (.q .mv), [.t 9], (some (24, false))⟩,
      ⟨.new, (.call 18), [.t 25, .t 26], (some (24, false))⟩,
      ⟨.new, (.q .mv), [.t 3], (some (24, false))⟩,
      ⟨.new, (.q .mv), [.t 28], (some (24, false))⟩,
      ⟨.new, (.q (.ld (.arr 2 .leaf))), [.t 4], (some (29, true))⟩,
      ⟨.new, (.q .mv), [.t 9], (some (29, true))⟩,
      ⟨.new, (.call 18), [.t 30, .t 31], (some (29, true))⟩,
      ⟨.new, (.q .pick), [.t 29, .t 32, .c (.bool false)], (some (24, false))⟩,
      ⟨.new, (.q (.eqB true)), [.t 27, .t 33], (some (24, false))⟩,
      ⟨.var 12, (.q .pick), [.t 24, .c (.bool true), .t 34], none⟩])
    (.cond (.t 12) (.seq (.reg [⟨.var 6, (.q .mv), [.c (.bool false)], none⟩])
    .ret)
    .skip)))
    (.reg [⟨.new, (.q .mv), [.t 9], none⟩,
      ⟨.new, (.q (.bin .add)), [.t 13, .c (.int 1)], none⟩,
      ⟨.var 9, (.q .mv), [.t 14], none⟩]))))))
    (.seq (.reg [⟨.new, (.call 21), [], none⟩,
      ⟨.var 6, (.q .mv), [.t 13], none⟩])
    .ret))))),
    [.t 6]⟩

set_option maxRecDepth 100000
set_option linter.unusedSimpArgs false
set_option linter.unusedVariables false
theorem c15 : cF P [] (drP P []) 15 2 s15.vm = some s15 := by kernel_rfl
theorem c16 : cF P [] (drP P []) 16 2 s16.vm = some s16 := by kernel_rfl
theorem c17 : cF P [] (drP P []) 17 2 s17.vm = some s17 := by kernel_rfl
theorem c18 : cF P [] (drP P []) 18 2 s18.vm = some s18 := by kernel_rfl
theorem c19 : cF P [] (drP P []) 19 1 s19.vm = some s19 := by kernel_rfl
theorem c20 : cF P [] (drP P []) 20 1 s20.vm = some s20 := by kernel_rfl
theorem c21 : cF P [] (drP P []) 21 0 s21.vm = some s21 := by kernel_rfl
theorem c3 : cF P [] (drP P []) 3 4 s3.vm = some s3 := by kernel_rfl

theorem ofInt_nat {i : Nat} (h : i < 18446744073709551616) : (BitVec.ofInt 64 (i : Int)).toNat = i := by
  rw [BitVec.toNat_ofInt]; omega

/-- a row's bit -/
def rb (x y : BitVec 64) (i : Int) : Bool := if 0 ≤ i ∧ i < 64 then x.getLsbD i.toNat else if 64 ≤ i ∧ i < 128 then y.getLsbD (i.toNat - 64) else false
def rowV (x y : BitVec 64) : AV := .agg [.u64 x, .u64 y]

theorem bit_and (x : BitVec 64) (j : Nat) : decide (x >>> j &&& 1 = 1) = x.getLsbD j := by
  have e : (x >>> j &&& 1 = 1) ↔ (x >>> j).toNat % 2 = 1 := by
    rw [← BitVec.toNat_inj, BitVec.toNat_and]
    have : (1 : BitVec 64).toNat = 1 := rfl
    rw [this, Nat.and_one_is_mod]
  rw [← BitVec.testBit_toNat, Nat.testBit_eq_decide_div_mod_eq, decide_eq_decide, e, BitVec.toNat_ushiftRight, Nat.shiftRight_eq_div_pow]
theorem bit_mod (x : BitVec 64) (j : Nat) : decide (x >>> j % 2 = 1) = x.getLsbD j := by
  have e : (x >>> j % 2 = 1) ↔ (x >>> j).toNat % 2 = 1 := by
    rw [← BitVec.toNat_inj, BitVec.toNat_umod]
    exact Iff.rfl
  rw [← BitVec.testBit_toNat, Nat.testBit_eq_decide_div_mod_eq, decide_eq_decide, e, BitVec.toNat_ushiftRight, Nat.shiftRight_eq_div_pow]

theorem f17 {K : AV → Heap → Prop} {H : Heap} {x y : BitVec 64} {i : Int} (h : K (.bool (rb x y i)) H) : wpF P [] 17 [rowV x y, .int i] H K := by
  refine wpF_go c17 rfl 3 ?_
  intro ha hb
  simp only [s17, rowV]
  unfold rb at h
  by_cases h0 : i < 0
  · rw [if_neg (by omega), if_neg (by omega)] at h
    (refine gw1 @h0 ?_; try exact True.intro)
    exact h
  by_cases h1 : 128 ≤ i
  · rw [if_neg (by omega), if_neg (by omega)] at h
    (refine gw2 @h0 @h1 ?_; try exact True.intro)
    exact h
  obtain ⟨j, rfl⟩ := Int.eq_ofNat_of_zero_le (show 0 ≤ i by omega)
  by_cases h2 : j < 64
  · rw [if_pos (by omega)] at h
    have hd : Int.tdiv (j : Int) 64 = 0 := by rw [Int.tdiv_eq_ediv_of_nonneg (by omega)]; omega
    have hm : Int.tmod (j : Int) 64 = (j : Int) := by rw [Int.tmod_eq_emod_of_nonneg (by omega)]; omega
    have he := ofInt_nat (i := j) (by omega)
    (refine gw5 @h0 @h1 @hd @hm @he ?_; try exact True.intro)
    rw [bit_and]
    exact ⟨by omega, by omega, h⟩
  · rw [if_neg (by omega), if_pos (by omega)] at h
    have hd : Int.tdiv (j : Int) 64 = 1 := by rw [Int.tdiv_eq_ediv_of_nonneg (by omega)]; omega
    have hm : Int.tmod (j : Int) 64 = ((j - 64 : Nat) : Int) := by rw [Int.tmod_eq_emod_of_nonneg (by omega)]; omega
    have he := ofInt_nat (i := j - 64) (by omega)
    (refine gw5 @h0 @h1 @hd @hm @he ?_; try exact True.intro)
    rw [bit_and]
    exact ⟨by omega, by omega, h⟩

theorem f18 {K : AV → Heap → Prop} {H : Heap} {x y : BitVec 64} {i : Int} (h : K (.bool (rb x y i)) H) : wpF P [] 18 [rowV x y, .int i] H K := by
  refine wpF_go c18 rfl 3 ?_
  intro ha hb
  simp only [s18, rowV]
  unfold rb at h
  by_cases h0 : i < 0
  · rw [if_neg (by omega), if_neg (by omega)] at h
    (refine gw1 @h0 ?_; try exact True.intro)
    exact h
  by_cases h1 : 127 < i
  · rw [if_neg (by omega), if_neg (by omega)] at h
    (refine gw2 @h0 @h1 ?_; try exact True.intro)
    exact h
  obtain ⟨j, rfl⟩ := Int.eq_ofNat_of_zero_le (show 0 ≤ i by omega)
  by_cases h2 : (j : Int) < 64
  · rw [if_pos (by omega)] at h
    have he := ofInt_nat (i := j) (by omega)
    (refine gw4 @h0 @h1 @h2 @he ?_; try exact True.intro)
    rw [bit_mod]
    exact ⟨by decide, h⟩
  · rw [if_neg (by omega), if_pos (by omega)] at h
    have hs : (j : Int) - 64 = ((j - 64 : Nat) : Int) := by omega
    have he := ofInt_nat (i := j - 64) (by omega)
    (refine gw5 @h0 @h1 @h2 @hs @he ?_; try exact True.intro)
    rw [bit_mod]
    exact ⟨by omega, by omega, by decide, h⟩

theorem f15 {K : AV → Heap → Prop} {H : Heap} {x y z w : BitVec 64} (h : K (rowV (x ^^^ z) (y ^^^ w)) H) : wpF P [] 15 [rowV x y, rowV z w] H K := by
  refine wpF_go c15 rfl 3 ?_
  intro ha hb
  simp only [s15, rowV]
  (refine gw0 ?_; try exact True.intro)
  exact h

theorem f16 {K : AV → Heap → Prop} {H : Heap} {b : Bool} {x y : BitVec 64} (h : K (if b = true then rowV x y else rowV 0 0) H) : wpF P [] 16 [.bool b, rowV x y] H K := by
  refine wpF_go c16 rfl 3 ?_
  intro ha hb
  simp only [s16, rowV]
  cases b with
  | true => (refine gw0 ?_; try exact True.intro); exact h
  | false => (refine gw0 ?_; try exact True.intro); exact h

/-- a row's bytes -/
def by8 (x : BitVec 64) : List (BitVec 8) := [(x >>> 0).setWidth 8, (x >>> 8).setWidth 8, (x >>> 16).setWidth 8, (x >>> 24).setWidth 8, (x >>> 32).setWidth 8, (x >>> 40).setWidth 8, (x >>> 48).setWidth 8, (x >>> 56).setWidth 8]
def rowB (x y : BitVec 64) : List (BitVec 8) := by8 x ++ by8 y

theorem f19 {K : AV → Heap → Prop} {H : Heap} {x y : BitVec 64} (h : K (.str (rowB x y)) H) : wpF P [] 19 [rowV x y] H K := by
  refine wpF_go c19 rfl 3 ?_
  intro ha hb
  simp only [s19, rowV]
  (refine gw0 ?_; try exact True.intro)
  refine wp_unroll 3 ?_
  (refine gw0 ?_; try exact True.intro)
  refine wp_unroll 9 ?_
  (refine gw0 ?_; try exact True.intro)
  refine wp_unroll 9 ?_
  (refine gw0 ?_; try exact True.intro)
  exact h

/-! the reference's bytes -/
/-- eight bits of a row, from j on -/
def rbN (x y : BitVec 64) (j : Nat) : Bool := rb x y (j : Int)
def part (x y : BitVec 64) (i : Nat) : Nat → BitVec 8
  | 0 => 0
  | k + 1 => 2 * part x y i k + (if rbN x y (8 * i + (7 - k)) = true then 1 else 0)

/-- the bytes put together up to the i-th -/
def plist (x y : BitVec 64) (i : Nat) : List (BitVec 8) := (List.range i).map fun i => part x y i 8
def bxr (x y : BitVec 64) : Option Blk := some ⟨24, 0, false, .arr 1 (.arr 2 .leaf), .agg [.agg [.u64 x, .u64 y]]⟩
def I20 (x y : BitVec 64) (H : Heap) (q : Nat) (st : St) : Prop :=
  ∃ (i : Nat) (u1 u2 u3 u4 u5 : AV) (out : AV) (L : Heap), st = ⟨[.agg [.u64 x, .u64 y], .ptr H.length 0 [0] (.arr 2 .leaf), .str [], out, .int (i : Int), u1, u2, u3, u4, u5], H ++ bxr x y :: L⟩ ∧ q = 16 - i ∧ i ≤ 16 ∧
    ((i = 0 ∧ out = .nils ∧ L = []) ∨ (0 < i ∧ out = .own (H.length + 2) i [] 0 i .leaf ∧ ∃ T J, L = T :: some ⟨5, i, true, .arr i .leaf, .agg ((plist x y i).map .u8)⟩ :: J))
def J20 (x y : BitVec 64) (i : Nat) (out : AV) (G : Heap) (N : Nat) (q : Nat) (st : St) : Prop :=
  ∃ (c : Nat) (u4 u5 : AV), st = ⟨[.agg [.u64 x, .u64 y], .ptr N 0 [0] (.arr 2 .leaf), .str [], out, .int (i : Int), .u8 (part x y i c), .int (7 - (c : Int)), .bool true, u4, u5], G⟩ ∧ q = 8 - c ∧ c ≤ 8

set_option maxHeartbeats 2000000 in
theorem f20 {K : AV → Heap → Prop} {H : Heap} {x y : BitVec 64} (h : K (.str (plist x y 16)) H) : wpF P [] 20 [rowV x y] H K := by
  refine wpF_go c20 rfl 3 ?_
  intro ha hb
  simp only [s20, rowV]
  (refine gw0 ?_; try exact True.intro)
  refine wp_inv (I20 x y H) 16 ⟨0, _, _, _, _, _, _, [], rfl, rfl, by omega, .inl ⟨rfl, rfl, rfl⟩⟩ ?_
  rintro q st ⟨i, u1, u2, u3, u4, u5, out, L, rfl, rfl, hi, hc⟩
  by_cases hil : i < 16
  · have h1 : ((i : Int) < (16 : Int)) = True := by simp; omega
    (refine gw1 @h1 ?_; try exact True.intro)
    refine wp_inv (J20 x y i out (H ++ bxr x y :: L) H.length) 8 ⟨0, _, _, rfl, rfl, by omega⟩ ?_
    rintro q2 st2 ⟨c, w4, w5, rfl, rfl, hcc⟩
    by_cases hcl : c < 8
    · have h2 : ((0 : Int) ≤ 7 - (c : Int)) = True := by simp; omega
      have eb : ∀ k : Int, k = 8 * (i : Int) + (7 - (c : Int)) → rb x y k = rbN x y (8 * i + (7 - c)) := by
        rintro k rfl
        unfold rbN
        congr 1; omega
      unfold bxr
      (refine gw1 @h2 ?_; try exact True.intro)
      refine ⟨by omega, by omega, by omega, by omega, ?_⟩
      refine f18 ?_
      rw [eb _ rfl]
      have ep : part x y i (c + 1) = 2 * part x y i c + (if rbN x y (8 * i + (7 - c)) = true then 1 else 0) := rfl
      have ek : (7 : Int) - (c : Int) - 1 = 7 - ((c + 1 : Nat) : Int) := by omega
      cases hb2 : rbN x y (8 * i + (7 - c)) with
      | true =>
        rw [hb2, if_pos rfl] at ep
        (refine gw1 @h2 ?_; try exact True.intro)
        refine ⟨by omega, by omega, 8 - (c + 1), by omega, c + 1, _, _, by rw [ep, ← ek], rfl, by omega⟩
      | false =>
        rw [hb2, if_neg (by decide)] at ep
        have e0 : 2 * part x y i c + 0 = 2 * part x y i c := by simp
        rw [e0] at ep
        (refine gw1 @h2 ?_; try exact True.intro)
        refine ⟨by omega, by omega, 8 - (c + 1), by omega, c + 1, _, _, by rw [ep, ← ek], rfl, by omega⟩
    · have h2 : ((0 : Int) ≤ 7 - (c : Int)) = False := by simp; omega
      have hc8 : c = 8 := by omega
      have e : plist x y (i + 1) = plist x y i ++ [part x y i c] := by
        rw [hc8]; unfold plist; rw [List.range_succ, List.map_append]; rfl
      rcases hc with ⟨rfl, rfl, rfl⟩ | ⟨hpos, rfl, T, J, rfl⟩
      · have e : plist x y 1 = [part x y 0 c] := e
        (refine gw1 @h2 ?_; try exact True.intro)
        refine ⟨16 - (0 + 1), by omega, 0 + 1, _, _, _, _, _, _, _, rfl, rfl, by omega, .inr ⟨by omega, rfl, _, [], by rw [e]; rfl⟩⟩
      · (refine gw1 @h2 ?_; try exact True.intro)
        repeat (refine And.intro (by omega) ?_)
        refine ⟨16 - (i + 1), by omega, i + 1, _, _, _, _, _, _, _, rfl, rfl, by omega, .inr ⟨by omega, rfl, _, _, by rw [e, List.map_append]; rfl⟩⟩
  · have h1 : ((i : Int) < (16 : Int)) = False := by simp; omega
    have hie : i = 16 := by omega
    subst hie
    rcases hc with ⟨h0, _⟩ | ⟨hpos, rfl, T, J, rfl⟩
    · omega
    · have hall : List.take 16 ((plist x y 16).map AV.u8) = (plist x y 16).map AV.u8 := List.take_of_length_le (by simp [plist])
      (refine gw3 @h1 @hall @bytesOf_m ?_; try exact True.intro)
      exact h

/-! both say the same -/
theorem part_nat {x y : BitVec 64} {i c : Nat} {w : Nat} {s : Nat} (hw : ∀ j, j < 8 → rbN x y (8 * i + j) = decide (w / 2 ^ (s + j) % 2 = 1)) (hc : c ≤ 8) : (part x y i c).toNat = w / 2 ^ (s + (8 - c)) % 2 ^ c := by
  induction c with
  | zero => simp [part, Nat.mod_one]
  | succ c ih =>
    have ih := ih (by omega)
    have hlt : (part x y i c).toNat < 2 ^ c := by rw [ih]; exact Nat.mod_lt _ (Nat.two_pow_pos c)
    have hle : 2 ^ (c + 1) ≤ 2 ^ 8 := Nat.pow_le_pow_right (by omega) hc
    have hp : 2 ^ (c + 1) = 2 ^ c * 2 := Nat.pow_succ 2 c
    have hb : (if rbN x y (8 * i + (7 - c)) = true then (1 : BitVec 8) else 0).toNat = w / 2 ^ (s + (7 - c)) % 2 := by
      rw [hw (7 - c) (by omega)]
      have h2 : w / 2 ^ (s + (7 - c)) % 2 = 0 ∨ w / 2 ^ (s + (7 - c)) % 2 = 1 := by omega
      rcases h2 with h2 | h2 <;> rw [h2] <;> rfl
    show (2 * part x y i c + (if rbN x y (8 * i + (7 - c)) = true then 1 else 0)).toNat = _
    rw [BitVec.toNat_add, BitVec.toNat_mul, hb, show (2 : BitVec 8).toNat = 2 from rfl]
    have e1 : s + (8 - c) = s + (7 - c) + 1 := by omega
    have e2 : s + (8 - (c + 1)) = s + (7 - c) := by omega
    rw [e1, Nat.pow_succ, ← Nat.div_div_eq_div_mul] at ih
    rw [e2]
    generalize w / 2 ^ (s + (7 - c)) = u at *
    have hm : u % 2 ^ (c + 1) = u % 2 + 2 * (u / 2 % 2 ^ c) := by rw [Nat.pow_succ, Nat.mul_comm (2 ^ c) 2, Nat.mod_mul]
    rw [hm, ← ih]
    have : 2 ^ 8 = 256 := rfl
    omega

theorem bitd (x : BitVec 64) (j : Nat) : x.getLsbD j = decide (x.toNat / 2 ^ j % 2 = 1) := by
  rw [← BitVec.testBit_toNat, Nat.testBit_eq_decide_div_mod_eq]

theorem part_x {x y : BitVec 64} {i : Nat} (hi : i < 8) : part x y i 8 = (x >>> (8 * i)).setWidth 8 := by
  apply BitVec.eq_of_toNat_eq
  rw [part_nat (w := x.toNat) (s := 8 * i) ?_ (Nat.le_refl _), BitVec.toNat_setWidth, BitVec.toNat_ushiftRight, Nat.shiftRight_eq_div_pow]
  · rfl
  · intro j hj
    unfold rbN rb
    rw [if_pos (by omega), ← bitd]
    rfl
theorem part_y {x y : BitVec 64} {i : Nat} (hi : i < 8) : part x y (8 + i) 8 = (y >>> (8 * i)).setWidth 8 := by
  apply BitVec.eq_of_toNat_eq
  rw [part_nat (w := y.toNat) (s := 8 * i) ?_ (Nat.le_refl _), BitVec.toNat_setWidth, BitVec.toNat_ushiftRight, Nat.shiftRight_eq_div_pow]
  · rfl
  · intro j hj
    unfold rbN rb
    rw [if_neg (by omega), if_pos (by omega), ← bitd]
    congr 1; omega
theorem plist_row (x y : BitVec 64) : plist x y 16 = rowB x y := by
  have e : plist x y 16 = [part x y 0 8, part x y 1 8, part x y 2 8, part x y 3 8, part x y 4 8, part x y 5 8, part x y 6 8, part x y 7 8,
    part x y (8 + 0) 8, part x y (8 + 1) 8, part x y (8 + 2) 8, part x y (8 + 3) 8, part x y (8 + 4) 8, part x y (8 + 5) 8, part x y (8 + 6) 8, part x y (8 + 7) 8] := rfl
  rw [e, part_x (by omega), part_x (by omega), part_x (by omega), part_x (by omega), part_x (by omega), part_x (by omega), part_x (by omega), part_x (by omega),
    part_y (by omega), part_y (by omega), part_y (by omega), part_y (by omega), part_y (by omega), part_y (by omega), part_y (by omega), part_y (by omega)]
  rfl

theorem f21 {K : AV → Heap → Prop} {H : Heap} (h : K (.bool true) H) : wpF P [] 21 [] H K := by
  refine wpF_go c21 rfl 3 ?_
  intro ha hb
  simp only [s21]
  (refine gw0 ?_; try exact True.intro)
  refine drawp _ (fun H => f17 (x := 1) (y := 0) (i := 0) ⟨rfl, rfl⟩) ?_
  rw [show rb 1 0 0 = true from by decide]
  (refine gw0 ?_; try exact True.intro)
  refine drawp _ (fun H => f17 (x := 1) (y := 0) (i := 64) ⟨rfl, rfl⟩) ?_
  rw [show rb 1 0 64 = false from by decide]
  (refine gw0 ?_; try exact True.intro)
  refine drawp _ (fun H => f19 (x := 258) (y := 0) ⟨rfl, rfl⟩) ?_
  rw [show rowB 258 0 = [2, 1, 0, 0, 0, 0, 0, 0, 0, 0, 0, 0, 0, 0, 0, 0] from by decide]
  (refine gw0 ?_; try exact True.intro)
  exact h


/-! the law -/
theorem rb_xor (x y z w : BitVec 64) (k : Int) : rb (x ^^^ z) (y ^^^ w) k = (rb x y k != rb z w k) := by
  unfold rb
  split
  · simp
  · split
    · simp
    · rfl
theorem rb_zero (k : Int) : rb 0 0 k = false := by
  unfold rb; split
  · simp
  · split <;> simp

def I3 (x y z w u v : BitVec 64) (b : Bool) (i : AV) (G : Heap) (N : Nat) (q : Nat) (st : St) : Prop :=
  ∃ (k : Nat) (u2 u3 : AV), st = ⟨[.agg [.u64 x, .u64 y], .agg [.u64 z, .u64 w], i, .bool b, .ptr N 0 [0] (.arr 2 .leaf), .ptr (N + 1) 0 [0] (.arr 2 .leaf), .bool false, .ptr (N + 2) 0 [0] (.arr 2 .leaf), .ptr (N + 3) 0 [0] (.arr 2 .leaf), .int (k : Int), .bool false, u2, u3], G⟩ ∧ q = 128 - k ∧ k ≤ 128

set_option maxHeartbeats 4000000 in
theorem f3 {K : AV → Heap → Prop} {H : Heap} {x y z w : BitVec 64} {i : Int} {b : Bool} (h : K (.bool true) H) : wpF P [] 3 [rowV x y, rowV z w, .int i, .bool b] H K := by
  refine wpF_go c3 rfl 3 ?_
  intro ha hb
  simp only [s3, rowV]
  (refine gw0 ?_; try exact True.intro)
  refine drawp _ (fun H => f15 (x := x) (y := y) (z := z) (w := w) ⟨rfl, rfl⟩) ?_
  simp only [rowV]
  (refine gw0 ?_; try exact True.intro)
  have e16 : (if b = true then rowV x y else rowV 0 0) = rowV (if b = true then x else 0) (if b = true then y else 0) := by cases b <;> rfl
  refine drawp _ (fun H => f16 (x := x) (y := y) ⟨e16, rfl⟩) ?_
  simp only [rowV]
  have eu : ∀ k, rb (if b = true then x else 0) (if b = true then y else 0) k = (b && rb x y k) := by
    intro k; cases b
    · exact rb_zero k
    · simp
  generalize (if b = true then x else 0) = u at eu
  generalize (if b = true then y else 0) = v at eu
  (refine gw0 ?_; try exact True.intro)
  refine drawn _ (f17 ⟨rfl, rfl⟩) ?_
  (refine gw0 ?_; try exact True.intro)
  refine drawn _ (f18 ⟨rfl, rfl⟩) ?_
  (refine gw0 ?_; try exact True.intro)
  refine drawn _ (f19 ⟨rfl, rfl⟩) ?_
  (refine gw0 ?_; try exact True.intro)
  refine drawn _ (f20 ⟨by rw [plist_row], rfl⟩) ?_
  (refine gw0 ?_; try exact True.intro)
  refine wp_inv (I3 x y z w u v b (.int i) _ H.length) 128 ⟨0, _, _, rfl, rfl, by omega⟩ ?_
  rintro q st ⟨k, u2, u3, rfl, rfl, hk⟩
  by_cases hkl : k < 128
  · have h1 : ((k : Int) < (128 : Int)) = True := by simp; omega
    (refine gw1 @h1 ?_; try exact True.intro)
    have hx : rb (x ^^^ z) (y ^^^ w) (k : Int) = (rb x y k != rb z w k) := rb_xor ..
    have hu := eu (k : Int)
    generalize hp : rb x y (k : Int) = p at hx hu
    generalize hr : rb z w (k : Int) = r at hx
    have fin : ∀ u2 u3, ∃ k', k' < 128 - k ∧ I3 x y z w u v b (.int i) (H ++ [some ⟨24, 0, false, .arr 1 (.arr 2 .leaf), .agg [.agg [.u64 x, .u64 y]]⟩, some ⟨24, 0, false, .arr 1 (.arr 2 .leaf), .agg [.agg [.u64 z, .u64 w]]⟩,
        some ⟨24, 0, false, .arr 1 (.arr 2 .leaf), .agg [.agg [.u64 (x ^^^ z), .u64 (y ^^^ w)]]⟩, some ⟨24, 0, false, .arr 1 (.arr 2 .leaf), .agg [.agg [.u64 u, .u64 v]]⟩]) H.length k'
        ⟨[.agg [.u64 x, .u64 y], .agg [.u64 z, .u64 w], .int i, .bool b, .ptr H.length 0 [0] (.arr 2 .leaf), .ptr (H.length + 1) 0 [0] (.arr 2 .leaf), .bool false, .ptr (H.length + 2) 0 [0] (.arr 2 .leaf), .ptr (H.length + 3) 0 [0] (.arr 2 .leaf), .int ((k : Int) + 1), .bool false, u2, u3], _⟩ :=
      fun u2 u3 => ⟨128 - (k + 1), by omega, k + 1, u2, u3, rfl, rfl, by omega⟩
    cases b <;> cases p <;> cases r
    all_goals
      simp only [bne_self_eq_false, Bool.false_bne, Bool.bne_false, Bool.true_bne, Bool.not_true, Bool.not_false, Bool.and_self, Bool.and_false, Bool.false_and, Bool.and_true] at hx hu
      refine drawn _ (f18 ⟨by rw [hx], rfl⟩) ?_
      (refine gw0 ?_; try exact True.intro)
      refine drawn _ (f18 ⟨by rw [hp], rfl⟩) ?_
      (refine gw0 ?_; try exact True.intro)
      refine drawn _ (f18 ⟨by rw [hr], rfl⟩) ?_
      (refine gw0 ?_; try exact True.intro)
      refine drawn _ (f18 ⟨by rw [hu], rfl⟩) ?_
      (refine gw0 ?_; try exact True.intro)
      first
      | exact ⟨by omega, by omega, fin _ _⟩
      | (refine drawn _ (f18 ⟨by rw [hp], rfl⟩) ?_
         (refine gw0 ?_; try exact True.intro)
         exact ⟨by omega, by omega, fin _ _⟩)
  · have h1 : ((k : Int) < (128 : Int)) = False := by simp; omega
    (refine gw1 @h1 ?_; try exact True.intro)
    refine f21 ?_
    (refine gw0 ?_; try exact True.intro)
    exact h
end Go.Proofs.Ytebmlmkiblieiaa
