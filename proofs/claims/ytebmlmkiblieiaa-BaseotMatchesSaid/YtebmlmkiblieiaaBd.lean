/-
  One direction of layer 15, of a root, both sides.
-/
import Derived.Test.YtebmlmkiblieiaaPv
import Derived.Test.YtebmlmkiblieiaaWd
import Derived.Test.YtebmlmkiblieiaaV38
open Go Go.V
namespace Go.Proofs.Ytebmlmkiblieiaa
/-- trefoil/baseot.deal (0:root, 1:root, 2:, 3:, 4:s, 5:r, 6:w, 8:i, 9:zero, 10:one, 20:, 21:, 49:) -/
def s60 : FnS := ⟨65, [0, 1, 2, 3, 4, 5, 6, 8, 9, 10, 20, 21, 49],
    (.seq (.reg [⟨.var 1, (.e (.box 32 (.arr 32 .leaf))), [.t 0], none⟩,
      ⟨.var 2, (.e (.alloc 52 (.st [(.arr 2 .leaf), .leaf]) (.agg [(.agg [(.u64 0), (.u64 0)]), .nils]))), [], none⟩,
      ⟨.var 3, (.e (.alloc 54 (.st [.leaf, .leaf]) (.agg [.nils, .nils]))), [], none⟩])
    (.seq (.reg [⟨.var 4, (.e (.alloc 52 (.st [(.arr 2 .leaf), .leaf]) (.agg [(.agg [(.u64 0), (.u64 0)]), .nils]))), [], none⟩])
    (.seq (.reg [⟨.var 5, (.e (.alloc 54 (.st [.leaf, .leaf]) (.agg [.nils, .nils]))), [], none⟩])
    (.seq (.reg [⟨.new, (.q (.ld (.arr 32 .leaf))), [.t 1], none⟩,
      ⟨.new, (.call 53), [.t 13, .c (.u32 9), .c (.int 0), .c (.int 2)], none⟩,
      ⟨.new, (.q .mv), [.t 14], none⟩,
      ⟨.new, (.q (.ext 0)), [.t 15], none⟩,
      ⟨.new, (.q (.ext 1)), [.t 15], none⟩,
      ⟨.var 6, (.q .mv), [.t 16], none⟩,
      ⟨.new, (.q .mv), [.t 17], none⟩])
    (.seq (.reg [⟨.new, (.q (.fa [(.arr 2 .leaf), .leaf] 0)), [.t 4], none⟩,
      ⟨.new, (.q (.slA 2 .leaf false false)), [.t 13], none⟩,
      ⟨.new, (.q .mv), [.t 6], none⟩,
      ⟨.new, (.e (.cpy .leaf)), [.t 14, .t 15], none⟩])
    (.seq (.seq (.reg [⟨.var 10, (.q .mv), [.c (.int 0)], none⟩])
    (.block 0 (.loop (.seq (.reg [⟨.var 11, (.q (.bin .lss)), [.t 10, .c (.int 128)], none⟩])
    (.seq (.cond (.t 11) .skip
    (.exit 0))
    (.seq (.block 1 (.seq (.reg [⟨.new, (.q .mv), [.t 10], none⟩,
      ⟨.var 7, (.q .mv), [.t 13], none⟩])
    (.seq (.draw [⟨.new, (.q (.ld (.arr 32 .leaf))), [.t 1], none⟩,
      ⟨.new, (.q .mv), [.t 7], none⟩,
      ⟨.new, (.q (.bin .mul)), [.c (.int 2), .t 14], none⟩,
      ⟨.new, (.q (.cv .u64)), [.t 15], none⟩,
      ⟨.new, (.callp 22), [.t 13, .t 16], none⟩,
      ⟨.new, (.q (.ld (.arr 32 .leaf))), [.t 1], none⟩,
      ⟨.new, (.q .mv), [.t 7], none⟩,
      ⟨.new, (.q (.bin .mul)), [.c (.int 2), .t 19], none⟩,
      ⟨.new, (.q (.bin .add)), [.t 20, .c (.int 1)], none⟩,
      ⟨.new, (.q (.cv .u64)), [.t 21], none⟩,
      ⟨.new, (.callp 22), [.t 18, .t 22], none⟩,
      ⟨.var 8, (.e (.alloc 32 (.arr 32 .leaf) (.agg [(.u8 0), (.u8 0), (.u8 0), (.u8 0), (.u8 0), (.u8 0), (.u8 0), (.u8 0), (.u8 0), (.u8 0), (.u8 0), (.u8 0), (.u8 0), (.u8 0), (.u8 0), (.u8 0), (.u8 0), (.u8 0), (.u8 0), (.u8 0), (.u8 0), (.u8 0), (.u8 0), (.u8 0), (.u8 0), (.u8 0), (.u8 0), (.u8 0), (.u8 0), (.u8 0), (.u8 0), (.u8 0)]))), [], none⟩,
      ⟨.var 9, (.e (.alloc 32 (.arr 32 .leaf) (.agg [(.u8 0), (.u8 0), (.u8 0), (.u8 0), (.u8 0), (.u8 0), (.u8 0), (.u8 0), (.u8 0), (.u8 0), (.u8 0), (.u8 0), (.u8 0), (.u8 0), (.u8 0), (.u8 0), (.u8 0), (.u8 0), (.u8 0), (.u8 0), (.u8 0), (.u8 0), (.u8 0), (.u8 0), (.u8 0), (.u8 0), (.u8 0), (.u8 0), (.u8 0), (.u8 0), (.u8 0), (.u8 0)]))), [], none⟩,
      ⟨.none, (.e (.store (.arr 32 .leaf))), [.t 8, .t 17], none⟩,
      ⟨.none, (.e (.store (.arr 32 .leaf))), [.t 9, .t 23], none⟩])
    (.seq (.draw [⟨.none, (.pairs [(4, 6), (4, 7)]), [], none⟩,
      ⟨.new, (.q (.fa [.leaf, .leaf] 0)), [.t 5], none⟩,
      ⟨.new, (.q (.ld .leaf)), [.t 13], none⟩,
      ⟨.new, (.q (.ld (.arr 32 .leaf))), [.t 8], none⟩,
      ⟨.new, (.e (.bsl 32 (.arr 32 .leaf) (.agg [(.u8 0), (.u8 0), (.u8 0), (.u8 0), (.u8 0), (.u8 0), (.u8 0), (.u8 0), (.u8 0), (.u8 0), (.u8 0), (.u8 0), (.u8 0), (.u8 0), (.u8 0), (.u8 0), (.u8 0), (.u8 0), (.u8 0), (.u8 0), (.u8 0), (.u8 0), (.u8 0), (.u8 0), (.u8 0), (.u8 0), (.u8 0), (.u8 0), (.u8 0), (.u8 0), (.u8 0), (.u8 0)]) 1 [0])), [.t 15], none⟩,
      ⟨.new, (.e (.app 32 (.arr 32 .leaf) 32)), [.t 14, .t 16], none⟩,
      ⟨.new, (.q (.fa [.leaf, .leaf] 1)), [.t 5], none⟩,
      ⟨.new, (.q (.ld .leaf)), [.t 18], none⟩,
      ⟨.new, (.q (.ld (.arr 32 .leaf))), [.t 9], none⟩,
      ⟨.new, (.e (.bsl 32 (.arr 32 .leaf) (.agg [(.u8 0), (.u8 0), (.u8 0), (.u8 0), (.u8 0), (.u8 0), (.u8 0), (.u8 0), (.u8 0), (.u8 0), (.u8 0), (.u8 0), (.u8 0), (.u8 0), (.u8 0), (.u8 0), (.u8 0), (.u8 0), (.u8 0), (.u8 0), (.u8 0), (.u8 0), (.u8 0), (.u8 0), (.u8 0), (.u8 0), (.u8 0), (.u8 0), (.u8 0), (.u8 0), (.u8 0), (.u8 0)]) 1 [0])), [.t 20], none⟩,
      ⟨.new, (.e (.app 32 (.arr 32 .leaf) 32)), [.t 19, .t 21], none⟩,
      ⟨.new, (.q (.fa [.leaf, .leaf] 0)), [.t 5], none⟩,
      ⟨.none, (.e (.store .leaf)), [.t 23, .t 17], none⟩,
      ⟨.new, (.q (.fa [.leaf, .leaf] 1)), [.t 5], none⟩,
      ⟨.none, (.e (.store .leaf)), [.t 24, .t 22], none⟩])
    (.seq (.reg [⟨.new, (.q (.fa [(.arr 2 .leaf), .leaf] 0)), [.t 4], none⟩,
      ⟨.new, (.q (.ld (.arr 2 .leaf))), [.t 13], none⟩,
      ⟨.new, (.q .mv), [.t 7], none⟩,
      ⟨.var 12, (.call 17), [.t 14, .t 15], none⟩])
    (.cond (.t 12) (.reg [⟨.new, (.q (.fa [(.arr 2 .leaf), .leaf] 1)), [.t 4], none⟩,
      ⟨.new, (.q (.ld .leaf)), [.t 13], none⟩,
      ⟨.new, (.q (.ld (.arr 32 .leaf))), [.t 9], none⟩,
      ⟨.new, (.e (.bsl 32 (.arr 32 .leaf) (.agg [(.u8 0), (.u8 0), (.u8 0), (.u8 0), (.u8 0), (.u8 0), (.u8 0), (.u8 0), (.u8 0), (.u8 0), (.u8 0), (.u8 0), (.u8 0), (.u8 0), (.u8 0), (.u8 0), (.u8 0), (.u8 0), (.u8 0), (.u8 0), (.u8 0), (.u8 0), (.u8 0), (.u8 0), (.u8 0), (.u8 0), (.u8 0), (.u8 0), (.u8 0), (.u8 0), (.u8 0), (.u8 0)]) 1 [0])), [.t 15], none⟩,
      ⟨.new, (.e (.app 32 (.arr 32 .leaf) 32)), [.t 14, .t 16], none⟩,
      ⟨.new, (.q (.fa [(.arr 2 .leaf), .leaf] 1)), [.t 4], none⟩,
      ⟨.none, (.e (.store .leaf)), [.t 18, .t 17], none⟩])
    (.reg [⟨.new, (.q (.fa [(.arr 2 .leaf), .leaf] 1)), [.t 4], none⟩,
      ⟨.new, (.q (.ld .leaf)), [.t 13], none⟩,
      ⟨.new, (.q (.ld (.arr 32 .leaf))), [.t 8], none⟩,
      ⟨.new, (.e (.bsl 32 (.arr 32 .leaf) (.agg [(.u8 0), (.u8 0), (.u8 0), (.u8 0), (.u8 0), (.u8 0), (.u8 0), (.u8 0), (.u8 0), (.u8 0), (.u8 0), (.u8 0), (.u8 0), (.u8 0), (.u8 0), (.u8 0), (.u8 0), (.u8 0), (.u8 0), (.u8 0), (.u8 0), (.u8 0), (.u8 0), (.u8 0), (.u8 0), (.u8 0), (.u8 0), (.u8 0), (.u8 0), (.u8 0), (.u8 0), (.u8 0)]) 1 [0])), [.t 15], none⟩,
      ⟨.new, (.e (.app 32 (.arr 32 .leaf) 32)), [.t 14, .t 16], none⟩,
      ⟨.new, (.q (.fa [(.arr 2 .leaf), .leaf] 1)), [.t 4], none⟩,
      ⟨.none, (.e (.store .leaf)), [.t 18, .t 17], none⟩])))))))
    (.reg [⟨.new, (.q (.bin .add)), [.t 10, .c (.int 1)], none⟩,
      ⟨.var 10, (.q .mv), [.t 13], none⟩])))))))
    (.seq (.draw [⟨.none, (.pairs [(1, 2)]), [], none⟩,
      ⟨.new, (.q (.ld (.st [(.arr 2 .leaf), .leaf]))), [.t 4], none⟩,
      ⟨.new, (.q (.ld (.st [.leaf, .leaf]))), [.t 5], none⟩,
      ⟨.none, (.e (.store (.st [(.arr 2 .leaf), .leaf]))), [.t 2, .t 13], none⟩,
      ⟨.none, (.e (.store (.st [.leaf, .leaf]))), [.t 3, .t 14], none⟩])
    .ret))))))),
    [.cell 2 (.st [(.arr 2 .leaf), .leaf]), .cell 3 (.st [.leaf, .leaf])]⟩

/-- trefoil/trefoilref15.Direction (0:root, 1:root, 2:, 3:w, 5:d, 6:i, 7:k, 22:, 54:) -/
def s61 : FnS := ⟨67, [0, 1, 2, 3, 5, 6, 7, 22, 54],
    (.seq (.reg [⟨.var 1, (.e (.box 32 (.arr 32 .leaf))), [.t 0], none⟩,
      ⟨.var 2, (.e (.alloc 60 (.st [(.arr 2 .leaf), .leaf, .leaf, .leaf]) (.agg [(.agg [(.u64 0), (.u64 0)]), .nils, .nils, .nils]))), [], none⟩])
    (.seq (.reg [⟨.new, (.q (.ld (.arr 32 .leaf))), [.t 1], none⟩,
      ⟨.new, (.call 34), [.t 9, .c (.u32 9), .c (.int 0), .c (.int 2)], none⟩,
      ⟨.new, (.q .mv), [.t 10], none⟩,
      ⟨.new, (.q (.ext 0)), [.t 11], none⟩,
      ⟨.new, (.q (.ext 1)), [.t 11], none⟩,
      ⟨.var 3, (.q .mv), [.t 12], none⟩,
      ⟨.new, (.q .mv), [.t 13], none⟩])
    (.seq (.draw [⟨.new, (.q .mv), [.t 3], none⟩,
      ⟨.new, (.q (.iaS .leaf)), [.t 9, .c (.int 0)], none⟩,
      ⟨.new, (.q (.ld .leaf)), [.t 10], none⟩,
      ⟨.new, (.q .mv), [.t 3], none⟩,
      ⟨.new, (.q (.iaS .leaf)), [.t 12, .c (.int 1)], none⟩,
      ⟨.new, (.q (.ld .leaf)), [.t 13], none⟩,
      ⟨.new, (.e (.bld (.arr 2 .leaf) (.agg [(.u64 0), (.u64 0)]) [0, 1])), [.t 11, .t 14], none⟩,
      ⟨.new, (.e (.bld (.st [(.arr 2 .leaf), .leaf, .leaf, .leaf]) (.agg [(.agg [(.u64 0), (.u64 0)]), .nils, .nils, .nils]) [0])), [.t 15], none⟩,
      ⟨.var 4, (.e (.alloc 60 (.st [(.arr 2 .leaf), .leaf, .leaf, .leaf]) (.agg [(.agg [(.u64 0), (.u64 0)]), .nils, .nils, .nils]))), [], none⟩,
      ⟨.none, (.e (.store (.st [(.arr 2 .leaf), .leaf, .leaf, .leaf]))), [.t 4, .t 16], none⟩])
    (.seq (.seq (.reg [⟨.var 5, (.q .mv), [.c (.int 0)], none⟩])
    (.block 0 (.loop (.seq (.seq (.reg [⟨.new, (.q .mv), [.t 5], none⟩,
      ⟨.var 7, (.q (.bin .lss)), [.t 9, .c (.int 128)], none⟩])
    (.cond (.t 7) .skip
    (.exit 0)))
    (.seq (.block 1 (.seq (.draw [⟨.new, (.q (.fa [(.arr 2 .leaf), .leaf, .leaf, .leaf] 1)), [.t 4], none⟩,
      ⟨.new, (.q (.ld .leaf)), [.t 9], none⟩,
      ⟨.new, (.q (.ld (.arr 32 .leaf))), [.t 1], none⟩,
      ⟨.new, (.q .mv), [.t 5], none⟩,
      ⟨.new, (.q (.bin .mul)), [.c (.int 2), .t 12], none⟩,
      ⟨.new, (.q (.cv .u64)), [.t 13], none⟩,
      ⟨.new, (.call 23), [.t 11, .t 14], none⟩,
      ⟨.new, (.e (.bsl 32 (.arr 32 .leaf) (.agg [(.u8 0), (.u8 0), (.u8 0), (.u8 0), (.u8 0), (.u8 0), (.u8 0), (.u8 0), (.u8 0), (.u8 0), (.u8 0), (.u8 0), (.u8 0), (.u8 0), (.u8 0), (.u8 0), (.u8 0), (.u8 0), (.u8 0), (.u8 0), (.u8 0), (.u8 0), (.u8 0), (.u8 0), (.u8 0), (.u8 0), (.u8 0), (.u8 0), (.u8 0), (.u8 0), (.u8 0), (.u8 0)]) 1 [0])), [.t 15], none⟩,
      ⟨.new, (.e (.app 32 (.arr 32 .leaf) 32)), [.t 10, .t 16], none⟩,
      ⟨.new, (.q (.fa [(.arr 2 .leaf), .leaf, .leaf, .leaf] 1)), [.t 4], none⟩,
      ⟨.none, (.e (.store .leaf)), [.t 18, .t 17], none⟩])
    (.seq (.draw [⟨.new, (.q (.fa [(.arr 2 .leaf), .leaf, .leaf, .leaf] 2)), [.t 4], none⟩,
      ⟨.new, (.q (.ld .leaf)), [.t 9], none⟩,
      ⟨.new, (.q (.ld (.arr 32 .leaf))), [.t 1], none⟩,
      ⟨.new, (.q .mv), [.t 5], none⟩,
      ⟨.new, (.q (.bin .mul)), [.c (.int 2), .t 12], none⟩,
      ⟨.new, (.q (.bin .add)), [.t 13, .c (.int 1)], none⟩,
      ⟨.new, (.q (.cv .u64)), [.t 14], none⟩,
      ⟨.new, (.call 23), [.t 11, .t 15], none⟩,
      ⟨.new, (.e (.bsl 32 (.arr 32 .leaf) (.agg [(.u8 0), (.u8 0), (.u8 0), (.u8 0), (.u8 0), (.u8 0), (.u8 0), (.u8 0), (.u8 0), (.u8 0), (.u8 0), (.u8 0), (.u8 0), (.u8 0), (.u8 0), (.u8 0), (.u8 0), (.u8 0), (.u8 0), (.u8 0), (.u8 0), (.u8 0), (.u8 0), (.u8 0), (.u8 0), (.u8 0), (.u8 0), (.u8 0), (.u8 0), (.u8 0), (.u8 0), (.u8 0)]) 1 [0])), [.t 16], none⟩,
      ⟨.new, (.e (.app 32 (.arr 32 .leaf) 32)), [.t 10, .t 17], none⟩,
      ⟨.new, (.q (.fa [(.arr 2 .leaf), .leaf, .leaf, .leaf] 2)), [.t 4], none⟩,
      ⟨.none, (.e (.store .leaf)), [.t 19, .t 18], none⟩])
    (.seq (.reg [⟨.new, (.q (.fa [(.arr 2 .leaf), .leaf, .leaf, .leaf] 1)), [.t 4], none⟩,
      ⟨.new, (.q (.ld .leaf)), [.t 9], none⟩,
      ⟨.new, (.q .mv), [.t 5], none⟩,
      ⟨.new, (.q (.iaS (.arr 32 .leaf))), [.t 10, .t 11], none⟩,
      ⟨.new, (.q (.ld (.arr 32 .leaf))), [.t 12], none⟩,
      ⟨.var 6, (.e (.alloc 32 (.arr 32 .leaf) (.agg [(.u8 0), (.u8 0), (.u8 0), (.u8 0), (.u8 0), (.u8 0), (.u8 0), (.u8 0), (.u8 0), (.u8 0), (.u8 0), (.u8 0), (.u8 0), (.u8 0), (.u8 0), (.u8 0), (.u8 0), (.u8 0), (.u8 0), (.u8 0), (.u8 0), (.u8 0), (.u8 0), (.u8 0), (.u8 0), (.u8 0), (.u8 0), (.u8 0), (.u8 0), (.u8 0), (.u8 0), (.u8 0)]))), [], none⟩,
      ⟨.none, (.e (.store (.arr 32 .leaf))), [.t 6, .t 13], none⟩])
    (.seq (.seq (.reg [⟨.new, (.q (.fa [(.arr 2 .leaf), .leaf, .leaf, .leaf] 0)), [.t 4], none⟩,
      ⟨.new, (.q (.ld (.arr 2 .leaf))), [.t 9], none⟩,
      ⟨.new, (.q .mv), [.t 5], none⟩,
      ⟨.var 8, (.call 18), [.t 10, .t 11], none⟩])
    (.cond (.t 8) (.reg [⟨.new, (.q (.fa [(.arr 2 .leaf), .leaf, .leaf, .leaf] 2)), [.t 4], none⟩,
      ⟨.new, (.q (.ld .leaf)), [.t 9], none⟩,
      ⟨.new, (.q .mv), [.t 5], none⟩,
      ⟨.new, (.q (.iaS (.arr 32 .leaf))), [.t 10, .t 11], none⟩,
      ⟨.new, (.q (.ld (.arr 32 .leaf))), [.t 12], none⟩,
      ⟨.none, (.e (.store (.arr 32 .leaf))), [.t 6, .t 13], none⟩])
    .skip))
    (.reg [⟨.new, (.q (.fa [(.arr 2 .leaf), .leaf, .leaf, .leaf] 3)), [.t 4], none⟩,
      ⟨.new, (.q (.ld .leaf)), [.t 9], none⟩,
      ⟨.new, (.q (.ld (.arr 32 .leaf))), [.t 6], none⟩,
      ⟨.new, (.e (.bsl 32 (.arr 32 .leaf) (.agg [(.u8 0), (.u8 0), (.u8 0), (.u8 0), (.u8 0), (.u8 0), (.u8 0), (.u8 0), (.u8 0), (.u8 0), (.u8 0), (.u8 0), (.u8 0), (.u8 0), (.u8 0), (.u8 0), (.u8 0), (.u8 0), (.u8 0), (.u8 0), (.u8 0), (.u8 0), (.u8 0), (.u8 0), (.u8 0), (.u8 0), (.u8 0), (.u8 0), (.u8 0), (.u8 0), (.u8 0), (.u8 0)]) 1 [0])), [.t 11], none⟩,
      ⟨.new, (.e (.app 32 (.arr 32 .leaf) 32)), [.t 10, .t 12], none⟩,
      ⟨.new, (.q (.fa [(.arr 2 .leaf), .leaf, .leaf, .leaf] 3)), [.t 4], none⟩,
      ⟨.none, (.e (.store .leaf)), [.t 14, .t 13], none⟩]))))))
    (.reg [⟨.new, (.q .mv), [.t 5], none⟩,
      ⟨.new, (.q (.bin .add)), [.t 9, .c (.int 1)], none⟩,
      ⟨.var 5, (.q .mv), [.t 10], none⟩]))))))
    (.seq (.reg [⟨.new, (.q (.ld (.st [(.arr 2 .leaf), .leaf, .leaf, .leaf]))), [.t 4], none⟩,
      ⟨.none, (.e (.store (.st [(.arr 2 .leaf), .leaf, .leaf, .leaf]))), [.t 2, .t 9], none⟩])
    .ret))))),
    [.cell 2 (.st [(.arr 2 .leaf), .leaf, .leaf, .leaf])]⟩

/-- trefoil/trefoilref15.Seeds (0:a, 1:b, 4:, 5:i, 10:, 14:, 25:) -/
def s62 : FnS := ⟨26, [0, 1, 4, 5, 10, 14, 25],
    (.seq (.reg [⟨.var 2, (.q .mv), [.c (.bool false)], none⟩])
    (.seq (.seq (.reg [⟨.new, (.q .mv), [.t 0], none⟩,
      ⟨.new, (.q .len), [.t 7], none⟩,
      ⟨.new, (.q .mv), [.t 1], none⟩,
      ⟨.new, (.q .len), [.t 9], none⟩,
      ⟨.var 4, (.q (.bin .neq)), [.t 8, .t 10], none⟩])
    (.cond (.t 4) (.seq (.reg [⟨.var 2, (.q .mv), [.c (.bool false)], none⟩])
    .ret)
    .skip))
    (.seq (.seq (.reg [⟨.var 3, (.q .mv), [.c (.int 0)], none⟩])
    (.block 0 (.loop (.seq (.seq (.reg [⟨.new, (.q .mv), [.t 3], none⟩,
      ⟨.new, (.q .mv), [.t 0], none⟩,
      ⟨.new, (.q .len), [.t 8], none⟩,
      ⟨.var 5, (.q (.bin .lss)), [.t 7, .t 9], none⟩])
    (.cond (.t 5) .skip
    (.exit 0)))
    (.seq (.block 1 (.seq (.draw [⟨.new, (.q .mv), [.t 0], none⟩,
      ⟨.new, (.q .mv), [.t 3], none⟩,
      ⟨.new, (.q (.iaS (.arr 32 .leaf))), [.t 7, .t 8], none⟩,
      ⟨.new, (.q (.ld (.arr 32 .leaf))), [.t 9], none⟩,
      ⟨.new, (.q .mv), [.t 1], none⟩,
      ⟨.new, (.q .mv), [.t 3], none⟩,
      ⟨.new, (.q (.iaS (.arr 32 .leaf))), [.t 11, .t 12], none⟩,
      ⟨.new, (.q (.ld (.arr 32 .leaf))), [.t 13], none⟩,
      ⟨.var 6, (.q (.eqA true 32 .u8)), [.t 10, .t 14], none⟩])
    (.cond (.t 6) (.seq (.reg [⟨.var 2, (.q .mv), [.c (.bool false)], none⟩])
    .ret)
    .skip)))
    (.reg [⟨.new, (.q .mv), [.t 3], none⟩,
      ⟨.new, (.q (.bin .add)), [.t 7, .c (.int 1)], none⟩,
      ⟨.var 3, (.q .mv), [.t 8], none⟩]))))))
    (.seq (.reg [⟨.var 2, (.q .mv), [.c (.bool true)], none⟩])
    .ret)))),
    [.t 2]⟩

/-- trefoil/trefoillaw15.same (0:s, 1:r, 2:d, 3:s, 4:r, 5:d, 6:) -/
def s33 : FnS := ⟨33, [0, 1, 2, 3, 4, 5, 6],
    (.seq (.reg [⟨.var 3, (.e (.box 52 (.st [(.arr 2 .leaf), .leaf]))), [.t 0], none⟩,
      ⟨.var 4, (.e (.box 54 (.st [.leaf, .leaf]))), [.t 1], none⟩,
      ⟨.var 5, (.e (.box 60 (.st [(.arr 2 .leaf), .leaf, .leaf, .leaf]))), [.t 2], none⟩,
      ⟨.var 6, (.q .mv), [.c (.bool false)], none⟩])
    (.seq (.reg [⟨.new, (.q (.fa [(.arr 2 .leaf), .leaf] 0)), [.t 3], none⟩,
      ⟨.new, (.q (.ld (.arr 2 .leaf))), [.t 7], none⟩,
      ⟨.new, (.q (.fa [(.arr 2 .leaf), .leaf, .leaf, .leaf] 0)), [.t 5], none⟩,
      ⟨.new, (.q (.ld (.arr 2 .leaf))), [.t 9], none⟩,
      ⟨.new, (.q (.eqA false 2 .u64)), [.t 8, .t 10], none⟩,
      ⟨.new, (.q .mv), [.t 11], none⟩,
      ⟨.new, (.q (.fa [(.arr 2 .leaf), .leaf] 1)), [.t 3], (some (12, true))⟩,
      ⟨.new, (.q (.ld .leaf)), [.t 13], (some (12, true))⟩,
      ⟨.new, (.q (.fa [(.arr 2 .leaf), .leaf, .leaf, .leaf] 3)), [.t 5], (some (12, true))⟩,
      ⟨.new, (.q (.ld .leaf)), [.t 15], (some (12, true))⟩,
      ⟨.new, (.call 62), [.t 14, .t 16], (some (12, true))⟩,
      ⟨.new, (.q .pick), [.t 12, .t 17, .c (.bool false)], none⟩,
      ⟨.new, (.q .mv), [.t 18], none⟩,
      ⟨.new, (.q (.fa [.leaf, .leaf] 0)), [.t 4], (some (19, true))⟩,
      ⟨.new, (.q (.ld .leaf)), [.t 20], (some (19, true))⟩,
      ⟨.new, (.q (.fa [(.arr 2 .leaf), .leaf, .leaf, .leaf] 1)), [.t 5], (some (19, true))⟩,
      ⟨.new, (.q (.ld .leaf)), [.t 22], (some (19, true))⟩,
      ⟨.new, (.call 62), [.t 21, .t 23], (some (19, true))⟩,
      ⟨.new, (.q .pick), [.t 19, .t 24, .c (.bool false)], none⟩,
      ⟨.new, (.q .mv), [.t 25], none⟩,
      ⟨.new, (.q (.fa [.leaf, .leaf] 1)), [.t 4], (some (26, true))⟩,
      ⟨.new, (.q (.ld .leaf)), [.t 27], (some (26, true))⟩,
      ⟨.new, (.q (.fa [(.arr 2 .leaf), .leaf, .leaf, .leaf] 2)), [.t 5], (some (26, true))⟩,
      ⟨.new, (.q (.ld .leaf)), [.t 29], (some (26, true))⟩,
      ⟨.new, (.call 62), [.t 28, .t 30], (some (26, true))⟩,
      ⟨.new, (.q .pick), [.t 26, .t 31, .c (.bool false)], none⟩,
      ⟨.var 6, (.q .mv), [.t 32], none⟩])
    .ret)),
    [.t 6]⟩

set_option maxRecDepth 100000
set_option linter.unusedSimpArgs false
set_option linter.unusedVariables false
theorem c60 : cF P [] (drP P []) 60 1 s60.vm = some s60 := by kernel_rfl
theorem c61 : cF P [] (drP P []) 61 1 s61.vm = some s61 := by kernel_rfl
theorem c62 : cF P [] (drP P []) 62 2 s62.vm = some s62 := by kernel_rfl
theorem c33 : cF P [] (drP P []) 33 3 s33.vm = some s33 := by kernel_rfl
/-! seeds, and lists of them -/
def sdA (s : List (BitVec 8)) : AV := .agg (s.map .u8)
def sdL (f : Nat → List (BitVec 8)) (n : Nat) : List AV := (List.range n).map fun j => sdA (f j)
theorem sdL_len {f : Nat → List (BitVec 8)} {n : Nat} : (sdL f n).length = n := by simp [sdL]
theorem sdL_succ {f : Nat → List (BitVec 8)} {n : Nat} : sdL f n ++ [sdA (f n)] = sdL f (n + 1) := by simp [sdL, List.range_succ]
theorem demK_sd {kp : Nat → Bool} {N : Nat} {h : Heap} {d : Nat} {s : List (BitVec 8)} : demK kp N h (d + 2) (sdA s) = some (sdA s) := by
  unfold sdA
  rw [demK_agg, mapO_u8']
  rfl
theorem mapO_of {kp : Nat → Bool} {N : Nat} {h : Heap} {d : Nat} : ∀ {l : List AV}, (∀ x ∈ l, demK kp N h d x = some x) → mapO (demK kp N h d) l = some l
  | [], _ => rfl
  | x :: l, hx => by
    simp only [mapO]
    rw [hx x (by simp), mapO_of fun y hy => hx y (by simp [hy])]
theorem mapO_sd {kp : Nat → Bool} {N : Nat} {h : Heap} {d : Nat} {f : Nat → List (BitVec 8)} {n : Nat} : mapO (demK kp N h (d + 2)) (List.take n (sdL f n)) = some (sdL f n) := by
  rw [List.take_of_length_le (by rw [sdL_len]; exact Nat.le_refl _)]
  refine mapO_of fun x hx => ?_
  obtain ⟨j, _, rfl⟩ := List.mem_map.1 hx
  exact demK_sd
theorem bnds_sd {f : Nat → List (BitVec 8)} {n k : Nat} : AV.bnds k (sdL f n) = true := by
  refine bnds_iff.2 fun x hx => ?_
  obtain ⟨j, _, rfl⟩ := List.mem_map.1 hx
  simp only [sdA, AV.bnd]
  exact bnds_u8'

/-! one direction -/
def zS (ks : List (BitVec 8)) (i : Nat) : List (BitVec 8) := child ks (BitVec.ofNat 64 (2 * i))
def oS (ks : List (BitVec 8)) (i : Nat) : List (BitVec 8) := child ks (BitVec.ofNat 64 (2 * i + 1))
def kS (ks : List (BitVec 8)) (i : Nat) : List (BitVec 8) := if rb (wdg ks 9 0) (wdg ks 9 1) i = true then oS ks i else zS ks i
theorem zS_len {ks : List (BitVec 8)} {i : Nat} : (zS ks i).length = 32 := child_len _ _
theorem oS_len {ks : List (BitVec 8)} {i : Nat} : (oS ks i).length = 32 := child_len _ _

/-- a list of seeds that grew -/
def lB (i : Nat) (l : List AV) : Option Blk := some ⟨32, i, true, .arr i (.arr 32 .leaf), .agg l⟩
def sB (ks : List (BitVec 8)) (a : AV) : Option Blk := some ⟨52, 0, false, .arr 1 (.st [.arr 2 .leaf, .leaf]), .agg [.agg [.agg [.u64 (wdg ks 9 0), .u64 (wdg ks 9 1)], a]]⟩
def rB (a b : AV) : Option Blk := some ⟨54, 0, false, .arr 1 (.st [.leaf, .leaf]), .agg [.agg [a, b]]⟩
def s0B : Option Blk := some ⟨52, 0, false, .arr 1 (.st [.arr 2 .leaf, .leaf]), .agg [.agg [.agg [.u64 0, .u64 0], .nils]]⟩

def I60 (ks : List (BitVec 8)) (H : Heap) (k : Nat) (st : St) : Prop :=
  ∃ (i : Nat) (w u1 u2 u3 u4 u5 za oa ka : AV) (L : Heap), st = ⟨[.agg (ks.map .u8), .ptr H.length 0 [0] (.arr 32 .leaf), .ptr (H.length + 1) 0 [0] (.st [.arr 2 .leaf, .leaf]), .ptr (H.length + 2) 0 [0] (.st [.leaf, .leaf]),
      .ptr (H.length + 3) 0 [0] (.st [.arr 2 .leaf, .leaf]), .ptr (H.length + 4) 0 [0] (.st [.leaf, .leaf]), w, u1, u2, u3, .int (i : Int), u4, u5],
    H ++ kbx ks :: s0B :: rB .nils .nils :: sB ks ka :: rB za oa :: L⟩ ∧ k = 128 - i ∧ i ≤ 128 ∧
    ((i = 0 ∧ za = .nils ∧ oa = .nils ∧ ka = .nils ∧ L = []) ∨ (0 < i ∧ za = .own (H.length + 8) i [] 0 i (.arr 32 .leaf) ∧ oa = .own (H.length + 10) i [] 0 i (.arr 32 .leaf) ∧ ka = .own (H.length + 12) i [] 0 i (.arr 32 .leaf) ∧
      ∃ g1 g2 g3 g4 g5 J lz lo lk, L = g1 :: g2 :: g3 :: lB i lz :: g4 :: lB i lo :: g5 :: lB i lk :: J ∧ lz = sdL (zS ks) i ∧ lo = sdL (oS ks) i ∧ lk = sdL (kS ks) i))

theorem f60 {K : AV → Heap → Prop} {H : Heap} {ks : List (BitVec 8)} (hk : ks.length = 32) (h : K (.tup [.agg [rowV (wdg ks 9 0) (wdg ks 9 1), .ro (.arr 32 .leaf) (sdL (kS ks) 128)], .agg [.ro (.arr 32 .leaf) (sdL (zS ks) 128), .ro (.arr 32 .leaf) (sdL (oS ks) 128)]]) H) : wpF P [] 60 [.agg (ks.map .u8)] H K := by
  refine wpF_go c60 rfl 6 ?_
  intro ha hb
  simp only [s60]
  (refine gw1 @hk ?_; try exact True.intro)
  refine f53g (a := 0) (n := 2) hk (by omega) (by omega) ?_
  have e2 : (List.range 2).map (fun i => AV.u64 (wdg ks 9 (0 + i))) = [.u64 (wdg ks 9 0), .u64 (wdg ks 9 1)] := rfl
  rw [e2]
  simp (maxSteps := 2000000) only [↓vS_skip, ↓vS_reg, ↓vS_draw, ↓vS_seq, ↓wS_cond, ↓vS_block, ↓vS_exit, ↓vS_ret, ↓vI_nil, ↓vI_go, ↓wI_gd, ↓stepI_q, ↓stepI_e, ↓stepI_c, ↓stepI_v, ↓vD_nil, ↓vD_go, ↓wD_gd, ↓stepW_q, ↓stepW_e, ↓stepW_c, ↓stepW_v, ↓Kw_app, ↓KwD_app, ↓Kc_app, ↓Kp_app, ↓Kr_app, ↓Ks_n, ↓Ks_r, ↓Ks_x, ↓Kb_n, ↓Kb_r, ↓Kb_x, ↓Ku_n, ↓Ku_r, ↓Ku_x, ↓Kl_n, ↓Kl_r, ↓Kl_x, ↓Kend_n, ↓Kend_r, ↓Two_t, ↓Two_f, ↓unr_succ, ↓GdM_b, ↓GdM_t, ↓CdM_b, ↓TwU_t, ↓TwU_f, ↓ThI_app, ↓ThW_app, ↓ThK_app, ↓ThS_app, ↓stepI_p, ↓stepW_p, ↓stepI_n, ↓xD_n, ↓xD_q, ↓xD_e, ↓xD_c, ↓xD_v, ↓xD_p, ↓xD_m, ↓xD_s, ↓vX_nil, ↓vX_go, ↓wX_gd, ↓KwX_app, ↓stepI_m, ↓stepW_m, ↓hasSh_mbool, ↓hasSh_mu8, ↓hasSh_mu16, ↓hasSh_mu32, ↓hasSh_mu64, ↓hasSh_mint, putE_none, putE_var, putE_new, get_t, get_c, qev, eev, rsGet, rvGet, oneOf, binAV, isSh, bvBin, bvOp, bvCmp, bvSh, intBin, intSh, cvAV, unAV, AV.cnt, AV.num, Ken2_s, Ken3_s, htake_1, htake_2, beq_self_eq_true, beq_true, beq_false, Int.toNat_natCast, Int.natCast_nonneg, BitVec.reduceOfInt, BitVec.reduceToNat, bytesOf, List.map_cons, List.replicate_succ, Bool.not_eq_true, maxLen, Nat.reducePow, Nat.reduceMul, List.map_cons, List.map_nil, List.getD_cons_zero, List.getD_cons_succ, List.set_cons_zero, List.set_cons_succ, List.cons_append, List.nil_append, List.append_nil, List.take_succ_cons, List.take_zero, List.take_nil, List.length_cons, List.length_nil, List.replicate_succ, List.replicate_zero, Option.map_some, Option.map_none, List.getElem?_cons_zero, List.getElem?_cons_succ, true_and, and_true, if_true, if_false, ite_true, ite_false, reduceIte, reduceCtorEq, false_or, or_true, true_or, or_false, Option.some.injEq, Prod.mk.injEq, exists_eq_left', exists_eq_left, exists_eq_right, exists_and_left, exists_and_right, exists_const, and_assoc, decide_true, decide_false, Bool.false_eq_true, forall_const, Bool.not_true, Bool.not_false, false_implies, true_implies, Nat.reduceAdd, Nat.reduceSub, Nat.reduceMul, Nat.reduceLT, Nat.reduceLeDiff, Nat.reduceEqDiff, Int.reduceAdd, Int.reduceSub, Int.reduceMul, Int.reduceLT, Int.reduceLE, Int.reduceTMod, Int.reduceTDiv, Int.reduceToNat, Int.reduceEq, Int.reduceNe, Int.reduceNeg, ne_eq, not_false_eq_true, not_true_eq_false, InR, Bool.true_eq_false, Bool.false_eq_true, reduceDIte, Nat.zero_add, Nat.add_zero, Int.cast_ofNat_Int, eq_self, hget_0, hget_k, hget_z, hget_s, hset_0, hset_k, htake_0, lt_own0, lt_ownk, hasAt_nil, hasAt_arr, hasAt_st, hasSh_l, hasSh_aa, hasSh_sa, hasShs_n, hasShs_c, setAll, AV.isCell, Shape.size_leaf, Shape.size_arr, Shape.size_st, Shape.sizes_cons, Shape.sizes_nil, List.length_append, List.append_assoc, List.length_set, stP, ldP, getP, setP, psh, partsOf, slen, rd, dem, demK_own, demK_ptr, demK_agg, demK_tup, demK_fn, demK_ro, demK_rp, demK_bool, demK_u8, demK_u16, demK_u32, demK_u64, demK_int, demK_str, demK_nilp, demK_nils, demK_nilf, demK_un, mapO, AV.bnds, AV.bnd, bne_self_eq_false, AV.plain2, AV.plain, List.all_cons, List.all_nil, List.take_length, List.drop_zero, List.drop_succ_cons, Nat.mul_one, List.getElem?_nil, List.forall_mem_cons, List.not_mem_nil, implies_true, Bool.and_true, Bool.true_and, Bool.and_false, Bool.false_and, and_self, and_false, false_and, Nat.sub_zero, bnds, bnds_bool, bnds_bool', mapO_bool, mapO_bool', bnds_u8, bnds_u8', mapO_u8, mapO_u8', bnds_u16, bnds_u16', mapO_u16, mapO_u16', bnds_u32, bnds_u32', mapO_u32, mapO_u32', bnds_u64, bnds_u64', mapO_u64, mapO_u64', bnds_int, bnds_int', mapO_int, mapO_int', bt, bf, Bool.not_not, nilK_nils, nilK_own, nilK_ro, ninL_n, ninL_c, disL_n, disL_r, disL_c, chkL_n, chkL_c, apartL_e, fp_ld, fp_b2s, fp_st, fp_app, fp_appS, fp_cpy, fp_cpyS, tb_own, tb_ptr, tb_ro, tb_rp, tb_nils, tb_str, ne_ah, ne_ha, cpH, splL, Nat.min_self]
  refine wp_inv (I60 ks H) 128 ⟨0, _, _, _, _, _, _, _, _, _, [], rfl, rfl, by omega, .inl ⟨rfl, rfl, rfl, rfl, rfl⟩⟩ ?_
  rintro k st ⟨i, w, u1, u2, u3, u4, u5, za, oa, ka, L, rfl, rfl, hi, hc⟩
  unfold kbx s0B rB sB
  by_cases hil : i < 128
  · have hlt : ((i : Int) < 128) = True := by simp; omega
    have c1 : BitVec.ofInt 64 (2 * (i : Int)) = BitVec.ofNat 64 (2 * i) := by
      apply BitVec.eq_of_toNat_eq
      rw [BitVec.toNat_ofInt, BitVec.toNat_ofNat]
      omega
    have c2 : BitVec.ofInt 64 (2 * (i : Int) + 1) = BitVec.ofNat 64 (2 * i + 1) := by
      apply BitVec.eq_of_toNat_eq
      rw [BitVec.toNat_ofInt, BitVec.toNat_ofNat]
      omega
    have b1 : (-9223372036854775808 : Int) ≤ 2 * (i : Int) := by omega
    have b2 : 2 * (i : Int) ≤ 9223372036854775807 := by omega
    have b3 : (-9223372036854775808 : Int) ≤ 2 * (i : Int) + 1 := by omega
    have b4 : 2 * (i : Int) + 1 ≤ 9223372036854775807 := by omega
    have b5 : (-9223372036854775808 : Int) ≤ (i : Int) + 1 := by omega
    have b6 : (i : Int) + 1 ≤ 9223372036854775807 := by omega
    have hz := zS_len (ks := ks) (i := i)
    have ho := oS_len (ks := ks) (i := i)
    rcases hc with ⟨hi0, rfl, rfl, rfl, rfl⟩ | ⟨hi0, rfl, rfl, rfl, g1, g2, g3, g4, g5, J, lz, lo, lk, rfl, hlz, hlo, hlk⟩
    · (refine gw4 @hlt @c1 @b1 @b2 ?_; try exact True.intro)
      refine drawp _ (fun H' => f22 hk ⟨rfl, rfl⟩) ?_ bnd0_agg8
      rw [show child ks (BitVec.ofNat 64 (2 * i)) = zS ks i from rfl]
      (refine gw6 @hlt @c2 @b1 @b2 @b3 @b4 ?_; try exact True.intro)
      refine drawp _ (fun H' => f22 hk ⟨rfl, rfl⟩) ?_ bnd0_agg8
      rw [show child ks (BitVec.ofNat 64 (2 * i + 1)) = oS ks i from rfl]
      (refine gw8 @hlt @c2 @b1 @b2 @b3 @b4 @hz @ho ?_; try exact True.intro)
      refine f17 ?_
      by_cases hr : rb (wdg ks 9 0) (wdg ks 9 1) i = true
      · have hk2 : kS ks i = oS ks i := by unfold kS; rw [if_pos hr]
        (refine gw5 @hr @hz @ho @b5 @b6 ?_; try exact True.intro)
        subst hi0
        exact ⟨127, by omega, 1, _, _, _, _, _, _, _, _, _, _, rfl, rfl, by omega, .inr ⟨by omega, rfl, rfl, rfl, _, _, _, _, _, [], _, _, _, rfl, rfl, rfl, by rw [← hk2]; rfl⟩⟩
      · have hk2 : kS ks i = zS ks i := by unfold kS; rw [if_neg hr]
        rw [Bool.not_eq_true] at hr
        (refine gw5 @hr @hz @ho @b5 @b6 ?_; try exact True.intro)
        subst hi0
        exact ⟨127, by omega, 1, _, _, _, _, _, _, _, _, _, _, rfl, rfl, by omega, .inr ⟨by omega, rfl, rfl, rfl, _, _, _, _, _, [], _, _, _, rfl, rfl, rfl, by rw [← hk2]; rfl⟩⟩
    · unfold lB
      (refine gw4 @hlt @c1 @b1 @b2 ?_; try exact True.intro)
      refine drawp _ (fun H' => f22 hk ⟨rfl, rfl⟩) ?_ bnd0_agg8
      rw [show child ks (BitVec.ofNat 64 (2 * i)) = zS ks i from rfl]
      (refine gw6 @hlt @c2 @b1 @b2 @b3 @b4 ?_; try exact True.intro)
      refine drawp _ (fun H' => f22 hk ⟨rfl, rfl⟩) ?_ bnd0_agg8
      rw [show child ks (BitVec.ofNat 64 (2 * i + 1)) = oS ks i from rfl]
      (refine gw8 @hlt @c2 @b1 @b2 @b3 @b4 @hz @ho ?_; try exact True.intro)
      (repeat (refine And.intro (by omega) ?_))
      refine f17 ?_
      by_cases hr : rb (wdg ks 9 0) (wdg ks 9 1) i = true
      · have hk2 : kS ks i = oS ks i := by unfold kS; rw [if_pos hr]
        (refine gw5 @hr @hz @ho @b5 @b6 ?_; try exact True.intro)
        (repeat (refine And.intro (by omega) ?_))
        exact ⟨128 - (i + 1), by omega, i + 1, _, _, _, _, _, _, _, _, _, _, rfl, rfl, by omega, .inr ⟨by omega, rfl, rfl, rfl, _, _, _, _, _, _, _, _, _, rfl, by rw [hlz]; exact sdL_succ, by rw [hlo]; exact sdL_succ, by rw [hlk, ← hk2]; exact sdL_succ⟩⟩
      · have hk2 : kS ks i = zS ks i := by unfold kS; rw [if_neg hr]
        rw [Bool.not_eq_true] at hr
        (refine gw5 @hr @hz @ho @b5 @b6 ?_; try exact True.intro)
        (repeat (refine And.intro (by omega) ?_))
        exact ⟨128 - (i + 1), by omega, i + 1, _, _, _, _, _, _, _, _, _, _, rfl, rfl, by omega, .inr ⟨by omega, rfl, rfl, rfl, _, _, _, _, _, _, _, _, _, rfl, by rw [hlz]; exact sdL_succ, by rw [hlo]; exact sdL_succ, by rw [hlk, ← hk2]; exact sdL_succ⟩⟩
  · have hlt : ((i : Int) < 128) = False := by simp; omega
    rcases hc with ⟨hi0, _⟩ | ⟨hi0, rfl, rfl, rfl, g1, g2, g3, g4, g5, J, lz, lo, lk, rfl, hlz, hlo, hlk⟩
    · omega
    have hi8 : i = 128 := by omega
    subst hi8
    unfold lB
    have mz : ∀ {f : Nat → List (BitVec 8)} {kp : Nat → Bool} {N : Nat} {h : Heap}, mapO (demK kp N h 3) (List.take 128 (sdL f 128)) = some (sdL f 128) := mapO_sd
    unfold rowV at h
    subst hlz hlo hlk
    (refine gw2 @hlt @mz ?_; try exact True.intro)
    exact h

/-! the reference's -/
def dB (ks : List (BitVec 8)) (za oa ka : AV) : Option Blk := some ⟨60, 0, false, .arr 1 (.st [.arr 2 .leaf, .leaf, .leaf, .leaf]), .agg [.agg [.agg [.u64 (wdg ks 9 0), .u64 (wdg ks 9 1)], za, oa, ka]]⟩
def d0B : Option Blk := some ⟨60, 0, false, .arr 1 (.st [.arr 2 .leaf, .leaf, .leaf, .leaf]), .agg [.agg [.agg [.u64 0, .u64 0], .nils, .nils, .nils]]⟩
def I61 (ks : List (BitVec 8)) (H : Heap) (k : Nat) (st : St) : Prop :=
  ∃ (i : Nat) (w u1 u2 u3 za oa ka : AV) (L : Heap), st = ⟨[.agg (ks.map .u8), .ptr H.length 0 [0] (.arr 32 .leaf), .ptr (H.length + 1) 0 [0] (.st [.arr 2 .leaf, .leaf, .leaf, .leaf]), w,
      .ptr (H.length + 2) 0 [0] (.st [.arr 2 .leaf, .leaf, .leaf, .leaf]), .int (i : Int), u1, u2, u3],
    H ++ kbx ks :: d0B :: dB ks za oa ka :: L⟩ ∧ k = 128 - i ∧ i ≤ 128 ∧
    ((i = 0 ∧ za = .nils ∧ oa = .nils ∧ ka = .nils ∧ L = []) ∨ (0 < i ∧ za = .own (H.length + 4) i [] 0 i (.arr 32 .leaf) ∧ oa = .own (H.length + 6) i [] 0 i (.arr 32 .leaf) ∧ ka = .own (H.length + 9) i [] 0 i (.arr 32 .leaf) ∧
      ∃ g1 g2 g3 g4 J lz lo lk, L = g1 :: lB i lz :: g2 :: lB i lo :: g3 :: g4 :: lB i lk :: J ∧ lz = sdL (zS ks) i ∧ lo = sdL (oS ks) i ∧ lk = sdL (kS ks) i))

theorem f61 {K : AV → Heap → Prop} {H : Heap} {ks : List (BitVec 8)} (hk : ks.length = 32) (h : K (.agg [rowV (wdg ks 9 0) (wdg ks 9 1), .ro (.arr 32 .leaf) (sdL (zS ks) 128), .ro (.arr 32 .leaf) (sdL (oS ks) 128), .ro (.arr 32 .leaf) (sdL (kS ks) 128)]) H) : wpF P [] 61 [.agg (ks.map .u8)] H K := by
  refine wpF_go c61 rfl 6 ?_
  intro ha hb
  simp only [s61]
  (refine gw1 @hk ?_; try exact True.intro)
  refine f34g (a := 0) (n := 2) hk (by omega) (by omega) ?_
  have e2 : (List.range 2).map (fun i => AV.u64 (wdg ks 9 (0 + i))) = [.u64 (wdg ks 9 0), .u64 (wdg ks 9 1)] := rfl
  rw [if_neg (by decide), e2]
  (refine gw0 ?_; try exact True.intro)
  refine wp_inv (I61 ks H) 128 ⟨0, _, _, _, _, _, _, _, [], rfl, rfl, by omega, .inl ⟨rfl, rfl, rfl, rfl, rfl⟩⟩ ?_
  rintro k st ⟨i, w, u1, u2, u3, za, oa, ka, L, rfl, rfl, hi, hc⟩
  unfold kbx d0B dB
  by_cases hil : i < 128
  · have hlt : ((i : Int) < 128) = True := by simp; omega
    have c1 : BitVec.ofInt 64 (2 * (i : Int)) = BitVec.ofNat 64 (2 * i) := by
      apply BitVec.eq_of_toNat_eq
      rw [BitVec.toNat_ofInt, BitVec.toNat_ofNat]
      omega
    have c2 : BitVec.ofInt 64 (2 * (i : Int) + 1) = BitVec.ofNat 64 (2 * i + 1) := by
      apply BitVec.eq_of_toNat_eq
      rw [BitVec.toNat_ofInt, BitVec.toNat_ofNat]
      omega
    have b1 : (-9223372036854775808 : Int) ≤ 2 * (i : Int) := by omega
    have b2 : 2 * (i : Int) ≤ 9223372036854775807 := by omega
    have b3 : (-9223372036854775808 : Int) ≤ 2 * (i : Int) + 1 := by omega
    have b4 : 2 * (i : Int) + 1 ≤ 9223372036854775807 := by omega
    have b5 : (-9223372036854775808 : Int) ≤ (i : Int) + 1 := by omega
    have b6 : (i : Int) + 1 ≤ 9223372036854775807 := by omega
    have hz := zS_len (ks := ks) (i := i)
    have ho := oS_len (ks := ks) (i := i)
    rcases hc with ⟨hi0, rfl, rfl, rfl, rfl⟩ | ⟨hi0, rfl, rfl, rfl, g1, g2, g3, g4, J, lz, lo, lk, rfl, hlz, hlo, hlk⟩
    · have hgz : ([AV.agg ((zS ks i).map .u8)])[i]? = some (.agg ((zS ks i).map .u8)) := by subst hi0; rfl
      have hgo : ([AV.agg ((oS ks i).map .u8)])[i]? = some (.agg ((oS ks i).map .u8)) := by subst hi0; rfl
      have hi1 : ((i : Int) < 1) = True := by simp; omega
      (refine gw4 @hlt @c1 @b1 @b2 ?_; try exact True.intro)
      refine drawn _ (f23 hk ⟨rfl, rfl⟩) ?_
      rw [show child ks (BitVec.ofNat 64 (2 * i)) = zS ks i from rfl]
      (refine gw7 @hlt @c2 @b1 @b2 @b3 @b4 @hz ?_; try exact True.intro)
      refine drawn _ (f23 hk ⟨rfl, rfl⟩) ?_
      rw [show child ks (BitVec.ofNat 64 (2 * i + 1)) = oS ks i from rfl]
      (refine gw10 @hlt @c2 @b1 @b2 @b3 @b4 @ho @hz @hgz @hi1 ?_; try exact True.intro)
      refine f18 ?_
      by_cases hr : rb (wdg ks 9 0) (wdg ks 9 1) i = true
      · have hk2 : kS ks i = oS ks i := by unfold kS; rw [if_pos hr]
        (refine gw7 @hr @hz @ho @b5 @b6 @hgo @hi1 ?_; try exact True.intro)
        subst hi0
        exact ⟨127, by omega, 1, _, _, _, _, _, _, _, _, rfl, rfl, by omega, .inr ⟨by omega, rfl, rfl, rfl, _, _, _, _, [], _, _, _, rfl, rfl, rfl, by rw [← hk2]; rfl⟩⟩
      · have hk2 : kS ks i = zS ks i := by unfold kS; rw [if_neg hr]
        rw [Bool.not_eq_true] at hr
        (refine gw5 @hr @hz @ho @b5 @b6 ?_; try exact True.intro)
        subst hi0
        exact ⟨127, by omega, 1, _, _, _, _, _, _, _, _, rfl, rfl, by omega, .inr ⟨by omega, rfl, rfl, rfl, _, _, _, _, [], _, _, _, rfl, rfl, rfl, by rw [← hk2]; rfl⟩⟩
    · unfold lB
      have hgz : (lz ++ [AV.agg ((zS ks i).map .u8)])[i]? = some (.agg ((zS ks i).map .u8)) := by rw [hlz, List.getElem?_append_right (by rw [sdL_len]; omega), sdL_len]; simp
      have hgo : (lo ++ [AV.agg ((oS ks i).map .u8)])[i]? = some (.agg ((oS ks i).map .u8)) := by rw [hlo, List.getElem?_append_right (by rw [sdL_len]; omega), sdL_len]; simp
      (refine gw4 @hlt @c1 @b1 @b2 ?_; try exact True.intro)
      refine drawn _ (f23 hk ⟨rfl, rfl⟩) ?_
      rw [show child ks (BitVec.ofNat 64 (2 * i)) = zS ks i from rfl]
      (refine gw7 @hlt @c2 @b1 @b2 @b3 @b4 @hz ?_; try exact True.intro)
      (repeat (refine And.intro (by omega) ?_))
      (refine gw7 @hlt @c2 @b1 @b2 @b3 @b4 @hz ?_; try exact True.intro)
      refine drawn _ (f23 hk ⟨rfl, rfl⟩) ?_
      rw [show child ks (BitVec.ofNat 64 (2 * i + 1)) = oS ks i from rfl]
      (refine gw8 @hlt @c2 @b1 @b2 @b3 @b4 @ho @hgz ?_; try exact True.intro)
      (repeat (refine And.intro (by omega) ?_))
      refine f18 ?_
      by_cases hr : rb (wdg ks 9 0) (wdg ks 9 1) i = true
      · have hk2 : kS ks i = oS ks i := by unfold kS; rw [if_pos hr]
        (refine gw6 @hr @hz @ho @b5 @b6 @hgo ?_; try exact True.intro)
        (repeat (refine And.intro (by omega) ?_))
        exact ⟨128 - (i + 1), by omega, i + 1, _, _, _, _, _, _, _, _, rfl, rfl, by omega, .inr ⟨by omega, rfl, rfl, rfl, _, _, _, _, _, _, _, _, rfl, by rw [hlz]; exact sdL_succ, by rw [hlo]; exact sdL_succ, by rw [hlk, ← hk2]; exact sdL_succ⟩⟩
      · have hk2 : kS ks i = zS ks i := by unfold kS; rw [if_neg hr]
        rw [Bool.not_eq_true] at hr
        (refine gw5 @hr @hz @ho @b5 @b6 ?_; try exact True.intro)
        (repeat (refine And.intro (by omega) ?_))
        exact ⟨128 - (i + 1), by omega, i + 1, _, _, _, _, _, _, _, _, rfl, rfl, by omega, .inr ⟨by omega, rfl, rfl, rfl, _, _, _, _, _, _, _, _, rfl, by rw [hlz]; exact sdL_succ, by rw [hlo]; exact sdL_succ, by rw [hlk, ← hk2]; exact sdL_succ⟩⟩
  · have hlt : ((i : Int) < 128) = False := by simp; omega
    rcases hc with ⟨hi0, _⟩ | ⟨hi0, rfl, rfl, rfl, g1, g2, g3, g4, J, lz, lo, lk, rfl, hlz, hlo, hlk⟩
    · omega
    have hi8 : i = 128 := by omega
    subst hi8
    unfold lB
    have mz : ∀ {f : Nat → List (BitVec 8)} {kp : Nat → Bool} {N : Nat} {h : Heap}, mapO (demK kp N h 4) (List.take 128 (sdL f 128)) = some (sdL f 128) := mapO_sd
    unfold rowV at h
    subst hlz hlo hlk
    (refine gw2 @hlt @mz ?_; try exact True.intro)
    exact h

theorem f62 {K : AV → Heap → Prop} {H : Heap} {f : Nat → List (BitVec 8)} {n : Nat} (hn : n ≤ 1000000) (hf : ∀ i, (f i).length = 32) (h : K (.bool true) H) : wpF P [] 62 [.ro (.arr 32 .leaf) (sdL f n), .ro (.arr 32 .leaf) (sdL f n)] H K := by
  refine wpF_go c62 rfl 3 ?_
  intro ha hb
  simp only [s62]
  have hl := sdL_len (f := f) (n := n)
  have e1 : ((n : Int) = (n : Int)) = True := by simp
  (refine gw2 @hl @e1 ?_; try exact True.intro)
  refine wp_inv (fun k st => ∃ (i : Nat) (u1 u2 : AV), st = ⟨[.ro (.arr 32 .leaf) (sdL f n), .ro (.arr 32 .leaf) (sdL f n), .bool false, .int (i : Int), .bool false, u1, u2], H⟩ ∧ k = n - i ∧ i ≤ n) n ⟨0, _, _, rfl, rfl, by omega⟩ ?_
  rintro k st ⟨i, u1, u2, rfl, rfl, hi⟩
  by_cases hil : i < n
  · have hlt : ((i : Int) < (n : Int)) = True := by simp; omega
    have hg : (sdL f n).getD i .un = .agg ((f i).map .u8) := ld_rng hil
    (refine gw3 @hl @hlt @hg ?_; try exact True.intro)
    exact ⟨hf i, hf i, fun x hx => by obtain ⟨y, _, rfl⟩ := List.mem_map.1 hx; rfl, by omega, by omega, n - (i + 1), by omega, i + 1, ⟨_, _, rfl⟩, rfl, by omega⟩
  · have hlt : ((i : Int) < (n : Int)) = False := by simp; omega
    (refine gw2 @hl @hlt ?_; try exact True.intro)
    exact h

theorem kS_len {ks : List (BitVec 8)} {i : Nat} : (kS ks i).length = 32 := by unfold kS; split; exact oS_len; exact zS_len
def sndA (ks : List (BitVec 8)) : AV := .agg [.agg [.u64 (wdg ks 9 0), .u64 (wdg ks 9 1)], .ro (.arr 32 .leaf) (sdL (kS ks) 128)]
def rcvA (ks : List (BitVec 8)) : AV := .agg [.ro (.arr 32 .leaf) (sdL (zS ks) 128), .ro (.arr 32 .leaf) (sdL (oS ks) 128)]
def dirA (ks : List (BitVec 8)) : AV := .agg [.agg [.u64 (wdg ks 9 0), .u64 (wdg ks 9 1)], .ro (.arr 32 .leaf) (sdL (zS ks) 128), .ro (.arr 32 .leaf) (sdL (oS ks) 128), .ro (.arr 32 .leaf) (sdL (kS ks) 128)]

theorem f33 {K : AV → Heap → Prop} {H : Heap} {ks : List (BitVec 8)} (h : K (.bool true) H) : wpF P [] 33 [sndA ks, rcvA ks, dirA ks] H K := by
  refine wpF_go c33 rfl 3 ?_
  intro ha hb
  simp only [s33, sndA, rcvA, dirA]
  (refine gw0 ?_; try exact True.intro)
  refine ⟨rfl, rfl, ?_⟩
  refine f62 (f := kS ks) (n := 128) (by omega) (fun i => kS_len) ?_
  (refine gw0 ?_; try exact True.intro)
  refine f62 (f := zS ks) (n := 128) (by omega) (fun i => zS_len) ?_
  (refine gw0 ?_; try exact True.intro)
  refine f62 (f := oS ks) (n := 128) (by omega) (fun i => oS_len) ?_
  (refine gw0 ?_; try exact True.intro)
  exact h

end Go.Proofs.Ytebmlmkiblieiaa
