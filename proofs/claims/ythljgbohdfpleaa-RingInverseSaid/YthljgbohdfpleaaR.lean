/-
  The functions of layer 3 that reckon with numbers of so many bits, and the reference's: what each hands back, as numbers.
-/
import Derived.Test.YthljgbohdfpleaaV31
import Derived.KernelRfl
import Derived.Test.YthljgbohdfpleaaRows
open Go Go.V
namespace Go.Proofs.Ythljgbohdfpleaa
noncomputable abbrev P := Go.Proofs.Try.prog
/-- trefoil/ring.Mask (0:l, 2:, 3:, 9:) -/
def s28 : FnS := ⟨14, [0, 2, 3, 9],
    (.seq (.reg [⟨.var 1, (.q .mv), [.c (.u64 0)], none⟩,
      ⟨.var 2, (.q .mv), [.c (.int 0)], none⟩])
    (.seq (.seq (.reg [⟨.new, (.q .mv), [.t 0], none⟩,
      ⟨.new, (.q (.bin .lss)), [.t 4, .c (.int 1)], none⟩,
      ⟨.new, (.q .mv), [.t 5], none⟩,
      ⟨.new, (.q .mv), [.t 0], (some (6, false))⟩,
      ⟨.new, (.q (.bin .gtr)), [.t 7, .c (.int 64)], (some (6, false))⟩,
      ⟨.var 3, (.q .pick), [.t 6, .c (.bool true), .t 8], none⟩])
    (.cond (.t 3) (.seq (.reg [⟨.var 1, (.q .mv), [.c (.u64 0)], none⟩,
      ⟨.var 2, (.q .mv), [.c (.int 11)], none⟩])
    .ret)
    .skip))
    (.seq (.reg [⟨.new, (.q .mv), [.t 0], none⟩,
      ⟨.new, (.q (.bin .sub)), [.c (.int 64), .t 4], none⟩,
      ⟨.new, (.q (.cv .u64)), [.t 5], none⟩,
      ⟨.new, (.q (.bin .shr)), [.c (.u64 18446744073709551615), .t 6], none⟩,
      ⟨.var 1, (.q .mv), [.t 7], none⟩,
      ⟨.var 2, (.q .mv), [.c (.int 0)], none⟩])
    .ret))),
    [.t 1, .t 2]⟩

/-- trefoil/ring.mask (0:l, 2:, 3:m) -/
def s56 : FnS := ⟨11, [0, 2, 3],
    (.seq (.reg [⟨.var 1, (.q .mv), [.c (.u64 0)], none⟩])
    (.seq (.reg [⟨.new, (.q .mv), [.t 0], none⟩,
      ⟨.new, (.call 28), [.t 3], none⟩,
      ⟨.new, (.q .mv), [.t 4], none⟩,
      ⟨.new, (.q (.ext 0)), [.t 5], none⟩,
      ⟨.new, (.q (.ext 1)), [.t 5], none⟩,
      ⟨.var 2, (.q .mv), [.t 6], none⟩,
      ⟨.new, (.q .mv), [.t 7], none⟩])
    (.seq (.reg [⟨.new, (.q .mv), [.t 2], none⟩,
      ⟨.var 1, (.q .mv), [.t 3], none⟩])
    .ret))),
    [.t 1]⟩

/-- trefoil/ring.Fit (0:l, 1:x, 4:) -/
def s21 : FnS := ⟨9, [0, 1, 4],
    (.seq (.reg [⟨.var 2, (.q .mv), [.c (.u64 0)], none⟩])
    (.seq (.reg [⟨.new, (.q .mv), [.t 1], none⟩,
      ⟨.new, (.q .mv), [.t 0], none⟩,
      ⟨.new, (.call 56), [.t 4], none⟩,
      ⟨.new, (.q (.bin .and)), [.t 3, .t 5], none⟩,
      ⟨.var 2, (.q .mv), [.t 6], none⟩])
    .ret)),
    [.t 2]⟩

/-- trefoil/ring.Mul (0:l, 1:a, 2:b, 6:) -/
def s20 : FnS := ⟨13, [0, 1, 2, 6],
    (.seq (.reg [⟨.var 3, (.q .mv), [.c (.u64 0)], none⟩])
    (.seq (.reg [⟨.new, (.q .mv), [.t 1], none⟩,
      ⟨.new, (.q .mv), [.t 2], none⟩,
      ⟨.new, (.q (.bin .mul)), [.t 4, .t 5], none⟩,
      ⟨.new, (.q .mv), [.t 0], none⟩,
      ⟨.new, (.call 56), [.t 7], none⟩,
      ⟨.new, (.q (.bin .and)), [.t 6, .t 8], none⟩,
      ⟨.var 3, (.q .mv), [.t 9], none⟩])
    .ret)),
    [.t 3]⟩

/-- trefoil/ring.Add (0:l, 1:a, 2:b, 6:) -/
def s26 : FnS := ⟨13, [0, 1, 2, 6],
    (.seq (.reg [⟨.var 3, (.q .mv), [.c (.u64 0)], none⟩])
    (.seq (.reg [⟨.new, (.q .mv), [.t 1], none⟩,
      ⟨.new, (.q .mv), [.t 2], none⟩,
      ⟨.new, (.q (.bin .add)), [.t 4, .t 5], none⟩,
      ⟨.new, (.q .mv), [.t 0], none⟩,
      ⟨.new, (.call 56), [.t 7], none⟩,
      ⟨.new, (.q (.bin .and)), [.t 6, .t 8], none⟩,
      ⟨.var 3, (.q .mv), [.t 9], none⟩])
    .ret)),
    [.t 3]⟩

/-- trefoil/ring.Sub (0:l, 1:a, 2:b, 6:) -/
def s29 : FnS := ⟨13, [0, 1, 2, 6],
    (.seq (.reg [⟨.var 3, (.q .mv), [.c (.u64 0)], none⟩])
    (.seq (.reg [⟨.new, (.q .mv), [.t 1], none⟩,
      ⟨.new, (.q .mv), [.t 2], none⟩,
      ⟨.new, (.q (.bin .sub)), [.t 4, .t 5], none⟩,
      ⟨.new, (.q .mv), [.t 0], none⟩,
      ⟨.new, (.call 56), [.t 7], none⟩,
      ⟨.new, (.q (.bin .and)), [.t 6, .t 8], none⟩,
      ⟨.var 3, (.q .mv), [.t 9], none⟩])
    .ret)),
    [.t 3]⟩

/-- trefoil/ring.Neg (0:l, 1:a, 4:) -/
def s30 : FnS := ⟨10, [0, 1, 4],
    (.seq (.reg [⟨.var 2, (.q .mv), [.c (.u64 0)], none⟩])
    (.seq (.reg [⟨.new, (.q .mv), [.t 1], none⟩,
      ⟨.new, (.q (.un .neg)), [.t 3], none⟩,
      ⟨.new, (.q .mv), [.t 0], none⟩,
      ⟨.new, (.call 56), [.t 5], none⟩,
      ⟨.new, (.q (.bin .and)), [.t 4, .t 6], none⟩,
      ⟨.var 2, (.q .mv), [.t 7], none⟩])
    .ret)),
    [.t 2]⟩

/-- trefoil/ring.Inverse (0:l, 1:a, 4:, 5:, 6:x, 14:, 16:, 17:) -/
def s18 : FnS := ⟨28, [0, 1, 4, 5, 6, 14, 16, 17],
    (.seq (.reg [⟨.var 2, (.q .mv), [.c (.u64 0)], none⟩,
      ⟨.var 3, (.q .mv), [.c (.bool false)], none⟩])
    (.seq (.seq (.reg [⟨.new, (.q .mv), [.t 1], none⟩,
      ⟨.new, (.q (.bin .and)), [.t 8, .c (.u64 1)], none⟩,
      ⟨.new, (.q (.bin .eql)), [.t 9, .c (.u64 0)], none⟩,
      ⟨.new, (.q .mv), [.t 10], none⟩,
      ⟨.new, (.q .mv), [.t 0], (some (11, false))⟩,
      ⟨.new, (.call 56), [.t 12], (some (11, false))⟩,
      ⟨.new, (.q (.bin .eql)), [.t 13, .c (.u64 0)], (some (11, false))⟩,
      ⟨.var 5, (.q .pick), [.t 11, .c (.bool true), .t 14], none⟩])
    (.cond (.t 5) (.seq (.reg [⟨.var 2, (.q .mv), [.c (.u64 0)], none⟩,
      ⟨.var 3, (.q .mv), [.c (.bool false)], none⟩])
    .ret)
    .skip))
    (.seq (.reg [⟨.new, (.q .mv), [.t 1], none⟩,
      ⟨.var 4, (.q .mv), [.t 8], none⟩])
    (.seq (.seq (.reg [⟨.var 6, (.q .mv), [.c (.int 0)], none⟩])
    (.block 0 (.loop (.seq (.reg [⟨.var 7, (.q (.bin .lss)), [.t 6, .c (.int 6)], none⟩])
    (.seq (.cond (.t 7) .skip
    (.exit 0))
    (.seq (.block 1 (.reg [⟨.new, (.q .mv), [.t 4], none⟩,
      ⟨.new, (.q .mv), [.t 1], none⟩,
      ⟨.new, (.q .mv), [.t 4], none⟩,
      ⟨.new, (.q (.bin .mul)), [.t 9, .t 10], none⟩,
      ⟨.new, (.q (.bin .sub)), [.c (.u64 2), .t 11], none⟩,
      ⟨.new, (.q (.bin .mul)), [.t 8, .t 12], none⟩,
      ⟨.var 4, (.q .mv), [.t 13], none⟩]))
    (.reg [⟨.new, (.q (.bin .add)), [.t 6, .c (.int 1)], none⟩,
      ⟨.var 6, (.q .mv), [.t 8], none⟩])))))))
    (.seq (.reg [⟨.new, (.q .mv), [.t 0], none⟩,
      ⟨.new, (.q .mv), [.t 4], none⟩,
      ⟨.new, (.call 21), [.t 8, .t 9], none⟩,
      ⟨.var 2, (.q .mv), [.t 10], none⟩,
      ⟨.var 3, (.q .mv), [.c (.bool true)], none⟩])
    .ret))))),
    [.t 2, .t 3]⟩

/-- trefoil/trefoilref03.Good (0:l, 2:) -/
def s25 : FnS := ⟨9, [0, 2],
    (.seq (.reg [⟨.var 1, (.q .mv), [.c (.bool false)], none⟩])
    (.seq (.reg [⟨.new, (.q .mv), [.t 0], none⟩,
      ⟨.new, (.q (.bin .geq)), [.t 2, .c (.int 1)], none⟩,
      ⟨.new, (.q .mv), [.t 3], none⟩,
      ⟨.new, (.q .mv), [.t 0], (some (4, true))⟩,
      ⟨.new, (.q (.bin .leq)), [.t 5, .c (.int 64)], (some (4, true))⟩,
      ⟨.new, (.q .pick), [.t 4, .t 6, .c (.bool false)], none⟩,
      ⟨.var 1, (.q .mv), [.t 7], none⟩])
    .ret)),
    [.t 1]⟩

/-- trefoil/trefoilref03.Fit (0:l, 1:x, 4:, 5:out, 6:i, 13:) -/
def s27 : FnS := ⟨24, [0, 1, 4, 5, 6, 13],
    (.seq (.reg [⟨.var 2, (.q .mv), [.c (.u64 0)], none⟩])
    (.seq (.reg [⟨.var 3, (.q .mv), [.c (.u64 0)], none⟩])
    (.seq (.seq (.reg [⟨.var 4, (.q .mv), [.c (.int 0)], none⟩])
    (.block 0 (.loop (.seq (.seq (.reg [⟨.new, (.q .mv), [.t 4], none⟩,
      ⟨.new, (.q (.bin .lss)), [.t 6, .c (.int 64)], none⟩,
      ⟨.new, (.q .mv), [.t 7], none⟩,
      ⟨.new, (.q .mv), [.t 4], (some (8, true))⟩,
      ⟨.new, (.q .mv), [.t 0], (some (8, true))⟩,
      ⟨.new, (.q (.bin .lss)), [.t 9, .t 10], (some (8, true))⟩,
      ⟨.var 5, (.q .pick), [.t 8, .t 11, .c (.bool false)], none⟩])
    (.cond (.t 5) .skip
    (.exit 0)))
    (.seq (.block 1 (.reg [⟨.new, (.q .mv), [.t 3], none⟩,
      ⟨.new, (.q .mv), [.t 1], none⟩,
      ⟨.new, (.q .mv), [.t 4], none⟩,
      ⟨.new, (.q (.cv .u64)), [.t 8], none⟩,
      ⟨.new, (.q (.bin .shl)), [.c (.u64 1), .t 9], none⟩,
      ⟨.new, (.q (.bin .and)), [.t 7, .t 10], none⟩,
      ⟨.new, (.q (.bin .or)), [.t 6, .t 11], none⟩,
      ⟨.var 3, (.q .mv), [.t 12], none⟩]))
    (.reg [⟨.new, (.q .mv), [.t 4], none⟩,
      ⟨.new, (.q (.bin .add)), [.t 6, .c (.int 1)], none⟩,
      ⟨.var 4, (.q .mv), [.t 7], none⟩]))))))
    (.seq (.reg [⟨.new, (.q .mv), [.t 3], none⟩,
      ⟨.var 2, (.q .mv), [.t 6], none⟩])
    .ret)))),
    [.t 2]⟩

/-- trefoil/trefoilref03.Add (0:l, 1:a, 2:b, 6:, 7:out, 8:carry, 9:i, 10:x, 11:y, 12:s, 19:) -/
def s33 : FnS := ⟨47, [0, 1, 2, 6, 7, 8, 9, 10, 11, 12, 19],
    (.seq (.reg [⟨.var 3, (.q .mv), [.c (.u64 0)], none⟩])
    (.seq (.reg [⟨.var 4, (.q .mv), [.c (.u64 0)], none⟩,
      ⟨.var 5, (.q .mv), [.c (.u64 0)], none⟩])
    (.seq (.seq (.reg [⟨.var 6, (.q .mv), [.c (.int 0)], none⟩])
    (.block 0 (.loop (.seq (.seq (.reg [⟨.new, (.q .mv), [.t 6], none⟩,
      ⟨.new, (.q (.bin .lss)), [.t 11, .c (.int 64)], none⟩,
      ⟨.new, (.q .mv), [.t 12], none⟩,
      ⟨.new, (.q .mv), [.t 6], (some (13, true))⟩,
      ⟨.new, (.q .mv), [.t 0], (some (13, true))⟩,
      ⟨.new, (.q (.bin .lss)), [.t 14, .t 15], (some (13, true))⟩,
      ⟨.var 10, (.q .pick), [.t 13, .t 16, .c (.bool false)], none⟩])
    (.cond (.t 10) .skip
    (.exit 0)))
    (.seq (.block 1 (.seq (.reg [⟨.new, (.q .mv), [.t 1], none⟩,
      ⟨.new, (.q .mv), [.t 6], none⟩,
      ⟨.new, (.q (.cv .u64)), [.t 12], none⟩,
      ⟨.new, (.q (.bin .shr)), [.t 11, .t 13], none⟩,
      ⟨.new, (.q (.bin .rem)), [.t 14, .c (.u64 2)], none⟩,
      ⟨.new, (.q .mv), [.t 2], none⟩,
      ⟨.new, (.q .mv), [.t 6], none⟩,
      ⟨.new, (.q (.cv .u64)), [.t 17], none⟩,
      ⟨.new, (.q (.bin .shr)), [.t 16, .t 18], none⟩,
      ⟨.new, (.q (.bin .rem)), [.t 19, .c (.u64 2)], none⟩,
      ⟨.var 7, (.q .mv), [.t 15], none⟩,
      ⟨.var 8, (.q .mv), [.t 20], none⟩])
    (.seq (.reg [⟨.new, (.q .mv), [.t 7], none⟩,
      ⟨.new, (.q .mv), [.t 8], none⟩,
      ⟨.new, (.q (.bin .add)), [.t 11, .t 12], none⟩,
      ⟨.new, (.q .mv), [.t 5], none⟩,
      ⟨.new, (.q (.bin .add)), [.t 13, .t 14], none⟩,
      ⟨.var 9, (.q .mv), [.t 15], none⟩])
    (.seq (.reg [⟨.new, (.q .mv), [.t 4], none⟩,
      ⟨.new, (.q .mv), [.t 9], none⟩,
      ⟨.new, (.q (.bin .rem)), [.t 12, .c (.u64 2)], none⟩,
      ⟨.new, (.q .mv), [.t 6], none⟩,
      ⟨.new, (.q (.cv .u64)), [.t 14], none⟩,
      ⟨.new, (.q (.bin .shl)), [.t 13, .t 15], none⟩,
      ⟨.new, (.q (.bin .or)), [.t 11, .t 16], none⟩,
      ⟨.var 4, (.q .mv), [.t 17], none⟩])
    (.reg [⟨.new, (.q .mv), [.t 9], none⟩,
      ⟨.new, (.q (.bin .quo)), [.t 11, .c (.u64 2)], none⟩,
      ⟨.var 5, (.q .mv), [.t 12], none⟩])))))
    (.reg [⟨.new, (.q .mv), [.t 6], none⟩,
      ⟨.new, (.q (.bin .add)), [.t 11, .c (.int 1)], none⟩,
      ⟨.var 6, (.q .mv), [.t 12], none⟩]))))))
    (.seq (.reg [⟨.new, (.q .mv), [.t 4], none⟩,
      ⟨.var 3, (.q .mv), [.t 11], none⟩])
    .ret)))),
    [.t 3]⟩

/-- trefoil/trefoilref03.Neg (0:l, 1:a, 4:) -/
def s36 : FnS := ⟨9, [0, 1, 4],
    (.seq (.reg [⟨.var 2, (.q .mv), [.c (.u64 0)], none⟩])
    (.seq (.reg [⟨.new, (.q .mv), [.t 0], none⟩,
      ⟨.new, (.q .mv), [.t 1], none⟩,
      ⟨.new, (.q (.bin .sub)), [.c (.u64 18446744073709551615), .t 4], none⟩,
      ⟨.new, (.call 33), [.t 3, .t 5, .c (.u64 1)], none⟩,
      ⟨.var 2, (.q .mv), [.t 6], none⟩])
    .ret)),
    [.t 2]⟩

/-- trefoil/trefoilref03.Sub (0:l, 1:a, 2:b, 6:) -/
def s34 : FnS := ⟨12, [0, 1, 2, 6],
    (.seq (.reg [⟨.var 3, (.q .mv), [.c (.u64 0)], none⟩])
    (.seq (.reg [⟨.new, (.q .mv), [.t 0], none⟩,
      ⟨.new, (.q .mv), [.t 1], none⟩,
      ⟨.new, (.q .mv), [.t 2], none⟩,
      ⟨.new, (.call 36), [.c (.int 64), .t 6], none⟩,
      ⟨.new, (.call 33), [.t 4, .t 5, .t 7], none⟩,
      ⟨.var 3, (.q .mv), [.t 8], none⟩])
    .ret)),
    [.t 3]⟩

/-- trefoil/trefoilref03.Inverse (0:l, 1:a, 4:, 5:, 6:out, 7:sum, 8:i, 9:want, 17:, 20:, 24:, 31:) -/
def s19 : FnS := ⟨44, [0, 1, 4, 5, 6, 7, 8, 9, 17, 20, 24, 31],
    (.seq (.reg [⟨.var 2, (.q .mv), [.c (.u64 0)], none⟩,
      ⟨.var 3, (.q .mv), [.c (.bool false)], none⟩])
    (.seq (.seq (.reg [⟨.new, (.q .mv), [.t 1], none⟩,
      ⟨.new, (.q (.bin .rem)), [.t 12, .c (.u64 2)], none⟩,
      ⟨.new, (.q (.bin .eql)), [.t 13, .c (.u64 0)], none⟩,
      ⟨.new, (.q .mv), [.t 14], none⟩,
      ⟨.new, (.q .mv), [.t 0], (some (15, false))⟩,
      ⟨.new, (.call 25), [.t 16], (some (15, false))⟩,
      ⟨.new, (.q (.un .not)), [.t 17], (some (15, false))⟩,
      ⟨.var 8, (.q .pick), [.t 15, .c (.bool true), .t 18], none⟩])
    (.cond (.t 8) (.seq (.reg [⟨.var 2, (.q .mv), [.c (.u64 0)], none⟩,
      ⟨.var 3, (.q .mv), [.c (.bool false)], none⟩])
    .ret)
    .skip))
    (.seq (.reg [⟨.var 4, (.q .mv), [.c (.u64 0)], none⟩,
      ⟨.var 5, (.q .mv), [.c (.u64 0)], none⟩])
    (.seq (.seq (.reg [⟨.var 6, (.q .mv), [.c (.int 0)], none⟩])
    (.block 0 (.loop (.seq (.seq (.reg [⟨.new, (.q .mv), [.t 6], none⟩,
      ⟨.new, (.q .mv), [.t 0], none⟩,
      ⟨.var 9, (.q (.bin .lss)), [.t 12, .t 13], none⟩])
    (.cond (.t 9) .skip
    (.exit 0)))
    (.seq (.block 1 (.seq (.reg [⟨.var 7, (.q .mv), [.c (.u64 0)], none⟩])
    (.seq (.seq (.reg [⟨.new, (.q .mv), [.t 6], none⟩,
      ⟨.var 10, (.q (.bin .eql)), [.t 12, .c (.int 0)], none⟩])
    (.cond (.t 10) (.reg [⟨.var 7, (.q .mv), [.c (.u64 1)], none⟩])
    .skip))
    (.seq (.reg [⟨.new, (.q .mv), [.t 5], none⟩,
      ⟨.new, (.q .mv), [.t 6], none⟩,
      ⟨.new, (.q (.cv .u64)), [.t 13], none⟩,
      ⟨.new, (.q (.bin .shr)), [.t 12, .t 14], none⟩,
      ⟨.new, (.q (.bin .rem)), [.t 15, .c (.u64 2)], none⟩,
      ⟨.new, (.q .mv), [.t 7], none⟩,
      ⟨.var 11, (.q (.bin .neq)), [.t 16, .t 17], none⟩])
    (.cond (.t 11) (.seq (.reg [⟨.new, (.q .mv), [.t 4], none⟩,
      ⟨.new, (.q .mv), [.t 6], none⟩,
      ⟨.new, (.q (.cv .u64)), [.t 13], none⟩,
      ⟨.new, (.q (.bin .shl)), [.c (.u64 1), .t 14], none⟩,
      ⟨.new, (.q (.bin .or)), [.t 12, .t 15], none⟩,
      ⟨.var 4, (.q .mv), [.t 16], none⟩])
    (.reg [⟨.new, (.q .mv), [.t 5], none⟩,
      ⟨.new, (.q .mv), [.t 1], none⟩,
      ⟨.new, (.q .mv), [.t 6], none⟩,
      ⟨.new, (.q (.cv .u64)), [.t 14], none⟩,
      ⟨.new, (.q (.bin .shl)), [.t 13, .t 15], none⟩,
      ⟨.new, (.call 33), [.c (.int 64), .t 12, .t 16], none⟩,
      ⟨.var 5, (.q .mv), [.t 17], none⟩]))
    .skip)))))
    (.reg [⟨.new, (.q .mv), [.t 6], none⟩,
      ⟨.new, (.q (.bin .add)), [.t 12, .c (.int 1)], none⟩,
      ⟨.var 6, (.q .mv), [.t 13], none⟩]))))))
    (.seq (.reg [⟨.new, (.q .mv), [.t 4], none⟩,
      ⟨.var 2, (.q .mv), [.t 12], none⟩,
      ⟨.var 3, (.q .mv), [.c (.bool true)], none⟩])
    .ret))))),
    [.t 2, .t 3]⟩

/-- trefoil/trefoillaw03.awake (0:, 1:x, 2:ok) -/
def s22 : FnS := ⟨24, [0, 1, 2],
    (.seq (.reg [⟨.var 0, (.q .mv), [.c (.bool false)], none⟩])
    (.seq (.reg [⟨.new, (.call 18), [.c (.int 8), .c (.u64 3)], none⟩,
      ⟨.new, (.q .mv), [.t 3], none⟩,
      ⟨.new, (.q (.ext 0)), [.t 4], none⟩,
      ⟨.new, (.q (.ext 1)), [.t 4], none⟩,
      ⟨.var 1, (.q .mv), [.t 5], none⟩,
      ⟨.var 2, (.q .mv), [.t 6], none⟩])
    (.seq (.reg [⟨.new, (.call 26), [.c (.int 8), .c (.u64 200), .c (.u64 100)], none⟩,
      ⟨.new, (.q (.bin .eql)), [.t 3, .c (.u64 44)], none⟩,
      ⟨.new, (.q .mv), [.t 4], none⟩,
      ⟨.new, (.call 20), [.c (.int 8), .c (.u64 16), .c (.u64 16)], (some (5, true))⟩,
      ⟨.new, (.q (.bin .eql)), [.t 6, .c (.u64 0)], (some (5, true))⟩,
      ⟨.new, (.q .pick), [.t 5, .t 7, .c (.bool false)], none⟩,
      ⟨.new, (.q .mv), [.t 8], none⟩,
      ⟨.new, (.call 30), [.c (.int 8), .c (.u64 1)], (some (9, true))⟩,
      ⟨.new, (.q (.bin .eql)), [.t 10, .c (.u64 255)], (some (9, true))⟩,
      ⟨.new, (.q .pick), [.t 9, .t 11, .c (.bool false)], none⟩,
      ⟨.new, (.q .mv), [.t 12], none⟩,
      ⟨.new, (.q .mv), [.t 2], (some (13, true))⟩,
      ⟨.new, (.q .pick), [.t 13, .t 14, .c (.bool false)], none⟩,
      ⟨.new, (.q .mv), [.t 15], none⟩,
      ⟨.new, (.q .mv), [.t 1], (some (16, true))⟩,
      ⟨.new, (.q (.bin .eql)), [.t 17, .c (.u64 171)], (some (16, true))⟩,
      ⟨.new, (.q .pick), [.t 16, .t 18, .c (.bool false)], none⟩,
      ⟨.var 0, (.q .mv), [.t 19], none⟩])
    .ret))),
    [.t 0]⟩

/-- trefoil/trefoillaw03.RingInverse (0:l, 1:a, 4:, 5:x, 6:ok, 7:y, 8:is) -/
def s4 : FnS := ⟨45, [0, 1, 4, 5, 6, 7, 8],
    (.seq (.reg [⟨.var 2, (.q .mv), [.c (.bool false)], none⟩])
    (.seq (.reg [⟨.new, (.q .mv), [.t 0], none⟩,
      ⟨.new, (.q .mv), [.t 1], none⟩,
      ⟨.new, (.call 18), [.t 7, .t 8], none⟩,
      ⟨.new, (.q .mv), [.t 9], none⟩,
      ⟨.new, (.q (.ext 0)), [.t 10], none⟩,
      ⟨.new, (.q (.ext 1)), [.t 10], none⟩,
      ⟨.var 3, (.q .mv), [.t 11], none⟩,
      ⟨.var 4, (.q .mv), [.t 12], none⟩])
    (.seq (.reg [⟨.new, (.q .mv), [.t 0], none⟩,
      ⟨.new, (.q .mv), [.t 1], none⟩,
      ⟨.new, (.call 19), [.t 7, .t 8], none⟩,
      ⟨.new, (.q .mv), [.t 9], none⟩,
      ⟨.new, (.q (.ext 0)), [.t 10], none⟩,
      ⟨.new, (.q (.ext 1)), [.t 10], none⟩,
      ⟨.var 5, (.q .mv), [.t 11], none⟩,
      ⟨.var 6, (.q .mv), [.t 12], none⟩])
    (.seq (.reg [⟨.new, (.q .mv), [.t 3], none⟩,
      ⟨.new, (.q .mv), [.t 5], none⟩,
      ⟨.new, (.q (.bin .eql)), [.t 7, .t 8], none⟩,
      ⟨.new, (.q .mv), [.t 9], none⟩,
      ⟨.new, (.q .mv), [.t 4], (some (10, true))⟩,
      ⟨.new, (.q .mv), [.t 6], (some (10, true))⟩,
      ⟨.new, (.q (.eqB false)), [.t 11, .t 12], (some (10, true))⟩,
      ⟨.new, (.q .pick), [.t 10, .t 13, .c (.bool false)], none⟩,
      ⟨.new, (.q .mv), [.t 14], none⟩,
      ⟨.new, (.q .mv), [.t 4], (some (15, true))⟩,
      ⟨.new, (.q (.un .not)), [.t 16], (some (15, true))⟩,
      ⟨.new, (.q .mv), [.t 17], (some (15, true))⟩,
      ⟨.new, (.q .mv), [.t 0], (some (18, false))⟩,
      ⟨.new, (.q .mv), [.t 1], (some (18, false))⟩,
      ⟨.new, (.q .mv), [.t 3], (some (18, false))⟩,
      ⟨.new, (.call 20), [.t 19, .t 20, .t 21], (some (18, false))⟩,
      ⟨.new, (.q .mv), [.t 0], (some (18, false))⟩,
      ⟨.new, (.call 21), [.t 23, .c (.u64 1)], (some (18, false))⟩,
      ⟨.new, (.q (.bin .eql)), [.t 22, .t 24], (some (18, false))⟩,
      ⟨.new, (.q .pick), [.t 18, .c (.bool true), .t 25], (some (15, true))⟩,
      ⟨.new, (.q .pick), [.t 15, .t 26, .c (.bool false)], none⟩,
      ⟨.new, (.q .mv), [.t 27], none⟩,
      ⟨.new, (.call 22), [], (some (28, true))⟩,
      ⟨.new, (.q .pick), [.t 28, .t 29, .c (.bool false)], none⟩,
      ⟨.var 2, (.q .mv), [.t 30], none⟩])
    .ret)))),
    [.t 2]⟩

set_option maxRecDepth 100000
set_option linter.unusedSimpArgs false
set_option linter.unusedVariables false
theorem c28 : cF P [] (drP P []) 28 1 s28.vm = some s28 := by kernel_rfl
theorem c56 : cF P [] (drP P []) 56 1 s56.vm = some s56 := by kernel_rfl
theorem c21 : cF P [] (drP P []) 21 2 s21.vm = some s21 := by kernel_rfl
theorem c20 : cF P [] (drP P []) 20 3 s20.vm = some s20 := by kernel_rfl
theorem c26 : cF P [] (drP P []) 26 3 s26.vm = some s26 := by kernel_rfl
theorem c29 : cF P [] (drP P []) 29 3 s29.vm = some s29 := by kernel_rfl
theorem c30 : cF P [] (drP P []) 30 2 s30.vm = some s30 := by kernel_rfl
theorem c18 : cF P [] (drP P []) 18 2 s18.vm = some s18 := by kernel_rfl
theorem c25 : cF P [] (drP P []) 25 1 s25.vm = some s25 := by kernel_rfl
theorem c27 : cF P [] (drP P []) 27 2 s27.vm = some s27 := by kernel_rfl
theorem c33 : cF P [] (drP P []) 33 3 s33.vm = some s33 := by kernel_rfl
theorem c36 : cF P [] (drP P []) 36 2 s36.vm = some s36 := by kernel_rfl
theorem c34 : cF P [] (drP P []) 34 3 s34.vm = some s34 := by kernel_rfl
theorem c19 : cF P [] (drP P []) 19 2 s19.vm = some s19 := by kernel_rfl
theorem c22 : cF P [] (drP P []) 22 0 s22.vm = some s22 := by kernel_rfl
theorem c4 : cF P [] (drP P []) 4 2 s4.vm = some s4 := by kernel_rfl

/-- may there be so many bits? -/
def good (l : Int) : Prop := 1 ≤ l ∧ l ≤ 64
instance (l : Int) : Decidable (good l) := by unfold good; infer_instance

/-- the lowest bits -/
def cut (n : Nat) (x : BitVec 64) : BitVec 64 := BitVec.ofNat 64 (x.toNat % 2 ^ n)

def maskV (l : Int) : BitVec 64 := if good l then 18446744073709551615#64 >>> (64 - l.toNat) else 0

theorem f28 {K : AV → Heap → Prop} {H : Heap} {l : Int} (h : K (.tup [.u64 (maskV l), .int (if good l then 0 else 11)]) H) : wpF P [] 28 [.int l] H K := by
  refine wpF_go c28 rfl 2 ?_
  intro ha hb
  simp only [s28]
  by_cases h1 : l < 1
  · have hg : ¬ good l := by unfold good; omega
    simp only [maskV, hg, if_false] at h
    simp (maxSteps := 2000000) only [↓vS_skip, ↓vS_reg, ↓vS_draw, ↓vS_seq, ↓vS_cond, ↓vS_block, ↓vS_exit, ↓vS_ret, ↓vI_nil, ↓vI_go, ↓vI_gd, ↓stepI_q, ↓stepI_e, ↓stepI_c, ↓stepI_v, ↓vD_nil, ↓vD_go, ↓vD_gd, ↓stepW_q, ↓stepW_e, ↓stepW_c, ↓stepW_v, ↓Kw_app, ↓KwD_app, ↓Kc_app, ↓Kp_app, ↓Kr_app, ↓Ks_n, ↓Ks_r, ↓Ks_x, ↓Kb_n, ↓Kb_r, ↓Kb_x, ↓Ku_n, ↓Ku_r, ↓Ku_x, ↓Kl_n, ↓Kl_r, ↓Kl_x, ↓Kend_n, ↓Kend_r, ↓Two_t, ↓Two_f, ↓unr_succ, putE_none, putE_var, putE_new, get_t, get_c, qev, eev, rsGet, rvGet, oneOf, binAV, isSh, bvBin, bvOp, bvCmp, bvSh, intBin, intSh, cvAV, unAV, AV.cnt, AV.num, Ken2_s, Ken3_s, htake_1, htake_2, beq_self_eq_true, beq_true, beq_false, Bool.not_eq_true, maxLen, Nat.reducePow, Nat.reduceMul, List.map_cons, List.map_nil, List.getD_cons_zero, List.getD_cons_succ, List.set_cons_zero, List.set_cons_succ, List.cons_append, List.nil_append, List.append_nil, List.take_succ_cons, List.take_zero, List.take_nil, List.length_cons, List.length_nil, List.replicate_succ, List.replicate_zero, Option.map_some, Option.map_none, List.getElem?_cons_zero, List.getElem?_cons_succ, true_and, and_true, if_true, if_false, ite_true, ite_false, reduceIte, reduceCtorEq, false_or, or_true, true_or, or_false, Option.some.injEq, Prod.mk.injEq, exists_eq_left', exists_eq_left, exists_eq_right, exists_and_left, exists_and_right, exists_const, and_assoc, decide_true, decide_false, Bool.false_eq_true, forall_const, Bool.not_true, Bool.not_false, false_implies, true_implies, Nat.reduceAdd, Nat.reduceSub, Nat.reduceMul, Nat.reduceLT, Nat.reduceLeDiff, Nat.reduceEqDiff, Int.reduceAdd, Int.reduceSub, Int.reduceMul, Int.reduceLT, Int.reduceLE, Int.reduceTMod, Int.reduceTDiv, Int.reduceToNat, Int.reduceEq, Int.reduceNe, Int.reduceNeg, ne_eq, not_false_eq_true, not_true_eq_false, InR, Bool.true_eq_false, Bool.false_eq_true, reduceDIte, Nat.zero_add, Nat.add_zero, Int.cast_ofNat_Int, eq_self, hget_0, hget_k, hget_z, hget_s, hset_0, hset_k, htake_0, lt_own0, lt_ownk, hasAt_nil, hasAt_arr, hasAt_st, hasSh_l, hasSh_aa, hasSh_sa, hasShs_n, hasShs_c, setAll, AV.isCell, Shape.size_leaf, Shape.size_arr, Shape.size_st, Shape.sizes_cons, Shape.sizes_nil, List.length_append, List.append_assoc, List.length_set, stP, ldP, getP, setP, psh, partsOf, slen, rd, dem, demK, mapO, AV.bnds, AV.bnd, bne_self_eq_false, AV.plain2, AV.plain, List.all_cons, List.all_nil, List.take_length, List.drop_zero, List.drop_succ_cons, Nat.mul_one, List.getElem?_nil, List.forall_mem_cons, List.not_mem_nil, implies_true, Bool.and_true, Bool.true_and, Bool.and_false, Bool.false_and, and_self, and_false, false_and, h1]
    exact h
  · by_cases h2 : 64 < l
    · have hg : ¬ good l := by unfold good; omega
      simp only [maskV, hg, if_false] at h
      simp (maxSteps := 2000000) only [↓vS_skip, ↓vS_reg, ↓vS_draw, ↓vS_seq, ↓vS_cond, ↓vS_block, ↓vS_exit, ↓vS_ret, ↓vI_nil, ↓vI_go, ↓vI_gd, ↓stepI_q, ↓stepI_e, ↓stepI_c, ↓stepI_v, ↓vD_nil, ↓vD_go, ↓vD_gd, ↓stepW_q, ↓stepW_e, ↓stepW_c, ↓stepW_v, ↓Kw_app, ↓KwD_app, ↓Kc_app, ↓Kp_app, ↓Kr_app, ↓Ks_n, ↓Ks_r, ↓Ks_x, ↓Kb_n, ↓Kb_r, ↓Kb_x, ↓Ku_n, ↓Ku_r, ↓Ku_x, ↓Kl_n, ↓Kl_r, ↓Kl_x, ↓Kend_n, ↓Kend_r, ↓Two_t, ↓Two_f, ↓unr_succ, putE_none, putE_var, putE_new, get_t, get_c, qev, eev, rsGet, rvGet, oneOf, binAV, isSh, bvBin, bvOp, bvCmp, bvSh, intBin, intSh, cvAV, unAV, AV.cnt, AV.num, Ken2_s, Ken3_s, htake_1, htake_2, beq_self_eq_true, beq_true, beq_false, Bool.not_eq_true, maxLen, Nat.reducePow, Nat.reduceMul, List.map_cons, List.map_nil, List.getD_cons_zero, List.getD_cons_succ, List.set_cons_zero, List.set_cons_succ, List.cons_append, List.nil_append, List.append_nil, List.take_succ_cons, List.take_zero, List.take_nil, List.length_cons, List.length_nil, List.replicate_succ, List.replicate_zero, Option.map_some, Option.map_none, List.getElem?_cons_zero, List.getElem?_cons_succ, true_and, and_true, if_true, if_false, ite_true, ite_false, reduceIte, reduceCtorEq, false_or, or_true, true_or, or_false, Option.some.injEq, Prod.mk.injEq, exists_eq_left', exists_eq_left, exists_eq_right, exists_and_left, exists_and_right, exists_const, and_assoc, decide_true, decide_false, Bool.false_eq_true, forall_const, Bool.not_true, Bool.not_false, false_implies, true_implies, Nat.reduceAdd, Nat.reduceSub, Nat.reduceMul, Nat.reduceLT, Nat.reduceLeDiff, Nat.reduceEqDiff, Int.reduceAdd, Int.reduceSub, Int.reduceMul, Int.reduceLT, Int.reduceLE, Int.reduceTMod, Int.reduceTDiv, Int.reduceToNat, Int.reduceEq, Int.reduceNe, Int.reduceNeg, ne_eq, not_false_eq_true, not_true_eq_false, InR, Bool.true_eq_false, Bool.false_eq_true, reduceDIte, Nat.zero_add, Nat.add_zero, Int.cast_ofNat_Int, eq_self, hget_0, hget_k, hget_z, hget_s, hset_0, hset_k, htake_0, lt_own0, lt_ownk, hasAt_nil, hasAt_arr, hasAt_st, hasSh_l, hasSh_aa, hasSh_sa, hasShs_n, hasShs_c, setAll, AV.isCell, Shape.size_leaf, Shape.size_arr, Shape.size_st, Shape.sizes_cons, Shape.sizes_nil, List.length_append, List.append_assoc, List.length_set, stP, ldP, getP, setP, psh, partsOf, slen, rd, dem, demK, mapO, AV.bnds, AV.bnd, bne_self_eq_false, AV.plain2, AV.plain, List.all_cons, List.all_nil, List.take_length, List.drop_zero, List.drop_succ_cons, Nat.mul_one, List.getElem?_nil, List.forall_mem_cons, List.not_mem_nil, implies_true, Bool.and_true, Bool.true_and, Bool.and_false, Bool.false_and, and_self, and_false, false_and, h1, h2]
      exact h
    · have hg : good l := by unfold good; omega
      simp only [maskV, hg, if_true] at h
      simp (maxSteps := 2000000) only [↓vS_skip, ↓vS_reg, ↓vS_draw, ↓vS_seq, ↓vS_cond, ↓vS_block, ↓vS_exit, ↓vS_ret, ↓vI_nil, ↓vI_go, ↓vI_gd, ↓stepI_q, ↓stepI_e, ↓stepI_c, ↓stepI_v, ↓vD_nil, ↓vD_go, ↓vD_gd, ↓stepW_q, ↓stepW_e, ↓stepW_c, ↓stepW_v, ↓Kw_app, ↓KwD_app, ↓Kc_app, ↓Kp_app, ↓Kr_app, ↓Ks_n, ↓Ks_r, ↓Ks_x, ↓Kb_n, ↓Kb_r, ↓Kb_x, ↓Ku_n, ↓Ku_r, ↓Ku_x, ↓Kl_n, ↓Kl_r, ↓Kl_x, ↓Kend_n, ↓Kend_r, ↓Two_t, ↓Two_f, ↓unr_succ, putE_none, putE_var, putE_new, get_t, get_c, qev, eev, rsGet, rvGet, oneOf, binAV, isSh, bvBin, bvOp, bvCmp, bvSh, intBin, intSh, cvAV, unAV, AV.cnt, AV.num, Ken2_s, Ken3_s, htake_1, htake_2, beq_self_eq_true, beq_true, beq_false, Bool.not_eq_true, maxLen, Nat.reducePow, Nat.reduceMul, List.map_cons, List.map_nil, List.getD_cons_zero, List.getD_cons_succ, List.set_cons_zero, List.set_cons_succ, List.cons_append, List.nil_append, List.append_nil, List.take_succ_cons, List.take_zero, List.take_nil, List.length_cons, List.length_nil, List.replicate_succ, List.replicate_zero, Option.map_some, Option.map_none, List.getElem?_cons_zero, List.getElem?_cons_succ, true_and, and_true, if_true, if_false, ite_true, ite_false, reduceIte, reduceCtorEq, false_or, or_true, true_or, or_false, Option.some.injEq, Prod.mk.injEq, exists_eq_left', exists_eq_left, exists_eq_right, exists_and_left, exists_and_right, exists_const, and_assoc, decide_true, decide_false, Bool.false_eq_true, forall_const, Bool.not_true, Bool.not_false, false_implies, true_implies, Nat.reduceAdd, Nat.reduceSub, Nat.reduceMul, Nat.reduceLT, Nat.reduceLeDiff, Nat.reduceEqDiff, Int.reduceAdd, Int.reduceSub, Int.reduceMul, Int.reduceLT, Int.reduceLE, Int.reduceTMod, Int.reduceTDiv, Int.reduceToNat, Int.reduceEq, Int.reduceNe, Int.reduceNeg, ne_eq, not_false_eq_true, not_true_eq_false, InR, Bool.true_eq_false, Bool.false_eq_true, reduceDIte, Nat.zero_add, Nat.add_zero, Int.cast_ofNat_Int, eq_self, hget_0, hget_k, hget_z, hget_s, hset_0, hset_k, htake_0, lt_own0, lt_ownk, hasAt_nil, hasAt_arr, hasAt_st, hasSh_l, hasSh_aa, hasSh_sa, hasShs_n, hasShs_c, setAll, AV.isCell, Shape.size_leaf, Shape.size_arr, Shape.size_st, Shape.sizes_cons, Shape.sizes_nil, List.length_append, List.append_assoc, List.length_set, stP, ldP, getP, setP, psh, partsOf, slen, rd, dem, demK, mapO, AV.bnds, AV.bnd, bne_self_eq_false, AV.plain2, AV.plain, List.all_cons, List.all_nil, List.take_length, List.drop_zero, List.drop_succ_cons, Nat.mul_one, List.getElem?_nil, List.forall_mem_cons, List.not_mem_nil, implies_true, Bool.and_true, Bool.true_and, Bool.and_false, Bool.false_and, and_self, and_false, false_and, h1, h2]
      have e : (BitVec.ofInt 64 (64 - l)).toNat = 64 - l.toNat := by rw [BitVec.toNat_ofInt]; unfold good at hg; omega
      rw [e]
      exact ⟨by unfold good at hg; omega, by unfold good at hg; omega, h⟩

theorem f56 {K : AV → Heap → Prop} {H : Heap} {l : Int} (h : K (.u64 (maskV l)) H) : wpF P [] 56 [.int l] H K := by
  refine wpF_go c56 rfl 2 ?_
  intro ha hb
  simp only [s56]
  simp (maxSteps := 2000000) only [↓vS_skip, ↓vS_reg, ↓vS_draw, ↓vS_seq, ↓vS_cond, ↓vS_block, ↓vS_exit, ↓vS_ret, ↓vI_nil, ↓vI_go, ↓vI_gd, ↓stepI_q, ↓stepI_e, ↓stepI_c, ↓stepI_v, ↓vD_nil, ↓vD_go, ↓vD_gd, ↓stepW_q, ↓stepW_e, ↓stepW_c, ↓stepW_v, ↓Kw_app, ↓KwD_app, ↓Kc_app, ↓Kp_app, ↓Kr_app, ↓Ks_n, ↓Ks_r, ↓Ks_x, ↓Kb_n, ↓Kb_r, ↓Kb_x, ↓Ku_n, ↓Ku_r, ↓Ku_x, ↓Kl_n, ↓Kl_r, ↓Kl_x, ↓Kend_n, ↓Kend_r, ↓Two_t, ↓Two_f, ↓unr_succ, putE_none, putE_var, putE_new, get_t, get_c, qev, eev, rsGet, rvGet, oneOf, binAV, isSh, bvBin, bvOp, bvCmp, bvSh, intBin, intSh, cvAV, unAV, AV.cnt, AV.num, Ken2_s, Ken3_s, htake_1, htake_2, beq_self_eq_true, beq_true, beq_false, Bool.not_eq_true, maxLen, Nat.reducePow, Nat.reduceMul, List.map_cons, List.map_nil, List.getD_cons_zero, List.getD_cons_succ, List.set_cons_zero, List.set_cons_succ, List.cons_append, List.nil_append, List.append_nil, List.take_succ_cons, List.take_zero, List.take_nil, List.length_cons, List.length_nil, List.replicate_succ, List.replicate_zero, Option.map_some, Option.map_none, List.getElem?_cons_zero, List.getElem?_cons_succ, true_and, and_true, if_true, if_false, ite_true, ite_false, reduceIte, reduceCtorEq, false_or, or_true, true_or, or_false, Option.some.injEq, Prod.mk.injEq, exists_eq_left', exists_eq_left, exists_eq_right, exists_and_left, exists_and_right, exists_const, and_assoc, decide_true, decide_false, Bool.false_eq_true, forall_const, Bool.not_true, Bool.not_false, false_implies, true_implies, Nat.reduceAdd, Nat.reduceSub, Nat.reduceMul, Nat.reduceLT, Nat.reduceLeDiff, Nat.reduceEqDiff, Int.reduceAdd, Int.reduceSub, Int.reduceMul, Int.reduceLT, Int.reduceLE, Int.reduceTMod, Int.reduceTDiv, Int.reduceToNat, Int.reduceEq, Int.reduceNe, Int.reduceNeg, ne_eq, not_false_eq_true, not_true_eq_false, InR, Bool.true_eq_false, Bool.false_eq_true, reduceDIte, Nat.zero_add, Nat.add_zero, Int.cast_ofNat_Int, eq_self, hget_0, hget_k, hget_z, hget_s, hset_0, hset_k, htake_0, lt_own0, lt_ownk, hasAt_nil, hasAt_arr, hasAt_st, hasSh_l, hasSh_aa, hasSh_sa, hasShs_n, hasShs_c, setAll, AV.isCell, Shape.size_leaf, Shape.size_arr, Shape.size_st, Shape.sizes_cons, Shape.sizes_nil, List.length_append, List.append_assoc, List.length_set, stP, ldP, getP, setP, psh, partsOf, slen, rd, dem, demK, mapO, AV.bnds, AV.bnd, bne_self_eq_false, AV.plain2, AV.plain, List.all_cons, List.all_nil, List.take_length, List.drop_zero, List.drop_succ_cons, Nat.mul_one, List.getElem?_nil, List.forall_mem_cons, List.not_mem_nil, implies_true, Bool.and_true, Bool.true_and, Bool.and_false, Bool.false_and, and_self, and_false, false_and]
  refine f28 ?_
  simp (maxSteps := 2000000) only [↓vS_skip, ↓vS_reg, ↓vS_draw, ↓vS_seq, ↓vS_cond, ↓vS_block, ↓vS_exit, ↓vS_ret, ↓vI_nil, ↓vI_go, ↓vI_gd, ↓stepI_q, ↓stepI_e, ↓stepI_c, ↓stepI_v, ↓vD_nil, ↓vD_go, ↓vD_gd, ↓stepW_q, ↓stepW_e, ↓stepW_c, ↓stepW_v, ↓Kw_app, ↓KwD_app, ↓Kc_app, ↓Kp_app, ↓Kr_app, ↓Ks_n, ↓Ks_r, ↓Ks_x, ↓Kb_n, ↓Kb_r, ↓Kb_x, ↓Ku_n, ↓Ku_r, ↓Ku_x, ↓Kl_n, ↓Kl_r, ↓Kl_x, ↓Kend_n, ↓Kend_r, ↓Two_t, ↓Two_f, ↓unr_succ, putE_none, putE_var, putE_new, get_t, get_c, qev, eev, rsGet, rvGet, oneOf, binAV, isSh, bvBin, bvOp, bvCmp, bvSh, intBin, intSh, cvAV, unAV, AV.cnt, AV.num, Ken2_s, Ken3_s, htake_1, htake_2, beq_self_eq_true, beq_true, beq_false, Bool.not_eq_true, maxLen, Nat.reducePow, Nat.reduceMul, List.map_cons, List.map_nil, List.getD_cons_zero, List.getD_cons_succ, List.set_cons_zero, List.set_cons_succ, List.cons_append, List.nil_append, List.append_nil, List.take_succ_cons, List.take_zero, List.take_nil, List.length_cons, List.length_nil, List.replicate_succ, List.replicate_zero, Option.map_some, Option.map_none, List.getElem?_cons_zero, List.getElem?_cons_succ, true_and, and_true, if_true, if_false, ite_true, ite_false, reduceIte, reduceCtorEq, false_or, or_true, true_or, or_false, Option.some.injEq, Prod.mk.injEq, exists_eq_left', exists_eq_left, exists_eq_right, exists_and_left, exists_and_right, exists_const, and_assoc, decide_true, decide_false, Bool.false_eq_true, forall_const, Bool.not_true, Bool.not_false, false_implies, true_implies, Nat.reduceAdd, Nat.reduceSub, Nat.reduceMul, Nat.reduceLT, Nat.reduceLeDiff, Nat.reduceEqDiff, Int.reduceAdd, Int.reduceSub, Int.reduceMul, Int.reduceLT, Int.reduceLE, Int.reduceTMod, Int.reduceTDiv, Int.reduceToNat, Int.reduceEq, Int.reduceNe, Int.reduceNeg, ne_eq, not_false_eq_true, not_true_eq_false, InR, Bool.true_eq_false, Bool.false_eq_true, reduceDIte, Nat.zero_add, Nat.add_zero, Int.cast_ofNat_Int, eq_self, hget_0, hget_k, hget_z, hget_s, hset_0, hset_k, htake_0, lt_own0, lt_ownk, hasAt_nil, hasAt_arr, hasAt_st, hasSh_l, hasSh_aa, hasSh_sa, hasShs_n, hasShs_c, setAll, AV.isCell, Shape.size_leaf, Shape.size_arr, Shape.size_st, Shape.sizes_cons, Shape.sizes_nil, List.length_append, List.append_assoc, List.length_set, stP, ldP, getP, setP, psh, partsOf, slen, rd, dem, demK, mapO, AV.bnds, AV.bnd, bne_self_eq_false, AV.plain2, AV.plain, List.all_cons, List.all_nil, List.take_length, List.drop_zero, List.drop_succ_cons, Nat.mul_one, List.getElem?_nil, List.forall_mem_cons, List.not_mem_nil, implies_true, Bool.and_true, Bool.true_and, Bool.and_false, Bool.false_and, and_self, and_false, false_and]
  exact h

theorem f21 {K : AV → Heap → Prop} {H : Heap} {l : Int} {x : BitVec 64} (h : K (.u64 (x &&& maskV l)) H) : wpF P [] 21 [.int l, .u64 x] H K := by
  refine wpF_go c21 rfl 2 ?_
  intro ha hb
  simp only [s21]
  simp (maxSteps := 2000000) only [↓vS_skip, ↓vS_reg, ↓vS_draw, ↓vS_seq, ↓vS_cond, ↓vS_block, ↓vS_exit, ↓vS_ret, ↓vI_nil, ↓vI_go, ↓vI_gd, ↓stepI_q, ↓stepI_e, ↓stepI_c, ↓stepI_v, ↓vD_nil, ↓vD_go, ↓vD_gd, ↓stepW_q, ↓stepW_e, ↓stepW_c, ↓stepW_v, ↓Kw_app, ↓KwD_app, ↓Kc_app, ↓Kp_app, ↓Kr_app, ↓Ks_n, ↓Ks_r, ↓Ks_x, ↓Kb_n, ↓Kb_r, ↓Kb_x, ↓Ku_n, ↓Ku_r, ↓Ku_x, ↓Kl_n, ↓Kl_r, ↓Kl_x, ↓Kend_n, ↓Kend_r, ↓Two_t, ↓Two_f, ↓unr_succ, putE_none, putE_var, putE_new, get_t, get_c, qev, eev, rsGet, rvGet, oneOf, binAV, isSh, bvBin, bvOp, bvCmp, bvSh, intBin, intSh, cvAV, unAV, AV.cnt, AV.num, Ken2_s, Ken3_s, htake_1, htake_2, beq_self_eq_true, beq_true, beq_false, Bool.not_eq_true, maxLen, Nat.reducePow, Nat.reduceMul, List.map_cons, List.map_nil, List.getD_cons_zero, List.getD_cons_succ, List.set_cons_zero, List.set_cons_succ, List.cons_append, List.nil_append, List.append_nil, List.take_succ_cons, List.take_zero, List.take_nil, List.length_cons, List.length_nil, List.replicate_succ, List.replicate_zero, Option.map_some, Option.map_none, List.getElem?_cons_zero, List.getElem?_cons_succ, true_and, and_true, if_true, if_false, ite_true, ite_false, reduceIte, reduceCtorEq, false_or, or_true, true_or, or_false, Option.some.injEq, Prod.mk.injEq, exists_eq_left', exists_eq_left, exists_eq_right, exists_and_left, exists_and_right, exists_const, and_assoc, decide_true, decide_false, Bool.false_eq_true, forall_const, Bool.not_true, Bool.not_false, false_implies, true_implies, Nat.reduceAdd, Nat.reduceSub, Nat.reduceMul, Nat.reduceLT, Nat.reduceLeDiff, Nat.reduceEqDiff, Int.reduceAdd, Int.reduceSub, Int.reduceMul, Int.reduceLT, Int.reduceLE, Int.reduceTMod, Int.reduceTDiv, Int.reduceToNat, Int.reduceEq, Int.reduceNe, Int.reduceNeg, ne_eq, not_false_eq_true, not_true_eq_false, InR, Bool.true_eq_false, Bool.false_eq_true, reduceDIte, Nat.zero_add, Nat.add_zero, Int.cast_ofNat_Int, eq_self, hget_0, hget_k, hget_z, hget_s, hset_0, hset_k, htake_0, lt_own0, lt_ownk, hasAt_nil, hasAt_arr, hasAt_st, hasSh_l, hasSh_aa, hasSh_sa, hasShs_n, hasShs_c, setAll, AV.isCell, Shape.size_leaf, Shape.size_arr, Shape.size_st, Shape.sizes_cons, Shape.sizes_nil, List.length_append, List.append_assoc, List.length_set, stP, ldP, getP, setP, psh, partsOf, slen, rd, dem, demK, mapO, AV.bnds, AV.bnd, bne_self_eq_false, AV.plain2, AV.plain, List.all_cons, List.all_nil, List.take_length, List.drop_zero, List.drop_succ_cons, Nat.mul_one, List.getElem?_nil, List.forall_mem_cons, List.not_mem_nil, implies_true, Bool.and_true, Bool.true_and, Bool.and_false, Bool.false_and, and_self, and_false, false_and]
  refine f56 ?_
  simp (maxSteps := 2000000) only [↓vS_skip, ↓vS_reg, ↓vS_draw, ↓vS_seq, ↓vS_cond, ↓vS_block, ↓vS_exit, ↓vS_ret, ↓vI_nil, ↓vI_go, ↓vI_gd, ↓stepI_q, ↓stepI_e, ↓stepI_c, ↓stepI_v, ↓vD_nil, ↓vD_go, ↓vD_gd, ↓stepW_q, ↓stepW_e, ↓stepW_c, ↓stepW_v, ↓Kw_app, ↓KwD_app, ↓Kc_app, ↓Kp_app, ↓Kr_app, ↓Ks_n, ↓Ks_r, ↓Ks_x, ↓Kb_n, ↓Kb_r, ↓Kb_x, ↓Ku_n, ↓Ku_r, ↓Ku_x, ↓Kl_n, ↓Kl_r, ↓Kl_x, ↓Kend_n, ↓Kend_r, ↓Two_t, ↓Two_f, ↓unr_succ, putE_none, putE_var, putE_new, get_t, get_c, qev, eev, rsGet, rvGet, oneOf, binAV, isSh, bvBin, bvOp, bvCmp, bvSh, intBin, intSh, cvAV, unAV, AV.cnt, AV.num, Ken2_s, Ken3_s, htake_1, htake_2, beq_self_eq_true, beq_true, beq_false, Bool.not_eq_true, maxLen, Nat.reducePow, Nat.reduceMul, List.map_cons, List.map_nil, List.getD_cons_zero, List.getD_cons_succ, List.set_cons_zero, List.set_cons_succ, List.cons_append, List.nil_append, List.append_nil, List.take_succ_cons, List.take_zero, List.take_nil, List.length_cons, List.length_nil, List.replicate_succ, List.replicate_zero, Option.map_some, Option.map_none, List.getElem?_cons_zero, List.getElem?_cons_succ, true_and, and_true, if_true, if_false, ite_true, ite_false, reduceIte, reduceCtorEq, false_or, or_true, true_or, or_false, Option.some.injEq, Prod.mk.injEq, exists_eq_left', exists_eq_left, exists_eq_right, exists_and_left, exists_and_right, exists_const, and_assoc, decide_true, decide_false, Bool.false_eq_true, forall_const, Bool.not_true, Bool.not_false, false_implies, true_implies, Nat.reduceAdd, Nat.reduceSub, Nat.reduceMul, Nat.reduceLT, Nat.reduceLeDiff, Nat.reduceEqDiff, Int.reduceAdd, Int.reduceSub, Int.reduceMul, Int.reduceLT, Int.reduceLE, Int.reduceTMod, Int.reduceTDiv, Int.reduceToNat, Int.reduceEq, Int.reduceNe, Int.reduceNeg, ne_eq, not_false_eq_true, not_true_eq_false, InR, Bool.true_eq_false, Bool.false_eq_true, reduceDIte, Nat.zero_add, Nat.add_zero, Int.cast_ofNat_Int, eq_self, hget_0, hget_k, hget_z, hget_s, hset_0, hset_k, htake_0, lt_own0, lt_ownk, hasAt_nil, hasAt_arr, hasAt_st, hasSh_l, hasSh_aa, hasSh_sa, hasShs_n, hasShs_c, setAll, AV.isCell, Shape.size_leaf, Shape.size_arr, Shape.size_st, Shape.sizes_cons, Shape.sizes_nil, List.length_append, List.append_assoc, List.length_set, stP, ldP, getP, setP, psh, partsOf, slen, rd, dem, demK, mapO, AV.bnds, AV.bnd, bne_self_eq_false, AV.plain2, AV.plain, List.all_cons, List.all_nil, List.take_length, List.drop_zero, List.drop_succ_cons, Nat.mul_one, List.getElem?_nil, List.forall_mem_cons, List.not_mem_nil, implies_true, Bool.and_true, Bool.true_and, Bool.and_false, Bool.false_and, and_self, and_false, false_and]
  exact h
theorem f20 {K : AV → Heap → Prop} {H : Heap} {l : Int} {x y : BitVec 64} (h : K (.u64 (x * y &&& maskV l)) H) : wpF P [] 20 [.int l, .u64 x, .u64 y] H K := by
  refine wpF_go c20 rfl 2 ?_
  intro ha hb
  simp only [s20]
  simp (maxSteps := 2000000) only [↓vS_skip, ↓vS_reg, ↓vS_draw, ↓vS_seq, ↓vS_cond, ↓vS_block, ↓vS_exit, ↓vS_ret, ↓vI_nil, ↓vI_go, ↓vI_gd, ↓stepI_q, ↓stepI_e, ↓stepI_c, ↓stepI_v, ↓vD_nil, ↓vD_go, ↓vD_gd, ↓stepW_q, ↓stepW_e, ↓stepW_c, ↓stepW_v, ↓Kw_app, ↓KwD_app, ↓Kc_app, ↓Kp_app, ↓Kr_app, ↓Ks_n, ↓Ks_r, ↓Ks_x, ↓Kb_n, ↓Kb_r, ↓Kb_x, ↓Ku_n, ↓Ku_r, ↓Ku_x, ↓Kl_n, ↓Kl_r, ↓Kl_x, ↓Kend_n, ↓Kend_r, ↓Two_t, ↓Two_f, ↓unr_succ, putE_none, putE_var, putE_new, get_t, get_c, qev, eev, rsGet, rvGet, oneOf, binAV, isSh, bvBin, bvOp, bvCmp, bvSh, intBin, intSh, cvAV, unAV, AV.cnt, AV.num, Ken2_s, Ken3_s, htake_1, htake_2, beq_self_eq_true, beq_true, beq_false, Bool.not_eq_true, maxLen, Nat.reducePow, Nat.reduceMul, List.map_cons, List.map_nil, List.getD_cons_zero, List.getD_cons_succ, List.set_cons_zero, List.set_cons_succ, List.cons_append, List.nil_append, List.append_nil, List.take_succ_cons, List.take_zero, List.take_nil, List.length_cons, List.length_nil, List.replicate_succ, List.replicate_zero, Option.map_some, Option.map_none, List.getElem?_cons_zero, List.getElem?_cons_succ, true_and, and_true, if_true, if_false, ite_true, ite_false, reduceIte, reduceCtorEq, false_or, or_true, true_or, or_false, Option.some.injEq, Prod.mk.injEq, exists_eq_left', exists_eq_left, exists_eq_right, exists_and_left, exists_and_right, exists_const, and_assoc, decide_true, decide_false, Bool.false_eq_true, forall_const, Bool.not_true, Bool.not_false, false_implies, true_implies, Nat.reduceAdd, Nat.reduceSub, Nat.reduceMul, Nat.reduceLT, Nat.reduceLeDiff, Nat.reduceEqDiff, Int.reduceAdd, Int.reduceSub, Int.reduceMul, Int.reduceLT, Int.reduceLE, Int.reduceTMod, Int.reduceTDiv, Int.reduceToNat, Int.reduceEq, Int.reduceNe, Int.reduceNeg, ne_eq, not_false_eq_true, not_true_eq_false, InR, Bool.true_eq_false, Bool.false_eq_true, reduceDIte, Nat.zero_add, Nat.add_zero, Int.cast_ofNat_Int, eq_self, hget_0, hget_k, hget_z, hget_s, hset_0, hset_k, htake_0, lt_own0, lt_ownk, hasAt_nil, hasAt_arr, hasAt_st, hasSh_l, hasSh_aa, hasSh_sa, hasShs_n, hasShs_c, setAll, AV.isCell, Shape.size_leaf, Shape.size_arr, Shape.size_st, Shape.sizes_cons, Shape.sizes_nil, List.length_append, List.append_assoc, List.length_set, stP, ldP, getP, setP, psh, partsOf, slen, rd, dem, demK, mapO, AV.bnds, AV.bnd, bne_self_eq_false, AV.plain2, AV.plain, List.all_cons, List.all_nil, List.take_length, List.drop_zero, List.drop_succ_cons, Nat.mul_one, List.getElem?_nil, List.forall_mem_cons, List.not_mem_nil, implies_true, Bool.and_true, Bool.true_and, Bool.and_false, Bool.false_and, and_self, and_false, false_and]
  refine f56 ?_
  simp (maxSteps := 2000000) only [↓vS_skip, ↓vS_reg, ↓vS_draw, ↓vS_seq, ↓vS_cond, ↓vS_block, ↓vS_exit, ↓vS_ret, ↓vI_nil, ↓vI_go, ↓vI_gd, ↓stepI_q, ↓stepI_e, ↓stepI_c, ↓stepI_v, ↓vD_nil, ↓vD_go, ↓vD_gd, ↓stepW_q, ↓stepW_e, ↓stepW_c, ↓stepW_v, ↓Kw_app, ↓KwD_app, ↓Kc_app, ↓Kp_app, ↓Kr_app, ↓Ks_n, ↓Ks_r, ↓Ks_x, ↓Kb_n, ↓Kb_r, ↓Kb_x, ↓Ku_n, ↓Ku_r, ↓Ku_x, ↓Kl_n, ↓Kl_r, ↓Kl_x, ↓Kend_n, ↓Kend_r, ↓Two_t, ↓Two_f, ↓unr_succ, putE_none, putE_var, putE_new, get_t, get_c, qev, eev, rsGet, rvGet, oneOf, binAV, isSh, bvBin, bvOp, bvCmp, bvSh, intBin, intSh, cvAV, unAV, AV.cnt, AV.num, Ken2_s, Ken3_s, htake_1, htake_2, beq_self_eq_true, beq_true, beq_false, Bool.not_eq_true, maxLen, Nat.reducePow, Nat.reduceMul, List.map_cons, List.map_nil, List.getD_cons_zero, List.getD_cons_succ, List.set_cons_zero, List.set_cons_succ, List.cons_append, List.nil_append, List.append_nil, List.take_succ_cons, List.take_zero, List.take_nil, List.length_cons, List.length_nil, List.replicate_succ, List.replicate_zero, Option.map_some, Option.map_none, List.getElem?_cons_zero, List.getElem?_cons_succ, true_and, and_true, if_true, if_false, ite_true, ite_false, reduceIte, reduceCtorEq, false_or, or_true, true_or, or_false, Option.some.injEq, Prod.mk.injEq, exists_eq_left', exists_eq_left, exists_eq_right, exists_and_left, exists_and_right, exists_const, and_assoc, decide_true, decide_false, Bool.false_eq_true, forall_const, Bool.not_true, Bool.not_false, false_implies, true_implies, Nat.reduceAdd, Nat.reduceSub, Nat.reduceMul, Nat.reduceLT, Nat.reduceLeDiff, Nat.reduceEqDiff, Int.reduceAdd, Int.reduceSub, Int.reduceMul, Int.reduceLT, Int.reduceLE, Int.reduceTMod, Int.reduceTDiv, Int.reduceToNat, Int.reduceEq, Int.reduceNe, Int.reduceNeg, ne_eq, not_false_eq_true, not_true_eq_false, InR, Bool.true_eq_false, Bool.false_eq_true, reduceDIte, Nat.zero_add, Nat.add_zero, Int.cast_ofNat_Int, eq_self, hget_0, hget_k, hget_z, hget_s, hset_0, hset_k, htake_0, lt_own0, lt_ownk, hasAt_nil, hasAt_arr, hasAt_st, hasSh_l, hasSh_aa, hasSh_sa, hasShs_n, hasShs_c, setAll, AV.isCell, Shape.size_leaf, Shape.size_arr, Shape.size_st, Shape.sizes_cons, Shape.sizes_nil, List.length_append, List.append_assoc, List.length_set, stP, ldP, getP, setP, psh, partsOf, slen, rd, dem, demK, mapO, AV.bnds, AV.bnd, bne_self_eq_false, AV.plain2, AV.plain, List.all_cons, List.all_nil, List.take_length, List.drop_zero, List.drop_succ_cons, Nat.mul_one, List.getElem?_nil, List.forall_mem_cons, List.not_mem_nil, implies_true, Bool.and_true, Bool.true_and, Bool.and_false, Bool.false_and, and_self, and_false, false_and]
  exact h
theorem f26 {K : AV → Heap → Prop} {H : Heap} {l : Int} {x y : BitVec 64} (h : K (.u64 ((x + y) &&& maskV l)) H) : wpF P [] 26 [.int l, .u64 x, .u64 y] H K := by
  refine wpF_go c26 rfl 2 ?_
  intro ha hb
  simp only [s26]
  simp (maxSteps := 2000000) only [↓vS_skip, ↓vS_reg, ↓vS_draw, ↓vS_seq, ↓vS_cond, ↓vS_block, ↓vS_exit, ↓vS_ret, ↓vI_nil, ↓vI_go, ↓vI_gd, ↓stepI_q, ↓stepI_e, ↓stepI_c, ↓stepI_v, ↓vD_nil, ↓vD_go, ↓vD_gd, ↓stepW_q, ↓stepW_e, ↓stepW_c, ↓stepW_v, ↓Kw_app, ↓KwD_app, ↓Kc_app, ↓Kp_app, ↓Kr_app, ↓Ks_n, ↓Ks_r, ↓Ks_x, ↓Kb_n, ↓Kb_r, ↓Kb_x, ↓Ku_n, ↓Ku_r, ↓Ku_x, ↓Kl_n, ↓Kl_r, ↓Kl_x, ↓Kend_n, ↓Kend_r, ↓Two_t, ↓Two_f, ↓unr_succ, putE_none, putE_var, putE_new, get_t, get_c, qev, eev, rsGet, rvGet, oneOf, binAV, isSh, bvBin, bvOp, bvCmp, bvSh, intBin, intSh, cvAV, unAV, AV.cnt, AV.num, Ken2_s, Ken3_s, htake_1, htake_2, beq_self_eq_true, beq_true, beq_false, Bool.not_eq_true, maxLen, Nat.reducePow, Nat.reduceMul, List.map_cons, List.map_nil, List.getD_cons_zero, List.getD_cons_succ, List.set_cons_zero, List.set_cons_succ, List.cons_append, List.nil_append, List.append_nil, List.take_succ_cons, List.take_zero, List.take_nil, List.length_cons, List.length_nil, List.replicate_succ, List.replicate_zero, Option.map_some, Option.map_none, List.getElem?_cons_zero, List.getElem?_cons_succ, true_and, and_true, if_true, if_false, ite_true, ite_false, reduceIte, reduceCtorEq, false_or, or_true, true_or, or_false, Option.some.injEq, Prod.mk.injEq, exists_eq_left', exists_eq_left, exists_eq_right, exists_and_left, exists_and_right, exists_const, and_assoc, decide_true, decide_false, Bool.false_eq_true, forall_const, Bool.not_true, Bool.not_false, false_implies, true_implies, Nat.reduceAdd, Nat.reduceSub, Nat.reduceMul, Nat.reduceLT, Nat.reduceLeDiff, Nat.reduceEqDiff, Int.reduceAdd, Int.reduceSub, Int.reduceMul, Int.reduceLT, Int.reduceLE, Int.reduceTMod, Int.reduceTDiv, Int.reduceToNat, Int.reduceEq, Int.reduceNe, Int.reduceNeg, ne_eq, not_false_eq_true, not_true_eq_false, InR, Bool.true_eq_false, Bool.false_eq_true, reduceDIte, Nat.zero_add, Nat.add_zero, Int.cast_ofNat_Int, eq_self, hget_0, hget_k, hget_z, hget_s, hset_0, hset_k, htake_0, lt_own0, lt_ownk, hasAt_nil, hasAt_arr, hasAt_st, hasSh_l, hasSh_aa, hasSh_sa, hasShs_n, hasShs_c, setAll, AV.isCell, Shape.size_leaf, Shape.size_arr, Shape.size_st, Shape.sizes_cons, Shape.sizes_nil, List.length_append, List.append_assoc, List.length_set, stP, ldP, getP, setP, psh, partsOf, slen, rd, dem, demK, mapO, AV.bnds, AV.bnd, bne_self_eq_false, AV.plain2, AV.plain, List.all_cons, List.all_nil, List.take_length, List.drop_zero, List.drop_succ_cons, Nat.mul_one, List.getElem?_nil, List.forall_mem_cons, List.not_mem_nil, implies_true, Bool.and_true, Bool.true_and, Bool.and_false, Bool.false_and, and_self, and_false, false_and]
  refine f56 ?_
  simp (maxSteps := 2000000) only [↓vS_skip, ↓vS_reg, ↓vS_draw, ↓vS_seq, ↓vS_cond, ↓vS_block, ↓vS_exit, ↓vS_ret, ↓vI_nil, ↓vI_go, ↓vI_gd, ↓stepI_q, ↓stepI_e, ↓stepI_c, ↓stepI_v, ↓vD_nil, ↓vD_go, ↓vD_gd, ↓stepW_q, ↓stepW_e, ↓stepW_c, ↓stepW_v, ↓Kw_app, ↓KwD_app, ↓Kc_app, ↓Kp_app, ↓Kr_app, ↓Ks_n, ↓Ks_r, ↓Ks_x, ↓Kb_n, ↓Kb_r, ↓Kb_x, ↓Ku_n, ↓Ku_r, ↓Ku_x, ↓Kl_n, ↓Kl_r, ↓Kl_x, ↓Kend_n, ↓Kend_r, ↓Two_t, ↓Two_f, ↓unr_succ, putE_none, putE_var, putE_new, get_t, get_c, qev, eev, rsGet, rvGet, oneOf, binAV, isSh, bvBin, bvOp, bvCmp, bvSh, intBin, intSh, cvAV, unAV, AV.cnt, AV.num, Ken2_s, Ken3_s, htake_1, htake_2, beq_self_eq_true, beq_true, beq_false, Bool.not_eq_true, maxLen, Nat.reducePow, Nat.reduceMul, List.map_cons, List.map_nil, List.getD_cons_zero, List.getD_cons_succ, List.set_cons_zero, List.set_cons_succ, List.cons_append, List.nil_append, List.append_nil, List.take_succ_cons, List.take_zero, List.take_nil, List.length_cons, List.length_nil, List.replicate_succ, List.replicate_zero, Option.map_some, Option.map_none, List.getElem?_cons_zero, List.getElem?_cons_succ, true_and, and_true, if_true, if_false, ite_true, ite_false, reduceIte, reduceCtorEq, false_or, or_true, true_or, or_false, Option.some.injEq, Prod.mk.injEq, exists_eq_left', exists_eq_left, exists_eq_right, exists_and_left, exists_and_right, exists_const, and_assoc, decide_true, decide_false, Bool.false_eq_true, forall_const, Bool.not_true, Bool.not_false, false_implies, true_implies, Nat.reduceAdd, Nat.reduceSub, Nat.reduceMul, Nat.reduceLT, Nat.reduceLeDiff, Nat.reduceEqDiff, Int.reduceAdd, Int.reduceSub, Int.reduceMul, Int.reduceLT, Int.reduceLE, Int.reduceTMod, Int.reduceTDiv, Int.reduceToNat, Int.reduceEq, Int.reduceNe, Int.reduceNeg, ne_eq, not_false_eq_true, not_true_eq_false, InR, Bool.true_eq_false, Bool.false_eq_true, reduceDIte, Nat.zero_add, Nat.add_zero, Int.cast_ofNat_Int, eq_self, hget_0, hget_k, hget_z, hget_s, hset_0, hset_k, htake_0, lt_own0, lt_ownk, hasAt_nil, hasAt_arr, hasAt_st, hasSh_l, hasSh_aa, hasSh_sa, hasShs_n, hasShs_c, setAll, AV.isCell, Shape.size_leaf, Shape.size_arr, Shape.size_st, Shape.sizes_cons, Shape.sizes_nil, List.length_append, List.append_assoc, List.length_set, stP, ldP, getP, setP, psh, partsOf, slen, rd, dem, demK, mapO, AV.bnds, AV.bnd, bne_self_eq_false, AV.plain2, AV.plain, List.all_cons, List.all_nil, List.take_length, List.drop_zero, List.drop_succ_cons, Nat.mul_one, List.getElem?_nil, List.forall_mem_cons, List.not_mem_nil, implies_true, Bool.and_true, Bool.true_and, Bool.and_false, Bool.false_and, and_self, and_false, false_and]
  exact h
theorem f29 {K : AV → Heap → Prop} {H : Heap} {l : Int} {x y : BitVec 64} (h : K (.u64 ((x - y) &&& maskV l)) H) : wpF P [] 29 [.int l, .u64 x, .u64 y] H K := by
  refine wpF_go c29 rfl 2 ?_
  intro ha hb
  simp only [s29]
  simp (maxSteps := 2000000) only [↓vS_skip, ↓vS_reg, ↓vS_draw, ↓vS_seq, ↓vS_cond, ↓vS_block, ↓vS_exit, ↓vS_ret, ↓vI_nil, ↓vI_go, ↓vI_gd, ↓stepI_q, ↓stepI_e, ↓stepI_c, ↓stepI_v, ↓vD_nil, ↓vD_go, ↓vD_gd, ↓stepW_q, ↓stepW_e, ↓stepW_c, ↓stepW_v, ↓Kw_app, ↓KwD_app, ↓Kc_app, ↓Kp_app, ↓Kr_app, ↓Ks_n, ↓Ks_r, ↓Ks_x, ↓Kb_n, ↓Kb_r, ↓Kb_x, ↓Ku_n, ↓Ku_r, ↓Ku_x, ↓Kl_n, ↓Kl_r, ↓Kl_x, ↓Kend_n, ↓Kend_r, ↓Two_t, ↓Two_f, ↓unr_succ, putE_none, putE_var, putE_new, get_t, get_c, qev, eev, rsGet, rvGet, oneOf, binAV, isSh, bvBin, bvOp, bvCmp, bvSh, intBin, intSh, cvAV, unAV, AV.cnt, AV.num, Ken2_s, Ken3_s, htake_1, htake_2, beq_self_eq_true, beq_true, beq_false, Bool.not_eq_true, maxLen, Nat.reducePow, Nat.reduceMul, List.map_cons, List.map_nil, List.getD_cons_zero, List.getD_cons_succ, List.set_cons_zero, List.set_cons_succ, List.cons_append, List.nil_append, List.append_nil, List.take_succ_cons, List.take_zero, List.take_nil, List.length_cons, List.length_nil, List.replicate_succ, List.replicate_zero, Option.map_some, Option.map_none, List.getElem?_cons_zero, List.getElem?_cons_succ, true_and, and_true, if_true, if_false, ite_true, ite_false, reduceIte, reduceCtorEq, false_or, or_true, true_or, or_false, Option.some.injEq, Prod.mk.injEq, exists_eq_left', exists_eq_left, exists_eq_right, exists_and_left, exists_and_right, exists_const, and_assoc, decide_true, decide_false, Bool.false_eq_true, forall_const, Bool.not_true, Bool.not_false, false_implies, true_implies, Nat.reduceAdd, Nat.reduceSub, Nat.reduceMul, Nat.reduceLT, Nat.reduceLeDiff, Nat.reduceEqDiff, Int.reduceAdd, Int.reduceSub, Int.reduceMul, Int.reduceLT, Int.reduceLE, Int.reduceTMod, Int.reduceTDiv, Int.reduceToNat, Int.reduceEq, Int.reduceNe, Int.reduceNeg, ne_eq, not_false_eq_true, not_true_eq_false, InR, Bool.true_eq_false, Bool.false_eq_true, reduceDIte, Nat.zero_add, Nat.add_zero, Int.cast_ofNat_Int, eq_self, hget_0, hget_k, hget_z, hget_s, hset_0, hset_k, htake_0, lt_own0, lt_ownk, hasAt_nil, hasAt_arr, hasAt_st, hasSh_l, hasSh_aa, hasSh_sa, hasShs_n, hasShs_c, setAll, AV.isCell, Shape.size_leaf, Shape.size_arr, Shape.size_st, Shape.sizes_cons, Shape.sizes_nil, List.length_append, List.append_assoc, List.length_set, stP, ldP, getP, setP, psh, partsOf, slen, rd, dem, demK, mapO, AV.bnds, AV.bnd, bne_self_eq_false, AV.plain2, AV.plain, List.all_cons, List.all_nil, List.take_length, List.drop_zero, List.drop_succ_cons, Nat.mul_one, List.getElem?_nil, List.forall_mem_cons, List.not_mem_nil, implies_true, Bool.and_true, Bool.true_and, Bool.and_false, Bool.false_and, and_self, and_false, false_and]
  refine f56 ?_
  simp (maxSteps := 2000000) only [↓vS_skip, ↓vS_reg, ↓vS_draw, ↓vS_seq, ↓vS_cond, ↓vS_block, ↓vS_exit, ↓vS_ret, ↓vI_nil, ↓vI_go, ↓vI_gd, ↓stepI_q, ↓stepI_e, ↓stepI_c, ↓stepI_v, ↓vD_nil, ↓vD_go, ↓vD_gd, ↓stepW_q, ↓stepW_e, ↓stepW_c, ↓stepW_v, ↓Kw_app, ↓KwD_app, ↓Kc_app, ↓Kp_app, ↓Kr_app, ↓Ks_n, ↓Ks_r, ↓Ks_x, ↓Kb_n, ↓Kb_r, ↓Kb_x, ↓Ku_n, ↓Ku_r, ↓Ku_x, ↓Kl_n, ↓Kl_r, ↓Kl_x, ↓Kend_n, ↓Kend_r, ↓Two_t, ↓Two_f, ↓unr_succ, putE_none, putE_var, putE_new, get_t, get_c, qev, eev, rsGet, rvGet, oneOf, binAV, isSh, bvBin, bvOp, bvCmp, bvSh, intBin, intSh, cvAV, unAV, AV.cnt, AV.num, Ken2_s, Ken3_s, htake_1, htake_2, beq_self_eq_true, beq_true, beq_false, Bool.not_eq_true, maxLen, Nat.reducePow, Nat.reduceMul, List.map_cons, List.map_nil, List.getD_cons_zero, List.getD_cons_succ, List.set_cons_zero, List.set_cons_succ, List.cons_append, List.nil_append, List.append_nil, List.take_succ_cons, List.take_zero, List.take_nil, List.length_cons, List.length_nil, List.replicate_succ, List.replicate_zero, Option.map_some, Option.map_none, List.getElem?_cons_zero, List.getElem?_cons_succ, true_and, and_true, if_true, if_false, ite_true, ite_false, reduceIte, reduceCtorEq, false_or, or_true, true_or, or_false, Option.some.injEq, Prod.mk.injEq, exists_eq_left', exists_eq_left, exists_eq_right, exists_and_left, exists_and_right, exists_const, and_assoc, decide_true, decide_false, Bool.false_eq_true, forall_const, Bool.not_true, Bool.not_false, false_implies, true_implies, Nat.reduceAdd, Nat.reduceSub, Nat.reduceMul, Nat.reduceLT, Nat.reduceLeDiff, Nat.reduceEqDiff, Int.reduceAdd, Int.reduceSub, Int.reduceMul, Int.reduceLT, Int.reduceLE, Int.reduceTMod, Int.reduceTDiv, Int.reduceToNat, Int.reduceEq, Int.reduceNe, Int.reduceNeg, ne_eq, not_false_eq_true, not_true_eq_false, InR, Bool.true_eq_false, Bool.false_eq_true, reduceDIte, Nat.zero_add, Nat.add_zero, Int.cast_ofNat_Int, eq_self, hget_0, hget_k, hget_z, hget_s, hset_0, hset_k, htake_0, lt_own0, lt_ownk, hasAt_nil, hasAt_arr, hasAt_st, hasSh_l, hasSh_aa, hasSh_sa, hasShs_n, hasShs_c, setAll, AV.isCell, Shape.size_leaf, Shape.size_arr, Shape.size_st, Shape.sizes_cons, Shape.sizes_nil, List.length_append, List.append_assoc, List.length_set, stP, ldP, getP, setP, psh, partsOf, slen, rd, dem, demK, mapO, AV.bnds, AV.bnd, bne_self_eq_false, AV.plain2, AV.plain, List.all_cons, List.all_nil, List.take_length, List.drop_zero, List.drop_succ_cons, Nat.mul_one, List.getElem?_nil, List.forall_mem_cons, List.not_mem_nil, implies_true, Bool.and_true, Bool.true_and, Bool.and_false, Bool.false_and, and_self, and_false, false_and]
  exact h
theorem f30 {K : AV → Heap → Prop} {H : Heap} {l : Int} {x : BitVec 64} (h : K (.u64 (-x &&& maskV l)) H) : wpF P [] 30 [.int l, .u64 x] H K := by
  refine wpF_go c30 rfl 2 ?_
  intro ha hb
  simp only [s30]
  simp (maxSteps := 2000000) only [↓vS_skip, ↓vS_reg, ↓vS_draw, ↓vS_seq, ↓vS_cond, ↓vS_block, ↓vS_exit, ↓vS_ret, ↓vI_nil, ↓vI_go, ↓vI_gd, ↓stepI_q, ↓stepI_e, ↓stepI_c, ↓stepI_v, ↓vD_nil, ↓vD_go, ↓vD_gd, ↓stepW_q, ↓stepW_e, ↓stepW_c, ↓stepW_v, ↓Kw_app, ↓KwD_app, ↓Kc_app, ↓Kp_app, ↓Kr_app, ↓Ks_n, ↓Ks_r, ↓Ks_x, ↓Kb_n, ↓Kb_r, ↓Kb_x, ↓Ku_n, ↓Ku_r, ↓Ku_x, ↓Kl_n, ↓Kl_r, ↓Kl_x, ↓Kend_n, ↓Kend_r, ↓Two_t, ↓Two_f, ↓unr_succ, putE_none, putE_var, putE_new, get_t, get_c, qev, eev, rsGet, rvGet, oneOf, binAV, isSh, bvBin, bvOp, bvCmp, bvSh, intBin, intSh, cvAV, unAV, AV.cnt, AV.num, Ken2_s, Ken3_s, htake_1, htake_2, beq_self_eq_true, beq_true, beq_false, Bool.not_eq_true, maxLen, Nat.reducePow, Nat.reduceMul, List.map_cons, List.map_nil, List.getD_cons_zero, List.getD_cons_succ, List.set_cons_zero, List.set_cons_succ, List.cons_append, List.nil_append, List.append_nil, List.take_succ_cons, List.take_zero, List.take_nil, List.length_cons, List.length_nil, List.replicate_succ, List.replicate_zero, Option.map_some, Option.map_none, List.getElem?_cons_zero, List.getElem?_cons_succ, true_and, and_true, if_true, if_false, ite_true, ite_false, reduceIte, reduceCtorEq, false_or, or_true, true_or, or_false, Option.some.injEq, Prod.mk.injEq, exists_eq_left', exists_eq_left, exists_eq_right, exists_and_left, exists_and_right, exists_const, and_assoc, decide_true, decide_false, Bool.false_eq_true, forall_const, Bool.not_true, Bool.not_false, false_implies, true_implies, Nat.reduceAdd, Nat.reduceSub, Nat.reduceMul, Nat.reduceLT, Nat.reduceLeDiff, Nat.reduceEqDiff, Int.reduceAdd, Int.reduceSub, Int.reduceMul, Int.reduceLT, Int.reduceLE, Int.reduceTMod, Int.reduceTDiv, Int.reduceToNat, Int.reduceEq, Int.reduceNe, Int.reduceNeg, ne_eq, not_false_eq_true, not_true_eq_false, InR, Bool.true_eq_false, Bool.false_eq_true, reduceDIte, Nat.zero_add, Nat.add_zero, Int.cast_ofNat_Int, eq_self, hget_0, hget_k, hget_z, hget_s, hset_0, hset_k, htake_0, lt_own0, lt_ownk, hasAt_nil, hasAt_arr, hasAt_st, hasSh_l, hasSh_aa, hasSh_sa, hasShs_n, hasShs_c, setAll, AV.isCell, Shape.size_leaf, Shape.size_arr, Shape.size_st, Shape.sizes_cons, Shape.sizes_nil, List.length_append, List.append_assoc, List.length_set, stP, ldP, getP, setP, psh, partsOf, slen, rd, dem, demK, mapO, AV.bnds, AV.bnd, bne_self_eq_false, AV.plain2, AV.plain, List.all_cons, List.all_nil, List.take_length, List.drop_zero, List.drop_succ_cons, Nat.mul_one, List.getElem?_nil, List.forall_mem_cons, List.not_mem_nil, implies_true, Bool.and_true, Bool.true_and, Bool.and_false, Bool.false_and, and_self, and_false, false_and]
  refine f56 ?_
  simp (maxSteps := 2000000) only [↓vS_skip, ↓vS_reg, ↓vS_draw, ↓vS_seq, ↓vS_cond, ↓vS_block, ↓vS_exit, ↓vS_ret, ↓vI_nil, ↓vI_go, ↓vI_gd, ↓stepI_q, ↓stepI_e, ↓stepI_c, ↓stepI_v, ↓vD_nil, ↓vD_go, ↓vD_gd, ↓stepW_q, ↓stepW_e, ↓stepW_c, ↓stepW_v, ↓Kw_app, ↓KwD_app, ↓Kc_app, ↓Kp_app, ↓Kr_app, ↓Ks_n, ↓Ks_r, ↓Ks_x, ↓Kb_n, ↓Kb_r, ↓Kb_x, ↓Ku_n, ↓Ku_r, ↓Ku_x, ↓Kl_n, ↓Kl_r, ↓Kl_x, ↓Kend_n, ↓Kend_r, ↓Two_t, ↓Two_f, ↓unr_succ, putE_none, putE_var, putE_new, get_t, get_c, qev, eev, rsGet, rvGet, oneOf, binAV, isSh, bvBin, bvOp, bvCmp, bvSh, intBin, intSh, cvAV, unAV, AV.cnt, AV.num, Ken2_s, Ken3_s, htake_1, htake_2, beq_self_eq_true, beq_true, beq_false, Bool.not_eq_true, maxLen, Nat.reducePow, Nat.reduceMul, List.map_cons, List.map_nil, List.getD_cons_zero, List.getD_cons_succ, List.set_cons_zero, List.set_cons_succ, List.cons_append, List.nil_append, List.append_nil, List.take_succ_cons, List.take_zero, List.take_nil, List.length_cons, List.length_nil, List.replicate_succ, List.replicate_zero, Option.map_some, Option.map_none, List.getElem?_cons_zero, List.getElem?_cons_succ, true_and, and_true, if_true, if_false, ite_true, ite_false, reduceIte, reduceCtorEq, false_or, or_true, true_or, or_false, Option.some.injEq, Prod.mk.injEq, exists_eq_left', exists_eq_left, exists_eq_right, exists_and_left, exists_and_right, exists_const, and_assoc, decide_true, decide_false, Bool.false_eq_true, forall_const, Bool.not_true, Bool.not_false, false_implies, true_implies, Nat.reduceAdd, Nat.reduceSub, Nat.reduceMul, Nat.reduceLT, Nat.reduceLeDiff, Nat.reduceEqDiff, Int.reduceAdd, Int.reduceSub, Int.reduceMul, Int.reduceLT, Int.reduceLE, Int.reduceTMod, Int.reduceTDiv, Int.reduceToNat, Int.reduceEq, Int.reduceNe, Int.reduceNeg, ne_eq, not_false_eq_true, not_true_eq_false, InR, Bool.true_eq_false, Bool.false_eq_true, reduceDIte, Nat.zero_add, Nat.add_zero, Int.cast_ofNat_Int, eq_self, hget_0, hget_k, hget_z, hget_s, hset_0, hset_k, htake_0, lt_own0, lt_ownk, hasAt_nil, hasAt_arr, hasAt_st, hasSh_l, hasSh_aa, hasSh_sa, hasShs_n, hasShs_c, setAll, AV.isCell, Shape.size_leaf, Shape.size_arr, Shape.size_st, Shape.sizes_cons, Shape.sizes_nil, List.length_append, List.append_assoc, List.length_set, stP, ldP, getP, setP, psh, partsOf, slen, rd, dem, demK, mapO, AV.bnds, AV.bnd, bne_self_eq_false, AV.plain2, AV.plain, List.all_cons, List.all_nil, List.take_length, List.drop_zero, List.drop_succ_cons, Nat.mul_one, List.getElem?_nil, List.forall_mem_cons, List.not_mem_nil, implies_true, Bool.and_true, Bool.true_and, Bool.and_false, Bool.false_and, and_self, and_false, false_and]
  exact h
theorem f25 {K : AV → Heap → Prop} {H : Heap} {l : Int} (h : K (.bool (decide (good l))) H) : wpF P [] 25 [.int l] H K := by
  refine wpF_go c25 rfl 2 ?_
  intro ha hb
  simp only [s25]
  by_cases h1 : 1 ≤ l
  · by_cases h2 : l ≤ 64
    · have hg : good l := ⟨h1, h2⟩
      simp only [hg, decide_true] at h
      simp (maxSteps := 2000000) only [↓vS_skip, ↓vS_reg, ↓vS_draw, ↓vS_seq, ↓vS_cond, ↓vS_block, ↓vS_exit, ↓vS_ret, ↓vI_nil, ↓vI_go, ↓vI_gd, ↓stepI_q, ↓stepI_e, ↓stepI_c, ↓stepI_v, ↓vD_nil, ↓vD_go, ↓vD_gd, ↓stepW_q, ↓stepW_e, ↓stepW_c, ↓stepW_v, ↓Kw_app, ↓KwD_app, ↓Kc_app, ↓Kp_app, ↓Kr_app, ↓Ks_n, ↓Ks_r, ↓Ks_x, ↓Kb_n, ↓Kb_r, ↓Kb_x, ↓Ku_n, ↓Ku_r, ↓Ku_x, ↓Kl_n, ↓Kl_r, ↓Kl_x, ↓Kend_n, ↓Kend_r, ↓Two_t, ↓Two_f, ↓unr_succ, putE_none, putE_var, putE_new, get_t, get_c, qev, eev, rsGet, rvGet, oneOf, binAV, isSh, bvBin, bvOp, bvCmp, bvSh, intBin, intSh, cvAV, unAV, AV.cnt, AV.num, Ken2_s, Ken3_s, htake_1, htake_2, beq_self_eq_true, beq_true, beq_false, Bool.not_eq_true, maxLen, Nat.reducePow, Nat.reduceMul, List.map_cons, List.map_nil, List.getD_cons_zero, List.getD_cons_succ, List.set_cons_zero, List.set_cons_succ, List.cons_append, List.nil_append, List.append_nil, List.take_succ_cons, List.take_zero, List.take_nil, List.length_cons, List.length_nil, List.replicate_succ, List.replicate_zero, Option.map_some, Option.map_none, List.getElem?_cons_zero, List.getElem?_cons_succ, true_and, and_true, if_true, if_false, ite_true, ite_false, reduceIte, reduceCtorEq, false_or, or_true, true_or, or_false, Option.some.injEq, Prod.mk.injEq, exists_eq_left', exists_eq_left, exists_eq_right, exists_and_left, exists_and_right, exists_const, and_assoc, decide_true, decide_false, Bool.false_eq_true, forall_const, Bool.not_true, Bool.not_false, false_implies, true_implies, Nat.reduceAdd, Nat.reduceSub, Nat.reduceMul, Nat.reduceLT, Nat.reduceLeDiff, Nat.reduceEqDiff, Int.reduceAdd, Int.reduceSub, Int.reduceMul, Int.reduceLT, Int.reduceLE, Int.reduceTMod, Int.reduceTDiv, Int.reduceToNat, Int.reduceEq, Int.reduceNe, Int.reduceNeg, ne_eq, not_false_eq_true, not_true_eq_false, InR, Bool.true_eq_false, Bool.false_eq_true, reduceDIte, Nat.zero_add, Nat.add_zero, Int.cast_ofNat_Int, eq_self, hget_0, hget_k, hget_z, hget_s, hset_0, hset_k, htake_0, lt_own0, lt_ownk, hasAt_nil, hasAt_arr, hasAt_st, hasSh_l, hasSh_aa, hasSh_sa, hasShs_n, hasShs_c, setAll, AV.isCell, Shape.size_leaf, Shape.size_arr, Shape.size_st, Shape.sizes_cons, Shape.sizes_nil, List.length_append, List.append_assoc, List.length_set, stP, ldP, getP, setP, psh, partsOf, slen, rd, dem, demK, mapO, AV.bnds, AV.bnd, bne_self_eq_false, AV.plain2, AV.plain, List.all_cons, List.all_nil, List.take_length, List.drop_zero, List.drop_succ_cons, Nat.mul_one, List.getElem?_nil, List.forall_mem_cons, List.not_mem_nil, implies_true, Bool.and_true, Bool.true_and, Bool.and_false, Bool.false_and, and_self, and_false, false_and, h1, h2]
      exact h
    · have hg : ¬ good l := fun hg => h2 hg.2
      simp only [hg, decide_false] at h
      simp (maxSteps := 2000000) only [↓vS_skip, ↓vS_reg, ↓vS_draw, ↓vS_seq, ↓vS_cond, ↓vS_block, ↓vS_exit, ↓vS_ret, ↓vI_nil, ↓vI_go, ↓vI_gd, ↓stepI_q, ↓stepI_e, ↓stepI_c, ↓stepI_v, ↓vD_nil, ↓vD_go, ↓vD_gd, ↓stepW_q, ↓stepW_e, ↓stepW_c, ↓stepW_v, ↓Kw_app, ↓KwD_app, ↓Kc_app, ↓Kp_app, ↓Kr_app, ↓Ks_n, ↓Ks_r, ↓Ks_x, ↓Kb_n, ↓Kb_r, ↓Kb_x, ↓Ku_n, ↓Ku_r, ↓Ku_x, ↓Kl_n, ↓Kl_r, ↓Kl_x, ↓Kend_n, ↓Kend_r, ↓Two_t, ↓Two_f, ↓unr_succ, putE_none, putE_var, putE_new, get_t, get_c, qev, eev, rsGet, rvGet, oneOf, binAV, isSh, bvBin, bvOp, bvCmp, bvSh, intBin, intSh, cvAV, unAV, AV.cnt, AV.num, Ken2_s, Ken3_s, htake_1, htake_2, beq_self_eq_true, beq_true, beq_false, Bool.not_eq_true, maxLen, Nat.reducePow, Nat.reduceMul, List.map_cons, List.map_nil, List.getD_cons_zero, List.getD_cons_succ, List.set_cons_zero, List.set_cons_succ, List.cons_append, List.nil_append, List.append_nil, List.take_succ_cons, List.take_zero, List.take_nil, List.length_cons, List.length_nil, List.replicate_succ, List.replicate_zero, Option.map_some, Option.map_none, List.getElem?_cons_zero, List.getElem?_cons_succ, true_and, and_true, if_true, if_false, ite_true, ite_false, reduceIte, reduceCtorEq, false_or, or_true, true_or, or_false, Option.some.injEq, Prod.mk.injEq, exists_eq_left', exists_eq_left, exists_eq_right, exists_and_left, exists_and_right, exists_const, and_assoc, decide_true, decide_false, Bool.false_eq_true, forall_const, Bool.not_true, Bool.not_false, false_implies, true_implies, Nat.reduceAdd, Nat.reduceSub, Nat.reduceMul, Nat.reduceLT, Nat.reduceLeDiff, Nat.reduceEqDiff, Int.reduceAdd, Int.reduceSub, Int.reduceMul, Int.reduceLT, Int.reduceLE, Int.reduceTMod, Int.reduceTDiv, Int.reduceToNat, Int.reduceEq, Int.reduceNe, Int.reduceNeg, ne_eq, not_false_eq_true, not_true_eq_false, InR, Bool.true_eq_false, Bool.false_eq_true, reduceDIte, Nat.zero_add, Nat.add_zero, Int.cast_ofNat_Int, eq_self, hget_0, hget_k, hget_z, hget_s, hset_0, hset_k, htake_0, lt_own0, lt_ownk, hasAt_nil, hasAt_arr, hasAt_st, hasSh_l, hasSh_aa, hasSh_sa, hasShs_n, hasShs_c, setAll, AV.isCell, Shape.size_leaf, Shape.size_arr, Shape.size_st, Shape.sizes_cons, Shape.sizes_nil, List.length_append, List.append_assoc, List.length_set, stP, ldP, getP, setP, psh, partsOf, slen, rd, dem, demK, mapO, AV.bnds, AV.bnd, bne_self_eq_false, AV.plain2, AV.plain, List.all_cons, List.all_nil, List.take_length, List.drop_zero, List.drop_succ_cons, Nat.mul_one, List.getElem?_nil, List.forall_mem_cons, List.not_mem_nil, implies_true, Bool.and_true, Bool.true_and, Bool.and_false, Bool.false_and, and_self, and_false, false_and, h1, h2]
      exact h
  · have hg : ¬ good l := fun hg => h1 hg.1
    simp only [hg, decide_false] at h
    simp (maxSteps := 2000000) only [↓vS_skip, ↓vS_reg, ↓vS_draw, ↓vS_seq, ↓vS_cond, ↓vS_block, ↓vS_exit, ↓vS_ret, ↓vI_nil, ↓vI_go, ↓vI_gd, ↓stepI_q, ↓stepI_e, ↓stepI_c, ↓stepI_v, ↓vD_nil, ↓vD_go, ↓vD_gd, ↓stepW_q, ↓stepW_e, ↓stepW_c, ↓stepW_v, ↓Kw_app, ↓KwD_app, ↓Kc_app, ↓Kp_app, ↓Kr_app, ↓Ks_n, ↓Ks_r, ↓Ks_x, ↓Kb_n, ↓Kb_r, ↓Kb_x, ↓Ku_n, ↓Ku_r, ↓Ku_x, ↓Kl_n, ↓Kl_r, ↓Kl_x, ↓Kend_n, ↓Kend_r, ↓Two_t, ↓Two_f, ↓unr_succ, putE_none, putE_var, putE_new, get_t, get_c, qev, eev, rsGet, rvGet, oneOf, binAV, isSh, bvBin, bvOp, bvCmp, bvSh, intBin, intSh, cvAV, unAV, AV.cnt, AV.num, Ken2_s, Ken3_s, htake_1, htake_2, beq_self_eq_true, beq_true, beq_false, Bool.not_eq_true, maxLen, Nat.reducePow, Nat.reduceMul, List.map_cons, List.map_nil, List.getD_cons_zero, List.getD_cons_succ, List.set_cons_zero, List.set_cons_succ, List.cons_append, List.nil_append, List.append_nil, List.take_succ_cons, List.take_zero, List.take_nil, List.length_cons, List.length_nil, List.replicate_succ, List.replicate_zero, Option.map_some, Option.map_none, List.getElem?_cons_zero, List.getElem?_cons_succ, true_and, and_true, if_true, if_false, ite_true, ite_false, reduceIte, reduceCtorEq, false_or, or_true, true_or, or_false, Option.some.injEq, Prod.mk.injEq, exists_eq_left', exists_eq_left, exists_eq_right, exists_and_left, exists_and_right, exists_const, and_assoc, decide_true, decide_false, Bool.false_eq_true, forall_const, Bool.not_true, Bool.not_false, false_implies, true_implies, Nat.reduceAdd, Nat.reduceSub, Nat.reduceMul, Nat.reduceLT, Nat.reduceLeDiff, Nat.reduceEqDiff, Int.reduceAdd, Int.reduceSub, Int.reduceMul, Int.reduceLT, Int.reduceLE, Int.reduceTMod, Int.reduceTDiv, Int.reduceToNat, Int.reduceEq, Int.reduceNe, Int.reduceNeg, ne_eq, not_false_eq_true, not_true_eq_false, InR, Bool.true_eq_false, Bool.false_eq_true, reduceDIte, Nat.zero_add, Nat.add_zero, Int.cast_ofNat_Int, eq_self, hget_0, hget_k, hget_z, hget_s, hset_0, hset_k, htake_0, lt_own0, lt_ownk, hasAt_nil, hasAt_arr, hasAt_st, hasSh_l, hasSh_aa, hasSh_sa, hasShs_n, hasShs_c, setAll, AV.isCell, Shape.size_leaf, Shape.size_arr, Shape.size_st, Shape.sizes_cons, Shape.sizes_nil, List.length_append, List.append_assoc, List.length_set, stP, ldP, getP, setP, psh, partsOf, slen, rd, dem, demK, mapO, AV.bnds, AV.bnd, bne_self_eq_false, AV.plain2, AV.plain, List.all_cons, List.all_nil, List.take_length, List.drop_zero, List.drop_succ_cons, Nat.mul_one, List.getElem?_nil, List.forall_mem_cons, List.not_mem_nil, implies_true, Bool.and_true, Bool.true_and, Bool.and_false, Bool.false_and, and_self, and_false, false_and, h1]
    exact h

theorem ofInt_nat {i : Nat} (h : i < 18446744073709551616) : (BitVec.ofInt 64 (i : Int)).toNat = i := by
  rw [BitVec.toNat_ofInt]; omega

/-- what is kept while two numbers are added bit by bit -/
def AddInv (a b : BitVec 64) (i : Nat) (out c : BitVec 64) : Prop :=
  a.toNat % 2 ^ i + b.toNat % 2 ^ i = out.toNat + c.toNat * 2 ^ i ∧ out.toNat < 2 ^ i ∧ c.toNat ≤ 1

theorem bit_toNat (a : BitVec 64) (i : Nat) : ((a >>> i) % 2).toNat = a.toNat / 2 ^ i % 2 := by
  simp [BitVec.toNat_umod, BitVec.toNat_ushiftRight, Nat.shiftRight_eq_div_pow]

theorem or_bit {out t : BitVec 64} {i : Nat} (hi : i < 64) (ho : out.toNat < 2 ^ i) (ht : t.toNat ≤ 1) : (out ||| t <<< i).toNat = out.toNat + t.toNat * 2 ^ i := by
  rw [BitVec.toNat_or, BitVec.toNat_shiftLeft, Nat.shiftLeft_eq]
  have h1 : t.toNat * 2 ^ i < 2 ^ 64 := by
    have : 2 ^ i ≤ 2 ^ 63 := Nat.pow_le_pow_right (by decide) (by omega)
    have h2 : t.toNat * 2 ^ i ≤ 1 * 2 ^ i := Nat.mul_le_mul_right _ ht
    omega
  rw [Nat.mod_eq_of_lt h1, Nat.or_comm, Nat.mul_comm t.toNat, ← Nat.two_pow_add_eq_or_of_lt ho]
  omega

theorem AddInv.step {a b out c : BitVec 64} {i : Nat} (hi : i < 64) (h : AddInv a b i out c) :
    AddInv a b (i + 1) (out ||| ((a >>> i % 2 + b >>> i % 2 + c) % 2) <<< i) ((a >>> i % 2 + b >>> i % 2 + c) / 2) := by
  obtain ⟨h1, h2, h3⟩ := h
  have ea := bit_toNat a i
  have eb := bit_toNat b i
  have es : (a >>> i % 2 + b >>> i % 2 + c).toNat = a.toNat / 2 ^ i % 2 + b.toNat / 2 ^ i % 2 + c.toNat := by
    rw [BitVec.toNat_add, BitVec.toNat_add, ea, eb]; omega
  have e2 : ((a >>> i % 2 + b >>> i % 2 + c) % 2).toNat = (a.toNat / 2 ^ i % 2 + b.toNat / 2 ^ i % 2 + c.toNat) % 2 := by
    rw [BitVec.toNat_umod, es]; rfl
  have e3 : ((a >>> i % 2 + b >>> i % 2 + c) / 2).toNat = (a.toNat / 2 ^ i % 2 + b.toNat / 2 ^ i % 2 + c.toNat) / 2 := by
    rw [BitVec.toNat_udiv, es]; rfl
  unfold AddInv
  rw [or_bit hi h2 (by rw [e2]; omega), e2, e3]
  have ha : a.toNat % 2 ^ (i + 1) = a.toNat % 2 ^ i + 2 ^ i * (a.toNat / 2 ^ i % 2) := by rw [Nat.pow_succ, Nat.mod_mul]
  have hb : b.toNat % 2 ^ (i + 1) = b.toNat % 2 ^ i + 2 ^ i * (b.toNat / 2 ^ i % 2) := by rw [Nat.pow_succ, Nat.mod_mul]
  rw [ha, hb, Nat.pow_succ]
  have hx : a.toNat / 2 ^ i % 2 < 2 := Nat.mod_lt _ (by decide)
  have hy : b.toNat / 2 ^ i % 2 < 2 := Nat.mod_lt _ (by decide)
  generalize a.toNat / 2 ^ i % 2 = x at *
  generalize b.toNat / 2 ^ i % 2 = y at *
  generalize 2 ^ i = p at *
  have hd : (x + y + c.toNat) = (x + y + c.toNat) % 2 + 2 * ((x + y + c.toNat) / 2) := by omega
  have hs : p * x + p * y + c.toNat * p = p * (x + y + c.toNat) := by rw [Nat.mul_add, Nat.mul_add, Nat.mul_comm c.toNat]
  have hm : p * (x + y + c.toNat) = p * ((x + y + c.toNat) % 2) + p * (2 * ((x + y + c.toNat) / 2)) := by rw [← Nat.mul_add, ← hd]
  generalize hq : (x + y + c.toNat) / 2 = q at *
  generalize hr : (x + y + c.toNat) % 2 = r at *
  refine ⟨?_, ?_, by omega⟩
  · rw [Nat.mul_comm r p, show q * (p * 2) = p * (2 * q) by rw [Nat.mul_comm q, Nat.mul_assoc]]
    omega
  · have : r * p ≤ 1 * p := Nat.mul_le_mul_right _ (by omega)
    omega

/-- how many rounds -/
def rounds (l : Int) : Nat := if l ≤ 0 then 0 else min l.toNat 64

theorem AddInv.done {a b out c : BitVec 64} {i : Nat} (hi : i ≤ 64) (h : AddInv a b i out c) : out = cut i (a + b) := by
  obtain ⟨h1, h2, h3⟩ := h
  apply BitVec.eq_of_toNat_eq
  have hp : 2 ^ i ∣ 2 ^ 64 := Nat.pow_dvd_pow 2 hi
  have : (a.toNat + b.toNat) % 2 ^ 64 % 2 ^ i = out.toNat := by
    rw [Nat.mod_mod_of_dvd _ hp, Nat.add_mod, h1, Nat.add_mul_mod_self_right, Nat.mod_eq_of_lt h2]
  simp only [cut, BitVec.toNat_ofNat, BitVec.toNat_add, this]
  have := out.isLt
  omega

def I33 (l : Int) (x y : BitVec 64) (H : Heap) (k : Nat) (st : St) : Prop :=
  ∃ (i : Nat) (out c : BitVec 64) (u1 u2 u3 u4 : AV), st = ⟨[.int l, .u64 x, .u64 y, .u64 0, .u64 out, .u64 c, .int i, u1, u2, u3, u4], H⟩ ∧ k = 64 - i ∧ i ≤ rounds l ∧ AddInv x y i out c

theorem f33 {K : AV → Heap → Prop} {H : Heap} {l : Int} {x y : BitVec 64} (h : K (.u64 (cut (rounds l) (x + y))) H) : wpF P [] 33 [.int l, .u64 x, .u64 y] H K := by
  refine wpF_go c33 rfl 2 ?_
  intro ha hb
  simp only [s33]
  simp (maxSteps := 2000000) only [↓vS_skip, ↓vS_reg, ↓vS_draw, ↓vS_seq, ↓vS_cond, ↓vS_block, ↓vS_exit, ↓vS_ret, ↓vI_nil, ↓vI_go, ↓vI_gd, ↓stepI_q, ↓stepI_e, ↓stepI_c, ↓stepI_v, ↓vD_nil, ↓vD_go, ↓vD_gd, ↓stepW_q, ↓stepW_e, ↓stepW_c, ↓stepW_v, ↓Kw_app, ↓KwD_app, ↓Kc_app, ↓Kp_app, ↓Kr_app, ↓Ks_n, ↓Ks_r, ↓Ks_x, ↓Kb_n, ↓Kb_r, ↓Kb_x, ↓Ku_n, ↓Ku_r, ↓Ku_x, ↓Kl_n, ↓Kl_r, ↓Kl_x, ↓Kend_n, ↓Kend_r, ↓Two_t, ↓Two_f, ↓unr_succ, putE_none, putE_var, putE_new, get_t, get_c, qev, eev, rsGet, rvGet, oneOf, binAV, isSh, bvBin, bvOp, bvCmp, bvSh, intBin, intSh, cvAV, unAV, AV.cnt, AV.num, Ken2_s, Ken3_s, htake_1, htake_2, beq_self_eq_true, beq_true, beq_false, Bool.not_eq_true, maxLen, Nat.reducePow, Nat.reduceMul, List.map_cons, List.map_nil, List.getD_cons_zero, List.getD_cons_succ, List.set_cons_zero, List.set_cons_succ, List.cons_append, List.nil_append, List.append_nil, List.take_succ_cons, List.take_zero, List.take_nil, List.length_cons, List.length_nil, List.replicate_succ, List.replicate_zero, Option.map_some, Option.map_none, List.getElem?_cons_zero, List.getElem?_cons_succ, true_and, and_true, if_true, if_false, ite_true, ite_false, reduceIte, reduceCtorEq, false_or, or_true, true_or, or_false, Option.some.injEq, Prod.mk.injEq, exists_eq_left', exists_eq_left, exists_eq_right, exists_and_left, exists_and_right, exists_const, and_assoc, decide_true, decide_false, Bool.false_eq_true, forall_const, Bool.not_true, Bool.not_false, false_implies, true_implies, Nat.reduceAdd, Nat.reduceSub, Nat.reduceMul, Nat.reduceLT, Nat.reduceLeDiff, Nat.reduceEqDiff, Int.reduceAdd, Int.reduceSub, Int.reduceMul, Int.reduceLT, Int.reduceLE, Int.reduceTMod, Int.reduceTDiv, Int.reduceToNat, Int.reduceEq, Int.reduceNe, Int.reduceNeg, ne_eq, not_false_eq_true, not_true_eq_false, InR, Bool.true_eq_false, Bool.false_eq_true, reduceDIte, Nat.zero_add, Nat.add_zero, Int.cast_ofNat_Int, eq_self, hget_0, hget_k, hget_z, hget_s, hset_0, hset_k, htake_0, lt_own0, lt_ownk, hasAt_nil, hasAt_arr, hasAt_st, hasSh_l, hasSh_aa, hasSh_sa, hasShs_n, hasShs_c, setAll, AV.isCell, Shape.size_leaf, Shape.size_arr, Shape.size_st, Shape.sizes_cons, Shape.sizes_nil, List.length_append, List.append_assoc, List.length_set, stP, ldP, getP, setP, psh, partsOf, slen, rd, dem, demK, mapO, AV.bnds, AV.bnd, bne_self_eq_false, AV.plain2, AV.plain, List.all_cons, List.all_nil, List.take_length, List.drop_zero, List.drop_succ_cons, Nat.mul_one, List.getElem?_nil, List.forall_mem_cons, List.not_mem_nil, implies_true, Bool.and_true, Bool.true_and, Bool.and_false, Bool.false_and, and_self, and_false, false_and]
  refine wp_inv (I33 l x y H) 64 ⟨0, 0, 0, .un, .un, .un, .un, rfl, rfl, Nat.zero_le _, by simp [AddInv, Nat.mod_one]⟩ ?_
  rintro k st ⟨i, out, c, u1, u2, u3, u4, rfl, rfl, hi, inv⟩
  have hr64 : rounds l ≤ 64 := by unfold rounds; split <;> omega
  by_cases hir : i < rounds l
  · have h1 : (i : Int) < 64 := by omega
    have h2 : (i : Int) < l := by unfold rounds at hir; split at hir <;> omega
    have he : (BitVec.ofInt 64 (i : Int)).toNat = i := ofInt_nat (by omega)
    simp (maxSteps := 2000000) only [↓vS_skip, ↓vS_reg, ↓vS_draw, ↓vS_seq, ↓vS_cond, ↓vS_block, ↓vS_exit, ↓vS_ret, ↓vI_nil, ↓vI_go, ↓vI_gd, ↓stepI_q, ↓stepI_e, ↓stepI_c, ↓stepI_v, ↓vD_nil, ↓vD_go, ↓vD_gd, ↓stepW_q, ↓stepW_e, ↓stepW_c, ↓stepW_v, ↓Kw_app, ↓KwD_app, ↓Kc_app, ↓Kp_app, ↓Kr_app, ↓Ks_n, ↓Ks_r, ↓Ks_x, ↓Kb_n, ↓Kb_r, ↓Kb_x, ↓Ku_n, ↓Ku_r, ↓Ku_x, ↓Kl_n, ↓Kl_r, ↓Kl_x, ↓Kend_n, ↓Kend_r, ↓Two_t, ↓Two_f, ↓unr_succ, putE_none, putE_var, putE_new, get_t, get_c, qev, eev, rsGet, rvGet, oneOf, binAV, isSh, bvBin, bvOp, bvCmp, bvSh, intBin, intSh, cvAV, unAV, AV.cnt, AV.num, Ken2_s, Ken3_s, htake_1, htake_2, beq_self_eq_true, beq_true, beq_false, Bool.not_eq_true, maxLen, Nat.reducePow, Nat.reduceMul, List.map_cons, List.map_nil, List.getD_cons_zero, List.getD_cons_succ, List.set_cons_zero, List.set_cons_succ, List.cons_append, List.nil_append, List.append_nil, List.take_succ_cons, List.take_zero, List.take_nil, List.length_cons, List.length_nil, List.replicate_succ, List.replicate_zero, Option.map_some, Option.map_none, List.getElem?_cons_zero, List.getElem?_cons_succ, true_and, and_true, if_true, if_false, ite_true, ite_false, reduceIte, reduceCtorEq, false_or, or_true, true_or, or_false, Option.some.injEq, Prod.mk.injEq, exists_eq_left', exists_eq_left, exists_eq_right, exists_and_left, exists_and_right, exists_const, and_assoc, decide_true, decide_false, Bool.false_eq_true, forall_const, Bool.not_true, Bool.not_false, false_implies, true_implies, Nat.reduceAdd, Nat.reduceSub, Nat.reduceMul, Nat.reduceLT, Nat.reduceLeDiff, Nat.reduceEqDiff, Int.reduceAdd, Int.reduceSub, Int.reduceMul, Int.reduceLT, Int.reduceLE, Int.reduceTMod, Int.reduceTDiv, Int.reduceToNat, Int.reduceEq, Int.reduceNe, Int.reduceNeg, ne_eq, not_false_eq_true, not_true_eq_false, InR, Bool.true_eq_false, Bool.false_eq_true, reduceDIte, Nat.zero_add, Nat.add_zero, Int.cast_ofNat_Int, eq_self, hget_0, hget_k, hget_z, hget_s, hset_0, hset_k, htake_0, lt_own0, lt_ownk, hasAt_nil, hasAt_arr, hasAt_st, hasSh_l, hasSh_aa, hasSh_sa, hasShs_n, hasShs_c, setAll, AV.isCell, Shape.size_leaf, Shape.size_arr, Shape.size_st, Shape.sizes_cons, Shape.sizes_nil, List.length_append, List.append_assoc, List.length_set, stP, ldP, getP, setP, psh, partsOf, slen, rd, dem, demK, mapO, AV.bnds, AV.bnd, bne_self_eq_false, AV.plain2, AV.plain, List.all_cons, List.all_nil, List.take_length, List.drop_zero, List.drop_succ_cons, Nat.mul_one, List.getElem?_nil, List.forall_mem_cons, List.not_mem_nil, implies_true, Bool.and_true, Bool.true_and, Bool.and_false, Bool.false_and, and_self, and_false, false_and, h1, h2, he]

    refine ⟨by decide, by decide, by decide, by decide, by omega, by omega, 64 - (i + 1), by omega, i + 1, _, _, _, _, _, _, rfl, rfl, by omega, inv.step (by omega)⟩
  · have hie : i = rounds l := by omega
    have hstop : ¬ ((i : Int) < 64) ∨ ¬ ((i : Int) < l) := by
      rw [hie]; unfold rounds; split <;> omega
    rw [← hie, ← inv.done (by omega)] at h
    by_cases h1 : (i : Int) < 64
    · have h2 : ¬ ((i : Int) < l) := hstop.resolve_left (fun h => h h1)
      simp (maxSteps := 2000000) only [↓vS_skip, ↓vS_reg, ↓vS_draw, ↓vS_seq, ↓vS_cond, ↓vS_block, ↓vS_exit, ↓vS_ret, ↓vI_nil, ↓vI_go, ↓vI_gd, ↓stepI_q, ↓stepI_e, ↓stepI_c, ↓stepI_v, ↓vD_nil, ↓vD_go, ↓vD_gd, ↓stepW_q, ↓stepW_e, ↓stepW_c, ↓stepW_v, ↓Kw_app, ↓KwD_app, ↓Kc_app, ↓Kp_app, ↓Kr_app, ↓Ks_n, ↓Ks_r, ↓Ks_x, ↓Kb_n, ↓Kb_r, ↓Kb_x, ↓Ku_n, ↓Ku_r, ↓Ku_x, ↓Kl_n, ↓Kl_r, ↓Kl_x, ↓Kend_n, ↓Kend_r, ↓Two_t, ↓Two_f, ↓unr_succ, putE_none, putE_var, putE_new, get_t, get_c, qev, eev, rsGet, rvGet, oneOf, binAV, isSh, bvBin, bvOp, bvCmp, bvSh, intBin, intSh, cvAV, unAV, AV.cnt, AV.num, Ken2_s, Ken3_s, htake_1, htake_2, beq_self_eq_true, beq_true, beq_false, Bool.not_eq_true, maxLen, Nat.reducePow, Nat.reduceMul, List.map_cons, List.map_nil, List.getD_cons_zero, List.getD_cons_succ, List.set_cons_zero, List.set_cons_succ, List.cons_append, List.nil_append, List.append_nil, List.take_succ_cons, List.take_zero, List.take_nil, List.length_cons, List.length_nil, List.replicate_succ, List.replicate_zero, Option.map_some, Option.map_none, List.getElem?_cons_zero, List.getElem?_cons_succ, true_and, and_true, if_true, if_false, ite_true, ite_false, reduceIte, reduceCtorEq, false_or, or_true, true_or, or_false, Option.some.injEq, Prod.mk.injEq, exists_eq_left', exists_eq_left, exists_eq_right, exists_and_left, exists_and_right, exists_const, and_assoc, decide_true, decide_false, Bool.false_eq_true, forall_const, Bool.not_true, Bool.not_false, false_implies, true_implies, Nat.reduceAdd, Nat.reduceSub, Nat.reduceMul, Nat.reduceLT, Nat.reduceLeDiff, Nat.reduceEqDiff, Int.reduceAdd, Int.reduceSub, Int.reduceMul, Int.reduceLT, Int.reduceLE, Int.reduceTMod, Int.reduceTDiv, Int.reduceToNat, Int.reduceEq, Int.reduceNe, Int.reduceNeg, ne_eq, not_false_eq_true, not_true_eq_false, InR, Bool.true_eq_false, Bool.false_eq_true, reduceDIte, Nat.zero_add, Nat.add_zero, Int.cast_ofNat_Int, eq_self, hget_0, hget_k, hget_z, hget_s, hset_0, hset_k, htake_0, lt_own0, lt_ownk, hasAt_nil, hasAt_arr, hasAt_st, hasSh_l, hasSh_aa, hasSh_sa, hasShs_n, hasShs_c, setAll, AV.isCell, Shape.size_leaf, Shape.size_arr, Shape.size_st, Shape.sizes_cons, Shape.sizes_nil, List.length_append, List.append_assoc, List.length_set, stP, ldP, getP, setP, psh, partsOf, slen, rd, dem, demK, mapO, AV.bnds, AV.bnd, bne_self_eq_false, AV.plain2, AV.plain, List.all_cons, List.all_nil, List.take_length, List.drop_zero, List.drop_succ_cons, Nat.mul_one, List.getElem?_nil, List.forall_mem_cons, List.not_mem_nil, implies_true, Bool.and_true, Bool.true_and, Bool.and_false, Bool.false_and, and_self, and_false, false_and, h1, h2]
      exact h
    · simp (maxSteps := 2000000) only [↓vS_skip, ↓vS_reg, ↓vS_draw, ↓vS_seq, ↓vS_cond, ↓vS_block, ↓vS_exit, ↓vS_ret, ↓vI_nil, ↓vI_go, ↓vI_gd, ↓stepI_q, ↓stepI_e, ↓stepI_c, ↓stepI_v, ↓vD_nil, ↓vD_go, ↓vD_gd, ↓stepW_q, ↓stepW_e, ↓stepW_c, ↓stepW_v, ↓Kw_app, ↓KwD_app, ↓Kc_app, ↓Kp_app, ↓Kr_app, ↓Ks_n, ↓Ks_r, ↓Ks_x, ↓Kb_n, ↓Kb_r, ↓Kb_x, ↓Ku_n, ↓Ku_r, ↓Ku_x, ↓Kl_n, ↓Kl_r, ↓Kl_x, ↓Kend_n, ↓Kend_r, ↓Two_t, ↓Two_f, ↓unr_succ, putE_none, putE_var, putE_new, get_t, get_c, qev, eev, rsGet, rvGet, oneOf, binAV, isSh, bvBin, bvOp, bvCmp, bvSh, intBin, intSh, cvAV, unAV, AV.cnt, AV.num, Ken2_s, Ken3_s, htake_1, htake_2, beq_self_eq_true, beq_true, beq_false, Bool.not_eq_true, maxLen, Nat.reducePow, Nat.reduceMul, List.map_cons, List.map_nil, List.getD_cons_zero, List.getD_cons_succ, List.set_cons_zero, List.set_cons_succ, List.cons_append, List.nil_append, List.append_nil, List.take_succ_cons, List.take_zero, List.take_nil, List.length_cons, List.length_nil, List.replicate_succ, List.replicate_zero, Option.map_some, Option.map_none, List.getElem?_cons_zero, List.getElem?_cons_succ, true_and, and_true, if_true, if_false, ite_true, ite_false, reduceIte, reduceCtorEq, false_or, or_true, true_or, or_false, Option.some.injEq, Prod.mk.injEq, exists_eq_left', exists_eq_left, exists_eq_right, exists_and_left, exists_and_right, exists_const, and_assoc, decide_true, decide_false, Bool.false_eq_true, forall_const, Bool.not_true, Bool.not_false, false_implies, true_implies, Nat.reduceAdd, Nat.reduceSub, Nat.reduceMul, Nat.reduceLT, Nat.reduceLeDiff, Nat.reduceEqDiff, Int.reduceAdd, Int.reduceSub, Int.reduceMul, Int.reduceLT, Int.reduceLE, Int.reduceTMod, Int.reduceTDiv, Int.reduceToNat, Int.reduceEq, Int.reduceNe, Int.reduceNeg, ne_eq, not_false_eq_true, not_true_eq_false, InR, Bool.true_eq_false, Bool.false_eq_true, reduceDIte, Nat.zero_add, Nat.add_zero, Int.cast_ofNat_Int, eq_self, hget_0, hget_k, hget_z, hget_s, hset_0, hset_k, htake_0, lt_own0, lt_ownk, hasAt_nil, hasAt_arr, hasAt_st, hasSh_l, hasSh_aa, hasSh_sa, hasShs_n, hasShs_c, setAll, AV.isCell, Shape.size_leaf, Shape.size_arr, Shape.size_st, Shape.sizes_cons, Shape.sizes_nil, List.length_append, List.append_assoc, List.length_set, stP, ldP, getP, setP, psh, partsOf, slen, rd, dem, demK, mapO, AV.bnds, AV.bnd, bne_self_eq_false, AV.plain2, AV.plain, List.all_cons, List.all_nil, List.take_length, List.drop_zero, List.drop_succ_cons, Nat.mul_one, List.getElem?_nil, List.forall_mem_cons, List.not_mem_nil, implies_true, Bool.and_true, Bool.true_and, Bool.and_false, Bool.false_and, and_self, and_false, false_and, h1]
      exact h

def I27 (l : Int) (x : BitVec 64) (H : Heap) (k : Nat) (st : St) : Prop :=
  ∃ (i : Nat) (out : BitVec 64) (u1 : AV), st = ⟨[.int l, .u64 x, .u64 0, .u64 out, .int i, u1], H⟩ ∧ k = 64 - i ∧ i ≤ rounds l ∧ out.toNat = x.toNat % 2 ^ i

theorem and_bit (x : BitVec 64) {i : Nat} (hi : i < 64) : (x &&& (1#64 <<< i)) = (x >>> i % 2) <<< i := by
  ext j hj
  simp only [BitVec.getElem_and, BitVec.getElem_shiftLeft, BitVec.getElem_one]
  by_cases h : j < i
  · simp [h]
  · have hm : (x >>> i % 2) = (BitVec.ofBool (x.getLsbD i)).setWidth 64 := by
      apply BitVec.eq_of_toNat_eq
      rw [bit_toNat]
      simp only [BitVec.toNat_setWidth, BitVec.toNat_ofBool, BitVec.getLsbD, Nat.testBit, Nat.shiftRight_eq_div_pow, Nat.one_and_eq_mod_two]
      have : x.toNat / 2 ^ i % 2 < 2 := Nat.mod_lt _ (by decide)
      rcases (by omega : x.toNat / 2 ^ i % 2 = 0 ∨ x.toNat / 2 ^ i % 2 = 1) with h | h <;> simp [h]
    rw [hm]
    by_cases hji : j = i
    · subst hji
      simp [BitVec.getElem_eq_testBit_toNat, BitVec.getLsbD]
      cases x.toNat.testBit j <;> simp
    · have : j - i ≠ 0 := by omega
      simp [h, this, BitVec.getElem_setWidth]

theorem f27 {K : AV → Heap → Prop} {H : Heap} {l : Int} {x : BitVec 64} (h : K (.u64 (cut (rounds l) x)) H) : wpF P [] 27 [.int l, .u64 x] H K := by
  refine wpF_go c27 rfl 2 ?_
  intro ha hb
  simp only [s27]
  simp (maxSteps := 2000000) only [↓vS_skip, ↓vS_reg, ↓vS_draw, ↓vS_seq, ↓vS_cond, ↓vS_block, ↓vS_exit, ↓vS_ret, ↓vI_nil, ↓vI_go, ↓vI_gd, ↓stepI_q, ↓stepI_e, ↓stepI_c, ↓stepI_v, ↓vD_nil, ↓vD_go, ↓vD_gd, ↓stepW_q, ↓stepW_e, ↓stepW_c, ↓stepW_v, ↓Kw_app, ↓KwD_app, ↓Kc_app, ↓Kp_app, ↓Kr_app, ↓Ks_n, ↓Ks_r, ↓Ks_x, ↓Kb_n, ↓Kb_r, ↓Kb_x, ↓Ku_n, ↓Ku_r, ↓Ku_x, ↓Kl_n, ↓Kl_r, ↓Kl_x, ↓Kend_n, ↓Kend_r, ↓Two_t, ↓Two_f, ↓unr_succ, putE_none, putE_var, putE_new, get_t, get_c, qev, eev, rsGet, rvGet, oneOf, binAV, isSh, bvBin, bvOp, bvCmp, bvSh, intBin, intSh, cvAV, unAV, AV.cnt, AV.num, Ken2_s, Ken3_s, htake_1, htake_2, beq_self_eq_true, beq_true, beq_false, Bool.not_eq_true, maxLen, Nat.reducePow, Nat.reduceMul, List.map_cons, List.map_nil, List.getD_cons_zero, List.getD_cons_succ, List.set_cons_zero, List.set_cons_succ, List.cons_append, List.nil_append, List.append_nil, List.take_succ_cons, List.take_zero, List.take_nil, List.length_cons, List.length_nil, List.replicate_succ, List.replicate_zero, Option.map_some, Option.map_none, List.getElem?_cons_zero, List.getElem?_cons_succ, true_and, and_true, if_true, if_false, ite_true, ite_false, reduceIte, reduceCtorEq, false_or, or_true, true_or, or_false, Option.some.injEq, Prod.mk.injEq, exists_eq_left', exists_eq_left, exists_eq_right, exists_and_left, exists_and_right, exists_const, and_assoc, decide_true, decide_false, Bool.false_eq_true, forall_const, Bool.not_true, Bool.not_false, false_implies, true_implies, Nat.reduceAdd, Nat.reduceSub, Nat.reduceMul, Nat.reduceLT, Nat.reduceLeDiff, Nat.reduceEqDiff, Int.reduceAdd, Int.reduceSub, Int.reduceMul, Int.reduceLT, Int.reduceLE, Int.reduceTMod, Int.reduceTDiv, Int.reduceToNat, Int.reduceEq, Int.reduceNe, Int.reduceNeg, ne_eq, not_false_eq_true, not_true_eq_false, InR, Bool.true_eq_false, Bool.false_eq_true, reduceDIte, Nat.zero_add, Nat.add_zero, Int.cast_ofNat_Int, eq_self, hget_0, hget_k, hget_z, hget_s, hset_0, hset_k, htake_0, lt_own0, lt_ownk, hasAt_nil, hasAt_arr, hasAt_st, hasSh_l, hasSh_aa, hasSh_sa, hasShs_n, hasShs_c, setAll, AV.isCell, Shape.size_leaf, Shape.size_arr, Shape.size_st, Shape.sizes_cons, Shape.sizes_nil, List.length_append, List.append_assoc, List.length_set, stP, ldP, getP, setP, psh, partsOf, slen, rd, dem, demK, mapO, AV.bnds, AV.bnd, bne_self_eq_false, AV.plain2, AV.plain, List.all_cons, List.all_nil, List.take_length, List.drop_zero, List.drop_succ_cons, Nat.mul_one, List.getElem?_nil, List.forall_mem_cons, List.not_mem_nil, implies_true, Bool.and_true, Bool.true_and, Bool.and_false, Bool.false_and, and_self, and_false, false_and]
  refine wp_inv (I27 l x H) 64 ⟨0, 0, .un, rfl, rfl, Nat.zero_le _, by simp [Nat.mod_one]⟩ ?_
  rintro k st ⟨i, out, u1, rfl, rfl, hi, inv⟩
  have hr64 : rounds l ≤ 64 := by unfold rounds; split <;> omega
  by_cases hir : i < rounds l
  · have h1 : (i : Int) < 64 := by omega
    have h2 : (i : Int) < l := by unfold rounds at hir; split at hir <;> omega
    have he : (BitVec.ofInt 64 (i : Int)).toNat = i := ofInt_nat (by omega)
    simp (maxSteps := 2000000) only [↓vS_skip, ↓vS_reg, ↓vS_draw, ↓vS_seq, ↓vS_cond, ↓vS_block, ↓vS_exit, ↓vS_ret, ↓vI_nil, ↓vI_go, ↓vI_gd, ↓stepI_q, ↓stepI_e, ↓stepI_c, ↓stepI_v, ↓vD_nil, ↓vD_go, ↓vD_gd, ↓stepW_q, ↓stepW_e, ↓stepW_c, ↓stepW_v, ↓Kw_app, ↓KwD_app, ↓Kc_app, ↓Kp_app, ↓Kr_app, ↓Ks_n, ↓Ks_r, ↓Ks_x, ↓Kb_n, ↓Kb_r, ↓Kb_x, ↓Ku_n, ↓Ku_r, ↓Ku_x, ↓Kl_n, ↓Kl_r, ↓Kl_x, ↓Kend_n, ↓Kend_r, ↓Two_t, ↓Two_f, ↓unr_succ, putE_none, putE_var, putE_new, get_t, get_c, qev, eev, rsGet, rvGet, oneOf, binAV, isSh, bvBin, bvOp, bvCmp, bvSh, intBin, intSh, cvAV, unAV, AV.cnt, AV.num, Ken2_s, Ken3_s, htake_1, htake_2, beq_self_eq_true, beq_true, beq_false, Bool.not_eq_true, maxLen, Nat.reducePow, Nat.reduceMul, List.map_cons, List.map_nil, List.getD_cons_zero, List.getD_cons_succ, List.set_cons_zero, List.set_cons_succ, List.cons_append, List.nil_append, List.append_nil, List.take_succ_cons, List.take_zero, List.take_nil, List.length_cons, List.length_nil, List.replicate_succ, List.replicate_zero, Option.map_some, Option.map_none, List.getElem?_cons_zero, List.getElem?_cons_succ, true_and, and_true, if_true, if_false, ite_true, ite_false, reduceIte, reduceCtorEq, false_or, or_true, true_or, or_false, Option.some.injEq, Prod.mk.injEq, exists_eq_left', exists_eq_left, exists_eq_right, exists_and_left, exists_and_right, exists_const, and_assoc, decide_true, decide_false, Bool.false_eq_true, forall_const, Bool.not_true, Bool.not_false, false_implies, true_implies, Nat.reduceAdd, Nat.reduceSub, Nat.reduceMul, Nat.reduceLT, Nat.reduceLeDiff, Nat.reduceEqDiff, Int.reduceAdd, Int.reduceSub, Int.reduceMul, Int.reduceLT, Int.reduceLE, Int.reduceTMod, Int.reduceTDiv, Int.reduceToNat, Int.reduceEq, Int.reduceNe, Int.reduceNeg, ne_eq, not_false_eq_true, not_true_eq_false, InR, Bool.true_eq_false, Bool.false_eq_true, reduceDIte, Nat.zero_add, Nat.add_zero, Int.cast_ofNat_Int, eq_self, hget_0, hget_k, hget_z, hget_s, hset_0, hset_k, htake_0, lt_own0, lt_ownk, hasAt_nil, hasAt_arr, hasAt_st, hasSh_l, hasSh_aa, hasSh_sa, hasShs_n, hasShs_c, setAll, AV.isCell, Shape.size_leaf, Shape.size_arr, Shape.size_st, Shape.sizes_cons, Shape.sizes_nil, List.length_append, List.append_assoc, List.length_set, stP, ldP, getP, setP, psh, partsOf, slen, rd, dem, demK, mapO, AV.bnds, AV.bnd, bne_self_eq_false, AV.plain2, AV.plain, List.all_cons, List.all_nil, List.take_length, List.drop_zero, List.drop_succ_cons, Nat.mul_one, List.getElem?_nil, List.forall_mem_cons, List.not_mem_nil, implies_true, Bool.and_true, Bool.true_and, Bool.and_false, Bool.false_and, and_self, and_false, false_and, h1, h2, he]
    refine ⟨by omega, by omega, 64 - (i + 1), by omega, i + 1, _, _, rfl, rfl, by omega, ?_⟩
    have e1 : x &&& (1 : BitVec 64) <<< i = (x >>> i % 2) <<< i := and_bit x (by omega)
    rw [e1, or_bit (by omega) (by rw [inv]; exact Nat.mod_lt _ (Nat.two_pow_pos i)) (by rw [bit_toNat]; omega), bit_toNat, inv, Nat.pow_succ, Nat.mod_mul, Nat.mul_comm (2 ^ i)]
  · have hie : i = rounds l := by omega
    have hstop : ¬ ((i : Int) < 64) ∨ ¬ ((i : Int) < l) := by
      rw [hie]; unfold rounds; split <;> omega
    have ho : out = cut (rounds l) x := by
      apply BitVec.eq_of_toNat_eq
      rw [inv, hie]
      simp only [cut, BitVec.toNat_ofNat]
      have := x.isLt
      have h2 := Nat.mod_le x.toNat (2 ^ rounds l)
      omega
    rw [← ho] at h
    by_cases h1 : (i : Int) < 64
    · have h2 : ¬ ((i : Int) < l) := hstop.resolve_left (fun h => h h1)
      simp (maxSteps := 2000000) only [↓vS_skip, ↓vS_reg, ↓vS_draw, ↓vS_seq, ↓vS_cond, ↓vS_block, ↓vS_exit, ↓vS_ret, ↓vI_nil, ↓vI_go, ↓vI_gd, ↓stepI_q, ↓stepI_e, ↓stepI_c, ↓stepI_v, ↓vD_nil, ↓vD_go, ↓vD_gd, ↓stepW_q, ↓stepW_e, ↓stepW_c, ↓stepW_v, ↓Kw_app, ↓KwD_app, ↓Kc_app, ↓Kp_app, ↓Kr_app, ↓Ks_n, ↓Ks_r, ↓Ks_x, ↓Kb_n, ↓Kb_r, ↓Kb_x, ↓Ku_n, ↓Ku_r, ↓Ku_x, ↓Kl_n, ↓Kl_r, ↓Kl_x, ↓Kend_n, ↓Kend_r, ↓Two_t, ↓Two_f, ↓unr_succ, putE_none, putE_var, putE_new, get_t, get_c, qev, eev, rsGet, rvGet, oneOf, binAV, isSh, bvBin, bvOp, bvCmp, bvSh, intBin, intSh, cvAV, unAV, AV.cnt, AV.num, Ken2_s, Ken3_s, htake_1, htake_2, beq_self_eq_true, beq_true, beq_false, Bool.not_eq_true, maxLen, Nat.reducePow, Nat.reduceMul, List.map_cons, List.map_nil, List.getD_cons_zero, List.getD_cons_succ, List.set_cons_zero, List.set_cons_succ, List.cons_append, List.nil_append, List.append_nil, List.take_succ_cons, List.take_zero, List.take_nil, List.length_cons, List.length_nil, List.replicate_succ, List.replicate_zero, Option.map_some, Option.map_none, List.getElem?_cons_zero, List.getElem?_cons_succ, true_and, and_true, if_true, if_false, ite_true, ite_false, reduceIte, reduceCtorEq, false_or, or_true, true_or, or_false, Option.some.injEq, Prod.mk.injEq, exists_eq_left', exists_eq_left, exists_eq_right, exists_and_left, exists_and_right, exists_const, and_assoc, decide_true, decide_false, Bool.false_eq_true, forall_const, Bool.not_true, Bool.not_false, false_implies, true_implies, Nat.reduceAdd, Nat.reduceSub, Nat.reduceMul, Nat.reduceLT, Nat.reduceLeDiff, Nat.reduceEqDiff, Int.reduceAdd, Int.reduceSub, Int.reduceMul, Int.reduceLT, Int.reduceLE, Int.reduceTMod, Int.reduceTDiv, Int.reduceToNat, Int.reduceEq, Int.reduceNe, Int.reduceNeg, ne_eq, not_false_eq_true, not_true_eq_false, InR, Bool.true_eq_false, Bool.false_eq_true, reduceDIte, Nat.zero_add, Nat.add_zero, Int.cast_ofNat_Int, eq_self, hget_0, hget_k, hget_z, hget_s, hset_0, hset_k, htake_0, lt_own0, lt_ownk, hasAt_nil, hasAt_arr, hasAt_st, hasSh_l, hasSh_aa, hasSh_sa, hasShs_n, hasShs_c, setAll, AV.isCell, Shape.size_leaf, Shape.size_arr, Shape.size_st, Shape.sizes_cons, Shape.sizes_nil, List.length_append, List.append_assoc, List.length_set, stP, ldP, getP, setP, psh, partsOf, slen, rd, dem, demK, mapO, AV.bnds, AV.bnd, bne_self_eq_false, AV.plain2, AV.plain, List.all_cons, List.all_nil, List.take_length, List.drop_zero, List.drop_succ_cons, Nat.mul_one, List.getElem?_nil, List.forall_mem_cons, List.not_mem_nil, implies_true, Bool.and_true, Bool.true_and, Bool.and_false, Bool.false_and, and_self, and_false, false_and, h1, h2]
      exact h
    · simp (maxSteps := 2000000) only [↓vS_skip, ↓vS_reg, ↓vS_draw, ↓vS_seq, ↓vS_cond, ↓vS_block, ↓vS_exit, ↓vS_ret, ↓vI_nil, ↓vI_go, ↓vI_gd, ↓stepI_q, ↓stepI_e, ↓stepI_c, ↓stepI_v, ↓vD_nil, ↓vD_go, ↓vD_gd, ↓stepW_q, ↓stepW_e, ↓stepW_c, ↓stepW_v, ↓Kw_app, ↓KwD_app, ↓Kc_app, ↓Kp_app, ↓Kr_app, ↓Ks_n, ↓Ks_r, ↓Ks_x, ↓Kb_n, ↓Kb_r, ↓Kb_x, ↓Ku_n, ↓Ku_r, ↓Ku_x, ↓Kl_n, ↓Kl_r, ↓Kl_x, ↓Kend_n, ↓Kend_r, ↓Two_t, ↓Two_f, ↓unr_succ, putE_none, putE_var, putE_new, get_t, get_c, qev, eev, rsGet, rvGet, oneOf, binAV, isSh, bvBin, bvOp, bvCmp, bvSh, intBin, intSh, cvAV, unAV, AV.cnt, AV.num, Ken2_s, Ken3_s, htake_1, htake_2, beq_self_eq_true, beq_true, beq_false, Bool.not_eq_true, maxLen, Nat.reducePow, Nat.reduceMul, List.map_cons, List.map_nil, List.getD_cons_zero, List.getD_cons_succ, List.set_cons_zero, List.set_cons_succ, List.cons_append, List.nil_append, List.append_nil, List.take_succ_cons, List.take_zero, List.take_nil, List.length_cons, List.length_nil, List.replicate_succ, List.replicate_zero, Option.map_some, Option.map_none, List.getElem?_cons_zero, List.getElem?_cons_succ, true_and, and_true, if_true, if_false, ite_true, ite_false, reduceIte, reduceCtorEq, false_or, or_true, true_or, or_false, Option.some.injEq, Prod.mk.injEq, exists_eq_left', exists_eq_left, exists_eq_right, exists_and_left, exists_and_right, exists_const, and_assoc, decide_true, decide_false, Bool.false_eq_true, forall_const, Bool.not_true, Bool.not_false, false_implies, true_implies, Nat.reduceAdd, Nat.reduceSub, Nat.reduceMul, Nat.reduceLT, Nat.reduceLeDiff, Nat.reduceEqDiff, Int.reduceAdd, Int.reduceSub, Int.reduceMul, Int.reduceLT, Int.reduceLE, Int.reduceTMod, Int.reduceTDiv, Int.reduceToNat, Int.reduceEq, Int.reduceNe, Int.reduceNeg, ne_eq, not_false_eq_true, not_true_eq_false, InR, Bool.true_eq_false, Bool.false_eq_true, reduceDIte, Nat.zero_add, Nat.add_zero, Int.cast_ofNat_Int, eq_self, hget_0, hget_k, hget_z, hget_s, hset_0, hset_k, htake_0, lt_own0, lt_ownk, hasAt_nil, hasAt_arr, hasAt_st, hasSh_l, hasSh_aa, hasSh_sa, hasShs_n, hasShs_c, setAll, AV.isCell, Shape.size_leaf, Shape.size_arr, Shape.size_st, Shape.sizes_cons, Shape.sizes_nil, List.length_append, List.append_assoc, List.length_set, stP, ldP, getP, setP, psh, partsOf, slen, rd, dem, demK, mapO, AV.bnds, AV.bnd, bne_self_eq_false, AV.plain2, AV.plain, List.all_cons, List.all_nil, List.take_length, List.drop_zero, List.drop_succ_cons, Nat.mul_one, List.getElem?_nil, List.forall_mem_cons, List.not_mem_nil, implies_true, Bool.and_true, Bool.true_and, Bool.and_false, Bool.false_and, and_self, and_false, false_and, h1]
      exact h

theorem rounds_64 : rounds 64 = 64 := rfl
theorem cut_64 (x : BitVec 64) : cut 64 x = x := by
  apply BitVec.eq_of_toNat_eq
  simp only [cut, BitVec.toNat_ofNat]
  have := x.isLt
  omega

theorem f36 {K : AV → Heap → Prop} {H : Heap} {l : Int} {x : BitVec 64} (h : K (.u64 (cut (rounds l) (18446744073709551615 - x + 1))) H) : wpF P [] 36 [.int l, .u64 x] H K := by
  refine wpF_go c36 rfl 2 ?_
  intro ha hb
  simp only [s36]
  simp (maxSteps := 2000000) only [↓vS_skip, ↓vS_reg, ↓vS_draw, ↓vS_seq, ↓vS_cond, ↓vS_block, ↓vS_exit, ↓vS_ret, ↓vI_nil, ↓vI_go, ↓vI_gd, ↓stepI_q, ↓stepI_e, ↓stepI_c, ↓stepI_v, ↓vD_nil, ↓vD_go, ↓vD_gd, ↓stepW_q, ↓stepW_e, ↓stepW_c, ↓stepW_v, ↓Kw_app, ↓KwD_app, ↓Kc_app, ↓Kp_app, ↓Kr_app, ↓Ks_n, ↓Ks_r, ↓Ks_x, ↓Kb_n, ↓Kb_r, ↓Kb_x, ↓Ku_n, ↓Ku_r, ↓Ku_x, ↓Kl_n, ↓Kl_r, ↓Kl_x, ↓Kend_n, ↓Kend_r, ↓Two_t, ↓Two_f, ↓unr_succ, putE_none, putE_var, putE_new, get_t, get_c, qev, eev, rsGet, rvGet, oneOf, binAV, isSh, bvBin, bvOp, bvCmp, bvSh, intBin, intSh, cvAV, unAV, AV.cnt, AV.num, Ken2_s, Ken3_s, htake_1, htake_2, beq_self_eq_true, beq_true, beq_false, Bool.not_eq_true, maxLen, Nat.reducePow, Nat.reduceMul, List.map_cons, List.map_nil, List.getD_cons_zero, List.getD_cons_succ, List.set_cons_zero, List.set_cons_succ, List.cons_append, List.nil_append, List.append_nil, List.take_succ_cons, List.take_zero, List.take_nil, List.length_cons, List.length_nil, List.replicate_succ, List.replicate_zero, Option.map_some, Option.map_none, List.getElem?_cons_zero, List.getElem?_cons_succ, true_and, and_true, if_true, if_false, ite_true, ite_false, reduceIte, reduceCtorEq, false_or, or_true, true_or, or_false, Option.some.injEq, Prod.mk.injEq, exists_eq_left', exists_eq_left, exists_eq_right, exists_and_left, exists_and_right, exists_const, and_assoc, decide_true, decide_false, Bool.false_eq_true, forall_const, Bool.not_true, Bool.not_false, false_implies, true_implies, Nat.reduceAdd, Nat.reduceSub, Nat.reduceMul, Nat.reduceLT, Nat.reduceLeDiff, Nat.reduceEqDiff, Int.reduceAdd, Int.reduceSub, Int.reduceMul, Int.reduceLT, Int.reduceLE, Int.reduceTMod, Int.reduceTDiv, Int.reduceToNat, Int.reduceEq, Int.reduceNe, Int.reduceNeg, ne_eq, not_false_eq_true, not_true_eq_false, InR, Bool.true_eq_false, Bool.false_eq_true, reduceDIte, Nat.zero_add, Nat.add_zero, Int.cast_ofNat_Int, eq_self, hget_0, hget_k, hget_z, hget_s, hset_0, hset_k, htake_0, lt_own0, lt_ownk, hasAt_nil, hasAt_arr, hasAt_st, hasSh_l, hasSh_aa, hasSh_sa, hasShs_n, hasShs_c, setAll, AV.isCell, Shape.size_leaf, Shape.size_arr, Shape.size_st, Shape.sizes_cons, Shape.sizes_nil, List.length_append, List.append_assoc, List.length_set, stP, ldP, getP, setP, psh, partsOf, slen, rd, dem, demK, mapO, AV.bnds, AV.bnd, bne_self_eq_false, AV.plain2, AV.plain, List.all_cons, List.all_nil, List.take_length, List.drop_zero, List.drop_succ_cons, Nat.mul_one, List.getElem?_nil, List.forall_mem_cons, List.not_mem_nil, implies_true, Bool.and_true, Bool.true_and, Bool.and_false, Bool.false_and, and_self, and_false, false_and]
  refine f33 ?_
  simp (maxSteps := 2000000) only [↓vS_skip, ↓vS_reg, ↓vS_draw, ↓vS_seq, ↓vS_cond, ↓vS_block, ↓vS_exit, ↓vS_ret, ↓vI_nil, ↓vI_go, ↓vI_gd, ↓stepI_q, ↓stepI_e, ↓stepI_c, ↓stepI_v, ↓vD_nil, ↓vD_go, ↓vD_gd, ↓stepW_q, ↓stepW_e, ↓stepW_c, ↓stepW_v, ↓Kw_app, ↓KwD_app, ↓Kc_app, ↓Kp_app, ↓Kr_app, ↓Ks_n, ↓Ks_r, ↓Ks_x, ↓Kb_n, ↓Kb_r, ↓Kb_x, ↓Ku_n, ↓Ku_r, ↓Ku_x, ↓Kl_n, ↓Kl_r, ↓Kl_x, ↓Kend_n, ↓Kend_r, ↓Two_t, ↓Two_f, ↓unr_succ, putE_none, putE_var, putE_new, get_t, get_c, qev, eev, rsGet, rvGet, oneOf, binAV, isSh, bvBin, bvOp, bvCmp, bvSh, intBin, intSh, cvAV, unAV, AV.cnt, AV.num, Ken2_s, Ken3_s, htake_1, htake_2, beq_self_eq_true, beq_true, beq_false, Bool.not_eq_true, maxLen, Nat.reducePow, Nat.reduceMul, List.map_cons, List.map_nil, List.getD_cons_zero, List.getD_cons_succ, List.set_cons_zero, List.set_cons_succ, List.cons_append, List.nil_append, List.append_nil, List.take_succ_cons, List.take_zero, List.take_nil, List.length_cons, List.length_nil, List.replicate_succ, List.replicate_zero, Option.map_some, Option.map_none, List.getElem?_cons_zero, List.getElem?_cons_succ, true_and, and_true, if_true, if_false, ite_true, ite_false, reduceIte, reduceCtorEq, false_or, or_true, true_or, or_false, Option.some.injEq, Prod.mk.injEq, exists_eq_left', exists_eq_left, exists_eq_right, exists_and_left, exists_and_right, exists_const, and_assoc, decide_true, decide_false, Bool.false_eq_true, forall_const, Bool.not_true, Bool.not_false, false_implies, true_implies, Nat.reduceAdd, Nat.reduceSub, Nat.reduceMul, Nat.reduceLT, Nat.reduceLeDiff, Nat.reduceEqDiff, Int.reduceAdd, Int.reduceSub, Int.reduceMul, Int.reduceLT, Int.reduceLE, Int.reduceTMod, Int.reduceTDiv, Int.reduceToNat, Int.reduceEq, Int.reduceNe, Int.reduceNeg, ne_eq, not_false_eq_true, not_true_eq_false, InR, Bool.true_eq_false, Bool.false_eq_true, reduceDIte, Nat.zero_add, Nat.add_zero, Int.cast_ofNat_Int, eq_self, hget_0, hget_k, hget_z, hget_s, hset_0, hset_k, htake_0, lt_own0, lt_ownk, hasAt_nil, hasAt_arr, hasAt_st, hasSh_l, hasSh_aa, hasSh_sa, hasShs_n, hasShs_c, setAll, AV.isCell, Shape.size_leaf, Shape.size_arr, Shape.size_st, Shape.sizes_cons, Shape.sizes_nil, List.length_append, List.append_assoc, List.length_set, stP, ldP, getP, setP, psh, partsOf, slen, rd, dem, demK, mapO, AV.bnds, AV.bnd, bne_self_eq_false, AV.plain2, AV.plain, List.all_cons, List.all_nil, List.take_length, List.drop_zero, List.drop_succ_cons, Nat.mul_one, List.getElem?_nil, List.forall_mem_cons, List.not_mem_nil, implies_true, Bool.and_true, Bool.true_and, Bool.and_false, Bool.false_and, and_self, and_false, false_and]
  exact h

theorem neg_eq (x : BitVec 64) : (18446744073709551615 - x + 1 : BitVec 64) = -x := by
  rw [show (18446744073709551615 : BitVec 64) = -1 from by decide]
  grind

theorem f34 {K : AV → Heap → Prop} {H : Heap} {l : Int} {x y : BitVec 64} (h : K (.u64 (cut (rounds l) (x - y))) H) : wpF P [] 34 [.int l, .u64 x, .u64 y] H K := by
  refine wpF_go c34 rfl 2 ?_
  intro ha hb
  simp only [s34]
  simp (maxSteps := 2000000) only [↓vS_skip, ↓vS_reg, ↓vS_draw, ↓vS_seq, ↓vS_cond, ↓vS_block, ↓vS_exit, ↓vS_ret, ↓vI_nil, ↓vI_go, ↓vI_gd, ↓stepI_q, ↓stepI_e, ↓stepI_c, ↓stepI_v, ↓vD_nil, ↓vD_go, ↓vD_gd, ↓stepW_q, ↓stepW_e, ↓stepW_c, ↓stepW_v, ↓Kw_app, ↓KwD_app, ↓Kc_app, ↓Kp_app, ↓Kr_app, ↓Ks_n, ↓Ks_r, ↓Ks_x, ↓Kb_n, ↓Kb_r, ↓Kb_x, ↓Ku_n, ↓Ku_r, ↓Ku_x, ↓Kl_n, ↓Kl_r, ↓Kl_x, ↓Kend_n, ↓Kend_r, ↓Two_t, ↓Two_f, ↓unr_succ, putE_none, putE_var, putE_new, get_t, get_c, qev, eev, rsGet, rvGet, oneOf, binAV, isSh, bvBin, bvOp, bvCmp, bvSh, intBin, intSh, cvAV, unAV, AV.cnt, AV.num, Ken2_s, Ken3_s, htake_1, htake_2, beq_self_eq_true, beq_true, beq_false, Bool.not_eq_true, maxLen, Nat.reducePow, Nat.reduceMul, List.map_cons, List.map_nil, List.getD_cons_zero, List.getD_cons_succ, List.set_cons_zero, List.set_cons_succ, List.cons_append, List.nil_append, List.append_nil, List.take_succ_cons, List.take_zero, List.take_nil, List.length_cons, List.length_nil, List.replicate_succ, List.replicate_zero, Option.map_some, Option.map_none, List.getElem?_cons_zero, List.getElem?_cons_succ, true_and, and_true, if_true, if_false, ite_true, ite_false, reduceIte, reduceCtorEq, false_or, or_true, true_or, or_false, Option.some.injEq, Prod.mk.injEq, exists_eq_left', exists_eq_left, exists_eq_right, exists_and_left, exists_and_right, exists_const, and_assoc, decide_true, decide_false, Bool.false_eq_true, forall_const, Bool.not_true, Bool.not_false, false_implies, true_implies, Nat.reduceAdd, Nat.reduceSub, Nat.reduceMul, Nat.reduceLT, Nat.reduceLeDiff, Nat.reduceEqDiff, Int.reduceAdd, Int.reduceSub, Int.reduceMul, Int.reduceLT, Int.reduceLE, Int.reduceTMod, Int.reduceTDiv, Int.reduceToNat, Int.reduceEq, Int.reduceNe, Int.reduceNeg, ne_eq, not_false_eq_true, not_true_eq_false, InR, Bool.true_eq_false, Bool.false_eq_true, reduceDIte, Nat.zero_add, Nat.add_zero, Int.cast_ofNat_Int, eq_self, hget_0, hget_k, hget_z, hget_s, hset_0, hset_k, htake_0, lt_own0, lt_ownk, hasAt_nil, hasAt_arr, hasAt_st, hasSh_l, hasSh_aa, hasSh_sa, hasShs_n, hasShs_c, setAll, AV.isCell, Shape.size_leaf, Shape.size_arr, Shape.size_st, Shape.sizes_cons, Shape.sizes_nil, List.length_append, List.append_assoc, List.length_set, stP, ldP, getP, setP, psh, partsOf, slen, rd, dem, demK, mapO, AV.bnds, AV.bnd, bne_self_eq_false, AV.plain2, AV.plain, List.all_cons, List.all_nil, List.take_length, List.drop_zero, List.drop_succ_cons, Nat.mul_one, List.getElem?_nil, List.forall_mem_cons, List.not_mem_nil, implies_true, Bool.and_true, Bool.true_and, Bool.and_false, Bool.false_and, and_self, and_false, false_and]
  refine f36 ?_
  rw [rounds_64, cut_64, neg_eq]
  simp (maxSteps := 2000000) only [↓vS_skip, ↓vS_reg, ↓vS_draw, ↓vS_seq, ↓vS_cond, ↓vS_block, ↓vS_exit, ↓vS_ret, ↓vI_nil, ↓vI_go, ↓vI_gd, ↓stepI_q, ↓stepI_e, ↓stepI_c, ↓stepI_v, ↓vD_nil, ↓vD_go, ↓vD_gd, ↓stepW_q, ↓stepW_e, ↓stepW_c, ↓stepW_v, ↓Kw_app, ↓KwD_app, ↓Kc_app, ↓Kp_app, ↓Kr_app, ↓Ks_n, ↓Ks_r, ↓Ks_x, ↓Kb_n, ↓Kb_r, ↓Kb_x, ↓Ku_n, ↓Ku_r, ↓Ku_x, ↓Kl_n, ↓Kl_r, ↓Kl_x, ↓Kend_n, ↓Kend_r, ↓Two_t, ↓Two_f, ↓unr_succ, putE_none, putE_var, putE_new, get_t, get_c, qev, eev, rsGet, rvGet, oneOf, binAV, isSh, bvBin, bvOp, bvCmp, bvSh, intBin, intSh, cvAV, unAV, AV.cnt, AV.num, Ken2_s, Ken3_s, htake_1, htake_2, beq_self_eq_true, beq_true, beq_false, Bool.not_eq_true, maxLen, Nat.reducePow, Nat.reduceMul, List.map_cons, List.map_nil, List.getD_cons_zero, List.getD_cons_succ, List.set_cons_zero, List.set_cons_succ, List.cons_append, List.nil_append, List.append_nil, List.take_succ_cons, List.take_zero, List.take_nil, List.length_cons, List.length_nil, List.replicate_succ, List.replicate_zero, Option.map_some, Option.map_none, List.getElem?_cons_zero, List.getElem?_cons_succ, true_and, and_true, if_true, if_false, ite_true, ite_false, reduceIte, reduceCtorEq, false_or, or_true, true_or, or_false, Option.some.injEq, Prod.mk.injEq, exists_eq_left', exists_eq_left, exists_eq_right, exists_and_left, exists_and_right, exists_const, and_assoc, decide_true, decide_false, Bool.false_eq_true, forall_const, Bool.not_true, Bool.not_false, false_implies, true_implies, Nat.reduceAdd, Nat.reduceSub, Nat.reduceMul, Nat.reduceLT, Nat.reduceLeDiff, Nat.reduceEqDiff, Int.reduceAdd, Int.reduceSub, Int.reduceMul, Int.reduceLT, Int.reduceLE, Int.reduceTMod, Int.reduceTDiv, Int.reduceToNat, Int.reduceEq, Int.reduceNe, Int.reduceNeg, ne_eq, not_false_eq_true, not_true_eq_false, InR, Bool.true_eq_false, Bool.false_eq_true, reduceDIte, Nat.zero_add, Nat.add_zero, Int.cast_ofNat_Int, eq_self, hget_0, hget_k, hget_z, hget_s, hset_0, hset_k, htake_0, lt_own0, lt_ownk, hasAt_nil, hasAt_arr, hasAt_st, hasSh_l, hasSh_aa, hasSh_sa, hasShs_n, hasShs_c, setAll, AV.isCell, Shape.size_leaf, Shape.size_arr, Shape.size_st, Shape.sizes_cons, Shape.sizes_nil, List.length_append, List.append_assoc, List.length_set, stP, ldP, getP, setP, psh, partsOf, slen, rd, dem, demK, mapO, AV.bnds, AV.bnd, bne_self_eq_false, AV.plain2, AV.plain, List.all_cons, List.all_nil, List.take_length, List.drop_zero, List.drop_succ_cons, Nat.mul_one, List.getElem?_nil, List.forall_mem_cons, List.not_mem_nil, implies_true, Bool.and_true, Bool.true_and, Bool.and_false, Bool.false_and, and_self, and_false, false_and]
  refine f33 ?_
  simp (maxSteps := 2000000) only [↓vS_skip, ↓vS_reg, ↓vS_draw, ↓vS_seq, ↓vS_cond, ↓vS_block, ↓vS_exit, ↓vS_ret, ↓vI_nil, ↓vI_go, ↓vI_gd, ↓stepI_q, ↓stepI_e, ↓stepI_c, ↓stepI_v, ↓vD_nil, ↓vD_go, ↓vD_gd, ↓stepW_q, ↓stepW_e, ↓stepW_c, ↓stepW_v, ↓Kw_app, ↓KwD_app, ↓Kc_app, ↓Kp_app, ↓Kr_app, ↓Ks_n, ↓Ks_r, ↓Ks_x, ↓Kb_n, ↓Kb_r, ↓Kb_x, ↓Ku_n, ↓Ku_r, ↓Ku_x, ↓Kl_n, ↓Kl_r, ↓Kl_x, ↓Kend_n, ↓Kend_r, ↓Two_t, ↓Two_f, ↓unr_succ, putE_none, putE_var, putE_new, get_t, get_c, qev, eev, rsGet, rvGet, oneOf, binAV, isSh, bvBin, bvOp, bvCmp, bvSh, intBin, intSh, cvAV, unAV, AV.cnt, AV.num, Ken2_s, Ken3_s, htake_1, htake_2, beq_self_eq_true, beq_true, beq_false, Bool.not_eq_true, maxLen, Nat.reducePow, Nat.reduceMul, List.map_cons, List.map_nil, List.getD_cons_zero, List.getD_cons_succ, List.set_cons_zero, List.set_cons_succ, List.cons_append, List.nil_append, List.append_nil, List.take_succ_cons, List.take_zero, List.take_nil, List.length_cons, List.length_nil, List.replicate_succ, List.replicate_zero, Option.map_some, Option.map_none, List.getElem?_cons_zero, List.getElem?_cons_succ, true_and, and_true, if_true, if_false, ite_true, ite_false, reduceIte, reduceCtorEq, false_or, or_true, true_or, or_false, Option.some.injEq, Prod.mk.injEq, exists_eq_left', exists_eq_left, exists_eq_right, exists_and_left, exists_and_right, exists_const, and_assoc, decide_true, decide_false, Bool.false_eq_true, forall_const, Bool.not_true, Bool.not_false, false_implies, true_implies, Nat.reduceAdd, Nat.reduceSub, Nat.reduceMul, Nat.reduceLT, Nat.reduceLeDiff, Nat.reduceEqDiff, Int.reduceAdd, Int.reduceSub, Int.reduceMul, Int.reduceLT, Int.reduceLE, Int.reduceTMod, Int.reduceTDiv, Int.reduceToNat, Int.reduceEq, Int.reduceNe, Int.reduceNeg, ne_eq, not_false_eq_true, not_true_eq_false, InR, Bool.true_eq_false, Bool.false_eq_true, reduceDIte, Nat.zero_add, Nat.add_zero, Int.cast_ofNat_Int, eq_self, hget_0, hget_k, hget_z, hget_s, hset_0, hset_k, htake_0, lt_own0, lt_ownk, hasAt_nil, hasAt_arr, hasAt_st, hasSh_l, hasSh_aa, hasSh_sa, hasShs_n, hasShs_c, setAll, AV.isCell, Shape.size_leaf, Shape.size_arr, Shape.size_st, Shape.sizes_cons, Shape.sizes_nil, List.length_append, List.append_assoc, List.length_set, stP, ldP, getP, setP, psh, partsOf, slen, rd, dem, demK, mapO, AV.bnds, AV.bnd, bne_self_eq_false, AV.plain2, AV.plain, List.all_cons, List.all_nil, List.take_length, List.drop_zero, List.drop_succ_cons, Nat.mul_one, List.getElem?_nil, List.forall_mem_cons, List.not_mem_nil, implies_true, Bool.and_true, Bool.true_and, Bool.and_false, Bool.false_and, and_self, and_false, false_and]
  rw [show x + -y = x - y from (BitVec.sub_eq_add_neg x y).symm]
  exact h

def nst (a x : BitVec 64) : BitVec 64 := x * (2 - a * x)

def newton (a : BitVec 64) : BitVec 64 := nst a (nst a (nst a (nst a (nst a (nst a a)))))

theorem f18 {K : AV → Heap → Prop} {H : Heap} {l : Int} {a : BitVec 64} (h : K (if a &&& 1 = 0 ∨ maskV l = 0 then .tup [.u64 0, .bool false] else .tup [.u64 (newton a &&& maskV l), .bool true]) H) : wpF P [] 18 [.int l, .u64 a] H K := by
  refine wpF_go c18 rfl 2 ?_
  intro ha hb
  simp only [s18]
  by_cases h1 : a &&& 1 = 0
  · rw [if_pos (.inl h1)] at h
    simp (maxSteps := 2000000) only [↓vS_skip, ↓vS_reg, ↓vS_draw, ↓vS_seq, ↓vS_cond, ↓vS_block, ↓vS_exit, ↓vS_ret, ↓vI_nil, ↓vI_go, ↓vI_gd, ↓stepI_q, ↓stepI_e, ↓stepI_c, ↓stepI_v, ↓vD_nil, ↓vD_go, ↓vD_gd, ↓stepW_q, ↓stepW_e, ↓stepW_c, ↓stepW_v, ↓Kw_app, ↓KwD_app, ↓Kc_app, ↓Kp_app, ↓Kr_app, ↓Ks_n, ↓Ks_r, ↓Ks_x, ↓Kb_n, ↓Kb_r, ↓Kb_x, ↓Ku_n, ↓Ku_r, ↓Ku_x, ↓Kl_n, ↓Kl_r, ↓Kl_x, ↓Kend_n, ↓Kend_r, ↓Two_t, ↓Two_f, ↓unr_succ, putE_none, putE_var, putE_new, get_t, get_c, qev, eev, rsGet, rvGet, oneOf, binAV, isSh, bvBin, bvOp, bvCmp, bvSh, intBin, intSh, cvAV, unAV, AV.cnt, AV.num, Ken2_s, Ken3_s, htake_1, htake_2, beq_self_eq_true, beq_true, beq_false, Bool.not_eq_true, maxLen, Nat.reducePow, Nat.reduceMul, List.map_cons, List.map_nil, List.getD_cons_zero, List.getD_cons_succ, List.set_cons_zero, List.set_cons_succ, List.cons_append, List.nil_append, List.append_nil, List.take_succ_cons, List.take_zero, List.take_nil, List.length_cons, List.length_nil, List.replicate_succ, List.replicate_zero, Option.map_some, Option.map_none, List.getElem?_cons_zero, List.getElem?_cons_succ, true_and, and_true, if_true, if_false, ite_true, ite_false, reduceIte, reduceCtorEq, false_or, or_true, true_or, or_false, Option.some.injEq, Prod.mk.injEq, exists_eq_left', exists_eq_left, exists_eq_right, exists_and_left, exists_and_right, exists_const, and_assoc, decide_true, decide_false, Bool.false_eq_true, forall_const, Bool.not_true, Bool.not_false, false_implies, true_implies, Nat.reduceAdd, Nat.reduceSub, Nat.reduceMul, Nat.reduceLT, Nat.reduceLeDiff, Nat.reduceEqDiff, Int.reduceAdd, Int.reduceSub, Int.reduceMul, Int.reduceLT, Int.reduceLE, Int.reduceTMod, Int.reduceTDiv, Int.reduceToNat, Int.reduceEq, Int.reduceNe, Int.reduceNeg, ne_eq, not_false_eq_true, not_true_eq_false, InR, Bool.true_eq_false, Bool.false_eq_true, reduceDIte, Nat.zero_add, Nat.add_zero, Int.cast_ofNat_Int, eq_self, hget_0, hget_k, hget_z, hget_s, hset_0, hset_k, htake_0, lt_own0, lt_ownk, hasAt_nil, hasAt_arr, hasAt_st, hasSh_l, hasSh_aa, hasSh_sa, hasShs_n, hasShs_c, setAll, AV.isCell, Shape.size_leaf, Shape.size_arr, Shape.size_st, Shape.sizes_cons, Shape.sizes_nil, List.length_append, List.append_assoc, List.length_set, stP, ldP, getP, setP, psh, partsOf, slen, rd, dem, demK, mapO, AV.bnds, AV.bnd, bne_self_eq_false, AV.plain2, AV.plain, List.all_cons, List.all_nil, List.take_length, List.drop_zero, List.drop_succ_cons, Nat.mul_one, List.getElem?_nil, List.forall_mem_cons, List.not_mem_nil, implies_true, Bool.and_true, Bool.true_and, Bool.and_false, Bool.false_and, and_self, and_false, false_and, h1]
    exact h
  · simp (maxSteps := 2000000) only [↓vS_skip, ↓vS_reg, ↓vS_draw, ↓vS_seq, ↓vS_cond, ↓vS_block, ↓vS_exit, ↓vS_ret, ↓vI_nil, ↓vI_go, ↓vI_gd, ↓stepI_q, ↓stepI_e, ↓stepI_c, ↓stepI_v, ↓vD_nil, ↓vD_go, ↓vD_gd, ↓stepW_q, ↓stepW_e, ↓stepW_c, ↓stepW_v, ↓Kw_app, ↓KwD_app, ↓Kc_app, ↓Kp_app, ↓Kr_app, ↓Ks_n, ↓Ks_r, ↓Ks_x, ↓Kb_n, ↓Kb_r, ↓Kb_x, ↓Ku_n, ↓Ku_r, ↓Ku_x, ↓Kl_n, ↓Kl_r, ↓Kl_x, ↓Kend_n, ↓Kend_r, ↓Two_t, ↓Two_f, ↓unr_succ, putE_none, putE_var, putE_new, get_t, get_c, qev, eev, rsGet, rvGet, oneOf, binAV, isSh, bvBin, bvOp, bvCmp, bvSh, intBin, intSh, cvAV, unAV, AV.cnt, AV.num, Ken2_s, Ken3_s, htake_1, htake_2, beq_self_eq_true, beq_true, beq_false, Bool.not_eq_true, maxLen, Nat.reducePow, Nat.reduceMul, List.map_cons, List.map_nil, List.getD_cons_zero, List.getD_cons_succ, List.set_cons_zero, List.set_cons_succ, List.cons_append, List.nil_append, List.append_nil, List.take_succ_cons, List.take_zero, List.take_nil, List.length_cons, List.length_nil, List.replicate_succ, List.replicate_zero, Option.map_some, Option.map_none, List.getElem?_cons_zero, List.getElem?_cons_succ, true_and, and_true, if_true, if_false, ite_true, ite_false, reduceIte, reduceCtorEq, false_or, or_true, true_or, or_false, Option.some.injEq, Prod.mk.injEq, exists_eq_left', exists_eq_left, exists_eq_right, exists_and_left, exists_and_right, exists_const, and_assoc, decide_true, decide_false, Bool.false_eq_true, forall_const, Bool.not_true, Bool.not_false, false_implies, true_implies, Nat.reduceAdd, Nat.reduceSub, Nat.reduceMul, Nat.reduceLT, Nat.reduceLeDiff, Nat.reduceEqDiff, Int.reduceAdd, Int.reduceSub, Int.reduceMul, Int.reduceLT, Int.reduceLE, Int.reduceTMod, Int.reduceTDiv, Int.reduceToNat, Int.reduceEq, Int.reduceNe, Int.reduceNeg, ne_eq, not_false_eq_true, not_true_eq_false, InR, Bool.true_eq_false, Bool.false_eq_true, reduceDIte, Nat.zero_add, Nat.add_zero, Int.cast_ofNat_Int, eq_self, hget_0, hget_k, hget_z, hget_s, hset_0, hset_k, htake_0, lt_own0, lt_ownk, hasAt_nil, hasAt_arr, hasAt_st, hasSh_l, hasSh_aa, hasSh_sa, hasShs_n, hasShs_c, setAll, AV.isCell, Shape.size_leaf, Shape.size_arr, Shape.size_st, Shape.sizes_cons, Shape.sizes_nil, List.length_append, List.append_assoc, List.length_set, stP, ldP, getP, setP, psh, partsOf, slen, rd, dem, demK, mapO, AV.bnds, AV.bnd, bne_self_eq_false, AV.plain2, AV.plain, List.all_cons, List.all_nil, List.take_length, List.drop_zero, List.drop_succ_cons, Nat.mul_one, List.getElem?_nil, List.forall_mem_cons, List.not_mem_nil, implies_true, Bool.and_true, Bool.true_and, Bool.and_false, Bool.false_and, and_self, and_false, false_and, h1]
    refine f56 ?_
    by_cases h2 : maskV l = 0
    · rw [if_pos (.inr h2)] at h
      simp (maxSteps := 2000000) only [↓vS_skip, ↓vS_reg, ↓vS_draw, ↓vS_seq, ↓vS_cond, ↓vS_block, ↓vS_exit, ↓vS_ret, ↓vI_nil, ↓vI_go, ↓vI_gd, ↓stepI_q, ↓stepI_e, ↓stepI_c, ↓stepI_v, ↓vD_nil, ↓vD_go, ↓vD_gd, ↓stepW_q, ↓stepW_e, ↓stepW_c, ↓stepW_v, ↓Kw_app, ↓KwD_app, ↓Kc_app, ↓Kp_app, ↓Kr_app, ↓Ks_n, ↓Ks_r, ↓Ks_x, ↓Kb_n, ↓Kb_r, ↓Kb_x, ↓Ku_n, ↓Ku_r, ↓Ku_x, ↓Kl_n, ↓Kl_r, ↓Kl_x, ↓Kend_n, ↓Kend_r, ↓Two_t, ↓Two_f, ↓unr_succ, putE_none, putE_var, putE_new, get_t, get_c, qev, eev, rsGet, rvGet, oneOf, binAV, isSh, bvBin, bvOp, bvCmp, bvSh, intBin, intSh, cvAV, unAV, AV.cnt, AV.num, Ken2_s, Ken3_s, htake_1, htake_2, beq_self_eq_true, beq_true, beq_false, Bool.not_eq_true, maxLen, Nat.reducePow, Nat.reduceMul, List.map_cons, List.map_nil, List.getD_cons_zero, List.getD_cons_succ, List.set_cons_zero, List.set_cons_succ, List.cons_append, List.nil_append, List.append_nil, List.take_succ_cons, List.take_zero, List.take_nil, List.length_cons, List.length_nil, List.replicate_succ, List.replicate_zero, Option.map_some, Option.map_none, List.getElem?_cons_zero, List.getElem?_cons_succ, true_and, and_true, if_true, if_false, ite_true, ite_false, reduceIte, reduceCtorEq, false_or, or_true, true_or, or_false, Option.some.injEq, Prod.mk.injEq, exists_eq_left', exists_eq_left, exists_eq_right, exists_and_left, exists_and_right, exists_const, and_assoc, decide_true, decide_false, Bool.false_eq_true, forall_const, Bool.not_true, Bool.not_false, false_implies, true_implies, Nat.reduceAdd, Nat.reduceSub, Nat.reduceMul, Nat.reduceLT, Nat.reduceLeDiff, Nat.reduceEqDiff, Int.reduceAdd, Int.reduceSub, Int.reduceMul, Int.reduceLT, Int.reduceLE, Int.reduceTMod, Int.reduceTDiv, Int.reduceToNat, Int.reduceEq, Int.reduceNe, Int.reduceNeg, ne_eq, not_false_eq_true, not_true_eq_false, InR, Bool.true_eq_false, Bool.false_eq_true, reduceDIte, Nat.zero_add, Nat.add_zero, Int.cast_ofNat_Int, eq_self, hget_0, hget_k, hget_z, hget_s, hset_0, hset_k, htake_0, lt_own0, lt_ownk, hasAt_nil, hasAt_arr, hasAt_st, hasSh_l, hasSh_aa, hasSh_sa, hasShs_n, hasShs_c, setAll, AV.isCell, Shape.size_leaf, Shape.size_arr, Shape.size_st, Shape.sizes_cons, Shape.sizes_nil, List.length_append, List.append_assoc, List.length_set, stP, ldP, getP, setP, psh, partsOf, slen, rd, dem, demK, mapO, AV.bnds, AV.bnd, bne_self_eq_false, AV.plain2, AV.plain, List.all_cons, List.all_nil, List.take_length, List.drop_zero, List.drop_succ_cons, Nat.mul_one, List.getElem?_nil, List.forall_mem_cons, List.not_mem_nil, implies_true, Bool.and_true, Bool.true_and, Bool.and_false, Bool.false_and, and_self, and_false, false_and, h2]
      exact h
    · rw [if_neg (by rintro (h | h) <;> contradiction)] at h
      simp (maxSteps := 2000000) only [↓vS_skip, ↓vS_reg, ↓vS_draw, ↓vS_seq, ↓vS_cond, ↓vS_block, ↓vS_exit, ↓vS_ret, ↓vI_nil, ↓vI_go, ↓vI_gd, ↓stepI_q, ↓stepI_e, ↓stepI_c, ↓stepI_v, ↓vD_nil, ↓vD_go, ↓vD_gd, ↓stepW_q, ↓stepW_e, ↓stepW_c, ↓stepW_v, ↓Kw_app, ↓KwD_app, ↓Kc_app, ↓Kp_app, ↓Kr_app, ↓Ks_n, ↓Ks_r, ↓Ks_x, ↓Kb_n, ↓Kb_r, ↓Kb_x, ↓Ku_n, ↓Ku_r, ↓Ku_x, ↓Kl_n, ↓Kl_r, ↓Kl_x, ↓Kend_n, ↓Kend_r, ↓Two_t, ↓Two_f, ↓unr_succ, putE_none, putE_var, putE_new, get_t, get_c, qev, eev, rsGet, rvGet, oneOf, binAV, isSh, bvBin, bvOp, bvCmp, bvSh, intBin, intSh, cvAV, unAV, AV.cnt, AV.num, Ken2_s, Ken3_s, htake_1, htake_2, beq_self_eq_true, beq_true, beq_false, Bool.not_eq_true, maxLen, Nat.reducePow, Nat.reduceMul, List.map_cons, List.map_nil, List.getD_cons_zero, List.getD_cons_succ, List.set_cons_zero, List.set_cons_succ, List.cons_append, List.nil_append, List.append_nil, List.take_succ_cons, List.take_zero, List.take_nil, List.length_cons, List.length_nil, List.replicate_succ, List.replicate_zero, Option.map_some, Option.map_none, List.getElem?_cons_zero, List.getElem?_cons_succ, true_and, and_true, if_true, if_false, ite_true, ite_false, reduceIte, reduceCtorEq, false_or, or_true, true_or, or_false, Option.some.injEq, Prod.mk.injEq, exists_eq_left', exists_eq_left, exists_eq_right, exists_and_left, exists_and_right, exists_const, and_assoc, decide_true, decide_false, Bool.false_eq_true, forall_const, Bool.not_true, Bool.not_false, false_implies, true_implies, Nat.reduceAdd, Nat.reduceSub, Nat.reduceMul, Nat.reduceLT, Nat.reduceLeDiff, Nat.reduceEqDiff, Int.reduceAdd, Int.reduceSub, Int.reduceMul, Int.reduceLT, Int.reduceLE, Int.reduceTMod, Int.reduceTDiv, Int.reduceToNat, Int.reduceEq, Int.reduceNe, Int.reduceNeg, ne_eq, not_false_eq_true, not_true_eq_false, InR, Bool.true_eq_false, Bool.false_eq_true, reduceDIte, Nat.zero_add, Nat.add_zero, Int.cast_ofNat_Int, eq_self, hget_0, hget_k, hget_z, hget_s, hset_0, hset_k, htake_0, lt_own0, lt_ownk, hasAt_nil, hasAt_arr, hasAt_st, hasSh_l, hasSh_aa, hasSh_sa, hasShs_n, hasShs_c, setAll, AV.isCell, Shape.size_leaf, Shape.size_arr, Shape.size_st, Shape.sizes_cons, Shape.sizes_nil, List.length_append, List.append_assoc, List.length_set, stP, ldP, getP, setP, psh, partsOf, slen, rd, dem, demK, mapO, AV.bnds, AV.bnd, bne_self_eq_false, AV.plain2, AV.plain, List.all_cons, List.all_nil, List.take_length, List.drop_zero, List.drop_succ_cons, Nat.mul_one, List.getElem?_nil, List.forall_mem_cons, List.not_mem_nil, implies_true, Bool.and_true, Bool.true_and, Bool.and_false, Bool.false_and, and_self, and_false, false_and, h2]
      refine wp_unroll 7 ?_
      simp (maxSteps := 2000000) only [↓vS_skip, ↓vS_reg, ↓vS_draw, ↓vS_seq, ↓vS_cond, ↓vS_block, ↓vS_exit, ↓vS_ret, ↓vI_nil, ↓vI_go, ↓vI_gd, ↓stepI_q, ↓stepI_e, ↓stepI_c, ↓stepI_v, ↓vD_nil, ↓vD_go, ↓vD_gd, ↓stepW_q, ↓stepW_e, ↓stepW_c, ↓stepW_v, ↓Kw_app, ↓KwD_app, ↓Kc_app, ↓Kp_app, ↓Kr_app, ↓Ks_n, ↓Ks_r, ↓Ks_x, ↓Kb_n, ↓Kb_r, ↓Kb_x, ↓Ku_n, ↓Ku_r, ↓Ku_x, ↓Kl_n, ↓Kl_r, ↓Kl_x, ↓Kend_n, ↓Kend_r, ↓Two_t, ↓Two_f, ↓unr_succ, putE_none, putE_var, putE_new, get_t, get_c, qev, eev, rsGet, rvGet, oneOf, binAV, isSh, bvBin, bvOp, bvCmp, bvSh, intBin, intSh, cvAV, unAV, AV.cnt, AV.num, Ken2_s, Ken3_s, htake_1, htake_2, beq_self_eq_true, beq_true, beq_false, Bool.not_eq_true, maxLen, Nat.reducePow, Nat.reduceMul, List.map_cons, List.map_nil, List.getD_cons_zero, List.getD_cons_succ, List.set_cons_zero, List.set_cons_succ, List.cons_append, List.nil_append, List.append_nil, List.take_succ_cons, List.take_zero, List.take_nil, List.length_cons, List.length_nil, List.replicate_succ, List.replicate_zero, Option.map_some, Option.map_none, List.getElem?_cons_zero, List.getElem?_cons_succ, true_and, and_true, if_true, if_false, ite_true, ite_false, reduceIte, reduceCtorEq, false_or, or_true, true_or, or_false, Option.some.injEq, Prod.mk.injEq, exists_eq_left', exists_eq_left, exists_eq_right, exists_and_left, exists_and_right, exists_const, and_assoc, decide_true, decide_false, Bool.false_eq_true, forall_const, Bool.not_true, Bool.not_false, false_implies, true_implies, Nat.reduceAdd, Nat.reduceSub, Nat.reduceMul, Nat.reduceLT, Nat.reduceLeDiff, Nat.reduceEqDiff, Int.reduceAdd, Int.reduceSub, Int.reduceMul, Int.reduceLT, Int.reduceLE, Int.reduceTMod, Int.reduceTDiv, Int.reduceToNat, Int.reduceEq, Int.reduceNe, Int.reduceNeg, ne_eq, not_false_eq_true, not_true_eq_false, InR, Bool.true_eq_false, Bool.false_eq_true, reduceDIte, Nat.zero_add, Nat.add_zero, Int.cast_ofNat_Int, eq_self, hget_0, hget_k, hget_z, hget_s, hset_0, hset_k, htake_0, lt_own0, lt_ownk, hasAt_nil, hasAt_arr, hasAt_st, hasSh_l, hasSh_aa, hasSh_sa, hasShs_n, hasShs_c, setAll, AV.isCell, Shape.size_leaf, Shape.size_arr, Shape.size_st, Shape.sizes_cons, Shape.sizes_nil, List.length_append, List.append_assoc, List.length_set, stP, ldP, getP, setP, psh, partsOf, slen, rd, dem, demK, mapO, AV.bnds, AV.bnd, bne_self_eq_false, AV.plain2, AV.plain, List.all_cons, List.all_nil, List.take_length, List.drop_zero, List.drop_succ_cons, Nat.mul_one, List.getElem?_nil, List.forall_mem_cons, List.not_mem_nil, implies_true, Bool.and_true, Bool.true_and, Bool.and_false, Bool.false_and, and_self, and_false, false_and]
      refine f21 ?_
      simp (maxSteps := 2000000) only [↓vS_skip, ↓vS_reg, ↓vS_draw, ↓vS_seq, ↓vS_cond, ↓vS_block, ↓vS_exit, ↓vS_ret, ↓vI_nil, ↓vI_go, ↓vI_gd, ↓stepI_q, ↓stepI_e, ↓stepI_c, ↓stepI_v, ↓vD_nil, ↓vD_go, ↓vD_gd, ↓stepW_q, ↓stepW_e, ↓stepW_c, ↓stepW_v, ↓Kw_app, ↓KwD_app, ↓Kc_app, ↓Kp_app, ↓Kr_app, ↓Ks_n, ↓Ks_r, ↓Ks_x, ↓Kb_n, ↓Kb_r, ↓Kb_x, ↓Ku_n, ↓Ku_r, ↓Ku_x, ↓Kl_n, ↓Kl_r, ↓Kl_x, ↓Kend_n, ↓Kend_r, ↓Two_t, ↓Two_f, ↓unr_succ, putE_none, putE_var, putE_new, get_t, get_c, qev, eev, rsGet, rvGet, oneOf, binAV, isSh, bvBin, bvOp, bvCmp, bvSh, intBin, intSh, cvAV, unAV, AV.cnt, AV.num, Ken2_s, Ken3_s, htake_1, htake_2, beq_self_eq_true, beq_true, beq_false, Bool.not_eq_true, maxLen, Nat.reducePow, Nat.reduceMul, List.map_cons, List.map_nil, List.getD_cons_zero, List.getD_cons_succ, List.set_cons_zero, List.set_cons_succ, List.cons_append, List.nil_append, List.append_nil, List.take_succ_cons, List.take_zero, List.take_nil, List.length_cons, List.length_nil, List.replicate_succ, List.replicate_zero, Option.map_some, Option.map_none, List.getElem?_cons_zero, List.getElem?_cons_succ, true_and, and_true, if_true, if_false, ite_true, ite_false, reduceIte, reduceCtorEq, false_or, or_true, true_or, or_false, Option.some.injEq, Prod.mk.injEq, exists_eq_left', exists_eq_left, exists_eq_right, exists_and_left, exists_and_right, exists_const, and_assoc, decide_true, decide_false, Bool.false_eq_true, forall_const, Bool.not_true, Bool.not_false, false_implies, true_implies, Nat.reduceAdd, Nat.reduceSub, Nat.reduceMul, Nat.reduceLT, Nat.reduceLeDiff, Nat.reduceEqDiff, Int.reduceAdd, Int.reduceSub, Int.reduceMul, Int.reduceLT, Int.reduceLE, Int.reduceTMod, Int.reduceTDiv, Int.reduceToNat, Int.reduceEq, Int.reduceNe, Int.reduceNeg, ne_eq, not_false_eq_true, not_true_eq_false, InR, Bool.true_eq_false, Bool.false_eq_true, reduceDIte, Nat.zero_add, Nat.add_zero, Int.cast_ofNat_Int, eq_self, hget_0, hget_k, hget_z, hget_s, hset_0, hset_k, htake_0, lt_own0, lt_ownk, hasAt_nil, hasAt_arr, hasAt_st, hasSh_l, hasSh_aa, hasSh_sa, hasShs_n, hasShs_c, setAll, AV.isCell, Shape.size_leaf, Shape.size_arr, Shape.size_st, Shape.sizes_cons, Shape.sizes_nil, List.length_append, List.append_assoc, List.length_set, stP, ldP, getP, setP, psh, partsOf, slen, rd, dem, demK, mapO, AV.bnds, AV.bnd, bne_self_eq_false, AV.plain2, AV.plain, List.all_cons, List.all_nil, List.take_length, List.drop_zero, List.drop_succ_cons, Nat.mul_one, List.getElem?_nil, List.forall_mem_cons, List.not_mem_nil, implies_true, Bool.and_true, Bool.true_and, Bool.and_false, Bool.false_and, and_self, and_false, false_and]
      exact h

theorem half_cases (x : BitVec 64) : x = 2 * (x >>> 1) ∨ x = 2 * (x >>> 1) + 1 := by
  have h := x.isLt
  have e : (2 * (x >>> 1)).toNat = 2 * (x.toNat / 2) := by
    rw [BitVec.toNat_mul, BitVec.toNat_ushiftRight, Nat.shiftRight_eq_div_pow]
    show (2 * (x.toNat / 2 ^ 1)) % 2 ^ 64 = _
    omega
  rcases Nat.mod_two_eq_zero_or_one x.toNat with h1 | h1
  · left; apply BitVec.eq_of_toNat_eq; rw [e]; omega
  · right; apply BitVec.eq_of_toNat_eq
    rw [BitVec.toNat_add, e]
    show x.toNat = (2 * (x.toNat / 2) + 1) % 2 ^ 64
    omega

theorem odd_half {x : BitVec 64} (h : x.toNat % 2 = 1) : x = 2 * (x >>> 1) + 1 := by
  rcases half_cases x with h1 | h1
  · exfalso
    have e : (2 * (x >>> 1)).toNat % 2 = 0 := by
      rw [BitVec.toNat_mul]
      show (2 * (x >>> 1).toNat) % 2 ^ 64 % 2 = 0
      omega
    rw [← h1] at e; omega
  · exact h1

theorem odd_sq {a : BitVec 64} (h : a.toNat % 2 = 1) : ∃ t : BitVec 64, 1 - a * a = 8 * t := by
  have h1 := odd_half h
  generalize a >>> 1 = b at h1
  rcases half_cases b with h2 | h2
  · generalize b >>> 1 = d at h2
    exact ⟨-(2 * d * d + d), by rw [h1, h2]; grind⟩
  · generalize b >>> 1 = d at h2
    exact ⟨-(2 * d * d + 3 * d + 1), by rw [h1, h2]; grind⟩

theorem nst_err (a x : BitVec 64) : 1 - a * nst a x = (1 - a * x) * (1 - a * x) := by
  unfold nst; grind

theorem newton_ok {a : BitVec 64} (h : a.toNat % 2 = 1) : a * newton a = 1 := by
  obtain ⟨t, e0⟩ := odd_sq h
  have e1 := nst_err a a
  rw [e0, show (8 * t) * (8 * t) = 64 * (t * t) by grind] at e1
  have e2 := nst_err a (nst a a)
  rw [e1, show (64 * (t * t)) * (64 * (t * t)) = 4096 * (t * t * t * t) by grind] at e2
  generalize t * t * t * t = u at e2
  have e3 := nst_err a (nst a (nst a a))
  rw [e2, show (4096 * u) * (4096 * u) = 16777216 * (u * u) by grind] at e3
  generalize u * u = v at e3
  have e4 := nst_err a (nst a (nst a (nst a a)))
  rw [e3, show (16777216 * v) * (16777216 * v) = 281474976710656 * (v * v) by grind] at e4
  generalize v * v = q at e4
  have e5 := nst_err a (nst a (nst a (nst a (nst a a))))
  rw [e4, show (281474976710656 * q) * (281474976710656 * q) = 0 by grind] at e5
  have e6 := nst_err a (nst a (nst a (nst a (nst a (nst a a)))))
  rw [e5] at e6
  have e7 : 1 - a * newton a = 0 := by unfold newton; rw [e6]; grind
  grind

theorem odd_iff (a : BitVec 64) : (a &&& 1 = 0) ↔ a.toNat % 2 = 0 := by
  constructor
  · intro h
    have := congrArg BitVec.toNat h
    rw [BitVec.toNat_and] at this
    have e : (1 : BitVec 64).toNat = 1 := by decide
    rw [e, Nat.and_one_is_mod] at this
    simpa using this
  · intro h
    apply BitVec.eq_of_toNat_eq
    rw [BitVec.toNat_and]
    have e : (1 : BitVec 64).toNat = 1 := by decide
    rw [e, Nat.and_one_is_mod, h]; rfl

theorem mod_iff (a : BitVec 64) : (a % 2 = 0) ↔ a.toNat % 2 = 0 := by
  constructor
  · intro h
    have := congrArg BitVec.toNat h
    rw [BitVec.toNat_umod] at this
    simpa using this
  · intro h
    apply BitVec.eq_of_toNat_eq
    rw [BitVec.toNat_umod]
    show a.toNat % 2 = 0
    exact h

/-- The number by which an odd one comes to 1 is but one. -/
theorem inv_uniq {a out : BitVec 64} {n : Nat} (hn : n ≤ 64) (h0 : 1 ≤ n) (ha : a.toNat % 2 = 1) (h1 : out.toNat < 2 ^ n) (h2 : (a * out).toNat % 2 ^ n = 1 % 2 ^ n) : out = cut n (newton a) := by
  have hw := newton_ok ha
  have ho : out = newton a * (a * out) := by
    have : newton a * (a * out) = (a * newton a) * out := by grind
    rw [this, hw]; grind
  have hp : 2 ^ n ∣ 2 ^ 64 := Nat.pow_dvd_pow 2 hn
  have e : out.toNat % 2 ^ n = (newton a).toNat % 2 ^ n := by
    have := congrArg (fun z => z.toNat % 2 ^ n) ho
    rw [this, BitVec.toNat_mul, Nat.mod_mod_of_dvd _ hp, Nat.mul_mod, h2, ← Nat.mul_mod, Nat.mul_one]
  apply BitVec.eq_of_toNat_eq
  simp only [cut, BitVec.toNat_ofNat]
  rw [← e, Nat.mod_eq_of_lt h1]
  have := out.isLt
  omega

def InvI (a : BitVec 64) (i : Nat) (out sum : BitVec 64) : Prop := sum = a * out ∧ out.toNat < 2 ^ i ∧ sum.toNat % 2 ^ i = 1 % 2 ^ i

theorem InvI.stay {a out sum : BitVec 64} {i : Nat} (h : InvI a i out sum) (hb : sum.toNat / 2 ^ i % 2 = if i = 0 then 1 else 0) : InvI a (i + 1) out sum := by
  obtain ⟨h1, h2, h3⟩ := h
  refine ⟨h1, by rw [Nat.pow_succ]; omega, ?_⟩
  rw [Nat.pow_succ, Nat.mod_mul, h3, hb]
  split
  · rename_i h; subst h; rfl
  · rename_i h
    have : 2 ≤ 2 ^ i := by
      have := Nat.pow_le_pow_right (n := 2) (by decide) (show 1 ≤ i by omega)
      simpa using this
    rw [Nat.mod_eq_of_lt (by omega : 1 < 2 ^ i), Nat.mod_eq_of_lt (by omega : 1 < 2 ^ i * 2), Nat.mul_zero]

theorem InvI.flip {a out sum : BitVec 64} {i : Nat} (hi : i < 64) (ha : a.toNat % 2 = 1) (h : InvI a i out sum) (hb : sum.toNat / 2 ^ i % 2 ≠ if i = 0 then 1 else 0) : InvI a (i + 1) (out ||| (1 : BitVec 64) <<< i) (sum + a <<< i) := by
  obtain ⟨h1, h2, h3⟩ := h
  have e1 : (1 : BitVec 64).toNat = 1 := by decide
  have eo := or_bit (t := 1) hi h2 (by rw [e1]; exact Nat.le_refl _)
  rw [e1, Nat.one_mul] at eo
  have hp64 : 2 ^ (i + 1) ∣ 2 ^ 64 := Nat.pow_dvd_pow 2 (by omega)
  refine ⟨?_, by rw [eo, Nat.pow_succ]; omega, ?_⟩
  · have e2 : (out ||| (1 : BitVec 64) <<< i) = out + (1 : BitVec 64) <<< i := by
      apply BitVec.eq_of_toNat_eq
      rw [eo, BitVec.toNat_add, BitVec.toNat_shiftLeft, e1, Nat.shiftLeft_eq, Nat.one_mul]
      have h5 : 2 ^ i ≤ 2 ^ 63 := Nat.pow_le_pow_right (by decide) (by omega)
      rw [Nat.mod_eq_of_lt (by omega : 2 ^ i < 2 ^ 64), Nat.mod_eq_of_lt (by omega)]
    rw [e2, h1]
    have e3 : a <<< i = a * ((1 : BitVec 64) <<< i) := by
      apply BitVec.eq_of_toNat_eq
      have h5 : 2 ^ i ≤ 2 ^ 63 := Nat.pow_le_pow_right (by decide) (by omega)
      rw [BitVec.toNat_mul, BitVec.toNat_shiftLeft, BitVec.toNat_shiftLeft, e1, Nat.shiftLeft_eq, Nat.shiftLeft_eq, Nat.one_mul, Nat.mod_eq_of_lt (by omega : 2 ^ i < 2 ^ 64)]
    rw [e3]; grind
  · rw [BitVec.toNat_add, BitVec.toNat_shiftLeft, Nat.shiftLeft_eq, Nat.mod_mod_of_dvd _ hp64, Nat.add_mod, Nat.mod_mod_of_dvd _ hp64, ← Nat.add_mod]
    rw [Nat.pow_succ, Nat.mod_mul, Nat.add_mul_mod_self_right, h3, Nat.add_mul_div_right _ _ (Nat.two_pow_pos i)]
    have e4 : (sum.toNat / 2 ^ i + a.toNat) % 2 = if i = 0 then 1 else 0 := by
      have hw : (if i = 0 then 1 else 0) < 2 := by split <;> omega
      generalize (if i = 0 then 1 else 0) = w at hb hw ⊢
      omega
    rw [e4]
    split
    · rename_i h; subst h; rfl
    · rename_i h
      have : 2 ≤ 2 ^ i := by
        have := Nat.pow_le_pow_right (n := 2) (by decide) (show 1 ≤ i by omega)
        simpa using this
      rw [Nat.mod_eq_of_lt (by omega : 1 < 2 ^ i), Nat.mod_eq_of_lt (by omega : 1 < 2 ^ i * 2), Nat.mul_zero]

def I19 (l : Int) (a : BitVec 64) (H : Heap) (k : Nat) (st : St) : Prop :=
  ∃ (i : Nat) (out sum : BitVec 64) (u1 u2 u3 u4 u5 : AV), st = ⟨[.int l, .u64 a, .u64 0, .bool false, .u64 out, .u64 sum, .int i, u1, u2, u3, u4, u5], H⟩ ∧ k = 64 - i ∧ (i : Int) ≤ l ∧ InvI a i out sum

theorem f19 {K : AV → Heap → Prop} {H : Heap} {l : Int} {a : BitVec 64} (h : K (if a % 2 = 0 ∨ ¬ good l then .tup [.u64 0, .bool false] else .tup [.u64 (cut l.toNat (newton a)), .bool true]) H) : wpF P [] 19 [.int l, .u64 a] H K := by
  refine wpF_go c19 rfl 2 ?_
  intro ha hb
  simp only [s19]
  by_cases h1 : a % 2 = 0
  · rw [if_pos (.inl h1)] at h
    simp (maxSteps := 2000000) only [↓vS_skip, ↓vS_reg, ↓vS_draw, ↓vS_seq, ↓vS_cond, ↓vS_block, ↓vS_exit, ↓vS_ret, ↓vI_nil, ↓vI_go, ↓vI_gd, ↓stepI_q, ↓stepI_e, ↓stepI_c, ↓stepI_v, ↓vD_nil, ↓vD_go, ↓vD_gd, ↓stepW_q, ↓stepW_e, ↓stepW_c, ↓stepW_v, ↓Kw_app, ↓KwD_app, ↓Kc_app, ↓Kp_app, ↓Kr_app, ↓Ks_n, ↓Ks_r, ↓Ks_x, ↓Kb_n, ↓Kb_r, ↓Kb_x, ↓Ku_n, ↓Ku_r, ↓Ku_x, ↓Kl_n, ↓Kl_r, ↓Kl_x, ↓Kend_n, ↓Kend_r, ↓Two_t, ↓Two_f, ↓unr_succ, putE_none, putE_var, putE_new, get_t, get_c, qev, eev, rsGet, rvGet, oneOf, binAV, isSh, bvBin, bvOp, bvCmp, bvSh, intBin, intSh, cvAV, unAV, AV.cnt, AV.num, Ken2_s, Ken3_s, htake_1, htake_2, beq_self_eq_true, beq_true, beq_false, Bool.not_eq_true, maxLen, Nat.reducePow, Nat.reduceMul, List.map_cons, List.map_nil, List.getD_cons_zero, List.getD_cons_succ, List.set_cons_zero, List.set_cons_succ, List.cons_append, List.nil_append, List.append_nil, List.take_succ_cons, List.take_zero, List.take_nil, List.length_cons, List.length_nil, List.replicate_succ, List.replicate_zero, Option.map_some, Option.map_none, List.getElem?_cons_zero, List.getElem?_cons_succ, true_and, and_true, if_true, if_false, ite_true, ite_false, reduceIte, reduceCtorEq, false_or, or_true, true_or, or_false, Option.some.injEq, Prod.mk.injEq, exists_eq_left', exists_eq_left, exists_eq_right, exists_and_left, exists_and_right, exists_const, and_assoc, decide_true, decide_false, Bool.false_eq_true, forall_const, Bool.not_true, Bool.not_false, false_implies, true_implies, Nat.reduceAdd, Nat.reduceSub, Nat.reduceMul, Nat.reduceLT, Nat.reduceLeDiff, Nat.reduceEqDiff, Int.reduceAdd, Int.reduceSub, Int.reduceMul, Int.reduceLT, Int.reduceLE, Int.reduceTMod, Int.reduceTDiv, Int.reduceToNat, Int.reduceEq, Int.reduceNe, Int.reduceNeg, ne_eq, not_false_eq_true, not_true_eq_false, InR, Bool.true_eq_false, Bool.false_eq_true, reduceDIte, Nat.zero_add, Nat.add_zero, Int.cast_ofNat_Int, eq_self, hget_0, hget_k, hget_z, hget_s, hset_0, hset_k, htake_0, lt_own0, lt_ownk, hasAt_nil, hasAt_arr, hasAt_st, hasSh_l, hasSh_aa, hasSh_sa, hasShs_n, hasShs_c, setAll, AV.isCell, Shape.size_leaf, Shape.size_arr, Shape.size_st, Shape.sizes_cons, Shape.sizes_nil, List.length_append, List.append_assoc, List.length_set, stP, ldP, getP, setP, psh, partsOf, slen, rd, dem, demK, mapO, AV.bnds, AV.bnd, bne_self_eq_false, AV.plain2, AV.plain, List.all_cons, List.all_nil, List.take_length, List.drop_zero, List.drop_succ_cons, Nat.mul_one, List.getElem?_nil, List.forall_mem_cons, List.not_mem_nil, implies_true, Bool.and_true, Bool.true_and, Bool.and_false, Bool.false_and, and_self, and_false, false_and, h1]
    exact ⟨by decide, h⟩
  · simp (maxSteps := 2000000) only [↓vS_skip, ↓vS_reg, ↓vS_draw, ↓vS_seq, ↓vS_cond, ↓vS_block, ↓vS_exit, ↓vS_ret, ↓vI_nil, ↓vI_go, ↓vI_gd, ↓stepI_q, ↓stepI_e, ↓stepI_c, ↓stepI_v, ↓vD_nil, ↓vD_go, ↓vD_gd, ↓stepW_q, ↓stepW_e, ↓stepW_c, ↓stepW_v, ↓Kw_app, ↓KwD_app, ↓Kc_app, ↓Kp_app, ↓Kr_app, ↓Ks_n, ↓Ks_r, ↓Ks_x, ↓Kb_n, ↓Kb_r, ↓Kb_x, ↓Ku_n, ↓Ku_r, ↓Ku_x, ↓Kl_n, ↓Kl_r, ↓Kl_x, ↓Kend_n, ↓Kend_r, ↓Two_t, ↓Two_f, ↓unr_succ, putE_none, putE_var, putE_new, get_t, get_c, qev, eev, rsGet, rvGet, oneOf, binAV, isSh, bvBin, bvOp, bvCmp, bvSh, intBin, intSh, cvAV, unAV, AV.cnt, AV.num, Ken2_s, Ken3_s, htake_1, htake_2, beq_self_eq_true, beq_true, beq_false, Bool.not_eq_true, maxLen, Nat.reducePow, Nat.reduceMul, List.map_cons, List.map_nil, List.getD_cons_zero, List.getD_cons_succ, List.set_cons_zero, List.set_cons_succ, List.cons_append, List.nil_append, List.append_nil, List.take_succ_cons, List.take_zero, List.take_nil, List.length_cons, List.length_nil, List.replicate_succ, List.replicate_zero, Option.map_some, Option.map_none, List.getElem?_cons_zero, List.getElem?_cons_succ, true_and, and_true, if_true, if_false, ite_true, ite_false, reduceIte, reduceCtorEq, false_or, or_true, true_or, or_false, Option.some.injEq, Prod.mk.injEq, exists_eq_left', exists_eq_left, exists_eq_right, exists_and_left, exists_and_right, exists_const, and_assoc, decide_true, decide_false, Bool.false_eq_true, forall_const, Bool.not_true, Bool.not_false, false_implies, true_implies, Nat.reduceAdd, Nat.reduceSub, Nat.reduceMul, Nat.reduceLT, Nat.reduceLeDiff, Nat.reduceEqDiff, Int.reduceAdd, Int.reduceSub, Int.reduceMul, Int.reduceLT, Int.reduceLE, Int.reduceTMod, Int.reduceTDiv, Int.reduceToNat, Int.reduceEq, Int.reduceNe, Int.reduceNeg, ne_eq, not_false_eq_true, not_true_eq_false, InR, Bool.true_eq_false, Bool.false_eq_true, reduceDIte, Nat.zero_add, Nat.add_zero, Int.cast_ofNat_Int, eq_self, hget_0, hget_k, hget_z, hget_s, hset_0, hset_k, htake_0, lt_own0, lt_ownk, hasAt_nil, hasAt_arr, hasAt_st, hasSh_l, hasSh_aa, hasSh_sa, hasShs_n, hasShs_c, setAll, AV.isCell, Shape.size_leaf, Shape.size_arr, Shape.size_st, Shape.sizes_cons, Shape.sizes_nil, List.length_append, List.append_assoc, List.length_set, stP, ldP, getP, setP, psh, partsOf, slen, rd, dem, demK, mapO, AV.bnds, AV.bnd, bne_self_eq_false, AV.plain2, AV.plain, List.all_cons, List.all_nil, List.take_length, List.drop_zero, List.drop_succ_cons, Nat.mul_one, List.getElem?_nil, List.forall_mem_cons, List.not_mem_nil, implies_true, Bool.and_true, Bool.true_and, Bool.and_false, Bool.false_and, and_self, and_false, false_and, h1]
    refine ⟨by decide, f25 ?_⟩
    by_cases h2 : good l
    · rw [if_neg (by rintro (h | h) <;> contradiction)] at h
      simp (maxSteps := 2000000) only [↓vS_skip, ↓vS_reg, ↓vS_draw, ↓vS_seq, ↓vS_cond, ↓vS_block, ↓vS_exit, ↓vS_ret, ↓vI_nil, ↓vI_go, ↓vI_gd, ↓stepI_q, ↓stepI_e, ↓stepI_c, ↓stepI_v, ↓vD_nil, ↓vD_go, ↓vD_gd, ↓stepW_q, ↓stepW_e, ↓stepW_c, ↓stepW_v, ↓Kw_app, ↓KwD_app, ↓Kc_app, ↓Kp_app, ↓Kr_app, ↓Ks_n, ↓Ks_r, ↓Ks_x, ↓Kb_n, ↓Kb_r, ↓Kb_x, ↓Ku_n, ↓Ku_r, ↓Ku_x, ↓Kl_n, ↓Kl_r, ↓Kl_x, ↓Kend_n, ↓Kend_r, ↓Two_t, ↓Two_f, ↓unr_succ, putE_none, putE_var, putE_new, get_t, get_c, qev, eev, rsGet, rvGet, oneOf, binAV, isSh, bvBin, bvOp, bvCmp, bvSh, intBin, intSh, cvAV, unAV, AV.cnt, AV.num, Ken2_s, Ken3_s, htake_1, htake_2, beq_self_eq_true, beq_true, beq_false, Bool.not_eq_true, maxLen, Nat.reducePow, Nat.reduceMul, List.map_cons, List.map_nil, List.getD_cons_zero, List.getD_cons_succ, List.set_cons_zero, List.set_cons_succ, List.cons_append, List.nil_append, List.append_nil, List.take_succ_cons, List.take_zero, List.take_nil, List.length_cons, List.length_nil, List.replicate_succ, List.replicate_zero, Option.map_some, Option.map_none, List.getElem?_cons_zero, List.getElem?_cons_succ, true_and, and_true, if_true, if_false, ite_true, ite_false, reduceIte, reduceCtorEq, false_or, or_true, true_or, or_false, Option.some.injEq, Prod.mk.injEq, exists_eq_left', exists_eq_left, exists_eq_right, exists_and_left, exists_and_right, exists_const, and_assoc, decide_true, decide_false, Bool.false_eq_true, forall_const, Bool.not_true, Bool.not_false, false_implies, true_implies, Nat.reduceAdd, Nat.reduceSub, Nat.reduceMul, Nat.reduceLT, Nat.reduceLeDiff, Nat.reduceEqDiff, Int.reduceAdd, Int.reduceSub, Int.reduceMul, Int.reduceLT, Int.reduceLE, Int.reduceTMod, Int.reduceTDiv, Int.reduceToNat, Int.reduceEq, Int.reduceNe, Int.reduceNeg, ne_eq, not_false_eq_true, not_true_eq_false, InR, Bool.true_eq_false, Bool.false_eq_true, reduceDIte, Nat.zero_add, Nat.add_zero, Int.cast_ofNat_Int, eq_self, hget_0, hget_k, hget_z, hget_s, hset_0, hset_k, htake_0, lt_own0, lt_ownk, hasAt_nil, hasAt_arr, hasAt_st, hasSh_l, hasSh_aa, hasSh_sa, hasShs_n, hasShs_c, setAll, AV.isCell, Shape.size_leaf, Shape.size_arr, Shape.size_st, Shape.sizes_cons, Shape.sizes_nil, List.length_append, List.append_assoc, List.length_set, stP, ldP, getP, setP, psh, partsOf, slen, rd, dem, demK, mapO, AV.bnds, AV.bnd, bne_self_eq_false, AV.plain2, AV.plain, List.all_cons, List.all_nil, List.take_length, List.drop_zero, List.drop_succ_cons, Nat.mul_one, List.getElem?_nil, List.forall_mem_cons, List.not_mem_nil, implies_true, Bool.and_true, Bool.true_and, Bool.and_false, Bool.false_and, and_self, and_false, false_and, h2]
      have hl : 1 ≤ l ∧ l ≤ 64 := h2
      have hodd : a.toNat % 2 = 1 := by
        have : ¬ a.toNat % 2 = 0 := fun h => h1 ((mod_iff a).2 h)
        omega
      refine wp_inv (I19 l a H) 64 ⟨0, 0, 0, _, _, _, _, _, rfl, rfl, by omega, by simp [InvI, Nat.mod_one]⟩ ?_
      rintro k st ⟨i, out, sum, u1, u2, u3, u4, u5, rfl, rfl, hi, inv⟩
      by_cases hil : (i : Int) < l
      · have he : (BitVec.ofInt 64 (i : Int)).toNat = i := ofInt_nat (by omega)
        by_cases hz : i = 0
        · have hz' : ((i : Int) = 0) = True := by simp; omega
          by_cases hbit : sum >>> i % 2 = 1
          · simp (maxSteps := 2000000) only [↓vS_skip, ↓vS_reg, ↓vS_draw, ↓vS_seq, ↓vS_cond, ↓vS_block, ↓vS_exit, ↓vS_ret, ↓vI_nil, ↓vI_go, ↓vI_gd, ↓stepI_q, ↓stepI_e, ↓stepI_c, ↓stepI_v, ↓vD_nil, ↓vD_go, ↓vD_gd, ↓stepW_q, ↓stepW_e, ↓stepW_c, ↓stepW_v, ↓Kw_app, ↓KwD_app, ↓Kc_app, ↓Kp_app, ↓Kr_app, ↓Ks_n, ↓Ks_r, ↓Ks_x, ↓Kb_n, ↓Kb_r, ↓Kb_x, ↓Ku_n, ↓Ku_r, ↓Ku_x, ↓Kl_n, ↓Kl_r, ↓Kl_x, ↓Kend_n, ↓Kend_r, ↓Two_t, ↓Two_f, ↓unr_succ, putE_none, putE_var, putE_new, get_t, get_c, qev, eev, rsGet, rvGet, oneOf, binAV, isSh, bvBin, bvOp, bvCmp, bvSh, intBin, intSh, cvAV, unAV, AV.cnt, AV.num, Ken2_s, Ken3_s, htake_1, htake_2, beq_self_eq_true, beq_true, beq_false, Bool.not_eq_true, maxLen, Nat.reducePow, Nat.reduceMul, List.map_cons, List.map_nil, List.getD_cons_zero, List.getD_cons_succ, List.set_cons_zero, List.set_cons_succ, List.cons_append, List.nil_append, List.append_nil, List.take_succ_cons, List.take_zero, List.take_nil, List.length_cons, List.length_nil, List.replicate_succ, List.replicate_zero, Option.map_some, Option.map_none, List.getElem?_cons_zero, List.getElem?_cons_succ, true_and, and_true, if_true, if_false, ite_true, ite_false, reduceIte, reduceCtorEq, false_or, or_true, true_or, or_false, Option.some.injEq, Prod.mk.injEq, exists_eq_left', exists_eq_left, exists_eq_right, exists_and_left, exists_and_right, exists_const, and_assoc, decide_true, decide_false, Bool.false_eq_true, forall_const, Bool.not_true, Bool.not_false, false_implies, true_implies, Nat.reduceAdd, Nat.reduceSub, Nat.reduceMul, Nat.reduceLT, Nat.reduceLeDiff, Nat.reduceEqDiff, Int.reduceAdd, Int.reduceSub, Int.reduceMul, Int.reduceLT, Int.reduceLE, Int.reduceTMod, Int.reduceTDiv, Int.reduceToNat, Int.reduceEq, Int.reduceNe, Int.reduceNeg, ne_eq, not_false_eq_true, not_true_eq_false, InR, Bool.true_eq_false, Bool.false_eq_true, reduceDIte, Nat.zero_add, Nat.add_zero, Int.cast_ofNat_Int, eq_self, hget_0, hget_k, hget_z, hget_s, hset_0, hset_k, htake_0, lt_own0, lt_ownk, hasAt_nil, hasAt_arr, hasAt_st, hasSh_l, hasSh_aa, hasSh_sa, hasShs_n, hasShs_c, setAll, AV.isCell, Shape.size_leaf, Shape.size_arr, Shape.size_st, Shape.sizes_cons, Shape.sizes_nil, List.length_append, List.append_assoc, List.length_set, stP, ldP, getP, setP, psh, partsOf, slen, rd, dem, demK, mapO, AV.bnds, AV.bnd, bne_self_eq_false, AV.plain2, AV.plain, List.all_cons, List.all_nil, List.take_length, List.drop_zero, List.drop_succ_cons, Nat.mul_one, List.getElem?_nil, List.forall_mem_cons, List.not_mem_nil, implies_true, Bool.and_true, Bool.true_and, Bool.and_false, Bool.false_and, and_self, and_false, false_and, hil, he, hz', hbit]
            refine ⟨by decide, by omega, by omega, 64 - (i + 1), by omega, i + 1, _, _, _, _, _, _, _, rfl, rfl, by omega, inv.stay ?_⟩
            rw [← bit_toNat, hbit]; simp [hz]
          · simp (maxSteps := 2000000) only [↓vS_skip, ↓vS_reg, ↓vS_draw, ↓vS_seq, ↓vS_cond, ↓vS_block, ↓vS_exit, ↓vS_ret, ↓vI_nil, ↓vI_go, ↓vI_gd, ↓stepI_q, ↓stepI_e, ↓stepI_c, ↓stepI_v, ↓vD_nil, ↓vD_go, ↓vD_gd, ↓stepW_q, ↓stepW_e, ↓stepW_c, ↓stepW_v, ↓Kw_app, ↓KwD_app, ↓Kc_app, ↓Kp_app, ↓Kr_app, ↓Ks_n, ↓Ks_r, ↓Ks_x, ↓Kb_n, ↓Kb_r, ↓Kb_x, ↓Ku_n, ↓Ku_r, ↓Ku_x, ↓Kl_n, ↓Kl_r, ↓Kl_x, ↓Kend_n, ↓Kend_r, ↓Two_t, ↓Two_f, ↓unr_succ, putE_none, putE_var, putE_new, get_t, get_c, qev, eev, rsGet, rvGet, oneOf, binAV, isSh, bvBin, bvOp, bvCmp, bvSh, intBin, intSh, cvAV, unAV, AV.cnt, AV.num, Ken2_s, Ken3_s, htake_1, htake_2, beq_self_eq_true, beq_true, beq_false, Bool.not_eq_true, maxLen, Nat.reducePow, Nat.reduceMul, List.map_cons, List.map_nil, List.getD_cons_zero, List.getD_cons_succ, List.set_cons_zero, List.set_cons_succ, List.cons_append, List.nil_append, List.append_nil, List.take_succ_cons, List.take_zero, List.take_nil, List.length_cons, List.length_nil, List.replicate_succ, List.replicate_zero, Option.map_some, Option.map_none, List.getElem?_cons_zero, List.getElem?_cons_succ, true_and, and_true, if_true, if_false, ite_true, ite_false, reduceIte, reduceCtorEq, false_or, or_true, true_or, or_false, Option.some.injEq, Prod.mk.injEq, exists_eq_left', exists_eq_left, exists_eq_right, exists_and_left, exists_and_right, exists_const, and_assoc, decide_true, decide_false, Bool.false_eq_true, forall_const, Bool.not_true, Bool.not_false, false_implies, true_implies, Nat.reduceAdd, Nat.reduceSub, Nat.reduceMul, Nat.reduceLT, Nat.reduceLeDiff, Nat.reduceEqDiff, Int.reduceAdd, Int.reduceSub, Int.reduceMul, Int.reduceLT, Int.reduceLE, Int.reduceTMod, Int.reduceTDiv, Int.reduceToNat, Int.reduceEq, Int.reduceNe, Int.reduceNeg, ne_eq, not_false_eq_true, not_true_eq_false, InR, Bool.true_eq_false, Bool.false_eq_true, reduceDIte, Nat.zero_add, Nat.add_zero, Int.cast_ofNat_Int, eq_self, hget_0, hget_k, hget_z, hget_s, hset_0, hset_k, htake_0, lt_own0, lt_ownk, hasAt_nil, hasAt_arr, hasAt_st, hasSh_l, hasSh_aa, hasSh_sa, hasShs_n, hasShs_c, setAll, AV.isCell, Shape.size_leaf, Shape.size_arr, Shape.size_st, Shape.sizes_cons, Shape.sizes_nil, List.length_append, List.append_assoc, List.length_set, stP, ldP, getP, setP, psh, partsOf, slen, rd, dem, demK, mapO, AV.bnds, AV.bnd, bne_self_eq_false, AV.plain2, AV.plain, List.all_cons, List.all_nil, List.take_length, List.drop_zero, List.drop_succ_cons, Nat.mul_one, List.getElem?_nil, List.forall_mem_cons, List.not_mem_nil, implies_true, Bool.and_true, Bool.true_and, Bool.and_false, Bool.false_and, and_self, and_false, false_and, hil, he, hz', hbit]
            refine ⟨by decide, f33 ?_⟩
            rw [rounds_64, cut_64]
            simp (maxSteps := 2000000) only [↓vS_skip, ↓vS_reg, ↓vS_draw, ↓vS_seq, ↓vS_cond, ↓vS_block, ↓vS_exit, ↓vS_ret, ↓vI_nil, ↓vI_go, ↓vI_gd, ↓stepI_q, ↓stepI_e, ↓stepI_c, ↓stepI_v, ↓vD_nil, ↓vD_go, ↓vD_gd, ↓stepW_q, ↓stepW_e, ↓stepW_c, ↓stepW_v, ↓Kw_app, ↓KwD_app, ↓Kc_app, ↓Kp_app, ↓Kr_app, ↓Ks_n, ↓Ks_r, ↓Ks_x, ↓Kb_n, ↓Kb_r, ↓Kb_x, ↓Ku_n, ↓Ku_r, ↓Ku_x, ↓Kl_n, ↓Kl_r, ↓Kl_x, ↓Kend_n, ↓Kend_r, ↓Two_t, ↓Two_f, ↓unr_succ, putE_none, putE_var, putE_new, get_t, get_c, qev, eev, rsGet, rvGet, oneOf, binAV, isSh, bvBin, bvOp, bvCmp, bvSh, intBin, intSh, cvAV, unAV, AV.cnt, AV.num, Ken2_s, Ken3_s, htake_1, htake_2, beq_self_eq_true, beq_true, beq_false, Bool.not_eq_true, maxLen, Nat.reducePow, Nat.reduceMul, List.map_cons, List.map_nil, List.getD_cons_zero, List.getD_cons_succ, List.set_cons_zero, List.set_cons_succ, List.cons_append, List.nil_append, List.append_nil, List.take_succ_cons, List.take_zero, List.take_nil, List.length_cons, List.length_nil, List.replicate_succ, List.replicate_zero, Option.map_some, Option.map_none, List.getElem?_cons_zero, List.getElem?_cons_succ, true_and, and_true, if_true, if_false, ite_true, ite_false, reduceIte, reduceCtorEq, false_or, or_true, true_or, or_false, Option.some.injEq, Prod.mk.injEq, exists_eq_left', exists_eq_left, exists_eq_right, exists_and_left, exists_and_right, exists_const, and_assoc, decide_true, decide_false, Bool.false_eq_true, forall_const, Bool.not_true, Bool.not_false, false_implies, true_implies, Nat.reduceAdd, Nat.reduceSub, Nat.reduceMul, Nat.reduceLT, Nat.reduceLeDiff, Nat.reduceEqDiff, Int.reduceAdd, Int.reduceSub, Int.reduceMul, Int.reduceLT, Int.reduceLE, Int.reduceTMod, Int.reduceTDiv, Int.reduceToNat, Int.reduceEq, Int.reduceNe, Int.reduceNeg, ne_eq, not_false_eq_true, not_true_eq_false, InR, Bool.true_eq_false, Bool.false_eq_true, reduceDIte, Nat.zero_add, Nat.add_zero, Int.cast_ofNat_Int, eq_self, hget_0, hget_k, hget_z, hget_s, hset_0, hset_k, htake_0, lt_own0, lt_ownk, hasAt_nil, hasAt_arr, hasAt_st, hasSh_l, hasSh_aa, hasSh_sa, hasShs_n, hasShs_c, setAll, AV.isCell, Shape.size_leaf, Shape.size_arr, Shape.size_st, Shape.sizes_cons, Shape.sizes_nil, List.length_append, List.append_assoc, List.length_set, stP, ldP, getP, setP, psh, partsOf, slen, rd, dem, demK, mapO, AV.bnds, AV.bnd, bne_self_eq_false, AV.plain2, AV.plain, List.all_cons, List.all_nil, List.take_length, List.drop_zero, List.drop_succ_cons, Nat.mul_one, List.getElem?_nil, List.forall_mem_cons, List.not_mem_nil, implies_true, Bool.and_true, Bool.true_and, Bool.and_false, Bool.false_and, and_self, and_false, false_and]
            refine ⟨by omega, by omega, 64 - (i + 1), by omega, i + 1, _, _, _, _, _, _, _, rfl, rfl, by omega, inv.flip (by omega) hodd ?_⟩
            intro hc
            apply hbit
            apply BitVec.eq_of_toNat_eq
            rw [bit_toNat, hc]; simp [hz]
        · have hz' : ((i : Int) = 0) = False := by simp; omega
          by_cases hbit : sum >>> i % 2 = 0
          · simp (maxSteps := 2000000) only [↓vS_skip, ↓vS_reg, ↓vS_draw, ↓vS_seq, ↓vS_cond, ↓vS_block, ↓vS_exit, ↓vS_ret, ↓vI_nil, ↓vI_go, ↓vI_gd, ↓stepI_q, ↓stepI_e, ↓stepI_c, ↓stepI_v, ↓vD_nil, ↓vD_go, ↓vD_gd, ↓stepW_q, ↓stepW_e, ↓stepW_c, ↓stepW_v, ↓Kw_app, ↓KwD_app, ↓Kc_app, ↓Kp_app, ↓Kr_app, ↓Ks_n, ↓Ks_r, ↓Ks_x, ↓Kb_n, ↓Kb_r, ↓Kb_x, ↓Ku_n, ↓Ku_r, ↓Ku_x, ↓Kl_n, ↓Kl_r, ↓Kl_x, ↓Kend_n, ↓Kend_r, ↓Two_t, ↓Two_f, ↓unr_succ, putE_none, putE_var, putE_new, get_t, get_c, qev, eev, rsGet, rvGet, oneOf, binAV, isSh, bvBin, bvOp, bvCmp, bvSh, intBin, intSh, cvAV, unAV, AV.cnt, AV.num, Ken2_s, Ken3_s, htake_1, htake_2, beq_self_eq_true, beq_true, beq_false, Bool.not_eq_true, maxLen, Nat.reducePow, Nat.reduceMul, List.map_cons, List.map_nil, List.getD_cons_zero, List.getD_cons_succ, List.set_cons_zero, List.set_cons_succ, List.cons_append, List.nil_append, List.append_nil, List.take_succ_cons, List.take_zero, List.take_nil, List.length_cons, List.length_nil, List.replicate_succ, List.replicate_zero, Option.map_some, Option.map_none, List.getElem?_cons_zero, List.getElem?_cons_succ, true_and, and_true, if_true, if_false, ite_true, ite_false, reduceIte, reduceCtorEq, false_or, or_true, true_or, or_false, Option.some.injEq, Prod.mk.injEq, exists_eq_left', exists_eq_left, exists_eq_right, exists_and_left, exists_and_right, exists_const, and_assoc, decide_true, decide_false, Bool.false_eq_true, forall_const, Bool.not_true, Bool.not_false, false_implies, true_implies, Nat.reduceAdd, Nat.reduceSub, Nat.reduceMul, Nat.reduceLT, Nat.reduceLeDiff, Nat.reduceEqDiff, Int.reduceAdd, Int.reduceSub, Int.reduceMul, Int.reduceLT, Int.reduceLE, Int.reduceTMod, Int.reduceTDiv, Int.reduceToNat, Int.reduceEq, Int.reduceNe, Int.reduceNeg, ne_eq, not_false_eq_true, not_true_eq_false, InR, Bool.true_eq_false, Bool.false_eq_true, reduceDIte, Nat.zero_add, Nat.add_zero, Int.cast_ofNat_Int, eq_self, hget_0, hget_k, hget_z, hget_s, hset_0, hset_k, htake_0, lt_own0, lt_ownk, hasAt_nil, hasAt_arr, hasAt_st, hasSh_l, hasSh_aa, hasSh_sa, hasShs_n, hasShs_c, setAll, AV.isCell, Shape.size_leaf, Shape.size_arr, Shape.size_st, Shape.sizes_cons, Shape.sizes_nil, List.length_append, List.append_assoc, List.length_set, stP, ldP, getP, setP, psh, partsOf, slen, rd, dem, demK, mapO, AV.bnds, AV.bnd, bne_self_eq_false, AV.plain2, AV.plain, List.all_cons, List.all_nil, List.take_length, List.drop_zero, List.drop_succ_cons, Nat.mul_one, List.getElem?_nil, List.forall_mem_cons, List.not_mem_nil, implies_true, Bool.and_true, Bool.true_and, Bool.and_false, Bool.false_and, and_self, and_false, false_and, hil, he, hz', hbit]
            refine ⟨by decide, by omega, by omega, 64 - (i + 1), by omega, i + 1, _, _, _, _, _, _, _, rfl, rfl, by omega, inv.stay ?_⟩
            rw [← bit_toNat, hbit]; simp [hz]
          · simp (maxSteps := 2000000) only [↓vS_skip, ↓vS_reg, ↓vS_draw, ↓vS_seq, ↓vS_cond, ↓vS_block, ↓vS_exit, ↓vS_ret, ↓vI_nil, ↓vI_go, ↓vI_gd, ↓stepI_q, ↓stepI_e, ↓stepI_c, ↓stepI_v, ↓vD_nil, ↓vD_go, ↓vD_gd, ↓stepW_q, ↓stepW_e, ↓stepW_c, ↓stepW_v, ↓Kw_app, ↓KwD_app, ↓Kc_app, ↓Kp_app, ↓Kr_app, ↓Ks_n, ↓Ks_r, ↓Ks_x, ↓Kb_n, ↓Kb_r, ↓Kb_x, ↓Ku_n, ↓Ku_r, ↓Ku_x, ↓Kl_n, ↓Kl_r, ↓Kl_x, ↓Kend_n, ↓Kend_r, ↓Two_t, ↓Two_f, ↓unr_succ, putE_none, putE_var, putE_new, get_t, get_c, qev, eev, rsGet, rvGet, oneOf, binAV, isSh, bvBin, bvOp, bvCmp, bvSh, intBin, intSh, cvAV, unAV, AV.cnt, AV.num, Ken2_s, Ken3_s, htake_1, htake_2, beq_self_eq_true, beq_true, beq_false, Bool.not_eq_true, maxLen, Nat.reducePow, Nat.reduceMul, List.map_cons, List.map_nil, List.getD_cons_zero, List.getD_cons_succ, List.set_cons_zero, List.set_cons_succ, List.cons_append, List.nil_append, List.append_nil, List.take_succ_cons, List.take_zero, List.take_nil, List.length_cons, List.length_nil, List.replicate_succ, List.replicate_zero, Option.map_some, Option.map_none, List.getElem?_cons_zero, List.getElem?_cons_succ, true_and, and_true, if_true, if_false, ite_true, ite_false, reduceIte, reduceCtorEq, false_or, or_true, true_or, or_false, Option.some.injEq, Prod.mk.injEq, exists_eq_left', exists_eq_left, exists_eq_right, exists_and_left, exists_and_right, exists_const, and_assoc, decide_true, decide_false, Bool.false_eq_true, forall_const, Bool.not_true, Bool.not_false, false_implies, true_implies, Nat.reduceAdd, Nat.reduceSub, Nat.reduceMul, Nat.reduceLT, Nat.reduceLeDiff, Nat.reduceEqDiff, Int.reduceAdd, Int.reduceSub, Int.reduceMul, Int.reduceLT, Int.reduceLE, Int.reduceTMod, Int.reduceTDiv, Int.reduceToNat, Int.reduceEq, Int.reduceNe, Int.reduceNeg, ne_eq, not_false_eq_true, not_true_eq_false, InR, Bool.true_eq_false, Bool.false_eq_true, reduceDIte, Nat.zero_add, Nat.add_zero, Int.cast_ofNat_Int, eq_self, hget_0, hget_k, hget_z, hget_s, hset_0, hset_k, htake_0, lt_own0, lt_ownk, hasAt_nil, hasAt_arr, hasAt_st, hasSh_l, hasSh_aa, hasSh_sa, hasShs_n, hasShs_c, setAll, AV.isCell, Shape.size_leaf, Shape.size_arr, Shape.size_st, Shape.sizes_cons, Shape.sizes_nil, List.length_append, List.append_assoc, List.length_set, stP, ldP, getP, setP, psh, partsOf, slen, rd, dem, demK, mapO, AV.bnds, AV.bnd, bne_self_eq_false, AV.plain2, AV.plain, List.all_cons, List.all_nil, List.take_length, List.drop_zero, List.drop_succ_cons, Nat.mul_one, List.getElem?_nil, List.forall_mem_cons, List.not_mem_nil, implies_true, Bool.and_true, Bool.true_and, Bool.and_false, Bool.false_and, and_self, and_false, false_and, hil, he, hz', hbit]
            refine ⟨by decide, f33 ?_⟩
            rw [rounds_64, cut_64]
            simp (maxSteps := 2000000) only [↓vS_skip, ↓vS_reg, ↓vS_draw, ↓vS_seq, ↓vS_cond, ↓vS_block, ↓vS_exit, ↓vS_ret, ↓vI_nil, ↓vI_go, ↓vI_gd, ↓stepI_q, ↓stepI_e, ↓stepI_c, ↓stepI_v, ↓vD_nil, ↓vD_go, ↓vD_gd, ↓stepW_q, ↓stepW_e, ↓stepW_c, ↓stepW_v, ↓Kw_app, ↓KwD_app, ↓Kc_app, ↓Kp_app, ↓Kr_app, ↓Ks_n, ↓Ks_r, ↓Ks_x, ↓Kb_n, ↓Kb_r, ↓Kb_x, ↓Ku_n, ↓Ku_r, ↓Ku_x, ↓Kl_n, ↓Kl_r, ↓Kl_x, ↓Kend_n, ↓Kend_r, ↓Two_t, ↓Two_f, ↓unr_succ, putE_none, putE_var, putE_new, get_t, get_c, qev, eev, rsGet, rvGet, oneOf, binAV, isSh, bvBin, bvOp, bvCmp, bvSh, intBin, intSh, cvAV, unAV, AV.cnt, AV.num, Ken2_s, Ken3_s, htake_1, htake_2, beq_self_eq_true, beq_true, beq_false, Bool.not_eq_true, maxLen, Nat.reducePow, Nat.reduceMul, List.map_cons, List.map_nil, List.getD_cons_zero, List.getD_cons_succ, List.set_cons_zero, List.set_cons_succ, List.cons_append, List.nil_append, List.append_nil, List.take_succ_cons, List.take_zero, List.take_nil, List.length_cons, List.length_nil, List.replicate_succ, List.replicate_zero, Option.map_some, Option.map_none, List.getElem?_cons_zero, List.getElem?_cons_succ, true_and, and_true, if_true, if_false, ite_true, ite_false, reduceIte, reduceCtorEq, false_or, or_true, true_or, or_false, Option.some.injEq, Prod.mk.injEq, exists_eq_left', exists_eq_left, exists_eq_right, exists_and_left, exists_and_right, exists_const, and_assoc, decide_true, decide_false, Bool.false_eq_true, forall_const, Bool.not_true, Bool.not_false, false_implies, true_implies, Nat.reduceAdd, Nat.reduceSub, Nat.reduceMul, Nat.reduceLT, Nat.reduceLeDiff, Nat.reduceEqDiff, Int.reduceAdd, Int.reduceSub, Int.reduceMul, Int.reduceLT, Int.reduceLE, Int.reduceTMod, Int.reduceTDiv, Int.reduceToNat, Int.reduceEq, Int.reduceNe, Int.reduceNeg, ne_eq, not_false_eq_true, not_true_eq_false, InR, Bool.true_eq_false, Bool.false_eq_true, reduceDIte, Nat.zero_add, Nat.add_zero, Int.cast_ofNat_Int, eq_self, hget_0, hget_k, hget_z, hget_s, hset_0, hset_k, htake_0, lt_own0, lt_ownk, hasAt_nil, hasAt_arr, hasAt_st, hasSh_l, hasSh_aa, hasSh_sa, hasShs_n, hasShs_c, setAll, AV.isCell, Shape.size_leaf, Shape.size_arr, Shape.size_st, Shape.sizes_cons, Shape.sizes_nil, List.length_append, List.append_assoc, List.length_set, stP, ldP, getP, setP, psh, partsOf, slen, rd, dem, demK, mapO, AV.bnds, AV.bnd, bne_self_eq_false, AV.plain2, AV.plain, List.all_cons, List.all_nil, List.take_length, List.drop_zero, List.drop_succ_cons, Nat.mul_one, List.getElem?_nil, List.forall_mem_cons, List.not_mem_nil, implies_true, Bool.and_true, Bool.true_and, Bool.and_false, Bool.false_and, and_self, and_false, false_and]
            refine ⟨by omega, by omega, 64 - (i + 1), by omega, i + 1, _, _, _, _, _, _, _, rfl, rfl, by omega, inv.flip (by omega) hodd ?_⟩
            intro hc
            apply hbit
            apply BitVec.eq_of_toNat_eq
            rw [bit_toNat, hc]; simp [hz]
      · simp (maxSteps := 2000000) only [↓vS_skip, ↓vS_reg, ↓vS_draw, ↓vS_seq, ↓vS_cond, ↓vS_block, ↓vS_exit, ↓vS_ret, ↓vI_nil, ↓vI_go, ↓vI_gd, ↓stepI_q, ↓stepI_e, ↓stepI_c, ↓stepI_v, ↓vD_nil, ↓vD_go, ↓vD_gd, ↓stepW_q, ↓stepW_e, ↓stepW_c, ↓stepW_v, ↓Kw_app, ↓KwD_app, ↓Kc_app, ↓Kp_app, ↓Kr_app, ↓Ks_n, ↓Ks_r, ↓Ks_x, ↓Kb_n, ↓Kb_r, ↓Kb_x, ↓Ku_n, ↓Ku_r, ↓Ku_x, ↓Kl_n, ↓Kl_r, ↓Kl_x, ↓Kend_n, ↓Kend_r, ↓Two_t, ↓Two_f, ↓unr_succ, putE_none, putE_var, putE_new, get_t, get_c, qev, eev, rsGet, rvGet, oneOf, binAV, isSh, bvBin, bvOp, bvCmp, bvSh, intBin, intSh, cvAV, unAV, AV.cnt, AV.num, Ken2_s, Ken3_s, htake_1, htake_2, beq_self_eq_true, beq_true, beq_false, Bool.not_eq_true, maxLen, Nat.reducePow, Nat.reduceMul, List.map_cons, List.map_nil, List.getD_cons_zero, List.getD_cons_succ, List.set_cons_zero, List.set_cons_succ, List.cons_append, List.nil_append, List.append_nil, List.take_succ_cons, List.take_zero, List.take_nil, List.length_cons, List.length_nil, List.replicate_succ, List.replicate_zero, Option.map_some, Option.map_none, List.getElem?_cons_zero, List.getElem?_cons_succ, true_and, and_true, if_true, if_false, ite_true, ite_false, reduceIte, reduceCtorEq, false_or, or_true, true_or, or_false, Option.some.injEq, Prod.mk.injEq, exists_eq_left', exists_eq_left, exists_eq_right, exists_and_left, exists_and_right, exists_const, and_assoc, decide_true, decide_false, Bool.false_eq_true, forall_const, Bool.not_true, Bool.not_false, false_implies, true_implies, Nat.reduceAdd, Nat.reduceSub, Nat.reduceMul, Nat.reduceLT, Nat.reduceLeDiff, Nat.reduceEqDiff, Int.reduceAdd, Int.reduceSub, Int.reduceMul, Int.reduceLT, Int.reduceLE, Int.reduceTMod, Int.reduceTDiv, Int.reduceToNat, Int.reduceEq, Int.reduceNe, Int.reduceNeg, ne_eq, not_false_eq_true, not_true_eq_false, InR, Bool.true_eq_false, Bool.false_eq_true, reduceDIte, Nat.zero_add, Nat.add_zero, Int.cast_ofNat_Int, eq_self, hget_0, hget_k, hget_z, hget_s, hset_0, hset_k, htake_0, lt_own0, lt_ownk, hasAt_nil, hasAt_arr, hasAt_st, hasSh_l, hasSh_aa, hasSh_sa, hasShs_n, hasShs_c, setAll, AV.isCell, Shape.size_leaf, Shape.size_arr, Shape.size_st, Shape.sizes_cons, Shape.sizes_nil, List.length_append, List.append_assoc, List.length_set, stP, ldP, getP, setP, psh, partsOf, slen, rd, dem, demK, mapO, AV.bnds, AV.bnd, bne_self_eq_false, AV.plain2, AV.plain, List.all_cons, List.all_nil, List.take_length, List.drop_zero, List.drop_succ_cons, Nat.mul_one, List.getElem?_nil, List.forall_mem_cons, List.not_mem_nil, implies_true, Bool.and_true, Bool.true_and, Bool.and_false, Bool.false_and, and_self, and_false, false_and, hil]
        have hie : (i : Int) = l := by omega
        have hin : l.toNat = i := by omega
        rw [hin, ← inv_uniq (by omega) (by omega) hodd inv.2.1 (by rw [← inv.1]; exact inv.2.2)] at h
        exact h
    · rw [if_pos (.inr h2)] at h
      simp (maxSteps := 2000000) only [↓vS_skip, ↓vS_reg, ↓vS_draw, ↓vS_seq, ↓vS_cond, ↓vS_block, ↓vS_exit, ↓vS_ret, ↓vI_nil, ↓vI_go, ↓vI_gd, ↓stepI_q, ↓stepI_e, ↓stepI_c, ↓stepI_v, ↓vD_nil, ↓vD_go, ↓vD_gd, ↓stepW_q, ↓stepW_e, ↓stepW_c, ↓stepW_v, ↓Kw_app, ↓KwD_app, ↓Kc_app, ↓Kp_app, ↓Kr_app, ↓Ks_n, ↓Ks_r, ↓Ks_x, ↓Kb_n, ↓Kb_r, ↓Kb_x, ↓Ku_n, ↓Ku_r, ↓Ku_x, ↓Kl_n, ↓Kl_r, ↓Kl_x, ↓Kend_n, ↓Kend_r, ↓Two_t, ↓Two_f, ↓unr_succ, putE_none, putE_var, putE_new, get_t, get_c, qev, eev, rsGet, rvGet, oneOf, binAV, isSh, bvBin, bvOp, bvCmp, bvSh, intBin, intSh, cvAV, unAV, AV.cnt, AV.num, Ken2_s, Ken3_s, htake_1, htake_2, beq_self_eq_true, beq_true, beq_false, Bool.not_eq_true, maxLen, Nat.reducePow, Nat.reduceMul, List.map_cons, List.map_nil, List.getD_cons_zero, List.getD_cons_succ, List.set_cons_zero, List.set_cons_succ, List.cons_append, List.nil_append, List.append_nil, List.take_succ_cons, List.take_zero, List.take_nil, List.length_cons, List.length_nil, List.replicate_succ, List.replicate_zero, Option.map_some, Option.map_none, List.getElem?_cons_zero, List.getElem?_cons_succ, true_and, and_true, if_true, if_false, ite_true, ite_false, reduceIte, reduceCtorEq, false_or, or_true, true_or, or_false, Option.some.injEq, Prod.mk.injEq, exists_eq_left', exists_eq_left, exists_eq_right, exists_and_left, exists_and_right, exists_const, and_assoc, decide_true, decide_false, Bool.false_eq_true, forall_const, Bool.not_true, Bool.not_false, false_implies, true_implies, Nat.reduceAdd, Nat.reduceSub, Nat.reduceMul, Nat.reduceLT, Nat.reduceLeDiff, Nat.reduceEqDiff, Int.reduceAdd, Int.reduceSub, Int.reduceMul, Int.reduceLT, Int.reduceLE, Int.reduceTMod, Int.reduceTDiv, Int.reduceToNat, Int.reduceEq, Int.reduceNe, Int.reduceNeg, ne_eq, not_false_eq_true, not_true_eq_false, InR, Bool.true_eq_false, Bool.false_eq_true, reduceDIte, Nat.zero_add, Nat.add_zero, Int.cast_ofNat_Int, eq_self, hget_0, hget_k, hget_z, hget_s, hset_0, hset_k, htake_0, lt_own0, lt_ownk, hasAt_nil, hasAt_arr, hasAt_st, hasSh_l, hasSh_aa, hasSh_sa, hasShs_n, hasShs_c, setAll, AV.isCell, Shape.size_leaf, Shape.size_arr, Shape.size_st, Shape.sizes_cons, Shape.sizes_nil, List.length_append, List.append_assoc, List.length_set, stP, ldP, getP, setP, psh, partsOf, slen, rd, dem, demK, mapO, AV.bnds, AV.bnd, bne_self_eq_false, AV.plain2, AV.plain, List.all_cons, List.all_nil, List.take_length, List.drop_zero, List.drop_succ_cons, Nat.mul_one, List.getElem?_nil, List.forall_mem_cons, List.not_mem_nil, implies_true, Bool.and_true, Bool.true_and, Bool.and_false, Bool.false_and, and_self, and_false, false_and, h2]
      exact h

theorem f22 {K : AV → Heap → Prop} {H : Heap} (h : K (.bool true) H) : wpF P [] 22 [] H K := by
  refine wpF_go c22 rfl 2 ?_
  intro ha hb
  simp only [s22]
  simp (maxSteps := 2000000) only [↓vS_skip, ↓vS_reg, ↓vS_draw, ↓vS_seq, ↓vS_cond, ↓vS_block, ↓vS_exit, ↓vS_ret, ↓vI_nil, ↓vI_go, ↓vI_gd, ↓stepI_q, ↓stepI_e, ↓stepI_c, ↓stepI_v, ↓vD_nil, ↓vD_go, ↓vD_gd, ↓stepW_q, ↓stepW_e, ↓stepW_c, ↓stepW_v, ↓Kw_app, ↓KwD_app, ↓Kc_app, ↓Kp_app, ↓Kr_app, ↓Ks_n, ↓Ks_r, ↓Ks_x, ↓Kb_n, ↓Kb_r, ↓Kb_x, ↓Ku_n, ↓Ku_r, ↓Ku_x, ↓Kl_n, ↓Kl_r, ↓Kl_x, ↓Kend_n, ↓Kend_r, ↓Two_t, ↓Two_f, ↓unr_succ, putE_none, putE_var, putE_new, get_t, get_c, qev, eev, rsGet, rvGet, oneOf, binAV, isSh, bvBin, bvOp, bvCmp, bvSh, intBin, intSh, cvAV, unAV, AV.cnt, AV.num, Ken2_s, Ken3_s, htake_1, htake_2, beq_self_eq_true, beq_true, beq_false, Bool.not_eq_true, maxLen, Nat.reducePow, Nat.reduceMul, List.map_cons, List.map_nil, List.getD_cons_zero, List.getD_cons_succ, List.set_cons_zero, List.set_cons_succ, List.cons_append, List.nil_append, List.append_nil, List.take_succ_cons, List.take_zero, List.take_nil, List.length_cons, List.length_nil, List.replicate_succ, List.replicate_zero, Option.map_some, Option.map_none, List.getElem?_cons_zero, List.getElem?_cons_succ, true_and, and_true, if_true, if_false, ite_true, ite_false, reduceIte, reduceCtorEq, false_or, or_true, true_or, or_false, Option.some.injEq, Prod.mk.injEq, exists_eq_left', exists_eq_left, exists_eq_right, exists_and_left, exists_and_right, exists_const, and_assoc, decide_true, decide_false, Bool.false_eq_true, forall_const, Bool.not_true, Bool.not_false, false_implies, true_implies, Nat.reduceAdd, Nat.reduceSub, Nat.reduceMul, Nat.reduceLT, Nat.reduceLeDiff, Nat.reduceEqDiff, Int.reduceAdd, Int.reduceSub, Int.reduceMul, Int.reduceLT, Int.reduceLE, Int.reduceTMod, Int.reduceTDiv, Int.reduceToNat, Int.reduceEq, Int.reduceNe, Int.reduceNeg, ne_eq, not_false_eq_true, not_true_eq_false, InR, Bool.true_eq_false, Bool.false_eq_true, reduceDIte, Nat.zero_add, Nat.add_zero, Int.cast_ofNat_Int, eq_self, hget_0, hget_k, hget_z, hget_s, hset_0, hset_k, htake_0, lt_own0, lt_ownk, hasAt_nil, hasAt_arr, hasAt_st, hasSh_l, hasSh_aa, hasSh_sa, hasShs_n, hasShs_c, setAll, AV.isCell, Shape.size_leaf, Shape.size_arr, Shape.size_st, Shape.sizes_cons, Shape.sizes_nil, List.length_append, List.append_assoc, List.length_set, stP, ldP, getP, setP, psh, partsOf, slen, rd, dem, demK, mapO, AV.bnds, AV.bnd, bne_self_eq_false, AV.plain2, AV.plain, List.all_cons, List.all_nil, List.take_length, List.drop_zero, List.drop_succ_cons, Nat.mul_one, List.getElem?_nil, List.forall_mem_cons, List.not_mem_nil, implies_true, Bool.and_true, Bool.true_and, Bool.and_false, Bool.false_and, and_self, and_false, false_and]
  refine f18 ?_
  rw [if_neg (by decide +kernel), show newton 3 &&& maskV 8 = 171 by decide +kernel]
  simp (maxSteps := 2000000) only [↓vS_skip, ↓vS_reg, ↓vS_draw, ↓vS_seq, ↓vS_cond, ↓vS_block, ↓vS_exit, ↓vS_ret, ↓vI_nil, ↓vI_go, ↓vI_gd, ↓stepI_q, ↓stepI_e, ↓stepI_c, ↓stepI_v, ↓vD_nil, ↓vD_go, ↓vD_gd, ↓stepW_q, ↓stepW_e, ↓stepW_c, ↓stepW_v, ↓Kw_app, ↓KwD_app, ↓Kc_app, ↓Kp_app, ↓Kr_app, ↓Ks_n, ↓Ks_r, ↓Ks_x, ↓Kb_n, ↓Kb_r, ↓Kb_x, ↓Ku_n, ↓Ku_r, ↓Ku_x, ↓Kl_n, ↓Kl_r, ↓Kl_x, ↓Kend_n, ↓Kend_r, ↓Two_t, ↓Two_f, ↓unr_succ, putE_none, putE_var, putE_new, get_t, get_c, qev, eev, rsGet, rvGet, oneOf, binAV, isSh, bvBin, bvOp, bvCmp, bvSh, intBin, intSh, cvAV, unAV, AV.cnt, AV.num, Ken2_s, Ken3_s, htake_1, htake_2, beq_self_eq_true, beq_true, beq_false, Bool.not_eq_true, maxLen, Nat.reducePow, Nat.reduceMul, List.map_cons, List.map_nil, List.getD_cons_zero, List.getD_cons_succ, List.set_cons_zero, List.set_cons_succ, List.cons_append, List.nil_append, List.append_nil, List.take_succ_cons, List.take_zero, List.take_nil, List.length_cons, List.length_nil, List.replicate_succ, List.replicate_zero, Option.map_some, Option.map_none, List.getElem?_cons_zero, List.getElem?_cons_succ, true_and, and_true, if_true, if_false, ite_true, ite_false, reduceIte, reduceCtorEq, false_or, or_true, true_or, or_false, Option.some.injEq, Prod.mk.injEq, exists_eq_left', exists_eq_left, exists_eq_right, exists_and_left, exists_and_right, exists_const, and_assoc, decide_true, decide_false, Bool.false_eq_true, forall_const, Bool.not_true, Bool.not_false, false_implies, true_implies, Nat.reduceAdd, Nat.reduceSub, Nat.reduceMul, Nat.reduceLT, Nat.reduceLeDiff, Nat.reduceEqDiff, Int.reduceAdd, Int.reduceSub, Int.reduceMul, Int.reduceLT, Int.reduceLE, Int.reduceTMod, Int.reduceTDiv, Int.reduceToNat, Int.reduceEq, Int.reduceNe, Int.reduceNeg, ne_eq, not_false_eq_true, not_true_eq_false, InR, Bool.true_eq_false, Bool.false_eq_true, reduceDIte, Nat.zero_add, Nat.add_zero, Int.cast_ofNat_Int, eq_self, hget_0, hget_k, hget_z, hget_s, hset_0, hset_k, htake_0, lt_own0, lt_ownk, hasAt_nil, hasAt_arr, hasAt_st, hasSh_l, hasSh_aa, hasSh_sa, hasShs_n, hasShs_c, setAll, AV.isCell, Shape.size_leaf, Shape.size_arr, Shape.size_st, Shape.sizes_cons, Shape.sizes_nil, List.length_append, List.append_assoc, List.length_set, stP, ldP, getP, setP, psh, partsOf, slen, rd, dem, demK, mapO, AV.bnds, AV.bnd, bne_self_eq_false, AV.plain2, AV.plain, List.all_cons, List.all_nil, List.take_length, List.drop_zero, List.drop_succ_cons, Nat.mul_one, List.getElem?_nil, List.forall_mem_cons, List.not_mem_nil, implies_true, Bool.and_true, Bool.true_and, Bool.and_false, Bool.false_and, and_self, and_false, false_and]
  refine f26 ?_
  rw [show ((200 : BitVec 64) + 100) &&& maskV 8 = 44 by decide +kernel]
  simp (maxSteps := 2000000) only [↓vS_skip, ↓vS_reg, ↓vS_draw, ↓vS_seq, ↓vS_cond, ↓vS_block, ↓vS_exit, ↓vS_ret, ↓vI_nil, ↓vI_go, ↓vI_gd, ↓stepI_q, ↓stepI_e, ↓stepI_c, ↓stepI_v, ↓vD_nil, ↓vD_go, ↓vD_gd, ↓stepW_q, ↓stepW_e, ↓stepW_c, ↓stepW_v, ↓Kw_app, ↓KwD_app, ↓Kc_app, ↓Kp_app, ↓Kr_app, ↓Ks_n, ↓Ks_r, ↓Ks_x, ↓Kb_n, ↓Kb_r, ↓Kb_x, ↓Ku_n, ↓Ku_r, ↓Ku_x, ↓Kl_n, ↓Kl_r, ↓Kl_x, ↓Kend_n, ↓Kend_r, ↓Two_t, ↓Two_f, ↓unr_succ, putE_none, putE_var, putE_new, get_t, get_c, qev, eev, rsGet, rvGet, oneOf, binAV, isSh, bvBin, bvOp, bvCmp, bvSh, intBin, intSh, cvAV, unAV, AV.cnt, AV.num, Ken2_s, Ken3_s, htake_1, htake_2, beq_self_eq_true, beq_true, beq_false, Bool.not_eq_true, maxLen, Nat.reducePow, Nat.reduceMul, List.map_cons, List.map_nil, List.getD_cons_zero, List.getD_cons_succ, List.set_cons_zero, List.set_cons_succ, List.cons_append, List.nil_append, List.append_nil, List.take_succ_cons, List.take_zero, List.take_nil, List.length_cons, List.length_nil, List.replicate_succ, List.replicate_zero, Option.map_some, Option.map_none, List.getElem?_cons_zero, List.getElem?_cons_succ, true_and, and_true, if_true, if_false, ite_true, ite_false, reduceIte, reduceCtorEq, false_or, or_true, true_or, or_false, Option.some.injEq, Prod.mk.injEq, exists_eq_left', exists_eq_left, exists_eq_right, exists_and_left, exists_and_right, exists_const, and_assoc, decide_true, decide_false, Bool.false_eq_true, forall_const, Bool.not_true, Bool.not_false, false_implies, true_implies, Nat.reduceAdd, Nat.reduceSub, Nat.reduceMul, Nat.reduceLT, Nat.reduceLeDiff, Nat.reduceEqDiff, Int.reduceAdd, Int.reduceSub, Int.reduceMul, Int.reduceLT, Int.reduceLE, Int.reduceTMod, Int.reduceTDiv, Int.reduceToNat, Int.reduceEq, Int.reduceNe, Int.reduceNeg, ne_eq, not_false_eq_true, not_true_eq_false, InR, Bool.true_eq_false, Bool.false_eq_true, reduceDIte, Nat.zero_add, Nat.add_zero, Int.cast_ofNat_Int, eq_self, hget_0, hget_k, hget_z, hget_s, hset_0, hset_k, htake_0, lt_own0, lt_ownk, hasAt_nil, hasAt_arr, hasAt_st, hasSh_l, hasSh_aa, hasSh_sa, hasShs_n, hasShs_c, setAll, AV.isCell, Shape.size_leaf, Shape.size_arr, Shape.size_st, Shape.sizes_cons, Shape.sizes_nil, List.length_append, List.append_assoc, List.length_set, stP, ldP, getP, setP, psh, partsOf, slen, rd, dem, demK, mapO, AV.bnds, AV.bnd, bne_self_eq_false, AV.plain2, AV.plain, List.all_cons, List.all_nil, List.take_length, List.drop_zero, List.drop_succ_cons, Nat.mul_one, List.getElem?_nil, List.forall_mem_cons, List.not_mem_nil, implies_true, Bool.and_true, Bool.true_and, Bool.and_false, Bool.false_and, and_self, and_false, false_and]
  refine f20 ?_
  rw [show ((16 : BitVec 64) * 16) &&& maskV 8 = 0 by decide +kernel]
  simp (maxSteps := 2000000) only [↓vS_skip, ↓vS_reg, ↓vS_draw, ↓vS_seq, ↓vS_cond, ↓vS_block, ↓vS_exit, ↓vS_ret, ↓vI_nil, ↓vI_go, ↓vI_gd, ↓stepI_q, ↓stepI_e, ↓stepI_c, ↓stepI_v, ↓vD_nil, ↓vD_go, ↓vD_gd, ↓stepW_q, ↓stepW_e, ↓stepW_c, ↓stepW_v, ↓Kw_app, ↓KwD_app, ↓Kc_app, ↓Kp_app, ↓Kr_app, ↓Ks_n, ↓Ks_r, ↓Ks_x, ↓Kb_n, ↓Kb_r, ↓Kb_x, ↓Ku_n, ↓Ku_r, ↓Ku_x, ↓Kl_n, ↓Kl_r, ↓Kl_x, ↓Kend_n, ↓Kend_r, ↓Two_t, ↓Two_f, ↓unr_succ, putE_none, putE_var, putE_new, get_t, get_c, qev, eev, rsGet, rvGet, oneOf, binAV, isSh, bvBin, bvOp, bvCmp, bvSh, intBin, intSh, cvAV, unAV, AV.cnt, AV.num, Ken2_s, Ken3_s, htake_1, htake_2, beq_self_eq_true, beq_true, beq_false, Bool.not_eq_true, maxLen, Nat.reducePow, Nat.reduceMul, List.map_cons, List.map_nil, List.getD_cons_zero, List.getD_cons_succ, List.set_cons_zero, List.set_cons_succ, List.cons_append, List.nil_append, List.append_nil, List.take_succ_cons, List.take_zero, List.take_nil, List.length_cons, List.length_nil, List.replicate_succ, List.replicate_zero, Option.map_some, Option.map_none, List.getElem?_cons_zero, List.getElem?_cons_succ, true_and, and_true, if_true, if_false, ite_true, ite_false, reduceIte, reduceCtorEq, false_or, or_true, true_or, or_false, Option.some.injEq, Prod.mk.injEq, exists_eq_left', exists_eq_left, exists_eq_right, exists_and_left, exists_and_right, exists_const, and_assoc, decide_true, decide_false, Bool.false_eq_true, forall_const, Bool.not_true, Bool.not_false, false_implies, true_implies, Nat.reduceAdd, Nat.reduceSub, Nat.reduceMul, Nat.reduceLT, Nat.reduceLeDiff, Nat.reduceEqDiff, Int.reduceAdd, Int.reduceSub, Int.reduceMul, Int.reduceLT, Int.reduceLE, Int.reduceTMod, Int.reduceTDiv, Int.reduceToNat, Int.reduceEq, Int.reduceNe, Int.reduceNeg, ne_eq, not_false_eq_true, not_true_eq_false, InR, Bool.true_eq_false, Bool.false_eq_true, reduceDIte, Nat.zero_add, Nat.add_zero, Int.cast_ofNat_Int, eq_self, hget_0, hget_k, hget_z, hget_s, hset_0, hset_k, htake_0, lt_own0, lt_ownk, hasAt_nil, hasAt_arr, hasAt_st, hasSh_l, hasSh_aa, hasSh_sa, hasShs_n, hasShs_c, setAll, AV.isCell, Shape.size_leaf, Shape.size_arr, Shape.size_st, Shape.sizes_cons, Shape.sizes_nil, List.length_append, List.append_assoc, List.length_set, stP, ldP, getP, setP, psh, partsOf, slen, rd, dem, demK, mapO, AV.bnds, AV.bnd, bne_self_eq_false, AV.plain2, AV.plain, List.all_cons, List.all_nil, List.take_length, List.drop_zero, List.drop_succ_cons, Nat.mul_one, List.getElem?_nil, List.forall_mem_cons, List.not_mem_nil, implies_true, Bool.and_true, Bool.true_and, Bool.and_false, Bool.false_and, and_self, and_false, false_and]
  refine f30 ?_
  rw [show (-(1 : BitVec 64)) &&& maskV 8 = 255 by decide +kernel]
  simp (maxSteps := 2000000) only [↓vS_skip, ↓vS_reg, ↓vS_draw, ↓vS_seq, ↓vS_cond, ↓vS_block, ↓vS_exit, ↓vS_ret, ↓vI_nil, ↓vI_go, ↓vI_gd, ↓stepI_q, ↓stepI_e, ↓stepI_c, ↓stepI_v, ↓vD_nil, ↓vD_go, ↓vD_gd, ↓stepW_q, ↓stepW_e, ↓stepW_c, ↓stepW_v, ↓Kw_app, ↓KwD_app, ↓Kc_app, ↓Kp_app, ↓Kr_app, ↓Ks_n, ↓Ks_r, ↓Ks_x, ↓Kb_n, ↓Kb_r, ↓Kb_x, ↓Ku_n, ↓Ku_r, ↓Ku_x, ↓Kl_n, ↓Kl_r, ↓Kl_x, ↓Kend_n, ↓Kend_r, ↓Two_t, ↓Two_f, ↓unr_succ, putE_none, putE_var, putE_new, get_t, get_c, qev, eev, rsGet, rvGet, oneOf, binAV, isSh, bvBin, bvOp, bvCmp, bvSh, intBin, intSh, cvAV, unAV, AV.cnt, AV.num, Ken2_s, Ken3_s, htake_1, htake_2, beq_self_eq_true, beq_true, beq_false, Bool.not_eq_true, maxLen, Nat.reducePow, Nat.reduceMul, List.map_cons, List.map_nil, List.getD_cons_zero, List.getD_cons_succ, List.set_cons_zero, List.set_cons_succ, List.cons_append, List.nil_append, List.append_nil, List.take_succ_cons, List.take_zero, List.take_nil, List.length_cons, List.length_nil, List.replicate_succ, List.replicate_zero, Option.map_some, Option.map_none, List.getElem?_cons_zero, List.getElem?_cons_succ, true_and, and_true, if_true, if_false, ite_true, ite_false, reduceIte, reduceCtorEq, false_or, or_true, true_or, or_false, Option.some.injEq, Prod.mk.injEq, exists_eq_left', exists_eq_left, exists_eq_right, exists_and_left, exists_and_right, exists_const, and_assoc, decide_true, decide_false, Bool.false_eq_true, forall_const, Bool.not_true, Bool.not_false, false_implies, true_implies, Nat.reduceAdd, Nat.reduceSub, Nat.reduceMul, Nat.reduceLT, Nat.reduceLeDiff, Nat.reduceEqDiff, Int.reduceAdd, Int.reduceSub, Int.reduceMul, Int.reduceLT, Int.reduceLE, Int.reduceTMod, Int.reduceTDiv, Int.reduceToNat, Int.reduceEq, Int.reduceNe, Int.reduceNeg, ne_eq, not_false_eq_true, not_true_eq_false, InR, Bool.true_eq_false, Bool.false_eq_true, reduceDIte, Nat.zero_add, Nat.add_zero, Int.cast_ofNat_Int, eq_self, hget_0, hget_k, hget_z, hget_s, hset_0, hset_k, htake_0, lt_own0, lt_ownk, hasAt_nil, hasAt_arr, hasAt_st, hasSh_l, hasSh_aa, hasSh_sa, hasShs_n, hasShs_c, setAll, AV.isCell, Shape.size_leaf, Shape.size_arr, Shape.size_st, Shape.sizes_cons, Shape.sizes_nil, List.length_append, List.append_assoc, List.length_set, stP, ldP, getP, setP, psh, partsOf, slen, rd, dem, demK, mapO, AV.bnds, AV.bnd, bne_self_eq_false, AV.plain2, AV.plain, List.all_cons, List.all_nil, List.take_length, List.drop_zero, List.drop_succ_cons, Nat.mul_one, List.getElem?_nil, List.forall_mem_cons, List.not_mem_nil, implies_true, Bool.and_true, Bool.true_and, Bool.and_false, Bool.false_and, and_self, and_false, false_and]
  exact h

theorem mask_nat {l : Int} (h : good l) : (maskV l).toNat = 2 ^ l.toNat - 1 := by
  unfold maskV
  rw [if_pos h]
  have key : ∀ n, n ≤ 64 → ((18446744073709551615#64) >>> (64 - n)).toNat = 2 ^ n - 1 := by decide +kernel
  exact key _ (by unfold good at h; omega)

theorem and_mask {l : Int} (h : good l) (x : BitVec 64) : x &&& maskV l = cut l.toNat x := by
  apply BitVec.eq_of_toNat_eq
  rw [BitVec.toNat_and, mask_nat h, Nat.and_two_pow_sub_one_eq_mod]
  simp only [cut, BitVec.toNat_ofNat]
  have := x.isLt
  have h2 := Nat.mod_le x.toNat (2 ^ l.toNat)
  omega

theorem mask_zero {l : Int} : maskV l = 0 ↔ ¬ good l := by
  constructor
  · intro h hg
    have := mask_nat hg
    rw [h] at this
    have h2 : 2 ≤ 2 ^ l.toNat := by
      have := Nat.pow_le_pow_right (n := 2) (by decide) (show 1 ≤ l.toNat by unfold good at hg; omega)
      simpa using this
    have h3 : (0 : BitVec 64).toNat = 0 := by decide
    omega
  · intro h; unfold maskV; rw [if_neg h]

theorem cut_nat {n : Nat} (x : BitVec 64) : (cut n x).toNat = x.toNat % 2 ^ n := by
  simp only [cut, BitVec.toNat_ofNat]
  have := x.isLt
  have h2 := Nat.mod_le x.toNat (2 ^ n)
  omega

theorem cut_mul_cut {n : Nat} (hn : n ≤ 64) (a x : BitVec 64) : cut n (a * cut n x) = cut n (a * x) := by
  have hp : 2 ^ n ∣ 2 ^ 64 := Nat.pow_dvd_pow 2 hn
  apply BitVec.eq_of_toNat_eq
  rw [cut_nat, cut_nat, BitVec.toNat_mul, BitVec.toNat_mul, cut_nat, Nat.mod_mod_of_dvd _ hp, Nat.mod_mod_of_dvd _ hp, Nat.mul_mod, Nat.mod_mod, ← Nat.mul_mod]

theorem f4 {K : AV → Heap → Prop} {H : Heap} {l : Int} {a : BitVec 64} (h : K (.bool true) H) : wpF P [] 4 [.int l, .u64 a] H K := by
  refine wpF_go c4 rfl 2 ?_
  intro ha hb
  simp only [s4]
  simp (maxSteps := 2000000) only [↓vS_skip, ↓vS_reg, ↓vS_draw, ↓vS_seq, ↓vS_cond, ↓vS_block, ↓vS_exit, ↓vS_ret, ↓vI_nil, ↓vI_go, ↓vI_gd, ↓stepI_q, ↓stepI_e, ↓stepI_c, ↓stepI_v, ↓vD_nil, ↓vD_go, ↓vD_gd, ↓stepW_q, ↓stepW_e, ↓stepW_c, ↓stepW_v, ↓Kw_app, ↓KwD_app, ↓Kc_app, ↓Kp_app, ↓Kr_app, ↓Ks_n, ↓Ks_r, ↓Ks_x, ↓Kb_n, ↓Kb_r, ↓Kb_x, ↓Ku_n, ↓Ku_r, ↓Ku_x, ↓Kl_n, ↓Kl_r, ↓Kl_x, ↓Kend_n, ↓Kend_r, ↓Two_t, ↓Two_f, ↓unr_succ, putE_none, putE_var, putE_new, get_t, get_c, qev, eev, rsGet, rvGet, oneOf, binAV, isSh, bvBin, bvOp, bvCmp, bvSh, intBin, intSh, cvAV, unAV, AV.cnt, AV.num, Ken2_s, Ken3_s, htake_1, htake_2, beq_self_eq_true, beq_true, beq_false, Bool.not_eq_true, maxLen, Nat.reducePow, Nat.reduceMul, List.map_cons, List.map_nil, List.getD_cons_zero, List.getD_cons_succ, List.set_cons_zero, List.set_cons_succ, List.cons_append, List.nil_append, List.append_nil, List.take_succ_cons, List.take_zero, List.take_nil, List.length_cons, List.length_nil, List.replicate_succ, List.replicate_zero, Option.map_some, Option.map_none, List.getElem?_cons_zero, List.getElem?_cons_succ, true_and, and_true, if_true, if_false, ite_true, ite_false, reduceIte, reduceCtorEq, false_or, or_true, true_or, or_false, Option.some.injEq, Prod.mk.injEq, exists_eq_left', exists_eq_left, exists_eq_right, exists_and_left, exists_and_right, exists_const, and_assoc, decide_true, decide_false, Bool.false_eq_true, forall_const, Bool.not_true, Bool.not_false, false_implies, true_implies, Nat.reduceAdd, Nat.reduceSub, Nat.reduceMul, Nat.reduceLT, Nat.reduceLeDiff, Nat.reduceEqDiff, Int.reduceAdd, Int.reduceSub, Int.reduceMul, Int.reduceLT, Int.reduceLE, Int.reduceTMod, Int.reduceTDiv, Int.reduceToNat, Int.reduceEq, Int.reduceNe, Int.reduceNeg, ne_eq, not_false_eq_true, not_true_eq_false, InR, Bool.true_eq_false, Bool.false_eq_true, reduceDIte, Nat.zero_add, Nat.add_zero, Int.cast_ofNat_Int, eq_self, hget_0, hget_k, hget_z, hget_s, hset_0, hset_k, htake_0, lt_own0, lt_ownk, hasAt_nil, hasAt_arr, hasAt_st, hasSh_l, hasSh_aa, hasSh_sa, hasShs_n, hasShs_c, setAll, AV.isCell, Shape.size_leaf, Shape.size_arr, Shape.size_st, Shape.sizes_cons, Shape.sizes_nil, List.length_append, List.append_assoc, List.length_set, stP, ldP, getP, setP, psh, partsOf, slen, rd, dem, demK, mapO, AV.bnds, AV.bnd, bne_self_eq_false, AV.plain2, AV.plain, List.all_cons, List.all_nil, List.take_length, List.drop_zero, List.drop_succ_cons, Nat.mul_one, List.getElem?_nil, List.forall_mem_cons, List.not_mem_nil, implies_true, Bool.and_true, Bool.true_and, Bool.and_false, Bool.false_and, and_self, and_false, false_and]
  refine f18 ?_
  by_cases hc : a % 2 = 0 ∨ ¬ good l
  · have hc2 : a &&& 1 = 0 ∨ maskV l = 0 := hc.imp (fun h => (odd_iff a).2 ((mod_iff a).1 h)) (fun h => mask_zero.2 h)
    rw [if_pos hc2]
    simp (maxSteps := 2000000) only [↓vS_skip, ↓vS_reg, ↓vS_draw, ↓vS_seq, ↓vS_cond, ↓vS_block, ↓vS_exit, ↓vS_ret, ↓vI_nil, ↓vI_go, ↓vI_gd, ↓stepI_q, ↓stepI_e, ↓stepI_c, ↓stepI_v, ↓vD_nil, ↓vD_go, ↓vD_gd, ↓stepW_q, ↓stepW_e, ↓stepW_c, ↓stepW_v, ↓Kw_app, ↓KwD_app, ↓Kc_app, ↓Kp_app, ↓Kr_app, ↓Ks_n, ↓Ks_r, ↓Ks_x, ↓Kb_n, ↓Kb_r, ↓Kb_x, ↓Ku_n, ↓Ku_r, ↓Ku_x, ↓Kl_n, ↓Kl_r, ↓Kl_x, ↓Kend_n, ↓Kend_r, ↓Two_t, ↓Two_f, ↓unr_succ, putE_none, putE_var, putE_new, get_t, get_c, qev, eev, rsGet, rvGet, oneOf, binAV, isSh, bvBin, bvOp, bvCmp, bvSh, intBin, intSh, cvAV, unAV, AV.cnt, AV.num, Ken2_s, Ken3_s, htake_1, htake_2, beq_self_eq_true, beq_true, beq_false, Bool.not_eq_true, maxLen, Nat.reducePow, Nat.reduceMul, List.map_cons, List.map_nil, List.getD_cons_zero, List.getD_cons_succ, List.set_cons_zero, List.set_cons_succ, List.cons_append, List.nil_append, List.append_nil, List.take_succ_cons, List.take_zero, List.take_nil, List.length_cons, List.length_nil, List.replicate_succ, List.replicate_zero, Option.map_some, Option.map_none, List.getElem?_cons_zero, List.getElem?_cons_succ, true_and, and_true, if_true, if_false, ite_true, ite_false, reduceIte, reduceCtorEq, false_or, or_true, true_or, or_false, Option.some.injEq, Prod.mk.injEq, exists_eq_left', exists_eq_left, exists_eq_right, exists_and_left, exists_and_right, exists_const, and_assoc, decide_true, decide_false, Bool.false_eq_true, forall_const, Bool.not_true, Bool.not_false, false_implies, true_implies, Nat.reduceAdd, Nat.reduceSub, Nat.reduceMul, Nat.reduceLT, Nat.reduceLeDiff, Nat.reduceEqDiff, Int.reduceAdd, Int.reduceSub, Int.reduceMul, Int.reduceLT, Int.reduceLE, Int.reduceTMod, Int.reduceTDiv, Int.reduceToNat, Int.reduceEq, Int.reduceNe, Int.reduceNeg, ne_eq, not_false_eq_true, not_true_eq_false, InR, Bool.true_eq_false, Bool.false_eq_true, reduceDIte, Nat.zero_add, Nat.add_zero, Int.cast_ofNat_Int, eq_self, hget_0, hget_k, hget_z, hget_s, hset_0, hset_k, htake_0, lt_own0, lt_ownk, hasAt_nil, hasAt_arr, hasAt_st, hasSh_l, hasSh_aa, hasSh_sa, hasShs_n, hasShs_c, setAll, AV.isCell, Shape.size_leaf, Shape.size_arr, Shape.size_st, Shape.sizes_cons, Shape.sizes_nil, List.length_append, List.append_assoc, List.length_set, stP, ldP, getP, setP, psh, partsOf, slen, rd, dem, demK, mapO, AV.bnds, AV.bnd, bne_self_eq_false, AV.plain2, AV.plain, List.all_cons, List.all_nil, List.take_length, List.drop_zero, List.drop_succ_cons, Nat.mul_one, List.getElem?_nil, List.forall_mem_cons, List.not_mem_nil, implies_true, Bool.and_true, Bool.true_and, Bool.and_false, Bool.false_and, and_self, and_false, false_and]
    refine f19 ?_
    rw [if_pos hc]
    simp (maxSteps := 2000000) only [↓vS_skip, ↓vS_reg, ↓vS_draw, ↓vS_seq, ↓vS_cond, ↓vS_block, ↓vS_exit, ↓vS_ret, ↓vI_nil, ↓vI_go, ↓vI_gd, ↓stepI_q, ↓stepI_e, ↓stepI_c, ↓stepI_v, ↓vD_nil, ↓vD_go, ↓vD_gd, ↓stepW_q, ↓stepW_e, ↓stepW_c, ↓stepW_v, ↓Kw_app, ↓KwD_app, ↓Kc_app, ↓Kp_app, ↓Kr_app, ↓Ks_n, ↓Ks_r, ↓Ks_x, ↓Kb_n, ↓Kb_r, ↓Kb_x, ↓Ku_n, ↓Ku_r, ↓Ku_x, ↓Kl_n, ↓Kl_r, ↓Kl_x, ↓Kend_n, ↓Kend_r, ↓Two_t, ↓Two_f, ↓unr_succ, putE_none, putE_var, putE_new, get_t, get_c, qev, eev, rsGet, rvGet, oneOf, binAV, isSh, bvBin, bvOp, bvCmp, bvSh, intBin, intSh, cvAV, unAV, AV.cnt, AV.num, Ken2_s, Ken3_s, htake_1, htake_2, beq_self_eq_true, beq_true, beq_false, Bool.not_eq_true, maxLen, Nat.reducePow, Nat.reduceMul, List.map_cons, List.map_nil, List.getD_cons_zero, List.getD_cons_succ, List.set_cons_zero, List.set_cons_succ, List.cons_append, List.nil_append, List.append_nil, List.take_succ_cons, List.take_zero, List.take_nil, List.length_cons, List.length_nil, List.replicate_succ, List.replicate_zero, Option.map_some, Option.map_none, List.getElem?_cons_zero, List.getElem?_cons_succ, true_and, and_true, if_true, if_false, ite_true, ite_false, reduceIte, reduceCtorEq, false_or, or_true, true_or, or_false, Option.some.injEq, Prod.mk.injEq, exists_eq_left', exists_eq_left, exists_eq_right, exists_and_left, exists_and_right, exists_const, and_assoc, decide_true, decide_false, Bool.false_eq_true, forall_const, Bool.not_true, Bool.not_false, false_implies, true_implies, Nat.reduceAdd, Nat.reduceSub, Nat.reduceMul, Nat.reduceLT, Nat.reduceLeDiff, Nat.reduceEqDiff, Int.reduceAdd, Int.reduceSub, Int.reduceMul, Int.reduceLT, Int.reduceLE, Int.reduceTMod, Int.reduceTDiv, Int.reduceToNat, Int.reduceEq, Int.reduceNe, Int.reduceNeg, ne_eq, not_false_eq_true, not_true_eq_false, InR, Bool.true_eq_false, Bool.false_eq_true, reduceDIte, Nat.zero_add, Nat.add_zero, Int.cast_ofNat_Int, eq_self, hget_0, hget_k, hget_z, hget_s, hset_0, hset_k, htake_0, lt_own0, lt_ownk, hasAt_nil, hasAt_arr, hasAt_st, hasSh_l, hasSh_aa, hasSh_sa, hasShs_n, hasShs_c, setAll, AV.isCell, Shape.size_leaf, Shape.size_arr, Shape.size_st, Shape.sizes_cons, Shape.sizes_nil, List.length_append, List.append_assoc, List.length_set, stP, ldP, getP, setP, psh, partsOf, slen, rd, dem, demK, mapO, AV.bnds, AV.bnd, bne_self_eq_false, AV.plain2, AV.plain, List.all_cons, List.all_nil, List.take_length, List.drop_zero, List.drop_succ_cons, Nat.mul_one, List.getElem?_nil, List.forall_mem_cons, List.not_mem_nil, implies_true, Bool.and_true, Bool.true_and, Bool.and_false, Bool.false_and, and_self, and_false, false_and]
    refine f22 ?_
    simp (maxSteps := 2000000) only [↓vS_skip, ↓vS_reg, ↓vS_draw, ↓vS_seq, ↓vS_cond, ↓vS_block, ↓vS_exit, ↓vS_ret, ↓vI_nil, ↓vI_go, ↓vI_gd, ↓stepI_q, ↓stepI_e, ↓stepI_c, ↓stepI_v, ↓vD_nil, ↓vD_go, ↓vD_gd, ↓stepW_q, ↓stepW_e, ↓stepW_c, ↓stepW_v, ↓Kw_app, ↓KwD_app, ↓Kc_app, ↓Kp_app, ↓Kr_app, ↓Ks_n, ↓Ks_r, ↓Ks_x, ↓Kb_n, ↓Kb_r, ↓Kb_x, ↓Ku_n, ↓Ku_r, ↓Ku_x, ↓Kl_n, ↓Kl_r, ↓Kl_x, ↓Kend_n, ↓Kend_r, ↓Two_t, ↓Two_f, ↓unr_succ, putE_none, putE_var, putE_new, get_t, get_c, qev, eev, rsGet, rvGet, oneOf, binAV, isSh, bvBin, bvOp, bvCmp, bvSh, intBin, intSh, cvAV, unAV, AV.cnt, AV.num, Ken2_s, Ken3_s, htake_1, htake_2, beq_self_eq_true, beq_true, beq_false, Bool.not_eq_true, maxLen, Nat.reducePow, Nat.reduceMul, List.map_cons, List.map_nil, List.getD_cons_zero, List.getD_cons_succ, List.set_cons_zero, List.set_cons_succ, List.cons_append, List.nil_append, List.append_nil, List.take_succ_cons, List.take_zero, List.take_nil, List.length_cons, List.length_nil, List.replicate_succ, List.replicate_zero, Option.map_some, Option.map_none, List.getElem?_cons_zero, List.getElem?_cons_succ, true_and, and_true, if_true, if_false, ite_true, ite_false, reduceIte, reduceCtorEq, false_or, or_true, true_or, or_false, Option.some.injEq, Prod.mk.injEq, exists_eq_left', exists_eq_left, exists_eq_right, exists_and_left, exists_and_right, exists_const, and_assoc, decide_true, decide_false, Bool.false_eq_true, forall_const, Bool.not_true, Bool.not_false, false_implies, true_implies, Nat.reduceAdd, Nat.reduceSub, Nat.reduceMul, Nat.reduceLT, Nat.reduceLeDiff, Nat.reduceEqDiff, Int.reduceAdd, Int.reduceSub, Int.reduceMul, Int.reduceLT, Int.reduceLE, Int.reduceTMod, Int.reduceTDiv, Int.reduceToNat, Int.reduceEq, Int.reduceNe, Int.reduceNeg, ne_eq, not_false_eq_true, not_true_eq_false, InR, Bool.true_eq_false, Bool.false_eq_true, reduceDIte, Nat.zero_add, Nat.add_zero, Int.cast_ofNat_Int, eq_self, hget_0, hget_k, hget_z, hget_s, hset_0, hset_k, htake_0, lt_own0, lt_ownk, hasAt_nil, hasAt_arr, hasAt_st, hasSh_l, hasSh_aa, hasSh_sa, hasShs_n, hasShs_c, setAll, AV.isCell, Shape.size_leaf, Shape.size_arr, Shape.size_st, Shape.sizes_cons, Shape.sizes_nil, List.length_append, List.append_assoc, List.length_set, stP, ldP, getP, setP, psh, partsOf, slen, rd, dem, demK, mapO, AV.bnds, AV.bnd, bne_self_eq_false, AV.plain2, AV.plain, List.all_cons, List.all_nil, List.take_length, List.drop_zero, List.drop_succ_cons, Nat.mul_one, List.getElem?_nil, List.forall_mem_cons, List.not_mem_nil, implies_true, Bool.and_true, Bool.true_and, Bool.and_false, Bool.false_and, and_self, and_false, false_and]
    exact h
  · have hc2 : ¬ (a &&& 1 = 0 ∨ maskV l = 0) := fun h => hc (h.imp (fun h => (mod_iff a).2 ((odd_iff a).1 h)) (fun h => mask_zero.1 h))
    have hg : good l := Classical.byContradiction fun h => hc (.inr h)
    have hodd : a.toNat % 2 = 1 := by
      have : ¬ a.toNat % 2 = 0 := fun h => hc (.inl ((mod_iff a).2 h))
      omega
    rw [if_neg hc2]
    simp (maxSteps := 2000000) only [↓vS_skip, ↓vS_reg, ↓vS_draw, ↓vS_seq, ↓vS_cond, ↓vS_block, ↓vS_exit, ↓vS_ret, ↓vI_nil, ↓vI_go, ↓vI_gd, ↓stepI_q, ↓stepI_e, ↓stepI_c, ↓stepI_v, ↓vD_nil, ↓vD_go, ↓vD_gd, ↓stepW_q, ↓stepW_e, ↓stepW_c, ↓stepW_v, ↓Kw_app, ↓KwD_app, ↓Kc_app, ↓Kp_app, ↓Kr_app, ↓Ks_n, ↓Ks_r, ↓Ks_x, ↓Kb_n, ↓Kb_r, ↓Kb_x, ↓Ku_n, ↓Ku_r, ↓Ku_x, ↓Kl_n, ↓Kl_r, ↓Kl_x, ↓Kend_n, ↓Kend_r, ↓Two_t, ↓Two_f, ↓unr_succ, putE_none, putE_var, putE_new, get_t, get_c, qev, eev, rsGet, rvGet, oneOf, binAV, isSh, bvBin, bvOp, bvCmp, bvSh, intBin, intSh, cvAV, unAV, AV.cnt, AV.num, Ken2_s, Ken3_s, htake_1, htake_2, beq_self_eq_true, beq_true, beq_false, Bool.not_eq_true, maxLen, Nat.reducePow, Nat.reduceMul, List.map_cons, List.map_nil, List.getD_cons_zero, List.getD_cons_succ, List.set_cons_zero, List.set_cons_succ, List.cons_append, List.nil_append, List.append_nil, List.take_succ_cons, List.take_zero, List.take_nil, List.length_cons, List.length_nil, List.replicate_succ, List.replicate_zero, Option.map_some, Option.map_none, List.getElem?_cons_zero, List.getElem?_cons_succ, true_and, and_true, if_true, if_false, ite_true, ite_false, reduceIte, reduceCtorEq, false_or, or_true, true_or, or_false, Option.some.injEq, Prod.mk.injEq, exists_eq_left', exists_eq_left, exists_eq_right, exists_and_left, exists_and_right, exists_const, and_assoc, decide_true, decide_false, Bool.false_eq_true, forall_const, Bool.not_true, Bool.not_false, false_implies, true_implies, Nat.reduceAdd, Nat.reduceSub, Nat.reduceMul, Nat.reduceLT, Nat.reduceLeDiff, Nat.reduceEqDiff, Int.reduceAdd, Int.reduceSub, Int.reduceMul, Int.reduceLT, Int.reduceLE, Int.reduceTMod, Int.reduceTDiv, Int.reduceToNat, Int.reduceEq, Int.reduceNe, Int.reduceNeg, ne_eq, not_false_eq_true, not_true_eq_false, InR, Bool.true_eq_false, Bool.false_eq_true, reduceDIte, Nat.zero_add, Nat.add_zero, Int.cast_ofNat_Int, eq_self, hget_0, hget_k, hget_z, hget_s, hset_0, hset_k, htake_0, lt_own0, lt_ownk, hasAt_nil, hasAt_arr, hasAt_st, hasSh_l, hasSh_aa, hasSh_sa, hasShs_n, hasShs_c, setAll, AV.isCell, Shape.size_leaf, Shape.size_arr, Shape.size_st, Shape.sizes_cons, Shape.sizes_nil, List.length_append, List.append_assoc, List.length_set, stP, ldP, getP, setP, psh, partsOf, slen, rd, dem, demK, mapO, AV.bnds, AV.bnd, bne_self_eq_false, AV.plain2, AV.plain, List.all_cons, List.all_nil, List.take_length, List.drop_zero, List.drop_succ_cons, Nat.mul_one, List.getElem?_nil, List.forall_mem_cons, List.not_mem_nil, implies_true, Bool.and_true, Bool.true_and, Bool.and_false, Bool.false_and, and_self, and_false, false_and]
    refine f19 ?_
    rw [if_neg hc, ← and_mask hg]
    simp (maxSteps := 2000000) only [↓vS_skip, ↓vS_reg, ↓vS_draw, ↓vS_seq, ↓vS_cond, ↓vS_block, ↓vS_exit, ↓vS_ret, ↓vI_nil, ↓vI_go, ↓vI_gd, ↓stepI_q, ↓stepI_e, ↓stepI_c, ↓stepI_v, ↓vD_nil, ↓vD_go, ↓vD_gd, ↓stepW_q, ↓stepW_e, ↓stepW_c, ↓stepW_v, ↓Kw_app, ↓KwD_app, ↓Kc_app, ↓Kp_app, ↓Kr_app, ↓Ks_n, ↓Ks_r, ↓Ks_x, ↓Kb_n, ↓Kb_r, ↓Kb_x, ↓Ku_n, ↓Ku_r, ↓Ku_x, ↓Kl_n, ↓Kl_r, ↓Kl_x, ↓Kend_n, ↓Kend_r, ↓Two_t, ↓Two_f, ↓unr_succ, putE_none, putE_var, putE_new, get_t, get_c, qev, eev, rsGet, rvGet, oneOf, binAV, isSh, bvBin, bvOp, bvCmp, bvSh, intBin, intSh, cvAV, unAV, AV.cnt, AV.num, Ken2_s, Ken3_s, htake_1, htake_2, beq_self_eq_true, beq_true, beq_false, Bool.not_eq_true, maxLen, Nat.reducePow, Nat.reduceMul, List.map_cons, List.map_nil, List.getD_cons_zero, List.getD_cons_succ, List.set_cons_zero, List.set_cons_succ, List.cons_append, List.nil_append, List.append_nil, List.take_succ_cons, List.take_zero, List.take_nil, List.length_cons, List.length_nil, List.replicate_succ, List.replicate_zero, Option.map_some, Option.map_none, List.getElem?_cons_zero, List.getElem?_cons_succ, true_and, and_true, if_true, if_false, ite_true, ite_false, reduceIte, reduceCtorEq, false_or, or_true, true_or, or_false, Option.some.injEq, Prod.mk.injEq, exists_eq_left', exists_eq_left, exists_eq_right, exists_and_left, exists_and_right, exists_const, and_assoc, decide_true, decide_false, Bool.false_eq_true, forall_const, Bool.not_true, Bool.not_false, false_implies, true_implies, Nat.reduceAdd, Nat.reduceSub, Nat.reduceMul, Nat.reduceLT, Nat.reduceLeDiff, Nat.reduceEqDiff, Int.reduceAdd, Int.reduceSub, Int.reduceMul, Int.reduceLT, Int.reduceLE, Int.reduceTMod, Int.reduceTDiv, Int.reduceToNat, Int.reduceEq, Int.reduceNe, Int.reduceNeg, ne_eq, not_false_eq_true, not_true_eq_false, InR, Bool.true_eq_false, Bool.false_eq_true, reduceDIte, Nat.zero_add, Nat.add_zero, Int.cast_ofNat_Int, eq_self, hget_0, hget_k, hget_z, hget_s, hset_0, hset_k, htake_0, lt_own0, lt_ownk, hasAt_nil, hasAt_arr, hasAt_st, hasSh_l, hasSh_aa, hasSh_sa, hasShs_n, hasShs_c, setAll, AV.isCell, Shape.size_leaf, Shape.size_arr, Shape.size_st, Shape.sizes_cons, Shape.sizes_nil, List.length_append, List.append_assoc, List.length_set, stP, ldP, getP, setP, psh, partsOf, slen, rd, dem, demK, mapO, AV.bnds, AV.bnd, bne_self_eq_false, AV.plain2, AV.plain, List.all_cons, List.all_nil, List.take_length, List.drop_zero, List.drop_succ_cons, Nat.mul_one, List.getElem?_nil, List.forall_mem_cons, List.not_mem_nil, implies_true, Bool.and_true, Bool.true_and, Bool.and_false, Bool.false_and, and_self, and_false, false_and]
    refine f20 ?_
    simp (maxSteps := 2000000) only [↓vS_skip, ↓vS_reg, ↓vS_draw, ↓vS_seq, ↓vS_cond, ↓vS_block, ↓vS_exit, ↓vS_ret, ↓vI_nil, ↓vI_go, ↓vI_gd, ↓stepI_q, ↓stepI_e, ↓stepI_c, ↓stepI_v, ↓vD_nil, ↓vD_go, ↓vD_gd, ↓stepW_q, ↓stepW_e, ↓stepW_c, ↓stepW_v, ↓Kw_app, ↓KwD_app, ↓Kc_app, ↓Kp_app, ↓Kr_app, ↓Ks_n, ↓Ks_r, ↓Ks_x, ↓Kb_n, ↓Kb_r, ↓Kb_x, ↓Ku_n, ↓Ku_r, ↓Ku_x, ↓Kl_n, ↓Kl_r, ↓Kl_x, ↓Kend_n, ↓Kend_r, ↓Two_t, ↓Two_f, ↓unr_succ, putE_none, putE_var, putE_new, get_t, get_c, qev, eev, rsGet, rvGet, oneOf, binAV, isSh, bvBin, bvOp, bvCmp, bvSh, intBin, intSh, cvAV, unAV, AV.cnt, AV.num, Ken2_s, Ken3_s, htake_1, htake_2, beq_self_eq_true, beq_true, beq_false, Bool.not_eq_true, maxLen, Nat.reducePow, Nat.reduceMul, List.map_cons, List.map_nil, List.getD_cons_zero, List.getD_cons_succ, List.set_cons_zero, List.set_cons_succ, List.cons_append, List.nil_append, List.append_nil, List.take_succ_cons, List.take_zero, List.take_nil, List.length_cons, List.length_nil, List.replicate_succ, List.replicate_zero, Option.map_some, Option.map_none, List.getElem?_cons_zero, List.getElem?_cons_succ, true_and, and_true, if_true, if_false, ite_true, ite_false, reduceIte, reduceCtorEq, false_or, or_true, true_or, or_false, Option.some.injEq, Prod.mk.injEq, exists_eq_left', exists_eq_left, exists_eq_right, exists_and_left, exists_and_right, exists_const, and_assoc, decide_true, decide_false, Bool.false_eq_true, forall_const, Bool.not_true, Bool.not_false, false_implies, true_implies, Nat.reduceAdd, Nat.reduceSub, Nat.reduceMul, Nat.reduceLT, Nat.reduceLeDiff, Nat.reduceEqDiff, Int.reduceAdd, Int.reduceSub, Int.reduceMul, Int.reduceLT, Int.reduceLE, Int.reduceTMod, Int.reduceTDiv, Int.reduceToNat, Int.reduceEq, Int.reduceNe, Int.reduceNeg, ne_eq, not_false_eq_true, not_true_eq_false, InR, Bool.true_eq_false, Bool.false_eq_true, reduceDIte, Nat.zero_add, Nat.add_zero, Int.cast_ofNat_Int, eq_self, hget_0, hget_k, hget_z, hget_s, hset_0, hset_k, htake_0, lt_own0, lt_ownk, hasAt_nil, hasAt_arr, hasAt_st, hasSh_l, hasSh_aa, hasSh_sa, hasShs_n, hasShs_c, setAll, AV.isCell, Shape.size_leaf, Shape.size_arr, Shape.size_st, Shape.sizes_cons, Shape.sizes_nil, List.length_append, List.append_assoc, List.length_set, stP, ldP, getP, setP, psh, partsOf, slen, rd, dem, demK, mapO, AV.bnds, AV.bnd, bne_self_eq_false, AV.plain2, AV.plain, List.all_cons, List.all_nil, List.take_length, List.drop_zero, List.drop_succ_cons, Nat.mul_one, List.getElem?_nil, List.forall_mem_cons, List.not_mem_nil, implies_true, Bool.and_true, Bool.true_and, Bool.and_false, Bool.false_and, and_self, and_false, false_and]
    refine f21 ?_
    have e : a * (newton a &&& maskV l) &&& maskV l = 1 &&& maskV l := by
      rw [and_mask hg, and_mask hg, and_mask hg, cut_mul_cut (by unfold good at hg; omega), newton_ok hodd]
    rw [e]
    simp (maxSteps := 2000000) only [↓vS_skip, ↓vS_reg, ↓vS_draw, ↓vS_seq, ↓vS_cond, ↓vS_block, ↓vS_exit, ↓vS_ret, ↓vI_nil, ↓vI_go, ↓vI_gd, ↓stepI_q, ↓stepI_e, ↓stepI_c, ↓stepI_v, ↓vD_nil, ↓vD_go, ↓vD_gd, ↓stepW_q, ↓stepW_e, ↓stepW_c, ↓stepW_v, ↓Kw_app, ↓KwD_app, ↓Kc_app, ↓Kp_app, ↓Kr_app, ↓Ks_n, ↓Ks_r, ↓Ks_x, ↓Kb_n, ↓Kb_r, ↓Kb_x, ↓Ku_n, ↓Ku_r, ↓Ku_x, ↓Kl_n, ↓Kl_r, ↓Kl_x, ↓Kend_n, ↓Kend_r, ↓Two_t, ↓Two_f, ↓unr_succ, putE_none, putE_var, putE_new, get_t, get_c, qev, eev, rsGet, rvGet, oneOf, binAV, isSh, bvBin, bvOp, bvCmp, bvSh, intBin, intSh, cvAV, unAV, AV.cnt, AV.num, Ken2_s, Ken3_s, htake_1, htake_2, beq_self_eq_true, beq_true, beq_false, Bool.not_eq_true, maxLen, Nat.reducePow, Nat.reduceMul, List.map_cons, List.map_nil, List.getD_cons_zero, List.getD_cons_succ, List.set_cons_zero, List.set_cons_succ, List.cons_append, List.nil_append, List.append_nil, List.take_succ_cons, List.take_zero, List.take_nil, List.length_cons, List.length_nil, List.replicate_succ, List.replicate_zero, Option.map_some, Option.map_none, List.getElem?_cons_zero, List.getElem?_cons_succ, true_and, and_true, if_true, if_false, ite_true, ite_false, reduceIte, reduceCtorEq, false_or, or_true, true_or, or_false, Option.some.injEq, Prod.mk.injEq, exists_eq_left', exists_eq_left, exists_eq_right, exists_and_left, exists_and_right, exists_const, and_assoc, decide_true, decide_false, Bool.false_eq_true, forall_const, Bool.not_true, Bool.not_false, false_implies, true_implies, Nat.reduceAdd, Nat.reduceSub, Nat.reduceMul, Nat.reduceLT, Nat.reduceLeDiff, Nat.reduceEqDiff, Int.reduceAdd, Int.reduceSub, Int.reduceMul, Int.reduceLT, Int.reduceLE, Int.reduceTMod, Int.reduceTDiv, Int.reduceToNat, Int.reduceEq, Int.reduceNe, Int.reduceNeg, ne_eq, not_false_eq_true, not_true_eq_false, InR, Bool.true_eq_false, Bool.false_eq_true, reduceDIte, Nat.zero_add, Nat.add_zero, Int.cast_ofNat_Int, eq_self, hget_0, hget_k, hget_z, hget_s, hset_0, hset_k, htake_0, lt_own0, lt_ownk, hasAt_nil, hasAt_arr, hasAt_st, hasSh_l, hasSh_aa, hasSh_sa, hasShs_n, hasShs_c, setAll, AV.isCell, Shape.size_leaf, Shape.size_arr, Shape.size_st, Shape.sizes_cons, Shape.sizes_nil, List.length_append, List.append_assoc, List.length_set, stP, ldP, getP, setP, psh, partsOf, slen, rd, dem, demK, mapO, AV.bnds, AV.bnd, bne_self_eq_false, AV.plain2, AV.plain, List.all_cons, List.all_nil, List.take_length, List.drop_zero, List.drop_succ_cons, Nat.mul_one, List.getElem?_nil, List.forall_mem_cons, List.not_mem_nil, implies_true, Bool.and_true, Bool.true_and, Bool.and_false, Bool.false_and, and_self, and_false, false_and]
    refine f22 ?_
    simp (maxSteps := 2000000) only [↓vS_skip, ↓vS_reg, ↓vS_draw, ↓vS_seq, ↓vS_cond, ↓vS_block, ↓vS_exit, ↓vS_ret, ↓vI_nil, ↓vI_go, ↓vI_gd, ↓stepI_q, ↓stepI_e, ↓stepI_c, ↓stepI_v, ↓vD_nil, ↓vD_go, ↓vD_gd, ↓stepW_q, ↓stepW_e, ↓stepW_c, ↓stepW_v, ↓Kw_app, ↓KwD_app, ↓Kc_app, ↓Kp_app, ↓Kr_app, ↓Ks_n, ↓Ks_r, ↓Ks_x, ↓Kb_n, ↓Kb_r, ↓Kb_x, ↓Ku_n, ↓Ku_r, ↓Ku_x, ↓Kl_n, ↓Kl_r, ↓Kl_x, ↓Kend_n, ↓Kend_r, ↓Two_t, ↓Two_f, ↓unr_succ, putE_none, putE_var, putE_new, get_t, get_c, qev, eev, rsGet, rvGet, oneOf, binAV, isSh, bvBin, bvOp, bvCmp, bvSh, intBin, intSh, cvAV, unAV, AV.cnt, AV.num, Ken2_s, Ken3_s, htake_1, htake_2, beq_self_eq_true, beq_true, beq_false, Bool.not_eq_true, maxLen, Nat.reducePow, Nat.reduceMul, List.map_cons, List.map_nil, List.getD_cons_zero, List.getD_cons_succ, List.set_cons_zero, List.set_cons_succ, List.cons_append, List.nil_append, List.append_nil, List.take_succ_cons, List.take_zero, List.take_nil, List.length_cons, List.length_nil, List.replicate_succ, List.replicate_zero, Option.map_some, Option.map_none, List.getElem?_cons_zero, List.getElem?_cons_succ, true_and, and_true, if_true, if_false, ite_true, ite_false, reduceIte, reduceCtorEq, false_or, or_true, true_or, or_false, Option.some.injEq, Prod.mk.injEq, exists_eq_left', exists_eq_left, exists_eq_right, exists_and_left, exists_and_right, exists_const, and_assoc, decide_true, decide_false, Bool.false_eq_true, forall_const, Bool.not_true, Bool.not_false, false_implies, true_implies, Nat.reduceAdd, Nat.reduceSub, Nat.reduceMul, Nat.reduceLT, Nat.reduceLeDiff, Nat.reduceEqDiff, Int.reduceAdd, Int.reduceSub, Int.reduceMul, Int.reduceLT, Int.reduceLE, Int.reduceTMod, Int.reduceTDiv, Int.reduceToNat, Int.reduceEq, Int.reduceNe, Int.reduceNeg, ne_eq, not_false_eq_true, not_true_eq_false, InR, Bool.true_eq_false, Bool.false_eq_true, reduceDIte, Nat.zero_add, Nat.add_zero, Int.cast_ofNat_Int, eq_self, hget_0, hget_k, hget_z, hget_s, hset_0, hset_k, htake_0, lt_own0, lt_ownk, hasAt_nil, hasAt_arr, hasAt_st, hasSh_l, hasSh_aa, hasSh_sa, hasShs_n, hasShs_c, setAll, AV.isCell, Shape.size_leaf, Shape.size_arr, Shape.size_st, Shape.sizes_cons, Shape.sizes_nil, List.length_append, List.append_assoc, List.length_set, stP, ldP, getP, setP, psh, partsOf, slen, rd, dem, demK, mapO, AV.bnds, AV.bnd, bne_self_eq_false, AV.plain2, AV.plain, List.all_cons, List.all_nil, List.take_length, List.drop_zero, List.drop_succ_cons, Nat.mul_one, List.getElem?_nil, List.forall_mem_cons, List.not_mem_nil, implies_true, Bool.and_true, Bool.true_and, Bool.and_false, Bool.false_and, and_self, and_false, false_and]
    exact h

end Go.Proofs.Ythljgbohdfpleaa
