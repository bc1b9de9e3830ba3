/-
  The constants of SHA-256 as the reference reckons them: cube roots of primes, bit by bit. No program is in sight.
-/
import Derived.Test.YtajkclooknanjaaDoorHa
import Derived.KernelRfl
import Derived.Test.YtajkclooknanjaaDoorV38
section
open Go Go.V
namespace Go.V
set_option linter.unusedSimpArgs false
set_option linter.unusedVariables false
set_option maxRecDepth 1000000

def stA1 (l h : BitVec 64) (d : List (BitVec 64)) (e : List (BitVec 64)) (i : Nat) : List (BitVec 64) := e.set i (e.getD i 0 + d.getD i 0 * l)
def stA2 (l h : BitVec 64) (d : List (BitVec 64)) (e : List (BitVec 64)) (i : Nat) : List (BitVec 64) := (stA1 l h d e i).set (i + 1) ((stA1 l h d e i).getD (i + 1) 0 + d.getD i 0 * h)
def itA (l h : BitVec 64) (d : List (BitVec 64)) : Nat → List (BitVec 64)
  | 0 => [0, 0, 0, 0, 0, 0, 0, 0]
  | i + 1 => stA2 l h d (itA l h d i) i
def stB1 (e : List (BitVec 64)) (i : Nat) : List (BitVec 64) := e.set (i + 1) (e.getD (i + 1) 0 + e.getD i 0 >>> 18)
def stB2 (e : List (BitVec 64)) (i : Nat) : List (BitVec 64) := (stB1 e i).set i ((stB1 e i).getD i 0 &&& 262143)
def itB (e : List (BitVec 64)) : Nat → List (BitVec 64)
  | 0 => e
  | i + 1 => stB2 (itB e i) i
def cm (e f : List (BitVec 64)) : Nat → Bool
  | 0 => true
  | i + 1 => if e.getD i 0 = f.getD i 0 then cm e f i else decide (e.getD i 0 < f.getD i 0)
/-- the digits of x times x -/
def sqD (x : BitVec 64) : List (BitVec 64) :=
  let h := x >>> 18
  let l := x &&& 262143
  let b := 2 * h * l + (l * l) >>> 18
  let a := h * h + b >>> 18
  [l * l &&& 262143, b &&& 262143, a &&& 262143, a >>> 18, 0, 0, 0, 0]
def fD (n : BitVec 64) : List (BitVec 64) := [0, 0, 0, 0, 0, n * 64 &&& 262143, (n * 64) >>> 18, 0]
def cubeF (x n : BitVec 64) : Bool := cm (itB (itA (x &&& 262143) (x >>> 18) (sqD x) 4) 7) (fD n) 8
/-- the bits of the cube root from bit k - 1 down -/
def gr (p x : BitVec 64) : Nat → BitVec 64
  | 0 => x
  | k + 1 => gr p (if cubeF (x + (1 : BitVec 64) <<< k) p = true then x + (1 : BitVec 64) <<< k else x) k
def prD (n d : Nat) : Nat → Bool
  | 0 => decide (1 < n)
  | k + 1 => if d * d ≤ n then (if n % d = 0 then false else prD n (d + 1) k) else decide (1 < n)
def isP (n : Nat) : Bool := prD n 2 40
def pc (p : Nat) : Nat := ((List.range p).filter fun n => decide (2 ≤ n) && isP n).length
def okP (p : Nat) : Bool := if isP p then (decide ((gr (BitVec.ofNat 64 p) 0 36).setWidth 32 = rnds.getD (pc p) 0) && decide (pc (p + 1) = pc p + 1)) else decide (pc (p + 1) = pc p)
def okT (a n : Nat) : Bool := (List.range n).all fun i => okP (a + i) && decide (pc (a + i) < 64)
theorem ok0 : okT 2 30 = true := by kernel_rfl
theorem ok1 : okT 32 30 = true := by kernel_rfl
theorem ok2 : okT 62 40 = true := by kernel_rfl
theorem ok3 : okT 102 40 = true := by kernel_rfl
theorem ok4 : okT 142 40 = true := by kernel_rfl
theorem ok5 : okT 182 40 = true := by kernel_rfl
theorem ok6 : okT 222 45 = true := by kernel_rfl
theorem ok7 : okT 267 45 = true := by kernel_rfl
theorem okT_at {a n p : Nat} (h : okT a n = true) (h1 : a ≤ p) (h2 : p < a + n) : okP p = true ∧ pc p < 64 := by
  unfold okT at h
  rw [List.all_eq_true] at h
  have := h (p - a) (List.mem_range.2 (by omega))
  rw [show a + (p - a) = p by omega] at this
  simpa using this
theorem ok_at {p : Nat} (h1 : 2 ≤ p) (h2 : p < 312) : okP p = true ∧ pc p < 64 := by
  by_cases g0 : p < 32
  · exact okT_at ok0 (by omega) (by omega)
  by_cases g1 : p < 62
  · exact okT_at ok1 (by omega) (by omega)
  by_cases g2 : p < 102
  · exact okT_at ok2 (by omega) (by omega)
  by_cases g3 : p < 142
  · exact okT_at ok3 (by omega) (by omega)
  by_cases g4 : p < 182
  · exact okT_at ok4 (by omega) (by omega)
  by_cases g5 : p < 222
  · exact okT_at ok5 (by omega) (by omega)
  by_cases g6 : p < 267
  · exact okT_at ok6 (by omega) (by omega)
  exact okT_at ok7 (by omega) (by omega)
theorem pc_end : pc 312 = 64 := by kernel_rfl
theorem pc_0 : pc 2 = 0 := by kernel_rfl
theorem pc_yes {p : Nat} (h1 : 2 ≤ p) (h2 : p < 312) (h : isP p = true) : (gr (BitVec.ofNat 64 p) 0 36).setWidth 32 = rnds.getD (pc p) 0 ∧ pc (p + 1) = pc p + 1 := by
  have := (ok_at h1 h2).1
  unfold okP at this
  rw [if_pos h] at this
  simpa using this
theorem pc_no {p : Nat} (h1 : 2 ≤ p) (h2 : p < 312) (h : isP p = false) : pc (p + 1) = pc p := by
  have := (ok_at h1 h2).1
  unfold okP at this
  rw [if_neg (by rw [h]; decide)] at this
  simpa using this
theorem itA_len {l h : BitVec 64} {d : List (BitVec 64)} : ∀ {i : Nat}, (itA l h d i).length = 8
  | 0 => rfl
  | i + 1 => by simp [itA, stA2, stA1, itA_len (i := i)]
theorem itB_len {e : List (BitVec 64)} : ∀ {i : Nat}, (itB e i).length = e.length
  | 0 => rfl
  | i + 1 => by simp [itB, stB2, stB1, itB_len (i := i)]
end Go.V

end

section
/-
  The reference of layer 4 and tagged sums, as this seat has them.
-/
open Go Go.V
namespace Go.Proofs.YtajkclooknanjaaDoor
/-- trefoil/trefoilref04.Tagged (0:tag, 1:parts, 4:, 5:s, 6:i, 12:) -/
def s28 : FnS := ⟨24, [0, 1, 4, 5, 6, 12],
    (.seq (.reg [⟨.var 2, (.e (.alloc 26 (.arr 32 .leaf) (.agg [(.u8 0), (.u8 0), (.u8 0), (.u8 0), (.u8 0), (.u8 0), (.u8 0), (.u8 0), (.u8 0), (.u8 0), (.u8 0), (.u8 0), (.u8 0), (.u8 0), (.u8 0), (.u8 0), (.u8 0), (.u8 0), (.u8 0), (.u8 0), (.u8 0), (.u8 0), (.u8 0), (.u8 0), (.u8 0), (.u8 0), (.u8 0), (.u8 0), (.u8 0), (.u8 0), (.u8 0), (.u8 0)]))), [], none⟩])
    (.seq (.reg [⟨.new, (.q .mv), [.t 0], none⟩,
      ⟨.new, (.call 34), [.t 6], none⟩,
      ⟨.var 3, (.q .mv), [.t 7], none⟩])
    (.seq (.seq (.reg [⟨.var 4, (.q .mv), [.c (.int 0)], none⟩])
    (.block 0 (.loop (.seq (.seq (.reg [⟨.new, (.q .mv), [.t 4], none⟩,
      ⟨.new, (.q .mv), [.t 1], none⟩,
      ⟨.new, (.q .len), [.t 7], none⟩,
      ⟨.var 5, (.q (.bin .lss)), [.t 6, .t 8], none⟩])
    (.cond (.t 5) .skip
    (.exit 0)))
    (.seq (.block 1 (.reg [⟨.new, (.q .mv), [.t 3], none⟩,
      ⟨.new, (.q .mv), [.t 1], none⟩,
      ⟨.new, (.q .mv), [.t 4], none⟩,
      ⟨.new, (.q (.iaS .leaf)), [.t 7, .t 8], none⟩,
      ⟨.new, (.q (.ld .leaf)), [.t 9], none⟩,
      ⟨.new, (.call 34), [.t 10], none⟩,
      ⟨.new, (.q (.bin .add)), [.t 6, .t 11], none⟩,
      ⟨.var 3, (.q .mv), [.t 12], none⟩]))
    (.reg [⟨.new, (.q .mv), [.t 4], none⟩,
      ⟨.new, (.q (.bin .add)), [.t 6, .c (.int 1)], none⟩,
      ⟨.var 4, (.q .mv), [.t 7], none⟩]))))))
    (.seq (.reg [⟨.new, (.q .mv), [.t 3], none⟩,
      ⟨.new, (.call 35), [.t 6], none⟩,
      ⟨.none, (.e (.store (.arr 32 .leaf))), [.t 2, .t 7], none⟩])
    .ret)))),
    [.cell 2 (.arr 32 .leaf)]⟩

/-- trefoil/sha.Tagged (0:tag, 1:parts, 4:, 5:x, 6:put, 8:p, 13:, 14:, 15:, 16:) -/
def s30 : FnS := ⟨24, [0, 1, 4, 5, 6, 8, 13, 14, 15, 16],
    (.seq (.reg [⟨.var 2, (.e (.alloc 26 (.arr 32 .leaf) (.agg [(.u8 0), (.u8 0), (.u8 0), (.u8 0), (.u8 0), (.u8 0), (.u8 0), (.u8 0), (.u8 0), (.u8 0), (.u8 0), (.u8 0), (.u8 0), (.u8 0), (.u8 0), (.u8 0), (.u8 0), (.u8 0), (.u8 0), (.u8 0), (.u8 0), (.u8 0), (.u8 0), (.u8 0), (.u8 0), (.u8 0), (.u8 0), (.u8 0), (.u8 0), (.u8 0), (.u8 0), (.u8 0)]))), [], none⟩])
    (.seq (.reg [⟨.var 3, (.e (.alloc 79 (.st [(.arr 8 .leaf), .leaf, .leaf, .leaf]) (.agg [(.agg [(.u32 0), (.u32 0), (.u32 0), (.u32 0), (.u32 0), (.u32 0), (.u32 0), (.u32 0)]), (.str []), (.u64 0), (.bool false)]))), [], none⟩])
    (.seq (.reg [⟨.new, (.q (.mkf 36)), [.t 3], none⟩,
      ⟨.var 4, (.q .mv), [.t 10], none⟩])
    (.seq (.reg [⟨.new, (.q .mv), [.t 4], none⟩,
      ⟨.new, (.q .mv), [.t 0], none⟩,
      ⟨.new, .callv, [.t 10, .t 11], none⟩])
    (.seq (.seq (.reg [⟨.var 6, (.q .mv), [.t 1], none⟩,
      ⟨.var 7, (.q .len), [.t 6], none⟩,
      ⟨.var 8, (.q .mv), [.c (.int 0)], none⟩])
    (.block 0 (.loop (.seq (.reg [⟨.var 9, (.q (.bin .lss)), [.t 8, .t 7], none⟩])
    (.seq (.cond (.t 9) .skip
    (.exit 0))
    (.seq (.block 1 (.seq (.reg [⟨.new, (.q (.iaS .leaf)), [.t 6, .t 8], none⟩,
      ⟨.new, (.q (.ld .leaf)), [.t 10], none⟩,
      ⟨.var 5, (.q .mv), [.t 11], none⟩])
    (.reg [⟨.new, (.q .mv), [.t 4], none⟩,
      ⟨.new, (.q .mv), [.t 5], none⟩,
      ⟨.new, .callv, [.t 10, .t 11], none⟩])))
    (.reg [⟨.new, (.q (.bin .add)), [.t 8, .c (.int 1)], none⟩,
      ⟨.var 8, (.q .mv), [.t 10], none⟩])))))))
    (.seq (.reg [⟨.new, (.call 38), [.t 3], none⟩,
      ⟨.none, (.e (.store (.arr 32 .leaf))), [.t 2, .t 10], none⟩])
    .ret)))))),
    [.cell 2 (.arr 32 .leaf)]⟩

/-- trefoil/trefoilref04.Long (0:s, 2:, 3:n) -/
def s34 : FnS := ⟨21, [0, 2, 3],
    (.seq (.reg [⟨.var 1, (.q .mv), [.c (.str [])], none⟩])
    (.seq (.reg [⟨.new, (.q .mv), [.t 0], none⟩,
      ⟨.new, (.q .lenS), [.t 3], none⟩,
      ⟨.var 2, (.q .mv), [.t 4], none⟩])
    (.seq (.reg [⟨.new, (.q .mv), [.t 2], none⟩,
      ⟨.new, (.q (.bin .quo)), [.t 3, .c (.int 16777216)], none⟩,
      ⟨.new, (.q (.cv .u8)), [.t 4], none⟩,
      ⟨.new, (.q .mv), [.t 2], none⟩,
      ⟨.new, (.q (.bin .quo)), [.t 6, .c (.int 65536)], none⟩,
      ⟨.new, (.q (.cv .u8)), [.t 7], none⟩,
      ⟨.new, (.q .mv), [.t 2], none⟩,
      ⟨.new, (.q (.bin .quo)), [.t 9, .c (.int 256)], none⟩,
      ⟨.new, (.q (.cv .u8)), [.t 10], none⟩,
      ⟨.new, (.q .mv), [.t 2], none⟩,
      ⟨.new, (.q (.cv .u8)), [.t 12], none⟩,
      ⟨.new, (.e (.bsl 5 .leaf (.u8 0) 4 [0, 1, 2, 3])), [.t 5, .t 8, .t 11, .t 13], none⟩,
      ⟨.new, (.q .b2s), [.t 14], none⟩,
      ⟨.new, (.q .mv), [.t 0], none⟩,
      ⟨.new, (.q (.bin .add)), [.t 15, .t 16], none⟩,
      ⟨.var 1, (.q .mv), [.t 17], none⟩])
    .ret))),
    [.t 1]⟩

/-- trefoil/trefoilref04.Sum (0:s, 2:, 3:k, 4:h, 5:p, 6:i, 7:d, 8:i, 16:, 28:) -/
def s35 : FnS := ⟨46, [0, 2, 3, 4, 5, 6, 7, 8, 16, 28],
    (.seq (.reg [⟨.var 1, (.e (.alloc 26 (.arr 32 .leaf) (.agg [(.u8 0), (.u8 0), (.u8 0), (.u8 0), (.u8 0), (.u8 0), (.u8 0), (.u8 0), (.u8 0), (.u8 0), (.u8 0), (.u8 0), (.u8 0), (.u8 0), (.u8 0), (.u8 0), (.u8 0), (.u8 0), (.u8 0), (.u8 0), (.u8 0), (.u8 0), (.u8 0), (.u8 0), (.u8 0), (.u8 0), (.u8 0), (.u8 0), (.u8 0), (.u8 0), (.u8 0), (.u8 0)]))), [], none⟩])
    (.seq (.reg [⟨.new, (.call 39), [], none⟩,
      ⟨.var 2, (.q .mv), [.t 10], none⟩])
    (.seq (.reg [⟨.new, (.e (.bsl 23 .leaf (.u32 0) 8 [0, 1, 2, 3, 4, 5, 6, 7])), [.c (.u32 1779033703), .c (.u32 3144134277), .c (.u32 1013904242), .c (.u32 2773480762), .c (.u32 1359893119), .c (.u32 2600822924), .c (.u32 528734635), .c (.u32 1541459225)], none⟩,
      ⟨.var 3, (.q .mv), [.t 10], none⟩])
    (.seq (.reg [⟨.new, (.q .mv), [.t 0], none⟩,
      ⟨.new, (.call 40), [.t 10], none⟩,
      ⟨.var 4, (.q .mv), [.t 11], none⟩])
    (.seq (.seq (.reg [⟨.var 5, (.q .mv), [.c (.int 0)], none⟩])
    (.block 0 (.loop (.seq (.seq (.reg [⟨.new, (.q .mv), [.t 5], none⟩,
      ⟨.new, (.q .mv), [.t 4], none⟩,
      ⟨.new, (.q .lenS), [.t 11], none⟩,
      ⟨.var 8, (.q (.bin .lss)), [.t 10, .t 12], none⟩])
    (.cond (.t 8) .skip
    (.exit 0)))
    (.seq (.block 1 (.reg [⟨.new, (.q .mv), [.t 3], none⟩,
      ⟨.new, (.q .mv), [.t 2], none⟩,
      ⟨.new, (.q .mv), [.t 4], none⟩,
      ⟨.new, (.q .mv), [.t 5], none⟩,
      ⟨.new, (.q .mv), [.t 5], none⟩,
      ⟨.new, (.q (.bin .add)), [.t 14, .c (.int 64)], none⟩,
      ⟨.new, (.q (.slS true true)), [.t 12, .t 13, .t 15], none⟩,
      ⟨.new, (.call 41), [.t 10, .t 11, .t 16], none⟩,
      ⟨.var 3, (.q .mv), [.t 17], none⟩]))
    (.reg [⟨.new, (.q .mv), [.t 5], none⟩,
      ⟨.new, (.q (.bin .add)), [.t 10, .c (.int 64)], none⟩,
      ⟨.var 5, (.q .mv), [.t 11], none⟩]))))))
    (.seq (.reg [⟨.var 6, (.e (.alloc 26 (.arr 32 .leaf) (.agg [(.u8 0), (.u8 0), (.u8 0), (.u8 0), (.u8 0), (.u8 0), (.u8 0), (.u8 0), (.u8 0), (.u8 0), (.u8 0), (.u8 0), (.u8 0), (.u8 0), (.u8 0), (.u8 0), (.u8 0), (.u8 0), (.u8 0), (.u8 0), (.u8 0), (.u8 0), (.u8 0), (.u8 0), (.u8 0), (.u8 0), (.u8 0), (.u8 0), (.u8 0), (.u8 0), (.u8 0), (.u8 0)]))), [], none⟩])
    (.seq (.seq (.reg [⟨.var 7, (.q .mv), [.c (.int 0)], none⟩])
    (.block 2 (.loop (.seq (.seq (.reg [⟨.new, (.q .mv), [.t 7], none⟩,
      ⟨.var 9, (.q (.bin .lss)), [.t 10, .c (.int 32)], none⟩])
    (.cond (.t 9) .skip
    (.exit 2)))
    (.seq (.block 3 (.reg [⟨.new, (.q .mv), [.t 7], none⟩,
      ⟨.new, (.q .mv), [.t 3], none⟩,
      ⟨.new, (.q .mv), [.t 7], none⟩,
      ⟨.new, (.q (.bin .quo)), [.t 12, .c (.int 4)], none⟩,
      ⟨.new, (.q (.iaS .leaf)), [.t 11, .t 13], none⟩,
      ⟨.new, (.q (.ld .leaf)), [.t 14], none⟩,
      ⟨.new, (.q .mv), [.t 7], none⟩,
      ⟨.new, (.q (.bin .rem)), [.t 16, .c (.int 4)], none⟩,
      ⟨.new, (.q (.bin .mul)), [.c (.int 8), .t 17], none⟩,
      ⟨.new, (.q (.bin .sub)), [.c (.int 24), .t 18], none⟩,
      ⟨.new, (.q (.cv .u64)), [.t 19], none⟩,
      ⟨.new, (.q (.bin .shr)), [.t 15, .t 20], none⟩,
      ⟨.new, (.q (.cv .u8)), [.t 21], none⟩,
      ⟨.new, (.q (.iaA 32 .leaf)), [.t 6, .t 10], none⟩,
      ⟨.none, (.e (.store .leaf)), [.t 23, .t 22], none⟩]))
    (.reg [⟨.new, (.q .mv), [.t 7], none⟩,
      ⟨.new, (.q (.bin .add)), [.t 10, .c (.int 1)], none⟩,
      ⟨.var 7, (.q .mv), [.t 11], none⟩]))))))
    (.seq (.reg [⟨.new, (.q (.ld (.arr 32 .leaf))), [.t 6], none⟩,
      ⟨.none, (.e (.store (.arr 32 .leaf))), [.t 1, .t 10], none⟩])
    .ret)))))))),
    [.cell 1 (.arr 32 .leaf)]⟩

/-- trefoil/sha.Tagged$1 (0:s, 1:, 3:n) -/
def s36 : FnS := ⟨22, [0, 1, 3],
    (.seq (.reg [⟨.new, (.q .mv), [.t 0], none⟩,
      ⟨.new, (.q .lenS), [.t 3], none⟩,
      ⟨.var 2, (.q .mv), [.t 4], none⟩])
    (.seq (.reg [⟨.new, (.q .mv), [.t 2], none⟩,
      ⟨.new, (.q (.bin .shr)), [.t 3, .c (.u64 24)], none⟩,
      ⟨.new, (.q (.cv .u8)), [.t 4], none⟩,
      ⟨.new, (.q .mv), [.t 2], none⟩,
      ⟨.new, (.q (.bin .shr)), [.t 6, .c (.u64 16)], none⟩,
      ⟨.new, (.q (.cv .u8)), [.t 7], none⟩,
      ⟨.new, (.q .mv), [.t 2], none⟩,
      ⟨.new, (.q (.bin .shr)), [.t 9, .c (.u64 8)], none⟩,
      ⟨.new, (.q (.cv .u8)), [.t 10], none⟩,
      ⟨.new, (.q .mv), [.t 2], none⟩,
      ⟨.new, (.q (.cv .u8)), [.t 12], none⟩,
      ⟨.new, (.e (.bsl 5 .leaf (.u8 0) 4 [0, 1, 2, 3])), [.t 5, .t 8, .t 11, .t 13], none⟩,
      ⟨.new, (.q .b2s), [.t 14], none⟩,
      ⟨.new, (.call 37), [.t 1, .t 15], none⟩])
    (.reg [⟨.new, (.q .mv), [.t 0], none⟩,
      ⟨.new, (.call 37), [.t 1, .t 3], none⟩]))),
    []⟩

/-- trefoil/trefoilref04.Rounds (0:, 1:out, 2:p, 3:x, 4:i, 7:, 12:, 14:, 23:) -/
def s39 : FnS := ⟨35, [0, 1, 2, 3, 4, 7, 12, 14, 23],
    (.seq (.reg [⟨.var 0, (.q .mv), [.c .nils], none⟩])
    (.seq (.reg [⟨.var 1, (.q .mv), [.c .nils], none⟩])
    (.seq (.seq (.reg [⟨.var 2, (.q .mv), [.c (.u64 2)], none⟩])
    (.block 0 (.loop (.seq (.seq (.reg [⟨.new, (.q .mv), [.t 1], none⟩,
      ⟨.new, (.q .len), [.t 9], none⟩,
      ⟨.var 5, (.q (.bin .lss)), [.t 10, .c (.int 64)], none⟩])
    (.cond (.t 5) .skip
    (.exit 0)))
    (.seq (.block 1 (.seq (.seq (.reg [⟨.new, (.q .mv), [.t 2], none⟩,
      ⟨.new, (.call 45), [.t 9], none⟩,
      ⟨.var 6, (.q (.un .not)), [.t 10], none⟩])
    (.cond (.t 6) (.exit 1)
    .skip))
    (.seq (.reg [⟨.var 3, (.q .mv), [.c (.u64 0)], none⟩])
    (.seq (.seq (.reg [⟨.var 4, (.q .mv), [.c (.int 35)], none⟩])
    (.block 2 (.loop (.seq (.seq (.reg [⟨.new, (.q .mv), [.t 4], none⟩,
      ⟨.var 7, (.q (.bin .geq)), [.t 9, .c (.int 0)], none⟩])
    (.cond (.t 7) .skip
    (.exit 2)))
    (.seq (.block 3 (.seq (.reg [⟨.new, (.q .mv), [.t 3], none⟩,
      ⟨.new, (.q .mv), [.t 4], none⟩,
      ⟨.new, (.q (.cv .u64)), [.t 10], none⟩,
      ⟨.new, (.q (.bin .shl)), [.c (.u64 1), .t 11], none⟩,
      ⟨.new, (.q (.bin .add)), [.t 9, .t 12], none⟩,
      ⟨.new, (.q .mv), [.t 2], none⟩,
      ⟨.var 8, (.call 46), [.t 13, .t 14], none⟩])
    (.cond (.t 8) (.reg [⟨.new, (.q .mv), [.t 3], none⟩,
      ⟨.new, (.q .mv), [.t 4], none⟩,
      ⟨.new, (.q (.cv .u64)), [.t 10], none⟩,
      ⟨.new, (.q (.bin .shl)), [.c (.u64 1), .t 11], none⟩,
      ⟨.new, (.q (.bin .add)), [.t 9, .t 12], none⟩,
      ⟨.var 3, (.q .mv), [.t 13], none⟩])
    .skip)))
    (.reg [⟨.new, (.q .mv), [.t 4], none⟩,
      ⟨.new, (.q (.bin .sub)), [.t 9, .c (.int 1)], none⟩,
      ⟨.var 4, (.q .mv), [.t 10], none⟩]))))))
    (.reg [⟨.new, (.q .mv), [.t 1], none⟩,
      ⟨.new, (.q .mv), [.t 3], none⟩,
      ⟨.new, (.q (.cv .u32)), [.t 10], none⟩,
      ⟨.new, (.e (.bsl 23 .leaf (.u32 0) 1 [0])), [.t 11], none⟩,
      ⟨.new, (.e (.app 23 .leaf 4)), [.t 9, .t 12], none⟩,
      ⟨.var 1, (.q .mv), [.t 13], none⟩])))))
    (.reg [⟨.new, (.q .mv), [.t 2], none⟩,
      ⟨.new, (.q (.bin .add)), [.t 9, .c (.u64 1)], none⟩,
      ⟨.var 2, (.q .mv), [.t 10], none⟩]))))))
    (.seq (.reg [⟨.new, (.q .mv), [.t 1], none⟩,
      ⟨.var 0, (.q .mv), [.t 9], none⟩])
    .ret)))),
    [.t 0]⟩

/-- trefoil/trefoilref04.Padded (0:s, 2:, 3:n, 4:out, 5:i, 13:, 17:) -/
def s40 : FnS := ⟨32, [0, 2, 3, 4, 5, 13, 17],
    (.seq (.reg [⟨.var 1, (.q .mv), [.c (.str [])], none⟩])
    (.seq (.reg [⟨.new, (.q .mv), [.t 0], none⟩,
      ⟨.new, (.q .lenS), [.t 7], none⟩,
      ⟨.var 2, (.q .mv), [.t 8], none⟩])
    (.seq (.reg [⟨.new, (.q .mv), [.t 0], none⟩,
      ⟨.new, (.q (.bin .add)), [.t 7, .c (.str [128])], none⟩,
      ⟨.var 3, (.q .mv), [.t 8], none⟩])
    (.seq (.block 0 (.loop (.seq (.seq (.reg [⟨.new, (.q .mv), [.t 3], none⟩,
      ⟨.new, (.q .lenS), [.t 7], none⟩,
      ⟨.new, (.q (.bin .rem)), [.t 8, .c (.int 64)], none⟩,
      ⟨.var 5, (.q (.bin .neq)), [.t 9, .c (.int 56)], none⟩])
    (.cond (.t 5) .skip
    (.exit 0)))
    (.block 1 (.reg [⟨.new, (.q .mv), [.t 3], none⟩,
      ⟨.new, (.q (.bin .add)), [.t 7, .c (.str [0])], none⟩,
      ⟨.var 3, (.q .mv), [.t 8], none⟩])))))
    (.seq (.seq (.reg [⟨.var 4, (.q .mv), [.c (.int 7)], none⟩])
    (.block 2 (.loop (.seq (.seq (.reg [⟨.new, (.q .mv), [.t 4], none⟩,
      ⟨.var 6, (.q (.bin .geq)), [.t 7, .c (.int 0)], none⟩])
    (.cond (.t 6) .skip
    (.exit 2)))
    (.seq (.block 3 (.reg [⟨.new, (.q .mv), [.t 3], none⟩,
      ⟨.new, (.q .mv), [.t 2], none⟩,
      ⟨.new, (.q (.bin .mul)), [.c (.int 8), .t 8], none⟩,
      ⟨.new, (.q .mv), [.t 4], none⟩,
      ⟨.new, (.q (.bin .mul)), [.c (.int 8), .t 10], none⟩,
      ⟨.new, (.q (.cv .u64)), [.t 11], none⟩,
      ⟨.new, (.q (.bin .shr)), [.t 9, .t 12], none⟩,
      ⟨.new, (.q (.cv .u8)), [.t 13], none⟩,
      ⟨.new, (.e (.bsl 5 .leaf (.u8 0) 1 [0])), [.t 14], none⟩,
      ⟨.new, (.q .b2s), [.t 15], none⟩,
      ⟨.new, (.q (.bin .add)), [.t 7, .t 16], none⟩,
      ⟨.var 3, (.q .mv), [.t 17], none⟩]))
    (.reg [⟨.new, (.q .mv), [.t 4], none⟩,
      ⟨.new, (.q (.bin .sub)), [.t 7, .c (.int 1)], none⟩,
      ⟨.var 4, (.q .mv), [.t 8], none⟩]))))))
    (.seq (.reg [⟨.new, (.q .mv), [.t 3], none⟩,
      ⟨.var 1, (.q .mv), [.t 7], none⟩])
    .ret)))))),
    [.t 1]⟩

/-- trefoil/trefoilref04.with (0:h, 1:k, 2:s, 6:, 7:w, 8:i, 9:i, 10:x, 11:y, 12:a, 13:b, 14:c, 15:d, 16:e, 17:f, 18:g, 19:z, 20:i, 21:t, 22:u, 24:, 60:, 130:) -/
def s41 : FnS := ⟨235, [0, 1, 2, 6, 7, 8, 9, 10, 11, 12, 13, 14, 15, 16, 17, 18, 19, 20, 21, 22, 24, 60, 130],
    (.seq (.reg [⟨.var 3, (.q .mv), [.c .nils], none⟩])
    (.seq (.reg [⟨.var 4, (.q .mv), [.c .nils], none⟩])
    (.seq (.seq (.reg [⟨.var 5, (.q .mv), [.c (.int 0)], none⟩])
    (.block 0 (.loop (.seq (.seq (.reg [⟨.new, (.q .mv), [.t 5], none⟩,
      ⟨.var 20, (.q (.bin .lss)), [.t 23, .c (.int 16)], none⟩])
    (.cond (.t 20) .skip
    (.exit 0)))
    (.seq (.block 1 (.draw [⟨.new, (.q .mv), [.t 4], none⟩,
      ⟨.new, (.q .mv), [.t 2], none⟩,
      ⟨.new, (.q .mv), [.t 5], none⟩,
      ⟨.new, (.q (.bin .mul)), [.c (.int 4), .t 25], none⟩,
      ⟨.new, (.q .idxS), [.t 24, .t 26], none⟩,
      ⟨.new, (.q (.cv .u32)), [.t 27], none⟩,
      ⟨.new, (.q (.bin .mul)), [.t 28, .c (.u32 16777216)], none⟩,
      ⟨.new, (.q .mv), [.t 2], none⟩,
      ⟨.new, (.q .mv), [.t 5], none⟩,
      ⟨.new, (.q (.bin .mul)), [.c (.int 4), .t 31], none⟩,
      ⟨.new, (.q (.bin .add)), [.t 32, .c (.int 1)], none⟩,
      ⟨.new, (.q .idxS), [.t 30, .t 33], none⟩,
      ⟨.new, (.q (.cv .u32)), [.t 34], none⟩,
      ⟨.new, (.q (.bin .mul)), [.t 35, .c (.u32 65536)], none⟩,
      ⟨.new, (.q (.bin .add)), [.t 29, .t 36], none⟩,
      ⟨.new, (.q .mv), [.t 2], none⟩,
      ⟨.new, (.q .mv), [.t 5], none⟩,
      ⟨.new, (.q (.bin .mul)), [.c (.int 4), .t 39], none⟩,
      ⟨.new, (.q (.bin .add)), [.t 40, .c (.int 2)], none⟩,
      ⟨.new, (.q .idxS), [.t 38, .t 41], none⟩,
      ⟨.new, (.q (.cv .u32)), [.t 42], none⟩,
      ⟨.new, (.q (.bin .mul)), [.t 43, .c (.u32 256)], none⟩,
      ⟨.new, (.q (.bin .add)), [.t 37, .t 44], none⟩,
      ⟨.new, (.q .mv), [.t 2], none⟩,
      ⟨.new, (.q .mv), [.t 5], none⟩,
      ⟨.new, (.q (.bin .mul)), [.c (.int 4), .t 47], none⟩,
      ⟨.new, (.q (.bin .add)), [.t 48, .c (.int 3)], none⟩,
      ⟨.new, (.q .idxS), [.t 46, .t 49], none⟩,
      ⟨.new, (.q (.cv .u32)), [.t 50], none⟩,
      ⟨.new, (.q (.bin .add)), [.t 45, .t 51], none⟩,
      ⟨.new, (.e (.bsl 23 .leaf (.u32 0) 1 [0])), [.t 52], none⟩,
      ⟨.new, (.e (.app 23 .leaf 4)), [.t 23, .t 53], none⟩,
      ⟨.var 4, (.q .mv), [.t 54], none⟩]))
    (.reg [⟨.new, (.q .mv), [.t 5], none⟩,
      ⟨.new, (.q (.bin .add)), [.t 23, .c (.int 1)], none⟩,
      ⟨.var 5, (.q .mv), [.t 24], none⟩]))))))
    (.seq (.seq (.reg [⟨.var 6, (.q .mv), [.c (.int 16)], none⟩])
    (.block 2 (.loop (.seq (.seq (.reg [⟨.new, (.q .mv), [.t 6], none⟩,
      ⟨.var 21, (.q (.bin .lss)), [.t 23, .c (.int 64)], none⟩])
    (.cond (.t 21) .skip
    (.exit 2)))
    (.seq (.block 3 (.seq (.draw [⟨.new, (.q .mv), [.t 4], none⟩,
      ⟨.new, (.q .mv), [.t 6], none⟩,
      ⟨.new, (.q (.bin .sub)), [.t 24, .c (.int 15)], none⟩,
      ⟨.new, (.q (.iaS .leaf)), [.t 23, .t 25], none⟩,
      ⟨.new, (.q (.ld .leaf)), [.t 26], none⟩,
      ⟨.new, (.q .mv), [.t 4], none⟩,
      ⟨.new, (.q .mv), [.t 6], none⟩,
      ⟨.new, (.q (.bin .sub)), [.t 29, .c (.int 2)], none⟩,
      ⟨.new, (.q (.iaS .leaf)), [.t 28, .t 30], none⟩,
      ⟨.new, (.q (.ld .leaf)), [.t 31], none⟩,
      ⟨.var 7, (.q .mv), [.t 27], none⟩,
      ⟨.var 8, (.q .mv), [.t 32], none⟩])
    (.draw [⟨.new, (.q .mv), [.t 4], none⟩,
      ⟨.new, (.q .mv), [.t 4], none⟩,
      ⟨.new, (.q .mv), [.t 6], none⟩,
      ⟨.new, (.q (.bin .sub)), [.t 25, .c (.int 16)], none⟩,
      ⟨.new, (.q (.iaS .leaf)), [.t 24, .t 26], none⟩,
      ⟨.new, (.q (.ld .leaf)), [.t 27], none⟩,
      ⟨.new, (.q .mv), [.t 7], none⟩,
      ⟨.new, (.call 47), [.t 29, .c (.u64 7)], none⟩,
      ⟨.new, (.q .mv), [.t 7], none⟩,
      ⟨.new, (.call 47), [.t 31, .c (.u64 18)], none⟩,
      ⟨.new, (.q (.bin .xor)), [.t 30, .t 32], none⟩,
      ⟨.new, (.q .mv), [.t 7], none⟩,
      ⟨.new, (.q (.bin .quo)), [.t 34, .c (.u32 8)], none⟩,
      ⟨.new, (.q (.bin .xor)), [.t 33, .t 35], none⟩,
      ⟨.new, (.q (.bin .add)), [.t 28, .t 36], none⟩,
      ⟨.new, (.q .mv), [.t 4], none⟩,
      ⟨.new, (.q .mv), [.t 6], none⟩,
      ⟨.new, (.q (.bin .sub)), [.t 39, .c (.int 7)], none⟩,
      ⟨.new, (.q (.iaS .leaf)), [.t 38, .t 40], none⟩,
      ⟨.new, (.q (.ld .leaf)), [.t 41], none⟩,
      ⟨.new, (.q (.bin .add)), [.t 37, .t 42], none⟩,
      ⟨.new, (.q .mv), [.t 8], none⟩,
      ⟨.new, (.call 47), [.t 44, .c (.u64 17)], none⟩,
      ⟨.new, (.q .mv), [.t 8], none⟩,
      ⟨.new, (.call 47), [.t 46, .c (.u64 19)], none⟩,
      ⟨.new, (.q (.bin .xor)), [.t 45, .t 47], none⟩,
      ⟨.new, (.q .mv), [.t 8], none⟩,
      ⟨.new, (.q (.bin .quo)), [.t 49, .c (.u32 1024)], none⟩,
      ⟨.new, (.q (.bin .xor)), [.t 48, .t 50], none⟩,
      ⟨.new, (.q (.bin .add)), [.t 43, .t 51], none⟩,
      ⟨.new, (.e (.bsl 23 .leaf (.u32 0) 1 [0])), [.t 52], none⟩,
      ⟨.new, (.e (.app 23 .leaf 4)), [.t 23, .t 53], none⟩,
      ⟨.var 4, (.q .mv), [.t 54], none⟩])))
    (.reg [⟨.new, (.q .mv), [.t 6], none⟩,
      ⟨.new, (.q (.bin .add)), [.t 23, .c (.int 1)], none⟩,
      ⟨.var 6, (.q .mv), [.t 24], none⟩]))))))
    (.seq (.draw [⟨.new, (.q .mv), [.t 0], none⟩,
      ⟨.new, (.q (.iaS .leaf)), [.t 23, .c (.int 0)], none⟩,
      ⟨.new, (.q (.ld .leaf)), [.t 24], none⟩,
      ⟨.new, (.q .mv), [.t 0], none⟩,
      ⟨.new, (.q (.iaS .leaf)), [.t 26, .c (.int 1)], none⟩,
      ⟨.new, (.q (.ld .leaf)), [.t 27], none⟩,
      ⟨.new, (.q .mv), [.t 0], none⟩,
      ⟨.new, (.q (.iaS .leaf)), [.t 29, .c (.int 2)], none⟩,
      ⟨.new, (.q (.ld .leaf)), [.t 30], none⟩,
      ⟨.new, (.q .mv), [.t 0], none⟩,
      ⟨.new, (.q (.iaS .leaf)), [.t 32, .c (.int 3)], none⟩,
      ⟨.new, (.q (.ld .leaf)), [.t 33], none⟩,
      ⟨.new, (.q .mv), [.t 0], none⟩,
      ⟨.new, (.q (.iaS .leaf)), [.t 35, .c (.int 4)], none⟩,
      ⟨.new, (.q (.ld .leaf)), [.t 36], none⟩,
      ⟨.new, (.q .mv), [.t 0], none⟩,
      ⟨.new, (.q (.iaS .leaf)), [.t 38, .c (.int 5)], none⟩,
      ⟨.new, (.q (.ld .leaf)), [.t 39], none⟩,
      ⟨.new, (.q .mv), [.t 0], none⟩,
      ⟨.new, (.q (.iaS .leaf)), [.t 41, .c (.int 6)], none⟩,
      ⟨.new, (.q (.ld .leaf)), [.t 42], none⟩,
      ⟨.new, (.q .mv), [.t 0], none⟩,
      ⟨.new, (.q (.iaS .leaf)), [.t 44, .c (.int 7)], none⟩,
      ⟨.new, (.q (.ld .leaf)), [.t 45], none⟩,
      ⟨.var 9, (.q .mv), [.t 25], none⟩,
      ⟨.var 10, (.q .mv), [.t 28], none⟩,
      ⟨.var 11, (.q .mv), [.t 31], none⟩,
      ⟨.var 12, (.q .mv), [.t 34], none⟩,
      ⟨.var 13, (.q .mv), [.t 37], none⟩,
      ⟨.var 14, (.q .mv), [.t 40], none⟩,
      ⟨.var 15, (.q .mv), [.t 43], none⟩,
      ⟨.var 16, (.q .mv), [.t 46], none⟩])
    (.seq (.seq (.reg [⟨.var 17, (.q .mv), [.c (.int 0)], none⟩])
    (.block 4 (.loop (.seq (.seq (.reg [⟨.new, (.q .mv), [.t 17], none⟩,
      ⟨.var 22, (.q (.bin .lss)), [.t 23, .c (.int 64)], none⟩])
    (.cond (.t 22) .skip
    (.exit 4)))
    (.seq (.block 5 (.seq (.draw [⟨.new, (.q .mv), [.t 16], none⟩,
      ⟨.new, (.q .mv), [.t 13], none⟩,
      ⟨.new, (.call 47), [.t 24, .c (.u64 6)], none⟩,
      ⟨.new, (.q .mv), [.t 13], none⟩,
      ⟨.new, (.call 47), [.t 26, .c (.u64 11)], none⟩,
      ⟨.new, (.q (.bin .xor)), [.t 25, .t 27], none⟩,
      ⟨.new, (.q .mv), [.t 13], none⟩,
      ⟨.new, (.call 47), [.t 29, .c (.u64 25)], none⟩,
      ⟨.new, (.q (.bin .xor)), [.t 28, .t 30], none⟩,
      ⟨.new, (.q (.bin .add)), [.t 23, .t 31], none⟩,
      ⟨.new, (.q .mv), [.t 13], none⟩,
      ⟨.new, (.q .mv), [.t 14], none⟩,
      ⟨.new, (.q (.bin .and)), [.t 33, .t 34], none⟩,
      ⟨.new, (.q .mv), [.t 13], none⟩,
      ⟨.new, (.q (.bin .sub)), [.c (.u32 4294967295), .t 36], none⟩,
      ⟨.new, (.q .mv), [.t 15], none⟩,
      ⟨.new, (.q (.bin .and)), [.t 37, .t 38], none⟩,
      ⟨.new, (.q (.bin .xor)), [.t 35, .t 39], none⟩,
      ⟨.new, (.q (.bin .add)), [.t 32, .t 40], none⟩,
      ⟨.new, (.q .mv), [.t 1], none⟩,
      ⟨.new, (.q .mv), [.t 17], none⟩,
      ⟨.new, (.q (.iaS .leaf)), [.t 42, .t 43], none⟩,
      ⟨.new, (.q (.ld .leaf)), [.t 44], none⟩,
      ⟨.new, (.q (.bin .add)), [.t 41, .t 45], none⟩,
      ⟨.new, (.q .mv), [.t 4], none⟩,
      ⟨.new, (.q .mv), [.t 17], none⟩,
      ⟨.new, (.q (.iaS .leaf)), [.t 47, .t 48], none⟩,
      ⟨.new, (.q (.ld .leaf)), [.t 49], none⟩,
      ⟨.new, (.q (.bin .add)), [.t 46, .t 50], none⟩,
      ⟨.var 18, (.q .mv), [.t 51], none⟩])
    (.seq (.reg [⟨.new, (.q .mv), [.t 9], none⟩,
      ⟨.new, (.call 47), [.t 23, .c (.u64 2)], none⟩,
      ⟨.new, (.q .mv), [.t 9], none⟩,
      ⟨.new, (.call 47), [.t 25, .c (.u64 13)], none⟩,
      ⟨.new, (.q (.bin .xor)), [.t 24, .t 26], none⟩,
      ⟨.new, (.q .mv), [.t 9], none⟩,
      ⟨.new, (.call 47), [.t 28, .c (.u64 22)], none⟩,
      ⟨.new, (.q (.bin .xor)), [.t 27, .t 29], none⟩,
      ⟨.new, (.q .mv), [.t 9], none⟩,
      ⟨.new, (.q .mv), [.t 10], none⟩,
      ⟨.new, (.q (.bin .and)), [.t 31, .t 32], none⟩,
      ⟨.new, (.q .mv), [.t 9], none⟩,
      ⟨.new, (.q .mv), [.t 11], none⟩,
      ⟨.new, (.q (.bin .and)), [.t 34, .t 35], none⟩,
      ⟨.new, (.q (.bin .or)), [.t 33, .t 36], none⟩,
      ⟨.new, (.q .mv), [.t 10], none⟩,
      ⟨.new, (.q .mv), [.t 11], none⟩,
      ⟨.new, (.q (.bin .and)), [.t 38, .t 39], none⟩,
      ⟨.new, (.q (.bin .or)), [.t 37, .t 40], none⟩,
      ⟨.new, (.q (.bin .add)), [.t 30, .t 41], none⟩,
      ⟨.var 19, (.q .mv), [.t 42], none⟩])
    (.seq (.reg [⟨.new, (.q .mv), [.t 15], none⟩,
      ⟨.new, (.q .mv), [.t 14], none⟩,
      ⟨.new, (.q .mv), [.t 13], none⟩,
      ⟨.new, (.q .mv), [.t 12], none⟩,
      ⟨.new, (.q .mv), [.t 18], none⟩,
      ⟨.new, (.q (.bin .add)), [.t 26, .t 27], none⟩,
      ⟨.var 16, (.q .mv), [.t 23], none⟩,
      ⟨.var 15, (.q .mv), [.t 24], none⟩,
      ⟨.var 14, (.q .mv), [.t 25], none⟩,
      ⟨.var 13, (.q .mv), [.t 28], none⟩])
    (.reg [⟨.new, (.q .mv), [.t 11], none⟩,
      ⟨.new, (.q .mv), [.t 10], none⟩,
      ⟨.new, (.q .mv), [.t 9], none⟩,
      ⟨.new, (.q .mv), [.t 18], none⟩,
      ⟨.new, (.q .mv), [.t 19], none⟩,
      ⟨.new, (.q (.bin .add)), [.t 26, .t 27], none⟩,
      ⟨.var 12, (.q .mv), [.t 23], none⟩,
      ⟨.var 11, (.q .mv), [.t 24], none⟩,
      ⟨.var 10, (.q .mv), [.t 25], none⟩,
      ⟨.var 9, (.q .mv), [.t 28], none⟩])))))
    (.reg [⟨.new, (.q .mv), [.t 17], none⟩,
      ⟨.new, (.q (.bin .add)), [.t 23, .c (.int 1)], none⟩,
      ⟨.var 17, (.q .mv), [.t 24], none⟩]))))))
    (.seq (.draw [⟨.new, (.q .mv), [.t 0], none⟩,
      ⟨.new, (.q (.iaS .leaf)), [.t 23, .c (.int 0)], none⟩,
      ⟨.new, (.q (.ld .leaf)), [.t 24], none⟩,
      ⟨.new, (.q .mv), [.t 9], none⟩,
      ⟨.new, (.q (.bin .add)), [.t 25, .t 26], none⟩,
      ⟨.new, (.q .mv), [.t 0], none⟩,
      ⟨.new, (.q (.iaS .leaf)), [.t 28, .c (.int 1)], none⟩,
      ⟨.new, (.q (.ld .leaf)), [.t 29], none⟩,
      ⟨.new, (.q .mv), [.t 10], none⟩,
      ⟨.new, (.q (.bin .add)), [.t 30, .t 31], none⟩,
      ⟨.new, (.q .mv), [.t 0], none⟩,
      ⟨.new, (.q (.iaS .leaf)), [.t 33, .c (.int 2)], none⟩,
      ⟨.new, (.q (.ld .leaf)), [.t 34], none⟩,
      ⟨.new, (.q .mv), [.t 11], none⟩,
      ⟨.new, (.q (.bin .add)), [.t 35, .t 36], none⟩,
      ⟨.new, (.q .mv), [.t 0], none⟩,
      ⟨.new, (.q (.iaS .leaf)), [.t 38, .c (.int 3)], none⟩,
      ⟨.new, (.q (.ld .leaf)), [.t 39], none⟩,
      ⟨.new, (.q .mv), [.t 12], none⟩,
      ⟨.new, (.q (.bin .add)), [.t 40, .t 41], none⟩,
      ⟨.new, (.q .mv), [.t 0], none⟩,
      ⟨.new, (.q (.iaS .leaf)), [.t 43, .c (.int 4)], none⟩,
      ⟨.new, (.q (.ld .leaf)), [.t 44], none⟩,
      ⟨.new, (.q .mv), [.t 13], none⟩,
      ⟨.new, (.q (.bin .add)), [.t 45, .t 46], none⟩,
      ⟨.new, (.q .mv), [.t 0], none⟩,
      ⟨.new, (.q (.iaS .leaf)), [.t 48, .c (.int 5)], none⟩,
      ⟨.new, (.q (.ld .leaf)), [.t 49], none⟩,
      ⟨.new, (.q .mv), [.t 14], none⟩,
      ⟨.new, (.q (.bin .add)), [.t 50, .t 51], none⟩,
      ⟨.new, (.q .mv), [.t 0], none⟩,
      ⟨.new, (.q (.iaS .leaf)), [.t 53, .c (.int 6)], none⟩,
      ⟨.new, (.q (.ld .leaf)), [.t 54], none⟩,
      ⟨.new, (.q .mv), [.t 15], none⟩,
      ⟨.new, (.q (.bin .add)), [.t 55, .t 56], none⟩,
      ⟨.new, (.q .mv), [.t 0], none⟩,
      ⟨.new, (.q (.iaS .leaf)), [.t 58, .c (.int 7)], none⟩,
      ⟨.new, (.q (.ld .leaf)), [.t 59], none⟩,
      ⟨.new, (.q .mv), [.t 16], none⟩,
      ⟨.new, (.q (.bin .add)), [.t 60, .t 61], none⟩,
      ⟨.new, (.e (.bsl 23 .leaf (.u32 0) 8 [0, 1, 2, 3, 4, 5, 6, 7])), [.t 27, .t 32, .t 37, .t 42, .t 47, .t 52, .t 57, .t 62], none⟩,
      ⟨.var 3, (.q .mv), [.t 63], none⟩])
    .ret))))))),
    [.t 3]⟩

/-- trefoil/trefoilref04.prime (0:n, 2:, 3:d, 8:, 14:) -/
def s45 : FnS := ⟨17, [0, 2, 3, 8, 14],
    (.seq (.reg [⟨.var 1, (.q .mv), [.c (.bool false)], none⟩])
    (.seq (.seq (.reg [⟨.var 2, (.q .mv), [.c (.u64 2)], none⟩])
    (.block 0 (.loop (.seq (.seq (.reg [⟨.new, (.q .mv), [.t 2], none⟩,
      ⟨.new, (.q .mv), [.t 2], none⟩,
      ⟨.new, (.q (.bin .mul)), [.t 5, .t 6], none⟩,
      ⟨.new, (.q .mv), [.t 0], none⟩,
      ⟨.var 3, (.q (.bin .leq)), [.t 7, .t 8], none⟩])
    (.cond (.t 3) .skip
    (.exit 0)))
    (.seq (.block 1 (.seq (.reg [⟨.new, (.q .mv), [.t 0], none⟩,
      ⟨.new, (.q .mv), [.t 2], none⟩,
      ⟨.new, (.q (.bin .rem)), [.t 5, .t 6], none⟩,
      ⟨.var 4, (.q (.bin .eql)), [.t 7, .c (.u64 0)], none⟩])
    (.cond (.t 4) (.seq (.reg [⟨.var 1, (.q .mv), [.c (.bool false)], none⟩])
    .ret)
    .skip)))
    (.reg [⟨.new, (.q .mv), [.t 2], none⟩,
      ⟨.new, (.q (.bin .add)), [.t 5, .c (.u64 1)], none⟩,
      ⟨.var 2, (.q .mv), [.t 6], none⟩]))))))
    (.seq (.reg [⟨.new, (.q .mv), [.t 0], none⟩,
      ⟨.new, (.q (.bin .gtr)), [.t 5, .c (.u64 1)], none⟩,
      ⟨.var 1, (.q .mv), [.t 6], none⟩])
    .ret))),
    [.t 1]⟩

/-- trefoil/trefoilref04.cube (0:x, 1:n, 4:, 5:h, 6:l, 7:a, 8:b, 9:c, 10:d, 11:e, 12:i, 13:i, 14:f, 15:i, 51:, 79:, 109:, 118:) -/
def s46 : FnS := ⟨126, [0, 1, 4, 5, 6, 7, 8, 9, 10, 11, 12, 13, 14, 15, 51, 79, 109, 118],
    (.seq (.reg [⟨.var 2, (.q .mv), [.c (.bool false)], none⟩])
    (.seq (.reg [⟨.new, (.q .mv), [.t 0], none⟩,
      ⟨.new, (.q (.bin .shr)), [.t 18, .c (.u64 18)], none⟩,
      ⟨.new, (.q .mv), [.t 0], none⟩,
      ⟨.new, (.q (.bin .and)), [.t 20, .c (.u64 262143)], none⟩,
      ⟨.var 3, (.q .mv), [.t 19], none⟩,
      ⟨.var 4, (.q .mv), [.t 21], none⟩])
    (.seq (.reg [⟨.new, (.q .mv), [.t 3], none⟩,
      ⟨.new, (.q .mv), [.t 3], none⟩,
      ⟨.new, (.q (.bin .mul)), [.t 18, .t 19], none⟩,
      ⟨.new, (.q .mv), [.t 3], none⟩,
      ⟨.new, (.q (.bin .mul)), [.c (.u64 2), .t 21], none⟩,
      ⟨.new, (.q .mv), [.t 4], none⟩,
      ⟨.new, (.q (.bin .mul)), [.t 22, .t 23], none⟩,
      ⟨.new, (.q .mv), [.t 4], none⟩,
      ⟨.new, (.q .mv), [.t 4], none⟩,
      ⟨.new, (.q (.bin .mul)), [.t 25, .t 26], none⟩,
      ⟨.var 5, (.q .mv), [.t 20], none⟩,
      ⟨.var 6, (.q .mv), [.t 24], none⟩,
      ⟨.var 7, (.q .mv), [.t 27], none⟩])
    (.seq (.reg [⟨.var 8, (.e (.alloc 94 (.arr 8 .leaf) (.agg [(.u64 0), (.u64 0), (.u64 0), (.u64 0), (.u64 0), (.u64 0), (.u64 0), (.u64 0)]))), [], none⟩])
    (.seq (.reg [⟨.new, (.q .mv), [.t 7], none⟩,
      ⟨.new, (.q (.bin .and)), [.t 18, .c (.u64 262143)], none⟩,
      ⟨.new, (.q (.iaA 8 .leaf)), [.t 8, .c (.int 0)], none⟩,
      ⟨.none, (.e (.store .leaf)), [.t 20, .t 19], none⟩])
    (.seq (.reg [⟨.new, (.q .mv), [.t 6], none⟩,
      ⟨.new, (.q .mv), [.t 7], none⟩,
      ⟨.new, (.q (.bin .shr)), [.t 19, .c (.u64 18)], none⟩,
      ⟨.new, (.q (.bin .add)), [.t 18, .t 20], none⟩,
      ⟨.var 6, (.q .mv), [.t 21], none⟩])
    (.seq (.reg [⟨.new, (.q .mv), [.t 6], none⟩,
      ⟨.new, (.q (.bin .and)), [.t 18, .c (.u64 262143)], none⟩,
      ⟨.new, (.q (.iaA 8 .leaf)), [.t 8, .c (.int 1)], none⟩,
      ⟨.none, (.e (.store .leaf)), [.t 20, .t 19], none⟩])
    (.seq (.reg [⟨.new, (.q .mv), [.t 5], none⟩,
      ⟨.new, (.q .mv), [.t 6], none⟩,
      ⟨.new, (.q (.bin .shr)), [.t 19, .c (.u64 18)], none⟩,
      ⟨.new, (.q (.bin .add)), [.t 18, .t 20], none⟩,
      ⟨.var 5, (.q .mv), [.t 21], none⟩])
    (.seq (.reg [⟨.new, (.q .mv), [.t 5], none⟩,
      ⟨.new, (.q (.bin .and)), [.t 18, .c (.u64 262143)], none⟩,
      ⟨.new, (.q (.iaA 8 .leaf)), [.t 8, .c (.int 2)], none⟩,
      ⟨.none, (.e (.store .leaf)), [.t 20, .t 19], none⟩])
    (.seq (.reg [⟨.new, (.q .mv), [.t 5], none⟩,
      ⟨.new, (.q (.bin .shr)), [.t 18, .c (.u64 18)], none⟩,
      ⟨.new, (.q (.iaA 8 .leaf)), [.t 8, .c (.int 3)], none⟩,
      ⟨.none, (.e (.store .leaf)), [.t 20, .t 19], none⟩])
    (.seq (.reg [⟨.var 9, (.e (.alloc 94 (.arr 8 .leaf) (.agg [(.u64 0), (.u64 0), (.u64 0), (.u64 0), (.u64 0), (.u64 0), (.u64 0), (.u64 0)]))), [], none⟩])
    (.seq (.seq (.reg [⟨.var 10, (.q .mv), [.c (.int 0)], none⟩])
    (.block 0 (.loop (.seq (.seq (.reg [⟨.new, (.q .mv), [.t 10], none⟩,
      ⟨.var 14, (.q (.bin .lss)), [.t 18, .c (.int 4)], none⟩])
    (.cond (.t 14) .skip
    (.exit 0)))
    (.seq (.block 1 (.seq (.draw [⟨.new, (.q .mv), [.t 10], none⟩,
      ⟨.new, (.q .mv), [.t 10], none⟩,
      ⟨.new, (.q (.iaA 8 .leaf)), [.t 9, .t 19], none⟩,
      ⟨.new, (.q (.ld .leaf)), [.t 20], none⟩,
      ⟨.new, (.q .mv), [.t 10], none⟩,
      ⟨.new, (.q (.iaA 8 .leaf)), [.t 8, .t 22], none⟩,
      ⟨.new, (.q (.ld .leaf)), [.t 23], none⟩,
      ⟨.new, (.q .mv), [.t 4], none⟩,
      ⟨.new, (.q (.bin .mul)), [.t 24, .t 25], none⟩,
      ⟨.new, (.q (.bin .add)), [.t 21, .t 26], none⟩,
      ⟨.new, (.q (.iaA 8 .leaf)), [.t 9, .t 18], none⟩,
      ⟨.none, (.e (.store .leaf)), [.t 28, .t 27], none⟩])
    (.draw [⟨.new, (.q .mv), [.t 10], none⟩,
      ⟨.new, (.q (.bin .add)), [.t 18, .c (.int 1)], none⟩,
      ⟨.new, (.q .mv), [.t 10], none⟩,
      ⟨.new, (.q (.bin .add)), [.t 20, .c (.int 1)], none⟩,
      ⟨.new, (.q (.iaA 8 .leaf)), [.t 9, .t 21], none⟩,
      ⟨.new, (.q (.ld .leaf)), [.t 22], none⟩,
      ⟨.new, (.q .mv), [.t 10], none⟩,
      ⟨.new, (.q (.iaA 8 .leaf)), [.t 8, .t 24], none⟩,
      ⟨.new, (.q (.ld .leaf)), [.t 25], none⟩,
      ⟨.new, (.q .mv), [.t 3], none⟩,
      ⟨.new, (.q (.bin .mul)), [.t 26, .t 27], none⟩,
      ⟨.new, (.q (.bin .add)), [.t 23, .t 28], none⟩,
      ⟨.new, (.q (.iaA 8 .leaf)), [.t 9, .t 19], none⟩,
      ⟨.none, (.e (.store .leaf)), [.t 30, .t 29], none⟩])))
    (.reg [⟨.new, (.q .mv), [.t 10], none⟩,
      ⟨.new, (.q (.bin .add)), [.t 18, .c (.int 1)], none⟩,
      ⟨.var 10, (.q .mv), [.t 19], none⟩]))))))
    (.seq (.seq (.reg [⟨.var 11, (.q .mv), [.c (.int 0)], none⟩])
    (.block 2 (.loop (.seq (.seq (.reg [⟨.new, (.q .mv), [.t 11], none⟩,
      ⟨.var 15, (.q (.bin .lss)), [.t 18, .c (.int 7)], none⟩])
    (.cond (.t 15) .skip
    (.exit 2)))
    (.seq (.block 3 (.seq (.draw [⟨.new, (.q .mv), [.t 11], none⟩,
      ⟨.new, (.q (.bin .add)), [.t 18, .c (.int 1)], none⟩,
      ⟨.new, (.q .mv), [.t 11], none⟩,
      ⟨.new, (.q (.bin .add)), [.t 20, .c (.int 1)], none⟩,
      ⟨.new, (.q (.iaA 8 .leaf)), [.t 9, .t 21], none⟩,
      ⟨.new, (.q (.ld .leaf)), [.t 22], none⟩,
      ⟨.new, (.q .mv), [.t 11], none⟩,
      ⟨.new, (.q (.iaA 8 .leaf)), [.t 9, .t 24], none⟩,
      ⟨.new, (.q (.ld .leaf)), [.t 25], none⟩,
      ⟨.new, (.q (.bin .shr)), [.t 26, .c (.u64 18)], none⟩,
      ⟨.new, (.q (.bin .add)), [.t 23, .t 27], none⟩,
      ⟨.new, (.q (.iaA 8 .leaf)), [.t 9, .t 19], none⟩,
      ⟨.none, (.e (.store .leaf)), [.t 29, .t 28], none⟩])
    (.reg [⟨.new, (.q .mv), [.t 11], none⟩,
      ⟨.new, (.q .mv), [.t 11], none⟩,
      ⟨.new, (.q (.iaA 8 .leaf)), [.t 9, .t 19], none⟩,
      ⟨.new, (.q (.ld .leaf)), [.t 20], none⟩,
      ⟨.new, (.q (.bin .and)), [.t 21, .c (.u64 262143)], none⟩,
      ⟨.new, (.q (.iaA 8 .leaf)), [.t 9, .t 18], none⟩,
      ⟨.none, (.e (.store .leaf)), [.t 23, .t 22], none⟩])))
    (.reg [⟨.new, (.q .mv), [.t 11], none⟩,
      ⟨.new, (.q (.bin .add)), [.t 18, .c (.int 1)], none⟩,
      ⟨.var 11, (.q .mv), [.t 19], none⟩]))))))
    (.seq (.reg [⟨.var 12, (.e (.alloc 94 (.arr 8 .leaf) (.agg [(.u64 0), (.u64 0), (.u64 0), (.u64 0), (.u64 0), (.u64 0), (.u64 0), (.u64 0)]))), [], none⟩])
    (.seq (.reg [⟨.new, (.q .mv), [.t 1], none⟩,
      ⟨.new, (.q (.bin .mul)), [.t 18, .c (.u64 64)], none⟩,
      ⟨.new, (.q (.bin .and)), [.t 19, .c (.u64 262143)], none⟩,
      ⟨.new, (.q (.iaA 8 .leaf)), [.t 12, .c (.int 5)], none⟩,
      ⟨.none, (.e (.store .leaf)), [.t 21, .t 20], none⟩])
    (.seq (.reg [⟨.new, (.q .mv), [.t 1], none⟩,
      ⟨.new, (.q (.bin .mul)), [.t 18, .c (.u64 64)], none⟩,
      ⟨.new, (.q (.bin .shr)), [.t 19, .c (.u64 18)], none⟩,
      ⟨.new, (.q (.iaA 8 .leaf)), [.t 12, .c (.int 6)], none⟩,
      ⟨.none, (.e (.store .leaf)), [.t 21, .t 20], none⟩])
    (.seq (.seq (.reg [⟨.var 13, (.q .mv), [.c (.int 7)], none⟩])
    (.block 4 (.loop (.seq (.seq (.reg [⟨.new, (.q .mv), [.t 13], none⟩,
      ⟨.var 16, (.q (.bin .geq)), [.t 18, .c (.int 0)], none⟩])
    (.cond (.t 16) .skip
    (.exit 4)))
    (.seq (.block 5 (.seq (.draw [⟨.new, (.q .mv), [.t 13], none⟩,
      ⟨.new, (.q (.iaA 8 .leaf)), [.t 9, .t 18], none⟩,
      ⟨.new, (.q (.ld .leaf)), [.t 19], none⟩,
      ⟨.new, (.q .mv), [.t 13], none⟩,
      ⟨.new, (.q (.iaA 8 .leaf)), [.t 12, .t 21], none⟩,
      ⟨.new, (.q (.ld .leaf)), [.t 22], none⟩,
      ⟨.var 17, (.q (.bin .neq)), [.t 20, .t 23], none⟩])
    (.cond (.t 17) (.seq (.draw [⟨.new, (.q .mv), [.t 13], none⟩,
      ⟨.new, (.q (.iaA 8 .leaf)), [.t 9, .t 18], none⟩,
      ⟨.new, (.q (.ld .leaf)), [.t 19], none⟩,
      ⟨.new, (.q .mv), [.t 13], none⟩,
      ⟨.new, (.q (.iaA 8 .leaf)), [.t 12, .t 21], none⟩,
      ⟨.new, (.q (.ld .leaf)), [.t 22], none⟩,
      ⟨.new, (.q (.bin .lss)), [.t 20, .t 23], none⟩,
      ⟨.var 2, (.q .mv), [.t 24], none⟩])
    .ret)
    .skip)))
    (.reg [⟨.new, (.q .mv), [.t 13], none⟩,
      ⟨.new, (.q (.bin .sub)), [.t 18, .c (.int 1)], none⟩,
      ⟨.var 13, (.q .mv), [.t 19], none⟩]))))))
    (.seq (.reg [⟨.var 2, (.q .mv), [.c (.bool true)], none⟩])
    .ret)))))))))))))))))),
    [.t 2]⟩

/-- trefoil/trefoilref04.right (0:x, 1:n, 4:) -/
def s47 : FnS := ⟨13, [0, 1, 4],
    (.seq (.reg [⟨.var 2, (.q .mv), [.c (.u32 0)], none⟩])
    (.seq (.reg [⟨.new, (.q .mv), [.t 0], none⟩,
      ⟨.new, (.q .mv), [.t 1], none⟩,
      ⟨.new, (.q (.bin .shr)), [.t 3, .t 4], none⟩,
      ⟨.new, (.q .mv), [.t 0], none⟩,
      ⟨.new, (.q .mv), [.t 1], none⟩,
      ⟨.new, (.q (.bin .sub)), [.c (.u64 32), .t 7], none⟩,
      ⟨.new, (.q (.bin .shl)), [.t 6, .t 8], none⟩,
      ⟨.new, (.q (.bin .or)), [.t 5, .t 9], none⟩,
      ⟨.var 2, (.q .mv), [.t 10], none⟩])
    .ret)),
    [.t 2]⟩

set_option maxRecDepth 100000
set_option linter.unusedSimpArgs false
set_option linter.unusedVariables false
theorem c28 : cF P G (drP P G) 28 2 s28.vm = some s28 := by kernel_rfl
theorem c30 : cF P G (drP P G) 30 2 s30.vm = some s30 := by kernel_rfl
theorem c34 : cF P G (drP P G) 34 1 s34.vm = some s34 := by kernel_rfl
theorem c35 : cF P G (drP P G) 35 1 s35.vm = some s35 := by kernel_rfl
theorem c36 : cF P G (drP P G) 36 2 s36.vm = some s36 := by kernel_rfl
theorem c39 : cF P G (drP P G) 39 0 s39.vm = some s39 := by kernel_rfl
theorem c40 : cF P G (drP P G) 40 1 s40.vm = some s40 := by kernel_rfl
theorem c41 : cF P G (drP P G) 41 3 s41.vm = some s41 := by kernel_rfl
theorem c45 : cF P G (drP P G) 45 1 s45.vm = some s45 := by kernel_rfl
theorem c46 : cF P G (drP P G) 46 2 s46.vm = some s46 := by kernel_rfl
theorem c47 : cF P G (drP P G) 47 2 s47.vm = some s47 := by kernel_rfl
theorem f47 {K : AV → Heap → Prop} {H : Heap} {x : BitVec 32} {n : Nat} {k : BitVec 64} (h1 : k.toNat = n) (h2 : ((32 : BitVec 64) - k).toNat = 32 - n) (h : K (.u32 (ror x n)) H) : wpF P G 47 [.u32 x, .u64 k] H K := by
  refine wpF_go c47 rfl 3 ?_
  intro ha hb
  simp only [s47]
  (refine gw2 @h1 @h2 ?_; try exact True.intro)
  exact h
theorem g64 {e : List (BitVec 64)} {i : Nat} (he : e.length = 8) (h : i < 8) : (e.map AV.u64)[i]? = some (.u64 (e.getD i 0)) := by
  rw [List.getElem?_map, List.getElem?_eq_getElem (by omega), List.getD_eq_getElem?_getD, List.getElem?_eq_getElem (by omega)]
  rfl
theorem set64 {e : List (BitVec 64)} {i : Nat} {v : BitVec 64} : (e.map AV.u64).set i (.u64 v) = (e.set i v).map .u64 := by rw [List.map_set]
def eB (l : List (BitVec 64)) : Option Blk := some ⟨94, 0, false, .arr 1 (.arr 8 .leaf), .agg [.agg (l.map .u64)]⟩
def J29a (x n : BitVec 64) (a b c : BitVec 64) (H : Heap) (k : Nat) (st : St) : Prop :=
  ∃ (i : Nat) (u14 : AV), st = ⟨[.u64 x, .u64 n, .bool false, .u64 (x >>> 18), .u64 (x &&& 262143), .u64 a, .u64 b, .u64 c, .ptr H.length 0 [0] (.arr 8 .leaf), .ptr (H.length + 1) 0 [0] (.arr 8 .leaf), .int (i : Int), .un, .un, .un, u14, .un, .un, .un],
    H ++ [eB (sqD x), eB (itA (x &&& 262143) (x >>> 18) (sqD x) i)]⟩ ∧ k = 4 - i ∧ i ≤ 4
def J29b (x n : BitVec 64) (a b c : BitVec 64) (e : List (BitVec 64)) (H : Heap) (k : Nat) (st : St) : Prop :=
  ∃ (i : Nat) (u15 : AV), st = ⟨[.u64 x, .u64 n, .bool false, .u64 (x >>> 18), .u64 (x &&& 262143), .u64 a, .u64 b, .u64 c, .ptr H.length 0 [0] (.arr 8 .leaf), .ptr (H.length + 1) 0 [0] (.arr 8 .leaf), .int 4, .int (i : Int), .un, .un, .bool false, u15, .un, .un],
    H ++ [eB (sqD x), eB (itB e i)]⟩ ∧ k = 7 - i ∧ i ≤ 7
def J29c (x n : BitVec 64) (a b c : BitVec 64) (e f : List (BitVec 64)) (H : Heap) (k : Nat) (st : St) : Prop :=
  ∃ (z : Int) (u16 u17 : AV), st = ⟨[.u64 x, .u64 n, .bool false, .u64 (x >>> 18), .u64 (x &&& 262143), .u64 a, .u64 b, .u64 c, .ptr H.length 0 [0] (.arr 8 .leaf), .ptr (H.length + 1) 0 [0] (.arr 8 .leaf), .int 4, .int 7, .ptr (H.length + 2) 0 [0] (.arr 8 .leaf), .int z, .bool false, .bool false, u16, u17],
    H ++ [eB (sqD x), eB e, eB f]⟩ ∧ z = (k : Int) - 1 ∧ k ≤ 8 ∧ cm e f 8 = cm e f k
theorem f46 {K : AV → Heap → Prop} {H : Heap} {x n : BitVec 64} (h : K (.bool (cubeF x n)) H) : wpF P G 46 [.u64 x, .u64 n] H K := by
  refine wpF_go c46 rfl 3 ?_
  intro ha hb
  simp only [s46]
  clear ha hb
  (refine gw0 ?_; try exact True.intro)
  refine wp_inv (J29a x n _ _ _ H) 4 ⟨0, _, rfl, rfl, by omega⟩ ?_
  generalize x >>> 18 * x >>> 18 + (2 * x >>> 18 * (x &&& 262143) + ((x &&& 262143) * (x &&& 262143)) >>> 18) >>> 18 = a
  generalize 2 * x >>> 18 * (x &&& 262143) + ((x &&& 262143) * (x &&& 262143)) >>> 18 = b
  generalize (x &&& 262143) * (x &&& 262143) = c
  unfold cubeF at h
  rintro k st ⟨i, u14, rfl, rfl, hi⟩
  have ld : (sqD x).length = 8 := rfl
  by_cases hil : i < 4
  · have h1 : ((i : Int) < 4) = True := by simp only [eq_iff_iff, iff_true]; omega
    have le := itA_len (l := x &&& 262143) (h := x >>> 18) (d := sqD x) (i := i)
    have hnext : itA (x &&& 262143) (x >>> 18) (sqD x) (i + 1) = stA2 (x &&& 262143) (x >>> 18) (sqD x) (itA (x &&& 262143) (x >>> 18) (sqD x) i) i := rfl
    unfold eB
    generalize itA (x &&& 262143) (x >>> 18) (sqD x) i = e at *
    have gd := g64 (e := sqD x) (i := i) ld (by omega)
    have ge := g64 (e := e) (i := i) le (by omega)
    have hs : (e.map AV.u64).set i (.u64 (e.getD i 0 + (sqD x).getD i 0 * (x &&& 262143))) = (stA1 (x &&& 262143) (x >>> 18) (sqD x) e i).map .u64 := set64
    have l1 : (stA1 (x &&& 262143) (x >>> 18) (sqD x) e i).length = 8 := by unfold stA1; rw [List.length_set, le]
    have g2 := g64 (i := i + 1) l1 (by omega)
    have hs2 : ((stA1 (x &&& 262143) (x >>> 18) (sqD x) e i).map AV.u64).set (i + 1) (.u64 ((stA1 (x &&& 262143) (x >>> 18) (sqD x) e i).getD (i + 1) 0 + (sqD x).getD i 0 * (x >>> 18))) = (stA2 (x &&& 262143) (x >>> 18) (sqD x) e i).map .u64 := set64
    have e1 : (i : Int) + 1 = ((i + 1 : Nat) : Int) := rfl
    generalize stA1 (x &&& 262143) (x >>> 18) (sqD x) e i = e' at *
    generalize stA2 (x &&& 262143) (x >>> 18) (sqD x) e i = e'' at *
    generalize hsq : sqD x = d at *
    (refine gw7 @h1 @gd @ge @hs @g2 @hs2 @e1 ?_; try exact True.intro)
    (repeat (refine And.intro (by omega) ?_))
    exact ⟨4 - (i + 1), by omega, i + 1, _, by rw [hsq, hnext]; rfl, rfl, by omega⟩
  · have h1 : ((i : Int) < 4) = False := by simp only [eq_iff_iff, iff_false]; omega
    have hie : i = 4 := by omega
    subst hie
    have le := itA_len (l := x &&& 262143) (h := x >>> 18) (d := sqD x) (i := 4)
    generalize itA (x &&& 262143) (x >>> 18) (sqD x) 4 = e at *
    (refine gw1 @h1 ?_; try exact True.intro)
    (refine gw0 ?_; try exact True.intro)
    refine wp_inv (J29b x n a b c e H) 7 ⟨0, _, rfl, rfl, by omega⟩ ?_
    rintro k st ⟨i, u15, rfl, rfl, hi⟩
    by_cases hil : i < 7
    · have h1 : ((i : Int) < 7) = True := by simp only [eq_iff_iff, iff_true]; omega
      have le := itB_len (e := e) (i := i)
      have hnext : itB e (i + 1) = stB2 (itB e i) i := rfl
      unfold eB
      generalize itB e i = r at *
      have l0 : r.length = 8 := by omega
      have ge := g64 (e := r) (i := i) l0 (by omega)
      have ge1 := g64 (e := r) (i := i + 1) l0 (by omega)
      have hs : (r.map AV.u64).set (i + 1) (.u64 (r.getD (i + 1) 0 + r.getD i 0 >>> 18)) = (stB1 r i).map .u64 := set64
      have l1 : (stB1 r i).length = 8 := by unfold stB1; rw [List.length_set, l0]
      have g2 := g64 (i := i) l1 (by omega)
      have hs2 : ((stB1 r i).map AV.u64).set i (.u64 ((stB1 r i).getD i 0 &&& 262143)) = (stB2 r i).map .u64 := set64
      have e1 : (i : Int) + 1 = ((i + 1 : Nat) : Int) := rfl
      generalize stB1 r i = e' at *
      generalize stB2 r i = e'' at *
      (refine gw7 @h1 @ge @ge1 @hs @g2 @hs2 @e1 ?_; try exact True.intro)
      (repeat (refine And.intro (by omega) ?_))
      exact ⟨7 - (i + 1), by omega, i + 1, _, by rw [hnext]; rfl, rfl, by omega⟩
    · have h1 : ((i : Int) < 7) = False := by simp only [eq_iff_iff, iff_false]; omega
      have hie : i = 7 := by omega
      subst hie
      have le := itB_len (e := e) (i := 7)
      generalize itB e 7 = r at *
      (refine gw1 @h1 ?_; try exact True.intro)
      unfold eB
      (refine gw0 ?_; try exact True.intro)
      refine wp_inv (J29c x n a b c r (fD n) H) 8 ⟨7, _, _, rfl, rfl, by omega, rfl⟩ ?_
      have lf : (fD n).length = 8 := rfl
      generalize fD n = f at *
      rintro k st ⟨z, u16, u17, rfl, hz, hk, hcm⟩
      unfold eB
      cases k with
      | zero =>
        have h1 : (0 ≤ z) = False := by simp only [eq_iff_iff, iff_false]; omega
        rw [hcm] at h
        (refine gw1 @h1 ?_; try exact True.intro)
        exact h
      | succ i =>
        obtain rfl : z = (i : Int) := by omega
        have h1 : (0 ≤ (i : Int)) = True := by simp only [eq_iff_iff, iff_true]; omega
        have ge := g64 (e := r) (i := i) (by omega) (by omega)
        have gf := g64 (e := f) (i := i) lf (by omega)
        by_cases hne : r.getD i 0 = f.getD i 0
        · have h2 : (r.getD i 0 = f.getD i 0) = True := by simp only [eq_iff_iff, iff_true]; exact hne
          (refine gw4 @h1 @ge @gf @h2 ?_; try exact True.intro)
          (repeat (refine And.intro (by omega) ?_))
          exact ⟨i, by omega, _, _, _, rfl, rfl, by omega, by rw [hcm, cm, if_pos hne]⟩
        · have h2 : (r.getD i 0 = f.getD i 0) = False := by simp only [eq_iff_iff, iff_false]; exact hne
          rw [hcm, cm, if_neg hne] at h
          (refine gw4 @h1 @ge @gf @h2 ?_; try exact True.intro)
          (repeat (refine And.intro (by omega) ?_))
          exact h

/-! which numbers are prime -/
theorem ofNat_le64 {a b : Nat} (ha : a < 2 ^ 64) (hb : b < 2 ^ 64) : (BitVec.ofNat 64 a ≤ BitVec.ofNat 64 b) = (a ≤ b) := by
  rw [BitVec.le_def, BitVec.toNat_ofNat, BitVec.toNat_ofNat, Nat.mod_eq_of_lt ha, Nat.mod_eq_of_lt hb]
theorem ofNat_mul64 (a b : Nat) : BitVec.ofNat 64 a * BitVec.ofNat 64 b = BitVec.ofNat 64 (a * b) := (BitVec.ofNat_mul a b).symm
theorem ofNat_rem64 {a b : Nat} (ha : a < 2 ^ 64) (hb : b < 2 ^ 64) : BitVec.ofNat 64 a % BitVec.ofNat 64 b = BitVec.ofNat 64 (a % b) := by
  apply BitVec.eq_of_toNat_eq
  have h1 : a % b ≤ a := Nat.mod_le _ _
  rw [BitVec.toNat_umod, BitVec.toNat_ofNat, BitVec.toNat_ofNat, BitVec.toNat_ofNat, Nat.mod_eq_of_lt ha, Nat.mod_eq_of_lt hb, Nat.mod_eq_of_lt (show a % b < 2 ^ 64 by omega)]
theorem ofNat_zero64 {a : Nat} (ha : a < 2 ^ 64) : (BitVec.ofNat 64 a = 0) = (a = 0) := by
  rw [← BitVec.toNat_inj, BitVec.toNat_ofNat, Nat.mod_eq_of_lt ha]; rfl
def Ix28 (n : Nat) (H : Heap) (k : Nat) (st : St) : Prop :=
  ∃ (d : Nat) (u3 u4 : AV), st = ⟨[.u64 (BitVec.ofNat 64 n), .bool false, .u64 (BitVec.ofNat 64 d), u3, u4], H⟩ ∧ 2 ≤ d ∧ d ≤ 33 ∧ d + k = 42 ∧ prD n d k = isP n
theorem f45 {K : AV → Heap → Prop} {H : Heap} {n : Nat} (hn : n ≤ 1000) (h : K (.bool (isP n)) H) : wpF P G 45 [.u64 (BitVec.ofNat 64 n)] H K := by
  refine wpF_go c45 rfl 3 ?_
  intro ha hb
  simp only [s45]
  (refine gw0 ?_; try exact True.intro)
  refine wp_inv (Ix28 n H) 40 ⟨2, _, _, rfl, by omega, by omega, by omega, rfl⟩ ?_
  rintro k st ⟨d, u3, u4, rfl, h2, h33, hk, hp⟩
  have hdd : d * d ≤ 33 * 33 := Nat.mul_le_mul h33 h33
  have e1 := ofNat_mul64 d d
  have hr : n % d ≤ n := Nat.mod_le _ _
  have e3 := ofNat_rem64 (a := n) (b := d) (by omega) (by omega)
  have e4 : BitVec.ofNat 64 d + 1 = BitVec.ofNat 64 (d + 1) := (BitVec.ofNat_add d 1).symm
  have hd0 : ¬ BitVec.ofNat 64 d = 0 := by rw [ofNat_zero64 (by omega)]; omega
  cases k with
  | zero => omega
  | succ k =>
    rw [prD] at hp
    by_cases hle : d * d ≤ n
    · rw [if_pos hle] at hp
      have e2 : (BitVec.ofNat 64 (d * d) ≤ BitVec.ofNat 64 n) = True := by rw [ofNat_le64 (by omega) (by omega)]; simp only [eq_iff_iff, iff_true]; exact hle
      by_cases h0 : n % d = 0
      · rw [if_pos h0] at hp
        have e5 : (BitVec.ofNat 64 (n % d) = 0) = True := by rw [ofNat_zero64 (by omega)]; simp only [eq_iff_iff, iff_true]; exact h0
        rw [← hp] at h
        (refine gw4 @e1 @e2 @e3 @e5 ?_; try exact True.intro)
        exact ⟨hd0, h⟩
      · rw [if_neg h0] at hp
        have e5 : (BitVec.ofNat 64 (n % d) = 0) = False := by rw [ofNat_zero64 (by omega)]; simp only [eq_iff_iff, iff_false]; exact h0
        have hd32 : d ≤ 32 := by
          rcases Nat.lt_or_ge 32 d with hg | hg
          · have : 33 * 33 ≤ d * d := Nat.mul_le_mul hg hg
            omega
          · exact hg
        (refine gw5 @e1 @e2 @e3 @e5 @e4 ?_; try exact True.intro)
        exact ⟨hd0, k, by omega, d + 1, _, _, rfl, by omega, by omega, by omega, hp⟩
    · rw [if_neg hle] at hp
      have e2 : (BitVec.ofNat 64 (d * d) ≤ BitVec.ofNat 64 n) = False := by rw [ofNat_le64 (by omega) (by omega)]; simp only [eq_iff_iff, iff_false]; exact hle
      rw [← hp] at h
      (refine gw2 @e1 @e2 ?_; try exact True.intro)
      have e6 : (1 < BitVec.ofNat 64 n) = (1 < n) := by
        rw [BitVec.lt_def, BitVec.toNat_ofNat, Nat.mod_eq_of_lt (by omega)]; rfl
      simp only [e6]
      exact h

/-! the constants -/
def u4B (t : Nat) (l : List AV) : Option Blk := some ⟨23, t, true, .arr t .leaf, .agg l⟩
def rk (c : Nat) : List AV := (rnds.take c).map .u32
theorem rk_succ {c : Nat} (h : c < 64) {w : BitVec 32} (hw : w = rnds.getD c 0) : rk c ++ [.u32 w] = rk (c + 1) := by
  unfold rk
  have hl : c < rnds.length := h
  rw [hw, List.getD_eq_getElem?_getD, List.getElem?_eq_getElem hl, Option.getD_some, List.take_succ_eq_append_getElem hl, List.map_append]
  rfl
theorem rk_len {c : Nat} (h : c ≤ 64) : (rk c).length = c := by
  unfold rk
  rw [List.length_map, List.length_take]
  exact Nat.min_eq_left h
def Ix21 (H : Heap) (k : Nat) (st : St) : Prop :=
  ∃ (p : Nat) (out u3 u4 u5 u6 u7 u8 : AV) (L : Heap), st = ⟨[.nils, out, .u64 (BitVec.ofNat 64 p), u3, u4, u5, u6, u7, u8], H ++ L⟩ ∧ k = 312 - p ∧ 2 ≤ p ∧ p ≤ 312 ∧
    ((pc p = 0 ∧ out = .nils ∧ L = []) ∨ (0 < pc p ∧ out = .own (H.length + 1) (pc p) [] 0 (pc p) .leaf ∧ ∃ g J l, L = g :: u4B (pc p) l :: J ∧ l = rk (pc p)))
def I21b (p : Nat) (out u6 : AV) (G : Heap) (k : Nat) (st : St) : Prop :=
  ∃ (z : Int) (x : BitVec 64) (u7 u8 : AV), st = ⟨[.nils, out, .u64 (BitVec.ofNat 64 p), .u64 x, .int z, .bool true, u6, u7, u8], G⟩ ∧ z = (k : Int) - 1 ∧ k ≤ 36 ∧ gr (BitVec.ofNat 64 p) x k = gr (BitVec.ofNat 64 p) 0 36
theorem f39 {K : AV → Heap → Prop} {H : Heap} (h : K (.ro .leaf (rnds.map .u32)) H) : wpF P G 39 [] H K := by
  refine wpF_go c39 rfl 3 ?_
  intro ha hb
  simp only [s39]
  clear ha hb
  (refine gw0 ?_; try exact True.intro)
  refine wp_inv (Ix21 H) 310 ⟨2, _, _, _, _, _, _, _, [], by rw [List.append_nil]; rfl, rfl, by omega, by omega, .inl ⟨pc_0, rfl, rfl⟩⟩ ?_
  rintro k st ⟨p, out, u3, u4, u5, u6, u7, u8, L, rfl, rfl, hp2, hp3, hc⟩
  by_cases hp : p < 312
  · have hp64 := (ok_at hp2 hp).2
    have h1 : ((pc p : Int) < 64) = True := by simp only [eq_iff_iff, iff_true]; omega
    have h10 : ((0 : Int) < 64) = True := by simp
    have e4 : BitVec.ofNat 64 p + 1 = BitVec.ofNat 64 (p + 1) := (BitVec.ofNat_add p 1).symm
    cases hpr : isP p with
    | false =>
      have hno := pc_no hp2 hp hpr
      rcases hc with ⟨hc0, rfl, rfl⟩ | ⟨hc0, rfl, g, J, l, rfl, hl⟩
      · (refine gw1 @h10 ?_; try exact True.intro)
        refine f45 (by omega) ?_
        rw [hpr]
        (refine gw1 @e4 ?_; try exact True.intro)
        exact ⟨312 - (p + 1), by omega, p + 1, _, _, _, _, _, _, _, [], by rw [List.append_nil], rfl, by omega, by omega, .inl ⟨by rw [hno]; exact hc0, rfl, rfl⟩⟩
      · (refine gw1 @h1 ?_; try exact True.intro)
        refine f45 (by omega) ?_
        rw [hpr]
        (refine gw1 @e4 ?_; try exact True.intro)
        exact ⟨312 - (p + 1), by omega, p + 1, _, _, _, _, _, _, _, _, rfl, rfl, by omega, by omega, .inr ⟨by rw [hno]; exact hc0, by rw [hno], _, _, _, by rw [hno], by rw [hno]; exact hl⟩⟩
    | true =>
      have hyes := pc_yes hp2 hp hpr
      rcases hc with ⟨hc0, rfl, rfl⟩ | ⟨hc0, rfl, g, J, l, rfl, hl⟩
      · (refine gw1 @h10 ?_; try exact True.intro)
        refine f45 (by omega) ?_
        rw [hpr]
        (refine gw0 ?_; try exact True.intro)
        refine wp_inv (I21b p .nils (.bool false) H) 36 ⟨35, 0, _, _, rfl, rfl, by omega, rfl⟩ ?_
        rintro k st ⟨z, x, u7, u8, rfl, hz, hk, hg⟩
        cases k with
        | zero =>
          have h5 : (0 ≤ z) = False := by simp only [eq_iff_iff, iff_false]; omega
          rw [gr] at hg
          have hx : x.setWidth 32 = rnds.getD (pc p) 0 := by rw [hg]; exact hyes.1
          (refine gw2 @h5 @e4 ?_; try exact True.intro)
          exact ⟨312 - (p + 1), by omega, p + 1, _, _, _, _, _, _, _, _, rfl, rfl, by omega, by omega, .inr ⟨by omega, by rw [hyes.2, hc0], _, [], [.u32 (x.setWidth 32)], by rw [hyes.2, hc0]; rfl, by rw [hyes.2, hc0, hx, hc0]; rfl⟩⟩
        | succ i =>
          obtain rfl : z = (i : Int) := by omega
          have h5 : (0 ≤ (i : Int)) = True := by simp only [eq_iff_iff, iff_true]; omega
          have e5 : (BitVec.ofInt 64 (i : Int)).toNat = i := ofInt64_nat (by omega)
          have e6 : (i : Int) - 1 = ((i : Nat) : Int) - 1 := rfl
          rw [gr] at hg
          (refine gw2 @h5 @e5 ?_; try exact True.intro)
          refine f46 ?_
          (refine gw0 ?_; try exact True.intro)
          refine ⟨fun hcf => ?_, fun hcf => ?_⟩
          · rw [if_pos hcf] at hg
            (refine gw1 @e5 ?_; try exact True.intro)
            (repeat (refine And.intro (by omega) ?_))
            exact ⟨i, by omega, _, _, _, _, rfl, rfl, by omega, hg⟩
          · rw [if_neg (by rw [hcf]; decide)] at hg
            (refine gw0 ?_; try exact True.intro)
            (repeat (refine And.intro (by omega) ?_))
            exact ⟨i, by omega, _, _, _, _, rfl, rfl, by omega, hg⟩
      · (refine gw1 @h1 ?_; try exact True.intro)
        refine f45 (by omega) ?_
        rw [hpr]
        (refine gw0 ?_; try exact True.intro)
        refine wp_inv (I21b p (.own (H.length + 1) (pc p) [] 0 (pc p) .leaf) (.bool false) (H ++ g :: u4B (pc p) l :: J)) 36 ⟨35, 0, _, _, rfl, rfl, by omega, rfl⟩ ?_
        rintro k st ⟨z, x, u7, u8, rfl, hz, hk, hg⟩
        cases k with
        | zero =>
          have h5 : (0 ≤ z) = False := by simp only [eq_iff_iff, iff_false]; omega
          rw [gr] at hg
          have hx : x.setWidth 32 = rnds.getD (pc p) 0 := by rw [hg]; exact hyes.1
          unfold u4B
          (refine gw2 @h5 @e4 ?_; try exact True.intro)
          (repeat (refine And.intro (by omega) ?_))
          exact ⟨312 - (p + 1), by omega, p + 1, _, _, _, _, _, _, _, _, rfl, rfl, by omega, by omega, .inr ⟨by omega, by rw [hyes.2], _, _, _, by rw [hyes.2]; rfl, by rw [hyes.2, hl]; exact rk_succ hp64 hx⟩⟩
        | succ i =>
          obtain rfl : z = (i : Int) := by omega
          have h5 : (0 ≤ (i : Int)) = True := by simp only [eq_iff_iff, iff_true]; omega
          have e5 : (BitVec.ofInt 64 (i : Int)).toNat = i := ofInt64_nat (by omega)
          have e6 : (i : Int) - 1 = ((i : Nat) : Int) - 1 := rfl
          rw [gr] at hg
          (refine gw2 @h5 @e5 ?_; try exact True.intro)
          refine f46 ?_
          (refine gw0 ?_; try exact True.intro)
          refine ⟨fun hcf => ?_, fun hcf => ?_⟩
          · rw [if_pos hcf] at hg
            (refine gw1 @e5 ?_; try exact True.intro)
            (repeat (refine And.intro (by omega) ?_))
            exact ⟨i, by omega, _, _, _, _, rfl, rfl, by omega, hg⟩
          · rw [if_neg (by rw [hcf]; decide)] at hg
            (refine gw0 ?_; try exact True.intro)
            (repeat (refine And.intro (by omega) ?_))
            exact ⟨i, by omega, _, _, _, _, rfl, rfl, by omega, hg⟩
  · have hpe : p = 312 := by omega
    subst hpe
    rcases hc with ⟨hc0, rfl, rfl⟩ | ⟨hc0, rfl, g, J, l, rfl, hl⟩
    · rw [pc_end] at hc0; omega
    · have hall : rk (pc 312) = rnds.map .u32 := by rw [pc_end]; unfold rk; rw [List.take_of_length_le (by decide)]
      rw [hall] at hl
      rw [pc_end]
      unfold u4B
      have htk : List.take 64 l = rnds.map .u32 := by rw [hl]; exact List.take_of_length_le (by decide)
      rw [hl] at *
      (refine gw1 @htk ?_; try exact True.intro)
      exact h
def wL (s : List (BitVec 8)) (t : Nat) : List AV := (List.range t).map fun k => .u32 (sW s k)
theorem wL_len {s : List (BitVec 8)} {t : Nat} : (wL s t).length = t := by simp [wL]
theorem wL_at {s : List (BitVec 8)} {t k : Nat} (h : k < t) : (wL s t)[k]? = some (.u32 (sW s k)) := by
  unfold wL
  rw [List.getElem?_map, List.getElem?_range h]; rfl
theorem wL_succ {s : List (BitVec 8)} {t : Nat} {w : BitVec 32} (hw : w = sW s t) : wL s t ++ [.u32 w] = wL s (t + 1) := by
  rw [hw]; unfold wL; rw [List.range_succ, List.map_append]; rfl
theorem udiv8 (x : BitVec 32) : x / (8 : BitVec 32) = x >>> 3 := by
  apply BitVec.eq_of_toNat_eq
  rw [BitVec.toNat_udiv, BitVec.toNat_ushiftRight, Nat.shiftRight_eq_div_pow]; rfl
theorem udiv1024 (x : BitVec 32) : x / (1024 : BitVec 32) = x >>> 10 := by
  apply BitVec.eq_of_toNat_eq
  rw [BitVec.toNat_udiv, BitVec.toNat_ushiftRight, Nat.shiftRight_eq_div_pow]; rfl
def stL (v : S8) : List AV := v.l.map .u32
def I23a (v : S8) (s : List (BitVec 8)) (H : Heap) (k : Nat) (st : St) : Prop :=
  ∃ (t : Nat) (w u20 : AV) (L : Heap), st = ⟨[.ro .leaf (stL v), .ro .leaf (rnds.map .u32), .str s, .nils, w, .int (t : Int), .un, .un, .un, .un, .un, .un, .un, .un, .un, .un, .un, .un, .un, .un, u20, .un, .un], H ++ L⟩ ∧ k = 16 - t ∧ t ≤ 16 ∧
    ((t = 0 ∧ w = .nils ∧ L = []) ∨ (0 < t ∧ w = .own (H.length + 1) t [] 0 t .leaf ∧ ∃ g J l, L = g :: u4B t l :: J ∧ l = wL s t))
def I23b (v : S8) (s : List (BitVec 8)) (H : Heap) (g : Option Blk) (k : Nat) (st : St) : Prop :=
  ∃ (i : Nat) (u7 u8 u21 : AV) (J : Heap) (l : List AV), st = ⟨[.ro .leaf (stL v), .ro .leaf (rnds.map .u32), .str s, .nils, .own (H.length + 1) (16 + i) [] 0 (16 + i) .leaf, .int 16, .int ((16 + i : Nat) : Int), u7, u8, .un, .un, .un, .un, .un, .un, .un, .un, .un, .un, .un, .bool false, u21, .un], H ++ g :: u4B (16 + i) l :: J⟩ ∧ k = 48 - i ∧ i ≤ 48 ∧ l = wL s (16 + i)
def I23c (v : S8) (s : List (BitVec 8)) (H : Heap) (G' : List (Option Blk)) (u7 u8 : AV) (k : Nat) (st : St) : Prop :=
  ∃ (i : Nat) (r : S8) (u18 u19 u22 : AV), st = ⟨[.ro .leaf [.u32 v.a, .u32 v.b, .u32 v.c, .u32 v.d, .u32 v.e, .u32 v.f, .u32 v.g, .u32 v.h], .ro .leaf (rnds.map .u32), .str s, .nils, .own (H.length + 1) 64 [] 0 64 .leaf, .int 16, .int 64, u7, u8, .u32 r.a, .u32 r.b, .u32 r.c, .u32 r.d, .u32 r.e, .u32 r.f, .u32 r.g, .u32 r.h, .int (i : Int), u18, u19, .bool false, .bool false, u22], H ++ G'⟩ ∧ k = 64 - i ∧ i ≤ 64 ∧ r = rds s v i
theorem f41 {K : AV → Heap → Prop} {H : Heap} {v : S8} {s : List (BitVec 8)} (hs : s.length = 64) (h : K (.ro .leaf (stL (comp v s))) H) : wpF P G 41 [.ro .leaf (stL v), .ro .leaf (rnds.map .u32), .str s] H K := by
  refine wpF_go c41 rfl 3 ?_
  intro ha hb
  simp only [s41]
  clear ha hb
  (refine gw0 ?_; try exact True.intro)
  refine wp_inv (I23a v s H) 16 ⟨0, _, _, [], by rw [List.append_nil]; rfl, rfl, by omega, .inl ⟨rfl, rfl, rfl⟩⟩ ?_
  rintro k st ⟨t, w, u20, L, rfl, rfl, ht, hc⟩
  by_cases htl : t < 16
  · have h1 : ((t : Int) < 16) = True := by simp only [eq_iff_iff, iff_true]; omega
    have e4 : 4 * (t : Int) = ((4 * t : Nat) : Int) := by omega
    have e5 : ((4 * t : Nat) : Int) + 1 = ((4 * t + 1 : Nat) : Int) := by omega
    have e6 : ((4 * t : Nat) : Int) + 2 = ((4 * t + 2 : Nat) : Int) := by omega
    have e7 : ((4 * t : Nat) : Int) + 3 = ((4 * t + 3 : Nat) : Int) := by omega
    have hw : (s.getD (4 * t) 0).setWidth 32 * 16777216 + (s.getD (4 * t + 1) 0).setWidth 32 * 65536 + (s.getD (4 * t + 2) 0).setWidth 32 * 256 + (s.getD (4 * t + 3) 0).setWidth 32 = sW s t := by
      rw [sW_lo htl]
      exact be4_eq _ _ _ _
    rcases hc with ⟨ht0, rfl, rfl⟩ | ⟨ht0, rfl, g, J, l, rfl, hl⟩
    · (refine gw7 @h1 @e4 @e5 @e6 @e7 @hs @hw ?_; try exact True.intro)
      (repeat (refine And.intro (by omega) ?_))
      subst ht0
      exact ⟨15, by omega, 1, _, _, _, rfl, rfl, by omega, .inr ⟨by omega, rfl, _, [], [.u32 (sW s 0)], rfl, rfl⟩⟩
    · unfold u4B
      (refine gw7 @h1 @e4 @e5 @e6 @e7 @hs @hw ?_; try exact True.intro)
      (repeat (refine And.intro (by omega) ?_))
      exact ⟨16 - (t + 1), by omega, t + 1, _, _, _, rfl, rfl, by omega, .inr ⟨by omega, rfl, _, _, _, rfl, by rw [hl]; exact wL_succ rfl⟩⟩
  · have ht16 : t = 16 := by omega
    subst ht16
    have h1 : ((16 : Int) < 16) = False := by simp
    rcases hc with ⟨ht0, rfl, rfl⟩ | ⟨ht0, rfl, g, J, l, rfl, hl⟩
    · omega
    (refine gw1 @h1 ?_; try exact True.intro)
    (refine gw0 ?_; try exact True.intro)
    refine wp_inv (I23b v s H g) 48 ⟨0, _, _, _, J, l, rfl, rfl, by omega, hl⟩ ?_
    rintro k st ⟨i, u7, u8, u21, J, l, rfl, rfl, hi, hl⟩
    have ll : l.length = 16 + i := by rw [hl, wL_len]
    by_cases hil : i < 48
    · have h1 : (((16 + i : Nat) : Int) < 64) = True := by simp only [eq_iff_iff, iff_true]; omega
      have e1 : ((16 + i : Nat) : Int) - 15 = ((i + 1 : Nat) : Int) := by omega
      have e2 : ((16 + i : Nat) : Int) - 2 = ((i + 14 : Nat) : Int) := by omega
      have e3 : ((16 + i : Nat) : Int) - 16 = ((i : Nat) : Int) := by omega
      have e4 : ((16 + i : Nat) : Int) - 7 = ((i + 9 : Nat) : Int) := by omega
      have g1 : l[i + 1]? = some (.u32 (sW s (i + 1))) := by rw [hl]; exact wL_at (by omega)
      have g2 : l[i + 14]? = some (.u32 (sW s (i + 14))) := by rw [hl]; exact wL_at (by omega)
      have g3 : l[i]? = some (.u32 (sW s i)) := by rw [hl]; exact wL_at (by omega)
      have g4 : l[i + 9]? = some (.u32 (sW s (i + 9))) := by rw [hl]; exact wL_at (by omega)
      have hw := sW_hi (s := s) hil
      unfold sg0 sg1 at hw
      rw [← udiv8, ← udiv1024] at hw
      unfold u4B
      (refine gw7 @h1 @e1 @e2 @e3 @g1 @g2 @g3 ?_; try exact True.intro)
      (repeat (refine And.intro (by omega) ?_))
      refine drawn _ (f47 (n := 7) (by decide) (by decide) ⟨rfl, rfl⟩) ?_
      (refine gw0 ?_; try exact True.intro)
      refine drawn _ (f47 (n := 18) (by decide) (by decide) ⟨rfl, rfl⟩) ?_
      (refine gw2 @e4 @g4 ?_; try exact True.intro)
      refine ⟨by decide, ?_⟩
      (repeat (refine And.intro (by omega) ?_))
      refine drawn _ (f47 (n := 17) (by decide) (by decide) ⟨rfl, rfl⟩) ?_
      (refine gw0 ?_; try exact True.intro)
      refine drawn _ (f47 (n := 19) (by decide) (by decide) ⟨rfl, rfl⟩) ?_
      (refine gw0 ?_; try exact True.intro)
      refine ⟨by decide, ?_⟩
      (repeat (refine And.intro (by omega) ?_))
      rw [← hw]
      exact ⟨48 - (i + 1), by omega, i + 1, _, _, _, _, _, rfl, rfl, by omega, by rw [hl]; exact wL_succ rfl⟩
    · have h1 : (((16 + i : Nat) : Int) < 64) = False := by simp only [eq_iff_iff, iff_false]; omega
      have hie : i = 48 := by omega
      subst hie
      have hsl : stL v = [.u32 v.a, .u32 v.b, .u32 v.c, .u32 v.d, .u32 v.e, .u32 v.f, .u32 v.g, .u32 v.h] := rfl
      unfold u4B
      rw [hsl]
      (refine gw1 @h1 ?_; try exact True.intro)
      (refine gw0 ?_; try exact True.intro)
      have gl : ∀ i, i < 64 → l[i]? = some (.u32 (sW s i)) := fun i hi => by rw [hl]; exact wL_at hi
      refine wp_inv (I23c v s H (g :: some ⟨23, 64, true, .arr 64 .leaf, .agg l⟩ :: J) u7 u8) 64 ⟨0, v, _, _, _, rfl, rfl, by omega, rfl⟩ ?_
      rintro k st ⟨i, r, u18, u19, u22, rfl, rfl, hi, hr⟩
      by_cases hil : i < 64
      · have h1 : ((i : Int) < 64) = True := by simp only [eq_iff_iff, iff_true]; omega
        have g1 := gl i hil
        have g2 : (rnds.map AV.u32).getD i .un = .u32 (rnds.getD i 0) := ld_u32 (by show i < 64; exact hil)
        have lr : (rnds.map AV.u32).length = 64 := rfl
        have hnx : rds s v (i + 1) = rnd (rnds.getD i 0) (sW s i) r := by rw [hr]; rfl
        generalize rnds.getD i 0 = rki at *
        generalize sW s i = wi at *
        have ht : r.h + (ror r.e 6 ^^^ ror r.e 11 ^^^ ror r.e 25) + (r.e &&& r.f ^^^ (4294967295 - r.e) &&& r.g) + rki + wi = rt rki wi r := by rw [not_sub]; rfl
        have hu : (ror r.a 2 ^^^ ror r.a 13 ^^^ ror r.a 22) + (r.a &&& r.b ||| r.a &&& r.c ||| r.b &&& r.c) = ru r := by rw [maj_or]; rfl
        (refine gw1 @h1 ?_; try exact True.intro)
        refine drawn _ (f47 (n := 6) (by decide) (by decide) ⟨rfl, rfl⟩) ?_
        (refine gw0 ?_; try exact True.intro)
        refine drawn _ (f47 (n := 11) (by decide) (by decide) ⟨rfl, rfl⟩) ?_
        (refine gw0 ?_; try exact True.intro)
        refine drawn _ (f47 (n := 25) (by decide) (by decide) ⟨rfl, rfl⟩) ?_
        (refine gw4 @g1 @g2 @lr @ht ?_; try exact True.intro)
        (repeat (refine And.intro (by omega) ?_))
        refine f47 (n := 2) (by decide) (by decide) ?_
        (refine gw0 ?_; try exact True.intro)
        refine f47 (n := 13) (by decide) (by decide) ?_
        (refine gw0 ?_; try exact True.intro)
        refine f47 (n := 22) (by decide) (by decide) ?_
        (refine gw1 @hu ?_; try exact True.intro)
        (repeat (refine And.intro (by omega) ?_))
        exact ⟨64 - (i + 1), by omega, i + 1, rnd rki wi r, _, _, _, rfl, rfl, by omega, by rw [hnx]⟩
      · have h1 : ((i : Int) < 64) = False := by simp only [eq_iff_iff, iff_false]; omega
        have hie : i = 64 := by omega
        subst hie
        (refine gw1 @h1 ?_; try exact True.intro)
        have he : stL (comp v s) = [.u32 (v.a + r.a), .u32 (v.b + r.b), .u32 (v.c + r.c), .u32 (v.d + r.d), .u32 (v.e + r.e), .u32 (v.f + r.f), .u32 (v.g + r.g), .u32 (v.h + r.h)] := by
          unfold comp S8.plus stL S8.l
          rw [← hr]
          simp only [List.map_cons, List.map_nil, BitVec.add_comm]
        rw [← he]
        exact h
def zs (t : Nat) : List (BitVec 8) := List.replicate t 0
theorem zs_len {t : Nat} : (zs t).length = t := List.length_replicate
theorem zs_snoc {s : List (BitVec 8)} {t : Nat} : (s ++ 128 :: zs t) ++ [0] = s ++ 128 :: zs (t + 1) := by
  unfold zs
  rw [List.append_assoc, List.cons_append, List.replicate_succ']
theorem len8_snoc {n j : Nat} (hj : j < 8) : (len8 n).take j ++ [((BitVec.ofNat 64 n * 8) >>> (8 * (7 - j))).setWidth 8] = (len8 n).take (j + 1) := by
  unfold len8
  rw [List.take_add_one, List.getElem?_map, List.getElem?_range hj]
  rfl
theorem tm64 {n m : Nat} (h : n % 64 = m) : ((n : Nat) : Int).tmod 64 = (m : Int) := by rw [← h]; rfl
theorem sh_byte {n k : Nat} (hn : n ≤ 1000000000) (hk : k < 8) : ∃ X : Nat, X ≤ 8 * n ∧ (8 * (n : Int)).fdiv (2 ^ min (BitVec.ofInt 64 (8 * (k : Int))).toNat 64) = (X : Int) ∧ BitVec.ofInt 8 (X : Int) = ((BitVec.ofNat 64 n * 8) >>> (8 * k)).setWidth 8 := by
  refine ⟨8 * n / 2 ^ (8 * k), Nat.div_le_self _ _, ?_, ?_⟩
  · have e : (BitVec.ofInt 64 (8 * (k : Int))).toNat = 8 * k := by
      rw [show (8 * (k : Int)) = ((8 * k : Nat) : Int) by omega, BitVec.ofInt_natCast, BitVec.toNat_ofNat]
      omega
    rw [e, Nat.min_eq_left (by omega), Int.fdiv_eq_ediv_of_nonneg _ (Int.le_of_lt (Int.pow_pos (by decide)))]
    simp
  · rw [BitVec.ofInt_natCast]
    apply BitVec.eq_of_toNat_eq
    rw [BitVec.toNat_ofNat, BitVec.toNat_setWidth, BitVec.toNat_ushiftRight, BitVec.toNat_mul, BitVec.toNat_ofNat, Nat.shiftRight_eq_div_pow]
    rw [show n % 2 ^ 64 * BitVec.toNat (8 : BitVec 64) % 2 ^ 64 = 8 * n by
      rw [show BitVec.toNat (8 : BitVec 64) = 8 from rfl]; omega]
def I22a (s : List (BitVec 8)) (H : Heap) (k : Nat) (st : St) : Prop :=
  ∃ (t : Nat) (u6 : AV), st = ⟨[.str s, .str [], .int (s.length : Int), .str (s ++ 128 :: zs t), .un, u6, .un], H⟩ ∧ k = zc s.length - t ∧ t ≤ zc s.length
def I22b (s : List (BitVec 8)) (w : Nat → List (BitVec 8)) (H : Heap) (k : Nat) (st : St) : Prop :=
  ∃ (z : Int) (u7 : AV) (J : Heap), st = ⟨[.str s, .str [], .int (s.length : Int), .str (w k), .int z, .bool false, u7], H ++ J⟩ ∧ z = (k : Int) - 1 ∧ k ≤ 8
theorem f40 {K : AV → Heap → Prop} {H : Heap} {s : List (BitVec 8)} (hle : s.length ≤ 1000000000) (h : K (.str (pad s)) H) : wpF P G 40 [.str s] H K := by
  refine wpF_go c40 rfl 3 ?_
  intro ha hb
  simp only [s40]
  clear ha hb
  have hz : zc s.length ≤ 63 := by unfold zc; omega
  (refine gw0 ?_; try exact True.intro)
  (repeat (refine And.intro (by omega) ?_))
  refine wp_inv (I22a s H) (zc s.length) ⟨0, _, rfl, rfl, by omega⟩ ?_
  rintro k st ⟨t, u6, rfl, rfl, ht⟩
  by_cases htl : t < zc s.length
  · have e1 : ∃ m : Nat, m < 64 ∧ m ≠ 56 ∧ ((s.length + (t + 1) : Nat) : Int).tmod 64 = (m : Int) := by
      refine ⟨(s.length + (t + 1)) % 64, by omega, ?_, rfl⟩
      unfold zc at htl
      omega
    obtain ⟨m, hm, hm', e1⟩ := e1
    have e2 : ((m : Int) = 56) = False := by simp only [eq_iff_iff, iff_false]; omega
    (refine gw4 @e1 @e2 @zs_len @zs_snoc ?_; try exact True.intro)
    (repeat (refine And.intro (by omega) ?_))
    exact ⟨zc s.length - (t + 1), by omega, t + 1, _, rfl, rfl, by omega⟩
  · have hte : t = zc s.length := by omega
    have e1 : ((s.length + (zc s.length + 1) : Nat) : Int).tmod 64 = 56 := tm64 (m := 56) (by unfold zc; omega)
    have hw : pad s = s ++ 128 :: (zs (zc s.length) ++ (len8 s.length).take 8) := by
      rw [List.take_of_length_le (by rw [len8_len]; omega)]; rfl
    have h0 : s ++ 128 :: zs (zc s.length) = s ++ 128 :: (zs (zc s.length) ++ (len8 s.length).take (8 - 8)) := by simp
    have hst : ∀ k, k + 1 ≤ 8 → (s ++ 128 :: (zs (zc s.length) ++ (len8 s.length).take (8 - (k + 1)))) ++ [((BitVec.ofNat 64 s.length * 8) >>> (8 * k)).setWidth 8] = s ++ 128 :: (zs (zc s.length) ++ (len8 s.length).take (8 - k)) := by
      intro k hk
      rw [show 8 - k = (8 - (k + 1)) + 1 by omega, ← len8_snoc (by omega), show 7 - (8 - (k + 1)) = k by omega]
      simp only [List.append_assoc, List.cons_append]
    have hl : ∀ k, k ≤ 8 → (s ++ 128 :: (zs (zc s.length) ++ (len8 s.length).take (8 - k))).length ≤ s.length + 80 := by
      intro k hk
      simp only [List.length_append, List.length_cons, zs_len, List.length_take, len8_len]
      omega
    rw [hte]
    rw [hw, show List.take 8 (len8 s.length) = List.take (8 - 0) (len8 s.length) from rfl] at h
    (refine gw2 @e1 @zs_len ?_; try exact True.intro)
    clear e1 hw hte htl
    generalize hW : (fun k => s ++ 128 :: (zs (zc s.length) ++ (len8 s.length).take (8 - k))) = w at *
    have W : ∀ k, s ++ 128 :: (zs (zc s.length) ++ (len8 s.length).take (8 - k)) = w k := fun k => by rw [← hW]
    simp only [W] at h0 hst hl h
    rw [h0]
    clear W hW h0
    (refine gw0 ?_; try exact True.intro)
    refine wp_inv (I22b s w H) 8 ⟨7, _, [], by rw [List.append_nil], rfl, by omega⟩ ?_
    rintro k st ⟨z, u7, J, rfl, rfl, hk⟩
    cases k with
    | zero =>
      have h1 : ((0 : Int) ≤ ((0 : Nat) : Int) - 1) = False := by simp
      (refine gw1 @h1 ?_; try exact True.intro)
      exact h
    | succ k =>
      have h1 : ((0 : Int) ≤ ((k + 1 : Nat) : Int) - 1) = True := by simp only [eq_iff_iff, iff_true]; omega
      have e1 : ((k + 1 : Nat) : Int) - 1 = (k : Int) := by omega
      obtain ⟨X, hX, e2, e3⟩ := sh_byte hle (show k < 8 by omega)
      have hl' := hl (k + 1) (by omega)
      have hst' := hst k (by omega)
      (refine gw5 @h1 @e1 @e2 @e3 @hst' ?_; try exact True.intro)
      (repeat (refine And.intro (by omega) ?_))
      exact ⟨k, by omega, (k : Int) - 1, _, J ++ _, by rw [← List.append_assoc], rfl, by omega⟩
theorem kill_own1 {H L : Heap} {x : Option Blk} : kill (fun b => decide (b < H.length + 1)) 0 (H ++ x :: L) = H ++ x :: List.replicate L.length none := by
  have := kill_own (H := H ++ [x]) (L := L)
  simpa using this
theorem dg_at {v : S8} {i : Nat} (h : i < 32) : ((v.l.getD (i / 4) 0) >>> (24 - 8 * (i % 4))).setWidth 8 = (dg v).getD i 0 := by
  rcases i with _|_|_|_|_|_|_|_|_|_|_|_|_|_|_|_|_|_|_|_|_|_|_|_|_|_|_|_|_|_|_|_|i
  all_goals first | rfl | omega
/-- the first bytes of a sum -/
def dL (v : S8) (i : Nat) : List AV := (List.range 32).map fun k => .u8 (if k < i then (dg v).getD k 0 else 0)
theorem dL_len {v : S8} {i : Nat} : (dL v i).length = 32 := by simp [dL]
theorem dL_zero {v : S8} : dL v 0 = List.replicate 32 (.u8 0) := by
  unfold dL
  apply List.ext_getElem?
  intro k
  by_cases hk : k < 32
  · rw [List.getElem?_replicate, if_pos hk, List.getElem?_map, List.getElem?_range hk]; rfl
  · rw [List.getElem?_eq_none (by simp; omega), List.getElem?_eq_none (by simp; omega)]
theorem dL_set {v : S8} {i : Nat} (h : i < 32) : (dL v i).set i (.u8 ((dg v).getD i 0)) = dL v (i + 1) := by
  unfold dL
  rw [rng_set]
  refine rng_congr fun k hk => ?_
  by_cases e : k = i
  · rw [if_pos e, e, if_pos (by omega)]
  · rw [if_neg e]
    by_cases h2 : k < i
    · rw [if_pos h2, if_pos (by omega)]
    · rw [if_neg h2, if_neg (by omega)]
theorem dL_all {v : S8} : dL v 32 = (dg v).map .u8 := by
  unfold dL
  apply List.ext_getElem?
  intro k
  by_cases hk : k < 32
  · rw [List.getElem?_map, List.getElem?_range hk, List.getElem?_map, List.getElem?_eq_getElem (by rw [dg_len]; exact hk)]
    simp only [Option.map_some, if_pos hk, List.getD_eq_getElem?_getD]
    rw [List.getElem?_eq_getElem (by rw [dg_len]; exact hk)]
    rfl
  · rw [List.getElem?_eq_none (by simp; omega), List.getElem?_eq_none (by rw [List.length_map, dg_len]; omega)]
def Y32 (l : List AV) : Option Blk := some ⟨26, 0, false, .arr 1 (.arr 32 .leaf), .agg [.agg l]⟩
def I13a (s : List (BitVec 8)) (q : Nat) (H : Heap) (k : Nat) (st : St) : Prop :=
  ∃ (m : Nat) (u8 : AV), st = ⟨[.str s, .ptr H.length 0 [0] (.arr 32 .leaf), .ro .leaf (rnds.map .u32), .ro .leaf (stL (hb (pad s) m)), .str (pad s), .int ((64 * m : Nat) : Int), .un, .un, u8, .un], H ++ [Y32 (dL ini 0), none]⟩ ∧ k = q - m ∧ m ≤ q
def I13b (s : List (BitVec 8)) (q : Nat) (v : S8) (H : Heap) (k : Nat) (st : St) : Prop :=
  ∃ (i : Nat) (u9 : AV), st = ⟨[.str s, .ptr H.length 0 [0] (.arr 32 .leaf), .ro .leaf (rnds.map .u32), .ro .leaf (stL v), .str (pad s), .int ((64 * q : Nat) : Int), .ptr (H.length + 2) 0 [0] (.arr 32 .leaf), .int (i : Int), .bool false, u9], H ++ [Y32 (dL ini 0), none, Y32 (dL v i)]⟩ ∧ k = 32 - i ∧ i ≤ 32
theorem f35 {K : AV → Heap → Prop} {H : Heap} {s : List (BitVec 8)} (hle : s.length ≤ 1000000000) (h : K (.agg ((sha s).map .u8)) H) : wpF P G 35 [.str s] H K := by
  refine wpF_go c35 rfl 3 ?_
  intro ha hb
  simp only [s35]
  clear ha hb
  (refine gw0 ?_; try exact True.intro)
  refine f39 ?_
  (refine gw0 ?_; try exact True.intro)
  refine f40 hle ?_
  (refine gw0 ?_; try exact True.intro)
  refine WPS_freeze (fun b => decide (b < H.length + 1)) 4 (env' := [.str s, .ptr H.length 0 [0] (.arr 32 .leaf), .ro .leaf (rnds.map .u32), .ro .leaf (stL ini), .str (pad s), .int 0, .un, .un, .un, .un]) ?_ ?_
  · have hsl : stL ini = [.u32 1779033703, .u32 3144134277, .u32 1013904242, .u32 2773480762, .u32 1359893119, .u32 2600822924, .u32 528734635, .u32 1541459225] := rfl
    rw [hsl]
    simp only [mapO]
    (refine gw0 ?_; try exact True.intro)
    simp
  rw [kill_own1]
  have hpl : ∃ q, (pad s).length = 64 * q := by
    have := pe_pad (l := s)
    unfold pe at this
    split at this
    · exact ⟨s.length / 64 + 1, by omega⟩
    · exact ⟨s.length / 64 + 2, by omega⟩
  obtain ⟨q, hq⟩ := hpl
  have hq2 : 64 * q ≤ s.length + 72 := by rw [← hq, pad_len]; unfold zc; omega
  have hsha : sha s = dg (hb (pad s) q) := by
    unfold sha; rw [hq, Nat.mul_div_cancel_left _ (by decide)]
  refine wp_inv (I13a s q H) q ⟨0, _, rfl, rfl, by omega⟩ ?_
  rintro k st ⟨m, u8, rfl, rfl, hm⟩
  by_cases hml : m < q
  · have h1 : (((64 * m : Nat) : Int) < ((64 * q : Nat) : Int)) = True := by simp only [eq_iff_iff, iff_true]; omega
    have e1 : ((64 * m : Nat) : Int) + 64 = ((64 * (m + 1) : Nat) : Int) := by omega
    have e2 : 64 * (m + 1) - 64 * m = 64 := by omega
    have e3 : List.take 64 (List.drop (64 * m) (pad s)) = ck (pad s) m := rfl
    have l3 : (ck (pad s) m).length = 64 := by unfold ck; rw [List.length_take, List.length_drop, hq]; omega
    have e4 : comp (hb (pad s) m) (ck (pad s) m) = hb (pad s) (m + 1) := rfl
    (refine gw5 @h1 @hq @e1 @e2 @e3 ?_; try exact True.intro)
    (repeat (refine And.intro (by omega) ?_))
    refine f41 l3 ?_
    rw [e4]
    (refine gw1 @e1 ?_; try exact True.intro)
    (repeat (refine And.intro (by omega) ?_))
    exact ⟨q - (m + 1), by omega, m + 1, _, rfl, rfl, by omega⟩
  · have hme : m = q := by omega
    subst hme
    have h1 : (((64 * m : Nat) : Int) < ((64 * m : Nat) : Int)) = False := by simp
    (refine gw2 @h1 @hq ?_; try exact True.intro)
    generalize hb (pad s) m = v at *
    (refine gw0 ?_; try exact True.intro)
    refine wp_inv (I13b s m v H) 32 ⟨0, _, rfl, rfl, by omega⟩ ?_
    rintro k st ⟨i, u9, rfl, rfl, hi⟩
    by_cases hil : i < 32
    · have h1 : ((i : Int) < 32) = True := by simp only [eq_iff_iff, iff_true]; omega
      have e1 : (i : Int).tdiv 4 = ((i / 4 : Nat) : Int) := rfl
      have e2 : (i : Int).tmod 4 = ((i % 4 : Nat) : Int) := rfl
      have e3 : (24 : Int) - 8 * ((i % 4 : Nat) : Int) = ((24 - 8 * (i % 4) : Nat) : Int) := by omega
      have g1 : (stL v).getD (i / 4) .un = .u32 (v.l.getD (i / 4) 0) := by
        unfold stL
        rw [List.getD_eq_getElem?_getD, List.getElem?_map, List.getElem?_eq_getElem (by show i / 4 < 8; omega), List.getD_eq_getElem?_getD, List.getElem?_eq_getElem (by show i / 4 < 8; omega)]
        rfl
      have e4 : (BitVec.ofInt 64 ((24 - 8 * (i % 4) : Nat) : Int)).toNat = 24 - 8 * (i % 4) := ofInt64_nat (by omega)
      have l1 : (stL v).length = 8 := rfl
      have g2 : (dL v i)[i]? = some (.u8 (if i < i then (dg v).getD i 0 else 0)) := by unfold dL; rw [List.getElem?_map, List.getElem?_range hil]; rfl
      have hv := dg_at (v := v) hil
      have hset := dL_set (v := v) hil
      unfold Y32
      (refine gw10 @h1 @e1 @e2 @e3 @e4 @g1 @l1 @g2 @hv @hset ?_; try exact True.intro)
      (repeat (refine And.intro (by omega) ?_))
      exact ⟨32 - (i + 1), by omega, i + 1, _, rfl, rfl, by omega⟩
    · have h1 : ((i : Int) < 32) = False := by simp only [eq_iff_iff, iff_false]; omega
      have hie : i = 32 := by omega
      subst hie
      have hdd := dg_len (v := v)
      unfold Y32
      rw [dL_all]
      rw [hsha] at h
      generalize dg v = d at h hdd ⊢
      (refine gw1 @h1 ?_; try exact True.intro)
      exact ⟨hdd, h⟩
theorem m8_kind {d : List (BitVec 8)} : ∀ x, x ∈ d.map AV.u8 → AV.isKind .u8 x = true := fun x hx => by
  obtain ⟨a, _, rfl⟩ := List.mem_map.1 hx; rfl
theorem f38n {K : AV → Heap → Prop} {H : Heap} (h : K (.agg [.u8 0, .u8 0, .u8 0, .u8 0, .u8 0, .u8 0, .u8 0, .u8 0, .u8 0, .u8 0, .u8 0, .u8 0, .u8 0, .u8 0, .u8 0, .u8 0, .u8 0, .u8 0, .u8 0, .u8 0, .u8 0, .u8 0, .u8 0, .u8 0, .u8 0, .u8 0, .u8 0, .u8 0, .u8 0, .u8 0, .u8 0, .u8 0]) H) : wpF P G 38 [.nilp] H K := by
  refine wpF_go c38 rfl 3 ?_
  intro ha hb
  simp only [s38]
  clear ha hb
  (refine gw0 ?_; try exact True.intro)
  exact h
/-- the first i texts, one behind the other -/
def ct (ls : List (List (BitVec 8))) : Nat → List (BitVec 8)
  | 0 => []
  | i + 1 => ct ls i ++ ls.getD i []
theorem hct0 (ls : List (List (BitVec 8))) (i : Nat) (h : decide (0 < i) = false) : ct ls i = [] := by
  have : i = 0 := by simpa using h
  rw [this]; rfl
def Ix3 (ls : List (List (BitVec 8))) (H : Heap) (k : Nat) (st : St) : Prop :=
  ∃ (i : Nat) (u6 u7 u8 : AV), st = ⟨[.ro .leaf (ls.map .str), .bool false, .ptr H.length 0 [0] (.st [.arr 8 .leaf, .leaf, .leaf, .leaf]), .str (ct ls i), .int (i : Int), .bool false, u6, u7, u8, .un], H ++ [smB (smA (decide (0 < i)) (ct ls i))]⟩ ∧ k = ls.length - i ∧ i ≤ ls.length ∧ (ct ls i).length ≤ 200 * i
/-- how long a part is, as four bytes, and the part -/
def ln4 (n : Nat) : List (BitVec 8) := [BitVec.ofNat 8 (n / 16777216), BitVec.ofNat 8 (n / 65536), BitVec.ofNat 8 (n / 256), BitVec.ofNat 8 n]
def lg (s : List (BitVec 8)) : List (BitVec 8) := ln4 s.length ++ s
theorem lg_len {s : List (BitVec 8)} : (lg s).length = s.length + 4 := by unfold lg ln4; simp
theorem fd2 (n k m : Nat) (h : 2 ^ k = m) (h64 : min k 64 = k) : ((n : Nat) : Int).fdiv (2 ^ min k 64) = ((n / m : Nat) : Int) := by
  rw [h64, Int.fdiv_eq_ediv_of_nonneg _ (Int.le_of_lt (Int.pow_pos (by decide))), ← h]; simp
theorem f36 {K : AV → Heap → Prop} {H0 L : Heap} {on : Bool} {l s : List (BitVec 8)} (hl : on = false → l = []) (hs : l.length + s.length ≤ 20000000) (h : K (.tup []) (H0 ++ smB (smT (l ++ lg s)) :: L)) :
    wpF P G 36 [.str s, .ptr H0.length 0 [0] (.st [.arr 8 .leaf, .leaf, .leaf, .leaf])] (H0 ++ smB (smA on l) :: L) K := by
  refine wpF_goM c36 rfl ?_
  intro hA hB
  simp only [s36]
  have e1 := fd2 s.length 24 16777216 (by decide) (by decide)
  have e2 := fd2 s.length 16 65536 (by decide) (by decide)
  have e3 := fd2 s.length 8 256 (by decide) (by decide)
  have e4 : ∀ n : Nat, BitVec.ofInt 8 (n : Int) = BitVec.ofNat 8 n := fun n => BitVec.ofInt_natCast _ _
  (refine gw7 @e1 @e2 @e3 @e4 @Kmut_n @Kmut_r @Km2_s ?_; try exact True.intro)
  (repeat (refine And.intro (by omega) ?_))
  refine f37' (H0 := H0) (on := on) (l := l) rfl rfl hl (by simp; omega) ?_
  (refine gw3 @Kmut_n @Kmut_r @Km2_s ?_; try exact True.intro)
  refine f37' (H0 := H0) (on := true) (l := l ++ [BitVec.ofNat 8 (s.length / 16777216), BitVec.ofNat 8 (s.length / 65536), BitVec.ofNat 8 (s.length / 256), BitVec.ofNat 8 s.length]) rfl rfl (fun h => by cases h) (by simp; omega) ?_
  rw [show (l ++ [BitVec.ofNat 8 (s.length / 16777216), BitVec.ofNat 8 (s.length / 65536), BitVec.ofNat 8 (s.length / 256), BitVec.ofNat 8 s.length]) ++ s = l ++ lg s by unfold lg ln4; rw [List.append_assoc]]
  (refine gw3 @Kmut_n @Kmut_r @Km2_s ?_; try exact True.intro)
  refine ⟨by omega, ?_⟩
  have hfin := mut_fin (E := [some ⟨5, 0, true, .arr 4 .leaf, .agg [.u8 (BitVec.ofNat 8 (s.length / 16777216)), .u8 (BitVec.ofNat 8 (s.length / 65536)), .u8 (BitVec.ofNat 8 (s.length / 256)), .u8 (BitVec.ofNat 8 s.length)]⟩]) hB (y := smB (smT (l ++ lg s))) (by rintro k blk h; cases h; rfl) h
  exact hfin
theorem f36' {K : AV → Heap → Prop} {H0 L Hx : Heap} {on : Bool} {l s : List (BitVec 8)} {m : Nat} (hm : m = H0.length) (hx : Hx = H0 ++ smB (smA on l) :: L) (hl : on = false → l = []) (hs : l.length + s.length ≤ 20000000) (h : K (.tup []) (H0 ++ smB (smT (l ++ lg s)) :: L)) :
    wpF P G 36 [.str s, .ptr m 0 [0] (.st [.arr 8 .leaf, .leaf, .leaf, .leaf])] Hx K := by
  subst hm hx
  exact f36 hl hs h
theorem f34 {K : AV → Heap → Prop} {H : Heap} {s : List (BitVec 8)} (hs : s.length ≤ 2000000) (h : K (.str (lg s)) H) : wpF P G 34 [.str s] H K := by
  refine wpF_go c34 rfl 3 ?_
  intro hA hB
  simp only [s34]
  have e1 : ((s.length : Nat) : Int).tdiv 16777216 = ((s.length / 16777216 : Nat) : Int) := rfl
  have e2 : ((s.length : Nat) : Int).tdiv 65536 = ((s.length / 65536 : Nat) : Int) := rfl
  have e3 : ((s.length : Nat) : Int).tdiv 256 = ((s.length / 256 : Nat) : Int) := rfl
  have e4 : ∀ n : Nat, BitVec.ofInt 8 (n : Int) = BitVec.ofNat 8 n := fun n => BitVec.ofInt_natCast _ _
  (refine gw4 @e1 @e2 @e3 @e4 ?_; try exact True.intro)
  (repeat (refine And.intro (by omega) ?_))
  exact h
/-- all parts behind a tag, each with how long it is -/
def lgs (ls : List (List (BitVec 8))) : Nat → List (BitVec 8)
  | 0 => []
  | i + 1 => lgs ls i ++ lg (ls.getD i [])
def sz (ls : List (List (BitVec 8))) : Nat → Nat
  | 0 => 0
  | i + 1 => sz ls i + (ls.getD i []).length
theorem lgs_len {ls : List (List (BitVec 8))} : ∀ {i : Nat}, (lgs ls i).length = sz ls i + 4 * i
  | 0 => rfl
  | i + 1 => by rw [lgs, sz, List.length_append, lgs_len, lg_len]; omega
theorem sz_mono {ls : List (List (BitVec 8))} {i : Nat} : ∀ {k : Nat}, sz ls i ≤ sz ls (i + k)
  | 0 => Nat.le_refl _
  | k + 1 => by rw [← Nat.add_assoc, sz]; have := sz_mono (ls := ls) (i := i) (k := k); omega
theorem ls_at {ls : List (List (BitVec 8))} {i : Nat} (h : i < ls.length) : (ls.map AV.str).getD i .un = .str (ls.getD i []) := by
  rw [List.getD_eq_getElem?_getD, List.getElem?_map, List.getElem?_eq_getElem h, List.getD_eq_getElem?_getD, List.getElem?_eq_getElem h]
  rfl
def Ix17 (tag : List (BitVec 8)) (ls : List (List (BitVec 8))) (H : Heap) (k : Nat) (st : St) : Prop :=
  ∃ (i : Nat) (u5 : AV), st = ⟨[.str tag, .ro .leaf (ls.map .str), .ptr H.length 0 [0] (.arr 32 .leaf), .str (lg tag ++ lgs ls i), .int (i : Int), u5], H ++ [Y32 (dL ini 0)]⟩ ∧ k = ls.length - i ∧ i ≤ ls.length
theorem f28 {K : AV → Heap → Prop} {H : Heap} {tag : List (BitVec 8)} {ls : List (List (BitVec 8))} (hs : tag.length + sz ls ls.length + ls.length ≤ 2000000) (h : K (.agg ((sha (lg tag ++ lgs ls ls.length)).map .u8)) H) : wpF P G 28 [.str tag, .ro .leaf (ls.map .str)] H K := by
  refine wpF_go c28 rfl 3 ?_
  intro ha hb
  simp only [s28]
  clear ha hb
  have lm : (ls.map AV.str).length = ls.length := by simp
  (refine gw0 ?_; try exact True.intro)
  refine f34 (by omega) ?_
  (refine gw0 ?_; try exact True.intro)
  refine wp_inv (Ix17 tag ls H) ls.length ⟨0, _, by rw [lgs, List.append_nil]; rfl, rfl, by omega⟩ ?_
  rintro k st ⟨i, u5, rfl, rfl, hi⟩
  by_cases hil : i < ls.length
  · have h2 : ((i : Int) < (ls.length : Int)) = True := by simp only [eq_iff_iff, iff_true]; omega
    have g1 := ls_at hil
    have hz1 : sz ls (i + 1) ≤ sz ls ls.length := by
      have := sz_mono (ls := ls) (i := i + 1) (k := ls.length - (i + 1))
      rwa [show i + 1 + (ls.length - (i + 1)) = ls.length by omega] at this
    have hz2 : sz ls (i + 1) = sz ls i + (ls.getD i []).length := rfl
    have hl1 : (lg tag ++ lgs ls i).length ≤ 20000000 := by rw [List.length_append, lg_len, lgs_len]; omega
    have hl2 := lg_len (s := ls.getD i [])
    have hn : (lg tag ++ lgs ls i) ++ lg (ls.getD i []) = lg tag ++ lgs ls (i + 1) := by rw [lgs, List.append_assoc]
    generalize hA : lg tag ++ lgs ls i = A at *
    (refine gw3 @h2 @g1 @lm ?_; try exact True.intro)
    refine f34 (by omega) ?_
    (refine gw1 @hn ?_; try exact True.intro)
    (repeat (refine And.intro (by omega) ?_))
    exact ⟨ls.length - (i + 1), by omega, i + 1, _, rfl, rfl, by omega⟩
  · have h2 : ((i : Int) < (ls.length : Int)) = False := by simp only [eq_iff_iff, iff_false]; omega
    have hie : i = ls.length := by omega
    subst hie
    have hl1 : (lg tag ++ lgs ls ls.length).length ≤ 20000000 := by rw [List.length_append, lg_len, lgs_len]; omega
    have hd := sha_len (l := lg tag ++ lgs ls ls.length)
    have h13 : ∀ {K : AV → Heap → Prop} {H : Heap}, K (.agg ((sha (lg tag ++ lgs ls ls.length)).map .u8)) H → wpF P G 35 [.str (lg tag ++ lgs ls ls.length)] H K := fun h => f35 (by omega) h
    generalize sha (lg tag ++ lgs ls ls.length) = d at *
    generalize lg tag ++ lgs ls ls.length = A at *
    unfold Y32
    (refine gw2 @h2 @lm ?_; try exact True.intro)
    refine h13 ?_
    (refine gw1 @hd ?_; try exact True.intro)
    exact h
def Ix16 (tag : List (BitVec 8)) (ls : List (List (BitVec 8))) (p f : AV) (n : Int) (H J : Heap) (k : Nat) (st : St) : Prop :=
  ∃ (i : Nat) (u5 u9 : AV), st = ⟨[.str tag, .ro .leaf (ls.map .str), p, .ptr (H.length + 1) 0 [0] (.st [.arr 8 .leaf, .leaf, .leaf, .leaf]), f, u5, .ro .leaf (ls.map .str), .int n, .int (i : Int), u9], H ++ Y32 (dL ini 0) :: smB (smT (lg tag ++ lgs ls i)) :: J⟩ ∧ k = ls.length - i ∧ i ≤ ls.length
theorem f30 {K : AV → Heap → Prop} {H : Heap} {tag : List (BitVec 8)} {ls : List (List (BitVec 8))} (hs : tag.length + sz ls ls.length + ls.length ≤ 2000000) (h : K (.agg ((sha (lg tag ++ lgs ls ls.length)).map .u8)) H) : wpF P G 30 [.str tag, .ro .leaf (ls.map .str)] H K := by
  refine wpF_go c30 rfl 3 ?_
  intro ha hb
  simp only [s30]
  clear ha hb
  have lm : (ls.map AV.str).length = ls.length := by simp
  (refine gw0 ?_; try exact True.intro)
  refine f36' (H0 := H ++ [Y32 (dL ini 0)]) (L := []) (on := false) (l := []) (s := tag) (by simp) (by rw [List.append_assoc]; rfl) (fun _ => rfl) (by simp; omega) ?_
  rw [List.append_assoc, List.nil_append]
  simp only [List.cons_append, List.nil_append]
  unfold Y32
  (refine gw1 @lm ?_; try exact True.intro)
  refine wp_inv (Ix16 tag ls _ _ _ H []) ls.length ⟨0, _, _, by rw [lgs, List.append_nil]; rfl, rfl, by omega⟩ ?_
  rintro k st ⟨i, u5, u9, rfl, rfl, hi⟩
  by_cases hil : i < ls.length
  · have h2 : ((i : Int) < (ls.length : Int)) = True := by simp only [eq_iff_iff, iff_true]; omega
    have g1 := ls_at hil
    have hz1 : sz ls (i + 1) ≤ sz ls ls.length := by
      have := sz_mono (ls := ls) (i := i + 1) (k := ls.length - (i + 1))
      rwa [show i + 1 + (ls.length - (i + 1)) = ls.length by omega] at this
    have hz2 : sz ls (i + 1) = sz ls i + (ls.getD i []).length := rfl
    have hl1 : (lg tag ++ lgs ls i).length + (ls.getD i []).length ≤ 20000000 := by rw [List.length_append, lg_len, lgs_len]; omega
    have hn : (lg tag ++ lgs ls i) ++ lg (ls.getD i []) = lg tag ++ lgs ls (i + 1) := by rw [lgs, List.append_assoc]
    generalize hA : lg tag ++ lgs ls i = A at *
    (refine gw3 @h2 @g1 @lm ?_; try exact True.intro)
    refine f36' (H0 := H ++ [Y32 (dL ini 0)]) (L := []) (on := true) (l := A) (by simp) (by rw [List.append_assoc]; rfl) (fun h => by cases h) (by omega) ?_
    rw [hn, List.append_assoc]
    simp only [List.cons_append, List.nil_append]
    (refine gw0 ?_; try exact True.intro)
    (repeat (refine And.intro (by omega) ?_))
    exact ⟨ls.length - (i + 1), by omega, i + 1, _, _, rfl, rfl, by omega⟩
  · have h2 : ((i : Int) < (ls.length : Int)) = False := by simp only [eq_iff_iff, iff_false]; omega
    have hie : i = ls.length := by omega
    subst hie
    have hl1 : (lg tag ++ lgs ls ls.length).length ≤ 20000000 := by rw [List.length_append, lg_len, lgs_len]; omega
    have hd := sha_len (l := lg tag ++ lgs ls ls.length)
    have h10 : ∀ {K : AV → Heap → Prop} {H : Heap} {b : Nat}, Heap.get H b = smB (smT (lg tag ++ lgs ls ls.length)) → K (.agg ((sha (lg tag ++ lgs ls ls.length)).map .u8)) H → wpF P G 38 [.ptr b 0 [0] (.st [.arr 8 .leaf, .leaf, .leaf, .leaf])] H K := fun hg h => f38 (on := true) hg (fun h => by cases h) (by omega) h
    generalize sha (lg tag ++ lgs ls ls.length) = d at *
    generalize lg tag ++ lgs ls ls.length = A at *
    unfold Y32
    (refine gw2 @h2 @lm ?_; try exact True.intro)
    refine h10 (by rw [hget_k]; rfl) ?_
    (refine gw1 @hd ?_; try exact True.intro)
    exact h
end Go.Proofs.YtajkclooknanjaaDoor

end

section
/-
  Layer 27 (commit): the sum that binds, as the program and the reference have it.
-/
open Go Go.V
namespace Go.Proofs.YtajkclooknanjaaDoor
/-- trefoil/trefoilref08.Fixed (0:x, 1:size, 4:, 6:) -/
def s29 : FnS := ⟨18, [0, 1, 4, 6],
    (.seq (.reg [⟨.var 2, (.q .mv), [.c (.str [])], none⟩])
    (.seq (.seq (.reg [⟨.new, (.q .mv), [.t 1], none⟩,
      ⟨.var 3, (.q (.bin .leq)), [.t 4, .c (.int 0)], none⟩])
    (.cond (.t 3) (.seq (.reg [⟨.var 2, (.q .mv), [.c (.str [])], none⟩])
    .ret)
    .skip))
    (.seq (.draw [⟨.new, (.q .mv), [.t 0], none⟩,
      ⟨.new, (.q (.bin .quo)), [.t 4, .c (.u64 256)], none⟩,
      ⟨.new, (.q .mv), [.t 1], none⟩,
      ⟨.new, (.q (.bin .sub)), [.t 6, .c (.int 1)], none⟩,
      ⟨.new, (.callp 29), [.t 5, .t 7], none⟩,
      ⟨.new, (.q .mv), [.t 0], none⟩,
      ⟨.new, (.q (.bin .rem)), [.t 9, .c (.u64 256)], none⟩,
      ⟨.new, (.q (.cv .u8)), [.t 10], none⟩,
      ⟨.new, (.e (.bsl 5 .leaf (.u8 0) 1 [0])), [.t 11], none⟩,
      ⟨.new, (.q .b2s), [.t 12], none⟩,
      ⟨.new, (.q (.bin .add)), [.t 8, .t 13], none⟩,
      ⟨.var 2, (.q .mv), [.t 14], none⟩])
    .ret))),
    [.t 2]⟩

/-- trefoil/commit.number (0:n, 2:) -/
def s31 : FnS := ⟨16, [0, 2],
    (.seq (.reg [⟨.var 1, (.q .mv), [.c (.str [])], none⟩])
    (.seq (.reg [⟨.new, (.q .mv), [.t 0], none⟩,
      ⟨.new, (.q (.bin .shr)), [.t 2, .c (.u64 24)], none⟩,
      ⟨.new, (.q (.cv .u8)), [.t 3], none⟩,
      ⟨.new, (.q .mv), [.t 0], none⟩,
      ⟨.new, (.q (.bin .shr)), [.t 5, .c (.u64 16)], none⟩,
      ⟨.new, (.q (.cv .u8)), [.t 6], none⟩,
      ⟨.new, (.q .mv), [.t 0], none⟩,
      ⟨.new, (.q (.bin .shr)), [.t 8, .c (.u64 8)], none⟩,
      ⟨.new, (.q (.cv .u8)), [.t 9], none⟩,
      ⟨.new, (.q .mv), [.t 0], none⟩,
      ⟨.new, (.q (.cv .u8)), [.t 11], none⟩,
      ⟨.new, (.e (.bsl 5 .leaf (.u8 0) 4 [0, 1, 2, 3])), [.t 4, .t 7, .t 10, .t 12], none⟩,
      ⟨.new, (.q .b2s), [.t 13], none⟩,
      ⟨.var 1, (.q .mv), [.t 14], none⟩])
    .ret)),
    [.t 1]⟩

/-- trefoil/trefoilref27.Of (0:party, 1:batch, 2:seed, 5:seed, 6:) -/
def s9 : FnS := ⟨17, [0, 1, 2, 5, 6],
    (.seq (.reg [⟨.var 3, (.e (.box 25 (.arr 32 .leaf))), [.t 2], none⟩,
      ⟨.var 4, (.e (.alloc 26 (.arr 32 .leaf) (.agg [(.u8 0), (.u8 0), (.u8 0), (.u8 0), (.u8 0), (.u8 0), (.u8 0), (.u8 0), (.u8 0), (.u8 0), (.u8 0), (.u8 0), (.u8 0), (.u8 0), (.u8 0), (.u8 0), (.u8 0), (.u8 0), (.u8 0), (.u8 0), (.u8 0), (.u8 0), (.u8 0), (.u8 0), (.u8 0), (.u8 0), (.u8 0), (.u8 0), (.u8 0), (.u8 0), (.u8 0), (.u8 0)]))), [], none⟩])
    (.seq (.draw [⟨.new, (.q .mv), [.t 0], none⟩,
      ⟨.new, (.q (.cv .u64)), [.t 5], none⟩,
      ⟨.new, (.call 29), [.t 6, .c (.int 4)], none⟩,
      ⟨.new, (.q .mv), [.t 1], none⟩,
      ⟨.new, (.q (.cv .u64)), [.t 8], none⟩,
      ⟨.new, (.call 29), [.t 9, .c (.int 4)], none⟩,
      ⟨.new, (.q (.slA 32 .leaf false false)), [.t 3], none⟩,
      ⟨.new, (.q .b2s), [.t 11], none⟩,
      ⟨.new, (.e (.bsl 9 .leaf (.str []) 3 [0, 1, 2])), [.t 7, .t 10, .t 12], none⟩,
      ⟨.new, (.call 28), [.c (.str [99, 111, 109, 109, 105, 116]), .t 13], none⟩,
      ⟨.none, (.e (.store (.arr 32 .leaf))), [.t 4, .t 14], none⟩])
    .ret)),
    [.cell 4 (.arr 32 .leaf)]⟩

/-- trefoil/commit.Of (0:party, 1:batch, 2:seed, 5:seed, 6:) -/
def s10 : FnS := ⟨16, [0, 1, 2, 5, 6],
    (.seq (.reg [⟨.var 3, (.e (.box 25 (.arr 32 .leaf))), [.t 2], none⟩,
      ⟨.var 4, (.e (.alloc 26 (.arr 32 .leaf) (.agg [(.u8 0), (.u8 0), (.u8 0), (.u8 0), (.u8 0), (.u8 0), (.u8 0), (.u8 0), (.u8 0), (.u8 0), (.u8 0), (.u8 0), (.u8 0), (.u8 0), (.u8 0), (.u8 0), (.u8 0), (.u8 0), (.u8 0), (.u8 0), (.u8 0), (.u8 0), (.u8 0), (.u8 0), (.u8 0), (.u8 0), (.u8 0), (.u8 0), (.u8 0), (.u8 0), (.u8 0), (.u8 0)]))), [], none⟩])
    (.seq (.draw [⟨.new, (.q .mv), [.t 0], none⟩,
      ⟨.new, (.q (.cv .u32)), [.t 5], none⟩,
      ⟨.new, (.call 31), [.t 6], none⟩,
      ⟨.new, (.q .mv), [.t 1], none⟩,
      ⟨.new, (.call 31), [.t 8], none⟩,
      ⟨.new, (.q (.slA 32 .leaf false false)), [.t 3], none⟩,
      ⟨.new, (.q .b2s), [.t 10], none⟩,
      ⟨.new, (.e (.bsl 9 .leaf (.str []) 3 [0, 1, 2])), [.t 7, .t 9, .t 11], none⟩,
      ⟨.new, (.call 30), [.c (.str [99, 111, 109, 109, 105, 116]), .t 12], none⟩,
      ⟨.none, (.e (.store (.arr 32 .leaf))), [.t 4, .t 13], none⟩])
    .ret)),
    [.cell 4 (.arr 32 .leaf)]⟩

/-- trefoil/commit.Holds (0:d, 1:party, 2:batch, 3:seed, 4:d, 7:seed, 8:) -/
def s11 : FnS := ⟨15, [0, 1, 2, 3, 4, 7, 8],
    (.seq (.reg [⟨.var 4, (.e (.box 26 (.arr 32 .leaf))), [.t 0], none⟩,
      ⟨.var 5, (.e (.box 25 (.arr 32 .leaf))), [.t 3], none⟩,
      ⟨.var 6, (.q .mv), [.c (.bool false)], none⟩])
    (.seq (.draw [⟨.new, (.q .mv), [.t 1], none⟩,
      ⟨.new, (.q .mv), [.t 2], none⟩,
      ⟨.new, (.q (.ld (.arr 32 .leaf))), [.t 5], none⟩,
      ⟨.new, (.call 10), [.t 7, .t 8, .t 9], none⟩,
      ⟨.new, (.q (.ld (.arr 32 .leaf))), [.t 4], none⟩,
      ⟨.new, (.q (.eqA false 32 .u8)), [.t 10, .t 11], none⟩,
      ⟨.var 6, (.q .mv), [.t 12], none⟩])
    .ret)),
    [.t 6]⟩

set_option maxRecDepth 100000
set_option linter.unusedSimpArgs false
set_option linter.unusedVariables false
theorem c29 : cF P G (drP P G) 29 2 s29.vm = some s29 := by kernel_rfl
theorem c31 : cF P G (drP P G) 31 1 s31.vm = some s31 := by kernel_rfl
theorem c9 : cF P G (drP P G) 9 3 s9.vm = some s9 := by kernel_rfl
theorem c10 : cF P G (drP P G) 10 3 s10.vm = some s10 := by kernel_rfl
theorem c11 : cF P G (drP P G) 11 4 s11.vm = some s11 := by kernel_rfl
/-- a number as so many bytes, the highest one first -/
def fx : BitVec 64 → Nat → List (BitVec 8)
  | _, 0 => []
  | x, n + 1 => fx (x / 256) n ++ [(x % 256).setWidth 8]
theorem fx_len : ∀ {n : Nat} {x : BitVec 64}, (fx x n).length = n
  | 0, _ => rfl
  | n + 1, x => by rw [fx, List.length_append, fx_len]; rfl
def num4 (n : BitVec 32) : List (BitVec 8) := [(n >>> 24).setWidth 8, (n >>> 16).setWidth 8, (n >>> 8).setWidth 8, n.setWidth 8]
theorem fx_num (x : BitVec 64) : fx x 4 = num4 (x.setWidth 32) := by
  have h1 : ((x / 256 / 256 / 256) % 256).setWidth 8 = ((x.setWidth 32) >>> 24).setWidth 8 := by
    apply BitVec.eq_of_toNat_eq
    simp only [BitVec.toNat_setWidth, BitVec.toNat_umod, BitVec.toNat_udiv, BitVec.toNat_ushiftRight, Nat.shiftRight_eq_div_pow, show (256 : BitVec 64).toNat = 256 from rfl]
    omega
  have h2 : ((x / 256 / 256) % 256).setWidth 8 = ((x.setWidth 32) >>> 16).setWidth 8 := by
    apply BitVec.eq_of_toNat_eq
    simp only [BitVec.toNat_setWidth, BitVec.toNat_umod, BitVec.toNat_udiv, BitVec.toNat_ushiftRight, Nat.shiftRight_eq_div_pow, show (256 : BitVec 64).toNat = 256 from rfl]
    omega
  have h3 : ((x / 256) % 256).setWidth 8 = ((x.setWidth 32) >>> 8).setWidth 8 := by
    apply BitVec.eq_of_toNat_eq
    simp only [BitVec.toNat_setWidth, BitVec.toNat_umod, BitVec.toNat_udiv, BitVec.toNat_ushiftRight, Nat.shiftRight_eq_div_pow, show (256 : BitVec 64).toNat = 256 from rfl]
    omega
  have h4 : (x % 256).setWidth 8 = (x.setWidth 32).setWidth 8 := by
    apply BitVec.eq_of_toNat_eq
    simp only [BitVec.toNat_setWidth, BitVec.toNat_umod, show (256 : BitVec 64).toNat = 256 from rfl]
    omega
  simp only [fx, num4, List.nil_append, List.cons_append, h1, h2, h3, h4]
theorem fx_int (p : Int) : fx (BitVec.ofInt 64 p) 4 = num4 (BitVec.ofInt 32 p) := by
  rw [fx_num]
  congr 1
  apply BitVec.eq_of_toNat_eq
  rw [BitVec.toNat_setWidth, BitVec.toNat_ofInt, BitVec.toNat_ofInt]
  omega
theorem fx_u32 (b : BitVec 32) : fx (b.setWidth 64) 4 = num4 b := by
  rw [fx_num]
  congr 1
  simp
theorem f29 : ∀ {n : Nat} {K : AV → Heap → Prop} {H : Heap} {x : BitVec 64}, n ≤ 100 → K (.str (fx x n)) H → wpF P G 29 [.u64 x, .int (n : Int)] H K
  | 0, K, H, x, _, h => by
    refine wpF_go c29 rfl 3 ?_
    intro ha hb
    simp only [s29]
    (refine gw0 ?_; try exact True.intro)
    exact h
  | n + 1, K, H, x, hn, h => by
    refine wpF_go c29 rfl 3 ?_
    intro ha hb
    simp only [s29]
    have h1 : (((n + 1 : Nat) : Int) ≤ 0) = False := by simp only [eq_iff_iff, iff_false]; omega
    have e1 : ((n + 1 : Nat) : Int) - 1 = (n : Int) := by omega
    have hl := fx_len (n := n) (x := x / 256)
    (refine gw2 @h1 @e1 ?_; try exact True.intro)
    refine ⟨by decide, ?_⟩
    (repeat (refine And.intro (by omega) ?_))
    refine drawp _ (fun H => f29 (n := n) (by omega) ⟨rfl, rfl⟩) ?_
    (refine gw1 @hl ?_; try exact True.intro)
    refine ⟨by decide, ?_⟩
    (repeat (refine And.intro (by omega) ?_))
    exact h
theorem f31 {K : AV → Heap → Prop} {H : Heap} {n : BitVec 32} (h : K (.str (num4 n)) H) : wpF P G 31 [.u32 n] H K := by
  refine wpF_go c31 rfl 3 ?_
  intro ha hb
  simp only [s31]
  (refine gw0 ?_; try exact True.intro)
  exact h
def tg : List (BitVec 8) := [99, 111, 109, 109, 105, 116]
/-- what binds a party to a seed -/
def com (p : Int) (b : BitVec 32) (s : List (BitVec 8)) : List (BitVec 8) := sha (lg tg ++ lgs [num4 (BitVec.ofInt 32 p), num4 b, s] 3)
theorem com_len {p : Int} {b : BitVec 32} {s : List (BitVec 8)} : (com p b s).length = 32 := sha_len
theorem m8_plain {d : List (BitVec 8)} : (AV.agg (d.map AV.u8)).plain2 = true := by
  simp only [AV.plain2, List.all_map, List.all_eq_true]
  intro x _; rfl
theorem com_sz {p b : BitVec 32} {s : List (BitVec 8)} (hs : s.length = 32) : tg.length + sz [num4 p, num4 b, s] 3 + 3 ≤ 2000000 := by
  simp only [sz, List.getD_cons_zero, List.getD_cons_succ, num4, List.length_cons, List.length_nil, hs, tg]
  omega
theorem f9 {K : AV → Heap → Prop} {H : Heap} {p : Int} {b : BitVec 32} {s : List (BitVec 8)} (hs : s.length = 32) (h : K (.agg ((com p b s).map .u8)) H) : wpF P G 9 [.int p, .u32 b, .agg (s.map .u8)] H K := by
  refine wpF_go c9 rfl 3 ?_
  intro ha hb
  simp only [s9]
  clear ha hb
  have hby : bytesOf (List.take 32 (s.map .u8)) = some s := by
    rw [List.take_of_length_le (by rw [List.length_map, hs]; omega), bytesOf_m]
  (refine gw1 @hs ?_; try exact True.intro)
  refine drawn _ (f29 (n := 4) (by decide) ⟨rfl, rfl⟩) ?_
  (refine gw0 ?_; try exact True.intro)
  refine drawn _ (f29 (n := 4) (by decide) ⟨rfl, rfl⟩) ?_
  (refine gw2 @hs @hby ?_; try exact True.intro)
  refine drawn (.agg ((com p b s).map .u8)) (wpF_lend1 3 ?_) ?_
  · (refine gw0 ?_; try exact True.intro)
    rw [fx_int, fx_u32]
    exact f28 (tag := tg) (ls := [num4 (BitVec.ofInt 32 p), num4 b, s]) (com_sz hs) ⟨m8_plain, rfl, rfl⟩
  · (refine gw0 ?_; try exact True.intro)
    exact ⟨com_len, h⟩
theorem f10 {K : AV → Heap → Prop} {H : Heap} {p : Int} {b : BitVec 32} {s : List (BitVec 8)} (hs : s.length = 32) (h : K (.agg ((com p b s).map .u8)) H) : wpF P G 10 [.int p, .u32 b, .agg (s.map .u8)] H K := by
  refine wpF_go c10 rfl 3 ?_
  intro ha hb
  simp only [s10]
  clear ha hb
  have hby : bytesOf (List.take 32 (s.map .u8)) = some s := by
    rw [List.take_of_length_le (by rw [List.length_map, hs]; omega), bytesOf_m]
  (refine gw1 @hs ?_; try exact True.intro)
  refine drawn _ (f31 ⟨rfl, rfl⟩) ?_
  (refine gw0 ?_; try exact True.intro)
  refine drawn _ (f31 ⟨rfl, rfl⟩) ?_
  (refine gw2 @hs @hby ?_; try exact True.intro)
  refine drawn (.agg ((com p b s).map .u8)) (wpF_lend1 3 ?_) ?_
  · (refine gw0 ?_; try exact True.intro)
    exact f30 (tag := tg) (ls := [num4 (BitVec.ofInt 32 p), num4 b, s]) (com_sz hs) ⟨m8_plain, rfl, rfl⟩
  · (refine gw0 ?_; try exact True.intro)
    exact ⟨com_len, h⟩
theorem f11 {K : AV → Heap → Prop} {H : Heap} {d : List (BitVec 8)} {p : Int} {b : BitVec 32} {s : List (BitVec 8)} (hd : d.length = 32) (hs : s.length = 32) (h : K (.bool (decide (com p b s = d))) H) : wpF P G 11 [.agg (d.map .u8), .int p, .u32 b, .agg (s.map .u8)] H K := by
  refine wpF_go c11 rfl 3 ?_
  intro ha hb
  simp only [s11]
  clear ha hb
  have hc := com_len (p := p) (b := b) (s := s)
  have hi : ((com p b s).map AV.u8 = d.map AV.u8) = (com p b s = d) := by
    simp only [eq_iff_iff]
    refine ⟨fun h => ?_, fun h => by rw [h]⟩
    exact (List.map_inj_right (fun a b h => by injection h)).1 h
  have h10 : ∀ {K : AV → Heap → Prop} {H : Heap}, K (.agg ((com p b s).map .u8)) H → wpF P G 10 [.int p, .u32 b, .agg (s.map .u8)] H K := fun h => f10 hs h
  generalize com p b s = e at *
  (refine gw2 @hd @hs ?_; try exact True.intro)
  refine drawn _ (h10 ⟨rfl, rfl⟩) ?_
  (refine gw3 @hc @hd @hi ?_; try exact True.intro)
  exact ⟨m8_kind, m8_kind, h⟩
end Go.Proofs.YtajkclooknanjaaDoor

end

section
/-
  Layer 27 (commit): a box that a party is bound in; the laws CommitSums and CommitNobody, walked.
-/
open Go Go.V
namespace Go.Proofs.YtajkclooknanjaaDoor
/-- (*trefoil/commit.Box).Bind (0:b, 1:party, 2:batch, 3:d, 7:d, 8:, 9:, 12:) -/
def s14 : FnS := ⟨33, [0, 1, 2, 3, 7, 8, 9, 12],
    (.seq (.reg [⟨.var 4, (.e (.box 26 (.arr 32 .leaf))), [.t 3], none⟩,
      ⟨.var 5, (.q .mv), [.c (.int 0)], none⟩])
    (.seq (.block 0 (.seq (.reg [⟨.new, (.q .mv), [.t 0], none⟩,
      ⟨.new, (.q (.eqP false)), [.t 8, .c .nilp], none⟩,
      ⟨.var 6, (.q .mv), [.t 9], none⟩])
    (.cond (.t 6) (.seq (.reg [⟨.var 5, (.q .mv), [.c (.int 3)], none⟩])
    .ret)
    (.seq (.reg [⟨.new, (.q .mv), [.t 0], none⟩,
      ⟨.new, (.q .nilc), [.t 8], none⟩,
      ⟨.new, (.q (.fa [(.arr 32 .leaf), .leaf, .leaf, .leaf, (.arr 32 .leaf)] 3)), [.t 9], none⟩,
      ⟨.new, (.q (.ld .leaf)), [.t 10], none⟩,
      ⟨.new, (.q (.bin .neq)), [.t 11, .c (.int 0)], none⟩,
      ⟨.var 7, (.q .mv), [.t 12], none⟩])
    (.cond (.t 7) (.seq (.reg [⟨.var 5, (.q .mv), [.c (.int 7)], none⟩])
    .ret)
    .skip)))))
    (.seq (.draw [⟨.none, (.pairs [(6, 9), (6, 12)]), [], none⟩,
      ⟨.new, (.q .mv), [.t 0], none⟩,
      ⟨.new, (.q .mv), [.t 0], none⟩,
      ⟨.new, (.q .mv), [.t 0], none⟩,
      ⟨.new, (.q .mv), [.t 0], none⟩,
      ⟨.new, (.q .mv), [.t 1], none⟩,
      ⟨.new, (.q .mv), [.t 2], none⟩,
      ⟨.new, (.q (.ld (.arr 32 .leaf))), [.t 4], none⟩,
      ⟨.new, (.q .nilc), [.t 8], none⟩,
      ⟨.new, (.q (.fa [(.arr 32 .leaf), .leaf, .leaf, .leaf, (.arr 32 .leaf)] 1)), [.t 15], none⟩,
      ⟨.none, (.e (.store .leaf)), [.t 16, .t 12], none⟩,
      ⟨.new, (.q .nilc), [.t 9], none⟩,
      ⟨.new, (.q (.fa [(.arr 32 .leaf), .leaf, .leaf, .leaf, (.arr 32 .leaf)] 2)), [.t 17], none⟩,
      ⟨.none, (.e (.store .leaf)), [.t 18, .t 13], none⟩,
      ⟨.new, (.q .nilc), [.t 10], none⟩,
      ⟨.new, (.q (.fa [(.arr 32 .leaf), .leaf, .leaf, .leaf, (.arr 32 .leaf)] 0)), [.t 19], none⟩,
      ⟨.none, (.e (.store (.arr 32 .leaf))), [.t 20, .t 14], none⟩,
      ⟨.new, (.q .nilc), [.t 11], none⟩,
      ⟨.new, (.q (.fa [(.arr 32 .leaf), .leaf, .leaf, .leaf, (.arr 32 .leaf)] 3)), [.t 21], none⟩,
      ⟨.none, (.e (.store .leaf)), [.t 22, .c (.int 1)], none⟩])
    (.seq (.reg [⟨.var 5, (.q .mv), [.c (.int 0)], none⟩])
    .ret)))),
    [.t 5]⟩

/-- (*trefoil/commit.Box).Tell (0:b, 1:seed, 3:seed, 4:, 5:, 8:, 14:, 20:) -/
def s16 : FnS := ⟨43, [0, 1, 3, 4, 5, 8, 14, 20],
    (.seq (.reg [⟨.var 2, (.e (.box 25 (.arr 32 .leaf))), [.t 1], none⟩,
      ⟨.var 3, (.q .mv), [.c (.int 0)], none⟩])
    (.seq (.block 0 (.seq (.reg [⟨.new, (.q .mv), [.t 0], none⟩,
      ⟨.new, (.q (.eqP false)), [.t 8, .c .nilp], none⟩,
      ⟨.var 4, (.q .mv), [.t 9], none⟩])
    (.cond (.t 4) (.seq (.reg [⟨.var 3, (.q .mv), [.c (.int 3)], none⟩])
    .ret)
    (.seq (.reg [⟨.new, (.q .mv), [.t 0], none⟩,
      ⟨.new, (.q .nilc), [.t 8], none⟩,
      ⟨.new, (.q (.fa [(.arr 32 .leaf), .leaf, .leaf, .leaf, (.arr 32 .leaf)] 3)), [.t 9], none⟩,
      ⟨.new, (.q (.ld .leaf)), [.t 10], none⟩,
      ⟨.new, (.q (.bin .eql)), [.t 11, .c (.int 0)], none⟩,
      ⟨.var 5, (.q .mv), [.t 12], none⟩])
    (.cond (.t 5) (.seq (.reg [⟨.var 3, (.q .mv), [.c (.int 8)], none⟩])
    .ret)
    (.seq (.reg [⟨.new, (.q .mv), [.t 0], none⟩,
      ⟨.new, (.q .nilc), [.t 8], none⟩,
      ⟨.new, (.q (.fa [(.arr 32 .leaf), .leaf, .leaf, .leaf, (.arr 32 .leaf)] 3)), [.t 9], none⟩,
      ⟨.new, (.q (.ld .leaf)), [.t 10], none⟩,
      ⟨.new, (.q (.bin .eql)), [.t 11, .c (.int 2)], none⟩,
      ⟨.var 6, (.q .mv), [.t 12], none⟩])
    (.cond (.t 6) (.seq (.reg [⟨.var 3, (.q .mv), [.c (.int 7)], none⟩])
    .ret)
    (.seq (.draw [⟨.new, (.q .mv), [.t 0], none⟩,
      ⟨.new, (.q .nilc), [.t 8], none⟩,
      ⟨.new, (.q (.fa [(.arr 32 .leaf), .leaf, .leaf, .leaf, (.arr 32 .leaf)] 0)), [.t 9], none⟩,
      ⟨.new, (.q (.ld (.arr 32 .leaf))), [.t 10], none⟩,
      ⟨.new, (.q .mv), [.t 0], none⟩,
      ⟨.new, (.q .nilc), [.t 12], none⟩,
      ⟨.new, (.q (.fa [(.arr 32 .leaf), .leaf, .leaf, .leaf, (.arr 32 .leaf)] 1)), [.t 13], none⟩,
      ⟨.new, (.q (.ld .leaf)), [.t 14], none⟩,
      ⟨.new, (.q .mv), [.t 0], none⟩,
      ⟨.new, (.q .nilc), [.t 16], none⟩,
      ⟨.new, (.q (.fa [(.arr 32 .leaf), .leaf, .leaf, .leaf, (.arr 32 .leaf)] 2)), [.t 17], none⟩,
      ⟨.new, (.q (.ld .leaf)), [.t 18], none⟩,
      ⟨.new, (.q (.ld (.arr 32 .leaf))), [.t 2], none⟩,
      ⟨.new, (.call 11), [.t 11, .t 15, .t 19, .t 20], none⟩,
      ⟨.new, (.q (.un .not)), [.t 21], none⟩,
      ⟨.var 7, (.q .mv), [.t 22], none⟩])
    (.cond (.t 7) (.seq (.reg [⟨.var 3, (.q .mv), [.c (.int 30)], none⟩])
    .ret)
    .skip)))))))))
    (.seq (.reg [⟨.new, (.q .mv), [.t 0], none⟩,
      ⟨.new, (.q .mv), [.t 0], none⟩,
      ⟨.new, (.q (.ld (.arr 32 .leaf))), [.t 2], none⟩,
      ⟨.new, (.q .nilc), [.t 8], none⟩,
      ⟨.new, (.q (.fa [(.arr 32 .leaf), .leaf, .leaf, .leaf, (.arr 32 .leaf)] 4)), [.t 11], none⟩,
      ⟨.none, (.e (.store (.arr 32 .leaf))), [.t 12, .t 10], none⟩,
      ⟨.new, (.q .nilc), [.t 9], none⟩,
      ⟨.new, (.q (.fa [(.arr 32 .leaf), .leaf, .leaf, .leaf, (.arr 32 .leaf)] 3)), [.t 13], none⟩,
      ⟨.none, (.e (.store .leaf)), [.t 14, .c (.int 2)], none⟩])
    (.seq (.reg [⟨.var 3, (.q .mv), [.c (.int 0)], none⟩])
    .ret)))),
    [.t 3]⟩

/-- (*trefoil/commit.Box).Seed (0:b, 2:, 3:, 12:) -/
def s17 : FnS := ⟨18, [0, 2, 3, 12],
    (.seq (.reg [⟨.var 1, (.e (.alloc 25 (.arr 32 .leaf) (.agg [(.u8 0), (.u8 0), (.u8 0), (.u8 0), (.u8 0), (.u8 0), (.u8 0), (.u8 0), (.u8 0), (.u8 0), (.u8 0), (.u8 0), (.u8 0), (.u8 0), (.u8 0), (.u8 0), (.u8 0), (.u8 0), (.u8 0), (.u8 0), (.u8 0), (.u8 0), (.u8 0), (.u8 0), (.u8 0), (.u8 0), (.u8 0), (.u8 0), (.u8 0), (.u8 0), (.u8 0), (.u8 0)]))), [], none⟩,
      ⟨.var 2, (.q .mv), [.c (.bool false)], none⟩])
    (.seq (.seq (.reg [⟨.new, (.q .mv), [.t 0], none⟩,
      ⟨.new, (.q (.eqP false)), [.t 4, .c .nilp], none⟩,
      ⟨.new, (.q .mv), [.t 5], none⟩,
      ⟨.new, (.q .mv), [.t 0], (some (6, false))⟩,
      ⟨.new, (.q .nilc), [.t 7], (some (6, false))⟩,
      ⟨.new, (.q (.fa [(.arr 32 .leaf), .leaf, .leaf, .leaf, (.arr 32 .leaf)] 3)), [.t 8], (some (6, false))⟩,
      ⟨.new, (.q (.ld .leaf)), [.t 9], (some (6, false))⟩,
      ⟨.new, (.q (.bin .neq)), [.t 10, .c (.int 2)], (some (6, false))⟩,
      ⟨.var 3, (.q .pick), [.t 6, .c (.bool true), .t 11], none⟩])
    (.cond (.t 3) (.seq (.reg [⟨.new, (.e (.bld (.arr 32 .leaf) (.agg [(.u8 0), (.u8 0), (.u8 0), (.u8 0), (.u8 0), (.u8 0), (.u8 0), (.u8 0), (.u8 0), (.u8 0), (.u8 0), (.u8 0), (.u8 0), (.u8 0), (.u8 0), (.u8 0), (.u8 0), (.u8 0), (.u8 0), (.u8 0), (.u8 0), (.u8 0), (.u8 0), (.u8 0), (.u8 0), (.u8 0), (.u8 0), (.u8 0), (.u8 0), (.u8 0), (.u8 0), (.u8 0)]) [])), [], none⟩,
      ⟨.none, (.e (.store (.arr 32 .leaf))), [.t 1, .t 4], none⟩,
      ⟨.var 2, (.q .mv), [.c (.bool false)], none⟩])
    .ret)
    .skip))
    (.seq (.reg [⟨.new, (.q .mv), [.t 0], none⟩,
      ⟨.new, (.q .nilc), [.t 4], none⟩,
      ⟨.new, (.q (.fa [(.arr 32 .leaf), .leaf, .leaf, .leaf, (.arr 32 .leaf)] 4)), [.t 5], none⟩,
      ⟨.new, (.q (.ld (.arr 32 .leaf))), [.t 6], none⟩,
      ⟨.none, (.e (.store (.arr 32 .leaf))), [.t 1, .t 7], none⟩,
      ⟨.var 2, (.q .mv), [.c (.bool true)], none⟩])
    .ret))),
    [.cell 1 (.arr 32 .leaf), .t 2]⟩

/-- (*trefoil/commit.Box).Bound (0:b, 2:) -/
def s18 : FnS := ⟨12, [0, 2],
    (.seq (.reg [⟨.var 1, (.q .mv), [.c (.bool false)], none⟩])
    (.seq (.reg [⟨.new, (.q .mv), [.t 0], none⟩,
      ⟨.new, (.q (.eqP true)), [.t 2, .c .nilp], none⟩,
      ⟨.new, (.q .mv), [.t 3], none⟩,
      ⟨.new, (.q .mv), [.t 0], (some (4, true))⟩,
      ⟨.new, (.q .nilc), [.t 5], (some (4, true))⟩,
      ⟨.new, (.q (.fa [(.arr 32 .leaf), .leaf, .leaf, .leaf, (.arr 32 .leaf)] 3)), [.t 6], (some (4, true))⟩,
      ⟨.new, (.q (.ld .leaf)), [.t 7], (some (4, true))⟩,
      ⟨.new, (.q (.bin .neq)), [.t 8, .c (.int 0)], (some (4, true))⟩,
      ⟨.new, (.q .pick), [.t 4, .t 9, .c (.bool false)], none⟩,
      ⟨.var 1, (.q .mv), [.t 10], none⟩])
    .ret)),
    [.t 1]⟩

/-- trefoil/trefoillaw27.awake (0:, 1:b, 2:s, 3:x, 4:ok, 14:) -/
def s12 : FnS := ⟨32, [0, 1, 2, 3, 4, 14],
    (.seq (.reg [⟨.var 0, (.q .mv), [.c (.bool false)], none⟩])
    (.seq (.reg [⟨.var 1, (.e (.alloc 33 (.st [(.arr 32 .leaf), .leaf, .leaf, .leaf, (.arr 32 .leaf)]) (.agg [(.agg [(.u8 0), (.u8 0), (.u8 0), (.u8 0), (.u8 0), (.u8 0), (.u8 0), (.u8 0), (.u8 0), (.u8 0), (.u8 0), (.u8 0), (.u8 0), (.u8 0), (.u8 0), (.u8 0), (.u8 0), (.u8 0), (.u8 0), (.u8 0), (.u8 0), (.u8 0), (.u8 0), (.u8 0), (.u8 0), (.u8 0), (.u8 0), (.u8 0), (.u8 0), (.u8 0), (.u8 0), (.u8 0)]), (.int 0), (.u32 0), (.int 0), (.agg [(.u8 0), (.u8 0), (.u8 0), (.u8 0), (.u8 0), (.u8 0), (.u8 0), (.u8 0), (.u8 0), (.u8 0), (.u8 0), (.u8 0), (.u8 0), (.u8 0), (.u8 0), (.u8 0), (.u8 0), (.u8 0), (.u8 0), (.u8 0), (.u8 0), (.u8 0), (.u8 0), (.u8 0), (.u8 0), (.u8 0), (.u8 0), (.u8 0), (.u8 0), (.u8 0), (.u8 0), (.u8 0)])]))), [], none⟩])
    (.seq (.reg [⟨.new, (.e (.bld (.arr 32 .leaf) (.agg [(.u8 0), (.u8 0), (.u8 0), (.u8 0), (.u8 0), (.u8 0), (.u8 0), (.u8 0), (.u8 0), (.u8 0), (.u8 0), (.u8 0), (.u8 0), (.u8 0), (.u8 0), (.u8 0), (.u8 0), (.u8 0), (.u8 0), (.u8 0), (.u8 0), (.u8 0), (.u8 0), (.u8 0), (.u8 0), (.u8 0), (.u8 0), (.u8 0), (.u8 0), (.u8 0), (.u8 0), (.u8 0)]) [0])), [.c (.u8 7)], none⟩,
      ⟨.var 2, (.e (.alloc 25 (.arr 32 .leaf) (.agg [(.u8 0), (.u8 0), (.u8 0), (.u8 0), (.u8 0), (.u8 0), (.u8 0), (.u8 0), (.u8 0), (.u8 0), (.u8 0), (.u8 0), (.u8 0), (.u8 0), (.u8 0), (.u8 0), (.u8 0), (.u8 0), (.u8 0), (.u8 0), (.u8 0), (.u8 0), (.u8 0), (.u8 0), (.u8 0), (.u8 0), (.u8 0), (.u8 0), (.u8 0), (.u8 0), (.u8 0), (.u8 0)]))), [], none⟩,
      ⟨.none, (.e (.store (.arr 32 .leaf))), [.t 2, .t 6], none⟩])
    (.seq (.seq (.reg [⟨.new, (.q (.ld (.arr 32 .leaf))), [.t 2], none⟩,
      ⟨.new, (.call 10), [.c (.int 0), .c (.u32 1), .t 6], none⟩,
      ⟨.new, (.call 14), [.t 1, .c (.int 0), .c (.u32 1), .t 7], none⟩,
      ⟨.new, (.q (.bin .neq)), [.t 8, .c (.int 0)], none⟩,
      ⟨.new, (.q .mv), [.t 9], none⟩,
      ⟨.new, (.q (.ld (.arr 32 .leaf))), [.t 2], (some (10, false))⟩,
      ⟨.new, (.call 16), [.t 1, .t 11], (some (10, false))⟩,
      ⟨.new, (.q (.bin .neq)), [.t 12, .c (.int 0)], (some (10, false))⟩,
      ⟨.var 5, (.q .pick), [.t 10, .c (.bool true), .t 13], none⟩])
    (.cond (.t 5) (.seq (.reg [⟨.var 0, (.q .mv), [.c (.bool false)], none⟩])
    .ret)
    .skip))
    (.seq (.reg [⟨.new, (.call 17), [.t 1], none⟩,
      ⟨.new, (.q .mv), [.t 6], none⟩,
      ⟨.new, (.q (.ext 0)), [.t 7], none⟩,
      ⟨.new, (.q (.ext 1)), [.t 7], none⟩,
      ⟨.var 3, (.e (.alloc 25 (.arr 32 .leaf) (.agg [(.u8 0), (.u8 0), (.u8 0), (.u8 0), (.u8 0), (.u8 0), (.u8 0), (.u8 0), (.u8 0), (.u8 0), (.u8 0), (.u8 0), (.u8 0), (.u8 0), (.u8 0), (.u8 0), (.u8 0), (.u8 0), (.u8 0), (.u8 0), (.u8 0), (.u8 0), (.u8 0), (.u8 0), (.u8 0), (.u8 0), (.u8 0), (.u8 0), (.u8 0), (.u8 0), (.u8 0), (.u8 0)]))), [], none⟩,
      ⟨.none, (.e (.store (.arr 32 .leaf))), [.t 3, .t 8], none⟩,
      ⟨.var 4, (.q .mv), [.t 9], none⟩])
    (.seq (.draw [⟨.new, (.q .mv), [.t 4], none⟩,
      ⟨.new, (.q .mv), [.t 6], none⟩,
      ⟨.new, (.q (.ld (.arr 32 .leaf))), [.t 3], (some (7, true))⟩,
      ⟨.new, (.q (.ld (.arr 32 .leaf))), [.t 2], (some (7, true))⟩,
      ⟨.new, (.q (.eqA false 32 .u8)), [.t 8, .t 9], (some (7, true))⟩,
      ⟨.new, (.q .pick), [.t 7, .t 10, .c (.bool false)], none⟩,
      ⟨.new, (.q .mv), [.t 11], none⟩,
      ⟨.new, (.q (.ld (.arr 32 .leaf))), [.t 2], (some (12, true))⟩,
      ⟨.new, (.call 10), [.c (.int 0), .c (.u32 1), .t 13], (some (12, true))⟩,
      ⟨.new, (.q (.ld (.arr 32 .leaf))), [.t 2], (some (12, true))⟩,
      ⟨.new, (.call 9), [.c (.int 0), .c (.u32 1), .t 15], (some (12, true))⟩,
      ⟨.new, (.q (.eqA false 32 .u8)), [.t 14, .t 16], (some (12, true))⟩,
      ⟨.new, (.q .pick), [.t 12, .t 17, .c (.bool false)], none⟩,
      ⟨.var 0, (.q .mv), [.t 18], none⟩])
    .ret)))))),
    [.t 0]⟩

/-- trefoil/trefoillaw27.CommitSums (0:party, 1:batch, 2:seed, 3:d, 4:right, 7:seed, 8:d, 10:, 11:own, 17:) -/
def s3 : FnS := ⟨41, [0, 1, 2, 3, 4, 7, 8, 10, 11, 17],
    (.seq (.reg [⟨.var 5, (.e (.box 25 (.arr 32 .leaf))), [.t 2], none⟩,
      ⟨.var 6, (.e (.box 26 (.arr 32 .leaf))), [.t 3], none⟩,
      ⟨.var 7, (.q .mv), [.c (.bool false)], none⟩])
    (.seq (.reg [⟨.new, (.q .mv), [.t 0], none⟩,
      ⟨.new, (.q (.cv .i64)), [.t 10], none⟩,
      ⟨.new, (.q .mv), [.t 1], none⟩,
      ⟨.new, (.q (.ld (.arr 32 .leaf))), [.t 5], none⟩,
      ⟨.new, (.call 9), [.t 11, .t 12, .t 13], none⟩,
      ⟨.var 8, (.e (.alloc 26 (.arr 32 .leaf) (.agg [(.u8 0), (.u8 0), (.u8 0), (.u8 0), (.u8 0), (.u8 0), (.u8 0), (.u8 0), (.u8 0), (.u8 0), (.u8 0), (.u8 0), (.u8 0), (.u8 0), (.u8 0), (.u8 0), (.u8 0), (.u8 0), (.u8 0), (.u8 0), (.u8 0), (.u8 0), (.u8 0), (.u8 0), (.u8 0), (.u8 0), (.u8 0), (.u8 0), (.u8 0), (.u8 0), (.u8 0), (.u8 0)]))), [], none⟩,
      ⟨.none, (.e (.store (.arr 32 .leaf))), [.t 8, .t 14], none⟩])
    (.seq (.seq (.reg [⟨.var 9, (.q .mv), [.t 4], none⟩])
    (.cond (.t 9) (.reg [⟨.new, (.q (.ld (.arr 32 .leaf))), [.t 8], none⟩,
      ⟨.none, (.e (.store (.arr 32 .leaf))), [.t 6, .t 10], none⟩])
    .skip))
    (.seq (.draw [⟨.new, (.q .mv), [.t 0], none⟩,
      ⟨.new, (.q (.cv .i64)), [.t 10], none⟩,
      ⟨.new, (.q .mv), [.t 1], none⟩,
      ⟨.new, (.q (.ld (.arr 32 .leaf))), [.t 5], none⟩,
      ⟨.new, (.call 10), [.t 11, .t 12, .t 13], none⟩,
      ⟨.new, (.q (.ld (.arr 32 .leaf))), [.t 8], none⟩,
      ⟨.new, (.q (.eqA false 32 .u8)), [.t 14, .t 15], none⟩,
      ⟨.new, (.q .mv), [.t 16], none⟩,
      ⟨.new, (.q (.ld (.arr 32 .leaf))), [.t 6], (some (17, true))⟩,
      ⟨.new, (.q .mv), [.t 0], (some (17, true))⟩,
      ⟨.new, (.q (.cv .i64)), [.t 19], (some (17, true))⟩,
      ⟨.new, (.q .mv), [.t 1], (some (17, true))⟩,
      ⟨.new, (.q (.ld (.arr 32 .leaf))), [.t 5], (some (17, true))⟩,
      ⟨.new, (.call 11), [.t 18, .t 20, .t 21, .t 22], (some (17, true))⟩,
      ⟨.new, (.q (.ld (.arr 32 .leaf))), [.t 6], (some (17, true))⟩,
      ⟨.new, (.q (.ld (.arr 32 .leaf))), [.t 8], (some (17, true))⟩,
      ⟨.new, (.q (.eqA false 32 .u8)), [.t 24, .t 25], (some (17, true))⟩,
      ⟨.new, (.q (.eqB false)), [.t 23, .t 26], (some (17, true))⟩,
      ⟨.new, (.q .pick), [.t 17, .t 27, .c (.bool false)], none⟩,
      ⟨.new, (.q .mv), [.t 28], none⟩,
      ⟨.new, (.call 12), [], (some (29, true))⟩,
      ⟨.new, (.q .pick), [.t 29, .t 30, .c (.bool false)], none⟩,
      ⟨.var 7, (.q .mv), [.t 31], none⟩])
    .ret)))),
    [.t 7]⟩

/-- trefoil/trefoillaw27.CommitNobody (0:d, 1:seed, 2:d, 3:seed, 4:, 5:b, 6:s, 7:ok) -/
def s5 : FnS := ⟨40, [0, 1, 2, 3, 4, 5, 6, 7],
    (.seq (.reg [⟨.var 2, (.e (.box 26 (.arr 32 .leaf))), [.t 0], none⟩,
      ⟨.var 3, (.e (.box 25 (.arr 32 .leaf))), [.t 1], none⟩,
      ⟨.var 4, (.q .mv), [.c (.bool false)], none⟩])
    (.seq (.reg [⟨.var 5, (.q .mv), [.c .nilp], none⟩])
    (.seq (.reg [⟨.new, (.q .mv), [.t 5], none⟩,
      ⟨.new, (.call 17), [.t 8], none⟩,
      ⟨.new, (.q .mv), [.t 9], none⟩,
      ⟨.new, (.q (.ext 0)), [.t 10], none⟩,
      ⟨.new, (.q (.ext 1)), [.t 10], none⟩,
      ⟨.var 6, (.e (.alloc 25 (.arr 32 .leaf) (.agg [(.u8 0), (.u8 0), (.u8 0), (.u8 0), (.u8 0), (.u8 0), (.u8 0), (.u8 0), (.u8 0), (.u8 0), (.u8 0), (.u8 0), (.u8 0), (.u8 0), (.u8 0), (.u8 0), (.u8 0), (.u8 0), (.u8 0), (.u8 0), (.u8 0), (.u8 0), (.u8 0), (.u8 0), (.u8 0), (.u8 0), (.u8 0), (.u8 0), (.u8 0), (.u8 0), (.u8 0), (.u8 0)]))), [], none⟩,
      ⟨.none, (.e (.store (.arr 32 .leaf))), [.t 6, .t 11], none⟩,
      ⟨.var 7, (.q .mv), [.t 12], none⟩])
    (.seq (.reg [⟨.new, (.q .mv), [.t 5], none⟩,
      ⟨.new, (.q (.ld (.arr 32 .leaf))), [.t 2], none⟩,
      ⟨.new, (.call 14), [.t 8, .c (.int 0), .c (.u32 0), .t 9], none⟩,
      ⟨.new, (.q (.bin .eql)), [.t 10, .c (.int 3)], none⟩,
      ⟨.new, (.q .mv), [.t 11], none⟩,
      ⟨.new, (.q .mv), [.t 5], (some (12, true))⟩,
      ⟨.new, (.q (.ld (.arr 32 .leaf))), [.t 3], (some (12, true))⟩,
      ⟨.new, (.call 16), [.t 13, .t 14], (some (12, true))⟩,
      ⟨.new, (.q (.bin .eql)), [.t 15, .c (.int 3)], (some (12, true))⟩,
      ⟨.new, (.q .pick), [.t 12, .t 16, .c (.bool false)], none⟩,
      ⟨.new, (.q .mv), [.t 17], none⟩,
      ⟨.new, (.q (.ld (.arr 32 .leaf))), [.t 6], (some (18, true))⟩,
      ⟨.new, (.e (.bld (.arr 32 .leaf) (.agg [(.u8 0), (.u8 0), (.u8 0), (.u8 0), (.u8 0), (.u8 0), (.u8 0), (.u8 0), (.u8 0), (.u8 0), (.u8 0), (.u8 0), (.u8 0), (.u8 0), (.u8 0), (.u8 0), (.u8 0), (.u8 0), (.u8 0), (.u8 0), (.u8 0), (.u8 0), (.u8 0), (.u8 0), (.u8 0), (.u8 0), (.u8 0), (.u8 0), (.u8 0), (.u8 0), (.u8 0), (.u8 0)]) [])), [], (some (18, true))⟩,
      ⟨.new, (.q (.eqA false 32 .u8)), [.t 19, .t 20], (some (18, true))⟩,
      ⟨.new, (.q .pick), [.t 18, .t 21, .c (.bool false)], none⟩,
      ⟨.new, (.q .mv), [.t 22], none⟩,
      ⟨.new, (.q .mv), [.t 7], (some (23, true))⟩,
      ⟨.new, (.q (.un .not)), [.t 24], (some (23, true))⟩,
      ⟨.new, (.q .pick), [.t 23, .t 25, .c (.bool false)], none⟩,
      ⟨.new, (.q .mv), [.t 26], none⟩,
      ⟨.new, (.q .mv), [.t 5], (some (27, true))⟩,
      ⟨.new, (.call 18), [.t 28], (some (27, true))⟩,
      ⟨.new, (.q (.un .not)), [.t 29], (some (27, true))⟩,
      ⟨.new, (.q .pick), [.t 27, .t 30, .c (.bool false)], none⟩,
      ⟨.new, (.q .mv), [.t 31], none⟩,
      ⟨.new, (.call 12), [], (some (32, true))⟩,
      ⟨.new, (.q .pick), [.t 32, .t 33, .c (.bool false)], none⟩,
      ⟨.var 4, (.q .mv), [.t 34], none⟩])
    .ret)))),
    [.t 4]⟩

set_option maxRecDepth 100000
set_option linter.unusedSimpArgs false
set_option linter.unusedVariables false
theorem c14 : cF P G (drP P G) 14 4 s14.vm = some s14 := by kernel_rfl
theorem c16 : cF P G (drP P G) 16 2 s16.vm = some s16 := by kernel_rfl
theorem c17 : cF P G (drP P G) 17 1 s17.vm = some s17 := by kernel_rfl
theorem c18 : cF P G (drP P G) 18 1 s18.vm = some s18 := by kernel_rfl
theorem c12 : cF P G (drP P G) 12 0 s12.vm = some s12 := by kernel_rfl
theorem c3 : cF P G (drP P G) 3 5 s3.vm = some s3 := by kernel_rfl
theorem c5 : cF P G (drP P G) 5 2 s5.vm = some s5 := by kernel_rfl
abbrev bxS : Shape := .st [.arr 32 .leaf, .leaf, .leaf, .leaf, .arr 32 .leaf]
/-- a box: what a party was bound to, who, in which batch, the state, the seed -/
structure Bx where
  d : List (BitVec 8)
  p : Int
  b : BitVec 32
  s : Int
  x : List (BitVec 8)
def Bx.ok (z : Bx) : Prop := z.d.length = 32 ∧ z.x.length = 32
def bxA (z : Bx) : AV := .agg [.agg (z.d.map .u8), .int z.p, .u32 z.b, .int z.s, .agg (z.x.map .u8)]
def bxB (z : Bx) : Option Blk := some ⟨33, 0, false, .arr 1 bxS, .agg [bxA z]⟩
/-- what Bind makes of it -/
def bind (z : Bx) (p : Int) (b : BitVec 32) (d : List (BitVec 8)) : Bx := if z.s = 0 then ⟨d, p, b, 1, z.x⟩ else z
def bindE (z : Bx) : Int := if z.s = 0 then 0 else 7
theorem bx_bnd {z : Bx} {k : Nat} : (AV.agg [bxA z]).bnd k = true := by
  simp only [bxA, AV.bnd, AV.bnds, bnds_u8', Bool.and_true]
theorem f14 {K : AV → Heap → Prop} {H0 L : Heap} {z : Bx} {p : Int} {b : BitVec 32} {d : List (BitVec 8)} (hd : d.length = 32) (hz : z.ok) (h : K (.int (bindE z)) (H0 ++ bxB (bind z p b d) :: L)) :
    wpF P G 14 [.ptr H0.length 0 [0] bxS, .int p, .u32 b, .agg (d.map .u8)] (H0 ++ bxB z :: L) K := by
  refine wpF_goM c14 rfl ?_
  intro hA hB
  simp only [s14]
  obtain ⟨hz1, hz2⟩ := hz
  by_cases h0 : z.s = 0
  · have e1 : bind z p b d = ⟨d, p, b, 1, z.x⟩ := if_pos h0
    have e2 : bindE z = 0 := if_pos h0
    rw [e1, e2] at h
    unfold bxB bxA
    (refine gw7 @h0 @hd @hz1 @hz2 @Kmut_n @Kmut_r @Km2_s ?_; try exact True.intro)
    refine ⟨by omega, ?_⟩
    exact mut_fin (E := [some ⟨26, 0, false, .arr 1 (.arr 32 .leaf), .agg [.agg (d.map .u8)]⟩]) hB (y := bxB ⟨d, p, b, 1, z.x⟩) (by rintro k blk h; cases h; exact bx_bnd) h
  · have e1 : bind z p b d = z := if_neg h0
    have e2 : bindE z = 7 := if_neg h0
    rw [e1, e2] at h
    unfold bxB bxA
    (refine gw7 @h0 @hd @hz1 @hz2 @Kmut_n @Kmut_r @Km2_s ?_; try exact True.intro)
    refine ⟨by omega, ?_⟩
    exact mut_fin (E := [some ⟨26, 0, false, .arr 1 (.arr 32 .leaf), .agg [.agg (d.map .u8)]⟩]) hB (y := bxB z) (by rintro k blk h; cases h; exact bx_bnd) h
theorem f14n {K : AV → Heap → Prop} {H : Heap} {p : Int} {b : BitVec 32} {d : List (BitVec 8)} (hd : d.length = 32) (h : K (.int 3) H) : wpF P G 14 [.nilp, .int p, .u32 b, .agg (d.map .u8)] H K := by
  refine wpF_go c14 rfl 3 ?_
  intro hA hB
  simp only [s14]
  (refine gw1 @hd ?_; try exact True.intro)
  exact h
/-- what Tell makes of it -/
def tell (z : Bx) (x : List (BitVec 8)) : Bx := if z.s = 0 then z else if z.s = 2 then z else if com z.p z.b x = z.d then ⟨z.d, z.p, z.b, 2, x⟩ else z
def tellE (z : Bx) (x : List (BitVec 8)) : Int := if z.s = 0 then 8 else if z.s = 2 then 7 else if com z.p z.b x = z.d then 0 else 30
theorem f16 {K : AV → Heap → Prop} {H0 L : Heap} {z : Bx} {x : List (BitVec 8)} (hx : x.length = 32) (hz : z.ok) (h : K (.int (tellE z x)) (H0 ++ bxB (tell z x) :: L)) :
    wpF P G 16 [.ptr H0.length 0 [0] bxS, .agg (x.map .u8)] (H0 ++ bxB z :: L) K := by
  refine wpF_goM c16 rfl ?_
  intro hA hB
  simp only [s16]
  obtain ⟨hz1, hz2⟩ := hz
  have key : ∀ z', K (.int (tellE z x)) (H0 ++ bxB z' :: L) → List.length H0 + (List.length L + 1) ≤ List.length H0 + (List.length L + 1 + 1) ∧ HBnd (List.length H0 + (List.length L + 1)) (H0 ++ bxB z' :: (L ++ [some ⟨25, 0, false, .arr 1 (.arr 32 .leaf), .agg [.agg (x.map .u8)]⟩])) ∧ K (.int (tellE z x)) (List.take (List.length H0 + (List.length L + 1)) (H0 ++ bxB z' :: (L ++ [some ⟨25, 0, false, .arr 1 (.arr 32 .leaf), .agg [.agg (x.map .u8)]⟩]))) := by
    intro z' h
    refine ⟨by omega, ?_⟩
    exact mut_fin (E := [some ⟨25, 0, false, .arr 1 (.arr 32 .leaf), .agg [.agg (x.map .u8)]⟩]) hB (y := bxB z') (by rintro k blk h; cases h; exact bx_bnd) h
  unfold bxB at key
  by_cases h0 : z.s = 0
  · have e1 : tell z x = z := if_pos h0
    have e2 : tellE z x = 8 := if_pos h0
    rw [e1] at h
    have k := key z h
    rw [e2] at k
    clear key
    unfold bxB bxA at *
    rw [h0] at k
    (refine gw7 @h0 @hx @hz1 @hz2 @Kmut_n @Kmut_r @Km2_s ?_; try exact True.intro)
    exact k
  · by_cases h2 : z.s = 2
    · have e1 : tell z x = z := by unfold tell; rw [if_neg h0, if_pos h2]
      have e2 : tellE z x = 7 := by unfold tellE; rw [if_neg h0, if_pos h2]
      rw [e1] at h
      have k := key z h
      rw [e2] at k
      clear key
      have h0' : ¬ ((2 : Int) = 0) := by decide
      unfold bxB bxA at *
      rw [h2] at k
      (refine gw8 @h0' @h2 @hx @hz1 @hz2 @Kmut_n @Kmut_r @Km2_s ?_; try exact True.intro)
      exact k
    · by_cases hc : com z.p z.b x = z.d
      · have e1 : tell z x = ⟨z.d, z.p, z.b, 2, x⟩ := by unfold tell; rw [if_neg h0, if_neg h2, if_pos hc]
        have e2 : tellE z x = 0 := by unfold tellE; rw [if_neg h0, if_neg h2, if_pos hc]
        rw [e1] at h
        have k := key ⟨z.d, z.p, z.b, 2, x⟩ h
        rw [e2] at k
        clear key
        unfold bxB bxA at *
        (refine gw8 @h0 @h2 @hx @hz1 @hz2 @Kmut_n @Kmut_r @Km2_s ?_; try exact True.intro)
        refine drawn _ (f11 hz1 hx ⟨rfl, rfl⟩) ?_
        rw [decide_eq_true hc]
        (refine gw6 @hx @hz1 @hz2 @Kmut_n @Kmut_r @Km2_s ?_; try exact True.intro)
        exact k
      · have e1 : tell z x = z := by unfold tell; rw [if_neg h0, if_neg h2, if_neg hc]
        have e2 : tellE z x = 30 := by unfold tellE; rw [if_neg h0, if_neg h2, if_neg hc]
        rw [e1] at h
        have k := key z h
        rw [e2] at k
        clear key
        unfold bxB bxA at *
        (refine gw8 @h0 @h2 @hx @hz1 @hz2 @Kmut_n @Kmut_r @Km2_s ?_; try exact True.intro)
        refine drawn _ (f11 hz1 hx ⟨rfl, rfl⟩) ?_
        rw [decide_eq_false hc]
        (refine gw6 @hx @hz1 @hz2 @Kmut_n @Kmut_r @Km2_s ?_; try exact True.intro)
        exact k
theorem f16n {K : AV → Heap → Prop} {H : Heap} {x : List (BitVec 8)} (hd : x.length = 32) (h : K (.int 3) H) : wpF P G 16 [.nilp, .agg (x.map .u8)] H K := by
  refine wpF_go c16 rfl 3 ?_
  intro hA hB
  simp only [s16]
  (refine gw1 @hd ?_; try exact True.intro)
  exact h
def z32 : List (BitVec 8) := List.replicate 32 0
def sdX (z : Bx) : List (BitVec 8) := if z.s = 2 then z.x else z32
theorem f17 {K : AV → Heap → Prop} {H : Heap} {b : Nat} {z : Bx} (hg : Heap.get H b = bxB z) (hz : z.ok) (h : K (.tup [.agg ((sdX z).map .u8), .bool (decide (z.s = 2))]) H) : wpF P G 17 [.ptr b 0 [0] bxS] H K := by
  refine wpF_go c17 rfl 3 ?_
  intro hA hB
  simp only [s17]
  clear hA hB
  obtain ⟨hz1, hz2⟩ := hz
  have hbl : b < H.length := Heap.get_lt hg
  have hgX : ∀ X : List (Option Blk), Heap.get (H ++ X) b = bxB z := fun X => Heap.get_some_append hg
  unfold bxB bxA at hgX
  by_cases h2 : z.s = 2
  · have e1 : sdX z = z.x := if_pos h2
    rw [e1, decide_eq_true h2] at h
    (refine gw4 @hgX @h2 @hz1 @hz2 ?_; try exact True.intro)
    exact h
  · have e1 : sdX z = z32 := if_neg h2
    rw [e1, decide_eq_false h2] at h
    (refine gw4 @hgX @h2 @hz1 @hz2 ?_; try exact True.intro)
    exact h
theorem f17n {K : AV → Heap → Prop} {H : Heap} (h : K (.tup [.agg [.u8 0, .u8 0, .u8 0, .u8 0, .u8 0, .u8 0, .u8 0, .u8 0, .u8 0, .u8 0, .u8 0, .u8 0, .u8 0, .u8 0, .u8 0, .u8 0, .u8 0, .u8 0, .u8 0, .u8 0, .u8 0, .u8 0, .u8 0, .u8 0, .u8 0, .u8 0, .u8 0, .u8 0, .u8 0, .u8 0, .u8 0, .u8 0], .bool false]) H) : wpF P G 17 [.nilp] H K := by
  refine wpF_go c17 rfl 3 ?_
  intro hA hB
  simp only [s17]
  (refine gw0 ?_; try exact True.intro)
  exact h
theorem f18 {K : AV → Heap → Prop} {H : Heap} {b : Nat} {z : Bx} (hg : Heap.get H b = bxB z) (h : K (.bool (!decide (z.s = 0))) H) : wpF P G 18 [.ptr b 0 [0] bxS] H K := by
  refine wpF_go c18 rfl 3 ?_
  intro hA hB
  simp only [s18]
  clear hA hB
  unfold bxB bxA at hg
  (refine gw1 @hg ?_; try exact True.intro)
  exact h
theorem f18n {K : AV → Heap → Prop} {H : Heap} (h : K (.bool false) H) : wpF P G 18 [.nilp] H K := by
  refine wpF_go c18 rfl 3 ?_
  intro hA hB
  simp only [s18]
  (refine gw0 ?_; try exact True.intro)
  exact h
def s7 : List (BitVec 8) := 7 :: List.replicate 31 0
def z0 : Bx := ⟨z32, 0, 0, 0, z32⟩
theorem f12 {K : AV → Heap → Prop} {H : Heap} (h : K (.bool true) H) : wpF P G 12 [] H K := by
  refine wpF_go c12 rfl 3 ?_
  intro hA hB
  simp only [s12]
  clear hA hB
  have hs7 : s7.length = 32 := rfl
  have hcl := com_len (p := 0) (b := 1) (s := s7)
  have h9 : ∀ {K : AV → Heap → Prop} {H : Heap}, K (.agg ((com 0 1 s7).map .u8)) H → wpF P G 9 [.int 0, .u32 1, .agg (s7.map .u8)] H K := fun h => f9 rfl h
  have h10 : ∀ {K : AV → Heap → Prop} {H : Heap}, K (.agg ((com 0 1 s7).map .u8)) H → wpF P G 10 [.int 0, .u32 1, .agg (s7.map .u8)] H K := fun h => f10 rfl h
  have hcom : com (0 : Int) (1 : BitVec 32) s7 = com 0 1 s7 := rfl
  (refine gw0 ?_; try exact True.intro)
  refine h10 ?_
  have ht : tell ⟨com 0 1 s7, 0, 1, 1, z32⟩ s7 = ⟨com 0 1 s7, 0, 1, 2, s7⟩ := by unfold tell; simp
  have hte : tellE ⟨com 0 1 s7, 0, 1, 1, z32⟩ s7 = 0 := by unfold tellE; simp
  generalize com 0 1 s7 = cc at *
  (refine gw1 @hcl ?_; try exact True.intro)
  refine f14 (z := z0) (H0 := H) (d := cc) hcl ⟨rfl, rfl⟩ ?_
  rw [show bind z0 0 1 cc = ⟨cc, 0, 1, 1, z32⟩ from rfl, show bindE z0 = 0 from rfl]
  (refine gw1 @hcl ?_; try exact True.intro)
  refine f16 (z := ⟨cc, 0, 1, 1, z32⟩) (H0 := H) (x := s7) rfl ⟨hcl, rfl⟩ ?_
  rw [ht, hte]
  (refine gw1 @hcl ?_; try exact True.intro)
  refine f17 (z := ⟨cc, 0, 1, 2, s7⟩) (by rw [hget_0, hget_z]) ⟨hcl, rfl⟩ ?_
  rw [show sdX ⟨cc, 0, 1, 2, s7⟩ = s7 from rfl, show decide ((2 : Int) = 2) = true from rfl]
  rw [show s7.map AV.u8 = [.u8 7, .u8 0, .u8 0, .u8 0, .u8 0, .u8 0, .u8 0, .u8 0, .u8 0, .u8 0, .u8 0, .u8 0, .u8 0, .u8 0, .u8 0, .u8 0, .u8 0, .u8 0, .u8 0, .u8 0, .u8 0, .u8 0, .u8 0, .u8 0, .u8 0, .u8 0, .u8 0, .u8 0, .u8 0, .u8 0, .u8 0, .u8 0] from rfl]
  (refine gw1 @hcl ?_; try exact True.intro)
  refine ⟨rfl, rfl, ?_⟩
  refine drawn _ (h10 ⟨rfl, rfl⟩) ?_
  (refine gw1 @hcl ?_; try exact True.intro)
  refine drawn _ (h9 ⟨rfl, rfl⟩) ?_
  (refine gw1 @hcl ?_; try exact True.intro)
  exact ⟨m8_kind, h⟩
theorem f3 {K : AV → Heap → Prop} {H : Heap} {p : BitVec 16} {b : BitVec 32} {s d : List (BitVec 8)} {r : Bool} (hs : s.length = 32) (hd : d.length = 32) (h : K (.bool true) H) : wpF P G 3 [.u16 p, .u32 b, .agg (s.map .u8), .agg (d.map .u8), .bool r] H K := by
  refine wpF_go c3 rfl 3 ?_
  intro hA hB
  simp only [s3]
  clear hA hB
  (refine gw2 @hs @hd ?_; try exact True.intro)
  refine f9 hs ?_
  have h10 : ∀ {K : AV → Heap → Prop} {H : Heap}, K (.agg ((com (p.toNat : Int) b s).map .u8)) H → wpF P G 10 [.int (p.toNat : Int), .u32 b, .agg (s.map .u8)] H K := fun h => f10 hs h
  have h11 : ∀ {d : List (BitVec 8)} {K : AV → Heap → Prop} {H : Heap}, d.length = 32 → K (.bool (decide (com (p.toNat : Int) b s = d))) H → wpF P G 11 [.agg (d.map .u8), .int (p.toNat : Int), .u32 b, .agg (s.map .u8)] H K := fun hd h => f11 hd hs h
  have hcl := com_len (p := (p.toNat : Int)) (b := b) (s := s)
  generalize com (p.toNat : Int) b s = cc at *
  have hinj : ∀ {x y : List (BitVec 8)}, x.map AV.u8 = y.map AV.u8 → x = y := fun h => (List.map_inj_right (fun a b h => by injection h)).1 h
  cases r
  · by_cases hcd : cc = d
    · subst hcd
      (refine gw2 @hcl @hs ?_; try exact True.intro)
      refine drawn _ (h10 ⟨rfl, rfl⟩) ?_
      (refine gw2 @hcl @hs ?_; try exact True.intro)
      refine ⟨m8_kind, ?_⟩
      refine drawn _ (h11 hcl ⟨rfl, rfl⟩) ?_
      (refine gw2 @hcl @hs ?_; try exact True.intro)
      refine ⟨m8_kind, ?_⟩
      refine drawn _ (f12 ⟨rfl, rfl⟩) ?_
      (refine gw0 ?_; try exact True.intro)
      exact h
    · have e1 : (cc = d) = False := by simp [hcd]
      have e2 : (d.map AV.u8 = cc.map AV.u8) = False := by simp only [eq_iff_iff, iff_false]; exact fun h => hcd (hinj h).symm
      (refine gw3 @hcl @hs @hd ?_; try exact True.intro)
      refine drawn _ (h10 ⟨rfl, rfl⟩) ?_
      (refine gw3 @hcl @hs @hd ?_; try exact True.intro)
      refine ⟨m8_kind, ?_⟩
      refine drawn _ (h11 hd ⟨rfl, rfl⟩) ?_
      (refine gw5 @hcl @hs @hd @e1 @e2 ?_; try exact True.intro)
      refine ⟨m8_kind, m8_kind, ?_⟩
      refine drawn _ (f12 ⟨rfl, rfl⟩) ?_
      (refine gw0 ?_; try exact True.intro)
      exact h
  · (refine gw3 @hcl @hs @hd ?_; try exact True.intro)
    refine drawn _ (h10 ⟨rfl, rfl⟩) ?_
    (refine gw3 @hcl @hs @hd ?_; try exact True.intro)
    refine ⟨m8_kind, ?_⟩
    refine drawn _ (h11 hcl ⟨rfl, rfl⟩) ?_
    (refine gw2 @hcl @hs ?_; try exact True.intro)
    refine ⟨m8_kind, ?_⟩
    refine drawn _ (f12 ⟨rfl, rfl⟩) ?_
    (refine gw0 ?_; try exact True.intro)
    exact h
theorem f5 {K : AV → Heap → Prop} {H : Heap} {d s : List (BitVec 8)} (hd : d.length = 32) (hs : s.length = 32) (h : K (.bool true) H) : wpF P G 5 [.agg (d.map .u8), .agg (s.map .u8)] H K := by
  refine wpF_go c5 rfl 3 ?_
  intro hA hB
  simp only [s5]
  clear hA hB
  (refine gw2 @hs @hd ?_; try exact True.intro)
  refine f17n ?_
  (refine gw2 @hs @hd ?_; try exact True.intro)
  refine f14n hd ?_
  (refine gw2 @hs @hd ?_; try exact True.intro)
  refine f16n hs ?_
  (refine gw2 @hs @hd ?_; try exact True.intro)
  refine ⟨by rfl, ?_⟩
  refine f18n ?_
  (refine gw2 @hs @hd ?_; try exact True.intro)
  refine f12 ?_
  (refine gw2 @hs @hd ?_; try exact True.intro)
  exact h
end Go.Proofs.YtajkclooknanjaaDoor

end
