/-
  Which of layer 15's parts match, both sides; a view, cloned.
-/
import Derived.Test.YtebmlmkiblieiaaBe
import Derived.Test.YtebmlmkiblieiaaV38
open Go Go.V
namespace Go.Proofs.Ytebmlmkiblieiaa
/-- trefoil/baseot.Match (0:s, 1:r, 2:s, 3:r, 4:, 5:i, 6:k, 7:want, 23:, 25:, 26:, 27:, 28:, 40:, 48:) -/
def s47 : FnS := ⟨50, [0, 1, 2, 3, 4, 5, 6, 7, 23, 25, 26, 27, 28, 40, 48],
    (.seq (.reg [⟨.var 2, (.e (.box 52 (.st [(.arr 2 .leaf), .leaf]))), [.t 0], none⟩,
      ⟨.var 3, (.e (.box 54 (.st [.leaf, .leaf]))), [.t 1], none⟩,
      ⟨.var 4, (.q .mv), [.c (.bool false)], none⟩])
    (.seq (.seq (.reg [⟨.new, (.q (.fa [(.arr 2 .leaf), .leaf] 1)), [.t 2], none⟩,
      ⟨.new, (.q (.ld .leaf)), [.t 15], none⟩,
      ⟨.new, (.q .len), [.t 16], none⟩,
      ⟨.new, (.q (.bin .neq)), [.t 17, .c (.int 128)], none⟩,
      ⟨.new, (.q .mv), [.t 18], none⟩,
      ⟨.new, (.q (.fa [.leaf, .leaf] 0)), [.t 3], (some (19, false))⟩,
      ⟨.new, (.q (.ld .leaf)), [.t 20], (some (19, false))⟩,
      ⟨.new, (.q .len), [.t 21], (some (19, false))⟩,
      ⟨.new, (.q (.bin .neq)), [.t 22, .c (.int 128)], (some (19, false))⟩,
      ⟨.new, (.q .pick), [.t 19, .c (.bool true), .t 23], none⟩,
      ⟨.new, (.q .mv), [.t 24], none⟩,
      ⟨.new, (.q (.fa [.leaf, .leaf] 1)), [.t 3], (some (25, false))⟩,
      ⟨.new, (.q (.ld .leaf)), [.t 26], (some (25, false))⟩,
      ⟨.new, (.q .len), [.t 27], (some (25, false))⟩,
      ⟨.new, (.q (.bin .neq)), [.t 28, .c (.int 128)], (some (25, false))⟩,
      ⟨.var 8, (.q .pick), [.t 25, .c (.bool true), .t 29], none⟩])
    (.cond (.t 8) (.seq (.reg [⟨.var 4, (.q .mv), [.c (.bool false)], none⟩])
    .ret)
    .skip))
    (.seq (.seq (.reg [⟨.new, (.q (.fa [(.arr 2 .leaf), .leaf] 1)), [.t 2], none⟩,
      ⟨.var 9, (.q (.ld .leaf)), [.t 15], none⟩,
      ⟨.var 10, (.q .len), [.t 9], none⟩,
      ⟨.var 11, (.q .mv), [.c (.int 0)], none⟩])
    (.block 0 (.loop (.seq (.reg [⟨.var 12, (.q (.bin .lss)), [.t 11, .t 10], none⟩])
    (.seq (.cond (.t 12) .skip
    (.exit 0))
    (.seq (.block 1 (.seq (.reg [⟨.new, (.q .mv), [.t 11], none⟩,
      ⟨.new, (.q (.iaS (.arr 32 .leaf))), [.t 9, .t 11], none⟩,
      ⟨.new, (.q (.ld (.arr 32 .leaf))), [.t 16], none⟩,
      ⟨.var 6, (.e (.alloc 32 (.arr 32 .leaf) (.agg [(.u8 0), (.u8 0), (.u8 0), (.u8 0), (.u8 0), (.u8 0), (.u8 0), (.u8 0), (.u8 0), (.u8 0), (.u8 0), (.u8 0), (.u8 0), (.u8 0), (.u8 0), (.u8 0), (.u8 0), (.u8 0), (.u8 0), (.u8 0), (.u8 0), (.u8 0), (.u8 0), (.u8 0), (.u8 0), (.u8 0), (.u8 0), (.u8 0), (.u8 0), (.u8 0), (.u8 0), (.u8 0)]))), [], none⟩,
      ⟨.var 5, (.q .mv), [.t 15], none⟩,
      ⟨.none, (.e (.store (.arr 32 .leaf))), [.t 6, .t 17], none⟩])
    (.seq (.reg [⟨.new, (.q (.fa [.leaf, .leaf] 0)), [.t 3], none⟩,
      ⟨.new, (.q (.ld .leaf)), [.t 15], none⟩,
      ⟨.new, (.q .mv), [.t 5], none⟩,
      ⟨.new, (.q (.iaS (.arr 32 .leaf))), [.t 16, .t 17], none⟩,
      ⟨.new, (.q (.ld (.arr 32 .leaf))), [.t 18], none⟩,
      ⟨.var 7, (.e (.alloc 32 (.arr 32 .leaf) (.agg [(.u8 0), (.u8 0), (.u8 0), (.u8 0), (.u8 0), (.u8 0), (.u8 0), (.u8 0), (.u8 0), (.u8 0), (.u8 0), (.u8 0), (.u8 0), (.u8 0), (.u8 0), (.u8 0), (.u8 0), (.u8 0), (.u8 0), (.u8 0), (.u8 0), (.u8 0), (.u8 0), (.u8 0), (.u8 0), (.u8 0), (.u8 0), (.u8 0), (.u8 0), (.u8 0), (.u8 0), (.u8 0)]))), [], none⟩,
      ⟨.none, (.e (.store (.arr 32 .leaf))), [.t 7, .t 19], none⟩])
    (.seq (.seq (.reg [⟨.new, (.q (.fa [(.arr 2 .leaf), .leaf] 0)), [.t 2], none⟩,
      ⟨.new, (.q (.ld (.arr 2 .leaf))), [.t 15], none⟩,
      ⟨.new, (.q .mv), [.t 5], none⟩,
      ⟨.var 13, (.call 17), [.t 16, .t 17], none⟩])
    (.cond (.t 13) (.reg [⟨.new, (.q (.fa [.leaf, .leaf] 1)), [.t 3], none⟩,
      ⟨.new, (.q (.ld .leaf)), [.t 15], none⟩,
      ⟨.new, (.q .mv), [.t 5], none⟩,
      ⟨.new, (.q (.iaS (.arr 32 .leaf))), [.t 16, .t 17], none⟩,
      ⟨.new, (.q (.ld (.arr 32 .leaf))), [.t 18], none⟩,
      ⟨.none, (.e (.store (.arr 32 .leaf))), [.t 7, .t 19], none⟩])
    .skip))
    (.seq (.reg [⟨.new, (.q (.ld (.arr 32 .leaf))), [.t 6], none⟩,
      ⟨.new, (.q (.ld (.arr 32 .leaf))), [.t 7], none⟩,
      ⟨.var 14, (.q (.eqA true 32 .u8)), [.t 15, .t 16], none⟩])
    (.cond (.t 14) (.seq (.reg [⟨.var 4, (.q .mv), [.c (.bool false)], none⟩])
    .ret)
    .skip))))))
    (.reg [⟨.new, (.q (.bin .add)), [.t 11, .c (.int 1)], none⟩,
      ⟨.var 11, (.q .mv), [.t 15], none⟩])))))))
    (.seq (.reg [⟨.var 4, (.q .mv), [.c (.bool true)], none⟩])
    .ret)))),
    [.t 4]⟩

/-- trefoil/trefoilref15.Match (0:delta, 1:keys, 2:zero, 3:one, 4:delta, 8:, 9:i, 22:, 24:, 57:) -/
def s49 : FnS := ⟨58, [0, 1, 2, 3, 4, 8, 9, 22, 24, 57],
    (.seq (.reg [⟨.var 4, (.e (.box 24 (.arr 2 .leaf))), [.t 0], none⟩,
      ⟨.var 5, (.q .mv), [.c (.bool false)], none⟩])
    (.seq (.seq (.reg [⟨.new, (.q .mv), [.t 1], none⟩,
      ⟨.new, (.q .len), [.t 10], none⟩,
      ⟨.new, (.q (.bin .neq)), [.t 11, .c (.int 128)], none⟩,
      ⟨.new, (.q .mv), [.t 12], none⟩,
      ⟨.new, (.q .mv), [.t 2], (some (13, false))⟩,
      ⟨.new, (.q .len), [.t 14], (some (13, false))⟩,
      ⟨.new, (.q (.bin .neq)), [.t 15, .c (.int 128)], (some (13, false))⟩,
      ⟨.new, (.q .pick), [.t 13, .c (.bool true), .t 16], none⟩,
      ⟨.new, (.q .mv), [.t 17], none⟩,
      ⟨.new, (.q .mv), [.t 3], (some (18, false))⟩,
      ⟨.new, (.q .len), [.t 19], (some (18, false))⟩,
      ⟨.new, (.q (.bin .neq)), [.t 20, .c (.int 128)], (some (18, false))⟩,
      ⟨.var 7, (.q .pick), [.t 18, .c (.bool true), .t 21], none⟩])
    (.cond (.t 7) (.seq (.reg [⟨.var 5, (.q .mv), [.c (.bool false)], none⟩])
    .ret)
    .skip))
    (.seq (.seq (.reg [⟨.var 6, (.q .mv), [.c (.int 0)], none⟩])
    (.block 0 (.loop (.seq (.seq (.reg [⟨.new, (.q .mv), [.t 6], none⟩,
      ⟨.var 8, (.q (.bin .lss)), [.t 10, .c (.int 128)], none⟩])
    (.cond (.t 8) .skip
    (.exit 0)))
    (.seq (.block 1 (.seq (.draw [⟨.new, (.q (.ld (.arr 2 .leaf))), [.t 4], none⟩,
      ⟨.new, (.q .mv), [.t 6], none⟩,
      ⟨.new, (.call 18), [.t 10, .t 11], none⟩,
      ⟨.new, (.q .mv), [.t 12], none⟩,
      ⟨.new, (.q .mv), [.t 1], (some (13, true))⟩,
      ⟨.new, (.q .mv), [.t 6], (some (13, true))⟩,
      ⟨.new, (.q (.iaS (.arr 32 .leaf))), [.t 14, .t 15], (some (13, true))⟩,
      ⟨.new, (.q (.ld (.arr 32 .leaf))), [.t 16], (some (13, true))⟩,
      ⟨.new, (.q .mv), [.t 3], (some (13, true))⟩,
      ⟨.new, (.q .mv), [.t 6], (some (13, true))⟩,
      ⟨.new, (.q (.iaS (.arr 32 .leaf))), [.t 18, .t 19], (some (13, true))⟩,
      ⟨.new, (.q (.ld (.arr 32 .leaf))), [.t 20], (some (13, true))⟩,
      ⟨.new, (.q (.eqA true 32 .u8)), [.t 17, .t 21], (some (13, true))⟩,
      ⟨.new, (.q .pick), [.t 13, .t 22, .c (.bool false)], none⟩,
      ⟨.new, (.q .mv), [.t 23], none⟩,
      ⟨.new, (.q (.ld (.arr 2 .leaf))), [.t 4], (some (24, false))⟩,
      ⟨.new, (.q .mv), [.t 6], (some (24, false))⟩,
      ⟨.new, (.call 18), [.t 25, .t 26], (some (24, false))⟩,
      ⟨.new, (.q (.un .not)), [.t 27], (some (24, false))⟩,
      ⟨.new, (.q .mv), [.t 28], (some (24, false))⟩,
      ⟨.new, (.q .mv), [.t 1], (some (29, true))⟩,
      ⟨.new, (.q .mv), [.t 6], (some (29, true))⟩,
      ⟨.new, (.q (.iaS (.arr 32 .leaf))), [.t 30, .t 31], (some (29, true))⟩,
      ⟨.new, (.q (.ld (.arr 32 .leaf))), [.t 32], (some (29, true))⟩,
      ⟨.new, (.q .mv), [.t 2], (some (29, true))⟩,
      ⟨.new, (.q .mv), [.t 6], (some (29, true))⟩,
      ⟨.new, (.q (.iaS (.arr 32 .leaf))), [.t 34, .t 35], (some (29, true))⟩,
      ⟨.new, (.q (.ld (.arr 32 .leaf))), [.t 36], (some (29, true))⟩,
      ⟨.new, (.q (.eqA true 32 .u8)), [.t 33, .t 37], (some (29, true))⟩,
      ⟨.new, (.q .pick), [.t 29, .t 38, .c (.bool false)], (some (24, false))⟩,
      ⟨.var 9, (.q .pick), [.t 24, .c (.bool true), .t 39], none⟩])
    (.cond (.t 9) (.seq (.reg [⟨.var 5, (.q .mv), [.c (.bool false)], none⟩])
    .ret)
    .skip)))
    (.reg [⟨.new, (.q .mv), [.t 6], none⟩,
      ⟨.new, (.q (.bin .add)), [.t 10, .c (.int 1)], none⟩,
      ⟨.var 6, (.q .mv), [.t 11], none⟩]))))))
    (.seq (.reg [⟨.var 5, (.q .mv), [.c (.bool true)], none⟩])
    .ret)))),
    [.t 5]⟩

/-- (trefoil/baseot.View).Clone (0:v, 1:v, 2:) -/
def s48 : FnS := ⟨22, [0, 1, 2],
    (.seq (.reg [⟨.var 1, (.e (.box 56 (.st [(.st [(.arr 2 .leaf), .leaf]), (.st [.leaf, .leaf])]))), [.t 0], none⟩,
      ⟨.var 2, (.e (.alloc 56 (.st [(.st [(.arr 2 .leaf), .leaf]), (.st [.leaf, .leaf])]) (.agg [(.agg [(.agg [(.u64 0), (.u64 0)]), .nils]), (.agg [.nils, .nils])]))), [], none⟩])
    (.seq (.reg [⟨.new, (.q (.fa [(.st [(.arr 2 .leaf), .leaf]), (.st [.leaf, .leaf])] 0)), [.t 1], none⟩,
      ⟨.new, (.q (.fa [(.arr 2 .leaf), .leaf] 1)), [.t 3], none⟩,
      ⟨.new, (.q (.ld .leaf)), [.t 4], none⟩,
      ⟨.new, (.call 74), [.t 5], none⟩,
      ⟨.new, (.q (.fa [(.st [(.arr 2 .leaf), .leaf]), (.st [.leaf, .leaf])] 0)), [.t 1], none⟩,
      ⟨.new, (.q (.fa [(.arr 2 .leaf), .leaf] 1)), [.t 7], none⟩,
      ⟨.none, (.e (.store .leaf)), [.t 8, .t 6], none⟩])
    (.seq (.reg [⟨.new, (.q (.fa [(.st [(.arr 2 .leaf), .leaf]), (.st [.leaf, .leaf])] 1)), [.t 1], none⟩,
      ⟨.new, (.q (.fa [.leaf, .leaf] 0)), [.t 3], none⟩,
      ⟨.new, (.q (.ld .leaf)), [.t 4], none⟩,
      ⟨.new, (.call 74), [.t 5], none⟩,
      ⟨.new, (.q (.fa [(.st [(.arr 2 .leaf), .leaf]), (.st [.leaf, .leaf])] 1)), [.t 1], none⟩,
      ⟨.new, (.q (.fa [.leaf, .leaf] 0)), [.t 7], none⟩,
      ⟨.none, (.e (.store .leaf)), [.t 8, .t 6], none⟩])
    (.seq (.reg [⟨.new, (.q (.fa [(.st [(.arr 2 .leaf), .leaf]), (.st [.leaf, .leaf])] 1)), [.t 1], none⟩,
      ⟨.new, (.q (.fa [.leaf, .leaf] 1)), [.t 3], none⟩,
      ⟨.new, (.q (.ld .leaf)), [.t 4], none⟩,
      ⟨.new, (.call 74), [.t 5], none⟩,
      ⟨.new, (.q (.fa [(.st [(.arr 2 .leaf), .leaf]), (.st [.leaf, .leaf])] 1)), [.t 1], none⟩,
      ⟨.new, (.q (.fa [.leaf, .leaf] 1)), [.t 7], none⟩,
      ⟨.none, (.e (.store .leaf)), [.t 8, .t 6], none⟩])
    (.seq (.reg [⟨.new, (.q (.ld (.st [(.st [(.arr 2 .leaf), .leaf]), (.st [.leaf, .leaf])]))), [.t 1], none⟩,
      ⟨.none, (.e (.store (.st [(.st [(.arr 2 .leaf), .leaf]), (.st [.leaf, .leaf])]))), [.t 2, .t 3], none⟩])
    .ret))))),
    [.cell 2 (.st [(.st [(.arr 2 .leaf), .leaf]), (.st [.leaf, .leaf])])]⟩

/-- slices.Clone[[]trefoil/api.Seed,trefoil/api.Seed] (0:s, 2:, 4:) -/
def s74 : FnS := ⟨8, [0, 2, 4],
    (.seq (.reg [⟨.var 1, (.q .mv), [.c .nils], none⟩])
    (.seq (.seq (.reg [⟨.new, (.q .mv), [.t 0], none⟩,
      ⟨.var 2, (.nilq false), [.t 3], none⟩])
    (.cond (.t 2) (.seq (.reg [⟨.var 1, (.q .mv), [.c .nils], none⟩])
    .ret)
    .skip))
    (.seq (.reg [⟨.new, (.e (.bsl 32 (.arr 32 .leaf) (.agg [(.u8 0), (.u8 0), (.u8 0), (.u8 0), (.u8 0), (.u8 0), (.u8 0), (.u8 0), (.u8 0), (.u8 0), (.u8 0), (.u8 0), (.u8 0), (.u8 0), (.u8 0), (.u8 0), (.u8 0), (.u8 0), (.u8 0), (.u8 0), (.u8 0), (.u8 0), (.u8 0), (.u8 0), (.u8 0), (.u8 0), (.u8 0), (.u8 0), (.u8 0), (.u8 0), (.u8 0), (.u8 0)]) 0 [])), [], none⟩,
      ⟨.new, (.q .mv), [.t 0], none⟩,
      ⟨.new, (.e (.app 32 (.arr 32 .leaf) 32)), [.t 3, .t 4], none⟩,
      ⟨.var 1, (.q .mv), [.t 5], none⟩])
    .ret))),
    [.t 1]⟩

set_option maxRecDepth 100000
set_option linter.unusedSimpArgs false
set_option linter.unusedVariables false
theorem c47 : cF P [] (drP P []) 47 2 s47.vm = some s47 := by kernel_rfl
theorem c49 : cF P [] (drP P []) 49 4 s49.vm = some s49 := by kernel_rfl
theorem c48 : cF P [] (drP P []) 48 1 s48.vm = some s48 := by kernel_rfl
theorem c74 : cF P [] (drP P []) 74 1 s74.vm = some s74 := by kernel_rfl
/-- do so many match? -/
def mtB (x y : BitVec 64) (kf zf of : Nat → List (BitVec 8)) : Nat → Bool
  | 0 => true
  | i + 1 => mtB x y kf zf of i && decide (kf i = if rb x y i = true then of i else zf i)
theorem mtB_false {x y : BitVec 64} {kf zf of : Nat → List (BitVec 8)} {i : Nat} (h : mtB x y kf zf of i = false) : ∀ {j : Nat}, i ≤ j → mtB x y kf zf of j = false
  | 0, hj => by have : i = 0 := by omega
                subst this; exact h
  | j + 1, hj => by
    by_cases e : i = j + 1
    · subst e; exact h
    · simp [mtB, mtB_false h (j := j) (by omega)]
theorem mtB_true {x y : BitVec 64} {kf zf of : Nat → List (BitVec 8)} (h : ∀ i, kf i = if rb x y i = true then of i else zf i) : ∀ {j : Nat}, mtB x y kf zf of j = true
  | 0 => rfl
  | j + 1 => by simp [mtB, mtB_true h (j := j), ← h j]
theorem map8_inj {a b : List (BitVec 8)} : (a.map AV.u8 = b.map AV.u8) = (a = b) := by
  apply propext
  constructor
  · intro h
    induction a generalizing b with
    | nil => cases b with
      | nil => rfl
      | cons _ _ => simp at h
    | cons x a ih =>
      cases b with
      | nil => simp at h
      | cons y b =>
        simp only [List.map_cons, List.cons.injEq, AV.u8.injEq] at h
        rw [h.1, ih h.2]
  · rintro rfl; rfl

theorem kd8 {l : List (BitVec 8)} {z : AV} (hz : z ∈ l.map AV.u8) : z.isKind .u8 = true := by obtain ⟨y, _, rfl⟩ := List.mem_map.1 hz; rfl
def sbx (x y : BitVec 64) (l : List AV) : Option Blk := some ⟨52, 0, false, .arr 1 (.st [.arr 2 .leaf, .leaf]), .agg [.agg [.agg [.u64 x, .u64 y], .ro (.arr 32 .leaf) l]]⟩
def rbx (z o : List AV) : Option Blk := some ⟨54, 0, false, .arr 1 (.st [.leaf, .leaf]), .agg [.agg [.ro (.arr 32 .leaf) z, .ro (.arr 32 .leaf) o]]⟩
def I47 (x y : BitVec 64) (kf zf of : Nat → List (BitVec 8)) (lk lz lo : List AV) (H : Heap) (k : Nat) (st : St) : Prop :=
  ∃ (i : Nat) (u1 u2 u3 u4 u5 u6 : AV) (J : Heap), st = ⟨[.agg [.agg [.u64 x, .u64 y], .ro (.arr 32 .leaf) lk], .agg [.ro (.arr 32 .leaf) lz, .ro (.arr 32 .leaf) lo],
      .ptr H.length 0 [0] (.st [.arr 2 .leaf, .leaf]), .ptr (H.length + 1) 0 [0] (.st [.leaf, .leaf]), .bool false, u1, u2, u3, .bool false, .ro (.arr 32 .leaf) lk, .int 128, .int (i : Int), u4, u5, u6],
    H ++ sbx x y lk :: rbx lz lo :: J⟩ ∧ k = 128 - i ∧ i ≤ 128 ∧ mtB x y kf zf of i = true

theorem f47 {K : AV → Heap → Prop} {H : Heap} {x y : BitVec 64} {kf zf of : Nat → List (BitVec 8)} (hkf : ∀ i, (kf i).length = 32) (hzf : ∀ i, (zf i).length = 32) (hof : ∀ i, (of i).length = 32) (h : K (.bool (mtB x y kf zf of 128)) H) :
    wpF P [] 47 [.agg [.agg [.u64 x, .u64 y], .ro (.arr 32 .leaf) (sdL kf 128)], .agg [.ro (.arr 32 .leaf) (sdL zf 128), .ro (.arr 32 .leaf) (sdL of 128)]] H K := by
  refine wpF_go c47 rfl 3 ?_
  intro ha hb
  simp only [s47]
  have g1 : ∀ i, i < 128 → (sdL kf 128).getD i .un = .agg ((kf i).map .u8) := fun i hi => ld_rng hi
  have g2 : ∀ i, i < 128 → (sdL zf 128).getD i .un = .agg ((zf i).map .u8) := fun i hi => ld_rng hi
  have g3 : ∀ i, i < 128 → (sdL of 128).getD i .un = .agg ((of i).map .u8) := fun i hi => ld_rng hi
  have l1 := sdL_len (f := kf) (n := 128)
  have l2 := sdL_len (f := zf) (n := 128)
  have l3 := sdL_len (f := of) (n := 128)
  clear ha
  generalize sdL kf 128 = lk at g1 l1 ⊢
  generalize sdL zf 128 = lz at g2 l2 ⊢
  generalize sdL of 128 = lo at g3 l3 ⊢
  have e128 : ((128 : Nat) : Int) = 128 := rfl
  (refine gw4 @l1 @l2 @l3 @e128 ?_; try exact True.intro)
  refine wp_inv (I47 x y kf zf of lk lz lo H) 128 ⟨0, _, _, _, _, _, _, [], rfl, rfl, by omega, rfl⟩ ?_
  rintro k st ⟨i, u1, u2, u3, u4, u5, u6, J, rfl, rfl, hi, hm⟩
  unfold sbx rbx
  by_cases hil : i < 128
  · have hlt : ((i : Int) < 128) = True := by simp; omega
    have k1 := g1 i hil
    have k2 := g2 i hil
    have k3 := g3 i hil
    have q1 := hkf i
    have q2 := hzf i
    have q3 := hof i
    (refine gw11 @hlt @k1 @k2 @k3 @q1 @q2 @q3 @l1 @l2 @l3 @e128 ?_; try exact True.intro)
    refine f17 ?_
    have b5 : (-9223372036854775808 : Int) ≤ (i : Int) + 1 := by omega
    have b6 : (i : Int) + 1 ≤ 9223372036854775807 := by omega
    have hs : mtB x y kf zf of (i + 1) = decide (kf i = if rb x y i = true then of i else zf i) := by simp only [mtB, hm, Bool.true_and]
    by_cases hr : rb x y (i : Int) = true
    · rw [if_pos hr] at hs
      by_cases e : kf i = of i
      · have he : ((kf i).map AV.u8 = (of i).map AV.u8) = True := by rw [e]; simp
        simp only [e, decide_true] at hs
        (refine gw14 @hr @he @q1 @q2 @q3 @k1 @k2 @k3 @hlt @l1 @l2 @l3 @b5 @b6 ?_; try exact True.intro)
        exact ⟨fun z hz => kd8 hz, fun z hz => kd8 hz, 128 - (i + 1), by omega, i + 1, _, _, _, _, _, _, _, rfl, rfl, by omega, hs⟩
      · have he : ((kf i).map AV.u8 = (of i).map AV.u8) = False := by rw [map8_inj]; simp [e]
        simp only [e, decide_false] at hs
        rw [mtB_false hs (by omega)] at h
        (refine gw14 @hr @he @q1 @q2 @q3 @k1 @k2 @k3 @hlt @l1 @l2 @l3 @b5 @b6 ?_; try exact True.intro)
        exact ⟨fun z hz => kd8 hz, fun z hz => kd8 hz, h⟩
    · rw [if_neg hr] at hs
      rw [Bool.not_eq_true] at hr
      by_cases e : kf i = zf i
      · have he : ((kf i).map AV.u8 = (zf i).map AV.u8) = True := by rw [e]; simp
        simp only [e, decide_true] at hs
        (refine gw14 @hr @he @q1 @q2 @q3 @k1 @k2 @k3 @hlt @l1 @l2 @l3 @b5 @b6 ?_; try exact True.intro)
        exact ⟨fun z hz => kd8 hz, fun z hz => kd8 hz, 128 - (i + 1), by omega, i + 1, _, _, _, _, _, _, _, rfl, rfl, by omega, hs⟩
      · have he : ((kf i).map AV.u8 = (zf i).map AV.u8) = False := by rw [map8_inj]; simp [e]
        simp only [e, decide_false] at hs
        rw [mtB_false hs (by omega)] at h
        (refine gw14 @hr @he @q1 @q2 @q3 @k1 @k2 @k3 @hlt @l1 @l2 @l3 @b5 @b6 ?_; try exact True.intro)
        exact ⟨fun z hz => kd8 hz, fun z hz => kd8 hz, h⟩
  · have hlt : ((i : Int) < 128) = False := by simp; omega
    have hi8 : i = 128 := by omega
    subst hi8
    rw [hm] at h
    (refine gw1 @hlt ?_; try exact True.intro)
    exact h

def rwx (x y : BitVec 64) : Option Blk := some ⟨24, 0, false, .arr 1 (.arr 2 .leaf), .agg [.agg [.u64 x, .u64 y]]⟩
def I49 (x y : BitVec 64) (kf zf of : Nat → List (BitVec 8)) (lk lz lo : List AV) (H : Heap) (k : Nat) (st : St) : Prop :=
  ∃ (i : Nat) (u1 u2 : AV), st = ⟨[.agg [.u64 x, .u64 y], .ro (.arr 32 .leaf) lk, .ro (.arr 32 .leaf) lz, .ro (.arr 32 .leaf) lo, .ptr H.length 0 [0] (.arr 2 .leaf), .bool false, .int (i : Int), .bool false, u1, u2], H ++ [rwx x y]⟩ ∧
    k = 128 - i ∧ i ≤ 128 ∧ mtB x y kf zf of i = true

theorem f49 {K : AV → Heap → Prop} {H : Heap} {x y : BitVec 64} {kf zf of : Nat → List (BitVec 8)} (hkf : ∀ i, (kf i).length = 32) (hzf : ∀ i, (zf i).length = 32) (hof : ∀ i, (of i).length = 32) (h : K (.bool (mtB x y kf zf of 128)) H) :
    wpF P [] 49 [.agg [.u64 x, .u64 y], .ro (.arr 32 .leaf) (sdL kf 128), .ro (.arr 32 .leaf) (sdL zf 128), .ro (.arr 32 .leaf) (sdL of 128)] H K := by
  refine wpF_go c49 rfl 3 ?_
  intro ha hb
  simp only [s49]
  have g1 : ∀ i, i < 128 → (sdL kf 128).getD i .un = .agg ((kf i).map .u8) := fun i hi => ld_rng hi
  have g2 : ∀ i, i < 128 → (sdL zf 128).getD i .un = .agg ((zf i).map .u8) := fun i hi => ld_rng hi
  have g3 : ∀ i, i < 128 → (sdL of 128).getD i .un = .agg ((of i).map .u8) := fun i hi => ld_rng hi
  have l1 := sdL_len (f := kf) (n := 128)
  have l2 := sdL_len (f := zf) (n := 128)
  have l3 := sdL_len (f := of) (n := 128)
  clear ha
  generalize sdL kf 128 = lk at g1 l1 ⊢
  generalize sdL zf 128 = lz at g2 l2 ⊢
  generalize sdL of 128 = lo at g3 l3 ⊢
  have e128 : ((128 : Nat) : Int) = 128 := rfl
  (refine gw4 @l1 @l2 @l3 @e128 ?_; try exact True.intro)
  refine wp_inv (I49 x y kf zf of lk lz lo H) 128 ⟨0, _, _, rfl, rfl, by omega, rfl⟩ ?_
  rintro k st ⟨i, u1, u2, rfl, rfl, hi, hm⟩
  unfold rwx
  by_cases hil : i < 128
  · have hlt : ((i : Int) < 128) = True := by simp; omega
    have k1 := g1 i hil
    have k2 := g2 i hil
    have k3 := g3 i hil
    have q1 := hkf i
    have q2 := hzf i
    have q3 := hof i
    have b5 : (-9223372036854775808 : Int) ≤ (i : Int) + 1 := by omega
    have b6 : (i : Int) + 1 ≤ 9223372036854775807 := by omega
    have hs : mtB x y kf zf of (i + 1) = decide (kf i = if rb x y i = true then of i else zf i) := by simp only [mtB, hm, Bool.true_and]
    (refine gw1 @hlt ?_; try exact True.intro)
    refine drawn _ (f18 ⟨rfl, rfl⟩) ?_
    by_cases hr : rb x y (i : Int) = true
    · rw [if_pos hr] at hs
      by_cases e : kf i = of i
      · have he : ((kf i).map AV.u8 = (of i).map AV.u8) = True := by rw [e]; simp
        simp only [e, decide_true] at hs
        (refine gw14 @hr @he @q1 @q2 @q3 @k1 @k2 @k3 @hlt @l1 @l2 @l3 @b5 @b6 ?_; try exact True.intro)
        refine ⟨fun z hz => kd8 hz, fun z hz => kd8 hz, ?_⟩
        refine drawn _ (f18 ⟨rfl, rfl⟩) ?_
        (refine gw3 @hr @b5 @b6 ?_; try exact True.intro)
        exact ⟨128 - (i + 1), by omega, i + 1, _, _, rfl, rfl, by omega, hs⟩
      · have he : ((kf i).map AV.u8 = (of i).map AV.u8) = False := by rw [map8_inj]; simp [e]
        simp only [e, decide_false] at hs
        rw [mtB_false hs (by omega)] at h
        (refine gw14 @hr @he @q1 @q2 @q3 @k1 @k2 @k3 @hlt @l1 @l2 @l3 @b5 @b6 ?_; try exact True.intro)
        exact ⟨fun z hz => kd8 hz, fun z hz => kd8 hz, h⟩
    · rw [if_neg hr] at hs
      rw [Bool.not_eq_true] at hr
      (refine gw1 @hr ?_; try exact True.intro)
      refine drawn _ (f18 ⟨rfl, rfl⟩) ?_
      by_cases e : kf i = zf i
      · have he : ((kf i).map AV.u8 = (zf i).map AV.u8) = True := by rw [e]; simp
        simp only [e, decide_true] at hs
        (refine gw14 @hr @he @q1 @q2 @q3 @k1 @k2 @k3 @hlt @l1 @l2 @l3 @b5 @b6 ?_; try exact True.intro)
        exact ⟨fun z hz => kd8 hz, fun z hz => kd8 hz, 128 - (i + 1), by omega, i + 1, _, _, rfl, rfl, by omega, hs⟩
      · have he : ((kf i).map AV.u8 = (zf i).map AV.u8) = False := by rw [map8_inj]; simp [e]
        simp only [e, decide_false] at hs
        rw [mtB_false hs (by omega)] at h
        (refine gw14 @hr @he @q1 @q2 @q3 @k1 @k2 @k3 @hlt @l1 @l2 @l3 @b5 @b6 ?_; try exact True.intro)
        exact ⟨fun z hz => kd8 hz, fun z hz => kd8 hz, h⟩
  · have hlt : ((i : Int) < 128) = False := by simp; omega
    have hi8 : i = 128 := by omega
    subst hi8
    rw [hm] at h
    (refine gw1 @hlt ?_; try exact True.intro)
    exact h

theorem sd_sh {f : Nat → List (BitVec 8)} (hf : ∀ i, (f i).length = 32) {n : Nat} {q : AV} (hq : q ∈ sdL f n) : HasSh (.arr 32 .leaf) q := by
  obtain ⟨j, _, rfl⟩ := List.mem_map.1 hq
  unfold sdA
  rw [hasSh_aa]
  refine ⟨by simp [hf j], fun p hp => ?_⟩
  obtain ⟨y, _, rfl⟩ := List.mem_map.1 hp
  rw [hasSh_l]; rfl

/-- seeds, cloned to be written -/
theorem f74 {H : Heap} {f : Nat → List (BitVec 8)} (hf : ∀ i, (f i).length = 32) : wpF P [] 74 [.ro (.arr 32 .leaf) (sdL f 128)] H (fun a b => a = .own H.length 1 [] 0 128 (.arr 32 .leaf) ∧ b = H ++ [some ⟨32, 1, true, .arr 128 (.arr 32 .leaf), .agg (sdL f 128)⟩]) := by
  refine wpF_goK c74 rfl ?_
  intro ha hb
  simp only [s74]
  have hl := sdL_len (f := f) (n := 128)
  have hne : (sdL f 128 = []) = False := by
    simp only [eq_iff_iff, iff_false]
    intro e; rw [e] at hl; simp at hl
  (refine gw5 @hl @hne @Kall_n @Kall_r @Ka2_s ?_; try exact True.intro)
  exact fun q hq => sd_sh hf hq

def sdB (l : List AV) : Option Blk := some ⟨32, 1, true, .arr 128 (.arr 32 .leaf), .agg l⟩
theorem f48 {K : AV → Heap → Prop} {H : Heap} {x y : BitVec 64} {kf zf of : Nat → List (BitVec 8)} (hkf : ∀ i, (kf i).length = 32) (hzf : ∀ i, (zf i).length = 32) (hof : ∀ i, (of i).length = 32)
    (h : ∀ B0 B1, K (.agg [.agg [.agg [.u64 x, .u64 y], .own (H.length + 2) 1 [] 0 128 (.arr 32 .leaf)], .agg [.own (H.length + 3) 1 [] 0 128 (.arr 32 .leaf), .own (H.length + 4) 1 [] 0 128 (.arr 32 .leaf)]]) (H ++ [B0, B1, sdB (sdL kf 128), sdB (sdL zf 128), sdB (sdL of 128)])) :
    wpF P [] 48 [.agg [.agg [.agg [.u64 x, .u64 y], .ro (.arr 32 .leaf) (sdL kf 128)], .agg [.ro (.arr 32 .leaf) (sdL zf 128), .ro (.arr 32 .leaf) (sdL of 128)]]] H K := by
  refine wpF_goK c48 rfl ?_
  intro ha hb
  simp only [s48]
  (refine gw0 ?_; try exact True.intro)
  refine (f74 hkf).mono ?_
  rintro _ _ ⟨rfl, rfl⟩
  (refine gw0 ?_; try exact True.intro)
  refine (f74 hzf).mono ?_
  rintro _ _ ⟨rfl, rfl⟩
  (refine gw0 ?_; try exact True.intro)
  refine (f74 hof).mono ?_
  rintro _ _ ⟨rfl, rfl⟩
  (refine gw3 @Kall_n @Kall_r @Ka2_s ?_; try exact True.intro)
  exact h _ _

theorem f47n {K : AV → Heap → Prop} {H : Heap} {x y : BitVec 64} {lz lo : List AV} (h : K (.bool false) H) : wpF P [] 47 [.agg [.agg [.u64 x, .u64 y], .nils], .agg [.ro (.arr 32 .leaf) lz, .ro (.arr 32 .leaf) lo]] H K := by
  refine wpF_go c47 rfl 3 ?_
  intro ha hb
  simp only [s47]
  (refine gw0 ?_; try exact True.intro)
  exact h

theorem f47' {K : AV → Heap → Prop} {H : Heap} {x y : BitVec 64} {kf zf of : Nat → List (BitVec 8)} {lk lz lo : List AV} (ek : lk = sdL kf 128) (ez : lz = sdL zf 128) (eo : lo = sdL of 128) (hkf : ∀ i, (kf i).length = 32) (hzf : ∀ i, (zf i).length = 32) (hof : ∀ i, (of i).length = 32)
    (h : K (.bool (mtB x y kf zf of 128)) H) : wpF P [] 47 [.agg [.agg [.u64 x, .u64 y], .ro (.arr 32 .leaf) lk], .agg [.ro (.arr 32 .leaf) lz, .ro (.arr 32 .leaf) lo]] H K := by
  subst ek ez eo; exact f47 hkf hzf hof h
theorem f49' {K : AV → Heap → Prop} {H : Heap} {x y : BitVec 64} {kf zf of : Nat → List (BitVec 8)} {lk lz lo : List AV} (ek : lk = sdL kf 128) (ez : lz = sdL zf 128) (eo : lo = sdL of 128) (hkf : ∀ i, (kf i).length = 32) (hzf : ∀ i, (zf i).length = 32) (hof : ∀ i, (of i).length = 32)
    (h : K (.bool (mtB x y kf zf of 128)) H) : wpF P [] 49 [.agg [.u64 x, .u64 y], .ro (.arr 32 .leaf) lk, .ro (.arr 32 .leaf) lz, .ro (.arr 32 .leaf) lo] H K := by
  subst ek ez eo; exact f49 hkf hzf hof h
theorem f48' {K : AV → Heap → Prop} {H : Heap} {x y : BitVec 64} {kf zf of : Nat → List (BitVec 8)} {lk lz lo : List AV} (ek : lk = sdL kf 128) (ez : lz = sdL zf 128) (eo : lo = sdL of 128) (hkf : ∀ i, (kf i).length = 32) (hzf : ∀ i, (zf i).length = 32) (hof : ∀ i, (of i).length = 32)
    (h : ∀ B0 B1, K (.agg [.agg [.agg [.u64 x, .u64 y], .own (H.length + 2) 1 [] 0 128 (.arr 32 .leaf)], .agg [.own (H.length + 3) 1 [] 0 128 (.arr 32 .leaf), .own (H.length + 4) 1 [] 0 128 (.arr 32 .leaf)]]) (H ++ [B0, B1, sdB lk, sdB lz, sdB lo])) :
    wpF P [] 48 [.agg [.agg [.agg [.u64 x, .u64 y], .ro (.arr 32 .leaf) lk], .agg [.ro (.arr 32 .leaf) lz, .ro (.arr 32 .leaf) lo]]] H K := by
  subst ek ez eo; exact f48 hkf hzf hof h
/-- a direction, its parts named -/
structure Dir (x y : BitVec 64) (kf zf of : Nat → List (BitVec 8)) (lk lz lo : List AV) : Prop where
  m : ∀ i : Nat, kf i = if rb x y i = true then of i else zf i
  k : ∀ i, (kf i).length = 32
  z : ∀ i, (zf i).length = 32
  o : ∀ i, (of i).length = 32
  ek : lk = sdL kf 128
  ez : lz = sdL zf 128
  eo : lo = sdL of 128
theorem dir_of (ks : List (BitVec 8)) : ∃ x y kf zf of lk lz lo, Dir x y kf zf of lk lz lo ∧ sndA ks = .agg [.agg [.u64 x, .u64 y], .ro (.arr 32 .leaf) lk] ∧ rcvA ks = .agg [.ro (.arr 32 .leaf) lz, .ro (.arr 32 .leaf) lo] :=
  ⟨wdg ks 9 0, wdg ks 9 1, kS ks, zS ks, oS ks, _, _, _, ⟨fun i => rfl, fun i => kS_len, fun i => zS_len, fun i => oS_len, rfl, rfl, rfl⟩, rfl, rfl⟩
end Go.Proofs.Ytebmlmkiblieiaa
