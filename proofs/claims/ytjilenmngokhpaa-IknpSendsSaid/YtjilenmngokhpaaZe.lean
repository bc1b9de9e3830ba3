/-
  Layer 17 (iknp): what joins.
-/
import Derived.Test.YtjilenmngokhpaaZb
import Derived.Test.YtjilenmngokhpaaV38
import Derived.Test.YtjilenmngokhpaaV44
section
open Go Go.V
namespace Go.Proofs.Ytjilenmngokhpaa
/-- trefoil/trefoilref17.Joined (0:delta, 1:sent, 2:received, 3:choices, 4:delta, 8:, 9:j, 10:i, 22:, 26:, 30:, 55:) -/
def s31 : FnS := ⟨56, [0, 1, 2, 3, 4, 8, 9, 10, 22, 26, 30, 55],
    (.seq (.reg [⟨.var 4, (.e (.box 56 (.arr 2 .leaf))), [.t 0], none⟩,
      ⟨.var 5, (.q .mv), [.c (.bool false)], none⟩])
    (.seq (.seq (.reg [⟨.new, (.q .mv), [.t 1], none⟩,
      ⟨.new, (.q .len), [.t 12], none⟩,
      ⟨.new, (.q .mv), [.t 2], none⟩,
      ⟨.new, (.q .len), [.t 14], none⟩,
      ⟨.new, (.q (.bin .neq)), [.t 13, .t 15], none⟩,
      ⟨.new, (.q .mv), [.t 16], none⟩,
      ⟨.new, (.q .mv), [.t 1], (some (17, false))⟩,
      ⟨.new, (.q .len), [.t 18], (some (17, false))⟩,
      ⟨.new, (.q .mv), [.t 3], (some (17, false))⟩,
      ⟨.new, (.q .len), [.t 20], (some (17, false))⟩,
      ⟨.new, (.q (.bin .neq)), [.t 19, .t 21], (some (17, false))⟩,
      ⟨.var 8, (.q .pick), [.t 17, .c (.bool true), .t 22], none⟩])
    (.cond (.t 8) (.seq (.reg [⟨.var 5, (.q .mv), [.c (.bool false)], none⟩])
    .ret)
    .skip))
    (.seq (.seq (.reg [⟨.var 6, (.q .mv), [.c (.int 0)], none⟩])
    (.block 0 (.loop (.seq (.seq (.reg [⟨.new, (.q .mv), [.t 6], none⟩,
      ⟨.new, (.q .mv), [.t 1], none⟩,
      ⟨.new, (.q .len), [.t 13], none⟩,
      ⟨.var 9, (.q (.bin .lss)), [.t 12, .t 14], none⟩])
    (.cond (.t 9) .skip
    (.exit 0)))
    (.seq (.block 1 (.seq (.reg [⟨.var 7, (.q .mv), [.c (.int 0)], none⟩])
    (.block 2 (.loop (.seq (.seq (.reg [⟨.new, (.q .mv), [.t 7], none⟩,
      ⟨.var 10, (.q (.bin .lss)), [.t 12, .c (.int 128)], none⟩])
    (.cond (.t 10) .skip
    (.exit 2)))
    (.seq (.block 3 (.seq (.draw [⟨.new, (.q .mv), [.t 1], none⟩,
      ⟨.new, (.q .mv), [.t 6], none⟩,
      ⟨.new, (.q (.iaS (.arr 2 .leaf))), [.t 12, .t 13], none⟩,
      ⟨.new, (.q (.ld (.arr 2 .leaf))), [.t 14], none⟩,
      ⟨.new, (.q .mv), [.t 7], none⟩,
      ⟨.new, (.call 59), [.t 15, .t 16], none⟩,
      ⟨.new, (.q .mv), [.t 2], none⟩,
      ⟨.new, (.q .mv), [.t 6], none⟩,
      ⟨.new, (.q (.iaS (.arr 2 .leaf))), [.t 18, .t 19], none⟩,
      ⟨.new, (.q (.ld (.arr 2 .leaf))), [.t 20], none⟩,
      ⟨.new, (.q .mv), [.t 7], none⟩,
      ⟨.new, (.call 59), [.t 21, .t 22], none⟩,
      ⟨.new, (.q .mv), [.t 3], none⟩,
      ⟨.new, (.q .mv), [.t 6], none⟩,
      ⟨.new, (.q (.iaS .leaf)), [.t 24, .t 25], none⟩,
      ⟨.new, (.q (.ld .leaf)), [.t 26], none⟩,
      ⟨.new, (.q .mv), [.t 27], none⟩,
      ⟨.new, (.q (.ld (.arr 2 .leaf))), [.t 4], (some (28, true))⟩,
      ⟨.new, (.q .mv), [.t 7], (some (28, true))⟩,
      ⟨.new, (.call 59), [.t 29, .t 30], (some (28, true))⟩,
      ⟨.new, (.q .pick), [.t 28, .t 31, .c (.bool false)], none⟩,
      ⟨.new, (.q (.eqB true)), [.t 23, .t 32], none⟩,
      ⟨.var 11, (.q (.eqB true)), [.t 17, .t 33], none⟩])
    (.cond (.t 11) (.seq (.reg [⟨.var 5, (.q .mv), [.c (.bool false)], none⟩])
    .ret)
    .skip)))
    (.reg [⟨.new, (.q .mv), [.t 7], none⟩,
      ⟨.new, (.q (.bin .add)), [.t 12, .c (.int 1)], none⟩,
      ⟨.var 7, (.q .mv), [.t 13], none⟩])))))))
    (.reg [⟨.new, (.q .mv), [.t 6], none⟩,
      ⟨.new, (.q (.bin .add)), [.t 12, .c (.int 1)], none⟩,
      ⟨.var 6, (.q .mv), [.t 13], none⟩]))))))
    (.seq (.reg [⟨.var 5, (.q .mv), [.c (.bool true)], none⟩])
    .ret)))),
    [.t 5]⟩

/-- trefoil/iknp.Joined (0:delta, 1:sent, 2:received, 3:choices, 4:delta, 7:choices, 8:, 9:j, 10:q, 22:, 23:, 24:, 25:, 26:, 41:) -/
def s32 : FnS := ⟨43, [0, 1, 2, 3, 4, 7, 8, 9, 10, 22, 23, 24, 25, 26, 41],
    (.seq (.reg [⟨.var 4, (.e (.box 56 (.arr 2 .leaf))), [.t 0], none⟩,
      ⟨.var 5, (.e (.box 37 (.st [.leaf, .leaf]))), [.t 3], none⟩,
      ⟨.var 6, (.q .mv), [.c (.bool false)], none⟩])
    (.seq (.seq (.reg [⟨.new, (.q .mv), [.t 1], none⟩,
      ⟨.new, (.q .len), [.t 15], none⟩,
      ⟨.new, (.q .mv), [.t 2], none⟩,
      ⟨.new, (.q .len), [.t 17], none⟩,
      ⟨.new, (.q (.bin .neq)), [.t 16, .t 18], none⟩,
      ⟨.new, (.q .mv), [.t 19], none⟩,
      ⟨.new, (.q .mv), [.t 1], (some (20, false))⟩,
      ⟨.new, (.q .len), [.t 21], (some (20, false))⟩,
      ⟨.new, (.q (.ld (.st [.leaf, .leaf]))), [.t 5], (some (20, false))⟩,
      ⟨.new, (.call 46), [.t 23], (some (20, false))⟩,
      ⟨.new, (.q (.bin .neq)), [.t 22, .t 24], (some (20, false))⟩,
      ⟨.var 9, (.q .pick), [.t 20, .c (.bool true), .t 25], none⟩])
    (.cond (.t 9) (.seq (.reg [⟨.var 6, (.q .mv), [.c (.bool false)], none⟩])
    .ret)
    .skip))
    (.seq (.seq (.reg [⟨.var 10, (.q .mv), [.t 1], none⟩,
      ⟨.var 11, (.q .len), [.t 10], none⟩,
      ⟨.var 12, (.q .mv), [.c (.int 0)], none⟩])
    (.block 0 (.loop (.seq (.reg [⟨.var 13, (.q (.bin .lss)), [.t 12, .t 11], none⟩])
    (.seq (.cond (.t 13) .skip
    (.exit 0))
    (.seq (.block 1 (.seq (.reg [⟨.new, (.q .mv), [.t 12], none⟩,
      ⟨.new, (.q (.iaS (.arr 2 .leaf))), [.t 10, .t 12], none⟩,
      ⟨.new, (.q (.ld (.arr 2 .leaf))), [.t 16], none⟩,
      ⟨.var 8, (.e (.alloc 56 (.arr 2 .leaf) (.agg [(.u64 0), (.u64 0)]))), [], none⟩,
      ⟨.var 7, (.q .mv), [.t 15], none⟩,
      ⟨.none, (.e (.store (.arr 2 .leaf))), [.t 8, .t 17], none⟩])
    (.seq (.draw [⟨.new, (.q (.ld (.arr 2 .leaf))), [.t 8], none⟩,
      ⟨.new, (.q .mv), [.t 2], none⟩,
      ⟨.new, (.q .mv), [.t 7], none⟩,
      ⟨.new, (.q (.iaS (.arr 2 .leaf))), [.t 16, .t 17], none⟩,
      ⟨.new, (.q (.ld (.arr 2 .leaf))), [.t 18], none⟩,
      ⟨.new, (.q (.ld (.st [.leaf, .leaf]))), [.t 5], none⟩,
      ⟨.new, (.q .mv), [.t 7], none⟩,
      ⟨.new, (.call 47), [.t 20, .t 21], none⟩,
      ⟨.new, (.q (.ld (.arr 2 .leaf))), [.t 4], none⟩,
      ⟨.new, (.call 61), [.t 22, .t 23], none⟩,
      ⟨.new, (.call 49), [.t 19, .t 24], none⟩,
      ⟨.var 14, (.q (.eqA true 2 .u64)), [.t 15, .t 25], none⟩])
    (.cond (.t 14) (.seq (.reg [⟨.var 6, (.q .mv), [.c (.bool false)], none⟩])
    .ret)
    .skip))))
    (.reg [⟨.new, (.q (.bin .add)), [.t 12, .c (.int 1)], none⟩,
      ⟨.var 12, (.q .mv), [.t 15], none⟩])))))))
    (.seq (.reg [⟨.var 6, (.q .mv), [.c (.bool true)], none⟩])
    .ret)))),
    [.t 6]⟩

set_option maxRecDepth 100000
set_option linter.unusedSimpArgs false
set_option linter.unusedVariables false
theorem c31 : cF P [] (drP P []) 31 4 s31.vm = some s31 := by kernel_rfl
theorem c32 : cF P [] (drP P []) 32 4 s32.vm = some s32 := by kernel_rfl
/-! do rows join? -/
def jrow (d0 d1 : BitVec 64) (b : Bool) (x y z w : BitVec 64) : Bool := decide (x = z ^^^ (if b = true then d0 else 0) ∧ y = w ^^^ (if b = true then d1 else 0))
def jns (d0 d1 : BitVec 64) (x y z w : Nat → BitVec 64) (c : Nat → Bool) : Nat → Bool
  | 0 => true
  | j + 1 => jns d0 d1 x y z w c j && jrow d0 d1 (c j) (x j) (y j) (z j) (w j)
theorem jns_false {d0 d1 : BitVec 64} {x y z w : Nat → BitVec 64} {c : Nat → Bool} {i : Nat} (h : jns d0 d1 x y z w c i = false) : ∀ {j : Nat}, i ≤ j → jns d0 d1 x y z w c j = false
  | 0, hj => by have : i = 0 := by omega
                subst this; exact h
  | j + 1, hj => by
    by_cases e : i = j + 1
    · subst e; exact h
    · simp [jns, jns_false h (j := j) (by omega)]
def jnd (d0 d1 : BitVec 64) (x y z w : Nat → BitVec 64) (c : Nat → Bool) (n m k : Nat) : Bool := decide (n = m) && decide (n = k) && jns d0 d1 x y z w c n
def dbx (d0 d1 : BitVec 64) : Option Blk := some ⟨56, 0, false, .arr 1 (.arr 2 .leaf), .agg [.agg [.u64 d0, .u64 d1]]⟩
def vbx (n : Nat) (f : Nat → Bool) : Option Blk := some ⟨37, 0, false, .arr 1 (.st [.leaf, .leaf]), .agg [vec n f]⟩
def I32 (d0 d1 : BitVec 64) (x y z w : Nat → BitVec 64) (c : Nat → Bool) (n : Nat) (H : Heap) (k : Nat) (st : St) : Prop :=
  ∃ (i : Nat) (u7 u8 u13 u14 : AV) (J : Heap), st = ⟨[rowV d0 d1, .ro (.arr 2 .leaf) (rwA x y n), .ro (.arr 2 .leaf) (rwA z w n), vec n c, .ptr H.length 0 [0] (.arr 2 .leaf), .ptr (H.length + 1) 0 [0] (.st [.leaf, .leaf]), .bool false, u7, u8, .bool false, .ro (.arr 2 .leaf) (rwA x y n), .int (n : Int), .int (i : Int), u13, u14],
    H ++ dbx d0 d1 :: vbx n c :: J⟩ ∧ k = n - i ∧ i ≤ n ∧ jns d0 d1 x y z w (cut n c) i = true
theorem f32 {K : AV → Heap → Prop} {H : Heap} {d0 d1 : BitVec 64} {x y z w : Nat → BitVec 64} {c : Nat → Bool} {n m q : Nat} (hn : n ≤ 100000) (h : K (.bool (jnd d0 d1 x y z w (cut q c) n m q)) H) : wpF P [] 32 [rowV d0 d1, .ro (.arr 2 .leaf) (rwA x y n), .ro (.arr 2 .leaf) (rwA z w m), vec q c] H K := by
  refine wpF_go c32 rfl 3 ?_
  intro ha hb
  simp only [s32]
  clear ha hb
  have l1 := rwA_len (x := x) (y := y) (n := n)
  have l2 := rwA_len (x := z) (y := w) (n := m)
  by_cases h1 : n = m
  · subst h1
    have e1 : ((n : Int) = (n : Int)) = True := by simp
    by_cases h2 : n = q
    · subst h2
      have hj : jnd d0 d1 x y z w (cut n c) n n n = jns d0 d1 x y z w (cut n c) n := by simp [jnd]
      rw [hj] at h
      have hv : vec n c = .agg [.int (n : Int), .ro .leaf (wdA n c)] := rfl
      unfold rowV
      rw [hv]
      (refine gw3 @l1 @l2 @e1 ?_; try exact True.intro)
      rw [← hv]
      refine f46 ?_
      rw [hv]
      (refine gw3 @l1 @l2 @e1 ?_; try exact True.intro)
      refine wp_inv (I32 d0 d1 x y z w c n H) n ⟨0, _, _, _, _, [], rfl, rfl, by omega, rfl⟩ ?_
      rintro k st ⟨i, u7, u8, u13, u14, J, rfl, rfl, hi, hp⟩
      unfold dbx vbx
      rw [hv]
      by_cases hil : i < n
      · have hlt : ((i : Int) < (n : Int)) = True := by simp only [eq_iff_iff, iff_true]; omega
        have g1 := rwA_get (x := x) (y := y) hil
        have g2 := rwA_get (x := z) (y := w) hil
        unfold rowV at g1 g2 ⊢
        (refine gw5 @hlt @l1 @l2 @g1 @g2 ?_; try exact True.intro)
        rw [← hv]
        refine drawn _ (f47 ⟨rfl, rfl⟩) ?_
        rw [show (decide (0 ≤ (i : Int)) && cut n c (i : Int).toNat) = cut n c i by simp]
        rw [hv]
        (refine gw0 ?_; try exact True.intro)
        refine drawn _ (f61 ⟨rfl, rfl⟩) ?_
        have hr : (if cut n c i = true then rowV d0 d1 else rowV 0 0) = rowV (if cut n c i = true then d0 else 0) (if cut n c i = true then d1 else 0) := by split <;> rfl
        have hs : jns d0 d1 x y z w (cut n c) (i + 1) = jrow d0 d1 (cut n c i) (x i) (y i) (z i) (w i) := by simp only [jns, hp, Bool.true_and]
        rw [hr]
        unfold jrow at hs
        generalize (if cut n c i = true then d0 else 0) = a0 at *
        generalize (if cut n c i = true then d1 else 0) = a1 at *
        unfold rowV
        (refine gw0 ?_; try exact True.intro)
        refine drawn _ (f49 ⟨rfl, rfl⟩) ?_
        unfold rowV
        by_cases ht : x i = z i ^^^ a0 ∧ y i = w i ^^^ a1
        · have ht2 : ([AV.u64 (x i), AV.u64 (y i)] = [AV.u64 (z i ^^^ a0), AV.u64 (w i ^^^ a1)]) = True := by rw [ht.1, ht.2]; simp
          rw [decide_eq_true ht] at hs
          (refine gw1 @ht2 ?_; try exact True.intro)
          refine ⟨rfl, rfl, rfl, rfl, ?_⟩
          (repeat (refine And.intro (by omega) ?_))
          exact ⟨n - (i + 1), by omega, i + 1, _, _, _, _, _, rfl, rfl, by omega, hs⟩
        · have ht2 : ([AV.u64 (x i), AV.u64 (y i)] = [AV.u64 (z i ^^^ a0), AV.u64 (w i ^^^ a1)]) = False := by
            simp only [List.cons.injEq, AV.u64.injEq, and_true, eq_iff_iff, iff_false]; exact ht
          rw [decide_eq_false ht] at hs
          rw [jns_false hs (by omega)] at h
          (refine gw1 @ht2 ?_; try exact True.intro)
          exact ⟨rfl, rfl, rfl, rfl, h⟩
      · have hlt : ((i : Int) < (n : Int)) = False := by simp only [eq_iff_iff, iff_false]; omega
        have hie : i = n := by omega
        subst hie
        rw [hp] at h
        unfold rowV
        (refine gw1 @hlt ?_; try exact True.intro)
        exact h
    · have e2 : ((n : Int) = (q : Int)) = False := by simp only [eq_iff_iff, iff_false]; omega
      have hj : jnd d0 d1 x y z w (cut q c) n n q = false := by simp [jnd, h2]
      rw [hj] at h
      have hv : vec q c = .agg [.int (q : Int), .ro .leaf (wdA q c)] := rfl
      unfold rowV
      rw [hv]
      (refine gw3 @l1 @l2 @e1 ?_; try exact True.intro)
      rw [← hv]
      refine f46 ?_
      (refine gw4 @l1 @l2 @e1 @e2 ?_; try exact True.intro)
      exact h
  · have e1 : ((n : Int) = (m : Int)) = False := by simp only [eq_iff_iff, iff_false]; omega
    have hj : jnd d0 d1 x y z w (cut q c) n m q = false := by simp [jnd, h1]
    rw [hj] at h
    have hv : vec q c = .agg [.int (q : Int), .ro .leaf (wdA q c)] := rfl
    unfold rowV
    rw [hv]
    (refine gw3 @l1 @l2 @e1 ?_; try exact True.intro)
    exact h

theorem f32n {K : AV → Heap → Prop} {H : Heap} {d0 d1 : BitVec 64} {x y z w : Nat → BitVec 64} {c : Nat → Bool} {m q : Nat} (h : K (.bool (jnd d0 d1 x y z w (cut q c) 0 m q)) H) : wpF P [] 32 [rowV d0 d1, .nils, .ro (.arr 2 .leaf) (rwA z w m), vec q c] H K := by
  refine wpF_go c32 rfl 3 ?_
  intro ha hb
  simp only [s32]
  clear ha hb
  have l2 := rwA_len (x := z) (y := w) (n := m)
  have hv : vec q c = .agg [.int (q : Int), .ro .leaf (wdA q c)] := rfl
  by_cases h1 : 0 = m
  · subst h1
    by_cases h2 : 0 = q
    · subst h2
      unfold rowV
      rw [hv]
      (refine gw1 @l2 ?_; try exact True.intro)
      refine f46 (n := 0) (f := c) ?_
      (refine gw0 ?_; try exact True.intro)
      refine wp_unroll 1 ?_
      (refine gw0 ?_; try exact True.intro)
      exact h
    · have e2 : ((0 : Int) = (q : Int)) = False := by simp only [eq_iff_iff, iff_false]; omega
      have hj : jnd d0 d1 x y z w (cut q c) 0 0 q = false := by simp [jnd, h2]
      rw [hj] at h
      unfold rowV
      rw [hv]
      (refine gw1 @l2 ?_; try exact True.intro)
      rw [← hv]
      refine f46 ?_
      (refine gw2 @l2 @e2 ?_; try exact True.intro)
      exact h
  · have e1 : ((0 : Int) = (m : Int)) = False := by simp only [eq_iff_iff, iff_false]; omega
    have hj : jnd d0 d1 x y z w (cut q c) 0 m q = false := by simp [jnd, h1]
    rw [hj] at h
    unfold rowV
    rw [hv]
    (refine gw2 @l2 @e1 ?_; try exact True.intro)
    exact h

/-! the reference's -/
theorem rb_ext {x y z w : BitVec 64} (h : ∀ i : Nat, i < 128 → rb x y i = rb z w i) : x = z ∧ y = w := by
  constructor
  · apply BitVec.eq_of_getLsbD_eq
    intro i hi
    have := h i (by omega)
    unfold rb at this
    rw [if_pos (by omega), if_pos (by omega)] at this
    exact this
  · apply BitVec.eq_of_getLsbD_eq
    intro i hi
    have := h (64 + i) (by omega)
    unfold rb at this
    rw [if_neg (by omega), if_pos (by omega), if_neg (by omega), if_pos (by omega), show ((64 + i : Nat) : Int).toNat - 64 = i by omega] at this
    exact this
def jbs (d0 d1 : BitVec 64) (b : Bool) (x y z w : BitVec 64) : Nat → Bool
  | 0 => true
  | i + 1 => jbs d0 d1 b x y z w i && (rb x y i == (rb z w i != (b && rb d0 d1 i)))
theorem jbs_false {d0 d1 : BitVec 64} {b : Bool} {x y z w : BitVec 64} {i : Nat} (h : jbs d0 d1 b x y z w i = false) : ∀ {j : Nat}, i ≤ j → jbs d0 d1 b x y z w j = false
  | 0, hj => by have : i = 0 := by omega
                subst this; exact h
  | j + 1, hj => by
    by_cases e : i = j + 1
    · subst e; exact h
    · simp [jbs, jbs_false h (j := j) (by omega)]
theorem jbs_all {d0 d1 : BitVec 64} {b : Bool} {x y z w : BitVec 64} : ∀ {n : Nat}, jbs d0 d1 b x y z w n = true ↔ ∀ i, i < n → rb x y i = (rb z w i != (b && rb d0 d1 i))
  | 0 => by simp [jbs]
  | n + 1 => by
    simp only [jbs, Bool.and_eq_true, beq_iff_eq, jbs_all (n := n)]
    constructor
    · rintro ⟨h1, h2⟩ i hi
      by_cases e : i = n
      · rw [e]; exact h2
      · exact h1 i (by omega)
    · intro h
      exact ⟨fun i hi => h i (by omega), h n (by omega)⟩
theorem jbs_row {d0 d1 : BitVec 64} {b : Bool} {x y z w : BitVec 64} : jbs d0 d1 b x y z w 128 = jrow d0 d1 b x y z w := by
  rw [Bool.eq_iff_iff, jbs_all]
  unfold jrow
  rw [decide_eq_true_eq]
  have e : ∀ i : Nat, (rb z w i != (b && rb d0 d1 i)) = rb (z ^^^ if b = true then d0 else 0) (w ^^^ if b = true then d1 else 0) i := fun i => by
    rw [rb_xor]
    cases b
    · rw [if_neg (by decide), if_neg (by decide), rb_zero, Bool.false_and]
    · rw [if_pos rfl, if_pos rfl, Bool.true_and]
  constructor
  · intro h
    exact rb_ext fun i hi => by rw [h i hi, e]
  · rintro ⟨h1, h2⟩ i _
    rw [e, h1, h2]

def boL (c : Nat → Bool) (n : Nat) : List AV := (List.range n).map fun i => .bool (c i)
def I31a (d0 d1 : BitVec 64) (x y z w : Nat → BitVec 64) (c : Nat → Bool) (n : Nat) (C : AV) (H : Heap) (k : Nat) (st : St) : Prop :=
  ∃ (j : Nat) (u7 u9 u10 u11 : AV), st = ⟨[rowV d0 d1, .ro (.arr 2 .leaf) (rwA x y n), .ro (.arr 2 .leaf) (rwA z w n), C, .ptr H.length 0 [0] (.arr 2 .leaf), .bool false, .int (j : Int), u7, .bool false, u9, u10, u11],
    H ++ [dbx d0 d1]⟩ ∧ k = n - j ∧ j ≤ n ∧ jns d0 d1 x y z w c j = true
def I31b (d0 d1 : BitVec 64) (x y z w : Nat → BitVec 64) (c : Nat → Bool) (n : Nat) (C : AV) (j : Nat) (u9 : AV) (H : Heap) (k : Nat) (st : St) : Prop :=
  ∃ (i : Nat) (u10 u11 : AV), st = ⟨[rowV d0 d1, .ro (.arr 2 .leaf) (rwA x y n), .ro (.arr 2 .leaf) (rwA z w n), C, .ptr H.length 0 [0] (.arr 2 .leaf), .bool false, .int (j : Int), .int (i : Int), .bool false, u9, u10, u11],
    H ++ [dbx d0 d1]⟩ ∧ k = 128 - i ∧ i ≤ 128 ∧ jbs d0 d1 (c j) (x j) (y j) (z j) (w j) i = true
theorem f31e {K : AV → Heap → Prop} {H : Heap} {d0 d1 : BitVec 64} {x y z w : Nat → BitVec 64} {c : Nat → Bool} {n m q : Nat} (hne : n ≠ m ∨ n ≠ q) (h : K (.bool false) H) : wpF P [] 31 [rowV d0 d1, .ro (.arr 2 .leaf) (rwA x y n), .ro (.arr 2 .leaf) (rwA z w m), .ro .leaf (boL c q)] H K := by
  refine wpF_go c31 rfl 3 ?_
  intro ha hb
  simp only [s31]
  clear ha hb
  have l1 := rwA_len (x := x) (y := y) (n := n)
  have l2 := rwA_len (x := z) (y := w) (n := m)
  have l3 : (boL c q).length = q := by simp [boL]
  unfold rowV
  by_cases h1 : n = m
  · have e1 : ((n : Int) = (m : Int)) = True := by simp only [eq_iff_iff, iff_true]; omega
    have e2 : ((n : Int) = (q : Int)) = False := by simp only [eq_iff_iff, iff_false]; omega
    (refine gw5 @l1 @l2 @l3 @e1 @e2 ?_; try exact True.intro)
    exact h
  · have e1 : ((n : Int) = (m : Int)) = False := by simp only [eq_iff_iff, iff_false]; omega
    (refine gw4 @l1 @l2 @l3 @e1 ?_; try exact True.intro)
    exact h
theorem f31 {K : AV → Heap → Prop} {H : Heap} {d0 d1 : BitVec 64} {x y z w : Nat → BitVec 64} {c : Nat → Bool} {n : Nat} (hn : n ≤ 100000) (h : K (.bool (jns d0 d1 x y z w c n)) H) : wpF P [] 31 [rowV d0 d1, .ro (.arr 2 .leaf) (rwA x y n), .ro (.arr 2 .leaf) (rwA z w n), .ro .leaf (boL c n)] H K := by
  refine wpF_go c31 rfl 3 ?_
  intro ha hb
  simp only [s31]
  clear ha hb
  have l1 := rwA_len (x := x) (y := y) (n := n)
  have l2 := rwA_len (x := z) (y := w) (n := n)
  have l3 : (boL c n).length = n := by simp [boL]
  have e1 : ((n : Int) = (n : Int)) = True := by simp
  have e128 : ((128 : Nat) : Int) = 128 := rfl
  have hrv : ∀ a b : BitVec 64, AV.agg [.u64 a, .u64 b] = rowV a b := fun _ _ => rfl
  rw [rowV]
  (refine gw4 @l1 @l2 @l3 @e1 ?_; try exact True.intro)
  refine wp_inv (I31a d0 d1 x y z w c n (.ro .leaf (boL c n)) H) n ⟨0, _, _, _, _, rfl, rfl, by omega, rfl⟩ ?_
  rintro k st ⟨j, u7, u9, u10, u11, rfl, rfl, hj, hp⟩
  unfold dbx rowV
  by_cases hjl : j < n
  · have hlt : ((j : Int) < (n : Int)) = True := by simp only [eq_iff_iff, iff_true]; omega
    (refine gw2 @hlt @l1 ?_; try exact True.intro)
    refine wp_inv (I31b d0 d1 x y z w c n (.ro .leaf (boL c n)) j _ H) 128 ⟨0, _, _, rfl, rfl, by omega, rfl⟩ ?_
    rintro k st ⟨i, u10, u11, rfl, rfl, hi, hq⟩
    unfold dbx rowV
    by_cases hil : i < 128
    · have h2 : ((i : Int) < 128) = True := by simp only [eq_iff_iff, iff_true]; omega
      have g1 := rwA_get (x := x) (y := y) hjl
      have g2 := rwA_get (x := z) (y := w) hjl
      have g3 : (boL c n).getD j .un = .bool (c j) := ld_rng hjl
      have hs : jbs d0 d1 (c j) (x j) (y j) (z j) (w j) (i + 1) = (rb (x j) (y j) i == (rb (z j) (w j) i != (c j && rb d0 d1 i))) := by simp only [jbs, hq, Bool.true_and]
      have hbad : jbs d0 d1 (c j) (x j) (y j) (z j) (w j) (i + 1) = false → K (.bool false) H := fun hf => by
        have h3 : jns d0 d1 x y z w c (j + 1) = false := by rw [jns, ← jbs_row, jbs_false hf (by omega), Bool.and_false]
        rw [jns_false h3 (by omega)] at h
        exact h
      unfold rowV at g1 g2
      (refine gw8 @hlt @h2 @l1 @l2 @l3 @g1 @g2 @g3 ?_; try exact True.intro)
      refine drawn _ (f59 (x := x j) (y := y j) ⟨rfl, rfl⟩) ?_
      (refine gw8 @hlt @h2 @l1 @l2 @l3 @g1 @g2 @g3 ?_; try exact True.intro)
      refine drawn _ (f59 (x := z j) (y := w j) ⟨rfl, rfl⟩) ?_
      (refine gw8 @hlt @h2 @l1 @l2 @l3 @g1 @g2 @g3 ?_; try exact True.intro)
      cases hc : c j with
      | false =>
        rw [hc] at hs hbad hq
        generalize rb (x j) (y j) (i : Int) = p at *
        generalize rb (z j) (w j) (i : Int) = q at *
        cases p <;> cases q <;> (refine gw1 @hc ?_; try exact True.intro)
        · (repeat (refine And.intro (by omega) ?_))
          exact ⟨128 - (i + 1), by omega, i + 1, _, _, rfl, rfl, by omega, by rw [hc, hs]; rfl⟩
        · exact hbad (by rw [hs]; rfl)
        · exact hbad (by rw [hs]; rfl)
        · (repeat (refine And.intro (by omega) ?_))
          exact ⟨128 - (i + 1), by omega, i + 1, _, _, rfl, rfl, by omega, by rw [hc, hs]; rfl⟩
      | true =>
        (refine gw1 @hc ?_; try exact True.intro)
        refine drawn _ (f59 (x := d0) (y := d1) ⟨rfl, rfl⟩) ?_
        rw [hc] at hs hbad hq
        generalize rb (x j) (y j) (i : Int) = p at *
        generalize rb (z j) (w j) (i : Int) = q at *
        generalize rb d0 d1 (i : Int) = r at *
        cases p <;> cases q <;> cases r <;> (refine gw1 @hc ?_; try exact True.intro)
        · (repeat (refine And.intro (by omega) ?_))
          exact ⟨128 - (i + 1), by omega, i + 1, _, _, rfl, rfl, by omega, by rw [hc, hs]; rfl⟩
        · exact hbad (by rw [hs]; rfl)
        · exact hbad (by rw [hs]; rfl)
        · (repeat (refine And.intro (by omega) ?_))
          exact ⟨128 - (i + 1), by omega, i + 1, _, _, rfl, rfl, by omega, by rw [hc, hs]; rfl⟩
        · exact hbad (by rw [hs]; rfl)
        · (repeat (refine And.intro (by omega) ?_))
          exact ⟨128 - (i + 1), by omega, i + 1, _, _, rfl, rfl, by omega, by rw [hc, hs]; rfl⟩
        · (repeat (refine And.intro (by omega) ?_))
          exact ⟨128 - (i + 1), by omega, i + 1, _, _, rfl, rfl, by omega, by rw [hc, hs]; rfl⟩
        · exact hbad (by rw [hs]; rfl)
    · have h2 : ((i : Int) < 128) = False := by simp only [eq_iff_iff, iff_false]; omega
      have hie : i = 128 := by omega
      subst hie
      (refine gw1 @h2 ?_; try exact True.intro)
      (repeat (refine And.intro (by omega) ?_))
      exact ⟨n - (j + 1), by omega, j + 1, _, _, _, _, rfl, rfl, by omega, by rw [jns, hp, ← jbs_row, hq]; rfl⟩
  · have hlt : ((j : Int) < (n : Int)) = False := by simp only [eq_iff_iff, iff_false]; omega
    have hje : j = n := by omega
    subst hje
    rw [hp] at h
    (refine gw2 @hlt @l1 ?_; try exact True.intro)
    exact h
theorem f31n {K : AV → Heap → Prop} {H : Heap} {d0 d1 : BitVec 64} {x y z w : Nat → BitVec 64} {c : Nat → Bool} {m q : Nat} (h : K (.bool (jnd d0 d1 x y z w c 0 m q)) H) : wpF P [] 31 [rowV d0 d1, .nils, .ro (.arr 2 .leaf) (rwA z w m), .ro .leaf (boL c q)] H K := by
  refine wpF_go c31 rfl 3 ?_
  intro ha hb
  simp only [s31]
  clear ha hb
  have l2 := rwA_len (x := z) (y := w) (n := m)
  have l3 : (boL c q).length = q := by simp [boL]
  unfold rowV
  by_cases h1 : 0 = m
  · subst h1
    by_cases h2 : 0 = q
    · subst h2
      (refine gw2 @l2 @l3 ?_; try exact True.intro)
      refine wp_unroll 1 ?_
      (refine gw0 ?_; try exact True.intro)
      exact h
    · have e2 : ((0 : Int) = (q : Int)) = False := by simp only [eq_iff_iff, iff_false]; omega
      have hj : jnd d0 d1 x y z w c 0 0 q = false := by simp [jnd, h2]
      rw [hj] at h
      (refine gw3 @l2 @l3 @e2 ?_; try exact True.intro)
      exact h
  · have e1 : ((0 : Int) = (m : Int)) = False := by simp only [eq_iff_iff, iff_false]; omega
    have hj : jnd d0 d1 x y z w c 0 m q = false := by simp [jnd, h1]
    rw [hj] at h
    (refine gw2 @l2 @e1 ?_; try exact True.intro)
    exact h
theorem f31j {K : AV → Heap → Prop} {H : Heap} {d0 d1 : BitVec 64} {x y z w : Nat → BitVec 64} {c : Nat → Bool} {n m q : Nat} (hn : n ≤ 100000) (h : K (.bool (jnd d0 d1 x y z w c n m q)) H) : wpF P [] 31 [rowV d0 d1, .ro (.arr 2 .leaf) (rwA x y n), .ro (.arr 2 .leaf) (rwA z w m), .ro .leaf (boL c q)] H K := by
  by_cases he : n = m ∧ n = q
  · obtain ⟨rfl, rfl⟩ := he
    exact f31 hn (by simpa [jnd] using h)
  · have hj : jnd d0 d1 x y z w c n m q = false := by
      unfold jnd
      by_cases h1 : n = m
      · have h2 : ¬ n = q := fun e => he ⟨h1, e⟩
        rw [decide_eq_false h2, Bool.and_false, Bool.false_and]
      · rw [decide_eq_false h1, Bool.false_and, Bool.false_and]
    rw [hj] at h
    exact f31e (by omega) h
end Go.Proofs.Ytjilenmngokhpaa

end

section
/-
  Layer 17 (iknp): Receive.
-/
open Go Go.V
namespace Go.Proofs.Ytjilenmngokhpaa
/-- trefoil/iknp.Receive (0:r, 1:from, 2:choices, 3:r, 5:choices, 6:, 7:, 8:, 9:n, 10:e, 11:send, 12:own, 13:i, 14:t, 15:e, 16:u, 17:rows, 18:e, 25:, 36:, 37:, 38:, 52:, 66:) -/
def s27 : FnS := ⟨97, [0, 1, 2, 3, 5, 6, 7, 8, 9, 10, 11, 12, 13, 14, 15, 16, 17, 18, 25, 36, 37, 38, 52, 66],
    (.seq (.reg [⟨.var 3, (.e (.box 60 (.st [.leaf, .leaf]))), [.t 0], none⟩,
      ⟨.var 4, (.e (.box 37 (.st [.leaf, .leaf]))), [.t 2], none⟩,
      ⟨.var 5, (.q .mv), [.c .nils], none⟩,
      ⟨.var 6, (.q .mv), [.c .nils], none⟩,
      ⟨.var 7, (.q .mv), [.c (.int 0)], none⟩])
    (.seq (.reg [⟨.new, (.q (.ld (.st [.leaf, .leaf]))), [.t 4], none⟩,
      ⟨.new, (.call 46), [.t 24], none⟩,
      ⟨.var 8, (.q .mv), [.t 25], none⟩])
    (.seq (.seq (.reg [⟨.new, (.q .mv), [.t 1], none⟩,
      ⟨.new, (.q .mv), [.t 8], none⟩,
      ⟨.new, (.call 52), [.t 24, .t 25], none⟩,
      ⟨.var 9, (.q .mv), [.t 26], none⟩])
    (.seq (.reg [⟨.new, (.q .mv), [.t 9], none⟩,
      ⟨.var 18, (.q (.bin .neq)), [.t 24, .c (.int 0)], none⟩])
    (.cond (.t 18) (.seq (.reg [⟨.new, (.q .mv), [.t 9], none⟩,
      ⟨.var 5, (.q .mv), [.c .nils], none⟩,
      ⟨.var 6, (.q .mv), [.c .nils], none⟩,
      ⟨.var 7, (.q .mv), [.t 24], none⟩])
    .ret)
    .skip)))
    (.seq (.seq (.reg [⟨.new, (.q (.fa [.leaf, .leaf] 0)), [.t 3], none⟩,
      ⟨.new, (.q (.ld .leaf)), [.t 24], none⟩,
      ⟨.new, (.q .len), [.t 25], none⟩,
      ⟨.new, (.q (.bin .neq)), [.t 26, .c (.int 128)], none⟩,
      ⟨.new, (.q .mv), [.t 27], none⟩,
      ⟨.new, (.q (.fa [.leaf, .leaf] 1)), [.t 3], (some (28, false))⟩,
      ⟨.new, (.q (.ld .leaf)), [.t 29], (some (28, false))⟩,
      ⟨.new, (.q .len), [.t 30], (some (28, false))⟩,
      ⟨.new, (.q (.bin .neq)), [.t 31, .c (.int 128)], (some (28, false))⟩,
      ⟨.var 19, (.q .pick), [.t 28, .c (.bool true), .t 32], none⟩])
    (.cond (.t 19) (.seq (.reg [⟨.var 5, (.q .mv), [.c .nils], none⟩,
      ⟨.var 6, (.q .mv), [.c .nils], none⟩,
      ⟨.var 7, (.q .mv), [.c (.int 11)], none⟩])
    .ret)
    .skip))
    (.seq (.reg [⟨.var 10, (.q .mv), [.c .nils], none⟩,
      ⟨.var 11, (.q .mv), [.c .nils], none⟩])
    (.seq (.seq (.reg [⟨.var 20, (.q .mv), [.c (.int 0)], none⟩])
    (.block 0 (.loop (.seq (.reg [⟨.var 21, (.q (.bin .lss)), [.t 20, .c (.int 128)], none⟩])
    (.seq (.cond (.t 21) .skip
    (.exit 0))
    (.seq (.block 1 (.seq (.reg [⟨.new, (.q .mv), [.t 20], none⟩,
      ⟨.var 12, (.q .mv), [.t 24], none⟩])
    (.seq (.reg [⟨.new, (.q (.fa [.leaf, .leaf] 0)), [.t 3], none⟩,
      ⟨.new, (.q (.ld .leaf)), [.t 24], none⟩,
      ⟨.new, (.q .mv), [.t 12], none⟩,
      ⟨.new, (.q (.iaS (.arr 32 .leaf))), [.t 25, .t 26], none⟩,
      ⟨.new, (.q (.ld (.arr 32 .leaf))), [.t 27], none⟩,
      ⟨.new, (.q .mv), [.t 1], none⟩,
      ⟨.new, (.q .mv), [.t 8], none⟩,
      ⟨.new, (.call 53), [.t 28, .t 29, .t 30], none⟩,
      ⟨.new, (.q .mv), [.t 31], none⟩,
      ⟨.new, (.q (.ext 0)), [.t 32], none⟩,
      ⟨.new, (.q (.ext 1)), [.t 32], none⟩,
      ⟨.var 13, (.e (.alloc 37 (.st [.leaf, .leaf]) (.agg [(.int 0), .nils]))), [], none⟩,
      ⟨.none, (.e (.store (.st [.leaf, .leaf]))), [.t 13, .t 33], none⟩,
      ⟨.var 14, (.q .mv), [.t 34], none⟩])
    (.seq (.seq (.reg [⟨.new, (.q .mv), [.t 14], none⟩,
      ⟨.var 22, (.q (.bin .neq)), [.t 24, .c (.int 0)], none⟩])
    (.cond (.t 22) (.seq (.reg [⟨.new, (.q .mv), [.t 14], none⟩,
      ⟨.var 5, (.q .mv), [.c .nils], none⟩,
      ⟨.var 6, (.q .mv), [.c .nils], none⟩,
      ⟨.var 7, (.q .mv), [.t 24], none⟩])
    .ret)
    .skip))
    (.seq (.reg [⟨.new, (.q (.fa [.leaf, .leaf] 1)), [.t 3], none⟩,
      ⟨.new, (.q (.ld .leaf)), [.t 24], none⟩,
      ⟨.new, (.q .mv), [.t 12], none⟩,
      ⟨.new, (.q (.iaS (.arr 32 .leaf))), [.t 25, .t 26], none⟩,
      ⟨.new, (.q (.ld (.arr 32 .leaf))), [.t 27], none⟩,
      ⟨.new, (.q .mv), [.t 1], none⟩,
      ⟨.new, (.q .mv), [.t 8], none⟩,
      ⟨.new, (.call 53), [.t 28, .t 29, .t 30], none⟩,
      ⟨.new, (.q .mv), [.t 31], none⟩,
      ⟨.new, (.q (.ext 0)), [.t 32], none⟩,
      ⟨.new, (.q (.ext 1)), [.t 32], none⟩,
      ⟨.var 15, (.e (.alloc 37 (.st [.leaf, .leaf]) (.agg [(.int 0), .nils]))), [], none⟩,
      ⟨.none, (.e (.store (.st [.leaf, .leaf]))), [.t 15, .t 33], none⟩,
      ⟨.var 14, (.q .mv), [.t 34], none⟩])
    (.seq (.seq (.reg [⟨.new, (.q .mv), [.t 14], none⟩,
      ⟨.var 23, (.q (.bin .neq)), [.t 24, .c (.int 0)], none⟩])
    (.cond (.t 23) (.seq (.reg [⟨.new, (.q .mv), [.t 14], none⟩,
      ⟨.var 5, (.q .mv), [.c .nils], none⟩,
      ⟨.var 6, (.q .mv), [.c .nils], none⟩,
      ⟨.var 7, (.q .mv), [.t 24], none⟩])
    .ret)
    .skip))
    (.seq (.reg [⟨.new, (.q (.ld (.st [.leaf, .leaf]))), [.t 13], none⟩,
      ⟨.new, (.q (.ld (.st [.leaf, .leaf]))), [.t 15], none⟩,
      ⟨.new, (.call 55), [.t 24, .t 25], none⟩,
      ⟨.new, (.q .mv), [.t 26], none⟩,
      ⟨.new, (.q (.ext 0)), [.t 27], none⟩,
      ⟨.new, (.q (.ext 1)), [.t 27], none⟩,
      ⟨.none, (.e (.store (.st [.leaf, .leaf]))), [.t 15, .t 28], none⟩])
    (.seq (.reg [⟨.new, (.q (.ld (.st [.leaf, .leaf]))), [.t 15], none⟩,
      ⟨.new, (.q (.ld (.st [.leaf, .leaf]))), [.t 4], none⟩,
      ⟨.new, (.call 55), [.t 24, .t 25], none⟩,
      ⟨.new, (.q .mv), [.t 26], none⟩,
      ⟨.new, (.q (.ext 0)), [.t 27], none⟩,
      ⟨.new, (.q (.ext 1)), [.t 27], none⟩,
      ⟨.none, (.e (.store (.st [.leaf, .leaf]))), [.t 15, .t 28], none⟩])
    (.draw [⟨.none, (.pairs [(3, 5)]), [], none⟩,
      ⟨.new, (.q .mv), [.t 10], none⟩,
      ⟨.new, (.q (.ld (.st [.leaf, .leaf]))), [.t 15], none⟩,
      ⟨.new, (.e (.bsl 37 (.st [.leaf, .leaf]) (.agg [(.int 0), .nils]) 1 [0])), [.t 25], none⟩,
      ⟨.new, (.e (.app 37 (.st [.leaf, .leaf]) 32)), [.t 24, .t 26], none⟩,
      ⟨.new, (.q .mv), [.t 11], none⟩,
      ⟨.new, (.q (.ld (.st [.leaf, .leaf]))), [.t 13], none⟩,
      ⟨.new, (.e (.bsl 37 (.st [.leaf, .leaf]) (.agg [(.int 0), .nils]) 1 [0])), [.t 29], none⟩,
      ⟨.new, (.e (.app 37 (.st [.leaf, .leaf]) 32)), [.t 28, .t 30], none⟩,
      ⟨.var 10, (.q .mv), [.t 27], none⟩,
      ⟨.var 11, (.q .mv), [.t 31], none⟩])))))))))
    (.reg [⟨.new, (.q (.bin .add)), [.t 20, .c (.int 1)], none⟩,
      ⟨.var 20, (.q .mv), [.t 24], none⟩])))))))
    (.seq (.reg [⟨.new, (.q .mv), [.t 11], none⟩,
      ⟨.new, (.call 56), [.t 24], none⟩,
      ⟨.new, (.q .mv), [.t 25], none⟩,
      ⟨.new, (.q (.ext 0)), [.t 26], none⟩,
      ⟨.new, (.q (.ext 1)), [.t 26], none⟩,
      ⟨.var 16, (.q .mv), [.t 27], none⟩,
      ⟨.var 17, (.q .mv), [.t 28], none⟩])
    (.seq (.reg [⟨.new, (.q .mv), [.t 10], none⟩,
      ⟨.new, (.q .mv), [.t 16], none⟩,
      ⟨.new, (.q .mv), [.t 17], none⟩,
      ⟨.var 5, (.q .mv), [.t 24], none⟩,
      ⟨.var 6, (.q .mv), [.t 25], none⟩,
      ⟨.var 7, (.q .mv), [.t 26], none⟩])
    .ret)))))))),
    [.t 5, .t 6, .t 7]⟩

set_option maxRecDepth 100000
set_option linter.unusedSimpArgs false
set_option linter.unusedVariables false
theorem c27 : cF P [] (drP P []) 27 3 s27.vm = some s27 := by kernel_rfl
theorem spn_0 {a : BitVec 64} {n : Int} (h : spn a n = 0) : 1 ≤ n ∧ n ≤ 4096 ∧ (a.toNat : Int) + n ≤ 67108864 := by
  unfold spn at h
  by_cases h1 : n < 1 ∨ 4096 < n
  · rw [if_pos h1] at h; omega
  · rw [if_neg h1] at h
    by_cases h2 : 67108864 - n < (a.toNat : Int)
    · rw [if_pos h2] at h; omega
    · omega
theorem cw_hi {g : Nat → Nat → Bool} {h j : Nat} : wd (fun b => g (64 * h + b) j) 0 = cw g h j := wd_of fun b hb => by rw [wd_bit hb]; simp
theorem rwA_cw {g : Nat → Nat → Bool} {n : Nat} : rwA (fun j => wd (fun b => g (64 * 0 + b) j) 0) (fun j => wd (fun b => g (64 * 1 + b) j) 0) n = rwA (cw g 0) (cw g 1) n := by
  unfold rwA
  refine rng_congr fun j hj => ?_
  show rowV (wd (fun b => g (64 * 0 + b) j) 0) (wd (fun b => g (64 * 1 + b) j) 0) = _
  rw [cw_hi, cw_hi]
/-- who chooses: the columns that are sent -/
def clF (fz : Nat → List (BitVec 8)) (a n : Nat) (i : Nat) : Nat → Bool := cl (fz i) a n
def uF (fz fo : Nat → List (BitVec 8)) (a n : Nat) (c : Nat → Bool) (i j : Nat) : Bool := (clF fz a n i j != clF fo a n i j) != c j
def rcb (fz fo : Nat → List (BitVec 8)) (p q : Nat) : Option Blk := some ⟨60, 0, false, .arr 1 (.st [.leaf, .leaf]), .agg [.agg [.ro (.arr 32 .leaf) (sdL fz p), .ro (.arr 32 .leaf) (sdL fo q)]]⟩
theorem f27e {K : AV → Heap → Prop} {H : Heap} {fz fo : Nat → List (BitVec 8)} {a : BitVec 64} {n p q : Nat} {c : Nat → Bool} (he : spn a n ≠ 0) (h : K (.tup [.nils, .nils, .int (spn a n)]) H) : wpF P [] 27 [.agg [.ro (.arr 32 .leaf) (sdL fz p), .ro (.arr 32 .leaf) (sdL fo q)], .u64 a, vec n c] H K := by
  refine wpF_go c27 rfl 3 ?_
  intro ha hb
  simp only [s27]
  clear ha hb
  have hv : vec n c = .agg [.int (n : Int), .ro .leaf (wdA n c)] := rfl
  rw [hv]
  (refine gw0 ?_; try exact True.intro)
  rw [← hv]
  refine f46 ?_
  rw [hv]
  (refine gw0 ?_; try exact True.intro)
  refine f52 ?_
  have e1 : (spn a n = 0) = False := eq_false he
  generalize spn a n = e at *
  (refine gw1 @e1 ?_; try exact True.intro)
  exact h
theorem f27s {K : AV → Heap → Prop} {H : Heap} {fz fo : Nat → List (BitVec 8)} {a : BitVec 64} {n p q : Nat} {c : Nat → Bool} (he : spn a n = 0) (hpq : p ≠ 128 ∨ q ≠ 128) (h : K (.tup [.nils, .nils, .int 11]) H) : wpF P [] 27 [.agg [.ro (.arr 32 .leaf) (sdL fz p), .ro (.arr 32 .leaf) (sdL fo q)], .u64 a, vec n c] H K := by
  refine wpF_go c27 rfl 3 ?_
  intro ha hb
  simp only [s27]
  clear ha hb
  have hv : vec n c = .agg [.int (n : Int), .ro .leaf (wdA n c)] := rfl
  have l1 := sdL_len (f := fz) (n := p)
  have l2 := sdL_len (f := fo) (n := q)
  rw [hv]
  (refine gw0 ?_; try exact True.intro)
  rw [← hv]
  refine f46 ?_
  rw [hv]
  (refine gw0 ?_; try exact True.intro)
  refine f52 ?_
  rw [he]
  by_cases h1 : p = 128
  · have e1 : ((p : Int) = 128) = True := by simp only [eq_iff_iff, iff_true]; omega
    have e2 : ((q : Int) = 128) = False := by simp only [eq_iff_iff, iff_false]; omega
    (refine gw4 @e1 @e2 @l1 @l2 ?_; try exact True.intro)
    exact h
  · have e1 : ((p : Int) = 128) = False := by simp only [eq_iff_iff, iff_false]; omega
    (refine gw2 @e1 @l1 ?_; try exact True.intro)
    exact h
def I27 (fz fo : Nat → List (BitVec 8)) (a : BitVec 64) (n : Nat) (c : Nat → Bool) (H : Heap) (k : Nat) (st : St) : Prop :=
  ∃ (i : Nat) (sa oa u12 u13 u14 u15 u21 u22 u23 : AV) (L : Heap), st = ⟨[.agg [.ro (.arr 32 .leaf) (sdL fz 128), .ro (.arr 32 .leaf) (sdL fo 128)], .u64 a, vec n c, .ptr H.length 0 [0] (.st [.leaf, .leaf]), .ptr (H.length + 1) 0 [0] (.st [.leaf, .leaf]), .nils, .nils, .int 0, .int (n : Int), .int 0, sa, oa, u12, u13, u14, u15, .un, .un, .bool false, .bool false, .int (i : Int), u21, u22, u23],
    H ++ rcb fz fo 128 128 :: vbx n c :: L⟩ ∧ k = 128 - i ∧ i ≤ 128 ∧
    ((i = 0 ∧ sa = .nils ∧ oa = .nils ∧ L = []) ∨ (0 < i ∧ sa = .own (H.length + 5) i [] 0 i vS ∧ oa = .own (H.length + 7) i [] 0 i vS ∧
      ∃ g1 g2 g3 g4 J ls lo, L = g1 :: g2 :: g3 :: vB i ls :: g4 :: vB i lo :: J ∧ ls = veL (fun _ => n) (uF fz fo a.toNat n c) i ∧ lo = veL (fun _ => n) (clF fz a.toNat n) i))
set_option maxHeartbeats 4000000 in
theorem f27 {K : AV → Heap → Prop} {H : Heap} {fz fo : Nat → List (BitVec 8)} {a : BitVec 64} {n : Nat} {c : Nat → Bool} (hz : ∀ i, (fz i).length = 32) (ho : ∀ i, (fo i).length = 32) (he : spn a n = 0)
    (h : K (.tup [.ro vS (veL (fun _ => n) (uF fz fo a.toNat n c) 128), .ro (.arr 2 .leaf) (rwA (cw (clF fz a.toNat n) 0) (cw (clF fz a.toNat n) 1) n), .int 0]) H) : wpF P [] 27 [.agg [.ro (.arr 32 .leaf) (sdL fz 128), .ro (.arr 32 .leaf) (sdL fo 128)], .u64 a, vec n c] H K := by
  refine wpF_go c27 rfl 6 ?_
  intro ha hb
  simp only [s27]
  clear ha hb
  have hv : ∀ f, vec n f = .agg [.int (n : Int), .ro .leaf (wdA n f)] := fun _ => rfl
  have l1 := sdL_len (f := fz) (n := 128)
  have l2 := sdL_len (f := fo) (n := 128)
  have g1 : ∀ i, i < 128 → (sdL fz 128).getD i .un = .agg ((fz i).map .u8) := fun i hi => ld_rng hi
  have g2 : ∀ i, i < 128 → (sdL fo 128).getD i .un = .agg ((fo i).map .u8) := fun i hi => ld_rng hi
  obtain ⟨n1, n2, n3⟩ := spn_0 he
  rw [hv]
  (refine gw0 ?_; try exact True.intro)
  rw [← hv]
  refine f46 ?_
  rw [hv]
  (refine gw0 ?_; try exact True.intro)
  refine f52 ?_
  rw [he]
  have e128 : ((128 : Nat) : Int) = 128 := rfl
  (refine gw3 @l1 @l2 @e128 ?_; try exact True.intro)
  refine wp_inv (I27 fz fo a n c H) 128 ⟨0, _, _, _, _, _, _, _, _, _, [], rfl, rfl, by omega, .inl ⟨rfl, rfl, rfl, rfl⟩⟩ ?_
  rintro k st ⟨i, sa, oa, u12, u13, u14, u15, u21, u22, u23, L, rfl, rfl, hi, hc⟩
  unfold rcb vbx
  by_cases hil : i < 128
  · have h2 : ((i : Int) < 128) = True := by simp only [eq_iff_iff, iff_true]; omega
    have k1 := g1 i hil
    have k2 := g2 i hil
    have q1 := hz i
    have q2 := ho i
    simp only [hv]
    rcases hc with ⟨hi0, rfl, rfl, rfl⟩ | ⟨hi0, rfl, rfl, g1', g2', g3', g4', J, ls, lo, rfl, hls, hlo⟩
    · (refine gw8 @h2 @l1 @l2 @e128 @k1 @k2 @q1 @q2 ?_; try exact True.intro)
      refine f53 q1 (by omega) (by omega) ?_
      rw [hv]
      (refine gw8 @h2 @l1 @l2 @e128 @k1 @k2 @q1 @q2 ?_; try exact True.intro)
      refine f53 q2 (by omega) (by omega) ?_
      rw [hv]
      (refine gw8 @h2 @l1 @l2 @e128 @k1 @k2 @q1 @q2 ?_; try exact True.intro)
      refine f55 (n := n) (m := n) (f := cl (fz i) a.toNat n) (g := cl (fo i) a.toNat n) (by omega) ?_
      rw [if_pos rfl, hv]
      (refine gw0 ?_; try exact True.intro)
      refine f55 (n := n) (m := n) (f := fun j => cl (fz i) a.toNat n j != cl (fo i) a.toNat n j) (g := c) (by omega) ?_
      rw [if_pos rfl, hv]
      (refine gw0 ?_; try exact True.intro)
      (repeat (refine And.intro (by omega) ?_))
      subst hi0
      exact ⟨127, by omega, 1, _, _, _, _, _, _, _, _, _, _, rfl, rfl, by omega, .inr ⟨by omega, rfl, rfl, _, _, _, _, [], _, _, rfl, rfl, rfl⟩⟩
    · unfold vB vS
      (refine gw8 @h2 @l1 @l2 @e128 @k1 @k2 @q1 @q2 ?_; try exact True.intro)
      refine f53 q1 (by omega) (by omega) ?_
      rw [hv]
      (refine gw8 @h2 @l1 @l2 @e128 @k1 @k2 @q1 @q2 ?_; try exact True.intro)
      refine f53 q2 (by omega) (by omega) ?_
      rw [hv]
      (refine gw8 @h2 @l1 @l2 @e128 @k1 @k2 @q1 @q2 ?_; try exact True.intro)
      refine f55 (n := n) (m := n) (f := cl (fz i) a.toNat n) (g := cl (fo i) a.toNat n) (by omega) ?_
      rw [if_pos rfl, hv]
      (refine gw0 ?_; try exact True.intro)
      refine f55 (n := n) (m := n) (f := fun j => cl (fz i) a.toNat n j != cl (fo i) a.toNat n j) (g := c) (by omega) ?_
      rw [if_pos rfl, hv]
      (refine gw0 ?_; try exact True.intro)
      (repeat (refine And.intro (by omega) ?_))
      exact ⟨128 - (i + 1), by omega, i + 1, _, _, _, _, _, _, _, _, _, _, rfl, rfl, by omega, .inr ⟨by omega, rfl, rfl, _, _, _, _, _, _, _, rfl, by rw [hls]; exact veL_succ, by rw [hlo]; exact veL_succ⟩⟩
  · have h2 : ((i : Int) < 128) = False := by simp only [eq_iff_iff, iff_false]; omega
    have hie : i = 128 := by omega
    subst hie
    rcases hc with ⟨hi0, rfl, rfl, rfl⟩ | ⟨hi0, rfl, rfl, g1', g2', g3', g4', J, ls, lo, rfl, hls, hlo⟩
    · omega
    have lt : List.take 128 lo = lo := List.take_of_length_le (by rw [hlo, veL_len]; exact Nat.le_refl _)
    have lt2 : List.take 128 ls = ls := List.take_of_length_le (by rw [hls, veL_len]; exact Nat.le_refl _)
    have mo : ∀ {kp : Nat → Bool} {N : Nat} {h : Heap} {d : Nat}, mapO (demK kp N h (d + 3)) lo = some lo := by rw [hlo]; exact mapO_veL
    have ms : ∀ {kp : Nat → Bool} {N : Nat} {h : Heap} {d : Nat}, mapO (demK kp N h (d + 3)) ls = some ls := by rw [hls]; exact mapO_veL
    simp only [hv]
    unfold vB vS
    (refine gw1 @h2 ?_; try exact True.intro)
    refine wpF_give1 (H.length + 7) 5 ?_
    (refine gw2 @lt @mo ?_; try exact True.intro)
    rw [hlo]
    refine f56 (m := fun _ => n) (f := clF fz a.toNat n) (fun _ => by omega) (fun ⟨i, _, hn⟩ => absurd rfl hn) (fun _ => ?_)
    rw [rwA_cw]
    have hbr : ∀ {k : Nat}, AV.bnds k (rwA (cw (clF fz a.toNat n) 0) (cw (clF fz a.toNat n) 1) n) = true := by
      intro k
      refine bnds_iff.2 fun x hx => ?_
      obtain ⟨j, _, rfl⟩ := List.mem_map.1 hx
      rfl
    generalize rwA (cw (clF fz a.toNat n) 0) (cw (clF fz a.toNat n) 1) n = R at *
    (refine gw3 @lt2 @ms @hbr ?_; try exact True.intro)
    rw [hls]
    exact h
end Go.Proofs.Ytjilenmngokhpaa

end
