/-
  Layer 2 (bits), as the seat of layer 21 has it: what each function hands back.
-/
import Derived.Test.YtajkclooknanjaaKr
import Derived.Test.YtajkclooknanjaaBm
import Derived.Test.YtajkclooknanjaaV38
open Go Go.V
namespace Go.Proofs.Ytajkclooknanjaa
set_option maxRecDepth 100000
set_option linter.unusedSimpArgs false
set_option linter.unusedVariables false
/-- trefoil/trefoilref02.Same (0:a, 1:b, 4:, 5:i, 10:, 14:, 25:) -/
def s9 : FnS := ⟨26, [0, 1, 4, 5, 10, 14, 25],
    (.seq (.reg [⟨.var 2, (.q .mv), [.c (.bool false)], none⟩])
    (.seq (.seq (.reg [⟨.new, (.q .mv), [.t 0], none⟩,
      ⟨.new, (.q .len), [.t 7], none⟩,
      ⟨.new, (.q .mv), [.t 1], none⟩,
      ⟨.new, (.q .len), [.t 9], none⟩,
      ⟨.var 4, (.q (.bin .neq)), [.t 8, .t 10], none⟩])
    (.cond (.t 4) (.seq (.reg [⟨.var 2, (.q .mv), [.c (.bool false)], none⟩])
    .ret)
    .skip))
    (.seq (.seq (.reg [⟨.var 3, (.q .mv), [.c (.int 0)], none⟩])
    (.block 0 (.loop (.seq (.seq (.reg [⟨.new, (.q .mv), [.t 3], none⟩,
      ⟨.new, (.q .mv), [.t 0], none⟩,
      ⟨.new, (.q .len), [.t 8], none⟩,
      ⟨.var 5, (.q (.bin .lss)), [.t 7, .t 9], none⟩])
    (.cond (.t 5) .skip
    (.exit 0)))
    (.seq (.block 1 (.seq (.draw [⟨.new, (.q .mv), [.t 0], none⟩,
      ⟨.new, (.q .mv), [.t 3], none⟩,
      ⟨.new, (.q (.iaS .leaf)), [.t 7, .t 8], none⟩,
      ⟨.new, (.q (.ld .leaf)), [.t 9], none⟩,
      ⟨.new, (.q .mv), [.t 1], none⟩,
      ⟨.new, (.q .mv), [.t 3], none⟩,
      ⟨.new, (.q (.iaS .leaf)), [.t 11, .t 12], none⟩,
      ⟨.new, (.q (.ld .leaf)), [.t 13], none⟩,
      ⟨.var 6, (.q (.eqB true)), [.t 10, .t 14], none⟩])
    (.cond (.t 6) (.seq (.reg [⟨.var 2, (.q .mv), [.c (.bool false)], none⟩])
    .ret)
    .skip)))
    (.reg [⟨.new, (.q .mv), [.t 3], none⟩,
      ⟨.new, (.q (.bin .add)), [.t 7, .c (.int 1)], none⟩,
      ⟨.var 3, (.q .mv), [.t 8], none⟩]))))))
    (.seq (.reg [⟨.var 2, (.q .mv), [.c (.bool true)], none⟩])
    .ret)))),
    [.t 2]⟩

/-- (trefoil/bits.Vec).Bools (0:v, 1:v, 2:, 3:l, 4:i, 9:, 10:, 11:) -/
def s10 : FnS := ⟨21, [0, 1, 2, 3, 4, 9, 10, 11],
    (.seq (.reg [⟨.var 1, (.e (.box 25 (.st [.leaf, .leaf]))), [.t 0], none⟩,
      ⟨.var 2, (.q .mv), [.c .nils], none⟩])
    (.seq (.reg [⟨.new, (.q (.fa [.leaf, .leaf] 0)), [.t 1], none⟩,
      ⟨.new, (.q (.ld .leaf)), [.t 8], none⟩,
      ⟨.new, (.e (.mksl 4 .leaf 1 (.bool false))), [.t 9, .t 9], none⟩,
      ⟨.var 3, (.q .mv), [.t 10], none⟩])
    (.seq (.seq (.reg [⟨.new, (.q .mv), [.t 3], none⟩,
      ⟨.var 5, (.q .len), [.t 8], none⟩,
      ⟨.var 6, (.q .mv), [.c (.int 0)], none⟩])
    (.block 0 (.loop (.seq (.reg [⟨.var 7, (.q (.bin .lss)), [.t 6, .t 5], none⟩])
    (.seq (.cond (.t 7) .skip
    (.exit 0))
    (.seq (.block 1 (.seq (.reg [⟨.new, (.q .mv), [.t 6], none⟩,
      ⟨.var 4, (.q .mv), [.t 8], none⟩])
    (.reg [⟨.new, (.q .mv), [.t 3], none⟩,
      ⟨.new, (.q .mv), [.t 4], none⟩,
      ⟨.new, (.q (.ld (.st [.leaf, .leaf]))), [.t 1], none⟩,
      ⟨.new, (.q .mv), [.t 4], none⟩,
      ⟨.new, (.call 21), [.t 10, .t 11], none⟩,
      ⟨.new, (.q (.iaS .leaf)), [.t 8, .t 9], none⟩,
      ⟨.none, (.e (.store .leaf)), [.t 13, .t 12], none⟩])))
    (.reg [⟨.new, (.q (.bin .add)), [.t 6, .c (.int 1)], none⟩,
      ⟨.var 6, (.q .mv), [.t 8], none⟩])))))))
    (.seq (.reg [⟨.new, (.q .mv), [.t 3], none⟩,
      ⟨.var 2, (.q .mv), [.t 8], none⟩])
    .ret)))),
    [.t 2]⟩

/-- trefoil/trefoilref02.Nums (0:a, 1:b, 4:, 5:i, 10:, 14:, 25:) -/
def s17 : FnS := ⟨26, [0, 1, 4, 5, 10, 14, 25],
    (.seq (.reg [⟨.var 2, (.q .mv), [.c (.bool false)], none⟩])
    (.seq (.seq (.reg [⟨.new, (.q .mv), [.t 0], none⟩,
      ⟨.new, (.q .len), [.t 7], none⟩,
      ⟨.new, (.q .mv), [.t 1], none⟩,
      ⟨.new, (.q .len), [.t 9], none⟩,
      ⟨.var 4, (.q (.bin .neq)), [.t 8, .t 10], none⟩])
    (.cond (.t 4) (.seq (.reg [⟨.var 2, (.q .mv), [.c (.bool false)], none⟩])
    .ret)
    .skip))
    (.seq (.seq (.reg [⟨.var 3, (.q .mv), [.c (.int 0)], none⟩])
    (.block 0 (.loop (.seq (.seq (.reg [⟨.new, (.q .mv), [.t 3], none⟩,
      ⟨.new, (.q .mv), [.t 0], none⟩,
      ⟨.new, (.q .len), [.t 8], none⟩,
      ⟨.var 5, (.q (.bin .lss)), [.t 7, .t 9], none⟩])
    (.cond (.t 5) .skip
    (.exit 0)))
    (.seq (.block 1 (.seq (.draw [⟨.new, (.q .mv), [.t 0], none⟩,
      ⟨.new, (.q .mv), [.t 3], none⟩,
      ⟨.new, (.q (.iaS .leaf)), [.t 7, .t 8], none⟩,
      ⟨.new, (.q (.ld .leaf)), [.t 9], none⟩,
      ⟨.new, (.q .mv), [.t 1], none⟩,
      ⟨.new, (.q .mv), [.t 3], none⟩,
      ⟨.new, (.q (.iaS .leaf)), [.t 11, .t 12], none⟩,
      ⟨.new, (.q (.ld .leaf)), [.t 13], none⟩,
      ⟨.var 6, (.q (.bin .neq)), [.t 10, .t 14], none⟩])
    (.cond (.t 6) (.seq (.reg [⟨.var 2, (.q .mv), [.c (.bool false)], none⟩])
    .ret)
    .skip)))
    (.reg [⟨.new, (.q .mv), [.t 3], none⟩,
      ⟨.new, (.q (.bin .add)), [.t 7, .c (.int 1)], none⟩,
      ⟨.var 3, (.q .mv), [.t 8], none⟩]))))))
    (.seq (.reg [⟨.var 2, (.q .mv), [.c (.bool true)], none⟩])
    .ret)))),
    [.t 2]⟩

/-- (trefoil/bits.Vec).Len (0:v, 1:v, 2:) -/
def s20 : FnS := ⟨5, [0, 1, 2],
    (.seq (.reg [⟨.var 1, (.e (.box 25 (.st [.leaf, .leaf]))), [.t 0], none⟩,
      ⟨.var 2, (.q .mv), [.c (.int 0)], none⟩])
    (.seq (.reg [⟨.new, (.q (.fa [.leaf, .leaf] 0)), [.t 1], none⟩,
      ⟨.new, (.q (.ld .leaf)), [.t 3], none⟩,
      ⟨.var 2, (.q .mv), [.t 4], none⟩])
    .ret)),
    [.t 2]⟩

/-- (trefoil/bits.Vec).Get (0:v, 1:i, 2:v, 4:, 12:) -/
def s21 : FnS := ⟨25, [0, 1, 2, 4, 12],
    (.seq (.reg [⟨.var 2, (.e (.box 25 (.st [.leaf, .leaf]))), [.t 0], none⟩,
      ⟨.var 3, (.q .mv), [.c (.bool false)], none⟩])
    (.seq (.seq (.reg [⟨.new, (.q .mv), [.t 1], none⟩,
      ⟨.new, (.q (.bin .lss)), [.t 5, .c (.int 0)], none⟩,
      ⟨.new, (.q .mv), [.t 6], none⟩,
      ⟨.new, (.q .mv), [.t 1], (some (7, false))⟩,
      ⟨.new, (.q (.fa [.leaf, .leaf] 0)), [.t 2], (some (7, false))⟩,
      ⟨.new, (.q (.ld .leaf)), [.t 9], (some (7, false))⟩,
      ⟨.new, (.q (.bin .geq)), [.t 8, .t 10], (some (7, false))⟩,
      ⟨.var 4, (.q .pick), [.t 7, .c (.bool true), .t 11], none⟩])
    (.cond (.t 4) (.seq (.reg [⟨.var 3, (.q .mv), [.c (.bool false)], none⟩])
    .ret)
    .skip))
    (.seq (.reg [⟨.new, (.q (.fa [.leaf, .leaf] 1)), [.t 2], none⟩,
      ⟨.new, (.q (.ld .leaf)), [.t 5], none⟩,
      ⟨.new, (.q .mv), [.t 1], none⟩,
      ⟨.new, (.q (.bin .quo)), [.t 7, .c (.int 64)], none⟩,
      ⟨.new, (.q (.iaS .leaf)), [.t 6, .t 8], none⟩,
      ⟨.new, (.q (.ld .leaf)), [.t 9], none⟩,
      ⟨.new, (.q .mv), [.t 1], none⟩,
      ⟨.new, (.q (.bin .rem)), [.t 11, .c (.int 64)], none⟩,
      ⟨.new, (.q (.cv .u64)), [.t 12], none⟩,
      ⟨.new, (.q (.bin .shr)), [.t 10, .t 13], none⟩,
      ⟨.new, (.q (.bin .and)), [.t 14, .c (.u64 1)], none⟩,
      ⟨.new, (.q (.bin .eql)), [.t 15, .c (.u64 1)], none⟩,
      ⟨.var 3, (.q .mv), [.t 16], none⟩])
    .ret))),
    [.t 3]⟩

/-- trefoil/bits.Of (0:l, 2:, 3:, 4:v, 5:e, 6:i, 7:b, 15:, 18:, 19:, 20:, 21:, 25:) -/
def s28 : FnS := ⟨40, [0, 2, 3, 4, 5, 6, 7, 15, 18, 19, 20, 21, 25],
    (.seq (.reg [⟨.var 1, (.e (.alloc 25 (.st [.leaf, .leaf]) (.agg [(.int 0), .nils]))), [], none⟩,
      ⟨.var 2, (.q .mv), [.c (.int 0)], none⟩])
    (.seq (.reg [⟨.new, (.q .mv), [.t 0], none⟩,
      ⟨.new, (.q .len), [.t 13], none⟩,
      ⟨.new, (.call 36), [.t 14], none⟩,
      ⟨.new, (.q .mv), [.t 15], none⟩,
      ⟨.new, (.q (.ext 0)), [.t 16], none⟩,
      ⟨.new, (.q (.ext 1)), [.t 16], none⟩,
      ⟨.var 3, (.e (.alloc 25 (.st [.leaf, .leaf]) (.agg [(.int 0), .nils]))), [], none⟩,
      ⟨.none, (.e (.store (.st [.leaf, .leaf]))), [.t 3, .t 17], none⟩,
      ⟨.var 4, (.q .mv), [.t 18], none⟩])
    (.seq (.seq (.reg [⟨.new, (.q .mv), [.t 4], none⟩,
      ⟨.var 7, (.q (.bin .neq)), [.t 13, .c (.int 0)], none⟩])
    (.cond (.t 7) (.seq (.reg [⟨.new, (.e (.bld (.st [.leaf, .leaf]) (.agg [(.int 0), .nils]) [])), [], none⟩,
      ⟨.new, (.q .mv), [.t 4], none⟩,
      ⟨.none, (.e (.store (.st [.leaf, .leaf]))), [.t 1, .t 13], none⟩,
      ⟨.var 2, (.q .mv), [.t 14], none⟩])
    .ret)
    .skip))
    (.seq (.seq (.reg [⟨.var 8, (.q .mv), [.t 0], none⟩,
      ⟨.var 9, (.q .len), [.t 8], none⟩,
      ⟨.var 10, (.q .mv), [.c (.int 0)], none⟩])
    (.block 0 (.loop (.seq (.reg [⟨.var 11, (.q (.bin .lss)), [.t 10, .t 9], none⟩])
    (.seq (.cond (.t 11) .skip
    (.exit 0))
    (.seq (.block 1 (.seq (.reg [⟨.new, (.q .mv), [.t 10], none⟩,
      ⟨.new, (.q (.iaS .leaf)), [.t 8, .t 10], none⟩,
      ⟨.new, (.q (.ld .leaf)), [.t 14], none⟩,
      ⟨.var 5, (.q .mv), [.t 13], none⟩,
      ⟨.var 6, (.q .mv), [.t 15], none⟩])
    (.seq (.reg [⟨.var 12, (.q .mv), [.t 6], none⟩])
    (.cond (.t 12) (.reg [⟨.new, (.q (.fa [.leaf, .leaf] 1)), [.t 3], none⟩,
      ⟨.new, (.q (.ld .leaf)), [.t 13], none⟩,
      ⟨.new, (.q .mv), [.t 5], none⟩,
      ⟨.new, (.q (.bin .quo)), [.t 15, .c (.int 64)], none⟩,
      ⟨.new, (.q (.iaS .leaf)), [.t 14, .t 16], none⟩,
      ⟨.new, (.q (.ld .leaf)), [.t 17], none⟩,
      ⟨.new, (.q .mv), [.t 5], none⟩,
      ⟨.new, (.q (.bin .rem)), [.t 19, .c (.int 64)], none⟩,
      ⟨.new, (.q (.cv .u64)), [.t 20], none⟩,
      ⟨.new, (.q (.bin .shl)), [.c (.u64 1), .t 21], none⟩,
      ⟨.new, (.q (.bin .or)), [.t 18, .t 22], none⟩,
      ⟨.new, (.q (.iaS .leaf)), [.t 14, .t 16], none⟩,
      ⟨.none, (.e (.store .leaf)), [.t 24, .t 23], none⟩])
    .skip))))
    (.reg [⟨.new, (.q (.bin .add)), [.t 10, .c (.int 1)], none⟩,
      ⟨.var 10, (.q .mv), [.t 13], none⟩])))))))
    (.seq (.reg [⟨.new, (.q (.ld (.st [.leaf, .leaf]))), [.t 3], none⟩,
      ⟨.none, (.e (.store (.st [.leaf, .leaf]))), [.t 1, .t 13], none⟩,
      ⟨.var 2, (.q .mv), [.c (.int 0)], none⟩])
    .ret))))),
    [.cell 1 (.st [.leaf, .leaf]), .t 2]⟩

/-- trefoil/bits.New (0:n, 2:, 3:, 9:) -/
def s36 : FnS := ⟨16, [0, 2, 3, 9],
    (.seq (.reg [⟨.var 1, (.e (.alloc 25 (.st [.leaf, .leaf]) (.agg [(.int 0), .nils]))), [], none⟩,
      ⟨.var 2, (.q .mv), [.c (.int 0)], none⟩])
    (.seq (.seq (.reg [⟨.new, (.q .mv), [.t 0], none⟩,
      ⟨.new, (.q (.bin .lss)), [.t 4, .c (.int 0)], none⟩,
      ⟨.new, (.q .mv), [.t 5], none⟩,
      ⟨.new, (.q .mv), [.t 0], (some (6, false))⟩,
      ⟨.new, (.q (.bin .gtr)), [.t 7, .c (.int 4194304)], (some (6, false))⟩,
      ⟨.var 3, (.q .pick), [.t 6, .c (.bool true), .t 8], none⟩])
    (.cond (.t 3) (.seq (.reg [⟨.new, (.e (.bld (.st [.leaf, .leaf]) (.agg [(.int 0), .nils]) [])), [], none⟩,
      ⟨.none, (.e (.store (.st [.leaf, .leaf]))), [.t 1, .t 4], none⟩,
      ⟨.var 2, (.q .mv), [.c (.int 2)], none⟩])
    .ret)
    .skip))
    (.seq (.reg [⟨.new, (.q .mv), [.t 0], none⟩,
      ⟨.new, (.q .mv), [.t 0], none⟩,
      ⟨.new, (.call 43), [.t 5], none⟩,
      ⟨.new, (.e (.mksl 44 .leaf 8 (.u64 0))), [.t 6, .t 6], none⟩,
      ⟨.new, (.e (.bld (.st [.leaf, .leaf]) (.agg [(.int 0), .nils]) [0, 1])), [.t 4, .t 7], none⟩,
      ⟨.none, (.e (.store (.st [.leaf, .leaf]))), [.t 1, .t 8], none⟩,
      ⟨.var 2, (.q .mv), [.c (.int 0)], none⟩])
    .ret))),
    [.cell 1 (.st [.leaf, .leaf]), .t 2]⟩

/-- trefoil/bits.words (0:n, 2:) -/
def s43 : FnS := ⟨6, [0, 2],
    (.seq (.reg [⟨.var 1, (.q .mv), [.c (.int 0)], none⟩])
    (.seq (.reg [⟨.new, (.q .mv), [.t 0], none⟩,
      ⟨.new, (.q (.bin .add)), [.t 2, .c (.int 63)], none⟩,
      ⟨.new, (.q (.bin .quo)), [.t 3, .c (.int 64)], none⟩,
      ⟨.var 1, (.q .mv), [.t 4], none⟩])
    .ret)),
    [.t 1]⟩

theorem c9 : cF P [] (drP P []) 9 2 s9.vm = some s9 := by kernel_rfl
theorem c10 : cF P [] (drP P []) 10 1 s10.vm = some s10 := by kernel_rfl
theorem c17 : cF P [] (drP P []) 17 2 s17.vm = some s17 := by kernel_rfl
theorem c20 : cF P [] (drP P []) 20 1 s20.vm = some s20 := by kernel_rfl
theorem c21 : cF P [] (drP P []) 21 2 s21.vm = some s21 := by kernel_rfl
theorem c28 : cF P [] (drP P []) 28 1 s28.vm = some s28 := by kernel_rfl
theorem c36 : cF P [] (drP P []) 36 1 s36.vm = some s36 := by kernel_rfl
theorem c43 : cF P [] (drP P []) 43 1 s43.vm = some s43 := by kernel_rfl
theorem f43 {K : AV → Heap → Prop} {H : Heap} {n : Nat} (hn : n ≤ 1099511627776) (h : K (.int ((nw n : Nat) : Int)) H) : wpF P [] 43 [.int (n : Int)] H K := by
  refine wpF_go c43 rfl 3 ?_
  intro ha hb
  simp only [s43]
  have e : Int.tdiv ((n : Int) + 63) 64 = ((nw n : Nat) : Int) := by unfold nw; exact tdiv_nat (n + 63) 64 (by omega)
  have hw : nw n ≤ 1099511627776 := by unfold nw; omega
  (refine gw1 @e ?_; try exact True.intro)
  exact ⟨by omega, by omega, by omega, by omega, h⟩

/-- a row of words that a call made -/
def wblk (n : Nat) (f : Nat → Bool) : Option Blk := some ⟨44, 0, true, .arr (nw n) .leaf, .agg (wdA n f)⟩
theorem f36 {K : AV → Heap → Prop} {H : Heap} {n : Nat} (hn : n ≤ 4194304) (h : ∀ B, K (.tup [.agg [.int (n : Int), .own (H.length + 1) 0 [] 0 (nw n) .leaf], .int 0]) (H ++ [B, wblk n fun _ => false])) : wpF P [] 36 [.int (n : Int)] H K := by
  refine wpF_goK c36 rfl ?_
  intro ha hb
  simp only [s36]
  have h0 : ((n : Int) < 0) = False := by simp
  have h1 : ((4194304 : Int) < (n : Int)) = False := by simp; omega
  (refine gw2 @h0 @h1 ?_; try exact True.intro)
  refine f43 (by omega) ?_
  have hw : nw n ≤ 4194304 := by unfold nw; omega
  (refine gw3 @Kall_n @Kall_r @Ka2_s ?_; try exact True.intro)
  refine ⟨by omega, by omega, by omega, ?_⟩
  rw [zero_wdA]
  exact h _
theorem f36e {K : AV → Heap → Prop} {H : Heap} {n : Int} (hn : n < 0 ∨ 4194304 < n) (h : K (.tup [.agg [.int 0, .nils], .int 2]) H) : wpF P [] 36 [.int n] H K := by
  refine wpF_go c36 rfl 3 ?_
  intro ha hb
  simp only [s36]
  by_cases h0 : n < 0
  · (refine gw1 @h0 ?_; try exact True.intro)
    exact h
  · have h1 : (4194304 : Int) < n := by omega
    (refine gw2 @h0 @h1 ?_; try exact True.intro)
    exact h

theorem f20 {K : AV → Heap → Prop} {H : Heap} {n : Nat} {f : Nat → Bool} (h : K (.int (n : Int)) H) : wpF P [] 20 [vec n f] H K := by
  refine wpF_go c20 rfl 3 ?_
  intro ha hb
  simp only [s20, vec]
  (refine gw0 ?_; try exact True.intro)
  exact h
theorem f20n {K : AV → Heap → Prop} {H : Heap} {n : Int} (h : K (.int n) H) : wpF P [] 20 [.agg [.int n, .nils]] H K := by
  refine wpF_go c20 rfl 3 ?_
  intro ha hb
  simp only [s20]
  (refine gw0 ?_; try exact True.intro)
  exact h

theorem f21 {K : AV → Heap → Prop} {H : Heap} {n : Nat} {f : Nat → Bool} {i : Int} (h : K (.bool (decide (0 ≤ i) && cut n f i.toNat)) H) : wpF P [] 21 [vec n f, .int i] H K := by
  refine wpF_go c21 rfl 3 ?_
  intro ha hb
  simp only [s21, vec]
  by_cases h0 : i < 0
  · (refine gw1 @h0 ?_; try exact True.intro)
    rw [show decide (0 ≤ i) = false by simp; omega, Bool.false_and] at h
    exact h
  have hr : i ≤ 9223372036854775807 := (ha (.int i) (by simp)).2.2
  obtain ⟨j, rfl⟩ := Int.eq_ofNat_of_zero_le (show 0 ≤ i by omega)
  by_cases h1 : n ≤ j
  · have h2 : ((n : Int) ≤ (j : Int)) = True := by simp; omega
    rw [show cut n f (j : Int).toNat = false by simp [cut]; omega, Bool.and_false] at h
    (refine gw2 @h0 @h2 ?_; try exact True.intro)
    exact h
  · have h2 : ((n : Int) ≤ (j : Int)) = False := by simp; omega
    have hd := tdiv64 j
    have hm := tmod64 j
    have he := sh64 j
    have hg := wdA_get (f := f) (show j < n by omega)
    have hl : j / 64 < nw n := by unfold nw; omega
    have hlen : (wdA n f).length = nw n := wdA_len
    (refine gw7 @h0 @h2 @hd @hm @he @hg @hlen ?_; try exact True.intro)
    refine ⟨by omega, by omega, by omega, by omega, by omega, ?_⟩
    rw [bit_and1, wd_bit (by omega)]
    rw [show 64 * (j / 64) + j % 64 = j by omega]
    rw [show cut n f (j : Int).toNat = f j by simp [cut]; omega] at h
    simpa using h
def vblk (n N : Nat) : Option Blk := some ⟨25, 0, false, .arr 1 (.st [.leaf, .leaf]), .agg [.agg [.int (n : Int), .own N 0 [] 0 (nw n) .leaf]]⟩
def rblk : Option Blk := some ⟨25, 0, false, .arr 1 (.st [.leaf, .leaf]), .agg [.agg [.int 0, .nils]]⟩
theorem demA {n : Nat} {f : Nat → Bool} {kp : Nat → Bool} {N : Nat} {h : Heap} {d : Nat} : mapO (demK kp N h (d + 1)) (List.take (nw n) (wdA n f)) = some (wdA n f) := by
  rw [List.take_of_length_le (by rw [wdA_len]; exact Nat.le_refl _)]; exact mapO_u64
theorem bndA {n : Nat} {f : Nat → Bool} {k : Nat} : AV.bnds k (wdA n f) = true := bnds_u64
def Iy10 (l : List Bool) (B : Option Blk) (H : Heap) (k : Nat) (st : St) : Prop :=
  ∃ (i : Nat) (u1 u2 u4 u5 : AV), st = ⟨[.ro .leaf (l.map .bool), .ptr H.length 0 [0] (.st [.leaf, .leaf]), .int 0, .ptr (H.length + 3) 0 [0] (.st [.leaf, .leaf]), .int 0, u1, u2, .bool false, .ro .leaf (l.map .bool), .int l.length, .int i, u4, u5],
    H ++ [rblk, B, wblk l.length (cut i (bfn l)), vblk l.length (H.length + 2)]⟩ ∧ k = l.length - i ∧ i ≤ l.length
theorem f28 {K : AV → Heap → Prop} {H : Heap} {l : List Bool} (hn : l.length ≤ 4194304) (h : K (.tup [vec l.length (bfn l), .int 0]) H) : wpF P [] 28 [.ro .leaf (l.map .bool)] H K := by
  refine wpF_go c28 rfl 4 ?_
  intro ha hb
  simp only [s28]
  (refine gw0 ?_; try exact True.intro)
  refine f36 hn ?_
  intro B
  have e2 : H.length + 1 + 1 = H.length + 2 := rfl
  (refine gw1 @e2 ?_; try exact True.intro)
  refine wp_inv (Iy10 l B H) l.length ⟨0, _, _, _, _, by rw [cut_zero]; rfl, rfl, by omega⟩ ?_
  rintro k st ⟨i, u1, u2, u4, u5, rfl, rfl, hi⟩
  unfold wblk vblk rblk
  by_cases hil : i < l.length
  · have h1 : ((i : Int) < (l.length : Int)) = True := by simp; omega
    have gl := ld_bfn hil
    cases hb2 : bfn l i with
    | false =>
      (refine gw3 @h1 @gl @hb2 ?_; try exact True.intro)
      (repeat (refine And.intro (by omega) ?_))
      refine ⟨l.length - (i + 1), by omega, i + 1, _, _, _, _, by rw [cut_false hb2]; rfl, rfl, by omega⟩
    | true =>
      have hd := tdiv64 i
      have hm := tmod64 i
      have he := sh64 i
      have hg := wdA_get (f := cut i (bfn l)) hil
      have hw : i / 64 < nw l.length := by unfold nw; omega
      have hget := lget_at (ps := wdA l.length (cut i (bfn l))) (i := i / 64) (by rw [wdA_len]; exact hw)
      (refine gw8 @h1 @gl @hb2 @hd @hm @he @hg @hget ?_; try exact True.intro)
      (repeat (refine And.intro (by omega) ?_))
      refine ⟨l.length - (i + 1), by omega, i + 1, _, _, _, _, by rw [wdA_or (cut_true hb2)]; rfl, rfl, by omega⟩
  · have h1 : ((i : Int) < (l.length : Int)) = False := by simp; omega
    have hie : i = l.length := by omega
    (refine gw2 @h1 @demA ?_; try exact True.intro)
    subst hie
    rw [cut_bfn]
    exact h

def bxv (n : Nat) (f : Nat → Bool) : Option Blk := some ⟨25, 0, false, .arr 1 (.st [.leaf, .leaf]), .agg [.agg [.int (n : Int), .ro .leaf (wdA n f)]]⟩
def Iy33 (n : Nat) (f : Nat → Bool) (H : Heap) (k : Nat) (st : St) : Prop :=
  ∃ (i : Nat) (u1 u2 : AV), st = ⟨[.agg [.int (n : Int), .ro .leaf (wdA n f)], .ptr H.length 0 [0] (.st [.leaf, .leaf]), .nils, .own (H.length + 1) 0 [] 0 n .leaf, u1, .int n, .int i, u2],
    H ++ [bxv n f, some ⟨4, 0, true, .arr n .leaf, .agg (fillL (fun i => .bool (f i)) (.bool false) n i)⟩]⟩ ∧ k = n - i ∧ i ≤ n
theorem f10 {K : AV → Heap → Prop} {H : Heap} {n : Nat} {f : Nat → Bool} (hn : n ≤ 100000000) (h : K (.ro .leaf ((List.range n).map fun i => .bool (f i))) H) : wpF P [] 10 [vec n f] H K := by
  refine wpF_go c10 rfl 3 ?_
  intro ha hb
  simp only [s10, vec]
  (refine gw0 ?_; try exact True.intro)
  (repeat (refine And.intro (by omega) ?_))
  refine wp_inv (Iy33 n f H) n ⟨0, _, _, by rw [fill_zero]; rfl, rfl, by omega⟩ ?_
  rintro k st ⟨i, u1, u2, rfl, rfl, hi⟩
  unfold bxv
  by_cases hil : i < n
  · have h1 : ((i : Int) < (n : Int)) = True := by simp; omega
    have hget := lget_at (ps := fillL (fun i => AV.bool (f i)) (AV.bool false) n i) (i := i) (by rw [fill_length (by omega)]; exact hil)
    (refine gw1 @h1 ?_; try exact True.intro)
    refine f21 ?_
    rw [show (decide (0 ≤ (i : Int)) && cut n f (i : Int).toNat) = f i by simp [cut, hil]]
    (refine gw2 @h1 @hget ?_; try exact True.intro)
    (repeat (refine And.intro (by omega) ?_))
    exact ⟨n - (i + 1), by omega, i + 1, _, _, by rw [← fill_set hil]; rfl, rfl, by omega⟩
  · have h1 : ((i : Int) < (n : Int)) = False := by simp; omega
    have hie : i = n := by omega
    have ht : ∀ {kp : Nat → Bool} {N : Nat} {h : Heap}, mapO (demK kp N h 2) (List.take n (fillL (fun i => AV.bool (f i)) (AV.bool false) n i)) = some ((List.range n).map fun i => .bool (f i)) := by
      intro kp N h
      rw [hie, fill_all, List.take_of_length_le (by simp)]; exact mapO_bool
    (refine gw2 @h1 @ht ?_; try exact True.intro)
    exact h

/-! the reference -/
def wN (nb : Nat) (f : Nat → Bool) : Option Blk := some ⟨44, nb, true, .arr nb .leaf, .agg (wdN nb f)⟩
def Iy24 (a b : List Bool) (H : Heap) (k : Nat) (st : St) : Prop :=
  ∃ (i : Nat) (u1 u2 : AV), st = ⟨[.ro .leaf (a.map .bool), .ro .leaf (b.map .bool), .bool false, .int (i : Int), .bool false, u1, u2], H⟩ ∧ k = a.length - i ∧ i ≤ a.length ∧ ∀ j, j < i → a.getD j false = b.getD j false
theorem f9r {K : AV → Heap → Prop} {H : Heap} {a b : List Bool} (h : K (.bool (decide (a = b))) H) : wpF P [] 9 [.ro .leaf (a.map .bool), .ro .leaf (b.map .bool)] H K := by
  refine wpF_go c9 rfl 3 ?_
  intro ha hb
  simp only [s9]
  have hla : (a.length : Int) ≤ 9223372036854775807 := by have := (ha (.ro .leaf (a.map .bool)) (by simp)).2.1; simp [maxLen] at this; omega
  by_cases hl : a.length = b.length
  · have hl' : ((a.length : Int) = (b.length : Int)) = True := by simp [hl]
    (refine gw1 @hl' ?_; try exact True.intro)
    refine wp_inv (Iy24 a b H) a.length ⟨0, _, _, rfl, rfl, by omega, fun j hj => by omega⟩ ?_
    rintro k st ⟨i, u1, u2, rfl, rfl, hi, hsame⟩
    by_cases hil : i < a.length
    · have h1 : ((i : Int) < (a.length : Int)) = True := by simp; omega
      have h2 : ((i : Int) < (b.length : Int)) = True := by simp; omega
      have g1 := ld_bool hil
      have g2 := ld_bool (ns := b) (i := i) (by omega)
      by_cases he : a.getD i false = b.getD i false
      · have hx : (b.getD i false == b.getD i false) = true := by simp
        rw [he] at g1
        (refine gw5 @h1 @h2 @g1 @g2 @hx ?_; try exact True.intro)
        (repeat (refine And.intro (by omega) ?_))
        refine ⟨a.length - (i + 1), by omega, i + 1, _, _, rfl, rfl, by omega, fun j hj => ?_⟩
        by_cases hji : j = i
        · subst hji; exact he
        · exact hsame j (by omega)
      · have hx : (a.getD i false == b.getD i false) = false := beq_eq_false_iff_ne.2 he
        have hne : decide (a = b) = false := by
          simp; intro e; exact he (by rw [e])
        rw [hne] at h
        (refine gw5 @h1 @h2 @g1 @g2 @hx ?_; try exact True.intro)
        (repeat (refine And.intro (by omega) ?_))
        exact h
    · have h1 : ((i : Int) < (a.length : Int)) = False := by simp; omega
      have hab : a = b := by
        apply List.ext_getElem hl
        intro j h1 h2
        have := hsame j (by omega)
        simpa [List.getD_eq_getElem?_getD, h1, h2] using this
      rw [decide_eq_true hab] at h
      (refine gw1 @h1 ?_; try exact True.intro)
      exact h
  · have hl' : ((a.length : Int) = (b.length : Int)) = False := by simp; omega
    rw [show decide (a = b) = false by simp; intro e; exact hl (by rw [e])] at h
    (refine gw1 @hl' ?_; try exact True.intro)
    exact h

def Iy32 (a b : List (BitVec 64)) (H : Heap) (k : Nat) (st : St) : Prop :=
  ∃ (i : Nat) (u1 u2 : AV), st = ⟨[.ro .leaf (a.map .u64), .ro .leaf (b.map .u64), .bool false, .int (i : Int), .bool false, u1, u2], H⟩ ∧ k = a.length - i ∧ i ≤ a.length ∧ ∀ j, j < i → a.getD j 0 = b.getD j 0
theorem f17r {K : AV → Heap → Prop} {H : Heap} {a b : List (BitVec 64)} (h : K (.bool (decide (a = b))) H) : wpF P [] 17 [.ro .leaf (a.map .u64), .ro .leaf (b.map .u64)] H K := by
  refine wpF_go c17 rfl 3 ?_
  intro ha hb
  simp only [s17]
  have hla : (a.length : Int) ≤ 9223372036854775807 := by have := (ha (.ro .leaf (a.map .u64)) (by simp)).2.1; simp [maxLen] at this; omega
  by_cases hl : a.length = b.length
  · have hl' : ((a.length : Int) = (b.length : Int)) = True := by simp [hl]
    (refine gw1 @hl' ?_; try exact True.intro)
    refine wp_inv (Iy32 a b H) a.length ⟨0, _, _, rfl, rfl, by omega, fun j hj => by omega⟩ ?_
    rintro k st ⟨i, u1, u2, rfl, rfl, hi, hsame⟩
    by_cases hil : i < a.length
    · have h1 : ((i : Int) < (a.length : Int)) = True := by simp; omega
      have h2 : ((i : Int) < (b.length : Int)) = True := by simp; omega
      have g1 := ld_u64 hil
      have g2 := ld_u64 (ns := b) (i := i) (by omega)
      by_cases he : a.getD i 0 = b.getD i 0
      · have hx : (b.getD i 0 == b.getD i 0) = true := by simp
        rw [he] at g1
        (refine gw5 @h1 @h2 @g1 @g2 @hx ?_; try exact True.intro)
        (repeat (refine And.intro (by omega) ?_))
        refine ⟨a.length - (i + 1), by omega, i + 1, _, _, rfl, rfl, by omega, fun j hj => ?_⟩
        by_cases hji : j = i
        · subst hji; exact he
        · exact hsame j (by omega)
      · have hx : (a.getD i 0 = b.getD i 0) = False := eq_false he
        have hne : decide (a = b) = false := by
          simp; intro e; exact he (by rw [e])
        rw [hne] at h
        (refine gw5 @h1 @h2 @g1 @g2 @hx ?_; try exact True.intro)
        (repeat (refine And.intro (by omega) ?_))
        exact h
    · have h1 : ((i : Int) < (a.length : Int)) = False := by simp; omega
      have hab : a = b := by
        apply List.ext_getElem hl
        intro j h1 h2
        have := hsame j (by omega)
        simpa [List.getD_eq_getElem?_getD, h1, h2] using this
      rw [decide_eq_true hab] at h
      (refine gw1 @h1 ?_; try exact True.intro)
      exact h
  · have hl' : ((a.length : Int) = (b.length : Int)) = False := by simp; omega
    rw [show decide (a = b) = false by simp; intro e; exact hl (by rw [e])] at h
    (refine gw1 @hl' ?_; try exact True.intro)
    exact h

theorem f9 {K : AV → Heap → Prop} {H : Heap} {A B : AV} {a b : List Bool} (hA : isL A (a.map .bool)) (hB : isL B (b.map .bool)) (h : K (.bool (decide (a = b))) H) : wpF P [] 9 [A, B] H K := by
  have nilr : ∀ xs : List Bool, xs.map AV.bool = [] → xs = [] := fun xs h => by simpa using h
  rcases hA with rfl | ⟨e1, rfl⟩
  · rcases hB with rfl | ⟨e2, rfl⟩
    · exact f9r h
    · have := nilr _ e2; subst this
      refine wpF_go c9 rfl 3 ?_
      intro ha hb
      simp only [s9]
      cases a with
      | nil =>
        (refine gw0 ?_; try exact True.intro)
        refine wp_unroll 1 ?_
        (refine gw0 ?_; try exact True.intro)
        exact h
      | cons x a =>
        have h1 : (((a.length + 1 : Nat) : Int) = 0) = False := by simp; omega
        rw [show decide (x :: a = []) = false from rfl] at h
        (refine gw1 @h1 ?_; try exact True.intro)
        exact h
  · have := nilr _ e1; subst this
    rcases hB with rfl | ⟨e2, rfl⟩
    · refine wpF_go c9 rfl 3 ?_
      intro ha hb
      simp only [s9]
      cases b with
      | nil =>
        (refine gw0 ?_; try exact True.intro)
        refine wp_unroll 1 ?_
        (refine gw0 ?_; try exact True.intro)
        exact h
      | cons x a =>
        rw [show decide ([] = x :: a) = false from rfl] at h
        have h1 : ((0 : Int) = ((a.length + 1 : Nat) : Int)) = False := by simp; omega
        (refine gw1 @h1 ?_; try exact True.intro)
        exact h
    · have := nilr _ e2; subst this
      refine wpF_go c9 rfl 3 ?_
      intro ha hb
      simp only [s9]
      (refine gw0 ?_; try exact True.intro)
      refine wp_unroll 1 ?_
      (refine gw0 ?_; try exact True.intro)
      exact h

theorem f17 {K : AV → Heap → Prop} {H : Heap} {A B : AV} {a b : List (BitVec 64)} (hA : isL A (a.map .u64)) (hB : isL B (b.map .u64)) (h : K (.bool (decide (a = b))) H) : wpF P [] 17 [A, B] H K := by
  have nilr : ∀ xs : List (BitVec 64), xs.map AV.u64 = [] → xs = [] := fun xs h => by simpa using h
  rcases hA with rfl | ⟨e1, rfl⟩
  · rcases hB with rfl | ⟨e2, rfl⟩
    · exact f17r h
    · have := nilr _ e2; subst this
      refine wpF_go c17 rfl 3 ?_
      intro ha hb
      simp only [s17]
      cases a with
      | nil =>
        (refine gw0 ?_; try exact True.intro)
        refine wp_unroll 1 ?_
        (refine gw0 ?_; try exact True.intro)
        exact h
      | cons x a =>
        have h1 : (((a.length + 1 : Nat) : Int) = 0) = False := by simp; omega
        rw [show decide (x :: a = []) = false from rfl] at h
        (refine gw1 @h1 ?_; try exact True.intro)
        exact h
  · have := nilr _ e1; subst this
    rcases hB with rfl | ⟨e2, rfl⟩
    · refine wpF_go c17 rfl 3 ?_
      intro ha hb
      simp only [s17]
      cases b with
      | nil =>
        (refine gw0 ?_; try exact True.intro)
        refine wp_unroll 1 ?_
        (refine gw0 ?_; try exact True.intro)
        exact h
      | cons x a =>
        rw [show decide ([] = x :: a) = false from rfl] at h
        have h1 : ((0 : Int) = ((a.length + 1 : Nat) : Int)) = False := by simp; omega
        (refine gw1 @h1 ?_; try exact True.intro)
        exact h
    · have := nilr _ e2; subst this
      refine wpF_go c17 rfl 3 ?_
      intro ha hb
      simp only [s17]
      (refine gw0 ?_; try exact True.intro)
      refine wp_unroll 1 ?_
      (refine gw0 ?_; try exact True.intro)
      exact h

/-- the bits of a list, as lists -/
theorem bools_map {l : List Bool} : ((List.range l.length).map fun i => AV.bool (bfn l i)) = l.map .bool := by
  apply List.ext_getElem
  · simp
  · intro i h1 h2
    simp [bfn, List.getD_eq_getElem?_getD, List.getElem?_eq_getElem (show i < l.length by simpa using h2)]
theorem wds_map {n : Nat} {f : Nat → Bool} : wdA n f = (wds n f).map .u64 := wdA_map
/-! the same of no list -/
theorem bfn_rep {n : Nat} : bfn (List.replicate n false) = fun _ => false := by
  funext i
  unfold bfn
  rw [List.getD_eq_getElem?_getD, List.getElem?_replicate]
  split <;> rfl
theorem wf_map {n : Nat} {w : List (BitVec 64)} : ((List.range n).map fun i => AV.bool (wf w i)) = ((List.range n).map (wf w)).map .bool := by rw [List.map_map]; rfl
theorem bfn_rng {n : Nat} {f : Nat → Bool} : bfn ((List.range n).map f) = cut n f := by
  funext i
  unfold bfn cut
  rw [List.getD_eq_getElem?_getD, List.getElem?_map]
  by_cases h : i < n
  · rw [List.getElem?_range h]; simp [h]
  · rw [List.getElem?_eq_none (by simp; omega)]; simp [h]
/-! bits turned -/
def ownv (n N : Nat) : AV := .agg [.int (n : Int), .own N 0 [] 0 (nw n) .leaf]
def aw : List Bool := [true, false, true]
theorem aw_w : wdA 3 (bfn aw) = [.u64 5] := by
  show [AV.u64 (wd (bfn aw) 0)] = _
  rw [show wd (bfn aw) 0 = 5 by decide]
theorem aw_n : wdA 3 (cut 3 fun i => !bfn aw i) = [.u64 2] := by
  show [AV.u64 (wd (cut 3 fun i => !bfn aw i) 0)] = _
  rw [show wd (cut 3 fun i => !bfn aw i) 0 = 2 by decide]
/-- bits that end where they end -/
def nrm (n : Nat) (f : Nat → Bool) : Prop := ∀ i, n ≤ i → f i = false
theorem wds_inj {n : Nat} {f g : Nat → Bool} (hf : nrm n f) (hg : nrm n g) : wds n f = wds n g ↔ ∀ i, i < n → f i = g i := by
  constructor
  · intro h i hi
    have h1 := wf_wds (f := f) (n := n) (i := i) (by unfold nw; omega)
    have h2 := wf_wds (f := g) (n := n) (i := i) (by unfold nw; omega)
    rw [← h1, h, h2]
  · intro h
    unfold wds
    apply List.map_congr_left
    intro k hk
    apply wd_congr
    intro j hj
    by_cases h1 : 64 * k + j < n
    · exact h _ h1
    · rw [hf _ (by omega), hg _ (by omega)]
end Go.Proofs.Ytajkclooknanjaa
