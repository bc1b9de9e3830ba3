/-
  Layer 2 (bits): how many bits are 1, and the chapter's example.
-/
import Derived.Test.YtnnopgichjnhdaaXb
import Derived.Test.YtnnopgichjnhdaaBp
import Derived.Test.YtnnopgichjnhdaaV38
open Go Go.V
namespace Go.Proofs.Ytnnopgichjnhdaa
set_option maxRecDepth 100000
set_option linter.unusedSimpArgs false
set_option linter.unusedVariables false
/-- math/bits.OnesCount64 (0:x, 2:) -/
def s39 : FnS := ⟨35, [0, 2],
    (.seq (.reg [⟨.var 1, (.q .mv), [.c (.int 0)], none⟩])
    (.seq (.reg [⟨.new, (.q .mv), [.t 0], none⟩,
      ⟨.new, (.q (.bin .shr)), [.t 2, .c (.u64 1)], none⟩,
      ⟨.new, (.q (.bin .and)), [.t 3, .c (.u64 6148914691236517205)], none⟩,
      ⟨.new, (.q .mv), [.t 0], none⟩,
      ⟨.new, (.q (.bin .and)), [.t 5, .c (.u64 6148914691236517205)], none⟩,
      ⟨.new, (.q (.bin .add)), [.t 4, .t 6], none⟩,
      ⟨.var 0, (.q .mv), [.t 7], none⟩])
    (.seq (.reg [⟨.new, (.q .mv), [.t 0], none⟩,
      ⟨.new, (.q (.bin .shr)), [.t 2, .c (.u64 2)], none⟩,
      ⟨.new, (.q (.bin .and)), [.t 3, .c (.u64 3689348814741910323)], none⟩,
      ⟨.new, (.q .mv), [.t 0], none⟩,
      ⟨.new, (.q (.bin .and)), [.t 5, .c (.u64 3689348814741910323)], none⟩,
      ⟨.new, (.q (.bin .add)), [.t 4, .t 6], none⟩,
      ⟨.var 0, (.q .mv), [.t 7], none⟩])
    (.seq (.reg [⟨.new, (.q .mv), [.t 0], none⟩,
      ⟨.new, (.q (.bin .shr)), [.t 2, .c (.u64 4)], none⟩,
      ⟨.new, (.q .mv), [.t 0], none⟩,
      ⟨.new, (.q (.bin .add)), [.t 3, .t 4], none⟩,
      ⟨.new, (.q (.bin .and)), [.t 5, .c (.u64 1085102592571150095)], none⟩,
      ⟨.var 0, (.q .mv), [.t 6], none⟩])
    (.seq (.reg [⟨.new, (.q .mv), [.t 0], none⟩,
      ⟨.new, (.q .mv), [.t 0], none⟩,
      ⟨.new, (.q (.bin .shr)), [.t 3, .c (.u64 8)], none⟩,
      ⟨.new, (.q (.bin .add)), [.t 2, .t 4], none⟩,
      ⟨.var 0, (.q .mv), [.t 5], none⟩])
    (.seq (.reg [⟨.new, (.q .mv), [.t 0], none⟩,
      ⟨.new, (.q .mv), [.t 0], none⟩,
      ⟨.new, (.q (.bin .shr)), [.t 3, .c (.u64 16)], none⟩,
      ⟨.new, (.q (.bin .add)), [.t 2, .t 4], none⟩,
      ⟨.var 0, (.q .mv), [.t 5], none⟩])
    (.seq (.reg [⟨.new, (.q .mv), [.t 0], none⟩,
      ⟨.new, (.q .mv), [.t 0], none⟩,
      ⟨.new, (.q (.bin .shr)), [.t 3, .c (.u64 32)], none⟩,
      ⟨.new, (.q (.bin .add)), [.t 2, .t 4], none⟩,
      ⟨.var 0, (.q .mv), [.t 5], none⟩])
    (.seq (.reg [⟨.new, (.q .mv), [.t 0], none⟩,
      ⟨.new, (.q (.cv .i64)), [.t 2], none⟩,
      ⟨.new, (.q (.bin .and)), [.t 3, .c (.int 127)], none⟩,
      ⟨.var 1, (.q .mv), [.t 4], none⟩])
    .ret)))))))),
    [.t 1]⟩

/-- (trefoil/bits.Vec).Count (0:v, 1:v, 2:, 3:n, 5:x, 7:, 8:, 9:, 10:) -/
def s17 : FnS := ⟨19, [0, 1, 2, 3, 5, 7, 8, 9, 10],
    (.seq (.reg [⟨.var 1, (.e (.box 26 (.st [.leaf, .leaf]))), [.t 0], none⟩,
      ⟨.var 2, (.q .mv), [.c (.int 0)], none⟩])
    (.seq (.reg [⟨.var 3, (.q .mv), [.c (.int 0)], none⟩])
    (.seq (.seq (.reg [⟨.new, (.q (.fa [.leaf, .leaf] 1)), [.t 1], none⟩,
      ⟨.var 5, (.q (.ld .leaf)), [.t 9], none⟩,
      ⟨.var 6, (.q .len), [.t 5], none⟩,
      ⟨.var 7, (.q .mv), [.c (.int 0)], none⟩])
    (.block 0 (.loop (.seq (.reg [⟨.var 8, (.q (.bin .lss)), [.t 7, .t 6], none⟩])
    (.seq (.cond (.t 8) .skip
    (.exit 0))
    (.seq (.block 1 (.seq (.reg [⟨.new, (.q (.iaS .leaf)), [.t 5, .t 7], none⟩,
      ⟨.new, (.q (.ld .leaf)), [.t 9], none⟩,
      ⟨.var 4, (.q .mv), [.t 10], none⟩])
    (.reg [⟨.new, (.q .mv), [.t 3], none⟩,
      ⟨.new, (.q .mv), [.t 4], none⟩,
      ⟨.new, (.call 39), [.t 10], none⟩,
      ⟨.new, (.q (.bin .add)), [.t 9, .t 11], none⟩,
      ⟨.var 3, (.q .mv), [.t 12], none⟩])))
    (.reg [⟨.new, (.q (.bin .add)), [.t 7, .c (.int 1)], none⟩,
      ⟨.var 7, (.q .mv), [.t 9], none⟩])))))))
    (.seq (.reg [⟨.new, (.q .mv), [.t 3], none⟩,
      ⟨.var 2, (.q .mv), [.t 9], none⟩])
    .ret)))),
    [.t 2]⟩

/-- (trefoil/bits.Vec).Odd (0:v, 1:v, 2:, 3:x, 5:y, 7:, 8:, 9:, 10:) -/
def s19 : FnS := ⟨21, [0, 1, 2, 3, 5, 7, 8, 9, 10],
    (.seq (.reg [⟨.var 1, (.e (.box 26 (.st [.leaf, .leaf]))), [.t 0], none⟩,
      ⟨.var 2, (.q .mv), [.c (.bool false)], none⟩])
    (.seq (.reg [⟨.var 3, (.q .mv), [.c (.u64 0)], none⟩])
    (.seq (.seq (.reg [⟨.new, (.q (.fa [.leaf, .leaf] 1)), [.t 1], none⟩,
      ⟨.var 5, (.q (.ld .leaf)), [.t 9], none⟩,
      ⟨.var 6, (.q .len), [.t 5], none⟩,
      ⟨.var 7, (.q .mv), [.c (.int 0)], none⟩])
    (.block 0 (.loop (.seq (.reg [⟨.var 8, (.q (.bin .lss)), [.t 7, .t 6], none⟩])
    (.seq (.cond (.t 8) .skip
    (.exit 0))
    (.seq (.block 1 (.seq (.reg [⟨.new, (.q (.iaS .leaf)), [.t 5, .t 7], none⟩,
      ⟨.new, (.q (.ld .leaf)), [.t 9], none⟩,
      ⟨.var 4, (.q .mv), [.t 10], none⟩])
    (.reg [⟨.new, (.q .mv), [.t 3], none⟩,
      ⟨.new, (.q .mv), [.t 4], none⟩,
      ⟨.new, (.q (.bin .xor)), [.t 9, .t 10], none⟩,
      ⟨.var 3, (.q .mv), [.t 11], none⟩])))
    (.reg [⟨.new, (.q (.bin .add)), [.t 7, .c (.int 1)], none⟩,
      ⟨.var 7, (.q .mv), [.t 9], none⟩])))))))
    (.seq (.reg [⟨.new, (.q .mv), [.t 3], none⟩,
      ⟨.new, (.call 39), [.t 9], none⟩,
      ⟨.new, (.q (.bin .and)), [.t 10, .c (.int 1)], none⟩,
      ⟨.new, (.q (.bin .eql)), [.t 11, .c (.int 1)], none⟩,
      ⟨.var 2, (.q .mv), [.t 12], none⟩])
    .ret)))),
    [.t 2]⟩

/-- trefoil/trefoilref02.Count (0:l, 2:, 3:n, 4:i, 8:, 14:) -/
def s18 : FnS := ⟨18, [0, 2, 3, 4, 8, 14],
    (.seq (.reg [⟨.var 1, (.q .mv), [.c (.int 0)], none⟩])
    (.seq (.reg [⟨.var 2, (.q .mv), [.c (.int 0)], none⟩])
    (.seq (.seq (.reg [⟨.var 3, (.q .mv), [.c (.int 0)], none⟩])
    (.block 0 (.loop (.seq (.seq (.reg [⟨.new, (.q .mv), [.t 3], none⟩,
      ⟨.new, (.q .mv), [.t 0], none⟩,
      ⟨.new, (.q .len), [.t 7], none⟩,
      ⟨.var 4, (.q (.bin .lss)), [.t 6, .t 8], none⟩])
    (.cond (.t 4) .skip
    (.exit 0)))
    (.seq (.block 1 (.seq (.reg [⟨.new, (.q .mv), [.t 0], none⟩,
      ⟨.new, (.q .mv), [.t 3], none⟩,
      ⟨.new, (.q (.iaS .leaf)), [.t 6, .t 7], none⟩,
      ⟨.var 5, (.q (.ld .leaf)), [.t 8], none⟩])
    (.cond (.t 5) (.reg [⟨.new, (.q .mv), [.t 2], none⟩,
      ⟨.new, (.q (.bin .add)), [.t 6, .c (.int 1)], none⟩,
      ⟨.var 2, (.q .mv), [.t 7], none⟩])
    .skip)))
    (.reg [⟨.new, (.q .mv), [.t 3], none⟩,
      ⟨.new, (.q (.bin .add)), [.t 6, .c (.int 1)], none⟩,
      ⟨.var 3, (.q .mv), [.t 7], none⟩]))))))
    (.seq (.reg [⟨.new, (.q .mv), [.t 2], none⟩,
      ⟨.var 1, (.q .mv), [.t 6], none⟩])
    .ret)))),
    [.t 1]⟩

/-- (trefoil/bits.Vec).Not (0:v, 1:v, 2:, 3:out, 4:i, 5:x, 14:, 15:, 16:, 17:) -/
def s25 : FnS := ⟨31, [0, 1, 2, 3, 4, 5, 14, 15, 16, 17],
    (.seq (.reg [⟨.var 1, (.e (.box 26 (.st [.leaf, .leaf]))), [.t 0], none⟩,
      ⟨.var 2, (.e (.alloc 26 (.st [.leaf, .leaf]) (.agg [(.int 0), .nils]))), [], none⟩])
    (.seq (.draw [⟨.new, (.q (.fa [.leaf, .leaf] 0)), [.t 1], none⟩,
      ⟨.new, (.q (.ld .leaf)), [.t 10], none⟩,
      ⟨.new, (.q (.fa [.leaf, .leaf] 1)), [.t 1], none⟩,
      ⟨.new, (.q (.ld .leaf)), [.t 12], none⟩,
      ⟨.new, (.q .len), [.t 13], none⟩,
      ⟨.new, (.e (.mksl 55 .leaf 8 (.u64 0))), [.t 14, .t 14], none⟩,
      ⟨.new, (.e (.bld (.st [.leaf, .leaf]) (.agg [(.int 0), .nils]) [0, 1])), [.t 11, .t 15], none⟩,
      ⟨.var 3, (.e (.alloc 26 (.st [.leaf, .leaf]) (.agg [(.int 0), .nils]))), [], none⟩,
      ⟨.none, (.e (.store (.st [.leaf, .leaf]))), [.t 3, .t 16], none⟩])
    (.seq (.seq (.reg [⟨.new, (.q (.fa [.leaf, .leaf] 1)), [.t 1], none⟩,
      ⟨.var 6, (.q (.ld .leaf)), [.t 10], none⟩,
      ⟨.var 7, (.q .len), [.t 6], none⟩,
      ⟨.var 8, (.q .mv), [.c (.int 0)], none⟩])
    (.block 0 (.loop (.seq (.reg [⟨.var 9, (.q (.bin .lss)), [.t 8, .t 7], none⟩])
    (.seq (.cond (.t 9) .skip
    (.exit 0))
    (.seq (.block 1 (.seq (.reg [⟨.new, (.q .mv), [.t 8], none⟩,
      ⟨.new, (.q (.iaS .leaf)), [.t 6, .t 8], none⟩,
      ⟨.new, (.q (.ld .leaf)), [.t 11], none⟩,
      ⟨.var 4, (.q .mv), [.t 10], none⟩,
      ⟨.var 5, (.q .mv), [.t 12], none⟩])
    (.reg [⟨.new, (.q (.fa [.leaf, .leaf] 1)), [.t 3], none⟩,
      ⟨.new, (.q (.ld .leaf)), [.t 10], none⟩,
      ⟨.new, (.q .mv), [.t 4], none⟩,
      ⟨.new, (.q .mv), [.t 5], none⟩,
      ⟨.new, (.q (.un .xor)), [.t 13], none⟩,
      ⟨.new, (.q (.iaS .leaf)), [.t 11, .t 12], none⟩,
      ⟨.none, (.e (.store .leaf)), [.t 15, .t 14], none⟩])))
    (.reg [⟨.new, (.q (.bin .add)), [.t 8, .c (.int 1)], none⟩,
      ⟨.var 8, (.q .mv), [.t 10], none⟩])))))))
    (.seq (.reg [⟨.new, (.q (.ld (.st [.leaf, .leaf]))), [.t 3], none⟩,
      ⟨.new, (.call 37), [.t 10], none⟩])
    (.seq (.reg [⟨.new, (.q (.ld (.st [.leaf, .leaf]))), [.t 3], none⟩,
      ⟨.none, (.e (.store (.st [.leaf, .leaf]))), [.t 2, .t 10], none⟩])
    .ret))))),
    [.cell 2 (.st [.leaf, .leaf])]⟩

/-- trefoil/trefoillaw02.awake (0:, 1:v, 2:e) -/
def s9 : FnS := ⟨33, [0, 1, 2],
    (.seq (.reg [⟨.var 0, (.q .mv), [.c (.bool false)], none⟩])
    (.seq (.reg [⟨.new, (.e (.bsl 4 .leaf (.bool false) 3 [0, 1, 2])), [.c (.bool true), .c (.bool false), .c (.bool true)], none⟩,
      ⟨.new, (.call 10), [.t 3], none⟩,
      ⟨.new, (.q .mv), [.t 4], none⟩,
      ⟨.new, (.q (.ext 0)), [.t 5], none⟩,
      ⟨.new, (.q (.ext 1)), [.t 5], none⟩,
      ⟨.var 1, (.e (.alloc 26 (.st [.leaf, .leaf]) (.agg [(.int 0), .nils]))), [], none⟩,
      ⟨.none, (.e (.store (.st [.leaf, .leaf]))), [.t 1, .t 6], none⟩,
      ⟨.var 2, (.q .mv), [.t 7], none⟩])
    (.seq (.reg [⟨.new, (.q .mv), [.t 2], none⟩,
      ⟨.new, (.q (.bin .eql)), [.t 3, .c (.int 0)], none⟩,
      ⟨.new, (.q .mv), [.t 4], none⟩,
      ⟨.new, (.q (.ld (.st [.leaf, .leaf]))), [.t 1], (some (5, true))⟩,
      ⟨.new, (.call 29), [.t 6], (some (5, true))⟩,
      ⟨.new, (.e (.bsl 55 .leaf (.u64 0) 1 [0])), [.c (.u64 5)], (some (5, true))⟩,
      ⟨.new, (.call 32), [.t 7, .t 8], (some (5, true))⟩,
      ⟨.new, (.q .pick), [.t 5, .t 9, .c (.bool false)], none⟩,
      ⟨.new, (.q .mv), [.t 10], none⟩,
      ⟨.new, (.q (.ld (.st [.leaf, .leaf]))), [.t 1], (some (11, true))⟩,
      ⟨.new, (.call 28), [.t 12], (some (11, true))⟩,
      ⟨.new, (.q (.bin .eql)), [.t 13, .c (.str [5])], (some (11, true))⟩,
      ⟨.new, (.q .pick), [.t 11, .t 14, .c (.bool false)], none⟩,
      ⟨.new, (.q .mv), [.t 15], none⟩,
      ⟨.new, (.q (.ld (.st [.leaf, .leaf]))), [.t 1], (some (16, true))⟩,
      ⟨.new, (.call 17), [.t 17], (some (16, true))⟩,
      ⟨.new, (.q (.bin .eql)), [.t 18, .c (.int 2)], (some (16, true))⟩,
      ⟨.new, (.q .pick), [.t 16, .t 19, .c (.bool false)], none⟩,
      ⟨.new, (.q .mv), [.t 20], none⟩,
      ⟨.new, (.q (.ld (.st [.leaf, .leaf]))), [.t 1], (some (21, true))⟩,
      ⟨.new, (.call 25), [.t 22], (some (21, true))⟩,
      ⟨.new, (.call 29), [.t 23], (some (21, true))⟩,
      ⟨.new, (.e (.bsl 55 .leaf (.u64 0) 1 [0])), [.c (.u64 2)], (some (21, true))⟩,
      ⟨.new, (.call 32), [.t 24, .t 25], (some (21, true))⟩,
      ⟨.new, (.q .pick), [.t 21, .t 26, .c (.bool false)], none⟩,
      ⟨.var 0, (.q .mv), [.t 27], none⟩])
    .ret))),
    [.t 0]⟩

theorem c39 : cF P [] (drP P []) 39 1 s39.vm = some s39 := by kernel_rfl
theorem c17 : cF P [] (drP P []) 17 1 s17.vm = some s17 := by kernel_rfl
theorem c19 : cF P [] (drP P []) 19 1 s19.vm = some s19 := by kernel_rfl
theorem c18 : cF P [] (drP P []) 18 1 s18.vm = some s18 := by kernel_rfl
theorem c25 : cF P [] (drP P []) 25 1 s25.vm = some s25 := by kernel_rfl
theorem c9 : cF P [] (drP P []) 9 0 s9.vm = some s9 := by kernel_rfl
theorem f39 {K : AV → Heap → Prop} {H : Heap} {x : BitVec 64} (h : K (.int (pop x : Nat)) H) : wpF P [] 39 [.u64 x] H K := by
  refine wpF_go c39 rfl 3 ?_
  intro ha hb
  simp only [s39]
  (refine gw0 ?_; try exact True.intro)
  have e := ones_pop x rfl rfl rfl rfl rfl
  rw [and127, e]
  exact h

def I17 (n : Nat) (f : Nat → Bool) (H : Heap) (k : Nat) (st : St) : Prop :=
  ∃ (i : Nat) (u1 u2 : AV), st = ⟨[.agg [.int (n : Int), .ro .leaf (wdA n f)], .ptr H.length 0 [0] (.st [.leaf, .leaf]), .int 0, .int (cnt (64 * i) f : Nat), u1, .ro .leaf (wdA n f), .int (nw n : Nat), .int (i : Int), u2],
    H ++ [bxv n f]⟩ ∧ k = nw n - i ∧ i ≤ nw n
theorem f17 {K : AV → Heap → Prop} {H : Heap} {n : Nat} {f : Nat → Bool} (hn : n ≤ 100000000) (h : K (.int (cnt (64 * nw n) f : Nat)) H) : wpF P [] 17 [vec n f] H K := by
  refine wpF_go c17 rfl 3 ?_
  intro ha hb
  simp only [s17, vec]
  have hlen : (wdA n f).length = nw n := wdA_len
  have hnw : nw n ≤ 100000000 := by unfold nw; omega
  (refine gw1 @hlen ?_; try exact True.intro)
  refine wp_inv (I17 n f H) (nw n) ⟨0, _, _, rfl, rfl, by omega⟩ ?_
  rintro k st ⟨i, u1, u2, rfl, rfl, hi⟩
  unfold bxv
  by_cases hil : i < nw n
  · have h1 : ((i : Int) < (nw n : Int)) = True := by simp; omega
    have hg : (wdA n f).getD i .un = .u64 (wd f i) := ld_rng hil
    (refine gw3 @h1 @hlen @hg ?_; try exact True.intro)
    refine f39 ?_
    have hc : (cnt (64 * i) f : Int) + (pop (wd f i) : Nat) = ((cnt (64 * (i + 1)) f : Nat) : Int) := by rw [cnt_words]; omega
    have hle : cnt (64 * (i + 1)) f ≤ 64 * (i + 1) := cnt_le
    (refine gw1 @hc ?_; try exact True.intro)
    (repeat (refine And.intro (by omega) ?_))
    exact ⟨nw n - (i + 1), by omega, i + 1, _, _, rfl, rfl, by omega⟩
  · have h1 : ((i : Int) < (nw n : Int)) = False := by simp; omega
    have hie : i = nw n := by omega
    subst hie
    (refine gw1 @h1 ?_; try exact True.intro)
    exact h

def I19 (n : Nat) (f : Nat → Bool) (H : Heap) (k : Nat) (st : St) : Prop :=
  ∃ (i : Nat) (x : BitVec 64) (u1 u2 : AV), st = ⟨[.agg [.int (n : Int), .ro .leaf (wdA n f)], .ptr H.length 0 [0] (.st [.leaf, .leaf]), .bool false, .u64 x, u1, .ro .leaf (wdA n f), .int (nw n : Nat), .int (i : Int), u2],
    H ++ [bxv n f]⟩ ∧ k = nw n - i ∧ i ≤ nw n ∧ pop x % 2 = cnt (64 * i) f % 2
theorem f19 {K : AV → Heap → Prop} {H : Heap} {n : Nat} {f : Nat → Bool} (hn : n ≤ 100000000) (h : K (.bool (decide (cnt (64 * nw n) f % 2 = 1))) H) : wpF P [] 19 [vec n f] H K := by
  refine wpF_go c19 rfl 3 ?_
  intro ha hb
  simp only [s19, vec]
  have hlen : (wdA n f).length = nw n := wdA_len
  have hnw : nw n ≤ 100000000 := by unfold nw; omega
  (refine gw1 @hlen ?_; try exact True.intro)
  refine wp_inv (I19 n f H) (nw n) ⟨0, 0, _, _, rfl, rfl, by omega, by rw [show pop 0 = 0 by decide]; rfl⟩ ?_
  rintro k st ⟨i, x, u1, u2, rfl, rfl, hi, hx⟩
  unfold bxv
  by_cases hil : i < nw n
  · have h1 : ((i : Int) < (nw n : Int)) = True := by simp; omega
    have hg : (wdA n f).getD i .un = .u64 (wd f i) := ld_rng hil
    (refine gw3 @h1 @hlen @hg ?_; try exact True.intro)
    (repeat (refine And.intro (by omega) ?_))
    refine ⟨nw n - (i + 1), by omega, i + 1, x ^^^ wd f i, _, _, rfl, rfl, by omega, ?_⟩
    rw [pop_xor, cnt_words]
    omega
  · have h1 : ((i : Int) < (nw n : Int)) = False := by simp; omega
    have hie : i = nw n := by omega
    subst hie
    (refine gw1 @h1 ?_; try exact True.intro)
    refine f39 ?_
    have hp := pop_le64 x
    rw [← hx] at h
    have e := and1 (pop x) (by omega)
    (refine gw1 @e ?_; try exact True.intro)
    have hd : decide (((pop x % 2 : Nat) : Int) = 1) = decide (pop x % 2 = 1) := decide_eq_decide.2 (by omega)
    rw [hd]
    exact h

def I18 (l : List Bool) (H : Heap) (k : Nat) (st : St) : Prop :=
  ∃ (i : Nat) (u1 u2 : AV), st = ⟨[.ro .leaf (l.map .bool), .int 0, .int (cnt i (bfn l) : Nat), .int (i : Int), u1, u2], H⟩ ∧ k = l.length - i ∧ i ≤ l.length
theorem f18 {K : AV → Heap → Prop} {H : Heap} {l : List Bool} (hn : l.length ≤ 1000000000) (h : K (.int (cnt l.length (bfn l) : Nat)) H) : wpF P [] 18 [.ro .leaf (l.map .bool)] H K := by
  refine wpF_go c18 rfl 3 ?_
  intro ha hb
  simp only [s18]
  (refine gw0 ?_; try exact True.intro)
  refine wp_inv (I18 l H) l.length ⟨0, _, _, rfl, rfl, by omega⟩ ?_
  rintro k st ⟨i, u1, u2, rfl, rfl, hi⟩
  by_cases hil : i < l.length
  · have h1 : ((i : Int) < (l.length : Int)) = True := by simp; omega
    have gl := ld_bfn hil
    have hle : cnt i (bfn l) ≤ i := cnt_le
    have hs := cnt_succ (n := i) (f := bfn l)
    cases hb2 : bfn l i with
    | false =>
      rw [hb2] at hs
      (refine gw3 @h1 @gl @hb2 ?_; try exact True.intro)
      (repeat (refine And.intro (by omega) ?_))
      exact ⟨l.length - (i + 1), by omega, i + 1, _, _, by rw [hs]; rfl, rfl, by omega⟩
    | true =>
      rw [hb2] at hs
      have hc : (cnt i (bfn l) : Int) + 1 = ((cnt (i + 1) (bfn l) : Nat) : Int) := by rw [hs]; rfl
      (refine gw4 @h1 @gl @hb2 @hc ?_; try exact True.intro)
      (repeat (refine And.intro (by omega) ?_))
      exact ⟨l.length - (i + 1), by omega, i + 1, _, _, rfl, rfl, by omega⟩
  · have h1 : ((i : Int) < (l.length : Int)) = False := by simp; omega
    have hie : i = l.length := by omega
    subst hie
    (refine gw1 @h1 ?_; try exact True.intro)
    exact h

/-! bits turned -/
def ownv (n N : Nat) : AV := .agg [.int (n : Int), .own N 0 [] 0 (nw n) .leaf]
def I25 (n : Nat) (f : Nat → Bool) (H : Heap) (k : Nat) (st : St) : Prop :=
  ∃ (i : Nat) (u1 u2 u3 : AV), st = ⟨[.agg [.int (n : Int), .ro .leaf (wdA n f)], .ptr H.length 0 [0] (.st [.leaf, .leaf]), .ptr (H.length + 1) 0 [0] (.st [.leaf, .leaf]), .ptr (H.length + 3) 0 [0] (.st [.leaf, .leaf]), u1, u2, .ro .leaf (wdA n f), .int (nw n : Nat), .int (i : Int), u3],
    H ++ [bxv n f, rblk, some ⟨55, 0, true, .arr (nw n) .leaf, .agg (fillL (fun k => .u64 (wd (fun i => !f i) k)) (.u64 0) (nw n) i)⟩, vblk n (H.length + 2)]⟩ ∧ k = nw n - i ∧ i ≤ nw n
theorem f25 {K : AV → Heap → Prop} {H : Heap} {n : Nat} {f : Nat → Bool} (hn : n ≤ 100000000) (h : K (vec n (cut n fun i => !f i)) H) : wpF P [] 25 [vec n f] H K := by
  refine wpF_go c25 rfl 4 ?_
  intro ha hb
  simp only [s25, vec]
  have hlen : (wdA n f).length = nw n := wdA_len
  have hnw : nw n ≤ 100000000 := by unfold nw; omega
  (refine gw1 @hlen ?_; try exact True.intro)
  (repeat (refine And.intro (by omega) ?_))
  refine wp_inv (I25 n f H) (nw n) ⟨0, _, _, _, by rw [fill_zero]; rfl, rfl, by omega⟩ ?_
  rintro k st ⟨i, u1, u2, u3, rfl, rfl, hi⟩
  unfold bxv rblk vblk
  by_cases hil : i < nw n
  · have h1 : ((i : Int) < (nw n : Int)) = True := by simp; omega
    have hg : (wdA n f).getD i .un = .u64 (wd f i) := ld_rng hil
    have hget := lget_at (ps := fillL (fun k => AV.u64 (wd (fun i => !f i) k)) (AV.u64 0) (nw n) i) (i := i) (by rw [fill_length (by omega)]; exact hil)
    have hnot := wd_not (f := f) (k := i)
    (refine gw5 @h1 @hlen @hg @hget @hnot ?_; try exact True.intro)
    (repeat (refine And.intro (by omega) ?_))
    exact ⟨nw n - (i + 1), by omega, i + 1, _, _, _, by rw [← fill_set hil]; rfl, rfl, by omega⟩
  · have h1 : ((i : Int) < (nw n : Int)) = False := by simp; omega
    have hie : i = nw n := by omega
    have hf : fillL (fun k => AV.u64 (wd (fun i => !f i) k)) (AV.u64 0) (nw n) (nw n) = wdA n fun i => !f i := by rw [fill_all]; rfl
    subst hie
    (refine gw2 @h1 @hf ?_; try exact True.intro)
    refine f37' (H0 := H ++ [bxv n f, rblk]) (L := [vblk n (H.length + 2)]) (f := fun i => !f i) (by simp) (by simp [rblk, vblk, wblk, bxv]) (by omega) ?_
    unfold bxv wblk vblk rblk
    (refine gw1 @demA ?_; try exact True.intro)
    exact h

def aw : List Bool := [true, false, true]
theorem aw_w : wdA 3 (bfn aw) = [.u64 5] := by
  show [AV.u64 (wd (bfn aw) 0)] = _
  rw [show wd (bfn aw) 0 = 5 by decide]
theorem aw_n : wdA 3 (cut 3 fun i => !bfn aw i) = [.u64 2] := by
  show [AV.u64 (wd (cut 3 fun i => !bfn aw i) 0)] = _
  rw [show wd (cut 3 fun i => !bfn aw i) 0 = 2 by decide]
theorem f9 {K : AV → Heap → Prop} {H : Heap} (h : K (.bool true) H) : wpF P [] 9 [] H K := by
  refine wpF_go c9 rfl 3 ?_
  intro ha hb
  simp only [s9]
  (refine gw0 ?_; try exact True.intro)
  refine wpF_give1 H.length 2 ?_
  (refine gw0 ?_; try exact True.intro)
  refine f10 (l := aw) (by decide) ?_
  have e3 : (((aw.length : Nat)) : Int) = 3 := rfl
  simp only [vec]
  (refine gw2 @bndA @e3 ?_; try exact True.intro)
  refine f29 (n := 3) (f := bfn aw) (by decide) ?_ (by intro h; cases h)
  (refine gw0 ?_; try exact True.intro)
  refine wpF_give1 (H.length + 2) 2 ?_
  rw [aw_w]
  (refine gw0 ?_; try exact True.intro)
  refine f32 (a := [5]) (b := [5]) (.inl rfl) (.inl rfl) ?_
  (refine gw0 ?_; try exact True.intro)
  refine f28 (n := 3) (f := bfn aw) (by decide) ?_
  rw [show bys 3 (bfn aw) = [5] by decide]
  (refine gw0 ?_; try exact True.intro)
  refine f17 (n := 3) (f := bfn aw) (by decide) ?_
  rw [show cnt (64 * nw 3) (bfn aw) = 2 by decide]
  (refine gw0 ?_; try exact True.intro)
  refine f25 (n := 3) (f := bfn aw) (by decide) ?_
  simp only [vec]
  (refine gw0 ?_; try exact True.intro)
  refine f29 (n := 3) (f := cut 3 fun i => !bfn aw i) (by decide) ?_ (by intro h; cases h)
  rw [aw_n]
  (refine gw0 ?_; try exact True.intro)
  refine wpF_give1 (H.length + 3) 2 ?_
  (refine gw0 ?_; try exact True.intro)
  refine f32 (a := [2]) (b := [2]) (.inl rfl) (.inl rfl) ?_
  (refine gw0 ?_; try exact True.intro)
  exact h
end Go.Proofs.Ytnnopgichjnhdaa
