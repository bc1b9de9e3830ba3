/-
  Layer 2 (bits): two bits word by word, and whether they are the same.
-/
import Derived.Test.YtnnopgichjnhdaaXp
import Derived.Test.YtnnopgichjnhdaaV38
open Go Go.V
namespace Go.Proofs.Ytnnopgichjnhdaa
set_option maxRecDepth 100000
set_option linter.unusedSimpArgs false
set_option linter.unusedVariables false
/-- trefoil/bits.Xor$1 (0:x, 1:y, 4:) -/
def s41 : FnS := ⟨8, [0, 1, 4],
    (.seq (.reg [⟨.var 2, (.q .mv), [.c (.u64 0)], none⟩])
    (.seq (.reg [⟨.new, (.q .mv), [.t 0], none⟩,
      ⟨.new, (.q .mv), [.t 1], none⟩,
      ⟨.new, (.q (.bin .xor)), [.t 3, .t 4], none⟩,
      ⟨.var 2, (.q .mv), [.t 5], none⟩])
    .ret)),
    [.t 2]⟩

/-- trefoil/bits.And$1 (0:x, 1:y, 4:) -/
def s42 : FnS := ⟨8, [0, 1, 4],
    (.seq (.reg [⟨.var 2, (.q .mv), [.c (.u64 0)], none⟩])
    (.seq (.reg [⟨.new, (.q .mv), [.t 0], none⟩,
      ⟨.new, (.q .mv), [.t 1], none⟩,
      ⟨.new, (.q (.bin .and)), [.t 3, .t 4], none⟩,
      ⟨.var 2, (.q .mv), [.t 5], none⟩])
    .ret)),
    [.t 2]⟩

/-- trefoil/bits.zip (0:a, 1:b, 2:by, 3:a, 4:b, 6:, 7:, 8:out, 9:i, 14:, 25:, 26:, 27:) -/
def s40 : FnS := ⟨47, [0, 1, 2, 3, 4, 6, 7, 8, 9, 14, 25, 26, 27],
    (.seq (.reg [⟨.var 3, (.e (.box 26 (.st [.leaf, .leaf]))), [.t 0], none⟩,
      ⟨.var 4, (.e (.box 26 (.st [.leaf, .leaf]))), [.t 1], none⟩,
      ⟨.var 5, (.e (.alloc 26 (.st [.leaf, .leaf]) (.agg [(.int 0), .nils]))), [], none⟩,
      ⟨.var 6, (.q .mv), [.c (.int 0)], none⟩])
    (.seq (.seq (.reg [⟨.new, (.q (.fa [.leaf, .leaf] 0)), [.t 3], none⟩,
      ⟨.new, (.q (.ld .leaf)), [.t 13], none⟩,
      ⟨.new, (.q (.fa [.leaf, .leaf] 0)), [.t 4], none⟩,
      ⟨.new, (.q (.ld .leaf)), [.t 15], none⟩,
      ⟨.var 9, (.q (.bin .neq)), [.t 14, .t 16], none⟩])
    (.cond (.t 9) (.seq (.reg [⟨.new, (.e (.bld (.st [.leaf, .leaf]) (.agg [(.int 0), .nils]) [])), [], none⟩,
      ⟨.none, (.e (.store (.st [.leaf, .leaf]))), [.t 5, .t 13], none⟩,
      ⟨.var 6, (.q .mv), [.c (.int 11)], none⟩])
    .ret)
    .skip))
    (.seq (.draw [⟨.new, (.q (.fa [.leaf, .leaf] 0)), [.t 3], none⟩,
      ⟨.new, (.q (.ld .leaf)), [.t 13], none⟩,
      ⟨.new, (.q (.fa [.leaf, .leaf] 1)), [.t 3], none⟩,
      ⟨.new, (.q (.ld .leaf)), [.t 15], none⟩,
      ⟨.new, (.q .len), [.t 16], none⟩,
      ⟨.new, (.e (.mksl 55 .leaf 8 (.u64 0))), [.t 17, .t 17], none⟩,
      ⟨.new, (.e (.bld (.st [.leaf, .leaf]) (.agg [(.int 0), .nils]) [0, 1])), [.t 14, .t 18], none⟩,
      ⟨.var 7, (.e (.alloc 26 (.st [.leaf, .leaf]) (.agg [(.int 0), .nils]))), [], none⟩,
      ⟨.none, (.e (.store (.st [.leaf, .leaf]))), [.t 7, .t 19], none⟩])
    (.seq (.seq (.reg [⟨.new, (.q (.fa [.leaf, .leaf] 1)), [.t 7], none⟩,
      ⟨.new, (.q (.ld .leaf)), [.t 13], none⟩,
      ⟨.var 10, (.q .len), [.t 14], none⟩,
      ⟨.var 11, (.q .mv), [.c (.int 0)], none⟩])
    (.block 0 (.loop (.seq (.reg [⟨.var 12, (.q (.bin .lss)), [.t 11, .t 10], none⟩])
    (.seq (.cond (.t 12) .skip
    (.exit 0))
    (.seq (.block 1 (.seq (.reg [⟨.new, (.q .mv), [.t 11], none⟩,
      ⟨.var 8, (.q .mv), [.t 13], none⟩])
    (.draw [⟨.new, (.q (.fa [.leaf, .leaf] 1)), [.t 7], none⟩,
      ⟨.new, (.q (.ld .leaf)), [.t 13], none⟩,
      ⟨.new, (.q .mv), [.t 8], none⟩,
      ⟨.new, (.q .mv), [.t 2], none⟩,
      ⟨.new, (.q (.fa [.leaf, .leaf] 1)), [.t 3], none⟩,
      ⟨.new, (.q (.ld .leaf)), [.t 17], none⟩,
      ⟨.new, (.q .mv), [.t 8], none⟩,
      ⟨.new, (.q (.iaS .leaf)), [.t 18, .t 19], none⟩,
      ⟨.new, (.q (.ld .leaf)), [.t 20], none⟩,
      ⟨.new, (.q (.fa [.leaf, .leaf] 1)), [.t 4], none⟩,
      ⟨.new, (.q (.ld .leaf)), [.t 22], none⟩,
      ⟨.new, (.q .mv), [.t 8], none⟩,
      ⟨.new, (.q (.iaS .leaf)), [.t 23, .t 24], none⟩,
      ⟨.new, (.q (.ld .leaf)), [.t 25], none⟩,
      ⟨.new, .callv, [.t 16, .t 21, .t 26], none⟩,
      ⟨.new, (.q (.iaS .leaf)), [.t 14, .t 15], none⟩,
      ⟨.none, (.e (.store .leaf)), [.t 28, .t 27], none⟩])))
    (.reg [⟨.new, (.q (.bin .add)), [.t 11, .c (.int 1)], none⟩,
      ⟨.var 11, (.q .mv), [.t 13], none⟩])))))))
    (.seq (.reg [⟨.new, (.q (.ld (.st [.leaf, .leaf]))), [.t 7], none⟩,
      ⟨.none, (.e (.store (.st [.leaf, .leaf]))), [.t 5, .t 13], none⟩,
      ⟨.var 6, (.q .mv), [.c (.int 0)], none⟩])
    .ret))))),
    [.cell 5 (.st [.leaf, .leaf]), .t 6]⟩

/-- trefoil/bits.Xor (0:a, 1:b, 2:a, 3:b, 4:, 5:) -/
def s21 : FnS := ⟨11, [0, 1, 2, 3, 4, 5],
    (.seq (.reg [⟨.var 2, (.e (.box 26 (.st [.leaf, .leaf]))), [.t 0], none⟩,
      ⟨.var 3, (.e (.box 26 (.st [.leaf, .leaf]))), [.t 1], none⟩,
      ⟨.var 4, (.e (.alloc 26 (.st [.leaf, .leaf]) (.agg [(.int 0), .nils]))), [], none⟩,
      ⟨.var 5, (.q .mv), [.c (.int 0)], none⟩])
    (.seq (.reg [⟨.new, (.q (.ld (.st [.leaf, .leaf]))), [.t 2], none⟩,
      ⟨.new, (.q (.ld (.st [.leaf, .leaf]))), [.t 3], none⟩,
      ⟨.new, (.call 40), [.t 6, .t 7, .c (.fn 41 [])], none⟩,
      ⟨.new, (.q (.ext 0)), [.t 8], none⟩,
      ⟨.new, (.q (.ext 1)), [.t 8], none⟩,
      ⟨.none, (.e (.store (.st [.leaf, .leaf]))), [.t 4, .t 9], none⟩,
      ⟨.var 5, (.q .mv), [.t 10], none⟩])
    .ret)),
    [.cell 4 (.st [.leaf, .leaf]), .t 5]⟩

/-- trefoil/bits.And (0:a, 1:b, 2:a, 3:b, 4:, 5:) -/
def s22 : FnS := ⟨11, [0, 1, 2, 3, 4, 5],
    (.seq (.reg [⟨.var 2, (.e (.box 26 (.st [.leaf, .leaf]))), [.t 0], none⟩,
      ⟨.var 3, (.e (.box 26 (.st [.leaf, .leaf]))), [.t 1], none⟩,
      ⟨.var 4, (.e (.alloc 26 (.st [.leaf, .leaf]) (.agg [(.int 0), .nils]))), [], none⟩,
      ⟨.var 5, (.q .mv), [.c (.int 0)], none⟩])
    (.seq (.reg [⟨.new, (.q (.ld (.st [.leaf, .leaf]))), [.t 2], none⟩,
      ⟨.new, (.q (.ld (.st [.leaf, .leaf]))), [.t 3], none⟩,
      ⟨.new, (.call 40), [.t 6, .t 7, .c (.fn 42 [])], none⟩,
      ⟨.new, (.q (.ext 0)), [.t 8], none⟩,
      ⟨.new, (.q (.ext 1)), [.t 8], none⟩,
      ⟨.none, (.e (.store (.st [.leaf, .leaf]))), [.t 4, .t 9], none⟩,
      ⟨.var 5, (.q .mv), [.t 10], none⟩])
    .ret)),
    [.cell 4 (.st [.leaf, .leaf]), .t 5]⟩

/-- slices.Equal[[]uint64,uint64] (0:s1, 1:s2, 4:, 5:i, 10:, 12:, 13:, 14:, 24:) -/
def s43 : FnS := ⟨26, [0, 1, 4, 5, 10, 12, 13, 14, 24],
    (.seq (.reg [⟨.var 2, (.q .mv), [.c (.bool false)], none⟩])
    (.seq (.seq (.reg [⟨.new, (.q .mv), [.t 0], none⟩,
      ⟨.new, (.q .len), [.t 9], none⟩,
      ⟨.new, (.q .mv), [.t 1], none⟩,
      ⟨.new, (.q .len), [.t 11], none⟩,
      ⟨.var 4, (.q (.bin .neq)), [.t 10, .t 12], none⟩])
    (.cond (.t 4) (.seq (.reg [⟨.var 2, (.q .mv), [.c (.bool false)], none⟩])
    .ret)
    .skip))
    (.seq (.seq (.reg [⟨.new, (.q .mv), [.t 0], none⟩,
      ⟨.var 5, (.q .len), [.t 9], none⟩,
      ⟨.var 6, (.q .mv), [.c (.int 0)], none⟩])
    (.block 0 (.loop (.seq (.reg [⟨.var 7, (.q (.bin .lss)), [.t 6, .t 5], none⟩])
    (.seq (.cond (.t 7) .skip
    (.exit 0))
    (.seq (.block 1 (.seq (.reg [⟨.new, (.q .mv), [.t 6], none⟩,
      ⟨.var 3, (.q .mv), [.t 9], none⟩])
    (.seq (.draw [⟨.new, (.q .mv), [.t 0], none⟩,
      ⟨.new, (.q .mv), [.t 3], none⟩,
      ⟨.new, (.q (.iaS .leaf)), [.t 9, .t 10], none⟩,
      ⟨.new, (.q (.ld .leaf)), [.t 11], none⟩,
      ⟨.new, (.q .mv), [.t 1], none⟩,
      ⟨.new, (.q .mv), [.t 3], none⟩,
      ⟨.new, (.q (.iaS .leaf)), [.t 13, .t 14], none⟩,
      ⟨.new, (.q (.ld .leaf)), [.t 15], none⟩,
      ⟨.var 8, (.q (.bin .neq)), [.t 12, .t 16], none⟩])
    (.cond (.t 8) (.seq (.reg [⟨.var 2, (.q .mv), [.c (.bool false)], none⟩])
    .ret)
    .skip))))
    (.reg [⟨.new, (.q (.bin .add)), [.t 6, .c (.int 1)], none⟩,
      ⟨.var 6, (.q .mv), [.t 9], none⟩])))))))
    (.seq (.reg [⟨.var 2, (.q .mv), [.c (.bool true)], none⟩])
    .ret)))),
    [.t 2]⟩

/-- trefoil/bits.Equal (0:a, 1:b, 2:a, 3:b, 4:) -/
def s23 : FnS := ⟨17, [0, 1, 2, 3, 4],
    (.seq (.reg [⟨.var 2, (.e (.box 26 (.st [.leaf, .leaf]))), [.t 0], none⟩,
      ⟨.var 3, (.e (.box 26 (.st [.leaf, .leaf]))), [.t 1], none⟩,
      ⟨.var 4, (.q .mv), [.c (.bool false)], none⟩])
    (.seq (.reg [⟨.new, (.q (.fa [.leaf, .leaf] 0)), [.t 2], none⟩,
      ⟨.new, (.q (.ld .leaf)), [.t 5], none⟩,
      ⟨.new, (.q (.fa [.leaf, .leaf] 0)), [.t 3], none⟩,
      ⟨.new, (.q (.ld .leaf)), [.t 7], none⟩,
      ⟨.new, (.q (.bin .eql)), [.t 6, .t 8], none⟩,
      ⟨.new, (.q .mv), [.t 9], none⟩,
      ⟨.new, (.q (.fa [.leaf, .leaf] 1)), [.t 2], (some (10, true))⟩,
      ⟨.new, (.q (.ld .leaf)), [.t 11], (some (10, true))⟩,
      ⟨.new, (.q (.fa [.leaf, .leaf] 1)), [.t 3], (some (10, true))⟩,
      ⟨.new, (.q (.ld .leaf)), [.t 13], (some (10, true))⟩,
      ⟨.new, (.call 43), [.t 12, .t 14], (some (10, true))⟩,
      ⟨.new, (.q .pick), [.t 10, .t 15, .c (.bool false)], none⟩,
      ⟨.var 4, (.q .mv), [.t 16], none⟩])
    .ret)),
    [.t 4]⟩

theorem c41 : cF P [] (drP P []) 41 2 s41.vm = some s41 := by kernel_rfl
theorem c42 : cF P [] (drP P []) 42 2 s42.vm = some s42 := by kernel_rfl
theorem c40 : cF P [] (drP P []) 40 3 s40.vm = some s40 := by kernel_rfl
theorem c21 : cF P [] (drP P []) 21 2 s21.vm = some s21 := by kernel_rfl
theorem c22 : cF P [] (drP P []) 22 2 s22.vm = some s22 := by kernel_rfl
theorem c43 : cF P [] (drP P []) 43 2 s43.vm = some s43 := by kernel_rfl
theorem c23 : cF P [] (drP P []) 23 2 s23.vm = some s23 := by kernel_rfl
theorem f41 {H : Heap} {x y : BitVec 64} : wpF P [] 41 [.u64 x, .u64 y] H (fun r h => r = .u64 (x ^^^ y) ∧ h = H) := by
  refine wpF_go c41 rfl 2 ?_
  intro ha hb
  simp only [s41]
  (refine gw0 ?_; try exact True.intro)
theorem f42 {H : Heap} {x y : BitVec 64} : wpF P [] 42 [.u64 x, .u64 y] H (fun r h => r = .u64 (x &&& y) ∧ h = H) := by
  refine wpF_go c42 rfl 2 ?_
  intro ha hb
  simp only [s42]
  (refine gw0 ?_; try exact True.intro)
def I40 (n : Nat) (f g h : Nat → Bool) (c : FuncId) (H : Heap) (k : Nat) (st : St) : Prop :=
  ∃ (i : Nat) (u1 u2 u3 : AV), st = ⟨[.agg [.int (n : Int), .ro .leaf (wdA n f)], .agg [.int (n : Int), .ro .leaf (wdA n g)], .fn c [], .ptr H.length 0 [0] (.st [.leaf, .leaf]), .ptr (H.length + 1) 0 [0] (.st [.leaf, .leaf]), .ptr (H.length + 2) 0 [0] (.st [.leaf, .leaf]), .int 0, .ptr (H.length + 4) 0 [0] (.st [.leaf, .leaf]), u1, .bool false, .int (nw n : Nat), .int (i : Int), u2],
    H ++ [bxv n f, bxv n g, rblk, some ⟨55, 0, true, .arr (nw n) .leaf, .agg (fillL (fun k => .u64 (wd h k)) (.u64 0) (nw n) i)⟩, vblk n (H.length + 3)]⟩ ∧ k = nw n - i ∧ i ≤ nw n
theorem f40 {K : AV → Heap → Prop} {H : Heap} {n m : Nat} {f g e : Nat → Bool} {c : FuncId} {op : BitVec 64 → BitVec 64 → BitVec 64} (hn : n ≤ 100000000) (hop : ∀ k, op (wd f k) (wd g k) = wd e k)
    (hc : ∀ H x y, wpF P [] c [.u64 x, .u64 y] H (fun r h => r = .u64 (op x y) ∧ h = H))
    (h : K (if n = m then .tup [vec n e, .int 0] else .tup [.agg [.int 0, .nils], .int 11]) H) : wpF P [] 40 [vec n f, vec m g, .fn c []] H K := by
  refine wpF_go c40 rfl 4 ?_
  intro ha hb
  simp only [s40, vec]
  by_cases hnm : n = m
  · subst hnm
    rw [if_pos rfl] at h
    have hlen : (wdA n f).length = nw n := wdA_len
    have hlen2 : (wdA n g).length = nw n := wdA_len
    have hnw : nw n ≤ 100000000 := by unfold nw; omega
    (refine gw1 @hlen ?_; try exact True.intro)
    (repeat (refine And.intro (by omega) ?_))
    refine wp_inv (I40 n f g e c H) (nw n) ⟨0, _, _, .un, by rw [fill_zero]; rfl, rfl, by omega⟩ ?_
    rintro k st ⟨i, u1, u2, u3, rfl, rfl, hi⟩
    unfold bxv rblk vblk
    by_cases hil : i < nw n
    · have h1 : ((i : Int) < (nw n : Int)) = True := by simp; omega
      have hg : (wdA n f).getD i .un = .u64 (wd f i) := ld_rng hil
      have hg2 : (wdA n g).getD i .un = .u64 (wd g i) := ld_rng hil
      have hget := lget_at (ps := fillL (fun k => AV.u64 (wd e k)) (AV.u64 0) (nw n) i) (i := i) (by rw [fill_length (by omega)]; exact hil)
      (refine gw5 @h1 @hlen @hlen2 @hg @hg2 ?_; try exact True.intro)
      (repeat (refine And.intro (by omega) ?_))
      refine drawn _ (hc _ _ _) ?_
      rw [hop]
      (refine gw2 @h1 @hget ?_; try exact True.intro)
      (repeat (refine And.intro (by omega) ?_))
      exact ⟨nw n - (i + 1), by omega, i + 1, _, _, .un, by rw [← fill_set hil]; rfl, rfl, by omega⟩
    · have h1 : ((i : Int) < (nw n : Int)) = False := by simp; omega
      have hie : i = nw n := by omega
      have hf : fillL (fun k => AV.u64 (wd e k)) (AV.u64 0) (nw n) (nw n) = wdA n e := by rw [fill_all]; rfl
      subst hie
      (refine gw3 @h1 @hf @demA ?_; try exact True.intro)
      exact h
  · rw [if_neg hnm] at h
    have h1 : ((n : Int) = (m : Int)) = False := by simp; omega
    (refine gw1 @h1 ?_; try exact True.intro)
    exact h

theorem f21 {K : AV → Heap → Prop} {H : Heap} {n m : Nat} {f g : Nat → Bool} (hn : n ≤ 100000000) (h : K (if n = m then .tup [vec n fun i => f i != g i, .int 0] else .tup [.agg [.int 0, .nils], .int 11]) H) : wpF P [] 21 [vec n f, vec m g] H K := by
  refine wpF_go c21 rfl 4 ?_
  intro ha hb
  simp only [s21, vec]
  (refine gw0 ?_; try exact True.intro)
  refine f40 (f := f) (g := g) (e := fun i => f i != g i) (op := fun x y => x ^^^ y) hn (fun k => wd_xor) (fun H x y => f41) ?_
  by_cases hnm : n = m
  · rw [if_pos hnm] at h ⊢
    simp only [vec] at h ⊢
    (refine gw1 @bndA ?_; try exact True.intro)
    exact h
  · rw [if_neg hnm] at h ⊢
    (refine gw0 ?_; try exact True.intro)
    exact h
theorem f22 {K : AV → Heap → Prop} {H : Heap} {n m : Nat} {f g : Nat → Bool} (hn : n ≤ 100000000) (h : K (if n = m then .tup [vec n fun i => f i && g i, .int 0] else .tup [.agg [.int 0, .nils], .int 11]) H) : wpF P [] 22 [vec n f, vec m g] H K := by
  refine wpF_go c22 rfl 4 ?_
  intro ha hb
  simp only [s22, vec]
  (refine gw0 ?_; try exact True.intro)
  refine f40 (f := f) (g := g) (e := fun i => f i && g i) (op := fun x y => x &&& y) hn (fun k => wd_and) (fun H x y => f42) ?_
  by_cases hnm : n = m
  · rw [if_pos hnm] at h ⊢
    simp only [vec] at h ⊢
    (refine gw1 @bndA ?_; try exact True.intro)
    exact h
  · rw [if_neg hnm] at h ⊢
    (refine gw0 ?_; try exact True.intro)
    exact h

def I43 (a b : List (BitVec 64)) (H : Heap) (k : Nat) (st : St) : Prop :=
  ∃ (i : Nat) (u1 u2 u3 : AV), st = ⟨[.ro .leaf (a.map .u64), .ro .leaf (b.map .u64), .bool false, u1, .bool false, .int a.length, .int (i : Int), u2, u3], H⟩ ∧ k = a.length - i ∧ i ≤ a.length ∧ ∀ j, j < i → a.getD j 0 = b.getD j 0
theorem f43 {K : AV → Heap → Prop} {H : Heap} {a b : List (BitVec 64)} (h : K (.bool (decide (a = b))) H) : wpF P [] 43 [.ro .leaf (a.map .u64), .ro .leaf (b.map .u64)] H K := by
  refine wpF_go c43 rfl 3 ?_
  intro ha hb
  simp only [s43]
  have hla : (a.length : Int) ≤ 9223372036854775807 := by have := (ha (.ro .leaf (a.map .u64)) (by simp)).2.1; simp [maxLen] at this; omega
  by_cases hl : a.length = b.length
  · have hl' : ((a.length : Int) = (b.length : Int)) = True := by simp [hl]
    (refine gw1 @hl' ?_; try exact True.intro)
    refine wp_inv (I43 a b H) a.length ⟨0, _, _, _, rfl, rfl, by omega, fun j hj => by omega⟩ ?_
    rintro k st ⟨i, u1, u2, u3, rfl, rfl, hi, hsame⟩
    by_cases hil : i < a.length
    · have h1 : ((i : Int) < (a.length : Int)) = True := by simp; omega
      have h2 : ((i : Int) < (b.length : Int)) = True := by simp; omega
      have g1 := ld_u64 hil
      have g2 := ld_u64 (ns := b) (i := i) (by omega)
      by_cases he : a.getD i 0 = b.getD i 0
      · have hx : (b.getD i 0 = b.getD i 0) = True := eq_self _
        rw [he] at g1
        (refine gw5 @h1 @h2 @g1 @g2 @hx ?_; try exact True.intro)
        (repeat (refine And.intro (by omega) ?_))
        refine ⟨a.length - (i + 1), by omega, i + 1, _, _, _, rfl, rfl, by omega, fun j hj => ?_⟩
        by_cases hji : j = i
        · subst hji; exact he
        · exact hsame j (by omega)
      · have hx : (a.getD i 0 = b.getD i 0) = False := eq_false he
        have hne : decide (a = b) = false := by
          simp; intro e; exact he (by rw [e])
        rw [hne] at h
        (refine gw5 @h1 @h2 @g1 @g2 @hx ?_; try exact True.intro)
        (repeat (refine And.intro (by omega) ?_))
        exact h
    · have h1 : ((i : Int) < (a.length : Int)) = False := by simp; omega
      have hab : a = b := by
        apply List.ext_getElem hl
        intro j h1 h2
        have := hsame j (by omega)
        simpa [List.getD_eq_getElem?_getD, h1, h2] using this
      rw [decide_eq_true hab] at h
      (refine gw1 @h1 ?_; try exact True.intro)
      exact h
  · have hl' : ((a.length : Int) = (b.length : Int)) = False := by simp; omega
    rw [show decide (a = b) = false by simp; intro e; exact hl (by rw [e])] at h
    (refine gw1 @hl' ?_; try exact True.intro)
    exact h

/-- bits that end where they end -/
def nrm (n : Nat) (f : Nat → Bool) : Prop := ∀ i, n ≤ i → f i = false
theorem wds_inj {n : Nat} {f g : Nat → Bool} (hf : nrm n f) (hg : nrm n g) : wds n f = wds n g ↔ ∀ i, i < n → f i = g i := by
  constructor
  · intro h i hi
    have h1 := wf_wds (f := f) (n := n) (i := i) (by unfold nw; omega)
    have h2 := wf_wds (f := g) (n := n) (i := i) (by unfold nw; omega)
    rw [← h1, h, h2]
  · intro h
    unfold wds
    apply List.map_congr_left
    intro k hk
    apply wd_congr
    intro j hj
    by_cases h1 : 64 * k + j < n
    · exact h _ h1
    · rw [hf _ (by omega), hg _ (by omega)]
theorem f23 {K : AV → Heap → Prop} {H : Heap} {n m : Nat} {f g : Nat → Bool} (h : K (.bool (decide (n = m) && decide (wds n f = wds m g))) H) : wpF P [] 23 [vec n f, vec m g] H K := by
  refine wpF_go c23 rfl 3 ?_
  intro ha hb
  simp only [s23, vec]
  by_cases hnm : n = m
  · subst hnm
    (refine gw0 ?_; try exact True.intro)
    rw [wds_map, wds_map]
    refine f43 ?_
    rw [decide_eq_true rfl, Bool.true_and] at h
    (refine gw0 ?_; try exact True.intro)
    exact h
  · have h1 : ((n : Int) = (m : Int)) = False := by simp; omega
    rw [decide_eq_false hnm, Bool.false_and] at h
    (refine gw1 @h1 ?_; try exact True.intro)
    exact h
end Go.Proofs.Ytnnopgichjnhdaa
