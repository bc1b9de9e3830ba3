/-
  Layer 21 (gilboa): the chapter's example; GilboaChoices and GilboaSpreads walked.
-/
import Derived.Test.YtajkclooknanjaaKj
import Derived.Test.YtajkclooknanjaaV38
import Derived.Test.YtajkclooknanjaaV44
open Go Go.V
namespace Go.Proofs.Ytajkclooknanjaa
/-- trefoil/trefoillaw21.awake (0:, 1:c, 2:e, 3:s, 4:f, 5:p, 6:g) -/
def s6 : FnS := ⟨51, [0, 1, 2, 3, 4, 5, 6],
    (.seq (.reg [⟨.var 0, (.q .mv), [.c (.bool false)], none⟩])
    (.seq (.reg [⟨.new, (.e (.bsl 44 .leaf (.u64 0) 1 [0])), [.c (.u64 5)], none⟩,
      ⟨.new, (.call 7), [.c (.int 4), .t 7], none⟩,
      ⟨.new, (.q .mv), [.t 8], none⟩,
      ⟨.new, (.q (.ext 0)), [.t 9], none⟩,
      ⟨.new, (.q (.ext 1)), [.t 9], none⟩,
      ⟨.var 1, (.e (.alloc 25 (.st [.leaf, .leaf]) (.agg [(.int 0), .nils]))), [], none⟩,
      ⟨.none, (.e (.store (.st [.leaf, .leaf]))), [.t 1, .t 10], none⟩,
      ⟨.var 2, (.q .mv), [.t 11], none⟩])
    (.seq (.reg [⟨.new, (.e (.bsl 44 .leaf (.u64 0) 1 [0])), [.c (.u64 3)], none⟩,
      ⟨.new, (.call 11), [.c (.int 4), .c (.int 1), .t 7], none⟩,
      ⟨.new, (.q .mv), [.t 8], none⟩,
      ⟨.new, (.q (.ext 0)), [.t 9], none⟩,
      ⟨.new, (.q (.ext 1)), [.t 9], none⟩,
      ⟨.var 3, (.q .mv), [.t 10], none⟩,
      ⟨.var 4, (.q .mv), [.t 11], none⟩])
    (.seq (.reg [⟨.new, (.e (.bsl 44 .leaf (.u64 0) 1 [0])), [.c (.u64 5)], none⟩,
      ⟨.new, (.e (.bsl 44 .leaf (.u64 0) 1 [0])), [.c (.u64 3)], none⟩,
      ⟨.new, (.call 15), [.c (.int 4), .c (.int 1), .t 7, .t 8], none⟩,
      ⟨.new, (.q .mv), [.t 9], none⟩,
      ⟨.new, (.q (.ext 0)), [.t 10], none⟩,
      ⟨.new, (.q (.ext 1)), [.t 10], none⟩,
      ⟨.var 5, (.q .mv), [.t 11], none⟩,
      ⟨.var 6, (.q .mv), [.t 12], none⟩])
    (.seq (.reg [⟨.new, (.q .mv), [.t 2], none⟩,
      ⟨.new, (.q (.bin .eql)), [.t 7, .c (.int 0)], none⟩,
      ⟨.new, (.q .mv), [.t 8], none⟩,
      ⟨.new, (.q .mv), [.t 4], (some (9, true))⟩,
      ⟨.new, (.q .mv), [.t 2], (some (9, true))⟩,
      ⟨.new, (.q (.bin .eql)), [.t 10, .t 11], (some (9, true))⟩,
      ⟨.new, (.q .pick), [.t 9, .t 12, .c (.bool false)], none⟩,
      ⟨.new, (.q .mv), [.t 13], none⟩,
      ⟨.new, (.q .mv), [.t 6], (some (14, true))⟩,
      ⟨.new, (.q .mv), [.t 2], (some (14, true))⟩,
      ⟨.new, (.q (.bin .eql)), [.t 15, .t 16], (some (14, true))⟩,
      ⟨.new, (.q .pick), [.t 14, .t 17, .c (.bool false)], none⟩,
      ⟨.new, (.q .mv), [.t 18], none⟩,
      ⟨.new, (.q (.ld (.st [.leaf, .leaf]))), [.t 1], (some (19, true))⟩,
      ⟨.new, (.call 10), [.t 20], (some (19, true))⟩,
      ⟨.new, (.e (.bsl 4 .leaf (.bool false) 4 [0, 1, 2, 3])), [.c (.bool true), .c (.bool false), .c (.bool true), .c (.bool false)], (some (19, true))⟩,
      ⟨.new, (.call 9), [.t 21, .t 22], (some (19, true))⟩,
      ⟨.new, (.q .pick), [.t 19, .t 23, .c (.bool false)], none⟩,
      ⟨.new, (.q .mv), [.t 24], none⟩,
      ⟨.new, (.q .mv), [.t 3], (some (25, true))⟩,
      ⟨.new, (.e (.bsl 44 .leaf (.u64 0) 4 [0, 1, 2, 3])), [.c (.u64 3), .c (.u64 6), .c (.u64 12), .c (.u64 8)], (some (25, true))⟩,
      ⟨.new, (.call 17), [.t 26, .t 27], (some (25, true))⟩,
      ⟨.new, (.q .pick), [.t 25, .t 28, .c (.bool false)], none⟩,
      ⟨.new, (.q .mv), [.t 29], none⟩,
      ⟨.new, (.q .mv), [.t 5], (some (30, true))⟩,
      ⟨.new, (.e (.bsl 44 .leaf (.u64 0) 1 [0])), [.c (.u64 15)], (some (30, true))⟩,
      ⟨.new, (.call 17), [.t 31, .t 32], (some (30, true))⟩,
      ⟨.new, (.q .pick), [.t 30, .t 33, .c (.bool false)], none⟩,
      ⟨.var 0, (.q .mv), [.t 34], none⟩])
    .ret))))),
    [.t 0]⟩

/-- trefoil/trefoillaw21.GilboaChoices (0:width, 1:as, 4:, 5:v, 6:e, 7:w, 8:f, 11:) -/
def s3 : FnS := ⟨37, [0, 1, 4, 5, 6, 7, 8, 11],
    (.seq (.reg [⟨.var 2, (.q .mv), [.c (.bool false)], none⟩])
    (.seq (.seq (.reg [⟨.new, (.q .mv), [.t 1], none⟩,
      ⟨.new, (.q .len), [.t 8], none⟩,
      ⟨.var 7, (.q (.bin .gtr)), [.t 9, .c (.int 30)], none⟩])
    (.cond (.t 7) (.seq (.reg [⟨.new, (.call 6), [], none⟩,
      ⟨.var 2, (.q .mv), [.t 8], none⟩])
    .ret)
    .skip))
    (.seq (.reg [⟨.new, (.q .mv), [.t 0], none⟩,
      ⟨.new, (.q .mv), [.t 1], none⟩,
      ⟨.new, (.call 7), [.t 8, .t 9], none⟩,
      ⟨.new, (.q .mv), [.t 10], none⟩,
      ⟨.new, (.q (.ext 0)), [.t 11], none⟩,
      ⟨.new, (.q (.ext 1)), [.t 11], none⟩,
      ⟨.var 3, (.e (.alloc 25 (.st [.leaf, .leaf]) (.agg [(.int 0), .nils]))), [], none⟩,
      ⟨.none, (.e (.store (.st [.leaf, .leaf]))), [.t 3, .t 12], none⟩,
      ⟨.var 4, (.q .mv), [.t 13], none⟩])
    (.seq (.reg [⟨.new, (.q .mv), [.t 0], none⟩,
      ⟨.new, (.q .mv), [.t 1], none⟩,
      ⟨.new, (.call 8), [.t 8, .t 9], none⟩,
      ⟨.new, (.q .mv), [.t 10], none⟩,
      ⟨.new, (.q (.ext 0)), [.t 11], none⟩,
      ⟨.new, (.q (.ext 1)), [.t 11], none⟩,
      ⟨.var 5, (.q .mv), [.t 12], none⟩,
      ⟨.var 6, (.q .mv), [.t 13], none⟩])
    (.seq (.reg [⟨.new, (.q (.ld (.st [.leaf, .leaf]))), [.t 3], none⟩,
      ⟨.new, (.call 10), [.t 8], none⟩,
      ⟨.new, (.q .mv), [.t 5], none⟩,
      ⟨.new, (.call 9), [.t 9, .t 10], none⟩,
      ⟨.new, (.q .mv), [.t 11], none⟩,
      ⟨.new, (.q .mv), [.t 4], (some (12, true))⟩,
      ⟨.new, (.q .mv), [.t 6], (some (12, true))⟩,
      ⟨.new, (.q (.bin .eql)), [.t 13, .t 14], (some (12, true))⟩,
      ⟨.new, (.q .pick), [.t 12, .t 15, .c (.bool false)], none⟩,
      ⟨.new, (.q .mv), [.t 16], none⟩,
      ⟨.new, (.call 6), [], (some (17, true))⟩,
      ⟨.new, (.q .pick), [.t 17, .t 18, .c (.bool false)], none⟩,
      ⟨.var 2, (.q .mv), [.t 19], none⟩])
    .ret))))),
    [.t 2]⟩

/-- trefoil/trefoillaw21.GilboaSpreads (0:width, 1:n, 2:as, 3:l, 8:, 9:a, 10:e, 11:b, 12:f, 13:c, 14:g, 15:d, 16:h, 17:x, 18:i, 19:y, 20:k, 28:) -/
def s4 : FnS := ⟨105, [0, 1, 2, 3, 8, 9, 10, 11, 12, 13, 14, 15, 16, 17, 18, 19, 20, 28],
    (.seq (.reg [⟨.var 4, (.q .mv), [.c (.bool false)], none⟩])
    (.seq (.seq (.reg [⟨.new, (.q .mv), [.t 2], none⟩,
      ⟨.new, (.q .len), [.t 18], none⟩,
      ⟨.new, (.q (.bin .gtr)), [.t 19, .c (.int 60)], none⟩,
      ⟨.new, (.q .mv), [.t 20], none⟩,
      ⟨.new, (.q .mv), [.t 3], (some (21, false))⟩,
      ⟨.new, (.q .len), [.t 22], (some (21, false))⟩,
      ⟨.new, (.q (.bin .gtr)), [.t 23, .c (.int 300)], (some (21, false))⟩,
      ⟨.var 17, (.q .pick), [.t 21, .c (.bool true), .t 24], none⟩])
    (.cond (.t 17) (.seq (.reg [⟨.new, (.call 6), [], none⟩,
      ⟨.var 4, (.q .mv), [.t 18], none⟩])
    .ret)
    .skip))
    (.seq (.reg [⟨.new, (.q .mv), [.t 0], none⟩,
      ⟨.new, (.q .mv), [.t 1], none⟩,
      ⟨.new, (.q .mv), [.t 3], none⟩,
      ⟨.new, (.call 11), [.t 18, .t 19, .t 20], none⟩,
      ⟨.new, (.q .mv), [.t 21], none⟩,
      ⟨.new, (.q (.ext 0)), [.t 22], none⟩,
      ⟨.new, (.q (.ext 1)), [.t 22], none⟩,
      ⟨.var 5, (.q .mv), [.t 23], none⟩,
      ⟨.var 6, (.q .mv), [.t 24], none⟩])
    (.seq (.reg [⟨.new, (.q .mv), [.t 0], none⟩,
      ⟨.new, (.q .mv), [.t 1], none⟩,
      ⟨.new, (.q .mv), [.t 3], none⟩,
      ⟨.new, (.call 12), [.t 18, .t 19, .t 20], none⟩,
      ⟨.new, (.q .mv), [.t 21], none⟩,
      ⟨.new, (.q (.ext 0)), [.t 22], none⟩,
      ⟨.new, (.q (.ext 1)), [.t 22], none⟩,
      ⟨.var 7, (.q .mv), [.t 23], none⟩,
      ⟨.var 8, (.q .mv), [.t 24], none⟩])
    (.seq (.reg [⟨.new, (.q .mv), [.t 0], none⟩,
      ⟨.new, (.q .mv), [.t 1], none⟩,
      ⟨.new, (.q .mv), [.t 3], none⟩,
      ⟨.new, (.call 13), [.t 18, .t 19, .t 20], none⟩,
      ⟨.new, (.q .mv), [.t 21], none⟩,
      ⟨.new, (.q (.ext 0)), [.t 22], none⟩,
      ⟨.new, (.q (.ext 1)), [.t 22], none⟩,
      ⟨.var 9, (.q .mv), [.t 23], none⟩,
      ⟨.var 10, (.q .mv), [.t 24], none⟩])
    (.seq (.reg [⟨.new, (.q .mv), [.t 0], none⟩,
      ⟨.new, (.q .mv), [.t 1], none⟩,
      ⟨.new, (.q .mv), [.t 3], none⟩,
      ⟨.new, (.call 14), [.t 18, .t 19, .t 20], none⟩,
      ⟨.new, (.q .mv), [.t 21], none⟩,
      ⟨.new, (.q (.ext 0)), [.t 22], none⟩,
      ⟨.new, (.q (.ext 1)), [.t 22], none⟩,
      ⟨.var 11, (.q .mv), [.t 23], none⟩,
      ⟨.var 12, (.q .mv), [.t 24], none⟩])
    (.seq (.reg [⟨.new, (.q .mv), [.t 0], none⟩,
      ⟨.new, (.q .mv), [.t 1], none⟩,
      ⟨.new, (.q .mv), [.t 2], none⟩,
      ⟨.new, (.q .mv), [.t 3], none⟩,
      ⟨.new, (.call 15), [.t 18, .t 19, .t 20, .t 21], none⟩,
      ⟨.new, (.q .mv), [.t 22], none⟩,
      ⟨.new, (.q (.ext 0)), [.t 23], none⟩,
      ⟨.new, (.q (.ext 1)), [.t 23], none⟩,
      ⟨.var 13, (.q .mv), [.t 24], none⟩,
      ⟨.var 14, (.q .mv), [.t 25], none⟩])
    (.seq (.reg [⟨.new, (.q .mv), [.t 0], none⟩,
      ⟨.new, (.q .mv), [.t 1], none⟩,
      ⟨.new, (.q .mv), [.t 2], none⟩,
      ⟨.new, (.q .mv), [.t 3], none⟩,
      ⟨.new, (.call 16), [.t 18, .t 19, .t 20, .t 21], none⟩,
      ⟨.new, (.q .mv), [.t 22], none⟩,
      ⟨.new, (.q (.ext 0)), [.t 23], none⟩,
      ⟨.new, (.q (.ext 1)), [.t 23], none⟩,
      ⟨.var 15, (.q .mv), [.t 24], none⟩,
      ⟨.var 16, (.q .mv), [.t 25], none⟩])
    (.seq (.reg [⟨.new, (.q .mv), [.t 5], none⟩,
      ⟨.new, (.q .mv), [.t 7], none⟩,
      ⟨.new, (.call 17), [.t 18, .t 19], none⟩,
      ⟨.new, (.q .mv), [.t 20], none⟩,
      ⟨.new, (.q .mv), [.t 6], (some (21, true))⟩,
      ⟨.new, (.q .mv), [.t 8], (some (21, true))⟩,
      ⟨.new, (.q (.bin .eql)), [.t 22, .t 23], (some (21, true))⟩,
      ⟨.new, (.q .pick), [.t 21, .t 24, .c (.bool false)], none⟩,
      ⟨.new, (.q .mv), [.t 25], none⟩,
      ⟨.new, (.q .mv), [.t 9], (some (26, true))⟩,
      ⟨.new, (.q .mv), [.t 11], (some (26, true))⟩,
      ⟨.new, (.call 17), [.t 27, .t 28], (some (26, true))⟩,
      ⟨.new, (.q .pick), [.t 26, .t 29, .c (.bool false)], none⟩,
      ⟨.new, (.q .mv), [.t 30], none⟩,
      ⟨.new, (.q .mv), [.t 10], (some (31, true))⟩,
      ⟨.new, (.q .mv), [.t 12], (some (31, true))⟩,
      ⟨.new, (.q (.bin .eql)), [.t 32, .t 33], (some (31, true))⟩,
      ⟨.new, (.q .pick), [.t 31, .t 34, .c (.bool false)], none⟩,
      ⟨.new, (.q .mv), [.t 35], none⟩,
      ⟨.new, (.q .mv), [.t 13], (some (36, true))⟩,
      ⟨.new, (.q .mv), [.t 15], (some (36, true))⟩,
      ⟨.new, (.call 17), [.t 37, .t 38], (some (36, true))⟩,
      ⟨.new, (.q .pick), [.t 36, .t 39, .c (.bool false)], none⟩,
      ⟨.new, (.q .mv), [.t 40], none⟩,
      ⟨.new, (.q .mv), [.t 14], (some (41, true))⟩,
      ⟨.new, (.q .mv), [.t 16], (some (41, true))⟩,
      ⟨.new, (.q (.bin .eql)), [.t 42, .t 43], (some (41, true))⟩,
      ⟨.new, (.q .pick), [.t 41, .t 44, .c (.bool false)], none⟩,
      ⟨.new, (.q .mv), [.t 45], none⟩,
      ⟨.new, (.call 6), [], (some (46, true))⟩,
      ⟨.new, (.q .pick), [.t 46, .t 47, .c (.bool false)], none⟩,
      ⟨.var 4, (.q .mv), [.t 48], none⟩])
    .ret))))))))),
    [.t 4]⟩

set_option maxRecDepth 100000
set_option linter.unusedSimpArgs false
set_option linter.unusedVariables false
theorem c6 : cF P [] (drP P []) 6 0 s6.vm = some s6 := by kernel_rfl
theorem c3 : cF P [] (drP P []) 3 2 s3.vm = some s3 := by kernel_rfl
theorem c4 : cF P [] (drP P []) 4 4 s4.vm = some s4 := by kernel_rfl
theorem f10n {K : AV → Heap → Prop} {H : Heap} (h : K (.ro .leaf []) H) : wpF P [] 10 [.agg [.int 0, .nils]] H K := by
  refine wpF_go c10 rfl 3 ?_
  intro ha hb
  simp only [s10]
  (refine gw0 ?_; try exact True.intro)
  refine wp_unroll 1 ?_
  (refine gw0 ?_; try exact True.intro)
  exact h
theorem aw1 : chL 4 [5] = [true, false, true, false] := by decide
theorem aw2 : rL (spF 4 1 [3]) 4 = [.u64 3, .u64 6, .u64 12, .u64 8] := by
  have h : (List.range 4).map (spF 4 1 [3]) = [3, 6, 12, 8] := by decide
  rw [rL_map, h]; rfl
theorem aw3 : rL (roF 4 1 [5] [3]) 1 = [.u64 15] := by
  have h : (List.range 1).map (roF 4 1 [5] [3]) = [15] := by decide
  rw [rL_map, h]; rfl
theorem f6 {K : AV → Heap → Prop} {H : Heap} (h : K (.bool true) H) : wpF P [] 6 [] H K := by
  refine wpF_go c6 rfl 3 ?_
  intro ha hb
  simp only [s6]
  clear ha hb
  (refine gw0 ?_; try exact True.intro)
  refine wpF_give1 H.length 2 ?_
  (refine gw0 ?_; try exact True.intro)
  refine f7 (w := 4) (xs := [5]) (by decide) (by decide) (by decide) ?_
  rw [show (4 : Int).toNat * [(5 : BitVec 64)].length = 4 from rfl, show (4 : Int).toNat = 4 from rfl, aw1]
  have hw : wdA 4 (bfn [true, false, true, false]) = [.u64 5] := by
    show [AV.u64 _] = _
    rw [show wd (bfn [true, false, true, false]) 0 = 5 by decide +kernel]
  unfold vec
  rw [hw]
  (refine gw0 ?_; try exact True.intro)
  refine wpF_give1 (H.length + 2) 2 ?_
  (refine gw0 ?_; try exact True.intro)
  refine f11 (W := 4) (N := 1) (xs := [3]) (by decide) (by decide) (by decide) (by decide) ?_
  rw [show 4 * [(3 : BitVec 64)].length = 4 from rfl, aw2]
  (refine gw0 ?_; try exact True.intro)
  refine wpF_give1 (H.length + 3) 2 ?_
  have e1 : (H.length + 4 != H.length + 3) = true := by simp
  have e2 : (H.length + 4 < H.length + 5) = True := by simp
  (refine gw2 @e1 @e2 ?_; try exact True.intro)
  refine wpF_give1 (H.length + 4) 2 ?_
  (refine gw0 ?_; try exact True.intro)
  refine f15 (W := 4) (N := 1) (ys := [5]) (xs := [3]) (by decide) (by decide) rfl ?_
  rw [show [(3 : BitVec 64)].length = 1 from rfl, aw3]
  (refine gw0 ?_; try exact True.intro)
  have h10 : ∀ {K : AV → Heap → Prop} {H : Heap}, K (.ro .leaf [.bool true, .bool false, .bool true, .bool false]) H → wpF P [] 10 [.agg [.int 4, .ro .leaf [.u64 5]]] H K := fun h => by
    have := f10 (n := 4) (f := bfn [true, false, true, false]) (by decide) h
    unfold vec at this
    rw [hw] at this
    exact this
  refine h10 ?_
  (refine gw0 ?_; try exact True.intro)
  refine wpF_lend1 2 ?_
  (refine gw0 ?_; try exact True.intro)
  refine f9 (a := [true, false, true, false]) (b := [true, false, true, false]) (.inl rfl) (.inl rfl) ?_
  (refine gw0 ?_; try exact True.intro)
  refine wpF_lend1 2 ?_
  (refine gw0 ?_; try exact True.intro)
  refine f17 (a := [3, 6, 12, 8]) (b := [3, 6, 12, 8]) (.inl rfl) (.inl rfl) ?_
  (refine gw0 ?_; try exact True.intro)
  refine wpF_lend1 2 ?_
  (refine gw0 ?_; try exact True.intro)
  refine f17 (a := [15]) (b := [15]) (.inl rfl) (.inl rfl) ?_
  (refine gw0 ?_; try exact True.intro)
  exact h
theorem luL_len {F : Nat → BitVec 64} {t : Nat} : ((List.range t).map F).length = t := by simp
theorem same_isL {xs : List Bool} {A B : AV} {K : AV → Heap → Prop} {H : Heap} (hA : isL A (xs.map .bool)) (hB : isL B (xs.map .bool)) (h : K (.bool true) H) : wpF P [] 9 [A, B] H K := f9 hA hB (by simpa using h)
theorem nums_isL {xs : List (BitVec 64)} {A B : AV} {K : AV → Heap → Prop} {H : Heap} (hA : isL A (xs.map .u64)) (hB : isL B (xs.map .u64)) (h : K (.bool true) H) : wpF P [] 17 [A, B] H K := f17 hA hB (by simpa using h)
theorem f3 {K : AV → Heap → Prop} {H : Heap} {w : Int} {xs : List (BitVec 64)} (h : K (.bool true) H) : wpF P [] 3 [.int w, .ro .leaf (xs.map .u64)] H K := by
  refine wpF_go c3 rfl 3 ?_
  intro ha hb
  simp only [s3]
  clear ha hb
  have lm : (xs.map AV.u64).length = xs.length := by simp
  by_cases hl : 30 < xs.length
  · have h1 : ((30 : Int) < (xs.length : Int)) = True := by simp; omega
    (refine gw2 @lm @h1 ?_; try exact True.intro)
    refine f6 ?_
    (refine gw0 ?_; try exact True.intro)
    exact h
  have h1 : ((30 : Int) < (xs.length : Int)) = False := by simp; omega
  by_cases hc : (okW w 1 && fitL w xs) = true
  · obtain ⟨c1, c2⟩ := Bool.and_eq_true_iff.1 hc
    obtain ⟨⟨w1, w2⟩, _⟩ := okW_good c1
    obtain ⟨W, rfl⟩ : ∃ W : Nat, w = W := ⟨w.toNat, by omega⟩
    have hW : W ≤ 64 := by omega
    have hm : W * xs.length ≤ 64 * 30 := Nat.mul_le_mul hW (by omega)
    (refine gw2 @lm @h1 ?_; try exact True.intro)
    refine f7 (by omega) c1 c2 ?_
    rw [Int.toNat_natCast]
    have hcl := chL_len (w := W) (xs := xs)
    have h8 : ∀ {K : AV → Heap → Prop} {H : Heap}, K (.tup [lbL (chL W xs), .int 0]) H → wpF P [] 8 [.int (W : Int), .ro .leaf (xs.map .u64)] H K := fun h => f8 (by omega) c1 c2 h
    rw [← hcl] at hm ⊢
    generalize chL W xs = l at *
    have hv : ∀ {K : AV → Heap → Prop} {H : Heap}, K (.ro .leaf (l.map .bool)) H → wpF P [] 10 [vec l.length (bfn l)] H K := fun h => by
      refine f10 (by omega) ?_
      rw [bools_map]; exact h
    unfold vec at *
    (refine gw0 ?_; try exact True.intro)
    refine h8 ?_
    have hb := lbL_isL (l := l)
    generalize lbL l = A at *
    (refine gw0 ?_; try exact True.intro)
    refine hv ?_
    (refine gw0 ?_; try exact True.intro)
    refine same_isL (.inl rfl) hb ?_
    (refine gw0 ?_; try exact True.intro)
    refine f6 ?_
    (refine gw0 ?_; try exact True.intro)
    exact h
  · have hc' : (okW w 1 && fitL w xs) = false := by simpa using hc
    (refine gw2 @lm @h1 ?_; try exact True.intro)
    refine f7e (by omega) hc' ?_
    (refine gw0 ?_; try exact True.intro)
    refine f8e (by omega) hc' ?_
    (refine gw0 ?_; try exact True.intro)
    refine f10n ?_
    (refine gw0 ?_; try exact True.intro)
    refine same_isL (xs := []) (.inl rfl) (.inr ⟨rfl, rfl⟩) ?_
    (refine gw0 ?_; try exact True.intro)
    refine f6 ?_
    (refine gw0 ?_; try exact True.intro)
    exact h
theorem okW_nat {w n : Int} (h : okW w n = true) : ∃ W N : Nat, w = W ∧ n = N := by
  obtain ⟨⟨w1, _⟩, n1, _⟩ := okW_good h
  exact ⟨w.toNat, n.toNat, by omega, by omega⟩
/-- two functions that hand back the same list, or the same fault -/
def Both (f g : FuncId) (args : List AV) : Prop := ∃ (zs : List (BitVec 64)) (A B : AV) (e : Int), isL A (zs.map .u64) ∧ isL B (zs.map .u64) ∧ (∀ (K : AV → Heap → Prop) (H : Heap), K (.tup [A, .int e]) H → wpF P [] f args H K) ∧ (∀ (K : AV → Heap → Prop) (H : Heap), K (.tup [B, .int e]) H → wpF P [] g args H K)
theorem both_e {f g : FuncId} {args : List AV} (h1 : ∀ (K : AV → Heap → Prop) (H : Heap), K (.tup [.nils, .int 11]) H → wpF P [] f args H K) (h2 : ∀ (K : AV → Heap → Prop) (H : Heap), K (.tup [.nils, .int 11]) H → wpF P [] g args H K) : Both f g args := ⟨[], .nils, .nils, 11, .inr ⟨rfl, rfl⟩, .inr ⟨rfl, rfl⟩, h1, h2⟩
theorem both_g {f g : FuncId} {args : List AV} {F : Nat → BitVec 64} {t : Nat} (h1 : ∀ (K : AV → Heap → Prop) (H : Heap), K (.tup [.ro .leaf (rL F t), .int 0]) H → wpF P [] f args H K) (h2 : ∀ (K : AV → Heap → Prop) (H : Heap), K (.tup [luL F t, .int 0]) H → wpF P [] g args H K) : Both f g args :=
  ⟨(List.range t).map F, .ro .leaf (rL F t), luL F t, 0, by rw [rL_map]; exact .inl rfl, luL_isL, h1, h2⟩
theorem both_spread {w n : Int} {xs : List (BitVec 64)} (hn : xs.length ≤ 300) : Both 11 12 [.int w, .int n, .ro .leaf (xs.map .u64)] := by
  by_cases hc : okW w n = true → (decide (Int.tmod xs.length n = 0) && fitL w xs) = false
  · exact both_e (fun K H h => f11e (by omega) hc h) fun K H h => f12e (by omega) hc h
  · have h1 : okW w n = true := by
      cases h : okW w n with
      | true => rfl
      | false => exact absurd (fun hh => by rw [h] at hh; cases hh) hc
    have h2 : (decide (Int.tmod xs.length n = 0) && fitL w xs) = true := by
      cases h : (decide (Int.tmod xs.length n = 0) && fitL w xs) with
      | true => rfl
      | false => exact absurd (fun _ => h) hc
    obtain ⟨h3, h4⟩ := Bool.and_eq_true_iff.1 h2
    obtain ⟨W, N, rfl, rfl⟩ := okW_nat h1
    have h5 : xs.length % N = 0 := by
      have := of_decide_eq_true h3
      rw [← Int.ofNat_tmod] at this
      exact Int.ofNat_eq_zero.1 this
    exact both_g (fun K H h => f11 (by omega) h1 h5 h4 h) fun K H h => f12 (by omega) h1 h5 h4 h
theorem both_fold {w n : Int} {xs : List (BitVec 64)} (hn : xs.length ≤ 300) : Both 13 14 [.int w, .int n, .ro .leaf (xs.map .u64)] := by
  by_cases hc : okW w n = true → (decide (Int.tmod xs.length (w * n) = 0) && fitL w xs) = false
  · exact both_e (fun K H h => f13e (by omega) hc h) fun K H h => f14e (by omega) hc h
  · have h1 : okW w n = true := by
      cases h : okW w n with
      | true => rfl
      | false => exact absurd (fun hh => by rw [h] at hh; cases hh) hc
    have h2 : (decide (Int.tmod xs.length (w * n) = 0) && fitL w xs) = true := by
      cases h : (decide (Int.tmod xs.length (w * n) = 0) && fitL w xs) with
      | true => rfl
      | false => exact absurd (fun _ => h) hc
    obtain ⟨h3, h4⟩ := Bool.and_eq_true_iff.1 h2
    obtain ⟨W, N, rfl, rfl⟩ := okW_nat h1
    have h5 : xs.length % (W * N) = 0 := by
      have := of_decide_eq_true h3
      rw [show (W : Int) * (N : Int) = ((W * N : Nat) : Int) by simp, ← Int.ofNat_tmod] at this
      exact Int.ofNat_eq_zero.1 this
    exact both_g (fun K H h => f13 (by omega) h1 h5 h4 h) fun K H h => f14 (by omega) h1 h5 h4 h
theorem both_rows {w n : Int} {ys xs : List (BitVec 64)} (hm : ys.length ≤ 60) (hn : xs.length ≤ 300) : Both 15 16 [.int w, .int n, .ro .leaf (ys.map .u64), .ro .leaf (xs.map .u64)] := by
  by_cases hc : okW w n = true → ¬ (xs.length : Int) = n * ys.length
  · exact both_e (fun K H h => f15e (by omega) (by omega) hc h) fun K H h => f16e (by omega) (by omega) hc h
  · have h1 : okW w n = true := by
      cases h : okW w n with
      | true => rfl
      | false => exact absurd (fun hh => by rw [h] at hh; cases hh) hc
    have h2 : (xs.length : Int) = n * ys.length := by
      apply Classical.byContradiction
      intro h
      exact hc fun _ => h
    obtain ⟨W, N, rfl, rfl⟩ := okW_nat h1
    have h5 : xs.length = N * ys.length := by
      rw [show (N : Int) * (ys.length : Int) = ((N * ys.length : Nat) : Int) by simp] at h2
      exact Int.ofNat_inj.1 h2
    exact both_g (fun K H h => f15 (by omega) h1 h5 h) fun K H h => f16 (by omega) h1 h5 h
theorem f4 {K : AV → Heap → Prop} {H : Heap} {w n : Int} {ys xs : List (BitVec 64)} (h : K (.bool true) H) : wpF P [] 4 [.int w, .int n, .ro .leaf (ys.map .u64), .ro .leaf (xs.map .u64)] H K := by
  refine wpF_go c4 rfl 3 ?_
  intro ha hb
  simp only [s4]
  clear ha hb
  have lm : (xs.map AV.u64).length = xs.length := by simp
  have la : (ys.map AV.u64).length = ys.length := by simp
  by_cases hl : 60 < ys.length
  · have h1 : ((60 : Int) < (ys.length : Int)) = True := by simp; omega
    (refine gw2 @la @h1 ?_; try exact True.intro)
    refine f6 ?_
    (refine gw0 ?_; try exact True.intro)
    exact h
  have h1 : ((60 : Int) < (ys.length : Int)) = False := by simp; omega
  by_cases hl2 : 300 < xs.length
  · have h2 : ((300 : Int) < (xs.length : Int)) = True := by simp; omega
    (refine gw4 @la @h1 @lm @h2 ?_; try exact True.intro)
    refine f6 ?_
    (refine gw0 ?_; try exact True.intro)
    exact h
  have h2 : ((300 : Int) < (xs.length : Int)) = False := by simp; omega
  obtain ⟨z1, A1, B1, e1, a1, b1, p1, q1⟩ := both_spread (w := w) (n := n) (xs := xs) (by omega)
  obtain ⟨z2, A2, B2, e2, a2, b2, p2, q2⟩ := both_fold (w := w) (n := n) (xs := xs) (by omega)
  obtain ⟨z3, A3, B3, e3, a3, b3, p3, q3⟩ := both_rows (w := w) (n := n) (ys := ys) (xs := xs) (by omega) (by omega)
  (refine gw4 @la @h1 @lm @h2 ?_; try exact True.intro)
  refine p1 _ _ ?_
  (refine gw0 ?_; try exact True.intro)
  refine q1 _ _ ?_
  (refine gw0 ?_; try exact True.intro)
  refine p2 _ _ ?_
  (refine gw0 ?_; try exact True.intro)
  refine q2 _ _ ?_
  (refine gw0 ?_; try exact True.intro)
  refine p3 _ _ ?_
  (refine gw0 ?_; try exact True.intro)
  refine q3 _ _ ?_
  (refine gw0 ?_; try exact True.intro)
  refine nums_isL a1 b1 ?_
  (refine gw0 ?_; try exact True.intro)
  refine nums_isL a2 b2 ?_
  (refine gw0 ?_; try exact True.intro)
  refine nums_isL a3 b3 ?_
  (refine gw0 ?_; try exact True.intro)
  refine f6 ?_
  (refine gw0 ?_; try exact True.intro)
  exact h
end Go.Proofs.Ytajkclooknanjaa
