/-
  The law BitsMakes returns true for all inputs: the bits of all truths and of all words are what the reference says.
-/
import Derived.Test.YtnnopgichjnhdaaXp
import Derived.Test.YtnnopgichjnhdaaV38
open Go Go.V
namespace Go.Proofs.Ytnnopgichjnhdaa
set_option maxRecDepth 100000
set_option linter.unusedSimpArgs false
set_option linter.unusedVariables false
/-- trefoil/trefoillaw02.BitsMakes (0:l, 1:n, 2:w, 6:, 7:v, 8:e, 9:x, 10:f, 11:z, 12:g, 13:z, 14:g, 22:, 36:, 48:, 75:, 89:, 99:) -/
def s3 : FnS := ⟨122, [0, 1, 2, 6, 7, 8, 9, 10, 11, 12, 13, 14, 22, 36, 48, 75, 89, 99],
    (.seq (.reg [⟨.var 3, (.q .mv), [.c (.bool false)], none⟩])
    (.seq (.seq (.reg [⟨.new, (.q .mv), [.t 0], none⟩,
      ⟨.new, (.q .len), [.t 18], none⟩,
      ⟨.new, (.q (.bin .gtr)), [.t 19, .c (.int 1000)], none⟩,
      ⟨.new, (.q .mv), [.t 20], none⟩,
      ⟨.new, (.q .mv), [.t 2], (some (21, false))⟩,
      ⟨.new, (.q .len), [.t 22], (some (21, false))⟩,
      ⟨.new, (.q (.bin .gtr)), [.t 23, .c (.int 20)], (some (21, false))⟩,
      ⟨.var 12, (.q .pick), [.t 21, .c (.bool true), .t 24], none⟩])
    (.cond (.t 12) (.seq (.reg [⟨.new, (.call 9), [], none⟩,
      ⟨.var 3, (.q .mv), [.t 18], none⟩])
    .ret)
    .skip))
    (.seq (.reg [⟨.new, (.q .mv), [.t 0], none⟩,
      ⟨.new, (.call 10), [.t 18], none⟩,
      ⟨.new, (.q .mv), [.t 19], none⟩,
      ⟨.new, (.q (.ext 0)), [.t 20], none⟩,
      ⟨.new, (.q (.ext 1)), [.t 20], none⟩,
      ⟨.var 4, (.e (.alloc 26 (.st [.leaf, .leaf]) (.agg [(.int 0), .nils]))), [], none⟩,
      ⟨.none, (.e (.store (.st [.leaf, .leaf]))), [.t 4, .t 21], none⟩,
      ⟨.var 5, (.q .mv), [.t 22], none⟩])
    (.seq (.seq (.reg [⟨.new, (.q .mv), [.t 5], none⟩,
      ⟨.new, (.q (.bin .neq)), [.t 18, .c (.int 0)], none⟩,
      ⟨.new, (.q .mv), [.t 19], none⟩,
      ⟨.new, (.q (.ld (.st [.leaf, .leaf]))), [.t 4], (some (20, false))⟩,
      ⟨.new, (.q .mv), [.t 0], (some (20, false))⟩,
      ⟨.new, (.call 11), [.t 21, .t 22], (some (20, false))⟩,
      ⟨.new, (.q (.un .not)), [.t 23], (some (20, false))⟩,
      ⟨.var 13, (.q .pick), [.t 20, .c (.bool true), .t 24], none⟩])
    (.cond (.t 13) (.seq (.reg [⟨.var 3, (.q .mv), [.c (.bool false)], none⟩])
    .ret)
    .skip))
    (.seq (.reg [⟨.new, (.q .mv), [.t 1], none⟩,
      ⟨.new, (.q .mv), [.t 2], none⟩,
      ⟨.new, (.call 12), [.t 18, .t 19], none⟩,
      ⟨.new, (.q .mv), [.t 20], none⟩,
      ⟨.new, (.q (.ext 0)), [.t 21], none⟩,
      ⟨.new, (.q (.ext 1)), [.t 21], none⟩,
      ⟨.var 6, (.e (.alloc 26 (.st [.leaf, .leaf]) (.agg [(.int 0), .nils]))), [], none⟩,
      ⟨.none, (.e (.store (.st [.leaf, .leaf]))), [.t 6, .t 22], none⟩,
      ⟨.var 7, (.q .mv), [.t 23], none⟩])
    (.seq (.seq (.reg [⟨.new, (.q .mv), [.t 1], none⟩,
      ⟨.new, (.q (.bin .lss)), [.t 18, .c (.int 0)], none⟩,
      ⟨.new, (.q .mv), [.t 19], none⟩,
      ⟨.new, (.q .mv), [.t 1], (some (20, false))⟩,
      ⟨.new, (.q (.bin .gtr)), [.t 21, .c (.int 4194304)], (some (20, false))⟩,
      ⟨.var 14, (.q .pick), [.t 20, .c (.bool true), .t 22], none⟩])
    (.cond (.t 14) (.seq (.reg [⟨.new, (.q .mv), [.t 1], none⟩,
      ⟨.new, (.call 13), [.t 18], none⟩,
      ⟨.new, (.q .mv), [.t 19], none⟩,
      ⟨.new, (.q (.ext 0)), [.t 20], none⟩,
      ⟨.new, (.q (.ext 1)), [.t 20], none⟩,
      ⟨.var 8, (.e (.alloc 26 (.st [.leaf, .leaf]) (.agg [(.int 0), .nils]))), [], none⟩,
      ⟨.none, (.e (.store (.st [.leaf, .leaf]))), [.t 8, .t 21], none⟩,
      ⟨.var 9, (.q .mv), [.t 22], none⟩])
    (.seq (.reg [⟨.new, (.q .mv), [.t 7], none⟩,
      ⟨.new, (.q (.bin .eql)), [.t 18, .c (.int 2)], none⟩,
      ⟨.new, (.q .mv), [.t 19], none⟩,
      ⟨.new, (.q (.ld (.st [.leaf, .leaf]))), [.t 6], (some (20, true))⟩,
      ⟨.new, (.call 14), [.t 21], (some (20, true))⟩,
      ⟨.new, (.q (.bin .eql)), [.t 22, .c (.int 0)], (some (20, true))⟩,
      ⟨.new, (.q .pick), [.t 20, .t 23, .c (.bool false)], none⟩,
      ⟨.new, (.q .mv), [.t 24], none⟩,
      ⟨.new, (.q .mv), [.t 9], (some (25, true))⟩,
      ⟨.new, (.q .mv), [.t 7], (some (25, true))⟩,
      ⟨.new, (.q (.bin .eql)), [.t 26, .t 27], (some (25, true))⟩,
      ⟨.new, (.q .pick), [.t 25, .t 28, .c (.bool false)], none⟩,
      ⟨.new, (.q .mv), [.t 29], none⟩,
      ⟨.new, (.q (.ld (.st [.leaf, .leaf]))), [.t 8], (some (30, true))⟩,
      ⟨.new, (.call 14), [.t 31], (some (30, true))⟩,
      ⟨.new, (.q (.bin .eql)), [.t 32, .c (.int 0)], (some (30, true))⟩,
      ⟨.new, (.q .pick), [.t 30, .t 33, .c (.bool false)], none⟩,
      ⟨.new, (.q .mv), [.t 34], none⟩,
      ⟨.new, (.call 9), [], (some (35, true))⟩,
      ⟨.new, (.q .pick), [.t 35, .t 36, .c (.bool false)], none⟩,
      ⟨.var 3, (.q .mv), [.t 37], none⟩])
    .ret))
    .skip))
    (.seq (.seq (.reg [⟨.new, (.q .mv), [.t 1], none⟩,
      ⟨.var 15, (.q (.bin .leq)), [.t 18, .c (.int 2000)], none⟩])
    (.cond (.t 15) (.seq (.reg [⟨.new, (.q .mv), [.t 1], none⟩,
      ⟨.new, (.call 13), [.t 18], none⟩,
      ⟨.new, (.q .mv), [.t 19], none⟩,
      ⟨.new, (.q (.ext 0)), [.t 20], none⟩,
      ⟨.new, (.q (.ext 1)), [.t 20], none⟩,
      ⟨.var 10, (.e (.alloc 26 (.st [.leaf, .leaf]) (.agg [(.int 0), .nils]))), [], none⟩,
      ⟨.none, (.e (.store (.st [.leaf, .leaf]))), [.t 10, .t 21], none⟩,
      ⟨.var 11, (.q .mv), [.t 22], none⟩])
    (.seq (.draw [⟨.new, (.q .mv), [.t 11], none⟩,
      ⟨.new, (.q (.bin .neq)), [.t 18, .c (.int 0)], none⟩,
      ⟨.new, (.q .mv), [.t 19], none⟩,
      ⟨.new, (.q (.ld (.st [.leaf, .leaf]))), [.t 10], (some (20, false))⟩,
      ⟨.new, (.q .mv), [.t 1], (some (20, false))⟩,
      ⟨.new, (.e (.mksl 4 .leaf 1 (.bool false))), [.t 22, .t 22], (some (20, false))⟩,
      ⟨.new, (.call 11), [.t 21, .t 23], (some (20, false))⟩,
      ⟨.new, (.q (.un .not)), [.t 24], (some (20, false))⟩,
      ⟨.var 16, (.q .pick), [.t 20, .c (.bool true), .t 25], none⟩])
    (.cond (.t 16) (.seq (.reg [⟨.var 3, (.q .mv), [.c (.bool false)], none⟩])
    .ret)
    .skip)))
    .skip))
    (.seq (.seq (.reg [⟨.new, (.q .mv), [.t 2], none⟩,
      ⟨.new, (.q .len), [.t 18], none⟩,
      ⟨.new, (.q .mv), [.t 1], none⟩,
      ⟨.new, (.q (.bin .quo)), [.t 20, .c (.int 64)], none⟩,
      ⟨.new, (.q .mv), [.t 1], none⟩,
      ⟨.new, (.q (.bin .rem)), [.t 22, .c (.int 64)], none⟩,
      ⟨.new, (.q (.bin .add)), [.t 23, .c (.int 63)], none⟩,
      ⟨.new, (.q (.bin .quo)), [.t 24, .c (.int 64)], none⟩,
      ⟨.new, (.q (.bin .add)), [.t 21, .t 25], none⟩,
      ⟨.var 17, (.q (.bin .neq)), [.t 19, .t 26], none⟩])
    (.cond (.t 17) (.seq (.reg [⟨.new, (.q .mv), [.t 7], none⟩,
      ⟨.new, (.q (.bin .eql)), [.t 18, .c (.int 11)], none⟩,
      ⟨.new, (.q .mv), [.t 19], none⟩,
      ⟨.new, (.q (.ld (.st [.leaf, .leaf]))), [.t 6], (some (20, true))⟩,
      ⟨.new, (.call 14), [.t 21], (some (20, true))⟩,
      ⟨.new, (.q (.bin .eql)), [.t 22, .c (.int 0)], (some (20, true))⟩,
      ⟨.new, (.q .pick), [.t 20, .t 23, .c (.bool false)], none⟩,
      ⟨.new, (.q .mv), [.t 24], none⟩,
      ⟨.new, (.call 9), [], (some (25, true))⟩,
      ⟨.new, (.q .pick), [.t 25, .t 26, .c (.bool false)], none⟩,
      ⟨.var 3, (.q .mv), [.t 27], none⟩])
    .ret)
    .skip))
    (.seq (.draw [⟨.new, (.q .mv), [.t 7], none⟩,
      ⟨.new, (.q (.bin .eql)), [.t 18, .c (.int 0)], none⟩,
      ⟨.new, (.q .mv), [.t 19], none⟩,
      ⟨.new, (.q (.ld (.st [.leaf, .leaf]))), [.t 6], (some (20, true))⟩,
      ⟨.new, (.q .mv), [.t 1], (some (20, true))⟩,
      ⟨.new, (.q .mv), [.t 2], (some (20, true))⟩,
      ⟨.new, (.call 15), [.t 22, .t 23], (some (20, true))⟩,
      ⟨.new, (.call 11), [.t 21, .t 24], (some (20, true))⟩,
      ⟨.new, (.q .pick), [.t 20, .t 25, .c (.bool false)], none⟩,
      ⟨.new, (.q .mv), [.t 26], none⟩,
      ⟨.new, (.call 9), [], (some (27, true))⟩,
      ⟨.new, (.q .pick), [.t 27, .t 28, .c (.bool false)], none⟩,
      ⟨.var 3, (.q .mv), [.t 29], none⟩])
    .ret))))))))),
    [.t 3]⟩

theorem c3 : cF P [] (drP P []) 3 3 s3.vm = some s3 := by kernel_rfl
theorem f3 {K : AV → Heap → Prop} {H : Heap} {l : List Bool} {n : Int} {w : List (BitVec 64)} (h : K (.bool true) H) : wpF P [] 3 [.ro .leaf (l.map .bool), .int n, .ro .leaf (w.map .u64)] H K := by
  refine wpF_go c3 rfl 3 ?_
  intro ha hb
  simp only [s3]
  by_cases hl : 1000 < l.length
  · have h1 : ((1000 : Int) < (l.length : Int)) = True := by simp; omega
    (refine gw1 @h1 ?_; try exact True.intro)
    refine f9 ?_
    (refine gw0 ?_; try exact True.intro)
    exact h
  have h1 : ((1000 : Int) < (l.length : Int)) = False := by simp; omega
  by_cases hw : 20 < w.length
  · have h2 : ((20 : Int) < (w.length : Int)) = True := by simp; omega
    (refine gw2 @h1 @h2 ?_; try exact True.intro)
    refine f9 ?_
    (refine gw0 ?_; try exact True.intro)
    exact h
  have h2 : ((20 : Int) < (w.length : Int)) = False := by simp; omega
  (refine gw2 @h1 @h2 ?_; try exact True.intro)
  refine f10 (by omega) ?_
  simp only [vec]
  (refine gw0 ?_; try exact True.intro)
  refine f11 (l := l) (by omega) ?_
  (refine gw0 ?_; try exact True.intro)
  by_cases hn : n < 0 ∨ 4194304 < n
  · refine f12e hn ?_
    by_cases h0 : n < 0
    · (refine gw1 @h0 ?_; try exact True.intro)
      refine f13e hn ?_
      (refine gw0 ?_; try exact True.intro)
      refine f14n ?_
      (refine gw0 ?_; try exact True.intro)
      refine f14n ?_
      (refine gw0 ?_; try exact True.intro)
      refine f9 ?_
      (refine gw0 ?_; try exact True.intro)
      exact h
    · have h3 : 4194304 < n := by omega
      (refine gw2 @h0 @h3 ?_; try exact True.intro)
      refine f13e hn ?_
      (refine gw0 ?_; try exact True.intro)
      refine f14n ?_
      (refine gw0 ?_; try exact True.intro)
      refine f14n ?_
      (refine gw0 ?_; try exact True.intro)
      refine f9 ?_
      (refine gw0 ?_; try exact True.intro)
      exact h
  have h0 : (n < 0) = False := by simp; omega
  have h3 : (4194304 < n) = False := by simp; omega
  obtain ⟨m, rfl⟩ := Int.eq_ofNat_of_zero_le (show 0 ≤ n by omega)
  have hm : m ≤ 4194304 := by omega
  have hd := tdiv64 m
  have hmo := tmod64 m
  have hd2 : Int.tdiv (((m % 64 : Nat) : Int) + 63) 64 = (((m % 64 + 63) / 64 : Nat) : Int) := tdiv64 (m % 64 + 63)
  have hsum : ((m / 64 : Nat) : Int) + (((m % 64 + 63) / 64 : Nat) : Int) = ((nw m : Nat) : Int) := by unfold nw; omega
  have hnwb : nw m ≤ 100000 := by unfold nw; omega
  by_cases hwl : w.length = nw m
  · have e1 : ((w.length : Int) = (nw m : Int)) = True := by simp; omega
    refine f12 hm hwl ?_
    simp only [vec]
    by_cases h2000 : m ≤ 2000
    · have h4 : ((m : Int) ≤ 2000) = True := by simp; omega
      (refine gw3 @h0 @h3 @h4 ?_; try exact True.intro)
      refine f13 hm ?_
      intro B
      unfold wblk
      have hz : ∀ {kp : Nat → Bool} {N : Nat} {h : Heap}, mapO (demK kp N h 2) (List.take m (List.replicate m (AV.bool false))) = some ((List.replicate m false).map .bool) := by
        intro kp N h
        rw [List.take_of_length_le (by simp), List.map_replicate]
        exact mapO_plain (by intro x hx; rw [(List.mem_replicate.1 hx).2]; rfl)
      have ez : H.length + 2 + 1 = H.length + 3 := rfl
      (refine gw1 @ez ?_; try exact True.intro)
      (repeat (refine And.intro (by omega) ?_))
      refine drawn (.bool true) (wpF_lend1 3 ?_) ?_
      · (refine gw2 @demA @hz ?_; try exact True.intro)
        refine f11z (by omega) ?_
        (refine gw0 ?_; try exact True.intro)
      (refine gw8 @h0 @h3 @h4 @hd @hmo @hd2 @hsum @e1 ?_; try exact True.intro)
      (repeat (refine And.intro (by omega) ?_))
      refine drawn _ (f15 (by omega) (by omega) ⟨rfl, rfl⟩) ?_
      (refine gw0 ?_; try exact True.intro)
      refine drawn (.bool true) (f11f (by omega) (.inl rfl) ⟨rfl, rfl⟩) ?_
      (refine gw0 ?_; try exact True.intro)
      refine drawn (.bool true) (f9 ⟨rfl, rfl⟩) ?_
      (refine gw0 ?_; try exact True.intro)
      exact h
    · have h4 : ((m : Int) ≤ 2000) = False := by simp; omega
      (refine gw8 @h0 @h3 @h4 @hd @hmo @hd2 @hsum @e1 ?_; try exact True.intro)
      (repeat (refine And.intro (by omega) ?_))
      refine drawn _ (f15 (by omega) (by omega) ⟨rfl, rfl⟩) ?_
      (refine gw0 ?_; try exact True.intro)
      refine drawn (.bool true) (f11f (by omega) (.inl rfl) ⟨rfl, rfl⟩) ?_
      (refine gw0 ?_; try exact True.intro)
      refine drawn (.bool true) (f9 ⟨rfl, rfl⟩) ?_
      (refine gw0 ?_; try exact True.intro)
      exact h
  · have e1 : ((w.length : Int) = (nw m : Int)) = False := by simp; omega
    refine f12s hm hwl ?_
    by_cases h2000 : m ≤ 2000
    · have h4 : ((m : Int) ≤ 2000) = True := by simp; omega
      (refine gw3 @h0 @h3 @h4 ?_; try exact True.intro)
      refine f13 hm ?_
      intro B
      unfold wblk
      have hz : ∀ {kp : Nat → Bool} {N : Nat} {h : Heap}, mapO (demK kp N h 2) (List.take m (List.replicate m (AV.bool false))) = some ((List.replicate m false).map .bool) := by
        intro kp N h
        rw [List.take_of_length_le (by simp), List.map_replicate]
        exact mapO_plain (by intro x hx; rw [(List.mem_replicate.1 hx).2]; rfl)
      have ez : H.length + 2 + 1 = H.length + 3 := rfl
      (refine gw1 @ez ?_; try exact True.intro)
      (repeat (refine And.intro (by omega) ?_))
      refine drawn (.bool true) (wpF_lend1 3 ?_) ?_
      · (refine gw2 @demA @hz ?_; try exact True.intro)
        refine f11z (by omega) ?_
        (refine gw0 ?_; try exact True.intro)
      (refine gw8 @h0 @h3 @h4 @hd @hmo @hd2 @hsum @e1 ?_; try exact True.intro)
      (repeat (refine And.intro (by omega) ?_))
      refine f14n ?_
      (refine gw0 ?_; try exact True.intro)
      refine f9 ?_
      (refine gw0 ?_; try exact True.intro)
      exact h
    · have h4 : ((m : Int) ≤ 2000) = False := by simp; omega
      (refine gw8 @h0 @h3 @h4 @hd @hmo @hd2 @hsum @e1 ?_; try exact True.intro)
      (repeat (refine And.intro (by omega) ?_))
      refine f14n ?_
      (refine gw0 ?_; try exact True.intro)
      refine f9 ?_
      (refine gw0 ?_; try exact True.intro)
      exact h
end Go.Proofs.Ytnnopgichjnhdaa
