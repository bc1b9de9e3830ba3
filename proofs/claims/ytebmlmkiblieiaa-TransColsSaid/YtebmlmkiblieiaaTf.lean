/-
  The law TransCols returns true for all inputs: the columns of all rows, and that these are made of them again.
-/
import Derived.Test.YtebmlmkiblieiaaTe
import Derived.Test.YtebmlmkiblieiaaV38
open Go Go.V
namespace Go.Proofs.Ytebmlmkiblieiaa
/-- trefoil/trefoillaw16.TransCols (0:rows, 2:, 3:l, 4:e, 5:i, 6:r, 7:f, 8:j, 11:, 24:, 26:, 38:, 52:, 56:, 67:) -/
def s9 : FnS := ⟨69, [0, 2, 3, 4, 5, 6, 7, 8, 11, 24, 26, 38, 52, 56, 67],
    (.seq (.reg [⟨.var 1, (.q .mv), [.c (.bool false)], none⟩])
    (.seq (.seq (.reg [⟨.new, (.q .mv), [.t 0], none⟩,
      ⟨.new, (.q .len), [.t 15], none⟩,
      ⟨.var 8, (.q (.bin .gtr)), [.t 16, .c (.int 300)], none⟩])
    (.cond (.t 8) (.seq (.reg [⟨.new, (.call 36), [], none⟩,
      ⟨.var 1, (.q .mv), [.t 15], none⟩])
    .ret)
    .skip))
    (.seq (.reg [⟨.new, (.q .mv), [.t 0], none⟩,
      ⟨.new, (.call 37), [.t 15], none⟩,
      ⟨.new, (.q .mv), [.t 16], none⟩,
      ⟨.new, (.q (.ext 0)), [.t 17], none⟩,
      ⟨.new, (.q (.ext 1)), [.t 17], none⟩,
      ⟨.var 2, (.q .mv), [.t 18], none⟩,
      ⟨.var 3, (.q .mv), [.t 19], none⟩])
    (.seq (.seq (.reg [⟨.new, (.q .mv), [.t 3], none⟩,
      ⟨.new, (.q (.bin .neq)), [.t 15, .c (.int 0)], none⟩,
      ⟨.new, (.q .mv), [.t 16], none⟩,
      ⟨.new, (.q .mv), [.t 2], (some (17, false))⟩,
      ⟨.new, (.q .len), [.t 18], (some (17, false))⟩,
      ⟨.new, (.q (.bin .neq)), [.t 19, .c (.int 128)], (some (17, false))⟩,
      ⟨.var 9, (.q .pick), [.t 17, .c (.bool true), .t 20], none⟩])
    (.cond (.t 9) (.seq (.reg [⟨.var 1, (.q .mv), [.c (.bool false)], none⟩])
    .ret)
    .skip))
    (.seq (.seq (.reg [⟨.var 4, (.q .mv), [.c (.int 0)], none⟩])
    (.block 0 (.loop (.seq (.seq (.reg [⟨.new, (.q .mv), [.t 4], none⟩,
      ⟨.var 10, (.q (.bin .lss)), [.t 15, .c (.int 128)], none⟩])
    (.cond (.t 10) .skip
    (.exit 0)))
    (.seq (.block 1 (.seq (.reg [⟨.new, (.q .mv), [.t 2], none⟩,
      ⟨.new, (.q .mv), [.t 4], none⟩,
      ⟨.new, (.q (.iaS (.st [.leaf, .leaf]))), [.t 15, .t 16], none⟩,
      ⟨.new, (.q (.ld (.st [.leaf, .leaf]))), [.t 17], none⟩,
      ⟨.new, (.call 39), [.t 18], none⟩,
      ⟨.new, (.q .mv), [.t 0], none⟩,
      ⟨.new, (.q .mv), [.t 4], none⟩,
      ⟨.new, (.call 40), [.t 20, .t 21], none⟩,
      ⟨.new, (.call 38), [.t 19, .t 22], none⟩,
      ⟨.var 11, (.q (.un .not)), [.t 23], none⟩])
    (.cond (.t 11) (.seq (.reg [⟨.var 1, (.q .mv), [.c (.bool false)], none⟩])
    .ret)
    .skip)))
    (.reg [⟨.new, (.q .mv), [.t 4], none⟩,
      ⟨.new, (.q (.bin .add)), [.t 15, .c (.int 1)], none⟩,
      ⟨.var 4, (.q .mv), [.t 16], none⟩]))))))
    (.seq (.reg [⟨.new, (.q .mv), [.t 2], none⟩,
      ⟨.new, (.call 41), [.t 15], none⟩,
      ⟨.new, (.q .mv), [.t 16], none⟩,
      ⟨.new, (.q (.ext 0)), [.t 17], none⟩,
      ⟨.new, (.q (.ext 1)), [.t 17], none⟩,
      ⟨.var 5, (.q .mv), [.t 18], none⟩,
      ⟨.var 6, (.q .mv), [.t 19], none⟩])
    (.seq (.seq (.reg [⟨.new, (.q .mv), [.t 6], none⟩,
      ⟨.new, (.q (.bin .neq)), [.t 15, .c (.int 0)], none⟩,
      ⟨.new, (.q .mv), [.t 16], none⟩,
      ⟨.new, (.q .mv), [.t 5], (some (17, false))⟩,
      ⟨.new, (.q .len), [.t 18], (some (17, false))⟩,
      ⟨.new, (.q .mv), [.t 0], (some (17, false))⟩,
      ⟨.new, (.q .len), [.t 20], (some (17, false))⟩,
      ⟨.new, (.q (.bin .neq)), [.t 19, .t 21], (some (17, false))⟩,
      ⟨.var 12, (.q .pick), [.t 17, .c (.bool true), .t 22], none⟩])
    (.cond (.t 12) (.seq (.reg [⟨.var 1, (.q .mv), [.c (.bool false)], none⟩])
    .ret)
    .skip))
    (.seq (.seq (.reg [⟨.var 7, (.q .mv), [.c (.int 0)], none⟩])
    (.block 2 (.loop (.seq (.seq (.reg [⟨.new, (.q .mv), [.t 7], none⟩,
      ⟨.new, (.q .mv), [.t 0], none⟩,
      ⟨.new, (.q .len), [.t 16], none⟩,
      ⟨.var 13, (.q (.bin .lss)), [.t 15, .t 17], none⟩])
    (.cond (.t 13) .skip
    (.exit 2)))
    (.seq (.block 3 (.seq (.draw [⟨.new, (.q .mv), [.t 5], none⟩,
      ⟨.new, (.q .mv), [.t 7], none⟩,
      ⟨.new, (.q (.iaS (.arr 2 .leaf))), [.t 15, .t 16], none⟩,
      ⟨.new, (.q (.ld (.arr 2 .leaf))), [.t 17], none⟩,
      ⟨.new, (.q .mv), [.t 0], none⟩,
      ⟨.new, (.q .mv), [.t 7], none⟩,
      ⟨.new, (.q (.iaS (.arr 2 .leaf))), [.t 19, .t 20], none⟩,
      ⟨.new, (.q (.ld (.arr 2 .leaf))), [.t 21], none⟩,
      ⟨.var 14, (.q (.eqA true 2 .u64)), [.t 18, .t 22], none⟩])
    (.cond (.t 14) (.seq (.reg [⟨.var 1, (.q .mv), [.c (.bool false)], none⟩])
    .ret)
    .skip)))
    (.reg [⟨.new, (.q .mv), [.t 7], none⟩,
      ⟨.new, (.q (.bin .add)), [.t 15, .c (.int 1)], none⟩,
      ⟨.var 7, (.q .mv), [.t 16], none⟩]))))))
    (.seq (.reg [⟨.new, (.call 36), [], none⟩,
      ⟨.var 1, (.q .mv), [.t 15], none⟩])
    .ret))))))))),
    [.t 1]⟩

set_option maxRecDepth 100000
set_option linter.unusedSimpArgs false
set_option linter.unusedVariables false
theorem c9 : cF P [] (drP P []) 9 1 s9.vm = some s9 := by kernel_rfl
theorem row_back {x y : Nat → BitVec 64} {n j : Nat} (hj : j < n) : XY (colF x y n) 0 j = x j ∧ XY (colF x y n) 1 j = y j := by
  refine ⟨(wd_of fun b hb => ?_).symm, (wd_of fun b hb => ?_).symm⟩
  · rw [Nat.mul_zero, Nat.zero_add, Nat.zero_add]
    unfold colF cut colf
    rw [decide_eq_true hj, Bool.true_and, rb_lo hb]
  · rw [Nat.mul_zero, Nat.zero_add]
    unfold colF cut colf
    rw [decide_eq_true hj, Bool.true_and, Nat.mul_one, rb_hi hb]
theorem rwA_back {x y : Nat → BitVec 64} {n : Nat} : rwA (fun j => wd (fun b => colF x y n (64 * 0 + b) j) 0) (fun j => wd (fun b => colF x y n (64 * 1 + b) j) 0) n = rwA x y n := by
  unfold rwA
  refine rng_congr fun j hj => ?_
  have := row_back (x := x) (y := y) hj
  unfold XY at this
  simp only [this.1, this.2]
theorem cbL_isL {x y : Nat → BitVec 64} {i n : Nat} : isL (if n = 0 then .nils else .ro .leaf (cbL x y i n)) (((List.range n).map (colf x y i)).map .bool) := by
  by_cases h : n = 0
  · subst h; exact .inr ⟨rfl, rfl⟩
  · rw [if_neg h]; exact .inl (by rw [List.map_map]; rfl)
def I9a (x y : Nat → BitVec 64) (n : Nat) (H : Heap) (k : Nat) (st : St) : Prop :=
  ∃ (t : Nat) (u10 u11 : AV), st = ⟨[.ro (.arr 2 .leaf) (rwA x y n), .bool false, .ro vS (veL (fun _ => n) (colF x y n) 128), .int 0, .int (t : Int), .un, .un, .un, .bool false, .bool false, u10, u11, .un, .un, .un], H⟩ ∧ k = 128 - t ∧ t ≤ 128
def I9b (x y : Nat → BitVec 64) (n : Nat) (H : Heap) (u11 : AV) (k : Nat) (st : St) : Prop :=
  ∃ (t : Nat) (u13 u14 : AV), st = ⟨[.ro (.arr 2 .leaf) (rwA x y n), .bool false, .ro vS (veL (fun _ => n) (colF x y n) 128), .int 0, .int 128, .ro (.arr 2 .leaf) (rwA x y n), .int 0, .int (t : Int), .bool false, .bool false, .bool false, u11, .bool false, u13, u14], H⟩ ∧ k = n - t ∧ t ≤ n
theorem f9 {K : AV → Heap → Prop} {H : Heap} {x y : Nat → BitVec 64} {n : Nat} (h : K (.bool true) H) : wpF P [] 9 [.ro (.arr 2 .leaf) (rwA x y n)] H K := by
  refine wpF_go c9 rfl 3 ?_
  intro ha hb
  simp only [s9]
  have hl := rwA_len (x := x) (y := y) (n := n)
  by_cases h3 : 300 < n
  · have h1 : ((300 : Int) < (n : Int)) = True := by simp only [eq_iff_iff, iff_true]; omega
    (refine gw2 @hl @h1 ?_; try exact True.intro)
    refine f36 ?_
    (refine gw0 ?_; try exact True.intro)
    exact h
  have h1 : ((300 : Int) < (n : Int)) = False := by simp only [eq_iff_iff, iff_false]; omega
  have hv := veL_len (m := fun _ => n) (f := colF x y n) (t := 128)
  (refine gw2 @hl @h1 ?_; try exact True.intro)
  refine f37 (by omega) ?_
  (refine gw1 @hv ?_; try exact True.intro)
  refine wp_inv (I9a x y n H) 128 ⟨0, _, _, rfl, rfl, by omega⟩ ?_
  rintro k st ⟨t, u10, u11, rfl, rfl, ht⟩
  by_cases htl : t < 128
  · have h4 : ((t : Int) < 128) = True := by simp only [eq_iff_iff, iff_true]; omega
    have gv := veL_get (m := fun _ => n) (f := colF x y n) htl
    have hLb : ((List.range n).map fun i => AV.bool (colF x y n t i)) = ((List.range n).map (colf x y t)).map .bool := by
      rw [List.map_map]
      refine rng_congr fun j hj => ?_
      unfold colF cut
      rw [decide_eq_true hj]; rfl
    (refine gw3 @h4 @hv @gv ?_; try exact True.intro)
    refine ⟨rfl, f39 (by omega) ?_⟩
    rw [hLb]
    (refine gw0 ?_; try exact True.intro)
    refine f40 (by omega) ?_
    (refine gw0 ?_; try exact True.intro)
    refine f38 (.inl rfl) cbL_isL ?_
    (refine gw0 ?_; try exact True.intro)
    (repeat (refine And.intro (by omega) ?_))
    exact ⟨128 - (t + 1), by omega, t + 1, _, _, rfl, rfl, by omega⟩
  · have ht' : t = 128 := by omega
    subst ht'
    have h4 : ((128 : Int) < 128) = False := by simp
    (refine gw1 @h4 ?_; try exact True.intro)
    refine f41 (m := fun _ => n) (f := colF x y n) (fun i => by omega) (fun hx => by obtain ⟨i, _, hi⟩ := hx; exact absurd rfl hi) (fun _ => ?_)
    rw [rwA_back]
    (refine gw1 @hl ?_; try exact True.intro)
    refine wp_inv (I9b x y n H u11) n ⟨0, _, _, rfl, rfl, by omega⟩ ?_
    rintro k st ⟨t, u13, u14, rfl, rfl, ht⟩
    by_cases htl : t < n
    · have h4 : ((t : Int) < (n : Int)) = True := by simp only [eq_iff_iff, iff_true]; omega
      have gr := rwA_get (x := x) (y := y) htl
      unfold rowV at gr
      (refine gw3 @h4 @hl @gr ?_; try exact True.intro)
      refine ⟨rfl, rfl, ?_⟩
      (repeat (refine And.intro (by omega) ?_))
      exact ⟨n - (t + 1), by omega, t + 1, _, _, rfl, rfl, by omega⟩
    · have h4 : ((t : Int) < (n : Int)) = False := by simp only [eq_iff_iff, iff_false]; omega
      (refine gw2 @h4 @hl ?_; try exact True.intro)
      refine f36 ?_
      (refine gw0 ?_; try exact True.intro)
      exact h
theorem row_of {q : AV} (h : isK (.arr 2 .u64) q) : ∃ a b, q = rowV a b := by
  obtain ⟨ys, rfl, hl, hq⟩ := h
  obtain ⟨l, rfl⟩ := all_of AV.u64 hq
  have hl' : l.length = 2 := by simpa using hl
  match l, hl' with
  | [a, b], _ => exact ⟨a, b, rfl⟩
theorem rows_of : ∀ {l : List AV}, (∀ q ∈ l, isK (.arr 2 .u64) q) → ∃ x y n, l = rwA x y n
  | [], _ => ⟨fun _ => 0, fun _ => 0, 0, rfl⟩
  | q :: l, h => by
    obtain ⟨a, b, rfl⟩ := row_of (h q (by simp))
    obtain ⟨x, y, n, rfl⟩ := rows_of (l := l) fun p hp => h p (List.mem_cons_of_mem _ hp)
    refine ⟨fun j => if j = 0 then a else x (j - 1), fun j => if j = 0 then b else y (j - 1), n + 1, ?_⟩
    unfold rwA
    rw [List.range_succ_eq_map, List.map_cons, List.map_map]
    rfl
end Go.Proofs.Ytebmlmkiblieiaa
