/-
  Layer 16 (trans), as this seat's program has it: columns, packed and unpacked.
-/
import Derived.Test.YtebmlmkiblieiaaTw
import Derived.Test.YtebmlmkiblieiaaV38
open Go Go.V
namespace Go.Proofs.Ytebmlmkiblieiaa
/-- trefoil/trefoilref16.Column (0:rows, 1:i, 4:, 5:out, 6:j, 10:) -/
def s40 : FnS := ⟨23, [0, 1, 4, 5, 6, 10],
    (.seq (.reg [⟨.var 2, (.q .mv), [.c .nils], none⟩])
    (.seq (.reg [⟨.var 3, (.q .mv), [.c .nils], none⟩])
    (.seq (.seq (.reg [⟨.var 4, (.q .mv), [.c (.int 0)], none⟩])
    (.block 0 (.loop (.seq (.seq (.reg [⟨.new, (.q .mv), [.t 4], none⟩,
      ⟨.new, (.q .mv), [.t 0], none⟩,
      ⟨.new, (.q .len), [.t 7], none⟩,
      ⟨.var 5, (.q (.bin .lss)), [.t 6, .t 8], none⟩])
    (.cond (.t 5) .skip
    (.exit 0)))
    (.seq (.block 1 (.reg [⟨.new, (.q .mv), [.t 3], none⟩,
      ⟨.new, (.q .mv), [.t 0], none⟩,
      ⟨.new, (.q .mv), [.t 4], none⟩,
      ⟨.new, (.q (.iaS (.arr 2 .leaf))), [.t 7, .t 8], none⟩,
      ⟨.new, (.q (.ld (.arr 2 .leaf))), [.t 9], none⟩,
      ⟨.new, (.q .mv), [.t 1], none⟩,
      ⟨.new, (.call 18), [.t 10, .t 11], none⟩,
      ⟨.new, (.e (.bsl 4 .leaf (.bool false) 1 [0])), [.t 12], none⟩,
      ⟨.new, (.e (.app 4 .leaf 1)), [.t 6, .t 13], none⟩,
      ⟨.var 3, (.q .mv), [.t 14], none⟩]))
    (.reg [⟨.new, (.q .mv), [.t 4], none⟩,
      ⟨.new, (.q (.bin .add)), [.t 6, .c (.int 1)], none⟩,
      ⟨.var 4, (.q .mv), [.t 7], none⟩]))))))
    (.seq (.reg [⟨.new, (.q .mv), [.t 3], none⟩,
      ⟨.var 2, (.q .mv), [.t 6], none⟩])
    .ret)))),
    [.t 2]⟩

/-- trefoil/trans.Unpack (0:n, 1:s, 4:, 5:, 6:size, 7:out, 8:i, 9:v, 10:e, 16:, 24:, 26:, 27:, 44:) -/
def s42 : FnS := ⟨52, [0, 1, 4, 5, 6, 7, 8, 9, 10, 16, 24, 26, 27, 44],
    (.seq (.reg [⟨.var 2, (.q .mv), [.c .nils], none⟩,
      ⟨.var 3, (.q .mv), [.c (.int 0)], none⟩])
    (.seq (.seq (.reg [⟨.new, (.q .mv), [.t 0], none⟩,
      ⟨.new, (.q (.bin .lss)), [.t 14, .c (.int 0)], none⟩,
      ⟨.new, (.q .mv), [.t 15], none⟩,
      ⟨.new, (.q .mv), [.t 0], (some (16, false))⟩,
      ⟨.new, (.q (.bin .gtr)), [.t 17, .c (.int 65536)], (some (16, false))⟩,
      ⟨.var 9, (.q .pick), [.t 16, .c (.bool true), .t 18], none⟩])
    (.cond (.t 9) (.seq (.reg [⟨.var 2, (.q .mv), [.c .nils], none⟩,
      ⟨.var 3, (.q .mv), [.c (.int 2)], none⟩])
    .ret)
    .skip))
    (.seq (.reg [⟨.new, (.q .mv), [.t 0], none⟩,
      ⟨.new, (.q (.bin .add)), [.t 14, .c (.int 7)], none⟩,
      ⟨.new, (.q (.bin .quo)), [.t 15, .c (.int 8)], none⟩,
      ⟨.var 4, (.q .mv), [.t 16], none⟩])
    (.seq (.seq (.reg [⟨.new, (.q .mv), [.t 1], none⟩,
      ⟨.new, (.q .lenS), [.t 14], none⟩,
      ⟨.new, (.q .mv), [.t 4], none⟩,
      ⟨.new, (.q (.bin .mul)), [.c (.int 128), .t 16], none⟩,
      ⟨.var 10, (.q (.bin .neq)), [.t 15, .t 17], none⟩])
    (.cond (.t 10) (.seq (.reg [⟨.var 2, (.q .mv), [.c .nils], none⟩,
      ⟨.var 3, (.q .mv), [.c (.int 11)], none⟩])
    .ret)
    .skip))
    (.seq (.reg [⟨.new, (.e (.mksl 77 (.st [.leaf, .leaf]) 32 (.agg [(.int 0), .nils]))), [.c (.int 0), .c (.int 128)], none⟩,
      ⟨.var 5, (.q .mv), [.t 14], none⟩])
    (.seq (.seq (.reg [⟨.var 11, (.q .mv), [.c (.int 0)], none⟩])
    (.block 0 (.loop (.seq (.reg [⟨.var 12, (.q (.bin .lss)), [.t 11, .c (.int 128)], none⟩])
    (.seq (.cond (.t 12) .skip
    (.exit 0))
    (.seq (.block 1 (.seq (.reg [⟨.new, (.q .mv), [.t 11], none⟩,
      ⟨.var 6, (.q .mv), [.t 14], none⟩])
    (.seq (.reg [⟨.new, (.q .mv), [.t 0], none⟩,
      ⟨.new, (.q .mv), [.t 1], none⟩,
      ⟨.new, (.q .mv), [.t 6], none⟩,
      ⟨.new, (.q .mv), [.t 4], none⟩,
      ⟨.new, (.q (.bin .mul)), [.t 16, .t 17], none⟩,
      ⟨.new, (.q .mv), [.t 6], none⟩,
      ⟨.new, (.q (.bin .add)), [.t 19, .c (.int 1)], none⟩,
      ⟨.new, (.q .mv), [.t 4], none⟩,
      ⟨.new, (.q (.bin .mul)), [.t 20, .t 21], none⟩,
      ⟨.new, (.q (.slS true true)), [.t 15, .t 18, .t 22], none⟩,
      ⟨.new, (.call 69), [.t 14, .t 23], none⟩,
      ⟨.new, (.q .mv), [.t 24], none⟩,
      ⟨.new, (.q (.ext 0)), [.t 25], none⟩,
      ⟨.new, (.q (.ext 1)), [.t 25], none⟩,
      ⟨.var 7, (.e (.alloc 77 (.st [.leaf, .leaf]) (.agg [(.int 0), .nils]))), [], none⟩,
      ⟨.none, (.e (.store (.st [.leaf, .leaf]))), [.t 7, .t 26], none⟩,
      ⟨.var 8, (.q .mv), [.t 27], none⟩])
    (.seq (.seq (.reg [⟨.new, (.q .mv), [.t 8], none⟩,
      ⟨.var 13, (.q (.bin .neq)), [.t 14, .c (.int 0)], none⟩])
    (.cond (.t 13) (.seq (.reg [⟨.new, (.q .mv), [.t 8], none⟩,
      ⟨.var 2, (.q .mv), [.c .nils], none⟩,
      ⟨.var 3, (.q .mv), [.t 14], none⟩])
    .ret)
    .skip))
    (.reg [⟨.new, (.q .mv), [.t 5], none⟩,
      ⟨.new, (.q (.ld (.st [.leaf, .leaf]))), [.t 7], none⟩,
      ⟨.new, (.e (.bsl 77 (.st [.leaf, .leaf]) (.agg [(.int 0), .nils]) 1 [0])), [.t 15], none⟩,
      ⟨.new, (.e (.app 77 (.st [.leaf, .leaf]) 32)), [.t 14, .t 16], none⟩,
      ⟨.var 5, (.q .mv), [.t 17], none⟩])))))
    (.reg [⟨.new, (.q (.bin .add)), [.t 11, .c (.int 1)], none⟩,
      ⟨.var 11, (.q .mv), [.t 14], none⟩])))))))
    (.seq (.reg [⟨.new, (.q .mv), [.t 5], none⟩,
      ⟨.var 2, (.q .mv), [.t 14], none⟩,
      ⟨.var 3, (.q .mv), [.c (.int 0)], none⟩])
    .ret))))))),
    [.t 2, .t 3]⟩

/-- trefoil/trefoilref16.Unpack (0:n, 1:s, 4:, 5:, 6:size, 7:out, 8:i, 9:l, 10:e, 16:, 24:, 26:, 45:) -/
def s43 : FnS := ⟨52, [0, 1, 4, 5, 6, 7, 8, 9, 10, 16, 24, 26, 45],
    (.seq (.reg [⟨.var 2, (.q .mv), [.c .nils], none⟩,
      ⟨.var 3, (.q .mv), [.c (.int 0)], none⟩])
    (.seq (.seq (.reg [⟨.new, (.q .mv), [.t 0], none⟩,
      ⟨.new, (.q (.bin .lss)), [.t 13, .c (.int 0)], none⟩,
      ⟨.new, (.q .mv), [.t 14], none⟩,
      ⟨.new, (.q .mv), [.t 0], (some (15, false))⟩,
      ⟨.new, (.q (.bin .gtr)), [.t 16, .c (.int 65536)], (some (15, false))⟩,
      ⟨.var 9, (.q .pick), [.t 15, .c (.bool true), .t 17], none⟩])
    (.cond (.t 9) (.seq (.reg [⟨.var 2, (.q .mv), [.c .nils], none⟩,
      ⟨.var 3, (.q .mv), [.c (.int 2)], none⟩])
    .ret)
    .skip))
    (.seq (.reg [⟨.new, (.q .mv), [.t 0], none⟩,
      ⟨.new, (.q (.bin .add)), [.t 13, .c (.int 7)], none⟩,
      ⟨.new, (.q (.bin .quo)), [.t 14, .c (.int 8)], none⟩,
      ⟨.var 4, (.q .mv), [.t 15], none⟩])
    (.seq (.seq (.reg [⟨.new, (.q .mv), [.t 1], none⟩,
      ⟨.new, (.q .lenS), [.t 13], none⟩,
      ⟨.new, (.q .mv), [.t 4], none⟩,
      ⟨.new, (.q (.bin .mul)), [.c (.int 128), .t 15], none⟩,
      ⟨.var 10, (.q (.bin .neq)), [.t 14, .t 16], none⟩])
    (.cond (.t 10) (.seq (.reg [⟨.var 2, (.q .mv), [.c .nils], none⟩,
      ⟨.var 3, (.q .mv), [.c (.int 11)], none⟩])
    .ret)
    .skip))
    (.seq (.reg [⟨.var 5, (.q .mv), [.c .nils], none⟩])
    (.seq (.seq (.reg [⟨.var 6, (.q .mv), [.c (.int 0)], none⟩])
    (.block 0 (.loop (.seq (.seq (.reg [⟨.new, (.q .mv), [.t 6], none⟩,
      ⟨.var 11, (.q (.bin .lss)), [.t 13, .c (.int 128)], none⟩])
    (.cond (.t 11) .skip
    (.exit 0)))
    (.seq (.block 1 (.seq (.reg [⟨.new, (.q .mv), [.t 0], none⟩,
      ⟨.new, (.q .mv), [.t 1], none⟩,
      ⟨.new, (.q .mv), [.t 6], none⟩,
      ⟨.new, (.q .mv), [.t 4], none⟩,
      ⟨.new, (.q (.bin .mul)), [.t 15, .t 16], none⟩,
      ⟨.new, (.q .mv), [.t 6], none⟩,
      ⟨.new, (.q .mv), [.t 4], none⟩,
      ⟨.new, (.q (.bin .mul)), [.t 18, .t 19], none⟩,
      ⟨.new, (.q .mv), [.t 4], none⟩,
      ⟨.new, (.q (.bin .add)), [.t 20, .t 21], none⟩,
      ⟨.new, (.q (.slS true true)), [.t 14, .t 17, .t 22], none⟩,
      ⟨.new, (.call 70), [.t 13, .t 23], none⟩,
      ⟨.new, (.q .mv), [.t 24], none⟩,
      ⟨.new, (.q (.ext 0)), [.t 25], none⟩,
      ⟨.new, (.q (.ext 1)), [.t 25], none⟩,
      ⟨.var 7, (.q .mv), [.t 26], none⟩,
      ⟨.var 8, (.q .mv), [.t 27], none⟩])
    (.seq (.seq (.reg [⟨.new, (.q .mv), [.t 8], none⟩,
      ⟨.var 12, (.q (.bin .neq)), [.t 13, .c (.int 0)], none⟩])
    (.cond (.t 12) (.seq (.reg [⟨.new, (.q .mv), [.t 8], none⟩,
      ⟨.var 2, (.q .mv), [.c .nils], none⟩,
      ⟨.var 3, (.q .mv), [.t 13], none⟩])
    .ret)
    .skip))
    (.reg [⟨.new, (.q .mv), [.t 5], none⟩,
      ⟨.new, (.q .mv), [.t 7], none⟩,
      ⟨.new, (.e (.bsl 75 .leaf .nils 1 [0])), [.t 14], none⟩,
      ⟨.new, (.e (.app 75 .leaf 24)), [.t 13, .t 15], none⟩,
      ⟨.var 5, (.q .mv), [.t 16], none⟩]))))
    (.reg [⟨.new, (.q .mv), [.t 6], none⟩,
      ⟨.new, (.q (.bin .add)), [.t 13, .c (.int 1)], none⟩,
      ⟨.var 6, (.q .mv), [.t 14], none⟩]))))))
    (.seq (.reg [⟨.new, (.q .mv), [.t 5], none⟩,
      ⟨.var 2, (.q .mv), [.t 13], none⟩,
      ⟨.var 3, (.q .mv), [.c (.int 0)], none⟩])
    .ret))))))),
    [.t 2, .t 3]⟩

/-- trefoil/trans.Pack (0:cols, 2:, 3:, 4:b, 6:c, 9:, 10:, 11:, 12:, 13:, 22:) -/
def s44 : FnS := ⟨30, [0, 2, 3, 4, 6, 9, 10, 11, 12, 13, 22],
    (.seq (.reg [⟨.var 1, (.q .mv), [.c (.str [])], none⟩,
      ⟨.var 2, (.q .mv), [.c (.int 0)], none⟩])
    (.seq (.seq (.reg [⟨.new, (.q .mv), [.t 0], none⟩,
      ⟨.new, (.q .len), [.t 11], none⟩,
      ⟨.var 5, (.q (.bin .neq)), [.t 12, .c (.int 128)], none⟩])
    (.cond (.t 5) (.seq (.reg [⟨.var 1, (.q .mv), [.c (.str [])], none⟩,
      ⟨.var 2, (.q .mv), [.c (.int 11)], none⟩])
    .ret)
    .skip))
    (.seq (.reg [⟨.var 3, (.q .mv), [.c .nils], none⟩])
    (.seq (.seq (.reg [⟨.var 6, (.q .mv), [.t 0], none⟩,
      ⟨.var 7, (.q .len), [.t 6], none⟩,
      ⟨.var 8, (.q .mv), [.c (.int 0)], none⟩])
    (.block 0 (.loop (.seq (.reg [⟨.var 9, (.q (.bin .lss)), [.t 8, .t 7], none⟩])
    (.seq (.cond (.t 9) .skip
    (.exit 0))
    (.seq (.block 1 (.seq (.reg [⟨.new, (.q (.iaS (.st [.leaf, .leaf]))), [.t 6, .t 8], none⟩,
      ⟨.new, (.q (.ld (.st [.leaf, .leaf]))), [.t 11], none⟩,
      ⟨.var 4, (.e (.alloc 77 (.st [.leaf, .leaf]) (.agg [(.int 0), .nils]))), [], none⟩,
      ⟨.none, (.e (.store (.st [.leaf, .leaf]))), [.t 4, .t 12], none⟩])
    (.seq (.seq (.draw [⟨.new, (.q (.ld (.st [.leaf, .leaf]))), [.t 4], none⟩,
      ⟨.new, (.call 67), [.t 11], none⟩,
      ⟨.new, (.q .mv), [.t 0], none⟩,
      ⟨.new, (.q (.iaS (.st [.leaf, .leaf]))), [.t 13, .c (.int 0)], none⟩,
      ⟨.new, (.q (.ld (.st [.leaf, .leaf]))), [.t 14], none⟩,
      ⟨.new, (.call 67), [.t 15], none⟩,
      ⟨.var 10, (.q (.bin .neq)), [.t 12, .t 16], none⟩])
    (.cond (.t 10) (.seq (.reg [⟨.var 1, (.q .mv), [.c (.str [])], none⟩,
      ⟨.var 2, (.q .mv), [.c (.int 11)], none⟩])
    .ret)
    .skip))
    (.reg [⟨.new, (.q .mv), [.t 3], none⟩,
      ⟨.new, (.q (.ld (.st [.leaf, .leaf]))), [.t 4], none⟩,
      ⟨.new, (.call 71), [.t 12], none⟩,
      ⟨.new, (.e (.appS 5)), [.t 11, .t 13], none⟩,
      ⟨.var 3, (.q .mv), [.t 14], none⟩]))))
    (.reg [⟨.new, (.q (.bin .add)), [.t 8, .c (.int 1)], none⟩,
      ⟨.var 8, (.q .mv), [.t 11], none⟩])))))))
    (.seq (.reg [⟨.new, (.q .mv), [.t 3], none⟩,
      ⟨.new, (.q .b2s), [.t 11], none⟩,
      ⟨.var 1, (.q .mv), [.t 12], none⟩,
      ⟨.var 2, (.q .mv), [.c (.int 0)], none⟩])
    .ret))))),
    [.t 1, .t 2]⟩

set_option maxRecDepth 100000
set_option linter.unusedSimpArgs false
set_option linter.unusedVariables false
theorem c40 : cF P [] (drP P []) 40 2 s40.vm = some s40 := by kernel_rfl
theorem c42 : cF P [] (drP P []) 42 2 s42.vm = some s42 := by kernel_rfl
theorem c43 : cF P [] (drP P []) 43 2 s43.vm = some s43 := by kernel_rfl
theorem c44 : cF P [] (drP P []) 44 1 s44.vm = some s44 := by kernel_rfl
/-- rows as Go has them -/
def rwA (x y : Nat → BitVec 64) (n : Nat) : List AV := (List.range n).map fun j => rowV (x j) (y j)
theorem rwA_len {x y : Nat → BitVec 64} {n : Nat} : (rwA x y n).length = n := by simp [rwA]
theorem rwA_get {x y : Nat → BitVec 64} {n j : Nat} (h : j < n) : (rwA x y n).getD j .un = rowV (x j) (y j) := ld_rng h
/-- bit i of each row -/
def colf (x y : Nat → BitVec 64) (i : Nat) (j : Nat) : Bool := rb (x j) (y j) (i : Int)
def cbL (x y : Nat → BitVec 64) (i n : Nat) : List AV := (List.range n).map fun j => .bool (colf x y i j)
def boB (t : Nat) (l : List AV) : Option Blk := some ⟨4, t, true, .arr t .leaf, .agg l⟩
def I40 (x y : Nat → BitVec 64) (i n : Nat) (H : Heap) (k : Nat) (st : St) : Prop :=
  ∃ (t : Nat) (out u : AV) (L : Heap), st = ⟨[.ro (.arr 2 .leaf) (rwA x y n), .int (i : Int), .nils, out, .int (t : Int), u], H ++ L⟩ ∧ k = n - t ∧ t ≤ n ∧
    ((t = 0 ∧ out = .nils ∧ L = []) ∨ (0 < t ∧ out = .own (H.length + 1) t [] 0 t .leaf ∧ ∃ g J l, L = g :: boB t l :: J ∧ l = cbL x y i t))
theorem f40 {K : AV → Heap → Prop} {H : Heap} {x y : Nat → BitVec 64} {i n : Nat} (hn : n ≤ 100000) (h : K (if n = 0 then .nils else .ro .leaf (cbL x y i n)) H) : wpF P [] 40 [.ro (.arr 2 .leaf) (rwA x y n), .int (i : Int)] H K := by
  refine wpF_go c40 rfl 3 ?_
  intro ha hb
  simp only [s40]
  have hl := rwA_len (x := x) (y := y) (n := n)
  (refine gw0 ?_; try exact True.intro)
  refine wp_inv (I40 x y i n H) n ⟨0, _, _, [], by rw [List.append_nil]; rfl, rfl, by omega, .inl ⟨rfl, rfl, rfl⟩⟩ ?_
  rintro k st ⟨t, out, u, L, rfl, rfl, ht, hc⟩
  by_cases htl : t < n
  · have h1 : ((t : Int) < (n : Int)) = True := by simp; omega
    have hg := rwA_get (x := x) (y := y) htl
    rcases hc with ⟨ht0, rfl, rfl⟩ | ⟨ht0, rfl, g, J, l, rfl, hl2⟩
    · (refine gw3 @h1 @hl @hg ?_; try exact True.intro)
      (repeat (refine And.intro (by omega) ?_))
      refine f18 ?_
      (refine gw0 ?_; try exact True.intro)
      (repeat (refine And.intro (by omega) ?_))
      subst ht0
      exact ⟨n - 1, by omega, 1, _, _, _, rfl, rfl, by omega, .inr ⟨by omega, rfl, _, [], _, rfl, rfl⟩⟩
    · unfold boB
      (refine gw3 @h1 @hl @hg ?_; try exact True.intro)
      (repeat (refine And.intro (by omega) ?_))
      refine f18 ?_
      (refine gw0 ?_; try exact True.intro)
      (repeat (refine And.intro (by omega) ?_))
      exact ⟨n - (t + 1), by omega, t + 1, _, _, _, rfl, rfl, by omega, .inr ⟨by omega, rfl, _, _, _, rfl, by rw [hl2]; simp [cbL, List.range_succ, colf]⟩⟩
  · have h1 : ((t : Int) < (n : Int)) = False := by simp; omega
    have hie : t = n := by omega
    subst hie
    rcases hc with ⟨ht0, rfl, rfl⟩ | ⟨ht0, rfl, g, J, l, rfl, hl2⟩
    · rw [if_pos ht0] at h
      (refine gw2 @h1 @hl ?_; try exact True.intro)
      exact h
    · rw [if_neg (by omega)] at h
      unfold boB
      subst hl2
      have hll : List.take t (cbL x y i t) = cbL x y i t := List.take_of_length_le (by simp [cbL])
      unfold cbL at *
      (refine gw3 @h1 @hl @hll ?_; try exact True.intro)
      exact h

/-! columns out of bytes -/
def chk (s : List (BitVec 8)) (z i : Nat) : List (BitVec 8) := (s.drop (i * z)).take z
def vS : Shape := .st [.leaf, .leaf]
def vB (t : Nat) (l : List AV) : Option Blk := some ⟨77, t, true, .arr t vS, .agg l⟩
/-- columns as Go has them -/
def veL (m : Nat → Nat) (f : Nat → Nat → Bool) (t : Nat) : List AV := (List.range t).map fun i => vec (m i) (f i)
theorem veL_len {m : Nat → Nat} {f : Nat → Nat → Bool} {t : Nat} : (veL m f t).length = t := by simp [veL]
theorem veL_get {m : Nat → Nat} {f : Nat → Nat → Bool} {t i : Nat} (h : i < t) : (veL m f t).getD i .un = vec (m i) (f i) := ld_rng h
theorem veL_succ {m : Nat → Nat} {f : Nat → Nat → Bool} {t : Nat} : veL m f t ++ [vec (m t) (f t)] = veL m f (t + 1) := by simp [veL, List.range_succ]
theorem veL_congr {m m' : Nat → Nat} {f f' : Nat → Nat → Bool} {t : Nat} (h : ∀ i, i < t → m i = m' i ∧ f i = f' i) : veL m f t = veL m' f' t := by
  unfold veL
  refine List.map_congr_left fun i hi => ?_
  rw [(h i (List.mem_range.1 hi)).1, (h i (List.mem_range.1 hi)).2]
theorem demK_vec {kp : Nat → Bool} {N : Nat} {h : Heap} {d : Nat} {n : Nat} {f : Nat → Bool} : demK kp N h (d + 3) (vec n f) = some (vec n f) := by
  unfold vec
  rw [demK_agg]
  simp only [mapO, demK_int, demK_ro, bndA, if_true, Option.map_some]
theorem mapO_ofT {kp : Nat → Bool} {N : Nat} {h : Heap} {d : Nat} : ∀ {l : List AV}, (∀ x ∈ l, demK kp N h d x = some x) → mapO (demK kp N h d) l = some l
  | [], _ => rfl
  | x :: l, hx => by
    simp only [mapO]
    rw [hx x (by simp), mapO_ofT fun y hy => hx y (by simp [hy])]
theorem mapO_veL {kp : Nat → Bool} {N : Nat} {h : Heap} {d : Nat} {m : Nat → Nat} {f : Nat → Nat → Bool} {t : Nat} : mapO (demK kp N h (d + 3)) (veL m f t) = some (veL m f t) := by
  refine mapO_ofT fun x hx => ?_
  obtain ⟨j, _, rfl⟩ := List.mem_map.1 hx
  exact demK_vec
theorem bnds_veL {m : Nat → Nat} {f : Nat → Nat → Bool} {t k : Nat} : AV.bnds k (veL m f t) = true := by
  refine bnds_iff.2 fun x hx => ?_
  obtain ⟨j, _, rfl⟩ := List.mem_map.1 hx
  simp only [vec, AV.bnd, AV.bnds, bndA, Bool.and_true]
def ucL (n : Nat) (s : List (BitVec 8)) (t : Nat) : List AV := veL (fun _ => n) (fun i => sf (chk s (ny n) i)) t
def I42 (n : Nat) (s : List (BitVec 8)) (H : Heap) (k : Nat) (st : St) : Prop :=
  ∃ (t : Nat) (u6 u7 u8 u12 u13 : AV) (J : Heap) (l : List AV), st = ⟨[.int (n : Int), .str s, .nils, .int 0, .int ((ny n : Nat) : Int), .own H.length t [] 0 t vS, u6, u7, u8, .bool false, .bool false, .int (t : Int), u12, u13],
    H ++ vB t l :: J⟩ ∧ l = ucL n s t ∧ k = 128 - t ∧ t ≤ 128 ∧ ∀ i, i < t → ¬ Rb n (chk s (ny n) i)
theorem f42e {K : AV → Heap → Prop} {H : Heap} {n : Int} {s : List (BitVec 8)} (hn : n < 0 ∨ 65536 < n) (h : K (.tup [.nils, .int 2]) H) : wpF P [] 42 [.int n, .str s] H K := by
  refine wpF_go c42 rfl 4 ?_
  intro ha hb
  simp only [s42]
  by_cases h0 : n < 0
  · (refine gw1 @h0 ?_; try exact True.intro)
    exact h
  have h3 : 65536 < n := by omega
  (refine gw2 @h0 @h3 ?_; try exact True.intro)
  exact h
theorem f42s {K : AV → Heap → Prop} {H : Heap} {n : Nat} {s : List (BitVec 8)} (hn : n ≤ 65536) (hs : s.length ≠ 128 * ny n) (h : K (.tup [.nils, .int 11]) H) : wpF P [] 42 [.int (n : Int), .str s] H K := by
  refine wpF_go c42 rfl 4 ?_
  intro ha hb
  simp only [s42]
  have h0 : ((n : Int) < 0) = False := by simp
  have h1 : ((65536 : Int) < (n : Int)) = False := by simp; omega
  have h7 : (n : Int) + 7 = ((n + 7 : Nat) : Int) := by omega
  have hd := tdiv8 (n + 7)
  have hm : 128 * (((n + 7) / 8 : Nat) : Int) = ((128 * ((n + 7) / 8) : Nat) : Int) := by omega
  have hq : ((s.length : Int) = ((128 * ((n + 7) / 8) : Nat) : Int)) = False := by unfold ny at hs; simp; omega
  (refine gw6 @h0 @h1 @h7 @hd @hm @hq ?_; try exact True.intro)
  (repeat (refine And.intro (by omega) ?_))
  exact h
theorem chk_len {s : List (BitVec 8)} {z i : Nat} (hs : s.length = 128 * z) (hi : i < 128) : (chk s z i).length = z := by
  unfold chk
  have := Nat.mul_le_mul_right z (show i + 1 ≤ 128 by omega)
  rw [Nat.add_mul] at this
  rw [List.length_take, List.length_drop]
  omega
theorem f42g {K : AV → Heap → Prop} {H : Heap} {n : Nat} {s : List (BitVec 8)} (hn : n ≤ 65536) (hs : s.length = 128 * ny n)
    (hbad : (∃ i, i < 128 ∧ Rb n (chk s (ny n) i)) → K (.tup [.nils, .int 13]) H) (hgood : (∀ i, i < 128 → ¬ Rb n (chk s (ny n) i)) → K (.tup [.ro vS (ucL n s 128), .int 0]) H) : wpF P [] 42 [.int (n : Int), .str s] H K := by
  refine wpF_go c42 rfl 5 ?_
  intro ha hb
  simp only [s42]
  have h0 : ((n : Int) < 0) = False := by simp
  have h1 : ((65536 : Int) < (n : Int)) = False := by simp; omega
  have h7 : (n : Int) + 7 = ((n + 7 : Nat) : Int) := by omega
  have hd : Int.tdiv ((n + 7 : Nat) : Int) 8 = ((ny n : Nat) : Int) := tdiv8 (n + 7)
  have hz : ny n ≤ 8192 := by unfold ny; omega
  have hm : 128 * ((ny n : Nat) : Int) = ((128 * ny n : Nat) : Int) := by omega
  (refine gw6 @h0 @h1 @h7 @hd @hm @hs ?_; try exact True.intro)
  (repeat (refine And.intro (by omega) ?_))
  refine wp_inv (I42 n s H) 128 ⟨0, _, _, _, _, _, [], [], rfl, rfl, rfl, by omega, fun i hi => absurd hi (Nat.not_lt_zero i)⟩ ?_
  rintro k st ⟨t, u6, u7, u8, u12, u13, J, l, rfl, hl, rfl, ht, hr⟩
  by_cases htl : t < 128
  · have h2 : ((t : Int) < 128) = True := by simp; omega
    have m1 : (t : Int) * ((ny n : Nat) : Int) = ((t * ny n : Nat) : Int) := by simp
    have m2 : ((t : Int) + 1) * ((ny n : Nat) : Int) = ((t * ny n + ny n : Nat) : Int) := by rw [Int.add_mul]; simp
    have hmul := Nat.mul_le_mul_right (ny n) (show t + 1 ≤ 128 by omega)
    rw [Nat.add_mul, Nat.one_mul] at hmul
    have hsub : t * ny n + ny n - t * ny n = ny n := by omega
    have hch : List.take (ny n) (List.drop (t * ny n) s) = chk s (ny n) t := rfl
    unfold vB
    (refine gw6 @h2 @m1 @m2 @hs @hsub @hch ?_; try exact True.intro)
    (repeat (refine And.intro (by omega) ?_))
    refine f69 (by omega) (chk_len hs htl) ⟨fun hR => ?_, fun hR => ?_⟩
    · (refine gw0 ?_; try exact True.intro)
      exact hbad ⟨t, htl, hR⟩
    · simp only [vec]
      (refine gw0 ?_; try exact True.intro)
      refine ⟨rfl, rfl, ?_⟩
      (repeat (refine And.intro (by omega) ?_))
      refine ⟨128 - (t + 1), by omega, t + 1, _, _, _, _, _, _, _, rfl, by rw [hl]; exact veL_succ, rfl, by omega, fun i hi => ?_⟩
      by_cases e : i = t
      · rw [e]; exact hR
      · exact hr i (by omega)
  · have h2 : ((t : Int) < 128) = False := by simp; omega
    have ht' : t = 128 := by omega
    subst ht'
    have hll : List.take 128 l = l := List.take_of_length_le (by rw [hl]; simp [ucL, veL])
    have hmo : mapO (demK (fun b => decide (b < H.length)) H.length (H ++ vB 128 l :: J) 3) l = some l := by rw [hl]; exact mapO_veL
    unfold vB at *
    (refine gw3 @h2 @hll @hmo ?_; try exact True.intro)
    rw [hl]
    exact hgood hr

/-! the reference's columns out of bytes -/
def bel (n : Nat) (f : Nat → Bool) : AV := if n = 0 then .nils else .ro .leaf ((List.range n).map fun i => .bool (f i))
def beL (n : Nat) (f : Nat → Nat → Bool) (t : Nat) : List AV := (List.range t).map fun i => bel n (f i)
theorem beL_len {n : Nat} {f : Nat → Nat → Bool} {t : Nat} : (beL n f t).length = t := by simp [beL]
theorem beL_get {n : Nat} {f : Nat → Nat → Bool} {t i : Nat} (h : i < t) : (beL n f t).getD i .un = bel n (f i) := ld_rng h
theorem beL_succ {n : Nat} {f : Nat → Nat → Bool} {t : Nat} : beL n f t ++ [bel n (f t)] = beL n f (t + 1) := by simp [beL, List.range_succ]
theorem bel_isL {n : Nat} {f : Nat → Bool} : isL (bel n f) (((List.range n).map f).map .bool) := by
  unfold bel isL
  by_cases h : n = 0
  · subst h; exact .inr ⟨rfl, rfl⟩
  · rw [if_neg h]; exact .inl (by rw [List.map_map]; rfl)
theorem demK_bel {kp : Nat → Bool} {N : Nat} {h : Heap} {d : Nat} {n : Nat} {f : Nat → Bool} : demK kp N h (d + 2) (bel n f) = some (bel n f) := by
  unfold bel
  by_cases hn : n = 0
  · rw [if_pos hn]; rfl
  · rw [if_neg hn, demK_ro, if_pos bnds_bool]
theorem mapO_beL {kp : Nat → Bool} {N : Nat} {h : Heap} {d : Nat} {n : Nat} {f : Nat → Nat → Bool} {t : Nat} : mapO (demK kp N h (d + 2)) (beL n f t) = some (beL n f t) := by
  refine mapO_ofT fun x hx => ?_
  obtain ⟨j, _, rfl⟩ := List.mem_map.1 hx
  exact demK_bel
theorem bel_cell {n : Nat} {f : Nat → Bool} : (match bel n f with | AV.agg ps => false | AV.tup ps => false | AV.un => false | x => true) = true := by
  unfold bel
  by_cases h : n = 0
  · rw [if_pos h]
  · rw [if_neg h]
def lsB (t : Nat) (l : List AV) : Option Blk := some ⟨75, t, true, .arr t .leaf, .agg l⟩
def I43 (n : Nat) (s : List (BitVec 8)) (H : Heap) (k : Nat) (st : St) : Prop :=
  ∃ (t : Nat) (out u7 u8 u11 u12 : AV) (L : Heap), st = ⟨[.int (n : Int), .str s, .nils, .int 0, .int ((ny n : Nat) : Int), out, .int (t : Int), u7, u8, .bool false, .bool false, u11, u12],
    H ++ L⟩ ∧ k = 128 - t ∧ t ≤ 128 ∧ (∀ i, i < t → ¬ Rb n (chk s (ny n) i)) ∧
    ((t = 0 ∧ out = .nils ∧ L = []) ∨ (0 < t ∧ out = .own (H.length + 1) t [] 0 t .leaf ∧ ∃ g J l, L = g :: lsB t l :: J ∧ l = beL n (fun i => sf (chk s (ny n) i)) t))
theorem f43e {K : AV → Heap → Prop} {H : Heap} {n : Int} {s : List (BitVec 8)} (hn : n < 0 ∨ 65536 < n) (h : K (.tup [.nils, .int 2]) H) : wpF P [] 43 [.int n, .str s] H K := by
  refine wpF_go c43 rfl 4 ?_
  intro ha hb
  simp only [s43]
  by_cases h0 : n < 0
  · (refine gw1 @h0 ?_; try exact True.intro)
    exact h
  have h3 : 65536 < n := by omega
  (refine gw2 @h0 @h3 ?_; try exact True.intro)
  exact h
theorem f43s {K : AV → Heap → Prop} {H : Heap} {n : Nat} {s : List (BitVec 8)} (hn : n ≤ 65536) (hs : s.length ≠ 128 * ny n) (h : K (.tup [.nils, .int 11]) H) : wpF P [] 43 [.int (n : Int), .str s] H K := by
  refine wpF_go c43 rfl 4 ?_
  intro ha hb
  simp only [s43]
  have h0 : ((n : Int) < 0) = False := by simp
  have h1 : ((65536 : Int) < (n : Int)) = False := by simp; omega
  have h7 : (n : Int) + 7 = ((n + 7 : Nat) : Int) := by omega
  have hd := tdiv8 (n + 7)
  have hm : 128 * (((n + 7) / 8 : Nat) : Int) = ((128 * ((n + 7) / 8) : Nat) : Int) := by omega
  have hq : ((s.length : Int) = ((128 * ((n + 7) / 8) : Nat) : Int)) = False := by unfold ny at hs; simp; omega
  (refine gw6 @h0 @h1 @h7 @hd @hm @hq ?_; try exact True.intro)
  (repeat (refine And.intro (by omega) ?_))
  exact h
theorem f43g {K : AV → Heap → Prop} {H : Heap} {n : Nat} {s : List (BitVec 8)} (hn : n ≤ 65536) (hs : s.length = 128 * ny n)
    (hbad : (∃ i, i < 128 ∧ Rb n (chk s (ny n) i)) → K (.tup [.nils, .int 13]) H) (hgood : (∀ i, i < 128 → ¬ Rb n (chk s (ny n) i)) → K (.tup [.ro .leaf (beL n (fun i => sf (chk s (ny n) i)) 128), .int 0]) H) : wpF P [] 43 [.int (n : Int), .str s] H K := by
  refine wpF_go c43 rfl 5 ?_
  intro ha hb
  simp only [s43]
  have h0 : ((n : Int) < 0) = False := by simp
  have h1 : ((65536 : Int) < (n : Int)) = False := by simp; omega
  have h7 : (n : Int) + 7 = ((n + 7 : Nat) : Int) := by omega
  have hd : Int.tdiv ((n + 7 : Nat) : Int) 8 = ((ny n : Nat) : Int) := tdiv8 (n + 7)
  have hz : ny n ≤ 8192 := by unfold ny; omega
  have hm : 128 * ((ny n : Nat) : Int) = ((128 * ny n : Nat) : Int) := by omega
  (refine gw6 @h0 @h1 @h7 @hd @hm @hs ?_; try exact True.intro)
  (repeat (refine And.intro (by omega) ?_))
  refine wp_inv (I43 n s H) 128 ⟨0, _, _, _, _, _, [], by rw [List.append_nil]; rfl, rfl, by omega, fun i hi => absurd hi (Nat.not_lt_zero i), .inl ⟨rfl, rfl, rfl⟩⟩ ?_
  rintro k st ⟨t, out, u7, u8, u11, u12, L, rfl, rfl, ht, hr, hc⟩
  by_cases htl : t < 128
  · have h2 : ((t : Int) < 128) = True := by simp; omega
    have m1 : (t : Int) * ((ny n : Nat) : Int) = ((t * ny n : Nat) : Int) := by simp
    have m2 : ((t * ny n : Nat) : Int) + ((ny n : Nat) : Int) = ((t * ny n + ny n : Nat) : Int) := by simp
    have hmul := Nat.mul_le_mul_right (ny n) (show t + 1 ≤ 128 by omega)
    rw [Nat.add_mul, Nat.one_mul] at hmul
    have hsub : t * ny n + ny n - t * ny n = ny n := by omega
    have hch : List.take (ny n) (List.drop (t * ny n) s) = chk s (ny n) t := rfl
    have hr' : ¬ Rb n (chk s (ny n) t) → ∀ i, i < t + 1 → ¬ Rb n (chk s (ny n) i) := fun hR i hi => by
      by_cases e : i = t
      · rw [e]; exact hR
      · exact hr i (by omega)
    rcases hc with ⟨ht0, rfl, rfl⟩ | ⟨ht0, rfl, g, J, l, rfl, hl2⟩
    · (refine gw6 @h2 @m1 @m2 @hs @hsub @hch ?_; try exact True.intro)
      (repeat (refine And.intro (by omega) ?_))
      refine f70 (by omega) (chk_len hs htl) ⟨fun hR => ?_, fun hR => ?_⟩
      · (refine gw0 ?_; try exact True.intro)
        exact hbad ⟨t, htl, hR⟩
      · rw [show (if n = 0 then AV.nils else .ro .leaf ((List.range n).map fun i => .bool (sf (chk s (ny n) t) i))) = bel n (sf (chk s (ny n) t)) from rfl]
        (refine gw0 ?_; try exact True.intro)
        refine ⟨bel_cell, bel_cell, ?_⟩
        (repeat (refine And.intro (by omega) ?_))
        subst ht0
        exact ⟨127, by omega, 1, _, _, _, _, _, _, rfl, by omega, by omega, hr' hR, .inr ⟨by omega, rfl, _, [], _, rfl, rfl⟩⟩
    · unfold lsB
      (refine gw6 @h2 @m1 @m2 @hs @hsub @hch ?_; try exact True.intro)
      (repeat (refine And.intro (by omega) ?_))
      refine f70 (by omega) (chk_len hs htl) ⟨fun hR => ?_, fun hR => ?_⟩
      · (refine gw0 ?_; try exact True.intro)
        exact hbad ⟨t, htl, hR⟩
      · rw [show (if n = 0 then AV.nils else .ro .leaf ((List.range n).map fun i => .bool (sf (chk s (ny n) t) i))) = bel n (sf (chk s (ny n) t)) from rfl]
        (refine gw0 ?_; try exact True.intro)
        refine ⟨bel_cell, bel_cell, ?_⟩
        (repeat (refine And.intro (by omega) ?_))
        exact ⟨128 - (t + 1), by omega, t + 1, _, _, _, _, _, _, rfl, by omega, by omega, hr' hR, .inr ⟨by omega, rfl, _, _, _, rfl, by rw [hl2]; exact beL_succ⟩⟩
  · have h2 : ((t : Int) < 128) = False := by simp; omega
    have ht' : t = 128 := by omega
    subst ht'
    rcases hc with ⟨ht0, rfl, rfl⟩ | ⟨ht0, rfl, g, J, l, rfl, hl2⟩
    · omega
    · have hll : List.take 128 l = l := List.take_of_length_le (by rw [hl2]; simp [beL])
      have hmo : mapO (demK (fun b => decide (b < H.length)) H.length (H ++ g :: lsB 128 l :: J) 3) l = some l := by rw [hl2]; exact mapO_beL
      unfold lsB at *
      (refine gw3 @h2 @hll @hmo ?_; try exact True.intro)
      rw [hl2]
      exact hgood hr

/-! columns as bytes -/
def pkS (m : Nat → Nat) (f : Nat → Nat → Bool) : Nat → List (BitVec 8)
  | 0 => []
  | t + 1 => pkS m f t ++ bys (m t) (f t)
theorem pkS_len {m : Nat → Nat} {f : Nat → Nat → Bool} {n : Nat} : ∀ {t : Nat}, (∀ i, i < t → m i = n) → (pkS m f t).length = t * ny n
  | 0, _ => by simp [pkS]
  | t + 1, h => by
    rw [pkS, List.length_append, pkS_len (n := n) fun i hi => h i (by omega), bys_len, h t (by omega), Nat.add_mul, Nat.one_mul]
def yB (t q : Nat) (s : List (BitVec 8)) : Option Blk := some ⟨5, t, true, .arr q .leaf, .agg (s.map .u8)⟩
theorem f44c {K : AV → Heap → Prop} {H : Heap} {m : Nat → Nat} {f : Nat → Nat → Bool} {q : Nat} (hq : q ≠ 128) (h : K (.tup [.str [], .int 11]) H) : wpF P [] 44 [.ro vS (veL m f q)] H K := by
  refine wpF_go c44 rfl 4 ?_
  intro ha hb
  simp only [s44]
  have hl := veL_len (m := m) (f := f) (t := q)
  have h1 : ((q : Int) = 128) = False := by simp; omega
  (refine gw2 @hl @h1 ?_; try exact True.intro)
  exact h
def I44 (m : Nat → Nat) (f : Nat → Nat → Bool) (H : Heap) (k : Nat) (st : St) : Prop :=
  ∃ (t : Nat) (b u4 u9 u10 : AV) (L : Heap), st = ⟨[.ro vS (veL m f 128), .str [], .int 0, b, u4, .bool false, .ro vS (veL m f 128), .int 128, .int (t : Int), u9, u10],
    H ++ L⟩ ∧ k = 128 - t ∧ t ≤ 128 ∧ (∀ i, i < t → m i = m 0) ∧
    ((t = 0 ∧ b = .nils ∧ L = []) ∨ (0 < t ∧ ∃ s q g J, s = pkS m f t ∧ q = s.length ∧ b = .own (H.length + 1) t [] 0 q .leaf ∧ L = g :: yB t q s :: J))
theorem f44 {K : AV → Heap → Prop} {H : Heap} {m : Nat → Nat} {f : Nat → Nat → Bool} (hn : ∀ i, m i ≤ 65536)
    (hbad : (∃ i, i < 128 ∧ m i ≠ m 0) → K (.tup [.str [], .int 11]) H) (hgood : (∀ i, i < 128 → m i = m 0) → K (.tup [.str (pkS m f 128), .int 0]) H) : wpF P [] 44 [.ro vS (veL m f 128)] H K := by
  refine wpF_go c44 rfl 4 ?_
  intro ha hb
  simp only [s44]
  have hl := veL_len (m := m) (f := f) (t := 128)
  (refine gw1 @hl ?_; try exact True.intro)
  refine wp_inv (I44 m f H) 128 ⟨0, _, _, _, _, [], by rw [List.append_nil]; rfl, rfl, by omega, fun i hi => absurd hi (Nat.not_lt_zero i), .inl ⟨rfl, rfl, rfl⟩⟩ ?_
  rintro k st ⟨t, b, u4, u9, u10, L, rfl, rfl, ht, hr, hc⟩
  have g0 := veL_get (m := m) (f := f) (t := 128) (i := 0) (by omega)
  by_cases htl : t < 128
  · have h2 : ((t : Int) < 128) = True := by simp; omega
    have gt := veL_get (m := m) (f := f) (t := 128) (i := t) htl
    unfold vec at gt g0
    have hmt := hn t
    by_cases hq : m t = m 0
    · have hq' : (((m t : Nat) : Int) = ((m 0 : Nat) : Int)) = True := by rw [hq]; simp
      have hr' : ∀ i, i < t + 1 → m i = m 0 := fun i hi => by
        by_cases e : i = t
        · rw [e]; exact hq
        · exact hr i (by omega)
      have hbl := bys_len (n := m t) (f := f t)
      have hny : ny (m t) ≤ 8200 := by unfold ny; omega
      rcases hc with ⟨ht0, rfl, rfl⟩ | ⟨ht0, s, q, g, J, hs, hsq, rfl, rfl⟩
      · (refine gw4 @h2 @hl @gt @g0 ?_; try exact True.intro)
        refine ⟨rfl, drawn _ (f67 ⟨rfl, rfl⟩) ?_⟩
        (refine gw4 @h2 @hl @gt @g0 ?_; try exact True.intro)
        refine ⟨rfl, drawn _ (f67 ⟨rfl, rfl⟩) ?_⟩
        (refine gw1 @hq' ?_; try exact True.intro)
        refine f71 (by omega) ?_
        (refine gw1 @hbl ?_; try exact True.intro)
        (repeat (refine And.intro (by omega) ?_))
        subst ht0
        exact ⟨127, by omega, 1, _, _, _, _, _, rfl, by omega, by omega, hr', .inr ⟨by omega, _, _, _, [], by simp [pkS], by simp [hbl], rfl, rfl⟩⟩
      · have hsl := pkS_len (f := f) hr
        have hml := Nat.mul_le_mul_left t (show ny (m 0) ≤ 8200 by rw [← hq]; exact hny)
        rw [← hs, ← hsq] at hsl
        unfold yB
        (refine gw4 @h2 @hl @gt @g0 ?_; try exact True.intro)
        refine ⟨rfl, drawn _ (f67 ⟨rfl, rfl⟩) ?_⟩
        (refine gw4 @h2 @hl @gt @g0 ?_; try exact True.intro)
        refine ⟨rfl, drawn _ (f67 ⟨rfl, rfl⟩) ?_⟩
        (refine gw1 @hq' ?_; try exact True.intro)
        refine f71 (by omega) ?_
        (refine gw1 @hbl ?_; try exact True.intro)
        (repeat (refine And.intro (by omega) ?_))
        rw [← List.map_append]
        exact ⟨128 - (t + 1), by omega, t + 1, _, _, _, _, _, rfl, by omega, by omega, hr', .inr ⟨by omega, _, _, _, _, by rw [hs]; rfl, by simp [hbl, hsq], rfl, rfl⟩⟩
    · have hq' : (((m t : Nat) : Int) = ((m 0 : Nat) : Int)) = False := by simp only [eq_iff_iff, iff_false]; omega
      rcases hc with ⟨ht0, rfl, rfl⟩ | ⟨ht0, s, q, g, J, hs, hsq, rfl, rfl⟩
      · subst ht0
        exact absurd rfl hq
      · unfold yB
        (refine gw4 @h2 @hl @gt @g0 ?_; try exact True.intro)
        refine ⟨rfl, drawn _ (f67 ⟨rfl, rfl⟩) ?_⟩
        (refine gw4 @h2 @hl @gt @g0 ?_; try exact True.intro)
        refine ⟨rfl, drawn _ (f67 ⟨rfl, rfl⟩) ?_⟩
        (refine gw1 @hq' ?_; try exact True.intro)
        exact hbad ⟨t, htl, hq⟩
  · have h2 : ((t : Int) < 128) = False := by simp; omega
    have ht' : t = 128 := by omega
    subst ht'
    rcases hc with ⟨ht0, rfl, rfl⟩ | ⟨ht0, s, q, g, J, hs, hsq, rfl, rfl⟩
    · omega
    · have hby : bytesOf (List.take q (s.map AV.u8)) = some s := by rw [List.take_of_length_le (by simp; omega)]; exact bytesOf_m
      unfold yB
      (refine gw2 @h2 @hby ?_; try exact True.intro)
      rw [hs]
      exact hgood hr
end Go.Proofs.Ytebmlmkiblieiaa
