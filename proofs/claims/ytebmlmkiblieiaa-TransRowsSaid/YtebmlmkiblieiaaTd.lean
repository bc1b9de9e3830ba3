/-
  The law TransPacks returns true for all inputs: which columns all bytes are, and that they are packed so again.
-/
import Derived.Test.YtebmlmkiblieiaaTc
import Derived.Test.YtebmlmkiblieiaaV38
open Go Go.V
namespace Go.Proofs.Ytebmlmkiblieiaa
/-- trefoil/trefoillaw16.awake (0:, 1:l, 2:e) -/
def s36 : FnS := ⟨41, [0, 1, 2],
    (.seq (.reg [⟨.var 0, (.q .mv), [.c (.bool false)], none⟩])
    (.seq (.reg [⟨.new, (.e (.bld (.arr 2 .leaf) (.agg [(.u64 0), (.u64 0)]) [0, 1])), [.c (.u64 1), .c (.u64 0)], none⟩,
      ⟨.new, (.e (.bld (.arr 2 .leaf) (.agg [(.u64 0), (.u64 0)]) [0, 1])), [.c (.u64 2), .c (.u64 0)], none⟩,
      ⟨.new, (.e (.bld (.arr 2 .leaf) (.agg [(.u64 0), (.u64 0)]) [0, 1])), [.c (.u64 3), .c (.u64 0)], none⟩,
      ⟨.new, (.e (.bsl 24 (.arr 2 .leaf) (.agg [(.u64 0), (.u64 0)]) 3 [0, 1, 2])), [.t 3, .t 4, .t 5], none⟩,
      ⟨.new, (.call 37), [.t 6], none⟩,
      ⟨.new, (.q .mv), [.t 7], none⟩,
      ⟨.new, (.q (.ext 0)), [.t 8], none⟩,
      ⟨.new, (.q (.ext 1)), [.t 8], none⟩,
      ⟨.var 1, (.q .mv), [.t 9], none⟩,
      ⟨.var 2, (.q .mv), [.t 10], none⟩])
    (.seq (.reg [⟨.new, (.q .mv), [.t 2], none⟩,
      ⟨.new, (.q (.bin .eql)), [.t 3, .c (.int 0)], none⟩,
      ⟨.new, (.q .mv), [.t 4], none⟩,
      ⟨.new, (.q .mv), [.t 1], (some (5, true))⟩,
      ⟨.new, (.q .len), [.t 6], (some (5, true))⟩,
      ⟨.new, (.q (.bin .eql)), [.t 7, .c (.int 128)], (some (5, true))⟩,
      ⟨.new, (.q .pick), [.t 5, .t 8, .c (.bool false)], none⟩,
      ⟨.new, (.q .mv), [.t 9], none⟩,
      ⟨.new, (.q .mv), [.t 1], (some (10, true))⟩,
      ⟨.new, (.q (.iaS (.st [.leaf, .leaf]))), [.t 11, .c (.int 0)], (some (10, true))⟩,
      ⟨.new, (.q (.ld (.st [.leaf, .leaf]))), [.t 12], (some (10, true))⟩,
      ⟨.new, (.call 39), [.t 13], (some (10, true))⟩,
      ⟨.new, (.e (.bsl 4 .leaf (.bool false) 3 [0, 1, 2])), [.c (.bool true), .c (.bool false), .c (.bool true)], (some (10, true))⟩,
      ⟨.new, (.call 38), [.t 14, .t 15], (some (10, true))⟩,
      ⟨.new, (.q .pick), [.t 10, .t 16, .c (.bool false)], none⟩,
      ⟨.new, (.q .mv), [.t 17], none⟩,
      ⟨.new, (.q .mv), [.t 1], (some (18, true))⟩,
      ⟨.new, (.q (.iaS (.st [.leaf, .leaf]))), [.t 19, .c (.int 1)], (some (18, true))⟩,
      ⟨.new, (.q (.ld (.st [.leaf, .leaf]))), [.t 20], (some (18, true))⟩,
      ⟨.new, (.call 39), [.t 21], (some (18, true))⟩,
      ⟨.new, (.e (.bsl 4 .leaf (.bool false) 3 [0, 1, 2])), [.c (.bool false), .c (.bool true), .c (.bool true)], (some (18, true))⟩,
      ⟨.new, (.call 38), [.t 22, .t 23], (some (18, true))⟩,
      ⟨.new, (.q .pick), [.t 18, .t 24, .c (.bool false)], none⟩,
      ⟨.new, (.q .mv), [.t 25], none⟩,
      ⟨.new, (.q .mv), [.t 1], (some (26, true))⟩,
      ⟨.new, (.q (.iaS (.st [.leaf, .leaf]))), [.t 27, .c (.int 2)], (some (26, true))⟩,
      ⟨.new, (.q (.ld (.st [.leaf, .leaf]))), [.t 28], (some (26, true))⟩,
      ⟨.new, (.call 63), [.t 29], (some (26, true))⟩,
      ⟨.new, (.q (.bin .eql)), [.t 30, .c (.int 0)], (some (26, true))⟩,
      ⟨.new, (.q .pick), [.t 26, .t 31, .c (.bool false)], none⟩,
      ⟨.var 0, (.q .mv), [.t 32], none⟩])
    .ret))),
    [.t 0]⟩

/-- trefoil/trefoillaw16.TransPacks (0:n, 1:s, 4:, 5:l, 6:e, 7:want, 8:f, 9:i, 10:t, 11:g, 14:, 37:, 41:, 54:, 56:) -/
def s10 : FnS := ⟨73, [0, 1, 4, 5, 6, 7, 8, 9, 10, 11, 14, 37, 41, 54, 56],
    (.seq (.reg [⟨.var 2, (.q .mv), [.c (.bool false)], none⟩])
    (.seq (.seq (.reg [⟨.new, (.q .mv), [.t 1], none⟩,
      ⟨.new, (.q .lenS), [.t 15], none⟩,
      ⟨.var 10, (.q (.bin .gtr)), [.t 16, .c (.int 9000)], none⟩])
    (.cond (.t 10) (.seq (.reg [⟨.new, (.call 36), [], none⟩,
      ⟨.var 2, (.q .mv), [.t 15], none⟩])
    .ret)
    .skip))
    (.seq (.reg [⟨.new, (.q .mv), [.t 0], none⟩,
      ⟨.new, (.q .mv), [.t 1], none⟩,
      ⟨.new, (.call 42), [.t 15, .t 16], none⟩,
      ⟨.new, (.q .mv), [.t 17], none⟩,
      ⟨.new, (.q (.ext 0)), [.t 18], none⟩,
      ⟨.new, (.q (.ext 1)), [.t 18], none⟩,
      ⟨.var 3, (.q .mv), [.t 19], none⟩,
      ⟨.var 4, (.q .mv), [.t 20], none⟩])
    (.seq (.reg [⟨.new, (.q .mv), [.t 0], none⟩,
      ⟨.new, (.q .mv), [.t 1], none⟩,
      ⟨.new, (.call 43), [.t 15, .t 16], none⟩,
      ⟨.new, (.q .mv), [.t 17], none⟩,
      ⟨.new, (.q (.ext 0)), [.t 18], none⟩,
      ⟨.new, (.q (.ext 1)), [.t 18], none⟩,
      ⟨.var 5, (.q .mv), [.t 19], none⟩,
      ⟨.var 6, (.q .mv), [.t 20], none⟩])
    (.seq (.seq (.reg [⟨.new, (.q .mv), [.t 4], none⟩,
      ⟨.new, (.q .mv), [.t 6], none⟩,
      ⟨.new, (.q (.bin .neq)), [.t 15, .t 16], none⟩,
      ⟨.new, (.q .mv), [.t 17], none⟩,
      ⟨.new, (.q .mv), [.t 3], (some (18, false))⟩,
      ⟨.new, (.q .len), [.t 19], (some (18, false))⟩,
      ⟨.new, (.q .mv), [.t 5], (some (18, false))⟩,
      ⟨.new, (.q .len), [.t 21], (some (18, false))⟩,
      ⟨.new, (.q (.bin .neq)), [.t 20, .t 22], (some (18, false))⟩,
      ⟨.var 11, (.q .pick), [.t 18, .c (.bool true), .t 23], none⟩])
    (.cond (.t 11) (.seq (.reg [⟨.var 2, (.q .mv), [.c (.bool false)], none⟩])
    .ret)
    .skip))
    (.seq (.seq (.reg [⟨.var 7, (.q .mv), [.c (.int 0)], none⟩])
    (.block 0 (.loop (.seq (.seq (.reg [⟨.new, (.q .mv), [.t 7], none⟩,
      ⟨.new, (.q .mv), [.t 5], none⟩,
      ⟨.new, (.q .len), [.t 16], none⟩,
      ⟨.var 12, (.q (.bin .lss)), [.t 15, .t 17], none⟩])
    (.cond (.t 12) .skip
    (.exit 0)))
    (.seq (.block 1 (.seq (.draw [⟨.new, (.q .mv), [.t 3], none⟩,
      ⟨.new, (.q .mv), [.t 7], none⟩,
      ⟨.new, (.q (.iaS (.st [.leaf, .leaf]))), [.t 15, .t 16], none⟩,
      ⟨.new, (.q (.ld (.st [.leaf, .leaf]))), [.t 17], none⟩,
      ⟨.new, (.call 39), [.t 18], none⟩,
      ⟨.new, (.q .mv), [.t 5], none⟩,
      ⟨.new, (.q .mv), [.t 7], none⟩,
      ⟨.new, (.q (.iaS .leaf)), [.t 20, .t 21], none⟩,
      ⟨.new, (.q (.ld .leaf)), [.t 22], none⟩,
      ⟨.new, (.call 38), [.t 19, .t 23], none⟩,
      ⟨.var 13, (.q (.un .not)), [.t 24], none⟩])
    (.cond (.t 13) (.seq (.reg [⟨.var 2, (.q .mv), [.c (.bool false)], none⟩])
    .ret)
    .skip)))
    (.reg [⟨.new, (.q .mv), [.t 7], none⟩,
      ⟨.new, (.q (.bin .add)), [.t 15, .c (.int 1)], none⟩,
      ⟨.var 7, (.q .mv), [.t 16], none⟩]))))))
    (.seq (.seq (.reg [⟨.new, (.q .mv), [.t 6], none⟩,
      ⟨.var 14, (.q (.bin .neq)), [.t 15, .c (.int 0)], none⟩])
    (.cond (.t 14) (.seq (.reg [⟨.new, (.call 36), [], none⟩,
      ⟨.var 2, (.q .mv), [.t 15], none⟩])
    .ret)
    .skip))
    (.seq (.reg [⟨.new, (.q .mv), [.t 3], none⟩,
      ⟨.new, (.call 44), [.t 15], none⟩,
      ⟨.new, (.q .mv), [.t 16], none⟩,
      ⟨.new, (.q (.ext 0)), [.t 17], none⟩,
      ⟨.new, (.q (.ext 1)), [.t 17], none⟩,
      ⟨.var 8, (.q .mv), [.t 18], none⟩,
      ⟨.var 9, (.q .mv), [.t 19], none⟩])
    (.seq (.reg [⟨.new, (.q .mv), [.t 9], none⟩,
      ⟨.new, (.q (.bin .eql)), [.t 15, .c (.int 0)], none⟩,
      ⟨.new, (.q .mv), [.t 16], none⟩,
      ⟨.new, (.q .mv), [.t 8], (some (17, true))⟩,
      ⟨.new, (.q .mv), [.t 1], (some (17, true))⟩,
      ⟨.new, (.q (.bin .eql)), [.t 18, .t 19], (some (17, true))⟩,
      ⟨.new, (.q .pick), [.t 17, .t 20, .c (.bool false)], none⟩,
      ⟨.new, (.q .mv), [.t 21], none⟩,
      ⟨.new, (.call 36), [], (some (22, true))⟩,
      ⟨.new, (.q .pick), [.t 22, .t 23, .c (.bool false)], none⟩,
      ⟨.var 2, (.q .mv), [.t 24], none⟩])
    .ret))))))))),
    [.t 2]⟩

set_option maxRecDepth 100000
set_option linter.unusedSimpArgs false
set_option linter.unusedVariables false
theorem c36 : cF P [] (drP P []) 36 0 s36.vm = some s36 := by kernel_rfl
theorem c10 : cF P [] (drP P []) 10 2 s10.vm = some s10 := by kernel_rfl
def awx (j : Nat) : BitVec 64 := if j = 0 then 1 else if j = 1 then 2 else 3
def awy (j : Nat) : BitVec 64 := 0
theorem f36 {K : AV → Heap → Prop} {H : Heap} (h : K (.bool true) H) : wpF P [] 36 [] H K := by
  refine wpF_go c36 rfl 3 ?_
  intro ha hb
  simp only [s36]
  (refine gw0 ?_; try exact True.intro)
  refine wpF_give1 H.length 3 ?_
  (refine gw0 ?_; try exact True.intro)
  refine f37 (x := awx) (y := awy) (n := 3) (by omega) ?_
  have hl := veL_len (m := fun _ => 3) (f := colF awx awy 3) (t := 128)
  have g0 := veL_get (m := fun _ => 3) (f := colF awx awy 3) (t := 128) (i := 0) (by omega)
  have g1 := veL_get (m := fun _ => 3) (f := colF awx awy 3) (t := 128) (i := 1) (by omega)
  have g2 := veL_get (m := fun _ => 3) (f := colF awx awy 3) (t := 128) (i := 2) (by omega)
  have b0 : ((List.range 3).map fun i => AV.bool (colF awx awy 3 0 i)) = [true, false, true].map .bool := by
    rw [show (fun i => AV.bool (colF awx awy 3 0 i)) = AV.bool ∘ colF awx awy 3 0 from rfl, ← List.map_map]
    exact congrArg _ (by decide)
  have b1 : ((List.range 3).map fun i => AV.bool (colF awx awy 3 1 i)) = [false, true, true].map .bool := by
    rw [show (fun i => AV.bool (colF awx awy 3 1 i)) = AV.bool ∘ colF awx awy 3 1 from rfl, ← List.map_map]
    exact congrArg _ (by decide)
  have c2 : cnt (64 * nw 3) (colF awx awy 3 2) = 0 := by decide
  (refine gw2 @hl @g0 ?_; try exact True.intro)
  refine ⟨rfl, f39 (by omega) ?_⟩
  rw [b0]
  (refine gw0 ?_; try exact True.intro)
  refine wpF_lend1 4 ?_
  (refine gw0 ?_; try exact True.intro)
  refine f38 (a := [true, false, true]) (b := [true, false, true]) (.inl rfl) (.inl rfl) ?_
  (refine gw2 @hl @g1 ?_; try exact True.intro)
  refine ⟨rfl, f39 (by omega) ?_⟩
  rw [b1]
  (refine gw0 ?_; try exact True.intro)
  refine wpF_lend1 4 ?_
  (refine gw0 ?_; try exact True.intro)
  refine f38 (a := [false, true, true]) (b := [false, true, true]) (.inl rfl) (.inl rfl) ?_
  (refine gw2 @hl @g2 ?_; try exact True.intro)
  refine ⟨rfl, f63 (by omega) ?_⟩
  rw [c2]
  (refine gw0 ?_; try exact True.intro)
  exact h

theorem pk_chk {n : Nat} {s : List (BitVec 8)} (hs : s.length = 128 * ny n) : ∀ {t : Nat}, t ≤ 128 → pkS (fun _ => n) (fun i => sf (chk s (ny n) i)) t = s.take (t * ny n)
  | 0, _ => by simp [pkS]
  | t + 1, h => by
    rw [pkS, pk_chk hs (by omega), bys_sf (chk_len hs (by omega)), Nat.add_mul, Nat.one_mul, List.take_add]
    rfl
def I10 (n : Nat) (s : List (BitVec 8)) (H : Heap) (k : Nat) (st : St) : Prop :=
  ∃ (t : Nat) (u12 u13 : AV), st = ⟨[.int (n : Int), .str s, .bool false, .ro vS (ucL n s 128), .int 0, .ro .leaf (beL n (fun i => sf (chk s (ny n) i)) 128), .int 0, .int (t : Int), .un, .un, .bool false, .bool false, u12, u13, .un], H⟩ ∧ k = 128 - t ∧ t ≤ 128
theorem f10 {K : AV → Heap → Prop} {H : Heap} {n : Int} {s : List (BitVec 8)} (h : K (.bool true) H) : wpF P [] 10 [.int n, .str s] H K := by
  refine wpF_go c10 rfl 3 ?_
  intro ha hb
  simp only [s10]
  by_cases h9 : 9000 < s.length
  · have h1 : ((9000 : Int) < (s.length : Int)) = True := by simp only [eq_iff_iff, iff_true]; omega
    (refine gw1 @h1 ?_; try exact True.intro)
    refine f36 ?_
    (refine gw0 ?_; try exact True.intro)
    exact h
  have h1 : ((9000 : Int) < (s.length : Int)) = False := by simp only [eq_iff_iff, iff_false]; omega
  by_cases hn : n < 0 ∨ 65536 < n
  · (refine gw1 @h1 ?_; try exact True.intro)
    refine f42e hn ?_
    (refine gw0 ?_; try exact True.intro)
    refine f43e hn ?_
    (refine gw0 ?_; try exact True.intro)
    refine wp_unroll 1 ?_
    (refine gw0 ?_; try exact True.intro)
    refine f36 ?_
    (refine gw0 ?_; try exact True.intro)
    exact h
  obtain ⟨n, rfl⟩ : ∃ m : Nat, n = (m : Int) := ⟨n.toNat, by omega⟩
  by_cases hs : s.length = 128 * ny n
  · by_cases hr : ∃ i, i < 128 ∧ Rb n (chk s (ny n) i)
    · (refine gw1 @h1 ?_; try exact True.intro)
      refine f42g (by omega) hs (fun _ => ?_) (fun hg => absurd hr (by rintro ⟨i, a, b⟩; exact hg i a b))
      (refine gw0 ?_; try exact True.intro)
      refine f43g (by omega) hs (fun _ => ?_) (fun hg => absurd hr (by rintro ⟨i, a, b⟩; exact hg i a b))
      (refine gw0 ?_; try exact True.intro)
      refine wp_unroll 1 ?_
      (refine gw0 ?_; try exact True.intro)
      refine f36 ?_
      (refine gw0 ?_; try exact True.intro)
      exact h
    · have hr' : ∀ i, i < 128 → ¬ Rb n (chk s (ny n) i) := fun i hi hR => hr ⟨i, hi, hR⟩
      have hl1 : (ucL n s 128).length = 128 := by unfold ucL; exact veL_len
      have hl2 := beL_len (n := n) (f := fun i => sf (chk s (ny n) i)) (t := 128)
      (refine gw1 @h1 ?_; try exact True.intro)
      refine f42g (by omega) hs (fun hg => absurd hg hr) (fun _ => ?_)
      (refine gw0 ?_; try exact True.intro)
      refine f43g (by omega) hs (fun hg => absurd hg hr) (fun _ => ?_)
      (refine gw2 @hl1 @hl2 ?_; try exact True.intro)
      refine wp_inv (I10 n s H) 128 ⟨0, _, _, rfl, rfl, by omega⟩ ?_
      rintro k st ⟨t, u12, u13, rfl, rfl, ht⟩
      by_cases htl : t < 128
      · have h4 : ((t : Int) < 128) = True := by simp only [eq_iff_iff, iff_true]; omega
        have gu : (ucL n s 128).getD t .un = vec n (sf (chk s (ny n) t)) := veL_get htl
        have gb := beL_get (n := n) (f := fun i => sf (chk s (ny n) i)) htl
        (refine gw4 @h4 @hl1 @hl2 @gu ?_; try exact True.intro)
        refine ⟨rfl, drawn _ (f39 (by omega) ⟨rfl, rfl⟩) ?_⟩
        (refine gw2 @hl2 @gb ?_; try exact True.intro)
        refine ⟨by omega, drawn (.bool true) (f38 (a := (List.range n).map (sf (chk s (ny n) t))) (.inl (by rw [List.map_map]; rfl)) bel_isL ⟨by simp, rfl⟩) ?_⟩
        (refine gw0 ?_; try exact True.intro)
        (repeat (refine And.intro (by omega) ?_))
        exact ⟨128 - (t + 1), by omega, t + 1, _, _, rfl, rfl, by omega⟩
      · have ht' : t = 128 := by omega
        subst ht'
        have h4 : ((128 : Int) < 128) = False := by simp
        have hpk : pkS (fun _ => n) (fun i => sf (chk s (ny n) i)) 128 = s := by rw [pk_chk hs (by omega), ← hs, List.take_length]
        (refine gw2 @h4 @hl2 ?_; try exact True.intro)
        refine f44 (m := fun _ => n) (f := fun i => sf (chk s (ny n) i)) (fun i => by omega) (fun hx => by obtain ⟨i, _, hi⟩ := hx; exact absurd rfl hi) (fun _ => ?_)
        rw [hpk]
        (refine gw0 ?_; try exact True.intro)
        refine f36 ?_
        (refine gw0 ?_; try exact True.intro)
        exact h
  · (refine gw1 @h1 ?_; try exact True.intro)
    refine f42s (by omega) hs ?_
    (refine gw0 ?_; try exact True.intro)
    refine f43s (by omega) hs ?_
    (refine gw0 ?_; try exact True.intro)
    refine wp_unroll 1 ?_
    (refine gw0 ?_; try exact True.intro)
    refine f36 ?_
    (refine gw0 ?_; try exact True.intro)
    exact h
end Go.Proofs.Ytebmlmkiblieiaa
