/-
  Layer 16 (trans), as this seat's program has it: the rows of columns.
-/
import Derived.Test.YtebmlmkiblieiaaTd
import Derived.Test.YtebmlmkiblieiaaV38
open Go Go.V
namespace Go.Proofs.Ytebmlmkiblieiaa
/-- trefoil/trans.Rows (0:cols, 2:, 3:, 4:n, 5:raw, 6:i, 7:c, 8:out, 9:half, 10:at, 11:w, 12:i, 13:j, 16:, 24:, 25:, 26:, 27:, 34:, 43:, 44:, 48:, 51:, 52:, 77:) -/
def s41 : FnS := ⟨92, [0, 2, 3, 4, 5, 6, 7, 8, 9, 10, 11, 12, 13, 16, 24, 25, 26, 27, 34, 43, 44, 48, 51, 52, 77],
    (.seq (.reg [⟨.var 1, (.q .mv), [.c .nils], none⟩,
      ⟨.var 2, (.q .mv), [.c (.int 0)], none⟩])
    (.seq (.seq (.reg [⟨.new, (.q .mv), [.t 0], none⟩,
      ⟨.new, (.q .len), [.t 25], none⟩,
      ⟨.var 13, (.q (.bin .neq)), [.t 26, .c (.int 128)], none⟩])
    (.cond (.t 13) (.seq (.reg [⟨.var 1, (.q .mv), [.c .nils], none⟩,
      ⟨.var 2, (.q .mv), [.c (.int 11)], none⟩])
    .ret)
    .skip))
    (.seq (.reg [⟨.new, (.q .mv), [.t 0], none⟩,
      ⟨.new, (.q (.iaS (.st [.leaf, .leaf]))), [.t 25, .c (.int 0)], none⟩,
      ⟨.new, (.q (.ld (.st [.leaf, .leaf]))), [.t 26], none⟩,
      ⟨.new, (.call 67), [.t 27], none⟩,
      ⟨.var 3, (.q .mv), [.t 28], none⟩])
    (.seq (.reg [⟨.new, (.q .mv), [.t 0], none⟩,
      ⟨.new, (.q .len), [.t 25], none⟩,
      ⟨.new, (.e (.mksl 64 .leaf 24 .nils)), [.t 26, .t 26], none⟩,
      ⟨.var 4, (.q .mv), [.t 27], none⟩])
    (.seq (.seq (.reg [⟨.var 14, (.q .mv), [.t 0], none⟩,
      ⟨.var 15, (.q .len), [.t 14], none⟩,
      ⟨.var 16, (.q .mv), [.c (.int 0)], none⟩])
    (.block 0 (.loop (.seq (.reg [⟨.var 17, (.q (.bin .lss)), [.t 16, .t 15], none⟩])
    (.seq (.cond (.t 17) .skip
    (.exit 0))
    (.seq (.block 1 (.seq (.reg [⟨.new, (.q .mv), [.t 16], none⟩,
      ⟨.new, (.q (.iaS (.st [.leaf, .leaf]))), [.t 14, .t 16], none⟩,
      ⟨.new, (.q (.ld (.st [.leaf, .leaf]))), [.t 26], none⟩,
      ⟨.var 6, (.e (.alloc 77 (.st [.leaf, .leaf]) (.agg [(.int 0), .nils]))), [], none⟩,
      ⟨.var 5, (.q .mv), [.t 25], none⟩,
      ⟨.none, (.e (.store (.st [.leaf, .leaf]))), [.t 6, .t 27], none⟩])
    (.seq (.seq (.reg [⟨.new, (.q (.ld (.st [.leaf, .leaf]))), [.t 6], none⟩,
      ⟨.new, (.call 67), [.t 25], none⟩,
      ⟨.new, (.q .mv), [.t 3], none⟩,
      ⟨.var 18, (.q (.bin .neq)), [.t 26, .t 27], none⟩])
    (.cond (.t 18) (.seq (.reg [⟨.var 1, (.q .mv), [.c .nils], none⟩,
      ⟨.var 2, (.q .mv), [.c (.int 11)], none⟩])
    .ret)
    .skip))
    (.reg [⟨.new, (.q .mv), [.t 4], none⟩,
      ⟨.new, (.q .mv), [.t 5], none⟩,
      ⟨.new, (.q (.ld (.st [.leaf, .leaf]))), [.t 6], none⟩,
      ⟨.new, (.call 68), [.t 27], none⟩,
      ⟨.new, (.q (.iaS .leaf)), [.t 25, .t 26], none⟩,
      ⟨.none, (.e (.store .leaf)), [.t 29, .t 28], none⟩]))))
    (.reg [⟨.new, (.q (.bin .add)), [.t 16, .c (.int 1)], none⟩,
      ⟨.var 16, (.q .mv), [.t 25], none⟩])))))))
    (.seq (.reg [⟨.new, (.q .mv), [.t 3], none⟩,
      ⟨.new, (.e (.mksl 24 (.arr 2 .leaf) 16 (.agg [(.u64 0), (.u64 0)]))), [.t 25, .t 25], none⟩,
      ⟨.var 7, (.q .mv), [.t 26], none⟩])
    (.seq (.seq (.reg [⟨.var 19, (.q .mv), [.c (.int 0)], none⟩])
    (.block 2 (.loop (.seq (.reg [⟨.var 20, (.q (.bin .lss)), [.t 19, .c (.int 2)], none⟩])
    (.seq (.cond (.t 20) .skip
    (.exit 2))
    (.seq (.block 3 (.seq (.reg [⟨.new, (.q .mv), [.t 19], none⟩,
      ⟨.var 8, (.q .mv), [.t 25], none⟩])
    (.seq (.reg [⟨.var 9, (.q .mv), [.c (.int 0)], none⟩])
    (.block 4 (.loop (.seq (.seq (.reg [⟨.new, (.q .mv), [.t 9], none⟩,
      ⟨.new, (.q .mv), [.t 3], none⟩,
      ⟨.var 21, (.q (.bin .lss)), [.t 25, .t 26], none⟩])
    (.cond (.t 21) .skip
    (.exit 4)))
    (.seq (.block 5 (.seq (.reg [⟨.var 10, (.e (.alloc 119 (.arr 64 .leaf) (.agg [(.u64 0), (.u64 0), (.u64 0), (.u64 0), (.u64 0), (.u64 0), (.u64 0), (.u64 0), (.u64 0), (.u64 0), (.u64 0), (.u64 0), (.u64 0), (.u64 0), (.u64 0), (.u64 0), (.u64 0), (.u64 0), (.u64 0), (.u64 0), (.u64 0), (.u64 0), (.u64 0), (.u64 0), (.u64 0), (.u64 0), (.u64 0), (.u64 0), (.u64 0), (.u64 0), (.u64 0), (.u64 0), (.u64 0), (.u64 0), (.u64 0), (.u64 0), (.u64 0), (.u64 0), (.u64 0), (.u64 0), (.u64 0), (.u64 0), (.u64 0), (.u64 0), (.u64 0), (.u64 0), (.u64 0), (.u64 0), (.u64 0), (.u64 0), (.u64 0), (.u64 0), (.u64 0), (.u64 0), (.u64 0), (.u64 0), (.u64 0), (.u64 0), (.u64 0), (.u64 0), (.u64 0), (.u64 0), (.u64 0), (.u64 0)]))), [], none⟩])
    (.seq (.seq (.reg [⟨.var 22, (.q .mv), [.c (.int 0)], none⟩])
    (.block 6 (.loop (.seq (.reg [⟨.var 23, (.q (.bin .lss)), [.t 22, .c (.int 64)], none⟩])
    (.seq (.cond (.t 23) .skip
    (.exit 6))
    (.seq (.block 7 (.seq (.reg [⟨.new, (.q .mv), [.t 22], none⟩,
      ⟨.var 11, (.q .mv), [.t 25], none⟩])
    (.reg [⟨.new, (.q .mv), [.t 11], none⟩,
      ⟨.new, (.q .mv), [.t 4], none⟩,
      ⟨.new, (.q .mv), [.t 8], none⟩,
      ⟨.new, (.q (.bin .mul)), [.c (.int 64), .t 27], none⟩,
      ⟨.new, (.q .mv), [.t 11], none⟩,
      ⟨.new, (.q (.bin .add)), [.t 28, .t 29], none⟩,
      ⟨.new, (.q (.iaS .leaf)), [.t 26, .t 30], none⟩,
      ⟨.new, (.q (.ld .leaf)), [.t 31], none⟩,
      ⟨.new, (.q .mv), [.t 9], none⟩,
      ⟨.new, (.q (.bin .quo)), [.t 33, .c (.int 64)], none⟩,
      ⟨.new, (.q (.iaS .leaf)), [.t 32, .t 34], none⟩,
      ⟨.new, (.q (.ld .leaf)), [.t 35], none⟩,
      ⟨.new, (.q (.iaA 64 .leaf)), [.t 10, .t 25], none⟩,
      ⟨.none, (.e (.store .leaf)), [.t 37, .t 36], none⟩])))
    (.reg [⟨.new, (.q (.bin .add)), [.t 22, .c (.int 1)], none⟩,
      ⟨.var 22, (.q .mv), [.t 25], none⟩])))))))
    (.seq (.reg [⟨.new, (.call 64), [.t 10], none⟩])
    (.seq (.reg [⟨.var 12, (.q .mv), [.c (.int 0)], none⟩])
    (.block 8 (.loop (.seq (.seq (.reg [⟨.new, (.q .mv), [.t 12], none⟩,
      ⟨.new, (.q (.bin .lss)), [.t 25, .c (.int 64)], none⟩,
      ⟨.new, (.q .mv), [.t 26], none⟩,
      ⟨.new, (.q .mv), [.t 9], (some (27, true))⟩,
      ⟨.new, (.q .mv), [.t 12], (some (27, true))⟩,
      ⟨.new, (.q (.bin .add)), [.t 28, .t 29], (some (27, true))⟩,
      ⟨.new, (.q .mv), [.t 3], (some (27, true))⟩,
      ⟨.new, (.q (.bin .lss)), [.t 30, .t 31], (some (27, true))⟩,
      ⟨.var 24, (.q .pick), [.t 27, .t 32, .c (.bool false)], none⟩])
    (.cond (.t 24) .skip
    (.exit 8)))
    (.seq (.block 9 (.draw [⟨.new, (.q .mv), [.t 7], none⟩,
      ⟨.new, (.q .mv), [.t 9], none⟩,
      ⟨.new, (.q .mv), [.t 12], none⟩,
      ⟨.new, (.q (.bin .add)), [.t 26, .t 27], none⟩,
      ⟨.new, (.q .mv), [.t 8], none⟩,
      ⟨.new, (.q .mv), [.t 12], none⟩,
      ⟨.new, (.q (.iaA 64 .leaf)), [.t 10, .t 30], none⟩,
      ⟨.new, (.q (.ld .leaf)), [.t 31], none⟩,
      ⟨.new, (.q (.iaS (.arr 2 .leaf))), [.t 25, .t 28], none⟩,
      ⟨.new, (.q (.iaA 2 .leaf)), [.t 33, .t 29], none⟩,
      ⟨.none, (.e (.store .leaf)), [.t 34, .t 32], none⟩]))
    (.reg [⟨.new, (.q .mv), [.t 12], none⟩,
      ⟨.new, (.q (.bin .add)), [.t 25, .c (.int 1)], none⟩,
      ⟨.var 12, (.q .mv), [.t 26], none⟩]))))))))))
    (.reg [⟨.new, (.q .mv), [.t 9], none⟩,
      ⟨.new, (.q (.bin .add)), [.t 25, .c (.int 64)], none⟩,
      ⟨.var 9, (.q .mv), [.t 26], none⟩]))))))))
    (.reg [⟨.new, (.q (.bin .add)), [.t 19, .c (.int 1)], none⟩,
      ⟨.var 19, (.q .mv), [.t 25], none⟩])))))))
    (.seq (.reg [⟨.new, (.q .mv), [.t 7], none⟩,
      ⟨.var 1, (.q .mv), [.t 25], none⟩,
      ⟨.var 2, (.q .mv), [.c (.int 0)], none⟩])
    .ret)))))))),
    [.t 1, .t 2]⟩

set_option maxRecDepth 100000
set_option linter.unusedSimpArgs false
set_option linter.unusedVariables false
theorem c41 : cF P [] (drP P []) 41 1 s41.vm = some s41 := by kernel_rfl
theorem f41c {K : AV → Heap → Prop} {H : Heap} {m : Nat → Nat} {f : Nat → Nat → Bool} {q : Nat} (hq : q ≠ 128) (h : K (.tup [.nils, .int 11]) H) : wpF P [] 41 [.ro vS (veL m f q)] H K := by
  refine wpF_go c41 rfl 4 ?_
  intro ha hb
  simp only [s41]
  have hl := veL_len (m := m) (f := f) (t := q)
  have h1 : ((q : Int) = 128) = False := by simp only [eq_iff_iff, iff_false]; omega
  (refine gw2 @hl @h1 ?_; try exact True.intro)
  exact h
/-- the words of the columns, one row of them after another -/
def reE (n : Nat) (f : Nat → Nat → Bool) (t : Nat) : List AV := (List.range 128).map fun i => if i < t then .ro .leaf (wdA n (f i)) else .nils
theorem reE_len {n : Nat} {f : Nat → Nat → Bool} {t : Nat} : (reE n f t).length = 128 := by simp [reE]
theorem reE_set {n : Nat} {f : Nat → Nat → Bool} {t : Nat} : (reE n f t).set t (.ro .leaf (wdA n (f t))) = reE n f (t + 1) := by
  unfold reE
  rw [rng_set]
  refine rng_congr fun k hk => ?_
  by_cases e : k = t
  · subst e; rw [if_pos rfl, if_pos (by omega)]
  · rw [if_neg e]
    by_cases h2 : k < t
    · rw [if_pos h2, if_pos (by omega)]
    · rw [if_neg h2, if_neg (by omega)]
theorem reE_at {n : Nat} {f : Nat → Nat → Bool} {i : Nat} (hi : i < 128) : (reE n f 128)[i]? = some (.ro .leaf (wdA n (f i))) := by
  unfold reE
  rw [List.getElem?_map, List.getElem?_range hi]
  simp [hi]
def I41a (m : Nat → Nat) (f : Nat → Nat → Bool) (H : Heap) (k : Nat) (st : St) : Prop :=
  ∃ (t : Nat) (u5 u6 u17 u18 : AV) (E : List AV) (J : Heap), st = ⟨[.ro vS (veL m f 128), .nils, .int 0, .int (m 0 : Nat), .own H.length 0 [] 0 128 .leaf, u5, u6, .un, .un, .un, .un, .un, .un, .bool false, .ro vS (veL m f 128), .int 128, .int (t : Int), u17, u18, .un, .un, .un, .un, .un, .un],
    H ++ rawB E :: J⟩ ∧ k = 128 - t ∧ t ≤ 128 ∧ (∀ i, i < t → m i = m 0) ∧ E.length = 128 ∧ (0 < m 0 → E = reE (m 0) f t)

/-- the words of the rows -/
def XY (f : Nat → Nat → Bool) (h j : Nat) : BitVec 64 := wd (fun b => f (64 * h + b) j) 0
def owE (f : Nat → Nat → Bool) (n h c : Nat) : List AV := (List.range n).map fun j =>
  .agg [.u64 (if h = 0 then (if j < c then XY f 0 j else 0) else XY f 0 j), .u64 (if h = 0 then 0 else if h = 1 then (if j < c then XY f 1 j else 0) else XY f 1 j)]
theorem owE_len {f : Nat → Nat → Bool} {n h c : Nat} : (owE f n h c).length = n := by simp [owE]
theorem owE_0 {f : Nat → Nat → Bool} {n : Nat} : List.replicate n (AV.agg [.u64 0, .u64 0]) = owE f n 0 0 := by
  unfold owE
  apply List.ext_getElem?
  intro j
  by_cases hj : j < n
  · rw [List.getElem?_replicate, if_pos hj, List.getElem?_map, List.getElem?_range hj]
    simp
  · rw [List.getElem?_eq_none (by simp; omega), List.getElem?_eq_none (by simp; omega)]
theorem owE_congr {f : Nat → Nat → Bool} {n h c c' : Nat} (hc : ∀ j, j < n → (j < c ↔ j < c')) : owE f n h c = owE f n h c' := by
  unfold owE
  refine rng_congr fun j hj => ?_
  simp only [hc j hj]
theorem owE_next {f : Nat → Nat → Bool} {n h c : Nat} (hh : h < 2) (hc : n ≤ c) : owE f n h c = owE f n (h + 1) 0 := by
  unfold owE
  refine rng_congr fun j hj => ?_
  have : j < c := by omega
  rcases (show h = 0 ∨ h = 1 by omega) with rfl | rfl <;> simp [this]
theorem owE_2 {f : Nat → Nat → Bool} {n c : Nat} : owE f n 2 c = rwA (XY f 0) (XY f 1) n := by
  unfold owE rwA rowV
  refine rng_congr fun j hj => ?_
  simp
def owV (f : Nat → Nat → Bool) (h j : Nat) : AV := .agg [.u64 (if h = 0 then 0 else XY f 0 j), .u64 0]
theorem owE_at {f : Nat → Nat → Bool} {n h j : Nat} (hh : h < 2) (hj : j < n) : (owE f n h j)[j]? = some (.agg [.u64 (if h = 0 then 0 else XY f 0 j), .u64 0]) := by
  unfold owE
  rw [List.getElem?_map, List.getElem?_range hj]
  rcases (show h = 0 ∨ h = 1 by omega) with rfl | rfl <;> simp
theorem owE_set {f : Nat → Nat → Bool} {n h j : Nat} (hh : h < 2) (hj : j < n) :
    (owE f n h j).set j (.agg ([AV.u64 (if h = 0 then 0 else XY f 0 j), .u64 0].set h (.u64 (XY f h j)))) = owE f n h (j + 1) := by
  unfold owE
  rw [rng_set]
  refine rng_congr fun k hk => ?_
  by_cases e : k = j
  · subst e
    rw [if_pos rfl]
    have : k < k + 1 := by omega
    rcases (show h = 0 ∨ h = 1 by omega) with rfl | rfl <;> simp [this]
  · rw [if_neg e]
    have : (k < j) = (k < j + 1) := by simp only [eq_iff_iff]; omega
    simp only [this]
theorem two_at {a b : AV} {h : Nat} (hh : h < 2) : ∃ c, [a, b][h]? = some c := by
  rcases (show h = 0 ∨ h = 1 by omega) with rfl | rfl
  · exact ⟨_, rfl⟩
  · exact ⟨_, rfl⟩
/-- the words that are turned -/
def wrL (f : Nat → Nat → Bool) (h q i : Nat) : List AV := (List.range 64).map fun k => .u64 (if k < i then wd (f (64 * h + k)) q else 0)
theorem wrL_at {f : Nat → Nat → Bool} {h q i : Nat} (hi : i < 64) : (wrL f h q i)[i]? = some (.u64 0) := by
  unfold wrL
  rw [List.getElem?_map, List.getElem?_range hi]
  simp
theorem wrL_set {f : Nat → Nat → Bool} {h q i : Nat} : (wrL f h q i).set i (.u64 (wd (f (64 * h + i)) q)) = wrL f h q (i + 1) := by
  unfold wrL
  rw [rng_set]
  refine rng_congr fun k hk => ?_
  by_cases e : k = i
  · subst e; rw [if_pos rfl, if_pos (by omega)]
  · rw [if_neg e]
    by_cases h2 : k < i
    · rw [if_pos h2, if_pos (by omega)]
    · rw [if_neg h2, if_neg (by omega)]
theorem wrL_sq {f : Nat → Nat → Bool} {h q : Nat} : wrL f h q 64 = sqA fun i b => f (64 * h + i) (64 * q + b) := by
  unfold wrL sqA
  refine rng_congr fun i hi => ?_
  rw [if_pos hi]
  exact congrArg _ (wd_of fun b hb => by rw [wd_bit hb, Nat.mul_zero, Nat.zero_add])
theorem XY_sq {f : Nat → Nat → Bool} {h q j : Nat} : wd (fun b => f (64 * h + b) (64 * q + j)) 0 = XY f h (64 * q + j) := rfl
def oB (n : Nat) (l : List AV) : Option Blk := some ⟨24, 0, true, .arr n (.arr 2 .leaf), .agg l⟩
def I41b (A : AV) (f : Nat → Nat → Bool) (n : Nat) (H L : Heap) (M : Nat) (k : Nat) (st : St) : Prop :=
  ∃ (h : Nat) (u5 u6 u8 u9 u10 u11 u12 u18 u20 u21 u22 u23 u24 : AV) (J : Heap), st = ⟨[A, .nils, .int 0, .int (n : Int), .own H.length 0 [] 0 128 .leaf, u5, u6, .own (H.length + M) 0 [] 0 n (.arr 2 .leaf), u8, u9, u10, u11, u12, .bool false, A, .int 128, .int 128, .bool false, u18, .int (h : Int), u20, u21, u22, u23, u24],
    H ++ (L ++ oB n (owE f n h 0) :: J)⟩ ∧ k = 2 - h ∧ h ≤ 2
def I41c (A : AV) (f : Nat → Nat → Bool) (n : Nat) (H L : Heap) (M : Nat) (h : Nat) (u5 u6 u18 : AV) (k : Nat) (st : St) : Prop :=
  ∃ (q : Nat) (u10 u11 u12 u21 u22 u23 u24 : AV) (J : Heap), st = ⟨[A, .nils, .int 0, .int (n : Int), .own H.length 0 [] 0 128 .leaf, u5, u6, .own (H.length + M) 0 [] 0 n (.arr 2 .leaf), .int (h : Int), .int ((64 * q : Nat) : Int), u10, u11, u12, .bool false, A, .int 128, .int 128, .bool false, u18, .int (h : Int), .bool true, u21, u22, u23, u24],
    H ++ (L ++ oB n (owE f n h (64 * q)) :: J)⟩ ∧ k = nw n - q ∧ q ≤ nw n
def I41d (A : AV) (f : Nat → Nat → Bool) (n : Nat) (H L : Heap) (M : Nat) (h q : Nat) (u5 u6 u12 u18 u24 : AV) (J : Heap) (k : Nat) (st : St) : Prop :=
  ∃ (i : Nat) (u11 u23 : AV), st = ⟨[A, .nils, .int 0, .int (n : Int), .own H.length 0 [] 0 128 .leaf, u5, u6, .own (H.length + M) 0 [] 0 n (.arr 2 .leaf), .int (h : Int), .int ((64 * q : Nat) : Int), .ptr (H.length + (M + (J.length + 1))) 0 [0] (.arr 64 .leaf), u11, u12, .bool false, A, .int 128, .int 128, .bool false, u18, .int (h : Int), .bool true, .bool true, .int (i : Int), u23, u24],
    H ++ (L ++ oB n (owE f n h (64 * q)) :: (J ++ [wbx (wrL f h q i)]))⟩ ∧ k = 64 - i ∧ i ≤ 64
def I41e (A : AV) (f : Nat → Nat → Bool) (n : Nat) (H L : Heap) (M : Nat) (h q : Nat) (u5 u6 u11 u18 : AV) (J : Heap) (w : Option Blk) (k : Nat) (st : St) : Prop :=
  ∃ (j : Nat) (u24 : AV), st = ⟨[A, .nils, .int 0, .int (n : Int), .own H.length 0 [] 0 128 .leaf, u5, u6, .own (H.length + M) 0 [] 0 n (.arr 2 .leaf), .int (h : Int), .int ((64 * q : Nat) : Int), .ptr (H.length + (M + (J.length + 1))) 0 [0] (.arr 64 .leaf), u11, .int (j : Int), .bool false, A, .int 128, .int 128, .bool false, u18, .int (h : Int), .bool true, .bool true, .int 64, .bool false, u24],
    H ++ (L ++ oB n (owE f n h (64 * q + j)) :: (J ++ [w]))⟩ ∧ k = 64 - j ∧ j ≤ 64 ∧ 64 * q + j ≤ n
theorem mapO_rw {kp : Nat → Bool} {N : Nat} {h : Heap} {d : Nat} {x y : Nat → BitVec 64} {t : Nat} : mapO (demK kp N h (d + 2)) (rwA x y t) = some (rwA x y t) := by
  refine mapO_ofT fun x hx => ?_
  obtain ⟨j, _, rfl⟩ := List.mem_map.1 hx
  rfl

theorem f41 {K : AV → Heap → Prop} {H : Heap} {m : Nat → Nat} {f : Nat → Nat → Bool} (hm : ∀ i, m i ≤ 65536)
    (hbad : (∃ i, i < 128 ∧ m i ≠ m 0) → K (.tup [.nils, .int 11]) H)
    (hgood : (∀ i, i < 128 → m i = m 0) → K (.tup [.ro (.arr 2 .leaf) (rwA (fun j => wd (fun b => f (64 * 0 + b) j) 0) (fun j => wd (fun b => f (64 * 1 + b) j) 0) (m 0)), .int 0]) H) : wpF P [] 41 [.ro vS (veL m f 128)] H K := by
  refine wpF_go c41 rfl 5 ?_
  intro ha hb
  simp only [s41]
  have hl := veL_len (m := m) (f := f) (t := 128)
  have g0 := veL_get (m := m) (f := f) (t := 128) (i := 0) (by omega)
  (refine gw2 @hl @g0 ?_; try exact True.intro)
  refine ⟨rfl, f67 ?_⟩
  (refine gw1 @hl ?_; try exact True.intro)
  refine wp_inv (I41a m f H) 128 ⟨0, _, _, _, _, List.replicate 128 .nils, [], rfl, rfl, by omega, fun i hi => absurd hi (Nat.not_lt_zero i), rfl, fun _ => rfl⟩ ?_
  rintro k st ⟨t, u5, u6, u17, u18, E, J, rfl, rfl, ht, hr, hE, hEr⟩
  by_cases htl : t < 128
  · have h4 : ((t : Int) < 128) = True := by simp only [eq_iff_iff, iff_true]; omega
    have gt := veL_get (m := m) (f := f) (t := 128) (i := t) htl
    have hmt := hm t
    have hEt := lget_at (ps := E) (i := t) (by omega)
    unfold rawB
    by_cases hq : m t = m 0
    · have hq' : (((m t : Nat) : Int) = ((m 0 : Nat) : Int)) = True := by rw [hq]; simp
      have hr' : ∀ i, i < t + 1 → m i = m 0 := fun i hi => by
        by_cases e : i = t
        · rw [e]; exact hq
        · exact hr i (by omega)
      unfold vec at gt
      (refine gw3 @h4 @hl @gt ?_; try exact True.intro)
      refine ⟨rfl, f67 ?_⟩
      (refine gw1 @hq' ?_; try exact True.intro)
      refine f68 (by omega) ?_ (fun h0 => ?_)
      · (refine gw2 @hE @hEt ?_; try exact True.intro)
        (repeat (refine And.intro (by omega) ?_))
        exact ⟨128 - (t + 1), by omega, t + 1, _, _, _, _, _, _, rfl, rfl, by omega, hr', by simp [hE], fun h0 => by rw [hEr h0, hq]; exact reE_set⟩
      · (refine gw2 @hE @hEt ?_; try exact True.intro)
        (repeat (refine And.intro (by omega) ?_))
        exact ⟨128 - (t + 1), by omega, t + 1, _, _, _, _, _, _, rfl, rfl, by omega, hr', by simp [hE], fun h0 => by omega⟩
    · have hq' : (((m t : Nat) : Int) = ((m 0 : Nat) : Int)) = False := by simp only [eq_iff_iff, iff_false]; omega
      unfold vec at gt
      (refine gw3 @h4 @hl @gt ?_; try exact True.intro)
      refine ⟨rfl, f67 ?_⟩
      (refine gw1 @hq' ?_; try exact True.intro)
      exact hbad ⟨t, htl, hq⟩
  · have ht' : t = 128 := by omega
    subst ht'
    have h4 : ((128 : Int) < 128) = False := by simp
    have hres := hgood hr
    rw [show rwA (fun j => wd (fun b => f (64 * 0 + b) j) 0) (fun j => wd (fun b => f (64 * 1 + b) j) 0) (m 0) = rwA (XY f 0) (XY f 1) (m 0) from rfl] at hres
    have hn := hm 0
    clear hgood hbad hr hm g0 hl
    generalize m 0 = n at *
    generalize hA : AV.ro vS (veL m f 128) = A at *
    have gr : ∀ X : List (Option Blk), Heap.get (rawB E :: J ++ X) 0 = rawB E := fun X => rfl
    have hM : (rawB E :: J).length = J.length + 1 := rfl
    have hw : nw n ≤ 1024 := by unfold nw; omega
    (refine gw1 @h4 ?_; try exact True.intro)
    (repeat (refine And.intro (by omega) ?_))
    refine wp_inv (I41b A f n H (rawB E :: J) (J.length + 1)) 2 ⟨0, _, _, _, _, _, _, _, _, _, _, _, _, _, [], by rw [← owE_0]; rfl, rfl, by omega⟩ ?_
    generalize (rawB E :: J) = L at gr hM ⊢
    generalize J.length + 1 = M at hM ⊢
    have gM : ∀ (X : List (Option Blk)), Heap.get (L ++ X) M = Heap.get X 0 := fun X => by rw [← hM, hget_0]
    have gMk : ∀ (X : List (Option Blk)) k, Heap.get (L ++ X) (M + k) = Heap.get X k := fun X k => by rw [← hM, hget_k]
    have sM : ∀ (X : List (Option Blk)) b, List.set (L ++ X) M b = L ++ List.set X 0 b := fun X b => by rw [← hM, hset_0]
    have sMk : ∀ (X : List (Option Blk)) k b, List.set (L ++ X) (M + k) b = L ++ List.set X k b := fun X k b => by rw [← hM, hset_k]
    clear hA ha hb u5 u6 u17 u18
    rintro k st ⟨h', u5, u6, u8, u9, u10, u11, u12, u18, u20, u21, u22, u23, u24, J, rfl, rfl, hh⟩
    by_cases hhl : h' < 2
    · have h3 : ((h' : Int) < 2) = True := by simp only [eq_iff_iff, iff_true]; omega
      (refine gw1 @h3 ?_; try exact True.intro)
      refine wp_inv (I41c A f n H L M h' u5 u6 u18) (nw n) ⟨0, _, _, _, _, _, _, _, J, rfl, rfl, by omega⟩ ?_
      rintro k st ⟨q, u10, u11, u12, u21, u22, u23, u24, J, rfl, rfl, hq⟩
      by_cases hql : q < nw n
      · have hqn : 64 * q < n := by unfold nw at hql; omega
        have h5 : (((64 * q : Nat) : Int) < (n : Int)) = True := by simp only [eq_iff_iff, iff_true]; omega
        have hEr := hEr (by omega)
        (refine gw2 @h5 @hM ?_; try exact True.intro)
        refine wp_inv (I41d A f n H L M h' q u5 u6 u12 u18 u24 J) 64 ⟨0, _, _, rfl, rfl, by omega⟩ ?_
        rintro k st ⟨i, u11, u23, rfl, rfl, hi⟩
        by_cases hil : i < 64
        · have h6 : ((i : Int) < 64) = True := by simp only [eq_iff_iff, iff_true]; omega
          have e8 : 64 * (h' : Int) = ((64 * h' : Nat) : Int) := by omega
          have e9 : ((64 * h' : Nat) : Int) + (i : Int) = ((64 * h' + i : Nat) : Int) := by omega
          have e10 : Int.tdiv ((64 * q : Nat) : Int) 64 = (q : Int) := by rw [tdiv64]; simp
          have gi := reE_at (n := n) (f := f) (i := 64 * h' + i) (by omega)
          rw [← hEr] at gi
          have gw : (wdA n (f (64 * h' + i))).getD q .un = .u64 (wd (f (64 * h' + i)) q) := ld_rng hql
          have hw1 := wrL_at (f := f) (h := h') (q := q) hil
          have hw2 := wrL_set (f := f) (h := h') (q := q) (i := i)
          have hwl := wdA_len (n := n) (f := f (64 * h' + i))
          have h9 : (((64 * h' + i : Nat) : Int) < 128) = True := by simp only [eq_iff_iff, iff_true]; omega
          unfold wbx
          unfold rawB at gr
          (refine gw14 @h6 @e8 @e9 @e10 @gr @gi @gw @hw1 @hw2 @gM @gMk @sMk @hwl @h9 ?_; try exact True.intro)
          (repeat (refine And.intro (by omega) ?_))
          exact ⟨64 - (i + 1), by omega, i + 1, _, _, rfl, rfl, by omega⟩
        · have hie : i = 64 := by omega
          subst hie
          have h6 : ((64 : Int) < 64) = False := by simp
          (refine gw1 @h6 ?_; try exact True.intro)
          refine f64' (H0 := H ++ (L ++ oB n (owE f n h' (64 * q)) :: J)) (L := []) (g := fun i b => f (64 * h' + i) (64 * q + b)) (l := wrL f h' q 64) (by simp [hM, Nat.add_assoc]) wrL_sq (by simp [wbx]) ?_
          (refine gw0 ?_; try exact True.intro)
          refine wp_inv (I41e A f n H L M h' q u5 u6 u11 u18 J (sqb fun i b => f (64 * h' + b) (64 * q + i))) 64 ⟨0, _, rfl, rfl, by omega, by omega⟩ ?_
          rintro k st ⟨j, u24, rfl, rfl, hj, hjn⟩
          have e5 : ((64 * q : Nat) : Int) + (j : Int) = ((64 * q + j : Nat) : Int) := by omega
          by_cases hjl : j < 64 ∧ 64 * q + j < n
          · have h6 : ((j : Int) < 64) = True := by simp only [eq_iff_iff, iff_true]; omega
            have h7 : (((64 * q + j : Nat) : Int) < (n : Int)) = True := by simp only [eq_iff_iff, iff_true]; omega
            have hw1 := sqA_at (g := fun i b => f (64 * h' + b) (64 * q + i)) hjl.1
            have ho1 := owE_at (f := f) hhl hjl.2
            have ho2 := owE_set (f := f) hhl hjl.2
            obtain ⟨c, hc⟩ := two_at (a := AV.u64 (if h' = 0 then 0 else XY f 0 (64 * q + j))) (b := .u64 0) hhl
            unfold sqb oB
            rw [XY_sq] at hw1
            (refine gw10 @h6 @h7 @e5 @gM @gMk @sM @hw1 @ho1 @ho2 @hc ?_; try exact True.intro)
            (repeat (refine And.intro (by omega) ?_))
            exact ⟨64 - (j + 1), by omega, j + 1, _, rfl, rfl, by omega, by omega⟩
          · have e11 : ((64 * q : Nat) : Int) + 64 = ((64 * (q + 1) : Nat) : Int) := by omega
            have hoc := owE_congr (f := f) (n := n) (h := h') (c := 64 * q + j) (c' := 64 * (q + 1)) (by intro k hk; omega)
            rw [hoc]
            rcases Nat.lt_or_ge j 64 with hj6 | hj6
            · have h6 : ((j : Int) < 64) = True := by simp only [eq_iff_iff, iff_true]; omega
              have h7 : (((64 * q + j : Nat) : Int) < (n : Int)) = False := by simp only [eq_iff_iff, iff_false]; omega
              (refine gw4 @h6 @h7 @e5 @e11 ?_; try exact True.intro)
              (repeat (refine And.intro (by omega) ?_))
              exact ⟨nw n - (q + 1), by omega, q + 1, _, _, _, _, _, _, _, _, rfl, rfl, by omega⟩
            · have h6 : ((j : Int) < 64) = False := by simp only [eq_iff_iff, iff_false]; omega
              (refine gw2 @h6 @e11 ?_; try exact True.intro)
              (repeat (refine And.intro (by omega) ?_))
              exact ⟨nw n - (q + 1), by omega, q + 1, _, _, _, _, _, _, _, _, rfl, rfl, by omega⟩
      · have h5 : (((64 * q : Nat) : Int) < (n : Int)) = False := by unfold nw at hql; simp only [eq_iff_iff, iff_false]; omega
        have hqe : q = nw n := by omega
        (refine gw1 @h5 ?_; try exact True.intro)
        (repeat (refine And.intro (by omega) ?_))
        refine ⟨2 - (h' + 1), by omega, h' + 1, _, _, _, _, _, _, _, _, _, _, _, _, _, J, by rw [← owE_next (c := 64 * q) hhl (by rw [hqe]; unfold nw; omega)]; rfl, rfl, by omega⟩
    · have hhe : h' = 2 := by omega
      subst hhe
      have h3 : ((2 : Int) < 2) = False := by simp
      have hlo := owE_2 (f := f) (n := n) (c := 0)
      have hll : List.take n (rwA (XY f 0) (XY f 1) n) = rwA (XY f 0) (XY f 1) n := List.take_of_length_le (by rw [rwA_len]; exact Nat.le_refl _)
      have hmo : mapO (demK (fun b => decide (b < H.length)) H.length (H ++ (L ++ oB n (rwA (XY f 0) (XY f 1) n) :: J)) 3) (rwA (XY f 0) (XY f 1) n) = some (rwA (XY f 0) (XY f 1) n) := mapO_rw
      rw [hlo]
      unfold oB at *
      (refine gw4 @h3 @gM @hll @hmo ?_; try exact True.intro)
      exact hres
end Go.Proofs.Ytebmlmkiblieiaa
