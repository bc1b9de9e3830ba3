/-
  Layer 16 (trans), as this seat's program has it: the columns of rows.
-/
import Derived.Test.YtebmlmkiblieiaaTx
import Derived.Test.YtebmlmkiblieiaaV38
open Go Go.V
namespace Go.Proofs.Ytebmlmkiblieiaa
/-- trefoil/trans.Cols (0:rows, 2:, 3:, 4:n, 5:raw, 6:i, 7:half, 8:at, 9:w, 10:j, 11:i, 12:out, 14:l, 15:v, 16:e, 20:, 23:, 24:, 25:, 35:, 36:, 40:, 51:, 65:, 66:, 84:, 85:, 86:, 87:, 97:) -/
def s37 : FnS := ⟨105, [0, 2, 3, 4, 5, 6, 7, 8, 9, 10, 11, 12, 14, 15, 16, 20, 23, 24, 25, 35, 36, 40, 51, 65, 66, 84, 85, 86, 87, 97],
    (.seq (.reg [⟨.var 1, (.q .mv), [.c .nils], none⟩,
      ⟨.var 2, (.q .mv), [.c (.int 0)], none⟩])
    (.seq (.reg [⟨.new, (.q .mv), [.t 0], none⟩,
      ⟨.new, (.q .len), [.t 30], none⟩,
      ⟨.var 3, (.q .mv), [.t 31], none⟩])
    (.seq (.seq (.reg [⟨.new, (.q .mv), [.t 3], none⟩,
      ⟨.var 15, (.q (.bin .gtr)), [.t 30, .c (.int 65536)], none⟩])
    (.cond (.t 15) (.seq (.reg [⟨.var 1, (.q .mv), [.c .nils], none⟩,
      ⟨.var 2, (.q .mv), [.c (.int 2)], none⟩])
    .ret)
    .skip))
    (.seq (.reg [⟨.new, (.e (.mksl 64 .leaf 24 .nils)), [.c (.int 128), .c (.int 128)], none⟩,
      ⟨.var 4, (.q .mv), [.t 30], none⟩])
    (.seq (.seq (.reg [⟨.new, (.q .mv), [.t 4], none⟩,
      ⟨.var 16, (.q .len), [.t 30], none⟩,
      ⟨.var 17, (.q .mv), [.c (.int 0)], none⟩])
    (.block 0 (.loop (.seq (.reg [⟨.var 18, (.q (.bin .lss)), [.t 17, .t 16], none⟩])
    (.seq (.cond (.t 18) .skip
    (.exit 0))
    (.seq (.block 1 (.seq (.reg [⟨.new, (.q .mv), [.t 17], none⟩,
      ⟨.var 5, (.q .mv), [.t 30], none⟩])
    (.reg [⟨.new, (.q .mv), [.t 4], none⟩,
      ⟨.new, (.q .mv), [.t 5], none⟩,
      ⟨.new, (.q .mv), [.t 3], none⟩,
      ⟨.new, (.q (.bin .add)), [.t 32, .c (.int 63)], none⟩,
      ⟨.new, (.q (.bin .quo)), [.t 33, .c (.int 64)], none⟩,
      ⟨.new, (.e (.mksl 22 .leaf 8 (.u64 0))), [.t 34, .t 34], none⟩,
      ⟨.new, (.q (.iaS .leaf)), [.t 30, .t 31], none⟩,
      ⟨.none, (.e (.store .leaf)), [.t 36, .t 35], none⟩])))
    (.reg [⟨.new, (.q (.bin .add)), [.t 17, .c (.int 1)], none⟩,
      ⟨.var 17, (.q .mv), [.t 30], none⟩])))))))
    (.seq (.seq (.reg [⟨.var 19, (.q .mv), [.c (.int 0)], none⟩])
    (.block 2 (.loop (.seq (.reg [⟨.var 20, (.q (.bin .lss)), [.t 19, .c (.int 2)], none⟩])
    (.seq (.cond (.t 20) .skip
    (.exit 2))
    (.seq (.block 3 (.seq (.reg [⟨.new, (.q .mv), [.t 19], none⟩,
      ⟨.var 6, (.q .mv), [.t 30], none⟩])
    (.seq (.reg [⟨.var 7, (.q .mv), [.c (.int 0)], none⟩])
    (.block 4 (.loop (.seq (.seq (.reg [⟨.new, (.q .mv), [.t 7], none⟩,
      ⟨.new, (.q .mv), [.t 3], none⟩,
      ⟨.var 21, (.q (.bin .lss)), [.t 30, .t 31], none⟩])
    (.cond (.t 21) .skip
    (.exit 4)))
    (.seq (.block 5 (.seq (.reg [⟨.var 8, (.e (.alloc 119 (.arr 64 .leaf) (.agg [(.u64 0), (.u64 0), (.u64 0), (.u64 0), (.u64 0), (.u64 0), (.u64 0), (.u64 0), (.u64 0), (.u64 0), (.u64 0), (.u64 0), (.u64 0), (.u64 0), (.u64 0), (.u64 0), (.u64 0), (.u64 0), (.u64 0), (.u64 0), (.u64 0), (.u64 0), (.u64 0), (.u64 0), (.u64 0), (.u64 0), (.u64 0), (.u64 0), (.u64 0), (.u64 0), (.u64 0), (.u64 0), (.u64 0), (.u64 0), (.u64 0), (.u64 0), (.u64 0), (.u64 0), (.u64 0), (.u64 0), (.u64 0), (.u64 0), (.u64 0), (.u64 0), (.u64 0), (.u64 0), (.u64 0), (.u64 0), (.u64 0), (.u64 0), (.u64 0), (.u64 0), (.u64 0), (.u64 0), (.u64 0), (.u64 0), (.u64 0), (.u64 0), (.u64 0), (.u64 0), (.u64 0), (.u64 0), (.u64 0), (.u64 0)]))), [], none⟩])
    (.seq (.seq (.reg [⟨.var 9, (.q .mv), [.c (.int 0)], none⟩])
    (.block 6 (.loop (.seq (.seq (.reg [⟨.new, (.q .mv), [.t 9], none⟩,
      ⟨.new, (.q (.bin .lss)), [.t 30, .c (.int 64)], none⟩,
      ⟨.new, (.q .mv), [.t 31], none⟩,
      ⟨.new, (.q .mv), [.t 7], (some (32, true))⟩,
      ⟨.new, (.q .mv), [.t 9], (some (32, true))⟩,
      ⟨.new, (.q (.bin .add)), [.t 33, .t 34], (some (32, true))⟩,
      ⟨.new, (.q .mv), [.t 3], (some (32, true))⟩,
      ⟨.new, (.q (.bin .lss)), [.t 35, .t 36], (some (32, true))⟩,
      ⟨.var 22, (.q .pick), [.t 32, .t 37, .c (.bool false)], none⟩])
    (.cond (.t 22) .skip
    (.exit 6)))
    (.seq (.block 7 (.reg [⟨.new, (.q .mv), [.t 9], none⟩,
      ⟨.new, (.q .mv), [.t 0], none⟩,
      ⟨.new, (.q .mv), [.t 7], none⟩,
      ⟨.new, (.q .mv), [.t 9], none⟩,
      ⟨.new, (.q (.bin .add)), [.t 32, .t 33], none⟩,
      ⟨.new, (.q .mv), [.t 6], none⟩,
      ⟨.new, (.q (.iaS (.arr 2 .leaf))), [.t 31, .t 34], none⟩,
      ⟨.new, (.q (.iaA 2 .leaf)), [.t 36, .t 35], none⟩,
      ⟨.new, (.q (.ld .leaf)), [.t 37], none⟩,
      ⟨.new, (.q (.iaA 64 .leaf)), [.t 8, .t 30], none⟩,
      ⟨.none, (.e (.store .leaf)), [.t 39, .t 38], none⟩]))
    (.reg [⟨.new, (.q .mv), [.t 9], none⟩,
      ⟨.new, (.q (.bin .add)), [.t 30, .c (.int 1)], none⟩,
      ⟨.var 9, (.q .mv), [.t 31], none⟩]))))))
    (.seq (.reg [⟨.new, (.call 64), [.t 8], none⟩])
    (.seq (.reg [⟨.var 23, (.q .mv), [.c (.int 0)], none⟩])
    (.block 8 (.loop (.seq (.reg [⟨.var 24, (.q (.bin .lss)), [.t 23, .c (.int 64)], none⟩])
    (.seq (.cond (.t 24) .skip
    (.exit 8))
    (.seq (.block 9 (.seq (.reg [⟨.new, (.q .mv), [.t 23], none⟩,
      ⟨.var 10, (.q .mv), [.t 30], none⟩])
    (.draw [⟨.new, (.q .mv), [.t 4], none⟩,
      ⟨.new, (.q .mv), [.t 6], none⟩,
      ⟨.new, (.q (.bin .mul)), [.c (.int 64), .t 31], none⟩,
      ⟨.new, (.q .mv), [.t 10], none⟩,
      ⟨.new, (.q (.bin .add)), [.t 32, .t 33], none⟩,
      ⟨.new, (.q (.iaS .leaf)), [.t 30, .t 34], none⟩,
      ⟨.new, (.q (.ld .leaf)), [.t 35], none⟩,
      ⟨.new, (.q .mv), [.t 7], none⟩,
      ⟨.new, (.q (.bin .quo)), [.t 37, .c (.int 64)], none⟩,
      ⟨.new, (.q .mv), [.t 10], none⟩,
      ⟨.new, (.q (.iaA 64 .leaf)), [.t 8, .t 39], none⟩,
      ⟨.new, (.q (.ld .leaf)), [.t 40], none⟩,
      ⟨.new, (.q (.iaS .leaf)), [.t 36, .t 38], none⟩,
      ⟨.none, (.e (.store .leaf)), [.t 42, .t 41], none⟩])))
    (.reg [⟨.new, (.q (.bin .add)), [.t 23, .c (.int 1)], none⟩,
      ⟨.var 23, (.q .mv), [.t 30], none⟩])))))))))))
    (.reg [⟨.new, (.q .mv), [.t 7], none⟩,
      ⟨.new, (.q (.bin .add)), [.t 30, .c (.int 64)], none⟩,
      ⟨.var 7, (.q .mv), [.t 31], none⟩]))))))))
    (.reg [⟨.new, (.q (.bin .add)), [.t 19, .c (.int 1)], none⟩,
      ⟨.var 19, (.q .mv), [.t 30], none⟩])))))))
    (.seq (.reg [⟨.new, (.e (.mksl 77 (.st [.leaf, .leaf]) 32 (.agg [(.int 0), .nils]))), [.c (.int 0), .c (.int 128)], none⟩,
      ⟨.var 11, (.q .mv), [.t 30], none⟩])
    (.seq (.seq (.reg [⟨.var 25, (.q .mv), [.t 4], none⟩,
      ⟨.var 26, (.q .len), [.t 25], none⟩,
      ⟨.var 27, (.q .mv), [.c (.int 0)], none⟩])
    (.block 10 (.loop (.seq (.reg [⟨.var 28, (.q (.bin .lss)), [.t 27, .t 26], none⟩])
    (.seq (.cond (.t 28) .skip
    (.exit 10))
    (.seq (.block 11 (.seq (.reg [⟨.new, (.q (.iaS .leaf)), [.t 25, .t 27], none⟩,
      ⟨.new, (.q (.ld .leaf)), [.t 30], none⟩,
      ⟨.var 12, (.q .mv), [.t 31], none⟩])
    (.seq (.reg [⟨.new, (.q .mv), [.t 3], none⟩,
      ⟨.new, (.q .mv), [.t 12], none⟩,
      ⟨.new, (.call 65), [.t 30, .t 31], none⟩,
      ⟨.new, (.q .mv), [.t 32], none⟩,
      ⟨.new, (.q (.ext 0)), [.t 33], none⟩,
      ⟨.new, (.q (.ext 1)), [.t 33], none⟩,
      ⟨.var 13, (.e (.alloc 77 (.st [.leaf, .leaf]) (.agg [(.int 0), .nils]))), [], none⟩,
      ⟨.none, (.e (.store (.st [.leaf, .leaf]))), [.t 13, .t 34], none⟩,
      ⟨.var 14, (.q .mv), [.t 35], none⟩])
    (.seq (.seq (.reg [⟨.new, (.q .mv), [.t 14], none⟩,
      ⟨.var 29, (.q (.bin .neq)), [.t 30, .c (.int 0)], none⟩])
    (.cond (.t 29) (.seq (.reg [⟨.new, (.q .mv), [.t 14], none⟩,
      ⟨.var 1, (.q .mv), [.c .nils], none⟩,
      ⟨.var 2, (.q .mv), [.t 30], none⟩])
    .ret)
    .skip))
    (.reg [⟨.new, (.q .mv), [.t 11], none⟩,
      ⟨.new, (.q (.ld (.st [.leaf, .leaf]))), [.t 13], none⟩,
      ⟨.new, (.e (.bsl 77 (.st [.leaf, .leaf]) (.agg [(.int 0), .nils]) 1 [0])), [.t 31], none⟩,
      ⟨.new, (.e (.app 77 (.st [.leaf, .leaf]) 32)), [.t 30, .t 32], none⟩,
      ⟨.var 11, (.q .mv), [.t 33], none⟩])))))
    (.reg [⟨.new, (.q (.bin .add)), [.t 27, .c (.int 1)], none⟩,
      ⟨.var 27, (.q .mv), [.t 30], none⟩])))))))
    (.seq (.reg [⟨.new, (.q .mv), [.t 11], none⟩,
      ⟨.var 1, (.q .mv), [.t 30], none⟩,
      ⟨.var 2, (.q .mv), [.c (.int 0)], none⟩])
    .ret))))))))),
    [.t 1, .t 2]⟩

set_option maxRecDepth 100000
set_option linter.unusedSimpArgs false
set_option linter.unusedVariables false
theorem c37 : cF P [] (drP P []) 37 1 s37.vm = some s37 := by kernel_rfl
/-- column i of rows, all bits behind the last one 0 -/
def colF (x y : Nat → BitVec 64) (n i : Nat) : Nat → Bool := cut n (colf x y i)
/-- where the rows of words lie -/
def rawE (N n t : Nat) : List AV := (List.range 128).map fun i => if i < t then .own (N + (1 + i)) 0 [] 0 (nw n) .leaf else .nils
def rawB (l : List AV) : Option Blk := some ⟨64, 0, true, .arr 128 .leaf, .agg l⟩
def cB (n : Nat) (f : Nat → Bool) : Option Blk := some ⟨22, 0, true, .arr (nw n) .leaf, .agg (wdA n f)⟩
theorem rawE_nil {N n t : Nat} (h : t < 128) : (rawE N n t)[t]? = some .nils := by
  unfold rawE
  rw [List.getElem?_map, List.getElem?_range h]
  simp
theorem rawE_own {N n i : Nat} (h : i < 128) : (rawE N n 128)[i]? = some (.own (N + (1 + i)) 0 [] 0 (nw n) .leaf) := by
  unfold rawE
  rw [List.getElem?_map, List.getElem?_range h]
  simp [h]
theorem rawE_set {N n t : Nat} : (rawE N n t).set t (.own (N + (1 + t)) 0 [] 0 (nw n) .leaf) = rawE N n (t + 1) := by
  unfold rawE
  rw [rng_set]
  refine rng_congr fun k hk => ?_
  by_cases e : k = t
  · subst e; rw [if_pos rfl, if_pos (by omega)]
  · rw [if_neg e]
    by_cases h2 : k < t
    · rw [if_pos h2, if_pos (by omega)]
    · rw [if_neg h2, if_neg (by omega)]
/-- the memory of the columns: of column i the first c i bits are there -/
structure Lok (N n : Nat) (F : Nat → Nat → Bool) (c : Nat → Nat) (t : Nat) (L : Heap) : Prop where
  len : 1 + t ≤ L.length
  raw : Heap.get L 0 = rawB (rawE N n t)
  col : ∀ i, i < t → Heap.get L (1 + i) = cB n (cut (c i) (F i))
theorem Lok.get0 {N n : Nat} {F : Nat → Nat → Bool} {c : Nat → Nat} {t : Nat} {L : Heap} (h : Lok N n F c t L) (X : Heap) : Heap.get (L ++ X) 0 = rawB (rawE N n t) := by
  rw [Heap.get_append _ _ _ (by have := h.len; omega), h.raw]
theorem Lok.getc {N n : Nat} {F : Nat → Nat → Bool} {c : Nat → Nat} {t : Nat} {L : Heap} (h : Lok N n F c t L) (X : Heap) {i : Nat} (hi : i < t) : Heap.get (L ++ X) (1 + i) = cB n (cut (c i) (F i)) := by
  rw [Heap.get_append _ _ _ (by have := h.len; omega), h.col i hi]
theorem Lok.more {N n : Nat} {F : Nat → Nat → Bool} {c : Nat → Nat} {t : Nat} {L : Heap} (h : Lok N n F c t L) (X : Heap) : Lok N n F c t (L ++ X) :=
  ⟨by have := h.len; simp; omega, h.get0 X, fun i hi => h.getc X hi⟩
theorem Lok.setc {N n : Nat} {F : Nat → Nat → Bool} {c c' : Nat → Nat} {t : Nat} {L : Heap} (h : Lok N n F c t L) {i : Nat} (hi : i < t) (hc : ∀ j, j < t → j ≠ i → c' j = c j) :
    Lok N n F c' t (List.set L (1 + i) (cB n (cut (c' i) (F i)))) := by
  have hl := h.len
  refine ⟨by simp; omega, ?_, fun j hj => ?_⟩
  · rw [Heap.get_set _ _ _ _ (by omega), if_neg (by omega), h.raw]
  · rw [Heap.get_set _ _ _ _ (by omega)]
    by_cases e : j = i
    · subst e; rw [if_pos rfl]
    · rw [if_neg (by omega), h.col j hj, hc j hj e]
theorem Lok.congr {N n : Nat} {F : Nat → Nat → Bool} {c c' : Nat → Nat} {t : Nat} {L : Heap} (h : Lok N n F c t L) (hc : ∀ j, j < t → c' j = c j) : Lok N n F c' t L :=
  ⟨h.len, h.raw, fun j hj => by rw [h.col j hj, hc j hj]⟩

theorem Lok.push {N n : Nat} {F : Nat → Nat → Bool} {c : Nat → Nat} {t : Nat} {L : Heap} (h : Lok N n F c t L) (hL : L.length = 1 + t) (hc : cut (c t) (F t) = fun _ => false) :
    Lok N n F c (t + 1) (List.set L 0 (rawB (rawE N n (t + 1))) ++ [some ⟨22, 0, true, .arr (nw n) .leaf, .agg (List.replicate (nw n) (.u64 0))⟩]) := by
  have hl : (List.set L 0 (rawB (rawE N n (t + 1)))).length = 1 + t := by rw [List.length_set, hL]
  refine ⟨by simp; omega, ?_, fun i hi => ?_⟩
  · rw [Heap.get_append _ _ _ (by rw [hl]; omega), Heap.get_set _ _ _ _ (by omega), if_pos rfl]
  · by_cases e : i = t
    · subst e
      rw [show 1 + i = (List.set L 0 (rawB (rawE N n (i + 1)))).length from hl.symm, hget_0, hget_z, hc, zero_wdA]
      rfl
    · rw [Heap.get_append _ _ _ (by rw [hl]; omega), Heap.get_set _ _ _ _ (by omega), if_neg (by omega), h.col i (by omega)]
/-- the words of one half -/
def Wh (h : Nat) (x y : Nat → BitVec 64) (j : Nat) : BitVec 64 := if h = 0 then x j else y j
def cc (n h q i : Nat) : Nat := if i < 64 * h then 64 * nw n else if i < 64 * h + 64 then 64 * q else 0
def cd (n h q t i : Nat) : Nat := if i < 64 * h then 64 * nw n else if i < 64 * h + t then 64 * (q + 1) else if i < 64 * h + 64 then 64 * q else 0
theorem cd_0 {n h q i : Nat} : cd n h q 0 i = cc n h q i := by
  unfold cd cc
  by_cases h1 : i < 64 * h
  · rw [if_pos h1, if_pos h1]
  · rw [if_neg h1, if_neg h1, if_neg (by omega)]
theorem cc_64 {n h q i : Nat} : cc n h (q + 1) i = cd n h q 64 i := by
  unfold cd cc
  by_cases h1 : i < 64 * h
  · rw [if_pos h1, if_pos h1]
  · rw [if_neg h1, if_neg h1]
    by_cases h2 : i < 64 * h + 64
    · rw [if_pos h2, if_pos h2]
    · rw [if_neg h2, if_neg h2, if_neg h2]
theorem cd_at {n h q t : Nat} (ht : t < 64) : cd n h q t (64 * h + t) = 64 * q := by unfold cd; rw [if_neg (by omega), if_neg (by omega), if_pos (by omega)]
theorem cd_at1 {n h q t : Nat} : cd n h q (t + 1) (64 * h + t) = 64 * (q + 1) := by unfold cd; rw [if_neg (by omega), if_pos (by omega)]
theorem cd_ne {n h q t j : Nat} (hj : j ≠ 64 * h + t) : cd n h q (t + 1) j = cd n h q t j := by
  unfold cd
  by_cases h1 : j < 64 * h
  · rw [if_pos h1, if_pos h1]
  · rw [if_neg h1, if_neg h1]
    by_cases h2 : j < 64 * h + t
    · rw [if_pos h2, if_pos (by omega)]
    · rw [if_neg h2, if_neg (show ¬ j < 64 * h + (t + 1) by omega)]
def wfL (h : Nat) (x y : Nat → BitVec 64) (q j : Nat) : List AV := (List.range 64).map fun i => .u64 (if i < j then Wh h x y (64 * q + i) else 0)
theorem wfL_at {h : Nat} {x y : Nat → BitVec 64} {q j : Nat} (hj : j < 64) : (wfL h x y q j)[j]? = some (.u64 0) := by
  unfold wfL
  rw [List.getElem?_map, List.getElem?_range hj]
  simp
theorem wfL_set {h : Nat} {x y : Nat → BitVec 64} {q j : Nat} : (wfL h x y q j).set j (.u64 (Wh h x y (64 * q + j))) = wfL h x y q (j + 1) := by
  unfold wfL
  rw [rng_set]
  refine rng_congr fun k hk => ?_
  by_cases e : k = j
  · subst e; rw [if_pos rfl, if_pos (by omega)]
  · rw [if_neg e]
    by_cases h2 : k < j
    · rw [if_pos h2, if_pos (by omega)]
    · rw [if_neg h2, if_neg (by omega)]
/-- the words of 64 rows, those behind the last one 0 -/
def sg (h : Nat) (x y : Nat → BitVec 64) (n q i b : Nat) : Bool := decide (64 * q + i < n) && (Wh h x y (64 * q + i)).getLsbD b
theorem wfL_sq {h : Nat} {x y : Nat → BitVec 64} {n q j : Nat} (hj : j ≤ 64) (hn : 64 * q + j ≤ n) (he : j = 64 ∨ 64 * q + j = n) : wfL h x y q j = sqA (sg h x y n q) := by
  unfold wfL sqA
  refine rng_congr fun i hi => ?_
  congr 1
  apply wd_of
  intro b hb
  unfold sg
  by_cases h2 : i < j
  · rw [if_pos h2]
    have : 64 * q + i < n := by omega
    simp [this]
  · rw [if_neg h2]
    have : ¬ 64 * q + i < n := by omega
    simp [this]
theorem rb_lo {x y : BitVec 64} {i : Nat} (h : i < 64) : rb x y (i : Int) = x.getLsbD i := by
  unfold rb
  rw [if_pos (by omega), Int.toNat_natCast]
theorem rb_hi {x y : BitVec 64} {i : Nat} (h : i < 64) : rb x y ((64 + i : Nat) : Int) = y.getLsbD i := by
  unfold rb
  rw [if_neg (by omega), if_pos (by omega), Int.toNat_natCast, Nat.add_sub_cancel_left]
theorem colF_word {h : Nat} {x y : Nat → BitVec 64} {n q t : Nat} (hh : h < 2) (ht : t < 64) (hq : q < nw n) :
    (wdA n (cut (64 * q) (colF x y n (64 * h + t)))).set q (.u64 (wd (fun b => sg h x y n q b t) 0)) = wdA n (cut (64 * (q + 1)) (colF x y n (64 * h + t))) := by
  unfold wdA
  rw [rng_set]
  refine rng_congr fun k hk => ?_
  by_cases e : k = q
  · subst e
    rw [if_pos rfl]
    congr 1
    apply wd_of
    intro j hj
    rw [wd_bit hj, Nat.mul_zero, Nat.zero_add]
    have h1 : 64 * k + j < 64 * (k + 1) := by omega
    have h2 : colf x y (64 * h + t) (64 * k + j) = (Wh h x y (64 * k + j)).getLsbD t := by
      unfold colf Wh
      rcases (show h = 0 ∨ h = 1 by omega) with rfl | rfl
      · rw [show 64 * 0 + t = t by omega, rb_lo ht, if_pos rfl]
      · rw [show 64 * 1 + t = 64 + t by omega, rb_hi ht, if_neg (by omega)]
    unfold cut colF sg cut
    rw [h2, decide_eq_true h1, Bool.true_and]
  · rw [if_neg e]
    congr 1
    refine (wd_congr fun j hj => ?_).symm
    unfold cut
    by_cases h1 : 64 * k + j < 64 * q
    · rw [decide_eq_true h1, decide_eq_true (show 64 * k + j < 64 * (q + 1) by omega)]
    · rw [decide_eq_false h1, decide_eq_false (show ¬ 64 * k + j < 64 * (q + 1) by omega)]
def wbx (l : List AV) : Option Blk := some ⟨119, 0, false, .arr 1 (.arr 64 .leaf), .agg [.agg l]⟩
def I37a (x y : Nat → BitVec 64) (n : Nat) (H : Heap) (k : Nat) (st : St) : Prop :=
  ∃ (t : Nat) (u5 u18 : AV) (L : Heap), st = ⟨[.ro (.arr 2 .leaf) (rwA x y n), .nils, .int 0, .int (n : Int), .own H.length 0 [] 0 128 .leaf, u5, .un, .un, .un, .un, .un, .un, .un, .un, .un, .bool false, .int 128, .int (t : Int), u18, .un, .un, .un, .un, .un, .un, .un, .un, .un, .un, .un], H ++ L⟩ ∧ k = 128 - t ∧ t ≤ 128 ∧
    L.length = 1 + t ∧ Lok H.length n (colF x y n) (fun _ => 0) t L

def I37b (x y : Nat → BitVec 64) (n : Nat) (H : Heap) (k : Nat) (st : St) : Prop :=
  ∃ (h : Nat) (u5 u6 u7 u8 u9 u10 u20 u21 u22 u23 u24 : AV) (L : Heap), st = ⟨[.ro (.arr 2 .leaf) (rwA x y n), .nils, .int 0, .int (n : Int), .own H.length 0 [] 0 128 .leaf, u5, u6, u7, u8, u9, u10, .un, .un, .un, .un, .bool false, .int 128, .int 128, .bool false, .int (h : Int), u20, u21, u22, u23, u24, .un, .un, .un, .un, .un], H ++ L⟩ ∧ k = 2 - h ∧ h ≤ 2 ∧
    Lok H.length n (colF x y n) (fun i => if i < 64 * h then 64 * nw n else 0) 128 L
def I37c (x y : Nat → BitVec 64) (n : Nat) (H : Heap) (h : Nat) (u5 : AV) (k : Nat) (st : St) : Prop :=
  ∃ (q : Nat) (u8 u9 u10 u21 u22 u23 u24 : AV) (L : Heap), st = ⟨[.ro (.arr 2 .leaf) (rwA x y n), .nils, .int 0, .int (n : Int), .own H.length 0 [] 0 128 .leaf, u5, .int (h : Int), .int ((64 * q : Nat) : Int), u8, u9, u10, .un, .un, .un, .un, .bool false, .int 128, .int 128, .bool false, .int (h : Int), .bool true, u21, u22, u23, u24, .un, .un, .un, .un, .un], H ++ L⟩ ∧ k = nw n - q ∧ q ≤ nw n ∧
    Lok H.length n (colF x y n) (cc n h q) 128 L
def I37d (x y : Nat → BitVec 64) (n : Nat) (H L : Heap) (h q : Nat) (u5 u10 u23 u24 : AV) (k : Nat) (st : St) : Prop :=
  ∃ (j : Nat) (u22 : AV), st = ⟨[.ro (.arr 2 .leaf) (rwA x y n), .nils, .int 0, .int (n : Int), .own H.length 0 [] 0 128 .leaf, u5, .int (h : Int), .int ((64 * q : Nat) : Int), .ptr (H.length + L.length) 0 [0] (.arr 64 .leaf), .int (j : Int), u10, .un, .un, .un, .un, .bool false, .int 128, .int 128, .bool false, .int (h : Int), .bool true, .bool true, u22, u23, u24, .un, .un, .un, .un, .un], H ++ (L ++ [wbx (wfL h x y q j)])⟩ ∧ k = 64 - j ∧ j ≤ 64 ∧ 64 * q + j ≤ n
def I37e (x y : Nat → BitVec 64) (n : Nat) (H : Heap) (M : Nat) (w : Option Blk) (h q : Nat) (u5 u9 : AV) (k : Nat) (st : St) : Prop :=
  ∃ (t : Nat) (u10 u24 : AV) (L : Heap), st = ⟨[.ro (.arr 2 .leaf) (rwA x y n), .nils, .int 0, .int (n : Int), .own H.length 0 [] 0 128 .leaf, u5, .int (h : Int), .int ((64 * q : Nat) : Int), .ptr (H.length + M) 0 [0] (.arr 64 .leaf), u9, u10, .un, .un, .un, .un, .bool false, .int 128, .int 128, .bool false, .int (h : Int), .bool true, .bool true, .bool false, .int (t : Int), u24, .un, .un, .un, .un, .un], H ++ (L ++ [w])⟩ ∧ k = 64 - t ∧ t ≤ 64 ∧ L.length = M ∧
    Lok H.length n (colF x y n) (cd n h q t) 128 L

def I37f (x y : Nat → BitVec 64) (n : Nat) (H : Heap) (M : Nat) (k : Nat) (st : St) : Prop :=
  ∃ (L : Heap) (t : Nat) (u5 u6 u7 u8 u9 u10 u12 u13 u14 u21 u22 u23 u24 u28 u29 : AV) (J : Heap) (l : List AV), st = ⟨[.ro (.arr 2 .leaf) (rwA x y n), .nils, .int 0, .int (n : Int), .own H.length 0 [] 0 128 .leaf, u5, u6, u7, u8, u9, u10, .own (H.length + M) t [] 0 t vS, u12, u13, u14, .bool false, .int 128, .int 128, .bool false, .int 2, .bool false, u21, u22, u23, u24, .own H.length 0 [] 0 128 .leaf, .int 128, .int (t : Int), u28, u29], H ++ (L ++ vB t l :: J)⟩ ∧ k = 128 - t ∧ t ≤ 128 ∧
    l = veL (fun _ => n) (colF x y n) t ∧ L.length = M ∧ 129 ≤ M ∧ Heap.get L 0 = rawB (rawE H.length n 128) ∧ ∀ i, t ≤ i → i < 128 → Heap.get L (1 + i) = cB n (colF x y n i)
theorem colF_cut {x y : Nat → BitVec 64} {n t m : Nat} (hm : n ≤ m) : cut m (colF x y n t) = colF x y n t := by
  refine cut_all fun i hi => ?_
  unfold colF cut
  rw [decide_eq_false (by omega), Bool.false_and]
theorem cut_wds {n : Nat} {f : Nat → Bool} (hf : ∀ i, n ≤ i → f i = false) : cut n (wf (wds n f)) = f := by
  funext i
  unfold cut
  by_cases h : i < n
  · rw [decide_eq_true h, Bool.true_and, wf_wds (by unfold nw; omega)]
  · rw [decide_eq_false h, Bool.false_and, hf i (by omega)]
theorem f37 {K : AV → Heap → Prop} {H : Heap} {x y : Nat → BitVec 64} {n : Nat} (hn : n ≤ 65536) (h : K (.tup [.ro vS (veL (fun _ => n) (colF x y n) 128), .int 0]) H) : wpF P [] 37 [.ro (.arr 2 .leaf) (rwA x y n)] H K := by
  refine wpF_go c37 rfl 5 ?_
  intro ha hb
  simp only [s37]
  have hl := rwA_len (x := x) (y := y) (n := n)
  have h1 : ((65536 : Int) < (n : Int)) = False := by simp; omega
  have hw : nw n ≤ 1024 := by unfold nw; omega
  have e63 : (n : Int) + 63 = ((n + 63 : Nat) : Int) := by omega
  have hd : Int.tdiv ((n + 63 : Nat) : Int) 64 = ((nw n : Nat) : Int) := tdiv64 (n + 63)
  (refine gw2 @hl @h1 ?_; try exact True.intro)
  refine wp_inv (I37a x y n H) 128 ⟨0, _, _, [rawB (rawE H.length n 0)], rfl, rfl, by omega, rfl, ⟨by simp, by rfl, fun i hi => absurd hi (Nat.not_lt_zero i)⟩⟩ ?_
  rintro k st ⟨t, u5, u18, L, rfl, rfl, ht, hL, hk⟩
  by_cases htl : t < 128
  · have h2 : ((t : Int) < 128) = True := by simp; omega
    have g0 := hk.get0
    have s0 : ∀ (X : List (Option Blk)) b, List.set (L ++ X) 0 b = List.set L 0 b ++ X := fun X b => List.set_append_left _ _ (by omega)
    have gn := rawE_nil (N := H.length) (n := n) htl
    have gs := rawE_set (N := H.length) (n := n) (t := t)
    unfold rawB at g0
    (refine gw8 @h2 @e63 @hd @hL @g0 @s0 @gn @gs ?_; try exact True.intro)
    (repeat (refine And.intro (by omega) ?_))
    refine ⟨128 - (t + 1), by omega, t + 1, _, _, _, rfl, rfl, by omega, by simp [hL]; omega, hk.push hL cut_zero⟩
  · have h2 : ((t : Int) < 128) = False := by simp; omega
    have ht' : t = 128 := by omega
    subst ht'
    (refine gw1 @h2 ?_; try exact True.intro)
    (refine gw0 ?_; try exact True.intro)
    refine wp_inv (I37b x y n H) 2 ⟨0, _, _, _, _, _, _, _, _, _, _, _, L, rfl, rfl, by omega, hk.congr fun j hj => by simp⟩ ?_
    clear hk hL L u5 u18
    rintro k st ⟨h', u5, u6, u7, u8, u9, u10, u20, u21, u22, u23, u24, L, rfl, rfl, hh, hk⟩
    by_cases hhl : h' < 2
    · have h3 : ((h' : Int) < 2) = True := by simp; omega
      (refine gw1 @h3 ?_; try exact True.intro)
      refine wp_inv (I37c x y n H h' u5) (nw n) ⟨0, _, _, _, _, _, _, _, L, rfl, rfl, by omega, hk.congr fun j hj => by unfold cc; split <;> simp⟩ ?_
      clear hk
      rintro k st ⟨q, u8, u9, u10, u21, u22, u23, u24, L, rfl, rfl, hq, hk⟩
      by_cases hql : q < nw n
      · have hqn : 64 * q < n := by unfold nw at hql; omega
        have h4 : (((64 * q : Nat) : Int) < (n : Int)) = True := by simp only [eq_iff_iff, iff_true]; omega
        (refine gw1 @h4 ?_; try exact True.intro)
        refine wp_inv (I37d x y n H L h' q u5 u10 u23 u24) 64 ⟨0, _, rfl, rfl, by omega, by omega⟩ ?_
        rintro k st ⟨j, u22, rfl, rfl, hj, hjn⟩
        have e5 : ((64 * q : Nat) : Int) + (j : Int) = ((64 * q + j : Nat) : Int) := by omega
        by_cases hjl : j < 64 ∧ 64 * q + j < n
        · have h6 : ((j : Int) < 64) = True := by simp only [eq_iff_iff, iff_true]; omega
          have h7 : (((64 * q + j : Nat) : Int) < (n : Int)) = True := by simp only [eq_iff_iff, iff_true]; omega
          have hg := rwA_get (x := x) (y := y) hjl.2
          unfold wbx
          have hg2 : [AV.u64 (x (64 * q + j)), .u64 (y (64 * q + j))].getD h' .un = .u64 (Wh h' x y (64 * q + j)) := by
            rcases (show h' = 0 ∨ h' = 1 by omega) with rfl | rfl <;> rfl
          have hw1 := wfL_at (h := h') (x := x) (y := y) (q := q) hjl.1
          have hw2 := wfL_set (h := h') (x := x) (y := y) (q := q) (j := j)
          unfold rowV at hg
          (refine gw8 @h6 @h7 @e5 @hl @hg @hg2 @hw1 @hw2 ?_; try exact True.intro)
          (repeat (refine And.intro (by omega) ?_))
          exact ⟨64 - (j + 1), by omega, j + 1, _, rfl, rfl, by omega, by omega⟩
        · have hsq := wfL_sq (h := h') (x := x) (y := y) hj hjn (by omega)
          rcases Nat.lt_or_ge j 64 with hj6 | hj6
          have h6 : ((j : Int) < 64) = True := by simp only [eq_iff_iff, iff_true]; omega
          have h7 : (((64 * q + j : Nat) : Int) < (n : Int)) = False := by simp only [eq_iff_iff, iff_false]; omega
          (refine gw3 @h6 @h7 @e5 ?_; try exact True.intro)
          refine ⟨by omega, by omega, ?_⟩
          rotate_left
          have h6 : ((j : Int) < 64) = False := by simp only [eq_iff_iff, iff_false]; omega
          (refine gw1 @h6 ?_; try exact True.intro)
          all_goals
            refine f64' (H0 := H ++ L) (L := []) (by simp) hsq (by simp [wbx]) ?_
            (refine gw0 ?_; try exact True.intro)
            refine wp_inv (I37e x y n H L.length (sqb fun i b => sg h' x y n q b i) h' q u5 (.int (j : Int))) 64 ⟨0, _, _, L, rfl, rfl, by omega, rfl, hk.congr fun i hi => cd_0⟩ ?_
            rintro k st ⟨t, u10, u24, L1, rfl, rfl, ht, hL1, hk1⟩
            by_cases ht6 : t < 64
            · have h8 : ((t : Int) < 64) = True := by simp only [eq_iff_iff, iff_true]; omega
              have e8 : 64 * (h' : Int) = ((64 * h' : Nat) : Int) := by omega
              have e9 : ((64 * h' : Nat) : Int) + (t : Int) = ((64 * h' + t : Nat) : Int) := by omega
              have e10 : Int.tdiv ((64 * q : Nat) : Int) 64 = (q : Int) := by rw [tdiv64]; simp
              have hi : 64 * h' + t < 128 := by omega
              have g0 := hk1.get0
              have gi := rawE_own (N := H.length) (n := n) hi
              have gc := fun X => hk1.getc X hi
              rw [cd_at ht6] at gc
              have hw0 : (wdA n (cut (64 * q) (colF x y n (64 * h' + t))))[q]? = some (.u64 (wd (cut (64 * q) (colF x y n (64 * h' + t))) q)) := by
                unfold wdA
                rw [List.getElem?_map, List.getElem?_range hql]; rfl
              have hw1 := colF_word (x := x) (y := y) hhl ht6 hql
              have hw2 := sqA_at (g := fun i b => sg h' x y n q b i) ht6
              have ss : ∀ (X : List (Option Blk)) b, List.set (L1 ++ X) (1 + (64 * h' + t)) b = List.set L1 (1 + (64 * h' + t)) b ++ X := fun X b => List.set_append_left _ _ (by have := hk1.len; omega)
              have h9 : (((64 * h' + t : Nat) : Int) < 128) = True := by simp only [eq_iff_iff, iff_true]; omega
              have h10 : ((q : Int) < ((nw n : Nat) : Int)) = True := by simp only [eq_iff_iff, iff_true]; omega
              unfold sqb
              unfold rawB at g0
              unfold cB at gc
              have gw : ∀ (X : List (Option Blk)), Heap.get (L1 ++ X) L.length = Heap.get X 0 := fun X => by rw [← hL1, hget_0]
              (refine gw14 @h8 @e8 @e9 @e10 @g0 @gi @gc @hw0 @hw1 @hw2 @ss @h9 @gw @hL1 ?_; try exact True.intro)
              (repeat (refine And.intro (by omega) ?_))
              refine ⟨64 - (t + 1), by omega, t + 1, _, _, _, rfl, rfl, by omega, by rw [List.length_set, hL1], ?_⟩
              have hk2 := hk1.setc (c' := cd n h' q (t + 1)) hi fun j hj hne => cd_ne hne
              rw [cd_at1] at hk2
              exact hk2
            · have h8 : ((t : Int) < 64) = False := by simp only [eq_iff_iff, iff_false]; omega
              have ht' : t = 64 := by omega
              subst ht'
              (refine gw1 @h8 ?_; try exact True.intro)
              (repeat (refine And.intro (by omega) ?_))
              have e11 : ((64 * q : Nat) : Int) + 64 = ((64 * (q + 1) : Nat) : Int) := by omega
              rw [e11]
              refine ⟨nw n - (q + 1), by omega, q + 1, _, _, _, _, _, _, _, _, rfl, rfl, by omega, (hk1.more _).congr fun i hi => cc_64⟩
      · have h4 : (((64 * q : Nat) : Int) < (n : Int)) = False := by unfold nw at hql; simp only [eq_iff_iff, iff_false]; omega
        have hqe : q = nw n := by omega
        (refine gw1 @h4 ?_; try exact True.intro)
        (repeat (refine And.intro (by omega) ?_))
        refine ⟨2 - (h' + 1), by omega, h' + 1, _, _, _, _, _, _, _, _, _, _, _, L, rfl, rfl, by omega, hk.congr fun i hi => ?_⟩
        unfold cc
        rw [hqe]
        by_cases h1 : i < 64 * h'
        · rw [if_pos h1, if_pos (by omega)]
        · by_cases h2 : i < 64 * h' + 64
          · rw [if_neg h1, if_pos h2, if_pos (by omega)]
          · rw [if_neg h1, if_neg h2, if_neg (by omega)]
    · have h3 : ((h' : Int) < 2) = False := by simp; omega
      have hhe : h' = 2 := by omega
      subst hhe
      (refine gw1 @h3 ?_; try exact True.intro)
      (refine gw0 ?_; try exact True.intro)
      have hcol : ∀ i, 0 ≤ i → i < 128 → Heap.get L (1 + i) = cB n (colF x y n i) := fun i _ hi => by
        rw [hk.col i hi, if_pos (by omega), colF_cut (by unfold nw; omega)]
      refine wp_inv (I37f x y n H L.length) 128 ⟨L, 0, _, _, _, _, _, _, _, _, _, _, _, _, _, _, _, [], [], rfl, rfl, by omega, rfl, rfl, by have := hk.len; omega, hk.raw, hcol⟩ ?_
      generalize L.length = M
      clear hk hcol L
      rintro k st ⟨L, t, u5, u6, u7, u8, u9, u10, u12, u13, u14, u21, u22, u23, u24, u28, u29, J, l, rfl, rfl, ht, hlv, hLM, hM, g0', gc'⟩
      have gM : ∀ (X : List (Option Blk)), Heap.get (L ++ X) M = Heap.get X 0 := fun X => by rw [← hLM, hget_0]
      have sM : ∀ (X : List (Option Blk)) b, List.set (L ++ X) M b = L ++ List.set X 0 b := fun X b => by rw [← hLM, hset_0]
      by_cases htl : t < 128
      · have h4 : ((t : Int) < 128) = True := by simp only [eq_iff_iff, iff_true]; omega
        have g0 : ∀ X : List (Option Blk), Heap.get (L ++ X) 0 = rawB (rawE H.length n 128) := fun X => by rw [Heap.get_append _ _ _ (by omega), g0']
        have gi := rawE_own (N := H.length) (n := n) htl
        have gc : ∀ X : List (Option Blk), Heap.get (L ++ X) (1 + t) = cB n (colF x y n t) := fun X => by rw [Heap.get_append _ _ _ (by omega), gc' t (by omega) htl]
        obtain ⟨L', ss, hL', g0n, gcn⟩ : ∃ L' : List (Option Blk), (∀ (X : List (Option Blk)), List.set (L ++ X) (1 + t) none = L' ++ X) ∧ L'.length = M ∧ Heap.get L' 0 = rawB (rawE H.length n 128) ∧ ∀ i, t + 1 ≤ i → i < 128 → Heap.get L' (1 + i) = cB n (colF x y n i) := by
          refine ⟨List.set L (1 + t) none, fun X => List.set_append_left _ _ (by omega), by rw [List.length_set, hLM], ?_, fun i hi1 hi2 => ?_⟩
          · rw [Heap.get_set _ _ _ _ (by omega), if_neg (by omega), g0']
          · rw [Heap.get_set _ _ _ _ (by omega), if_neg (by omega), gc' i (by omega) hi2]
        have gM2 : ∀ (X : List (Option Blk)), Heap.get (L' ++ X) M = Heap.get X 0 := fun X => by rw [← hL', hget_0]
        have sM2 : ∀ (X : List (Option Blk)) b, List.set (L' ++ X) M b = L' ++ List.set X 0 b := fun X b => by rw [← hL', hset_0]
        unfold rawB at g0
        unfold cB at gc
        unfold vB
        have htk : List.take (nw n) (wdA n (colF x y n t)) = (wds n (colF x y n t)).map .u64 := by rw [← wdA_map]; exact List.take_of_length_le (by rw [wdA_len]; exact Nat.le_refl _)
        have hcw : cut n (wf (wds n (colF x y n t))) = colF x y n t := cut_wds fun i hi => by unfold colF cut; rw [decide_eq_false (by omega), Bool.false_and]
        (refine gw4 @h4 @g0 @gi @gc ?_; try exact True.intro)
        refine wpF_give1 (H.length + (1 + t)) 3 ?_
        (refine gw3 @gc @htk @ss ?_; try exact True.intro)
        refine f65 (by omega) wds_len ?_
        rw [hcw]
        unfold vec
        (refine gw2 @gM2 @sM2 ?_; try exact True.intro)
        refine ⟨rfl, rfl, ?_⟩
        (repeat (refine And.intro (by omega) ?_))
        exact ⟨128 - (t + 1), by omega, L', t + 1, _, _, _, _, _, _, _, _, _, _, _, _, _, _, _, _, _, rfl, rfl, by omega, by rw [hlv]; exact veL_succ, hL', hM, g0n, gcn⟩
      · have ht' : t = 128 := by omega
        subst ht'
        have h4 : ((128 : Int) < 128) = False := by simp
        have hll : List.take 128 l = l := List.take_of_length_le (by rw [hlv, veL_len]; omega)
        have hmo : mapO (demK (fun b => decide (b < H.length)) H.length (H ++ (L ++ vB 128 l :: J)) 3) l = some l := by rw [hlv]; exact mapO_veL
        unfold vB at *
        (refine gw4 @h4 @hll @hmo @gM ?_; try exact True.intro)
        rw [hlv]
        exact h
end Go.Proofs.Ytebmlmkiblieiaa
