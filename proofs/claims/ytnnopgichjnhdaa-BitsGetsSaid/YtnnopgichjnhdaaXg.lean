/-
  The law BitsGets returns true for all inputs: every bit, bits with another one, and how many are 1.
-/
import Derived.Test.YtnnopgichjnhdaaXm
import Derived.Test.YtnnopgichjnhdaaV38
open Go Go.V
namespace Go.Proofs.Ytnnopgichjnhdaa
set_option maxRecDepth 100000
set_option linter.unusedSimpArgs false
set_option linter.unusedVariables false
/-- trefoil/trefoillaw02.BitsGets (0:l, 1:i, 2:b, 6:, 7:v, 9:x, 10:e, 11:want, 14:, 41:, 49:) -/
def s4 : FnS := ⟨98, [0, 1, 2, 6, 7, 9, 10, 11, 14, 41, 49],
    (.seq (.reg [⟨.var 3, (.q .mv), [.c (.bool false)], none⟩])
    (.seq (.seq (.reg [⟨.new, (.q .mv), [.t 0], none⟩,
      ⟨.new, (.q .len), [.t 11], none⟩,
      ⟨.var 8, (.q (.bin .gtr)), [.t 12, .c (.int 1000)], none⟩])
    (.cond (.t 8) (.seq (.reg [⟨.new, (.call 9), [], none⟩,
      ⟨.var 3, (.q .mv), [.t 11], none⟩])
    .ret)
    .skip))
    (.seq (.reg [⟨.new, (.q .mv), [.t 0], none⟩,
      ⟨.new, (.call 10), [.t 11], none⟩,
      ⟨.new, (.q .mv), [.t 12], none⟩,
      ⟨.new, (.q (.ext 0)), [.t 13], none⟩,
      ⟨.new, (.q (.ext 1)), [.t 13], none⟩,
      ⟨.var 4, (.e (.alloc 26 (.st [.leaf, .leaf]) (.agg [(.int 0), .nils]))), [], none⟩,
      ⟨.none, (.e (.store (.st [.leaf, .leaf]))), [.t 4, .t 14], none⟩,
      ⟨.new, (.q .mv), [.t 15], none⟩])
    (.seq (.reg [⟨.new, (.q (.ld (.st [.leaf, .leaf]))), [.t 4], none⟩,
      ⟨.new, (.q .mv), [.t 1], none⟩,
      ⟨.new, (.q .mv), [.t 2], none⟩,
      ⟨.new, (.call 16), [.t 11, .t 12, .t 13], none⟩,
      ⟨.new, (.q .mv), [.t 14], none⟩,
      ⟨.new, (.q (.ext 0)), [.t 15], none⟩,
      ⟨.new, (.q (.ext 1)), [.t 15], none⟩,
      ⟨.var 5, (.e (.alloc 26 (.st [.leaf, .leaf]) (.agg [(.int 0), .nils]))), [], none⟩,
      ⟨.none, (.e (.store (.st [.leaf, .leaf]))), [.t 5, .t 16], none⟩,
      ⟨.var 6, (.q .mv), [.t 17], none⟩])
    (.seq (.seq (.reg [⟨.new, (.q (.ld (.st [.leaf, .leaf]))), [.t 4], none⟩,
      ⟨.new, (.call 17), [.t 11], none⟩,
      ⟨.new, (.q .mv), [.t 0], none⟩,
      ⟨.new, (.call 18), [.t 13], none⟩,
      ⟨.new, (.q (.bin .neq)), [.t 12, .t 14], none⟩,
      ⟨.new, (.q .mv), [.t 15], none⟩,
      ⟨.new, (.q (.ld (.st [.leaf, .leaf]))), [.t 4], (some (16, false))⟩,
      ⟨.new, (.call 19), [.t 17], (some (16, false))⟩,
      ⟨.new, (.q .mv), [.t 0], (some (16, false))⟩,
      ⟨.new, (.call 18), [.t 19], (some (16, false))⟩,
      ⟨.new, (.q (.bin .rem)), [.t 20, .c (.int 2)], (some (16, false))⟩,
      ⟨.new, (.q (.bin .eql)), [.t 21, .c (.int 1)], (some (16, false))⟩,
      ⟨.new, (.q (.eqB true)), [.t 18, .t 22], (some (16, false))⟩,
      ⟨.var 9, (.q .pick), [.t 16, .c (.bool true), .t 23], none⟩])
    (.cond (.t 9) (.seq (.reg [⟨.var 3, (.q .mv), [.c (.bool false)], none⟩])
    .ret)
    .skip))
    (.seq (.seq (.reg [⟨.new, (.q .mv), [.t 1], none⟩,
      ⟨.new, (.q (.bin .lss)), [.t 11, .c (.int 0)], none⟩,
      ⟨.new, (.q .mv), [.t 12], none⟩,
      ⟨.new, (.q .mv), [.t 1], (some (13, false))⟩,
      ⟨.new, (.q .mv), [.t 0], (some (13, false))⟩,
      ⟨.new, (.q .len), [.t 15], (some (13, false))⟩,
      ⟨.new, (.q (.bin .geq)), [.t 14, .t 16], (some (13, false))⟩,
      ⟨.var 10, (.q .pick), [.t 13, .c (.bool true), .t 17], none⟩])
    (.cond (.t 10) (.seq (.reg [⟨.new, (.q (.ld (.st [.leaf, .leaf]))), [.t 4], none⟩,
      ⟨.new, (.q .mv), [.t 1], none⟩,
      ⟨.new, (.call 20), [.t 11, .t 12], none⟩,
      ⟨.new, (.q (.un .not)), [.t 13], none⟩,
      ⟨.new, (.q .mv), [.t 14], none⟩,
      ⟨.new, (.q .mv), [.t 6], (some (15, true))⟩,
      ⟨.new, (.q (.bin .eql)), [.t 16, .c (.int 1)], (some (15, true))⟩,
      ⟨.new, (.q .pick), [.t 15, .t 17, .c (.bool false)], none⟩,
      ⟨.new, (.q .mv), [.t 18], none⟩,
      ⟨.new, (.q (.ld (.st [.leaf, .leaf]))), [.t 5], (some (19, true))⟩,
      ⟨.new, (.call 14), [.t 20], (some (19, true))⟩,
      ⟨.new, (.q (.bin .eql)), [.t 21, .c (.int 0)], (some (19, true))⟩,
      ⟨.new, (.q .pick), [.t 19, .t 22, .c (.bool false)], none⟩,
      ⟨.new, (.q .mv), [.t 23], none⟩,
      ⟨.new, (.call 9), [], (some (24, true))⟩,
      ⟨.new, (.q .pick), [.t 24, .t 25, .c (.bool false)], none⟩,
      ⟨.var 3, (.q .mv), [.t 26], none⟩])
    .ret)
    .skip))
    (.seq (.reg [⟨.new, (.e (.bsl 4 .leaf (.bool false) 0 [])), [], none⟩,
      ⟨.new, (.q .mv), [.t 0], none⟩,
      ⟨.new, (.e (.app 4 .leaf 1)), [.t 11, .t 12], none⟩,
      ⟨.var 7, (.q .mv), [.t 13], none⟩])
    (.seq (.reg [⟨.new, (.q .mv), [.t 7], none⟩,
      ⟨.new, (.q .mv), [.t 1], none⟩,
      ⟨.new, (.q .mv), [.t 2], none⟩,
      ⟨.new, (.q (.iaS .leaf)), [.t 11, .t 12], none⟩,
      ⟨.none, (.e (.store .leaf)), [.t 14, .t 13], none⟩])
    (.seq (.draw [⟨.new, (.q (.ld (.st [.leaf, .leaf]))), [.t 4], none⟩,
      ⟨.new, (.q .mv), [.t 1], none⟩,
      ⟨.new, (.call 20), [.t 11, .t 12], none⟩,
      ⟨.new, (.q .mv), [.t 0], none⟩,
      ⟨.new, (.q .mv), [.t 1], none⟩,
      ⟨.new, (.q (.iaS .leaf)), [.t 14, .t 15], none⟩,
      ⟨.new, (.q (.ld .leaf)), [.t 16], none⟩,
      ⟨.new, (.q (.eqB false)), [.t 13, .t 17], none⟩,
      ⟨.new, (.q .mv), [.t 18], none⟩,
      ⟨.new, (.q .mv), [.t 6], (some (19, true))⟩,
      ⟨.new, (.q (.bin .eql)), [.t 20, .c (.int 0)], (some (19, true))⟩,
      ⟨.new, (.q .pick), [.t 19, .t 21, .c (.bool false)], none⟩,
      ⟨.new, (.q .mv), [.t 22], none⟩,
      ⟨.new, (.q (.ld (.st [.leaf, .leaf]))), [.t 5], (some (23, true))⟩,
      ⟨.new, (.q .mv), [.t 7], (some (23, true))⟩,
      ⟨.new, (.call 11), [.t 24, .t 25], (some (23, true))⟩,
      ⟨.new, (.q .pick), [.t 23, .t 26, .c (.bool false)], none⟩,
      ⟨.new, (.q .mv), [.t 27], none⟩,
      ⟨.new, (.q (.ld (.st [.leaf, .leaf]))), [.t 4], (some (28, true))⟩,
      ⟨.new, (.q .mv), [.t 0], (some (28, true))⟩,
      ⟨.new, (.call 11), [.t 29, .t 30], (some (28, true))⟩,
      ⟨.new, (.q .pick), [.t 28, .t 31, .c (.bool false)], none⟩,
      ⟨.new, (.q .mv), [.t 32], none⟩,
      ⟨.new, (.call 9), [], (some (33, true))⟩,
      ⟨.new, (.q .pick), [.t 33, .t 34, .c (.bool false)], none⟩,
      ⟨.var 3, (.q .mv), [.t 35], none⟩])
    .ret))))))))),
    [.t 3]⟩

/-- (trefoil/bits.Vec).With (0:v, 1:i, 2:b, 3:v, 6:, 7:, 8:out, 16:, 36:) -/
def s16 : FnS := ⟨50, [0, 1, 2, 3, 6, 7, 8, 16, 36],
    (.seq (.reg [⟨.var 3, (.e (.box 26 (.st [.leaf, .leaf]))), [.t 0], none⟩,
      ⟨.var 4, (.e (.alloc 26 (.st [.leaf, .leaf]) (.agg [(.int 0), .nils]))), [], none⟩,
      ⟨.var 5, (.q .mv), [.c (.int 0)], none⟩])
    (.seq (.seq (.reg [⟨.new, (.q .mv), [.t 1], none⟩,
      ⟨.new, (.q (.bin .lss)), [.t 9, .c (.int 0)], none⟩,
      ⟨.new, (.q .mv), [.t 10], none⟩,
      ⟨.new, (.q .mv), [.t 1], (some (11, false))⟩,
      ⟨.new, (.q (.fa [.leaf, .leaf] 0)), [.t 3], (some (11, false))⟩,
      ⟨.new, (.q (.ld .leaf)), [.t 13], (some (11, false))⟩,
      ⟨.new, (.q (.bin .geq)), [.t 12, .t 14], (some (11, false))⟩,
      ⟨.var 7, (.q .pick), [.t 11, .c (.bool true), .t 15], none⟩])
    (.cond (.t 7) (.seq (.reg [⟨.new, (.e (.bld (.st [.leaf, .leaf]) (.agg [(.int 0), .nils]) [])), [], none⟩,
      ⟨.none, (.e (.store (.st [.leaf, .leaf]))), [.t 4, .t 9], none⟩,
      ⟨.var 5, (.q .mv), [.c (.int 1)], none⟩])
    .ret)
    .skip))
    (.seq (.draw [⟨.none, (.pairs []), [], none⟩,
      ⟨.new, (.q (.fa [.leaf, .leaf] 0)), [.t 3], none⟩,
      ⟨.new, (.q (.ld .leaf)), [.t 9], none⟩,
      ⟨.new, (.q (.fa [.leaf, .leaf] 1)), [.t 3], none⟩,
      ⟨.new, (.q (.ld .leaf)), [.t 11], none⟩,
      ⟨.new, (.callm 38), [.t 12], none⟩,
      ⟨.new, (.e (.bld (.st [.leaf, .leaf]) (.agg [(.int 0), .nils]) [0, 1])), [.t 10, .t 13], none⟩,
      ⟨.var 6, (.e (.alloc 26 (.st [.leaf, .leaf]) (.agg [(.int 0), .nils]))), [], none⟩,
      ⟨.none, (.e (.store (.st [.leaf, .leaf]))), [.t 6, .t 14], none⟩])
    (.seq (.reg [⟨.new, (.q (.fa [.leaf, .leaf] 1)), [.t 6], none⟩,
      ⟨.new, (.q (.ld .leaf)), [.t 9], none⟩,
      ⟨.new, (.q .mv), [.t 1], none⟩,
      ⟨.new, (.q (.bin .quo)), [.t 11, .c (.int 64)], none⟩,
      ⟨.new, (.q (.iaS .leaf)), [.t 10, .t 12], none⟩,
      ⟨.new, (.q (.ld .leaf)), [.t 13], none⟩,
      ⟨.new, (.q .mv), [.t 1], none⟩,
      ⟨.new, (.q (.bin .rem)), [.t 15, .c (.int 64)], none⟩,
      ⟨.new, (.q (.cv .u64)), [.t 16], none⟩,
      ⟨.new, (.q (.bin .shl)), [.c (.u64 1), .t 17], none⟩,
      ⟨.new, (.q (.bin .andNot)), [.t 14, .t 18], none⟩,
      ⟨.new, (.q (.iaS .leaf)), [.t 10, .t 12], none⟩,
      ⟨.none, (.e (.store .leaf)), [.t 20, .t 19], none⟩])
    (.seq (.seq (.reg [⟨.var 8, (.q .mv), [.t 2], none⟩])
    (.cond (.t 8) (.reg [⟨.new, (.q (.fa [.leaf, .leaf] 1)), [.t 6], none⟩,
      ⟨.new, (.q (.ld .leaf)), [.t 9], none⟩,
      ⟨.new, (.q .mv), [.t 1], none⟩,
      ⟨.new, (.q (.bin .quo)), [.t 11, .c (.int 64)], none⟩,
      ⟨.new, (.q (.iaS .leaf)), [.t 10, .t 12], none⟩,
      ⟨.new, (.q (.ld .leaf)), [.t 13], none⟩,
      ⟨.new, (.q .mv), [.t 1], none⟩,
      ⟨.new, (.q (.bin .rem)), [.t 15, .c (.int 64)], none⟩,
      ⟨.new, (.q (.cv .u64)), [.t 16], none⟩,
      ⟨.new, (.q (.bin .shl)), [.c (.u64 1), .t 17], none⟩,
      ⟨.new, (.q (.bin .or)), [.t 14, .t 18], none⟩,
      ⟨.new, (.q (.iaS .leaf)), [.t 10, .t 12], none⟩,
      ⟨.none, (.e (.store .leaf)), [.t 20, .t 19], none⟩])
    .skip))
    (.seq (.reg [⟨.new, (.q (.ld (.st [.leaf, .leaf]))), [.t 6], none⟩,
      ⟨.none, (.e (.store (.st [.leaf, .leaf]))), [.t 4, .t 9], none⟩,
      ⟨.var 5, (.q .mv), [.c (.int 0)], none⟩])
    .ret)))))),
    [.cell 4 (.st [.leaf, .leaf]), .t 5]⟩

theorem c4 : cF P [] (drP P []) 4 3 s4.vm = some s4 := by kernel_rfl
theorem c16 : cF P [] (drP P []) 16 3 s16.vm = some s16 := by kernel_rfl
/-- bits with another one -/
def upd (f : Nat → Bool) (i : Nat) (b : Bool) (j : Nat) : Bool := if j = i then b else f j
theorem one_shl {j p : Nat} (hp : p < 64) : (1#64 <<< j).getLsbD p = decide (p = j) := by
  rw [BitVec.getLsbD_shiftLeft]
  simp only [hp, decide_true, Bool.true_and]
  by_cases h : p < j
  · simp [h]; omega
  · simp only [h, decide_false, Bool.not_false, Bool.true_and]
    by_cases h2 : p = j
    · subst h2; simp
    · have : p - j ≠ 0 := by omega
      simp [h2, BitVec.getLsbD_one, this]
theorem wd_clr {f : Nat → Bool} {k j : Nat} (hj : j < 64) : wd f k &&& ~~~(1#64 <<< j) = wd (upd f (64 * k + j) false) k := by
  apply BitVec.eq_of_getLsbD_eq
  intro p hp
  rw [BitVec.getLsbD_and, BitVec.getLsbD_not, one_shl hp, wd_bit hp, wd_bit hp]
  unfold upd
  by_cases h : p = j
  · subst h; simp
  · simp [h, hp]
theorem wd_set {f : Nat → Bool} {k j : Nat} (hj : j < 64) : wd (upd f (64 * k + j) false) k ||| (1#64 <<< j) = wd (upd f (64 * k + j) true) k := by
  apply BitVec.eq_of_getLsbD_eq
  intro p hp
  rw [BitVec.getLsbD_or, one_shl hp, wd_bit hp, wd_bit hp]
  unfold upd
  by_cases h : p = j
  · subst h; simp
  · simp [h, hp]
theorem wd_other {f : Nat → Bool} {k i : Nat} {b : Bool} (h : k ≠ i / 64) : wd (upd f i b) k = wd f k := by
  apply BitVec.eq_of_getLsbD_eq
  intro p hp
  rw [wd_bit hp, wd_bit hp]
  unfold upd
  rw [if_neg (by omega)]
theorem wdA_upd {n : Nat} {f : Nat → Bool} {i : Nat} {b : Bool} (hi : i < n) : (wdA n f).set (i / 64) (.u64 (wd (upd f i b) (i / 64))) = wdA n (upd f i b) := by
  apply List.ext_getElem (by simp [wdA])
  intro k h1 h2
  rw [List.getElem_set]
  simp only [wdA, List.getElem_map, List.getElem_range]
  split
  · rename_i h; rw [← h]
  · rename_i h
    rw [wd_other (by omega)]
theorem wdA_upd2 {n : Nat} {f : Nat → Bool} {i : Nat} {b c : Bool} (hi : i < n) : (wdA n (upd f i b)).set (i / 64) (.u64 (wd (upd f i c) (i / 64))) = wdA n (upd f i c) := by
  have : upd f i c = upd (upd f i b) i c := by funext j; unfold upd; split <;> rfl
  rw [this, wdA_upd hi]

/-- a row of words, cloned to be written -/
theorem f38k {H : Heap} {n : Nat} {f : Nat → Bool} (hn : n ≤ 100000000) (h0 : 1 ≤ n) : wpF P [] 38 [.ro .leaf (wdA n f)] H (fun a b => a = .own H.length 1 [] 0 (nw n) .leaf ∧ b = H ++ [some ⟨55, 1, true, .arr (nw n) .leaf, .agg (wdA n f)⟩]) := by
  refine wpF_goK c38 rfl ?_
  intro ha hb
  simp only [s38]
  have hlen : (wdA n f).length = nw n := wdA_len
  have hw : nw n ≤ 100000000 := by unfold nw; omega
  have hw0 : 1 ≤ nw n := by unfold nw; omega
  have hne : (wdA n f = []) = False := by
    simp only [eq_iff_iff, iff_false]
    intro e; rw [e] at hlen; simp at hlen; omega
  (refine gw5 @hlen @hne @Kall_n @Kall_r @Ka2_s ?_; try exact True.intro)
  refine ⟨?_, ?_, ?_⟩
  · intro q hq
    obtain ⟨k, _, rfl⟩ := List.mem_map.1 hq
    rfl
  · omega
  · omega

theorem f16e {K : AV → Heap → Prop} {H : Heap} {n : Nat} {f : Nat → Bool} {i : Int} {b : Bool} (hi : i < 0 ∨ (n : Int) ≤ i) (h : K (.tup [.agg [.int 0, .nils], .int 1]) H) : wpF P [] 16 [vec n f, .int i, .bool b] H K := by
  refine wpF_go c16 rfl 3 ?_
  intro ha hb
  simp only [s16, vec]
  by_cases h0 : i < 0
  · (refine gw1 @h0 ?_; try exact True.intro)
    exact h
  · have h1 : ((n : Int) ≤ i) = True := by simp; omega
    (refine gw2 @h0 @h1 ?_; try exact True.intro)
    exact h

theorem f16 {K : AV → Heap → Prop} {H : Heap} {n i : Nat} {f : Nat → Bool} {b : Bool} (hn : n ≤ 100000000) (hi : i < n) (h : K (.tup [vec n (upd f i b), .int 0]) H) : wpF P [] 16 [vec n f, .int (i : Int), .bool b] H K := by
  refine wpF_go c16 rfl 4 ?_
  intro ha hb
  simp only [s16, vec]
  have h0 : ((i : Int) < 0) = False := by simp
  have h1 : ((n : Int) ≤ (i : Int)) = False := by simp; omega
  have hd := tdiv64 i
  have hm := tmod64 i
  have he := sh64 i
  have hl : i / 64 < nw n := by unfold nw; omega
  have hlen : ∀ {f : Nat → Bool}, (wdA n f).length = nw n := wdA_len
  have hg : ∀ {f : Nat → Bool}, (wdA n f)[i / 64]? = some (.u64 (wd f (i / 64))) := by
    intro f
    simp [wdA, hl]
  have ei : 64 * (i / 64) + i % 64 = i := by omega
  have hc : wd f (i / 64) &&& ~~~((1 : BitVec 64) <<< (i % 64)) = wd (upd f i false) (i / 64) := by
    have := wd_clr (f := f) (k := i / 64) (j := i % 64) (by omega)
    rw [ei] at this; exact this
  have hs : wd (upd f i false) (i / 64) ||| ((1 : BitVec 64) <<< (i % 64)) = wd (upd f i true) (i / 64) := by
    have := wd_set (f := f) (k := i / 64) (j := i % 64) (by omega)
    rw [ei] at this; exact this
  have hu := wdA_upd (n := n) (f := f) (b := false) hi
  have hu2 := wdA_upd2 (n := n) (f := f) (b := false) (c := true) hi
  have hi1 : (-9223372036854775808 : Int) ≤ ((i / 64 : Nat) : Int) := by omega
  have hi2 : ((i / 64 : Nat) : Int) ≤ 9223372036854775807 := by omega
  have hi3 : ((i / 64 : Nat) : Int) < (nw n : Int) := by omega
  have hi4 : (-9223372036854775808 : Int) ≤ ((i % 64 : Nat) : Int) := by omega
  have hi5 : ((i % 64 : Nat) : Int) ≤ 9223372036854775807 := by omega
  (refine gw7 @h0 @h1 @hd @hm @he @hg @hlen ?_; try exact True.intro)
  refine drawm 1 (nw n) .leaf ⟨55, 1, true, .arr (nw n) .leaf, .agg (wdA n f)⟩ (fun H' => f38k hn (by omega)) ?_ bndA
  cases b with
  | false =>
    (refine gw14 @h0 @h1 @hd @hm @he @hg @hlen @hc @hu @hi1 @hi2 @hi3 @hi4 @hi5 ?_; try exact True.intro)
    (refine gw1 @demA ?_; try exact True.intro)
    exact h
  | true =>
    (refine gw14 @hd @hm @he @hg @hlen @hc @hu @hs @hu2 @hi1 @hi2 @hi3 @hi4 @hi5 ?_; try exact True.intro)
    (refine gw1 @demA ?_; try exact True.intro)
    exact h

theorem upd_bfn {l : List Bool} {i : Nat} {b : Bool} (hi : i < l.length) : upd (bfn l) i b = bfn (l.set i b) := by
  funext j
  unfold upd bfn
  rw [List.getD_eq_getElem?_getD, List.getD_eq_getElem?_getD, List.getElem?_set]
  by_cases h : i = j
  · subst h; simp [hi]
  · rw [if_neg (Ne.symm h), if_neg h]

theorem f4 {K : AV → Heap → Prop} {H : Heap} {l : List Bool} {i : Int} {b : Bool} (h : K (.bool true) H) : wpF P [] 4 [.ro .leaf (l.map .bool), .int i, .bool b] H K := by
  refine wpF_go c4 rfl 3 ?_
  intro ha hb
  simp only [s4]
  by_cases hl : 1000 < l.length
  · have h1 : ((1000 : Int) < (l.length : Int)) = True := by simp; omega
    (refine gw1 @h1 ?_; try exact True.intro)
    refine f9 ?_
    (refine gw0 ?_; try exact True.intro)
    exact h
  have h1 : ((1000 : Int) < (l.length : Int)) = False := by simp; omega
  have hcnt : cnt (64 * nw l.length) (bfn l) = cnt l.length (bfn l) := cnt_out (fun i h => bf_out h) (by unfold nw; omega)
  have hcl : cnt l.length (bfn l) ≤ l.length := cnt_le
  generalize hc : cnt l.length (bfn l) = c at hcnt hcl
  have hmod : Int.tmod ((c : Nat) : Int) 2 = ((c % 2 : Nat) : Int) := (Int.ofNat_tmod c 2).symm
  (refine gw1 @h1 ?_; try exact True.intro)
  refine f10 (by omega) ?_
  simp only [vec]
  (refine gw0 ?_; try exact True.intro)
  have e1 : ((c : Int) = (c : Int)) = True := by simp
  have hpar : (decide (c % 2 = 1) == decide (((c % 2 : Nat) : Int) = 1)) = true := by
    by_cases e : c % 2 = 1
    · have e2 : ((c % 2 : Nat) : Int) = 1 := by rw [e]; rfl
      rw [decide_eq_true e, decide_eq_true e2]; rfl
    · have e2 : ¬ (((c % 2 : Nat) : Int) = 1) := by omega
      rw [decide_eq_false e, decide_eq_false e2]; rfl
  have b1 : (-9223372036854775808 : Int) ≤ ((c % 2 : Nat) : Int) := by omega
  have b2 : ((c % 2 : Nat) : Int) ≤ 9223372036854775807 := by omega
  by_cases hi : i < 0 ∨ (l.length : Int) ≤ i
  · refine f16e hi ?_
    (refine gw0 ?_; try exact True.intro)
    refine f17 (by omega) ?_
    rw [hcnt]
    (refine gw0 ?_; try exact True.intro)
    refine f18 (by omega) ?_
    rw [hc]
    (refine gw0 ?_; try exact True.intro)
    refine f19 (by omega) ?_
    rw [hcnt]
    (refine gw0 ?_; try exact True.intro)
    refine f18 (by omega) ?_
    rw [hc]
    have hi2 : (decide (0 ≤ i) && cut l.length (bfn l) i.toNat) = false := by
      rcases hi with h | h
      · simp; omega
      · simp only [cut]
        rw [show decide (i.toNat < l.length) = false by simp; omega]
        simp
    (refine gw4 @hmod @hpar @b1 @b2 ?_; try exact True.intro)
    by_cases h0 : i < 0
    · (refine gw1 @h0 ?_; try exact True.intro)
      refine f20 ?_
      rw [hi2]
      (refine gw0 ?_; try exact True.intro)
      refine f14n ?_
      (refine gw0 ?_; try exact True.intro)
      refine f9 ?_
      (refine gw0 ?_; try exact True.intro)
      exact h
    · have h3 : ((l.length : Int) ≤ i) = True := by simp; omega
      (refine gw2 @h0 @h3 ?_; try exact True.intro)
      refine f20 ?_
      rw [hi2]
      (refine gw0 ?_; try exact True.intro)
      refine f14n ?_
      (refine gw0 ?_; try exact True.intro)
      refine f9 ?_
      (refine gw0 ?_; try exact True.intro)
      exact h
  obtain ⟨p, rfl⟩ := Int.eq_ofNat_of_zero_le (show 0 ≤ i by omega)
  have hp : p < l.length := by omega
  have h0 : ((p : Int) < 0) = False := by simp
  have h3 : ((l.length : Int) ≤ (p : Int)) = False := by simp; omega
  refine f16 (by omega) hp ?_
  rw [upd_bfn hp]
  simp only [vec]
  (refine gw0 ?_; try exact True.intro)
  refine f17 (by omega) ?_
  rw [hcnt]
  (refine gw0 ?_; try exact True.intro)
  refine f18 (by omega) ?_
  rw [hc]
  (refine gw0 ?_; try exact True.intro)
  refine f19 (by omega) ?_
  rw [hcnt]
  (refine gw0 ?_; try exact True.intro)
  refine f18 (by omega) ?_
  rw [hc]
  have hset : (l.map AV.bool).set p (.bool b) = (l.set p b).map .bool := by rw [List.map_set]
  have hgl : (l.map AV.bool).getD p .un = .bool (l.getD p false) := ld_bool hp
  have hgl2 : (l.map AV.bool)[p]? = some (.bool (l.getD p false)) := by simp [List.getElem?_map, hp, List.getD_eq_getElem?_getD]
  have hgc : (decide ((0 : Int) ≤ (p : Int)) && cut l.length (bfn l) (p : Int).toNat) = l.getD p false := by
    simp [cut, hp, bfn]
  have hlp : ((p : Int) < (l.length : Int)) = True := by simp; omega
  have hll : (l.set p b).length = l.length := by simp
  have hz : ∀ {kp : Nat → Bool} {N : Nat} {h : Heap}, mapO (demK kp N h 2) (List.take l.length ((l.set p b).map AV.bool)) = some ((l.set p b).map .bool) := by
    intro kp N h
    rw [List.take_of_length_le (by simp)]
    exact mapO_plain (by intro x hx; obtain ⟨y, _, rfl⟩ := List.mem_map.1 hx; rfl)
  have hcell : (∀ (q : AV), q ∈ l.map AV.bool → q.isCell = true) = True := by
    simp only [eq_iff_iff, iff_true]
    intro q hq
    obtain ⟨y, _, rfl⟩ := List.mem_map.1 hq
    rfl
  (refine gw9 @hmod @hpar @b1 @b2 @h0 @h3 @hset @hgl2 @hlp ?_; try exact True.intro)
  refine ⟨fun q hq => by obtain ⟨y, _, rfl⟩ := List.mem_map.1 hq; rfl, by omega, by omega, ?_⟩
  refine drawn _ (f20 ⟨rfl, rfl⟩) ?_
  rw [hgc]
  have heq : (l.getD p false == l.getD p false) = true := by simp
  (refine gw3 @hgl @hlp @heq ?_; try exact True.intro)
  refine drawn (.bool true) (wpF_lend1 3 ?_) ?_
  · have f11' := fun {K : AV → Heap → Prop} {H : Heap} (h : K (.bool true) H) => f11 (l := l.set p b) (by omega) h
    rw [hll] at f11'
    simp only [vec] at f11'
    (refine gw3 @demA @hz @bndA ?_; try exact True.intro)
    refine f11' ?_
    (refine gw0 ?_; try exact True.intro)
  (refine gw0 ?_; try exact True.intro)
  refine drawn (.bool true) (f11 (l := l) (by omega) ⟨rfl, rfl⟩) ?_
  (refine gw0 ?_; try exact True.intro)
  refine drawn (.bool true) (f9 ⟨rfl, rfl⟩) ?_
  (refine gw0 ?_; try exact True.intro)
  exact h
end Go.Proofs.Ytnnopgichjnhdaa
