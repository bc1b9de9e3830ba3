/-
  The law BitsParts returns true for all inputs: a part of all bits, and bits one behind the other.
-/
import Derived.Test.YtnnopgichjnhdaaXj
import Derived.Test.YtnnopgichjnhdaaV38
open Go Go.V
namespace Go.Proofs.Ytnnopgichjnhdaa
set_option maxRecDepth 100000
set_option linter.unusedSimpArgs false
set_option linter.unusedVariables false
/-- trefoil/trefoillaw02.BitsParts (0:l, 1:from, 2:to, 3:more, 4:last, 10:, 11:v, 13:p, 14:e, 15:x, 17:y, 19:j, 20:f, 21:all, 22:a, 23:g, 24:b, 25:h, 26:k, 27:i, 40:, 86:, 99:) -/
def s8 : FnS := ⟨165, [0, 1, 2, 3, 4, 10, 11, 13, 14, 15, 17, 19, 20, 21, 22, 23, 24, 25, 26, 27, 40, 86, 99],
    (.seq (.reg [⟨.var 5, (.q .mv), [.c (.bool false)], none⟩])
    (.seq (.seq (.reg [⟨.new, (.q .mv), [.t 0], none⟩,
      ⟨.new, (.q .len), [.t 23], none⟩,
      ⟨.new, (.q (.bin .gtr)), [.t 24, .c (.int 600)], none⟩,
      ⟨.new, (.q .mv), [.t 25], none⟩,
      ⟨.new, (.q .mv), [.t 3], (some (26, false))⟩,
      ⟨.new, (.q .len), [.t 27], (some (26, false))⟩,
      ⟨.new, (.q (.bin .gtr)), [.t 28, .c (.int 600)], (some (26, false))⟩,
      ⟨.new, (.q .pick), [.t 26, .c (.bool true), .t 29], none⟩,
      ⟨.new, (.q .mv), [.t 30], none⟩,
      ⟨.new, (.q .mv), [.t 4], (some (31, false))⟩,
      ⟨.new, (.q .len), [.t 32], (some (31, false))⟩,
      ⟨.new, (.q (.bin .gtr)), [.t 33, .c (.int 600)], (some (31, false))⟩,
      ⟨.var 20, (.q .pick), [.t 31, .c (.bool true), .t 34], none⟩])
    (.cond (.t 20) (.seq (.reg [⟨.new, (.call 9), [], none⟩,
      ⟨.var 5, (.q .mv), [.t 23], none⟩])
    .ret)
    .skip))
    (.seq (.reg [⟨.new, (.q .mv), [.t 0], none⟩,
      ⟨.new, (.call 10), [.t 23], none⟩,
      ⟨.new, (.q .mv), [.t 24], none⟩,
      ⟨.new, (.q (.ext 0)), [.t 25], none⟩,
      ⟨.new, (.q (.ext 1)), [.t 25], none⟩,
      ⟨.var 6, (.e (.alloc 26 (.st [.leaf, .leaf]) (.agg [(.int 0), .nils]))), [], none⟩,
      ⟨.none, (.e (.store (.st [.leaf, .leaf]))), [.t 6, .t 26], none⟩,
      ⟨.new, (.q .mv), [.t 27], none⟩])
    (.seq (.reg [⟨.new, (.q (.ld (.st [.leaf, .leaf]))), [.t 6], none⟩,
      ⟨.new, (.q .mv), [.t 1], none⟩,
      ⟨.new, (.q .mv), [.t 2], none⟩,
      ⟨.new, (.call 30), [.t 23, .t 24, .t 25], none⟩,
      ⟨.new, (.q .mv), [.t 26], none⟩,
      ⟨.new, (.q (.ext 0)), [.t 27], none⟩,
      ⟨.new, (.q (.ext 1)), [.t 27], none⟩,
      ⟨.var 7, (.e (.alloc 26 (.st [.leaf, .leaf]) (.agg [(.int 0), .nils]))), [], none⟩,
      ⟨.none, (.e (.store (.st [.leaf, .leaf]))), [.t 7, .t 28], none⟩,
      ⟨.var 8, (.q .mv), [.t 29], none⟩])
    (.seq (.reg [⟨.new, (.q .mv), [.t 3], none⟩,
      ⟨.new, (.call 10), [.t 23], none⟩,
      ⟨.new, (.q .mv), [.t 24], none⟩,
      ⟨.new, (.q (.ext 0)), [.t 25], none⟩,
      ⟨.new, (.q (.ext 1)), [.t 25], none⟩,
      ⟨.var 9, (.e (.alloc 26 (.st [.leaf, .leaf]) (.agg [(.int 0), .nils]))), [], none⟩,
      ⟨.none, (.e (.store (.st [.leaf, .leaf]))), [.t 9, .t 26], none⟩,
      ⟨.new, (.q .mv), [.t 27], none⟩])
    (.seq (.reg [⟨.new, (.q .mv), [.t 4], none⟩,
      ⟨.new, (.call 10), [.t 23], none⟩,
      ⟨.new, (.q .mv), [.t 24], none⟩,
      ⟨.new, (.q (.ext 0)), [.t 25], none⟩,
      ⟨.new, (.q (.ext 1)), [.t 25], none⟩,
      ⟨.var 10, (.e (.alloc 26 (.st [.leaf, .leaf]) (.agg [(.int 0), .nils]))), [], none⟩,
      ⟨.none, (.e (.store (.st [.leaf, .leaf]))), [.t 10, .t 26], none⟩,
      ⟨.new, (.q .mv), [.t 27], none⟩])
    (.seq (.reg [⟨.new, (.q (.ld (.st [.leaf, .leaf]))), [.t 6], none⟩,
      ⟨.new, (.q (.ld (.st [.leaf, .leaf]))), [.t 9], none⟩,
      ⟨.new, (.q (.ld (.st [.leaf, .leaf]))), [.t 10], none⟩,
      ⟨.new, (.e (.bsl 26 (.st [.leaf, .leaf]) (.agg [(.int 0), .nils]) 3 [0, 1, 2])), [.t 23, .t 24, .t 25], none⟩,
      ⟨.new, (.call 31), [.t 26], none⟩,
      ⟨.new, (.q .mv), [.t 27], none⟩,
      ⟨.new, (.q (.ext 0)), [.t 28], none⟩,
      ⟨.new, (.q (.ext 1)), [.t 28], none⟩,
      ⟨.var 11, (.e (.alloc 26 (.st [.leaf, .leaf]) (.agg [(.int 0), .nils]))), [], none⟩,
      ⟨.none, (.e (.store (.st [.leaf, .leaf]))), [.t 11, .t 29], none⟩,
      ⟨.var 12, (.q .mv), [.t 30], none⟩])
    (.seq (.reg [⟨.new, (.e (.bsl 4 .leaf (.bool false) 0 [])), [], none⟩,
      ⟨.new, (.q .mv), [.t 0], none⟩,
      ⟨.new, (.e (.app 4 .leaf 1)), [.t 23, .t 24], none⟩,
      ⟨.new, (.q .mv), [.t 3], none⟩,
      ⟨.new, (.e (.app 4 .leaf 1)), [.t 25, .t 26], none⟩,
      ⟨.new, (.q .mv), [.t 4], none⟩,
      ⟨.new, (.e (.app 4 .leaf 1)), [.t 27, .t 28], none⟩,
      ⟨.var 13, (.q .mv), [.t 29], none⟩])
    (.seq (.seq (.reg [⟨.new, (.q .mv), [.t 12], none⟩,
      ⟨.new, (.q (.bin .neq)), [.t 23, .c (.int 0)], none⟩,
      ⟨.new, (.q .mv), [.t 24], none⟩,
      ⟨.new, (.q (.ld (.st [.leaf, .leaf]))), [.t 11], (some (25, false))⟩,
      ⟨.new, (.q .mv), [.t 13], (some (25, false))⟩,
      ⟨.new, (.call 11), [.t 26, .t 27], (some (25, false))⟩,
      ⟨.new, (.q (.un .not)), [.t 28], (some (25, false))⟩,
      ⟨.var 21, (.q .pick), [.t 25, .c (.bool true), .t 29], none⟩])
    (.cond (.t 21) (.seq (.reg [⟨.var 5, (.q .mv), [.c (.bool false)], none⟩])
    .ret)
    .skip))
    (.seq (.seq (.reg [⟨.new, (.q .mv), [.t 1], none⟩,
      ⟨.new, (.q (.bin .lss)), [.t 23, .c (.int 0)], none⟩,
      ⟨.new, (.q .mv), [.t 24], none⟩,
      ⟨.new, (.q .mv), [.t 1], (some (25, false))⟩,
      ⟨.new, (.q .mv), [.t 2], (some (25, false))⟩,
      ⟨.new, (.q (.bin .gtr)), [.t 26, .t 27], (some (25, false))⟩,
      ⟨.new, (.q .pick), [.t 25, .c (.bool true), .t 28], none⟩,
      ⟨.new, (.q .mv), [.t 29], none⟩,
      ⟨.new, (.q .mv), [.t 2], (some (30, false))⟩,
      ⟨.new, (.q .mv), [.t 0], (some (30, false))⟩,
      ⟨.new, (.q .len), [.t 32], (some (30, false))⟩,
      ⟨.new, (.q (.bin .gtr)), [.t 31, .t 33], (some (30, false))⟩,
      ⟨.var 22, (.q .pick), [.t 30, .c (.bool true), .t 34], none⟩])
    (.cond (.t 22) (.seq (.reg [⟨.new, (.q .mv), [.t 8], none⟩,
      ⟨.new, (.q (.bin .eql)), [.t 23, .c (.int 1)], none⟩,
      ⟨.new, (.q .mv), [.t 24], none⟩,
      ⟨.new, (.q (.ld (.st [.leaf, .leaf]))), [.t 7], (some (25, true))⟩,
      ⟨.new, (.call 14), [.t 26], (some (25, true))⟩,
      ⟨.new, (.q (.bin .eql)), [.t 27, .c (.int 0)], (some (25, true))⟩,
      ⟨.new, (.q .pick), [.t 25, .t 28, .c (.bool false)], none⟩,
      ⟨.new, (.q .mv), [.t 29], none⟩,
      ⟨.new, (.call 9), [], (some (30, true))⟩,
      ⟨.new, (.q .pick), [.t 30, .t 31, .c (.bool false)], none⟩,
      ⟨.var 5, (.q .mv), [.t 32], none⟩])
    .ret)
    .skip))
    (.seq (.reg [⟨.new, (.q (.ld (.st [.leaf, .leaf]))), [.t 6], none⟩,
      ⟨.new, (.q .mv), [.t 1], none⟩,
      ⟨.new, (.call 30), [.t 23, .c (.int 0), .t 24], none⟩,
      ⟨.new, (.q .mv), [.t 25], none⟩,
      ⟨.new, (.q (.ext 0)), [.t 26], none⟩,
      ⟨.new, (.q (.ext 1)), [.t 26], none⟩,
      ⟨.var 14, (.e (.alloc 26 (.st [.leaf, .leaf]) (.agg [(.int 0), .nils]))), [], none⟩,
      ⟨.none, (.e (.store (.st [.leaf, .leaf]))), [.t 14, .t 27], none⟩,
      ⟨.var 15, (.q .mv), [.t 28], none⟩])
    (.seq (.reg [⟨.new, (.q (.ld (.st [.leaf, .leaf]))), [.t 6], none⟩,
      ⟨.new, (.q .mv), [.t 2], none⟩,
      ⟨.new, (.q .mv), [.t 0], none⟩,
      ⟨.new, (.q .len), [.t 25], none⟩,
      ⟨.new, (.call 30), [.t 23, .t 24, .t 26], none⟩,
      ⟨.new, (.q .mv), [.t 27], none⟩,
      ⟨.new, (.q (.ext 0)), [.t 28], none⟩,
      ⟨.new, (.q (.ext 1)), [.t 28], none⟩,
      ⟨.var 16, (.e (.alloc 26 (.st [.leaf, .leaf]) (.agg [(.int 0), .nils]))), [], none⟩,
      ⟨.none, (.e (.store (.st [.leaf, .leaf]))), [.t 16, .t 29], none⟩,
      ⟨.var 17, (.q .mv), [.t 30], none⟩])
    (.seq (.reg [⟨.new, (.q (.ld (.st [.leaf, .leaf]))), [.t 14], none⟩,
      ⟨.new, (.q (.ld (.st [.leaf, .leaf]))), [.t 7], none⟩,
      ⟨.new, (.q (.ld (.st [.leaf, .leaf]))), [.t 16], none⟩,
      ⟨.new, (.e (.bsl 26 (.st [.leaf, .leaf]) (.agg [(.int 0), .nils]) 3 [0, 1, 2])), [.t 23, .t 24, .t 25], none⟩,
      ⟨.new, (.call 31), [.t 26], none⟩,
      ⟨.new, (.q .mv), [.t 27], none⟩,
      ⟨.new, (.q (.ext 0)), [.t 28], none⟩,
      ⟨.new, (.q (.ext 1)), [.t 28], none⟩,
      ⟨.var 18, (.e (.alloc 26 (.st [.leaf, .leaf]) (.agg [(.int 0), .nils]))), [], none⟩,
      ⟨.none, (.e (.store (.st [.leaf, .leaf]))), [.t 18, .t 29], none⟩,
      ⟨.var 19, (.q .mv), [.t 30], none⟩])
    (.seq (.draw [⟨.new, (.q .mv), [.t 8], none⟩,
      ⟨.new, (.q (.bin .eql)), [.t 23, .c (.int 0)], none⟩,
      ⟨.new, (.q .mv), [.t 24], none⟩,
      ⟨.new, (.q .mv), [.t 15], (some (25, true))⟩,
      ⟨.new, (.q .mv), [.t 8], (some (25, true))⟩,
      ⟨.new, (.q (.bin .eql)), [.t 26, .t 27], (some (25, true))⟩,
      ⟨.new, (.q .pick), [.t 25, .t 28, .c (.bool false)], none⟩,
      ⟨.new, (.q .mv), [.t 29], none⟩,
      ⟨.new, (.q .mv), [.t 17], (some (30, true))⟩,
      ⟨.new, (.q .mv), [.t 8], (some (30, true))⟩,
      ⟨.new, (.q (.bin .eql)), [.t 31, .t 32], (some (30, true))⟩,
      ⟨.new, (.q .pick), [.t 30, .t 33, .c (.bool false)], none⟩,
      ⟨.new, (.q .mv), [.t 34], none⟩,
      ⟨.new, (.q .mv), [.t 19], (some (35, true))⟩,
      ⟨.new, (.q .mv), [.t 8], (some (35, true))⟩,
      ⟨.new, (.q (.bin .eql)), [.t 36, .t 37], (some (35, true))⟩,
      ⟨.new, (.q .pick), [.t 35, .t 38, .c (.bool false)], none⟩,
      ⟨.new, (.q .mv), [.t 39], none⟩,
      ⟨.new, (.q (.ld (.st [.leaf, .leaf]))), [.t 7], (some (40, true))⟩,
      ⟨.new, (.q .mv), [.t 0], (some (40, true))⟩,
      ⟨.new, (.q .mv), [.t 1], (some (40, true))⟩,
      ⟨.new, (.q .mv), [.t 2], (some (40, true))⟩,
      ⟨.new, (.q (.slV .leaf true true)), [.t 42, .t 43, .t 44], (some (40, true))⟩,
      ⟨.new, (.call 11), [.t 41, .t 45], (some (40, true))⟩,
      ⟨.new, (.q .pick), [.t 40, .t 46, .c (.bool false)], none⟩,
      ⟨.new, (.q .mv), [.t 47], none⟩,
      ⟨.new, (.q (.ld (.st [.leaf, .leaf]))), [.t 18], (some (48, true))⟩,
      ⟨.new, (.q (.ld (.st [.leaf, .leaf]))), [.t 6], (some (48, true))⟩,
      ⟨.new, (.call 23), [.t 49, .t 50], (some (48, true))⟩,
      ⟨.new, (.q .pick), [.t 48, .t 51, .c (.bool false)], none⟩,
      ⟨.new, (.q .mv), [.t 52], none⟩,
      ⟨.new, (.call 9), [], (some (53, true))⟩,
      ⟨.new, (.q .pick), [.t 53, .t 54, .c (.bool false)], none⟩,
      ⟨.var 5, (.q .mv), [.t 55], none⟩])
    .ret)))))))))))))),
    [.t 5]⟩

theorem c8 : cF P [] (drP P []) 8 5 s8.vm = some s8 := by kernel_rfl
theorem jn3 {l m k : List Bool} : jn [(l.length, bfn l), (m.length, bfn m), (k.length, bfn k)] = bfn (l ++ m ++ k) := by
  funext i
  have e : ∀ (a b : List Bool) i, bfn (a ++ b) i = if i < a.length then bfn a i else bfn b (i - a.length) := by
    intro a b i
    unfold bfn
    by_cases h : i < a.length
    · rw [if_pos h, List.getD_eq_getElem?_getD, List.getElem?_append_left h, ← List.getD_eq_getElem?_getD]
    · rw [if_neg h, List.getD_eq_getElem?_getD, List.getElem?_append_right (by omega), ← List.getD_eq_getElem?_getD]
  rw [List.append_assoc, e, e]
  simp only [jn]
  by_cases h1 : i < l.length
  · rw [if_pos h1, if_pos h1]
  · rw [if_neg h1, if_neg h1]
    by_cases h2 : i - l.length < m.length
    · rw [if_pos h2, if_pos h2]
    · rw [if_neg h2, if_neg h2]
      by_cases h3 : i - l.length - m.length < k.length
      · rw [if_pos h3]
      · rw [if_neg h3, bf_out (by omega)]
theorem cellB {l : List Bool} : ∀ q ∈ l.map AV.bool, (match q with
          | AV.agg _ => false
          | AV.tup _ => false
          | AV.un => false
          | _ => true) = true := by
  intro q hq; obtain ⟨x, _, rfl⟩ := List.mem_map.1 hq; rfl
set_option maxHeartbeats 1000000 in
theorem f8 {K : AV → Heap → Prop} {H : Heap} {l m z : List Bool} {a b : Int} (h : K (.bool true) H) : wpF P [] 8 [.ro .leaf (l.map .bool), .int a, .int b, .ro .leaf (m.map .bool), .ro .leaf (z.map .bool)] H K := by
  refine wpF_go c8 rfl 3 ?_
  intro ha hb
  simp only [s8]
  by_cases h6 : 600 < l.length
  · have h1 : ((600 : Int) < (l.length : Int)) = True := by simp; omega
    (refine gw1 @h1 ?_; try exact True.intro)
    refine f9 ?_
    (refine gw0 ?_; try exact True.intro)
    exact h
  have h1 : ((600 : Int) < (l.length : Int)) = False := by simp; omega
  by_cases h7 : 600 < m.length
  · have h2 : ((600 : Int) < (m.length : Int)) = True := by simp; omega
    (refine gw2 @h1 @h2 ?_; try exact True.intro)
    refine f9 ?_
    (refine gw0 ?_; try exact True.intro)
    exact h
  have h2 : ((600 : Int) < (m.length : Int)) = False := by simp; omega
  by_cases h8 : 600 < z.length
  · have h3 : ((600 : Int) < (z.length : Int)) = True := by simp; omega
    (refine gw3 @h1 @h2 @h3 ?_; try exact True.intro)
    refine f9 ?_
    (refine gw0 ?_; try exact True.intro)
    exact h
  have h3 : ((600 : Int) < (z.length : Int)) = False := by simp; omega
  have F11 : ∀ {K : AV → Heap → Prop} {H : Heap}, K (.bool true) H → wpF P [] 11 [vec (tot [(l.length, bfn l), (m.length, bfn m), (z.length, bfn z)]) (jn [(l.length, bfn l), (m.length, bfn m), (z.length, bfn z)]), .ro .leaf (l.map .bool ++ (m.map .bool ++ z.map .bool))] H K := by
    intro K H h
    have := f11 (l := l ++ m ++ z) (H := H) (K := K) (by simp; omega) h
    rw [jn3]
    have et : tot [(l.length, bfn l), (m.length, bfn m), (z.length, bfn z)] = (l ++ m ++ z).length := by simp [tot]
    rw [et]
    rw [List.map_append, List.map_append, List.append_assoc (l.map AV.bool)] at this
    exact this
  have nrm3 : ∀ v ∈ [(l.length, bfn l), (m.length, bfn m), (z.length, bfn z)], ∀ i, v.1 ≤ i → v.2 i = false := by
    intro v hv i hi
    simp only [List.mem_cons, List.not_mem_nil, or_false] at hv
    rcases hv with rfl | rfl | rfl <;> exact bf_out hi
  have ht3 : tot [(l.length, bfn l), (m.length, bfn m), (z.length, bfn z)] ≤ 4194304 := by simp [tot]; omega
  have hT : ∀ {kp : Nat → Bool} {N : Nat} {h : Heap}, mapO (demK kp N h 1) (List.take (l.length + m.length + z.length) (l.map .bool ++ (m.map .bool ++ z.map .bool))) = some (l.map .bool ++ (m.map .bool ++ z.map .bool)) := by
    intro kp N h
    rw [List.take_of_length_le (by simp; omega)]
    refine mapO_plain ?_
    intro x hx
    simp only [List.mem_append, List.mem_map] at hx
    rcases hx with ⟨a, _, rfl⟩ | ⟨a, _, rfl⟩ | ⟨a, _, rfl⟩ <;> rfl
  (refine gw3 @h1 @h2 @h3 ?_; try exact True.intro)
  refine f10 (l := l) (by omega) ?_
  simp only [vec]
  (refine gw0 ?_; try exact True.intro)
  by_cases hab : a < 0 ∨ b < a ∨ (l.length : Int) < b
  · refine f30e (n := l.length) (f := bfn l) hab ?_
    (refine gw0 ?_; try exact True.intro)
    refine f10 (l := m) (by omega) ?_
    simp only [vec]
    (refine gw0 ?_; try exact True.intro)
    refine f10 (l := z) (by omega) ?_
    simp only [vec]
    (refine gw0 ?_; try exact True.intro)
    refine wpF_give1 (H.length + 4) 4 ?_
    (refine gw1 @bndA ?_; try exact True.intro)
    refine f31 (vs := [(l.length, bfn l), (m.length, bfn m), (z.length, bfn z)]) ht3 nrm3 ?_
    simp only [vec]
    generalize htt : tot [(l.length, bfn l), (m.length, bfn m), (z.length, bfn z)] = tt at F11 ht3
    generalize hjj : jn [(l.length, bfn l), (m.length, bfn m), (z.length, bfn z)] = jj at F11
    (refine gw0 ?_; try exact True.intro)
    refine ⟨cellB, by omega, by omega, cellB, by omega, by omega, cellB, by omega, by omega, ?_⟩
    refine wpF_give1 (H.length + 6) 2 ?_
    (refine gw2 @bndA @hT ?_; try exact True.intro)
    refine F11 ?_
    by_cases g1 : a < 0
    · (refine gw1 @g1 ?_; try exact True.intro)
      refine f14n ?_
      (refine gw0 ?_; try exact True.intro)
      refine f9 ?_
      (refine gw0 ?_; try exact True.intro)
      exact h
    by_cases g2 : b < a
    · (refine gw2 @g1 @g2 ?_; try exact True.intro)
      refine f14n ?_
      (refine gw0 ?_; try exact True.intro)
      refine f9 ?_
      (refine gw0 ?_; try exact True.intro)
      exact h
    have g3 : (l.length : Int) < b := by omega
    (refine gw3 @g1 @g2 @g3 ?_; try exact True.intro)
    refine f14n ?_
    (refine gw0 ?_; try exact True.intro)
    refine f9 ?_
    (refine gw0 ?_; try exact True.intro)
    exact h
  obtain ⟨x, rfl⟩ := Int.eq_ofNat_of_zero_le (show 0 ≤ a by omega)
  obtain ⟨y, rfl⟩ := Int.eq_ofNat_of_zero_le (show 0 ≤ b by omega)
  have hxy : x ≤ y := by omega
  have hyl : y ≤ l.length := by omega
  have g1 : ((x : Int) < 0) = False := by simp
  have g2 : ((y : Int) < (x : Int)) = False := by simp; omega
  have g3 : ((l.length : Int) < (y : Int)) = False := by simp; omega
  have P1 : ∀ {K : AV → Heap → Prop} {H : Heap}, K (.tup [vec (y - x) (cut (y - x) fun j => bfn l (x + j)), .int 0]) H → wpF P [] 30 [vec l.length (bfn l), .int (x : Int), .int (y : Int)] H K := fun h => f30 (by omega) hxy hyl h
  have P2 : ∀ {K : AV → Heap → Prop} {H : Heap}, K (.tup [vec x (cut x fun j => bfn l (0 + j)), .int 0]) H → wpF P [] 30 [vec l.length (bfn l), .int 0, .int (x : Int)] H K := by
    intro K H h
    have := f30 (n := l.length) (f := bfn l) (a := 0) (b := x) (H := H) (K := K) (by omega) (by omega) (by omega) h
    exact this
  have P3 : ∀ {K : AV → Heap → Prop} {H : Heap}, K (.tup [vec (l.length - y) (cut (l.length - y) fun j => bfn l (y + j)), .int 0]) H → wpF P [] 30 [vec l.length (bfn l), .int (y : Int), .int (l.length : Nat)] H K := fun h => f30 (by omega) hyl (Nat.le_refl _) h
  have J3 : ∀ {K : AV → Heap → Prop} {H : Heap}, K (.tup [vec l.length (bfn l), .int 0]) H →
      wpF P [] 31 [.ro vS [vec x (cut x fun j => bfn l (0 + j)), vec (y - x) (cut (y - x) fun j => bfn l (x + j)), vec (l.length - y) (cut (l.length - y) fun j => bfn l (y + j))]] H K := by
    intro K H h
    have ht : tot [(x, cut x fun j => bfn l (0 + j)), (y - x, cut (y - x) fun j => bfn l (x + j)), (l.length - y, cut (l.length - y) fun j => bfn l (y + j))] = l.length := by simp [tot]; omega
    have hj : jn [(x, cut x fun j => bfn l (0 + j)), (y - x, cut (y - x) fun j => bfn l (x + j)), (l.length - y, cut (l.length - y) fun j => bfn l (y + j))] = bfn l := by
      funext i
      simp only [jn]
      by_cases q1 : i < x
      · rw [if_pos q1]; unfold cut; simp [q1]
      · rw [if_neg q1]
        by_cases q2 : i - x < y - x
        · rw [if_pos q2]; unfold cut; show (decide (i - x < y - x) && bfn l (x + (i - x))) = _; rw [show x + (i - x) = i by omega]; simp [q2]
        · rw [if_neg q2]
          by_cases q3 : i - x - (y - x) < l.length - y
          · rw [if_pos q3]; unfold cut; show (decide (i - x - (y - x) < l.length - y) && bfn l (y + (i - x - (y - x)))) = _; rw [show y + (i - x - (y - x)) = i by omega]; simp [q3]
          · rw [if_neg q3, bf_out (by omega)]
    refine f31 (vs := [(x, cut x fun j => bfn l (0 + j)), (y - x, cut (y - x) fun j => bfn l (x + j)), (l.length - y, cut (l.length - y) fun j => bfn l (y + j))]) (by rw [ht]; omega) ?_ (by rw [ht, hj]; exact h)
    intro v hv i hi
    simp only [List.mem_cons, List.not_mem_nil, or_false] at hv
    rcases hv with rfl | rfl | rfl
    · show cut x (fun j => bfn l (0 + j)) i = false
      exact cut_ge hi
    · show cut (y - x) (fun j => bfn l (x + j)) i = false
      exact cut_ge hi
    · show cut (l.length - y) (fun j => bfn l (y + j)) i = false
      exact cut_ge hi
  have S11 : ∀ {K : AV → Heap → Prop} {H : Heap}, K (.bool true) H → wpF P [] 11 [vec (y - x) (cut (y - x) fun j => bfn l (x + j)), .ro .leaf (((l.map AV.bool).drop x).take (y - x))] H K := by
    intro K H h
    refine f11f (by omega) (.inr ?_) h
    congr 1
    apply List.ext_getElem
    · simp; omega
    · intro i h1 h2
      have : x + i < l.length := by simp at h1; omega
      simp [bfn, List.getD_eq_getElem?_getD, List.getElem?_eq_getElem this]
  refine P1 ?_
  unfold vS at J3
  simp only [vec] at P1 P2 P3 J3 S11 ⊢
  generalize hf1 : (cut (y - x) fun j => bfn l (x + j)) = F1 at P1 J3 S11 ⊢
  generalize hf2 : (cut x fun j => bfn l (0 + j)) = F2 at P2 J3
  generalize hf3 : (cut (l.length - y) fun j => bfn l (y + j)) = F3 at P3 J3
  · (refine gw0 ?_; try exact True.intro)
    refine f10 (l := m) (by omega) ?_
    simp only [vec]
    (refine gw0 ?_; try exact True.intro)
    refine f10 (l := z) (by omega) ?_
    simp only [vec]
    (refine gw0 ?_; try exact True.intro)
    refine wpF_give1 (H.length + 4) 4 ?_
    (refine gw1 @bndA ?_; try exact True.intro)
    refine f31 (vs := [(l.length, bfn l), (m.length, bfn m), (z.length, bfn z)]) ht3 nrm3 ?_
    simp only [vec]
    generalize htt : tot [(l.length, bfn l), (m.length, bfn m), (z.length, bfn z)] = tt at F11 ht3
    generalize hjj : jn [(l.length, bfn l), (m.length, bfn m), (z.length, bfn z)] = jj at F11
    (refine gw0 ?_; try exact True.intro)
    refine ⟨cellB, by omega, by omega, cellB, by omega, by omega, cellB, by omega, by omega, ?_⟩
    refine wpF_give1 (H.length + 6) 2 ?_
    (refine gw2 @bndA @hT ?_; try exact True.intro)
    refine F11 ?_
    (refine gw3 @g1 @g2 @g3 ?_; try exact True.intro)
    refine P2 ?_
    (refine gw0 ?_; try exact True.intro)
    refine P3 ?_
    (refine gw0 ?_; try exact True.intro)
    refine wpF_give1 (H.length + 9) 4 ?_
    (refine gw1 @bndA ?_; try exact True.intro)
    refine J3 ?_
    (refine gw0 ?_; try exact True.intro)
    have s1 : ((x : Int).toNat) = x := rfl
    have s2 : ((y : Int).toNat) = y := rfl
    have s3 : ((x : Int) ≤ (y : Int)) = True := by simp; omega
    have s4 : ((y : Int) ≤ (l.length : Int)) = True := by simp; omega
    (repeat (refine And.intro (by omega) ?_))
    refine drawn (.bool true) (S11 ⟨rfl, rfl⟩) ?_
    (refine gw0 ?_; try exact True.intro)
    refine drawn (.bool true) (f23 (n := l.length) (m := l.length) (f := bfn l) (g := bfn l) ⟨by rw [decide_eq_true rfl, decide_eq_true rfl]; rfl, rfl⟩) ?_
    (refine gw0 ?_; try exact True.intro)
    refine drawn (.bool true) (f9 ⟨rfl, rfl⟩) ?_
    (refine gw0 ?_; try exact True.intro)
    exact h
end Go.Proofs.Ytnnopgichjnhdaa
