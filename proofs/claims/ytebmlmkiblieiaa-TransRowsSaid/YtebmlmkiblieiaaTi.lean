/-
  Layer 16 (trans), as this seat's program has it: columns of truths.
-/
import Derived.Test.YtebmlmkiblieiaaTe
import Derived.Test.YtebmlmkiblieiaaV38
import Derived.Test.YtebmlmkiblieiaaV44
open Go Go.V
namespace Go.Proofs.Ytebmlmkiblieiaa
/-- trefoil/trefoillaw16.columns (0:l, 2:, 3:out, 4:i, 5:v, 10:) -/
def s50 : FnS := ⟨26, [0, 2, 3, 4, 5, 10],
    (.seq (.reg [⟨.var 1, (.q .mv), [.c .nils], none⟩])
    (.seq (.reg [⟨.var 2, (.q .mv), [.c .nils], none⟩])
    (.seq (.seq (.reg [⟨.var 3, (.q .mv), [.c (.int 0)], none⟩])
    (.block 0 (.loop (.seq (.seq (.reg [⟨.new, (.q .mv), [.t 3], none⟩,
      ⟨.new, (.q .mv), [.t 0], none⟩,
      ⟨.new, (.q .len), [.t 7], none⟩,
      ⟨.var 5, (.q (.bin .lss)), [.t 6, .t 8], none⟩])
    (.cond (.t 5) .skip
    (.exit 0)))
    (.seq (.block 1 (.seq (.reg [⟨.new, (.q .mv), [.t 0], none⟩,
      ⟨.new, (.q .mv), [.t 3], none⟩,
      ⟨.new, (.q (.iaS .leaf)), [.t 6, .t 7], none⟩,
      ⟨.new, (.q (.ld .leaf)), [.t 8], none⟩,
      ⟨.new, (.call 75), [.t 9], none⟩,
      ⟨.new, (.q .mv), [.t 10], none⟩,
      ⟨.new, (.q (.ext 0)), [.t 11], none⟩,
      ⟨.new, (.q (.ext 1)), [.t 11], none⟩,
      ⟨.var 4, (.e (.alloc 77 (.st [.leaf, .leaf]) (.agg [(.int 0), .nils]))), [], none⟩,
      ⟨.none, (.e (.store (.st [.leaf, .leaf]))), [.t 4, .t 12], none⟩,
      ⟨.new, (.q .mv), [.t 13], none⟩])
    (.reg [⟨.new, (.q .mv), [.t 2], none⟩,
      ⟨.new, (.q (.ld (.st [.leaf, .leaf]))), [.t 4], none⟩,
      ⟨.new, (.e (.bsl 77 (.st [.leaf, .leaf]) (.agg [(.int 0), .nils]) 1 [0])), [.t 7], none⟩,
      ⟨.new, (.e (.app 77 (.st [.leaf, .leaf]) 32)), [.t 6, .t 8], none⟩,
      ⟨.var 2, (.q .mv), [.t 9], none⟩])))
    (.reg [⟨.new, (.q .mv), [.t 3], none⟩,
      ⟨.new, (.q (.bin .add)), [.t 6, .c (.int 1)], none⟩,
      ⟨.var 3, (.q .mv), [.t 7], none⟩]))))))
    (.seq (.reg [⟨.new, (.q .mv), [.t 2], none⟩,
      ⟨.var 1, (.q .mv), [.t 6], none⟩])
    .ret)))),
    [.t 1]⟩

/-- trefoil/trefoilref16.Pack (0:cols, 2:, 3:s, 4:i, 8:) -/
def s51 : FnS := ⟨19, [0, 2, 3, 4, 8],
    (.seq (.reg [⟨.var 1, (.q .mv), [.c (.str [])], none⟩])
    (.seq (.reg [⟨.var 2, (.q .mv), [.c (.str [])], none⟩])
    (.seq (.seq (.reg [⟨.var 3, (.q .mv), [.c (.int 0)], none⟩])
    (.block 0 (.loop (.seq (.seq (.reg [⟨.new, (.q .mv), [.t 3], none⟩,
      ⟨.new, (.q .mv), [.t 0], none⟩,
      ⟨.new, (.q .len), [.t 6], none⟩,
      ⟨.var 4, (.q (.bin .lss)), [.t 5, .t 7], none⟩])
    (.cond (.t 4) .skip
    (.exit 0)))
    (.seq (.block 1 (.reg [⟨.new, (.q .mv), [.t 2], none⟩,
      ⟨.new, (.q .mv), [.t 0], none⟩,
      ⟨.new, (.q .mv), [.t 3], none⟩,
      ⟨.new, (.q (.iaS .leaf)), [.t 6, .t 7], none⟩,
      ⟨.new, (.q (.ld .leaf)), [.t 8], none⟩,
      ⟨.new, (.call 76), [.t 9], none⟩,
      ⟨.new, (.q (.bin .add)), [.t 5, .t 10], none⟩,
      ⟨.var 2, (.q .mv), [.t 11], none⟩]))
    (.reg [⟨.new, (.q .mv), [.t 3], none⟩,
      ⟨.new, (.q (.bin .add)), [.t 5, .c (.int 1)], none⟩,
      ⟨.var 3, (.q .mv), [.t 6], none⟩]))))))
    (.seq (.reg [⟨.new, (.q .mv), [.t 2], none⟩,
      ⟨.var 1, (.q .mv), [.t 5], none⟩])
    .ret)))),
    [.t 1]⟩

set_option maxRecDepth 100000
set_option linter.unusedSimpArgs false
set_option linter.unusedVariables false
theorem c50 : cF P [] (drP P []) 50 1 s50.vm = some s50 := by kernel_rfl
theorem c51 : cF P [] (drP P []) 51 1 s51.vm = some s51 := by kernel_rfl
/-- a list of truths as Go has it: none, or some -/
def tel (n : Nat) (f : Nat → Bool) : AV := bel n f
def teL (m : Nat → Nat) (f : Nat → Nat → Bool) (t : Nat) : List AV := (List.range t).map fun i => bel (m i) (f i)
theorem teL_len {m : Nat → Nat} {f : Nat → Nat → Bool} {t : Nat} : (teL m f t).length = t := by simp [teL]
theorem teL_get {m : Nat → Nat} {f : Nat → Nat → Bool} {t i : Nat} (h : i < t) : (teL m f t).getD i .un = bel (m i) (f i) := ld_rng h
/-- bits of a list of truths -/
theorem bfn_of {n : Nat} {f : Nat → Bool} : bfn ((List.range n).map f) = cut n f := by
  funext i
  unfold bfn cut
  by_cases h : i < n
  · rw [List.getD_eq_getElem?_getD, List.getElem?_map, List.getElem?_range h, decide_eq_true h]; simp
  · rw [List.getD_eq_getElem?_getD, List.getElem?_eq_none (by simp; omega), decide_eq_false h]; simp
theorem f75n {K : AV → Heap → Prop} {H : Heap} {f : Nat → Bool} (h : K (.tup [vec 0 f, .int 0]) H) : wpF P [] 75 [.nils] H K := by
  refine wpF_go c75 rfl 4 ?_
  intro ha hb
  simp only [s75]
  (refine gw0 ?_; try exact True.intro)
  refine f82 (n := 0) (by omega) ?_
  intro B
  have e2 : H.length + 1 + 1 = H.length + 2 := rfl
  (refine gw1 @e2 ?_; try exact True.intro)
  unfold wblk
  refine wp_unroll 1 ?_
  have hz : nw 0 = 0 := rfl
  have hw : wdA 0 (fun _ => false) = [] := rfl
  (refine gw2 @hz @hw ?_; try exact True.intro)
  exact h
theorem f75b {K : AV → Heap → Prop} {H : Heap} {n : Nat} {f : Nat → Bool} (hn : n ≤ 1000000) (h : K (.tup [vec n (cut n f), .int 0]) H) : wpF P [] 75 [bel n f] H K := by
  unfold bel
  by_cases h0 : n = 0
  · subst h0
    rw [if_pos rfl]
    exact f75n (by simpa [cut_zero] using h)
  · rw [if_neg h0, show ((List.range n).map fun i => AV.bool (f i)) = ((List.range n).map f).map .bool by rw [List.map_map]; rfl]
    have hl : ((List.range n).map f).length = n := by simp
    refine f75 (by omega) ?_
    rw [hl, bfn_of]
    exact h
theorem f76b {K : AV → Heap → Prop} {H : Heap} {n : Nat} {f : Nat → Bool} (hn : n ≤ 1000000) (h : K (.str (bys n (cut n f))) H) : wpF P [] 76 [bel n f] H K := by
  unfold bel
  by_cases h0 : n = 0
  · subst h0
    rw [if_pos rfl]
    exact f76n h
  · rw [if_neg h0, show ((List.range n).map fun i => AV.bool (f i)) = ((List.range n).map f).map .bool by rw [List.map_map]; rfl]
    have hl : ((List.range n).map f).length = n := by simp
    refine f76 (by omega) ?_
    rw [hl, bfn_of]
    exact h

def I51 (m : Nat → Nat) (f : Nat → Nat → Bool) (q : Nat) (H : Heap) (k : Nat) (st : St) : Prop :=
  ∃ (t : Nat) (s : List (BitVec 8)) (u4 : AV), st = ⟨[.ro .leaf (teL m f q), .str [], .str s, .int (t : Int), u4], H⟩ ∧ k = q - t ∧ t ≤ q ∧ s = pkS m (fun i => cut (m i) (f i)) t
theorem pkS_le {m : Nat → Nat} {f : Nat → Nat → Bool} (hm : ∀ i, m i ≤ 1000) : ∀ t, (pkS m f t).length ≤ t * 126
  | 0 => by simp [pkS]
  | t + 1 => by
    have := pkS_le (f := f) hm t
    have h2 : ny (m t) ≤ 126 := by have := hm t; unfold ny; omega
    rw [pkS, List.length_append, bys_len]
    omega
theorem f51 {K : AV → Heap → Prop} {H : Heap} {m : Nat → Nat} {f : Nat → Nat → Bool} {q : Nat} (hm : ∀ i, m i ≤ 1000) (hq : q ≤ 1000) (h : K (.str (pkS m (fun i => cut (m i) (f i)) q)) H) : wpF P [] 51 [.ro .leaf (teL m f q)] H K := by
  refine wpF_go c51 rfl 3 ?_
  intro ha hb
  simp only [s51]
  have hl := teL_len (m := m) (f := f) (t := q)
  (refine gw0 ?_; try exact True.intro)
  refine wp_inv (I51 m f q H) q ⟨0, [], _, rfl, rfl, by omega, rfl⟩ ?_
  rintro k st ⟨t, s, u4, rfl, rfl, ht, hs⟩
  by_cases htl : t < q
  · have h4 : ((t : Int) < (q : Int)) = True := by simp only [eq_iff_iff, iff_true]; omega
    have gt := teL_get (m := m) (f := f) htl
    (refine gw3 @h4 @hl @gt ?_; try exact True.intro)
    refine f76b (by have := hm t; omega) ?_
    have hpl := pkS_le (f := fun i => cut (m i) (f i)) hm t
    rw [← hs] at hpl
    have hbl := bys_len (n := m t) (f := cut (m t) (f t))
    have hny : ny (m t) ≤ 126 := by have := hm t; unfold ny; omega
    (refine gw1 @hbl ?_; try exact True.intro)
    (repeat (refine And.intro (by omega) ?_))
    exact ⟨q - (t + 1), by omega, t + 1, _, _, rfl, rfl, by omega, by rw [hs]; rfl⟩
  · have h4 : ((t : Int) < (q : Int)) = False := by simp only [eq_iff_iff, iff_false]; omega
    have hte : t = q := by omega
    (refine gw2 @h4 @hl ?_; try exact True.intro)
    rw [hs, hte]
    exact h

def I50 (m : Nat → Nat) (f : Nat → Nat → Bool) (q : Nat) (H : Heap) (k : Nat) (st : St) : Prop :=
  ∃ (t : Nat) (out u4 u5 : AV) (L : Heap), st = ⟨[.ro .leaf (teL m f q), .nils, out, .int (t : Int), u4, u5], H ++ L⟩ ∧ k = q - t ∧ t ≤ q ∧
    ((t = 0 ∧ out = .nils ∧ L = []) ∨ (0 < t ∧ out = .own (H.length + 2) t [] 0 t vS ∧ ∃ g1 g2 J l, L = g1 :: g2 :: vB t l :: J ∧ l = veL m (fun i => cut (m i) (f i)) t))
theorem f50 {K : AV → Heap → Prop} {H : Heap} {m : Nat → Nat} {f : Nat → Nat → Bool} {q : Nat} (hm : ∀ i, m i ≤ 1000) (hq : q ≤ 1000) (hq0 : 0 < q) (h : K (.ro vS (veL m (fun i => cut (m i) (f i)) q)) H) : wpF P [] 50 [.ro .leaf (teL m f q)] H K := by
  refine wpF_go c50 rfl 5 ?_
  intro ha hb
  simp only [s50]
  have hl := teL_len (m := m) (f := f) (t := q)
  (refine gw0 ?_; try exact True.intro)
  refine wp_inv (I50 m f q H) q ⟨0, _, _, _, [], by rw [List.append_nil]; rfl, rfl, by omega, .inl ⟨rfl, rfl, rfl⟩⟩ ?_
  rintro k st ⟨t, out, u4, u5, L, rfl, rfl, ht, hc⟩
  by_cases htl : t < q
  · have h4 : ((t : Int) < (q : Int)) = True := by simp only [eq_iff_iff, iff_true]; omega
    have gt := teL_get (m := m) (f := f) htl
    have hmt := hm t
    rcases hc with ⟨ht0, rfl, rfl⟩ | ⟨ht0, rfl, g1, g2, J, l, rfl, hl2⟩
    · (refine gw3 @h4 @hl @gt ?_; try exact True.intro)
      refine f75b (by omega) ?_
      unfold vec
      (refine gw0 ?_; try exact True.intro)
      (repeat (refine And.intro (by omega) ?_))
      subst ht0
      exact ⟨q - 1, by omega, 1, _, _, _, _, rfl, rfl, by omega, .inr ⟨by omega, rfl, _, _, [], _, rfl, rfl⟩⟩
    · unfold vB
      (refine gw3 @h4 @hl @gt ?_; try exact True.intro)
      refine f75b (by omega) ?_
      unfold vec
      (refine gw0 ?_; try exact True.intro)
      refine ⟨rfl, rfl, ?_⟩
      (repeat (refine And.intro (by omega) ?_))
      exact ⟨q - (t + 1), by omega, t + 1, _, _, _, _, rfl, rfl, by omega, .inr ⟨by omega, rfl, _, _, _, _, rfl, by rw [hl2]; exact veL_succ⟩⟩
  · have h4 : ((t : Int) < (q : Int)) = False := by simp only [eq_iff_iff, iff_false]; omega
    have hte : t = q := by omega
    rcases hc with ⟨ht0, rfl, rfl⟩ | ⟨ht0, rfl, g1, g2, J, l, rfl, hl2⟩
    · omega
    · subst hte
      have hll : List.take t l = l := List.take_of_length_le (by rw [hl2, veL_len]; exact Nat.le_refl _)
      have hmo : mapO (demK (fun b => decide (b < H.length)) H.length (H ++ g1 :: g2 :: vB t l :: J) 4) l = some l := by rw [hl2]; exact mapO_veL
      unfold vB at *
      (refine gw4 @h4 @hl @hll @hmo ?_; try exact True.intro)
      rw [hl2]
      exact h
end Go.Proofs.Ytebmlmkiblieiaa
open Go Go.V
namespace Go.Proofs.Ytebmlmkiblieiaa
/-- trefoil/trefoillaw16.TransRows (0:seed, 1:n, 2:count, 3:odd, 8:, 9:l, 10:k, 11:m, 12:i, 13:c, 14:j, 15:r, 16:e, 17:s, 18:f, 19:j, 20:i, 28:, 39:, 44:, 66:, 92:, 130:, 133:, 137:, 153:) -/
def s13 : FnS := ⟨155, [0, 1, 2, 3, 8, 9, 10, 11, 12, 13, 14, 15, 16, 17, 18, 19, 20, 28, 39, 44, 66, 92, 130, 133, 137, 153],
    (.seq (.reg [⟨.var 4, (.q .mv), [.c (.bool false)], none⟩])
    (.seq (.seq (.reg [⟨.new, (.q .mv), [.t 0], none⟩,
      ⟨.new, (.q .len), [.t 26], none⟩,
      ⟨.new, (.q (.bin .gtr)), [.t 27, .c (.int 600)], none⟩,
      ⟨.new, (.q .mv), [.t 28], none⟩,
      ⟨.new, (.q .mv), [.t 0], (some (29, false))⟩,
      ⟨.new, (.q .len), [.t 30], (some (29, false))⟩,
      ⟨.new, (.q (.bin .eql)), [.t 31, .c (.int 0)], (some (29, false))⟩,
      ⟨.var 17, (.q .pick), [.t 29, .c (.bool true), .t 32], none⟩])
    (.cond (.t 17) (.seq (.reg [⟨.new, (.call 36), [], none⟩,
      ⟨.var 4, (.q .mv), [.t 26], none⟩])
    .ret)
    .skip))
    (.seq (.reg [⟨.var 5, (.q .mv), [.c .nils], none⟩])
    (.seq (.reg [⟨.new, (.q .mv), [.t 2], none⟩,
      ⟨.new, (.q (.bin .rem)), [.t 26, .c (.u8 16)], none⟩,
      ⟨.new, (.q (.cv .i64)), [.t 27], none⟩,
      ⟨.new, (.q (.bin .add)), [.c (.int 120), .t 28], none⟩,
      ⟨.var 6, (.q .mv), [.t 29], none⟩])
    (.seq (.reg [⟨.new, (.q .mv), [.t 1], none⟩,
      ⟨.new, (.q (.cv .i64)), [.t 26], none⟩,
      ⟨.new, (.q (.bin .rem)), [.t 27, .c (.int 150)], none⟩,
      ⟨.var 7, (.q .mv), [.t 28], none⟩])
    (.seq (.seq (.reg [⟨.var 8, (.q .mv), [.c (.int 0)], none⟩])
    (.block 0 (.loop (.seq (.seq (.reg [⟨.new, (.q .mv), [.t 8], none⟩,
      ⟨.new, (.q .mv), [.t 6], none⟩,
      ⟨.var 18, (.q (.bin .lss)), [.t 26, .t 27], none⟩])
    (.cond (.t 18) .skip
    (.exit 0)))
    (.seq (.block 1 (.seq (.reg [⟨.var 9, (.q .mv), [.c .nils], none⟩])
    (.seq (.seq (.reg [⟨.var 10, (.q .mv), [.c (.int 0)], none⟩])
    (.block 2 (.loop (.seq (.seq (.reg [⟨.new, (.q .mv), [.t 10], none⟩,
      ⟨.new, (.q .mv), [.t 7], none⟩,
      ⟨.var 19, (.q (.bin .lss)), [.t 26, .t 27], none⟩])
    (.cond (.t 19) .skip
    (.exit 2)))
    (.seq (.block 3 (.reg [⟨.new, (.q .mv), [.t 9], none⟩,
      ⟨.new, (.q .mv), [.t 0], none⟩,
      ⟨.new, (.q .mv), [.t 8], none⟩,
      ⟨.new, (.q .mv), [.t 7], none⟩,
      ⟨.new, (.q (.bin .mul)), [.t 28, .t 29], none⟩,
      ⟨.new, (.q .mv), [.t 10], none⟩,
      ⟨.new, (.q .mv), [.t 10], none⟩,
      ⟨.new, (.q (.bin .mul)), [.t 31, .t 32], none⟩,
      ⟨.new, (.q (.bin .add)), [.t 30, .t 33], none⟩,
      ⟨.new, (.q .mv), [.t 0], none⟩,
      ⟨.new, (.q .len), [.t 35], none⟩,
      ⟨.new, (.q (.bin .rem)), [.t 34, .t 36], none⟩,
      ⟨.new, (.q (.iaS .leaf)), [.t 27, .t 37], none⟩,
      ⟨.new, (.q (.ld .leaf)), [.t 38], none⟩,
      ⟨.new, (.e (.bsl 4 .leaf (.bool false) 1 [0])), [.t 39], none⟩,
      ⟨.new, (.e (.app 4 .leaf 1)), [.t 26, .t 40], none⟩,
      ⟨.var 9, (.q .mv), [.t 41], none⟩]))
    (.reg [⟨.new, (.q .mv), [.t 10], none⟩,
      ⟨.new, (.q (.bin .add)), [.t 26, .c (.int 1)], none⟩,
      ⟨.var 10, (.q .mv), [.t 27], none⟩]))))))
    (.seq (.seq (.reg [⟨.new, (.q .mv), [.t 8], none⟩,
      ⟨.new, (.q .mv), [.t 3], none⟩,
      ⟨.new, (.q (.cv .i64)), [.t 27], none⟩,
      ⟨.var 20, (.q (.bin .eql)), [.t 26, .t 28], none⟩])
    (.cond (.t 20) (.reg [⟨.new, (.q .mv), [.t 9], none⟩,
      ⟨.new, (.e (.bsl 4 .leaf (.bool false) 1 [0])), [.c (.bool true)], none⟩,
      ⟨.new, (.e (.app 4 .leaf 1)), [.t 26, .t 27], none⟩,
      ⟨.var 9, (.q .mv), [.t 28], none⟩])
    .skip))
    (.reg [⟨.new, (.q .mv), [.t 5], none⟩,
      ⟨.new, (.q .mv), [.t 9], none⟩,
      ⟨.new, (.e (.bsl 75 .leaf .nils 1 [0])), [.t 27], none⟩,
      ⟨.new, (.e (.app 75 .leaf 24)), [.t 26, .t 28], none⟩,
      ⟨.var 5, (.q .mv), [.t 29], none⟩])))))
    (.reg [⟨.new, (.q .mv), [.t 8], none⟩,
      ⟨.new, (.q (.bin .add)), [.t 26, .c (.int 1)], none⟩,
      ⟨.var 8, (.q .mv), [.t 27], none⟩]))))))
    (.seq (.reg [⟨.new, (.q .mv), [.t 5], none⟩,
      ⟨.new, (.call 50), [.t 26], none⟩,
      ⟨.new, (.call 41), [.t 27], none⟩,
      ⟨.new, (.q .mv), [.t 28], none⟩,
      ⟨.new, (.q (.ext 0)), [.t 29], none⟩,
      ⟨.new, (.q (.ext 1)), [.t 29], none⟩,
      ⟨.var 11, (.q .mv), [.t 30], none⟩,
      ⟨.var 12, (.q .mv), [.t 31], none⟩])
    (.seq (.reg [⟨.new, (.q .mv), [.t 5], none⟩,
      ⟨.new, (.call 50), [.t 26], none⟩,
      ⟨.new, (.call 44), [.t 27], none⟩,
      ⟨.new, (.q .mv), [.t 28], none⟩,
      ⟨.new, (.q (.ext 0)), [.t 29], none⟩,
      ⟨.new, (.q (.ext 1)), [.t 29], none⟩,
      ⟨.var 13, (.q .mv), [.t 30], none⟩,
      ⟨.var 14, (.q .mv), [.t 31], none⟩])
    (.seq (.seq (.reg [⟨.new, (.q .mv), [.t 6], none⟩,
      ⟨.new, (.q (.bin .neq)), [.t 26, .c (.int 128)], none⟩,
      ⟨.new, (.q .mv), [.t 27], none⟩,
      ⟨.new, (.q .mv), [.t 3], (some (28, false))⟩,
      ⟨.new, (.q (.cv .i64)), [.t 29], (some (28, false))⟩,
      ⟨.new, (.q (.bin .lss)), [.t 30, .c (.int 128)], (some (28, false))⟩,
      ⟨.var 21, (.q .pick), [.t 28, .c (.bool true), .t 31], none⟩])
    (.cond (.t 21) (.seq (.reg [⟨.new, (.q .mv), [.t 11], none⟩,
      ⟨.new, (.q .len), [.t 26], none⟩,
      ⟨.new, (.q (.bin .eql)), [.t 27, .c (.int 0)], none⟩,
      ⟨.new, (.q .mv), [.t 28], none⟩,
      ⟨.new, (.q .mv), [.t 12], (some (29, true))⟩,
      ⟨.new, (.q (.bin .eql)), [.t 30, .c (.int 11)], (some (29, true))⟩,
      ⟨.new, (.q .pick), [.t 29, .t 31, .c (.bool false)], none⟩,
      ⟨.new, (.q .mv), [.t 32], none⟩,
      ⟨.new, (.q .mv), [.t 13], (some (33, true))⟩,
      ⟨.new, (.q (.bin .eql)), [.t 34, .c (.str [])], (some (33, true))⟩,
      ⟨.new, (.q .pick), [.t 33, .t 35, .c (.bool false)], none⟩,
      ⟨.new, (.q .mv), [.t 36], none⟩,
      ⟨.new, (.q .mv), [.t 14], (some (37, true))⟩,
      ⟨.new, (.q .mv), [.t 12], (some (37, true))⟩,
      ⟨.new, (.q (.bin .eql)), [.t 38, .t 39], (some (37, true))⟩,
      ⟨.new, (.q .pick), [.t 37, .t 40, .c (.bool false)], none⟩,
      ⟨.new, (.q .mv), [.t 41], none⟩,
      ⟨.new, (.call 36), [], (some (42, true))⟩,
      ⟨.new, (.q .pick), [.t 42, .t 43, .c (.bool false)], none⟩,
      ⟨.var 4, (.q .mv), [.t 44], none⟩])
    .ret)
    .skip))
    (.seq (.seq (.reg [⟨.new, (.q .mv), [.t 12], none⟩,
      ⟨.new, (.q (.bin .neq)), [.t 26, .c (.int 0)], none⟩,
      ⟨.new, (.q .mv), [.t 27], none⟩,
      ⟨.new, (.q .mv), [.t 11], (some (28, false))⟩,
      ⟨.new, (.q .len), [.t 29], (some (28, false))⟩,
      ⟨.new, (.q .mv), [.t 7], (some (28, false))⟩,
      ⟨.new, (.q (.bin .neq)), [.t 30, .t 31], (some (28, false))⟩,
      ⟨.new, (.q .pick), [.t 28, .c (.bool true), .t 32], none⟩,
      ⟨.new, (.q .mv), [.t 33], none⟩,
      ⟨.new, (.q .mv), [.t 14], (some (34, false))⟩,
      ⟨.new, (.q .mv), [.t 12], (some (34, false))⟩,
      ⟨.new, (.q (.bin .neq)), [.t 35, .t 36], (some (34, false))⟩,
      ⟨.new, (.q .pick), [.t 34, .c (.bool true), .t 37], none⟩,
      ⟨.new, (.q .mv), [.t 38], none⟩,
      ⟨.new, (.q .mv), [.t 13], (some (39, false))⟩,
      ⟨.new, (.q .mv), [.t 5], (some (39, false))⟩,
      ⟨.new, (.call 51), [.t 41], (some (39, false))⟩,
      ⟨.new, (.q (.bin .neq)), [.t 40, .t 42], (some (39, false))⟩,
      ⟨.var 22, (.q .pick), [.t 39, .c (.bool true), .t 43], none⟩])
    (.cond (.t 22) (.seq (.reg [⟨.var 4, (.q .mv), [.c (.bool false)], none⟩])
    .ret)
    .skip))
    (.seq (.seq (.reg [⟨.var 15, (.q .mv), [.c (.int 0)], none⟩])
    (.block 4 (.loop (.seq (.seq (.reg [⟨.new, (.q .mv), [.t 15], none⟩,
      ⟨.new, (.q .mv), [.t 7], none⟩,
      ⟨.var 23, (.q (.bin .lss)), [.t 26, .t 27], none⟩])
    (.cond (.t 23) .skip
    (.exit 4)))
    (.seq (.block 5 (.seq (.reg [⟨.var 16, (.q .mv), [.c (.int 0)], none⟩])
    (.block 6 (.loop (.seq (.seq (.reg [⟨.new, (.q .mv), [.t 16], none⟩,
      ⟨.var 24, (.q (.bin .lss)), [.t 26, .c (.int 128)], none⟩])
    (.cond (.t 24) .skip
    (.exit 6)))
    (.seq (.block 7 (.seq (.draw [⟨.new, (.q .mv), [.t 11], none⟩,
      ⟨.new, (.q .mv), [.t 15], none⟩,
      ⟨.new, (.q (.iaS (.arr 2 .leaf))), [.t 26, .t 27], none⟩,
      ⟨.new, (.q (.ld (.arr 2 .leaf))), [.t 28], none⟩,
      ⟨.new, (.q .mv), [.t 16], none⟩,
      ⟨.new, (.call 18), [.t 29, .t 30], none⟩,
      ⟨.new, (.q .mv), [.t 5], none⟩,
      ⟨.new, (.q .mv), [.t 16], none⟩,
      ⟨.new, (.q (.iaS .leaf)), [.t 32, .t 33], none⟩,
      ⟨.new, (.q (.ld .leaf)), [.t 34], none⟩,
      ⟨.new, (.q .mv), [.t 15], none⟩,
      ⟨.new, (.q (.iaS .leaf)), [.t 35, .t 36], none⟩,
      ⟨.new, (.q (.ld .leaf)), [.t 37], none⟩,
      ⟨.var 25, (.q (.eqB true)), [.t 31, .t 38], none⟩])
    (.cond (.t 25) (.seq (.reg [⟨.var 4, (.q .mv), [.c (.bool false)], none⟩])
    .ret)
    .skip)))
    (.reg [⟨.new, (.q .mv), [.t 16], none⟩,
      ⟨.new, (.q (.bin .add)), [.t 26, .c (.int 1)], none⟩,
      ⟨.var 16, (.q .mv), [.t 27], none⟩])))))))
    (.reg [⟨.new, (.q .mv), [.t 15], none⟩,
      ⟨.new, (.q (.bin .add)), [.t 26, .c (.int 1)], none⟩,
      ⟨.var 15, (.q .mv), [.t 27], none⟩]))))))
    (.seq (.reg [⟨.new, (.call 36), [], none⟩,
      ⟨.var 4, (.q .mv), [.t 26], none⟩])
    .ret)))))))))))),
    [.t 4]⟩

set_option maxRecDepth 100000
set_option linter.unusedSimpArgs false
set_option linter.unusedVariables false
theorem c13 : cF P [] (drP P []) 13 4 s13.vm = some s13 := by kernel_rfl
/-- a list of truths that was made: none yet, or in a block between two places -/
def bl (N : Nat) (L : Heap) (lo hi : Nat) (x : AV) (n : Nat) (f : Nat → Bool) : Prop :=
  (n = 0 ∧ x = .nils) ∨ (0 < n ∧ ∃ b, lo ≤ b ∧ b < hi ∧ x = .own (N + b) n [] 0 n .leaf ∧ Heap.get L b = boB n ((List.range n).map fun j => .bool (f j)))
theorem bl.mono {N : Nat} {L : Heap} {lo hi hi' : Nat} {x : AV} {n : Nat} {f : Nat → Bool} (h : bl N L lo hi x n f) (hh : hi ≤ hi') : bl N L 0 hi' x n f := by
  rcases h with h | ⟨h0, b, h1, h2, h3, h4⟩
  · exact .inl h
  · exact .inr ⟨h0, b, by omega, by omega, h3, h4⟩
theorem bl.mono2 {N : Nat} {L : Heap} {lo hi hi' : Nat} {x : AV} {n : Nat} {f : Nat → Bool} (h : bl N L lo hi x n f) (hh : hi ≤ hi') : bl N L lo hi' x n f := by
  rcases h with h | ⟨h0, b, h1, h2, h3, h4⟩
  · exact .inl h
  · exact .inr ⟨h0, b, by omega, by omega, h3, h4⟩
theorem bl.push {N : Nat} {L : Heap} {lo hi : Nat} {x : AV} {n : Nat} {f : Nat → Bool} (h : bl N L lo hi x n f) (X : List (Option Blk)) : bl N (L ++ X) lo hi x n f := by
  rcases h with h | ⟨h0, b, h1, h2, h3, h4⟩
  · exact .inl h
  · exact .inr ⟨h0, b, h1, h2, h3, Heap.get_some_append h4⟩
theorem bl.set {N : Nat} {L : Heap} {lo hi : Nat} {x : AV} {n : Nat} {f : Nat → Bool} (h : bl N L lo hi x n f) {b' : Nat} {y : Option Blk} (hb : b' < L.length) (hne : hi ≤ b' ∨ (Heap.get L b').map (·.e) ≠ some 4) : bl N (List.set L b' y) lo hi x n f := by
  rcases h with h | ⟨h0, b, h1, h2, h3, h4⟩
  · exact .inl h
  · refine .inr ⟨h0, b, h1, h2, h3, ?_⟩
    rw [Heap.get_set _ _ _ _ hb, if_neg, h4]
    intro e
    subst e
    rcases hne with h | h
    · omega
    · rw [h4] at h; exact h rfl
/-- the list of the lists that were made -/
def LL (N : Nat) (L : Heap) (B : Nat) (l : AV) (i : Nat) (es : List AV) (m : Nat → Nat) (g : Nat → Nat → Bool) : Prop :=
  es.length = i ∧ B ≤ L.length ∧ ((i = 0 ∧ l = .nils) ∨ (0 < i ∧ ∃ a, a < B ∧ l = .own (N + a) i [] 0 i .leaf ∧ Heap.get L a = lsB i es)) ∧ ∀ t, t < i → bl N L 0 B (es.getD t .un) (m t) (g t)
theorem LL.push {N : Nat} {L : Heap} {B : Nat} {l : AV} {i : Nat} {es : List AV} {m : Nat → Nat} {g : Nat → Nat → Bool} (h : LL N L B l i es m g) (X : List (Option Blk)) : LL N (L ++ X) B l i es m g := by
  obtain ⟨h1, h2, h3, h4⟩ := h
  refine ⟨h1, by simp; omega, ?_, fun t ht => (h4 t ht).push X⟩
  rcases h3 with h | ⟨h0, a, g1, g2, g3⟩
  · exact .inl h
  · exact .inr ⟨h0, a, g1, g2, Heap.get_some_append g3⟩
theorem LL.set {N : Nat} {L : Heap} {B : Nat} {l : AV} {i : Nat} {es : List AV} {m : Nat → Nat} {g : Nat → Nat → Bool} (h : LL N L B l i es m g) {b : Nat} {y : Option Blk} (hb : B ≤ b) (hb2 : b < L.length) : LL N (List.set L b y) B l i es m g := by
  obtain ⟨h1, h2, h3, h4⟩ := h
  refine ⟨h1, by simp; omega, ?_, fun t ht => (h4 t ht).set hb2 (.inl hb)⟩
  rcases h3 with h | ⟨h0, a, g1, g2, g3⟩
  · exact .inl h
  · exact .inr ⟨h0, a, g1, g2, by rw [Heap.get_set _ _ _ _ hb2, if_neg (by omega), g3]⟩
theorem boL_succ {n : Nat} {f : Nat → Bool} : ((List.range n).map fun j => AV.bool (f j)) ++ [.bool (f n)] = (List.range (n + 1)).map fun j => .bool (f j) := by simp [List.range_succ]
/-- one more truth: the list's first -/
theorem bl_new {N : Nat} {L : Heap} {lo : Nat} {f : Nat → Bool} {v : Bool} (hv : f 0 = v) (hlo : lo ≤ L.length) (x0 : Option Blk) :
    bl N (L ++ [x0, some ⟨4, 1, true, .arr 1 .leaf, .agg [.bool v]⟩]) lo (L.length + 2) (.own (N + (L.length + 1)) 1 [] 0 1 .leaf) 1 f := by
  refine .inr ⟨by omega, L.length + 1, by omega, by omega, rfl, ?_⟩
  rw [hget_k, ← hv]
  rfl
theorem bl_app {N : Nat} {L : Heap} {lo b j : Nat} {f : Nat → Bool} {v : Bool} (hv : f j = v) (h1 : lo ≤ b) (h2 : b < L.length) (X : List (Option Blk)) :
    bl N (List.set L b (some ⟨4, j + 1, true, .arr (j + 1) .leaf, .agg (((List.range j).map fun j => .bool (f j)) ++ [.bool v])⟩) ++ X) lo (List.set L b (some ⟨4, j + 1, true, .arr (j + 1) .leaf, .agg (((List.range j).map fun j => .bool (f j)) ++ [.bool v])⟩) ++ X).length (.own (N + b) (j + 1) [] 0 (j + 1) .leaf) (j + 1) f := by
  refine .inr ⟨by omega, b, h1, by simp; omega, rfl, ?_⟩
  rw [Heap.get_append _ _ _ (by rw [List.length_set]; exact h2), Heap.get_set _ _ _ _ h2, if_pos rfl, ← hv, boL_succ]
  rfl
theorem lsE_at {es : List AV} {c : AV} {t : Nat} (h : t < es.length) : (es ++ [c]).getD t .un = es.getD t .un := by
  rw [List.getD_eq_getElem?_getD, List.getElem?_append_left h, List.getD_eq_getElem?_getD]
theorem lsE_end {es : List AV} {c : AV} : (es ++ [c]).getD es.length .un = c := by simp
/-- one list more -/
theorem LL.snoc {N : Nat} {L L' : Heap} {B B' : Nat} {l l' c : AV} {i : Nat} {es : List AV} {m : Nat → Nat} {g : Nat → Nat → Bool} (h : LL N L B l i es m g) (hc : bl N L' 0 B' c (m i) (g i)) (hB : B ≤ B') (hB' : B' ≤ L'.length)
    (hl : ∃ a, a < B' ∧ l' = .own (N + a) (i + 1) [] 0 (i + 1) .leaf ∧ Heap.get L' a = lsB (i + 1) (es ++ [c])) (hk : ∀ t, t < i → bl N L' 0 B (es.getD t .un) (m t) (g t)) : LL N L' B' l' (i + 1) (es ++ [c]) m g := by
  obtain ⟨h1, h2, h3, h4⟩ := h
  refine ⟨by simp [h1], hB', .inr ⟨by omega, hl⟩, fun t ht => ?_⟩
  by_cases e : t < i
  · rw [lsE_at (by omega)]
    exact (hk t e).mono hB
  · have : t = es.length := by omega
    subst this
    rw [lsE_end, h1]
    exact hc

theorem bl_cell {N : Nat} {L : Heap} {lo hi : Nat} {x : AV} {n : Nat} {f : Nat → Bool} (h : bl N L lo hi x n f) : x.isCell = true := by
  rcases h with ⟨_, rfl⟩ | ⟨_, b, _, _, rfl, _⟩ <;> rfl
theorem cell_m {x : AV} : x.isCell = true → (match x with | AV.agg ps => false | AV.tup ps => false | AV.un => false | x => true) = true := fun h => h
theorem LL.fin_nil {N : Nat} {L : Heap} {B : Nat} {l c : AV} {es : List AV} {m : Nat → Nat} {g : Nat → Nat → Bool} (h : LL N L B l 0 es m g) (hc : bl N L B L.length c (m 0) (g 0)) (x0 : Option Blk) :
    LL N (L ++ [x0, some ⟨75, 1, true, .arr 1 .leaf, .agg [c]⟩]) (L.length + 2) (.own (N + (L.length + 1)) 1 [] 0 1 .leaf) 1 (es ++ [c]) m g := by
  have hes : es = [] := List.eq_nil_of_length_eq_zero h.1
  refine h.snoc ((hc.push _).mono (by omega)) (by have := h.2.1; omega) (by simp) ⟨L.length + 1, by omega, rfl, ?_⟩ fun t ht => absurd ht (Nat.not_lt_zero t)
  rw [hget_k, hes]
  rfl
theorem LL.fin_own {N : Nat} {L : Heap} {B i a : Nat} {l c : AV} {es : List AV} {m : Nat → Nat} {g : Nat → Nat → Bool} (h : LL N L B l i es m g) (ha : a < B) (hg : Heap.get L a = lsB i es) (hc : bl N L B L.length c (m i) (g i)) (X : List (Option Blk)) :
    LL N (List.set L a (lsB (i + 1) (es ++ [c])) ++ X) (L.length + X.length) (.own (N + a) (i + 1) [] 0 (i + 1) .leaf) (i + 1) (es ++ [c]) m g := by
  have hB := h.2.1
  have hne : (Heap.get L a).map (·.e) ≠ some 4 := by rw [hg]; simp [lsB]
  refine h.snoc (((hc.set (by omega) (.inr hne)).push _).mono (by omega)) (by omega) (by simp) ⟨a, by omega, rfl, ?_⟩ fun t ht => ((h.2.2.2 t ht).set (by omega) (.inr hne)).push _
  rw [Heap.get_append _ _ _ (by rw [List.length_set]; omega), Heap.get_set _ _ _ _ (by omega), if_pos rfl]
/-- the columns of truths that the law makes -/
def oL (od : BitVec 8) (m i : Nat) : Nat := if i = od.toNat then m + 1 else m
def oG (sd : List Bool) (m i j : Nat) : Bool := if j < m then bfn sd ((i * m + j * j) % sd.length) else true
def I13a (sd : List Bool) (nn cc od : BitVec 8) (k m : Nat) (H : Heap) (κ : Nat) (st : St) : Prop :=
  ∃ (i : Nat) (l c u10 u18 u19 u20 : AV) (es : List AV) (B : Nat) (L : Heap), st = ⟨[.ro .leaf (sd.map .bool), .u8 nn, .u8 cc, .u8 od, .bool false, l, .int (k : Int), .int (m : Int), .int (i : Int), c, u10, .un, .un, .un, .un, .un, .un, .bool false, u18, u19, u20, .un, .un, .un, .un, .un], H ++ L⟩ ∧ κ = k - i ∧ i ≤ k ∧
    LL H.length L B l i es (oL od m) (oG sd m)
def I13b (sd : List Bool) (nn cc od : BitVec 8) (k m i : Nat) (l : AV) (es : List AV) (B : Nat) (u20 : AV) (H : Heap) (κ : Nat) (st : St) : Prop :=
  ∃ (j : Nat) (c u19 : AV) (L : Heap), st = ⟨[.ro .leaf (sd.map .bool), .u8 nn, .u8 cc, .u8 od, .bool false, l, .int (k : Int), .int (m : Int), .int (i : Int), c, .int (j : Int), .un, .un, .un, .un, .un, .un, .bool false, .bool true, u19, u20, .un, .un, .un, .un, .un], H ++ L⟩ ∧ κ = m - j ∧ j ≤ m ∧
    LL H.length L B l i es (oL od m) (oG sd m) ∧ bl H.length L B L.length c j (oG sd m i)
theorem bl.dem {L H : Heap} {lo hi : Nat} {x : AV} {n : Nat} {f : Nat → Bool} (h : bl H.length L lo hi x n f) {M d : Nat} : demK (fun b => decide (b < H.length)) M (H ++ L) (d + 2) x = some (bel n f) := by
  unfold bel
  rcases h with ⟨rfl, rfl⟩ | ⟨h0, b, h1, h2, rfl, h4⟩
  · rfl
  · rw [if_neg (by omega), demK_own, if_neg (by simp; omega)]
    have hr : rd (H ++ L) (.own (H.length + b) n [] 0 n .leaf) = some ((List.range n).map fun j => .bool (f j)) := by
      unfold rd
      simp only [hget_k, h4, boB, if_true, getP, List.drop_zero]
      rw [List.take_of_length_le (by simp)]
    rw [hr]
    simp only
    rw [mapO_bool]
    rfl
theorem LL.dem {L H : Heap} {B : Nat} {l : AV} {i : Nat} {es : List AV} {m : Nat → Nat} {g : Nat → Nat → Bool} (h : LL H.length L B l i es m g) (hi : 0 < i) {M d : Nat} : demK (fun b => decide (b < H.length)) M (H ++ L) (d + 3) l = some (.ro .leaf (teL m g i)) := by
  obtain ⟨h1, h2, h3, h4⟩ := h
  rcases h3 with ⟨h, _⟩ | ⟨h0, a, g1, rfl, g3⟩
  · omega
  · rw [demK_own, if_neg (by simp; omega)]
    have hr : rd (H ++ L) (.own (H.length + a) i [] 0 i .leaf) = some es := by
      unfold rd
      simp only [hget_k, g3, lsB, if_true, getP, List.drop_zero]
      rw [List.take_of_length_le (by omega)]
    rw [hr]
    simp only
    rw [mapO_ext (ys := teL m g i) (by rw [h1, teL_len]) fun t ht => (by rw [teL_get (by omega)]; exact (h4 t (by omega)).dem)]
    rfl
def I13c (sd : List Bool) (nn cc od : BitVec 8) (m : Nat) (x y : Nat → BitVec 64) (S : List (BitVec 8)) (G : Heap) (κ : Nat) (st : St) : Prop :=
  ∃ (j : Nat) (u16 u23 u24 u25 : AV), st = ⟨[.ro .leaf (sd.map .bool), .u8 nn, .u8 cc, .u8 od, .bool false, .ro .leaf (teL (oL od m) (oG sd m) 128), .int 128, .int (m : Int), .int 128, .un, .un, .ro (.arr 2 .leaf) (rwA x y m), .int 0, .str S, .int 0, .int (j : Int), u16, .bool false, .un, .un, .un, .bool false, .bool false, u23, u24, u25], G⟩ ∧ κ = m - j ∧ j ≤ m
def I13d (sd : List Bool) (nn cc od : BitVec 8) (m : Nat) (x y : Nat → BitVec 64) (S : List (BitVec 8)) (G : Heap) (j : Nat) (κ : Nat) (st : St) : Prop :=
  ∃ (q : Nat) (u24 u25 : AV), st = ⟨[.ro .leaf (sd.map .bool), .u8 nn, .u8 cc, .u8 od, .bool false, .ro .leaf (teL (oL od m) (oG sd m) 128), .int 128, .int (m : Int), .int 128, .un, .un, .ro (.arr 2 .leaf) (rwA x y m), .int 0, .str S, .int 0, .int (j : Int), .int (q : Int), .bool false, .un, .un, .un, .bool false, .bool false, .bool true, u24, u25], G⟩ ∧ κ = 128 - q ∧ q ≤ 128
theorem f13 {K : AV → Heap → Prop} {H : Heap} {sd : List Bool} {nn cc od : BitVec 8} (h : K (.bool true) H) : wpF P [] 13 [.ro .leaf (sd.map .bool), .u8 nn, .u8 cc, .u8 od] H K := by
  refine wpF_goW c13 rfl 3 ?_
  intro ha hb
  simp only [s13]
  clear ha hb
  refine WPS_seqS ?_
  (refine gw2 @thenQ_n @thenQ_r ?_; try exact True.intro)
  refine WPS_seqS ?_
  by_cases h6 : 600 < sd.length
  · have h1 : ((600 : Int) < (sd.length : Int)) = True := by simp only [eq_iff_iff, iff_true]; omega
    (refine gw3 @thenQ_n @thenQ_r @h1 ?_; try exact True.intro)
    refine f36 ?_
    (refine gw2 @thenQ_n @thenQ_r ?_; try exact True.intro)
    exact h
  have h1 : ((600 : Int) < (sd.length : Int)) = False := by simp only [eq_iff_iff, iff_false]; omega
  by_cases h0 : sd.length = 0
  · have h2 : ((sd.length : Int) = 0) = True := by simp only [eq_iff_iff, iff_true]; omega
    (refine gw4 @thenQ_n @thenQ_r @h1 @h2 ?_; try exact True.intro)
    refine f36 ?_
    (refine gw2 @thenQ_n @thenQ_r ?_; try exact True.intro)
    exact h
  have h2 : ((sd.length : Int) = 0) = False := by simp only [eq_iff_iff, iff_false]; omega
  (refine gw4 @thenQ_n @thenQ_r @h1 @h2 ?_; try exact True.intro)
  refine WPS_seqS ?_
  (refine gw2 @thenQ_n @thenQ_r ?_; try exact True.intro)
  refine WPS_seqS ?_
  have hc16 : (cc % 16).toNat < 16 := by rw [BitVec.toNat_umod]; exact Nat.mod_lt _ (by decide)
  have e120 : 120 + ((cc % 16).toNat : Int) = ((120 + (cc % 16).toNat : Nat) : Int) := by omega
  obtain ⟨k, hk⟩ : ∃ k, 120 + (cc % 16).toNat = k := ⟨_, rfl⟩
  rw [hk] at e120
  (refine gw3 @thenQ_n @thenQ_r @e120 ?_; try exact True.intro)
  refine ⟨by decide, by omega, by omega, ?_⟩
  refine WPS_seqS ?_
  have em := tmod_nat nn.toNat 150 (by omega)
  have hm : nn.toNat % 150 < 150 := Nat.mod_lt _ (by omega)
  generalize nn.toNat % 150 = m at em hm
  have em' : Int.tmod (nn.toNat : Int) 150 = (m : Int) := em
  (refine gw3 @thenQ_n @thenQ_r @em' ?_; try exact True.intro)
  (repeat (refine And.intro (by omega) ?_))
  refine WPS_seqS ?_
  (refine gw2 @thenQ_n @thenQ_r ?_; try exact True.intro)
  refine wp_inv (I13a sd nn cc od k m H) k ⟨0, _, _, _, _, _, _, [], 0, [], by rw [List.append_nil]; rfl, rfl, by omega, rfl, by simp, .inl ⟨rfl, rfl⟩, fun t ht => absurd ht (Nat.not_lt_zero t)⟩ ?_
  rintro κ st ⟨i, l, c, u10, u18, u19, u20, es, B, L, rfl, rfl, hi, hL⟩
  by_cases hik : i < k
  · have h3 : ((i : Int) < (k : Int)) = True := by simp only [eq_iff_iff, iff_true]; omega
    (refine gw1 @h3 ?_; try exact True.intro)
    refine wp_inv (I13b sd nn cc od k m i l es B u20 H) m ⟨0, .nils, _, L, rfl, rfl, by omega, hL, .inl ⟨rfl, rfl⟩⟩ ?_
    clear hL
    rintro κ st ⟨j, c, u19, L, rfl, rfl, hj, hL, hc⟩
    have hBL := hL.2.1
    by_cases hjm : j < m
    · have h4 : ((j : Int) < (m : Int)) = True := by simp only [eq_iff_iff, iff_true]; omega
      have e1 : (i : Int) * (m : Int) = ((i * m : Nat) : Int) := by simp
      have e2 : (j : Int) * (j : Int) = ((j * j : Nat) : Int) := by simp
      have e3 : ((i * m : Nat) : Int) + ((j * j : Nat) : Int) = ((i * m + j * j : Nat) : Int) := by simp
      have e4 := tmod_nat (i * m + j * j) sd.length (by omega)
      have b1 : i * m ≤ 135 * 150 := Nat.mul_le_mul (by omega) (by omega)
      have b2 : j * j ≤ 150 * 150 := Nat.mul_le_mul (by omega) (by omega)
      have hx : (i * m + j * j) % sd.length < sd.length := Nat.mod_lt _ (by omega)
      have hgv : oG sd m i j = bfn sd ((i * m + j * j) % sd.length) := by unfold oG; rw [if_pos hjm]
      have gl := ld_bfn hx
      rw [← hgv] at gl
      generalize (i * m + j * j) % sd.length = x at *
      generalize i * m = im at *
      generalize j * j = jj at *
      rcases hc with ⟨hj0, rfl⟩ | ⟨hj0, b, hb1, hb2, rfl, hgb⟩
      · (refine gw7 @h4 @e1 @e2 @e3 @e4 @gl @h2 ?_; try exact True.intro)
        (repeat (refine And.intro (by omega) ?_))
        subst hj0
        exact ⟨m - 1, by omega, 1, _, _, _, rfl, rfl, by omega, hL.push _, by have := bl_new (N := H.length) (L := L) (lo := B) (f := oG sd m i) rfl hBL (some ⟨4, 0, true, .arr 1 .leaf, .agg [.bool (oG sd m i 0)]⟩); simpa using this⟩
      · have gb : ∀ X : List (Option Blk), Heap.get (L ++ X) b = boB j ((List.range j).map fun j => .bool (oG sd m i j)) := fun X => Heap.get_some_append hgb
        have sb : ∀ (X : List (Option Blk)) y, List.set (L ++ X) b y = List.set L b y ++ X := fun X y => List.set_append_left _ _ hb2
        unfold boB at gb
        (refine gw9 @h4 @e1 @e2 @e3 @e4 @gl @h2 @gb @sb ?_; try exact True.intro)
        (repeat (refine And.intro (by omega) ?_))
        exact ⟨m - (j + 1), by omega, j + 1, _, _, _, rfl, rfl, by omega, (hL.set hb1 hb2).push _, bl_app rfl hb1 hb2 _⟩
    · have h4 : ((j : Int) < (m : Int)) = False := by simp only [eq_iff_iff, iff_false]; omega
      have hjm' : j = m := by omega
      subst hjm'
      have hgt : oG sd j i j = true := by unfold oG; rw [if_neg (by omega)]
      have hin : i = 0 → (0 : Int) = (i : Int) := fun h => by rw [h]; rfl
      rcases hL.2.2.1 with ⟨hi0, rfl⟩ | ⟨hi0, a, ha1, rfl, hga⟩
      · subst hi0
        by_cases ho : 0 = od.toNat
        · have h5 : ((0 : Int) = (od.toNat : Int)) = True := by rw [show ((od.toNat : Nat) : Int) = ((0 : Nat) : Int) by rw [ho]]; simp
          have hol : oL od j 0 = j + 1 := if_pos ho
          rcases hc with ⟨hj0, rfl⟩ | ⟨hj0, b, hb1, hb2, rfl, hgb⟩
          · subst hj0
            have hcc := bl_new (N := H.length) (L := L) (lo := B) (f := oG sd 0 0) (v := true) hgt hBL (some ⟨4, 0, true, .arr 1 .leaf, .agg [.bool true]⟩)
            have hLp := hL.push ([some ⟨4, 0, true, .arr 1 .leaf, .agg [.bool true]⟩, some ⟨4, 1, true, .arr 1 .leaf, .agg [.bool true]⟩] : List (Option Blk))
            have hcc2 : bl H.length (L ++ ([some ⟨4, 0, true, .arr 1 .leaf, .agg [.bool true]⟩, some ⟨4, 1, true, .arr 1 .leaf, .agg [.bool true]⟩] : List (Option Blk))) B (L ++ ([some ⟨4, 0, true, .arr 1 .leaf, .agg [.bool true]⟩, some ⟨4, 1, true, .arr 1 .leaf, .agg [.bool true]⟩] : List (Option Blk))).length (.own (H.length + (L.length + 1)) 1 [] 0 1 .leaf) (oL od 0 0) (oG sd 0 0) := by rw [hol]; exact hcc.mono2 (by simp)
            have hfin := hLp.fin_nil hcc2 (some ⟨75, 0, true, .arr 1 .leaf, .agg [.own (H.length + (L.length + 1)) 1 [] 0 1 .leaf]⟩)
            simp only [List.length_append, List.length_cons, List.length_nil, List.append_assoc, List.cons_append, List.nil_append] at hfin
            (refine gw2 @h4 @h5 ?_; try exact True.intro)
            (repeat (refine And.intro (by omega) ?_))
            exact ⟨k - 1, by omega, 1, _, _, _, _, _, _, _, _, _, rfl, rfl, by omega, hfin⟩
          · have gb : ∀ X : List (Option Blk), Heap.get (L ++ X) b = boB j ((List.range j).map fun q => .bool (oG sd j 0 q)) := fun X => Heap.get_some_append hgb
            have sb : ∀ (X : List (Option Blk)) y, List.set (L ++ X) b y = List.set L b y ++ X := fun X y => List.set_append_left _ _ hb2
            unfold boB at gb
            have hcc := bl_app (N := H.length) (f := oG sd j 0) (v := true) hgt hb1 hb2 [some ⟨4, 0, true, .arr 1 .leaf, .agg [.bool true]⟩]
            have hLp := (hL.set (y := (some ⟨4, j + 1, true, .arr (j + 1) .leaf, .agg (((List.range j).map fun q => .bool (oG sd j 0 q)) ++ [.bool true])⟩)) hb1 hb2).push [some ⟨4, 0, true, .arr 1 .leaf, .agg [.bool true]⟩]
            have hln : (List.set L b (some ⟨4, j + 1, true, .arr (j + 1) .leaf, .agg (((List.range j).map fun q => .bool (oG sd j 0 q)) ++ [.bool true])⟩)).length = L.length := List.length_set ..
            generalize hL2 : List.set L b (some ⟨4, j + 1, true, .arr (j + 1) .leaf, .agg (((List.range j).map fun q => .bool (oG sd j 0 q)) ++ [.bool true])⟩) = L2 at *
            have hcc2 : bl H.length (L2 ++ ([some ⟨4, 0, true, .arr 1 .leaf, .agg [.bool true]⟩] : List (Option Blk))) B (L2 ++ ([some ⟨4, 0, true, .arr 1 .leaf, .agg [.bool true]⟩] : List (Option Blk))).length (.own (H.length + b) (j + 1) [] 0 (j + 1) .leaf) (oL od j 0) (oG sd j 0) := by rw [hol]; exact hcc
            have hfin := hLp.fin_nil hcc2 (some ⟨75, 0, true, .arr 1 .leaf, .agg [.own (H.length + b) (j + 1) [] 0 (j + 1) .leaf]⟩)
            simp only [List.length_append, List.length_cons, List.length_nil, List.append_assoc, List.cons_append, List.nil_append, hol] at hfin
            (refine gw5 @h4 @h5 @gb @sb @hL2 ?_; try exact True.intro)
            (repeat (refine And.intro (by omega) ?_))
            exact ⟨k - 1, by omega, 1, _, _, _, _, _, _, _, _, _, rfl, rfl, by omega, hfin⟩
        · have h5 : ((0 : Int) = (od.toNat : Int)) = False := by simp only [eq_iff_iff, iff_false]; omega
          have hol : oL od j 0 = j := if_neg ho
          have hcc : bl H.length L B L.length c (oL od j 0) (oG sd j 0) := by rw [hol]; exact hc
          have hce2 := cell_m (bl_cell hc)
          have hfin := hL.fin_nil hcc (some ⟨75, 0, true, .arr 1 .leaf, .agg [c]⟩)
          (refine gw2 @h4 @h5 ?_; try exact True.intro)
          refine ⟨hce2, hce2, ?_⟩
          (repeat (refine And.intro (by omega) ?_))
          exact ⟨k - 1, by omega, 1, _, _, _, _, _, _, _, _, _, rfl, rfl, by omega, hfin⟩
      · have ga : ∀ X : List (Option Blk), Heap.get (L ++ X) a = lsB i es := fun X => Heap.get_some_append hga
        have sa : ∀ (X : List (Option Blk)) y, List.set (L ++ X) a y = List.set L a y ++ X := fun X y => List.set_append_left _ _ (by omega)
        unfold lsB at ga
        by_cases ho : i = od.toNat
        · have h5 : ((i : Int) = (od.toNat : Int)) = True := by rw [show ((od.toNat : Nat) : Int) = ((i : Nat) : Int) by rw [ho]]; simp
          have hol : oL od j i = j + 1 := if_pos ho
          rcases hc with ⟨hj0, rfl⟩ | ⟨hj0, b, hb1, hb2, rfl, hgb⟩
          · subst hj0
            have hcc := bl_new (N := H.length) (L := L) (lo := B) (f := oG sd 0 i) (v := true) hgt hBL (some ⟨4, 0, true, .arr 1 .leaf, .agg [.bool true]⟩)
            have hLp := hL.push ([some ⟨4, 0, true, .arr 1 .leaf, .agg [.bool true]⟩, some ⟨4, 1, true, .arr 1 .leaf, .agg [.bool true]⟩] : List (Option Blk))
            have hcc2 : bl H.length (L ++ ([some ⟨4, 0, true, .arr 1 .leaf, .agg [.bool true]⟩, some ⟨4, 1, true, .arr 1 .leaf, .agg [.bool true]⟩] : List (Option Blk))) B (L ++ ([some ⟨4, 0, true, .arr 1 .leaf, .agg [.bool true]⟩, some ⟨4, 1, true, .arr 1 .leaf, .agg [.bool true]⟩] : List (Option Blk))).length (.own (H.length + (L.length + 1)) 1 [] 0 1 .leaf) (oL od 0 i) (oG sd 0 i) := by rw [hol]; exact hcc.mono2 (by simp)
            have hfin := hLp.fin_own ha1 (ga _) hcc2 [some ⟨75, 0, true, .arr 1 .leaf, .agg [.own (H.length + (L.length + 1)) 1 [] 0 1 .leaf]⟩]
            rw [sa] at hfin
            unfold lsB at hfin
            simp only [List.length_append, List.length_cons, List.length_nil, List.append_assoc, List.cons_append, List.nil_append] at hfin
            (refine gw4 @h4 @h5 @ga @sa ?_; try exact True.intro)
            (repeat (refine And.intro (by omega) ?_))
            exact ⟨k - (i + 1), by omega, i + 1, _, _, _, _, _, _, _, _, _, rfl, rfl, by omega, hfin⟩
          · have gb : ∀ X : List (Option Blk), Heap.get (L ++ X) b = boB j ((List.range j).map fun q => .bool (oG sd j i q)) := fun X => Heap.get_some_append hgb
            have sb : ∀ (X : List (Option Blk)) y, List.set (L ++ X) b y = List.set L b y ++ X := fun X y => List.set_append_left _ _ hb2
            unfold boB at gb
            have hcc := bl_app (N := H.length) (f := oG sd j i) (v := true) hgt hb1 hb2 [some ⟨4, 0, true, .arr 1 .leaf, .agg [.bool true]⟩]
            have hLp := (hL.set (y := (some ⟨4, j + 1, true, .arr (j + 1) .leaf, .agg (((List.range j).map fun q => .bool (oG sd j i q)) ++ [.bool true])⟩)) hb1 hb2).push [some ⟨4, 0, true, .arr 1 .leaf, .agg [.bool true]⟩]
            have hln : (List.set L b (some ⟨4, j + 1, true, .arr (j + 1) .leaf, .agg (((List.range j).map fun q => .bool (oG sd j i q)) ++ [.bool true])⟩)).length = L.length := List.length_set ..
            generalize hL2 : List.set L b (some ⟨4, j + 1, true, .arr (j + 1) .leaf, .agg (((List.range j).map fun q => .bool (oG sd j i q)) ++ [.bool true])⟩) = L2 at *
            have hcc2 : bl H.length (L2 ++ ([some ⟨4, 0, true, .arr 1 .leaf, .agg [.bool true]⟩] : List (Option Blk))) B (L2 ++ ([some ⟨4, 0, true, .arr 1 .leaf, .agg [.bool true]⟩] : List (Option Blk))).length (.own (H.length + b) (j + 1) [] 0 (j + 1) .leaf) (oL od j i) (oG sd j i) := by rw [hol]; exact hcc
            have ga2 : ∀ X : List (Option Blk), Heap.get (L2 ++ X) a = lsB i es := fun X => by rw [← hL2]; refine Heap.get_some_append ?_; rw [Heap.get_set _ _ _ _ hb2, if_neg (by omega), hga]; rfl
            have sa2 : ∀ (X : List (Option Blk)) y, List.set (L2 ++ X) a y = List.set L2 a y ++ X := fun X y => List.set_append_left _ _ (by omega)
            have hfin := hLp.fin_own ha1 (ga2 _) hcc2 [some ⟨75, 0, true, .arr 1 .leaf, .agg [.own (H.length + b) (j + 1) [] 0 (j + 1) .leaf]⟩]
            rw [sa2] at hfin
            unfold lsB at hfin ga2
            simp only [List.length_append, List.length_cons, List.length_nil, List.append_assoc, List.cons_append, List.nil_append, hol] at hfin
            (refine gw7 @h4 @h5 @gb @sb @hL2 @ga2 @sa2 ?_; try exact True.intro)
            (repeat (refine And.intro (by omega) ?_))
            exact ⟨k - (i + 1), by omega, i + 1, _, _, _, _, _, _, _, _, _, rfl, rfl, by omega, hfin⟩
        · have h5 : ((i : Int) = (od.toNat : Int)) = False := by simp only [eq_iff_iff, iff_false]; omega
          have hol : oL od j i = j := if_neg ho
          have hcc : bl H.length L B L.length c (oL od j i) (oG sd j i) := by rw [hol]; exact hc
          have hce2 := cell_m (bl_cell hc)
          have hfin := hL.fin_own ha1 hga hcc [some ⟨75, 0, true, .arr 1 .leaf, .agg [c]⟩]
          unfold lsB at hfin
          (refine gw4 @h4 @h5 @ga @sa ?_; try exact True.intro)
          refine ⟨hce2, hce2, ?_⟩
          (repeat (refine And.intro (by omega) ?_))
          exact ⟨k - (i + 1), by omega, i + 1, _, _, _, _, _, _, _, _, _, rfl, rfl, by omega, hfin⟩
  · have h3 : ((i : Int) < (k : Int)) = False := by simp only [eq_iff_iff, iff_false]; omega
    have hie : i = k := by omega
    subst hie
    (refine gw2 @h3 @thenQ_n ?_; try exact True.intro)
    refine WPS_forget [false, false, false, false, false, false, false, false, false, true, true, false, false, false, false, false, false, false, true, true, true] ?_
    simp only [fgt]
    refine WPS_freeze (fun b => decide (b < H.length)) 4 (env' := [.ro .leaf (sd.map .bool), .u8 nn, .u8 cc, .u8 od, .bool false, .ro .leaf (teL (oL od m) (oG sd m) i), .int (i : Int), .int (m : Int), .int (i : Int), .un, .un, .un, .un, .un, .un, .un, .un, .bool false, .un, .un, .un, .un, .un, .un, .un, .un]) ?_ ?_
    · have hd := hL.dem (by omega) (M := (H ++ L).length) (d := 1)
      simp only [mapO, hd, demK_ro, bnds_bool', demK_u8, demK_bool, demK_int, demK_un, if_true]
    rw [kill_own]
    refine wpS_ok ?_
    have hmL : ∀ t, oL od m t ≤ 1000 := fun t => by unfold oL; split <;> omega
    have hod := od.isLt
    generalize List.replicate L.length none = Z
    generalize hA : AV.ro Shape.leaf (teL (oL od m) (oG sd m) i) = A
    (refine gw0 ?_; try exact True.intro)
    rw [← hA]
    refine f50 hmL (by omega) (by omega) ?_
    by_cases hk8 : i = 128
    · subst hk8
      by_cases ho : od.toNat < 128
      · have hbad : ∃ t, t < 128 ∧ oL od m t ≠ oL od m 0 := by
          by_cases h00 : od.toNat = 0
          · exact ⟨1, by omega, by unfold oL; rw [if_neg (by omega), if_pos h00.symm]; omega⟩
          · exact ⟨od.toNat, ho, by unfold oL; rw [if_pos rfl, if_neg (by omega)]; omega⟩
        (refine gw0 ?_; try exact True.intro)
        refine f41 (m := oL od m) (fun t => by have := hmL t; omega) (fun _ => ?_) (fun hg => absurd hbad (by rintro ⟨t, a, b⟩; exact b (hg t a)))
        (refine gw0 ?_; try exact True.intro)
        refine f50 hmL (by omega) (by omega) ?_
        (refine gw0 ?_; try exact True.intro)
        refine f44 (m := oL od m) (fun t => by have := hmL t; omega) (fun _ => ?_) (fun hg => absurd hbad (by rintro ⟨t, a, b⟩; exact b (hg t a)))
        have h7 : ((od.toNat : Int) < 128) = True := by simp only [eq_iff_iff, iff_true]; omega
        (refine gw1 @h7 ?_; try exact True.intro)
        refine f36 ?_
        (refine gw0 ?_; try exact True.intro)
        exact h
      · have h7 : ((od.toNat : Int) < 128) = False := by simp only [eq_iff_iff, iff_false]; omega
        have hmm : ∀ t, t < 128 → oL od m t = m := fun t ht => if_neg (by omega)
        have hm0 : oL od m 0 = m := hmm 0 (by omega)
        have hgd : ∀ t, t < 128 → oL od m t = oL od m 0 := fun t ht => by rw [hmm t ht, hm0]
        (refine gw0 ?_; try exact True.intro)
        refine f41 (m := oL od m) (fun t => by have := hmL t; omega) (fun hx => absurd hx (by rintro ⟨t, a, b⟩; exact b (hgd t a))) (fun _ => ?_)
        rw [hm0]
        generalize hX : (fun j => wd (fun b => cut (oL od m (64 * 0 + b)) (oG sd m (64 * 0 + b)) j) 0) = x
        generalize hY : (fun j => wd (fun b => cut (oL od m (64 * 1 + b)) (oG sd m (64 * 1 + b)) j) 0) = y
        have hrl := rwA_len (x := x) (y := y) (n := m)
        have hrb : ∀ q j : Nat, q < 128 → j < m → rb (x j) (y j) (q : Int) = oG sd m q j := by
          intro q j hq hj
          by_cases h64 : q < 64
          · rw [rb_lo h64, ← hX]
            simp only []
            rw [wd_bit h64]
            simp only [Nat.mul_zero, Nat.zero_add]
            unfold cut
            rw [hmm q hq, decide_eq_true hj, Bool.true_and]
          · obtain ⟨b, rfl⟩ : ∃ b, q = 64 + b := ⟨q - 64, by omega⟩
            rw [rb_hi (by omega), ← hY]
            simp only []
            rw [wd_bit (by omega)]
            simp only [Nat.mul_zero, Nat.zero_add, Nat.mul_one]
            unfold cut
            rw [hmm (64 + b) hq, decide_eq_true hj, Bool.true_and]
        (refine gw0 ?_; try exact True.intro)
        refine f50 hmL (by omega) (by omega) ?_
        (refine gw0 ?_; try exact True.intro)
        refine f44 (m := oL od m) (fun t => by have := hmL t; omega) (fun hx => absurd hx (by rintro ⟨t, a, b⟩; exact b (hgd t a))) (fun _ => ?_)
        (refine gw2 @h7 @hrl ?_; try exact True.intro)
        refine f51 hmL (by omega) ?_
        (refine gw0 ?_; try exact True.intro)
        clear hX hY hL hA e120 hk h3 hik
        refine wp_inv (I13c sd nn cc od m x y (pkS (oL od m) (fun i => cut (oL od m i) (oG sd m i)) 128) (H ++ Z)) m ⟨0, _, _, _, _, rfl, rfl, by omega⟩ ?_
        rintro κ st ⟨j, u16, u23, u24, u25, rfl, rfl, hj⟩
        by_cases hjm : j < m
        · have h3 : ((j : Int) < (m : Int)) = True := by simp only [eq_iff_iff, iff_true]; omega
          (refine gw1 @h3 ?_; try exact True.intro)
          refine wp_inv (I13d sd nn cc od m x y (pkS (oL od m) (fun i => cut (oL od m i) (oG sd m i)) 128) (H ++ Z) j) 128 ⟨0, _, _, rfl, rfl, by omega⟩ ?_
          rintro κ st ⟨q, u24, u25, rfl, rfl, hq⟩
          by_cases hq8 : q < 128
          · have h4 : ((q : Int) < 128) = True := by simp only [eq_iff_iff, iff_true]; omega
            have gr := rwA_get (x := x) (y := y) hjm
            have gt := teL_get (m := oL od m) (f := oG sd m) hq8
            rw [hmm q hq8] at gt
            unfold bel at gt
            rw [if_neg (by omega)] at gt
            have gb : ((List.range m).map fun i => AV.bool (oG sd m q i)).getD j .un = .bool (oG sd m q j) := ld_rng hjm
            have htl := teL_len (m := oL od m) (f := oG sd m) (t := 128)
            have hbl : ((List.range m).map fun i => AV.bool (oG sd m q i)).length = m := by simp
            (refine gw4 @h4 @h3 @gr @hrl ?_; try exact True.intro)
            refine drawn _ (f18 ⟨rfl, rfl⟩) ?_
            rw [hrb q j hq8 hjm]
            (refine gw6 @gt @gb @htl @hbl @h4 @h3 ?_; try exact True.intro)
            (repeat (refine And.intro (by omega) ?_))
            exact ⟨128 - (q + 1), by omega, q + 1, _, _, rfl, rfl, by omega⟩
          · have h4 : ((q : Int) < 128) = False := by simp only [eq_iff_iff, iff_false]; omega
            have hqe : q = 128 := by omega
            subst hqe
            (refine gw1 @h4 ?_; try exact True.intro)
            (repeat (refine And.intro (by omega) ?_))
            exact ⟨m - (j + 1), by omega, j + 1, _, _, _, _, rfl, rfl, by omega⟩
        · have h3 : ((j : Int) < (m : Int)) = False := by simp only [eq_iff_iff, iff_false]; omega
          (refine gw1 @h3 ?_; try exact True.intro)
          refine f36 ?_
          (refine gw0 ?_; try exact True.intro)
          exact h
    · have h8 : ((i : Int) = 128) = False := by simp only [eq_iff_iff, iff_false]; omega
      (refine gw0 ?_; try exact True.intro)
      refine f41c hk8 ?_
      (refine gw0 ?_; try exact True.intro)
      refine f50 hmL (by omega) (by omega) ?_
      (refine gw0 ?_; try exact True.intro)
      refine f44c hk8 ?_
      (refine gw1 @h8 ?_; try exact True.intro)
      refine f36 ?_
      (refine gw0 ?_; try exact True.intro)
      exact h
end Go.Proofs.Ytebmlmkiblieiaa
