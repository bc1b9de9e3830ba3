/-
  The law BitsReads returns true for all inputs: the bits of all bytes, and where they are none.
-/
import Derived.Test.YtnnopgichjnhdaaXr
import Derived.Test.YtnnopgichjnhdaaV38
open Go Go.V
namespace Go.Proofs.Ytnnopgichjnhdaa
set_option maxRecDepth 100000
set_option linter.unusedSimpArgs false
set_option linter.unusedVariables false
/-- trefoil/trefoillaw02.BitsReads (0:n, 1:s, 2:l, 6:, 7:v, 8:e, 9:w, 10:f, 11:x, 13:y, 14:g, 15:z, 16:h, 24:, 65:) -/
def s7 : FnS := ⟨107, [0, 1, 2, 6, 7, 8, 9, 10, 11, 13, 14, 15, 16, 24, 65],
    (.seq (.reg [⟨.var 3, (.q .mv), [.c (.bool false)], none⟩])
    (.seq (.seq (.reg [⟨.new, (.q .mv), [.t 1], none⟩,
      ⟨.new, (.q .lenS), [.t 15], none⟩,
      ⟨.new, (.q (.bin .gtr)), [.t 16, .c (.int 200)], none⟩,
      ⟨.new, (.q .mv), [.t 17], none⟩,
      ⟨.new, (.q .mv), [.t 2], (some (18, false))⟩,
      ⟨.new, (.q .len), [.t 19], (some (18, false))⟩,
      ⟨.new, (.q (.bin .gtr)), [.t 20, .c (.int 1000)], (some (18, false))⟩,
      ⟨.var 13, (.q .pick), [.t 18, .c (.bool true), .t 21], none⟩])
    (.cond (.t 13) (.seq (.reg [⟨.new, (.call 9), [], none⟩,
      ⟨.var 3, (.q .mv), [.t 15], none⟩])
    .ret)
    .skip))
    (.seq (.reg [⟨.new, (.q .mv), [.t 0], none⟩,
      ⟨.new, (.q .mv), [.t 1], none⟩,
      ⟨.new, (.call 26), [.t 15, .t 16], none⟩,
      ⟨.new, (.q .mv), [.t 17], none⟩,
      ⟨.new, (.q (.ext 0)), [.t 18], none⟩,
      ⟨.new, (.q (.ext 1)), [.t 18], none⟩,
      ⟨.var 4, (.e (.alloc 26 (.st [.leaf, .leaf]) (.agg [(.int 0), .nils]))), [], none⟩,
      ⟨.none, (.e (.store (.st [.leaf, .leaf]))), [.t 4, .t 19], none⟩,
      ⟨.var 5, (.q .mv), [.t 20], none⟩])
    (.seq (.reg [⟨.new, (.q .mv), [.t 0], none⟩,
      ⟨.new, (.q .mv), [.t 1], none⟩,
      ⟨.new, (.call 27), [.t 15, .t 16], none⟩,
      ⟨.new, (.q .mv), [.t 17], none⟩,
      ⟨.new, (.q (.ext 0)), [.t 18], none⟩,
      ⟨.new, (.q (.ext 1)), [.t 18], none⟩,
      ⟨.var 6, (.q .mv), [.t 19], none⟩,
      ⟨.var 7, (.q .mv), [.t 20], none⟩])
    (.seq (.seq (.reg [⟨.new, (.q .mv), [.t 5], none⟩,
      ⟨.new, (.q .mv), [.t 7], none⟩,
      ⟨.new, (.q (.bin .neq)), [.t 15, .t 16], none⟩,
      ⟨.new, (.q .mv), [.t 17], none⟩,
      ⟨.new, (.q .mv), [.t 7], (some (18, false))⟩,
      ⟨.new, (.q (.bin .eql)), [.t 19, .c (.int 0)], (some (18, false))⟩,
      ⟨.new, (.q .mv), [.t 20], (some (18, false))⟩,
      ⟨.new, (.q (.ld (.st [.leaf, .leaf]))), [.t 4], (some (21, true))⟩,
      ⟨.new, (.q .mv), [.t 6], (some (21, true))⟩,
      ⟨.new, (.call 11), [.t 22, .t 23], (some (21, true))⟩,
      ⟨.new, (.q (.un .not)), [.t 24], (some (21, true))⟩,
      ⟨.new, (.q .mv), [.t 25], (some (21, true))⟩,
      ⟨.new, (.q (.ld (.st [.leaf, .leaf]))), [.t 4], (some (26, false))⟩,
      ⟨.new, (.call 28), [.t 27], (some (26, false))⟩,
      ⟨.new, (.q .mv), [.t 1], (some (26, false))⟩,
      ⟨.new, (.q (.bin .neq)), [.t 28, .t 29], (some (26, false))⟩,
      ⟨.new, (.q .pick), [.t 26, .c (.bool true), .t 30], (some (21, true))⟩,
      ⟨.new, (.q .pick), [.t 21, .t 31, .c (.bool false)], (some (18, false))⟩,
      ⟨.new, (.q .pick), [.t 18, .c (.bool true), .t 32], none⟩,
      ⟨.new, (.q .mv), [.t 33], none⟩,
      ⟨.new, (.q .mv), [.t 7], (some (34, false))⟩,
      ⟨.new, (.q (.bin .neq)), [.t 35, .c (.int 0)], (some (34, false))⟩,
      ⟨.new, (.q .mv), [.t 36], (some (34, false))⟩,
      ⟨.new, (.q (.ld (.st [.leaf, .leaf]))), [.t 4], (some (37, true))⟩,
      ⟨.new, (.call 14), [.t 38], (some (37, true))⟩,
      ⟨.new, (.q (.bin .neq)), [.t 39, .c (.int 0)], (some (37, true))⟩,
      ⟨.new, (.q .pick), [.t 37, .t 40, .c (.bool false)], (some (34, false))⟩,
      ⟨.var 14, (.q .pick), [.t 34, .c (.bool true), .t 41], none⟩])
    (.cond (.t 14) (.seq (.reg [⟨.var 3, (.q .mv), [.c (.bool false)], none⟩])
    .ret)
    .skip))
    (.seq (.reg [⟨.new, (.q .mv), [.t 2], none⟩,
      ⟨.new, (.call 10), [.t 15], none⟩,
      ⟨.new, (.q .mv), [.t 16], none⟩,
      ⟨.new, (.q (.ext 0)), [.t 17], none⟩,
      ⟨.new, (.q (.ext 1)), [.t 17], none⟩,
      ⟨.var 8, (.e (.alloc 26 (.st [.leaf, .leaf]) (.agg [(.int 0), .nils]))), [], none⟩,
      ⟨.none, (.e (.store (.st [.leaf, .leaf]))), [.t 8, .t 18], none⟩,
      ⟨.new, (.q .mv), [.t 19], none⟩])
    (.seq (.reg [⟨.new, (.q .mv), [.t 2], none⟩,
      ⟨.new, (.q .len), [.t 15], none⟩,
      ⟨.new, (.q (.ld (.st [.leaf, .leaf]))), [.t 8], none⟩,
      ⟨.new, (.call 28), [.t 17], none⟩,
      ⟨.new, (.call 26), [.t 16, .t 18], none⟩,
      ⟨.new, (.q .mv), [.t 19], none⟩,
      ⟨.new, (.q (.ext 0)), [.t 20], none⟩,
      ⟨.new, (.q (.ext 1)), [.t 20], none⟩,
      ⟨.var 9, (.e (.alloc 26 (.st [.leaf, .leaf]) (.agg [(.int 0), .nils]))), [], none⟩,
      ⟨.none, (.e (.store (.st [.leaf, .leaf]))), [.t 9, .t 21], none⟩,
      ⟨.var 10, (.q .mv), [.t 22], none⟩])
    (.seq (.reg [⟨.new, (.q .mv), [.t 2], none⟩,
      ⟨.new, (.q .len), [.t 15], none⟩,
      ⟨.new, (.q (.ld (.st [.leaf, .leaf]))), [.t 8], none⟩,
      ⟨.new, (.call 29), [.t 17], none⟩,
      ⟨.new, (.call 12), [.t 16, .t 18], none⟩,
      ⟨.new, (.q .mv), [.t 19], none⟩,
      ⟨.new, (.q (.ext 0)), [.t 20], none⟩,
      ⟨.new, (.q (.ext 1)), [.t 20], none⟩,
      ⟨.var 11, (.e (.alloc 26 (.st [.leaf, .leaf]) (.agg [(.int 0), .nils]))), [], none⟩,
      ⟨.none, (.e (.store (.st [.leaf, .leaf]))), [.t 11, .t 21], none⟩,
      ⟨.var 12, (.q .mv), [.t 22], none⟩])
    (.seq (.reg [⟨.new, (.q .mv), [.t 10], none⟩,
      ⟨.new, (.q (.bin .eql)), [.t 15, .c (.int 0)], none⟩,
      ⟨.new, (.q .mv), [.t 16], none⟩,
      ⟨.new, (.q .mv), [.t 12], (some (17, true))⟩,
      ⟨.new, (.q .mv), [.t 10], (some (17, true))⟩,
      ⟨.new, (.q (.bin .eql)), [.t 18, .t 19], (some (17, true))⟩,
      ⟨.new, (.q .pick), [.t 17, .t 20, .c (.bool false)], none⟩,
      ⟨.new, (.q .mv), [.t 21], none⟩,
      ⟨.new, (.q (.ld (.st [.leaf, .leaf]))), [.t 8], (some (22, true))⟩,
      ⟨.new, (.q (.ld (.st [.leaf, .leaf]))), [.t 9], (some (22, true))⟩,
      ⟨.new, (.call 23), [.t 23, .t 24], (some (22, true))⟩,
      ⟨.new, (.q .pick), [.t 22, .t 25, .c (.bool false)], none⟩,
      ⟨.new, (.q .mv), [.t 26], none⟩,
      ⟨.new, (.q (.ld (.st [.leaf, .leaf]))), [.t 8], (some (27, true))⟩,
      ⟨.new, (.q (.ld (.st [.leaf, .leaf]))), [.t 11], (some (27, true))⟩,
      ⟨.new, (.call 23), [.t 28, .t 29], (some (27, true))⟩,
      ⟨.new, (.q .pick), [.t 27, .t 30, .c (.bool false)], none⟩,
      ⟨.new, (.q .mv), [.t 31], none⟩,
      ⟨.new, (.call 9), [], (some (32, true))⟩,
      ⟨.new, (.q .pick), [.t 32, .t 33, .c (.bool false)], none⟩,
      ⟨.var 3, (.q .mv), [.t 34], none⟩])
    .ret))))))))),
    [.t 3]⟩

theorem c7 : cF P [] (drP P []) 7 3 s7.vm = some s7 := by kernel_rfl
/-- words of no list -/
theorem f12n {K : AV → Heap → Prop} {H : Heap} (h : K (.tup [vec 0 fun _ => false, .int 0]) H) : wpF P [] 12 [.int 0, .nils] H K := by
  refine wpF_go c12 rfl 4 ?_
  intro ha hb
  simp only [s12]
  (refine gw0 ?_; try exact True.intro)
  refine f13 (n := 0) (by omega) ?_
  intro B
  have e2 : H.length + 1 + 1 = H.length + 2 := rfl
  (refine gw1 @e2 ?_; try exact True.intro)
  refine f36 (n := 0) (by omega) ?_
  unfold wblk
  have hn0 : ((nw 0 : Nat) : Int) = 0 := rfl
  have hn1 : nw 0 = 0 := rfl
  have hw0 : (wdA 0 fun _ => false) = [] := rfl
  have hsp : splL [] 0 [] = ([] : List AV) := rfl
  (refine gw5 @hn0 @hn1 @hw0 @cpH_own @hsp ?_; try exact True.intro)
  refine f37' (n := 0) (f := fun _ => false) (H0 := H ++ [rblk, B]) (L := [vblk 0 (H.length + 2)]) (by simp) (by simp [rblk, vblk, wblk, hn1, hw0]) (by omega) ?_
  have hc0 : wdA 0 (cut 0 fun _ => false) = [] := rfl
  unfold wblk vblk rblk
  (refine gw2 @hn1 @hc0 ?_; try exact True.intro)
  exact h
theorem f12w {K : AV → Heap → Prop} {H : Heap} {n : Nat} {f : Nat → Bool} (hn : n ≤ 4194304) (h : K (.tup [vec n (cut n f), .int 0]) H) : wpF P [] 12 [.int (n : Int), .ro .leaf (wdA n f)] H K := by
  rw [wds_map]
  refine f12 hn wds_len ?_
  have e : wdA n (cut n (wf (wds n f))) = wdA n (cut n f) := by
    unfold wdA
    apply rng_congr
    intro k hk
    congr 1
    apply wd_congr
    intro j hj
    unfold cut
    rw [wf_wds (by omega)]
  simp only [vec] at h ⊢
  rw [e]
  exact h

theorem f7 {K : AV → Heap → Prop} {H : Heap} {n : Int} {s : List (BitVec 8)} {l : List Bool} (h : K (.bool true) H) : wpF P [] 7 [.int n, .str s, .ro .leaf (l.map .bool)] H K := by
  refine wpF_go c7 rfl 3 ?_
  intro ha hb
  simp only [s7]
  by_cases h6 : 200 < s.length
  · have h1 : ((200 : Int) < (s.length : Int)) = True := by simp; omega
    (refine gw1 @h1 ?_; try exact True.intro)
    refine f9 ?_
    (refine gw0 ?_; try exact True.intro)
    exact h
  have h1 : ((200 : Int) < (s.length : Int)) = False := by simp; omega
  by_cases h7 : 1000 < l.length
  · have h2 : ((1000 : Int) < (l.length : Int)) = True := by simp; omega
    (refine gw2 @h1 @h2 ?_; try exact True.intro)
    refine f9 ?_
    (refine gw0 ?_; try exact True.intro)
    exact h
  have h2 : ((1000 : Int) < (l.length : Int)) = False := by simp; omega
  have nb : ¬ Rb l.length (bys l.length (bfn l)) := by
    rintro ⟨i, g1, g2⟩
    rw [sf_bys_all (f := bfn l) (fun i hi => bf_out hi), bf_out g1] at g2
    cases g2
  have sb : sf (bys l.length (bfn l)) = bfn l := sf_bys_all fun i hi => bf_out hi
  by_cases hn : n < 0 ∨ 4194304 < n
  · (refine gw2 @h1 @h2 ?_; try exact True.intro)
    refine f26e hn ?_
    (refine gw0 ?_; try exact True.intro)
    refine f27e hn ?_
    (refine gw0 ?_; try exact True.intro)
    refine f14n ?_
    (refine gw0 ?_; try exact True.intro)
    refine f10 (l := l) (by omega) ?_
    simp only [vec]
    (refine gw0 ?_; try exact True.intro)
    refine f28 (n := l.length) (f := bfn l) (by omega) ?_
    (refine gw0 ?_; try exact True.intro)
    refine f26 (n := l.length) (s := bys l.length (bfn l)) (by omega) bys_len ⟨fun hr => absurd hr nb, fun _ => ?_⟩
    rw [sb]
    simp only [vec]
    (refine gw0 ?_; try exact True.intro)
    refine f29 (n := l.length) (f := bfn l) (by omega) ?_ fun e0 => ?_
    · (refine gw0 ?_; try exact True.intro)
      refine f12w (n := l.length) (f := bfn l) (by omega) ?_
      rw [cut_bfn]
      simp only [vec]
      (refine gw0 ?_; try exact True.intro)
      refine f23 (n := l.length) (m := l.length) (f := bfn l) (g := bfn l) ?_
      rw [decide_eq_true rfl, decide_eq_true rfl]
      (refine gw0 ?_; try exact True.intro)
      refine f23 (n := l.length) (m := l.length) (f := bfn l) (g := bfn l) ?_
      rw [decide_eq_true rfl, decide_eq_true rfl]
      (refine gw0 ?_; try exact True.intro)
      refine f9 ?_
      (refine gw0 ?_; try exact True.intro)
      exact h
    · have l0 : l = [] := List.eq_nil_of_length_eq_zero e0
      subst l0
      (refine gw0 ?_; try exact True.intro)
      refine f12n ?_
      simp only [vec]
      (refine gw0 ?_; try exact True.intro)
      refine f23 (n := 0) (m := 0) (f := bfn []) (g := bfn []) ?_
      rw [decide_eq_true rfl, decide_eq_true rfl]
      (refine gw0 ?_; try exact True.intro)
      refine f23 (n := 0) (m := 0) (f := bfn []) (g := fun _ => false) ?_
      rw [decide_eq_true rfl, decide_eq_true (show wds 0 (bfn []) = wds 0 fun _ => false from rfl)]
      (refine gw0 ?_; try exact True.intro)
      refine f9 ?_
      (refine gw0 ?_; try exact True.intro)
      exact h
  obtain ⟨m, rfl⟩ := Int.eq_ofNat_of_zero_le (show 0 ≤ n by omega)
  have hm : m ≤ 4194304 := by omega
  by_cases hs : s.length = ny m
  rotate_left 1
  · (refine gw2 @h1 @h2 ?_; try exact True.intro)
    refine f26s hm hs ?_
    (refine gw0 ?_; try exact True.intro)
    refine f27s hm hs ?_
    (refine gw0 ?_; try exact True.intro)
    refine f14n ?_
    (refine gw0 ?_; try exact True.intro)
    refine f10 (l := l) (by omega) ?_
    simp only [vec]
    (refine gw0 ?_; try exact True.intro)
    refine f28 (n := l.length) (f := bfn l) (by omega) ?_
    (refine gw0 ?_; try exact True.intro)
    refine f26 (n := l.length) (s := bys l.length (bfn l)) (by omega) bys_len ⟨fun hr => absurd hr nb, fun _ => ?_⟩
    rw [sb]
    simp only [vec]
    (refine gw0 ?_; try exact True.intro)
    refine f29 (n := l.length) (f := bfn l) (by omega) ?_ fun e0 => ?_
    · (refine gw0 ?_; try exact True.intro)
      refine f12w (n := l.length) (f := bfn l) (by omega) ?_
      rw [cut_bfn]
      simp only [vec]
      (refine gw0 ?_; try exact True.intro)
      refine f23 (n := l.length) (m := l.length) (f := bfn l) (g := bfn l) ?_
      rw [decide_eq_true rfl, decide_eq_true rfl]
      (refine gw0 ?_; try exact True.intro)
      refine f23 (n := l.length) (m := l.length) (f := bfn l) (g := bfn l) ?_
      rw [decide_eq_true rfl, decide_eq_true rfl]
      (refine gw0 ?_; try exact True.intro)
      refine f9 ?_
      (refine gw0 ?_; try exact True.intro)
      exact h
    · have l0 : l = [] := List.eq_nil_of_length_eq_zero e0
      subst l0
      (refine gw0 ?_; try exact True.intro)
      refine f12n ?_
      simp only [vec]
      (refine gw0 ?_; try exact True.intro)
      refine f23 (n := 0) (m := 0) (f := bfn []) (g := bfn []) ?_
      rw [decide_eq_true rfl, decide_eq_true rfl]
      (refine gw0 ?_; try exact True.intro)
      refine f23 (n := 0) (m := 0) (f := bfn []) (g := fun _ => false) ?_
      rw [decide_eq_true rfl, decide_eq_true (show wds 0 (bfn []) = wds 0 fun _ => false from rfl)]
      (refine gw0 ?_; try exact True.intro)
      refine f9 ?_
      (refine gw0 ?_; try exact True.intro)
      exact h
  by_cases hr : Rb m s
  · (refine gw2 @h1 @h2 ?_; try exact True.intro)
    refine f26 hm hs ⟨fun _ => ?_, fun hx => absurd hr hx⟩
    (refine gw0 ?_; try exact True.intro)
    refine f27 hm hs ⟨fun _ => ?_, fun hx => absurd hr hx⟩
    (refine gw0 ?_; try exact True.intro)
    refine f14n ?_
    (refine gw0 ?_; try exact True.intro)
    refine f10 (l := l) (by omega) ?_
    simp only [vec]
    (refine gw0 ?_; try exact True.intro)
    refine f28 (n := l.length) (f := bfn l) (by omega) ?_
    (refine gw0 ?_; try exact True.intro)
    refine f26 (n := l.length) (s := bys l.length (bfn l)) (by omega) bys_len ⟨fun hr => absurd hr nb, fun _ => ?_⟩
    rw [sb]
    simp only [vec]
    (refine gw0 ?_; try exact True.intro)
    refine f29 (n := l.length) (f := bfn l) (by omega) ?_ fun e0 => ?_
    · (refine gw0 ?_; try exact True.intro)
      refine f12w (n := l.length) (f := bfn l) (by omega) ?_
      rw [cut_bfn]
      simp only [vec]
      (refine gw0 ?_; try exact True.intro)
      refine f23 (n := l.length) (m := l.length) (f := bfn l) (g := bfn l) ?_
      rw [decide_eq_true rfl, decide_eq_true rfl]
      (refine gw0 ?_; try exact True.intro)
      refine f23 (n := l.length) (m := l.length) (f := bfn l) (g := bfn l) ?_
      rw [decide_eq_true rfl, decide_eq_true rfl]
      (refine gw0 ?_; try exact True.intro)
      refine f9 ?_
      (refine gw0 ?_; try exact True.intro)
      exact h
    · have l0 : l = [] := List.eq_nil_of_length_eq_zero e0
      subst l0
      (refine gw0 ?_; try exact True.intro)
      refine f12n ?_
      simp only [vec]
      (refine gw0 ?_; try exact True.intro)
      refine f23 (n := 0) (m := 0) (f := bfn []) (g := bfn []) ?_
      rw [decide_eq_true rfl, decide_eq_true rfl]
      (refine gw0 ?_; try exact True.intro)
      refine f23 (n := 0) (m := 0) (f := bfn []) (g := fun _ => false) ?_
      rw [decide_eq_true rfl, decide_eq_true (show wds 0 (bfn []) = wds 0 fun _ => false from rfl)]
      (refine gw0 ?_; try exact True.intro)
      refine f9 ?_
      (refine gw0 ?_; try exact True.intro)
      exact h
  have hmb : m ≤ 1600 := by unfold ny at hs; omega
  have hcs : cut m (sf s) = sf s := cut_all fun i hi => by
    cases hx : sf s i with
    | false => rfl
    | true => exact absurd ⟨i, hi, hx⟩ hr
  have g11 : ∀ {K : AV → Heap → Prop} {H : Heap}, K (.bool true) H → wpF P [] 11 [vec m (sf s), if m = 0 then .nils else .ro .leaf ((List.range m).map fun i => .bool (sf s i))] H K := by
    intro K H h
    have := f11f (n := m) (f := sf s) (A := if m = 0 then .nils else .ro .leaf ((List.range m).map fun i => .bool (sf s i))) (H := H) (K := K) (by omega) (.inl rfl) h
    rwa [hcs] at this
  have g28 : ∀ {K : AV → Heap → Prop} {H : Heap}, K (.str s) H → wpF P [] 28 [vec m (sf s)] H K := by
    intro K H h
    exact f28 (n := m) (f := sf s) (by omega) (by rw [bys_sf hs]; exact h)
  have bW : ∀ k, AV.bnd k (if m = 0 then .nils else .ro .leaf ((List.range m).map fun i => .bool (sf s i))) = true := by
    intro k; split
    · rfl
    · simp only [AV.bnd]; exact bnds_bool
  have hss : (s = s) = True := eq_self _
  · (refine gw2 @h1 @h2 ?_; try exact True.intro)
    refine f26 hm hs ⟨fun hx => absurd hx hr, fun _ => ?_⟩
    simp only [vec]
    (refine gw0 ?_; try exact True.intro)
    refine f27 hm hs ⟨fun hx => absurd hx hr, fun _ => ?_⟩
    generalize (if m = 0 then AV.nils else .ro .leaf ((List.range m).map fun i => .bool (sf s i))) = W at g11 bW
    (refine gw0 ?_; try exact True.intro)
    refine g11 ?_
    (refine gw0 ?_; try exact True.intro)
    refine g28 ?_
    (refine gw1 @hss ?_; try exact True.intro)
    refine f10 (l := l) (by omega) ?_
    simp only [vec]
    (refine gw0 ?_; try exact True.intro)
    refine f28 (n := l.length) (f := bfn l) (by omega) ?_
    (refine gw0 ?_; try exact True.intro)
    refine f26 (n := l.length) (s := bys l.length (bfn l)) (by omega) bys_len ⟨fun hr => absurd hr nb, fun _ => ?_⟩
    rw [sb]
    simp only [vec]
    (refine gw0 ?_; try exact True.intro)
    refine f29 (n := l.length) (f := bfn l) (by omega) ?_ fun e0 => ?_
    · (refine gw0 ?_; try exact True.intro)
      refine f12w (n := l.length) (f := bfn l) (by omega) ?_
      rw [cut_bfn]
      simp only [vec]
      (refine gw0 ?_; try exact True.intro)
      refine f23 (n := l.length) (m := l.length) (f := bfn l) (g := bfn l) ?_
      rw [decide_eq_true rfl, decide_eq_true rfl]
      (refine gw0 ?_; try exact True.intro)
      refine f23 (n := l.length) (m := l.length) (f := bfn l) (g := bfn l) ?_
      rw [decide_eq_true rfl, decide_eq_true rfl]
      (refine gw0 ?_; try exact True.intro)
      refine f9 ?_
      (refine gw0 ?_; try exact True.intro)
      exact h
    · have l0 : l = [] := List.eq_nil_of_length_eq_zero e0
      subst l0
      (refine gw0 ?_; try exact True.intro)
      refine f12n ?_
      simp only [vec]
      (refine gw0 ?_; try exact True.intro)
      refine f23 (n := 0) (m := 0) (f := bfn []) (g := bfn []) ?_
      rw [decide_eq_true rfl, decide_eq_true rfl]
      (refine gw0 ?_; try exact True.intro)
      refine f23 (n := 0) (m := 0) (f := bfn []) (g := fun _ => false) ?_
      rw [decide_eq_true rfl, decide_eq_true (show wds 0 (bfn []) = wds 0 fun _ => false from rfl)]
      (refine gw0 ?_; try exact True.intro)
      refine f9 ?_
      (refine gw0 ?_; try exact True.intro)
      exact h
end Go.Proofs.Ytnnopgichjnhdaa

