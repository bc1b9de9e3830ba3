/-
  Layer 2 (bits): what is made of bits word by word.
-/
import Derived.Test.YtnnopgichjnhdaaXa
import Derived.Test.YtnnopgichjnhdaaV38
open Go Go.V
namespace Go.Proofs.Ytnnopgichjnhdaa
set_option maxRecDepth 100000
set_option linter.unusedSimpArgs false
set_option linter.unusedVariables false
/-- trefoil/trefoilref02.Of (0:n, 1:w, 4:, 5:out, 6:i, 9:) -/
def s15 : FnS := ⟨27, [0, 1, 4, 5, 6, 9],
    (.seq (.reg [⟨.var 2, (.q .mv), [.c .nils], none⟩])
    (.seq (.reg [⟨.var 3, (.q .mv), [.c .nils], none⟩])
    (.seq (.seq (.reg [⟨.var 4, (.q .mv), [.c (.int 0)], none⟩])
    (.block 0 (.loop (.seq (.seq (.reg [⟨.new, (.q .mv), [.t 4], none⟩,
      ⟨.new, (.q .mv), [.t 0], none⟩,
      ⟨.var 5, (.q (.bin .lss)), [.t 6, .t 7], none⟩])
    (.cond (.t 5) .skip
    (.exit 0)))
    (.seq (.block 1 (.reg [⟨.new, (.q .mv), [.t 3], none⟩,
      ⟨.new, (.q .mv), [.t 1], none⟩,
      ⟨.new, (.q .mv), [.t 4], none⟩,
      ⟨.new, (.q (.bin .quo)), [.t 8, .c (.int 64)], none⟩,
      ⟨.new, (.q (.iaS .leaf)), [.t 7, .t 9], none⟩,
      ⟨.new, (.q (.ld .leaf)), [.t 10], none⟩,
      ⟨.new, (.q .mv), [.t 4], none⟩,
      ⟨.new, (.q (.bin .rem)), [.t 12, .c (.int 64)], none⟩,
      ⟨.new, (.q (.cv .u64)), [.t 13], none⟩,
      ⟨.new, (.q (.bin .shr)), [.t 11, .t 14], none⟩,
      ⟨.new, (.q (.bin .rem)), [.t 15, .c (.u64 2)], none⟩,
      ⟨.new, (.q (.bin .eql)), [.t 16, .c (.u64 1)], none⟩,
      ⟨.new, (.e (.bsl 4 .leaf (.bool false) 1 [0])), [.t 17], none⟩,
      ⟨.new, (.e (.app 4 .leaf 1)), [.t 6, .t 18], none⟩,
      ⟨.var 3, (.q .mv), [.t 19], none⟩]))
    (.reg [⟨.new, (.q .mv), [.t 4], none⟩,
      ⟨.new, (.q (.bin .add)), [.t 6, .c (.int 1)], none⟩,
      ⟨.var 4, (.q .mv), [.t 7], none⟩]))))))
    (.seq (.reg [⟨.new, (.q .mv), [.t 3], none⟩,
      ⟨.var 2, (.q .mv), [.t 6], none⟩])
    .ret)))),
    [.t 2]⟩

/-- (trefoil/bits.Vec).trim (0:v, 1:v, 2:r, 7:) -/
def s37 : FnS := ⟨22, [0, 1, 2, 7],
    (.seq (.reg [⟨.var 1, (.e (.box 26 (.st [.leaf, .leaf]))), [.t 0], none⟩])
    (.seq (.reg [⟨.new, (.q (.fa [.leaf, .leaf] 0)), [.t 1], none⟩,
      ⟨.new, (.q (.ld .leaf)), [.t 4], none⟩,
      ⟨.new, (.q (.bin .rem)), [.t 5, .c (.int 64)], none⟩,
      ⟨.var 2, (.q .mv), [.t 6], none⟩])
    (.seq (.reg [⟨.new, (.q .mv), [.t 2], none⟩,
      ⟨.var 3, (.q (.bin .neq)), [.t 4, .c (.int 0)], none⟩])
    (.cond (.t 3) (.reg [⟨.new, (.q (.fa [.leaf, .leaf] 1)), [.t 1], none⟩,
      ⟨.new, (.q (.ld .leaf)), [.t 4], none⟩,
      ⟨.new, (.q (.fa [.leaf, .leaf] 1)), [.t 1], none⟩,
      ⟨.new, (.q (.ld .leaf)), [.t 6], none⟩,
      ⟨.new, (.q .len), [.t 7], none⟩,
      ⟨.new, (.q (.bin .sub)), [.t 8, .c (.int 1)], none⟩,
      ⟨.new, (.q (.iaS .leaf)), [.t 5, .t 9], none⟩,
      ⟨.new, (.q (.ld .leaf)), [.t 10], none⟩,
      ⟨.new, (.q .mv), [.t 2], none⟩,
      ⟨.new, (.q (.cv .u64)), [.t 12], none⟩,
      ⟨.new, (.q (.bin .shl)), [.c (.u64 1), .t 13], none⟩,
      ⟨.new, (.q (.bin .sub)), [.t 14, .c (.u64 1)], none⟩,
      ⟨.new, (.q (.bin .and)), [.t 11, .t 15], none⟩,
      ⟨.new, (.q (.iaS .leaf)), [.t 5, .t 9], none⟩,
      ⟨.none, (.e (.store .leaf)), [.t 17, .t 16], none⟩])
    .skip)))),
    []⟩

/-- trefoil/bits.Words (0:n, 1:l, 4:, 5:, 6:v, 7:e, 14:, 21:) -/
def s12 : FnS := ⟨30, [0, 1, 4, 5, 6, 7, 14, 21],
    (.seq (.reg [⟨.var 2, (.e (.alloc 26 (.st [.leaf, .leaf]) (.agg [(.int 0), .nils]))), [], none⟩,
      ⟨.var 3, (.q .mv), [.c (.int 0)], none⟩])
    (.seq (.reg [⟨.new, (.q .mv), [.t 0], none⟩,
      ⟨.new, (.call 13), [.t 8], none⟩,
      ⟨.new, (.q .mv), [.t 9], none⟩,
      ⟨.new, (.q (.ext 0)), [.t 10], none⟩,
      ⟨.new, (.q (.ext 1)), [.t 10], none⟩,
      ⟨.var 4, (.e (.alloc 26 (.st [.leaf, .leaf]) (.agg [(.int 0), .nils]))), [], none⟩,
      ⟨.none, (.e (.store (.st [.leaf, .leaf]))), [.t 4, .t 11], none⟩,
      ⟨.var 5, (.q .mv), [.t 12], none⟩])
    (.seq (.seq (.reg [⟨.new, (.q .mv), [.t 5], none⟩,
      ⟨.var 6, (.q (.bin .neq)), [.t 8, .c (.int 0)], none⟩])
    (.cond (.t 6) (.seq (.reg [⟨.new, (.e (.bld (.st [.leaf, .leaf]) (.agg [(.int 0), .nils]) [])), [], none⟩,
      ⟨.new, (.q .mv), [.t 5], none⟩,
      ⟨.none, (.e (.store (.st [.leaf, .leaf]))), [.t 2, .t 8], none⟩,
      ⟨.var 3, (.q .mv), [.t 9], none⟩])
    .ret)
    .skip))
    (.seq (.seq (.reg [⟨.new, (.q .mv), [.t 1], none⟩,
      ⟨.new, (.q .len), [.t 8], none⟩,
      ⟨.new, (.q .mv), [.t 0], none⟩,
      ⟨.new, (.call 36), [.t 10], none⟩,
      ⟨.var 7, (.q (.bin .neq)), [.t 9, .t 11], none⟩])
    (.cond (.t 7) (.seq (.reg [⟨.new, (.e (.bld (.st [.leaf, .leaf]) (.agg [(.int 0), .nils]) [])), [], none⟩,
      ⟨.none, (.e (.store (.st [.leaf, .leaf]))), [.t 2, .t 8], none⟩,
      ⟨.var 3, (.q .mv), [.c (.int 11)], none⟩])
    .ret)
    .skip))
    (.seq (.reg [⟨.new, (.q (.fa [.leaf, .leaf] 1)), [.t 4], none⟩,
      ⟨.new, (.q (.ld .leaf)), [.t 8], none⟩,
      ⟨.new, (.q .mv), [.t 1], none⟩,
      ⟨.new, (.e (.cpy .leaf)), [.t 9, .t 10], none⟩])
    (.seq (.reg [⟨.new, (.q (.ld (.st [.leaf, .leaf]))), [.t 4], none⟩,
      ⟨.new, (.call 37), [.t 8], none⟩])
    (.seq (.reg [⟨.new, (.q (.ld (.st [.leaf, .leaf]))), [.t 4], none⟩,
      ⟨.none, (.e (.store (.st [.leaf, .leaf]))), [.t 2, .t 8], none⟩,
      ⟨.var 3, (.q .mv), [.c (.int 0)], none⟩])
    .ret))))))),
    [.cell 2 (.st [.leaf, .leaf]), .t 3]⟩

/-- trefoil/trefoillaw02.shows (0:v, 1:l, 2:v, 4:) -/
def s11 : FnS := ⟨30, [0, 1, 2, 4],
    (.seq (.reg [⟨.var 2, (.e (.box 26 (.st [.leaf, .leaf]))), [.t 0], none⟩,
      ⟨.var 3, (.q .mv), [.c (.bool false)], none⟩])
    (.seq (.reg [⟨.new, (.q (.ld (.st [.leaf, .leaf]))), [.t 2], none⟩,
      ⟨.new, (.call 14), [.t 4], none⟩,
      ⟨.new, (.q .mv), [.t 1], none⟩,
      ⟨.new, (.q .len), [.t 6], none⟩,
      ⟨.new, (.q (.bin .eql)), [.t 5, .t 7], none⟩,
      ⟨.new, (.q .mv), [.t 8], none⟩,
      ⟨.new, (.q (.ld (.st [.leaf, .leaf]))), [.t 2], (some (9, true))⟩,
      ⟨.new, (.call 33), [.t 10], (some (9, true))⟩,
      ⟨.new, (.q .mv), [.t 1], (some (9, true))⟩,
      ⟨.new, (.call 24), [.t 11, .t 12], (some (9, true))⟩,
      ⟨.new, (.q .pick), [.t 9, .t 13, .c (.bool false)], none⟩,
      ⟨.new, (.q .mv), [.t 14], none⟩,
      ⟨.new, (.q (.ld (.st [.leaf, .leaf]))), [.t 2], (some (15, true))⟩,
      ⟨.new, (.call 29), [.t 16], (some (15, true))⟩,
      ⟨.new, (.q .mv), [.t 1], (some (15, true))⟩,
      ⟨.new, (.call 34), [.t 18], (some (15, true))⟩,
      ⟨.new, (.call 32), [.t 17, .t 19], (some (15, true))⟩,
      ⟨.new, (.q .pick), [.t 15, .t 20, .c (.bool false)], none⟩,
      ⟨.new, (.q .mv), [.t 21], none⟩,
      ⟨.new, (.q (.ld (.st [.leaf, .leaf]))), [.t 2], (some (22, true))⟩,
      ⟨.new, (.call 28), [.t 23], (some (22, true))⟩,
      ⟨.new, (.q .mv), [.t 1], (some (22, true))⟩,
      ⟨.new, (.call 35), [.t 25], (some (22, true))⟩,
      ⟨.new, (.q (.bin .eql)), [.t 24, .t 26], (some (22, true))⟩,
      ⟨.new, (.q .pick), [.t 22, .t 27, .c (.bool false)], none⟩,
      ⟨.var 3, (.q .mv), [.t 28], none⟩])
    .ret)),
    [.t 3]⟩

theorem c15 : cF P [] (drP P []) 15 2 s15.vm = some s15 := by kernel_rfl
theorem c37 : cF P [] (drP P []) 37 1 s37.vm = some s37 := by kernel_rfl
theorem c12 : cF P [] (drP P []) 12 2 s12.vm = some s12 := by kernel_rfl
theorem c11 : cF P [] (drP P []) 11 2 s11.vm = some s11 := by kernel_rfl
def I15 (n : Nat) (w : List (BitVec 64)) (H : Heap) (k : Nat) (st : St) : Prop :=
  ∃ (i : Nat) (u1 : AV) (out : AV) (L : Heap), st = ⟨[.int (n : Int), .ro .leaf (w.map .u64), .nils, out, .int (i : Int), u1], H ++ L⟩ ∧ k = n - i ∧ i ≤ n ∧ apd 4 H.length (fun i => .bool (wf w i)) i out L
theorem f15 {K : AV → Heap → Prop} {H : Heap} {n : Nat} {w : List (BitVec 64)} (hn : n ≤ 1000000000) (hw : nw n ≤ w.length) (h : K (if n = 0 then .nils else .ro .leaf ((List.range n).map fun i => .bool (wf w i))) H) : wpF P [] 15 [.int (n : Int), .ro .leaf (w.map .u64)] H K := by
  refine wpF_go c15 rfl 3 ?_
  intro ha hb
  simp only [s15]
  (refine gw0 ?_; try exact True.intro)
  refine wp_inv (I15 n w H) n ⟨0, _, _, [], by rw [List.append_nil]; rfl, rfl, by omega, .inl ⟨rfl, rfl, rfl⟩⟩ ?_
  rintro k st ⟨i, u1, out, L, rfl, rfl, hi, ho⟩
  by_cases hil : i < n
  · have h1 : ((i : Int) < (n : Int)) = True := by simp; omega
    have hd := tdiv64 i
    have hm := tmod64 i
    have hs := sh64 i
    have hiw : i / 64 < w.length := by unfold nw at hw; omega
    have hiw2 : (((i / 64 : Nat) : Int) < (w.length : Int)) = True := by simp; omega
    have gl := ld_u64 hiw
    have hn2 : ((2 : BitVec 64) = 0) = False := by decide
    have hbit : decide ((w.getD (i / 64) 0) >>> (i % 64) % 2 = 1) = wf w i := by rw [bit_mod2]; rfl
    have hsn := rng_snoc (F := fun i => AV.bool (wf w i)) (i := i)
    rcases ho with ⟨rfl, rfl, rfl⟩ | ⟨hpos, rfl, T, J, rfl⟩
    · have h1 : ((0 : Int) < (n : Int)) = True := by simp; omega
      have hbit : decide (w.getD 0 0 % 2 = 1) = wf w 0 := by
        have := hbit
        rwa [show 0 % 64 = 0 from rfl, show 0 / 64 = 0 from rfl, BitVec.ushiftRight_zero] at this
      have hiw2 : ((0 : Int) < (w.length : Int)) = True := by simp; omega
      have gl : (w.map AV.u64).getD 0 .un = .u64 (w.getD 0 0) := gl
      have hz : ∀ x : BitVec 64, x >>> 0 = x := fun x => BitVec.ushiftRight_zero x
      (refine gw6 @h1 @hiw2 @gl @hn2 @hz @hbit ?_; try exact True.intro)
      (repeat (refine And.intro (by omega) ?_))
      exact ⟨n - 1, by omega, 1, _, _, _, rfl, rfl, by omega, .inr ⟨by omega, rfl, _, [], rfl⟩⟩
    · (refine gw9 @h1 @hd @hm @hs @hiw2 @gl @hn2 @hbit @hsn ?_; try exact True.intro)
      (repeat (refine And.intro (by omega) ?_))
      exact ⟨n - (i + 1), by omega, i + 1, _, _, _, rfl, rfl, by omega, .inr ⟨by omega, rfl, _, _, rfl⟩⟩
  · have h1 : ((i : Int) < (n : Int)) = False := by simp; omega
    have hie : i = n := by omega
    subst hie
    rcases ho with ⟨h0, rfl, rfl⟩ | ⟨hpos, rfl, T, J, rfl⟩
    · rw [if_pos h0] at h
      (refine gw1 @h1 ?_; try exact True.intro)
      exact h
    · rw [if_neg (by omega)] at h
      have ht : List.take i ((List.range i).map fun i => AV.bool (wf w i)) = (List.range i).map fun i => .bool (wf w i) := List.take_of_length_le (by simp)
      (refine gw2 @h1 @ht ?_; try exact True.intro)
      exact h

theorem f37 {K : AV → Heap → Prop} {H0 L : Heap} {n : Nat} {f : Nat → Bool} (hn : n ≤ 1000000000) (h : K (.tup []) (H0 ++ wblk n (cut n f) :: L)) : wpF P [] 37 [.agg [.int (n : Int), .own H0.length 0 [] 0 (nw n) .leaf]] (H0 ++ wblk n f :: L) K := by
  refine wpF_goM c37 rfl ?_
  intro ha hB
  simp only [s37]
  have hm := tmod64 n
  have hfin : ∀ {X : Prop}, X → X := fun h => h
  by_cases hr : n % 64 = 0
  · have e : ((n % 64 : Nat) : Int) = 0 := by rw [hr]; rfl
    unfold wblk at *
    (refine gw5 @hm @e @Kmut_n @Kmut_r @Km2_s ?_; try exact True.intro)
    refine ⟨by omega, ?_⟩
    rw [← wdA_whole hr]
    exact mut_fin hB (by rintro k blk h; cases h; exact bnd_wdA) h
  · have e : (((n % 64 : Nat) : Int) = 0) = False := by simp; omega
    have hs := sh64 n
    have hw : 0 < nw n ∧ nw n ≤ 1000000000 := by unfold nw; omega
    have hk : (nw n : Int) - 1 = ((nw n - 1 : Nat) : Int) := by omega
    have hg := wdN_get (nb := nw n) (f := f) (k := nw n - 1) (by omega)
    rw [wdN_A] at hg
    have hget := lget_at (ps := wdA n f) (i := nw n - 1) (by rw [wdA_len]; omega)
    have htr := wdA_trim (f := f) hr
    unfold wblk at *
    (refine gw10 @hm @e @hs @hk @hg @hget @htr @Kmut_n @Kmut_r @Km2_s ?_; try exact True.intro)
    (repeat (refine And.intro (by omega) ?_))
    exact mut_fin hB (by rintro k blk h; cases h; exact bnd_wdA) h
theorem f37' {K : AV → Heap → Prop} {H0 L Hx : Heap} {n m : Nat} {f : Nat → Bool} (hm : m = H0.length) (hx : Hx = H0 ++ wblk n f :: L) (hn : n ≤ 1000000000) (h : K (.tup []) (H0 ++ wblk n (cut n f) :: L)) : wpF P [] 37 [.agg [.int (n : Int), .own m 0 [] 0 (nw n) .leaf]] Hx K := by
  subst hm hx
  exact f37 hn h

/-- words that aren't there -/
theorem f12e {K : AV → Heap → Prop} {H : Heap} {n : Int} {w : List (BitVec 64)} (hn : n < 0 ∨ 4194304 < n) (h : K (.tup [.agg [.int 0, .nils], .int 2]) H) : wpF P [] 12 [.int n, .ro .leaf (w.map .u64)] H K := by
  refine wpF_go c12 rfl 4 ?_
  intro ha hb
  simp only [s12]
  (refine gw0 ?_; try exact True.intro)
  refine f13e hn ?_
  (refine gw0 ?_; try exact True.intro)
  exact h
theorem f12s {K : AV → Heap → Prop} {H : Heap} {n : Nat} {w : List (BitVec 64)} (hn : n ≤ 4194304) (hw : w.length ≠ nw n) (h : K (.tup [.agg [.int 0, .nils], .int 11]) H) : wpF P [] 12 [.int (n : Int), .ro .leaf (w.map .u64)] H K := by
  refine wpF_go c12 rfl 4 ?_
  intro ha hb
  simp only [s12]
  (refine gw0 ?_; try exact True.intro)
  refine f13 hn ?_
  intro B
  have h1 : ((w.length : Int) = (nw n : Int)) = False := by simp; omega
  (refine gw0 ?_; try exact True.intro)
  refine f36 (by omega) ?_
  (refine gw1 @h1 ?_; try exact True.intro)
  exact h
theorem f12 {K : AV → Heap → Prop} {H : Heap} {n : Nat} {w : List (BitVec 64)} (hn : n ≤ 4194304) (hw : w.length = nw n) (h : K (.tup [vec n (cut n (wf w)), .int 0]) H) : wpF P [] 12 [.int (n : Int), .ro .leaf (w.map .u64)] H K := by
  refine wpF_go c12 rfl 4 ?_
  intro ha hb
  simp only [s12]
  (refine gw0 ?_; try exact True.intro)
  refine f13 hn ?_
  intro B
  have e2 : H.length + 1 + 1 = H.length + 2 := rfl
  have h1 : ((w.length : Int) = (nw n : Int)) = True := by simp; omega
  (refine gw1 @e2 ?_; try exact True.intro)
  refine f36 (by omega) ?_
  unfold wblk
  have hmin : min w.length (nw n) = nw n := by omega
  have htk : List.take (nw n) (w.map AV.u64) = wdA n (wf w) := by rw [wdA_wf hw, List.take_of_length_le (by simp; omega)]
  have hsp : splL (wdA n fun x => false) 0 (wdA n (wf w)) = wdA n (wf w) := splL_full (by rw [wdA_len, wdA_len]; omega)
  (refine gw5 @h1 @hmin @htk @cpH_own @hsp ?_; try exact True.intro)
  refine ⟨?_, ?_⟩
  · intro q hq
    obtain ⟨x, _, rfl⟩ := List.mem_map.1 hq
    rfl
  refine f37' (H0 := H ++ [rblk, B]) (L := [vblk n (H.length + 2)]) (f := wf w) (by simp) (by simp [rblk, vblk, wblk]) (by omega) ?_
  unfold wblk vblk rblk
  (refine gw1 @demA ?_; try exact True.intro)
  exact h

/-- the bits of a list, as lists -/
theorem bools_map {l : List Bool} : ((List.range l.length).map fun i => AV.bool (bfn l i)) = l.map .bool := by
  apply List.ext_getElem
  · simp
  · intro i h1 h2
    simp [bfn, List.getD_eq_getElem?_getD, List.getElem?_eq_getElem (show i < l.length by simpa using h2)]
theorem wds_map {n : Nat} {f : Nat → Bool} : wdA n f = (wds n f).map .u64 := wdA_map
theorem f11 {K : AV → Heap → Prop} {H : Heap} {l : List Bool} (hn : l.length ≤ 1000000) (h : K (.bool true) H) : wpF P [] 11 [vec l.length (bfn l), .ro .leaf (l.map .bool)] H K := by
  refine wpF_go c11 rfl 3 ?_
  intro ha hb
  simp only [s11, vec]
  (refine gw0 ?_; try exact True.intro)
  refine f14 (n := l.length) (f := bfn l) ?_
  (refine gw0 ?_; try exact True.intro)
  refine f33 (n := l.length) (f := bfn l) (by omega) ?_
  rw [bools_map]
  (refine gw0 ?_; try exact True.intro)
  refine f24 (.inl rfl) (.inl rfl) ?_
  rw [decide_eq_true rfl]
  have key : ∀ A, isL A (wdA l.length (bfn l)) → ∀ B, isL B (wdA l.length (bfn l)) → (∀ K' : AV → Heap → Prop, ∀ H', K' (.bool true) H' → wpF P [] 32 [A, B] H' K') := by
    intro A hA B hB K' H' hK
    rw [wds_map] at hA hB
    refine f32 hA hB ?_
    rw [decide_eq_true rfl]
    exact hK
  have h0 : l.length = 0 → wdA l.length (bfn l) = [] := by
    intro e; rw [e]; rfl
  have hB : isL (if l.length = 0 then .nils else .ro .leaf (wdA l.length (bfn l))) (wdA l.length (bfn l)) := by
    by_cases e : l.length = 0
    · rw [if_pos e]; exact .inr ⟨h0 e, rfl⟩
    · rw [if_neg e]; exact .inl rfl
  (refine gw0 ?_; try exact True.intro)
  refine f29 (n := l.length) (f := bfn l) (by omega) ?_ fun e => ?_
  · (refine gw0 ?_; try exact True.intro)
    refine f34 hn ?_
    generalize (if l.length = 0 then AV.nils else .ro .leaf (wdA l.length (bfn l))) = B at hB
    (refine gw0 ?_; try exact True.intro)
    refine key _ (.inl rfl) _ hB _ _ ?_
    (refine gw0 ?_; try exact True.intro)
    refine f28 (n := l.length) (f := bfn l) (by omega) ?_
    (refine gw0 ?_; try exact True.intro)
    refine f35 hn ?_
    (refine gw0 ?_; try exact True.intro)
    exact h
  · (refine gw0 ?_; try exact True.intro)
    refine f34 hn ?_
    generalize (if l.length = 0 then AV.nils else .ro .leaf (wdA l.length (bfn l))) = B at hB
    (refine gw0 ?_; try exact True.intro)
    refine key _ (.inr ⟨h0 e, rfl⟩) _ hB _ _ ?_
    (refine gw0 ?_; try exact True.intro)
    refine f28 (n := l.length) (f := bfn l) (by omega) ?_
    (refine gw0 ?_; try exact True.intro)
    refine f35 hn ?_
    (refine gw0 ?_; try exact True.intro)
    exact h

/-! the same of no list -/
theorem f34n {K : AV → Heap → Prop} {H : Heap} (h : K .nils H) : wpF P [] 34 [.nils] H K := by
  refine wpF_go c34 rfl 3 ?_
  intro ha hb
  simp only [s34]
  (refine gw0 ?_; try exact True.intro)
  refine wp_unroll 1 ?_
  (refine gw0 ?_; try exact True.intro)
  exact h
theorem f35n {K : AV → Heap → Prop} {H : Heap} (h : K (.str []) H) : wpF P [] 35 [.nils] H K := by
  refine wpF_go c35 rfl 3 ?_
  intro ha hb
  simp only [s35]
  (refine gw0 ?_; try exact True.intro)
  refine wp_unroll 1 ?_
  (refine gw0 ?_; try exact True.intro)
  exact h
theorem f11n {K : AV → Heap → Prop} {H : Heap} {f : Nat → Bool} (h : K (.bool true) H) : wpF P [] 11 [vec 0 f, .nils] H K := by
  refine wpF_go c11 rfl 3 ?_
  intro ha hb
  have e0 : wdA 0 f = [] := rfl
  simp only [s11, vec, e0]
  (refine gw0 ?_; try exact True.intro)
  refine f14 (n := 0) (f := f) ?_
  (refine gw0 ?_; try exact True.intro)
  refine f33 (n := 0) (f := f) (by omega) ?_
  (refine gw0 ?_; try exact True.intro)
  refine f24 (a := []) (b := []) (.inl rfl) (.inr ⟨rfl, rfl⟩) ?_
  (refine gw0 ?_; try exact True.intro)
  refine f29 (n := 0) (f := f) (by omega) ?_ fun e => ?_
  · (refine gw0 ?_; try exact True.intro)
    refine f34n ?_
    (refine gw0 ?_; try exact True.intro)
    refine f32 (a := []) (b := []) (.inl rfl) (.inr ⟨rfl, rfl⟩) ?_
    (refine gw0 ?_; try exact True.intro)
    refine f28 (n := 0) (f := f) (by omega) ?_
    rw [show bys 0 f = [] from rfl]
    (refine gw0 ?_; try exact True.intro)
    refine f35n ?_
    (refine gw0 ?_; try exact True.intro)
    exact h
  · (refine gw0 ?_; try exact True.intro)
    refine f34n ?_
    (refine gw0 ?_; try exact True.intro)
    refine f32 (a := []) (b := []) (.inr ⟨rfl, rfl⟩) (.inr ⟨rfl, rfl⟩) ?_
    (refine gw0 ?_; try exact True.intro)
    refine f28 (n := 0) (f := f) (by omega) ?_
    rw [show bys 0 f = [] from rfl]
    (refine gw0 ?_; try exact True.intro)
    refine f35n ?_
    (refine gw0 ?_; try exact True.intro)
    exact h
theorem bfn_rep {n : Nat} : bfn (List.replicate n false) = fun _ => false := by
  funext i
  unfold bfn
  rw [List.getD_eq_getElem?_getD, List.getElem?_replicate]
  split <;> rfl
theorem wf_map {n : Nat} {w : List (BitVec 64)} : ((List.range n).map fun i => AV.bool (wf w i)) = ((List.range n).map (wf w)).map .bool := by rw [List.map_map]; rfl
theorem bfn_rng {n : Nat} {f : Nat → Bool} : bfn ((List.range n).map f) = cut n f := by
  funext i
  unfold bfn cut
  rw [List.getD_eq_getElem?_getD, List.getElem?_map]
  by_cases h : i < n
  · rw [List.getElem?_range h]; simp [h]
  · rw [List.getElem?_eq_none (by simp; omega)]; simp [h]
/-- bits that are just these of a function -/
theorem f11f {K : AV → Heap → Prop} {H : Heap} {n : Nat} {f : Nat → Bool} {A : AV} (hn : n ≤ 1000000) (hA : A = (if n = 0 then .nils else .ro .leaf ((List.range n).map fun i => .bool (f i))) ∨ A = .ro .leaf ((List.range n).map fun i => .bool (f i)))
    (h : K (.bool true) H) : wpF P [] 11 [vec n (cut n f), A] H K := by
  have key : wpF P [] 11 [vec n (cut n f), .ro .leaf ((List.range n).map fun i => .bool (f i))] H K := by
    have := f11 (H := H) (K := K) (l := (List.range n).map f) (by simpa using hn) h
    rw [bfn_rng, List.length_map, List.length_range, List.map_map] at this
    exact this
  rcases hA with rfl | rfl
  · by_cases e : n = 0
    · subst e
      exact f11n h
    · rw [if_neg e]; exact key
  · exact key
theorem f11z {K : AV → Heap → Prop} {H : Heap} {n : Nat} (hn : n ≤ 1000000) (h : K (.bool true) H) : wpF P [] 11 [.agg [.int (n : Int), .ro .leaf (wdA n fun _ => false)], .ro .leaf ((List.replicate n false).map .bool)] H K := by
  have := f11 (H := H) (K := K) (l := List.replicate n false) (by simpa using hn) h
  rw [bfn_rep, List.length_replicate] at this
  exact this
end Go.Proofs.Ytnnopgichjnhdaa
