/-
  Layer 2 (bits): bits read of bytes, by the code and by the reference.
-/
import Derived.Test.YtnnopgichjnhdaaXc
import Derived.Test.YtnnopgichjnhdaaV38
open Go Go.V
namespace Go.Proofs.Ytnnopgichjnhdaa
set_option maxRecDepth 100000
set_option linter.unusedSimpArgs false
set_option linter.unusedVariables false
/-- trefoil/bits.Read (0:n, 1:s, 4:, 5:, 6:v, 7:e, 8:i, 9:r, 16:, 24:, 27:, 28:, 29:, 63:) -/
def s26 : FnS := ⟨66, [0, 1, 4, 5, 6, 7, 8, 9, 16, 24, 27, 28, 29, 63],
    (.seq (.reg [⟨.var 2, (.e (.alloc 26 (.st [.leaf, .leaf]) (.agg [(.int 0), .nils]))), [], none⟩,
      ⟨.var 3, (.q .mv), [.c (.int 0)], none⟩])
    (.seq (.reg [⟨.new, (.q .mv), [.t 0], none⟩,
      ⟨.new, (.call 13), [.t 14], none⟩,
      ⟨.new, (.q .mv), [.t 15], none⟩,
      ⟨.new, (.q (.ext 0)), [.t 16], none⟩,
      ⟨.new, (.q (.ext 1)), [.t 16], none⟩,
      ⟨.var 4, (.e (.alloc 26 (.st [.leaf, .leaf]) (.agg [(.int 0), .nils]))), [], none⟩,
      ⟨.none, (.e (.store (.st [.leaf, .leaf]))), [.t 4, .t 17], none⟩,
      ⟨.var 5, (.q .mv), [.t 18], none⟩])
    (.seq (.seq (.reg [⟨.new, (.q .mv), [.t 5], none⟩,
      ⟨.var 8, (.q (.bin .neq)), [.t 14, .c (.int 0)], none⟩])
    (.cond (.t 8) (.seq (.reg [⟨.new, (.e (.bld (.st [.leaf, .leaf]) (.agg [(.int 0), .nils]) [])), [], none⟩,
      ⟨.new, (.q .mv), [.t 5], none⟩,
      ⟨.none, (.e (.store (.st [.leaf, .leaf]))), [.t 2, .t 14], none⟩,
      ⟨.var 3, (.q .mv), [.t 15], none⟩])
    .ret)
    .skip))
    (.seq (.seq (.reg [⟨.new, (.q .mv), [.t 1], none⟩,
      ⟨.new, (.q .lenS), [.t 14], none⟩,
      ⟨.new, (.q .mv), [.t 0], none⟩,
      ⟨.new, (.q (.bin .add)), [.t 16, .c (.int 7)], none⟩,
      ⟨.new, (.q (.bin .quo)), [.t 17, .c (.int 8)], none⟩,
      ⟨.var 9, (.q (.bin .neq)), [.t 15, .t 18], none⟩])
    (.cond (.t 9) (.seq (.reg [⟨.new, (.e (.bld (.st [.leaf, .leaf]) (.agg [(.int 0), .nils]) [])), [], none⟩,
      ⟨.none, (.e (.store (.st [.leaf, .leaf]))), [.t 2, .t 14], none⟩,
      ⟨.var 3, (.q .mv), [.c (.int 11)], none⟩])
    .ret)
    .skip))
    (.seq (.seq (.reg [⟨.new, (.q .mv), [.t 1], none⟩,
      ⟨.var 10, (.q .lenS), [.t 14], none⟩,
      ⟨.var 11, (.q .mv), [.c (.int 0)], none⟩])
    (.block 0 (.loop (.seq (.reg [⟨.var 12, (.q (.bin .lss)), [.t 11, .t 10], none⟩])
    (.seq (.cond (.t 12) .skip
    (.exit 0))
    (.seq (.block 1 (.seq (.reg [⟨.new, (.q .mv), [.t 11], none⟩,
      ⟨.var 6, (.q .mv), [.t 14], none⟩])
    (.draw [⟨.new, (.q (.fa [.leaf, .leaf] 1)), [.t 4], none⟩,
      ⟨.new, (.q (.ld .leaf)), [.t 14], none⟩,
      ⟨.new, (.q .mv), [.t 6], none⟩,
      ⟨.new, (.q (.bin .quo)), [.t 16, .c (.int 8)], none⟩,
      ⟨.new, (.q (.iaS .leaf)), [.t 15, .t 17], none⟩,
      ⟨.new, (.q (.ld .leaf)), [.t 18], none⟩,
      ⟨.new, (.q .mv), [.t 1], none⟩,
      ⟨.new, (.q .mv), [.t 6], none⟩,
      ⟨.new, (.q .idxS), [.t 20, .t 21], none⟩,
      ⟨.new, (.q (.cv .u64)), [.t 22], none⟩,
      ⟨.new, (.q .mv), [.t 6], none⟩,
      ⟨.new, (.q (.bin .rem)), [.t 24, .c (.int 8)], none⟩,
      ⟨.new, (.q (.bin .mul)), [.c (.int 8), .t 25], none⟩,
      ⟨.new, (.q (.cv .u64)), [.t 26], none⟩,
      ⟨.new, (.q (.bin .shl)), [.t 23, .t 27], none⟩,
      ⟨.new, (.q (.bin .or)), [.t 19, .t 28], none⟩,
      ⟨.new, (.q (.iaS .leaf)), [.t 15, .t 17], none⟩,
      ⟨.none, (.e (.store .leaf)), [.t 30, .t 29], none⟩])))
    (.reg [⟨.new, (.q (.bin .add)), [.t 11, .c (.int 1)], none⟩,
      ⟨.var 11, (.q .mv), [.t 14], none⟩])))))))
    (.seq (.seq (.reg [⟨.new, (.q .mv), [.t 0], none⟩,
      ⟨.new, (.q (.bin .rem)), [.t 14, .c (.int 8)], none⟩,
      ⟨.var 7, (.q .mv), [.t 15], none⟩])
    (.seq (.reg [⟨.new, (.q .mv), [.t 7], none⟩,
      ⟨.new, (.q (.bin .neq)), [.t 14, .c (.int 0)], none⟩,
      ⟨.new, (.q .mv), [.t 15], none⟩,
      ⟨.new, (.q .mv), [.t 1], (some (16, true))⟩,
      ⟨.new, (.q .mv), [.t 1], (some (16, true))⟩,
      ⟨.new, (.q .lenS), [.t 18], (some (16, true))⟩,
      ⟨.new, (.q (.bin .sub)), [.t 19, .c (.int 1)], (some (16, true))⟩,
      ⟨.new, (.q .idxS), [.t 17, .t 20], (some (16, true))⟩,
      ⟨.new, (.q .mv), [.t 7], (some (16, true))⟩,
      ⟨.new, (.q (.cv .u64)), [.t 22], (some (16, true))⟩,
      ⟨.new, (.q (.bin .shr)), [.t 21, .t 23], (some (16, true))⟩,
      ⟨.new, (.q (.bin .neq)), [.t 24, .c (.u8 0)], (some (16, true))⟩,
      ⟨.var 13, (.q .pick), [.t 16, .t 25, .c (.bool false)], none⟩])
    (.cond (.t 13) (.seq (.reg [⟨.new, (.e (.bld (.st [.leaf, .leaf]) (.agg [(.int 0), .nils]) [])), [], none⟩,
      ⟨.none, (.e (.store (.st [.leaf, .leaf]))), [.t 2, .t 14], none⟩,
      ⟨.var 3, (.q .mv), [.c (.int 13)], none⟩])
    .ret)
    .skip)))
    (.seq (.reg [⟨.new, (.q (.ld (.st [.leaf, .leaf]))), [.t 4], none⟩,
      ⟨.none, (.e (.store (.st [.leaf, .leaf]))), [.t 2, .t 14], none⟩,
      ⟨.var 3, (.q .mv), [.c (.int 0)], none⟩])
    .ret))))))),
    [.cell 2 (.st [.leaf, .leaf]), .t 3]⟩

/-- trefoil/trefoilref02.Read (0:n, 1:s, 4:, 5:, 6:out, 7:i, 8:b, 14:, 24:, 29:, 47:, 50:) -/
def s27 : FnS := ⟨56, [0, 1, 4, 5, 6, 7, 8, 14, 24, 29, 47, 50],
    (.seq (.reg [⟨.var 2, (.q .mv), [.c .nils], none⟩,
      ⟨.var 3, (.q .mv), [.c (.int 0)], none⟩])
    (.seq (.seq (.reg [⟨.new, (.q .mv), [.t 0], none⟩,
      ⟨.new, (.q (.bin .lss)), [.t 12, .c (.int 0)], none⟩,
      ⟨.new, (.q .mv), [.t 13], none⟩,
      ⟨.new, (.q .mv), [.t 0], (some (14, false))⟩,
      ⟨.new, (.q (.bin .gtr)), [.t 15, .c (.int 4194304)], (some (14, false))⟩,
      ⟨.var 7, (.q .pick), [.t 14, .c (.bool true), .t 16], none⟩])
    (.cond (.t 7) (.seq (.reg [⟨.var 2, (.q .mv), [.c .nils], none⟩,
      ⟨.var 3, (.q .mv), [.c (.int 2)], none⟩])
    .ret)
    .skip))
    (.seq (.seq (.reg [⟨.new, (.q .mv), [.t 1], none⟩,
      ⟨.new, (.q .lenS), [.t 12], none⟩,
      ⟨.new, (.q .mv), [.t 0], none⟩,
      ⟨.new, (.q (.bin .quo)), [.t 14, .c (.int 8)], none⟩,
      ⟨.new, (.q .mv), [.t 0], none⟩,
      ⟨.new, (.q (.bin .rem)), [.t 16, .c (.int 8)], none⟩,
      ⟨.new, (.q (.bin .add)), [.t 17, .c (.int 7)], none⟩,
      ⟨.new, (.q (.bin .quo)), [.t 18, .c (.int 8)], none⟩,
      ⟨.new, (.q (.bin .add)), [.t 15, .t 19], none⟩,
      ⟨.var 8, (.q (.bin .neq)), [.t 13, .t 20], none⟩])
    (.cond (.t 8) (.seq (.reg [⟨.var 2, (.q .mv), [.c .nils], none⟩,
      ⟨.var 3, (.q .mv), [.c (.int 11)], none⟩])
    .ret)
    .skip))
    (.seq (.reg [⟨.var 4, (.q .mv), [.c .nils], none⟩])
    (.seq (.seq (.reg [⟨.var 5, (.q .mv), [.c (.int 0)], none⟩])
    (.block 0 (.loop (.seq (.seq (.reg [⟨.new, (.q .mv), [.t 5], none⟩,
      ⟨.new, (.q .mv), [.t 1], none⟩,
      ⟨.new, (.q .lenS), [.t 13], none⟩,
      ⟨.new, (.q (.bin .mul)), [.c (.int 8), .t 14], none⟩,
      ⟨.var 9, (.q (.bin .lss)), [.t 12, .t 15], none⟩])
    (.cond (.t 9) .skip
    (.exit 0)))
    (.seq (.block 1 (.seq (.reg [⟨.new, (.q .mv), [.t 1], none⟩,
      ⟨.new, (.q .mv), [.t 5], none⟩,
      ⟨.new, (.q (.bin .quo)), [.t 13, .c (.int 8)], none⟩,
      ⟨.new, (.q .idxS), [.t 12, .t 14], none⟩,
      ⟨.new, (.q .mv), [.t 5], none⟩,
      ⟨.new, (.q (.bin .rem)), [.t 16, .c (.int 8)], none⟩,
      ⟨.new, (.q (.cv .u64)), [.t 17], none⟩,
      ⟨.new, (.q (.bin .shr)), [.t 15, .t 18], none⟩,
      ⟨.new, (.q (.bin .rem)), [.t 19, .c (.u8 2)], none⟩,
      ⟨.new, (.q (.bin .eql)), [.t 20, .c (.u8 1)], none⟩,
      ⟨.var 6, (.q .mv), [.t 21], none⟩])
    (.seq (.seq (.reg [⟨.new, (.q .mv), [.t 5], none⟩,
      ⟨.new, (.q .mv), [.t 0], none⟩,
      ⟨.new, (.q (.bin .geq)), [.t 12, .t 13], none⟩,
      ⟨.new, (.q .mv), [.t 14], none⟩,
      ⟨.new, (.q .mv), [.t 6], (some (15, true))⟩,
      ⟨.var 10, (.q .pick), [.t 15, .t 16, .c (.bool false)], none⟩])
    (.cond (.t 10) (.seq (.reg [⟨.var 2, (.q .mv), [.c .nils], none⟩,
      ⟨.var 3, (.q .mv), [.c (.int 13)], none⟩])
    .ret)
    .skip))
    (.seq (.reg [⟨.new, (.q .mv), [.t 5], none⟩,
      ⟨.new, (.q .mv), [.t 0], none⟩,
      ⟨.var 11, (.q (.bin .lss)), [.t 12, .t 13], none⟩])
    (.cond (.t 11) (.reg [⟨.new, (.q .mv), [.t 4], none⟩,
      ⟨.new, (.q .mv), [.t 6], none⟩,
      ⟨.new, (.e (.bsl 4 .leaf (.bool false) 1 [0])), [.t 13], none⟩,
      ⟨.new, (.e (.app 4 .leaf 1)), [.t 12, .t 14], none⟩,
      ⟨.var 4, (.q .mv), [.t 15], none⟩])
    .skip)))))
    (.reg [⟨.new, (.q .mv), [.t 5], none⟩,
      ⟨.new, (.q (.bin .add)), [.t 12, .c (.int 1)], none⟩,
      ⟨.var 5, (.q .mv), [.t 13], none⟩]))))))
    (.seq (.reg [⟨.new, (.q .mv), [.t 4], none⟩,
      ⟨.var 2, (.q .mv), [.t 12], none⟩,
      ⟨.var 3, (.q .mv), [.c (.int 0)], none⟩])
    .ret)))))),
    [.t 2, .t 3]⟩

theorem c26 : cF P [] (drP P []) 26 2 s26.vm = some s26 := by kernel_rfl
theorem c27 : cF P [] (drP P []) 27 2 s27.vm = some s27 := by kernel_rfl
theorem f26e {K : AV → Heap → Prop} {H : Heap} {n : Int} {s : List (BitVec 8)} (hn : n < 0 ∨ 4194304 < n) (h : K (.tup [.agg [.int 0, .nils], .int 2]) H) : wpF P [] 26 [.int n, .str s] H K := by
  refine wpF_go c26 rfl 4 ?_
  intro ha hb
  simp only [s26]
  (refine gw0 ?_; try exact True.intro)
  refine f13e hn ?_
  (refine gw0 ?_; try exact True.intro)
  exact h
theorem f26s {K : AV → Heap → Prop} {H : Heap} {n : Nat} {s : List (BitVec 8)} (hn : n ≤ 4194304) (hs : s.length ≠ ny n) (h : K (.tup [.agg [.int 0, .nils], .int 11]) H) : wpF P [] 26 [.int (n : Int), .str s] H K := by
  refine wpF_go c26 rfl 4 ?_
  intro ha hb
  simp only [s26]
  (refine gw0 ?_; try exact True.intro)
  refine f13 hn ?_
  intro B
  have e : Int.tdiv ((n : Int) + 7) 8 = ((ny n : Nat) : Int) := tdiv8 (n + 7)
  have hy : ny n ≤ 4194304 := by unfold ny; omega
  have h1 : ((s.length : Int) = (ny n : Int)) = False := by simp; omega
  (refine gw2 @e @h1 ?_; try exact True.intro)
  (repeat (refine And.intro (by omega) ?_))
  exact h
def I26 (n : Nat) (s : List (BitVec 8)) (B : Option Blk) (H : Heap) (k : Nat) (st : St) : Prop :=
  ∃ (i : Nat) (u1 u2 u3 : AV), st = ⟨[.int (n : Int), .str s, .ptr H.length 0 [0] (.st [.leaf, .leaf]), .int 0, .ptr (H.length + 3) 0 [0] (.st [.leaf, .leaf]), .int 0, u1, u2, .bool false, .bool false, .int s.length, .int (i : Int), u3, .un],
    H ++ [rblk, B, wblk n (cut (8 * i) (sf s)), vblk n (H.length + 2)]⟩ ∧ k = s.length - i ∧ i ≤ s.length
theorem f26 {K : AV → Heap → Prop} {H : Heap} {n : Nat} {s : List (BitVec 8)} (hn : n ≤ 4194304) (hs : s.length = ny n) (h : (Rb n s → K (.tup [.agg [.int 0, .nils], .int 13]) H) ∧ (¬ Rb n s → K (.tup [vec n (sf s), .int 0]) H)) : wpF P [] 26 [.int (n : Int), .str s] H K := by
  refine wpF_go c26 rfl 4 ?_
  intro ha hb
  simp only [s26]
  have e2 : H.length + 1 + 1 = H.length + 2 := rfl
  (refine gw0 ?_; try exact True.intro)
  refine f13 hn ?_
  intro B
  have e : Int.tdiv ((n : Int) + 7) 8 = ((ny n : Nat) : Int) := tdiv8 (n + 7)
  have hy : ny n ≤ 4194304 := by unfold ny; omega
  have h1 : ((s.length : Int) = (ny n : Int)) = True := by simp; omega
  (refine gw3 @e2 @e @h1 ?_; try exact True.intro)
  (repeat (refine And.intro (by omega) ?_))
  refine wp_inv (I26 n s B H) s.length ⟨0, _, _, _, by rw [Nat.mul_zero, cut_zero]; rfl, rfl, by omega⟩ ?_
  rintro k st ⟨i, u1, u2, u3, rfl, rfl, hi⟩
  unfold wblk vblk rblk
  by_cases hil : i < s.length
  · have h2 : ((i : Int) < (s.length : Int)) = True := by simp; omega
    have hd := tdiv8 i
    have hm := tmod8 i
    have he : (BitVec.ofInt 64 (8 * ((i % 8 : Nat) : Int))).toNat = 8 * (i % 8) := ofInt64_nat (i := 8 * (i % 8)) (by omega)
    have hwi : i / 8 < nw n := by unfold nw; unfold ny at hs; omega
    have hg : (wdA n (cut (8 * i) (sf s))).getD (i / 8) .un = .u64 (wd (cut (8 * i) (sf s)) (i / 8)) := ld_rng hwi
    have hget := lget_at (ps := wdA n (cut (8 * i) (sf s))) (i := i / 8) (by rw [wdA_len]; exact hwi)
    have hby := wdA_byte (n := n) (s := s) i
    (refine gw7 @h2 @hd @hm @he @hg @hget @hby ?_; try exact True.intro)
    (repeat (refine And.intro (by omega) ?_))
    exact ⟨s.length - (i + 1), by omega, i + 1, _, _, _, rfl, rfl, by omega⟩
  · have h2 : ((i : Int) < (s.length : Int)) = False := by simp; omega
    have hie : i = s.length := by omega
    subst hie
    rw [cut_sf]
    have hm := tmod8 n
    have hbi := rb_iff hs
    by_cases h8 : n % 8 = 0
    · have e8 : ((n % 8 : Nat) : Int) = 0 := by rw [h8]; rfl
      have hnr : ¬ Rb n s := fun hr => (hbi.1 hr).1 h8
      (refine gw4 @h2 @hm @e8 @demA ?_; try exact True.intro)
      exact h.2 hnr
    · have e8 : (((n % 8 : Nat) : Int) = 0) = False := by simp; omega
      have hs8 := sh8 n
      have hk : (s.length : Int) - 1 = ((s.length - 1 : Nat) : Int) := by unfold ny at hs; omega
      have hlt : s.length - 1 < s.length := by unfold ny at hs; omega
      have hlt2 : (((s.length - 1 : Nat) : Int) < (s.length : Int)) = True := by simp; omega
      by_cases hz : (s.getD (s.length - 1) 0) >>> (n % 8) = 0
      · have hnr : ¬ Rb n s := fun hr => (hbi.1 hr).2 hz
        have hzt : ((s.getD (s.length - 1) 0) >>> (n % 8) = 0) = True := eq_true hz
        (refine gw8 @h2 @hm @e8 @hs8 @hk @hlt2 @hzt @demA ?_; try exact True.intro)
        (repeat (refine And.intro (by omega) ?_))
        exact h.2 hnr
      · have hr : Rb n s := hbi.2 ⟨h8, hz⟩
        have hzt : ((s.getD (s.length - 1) 0) >>> (n % 8) = 0) = False := eq_false hz
        (refine gw7 @h2 @hm @e8 @hs8 @hk @hlt2 @hzt ?_; try exact True.intro)
        (repeat (refine And.intro (by omega) ?_))
        exact h.1 hr

/-! the reference -/
theorem ny_sum (n : Nat) : ((n / 8 : Nat) : Int) + (((n % 8 + 7) / 8 : Nat) : Int) = ((ny n : Nat) : Int) := by unfold ny; omega
theorem f27e {K : AV → Heap → Prop} {H : Heap} {n : Int} {s : List (BitVec 8)} (hn : n < 0 ∨ 4194304 < n) (h : K (.tup [.nils, .int 2]) H) : wpF P [] 27 [.int n, .str s] H K := by
  refine wpF_go c27 rfl 4 ?_
  intro ha hb
  simp only [s27]
  by_cases h0 : n < 0
  · (refine gw1 @h0 ?_; try exact True.intro)
    exact h
  · have h1 : (4194304 : Int) < n := by omega
    (refine gw2 @h0 @h1 ?_; try exact True.intro)
    exact h
theorem f27s {K : AV → Heap → Prop} {H : Heap} {n : Nat} {s : List (BitVec 8)} (hn : n ≤ 4194304) (hs : s.length ≠ ny n) (h : K (.tup [.nils, .int 11]) H) : wpF P [] 27 [.int (n : Int), .str s] H K := by
  refine wpF_go c27 rfl 4 ?_
  intro ha hb
  simp only [s27]
  have h0 : ((n : Int) < 0) = False := by simp
  have h1 : ((4194304 : Int) < (n : Int)) = False := by simp; omega
  have hd := tdiv8 n
  have hm := tmod8 n
  have hd2 : Int.tdiv (((n % 8 : Nat) : Int) + 7) 8 = (((n % 8 + 7) / 8 : Nat) : Int) := tdiv8 (n % 8 + 7)
  have hsum := ny_sum n
  have hy : ny n ≤ 4194304 := by unfold ny; omega
  have h2 : ((s.length : Int) = (ny n : Int)) = False := by simp; omega
  (refine gw7 @h0 @h1 @hd @hm @hd2 @hsum @h2 ?_; try exact True.intro)
  (repeat (refine And.intro (by omega) ?_))
  exact h
def I27 (n : Nat) (s : List (BitVec 8)) (H : Heap) (k : Nat) (st : St) : Prop :=
  ∃ (i : Nat) (u1 u2 u3 u4 : AV) (out : AV) (L : Heap), st = ⟨[.int (n : Int), .str s, .nils, .int 0, out, .int (i : Int), u1, .bool false, .bool false, u2, u3, u4], H ++ L⟩ ∧ k = 8 * s.length - i ∧ i ≤ 8 * s.length ∧
    apd 4 H.length (fun i => .bool (sf s i)) (min i n) out L ∧ ∀ j, n ≤ j → j < i → sf s j = false
theorem f27 {K : AV → Heap → Prop} {H : Heap} {n : Nat} {s : List (BitVec 8)} (hn : n ≤ 4194304) (hs : s.length = ny n)
    (h : (Rb n s → K (.tup [.nils, .int 13]) H) ∧ (¬ Rb n s → K (.tup [if n = 0 then .nils else .ro .leaf ((List.range n).map fun i => .bool (sf s i)), .int 0]) H)) : wpF P [] 27 [.int (n : Int), .str s] H K := by
  refine wpF_go c27 rfl 4 ?_
  intro ha hb
  simp only [s27]
  have h0 : ((n : Int) < 0) = False := by simp
  have h1 : ((4194304 : Int) < (n : Int)) = False := by simp; omega
  have hd := tdiv8 n
  have hm := tmod8 n
  have hd2 : Int.tdiv (((n % 8 : Nat) : Int) + 7) 8 = (((n % 8 + 7) / 8 : Nat) : Int) := tdiv8 (n % 8 + 7)
  have hsum := ny_sum n
  have hy : ny n ≤ 4194304 := by unfold ny; omega
  have hyn : n ≤ 8 * ny n := by unfold ny; omega
  have h2 : ((s.length : Int) = (ny n : Int)) = True := by simp; omega
  (refine gw7 @h0 @h1 @hd @hm @hd2 @hsum @h2 ?_; try exact True.intro)
  (repeat (refine And.intro (by omega) ?_))
  clear hd hm hd2 hsum
  refine wp_inv (I27 n s H) (8 * s.length) ⟨0, _, _, _, _, _, [], by rw [List.append_nil]; rfl, rfl, by omega, .inl ⟨by omega, rfl, rfl⟩, fun j _ hj => by omega⟩ ?_
  rintro k st ⟨i, u1, u2, u3, u4, out, L, rfl, rfl, hi, ho, hno⟩
  have e8 : (8 : Int) * (s.length : Int) = ((8 * s.length : Nat) : Int) := by omega
  by_cases hil : i < 8 * s.length
  · have h3 : ((i : Int) < ((8 * s.length : Nat) : Int)) = True := by simp; omega
    have hd := tdiv8 i
    have hm := tmod8 i
    have hs8 := sh8 i
    have hlt : (((i / 8 : Nat) : Int) < (s.length : Int)) = True := by simp; omega
    have hn2 : ((2 : BitVec 8) = 0) = False := by decide
    have hbit : decide ((s.getD (i / 8) 0) >>> (i % 8) % 2 = 1) = sf s i := bit_mod8 _ _
    by_cases hin : i < n
    · have h4 : ((n : Int) ≤ (i : Int)) = False := by simp; omega
      have h5 : ((i : Int) < (n : Int)) = True := by simp; omega
      rw [Nat.min_eq_left (by omega)] at ho
      have hsn := rng_snoc (F := fun i => AV.bool (sf s i)) (i := i)
      have hmin : min (i + 1) n = i + 1 := by omega
      rcases ho with ⟨rfl, rfl, rfl⟩ | ⟨hpos, rfl, T, J, rfl⟩
      · have h3 : ((0 : Int) < ((8 * s.length : Nat) : Int)) = True := by simp; omega
        have h4 : ((n : Int) ≤ 0) = False := by simp; omega
        have h5 : ((0 : Int) < (n : Int)) = True := by simp; omega
        have hlt : ((0 : Int) < (s.length : Int)) = True := by simp; omega
        have hbit : decide ((s.getD 0 0) % 2 = 1) = sf s 0 := by
          have := hbit
          rwa [show 0 % 8 = 0 from rfl, show 0 / 8 = 0 from rfl, BitVec.ushiftRight_zero] at this
        have hz : ∀ x : BitVec 8, x >>> 0 = x := fun x => BitVec.ushiftRight_zero x
        (refine gw8 @e8 @h3 @h4 @h5 @hlt @hn2 @hz @hbit ?_; try exact True.intro)
        (repeat (refine And.intro (by omega) ?_))
        refine ⟨8 * s.length - 1, by omega, 1, _, _, _, _, _, _, rfl, rfl, by omega, ?_, fun j h1 h2 => by omega⟩
        rw [hmin]
        exact .inr ⟨by omega, rfl, _, [], rfl⟩
      · (refine gw11 @e8 @h3 @h4 @h5 @hd @hm @hs8 @hlt @hn2 @hbit @hsn ?_; try exact True.intro)
        (repeat (refine And.intro (by omega) ?_))
        refine ⟨8 * s.length - (i + 1), by omega, i + 1, _, _, _, _, _, _, rfl, rfl, by omega, ?_, fun j h1 h2 => by omega⟩
        rw [hmin]
        exact .inr ⟨by omega, rfl, _, _, rfl⟩
    · have h4 : ((n : Int) ≤ (i : Int)) = True := by simp; omega
      have h5 : ((i : Int) < (n : Int)) = False := by simp; omega
      rw [Nat.min_eq_right (by omega)] at ho
      have hmin : min (i + 1) n = n := by omega
      cases hb2 : sf s i with
      | true =>
        rw [hb2] at hbit
        rcases ho with ⟨_, rfl, rfl⟩ | ⟨hpos, rfl, T, J, rfl⟩
        · (refine gw9 @e8 @h3 @h4 @hd @hm @hs8 @hlt @hn2 @hbit ?_; try exact True.intro)
          (repeat (refine And.intro (by omega) ?_))
          exact h.1 ⟨i, by omega, hb2⟩
        · (refine gw9 @e8 @h3 @h4 @hd @hm @hs8 @hlt @hn2 @hbit ?_; try exact True.intro)
          (repeat (refine And.intro (by omega) ?_))
          exact h.1 ⟨i, by omega, hb2⟩
      | false =>
        rw [hb2] at hbit
        (refine gw10 @e8 @h3 @h4 @h5 @hd @hm @hs8 @hlt @hn2 @hbit ?_; try exact True.intro)
        (repeat (refine And.intro (by omega) ?_))
        refine ⟨8 * s.length - (i + 1), by omega, i + 1, _, _, _, _, _, _, rfl, rfl, by omega, ?_, fun j h1 h2 => ?_⟩
        · rw [hmin]; exact ho
        · by_cases hji : j = i
          · subst hji; exact hb2
          · exact hno j h1 (by omega)
  · have h3 : ((i : Int) < ((8 * s.length : Nat) : Int)) = False := by simp; omega
    have hie : i = 8 * s.length := by omega
    have hnr : ¬ Rb n s := by
      rintro ⟨j, h1, h2⟩
      rcases Nat.lt_or_ge j i with h | h
      · rw [hno j h1 h] at h2; cases h2
      · rw [sf_out (by omega)] at h2; cases h2
    have hf := h.2 hnr
    rw [Nat.min_eq_right (by omega)] at ho
    rcases ho with ⟨hz, rfl, rfl⟩ | ⟨hpos, rfl, T, J, rfl⟩
    · rw [if_pos hz] at hf
      (refine gw2 @e8 @h3 ?_; try exact True.intro)
      exact ⟨by omega, by omega, hf⟩
    · rw [if_neg (by omega)] at hf
      have ht : ∀ {kp : Nat → Bool} {N : Nat} {h : Heap}, mapO (demK kp N h 2) (List.take n ((List.range n).map fun i => AV.bool (sf s i))) = some ((List.range n).map fun i => AV.bool (sf s i)) := by
        intro kp N h; rw [List.take_of_length_le (by simp)]; exact mapO_bool
      (refine gw3 @e8 @h3 @ht ?_; try exact True.intro)
      exact ⟨by omega, by omega, hf⟩
end Go.Proofs.Ytnnopgichjnhdaa
