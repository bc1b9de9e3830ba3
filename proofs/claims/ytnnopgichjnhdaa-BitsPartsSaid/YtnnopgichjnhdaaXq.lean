/-
  Layer 2 (bits): a part of bits.
-/
import Derived.Test.YtnnopgichjnhdaaXc
import Derived.Test.YtnnopgichjnhdaaV38
open Go Go.V
namespace Go.Proofs.Ytnnopgichjnhdaa
set_option maxRecDepth 100000
set_option linter.unusedSimpArgs false
set_option linter.unusedVariables false
/-- (trefoil/bits.Vec).word (0:v, 1:at, 2:v, 4:, 5:i, 6:r, 7:x, 17:, 34:) -/
def s44 : FnS := ⟨47, [0, 1, 2, 4, 5, 6, 7, 17, 34],
    (.seq (.reg [⟨.var 2, (.e (.box 26 (.st [.leaf, .leaf]))), [.t 0], none⟩,
      ⟨.var 3, (.q .mv), [.c (.u64 0)], none⟩])
    (.seq (.reg [⟨.new, (.q .mv), [.t 1], none⟩,
      ⟨.new, (.q (.bin .quo)), [.t 9, .c (.int 64)], none⟩,
      ⟨.new, (.q .mv), [.t 1], none⟩,
      ⟨.new, (.q (.bin .rem)), [.t 11, .c (.int 64)], none⟩,
      ⟨.new, (.q (.cv .u64)), [.t 12], none⟩,
      ⟨.var 4, (.q .mv), [.t 10], none⟩,
      ⟨.var 5, (.q .mv), [.t 13], none⟩])
    (.seq (.reg [⟨.var 6, (.q .mv), [.c (.u64 0)], none⟩])
    (.seq (.seq (.reg [⟨.new, (.q .mv), [.t 4], none⟩,
      ⟨.new, (.q (.fa [.leaf, .leaf] 1)), [.t 2], none⟩,
      ⟨.new, (.q (.ld .leaf)), [.t 10], none⟩,
      ⟨.new, (.q .len), [.t 11], none⟩,
      ⟨.var 7, (.q (.bin .lss)), [.t 9, .t 12], none⟩])
    (.cond (.t 7) (.reg [⟨.new, (.q (.fa [.leaf, .leaf] 1)), [.t 2], none⟩,
      ⟨.new, (.q (.ld .leaf)), [.t 9], none⟩,
      ⟨.new, (.q .mv), [.t 4], none⟩,
      ⟨.new, (.q (.iaS .leaf)), [.t 10, .t 11], none⟩,
      ⟨.new, (.q (.ld .leaf)), [.t 12], none⟩,
      ⟨.new, (.q .mv), [.t 5], none⟩,
      ⟨.new, (.q (.bin .shr)), [.t 13, .t 14], none⟩,
      ⟨.var 6, (.q .mv), [.t 15], none⟩])
    .skip))
    (.seq (.seq (.reg [⟨.new, (.q .mv), [.t 5], none⟩,
      ⟨.new, (.q (.bin .gtr)), [.t 9, .c (.u64 0)], none⟩,
      ⟨.new, (.q .mv), [.t 10], none⟩,
      ⟨.new, (.q .mv), [.t 4], (some (11, true))⟩,
      ⟨.new, (.q (.bin .add)), [.t 12, .c (.int 1)], (some (11, true))⟩,
      ⟨.new, (.q (.fa [.leaf, .leaf] 1)), [.t 2], (some (11, true))⟩,
      ⟨.new, (.q (.ld .leaf)), [.t 14], (some (11, true))⟩,
      ⟨.new, (.q .len), [.t 15], (some (11, true))⟩,
      ⟨.new, (.q (.bin .lss)), [.t 13, .t 16], (some (11, true))⟩,
      ⟨.var 8, (.q .pick), [.t 11, .t 17, .c (.bool false)], none⟩])
    (.cond (.t 8) (.reg [⟨.new, (.q .mv), [.t 6], none⟩,
      ⟨.new, (.q (.fa [.leaf, .leaf] 1)), [.t 2], none⟩,
      ⟨.new, (.q (.ld .leaf)), [.t 10], none⟩,
      ⟨.new, (.q .mv), [.t 4], none⟩,
      ⟨.new, (.q (.bin .add)), [.t 12, .c (.int 1)], none⟩,
      ⟨.new, (.q (.iaS .leaf)), [.t 11, .t 13], none⟩,
      ⟨.new, (.q (.ld .leaf)), [.t 14], none⟩,
      ⟨.new, (.q .mv), [.t 5], none⟩,
      ⟨.new, (.q (.bin .sub)), [.c (.u64 64), .t 16], none⟩,
      ⟨.new, (.q (.bin .shl)), [.t 15, .t 17], none⟩,
      ⟨.new, (.q (.bin .or)), [.t 9, .t 18], none⟩,
      ⟨.var 6, (.q .mv), [.t 19], none⟩])
    .skip))
    (.seq (.reg [⟨.new, (.q .mv), [.t 6], none⟩,
      ⟨.var 3, (.q .mv), [.t 9], none⟩])
    .ret)))))),
    [.t 3]⟩

/-- (trefoil/bits.Vec).Part (0:v, 1:from, 2:to, 3:v, 6:, 7:, 8:out, 9:i, 22:, 35:, 36:, 37:) -/
def s30 : FnS := ⟨53, [0, 1, 2, 3, 6, 7, 8, 9, 22, 35, 36, 37],
    (.seq (.reg [⟨.var 3, (.e (.box 26 (.st [.leaf, .leaf]))), [.t 0], none⟩,
      ⟨.var 4, (.e (.alloc 26 (.st [.leaf, .leaf]) (.agg [(.int 0), .nils]))), [], none⟩,
      ⟨.var 5, (.q .mv), [.c (.int 0)], none⟩])
    (.seq (.seq (.reg [⟨.new, (.q .mv), [.t 1], none⟩,
      ⟨.new, (.q (.bin .lss)), [.t 12, .c (.int 0)], none⟩,
      ⟨.new, (.q .mv), [.t 13], none⟩,
      ⟨.new, (.q .mv), [.t 1], (some (14, false))⟩,
      ⟨.new, (.q .mv), [.t 2], (some (14, false))⟩,
      ⟨.new, (.q (.bin .gtr)), [.t 15, .t 16], (some (14, false))⟩,
      ⟨.new, (.q .pick), [.t 14, .c (.bool true), .t 17], none⟩,
      ⟨.new, (.q .mv), [.t 18], none⟩,
      ⟨.new, (.q .mv), [.t 2], (some (19, false))⟩,
      ⟨.new, (.q (.fa [.leaf, .leaf] 0)), [.t 3], (some (19, false))⟩,
      ⟨.new, (.q (.ld .leaf)), [.t 21], (some (19, false))⟩,
      ⟨.new, (.q (.bin .gtr)), [.t 20, .t 22], (some (19, false))⟩,
      ⟨.var 8, (.q .pick), [.t 19, .c (.bool true), .t 23], none⟩])
    (.cond (.t 8) (.seq (.reg [⟨.new, (.e (.bld (.st [.leaf, .leaf]) (.agg [(.int 0), .nils]) [])), [], none⟩,
      ⟨.none, (.e (.store (.st [.leaf, .leaf]))), [.t 4, .t 12], none⟩,
      ⟨.var 5, (.q .mv), [.c (.int 1)], none⟩])
    .ret)
    .skip))
    (.seq (.reg [⟨.new, (.q .mv), [.t 2], none⟩,
      ⟨.new, (.q .mv), [.t 1], none⟩,
      ⟨.new, (.q (.bin .sub)), [.t 12, .t 13], none⟩,
      ⟨.new, (.q .mv), [.t 2], none⟩,
      ⟨.new, (.q .mv), [.t 1], none⟩,
      ⟨.new, (.q (.bin .sub)), [.t 15, .t 16], none⟩,
      ⟨.new, (.call 36), [.t 17], none⟩,
      ⟨.new, (.e (.mksl 55 .leaf 8 (.u64 0))), [.t 18, .t 18], none⟩,
      ⟨.new, (.e (.bld (.st [.leaf, .leaf]) (.agg [(.int 0), .nils]) [0, 1])), [.t 14, .t 19], none⟩,
      ⟨.var 6, (.e (.alloc 26 (.st [.leaf, .leaf]) (.agg [(.int 0), .nils]))), [], none⟩,
      ⟨.none, (.e (.store (.st [.leaf, .leaf]))), [.t 6, .t 20], none⟩])
    (.seq (.seq (.reg [⟨.new, (.q (.fa [.leaf, .leaf] 1)), [.t 6], none⟩,
      ⟨.new, (.q (.ld .leaf)), [.t 12], none⟩,
      ⟨.var 9, (.q .len), [.t 13], none⟩,
      ⟨.var 10, (.q .mv), [.c (.int 0)], none⟩])
    (.block 0 (.loop (.seq (.reg [⟨.var 11, (.q (.bin .lss)), [.t 10, .t 9], none⟩])
    (.seq (.cond (.t 11) .skip
    (.exit 0))
    (.seq (.block 1 (.seq (.reg [⟨.new, (.q .mv), [.t 10], none⟩,
      ⟨.var 7, (.q .mv), [.t 12], none⟩])
    (.draw [⟨.new, (.q (.fa [.leaf, .leaf] 1)), [.t 6], none⟩,
      ⟨.new, (.q (.ld .leaf)), [.t 12], none⟩,
      ⟨.new, (.q .mv), [.t 7], none⟩,
      ⟨.new, (.q (.ld (.st [.leaf, .leaf]))), [.t 3], none⟩,
      ⟨.new, (.q .mv), [.t 1], none⟩,
      ⟨.new, (.q .mv), [.t 7], none⟩,
      ⟨.new, (.q (.bin .mul)), [.c (.int 64), .t 17], none⟩,
      ⟨.new, (.q (.bin .add)), [.t 16, .t 18], none⟩,
      ⟨.new, (.call 44), [.t 15, .t 19], none⟩,
      ⟨.new, (.q (.iaS .leaf)), [.t 13, .t 14], none⟩,
      ⟨.none, (.e (.store .leaf)), [.t 21, .t 20], none⟩])))
    (.reg [⟨.new, (.q (.bin .add)), [.t 10, .c (.int 1)], none⟩,
      ⟨.var 10, (.q .mv), [.t 12], none⟩])))))))
    (.seq (.reg [⟨.new, (.q (.ld (.st [.leaf, .leaf]))), [.t 6], none⟩,
      ⟨.new, (.call 37), [.t 12], none⟩])
    (.seq (.reg [⟨.new, (.q (.ld (.st [.leaf, .leaf]))), [.t 6], none⟩,
      ⟨.none, (.e (.store (.st [.leaf, .leaf]))), [.t 4, .t 12], none⟩,
      ⟨.var 5, (.q .mv), [.c (.int 0)], none⟩])
    .ret)))))),
    [.cell 4 (.st [.leaf, .leaf]), .t 5]⟩

theorem c44 : cF P [] (drP P []) 44 2 s44.vm = some s44 := by kernel_rfl
theorem c30 : cF P [] (drP P []) 30 3 s30.vm = some s30 := by kernel_rfl
/-- 64 bits from a place on -/
theorem wd_at {n a : Nat} {f : Nat → Bool} : wd (fun j => cut (64 * nw n) f (a + j)) 0 =
    (if a / 64 < nw n then wd f (a / 64) >>> (a % 64) else 0) ||| (if 0 < a % 64 ∧ a / 64 + 1 < nw n then wd f (a / 64 + 1) <<< (64 - a % 64) else 0) := by
  symm
  apply wd_of
  intro j hj
  rw [BitVec.getLsbD_or]
  have e1 : (if a / 64 < nw n then wd f (a / 64) >>> (a % 64) else (0 : BitVec 64)).getLsbD j = (decide (a / 64 < nw n) && decide (a % 64 + j < 64) && f (a + j)) := by
    by_cases h : a / 64 < nw n
    · rw [if_pos h, BitVec.getLsbD_ushiftRight]
      by_cases h2 : a % 64 + j < 64
      · rw [wd_bit h2, show 64 * (a / 64) + (a % 64 + j) = a + j by omega]; simp [h, h2]
      · rw [BitVec.getLsbD_of_ge _ _ (by omega)]; simp [h2]
    · rw [if_neg h]; simp [h]
  have e2 : (if 0 < a % 64 ∧ a / 64 + 1 < nw n then wd f (a / 64 + 1) <<< (64 - a % 64) else (0 : BitVec 64)).getLsbD j = (decide (a / 64 + 1 < nw n) && decide (64 ≤ a % 64 + j) && f (a + j)) := by
    by_cases h : 0 < a % 64 ∧ a / 64 + 1 < nw n
    · rw [if_pos h, BitVec.getLsbD_shiftLeft]
      by_cases h2 : 64 ≤ a % 64 + j
      · have h3 : ¬ j < 64 - a % 64 := by omega
        rw [wd_bit (by omega), show 64 * (a / 64 + 1) + (j - (64 - a % 64)) = a + j by omega]; simp [h.2, h2, h3, hj]
      · have h3 : j < 64 - a % 64 := by omega
        simp [h2, h3]
    · rw [if_neg h]
      by_cases h2 : 64 ≤ a % 64 + j
      · have : ¬ (a / 64 + 1 < nw n) := fun h4 => h ⟨by omega, h4⟩
        simp [this]
      · simp [h2]
  rw [e1, e2]
  unfold cut
  simp only [Nat.mul_zero, Nat.zero_add]
  by_cases h1 : a % 64 + j < 64
  · have h2 : ¬ 64 ≤ a % 64 + j := by omega
    have h3 : (a + j < 64 * nw n) ↔ (a / 64 < nw n) := by omega
    simp [h1, h2, h3]
  · have h2 : 64 ≤ a % 64 + j := by omega
    have h3 : (a + j < 64 * nw n) ↔ (a / 64 + 1 < nw n) := by omega
    simp [h1, h2, h3]

theorem f44 {K : AV → Heap → Prop} {H : Heap} {n a : Nat} {f : Nat → Bool} (hn : n ≤ 100000000) (ha : a ≤ 1000000000) (h : K (.u64 (wd (fun j => cut (64 * nw n) f (a + j)) 0)) H) : wpF P [] 44 [vec n f, .int (a : Int)] H K := by
  refine wpF_go c44 rfl 3 ?_
  intro hA hb
  simp only [s44, vec]
  rw [wd_at] at h
  have orz : ∀ x : BitVec 64, x ||| 0 = x := fun x => BitVec.or_zero
  have hd := tdiv64 a
  have hm := tmod64 a
  have hs := sh64 a
  have hlen : (wdA n f).length = nw n := wdA_len
  have hnw : nw n ≤ 100000000 := by unfold nw; omega
  have hgt : ((0 : BitVec 64) < BitVec.ofInt 64 ((a % 64 : Nat) : Int)) = (0 < a % 64) := by
    rw [BitVec.lt_def, hs]; rfl
  have hsub : ((64 : BitVec 64) - BitVec.ofInt 64 ((a % 64 : Nat) : Int)).toNat = 64 - a % 64 := by
    rw [BitVec.toNat_sub, hs]
    have : (64 : BitVec 64).toNat = 64 := rfl
    rw [this]; omega
  have hi1 : ((a / 64 : Nat) : Int) + 1 = ((a / 64 + 1 : Nat) : Int) := by omega
  have hb1 : (((a / 64 : Nat) : Int)) ≤ 1000000000 := by omega
  by_cases h1 : a / 64 < nw n
  · rw [if_pos h1] at h
    have t1 : (((a / 64 : Nat) : Int) < (nw n : Int)) = True := by simp; omega
    have g1 : (wdA n f).getD (a / 64) .un = .u64 (wd f (a / 64)) := ld_rng h1
    by_cases h2 : 0 < a % 64
    · have t2 : (0 < a % 64) = True := eq_true h2
      by_cases h3 : a / 64 + 1 < nw n
      · rw [if_pos ⟨h2, h3⟩] at h
        have t3 : (((a / 64 + 1 : Nat) : Int) < (nw n : Int)) = True := by simp; omega
        have g2 : (wdA n f).getD (a / 64 + 1) .un = .u64 (wd f (a / 64 + 1)) := ld_rng h3
        (refine gw12 @hd @hm @hlen @t1 @g1 @hs @hgt @t2 @hi1 @t3 @g2 @hsub ?_; try exact True.intro)
        (repeat (refine And.intro (by omega) ?_))
        exact h
      · rw [if_neg (fun x => h3 x.2), orz] at h
        have t3 : (((a / 64 + 1 : Nat) : Int) < (nw n : Int)) = False := by simp; omega
        (refine gw10 @hd @hm @hlen @t1 @g1 @hs @hgt @t2 @hi1 @t3 ?_; try exact True.intro)
        (repeat (refine And.intro (by omega) ?_))
        exact h
    · have t2 : (0 < a % 64) = False := eq_false h2
      rw [if_neg (fun x => h2 x.1), orz] at h
      (refine gw8 @hd @hm @hlen @t1 @g1 @hs @hgt @t2 ?_; try exact True.intro)
      (repeat (refine And.intro (by omega) ?_))
      exact h
  · rw [if_neg h1, if_neg (by omega), orz] at h
    have t1 : (((a / 64 : Nat) : Int) < (nw n : Int)) = False := by simp; omega
    by_cases h2 : 0 < a % 64
    · have t2 : (0 < a % 64) = True := eq_true h2
      have t3 : (((a / 64 + 1 : Nat) : Int) < (nw n : Int)) = False := by simp; omega
      (refine gw9 @hd @hm @hlen @t1 @hs @hgt @t2 @hi1 @t3 ?_; try exact True.intro)
      (repeat (refine And.intro (by omega) ?_))
      exact h
    · have t2 : (0 < a % 64) = False := eq_false h2
      (refine gw7 @hd @hm @hlen @t1 @hs @hgt @t2 ?_; try exact True.intro)
      (repeat (refine And.intro (by omega) ?_))
      exact h

/-- a part that isn't there -/
theorem f30e {K : AV → Heap → Prop} {H : Heap} {n : Nat} {f : Nat → Bool} {a b : Int} (hab : a < 0 ∨ b < a ∨ (n : Int) < b) (h : K (.tup [.agg [.int 0, .nils], .int 1]) H) : wpF P [] 30 [vec n f, .int a, .int b] H K := by
  refine wpF_go c30 rfl 4 ?_
  intro hA hb
  simp only [s30, vec]
  by_cases h1 : a < 0
  · (refine gw1 @h1 ?_; try exact True.intro)
    exact h
  by_cases h2 : b < a
  · (refine gw2 @h1 @h2 ?_; try exact True.intro)
    exact h
  have h3 : (n : Int) < b := by omega
  (refine gw3 @h1 @h2 @h3 ?_; try exact True.intro)
  exact h
def I30 (n : Nat) (f : Nat → Bool) (a b : Nat) (H : Heap) (k : Nat) (st : St) : Prop :=
  ∃ (i : Nat) (u1 u2 : AV), st = ⟨[.agg [.int (n : Int), .ro .leaf (wdA n f)], .int (a : Int), .int (b : Int), .ptr H.length 0 [0] (.st [.leaf, .leaf]), .ptr (H.length + 1) 0 [0] (.st [.leaf, .leaf]), .int 0, .ptr (H.length + 3) 0 [0] (.st [.leaf, .leaf]), u1, .bool false, .int (nw (b - a) : Nat), .int (i : Int), u2],
    H ++ [bxv n f, rblk, some ⟨55, 0, true, .arr (nw (b - a)) .leaf, .agg (fillL (fun k => .u64 (wd (fun j => cut (64 * nw n) f (a + j)) k)) (.u64 0) (nw (b - a)) i)⟩, vblk (b - a) (H.length + 2)]⟩ ∧ k = nw (b - a) - i ∧ i ≤ nw (b - a)
theorem f30 {K : AV → Heap → Prop} {H : Heap} {n : Nat} {f : Nat → Bool} {a b : Nat} (hn : n ≤ 100000000) (hab : a ≤ b) (hbn : b ≤ n) (h : K (.tup [vec (b - a) (cut (b - a) fun j => f (a + j)), .int 0]) H) : wpF P [] 30 [vec n f, .int (a : Int), .int (b : Int)] H K := by
  refine wpF_go c30 rfl 4 ?_
  intro hA hb
  simp only [s30, vec]
  have h1 : ((a : Int) < 0) = False := by simp
  have h2 : ((b : Int) < (a : Int)) = False := by simp; omega
  have h3 : ((n : Int) < (b : Int)) = False := by simp; omega
  have e1 : (b : Int) - (a : Int) = ((b - a : Nat) : Int) := by omega
  (refine gw4 @h1 @h2 @h3 @e1 ?_; try exact True.intro)
  (repeat (refine And.intro (by omega) ?_))
  refine f36 (by omega) ?_
  have hnw : nw (b - a) ≤ 100000000 := by unfold nw; omega
  (refine gw0 ?_; try exact True.intro)
  (repeat (refine And.intro (by omega) ?_))
  refine wp_inv (I30 n f a b H) (nw (b - a)) ⟨0, _, _, by rw [fill_zero]; rfl, rfl, by omega⟩ ?_
  rintro k st ⟨i, u1, u2, rfl, rfl, hi⟩
  unfold bxv rblk vblk
  by_cases hil : i < nw (b - a)
  · have t1 : ((i : Int) < (nw (b - a) : Int)) = True := by simp; omega
    have hget := lget_at (ps := fillL (fun k => AV.u64 (wd (fun j => cut (64 * nw n) f (a + j)) k)) (AV.u64 0) (nw (b - a)) i) (i := i) (by rw [fill_length (by omega)]; exact hil)
    have e2 : (a : Int) + 64 * (i : Int) = ((a + 64 * i : Nat) : Int) := by omega
    have e3 : wd (fun j => cut (64 * nw n) f (a + 64 * i + j)) 0 = wd (fun j => cut (64 * nw n) f (a + j)) i := by
      apply wd_of
      intro j hj
      rw [wd_bit hj, Nat.mul_zero, Nat.zero_add, Nat.add_assoc]
    (refine gw2 @t1 @e2 ?_; try exact True.intro)
    (repeat (refine And.intro (by omega) ?_))
    have hbd : 64 * nw (b - a) ≤ (b - a) + 63 := by unfold nw; omega
    refine drawn _ (f44 (n := n) (f := f) hn (by omega) ⟨rfl, rfl⟩) ?_
    rw [e3]
    (refine gw2 @t1 @hget ?_; try exact True.intro)
    (repeat (refine And.intro (by omega) ?_))
    exact ⟨nw (b - a) - (i + 1), by omega, i + 1, _, _, by rw [← fill_set hil]; rfl, rfl, by omega⟩
  · have t1 : ((i : Int) < (nw (b - a) : Int)) = False := by simp; omega
    have hie : i = nw (b - a) := by omega
    have hf : fillL (fun k => AV.u64 (wd (fun j => cut (64 * nw n) f (a + j)) k)) (AV.u64 0) (nw (b - a)) (nw (b - a)) = wdA (b - a) fun j => cut (64 * nw n) f (a + j) := by rw [fill_all]; rfl
    have hc : cut (b - a) (fun j => cut (64 * nw n) f (a + j)) = cut (b - a) fun j => f (a + j) := by
      funext j
      unfold cut
      by_cases hj : j < b - a
      · have : a + j < 64 * nw n := by unfold nw; omega
        simp [hj, this]
      · simp [hj]
    subst hie
    (refine gw2 @t1 @hf ?_; try exact True.intro)
    refine f37' (H0 := H ++ [bxv n f, rblk]) (L := [vblk (b - a) (H.length + 2)]) (f := fun j => cut (64 * nw n) f (a + j)) (by simp) (by simp [rblk, vblk, wblk, bxv]) (by omega) ?_
    rw [hc]
    unfold bxv wblk vblk rblk
    (refine gw1 @demA ?_; try exact True.intro)
    exact h
end Go.Proofs.Ytnnopgichjnhdaa
