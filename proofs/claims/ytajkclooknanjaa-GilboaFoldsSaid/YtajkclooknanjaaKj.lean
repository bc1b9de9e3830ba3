/-
  Layer 21 (gilboa): the reference's choices; sums folded; rows multiplied.
-/
import Derived.Test.YtajkclooknanjaaKh
import Derived.Test.YtajkclooknanjaaV38
import Derived.Test.YtajkclooknanjaaV44
section
open Go Go.V
namespace Go.Proofs.Ytajkclooknanjaa
/-- trefoil/trefoilref21.Choices (0:width, 1:as, 4:, 5:, 6:out, 7:i, 8:k, 16:, 20:, 25:) -/
def s8 : FnS := ⟨41, [0, 1, 4, 5, 6, 7, 8, 16, 20, 25],
    (.seq (.reg [⟨.var 2, (.q .mv), [.c .nils], none⟩,
      ⟨.var 3, (.q .mv), [.c (.int 0)], none⟩])
    (.seq (.seq (.reg [⟨.new, (.q .mv), [.t 0], none⟩,
      ⟨.new, (.call 18), [.t 10, .c (.int 1)], none⟩,
      ⟨.new, (.q .mv), [.t 11], none⟩,
      ⟨.new, (.q .mv), [.t 0], (some (12, false))⟩,
      ⟨.new, (.q .mv), [.t 1], (some (12, false))⟩,
      ⟨.new, (.call 29), [.t 13, .t 14], (some (12, false))⟩,
      ⟨.new, (.q (.un .not)), [.t 15], (some (12, false))⟩,
      ⟨.var 7, (.q .pick), [.t 12, .c (.bool true), .t 16], none⟩])
    (.cond (.t 7) (.seq (.reg [⟨.var 2, (.q .mv), [.c .nils], none⟩,
      ⟨.var 3, (.q .mv), [.c (.int 11)], none⟩])
    .ret)
    .skip))
    (.seq (.reg [⟨.var 4, (.q .mv), [.c .nils], none⟩])
    (.seq (.seq (.reg [⟨.var 5, (.q .mv), [.c (.int 0)], none⟩])
    (.block 0 (.loop (.seq (.seq (.reg [⟨.new, (.q .mv), [.t 5], none⟩,
      ⟨.new, (.q .mv), [.t 1], none⟩,
      ⟨.new, (.q .len), [.t 11], none⟩,
      ⟨.var 8, (.q (.bin .lss)), [.t 10, .t 12], none⟩])
    (.cond (.t 8) .skip
    (.exit 0)))
    (.seq (.block 1 (.seq (.reg [⟨.var 6, (.q .mv), [.c (.int 0)], none⟩])
    (.block 2 (.loop (.seq (.seq (.reg [⟨.new, (.q .mv), [.t 6], none⟩,
      ⟨.new, (.q .mv), [.t 0], none⟩,
      ⟨.var 9, (.q (.bin .lss)), [.t 10, .t 11], none⟩])
    (.cond (.t 9) .skip
    (.exit 2)))
    (.seq (.block 3 (.reg [⟨.new, (.q .mv), [.t 4], none⟩,
      ⟨.new, (.q .mv), [.t 1], none⟩,
      ⟨.new, (.q .mv), [.t 5], none⟩,
      ⟨.new, (.q (.iaS .leaf)), [.t 11, .t 12], none⟩,
      ⟨.new, (.q (.ld .leaf)), [.t 13], none⟩,
      ⟨.new, (.q .mv), [.t 6], none⟩,
      ⟨.new, (.q (.cv .u64)), [.t 15], none⟩,
      ⟨.new, (.q (.bin .shr)), [.t 14, .t 16], none⟩,
      ⟨.new, (.q (.bin .rem)), [.t 17, .c (.u64 2)], none⟩,
      ⟨.new, (.q (.bin .eql)), [.t 18, .c (.u64 1)], none⟩,
      ⟨.new, (.e (.bsl 4 .leaf (.bool false) 1 [0])), [.t 19], none⟩,
      ⟨.new, (.e (.app 4 .leaf 1)), [.t 10, .t 20], none⟩,
      ⟨.var 4, (.q .mv), [.t 21], none⟩]))
    (.reg [⟨.new, (.q .mv), [.t 6], none⟩,
      ⟨.new, (.q (.bin .add)), [.t 10, .c (.int 1)], none⟩,
      ⟨.var 6, (.q .mv), [.t 11], none⟩])))))))
    (.reg [⟨.new, (.q .mv), [.t 5], none⟩,
      ⟨.new, (.q (.bin .add)), [.t 10, .c (.int 1)], none⟩,
      ⟨.var 5, (.q .mv), [.t 11], none⟩]))))))
    (.seq (.reg [⟨.new, (.q .mv), [.t 4], none⟩,
      ⟨.var 2, (.q .mv), [.t 10], none⟩,
      ⟨.var 3, (.q .mv), [.c (.int 0)], none⟩])
    .ret))))),
    [.t 2, .t 3]⟩

/-- trefoil/gilboa.Fold (0:width, 1:n, 2:shares, 6:, 7:, 8:out, 9:at, 10:sum, 11:k, 30:, 39:, 47:, 48:, 49:) -/
def s13 : FnS := ⟨75, [0, 1, 2, 6, 7, 8, 9, 10, 11, 30, 39, 47, 48, 49],
    (.seq (.reg [⟨.var 3, (.q .mv), [.c .nils], none⟩,
      ⟨.var 4, (.q .mv), [.c (.int 0)], none⟩])
    (.seq (.seq (.reg [⟨.new, (.q .mv), [.t 0], none⟩,
      ⟨.new, (.q .mv), [.t 1], none⟩,
      ⟨.new, (.call 25), [.t 14, .t 15], none⟩,
      ⟨.new, (.q (.un .not)), [.t 16], none⟩,
      ⟨.new, (.q .mv), [.t 17], none⟩,
      ⟨.new, (.q .mv), [.t 2], (some (18, false))⟩,
      ⟨.new, (.q .len), [.t 19], (some (18, false))⟩,
      ⟨.new, (.q .mv), [.t 0], (some (18, false))⟩,
      ⟨.new, (.q .mv), [.t 1], (some (18, false))⟩,
      ⟨.new, (.q (.bin .mul)), [.t 21, .t 22], (some (18, false))⟩,
      ⟨.new, (.q (.bin .rem)), [.t 20, .t 23], (some (18, false))⟩,
      ⟨.new, (.q (.bin .neq)), [.t 24, .c (.int 0)], (some (18, false))⟩,
      ⟨.new, (.q .pick), [.t 18, .c (.bool true), .t 25], none⟩,
      ⟨.new, (.q .mv), [.t 26], none⟩,
      ⟨.new, (.q .mv), [.t 0], (some (27, false))⟩,
      ⟨.new, (.q .mv), [.t 2], (some (27, false))⟩,
      ⟨.new, (.call 26), [.t 28, .t 29], (some (27, false))⟩,
      ⟨.new, (.q (.un .not)), [.t 30], (some (27, false))⟩,
      ⟨.var 9, (.q .pick), [.t 27, .c (.bool true), .t 31], none⟩])
    (.cond (.t 9) (.seq (.reg [⟨.var 3, (.q .mv), [.c .nils], none⟩,
      ⟨.var 4, (.q .mv), [.c (.int 11)], none⟩])
    .ret)
    .skip))
    (.seq (.reg [⟨.new, (.q .mv), [.t 2], none⟩,
      ⟨.new, (.q .len), [.t 14], none⟩,
      ⟨.new, (.q .mv), [.t 0], none⟩,
      ⟨.new, (.q (.bin .quo)), [.t 15, .t 16], none⟩,
      ⟨.new, (.e (.mksl 44 .leaf 8 (.u64 0))), [.c (.int 0), .t 17], none⟩,
      ⟨.var 5, (.q .mv), [.t 18], none⟩])
    (.seq (.seq (.reg [⟨.var 6, (.q .mv), [.c (.int 0)], none⟩])
    (.block 0 (.loop (.seq (.seq (.reg [⟨.new, (.q .mv), [.t 6], none⟩,
      ⟨.new, (.q .mv), [.t 2], none⟩,
      ⟨.new, (.q .len), [.t 15], none⟩,
      ⟨.var 10, (.q (.bin .lss)), [.t 14, .t 16], none⟩])
    (.cond (.t 10) .skip
    (.exit 0)))
    (.seq (.block 1 (.seq (.reg [⟨.new, (.q .mv), [.t 1], none⟩,
      ⟨.new, (.e (.mksl 44 .leaf 8 (.u64 0))), [.t 14, .t 14], none⟩,
      ⟨.var 7, (.q .mv), [.t 15], none⟩])
    (.seq (.seq (.reg [⟨.var 11, (.q .mv), [.t 0], none⟩,
      ⟨.var 12, (.q .mv), [.c (.int 0)], none⟩])
    (.block 2 (.loop (.seq (.reg [⟨.var 13, (.q (.bin .lss)), [.t 12, .t 11], none⟩])
    (.seq (.cond (.t 13) .skip
    (.exit 2))
    (.seq (.block 3 (.seq (.reg [⟨.new, (.q .mv), [.t 12], none⟩,
      ⟨.var 8, (.q .mv), [.t 14], none⟩])
    (.reg [⟨.new, (.q .mv), [.t 0], none⟩,
      ⟨.new, (.q .mv), [.t 7], none⟩,
      ⟨.new, (.q .mv), [.t 2], none⟩,
      ⟨.new, (.q .mv), [.t 6], none⟩,
      ⟨.new, (.q .mv), [.t 8], none⟩,
      ⟨.new, (.q .mv), [.t 1], none⟩,
      ⟨.new, (.q (.bin .mul)), [.t 18, .t 19], none⟩,
      ⟨.new, (.q (.bin .add)), [.t 17, .t 20], none⟩,
      ⟨.new, (.q .mv), [.t 6], none⟩,
      ⟨.new, (.q .mv), [.t 8], none⟩,
      ⟨.new, (.q (.bin .add)), [.t 23, .c (.int 1)], none⟩,
      ⟨.new, (.q .mv), [.t 1], none⟩,
      ⟨.new, (.q (.bin .mul)), [.t 24, .t 25], none⟩,
      ⟨.new, (.q (.bin .add)), [.t 22, .t 26], none⟩,
      ⟨.new, (.q (.slV .leaf true true)), [.t 16, .t 21, .t 27], none⟩,
      ⟨.new, (.call 31), [.t 14, .t 15, .t 28], none⟩,
      ⟨.new, (.q .mv), [.t 29], none⟩,
      ⟨.new, (.q (.ext 0)), [.t 30], none⟩,
      ⟨.new, (.q (.ext 1)), [.t 30], none⟩,
      ⟨.var 7, (.q .mv), [.t 31], none⟩])))
    (.reg [⟨.new, (.q (.bin .add)), [.t 12, .c (.int 1)], none⟩,
      ⟨.var 12, (.q .mv), [.t 14], none⟩])))))))
    (.reg [⟨.new, (.q .mv), [.t 5], none⟩,
      ⟨.new, (.q .mv), [.t 7], none⟩,
      ⟨.new, (.e (.app 44 .leaf 8)), [.t 14, .t 15], none⟩,
      ⟨.var 5, (.q .mv), [.t 16], none⟩]))))
    (.reg [⟨.new, (.q .mv), [.t 6], none⟩,
      ⟨.new, (.q .mv), [.t 0], none⟩,
      ⟨.new, (.q .mv), [.t 1], none⟩,
      ⟨.new, (.q (.bin .mul)), [.t 15, .t 16], none⟩,
      ⟨.new, (.q (.bin .add)), [.t 14, .t 17], none⟩,
      ⟨.var 6, (.q .mv), [.t 18], none⟩]))))))
    (.seq (.reg [⟨.new, (.q .mv), [.t 5], none⟩,
      ⟨.var 3, (.q .mv), [.t 14], none⟩,
      ⟨.var 4, (.q .mv), [.c (.int 0)], none⟩])
    .ret))))),
    [.t 3, .t 4]⟩

set_option maxRecDepth 100000
set_option linter.unusedSimpArgs false
set_option linter.unusedVariables false
theorem c8 : cF P [] (drP P []) 8 2 s8.vm = some s8 := by kernel_rfl
theorem c13 : cF P [] (drP P []) 13 3 s13.vm = some s13 := by kernel_rfl
def apE (N : Nat) (l : List Bool) (t : Nat) (out : AV) (L : Heap) : Prop :=
  (t = 0 ∧ out = .nils ∧ L = []) ∨ (0 < t ∧ out = .own (N + 1) t [] 0 t .leaf ∧ ∃ T J, L = T :: boB t t l :: J)
/-- the list of truths that came of it -/
def lbL (l : List Bool) : AV := if l.length = 0 then .nils else .ro .leaf (l.map .bool)
theorem lbL_isL {l : List Bool} : isL (lbL l) (l.map .bool) := by
  unfold lbL isL
  by_cases h : l.length = 0
  · rw [if_pos h, List.length_eq_zero_iff.1 h]; exact .inr ⟨rfl, rfl⟩
  · rw [if_neg h]; exact .inl rfl
theorem bl_next {W q : Nat} {x : BitVec 64} (h : q < W) : (bl W x).take (q + 1) = (bl W x).take q ++ [bitB x q] := by
  rw [take_next (d := false) (by rw [bl_len]; exact h)]
  congr 2
  unfold bl
  rw [List.getD_eq_getElem?_getD, List.getElem?_map, List.getElem?_range h]; rfl
def I8a (W : Nat) (xs : List (BitVec 64)) (H : Heap) (k : Nat) (st : St) : Prop :=
  ∃ (i t : Nat) (l : List Bool) (out u6 c8 c9 : AV) (L : Heap), st = ⟨[.int W, .ro .leaf (xs.map .u64), .nils, .int 0, out, .int (i : Int), u6, .bool false, c8, c9], H ++ L⟩ ∧ k = xs.length - i ∧ i ≤ xs.length ∧ l = chL W (xs.take i) ++ [] ∧ t = W * i + 0 ∧ apE H.length l t out L
def I8b (W : Nat) (xs : List (BitVec 64)) (i : Nat) (H : Heap) (k : Nat) (st : St) : Prop :=
  ∃ (q t : Nat) (l : List Bool) (out c9 : AV) (L : Heap), st = ⟨[.int W, .ro .leaf (xs.map .u64), .nils, .int 0, out, .int (i : Int), .int (q : Int), .bool false, .bool true, c9], H ++ L⟩ ∧ k = W - q ∧ q ≤ W ∧ l = chL W (xs.take i) ++ (bl W (xs.getD i 0)).take q ∧ t = W * i + q ∧ apE H.length l t out L
theorem f8 {K : AV → Heap → Prop} {H : Heap} {W : Nat} {xs : List (BitVec 64)} (hn : xs.length ≤ 1000) (hw : okW W 1 = true) (hf : fitL W xs = true) (h : K (.tup [lbL (chL W xs), .int 0]) H) : wpF P [] 8 [.int W, .ro .leaf (xs.map .u64)] H K := by
  refine wpF_go c8 rfl 4 ?_
  intro ha hb'
  simp only [s8]
  clear ha hb'
  have lm : (xs.map AV.u64).length = xs.length := by simp
  obtain ⟨hg, _, _⟩ := okW_good hw
  obtain ⟨hw1, hw2⟩ := id hg
  have hW : 1 ≤ W ∧ W ≤ 64 := by omega
  have hff : (xs.all fun x => decide (rcut (rounds (W : Int)) x = x)) = true := by rw [fitL_eq hg]; exact hf
  (refine gw0 ?_; try exact True.intro)
  refine f18 ?_
  (refine gw1 @hw ?_; try exact True.intro)
  refine f29 (by omega) ?_
  (refine gw1 @hff ?_; try exact True.intro)
  refine wp_inv (I8a W xs H) xs.length ⟨0, 0, _, _, _, _, _, [], by rw [List.append_nil]; rfl, rfl, Nat.zero_le _, rfl, by simp, .inl ⟨rfl, rfl, rfl⟩⟩ ?_
  rintro k st ⟨i, t, l, out, u6, c8, c9, L, rfl, rfl, hi, hl, ht, hc⟩
  by_cases hil : i < xs.length
  · have e1 : ((i : Int) < (xs.length : Int)) = True := by simp; omega
    have hle : W * (i + 1) ≤ 64 * 1000 := Nat.mul_le_mul hW.2 (by omega)
    rw [Nat.mul_succ] at hle
    (refine gw2 @lm @e1 ?_; try exact True.intro)
    (repeat (refine And.intro (by omega) ?_))
    refine wp_inv (I8b W xs i H) W ⟨0, t, l, _, _, L, rfl, rfl, Nat.zero_le _, hl, ht, hc⟩ ?_
    rintro k st ⟨q, t, l, out, c9, L, rfl, rfl, hq', hl, ht, hc⟩
    by_cases hql : q < W
    · have e2 : ((q : Int) < (W : Int)) = True := by simp; omega
      have hsh : (BitVec.ofInt 64 (q : Int)).toNat = q := ofInt_nat (by omega)
      have g1 := ld_u64 hil
      have n2 : ((2 : BitVec 64) = 0) = False := by decide
      have hbm : decide (xs.getD i 0 >>> q % 2 = 1) = bitB (xs.getD i 0) q := by unfold bitB; rw [bit_mod2, bit_and1]
      have hnx : l ++ [bitB (xs.getD i 0) q] = chL W (xs.take i) ++ (bl W (xs.getD i 0)).take (q + 1) := by rw [hl, bl_next hql, List.append_assoc]
      generalize bitB (xs.getD i 0) q = b at *
      rcases hc with ⟨ht0, rfl, rfl⟩ | ⟨ht0, rfl, T, J, rfl⟩
      · have hl0 : l = [] := by
          rw [← List.length_eq_zero_iff, hl, List.length_append, chL_len, List.length_take, List.length_take, bl_len]
          have : i * W = 0 ∧ q = 0 := by rw [Nat.mul_comm]; omega
          rw [Nat.min_eq_left (by omega : i ≤ xs.length), Nat.min_eq_left hq', Nat.mul_comm]
          omega
        rw [hl0] at hnx
        (refine gw6 @e2 @lm @g1 @hsh @n2 @hbm ?_; try exact True.intro)
        (repeat (refine And.intro (by omega) ?_))
        refine ⟨W - (q + 1), by omega, q + 1, t + 1, [b], _, _, _, rfl, rfl, by omega, hnx, by rw [ht]; rfl, .inr ⟨by omega, by rw [ht0], _, [], by rw [ht0]; rfl⟩⟩
      · unfold boB
        (refine gw6 @e2 @lm @g1 @hsh @n2 @hbm ?_; try exact True.intro)
        (repeat (refine And.intro (by omega) ?_))
        refine ⟨W - (q + 1), by omega, q + 1, t + 1, l ++ [b], _, _, _, rfl, rfl, by omega, hnx, by rw [ht]; rfl, .inr ⟨by omega, rfl, _, _, by unfold boB; rw [List.map_append]; rfl⟩⟩
    · have e2 : ((q : Int) < (W : Int)) = False := by simp; omega
      have hbt : (bl W (xs.getD i 0)).take q = bl W (xs.getD i 0) := List.take_of_length_le (by rw [bl_len]; omega)
      (refine gw1 @e2 ?_; try exact True.intro)
      (repeat (refine And.intro (by omega) ?_))
      refine ⟨xs.length - (i + 1), by omega, i + 1, t, l, _, _, _, _, _, rfl, rfl, by omega, by rw [hl, chL_next hil, List.append_nil, hbt], by rw [ht, show q = W by omega, Nat.mul_succ]; rfl, hc⟩
  · have hie : i = xs.length := by omega
    have e1 : ((i : Int) < (xs.length : Int)) = False := by simp; omega
    rw [hie, List.take_of_length_le (Nat.le_refl _), List.append_nil] at hl
    have hll := chL_len (w := W) (xs := xs)
    rw [← hl] at hll h
    unfold lbL at h
    rcases hc with ⟨ht0, rfl, rfl⟩ | ⟨ht0, rfl, T, J, rfl⟩
    · rw [if_pos (by rw [hll, ← hie]; omega)] at h
      (refine gw2 @lm @e1 ?_; try exact True.intro)
      exact h
    · rw [if_neg (by rw [hll, ← hie]; omega)] at h
      have hte : t = l.length := by rw [hll, ht, hie]; rfl
      unfold boB
      have ht1 : List.take t (l.map AV.bool) = l.map AV.bool := by rw [List.take_of_length_le (by simp; omega)]
      (refine gw3 @lm @e1 @ht1 ?_; try exact True.intro)
      exact h
theorem f8e {K : AV → Heap → Prop} {H : Heap} {w : Int} {xs : List (BitVec 64)} (hn : xs.length ≤ 1000) (hb : (okW w 1 && fitL w xs) = false) (h : K (.tup [.nils, .int 11]) H) : wpF P [] 8 [.int w, .ro .leaf (xs.map .u64)] H K := by
  refine wpF_go c8 rfl 4 ?_
  intro ha hb'
  simp only [s8]
  clear ha hb'
  by_cases h1 : okW w 1 = true
  · have h2 : (xs.all fun x => decide (rcut (rounds w) x = x)) = false := by rw [fitL_eq (okW_good h1).1]; simpa [h1] using hb
    (refine gw0 ?_; try exact True.intro)
    refine f18 ?_
    (refine gw1 @h1 ?_; try exact True.intro)
    refine f29 (by omega) ?_
    (refine gw1 @h2 ?_; try exact True.intro)
    exact h
  · have h1' : okW w 1 = false := by simpa using h1
    (refine gw0 ?_; try exact True.intro)
    refine f18 ?_
    (refine gw1 @h1' ?_; try exact True.intro)
    exact h
/-- what shares fold to -/
def fsum (l : Int) (g : Nat → BitVec 64) : Nat → BitVec 64
  | 0 => 0
  | k + 1 => addA l (fsum l g k) (g k)
def foF (W N : Nat) (xs : List (BitVec 64)) (q t : Nat) : BitVec 64 := fsum W (fun k => xs.getD ((t / N * W + k) * N + t % N) 0) q
def fsF (W N : Nat) (xs : List (BitVec 64)) (i q j : Nat) : BitVec 64 := fsum W (fun k => xs.getD ((i * W + k) * N + j) 0) q
theorem foF_at {W N : Nat} {xs : List (BitVec 64)} {i q j : Nat} (hj : j < N) : foF W N xs q (i * N + j) = fsF W N xs i q j := by
  unfold foF fsF
  have e1 : (i * N + j) / N = i := by
    rw [Nat.mul_comm, Nat.mul_add_div (by omega), Nat.div_eq_of_lt hj, Nat.add_zero]
  have e2 : (i * N + j) % N = j := by
    rw [Nat.mul_comm, Nat.mul_add_mod, Nat.mod_eq_of_lt hj]
  rw [e1, e2]
theorem rL_part {N p : Nat} {xs : List (BitVec 64)} (h : p + N ≤ xs.length) : List.take N (List.drop p (xs.map AV.u64)) = rL (fun j => xs.getD (p + j) 0) N := by
  apply List.ext_getElem?
  intro j
  by_cases hj : j < N
  · have hlt : p + j < xs.length := by omega
    rw [List.getElem?_take_of_lt hj, List.getElem?_drop, List.getElem?_map]
    unfold rL
    rw [List.getElem?_map, List.getElem?_range hj, List.getElem?_eq_getElem hlt]
    simp only [Option.map_some]
    rw [List.getD_eq_getElem?_getD, List.getElem?_eq_getElem hlt]
    rfl
  · rw [List.getElem?_take_eq_none (by omega), List.getElem?_eq_none (by rw [rL_len]; omega)]
def A13 (W N : Nat) (xs : List (BitVec 64)) (o : AV) (a : Nat) (s u8 c9 c10 u11 u12 c13 : AV) : List AV := [.int W, .int N, .ro .leaf (xs.map .u64), .nils, .int 0, o, .int (a : Int), s, u8, c9, c10, u11, u12, c13]
def I13a (W N : Nat) (xs : List (BitVec 64)) (H : Heap) (k : Nat) (st : St) : Prop :=
  ∃ (i a t v : Nat) (s u8 c10 u11 u12 c13 : AV) (J : Heap), st = ⟨[.int W, .int N, .ro .leaf (xs.map .u64), .nils, .int 0, .own H.length v [] 0 t .leaf, .int (a : Int), s, u8, .bool false, c10, u11, u12, c13], H ++ uB v t (rL (foF W N xs W) t) :: J⟩ ∧ k = xs.length / (W * N) - i ∧ i ≤ xs.length / (W * N) ∧ a = i * (W * N) ∧ t = i * N
def I13b (W N : Nat) (xs : List (BitVec 64)) (i a : Nat) (o : AV) (G : Heap) (k : Nat) (st : St) : Prop :=
  ∃ (q : Nat) (s u8 c13 : AV) (z : Option Blk), st = ⟨[.int W, .int N, .ro .leaf (xs.map .u64), .nils, .int 0, o, .int (a : Int), s, u8, .bool false, .bool true, .int W, .int q, c13], G ++ [z]⟩ ∧ k = W - q ∧ q ≤ W ∧
    ((q = 0 ∧ s = .own G.length 0 [] 0 N .leaf ∧ z = uB 0 N (rL (fsF W N xs i q) N)) ∨ (0 < q ∧ s = .ro .leaf (rL (fsF W N xs i q) N)))
theorem rL_zero {W N : Nat} {xs : List (BitVec 64)} {i : Nat} : List.replicate N (AV.u64 0) = rL (fsF W N xs i 0) N := by
  apply List.ext_getElem?
  intro j
  by_cases hj : j < N
  · unfold rL
    rw [List.getElem?_replicate, if_pos hj, List.getElem?_map, List.getElem?_range hj]; rfl
  · rw [List.getElem?_eq_none (by simp; omega), List.getElem?_eq_none (by rw [rL_len]; omega)]
theorem f13 {K : AV → Heap → Prop} {H : Heap} {W N : Nat} {xs : List (BitVec 64)} (hn : xs.length ≤ 100000) (hw : okW W N = true) (hd : xs.length % (W * N) = 0) (hf : fitL W xs = true) (h : K (.tup [.ro .leaf (rL (foF W N xs W) (xs.length / W)), .int 0]) H) : wpF P [] 13 [.int W, .int N, .ro .leaf (xs.map .u64)] H K := by
  refine wpF_go c13 rfl 4 ?_
  intro ha hb'
  simp only [s13]
  clear ha hb'
  have lm : (xs.map AV.u64).length = xs.length := by simp
  obtain ⟨⟨hw1, hw2⟩, hn1, hn2⟩ := okW_good hw
  have hN : 1 ≤ N ∧ N ≤ 6 := by omega
  have hW : 1 ≤ W ∧ W ≤ 64 := by omega
  have hM1 : 1 ≤ W * N := Nat.mul_le_mul hW.1 hN.1
  have hM2 : W * N ≤ 64 * 6 := Nat.mul_le_mul hW.2 hN.2
  have hdm : xs.length = xs.length / (W * N) * (W * N) := by have := Nat.div_add_mod xs.length (W * N); rw [hd, Nat.mul_comm] at this; omega
  have hmu : (W : Int) * (N : Int) = ((W * N : Nat) : Int) := by simp
  have n0 : (((W * N : Nat) : Int) = 0) = False := by simp only [eq_iff_iff, iff_false]; omega
  have w0 : ((W : Int) = 0) = False := by simp; omega
  have hm : Int.tmod (xs.length : Int) ((W * N : Nat) : Int) = 0 := by rw [← Int.ofNat_tmod, hd]; rfl
  have hqd : Int.tdiv (xs.length : Int) (W : Int) = ((xs.length / W : Nat) : Int) := (Int.ofNat_tdiv _ _).symm
  have hxw : xs.length / W ≤ 100000 := Nat.le_trans (Nat.div_le_self _ _) hn
  have hQR : xs.length / W = xs.length / (W * N) * N := by
    refine Nat.div_eq_of_eq_mul_right (by omega) ?_
    rw [Nat.mul_comm W, Nat.mul_assoc, Nat.mul_comm N W]
    exact hdm
  generalize hxq : xs.length / W = Q at *
  generalize hxr : xs.length / (W * N) = R at *
  generalize hM : W * N = M at *
  (refine gw0 ?_; try exact True.intro)
  refine f25 ?_
  (refine gw5 @hw @lm @hmu @n0 @hm ?_; try exact True.intro)
  (repeat (refine And.intro (by omega) ?_))
  refine f26L (by omega) ?_
  (refine gw4 @hf @lm @w0 @hqd ?_; try exact True.intro)
  (repeat (refine And.intro (by omega) ?_))
  refine wp_inv (I13a W N xs H) R ⟨0, 0, 0, 0, _, _, _, _, _, _, [], rfl, by rw [hM, hxr]; rfl, Nat.zero_le _, by simp, by simp⟩ ?_
  rintro k st ⟨i, a, t, v, s, u8, c10, u11, u12, c13, J, rfl, rfl, hi, ha, ht⟩
  unfold uB
  rw [hM, hxr] at hi ⊢
  rw [hM] at ha
  by_cases hil : i < R
  · have hle : (i + 1) * M ≤ xs.length := by
      have := Nat.mul_le_mul_right M (show i + 1 ≤ R from hil)
      omega
    rw [Nat.succ_mul, ← ha] at hle
    have e1 : ((a : Int) < (xs.length : Int)) = True := by simp; omega
    (refine gw2 @e1 @lm ?_; try exact True.intro)
    (repeat (refine And.intro (by omega) ?_))
    rw [← List.cons_append, ← List.append_assoc, show H.length + (J.length + 1) = (H ++ some ⟨44, v, true, .arr t .leaf, .agg (rL (foF W N xs W) t)⟩ :: J).length by simp]
    generalize hG : (H ++ some (Blk.mk 44 v true (.arr t .leaf) (.agg (rL (foF W N xs W) t))) :: J) = G
    generalize hO : AV.own H.length v [] 0 t .leaf = o
    refine wp_inv (I13b W N xs i a o G) W ⟨0, _, _, _, _, rfl, rfl, Nat.zero_le _, .inl ⟨rfl, rfl, by rw [← rL_zero]; rfl⟩⟩ ?_
    rintro k st ⟨q, s, u8, c13, z, rfl, rfl, hq, hs⟩
    by_cases hql : q < W
    · have e3 : ((q : Int) < (W : Int)) = True := by simp; omega
      have hqn : (q : Int) * (N : Int) = ((q * N : Nat) : Int) := by simp
      have hle2 : (q + 1) * N ≤ W * N := Nat.mul_le_mul_right _ hql
      rw [hM, Nat.succ_mul] at hle2
      have hpq : (i * W + q) * N = a + q * N := by rw [Nat.add_mul, Nat.mul_assoc, hM, ha]
      have hqn1 : ((q : Int) + 1) * (N : Int) = ((q * N + N : Nat) : Int) := by rw [← Nat.succ_mul]; simp
      generalize hp : q * N = p at *
      have had : (a : Int) + (p : Int) = ((a + p : Nat) : Int) := by omega
      have had1 : (a : Int) + ((p + N : Nat) : Int) = ((a + (p + N) : Nat) : Int) := by omega
      have hsb : a + (p + N) - (a + p) = N := by omega
      have hpt := rL_part (N := N) (p := a + p) (xs := xs) (by omega)
      have hnx : rL (fun j => addA W (fsF W N xs i q j) (xs.getD (a + p + j) 0)) N = rL (fsF W N xs i (q + 1)) N := rL_congr fun j _ => by
        show _ = addA W (fsF W N xs i q j) (xs.getD ((i * W + q) * N + j) 0)
        rw [hpq]
      rcases hs with ⟨hq0, rfl, rfl⟩ | ⟨hq0, rfl⟩
      · unfold uB
        (refine gw8 @e3 @hqn @hqn1 @had @had1 @hsb @hpt @lm ?_; try exact True.intro)
        (repeat (refine And.intro (by omega) ?_))
        refine wpF_give1 G.length 3 ?_
        have ht1 := take_rL (F := fsF W N xs i q) (t := N)
        have hm1 := @mapO_rL
        have hb1 := @bnds_rL
        (refine gw3 @ht1 @hm1 @hb1 ?_; try exact True.intro)
        refine f31r (n := N) (by omega) ?_
        rw [hnx]
        (refine gw0 ?_; try exact True.intro)
        (repeat (refine And.intro (by omega) ?_))
        refine ⟨W - (q + 1), by omega, q + 1, _, _, _, _, rfl, rfl, by omega, .inr ⟨by omega, rfl⟩⟩
      · (refine gw8 @e3 @hqn @hqn1 @had @had1 @hsb @hpt @lm ?_; try exact True.intro)
        (repeat (refine And.intro (by omega) ?_))
        refine f31r (n := N) (by omega) ?_
        rw [hnx]
        (refine gw0 ?_; try exact True.intro)
        (repeat (refine And.intro (by omega) ?_))
        refine ⟨W - (q + 1), by omega, q + 1, _, _, _, _, rfl, rfl, by omega, .inr ⟨by omega, rfl⟩⟩
    · have hqe : q = W := by omega
      have e3 : ((q : Int) < (W : Int)) = False := by simp; omega
      rcases hs with ⟨hq0, rfl, rfl⟩ | ⟨hq0, rfl⟩
      · omega
      · rw [hqe] at *
        have hle3 : (i + 1) * N ≤ R * N := Nat.mul_le_mul_right _ hil
        rw [Nat.succ_mul, ← ht] at hle3
        have hap := rL_app (F := foF W N xs W) (G := fsF W N xs i W) (t := t) (n := N) fun j hj => by rw [ht, foF_at hj]
        have hrl := rL_len (F := fsF W N xs i W) (t := N)
        have hkd := rL_kind (F := fsF W N xs i W) (t := N)
        have had2 : (a : Int) + (M : Int) = ((a + M : Nat) : Int) := by omega
        rw [← hG, ← hO, List.append_assoc]
        (refine gw5 @e3 @hrl @hap @hmu @had2 ?_; try exact True.intro)
        refine ⟨hkd, ?_⟩
        (repeat (refine And.intro (by omega) ?_))
        refine ⟨R - (i + 1), by omega, i + 1, a + M, t + N, v + 1, _, _, _, _, _, _, _, rfl, by rw [hM, hxr], by rw [hM, hxr]; omega, by rw [hM, Nat.succ_mul, ha], by rw [Nat.succ_mul, ht]⟩
  · have hie : i = R := by omega
    have e1 : ((a : Int) < (xs.length : Int)) = False := by simp; rw [ha, hie, hdm]; exact Nat.le_refl _
    have hte : t = Q := by rw [ht, hie, hQR]
    rw [← hte] at h
    have ht1 := take_rL (F := foF W N xs W) (t := t)
    have hm1 := @mapO_rL
    (refine gw4 @e1 @lm @ht1 @hm1 ?_; try exact True.intro)
    exact h

theorem f13e {K : AV → Heap → Prop} {H : Heap} {w n : Int} {xs : List (BitVec 64)} (hn : xs.length ≤ 100000) (hb : okW w n = true → (decide (Int.tmod xs.length (w * n) = 0) && fitL w xs) = false) (h : K (.tup [.nils, .int 11]) H) : wpF P [] 13 [.int w, .int n, .ro .leaf (xs.map .u64)] H K := by
  refine wpF_go c13 rfl 4 ?_
  intro ha hb'
  simp only [s13]
  clear ha hb'
  have lm : (xs.map AV.u64).length = xs.length := by simp
  by_cases h1 : okW w n = true
  · have hb2 := hb h1
    obtain ⟨⟨hw1, hw2⟩, hn1, hn2⟩ := okW_good h1
    have p1 : 1 ≤ w * n := Int.mul_le_mul hw1 hn1 (by decide) (by omega)
    have p2 : w * n ≤ 64 * 6 := Int.mul_le_mul hw2 hn2 (by omega) (by decide)
    generalize hM : w * n = M at *
    have n0 : (M = 0) = False := by simp only [eq_iff_iff, iff_false]; omega
    have m1 := Int.tmod_lt_of_pos (xs.length : Int) (show 0 < M by omega)
    have m2 := Int.tmod_nonneg (a := (xs.length : Int)) M (by omega)
    by_cases h2 : Int.tmod xs.length M = 0
    · have h3 : fitL w xs = false := by simpa [h2] using hb2
      (refine gw0 ?_; try exact True.intro)
      refine f25 ?_
      (refine gw5 @h1 @lm @hM @n0 @h2 ?_; try exact True.intro)
      (repeat (refine And.intro (by omega) ?_))
      refine f26L (by omega) ?_
      (refine gw1 @h3 ?_; try exact True.intro)
      exact h
    · (refine gw0 ?_; try exact True.intro)
      refine f25 ?_
      (refine gw5 @h1 @lm @hM @n0 @h2 ?_; try exact True.intro)
      (repeat (refine And.intro (by omega) ?_))
      exact h
  · have h1' : okW w n = false := by simpa using h1
    (refine gw0 ?_; try exact True.intro)
    refine f25 ?_
    (refine gw1 @h1' ?_; try exact True.intro)
    exact h
end Go.Proofs.Ytajkclooknanjaa

end

section
/-
  Layer 21 (gilboa): the reference's sums; rows multiplied by numbers, both.
-/
open Go Go.V
namespace Go.Proofs.Ytajkclooknanjaa
/-- trefoil/trefoilref21.Fold (0:width, 1:n, 2:shares, 6:, 7:, 8:out, 9:i, 10:j, 11:s, 12:k, 30:, 38:, 43:, 48:) -/
def s14 : FnS := ⟨71, [0, 1, 2, 6, 7, 8, 9, 10, 11, 12, 30, 38, 43, 48],
    (.seq (.reg [⟨.var 3, (.q .mv), [.c .nils], none⟩,
      ⟨.var 4, (.q .mv), [.c (.int 0)], none⟩])
    (.seq (.seq (.reg [⟨.new, (.q .mv), [.t 0], none⟩,
      ⟨.new, (.q .mv), [.t 1], none⟩,
      ⟨.new, (.call 18), [.t 14, .t 15], none⟩,
      ⟨.new, (.q .mv), [.t 16], none⟩,
      ⟨.new, (.q .mv), [.t 2], (some (17, false))⟩,
      ⟨.new, (.q .len), [.t 18], (some (17, false))⟩,
      ⟨.new, (.q .mv), [.t 0], (some (17, false))⟩,
      ⟨.new, (.q .mv), [.t 1], (some (17, false))⟩,
      ⟨.new, (.q (.bin .mul)), [.t 20, .t 21], (some (17, false))⟩,
      ⟨.new, (.q (.bin .rem)), [.t 19, .t 22], (some (17, false))⟩,
      ⟨.new, (.q (.bin .neq)), [.t 23, .c (.int 0)], (some (17, false))⟩,
      ⟨.new, (.q .pick), [.t 17, .c (.bool true), .t 24], none⟩,
      ⟨.new, (.q .mv), [.t 25], none⟩,
      ⟨.new, (.q .mv), [.t 0], (some (26, false))⟩,
      ⟨.new, (.q .mv), [.t 2], (some (26, false))⟩,
      ⟨.new, (.call 29), [.t 27, .t 28], (some (26, false))⟩,
      ⟨.new, (.q (.un .not)), [.t 29], (some (26, false))⟩,
      ⟨.var 10, (.q .pick), [.t 26, .c (.bool true), .t 30], none⟩])
    (.cond (.t 10) (.seq (.reg [⟨.var 3, (.q .mv), [.c .nils], none⟩,
      ⟨.var 4, (.q .mv), [.c (.int 11)], none⟩])
    .ret)
    .skip))
    (.seq (.reg [⟨.var 5, (.q .mv), [.c .nils], none⟩])
    (.seq (.seq (.reg [⟨.var 6, (.q .mv), [.c (.int 0)], none⟩])
    (.block 0 (.loop (.seq (.seq (.reg [⟨.new, (.q .mv), [.t 6], none⟩,
      ⟨.new, (.q .mv), [.t 2], none⟩,
      ⟨.new, (.q .len), [.t 15], none⟩,
      ⟨.new, (.q .mv), [.t 0], none⟩,
      ⟨.new, (.q .mv), [.t 1], none⟩,
      ⟨.new, (.q (.bin .mul)), [.t 17, .t 18], none⟩,
      ⟨.new, (.q (.bin .quo)), [.t 16, .t 19], none⟩,
      ⟨.var 11, (.q (.bin .lss)), [.t 14, .t 20], none⟩])
    (.cond (.t 11) .skip
    (.exit 0)))
    (.seq (.block 1 (.seq (.reg [⟨.var 7, (.q .mv), [.c (.int 0)], none⟩])
    (.block 2 (.loop (.seq (.seq (.reg [⟨.new, (.q .mv), [.t 7], none⟩,
      ⟨.new, (.q .mv), [.t 1], none⟩,
      ⟨.var 12, (.q (.bin .lss)), [.t 14, .t 15], none⟩])
    (.cond (.t 12) .skip
    (.exit 2)))
    (.seq (.block 3 (.seq (.reg [⟨.var 8, (.q .mv), [.c (.u64 0)], none⟩])
    (.seq (.seq (.reg [⟨.var 9, (.q .mv), [.c (.int 0)], none⟩])
    (.block 4 (.loop (.seq (.seq (.reg [⟨.new, (.q .mv), [.t 9], none⟩,
      ⟨.new, (.q .mv), [.t 0], none⟩,
      ⟨.var 13, (.q (.bin .lss)), [.t 14, .t 15], none⟩])
    (.cond (.t 13) .skip
    (.exit 4)))
    (.seq (.block 5 (.reg [⟨.new, (.q .mv), [.t 0], none⟩,
      ⟨.new, (.q .mv), [.t 8], none⟩,
      ⟨.new, (.q .mv), [.t 2], none⟩,
      ⟨.new, (.q .mv), [.t 6], none⟩,
      ⟨.new, (.q .mv), [.t 0], none⟩,
      ⟨.new, (.q (.bin .mul)), [.t 17, .t 18], none⟩,
      ⟨.new, (.q .mv), [.t 9], none⟩,
      ⟨.new, (.q (.bin .add)), [.t 19, .t 20], none⟩,
      ⟨.new, (.q .mv), [.t 1], none⟩,
      ⟨.new, (.q (.bin .mul)), [.t 21, .t 22], none⟩,
      ⟨.new, (.q .mv), [.t 7], none⟩,
      ⟨.new, (.q (.bin .add)), [.t 23, .t 24], none⟩,
      ⟨.new, (.q (.iaS .leaf)), [.t 16, .t 25], none⟩,
      ⟨.new, (.q (.ld .leaf)), [.t 26], none⟩,
      ⟨.new, (.call 23), [.t 14, .t 15, .t 27], none⟩,
      ⟨.var 8, (.q .mv), [.t 28], none⟩]))
    (.reg [⟨.new, (.q .mv), [.t 9], none⟩,
      ⟨.new, (.q (.bin .add)), [.t 14, .c (.int 1)], none⟩,
      ⟨.var 9, (.q .mv), [.t 15], none⟩]))))))
    (.reg [⟨.new, (.q .mv), [.t 5], none⟩,
      ⟨.new, (.q .mv), [.t 8], none⟩,
      ⟨.new, (.e (.bsl 44 .leaf (.u64 0) 1 [0])), [.t 15], none⟩,
      ⟨.new, (.e (.app 44 .leaf 8)), [.t 14, .t 16], none⟩,
      ⟨.var 5, (.q .mv), [.t 17], none⟩]))))
    (.reg [⟨.new, (.q .mv), [.t 7], none⟩,
      ⟨.new, (.q (.bin .add)), [.t 14, .c (.int 1)], none⟩,
      ⟨.var 7, (.q .mv), [.t 15], none⟩])))))))
    (.reg [⟨.new, (.q .mv), [.t 6], none⟩,
      ⟨.new, (.q (.bin .add)), [.t 14, .c (.int 1)], none⟩,
      ⟨.var 6, (.q .mv), [.t 15], none⟩]))))))
    (.seq (.reg [⟨.new, (.q .mv), [.t 5], none⟩,
      ⟨.var 3, (.q .mv), [.t 14], none⟩,
      ⟨.var 4, (.q .mv), [.c (.int 0)], none⟩])
    .ret))))),
    [.t 3, .t 4]⟩

/-- trefoil/gilboa.Rows (0:width, 1:n, 2:as, 3:rows, 8:, 9:, 10:out, 11:i, 12:a, 25:, 29:, 30:, 31:, 32:) -/
def s15 : FnS := ⟨52, [0, 1, 2, 3, 8, 9, 10, 11, 12, 25, 29, 30, 31, 32],
    (.seq (.reg [⟨.var 4, (.q .mv), [.c .nils], none⟩,
      ⟨.var 5, (.q .mv), [.c (.int 0)], none⟩])
    (.seq (.seq (.reg [⟨.new, (.q .mv), [.t 0], none⟩,
      ⟨.new, (.q .mv), [.t 1], none⟩,
      ⟨.new, (.call 25), [.t 14, .t 15], none⟩,
      ⟨.new, (.q (.un .not)), [.t 16], none⟩,
      ⟨.new, (.q .mv), [.t 17], none⟩,
      ⟨.new, (.q .mv), [.t 3], (some (18, false))⟩,
      ⟨.new, (.q .len), [.t 19], (some (18, false))⟩,
      ⟨.new, (.q .mv), [.t 1], (some (18, false))⟩,
      ⟨.new, (.q .mv), [.t 2], (some (18, false))⟩,
      ⟨.new, (.q .len), [.t 22], (some (18, false))⟩,
      ⟨.new, (.q (.bin .mul)), [.t 21, .t 23], (some (18, false))⟩,
      ⟨.new, (.q (.bin .neq)), [.t 20, .t 24], (some (18, false))⟩,
      ⟨.var 9, (.q .pick), [.t 18, .c (.bool true), .t 25], none⟩])
    (.cond (.t 9) (.seq (.reg [⟨.var 4, (.q .mv), [.c .nils], none⟩,
      ⟨.var 5, (.q .mv), [.c (.int 11)], none⟩])
    .ret)
    .skip))
    (.seq (.reg [⟨.new, (.q .mv), [.t 3], none⟩,
      ⟨.new, (.q .len), [.t 14], none⟩,
      ⟨.new, (.e (.mksl 44 .leaf 8 (.u64 0))), [.c (.int 0), .t 15], none⟩,
      ⟨.var 6, (.q .mv), [.t 16], none⟩])
    (.seq (.seq (.reg [⟨.var 10, (.q .mv), [.t 2], none⟩,
      ⟨.var 11, (.q .len), [.t 10], none⟩,
      ⟨.var 12, (.q .mv), [.c (.int 0)], none⟩])
    (.block 0 (.loop (.seq (.reg [⟨.var 13, (.q (.bin .lss)), [.t 12, .t 11], none⟩])
    (.seq (.cond (.t 13) .skip
    (.exit 0))
    (.seq (.block 1 (.seq (.reg [⟨.new, (.q .mv), [.t 12], none⟩,
      ⟨.new, (.q (.iaS .leaf)), [.t 10, .t 12], none⟩,
      ⟨.new, (.q (.ld .leaf)), [.t 15], none⟩,
      ⟨.var 7, (.q .mv), [.t 14], none⟩,
      ⟨.var 8, (.q .mv), [.t 16], none⟩])
    (.reg [⟨.new, (.q .mv), [.t 6], none⟩,
      ⟨.new, (.q .mv), [.t 0], none⟩,
      ⟨.new, (.q .mv), [.t 8], none⟩,
      ⟨.new, (.q .mv), [.t 3], none⟩,
      ⟨.new, (.q .mv), [.t 7], none⟩,
      ⟨.new, (.q .mv), [.t 1], none⟩,
      ⟨.new, (.q (.bin .mul)), [.t 18, .t 19], none⟩,
      ⟨.new, (.q .mv), [.t 7], none⟩,
      ⟨.new, (.q (.bin .add)), [.t 21, .c (.int 1)], none⟩,
      ⟨.new, (.q .mv), [.t 1], none⟩,
      ⟨.new, (.q (.bin .mul)), [.t 22, .t 23], none⟩,
      ⟨.new, (.q (.slV .leaf true true)), [.t 17, .t 20, .t 24], none⟩,
      ⟨.new, (.call 30), [.t 15, .t 16, .t 25], none⟩,
      ⟨.new, (.e (.app 44 .leaf 8)), [.t 14, .t 26], none⟩,
      ⟨.var 6, (.q .mv), [.t 27], none⟩])))
    (.reg [⟨.new, (.q (.bin .add)), [.t 12, .c (.int 1)], none⟩,
      ⟨.var 12, (.q .mv), [.t 14], none⟩])))))))
    (.seq (.reg [⟨.new, (.q .mv), [.t 6], none⟩,
      ⟨.var 4, (.q .mv), [.t 14], none⟩,
      ⟨.var 5, (.q .mv), [.c (.int 0)], none⟩])
    .ret))))),
    [.t 4, .t 5]⟩

/-- trefoil/trefoilref21.Rows (0:width, 1:n, 2:as, 3:rows, 8:, 9:, 10:out, 11:i, 12:j, 24:, 28:, 33:) -/
def s16 : FnS := ⟨54, [0, 1, 2, 3, 8, 9, 10, 11, 12, 24, 28, 33],
    (.seq (.reg [⟨.var 4, (.q .mv), [.c .nils], none⟩,
      ⟨.var 5, (.q .mv), [.c (.int 0)], none⟩])
    (.seq (.seq (.reg [⟨.new, (.q .mv), [.t 0], none⟩,
      ⟨.new, (.q .mv), [.t 1], none⟩,
      ⟨.new, (.call 18), [.t 12, .t 13], none⟩,
      ⟨.new, (.q .mv), [.t 14], none⟩,
      ⟨.new, (.q .mv), [.t 3], (some (15, false))⟩,
      ⟨.new, (.q .len), [.t 16], (some (15, false))⟩,
      ⟨.new, (.q .mv), [.t 1], (some (15, false))⟩,
      ⟨.new, (.q .mv), [.t 2], (some (15, false))⟩,
      ⟨.new, (.q .len), [.t 19], (some (15, false))⟩,
      ⟨.new, (.q (.bin .mul)), [.t 18, .t 20], (some (15, false))⟩,
      ⟨.new, (.q (.bin .neq)), [.t 17, .t 21], (some (15, false))⟩,
      ⟨.var 9, (.q .pick), [.t 15, .c (.bool true), .t 22], none⟩])
    (.cond (.t 9) (.seq (.reg [⟨.var 4, (.q .mv), [.c .nils], none⟩,
      ⟨.var 5, (.q .mv), [.c (.int 11)], none⟩])
    .ret)
    .skip))
    (.seq (.reg [⟨.var 6, (.q .mv), [.c .nils], none⟩])
    (.seq (.seq (.reg [⟨.var 7, (.q .mv), [.c (.int 0)], none⟩])
    (.block 0 (.loop (.seq (.seq (.reg [⟨.new, (.q .mv), [.t 7], none⟩,
      ⟨.new, (.q .mv), [.t 2], none⟩,
      ⟨.new, (.q .len), [.t 13], none⟩,
      ⟨.var 10, (.q (.bin .lss)), [.t 12, .t 14], none⟩])
    (.cond (.t 10) .skip
    (.exit 0)))
    (.seq (.block 1 (.seq (.reg [⟨.var 8, (.q .mv), [.c (.int 0)], none⟩])
    (.block 2 (.loop (.seq (.seq (.reg [⟨.new, (.q .mv), [.t 8], none⟩,
      ⟨.new, (.q .mv), [.t 1], none⟩,
      ⟨.var 11, (.q (.bin .lss)), [.t 12, .t 13], none⟩])
    (.cond (.t 11) .skip
    (.exit 2)))
    (.seq (.block 3 (.draw [⟨.new, (.q .mv), [.t 6], none⟩,
      ⟨.new, (.q .mv), [.t 0], none⟩,
      ⟨.new, (.q .mv), [.t 2], none⟩,
      ⟨.new, (.q .mv), [.t 7], none⟩,
      ⟨.new, (.q (.iaS .leaf)), [.t 14, .t 15], none⟩,
      ⟨.new, (.q (.ld .leaf)), [.t 16], none⟩,
      ⟨.new, (.q .mv), [.t 3], none⟩,
      ⟨.new, (.q .mv), [.t 7], none⟩,
      ⟨.new, (.q .mv), [.t 1], none⟩,
      ⟨.new, (.q (.bin .mul)), [.t 19, .t 20], none⟩,
      ⟨.new, (.q .mv), [.t 8], none⟩,
      ⟨.new, (.q (.bin .add)), [.t 21, .t 22], none⟩,
      ⟨.new, (.q (.iaS .leaf)), [.t 18, .t 23], none⟩,
      ⟨.new, (.q (.ld .leaf)), [.t 24], none⟩,
      ⟨.new, (.call 24), [.t 13, .t 17, .t 25], none⟩,
      ⟨.new, (.e (.bsl 44 .leaf (.u64 0) 1 [0])), [.t 26], none⟩,
      ⟨.new, (.e (.app 44 .leaf 8)), [.t 12, .t 27], none⟩,
      ⟨.var 6, (.q .mv), [.t 28], none⟩]))
    (.reg [⟨.new, (.q .mv), [.t 8], none⟩,
      ⟨.new, (.q (.bin .add)), [.t 12, .c (.int 1)], none⟩,
      ⟨.var 8, (.q .mv), [.t 13], none⟩])))))))
    (.reg [⟨.new, (.q .mv), [.t 7], none⟩,
      ⟨.new, (.q (.bin .add)), [.t 12, .c (.int 1)], none⟩,
      ⟨.var 7, (.q .mv), [.t 13], none⟩]))))))
    (.seq (.reg [⟨.new, (.q .mv), [.t 6], none⟩,
      ⟨.var 4, (.q .mv), [.t 12], none⟩,
      ⟨.var 5, (.q .mv), [.c (.int 0)], none⟩])
    .ret))))),
    [.t 4, .t 5]⟩

set_option maxRecDepth 100000
set_option linter.unusedSimpArgs false
set_option linter.unusedVariables false
theorem c14 : cF P [] (drP P []) 14 3 s14.vm = some s14 := by kernel_rfl
theorem c15 : cF P [] (drP P []) 15 4 s15.vm = some s15 := by kernel_rfl
theorem c16 : cF P [] (drP P []) 16 4 s16.vm = some s16 := by kernel_rfl
theorem f14e {K : AV → Heap → Prop} {H : Heap} {w n : Int} {xs : List (BitVec 64)} (hn : xs.length ≤ 100000) (hb : okW w n = true → (decide (Int.tmod xs.length (w * n) = 0) && fitL w xs) = false) (h : K (.tup [.nils, .int 11]) H) : wpF P [] 14 [.int w, .int n, .ro .leaf (xs.map .u64)] H K := by
  refine wpF_go c14 rfl 4 ?_
  intro ha hb'
  simp only [s14]
  clear ha hb'
  have lm : (xs.map AV.u64).length = xs.length := by simp
  by_cases h1 : okW w n = true
  · have hb2 := hb h1
    obtain ⟨hg, hn1, hn2⟩ := okW_good h1
    obtain ⟨hw1, hw2⟩ := id hg
    have p1 : 1 ≤ w * n := Int.mul_le_mul hw1 hn1 (by decide) (by omega)
    have p2 : w * n ≤ 64 * 6 := Int.mul_le_mul hw2 hn2 (by omega) (by decide)
    generalize hM : w * n = M at *
    have n0 : (M = 0) = False := by simp only [eq_iff_iff, iff_false]; omega
    have m1 := Int.tmod_lt_of_pos (xs.length : Int) (show 0 < M by omega)
    have m2 := Int.tmod_nonneg (a := (xs.length : Int)) M (by omega)
    by_cases h2 : Int.tmod xs.length M = 0
    · have h3 : (xs.all fun x => decide (rcut (rounds w) x = x)) = false := by rw [fitL_eq hg]; simpa [h2] using hb2
      (refine gw0 ?_; try exact True.intro)
      refine f18 ?_
      (refine gw5 @h1 @lm @hM @n0 @h2 ?_; try exact True.intro)
      (repeat (refine And.intro (by omega) ?_))
      refine f29 (by omega) ?_
      (refine gw1 @h3 ?_; try exact True.intro)
      exact h
    · (refine gw0 ?_; try exact True.intro)
      refine f18 ?_
      (refine gw5 @h1 @lm @hM @n0 @h2 ?_; try exact True.intro)
      (repeat (refine And.intro (by omega) ?_))
      exact h
  · have h1' : okW w n = false := by simpa using h1
    (refine gw0 ?_; try exact True.intro)
    refine f18 ?_
    (refine gw1 @h1' ?_; try exact True.intro)
    exact h

def I14a (W N : Nat) (xs : List (BitVec 64)) (H : Heap) (k : Nat) (st : St) : Prop :=
  ∃ (i t : Nat) (out u7 u8 u9 c11 c12 c13 : AV) (L : Heap), st = ⟨[.int W, .int N, .ro .leaf (xs.map .u64), .nils, .int 0, out, .int (i : Int), u7, u8, u9, .bool false, c11, c12, c13], H ++ L⟩ ∧ k = xs.length / (W * N) - i ∧ i ≤ xs.length / (W * N) ∧ t = i * N + 0 ∧ apU H.length (foF W N xs W) t out L
def I14b (W N : Nat) (xs : List (BitVec 64)) (i : Nat) (H : Heap) (k : Nat) (st : St) : Prop :=
  ∃ (j t : Nat) (out u8 u9 c12 c13 : AV) (L : Heap), st = ⟨[.int W, .int N, .ro .leaf (xs.map .u64), .nils, .int 0, out, .int (i : Int), .int (j : Int), u8, u9, .bool false, .bool true, c12, c13], H ++ L⟩ ∧ k = N - j ∧ j ≤ N ∧ t = i * N + j ∧ apU H.length (foF W N xs W) t out L
def I14c (W N : Nat) (xs : List (BitVec 64)) (i j : Nat) (out : AV) (HL : Heap) (k : Nat) (st : St) : Prop :=
  ∃ (q : Nat) (c13 : AV), st = ⟨[.int W, .int N, .ro .leaf (xs.map .u64), .nils, .int 0, out, .int (i : Int), .int (j : Int), .u64 (fsF W N xs i q j), .int (q : Int), .bool false, .bool true, .bool true, c13], HL⟩ ∧ k = W - q ∧ q ≤ W
theorem f14 {K : AV → Heap → Prop} {H : Heap} {W N : Nat} {xs : List (BitVec 64)} (hn : xs.length ≤ 100000) (hw : okW W N = true) (hd : xs.length % (W * N) = 0) (hf : fitL W xs = true) (h : K (.tup [luL (foF W N xs W) (xs.length / W), .int 0]) H) : wpF P [] 14 [.int W, .int N, .ro .leaf (xs.map .u64)] H K := by
  refine wpF_go c14 rfl 4 ?_
  intro ha hb'
  simp only [s14]
  clear ha hb'
  have lm : (xs.map AV.u64).length = xs.length := by simp
  obtain ⟨hg, hn1, hn2⟩ := okW_good hw
  obtain ⟨hw1, hw2⟩ := id hg
  have hN : 1 ≤ N ∧ N ≤ 6 := by omega
  have hW : 1 ≤ W ∧ W ≤ 64 := by omega
  have hM1 : 1 ≤ W * N := Nat.mul_le_mul hW.1 hN.1
  have hM2 : W * N ≤ 64 * 6 := Nat.mul_le_mul hW.2 hN.2
  have hff : (xs.all fun x => decide (rcut (rounds (W : Int)) x = x)) = true := by rw [fitL_eq hg]; exact hf
  have hdm : xs.length = xs.length / (W * N) * (W * N) := by have := Nat.div_add_mod xs.length (W * N); rw [hd, Nat.mul_comm] at this; omega
  have hmu : (W : Int) * (N : Int) = ((W * N : Nat) : Int) := by simp
  have n0 : (((W * N : Nat) : Int) = 0) = False := by simp only [eq_iff_iff, iff_false]; omega
  have hm : Int.tmod (xs.length : Int) ((W * N : Nat) : Int) = 0 := by rw [← Int.ofNat_tmod, hd]; rfl
  have hqd : Int.tdiv (xs.length : Int) ((W * N : Nat) : Int) = ((xs.length / (W * N) : Nat) : Int) := (Int.ofNat_tdiv _ _).symm
  have hQR : xs.length / W = xs.length / (W * N) * N := by
    refine Nat.div_eq_of_eq_mul_right (by omega) ?_
    rw [Nat.mul_comm W, Nat.mul_assoc, Nat.mul_comm N W]
    exact hdm
  have hxw : xs.length / W ≤ 100000 := Nat.le_trans (Nat.div_le_self _ _) hn
  have hxr : xs.length / (W * N) ≤ 100000 := Nat.le_trans (Nat.div_le_self _ _) hn
  generalize hxq : xs.length / W = Q at *
  generalize hxr : xs.length / (W * N) = R at *
  generalize hM : W * N = M at *
  have hcm : ∀ x, rcut (rounds (W : Int)) x = msk W x := fun x => f19g' hg x
  (refine gw0 ?_; try exact True.intro)
  refine f18 ?_
  (refine gw5 @hw @lm @hmu @n0 @hm ?_; try exact True.intro)
  (repeat (refine And.intro (by omega) ?_))
  refine f29 (by omega) ?_
  (refine gw1 @hff ?_; try exact True.intro)
  refine wp_inv (I14a W N xs H) R ⟨0, 0, _, _, _, _, _, _, _, [], by rw [List.append_nil]; rfl, by rw [hM, hxr]; rfl, Nat.zero_le _, by simp, .inl ⟨rfl, rfl, rfl⟩⟩ ?_
  rintro k st ⟨i, t, out, u7, u8, u9, c11, c12, c13, L, rfl, rfl, hi, ht, hc⟩
  rw [hM, hxr] at hi ⊢
  by_cases hil : i < R
  · have hle : (i + 1) * M ≤ R * M := Nat.mul_le_mul_right _ hil
    have hle3 : (i + 1) * N ≤ R * N := Nat.mul_le_mul_right _ hil
    rw [Nat.succ_mul] at hle hle3
    have e1 : ((i : Int) < (R : Int)) = True := by simp; omega
    (refine gw5 @lm @hmu @n0 @hqd @e1 ?_; try exact True.intro)
    (repeat (refine And.intro (by omega) ?_))
    refine wp_inv (I14b W N xs i H) N ⟨0, t, _, _, _, _, _, L, rfl, rfl, Nat.zero_le _, ht, hc⟩ ?_
    rintro k st ⟨j, t, out, u8, u9, c12, c13, L, rfl, rfl, hj', ht, hc⟩
    by_cases hjl : j < N
    · have e2 : ((j : Int) < (N : Int)) = True := by simp; omega
      (refine gw1 @e2 ?_; try exact True.intro)
      refine wp_inv (I14c W N xs i j out (H ++ L)) W ⟨0, _, rfl, rfl, Nat.zero_le _⟩ ?_
      rintro k st ⟨q, c13, rfl, rfl, hq'⟩
      by_cases hql : q < W
      · have e3 : ((q : Int) < (W : Int)) = True := by simp; omega
        have hqn : (i : Int) * (W : Int) = ((i * W : Nat) : Int) := by simp
        have hle2 : (q + 1) * N ≤ W * N := Nat.mul_le_mul_right _ hql
        rw [hM, Nat.succ_mul] at hle2
        have hpq : (i * W + q) * N = i * M + q * N := by rw [Nat.add_mul, Nat.mul_assoc, hM]
        have hia : (i * W + q) * N + j < xs.length := by rw [hpq]; omega
        have hi2 : i * W ≤ 100000 * 64 := Nat.mul_le_mul (by omega) hW.2
        have hqn2 : ((i * W + q : Nat) : Int) * (N : Int) = (((i * W + q) * N : Nat) : Int) := by simp
        generalize hp : (i * W + q) * N = p at *
        generalize hr : i * W = r at *
        have had : (r : Int) + (q : Int) = ((r + q : Nat) : Int) := by omega
        have had1 : (p : Int) + (j : Int) = ((p + j : Nat) : Int) := by omega
        have g1 := ld_u64 hia
        have hx : msk W (fsF W N xs i q j + xs.getD (p + j) 0) = fsF W N xs i (q + 1) j := by
          show _ = addA W (fsF W N xs i q j) (xs.getD ((i * W + q) * N + j) 0)
          rw [hr, hp]; rfl
        (refine gw7 @e3 @hqn @had @hqn2 @had1 @lm @g1 ?_; try exact True.intro)
        (repeat (refine And.intro (by omega) ?_))
        refine f23 ?_
        rw [hcm, hx]
        (refine gw0 ?_; try exact True.intro)
        (repeat (refine And.intro (by omega) ?_))
        refine ⟨W - (q + 1), by omega, q + 1, _, rfl, rfl, by omega⟩
      · have e3 : ((q : Int) < (W : Int)) = False := by simp; omega
        have hqe : q = W := by omega
        have hx : fsF W N xs i q j = foF W N xs W t := by rw [ht, foF_at hjl, hqe]
        rw [hx]
        have hr1 := rL_one (F := foF W N xs W) (t := t) rfl
        rcases hc with ⟨ht0, rfl, rfl⟩ | ⟨ht0, rfl, T, J, rfl⟩
        · (refine gw1 @e3 ?_; try exact True.intro)
          (repeat (refine And.intro (by omega) ?_))
          refine ⟨N - (j + 1), by omega, j + 1, t + 1, _, _, _, _, _, _, rfl, rfl, by omega, by rw [ht]; rfl, .inr ⟨by omega, by rw [ht0], _, [], by rw [ht0]; rfl⟩⟩
        · unfold uB
          (refine gw2 @e3 @hr1 ?_; try exact True.intro)
          (repeat (refine And.intro (by omega) ?_))
          refine ⟨N - (j + 1), by omega, j + 1, t + 1, _, _, _, _, _, _, rfl, rfl, by omega, by rw [ht]; rfl, .inr ⟨by omega, rfl, _, _, rfl⟩⟩
    · have e2 : ((j : Int) < (N : Int)) = False := by simp; omega
      (refine gw1 @e2 ?_; try exact True.intro)
      (repeat (refine And.intro (by omega) ?_))
      refine ⟨R - (i + 1), by omega, i + 1, t, _, _, _, _, _, _, _, _, rfl, by rw [hM, hxr], by rw [hM, hxr]; omega, by rw [ht, show j = N by omega, Nat.succ_mul]; rfl, hc⟩
  · have hie : i = R := by omega
    have hte : t = Q := by rw [ht, hie, hQR]; rfl
    have e1 : ((i : Int) < (R : Int)) = False := by simp; omega
    rw [← hte] at h
    unfold luL at h
    rcases hc with ⟨ht0, rfl, rfl⟩ | ⟨ht0, rfl, T, J, rfl⟩
    · rw [if_pos ht0] at h
      (refine gw5 @lm @hmu @n0 @hqd @e1 ?_; try exact True.intro)
      (repeat (refine And.intro (by omega) ?_))
      exact h
    · rw [if_neg (by omega)] at h
      unfold uB
      have ht1 := take_rL (F := foF W N xs W) (t := t)
      have hm1 := @mapO_rL
      (refine gw7 @lm @hmu @n0 @hqd @e1 @ht1 @hm1 ?_; try exact True.intro)
      (repeat (refine And.intro (by omega) ?_))
      exact h
/-- rows multiplied -/
def roF (W N : Nat) (ys xs : List (BitVec 64)) (t : Nat) : BitVec 64 := msk W (ys.getD (t / N) 0 * xs.getD t 0)
theorem roF_at {W N : Nat} {ys xs : List (BitVec 64)} {i j : Nat} (hj : j < N) : roF W N ys xs (i * N + j) = msk W (ys.getD i 0 * xs.getD (i * N + j) 0) := by
  unfold roF
  have e1 : (i * N + j) / N = i := by
    rw [Nat.mul_comm, Nat.mul_add_div (by omega), Nat.div_eq_of_lt hj, Nat.add_zero]
  rw [e1]
def I15 (W N : Nat) (ys xs : List (BitVec 64)) (H : Heap) (k : Nat) (st : St) : Prop :=
  ∃ (i t v : Nat) (u7 u8 c13 : AV), st = ⟨[.int W, .int N, .ro .leaf (ys.map .u64), .ro .leaf (xs.map .u64), .nils, .int 0, .own H.length v [] 0 t .leaf, u7, u8, .bool false, .ro .leaf (ys.map .u64), .int ys.length, .int i, c13], H ++ [uB v t (rL (roF W N ys xs) t)]⟩ ∧ k = ys.length - i ∧ i ≤ ys.length ∧ t = i * N
theorem f15 {K : AV → Heap → Prop} {H : Heap} {W N : Nat} {ys xs : List (BitVec 64)} (hn : ys.length ≤ 1000) (hw : okW W N = true) (hd : xs.length = N * ys.length) (h : K (.tup [.ro .leaf (rL (roF W N ys xs) xs.length), .int 0]) H) : wpF P [] 15 [.int W, .int N, .ro .leaf (ys.map .u64), .ro .leaf (xs.map .u64)] H K := by
  refine wpF_go c15 rfl 4 ?_
  intro ha hb'
  simp only [s15]
  clear ha hb'
  have lm : (xs.map AV.u64).length = xs.length := by simp
  have la : (ys.map AV.u64).length = ys.length := by simp
  obtain ⟨hg, hn1, hn2⟩ := okW_good hw
  have hN : 1 ≤ N ∧ N ≤ 6 := by omega
  have hx6 : N * ys.length ≤ 6 * 1000 := Nat.mul_le_mul hN.2 hn
  have hmu : (N : Int) * (ys.length : Int) = (xs.length : Int) := by rw [hd]; simp
  (refine gw0 ?_; try exact True.intro)
  refine f25 ?_
  (refine gw4 @hw @lm @la @hmu ?_; try exact True.intro)
  (repeat (refine And.intro (by omega) ?_))
  refine wp_inv (I15 W N ys xs H) ys.length ⟨0, 0, 0, _, _, _, rfl, rfl, Nat.zero_le _, by simp⟩ ?_
  rintro k st ⟨i, t, v, u7, u8, c13, rfl, rfl, hi, ht⟩
  unfold uB
  by_cases hil : i < ys.length
  · have e1 : ((i : Int) < (ys.length : Int)) = True := by simp; omega
    have g1 := ld_u64 hil
    have hle : (i + 1) * N ≤ ys.length * N := Nat.mul_le_mul_right _ hil
    rw [Nat.succ_mul, ← ht, Nat.mul_comm ys.length, ← hd] at hle
    have m1 : (i : Int) * (N : Int) = ((t : Nat) : Int) := by rw [ht]; simp
    have m2 : ((i : Int) + 1) * (N : Int) = ((t + N : Nat) : Int) := by rw [ht, ← Nat.succ_mul]; simp
    have hsb : t + N - t = N := by omega
    have hpt := rL_part (N := N) (p := t) (xs := xs) hle
    (refine gw8 @e1 @g1 @la @lm @m1 @m2 @hsb @hpt ?_; try exact True.intro)
    (repeat (refine And.intro (by omega) ?_))
    refine f30r (by omega) ?_
    have hap := rL_app (F := roF W N ys xs) (G := fun j => msk W (ys.getD i 0 * xs.getD (t + j) 0)) (t := t) (n := N) fun j hj => by rw [ht, roF_at hj]
    have hrl := rL_len (F := fun j => msk W (ys.getD i 0 * xs.getD (t + j) 0)) (t := N)
    have hkd := rL_kind (F := fun j => msk W (ys.getD i 0 * xs.getD (t + j) 0)) (t := N)
    (refine gw2 @hrl @hap ?_; try exact True.intro)
    refine ⟨hkd, ?_⟩
    (repeat (refine And.intro (by omega) ?_))
    refine ⟨ys.length - (i + 1), by omega, i + 1, t + N, v + 1, _, _, _, rfl, rfl, by omega, by rw [Nat.succ_mul, ht]⟩
  · have e1 : ((i : Int) < (ys.length : Int)) = False := by simp; omega
    have hte : t = xs.length := by rw [ht, hd, show i = ys.length by omega, Nat.mul_comm]
    rw [← hte] at h
    have ht1 := take_rL (F := roF W N ys xs) (t := t)
    have hm1 := @mapO_rL
    (refine gw3 @e1 @ht1 @hm1 ?_; try exact True.intro)
    exact h
theorem f15e {K : AV → Heap → Prop} {H : Heap} {w n : Int} {ys xs : List (BitVec 64)} (hn : ys.length ≤ 1000) (hx : xs.length ≤ 100000) (hb : okW w n = true → ¬ (xs.length : Int) = n * ys.length) (h : K (.tup [.nils, .int 11]) H) : wpF P [] 15 [.int w, .int n, .ro .leaf (ys.map .u64), .ro .leaf (xs.map .u64)] H K := by
  refine wpF_go c15 rfl 4 ?_
  intro ha hb'
  simp only [s15]
  clear ha hb'
  have lm : (xs.map AV.u64).length = xs.length := by simp
  have la : (ys.map AV.u64).length = ys.length := by simp
  by_cases h1 : okW w n = true
  · obtain ⟨_, hn1, hn2⟩ := okW_good h1
    have hne : ((xs.length : Int) = n * ys.length) = False := by simp only [eq_iff_iff, iff_false]; exact hb h1
    have b1 : n * (ys.length : Int) ≤ 6 * 1000 := Int.mul_le_mul hn2 (by omega) (by omega) (by decide)
    have b2 : 0 ≤ n * (ys.length : Int) := Int.mul_nonneg (by omega) (by omega)
    generalize hM : n * (ys.length : Int) = M at *
    (refine gw0 ?_; try exact True.intro)
    refine f25 ?_
    (refine gw5 @h1 @lm @la @hM @hne ?_; try exact True.intro)
    (repeat (refine And.intro (by omega) ?_))
    exact h
  · have h1' : okW w n = false := by simpa using h1
    (refine gw0 ?_; try exact True.intro)
    refine f25 ?_
    (refine gw1 @h1' ?_; try exact True.intro)
    exact h
def I16a (W N : Nat) (ys xs : List (BitVec 64)) (H : Heap) (k : Nat) (st : St) : Prop :=
  ∃ (i t : Nat) (out u8 c10 c11 : AV) (L : Heap), st = ⟨[.int W, .int N, .ro .leaf (ys.map .u64), .ro .leaf (xs.map .u64), .nils, .int 0, out, .int (i : Int), u8, .bool false, c10, c11], H ++ L⟩ ∧ k = ys.length - i ∧ i ≤ ys.length ∧ t = i * N + 0 ∧ apU H.length (roF W N ys xs) t out L
def I16b (W N : Nat) (ys xs : List (BitVec 64)) (i : Nat) (H : Heap) (k : Nat) (st : St) : Prop :=
  ∃ (j t : Nat) (out c11 : AV) (L : Heap), st = ⟨[.int W, .int N, .ro .leaf (ys.map .u64), .ro .leaf (xs.map .u64), .nils, .int 0, out, .int (i : Int), .int (j : Int), .bool false, .bool true, c11], H ++ L⟩ ∧ k = N - j ∧ j ≤ N ∧ t = i * N + j ∧ apU H.length (roF W N ys xs) t out L
theorem f16 {K : AV → Heap → Prop} {H : Heap} {W N : Nat} {ys xs : List (BitVec 64)} (hn : ys.length ≤ 1000) (hw : okW W N = true) (hd : xs.length = N * ys.length) (h : K (.tup [luL (roF W N ys xs) xs.length, .int 0]) H) : wpF P [] 16 [.int W, .int N, .ro .leaf (ys.map .u64), .ro .leaf (xs.map .u64)] H K := by
  refine wpF_go c16 rfl 4 ?_
  intro ha hb'
  simp only [s16]
  clear ha hb'
  have lm : (xs.map AV.u64).length = xs.length := by simp
  have la : (ys.map AV.u64).length = ys.length := by simp
  obtain ⟨hg, hn1, hn2⟩ := okW_good hw
  have hN : 1 ≤ N ∧ N ≤ 6 := by omega
  have hx6 : N * ys.length ≤ 6 * 1000 := Nat.mul_le_mul hN.2 hn
  have hmu : (N : Int) * (ys.length : Int) = (xs.length : Int) := by rw [hd]; simp
  have hcm : ∀ x, rcut (rounds (W : Int)) x = msk W x := fun x => f19g' hg x
  (refine gw0 ?_; try exact True.intro)
  refine f18 ?_
  (refine gw4 @hw @lm @la @hmu ?_; try exact True.intro)
  (repeat (refine And.intro (by omega) ?_))
  refine wp_inv (I16a W N ys xs H) ys.length ⟨0, 0, _, _, _, _, [], by rw [List.append_nil]; rfl, rfl, Nat.zero_le _, by simp, .inl ⟨rfl, rfl, rfl⟩⟩ ?_
  rintro k st ⟨i, t, out, u8, c10, c11, L, rfl, rfl, hi, ht, hc⟩
  by_cases hil : i < ys.length
  · have e1 : ((i : Int) < (ys.length : Int)) = True := by simp; omega
    have g1 := ld_u64 hil
    have hle : (i + 1) * N ≤ ys.length * N := Nat.mul_le_mul_right _ hil
    rw [Nat.succ_mul, Nat.mul_comm ys.length, ← hd] at hle
    have m1 : (i : Int) * (N : Int) = ((i * N : Nat) : Int) := by simp
    (refine gw2 @e1 @la ?_; try exact True.intro)
    refine wp_inv (I16b W N ys xs i H) N ⟨0, t, _, _, L, rfl, rfl, Nat.zero_le _, ht, hc⟩ ?_
    rintro k st ⟨j, t, out, c11, L, rfl, rfl, hj', ht, hc⟩
    by_cases hjl : j < N
    · have e2 : ((j : Int) < (N : Int)) = True := by simp; omega
      have hx : msk W (ys.getD i 0 * xs.getD (i * N + j) 0) = roF W N ys xs t := by rw [ht, roF_at hjl]
      have hia : i * N + j < xs.length := by omega
      generalize hp : i * N = p at *
      have had : (p : Int) + (j : Int) = ((p + j : Nat) : Int) := by omega
      have g2 := ld_u64 hia
      have hr1 := rL_one (F := roF W N ys xs) (t := t) rfl
      rcases hc with ⟨ht0, rfl, rfl⟩ | ⟨ht0, rfl, T, J, rfl⟩
      · (refine gw7 @e2 @g1 @m1 @had @g2 @la @lm ?_; try exact True.intro)
        (repeat (refine And.intro (by omega) ?_))
        refine drawn _ (f24 ⟨rfl, rfl⟩) ?_
        rw [hcm, hx]
        (refine gw7 @e2 @g1 @m1 @had @g2 @la @lm ?_; try exact True.intro)
        (repeat (refine And.intro (by omega) ?_))
        refine ⟨N - (j + 1), by omega, j + 1, t + 1, _, _, _, rfl, rfl, by omega, by rw [hp, ht]; rfl, .inr ⟨by omega, by rw [ht0], _, [], by rw [ht0]; rfl⟩⟩
      · unfold uB
        (refine gw7 @e2 @g1 @m1 @had @g2 @la @lm ?_; try exact True.intro)
        (repeat (refine And.intro (by omega) ?_))
        refine drawn _ (f24 ⟨rfl, rfl⟩) ?_
        rw [hcm, hx]
        (refine gw8 @e2 @g1 @m1 @had @g2 @la @lm @hr1 ?_; try exact True.intro)
        (repeat (refine And.intro (by omega) ?_))
        refine ⟨N - (j + 1), by omega, j + 1, t + 1, _, _, _, rfl, rfl, by omega, by rw [hp, ht]; rfl, .inr ⟨by omega, rfl, _, _, rfl⟩⟩
    · have e2 : ((j : Int) < (N : Int)) = False := by simp; omega
      (refine gw1 @e2 ?_; try exact True.intro)
      (repeat (refine And.intro (by omega) ?_))
      refine ⟨ys.length - (i + 1), by omega, i + 1, t, _, _, _, _, _, rfl, rfl, by omega, by rw [ht, show j = N by omega, Nat.succ_mul]; rfl, hc⟩
  · have hie : i = ys.length := by omega
    have hte : t = xs.length := by rw [ht, hie, hd, Nat.mul_comm]; rfl
    have e1 : ((i : Int) < (ys.length : Int)) = False := by simp; omega
    rw [← hte] at h
    unfold luL at h
    rcases hc with ⟨ht0, rfl, rfl⟩ | ⟨ht0, rfl, T, J, rfl⟩
    · rw [if_pos ht0] at h
      (refine gw2 @la @e1 ?_; try exact True.intro)
      exact h
    · rw [if_neg (by omega)] at h
      unfold uB
      have ht1 := take_rL (F := roF W N ys xs) (t := t)
      have hm1 := @mapO_rL
      (refine gw4 @la @e1 @ht1 @hm1 ?_; try exact True.intro)
      exact h
theorem f16e {K : AV → Heap → Prop} {H : Heap} {w n : Int} {ys xs : List (BitVec 64)} (hn : ys.length ≤ 1000) (hx : xs.length ≤ 100000) (hb : okW w n = true → ¬ (xs.length : Int) = n * ys.length) (h : K (.tup [.nils, .int 11]) H) : wpF P [] 16 [.int w, .int n, .ro .leaf (ys.map .u64), .ro .leaf (xs.map .u64)] H K := by
  refine wpF_go c16 rfl 4 ?_
  intro ha hb'
  simp only [s16]
  clear ha hb'
  have lm : (xs.map AV.u64).length = xs.length := by simp
  have la : (ys.map AV.u64).length = ys.length := by simp
  by_cases h1 : okW w n = true
  · obtain ⟨_, hn1, hn2⟩ := okW_good h1
    have hne : ((xs.length : Int) = n * ys.length) = False := by simp only [eq_iff_iff, iff_false]; exact hb h1
    have b1 : n * (ys.length : Int) ≤ 6 * 1000 := Int.mul_le_mul hn2 (by omega) (by omega) (by decide)
    have b2 : 0 ≤ n * (ys.length : Int) := Int.mul_nonneg (by omega) (by omega)
    generalize hM : n * (ys.length : Int) = M at *
    (refine gw0 ?_; try exact True.intro)
    refine f18 ?_
    (refine gw5 @h1 @lm @la @hM @hne ?_; try exact True.intro)
    (repeat (refine And.intro (by omega) ?_))
    exact h
  · have h1' : okW w n = false := by simpa using h1
    (refine gw0 ?_; try exact True.intro)
    refine f18 ?_
    (refine gw1 @h1' ?_; try exact True.intro)
    exact h
end Go.Proofs.Ytajkclooknanjaa

end
