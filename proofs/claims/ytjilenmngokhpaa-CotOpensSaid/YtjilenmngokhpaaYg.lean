/-
  Layer 19 (cot): CotBlind and CotOpens walked.
-/
import Derived.Test.YtjilenmngokhpaaYe
import Derived.Test.YtjilenmngokhpaaV38
import Derived.Test.YtjilenmngokhpaaV44
section
open Go Go.V
namespace Go.Proofs.Ytjilenmngokhpaa
/-- trefoil/trefoillaw19.CotBlind (0:width, 1:n, 2:l, 3:xs, 4:ys, 10:, 11:x, 12:y, 13:k, 14:a, 15:b, 16:e, 17:c, 18:d, 19:f, 56:, 63:) -/
def s6 : FnS := ⟨135, [0, 1, 2, 3, 4, 10, 11, 12, 13, 14, 15, 16, 17, 18, 19, 56, 63],
    (.seq (.reg [⟨.var 5, (.q .mv), [.c (.bool false)], none⟩])
    (.seq (.seq (.reg [⟨.new, (.q .mv), [.t 0], none⟩,
      ⟨.new, (.q (.bin .lss)), [.t 17, .c (.int 1)], none⟩,
      ⟨.new, (.q .mv), [.t 18], none⟩,
      ⟨.new, (.q .mv), [.t 0], (some (19, false))⟩,
      ⟨.new, (.q (.bin .gtr)), [.t 20, .c (.int 64)], (some (19, false))⟩,
      ⟨.new, (.q .pick), [.t 19, .c (.bool true), .t 21], none⟩,
      ⟨.new, (.q .mv), [.t 22], none⟩,
      ⟨.new, (.q .mv), [.t 1], (some (23, false))⟩,
      ⟨.new, (.q (.bin .lss)), [.t 24, .c (.int 1)], (some (23, false))⟩,
      ⟨.new, (.q .pick), [.t 23, .c (.bool true), .t 25], none⟩,
      ⟨.new, (.q .mv), [.t 26], none⟩,
      ⟨.new, (.q .mv), [.t 1], (some (27, false))⟩,
      ⟨.new, (.q (.bin .gtr)), [.t 28, .c (.int 6)], (some (27, false))⟩,
      ⟨.new, (.q .pick), [.t 27, .c (.bool true), .t 29], none⟩,
      ⟨.new, (.q .mv), [.t 30], none⟩,
      ⟨.new, (.q .mv), [.t 2], (some (31, false))⟩,
      ⟨.new, (.q .len), [.t 32], (some (31, false))⟩,
      ⟨.new, (.q (.bin .gtr)), [.t 33, .c (.int 20)], (some (31, false))⟩,
      ⟨.new, (.q .pick), [.t 31, .c (.bool true), .t 34], none⟩,
      ⟨.new, (.q .mv), [.t 35], none⟩,
      ⟨.new, (.q .mv), [.t 3], (some (36, false))⟩,
      ⟨.new, (.q .len), [.t 37], (some (36, false))⟩,
      ⟨.new, (.q .mv), [.t 1], (some (36, false))⟩,
      ⟨.new, (.q .mv), [.t 2], (some (36, false))⟩,
      ⟨.new, (.q .len), [.t 40], (some (36, false))⟩,
      ⟨.new, (.q (.bin .mul)), [.t 39, .t 41], (some (36, false))⟩,
      ⟨.new, (.q (.bin .lss)), [.t 38, .t 42], (some (36, false))⟩,
      ⟨.new, (.q .pick), [.t 36, .c (.bool true), .t 43], none⟩,
      ⟨.new, (.q .mv), [.t 44], none⟩,
      ⟨.new, (.q .mv), [.t 4], (some (45, false))⟩,
      ⟨.new, (.q .len), [.t 46], (some (45, false))⟩,
      ⟨.new, (.q .mv), [.t 1], (some (45, false))⟩,
      ⟨.new, (.q .mv), [.t 2], (some (45, false))⟩,
      ⟨.new, (.q .len), [.t 49], (some (45, false))⟩,
      ⟨.new, (.q (.bin .mul)), [.t 48, .t 50], (some (45, false))⟩,
      ⟨.new, (.q (.bin .lss)), [.t 47, .t 51], (some (45, false))⟩,
      ⟨.var 15, (.q .pick), [.t 45, .c (.bool true), .t 52], none⟩])
    (.cond (.t 15) (.seq (.reg [⟨.new, (.call 11), [], none⟩,
      ⟨.var 5, (.q .mv), [.t 17], none⟩])
    .ret)
    .skip))
    (.seq (.reg [⟨.var 6, (.q .mv), [.c .nils], none⟩,
      ⟨.var 7, (.q .mv), [.c .nils], none⟩])
    (.seq (.seq (.reg [⟨.var 8, (.q .mv), [.c (.int 0)], none⟩])
    (.block 0 (.loop (.seq (.seq (.reg [⟨.new, (.q .mv), [.t 8], none⟩,
      ⟨.new, (.q .mv), [.t 1], none⟩,
      ⟨.new, (.q .mv), [.t 2], none⟩,
      ⟨.new, (.q .len), [.t 19], none⟩,
      ⟨.new, (.q (.bin .mul)), [.t 18, .t 20], none⟩,
      ⟨.var 16, (.q (.bin .lss)), [.t 17, .t 21], none⟩])
    (.cond (.t 16) .skip
    (.exit 0)))
    (.seq (.block 1 (.seq (.reg [⟨.new, (.q .mv), [.t 6], none⟩,
      ⟨.new, (.q .mv), [.t 0], none⟩,
      ⟨.new, (.q .mv), [.t 3], none⟩,
      ⟨.new, (.q .mv), [.t 8], none⟩,
      ⟨.new, (.q (.iaS .leaf)), [.t 19, .t 20], none⟩,
      ⟨.new, (.q (.ld .leaf)), [.t 21], none⟩,
      ⟨.new, (.call 19), [.t 18, .t 22], none⟩,
      ⟨.new, (.e (.bsl 49 .leaf (.u64 0) 1 [0])), [.t 23], none⟩,
      ⟨.new, (.e (.app 49 .leaf 8)), [.t 17, .t 24], none⟩,
      ⟨.var 6, (.q .mv), [.t 25], none⟩])
    (.reg [⟨.new, (.q .mv), [.t 7], none⟩,
      ⟨.new, (.q .mv), [.t 0], none⟩,
      ⟨.new, (.q .mv), [.t 4], none⟩,
      ⟨.new, (.q .mv), [.t 8], none⟩,
      ⟨.new, (.q (.iaS .leaf)), [.t 19, .t 20], none⟩,
      ⟨.new, (.q (.ld .leaf)), [.t 21], none⟩,
      ⟨.new, (.call 19), [.t 18, .t 22], none⟩,
      ⟨.new, (.e (.bsl 49 .leaf (.u64 0) 1 [0])), [.t 23], none⟩,
      ⟨.new, (.e (.app 49 .leaf 8)), [.t 17, .t 24], none⟩,
      ⟨.var 7, (.q .mv), [.t 25], none⟩])))
    (.reg [⟨.new, (.q .mv), [.t 8], none⟩,
      ⟨.new, (.q (.bin .add)), [.t 17, .c (.int 1)], none⟩,
      ⟨.var 8, (.q .mv), [.t 18], none⟩]))))))
    (.seq (.reg [⟨.new, (.q .mv), [.t 0], none⟩,
      ⟨.new, (.q .mv), [.t 1], none⟩,
      ⟨.new, (.q .mv), [.t 2], none⟩,
      ⟨.new, (.call 13), [.t 19], none⟩,
      ⟨.new, (.q .mv), [.t 6], none⟩,
      ⟨.new, (.call 12), [.t 17, .t 18, .t 20, .t 21], none⟩,
      ⟨.new, (.q .mv), [.t 22], none⟩,
      ⟨.new, (.q (.ext 0)), [.t 23], none⟩,
      ⟨.new, (.q (.ext 1)), [.t 23], none⟩,
      ⟨.new, (.q (.ext 2)), [.t 23], none⟩,
      ⟨.var 9, (.q .mv), [.t 24], none⟩,
      ⟨.var 10, (.q .mv), [.t 25], none⟩,
      ⟨.var 11, (.q .mv), [.t 26], none⟩])
    (.seq (.reg [⟨.new, (.q .mv), [.t 0], none⟩,
      ⟨.new, (.q .mv), [.t 1], none⟩,
      ⟨.new, (.q .mv), [.t 2], none⟩,
      ⟨.new, (.call 13), [.t 19], none⟩,
      ⟨.new, (.q .mv), [.t 7], none⟩,
      ⟨.new, (.call 12), [.t 17, .t 18, .t 20, .t 21], none⟩,
      ⟨.new, (.q .mv), [.t 22], none⟩,
      ⟨.new, (.q (.ext 0)), [.t 23], none⟩,
      ⟨.new, (.q (.ext 1)), [.t 23], none⟩,
      ⟨.new, (.q (.ext 2)), [.t 23], none⟩,
      ⟨.var 12, (.q .mv), [.t 24], none⟩,
      ⟨.var 13, (.q .mv), [.t 25], none⟩,
      ⟨.var 14, (.q .mv), [.t 26], none⟩])
    (.seq (.reg [⟨.new, (.q .mv), [.t 11], none⟩,
      ⟨.new, (.q (.bin .eql)), [.t 17, .c (.int 0)], none⟩,
      ⟨.new, (.q .mv), [.t 18], none⟩,
      ⟨.new, (.q .mv), [.t 14], (some (19, true))⟩,
      ⟨.new, (.q .mv), [.t 11], (some (19, true))⟩,
      ⟨.new, (.q (.bin .eql)), [.t 20, .t 21], (some (19, true))⟩,
      ⟨.new, (.q .pick), [.t 19, .t 22, .c (.bool false)], none⟩,
      ⟨.new, (.q .mv), [.t 23], none⟩,
      ⟨.new, (.q .mv), [.t 10], (some (24, true))⟩,
      ⟨.new, (.q .mv), [.t 13], (some (24, true))⟩,
      ⟨.new, (.call 15), [.t 25, .t 26], (some (24, true))⟩,
      ⟨.new, (.q .pick), [.t 24, .t 27, .c (.bool false)], none⟩,
      ⟨.new, (.q .mv), [.t 28], none⟩,
      ⟨.new, (.q .mv), [.t 9], (some (29, true))⟩,
      ⟨.new, (.q .len), [.t 30], (some (29, true))⟩,
      ⟨.new, (.q .mv), [.t 12], (some (29, true))⟩,
      ⟨.new, (.q .len), [.t 32], (some (29, true))⟩,
      ⟨.new, (.q (.bin .eql)), [.t 31, .t 33], (some (29, true))⟩,
      ⟨.new, (.q .pick), [.t 29, .t 34, .c (.bool false)], none⟩,
      ⟨.new, (.q .mv), [.t 35], none⟩,
      ⟨.new, (.q .mv), [.t 9], (some (36, true))⟩,
      ⟨.new, (.q .len), [.t 37], (some (36, true))⟩,
      ⟨.new, (.q .mv), [.t 1], (some (36, true))⟩,
      ⟨.new, (.q .mv), [.t 2], (some (36, true))⟩,
      ⟨.new, (.q .len), [.t 40], (some (36, true))⟩,
      ⟨.new, (.q (.bin .mul)), [.t 39, .t 41], (some (36, true))⟩,
      ⟨.new, (.q (.bin .eql)), [.t 38, .t 42], (some (36, true))⟩,
      ⟨.new, (.q .pick), [.t 36, .t 43, .c (.bool false)], none⟩,
      ⟨.new, (.q .mv), [.t 44], none⟩,
      ⟨.new, (.call 11), [], (some (45, true))⟩,
      ⟨.new, (.q .pick), [.t 45, .t 46, .c (.bool false)], none⟩,
      ⟨.var 5, (.q .mv), [.t 47], none⟩])
    .ret))))))),
    [.t 5]⟩

set_option maxRecDepth 100000
set_option linter.unusedSimpArgs false
set_option linter.unusedVariables false
theorem c6 : cF P [] (drP P []) 6 5 s6.vm = some s6 := by kernel_rfl
theorem dem_isP {A : AV} {l : List Pr} (hA : isP A l) {kp : Nat → Bool} {N : Nat} {h : Heap} : demK kp N h 3 A = some A := by
  rcases hA with rfl | ⟨_, rfl⟩
  · rw [demK_ro, if_pos bnds_prA]
  · rfl
def I6 (W N : Nat) (l : List Pr) (xs ys : List (BitVec 64)) (H : Heap) (k : Nat) (st : St) : Prop :=
  ∃ (t : Nat) (x y u16 : AV) (L : Heap), st = ⟨[.int W, .int N, .ro prS (l.map prA), .ro .leaf (xs.map .u64), .ro .leaf (ys.map .u64), .bool false, x, y, .int (t : Int), .un, .un, .un, .un, .un, .un, .bool false, u16], H ++ L⟩ ∧ k = N * l.length - t ∧ t ≤ N * l.length ∧ ap14 H.length (fun i => msk W (xs.getD i 0)) (fun i => msk W (ys.getD i 0)) t x y L
theorem f6 {K : AV → Heap → Prop} {H : Heap} {w n : Int} {l : List Pr} {xs ys : List (BitVec 64)} (hl : l.length ≤ maxLen) (hx : xs.length ≤ maxLen) (hy : ys.length ≤ maxLen) (hok : ∀ p ∈ l, p.ok) (h : K (.bool true) H) : wpF P [] 6 [.int w, .int n, .ro prS (l.map prA), .ro .leaf (xs.map .u64), .ro .leaf (ys.map .u64)] H K := by
  refine wpF_go c6 rfl 3 ?_
  intro ha hb
  simp only [s6]
  clear ha hb
  unfold maxLen at hl hx hy
  have lx : (xs.map AV.u64).length = xs.length := by simp
  have ly : (ys.map AV.u64).length = ys.length := by simp
  have ll : (l.map prA).length = l.length := by simp
  by_cases h1 : w < 1
  · (refine gw1 @h1 ?_; try exact True.intro)
    refine f11 ?_
    (refine gw0 ?_; try exact True.intro)
    exact h
  by_cases h2 : 64 < w
  · (refine gw2 @h1 @h2 ?_; try exact True.intro)
    refine f11 ?_
    (refine gw0 ?_; try exact True.intro)
    exact h
  by_cases h3 : n < 1
  · (refine gw3 @h1 @h2 @h3 ?_; try exact True.intro)
    refine f11 ?_
    (refine gw0 ?_; try exact True.intro)
    exact h
  by_cases h4 : 6 < n
  · (refine gw4 @h1 @h2 @h3 @h4 ?_; try exact True.intro)
    refine f11 ?_
    (refine gw0 ?_; try exact True.intro)
    exact h
  have hw : okW w n = true := by simp only [okW, Bool.and_eq_true, decide_eq_true_eq]; omega
  obtain ⟨hg, hn1, hn2⟩ := okW_good hw
  obtain ⟨hw1, hw2⟩ := id hg
  obtain ⟨W, rfl⟩ : ∃ W : Nat, w = W := ⟨w.toNat, by omega⟩
  obtain ⟨N, rfl⟩ : ∃ N : Nat, n = N := ⟨n.toNat, by omega⟩
  have hN : 1 ≤ N ∧ N ≤ 6 := by omega
  have hW : 1 ≤ W ∧ W ≤ 64 := by omega
  by_cases h5 : 20 < l.length
  · have e5 : ((20 : Int) < (l.length : Int)) = True := by simp only [eq_iff_iff, iff_true]; omega
    (refine gw6 @h1 @h2 @h3 @h4 @ll @e5 ?_; try exact True.intro)
    refine f11 ?_
    (refine gw0 ?_; try exact True.intro)
    exact h
  have e5 : ((20 : Int) < (l.length : Int)) = False := by simp only [eq_iff_iff, iff_false]; omega
  have hmu : (N : Int) * (l.length : Int) = ((N * l.length : Nat) : Int) := by simp
  have hM : N * l.length ≤ 6 * 20 := Nat.mul_le_mul hN.2 (by omega)
  by_cases h6 : xs.length < N * l.length
  · have e6 : ((xs.length : Int) < ((N * l.length : Nat) : Int)) = True := by simp only [eq_iff_iff, iff_true]; omega
    (refine gw9 @h1 @h2 @h3 @h4 @ll @e5 @lx @hmu @e6 ?_; try exact True.intro)
    (repeat (refine And.intro (by omega) ?_))
    refine f11 ?_
    (refine gw0 ?_; try exact True.intro)
    exact h
  have e6 : ((xs.length : Int) < ((N * l.length : Nat) : Int)) = False := by simp only [eq_iff_iff, iff_false]; omega
  by_cases h7 : ys.length < N * l.length
  · have e7 : ((ys.length : Int) < ((N * l.length : Nat) : Int)) = True := by simp only [eq_iff_iff, iff_true]; omega
    (refine gw11 @h1 @h2 @h3 @h4 @ll @e5 @lx @ly @hmu @e6 @e7 ?_; try exact True.intro)
    (repeat (refine And.intro (by omega) ?_))
    refine f11 ?_
    (refine gw0 ?_; try exact True.intro)
    exact h
  have e7 : ((ys.length : Int) < ((N * l.length : Nat) : Int)) = False := by simp only [eq_iff_iff, iff_false]; omega
  have hcm : ∀ x, rcut (rounds (W : Int)) x = msk W x := fun x => f19g' hg x
  (refine gw11 @h1 @h2 @h3 @h4 @ll @e5 @lx @ly @hmu @e6 @e7 ?_; try exact True.intro)
  (repeat (refine And.intro (by omega) ?_))
  refine wp_inv (I6 W N l xs ys H) (N * l.length) ⟨0, _, _, _, [], by rw [List.append_nil]; rfl, rfl, Nat.zero_le _, .inl ⟨rfl, rfl, rfl, rfl⟩⟩ ?_
  rintro k st ⟨t, x, y, u16, L, rfl, rfl, ht, hc⟩
  by_cases htl : t < N * l.length
  · have e8 : ((t : Int) < ((N * l.length : Nat) : Int)) = True := by simp only [eq_iff_iff, iff_true]; omega
    have g1 := ld_u64 (show t < xs.length by omega)
    have g2 := ld_u64 (show t < ys.length by omega)
    have r1 := rL_one (F := fun i => msk W (xs.getD i 0)) (t := t) rfl
    have r2 := rL_one (F := fun i => msk W (ys.getD i 0)) (t := t) rfl
    rcases hc with ⟨ht0, rfl, rfl, rfl⟩ | ⟨ht0, rfl, rfl, T1, T2, J, rfl⟩
    · (refine gw5 @e8 @ll @hmu @lx @g1 ?_; try exact True.intro)
      (repeat (refine And.intro (by omega) ?_))
      refine f19 ?_
      rw [hcm]
      (refine gw2 @ly @g2 ?_; try exact True.intro)
      (repeat (refine And.intro (by omega) ?_))
      refine f19 ?_
      rw [hcm]
      (refine gw0 ?_; try exact True.intro)
      (repeat (refine And.intro (by omega) ?_))
      exact ⟨N * l.length - (t + 1), by omega, t + 1, _, _, _, _, rfl, rfl, by omega, .inr ⟨by omega, by rw [ht0], by rw [ht0], _, _, [], by rw [ht0]; rfl⟩⟩
    · unfold uB
      (refine gw5 @e8 @ll @hmu @lx @g1 ?_; try exact True.intro)
      (repeat (refine And.intro (by omega) ?_))
      refine f19 ?_
      rw [hcm]
      (refine gw3 @ly @g2 @r1 ?_; try exact True.intro)
      (repeat (refine And.intro (by omega) ?_))
      refine f19 ?_
      rw [hcm]
      (refine gw1 @r2 ?_; try exact True.intro)
      (repeat (refine And.intro (by omega) ?_))
      exact ⟨N * l.length - (t + 1), by omega, t + 1, _, _, _, _, rfl, rfl, by omega, .inr ⟨by omega, rfl, rfl, _, _, _, rfl⟩⟩
  · have hte : t = N * l.length := by omega
    have e8 : ((t : Int) < ((N * l.length : Nat) : Int)) = False := by simp only [eq_iff_iff, iff_false]; omega
    have hxl : ((List.range (N * l.length)).map fun i => msk W (xs.getD i 0)).length = N * l.length := by simp
    have hyl : ((List.range (N * l.length)).map fun i => msk W (ys.getD i 0)).length = N * l.length := by simp
    have hfx := fit_map (W := W) (F := fun i => xs.getD i 0) (n := N * l.length)
    have hfy := fit_map (W := W) (F := fun i => ys.getD i 0) (n := N * l.length)
    rcases hc with ⟨ht0, rfl, rfl, rfl⟩ | ⟨ht0, rfl, rfl, T1, T2, J, rfl⟩
    · have hl0 : l.length = 0 := by
        have : N * l.length = 0 := by omega
        rcases Nat.mul_eq_zero.1 this with h | h
        · omega
        · exact h
      have hpl : prL l = .nils := if_pos hl0
      have hmz : N * l.length = 0 := by rw [hl0]; rfl
      rw [hmz] at hmu
      have e8' : ((t : Int) < 0) = False := by simp
      (refine gw3 @e8' @ll @hmu ?_; try exact True.intro)
      refine f13 (by omega) hok ?_
      rw [hpl]
      (refine gw0 ?_; try exact True.intro)
      refine f12n (.inr ⟨rfl, rfl⟩) hw ?_
      (refine gw0 ?_; try exact True.intro)
      refine f13 (by omega) hok ?_
      rw [hpl]
      (refine gw0 ?_; try exact True.intro)
      refine f12n (.inr ⟨rfl, rfl⟩) hw ?_
      (refine gw0 ?_; try exact True.intro)
      refine nums_isL (xs := []) (.inl rfl) (.inl rfl) ?_
      (refine gw2 @ll @hmu ?_; try exact True.intro)
      refine f11 ?_
      (refine gw0 ?_; try exact True.intro)
      exact h
    · have hl0 : l.length ≠ 0 := fun hc => by rw [hc] at hte; omega
      have hpl : prL l = .ro prS (l.map prA) := if_neg hl0
      have h13 : ∀ {K : AV → Heap → Prop} {H : Heap}, K (.ro prS (l.map prA)) H → wpF P [] 13 [.ro prS (l.map prA)] H K := fun h => f13 (by omega) hok (by rw [hpl]; exact h)
      have h12x : ∀ {K : AV → Heap → Prop} {H : Heap}, K (.tup [.ro .leaf (rL (fxF W N l ((List.range (N * l.length)).map fun i => msk W (xs.getD i 0))) (N * l.length)), .ro .leaf (rL (owF W N l) (N * l.length)), .int 0]) H → wpF P [] 12 [.int W, .int N, .ro prS (l.map prA), .ro .leaf (rL (fun i => msk W (xs.getD i 0)) t)] H K := fun h => by
        rw [rL_map, hte]
        exact f12 (by omega) hok hw hxl hfx (by rw [hxl]; exact h)
      have h12y : ∀ {K : AV → Heap → Prop} {H : Heap}, K (.tup [.ro .leaf (rL (fxF W N l ((List.range (N * l.length)).map fun i => msk W (ys.getD i 0))) (N * l.length)), .ro .leaf (rL (owF W N l) (N * l.length)), .int 0]) H → wpF P [] 12 [.int W, .int N, .ro prS (l.map prA), .ro .leaf (rL (fun i => msk W (ys.getD i 0)) t)] H K := fun h => by
        rw [rL_map, hte]
        exact f12 (by omega) hok hw hyl hfy (by rw [hyl]; exact h)
      have l1 := rL_len (F := fxF W N l ((List.range (N * l.length)).map fun i => msk W (xs.getD i 0))) (t := N * l.length)
      have l2 := rL_len (F := fxF W N l ((List.range (N * l.length)).map fun i => msk W (ys.getD i 0))) (t := N * l.length)
      have hdm : ∀ {kp : Nat → Bool} {N : Nat} {h : Heap}, demK kp N h 3 (.ro prS (l.map prA)) = some (.ro prS (l.map prA)) := fun {kp} {N} {h} => dem_isP (l := l) (.inl rfl)
      have hbp := fun k => bnds_prA (k := k) (l := l)
      have ht1 := take_rL (F := fun i => msk W (xs.getD i 0)) (t := t)
      have ht2 := take_rL (F := fun i => msk W (ys.getD i 0)) (t := t)
      have hm1 := @mapO_rL
      have hb1 := @bnds_rL
      unfold uB
      (refine gw3 @e8 @ll @hmu ?_; try exact True.intro)
      (repeat (refine And.intro (by omega) ?_))
      refine h13 ?_
      (refine gw0 ?_; try exact True.intro)
      refine wpF_give1 (H.length + 1) 3 ?_
      (refine gw3 @ht1 @hm1 @hbp ?_; try exact True.intro)
      refine h12x ?_
      (refine gw0 ?_; try exact True.intro)
      refine h13 ?_
      (refine gw0 ?_; try exact True.intro)
      refine wpF_give1 (H.length + 3) 3 ?_
      (refine gw3 @ht2 @hm1 @hbp ?_; try exact True.intro)
      refine h12y ?_
      (refine gw0 ?_; try exact True.intro)
      refine nums_isL isL_lu isL_lu ?_
      (refine gw4 @l1 @l2 @ll @hmu ?_; try exact True.intro)
      (repeat (refine And.intro (by omega) ?_))
      refine f11 ?_
      (refine gw0 ?_; try exact True.intro)
      exact h
end Go.Proofs.Ytjilenmngokhpaa

end

section
/-
  Layer 19 (cot): CotOpens walked.
-/
open Go Go.V
namespace Go.Proofs.Ytjilenmngokhpaa
/-- trefoil/trefoillaw19.CotOpens (0:width, 1:n, 2:l, 3:xs, 4:choices, 10:, 11:x, 12:seeds, 13:j, 14:s, 15:i, 16:v, 18:fix, 19:own, 20:e, 21:got, 22:f, 23:sum, 24:g, 25:k, 26:want, 61:, 66:, 77:, 89:, 175:, 179:, 187:, 197:) -/
def s5 : FnS := ⟨199, [0, 1, 2, 3, 4, 10, 11, 12, 13, 14, 15, 16, 18, 19, 20, 21, 22, 23, 24, 25, 26, 61, 66, 77, 89, 175, 179, 187, 197],
    (.seq (.reg [⟨.var 5, (.q .mv), [.c (.bool false)], none⟩])
    (.seq (.seq (.reg [⟨.new, (.q .mv), [.t 0], none⟩,
      ⟨.new, (.q (.bin .lss)), [.t 29, .c (.int 1)], none⟩,
      ⟨.new, (.q .mv), [.t 30], none⟩,
      ⟨.new, (.q .mv), [.t 0], (some (31, false))⟩,
      ⟨.new, (.q (.bin .gtr)), [.t 32, .c (.int 64)], (some (31, false))⟩,
      ⟨.new, (.q .pick), [.t 31, .c (.bool true), .t 33], none⟩,
      ⟨.new, (.q .mv), [.t 34], none⟩,
      ⟨.new, (.q .mv), [.t 1], (some (35, false))⟩,
      ⟨.new, (.q (.bin .lss)), [.t 36, .c (.int 1)], (some (35, false))⟩,
      ⟨.new, (.q .pick), [.t 35, .c (.bool true), .t 37], none⟩,
      ⟨.new, (.q .mv), [.t 38], none⟩,
      ⟨.new, (.q .mv), [.t 1], (some (39, false))⟩,
      ⟨.new, (.q (.bin .gtr)), [.t 40, .c (.int 6)], (some (39, false))⟩,
      ⟨.new, (.q .pick), [.t 39, .c (.bool true), .t 41], none⟩,
      ⟨.new, (.q .mv), [.t 42], none⟩,
      ⟨.new, (.q .mv), [.t 2], (some (43, false))⟩,
      ⟨.new, (.q .len), [.t 44], (some (43, false))⟩,
      ⟨.new, (.q (.bin .gtr)), [.t 45, .c (.int 20)], (some (43, false))⟩,
      ⟨.new, (.q .pick), [.t 43, .c (.bool true), .t 46], none⟩,
      ⟨.new, (.q .mv), [.t 47], none⟩,
      ⟨.new, (.q .mv), [.t 4], (some (48, false))⟩,
      ⟨.new, (.q .len), [.t 49], (some (48, false))⟩,
      ⟨.new, (.q .mv), [.t 2], (some (48, false))⟩,
      ⟨.new, (.q .len), [.t 51], (some (48, false))⟩,
      ⟨.new, (.q (.bin .lss)), [.t 50, .t 52], (some (48, false))⟩,
      ⟨.new, (.q .pick), [.t 48, .c (.bool true), .t 53], none⟩,
      ⟨.new, (.q .mv), [.t 54], none⟩,
      ⟨.new, (.q .mv), [.t 3], (some (55, false))⟩,
      ⟨.new, (.q .len), [.t 56], (some (55, false))⟩,
      ⟨.new, (.q .mv), [.t 1], (some (55, false))⟩,
      ⟨.new, (.q .mv), [.t 2], (some (55, false))⟩,
      ⟨.new, (.q .len), [.t 59], (some (55, false))⟩,
      ⟨.new, (.q (.bin .mul)), [.t 58, .t 60], (some (55, false))⟩,
      ⟨.new, (.q (.bin .lss)), [.t 57, .t 61], (some (55, false))⟩,
      ⟨.var 21, (.q .pick), [.t 55, .c (.bool true), .t 62], none⟩])
    (.cond (.t 21) (.seq (.reg [⟨.new, (.call 11), [], none⟩,
      ⟨.var 5, (.q .mv), [.t 29], none⟩])
    .ret)
    .skip))
    (.seq (.reg [⟨.var 6, (.q .mv), [.c .nils], none⟩])
    (.seq (.reg [⟨.var 7, (.q .mv), [.c .nils], none⟩])
    (.seq (.seq (.reg [⟨.var 8, (.q .mv), [.c (.int 0)], none⟩])
    (.block 0 (.loop (.seq (.seq (.reg [⟨.new, (.q .mv), [.t 8], none⟩,
      ⟨.new, (.q .mv), [.t 2], none⟩,
      ⟨.new, (.q .len), [.t 30], none⟩,
      ⟨.var 22, (.q (.bin .lss)), [.t 29, .t 31], none⟩])
    (.cond (.t 22) .skip
    (.exit 0)))
    (.seq (.block 1 (.seq (.reg [⟨.new, (.q .mv), [.t 2], none⟩,
      ⟨.new, (.q .mv), [.t 8], none⟩,
      ⟨.new, (.q (.iaS (.st [(.arr 32 .leaf), (.arr 32 .leaf)]))), [.t 29, .t 30], none⟩,
      ⟨.new, (.q (.fa [(.arr 32 .leaf), (.arr 32 .leaf)] 0)), [.t 31], none⟩,
      ⟨.new, (.q (.ld (.arr 32 .leaf))), [.t 32], none⟩,
      ⟨.var 9, (.e (.alloc 46 (.arr 32 .leaf) (.agg [(.u8 0), (.u8 0), (.u8 0), (.u8 0), (.u8 0), (.u8 0), (.u8 0), (.u8 0), (.u8 0), (.u8 0), (.u8 0), (.u8 0), (.u8 0), (.u8 0), (.u8 0), (.u8 0), (.u8 0), (.u8 0), (.u8 0), (.u8 0), (.u8 0), (.u8 0), (.u8 0), (.u8 0), (.u8 0), (.u8 0), (.u8 0), (.u8 0), (.u8 0), (.u8 0), (.u8 0), (.u8 0)]))), [], none⟩,
      ⟨.none, (.e (.store (.arr 32 .leaf))), [.t 9, .t 33], none⟩])
    (.seq (.seq (.reg [⟨.new, (.q .mv), [.t 4], none⟩,
      ⟨.new, (.q .mv), [.t 8], none⟩,
      ⟨.new, (.q (.iaS .leaf)), [.t 29, .t 30], none⟩,
      ⟨.var 23, (.q (.ld .leaf)), [.t 31], none⟩])
    (.cond (.t 23) (.reg [⟨.new, (.q .mv), [.t 2], none⟩,
      ⟨.new, (.q .mv), [.t 8], none⟩,
      ⟨.new, (.q (.iaS (.st [(.arr 32 .leaf), (.arr 32 .leaf)]))), [.t 29, .t 30], none⟩,
      ⟨.new, (.q (.fa [(.arr 32 .leaf), (.arr 32 .leaf)] 1)), [.t 31], none⟩,
      ⟨.new, (.q (.ld (.arr 32 .leaf))), [.t 32], none⟩,
      ⟨.none, (.e (.store (.arr 32 .leaf))), [.t 9, .t 33], none⟩])
    .skip))
    (.seq (.reg [⟨.new, (.q .mv), [.t 7], none⟩,
      ⟨.new, (.q (.ld (.arr 32 .leaf))), [.t 9], none⟩,
      ⟨.new, (.e (.bsl 46 (.arr 32 .leaf) (.agg [(.u8 0), (.u8 0), (.u8 0), (.u8 0), (.u8 0), (.u8 0), (.u8 0), (.u8 0), (.u8 0), (.u8 0), (.u8 0), (.u8 0), (.u8 0), (.u8 0), (.u8 0), (.u8 0), (.u8 0), (.u8 0), (.u8 0), (.u8 0), (.u8 0), (.u8 0), (.u8 0), (.u8 0), (.u8 0), (.u8 0), (.u8 0), (.u8 0), (.u8 0), (.u8 0), (.u8 0), (.u8 0)]) 1 [0])), [.t 30], none⟩,
      ⟨.new, (.e (.app 46 (.arr 32 .leaf) 32)), [.t 29, .t 31], none⟩,
      ⟨.var 7, (.q .mv), [.t 32], none⟩])
    (.seq (.reg [⟨.var 10, (.q .mv), [.c (.int 0)], none⟩])
    (.block 2 (.loop (.seq (.seq (.reg [⟨.new, (.q .mv), [.t 10], none⟩,
      ⟨.new, (.q .mv), [.t 1], none⟩,
      ⟨.var 24, (.q (.bin .lss)), [.t 29, .t 30], none⟩])
    (.cond (.t 24) .skip
    (.exit 2)))
    (.seq (.block 3 (.reg [⟨.new, (.q .mv), [.t 6], none⟩,
      ⟨.new, (.q .mv), [.t 0], none⟩,
      ⟨.new, (.q .mv), [.t 3], none⟩,
      ⟨.new, (.q .mv), [.t 8], none⟩,
      ⟨.new, (.q .mv), [.t 1], none⟩,
      ⟨.new, (.q (.bin .mul)), [.t 32, .t 33], none⟩,
      ⟨.new, (.q .mv), [.t 10], none⟩,
      ⟨.new, (.q (.bin .add)), [.t 34, .t 35], none⟩,
      ⟨.new, (.q (.iaS .leaf)), [.t 31, .t 36], none⟩,
      ⟨.new, (.q (.ld .leaf)), [.t 37], none⟩,
      ⟨.new, (.call 19), [.t 30, .t 38], none⟩,
      ⟨.new, (.e (.bsl 49 .leaf (.u64 0) 1 [0])), [.t 39], none⟩,
      ⟨.new, (.e (.app 49 .leaf 8)), [.t 29, .t 40], none⟩,
      ⟨.var 6, (.q .mv), [.t 41], none⟩]))
    (.reg [⟨.new, (.q .mv), [.t 10], none⟩,
      ⟨.new, (.q (.bin .add)), [.t 29, .c (.int 1)], none⟩,
      ⟨.var 10, (.q .mv), [.t 30], none⟩]))))))))))
    (.reg [⟨.new, (.q .mv), [.t 8], none⟩,
      ⟨.new, (.q (.bin .add)), [.t 29, .c (.int 1)], none⟩,
      ⟨.var 8, (.q .mv), [.t 30], none⟩]))))))
    (.seq (.reg [⟨.new, (.q .mv), [.t 4], none⟩,
      ⟨.new, (.q .mv), [.t 2], none⟩,
      ⟨.new, (.q .len), [.t 30], none⟩,
      ⟨.new, (.q (.slV .leaf false true)), [.t 29, .t 31], none⟩,
      ⟨.new, (.call 16), [.t 32], none⟩,
      ⟨.new, (.q .mv), [.t 33], none⟩,
      ⟨.new, (.q (.ext 0)), [.t 34], none⟩,
      ⟨.new, (.q (.ext 1)), [.t 34], none⟩,
      ⟨.var 11, (.e (.alloc 37 (.st [.leaf, .leaf]) (.agg [(.int 0), .nils]))), [], none⟩,
      ⟨.none, (.e (.store (.st [.leaf, .leaf]))), [.t 11, .t 35], none⟩,
      ⟨.new, (.q .mv), [.t 36], none⟩])
    (.seq (.reg [⟨.new, (.q .mv), [.t 0], none⟩,
      ⟨.new, (.q .mv), [.t 1], none⟩,
      ⟨.new, (.q .mv), [.t 2], none⟩,
      ⟨.new, (.call 13), [.t 31], none⟩,
      ⟨.new, (.q .mv), [.t 6], none⟩,
      ⟨.new, (.call 12), [.t 29, .t 30, .t 32, .t 33], none⟩,
      ⟨.new, (.q .mv), [.t 34], none⟩,
      ⟨.new, (.q (.ext 0)), [.t 35], none⟩,
      ⟨.new, (.q (.ext 1)), [.t 35], none⟩,
      ⟨.new, (.q (.ext 2)), [.t 35], none⟩,
      ⟨.var 12, (.q .mv), [.t 36], none⟩,
      ⟨.var 13, (.q .mv), [.t 37], none⟩,
      ⟨.var 14, (.q .mv), [.t 38], none⟩])
    (.seq (.reg [⟨.new, (.q .mv), [.t 0], none⟩,
      ⟨.new, (.q .mv), [.t 1], none⟩,
      ⟨.new, (.q .mv), [.t 7], none⟩,
      ⟨.new, (.q (.ld (.st [.leaf, .leaf]))), [.t 11], none⟩,
      ⟨.new, (.q .mv), [.t 12], none⟩,
      ⟨.new, (.call 17), [.t 29, .t 30, .t 31, .t 32, .t 33], none⟩,
      ⟨.new, (.q .mv), [.t 34], none⟩,
      ⟨.new, (.q (.ext 0)), [.t 35], none⟩,
      ⟨.new, (.q (.ext 1)), [.t 35], none⟩,
      ⟨.var 15, (.q .mv), [.t 36], none⟩,
      ⟨.var 16, (.q .mv), [.t 37], none⟩])
    (.seq (.reg [⟨.new, (.q .mv), [.t 0], none⟩,
      ⟨.new, (.q .mv), [.t 13], none⟩,
      ⟨.new, (.q .mv), [.t 15], none⟩,
      ⟨.new, (.call 20), [.t 29, .t 30, .t 31], none⟩,
      ⟨.new, (.q .mv), [.t 32], none⟩,
      ⟨.new, (.q (.ext 0)), [.t 33], none⟩,
      ⟨.new, (.q (.ext 1)), [.t 33], none⟩,
      ⟨.var 17, (.q .mv), [.t 34], none⟩,
      ⟨.var 18, (.q .mv), [.t 35], none⟩])
    (.seq (.seq (.reg [⟨.new, (.q .mv), [.t 14], none⟩,
      ⟨.new, (.q (.bin .neq)), [.t 29, .c (.int 0)], none⟩,
      ⟨.new, (.q .mv), [.t 30], none⟩,
      ⟨.new, (.q .mv), [.t 16], (some (31, false))⟩,
      ⟨.new, (.q .mv), [.t 14], (some (31, false))⟩,
      ⟨.new, (.q (.bin .neq)), [.t 32, .t 33], (some (31, false))⟩,
      ⟨.new, (.q .pick), [.t 31, .c (.bool true), .t 34], none⟩,
      ⟨.new, (.q .mv), [.t 35], none⟩,
      ⟨.new, (.q .mv), [.t 18], (some (36, false))⟩,
      ⟨.new, (.q .mv), [.t 14], (some (36, false))⟩,
      ⟨.new, (.q (.bin .neq)), [.t 37, .t 38], (some (36, false))⟩,
      ⟨.new, (.q .pick), [.t 36, .c (.bool true), .t 39], none⟩,
      ⟨.new, (.q .mv), [.t 40], none⟩,
      ⟨.new, (.q .mv), [.t 17], (some (41, false))⟩,
      ⟨.new, (.q .len), [.t 42], (some (41, false))⟩,
      ⟨.new, (.q .mv), [.t 6], (some (41, false))⟩,
      ⟨.new, (.q .len), [.t 44], (some (41, false))⟩,
      ⟨.new, (.q (.bin .neq)), [.t 43, .t 45], (some (41, false))⟩,
      ⟨.new, (.q .pick), [.t 41, .c (.bool true), .t 46], none⟩,
      ⟨.new, (.q .mv), [.t 47], none⟩,
      ⟨.new, (.q .mv), [.t 0], (some (48, false))⟩,
      ⟨.new, (.q .mv), [.t 12], (some (48, false))⟩,
      ⟨.new, (.call 21), [.t 49, .t 50], (some (48, false))⟩,
      ⟨.new, (.q (.un .not)), [.t 51], (some (48, false))⟩,
      ⟨.new, (.q .pick), [.t 48, .c (.bool true), .t 52], none⟩,
      ⟨.new, (.q .mv), [.t 53], none⟩,
      ⟨.new, (.q .mv), [.t 0], (some (54, false))⟩,
      ⟨.new, (.q .mv), [.t 13], (some (54, false))⟩,
      ⟨.new, (.call 21), [.t 55, .t 56], (some (54, false))⟩,
      ⟨.new, (.q (.un .not)), [.t 57], (some (54, false))⟩,
      ⟨.new, (.q .pick), [.t 54, .c (.bool true), .t 58], none⟩,
      ⟨.new, (.q .mv), [.t 59], none⟩,
      ⟨.new, (.q .mv), [.t 0], (some (60, false))⟩,
      ⟨.new, (.q .mv), [.t 15], (some (60, false))⟩,
      ⟨.new, (.call 21), [.t 61, .t 62], (some (60, false))⟩,
      ⟨.new, (.q (.un .not)), [.t 63], (some (60, false))⟩,
      ⟨.var 25, (.q .pick), [.t 60, .c (.bool true), .t 64], none⟩])
    (.cond (.t 25) (.seq (.reg [⟨.var 5, (.q .mv), [.c (.bool false)], none⟩])
    .ret)
    .skip))
    (.seq (.seq (.reg [⟨.var 19, (.q .mv), [.c (.int 0)], none⟩])
    (.block 4 (.loop (.seq (.seq (.reg [⟨.new, (.q .mv), [.t 19], none⟩,
      ⟨.new, (.q .mv), [.t 6], none⟩,
      ⟨.new, (.q .len), [.t 30], none⟩,
      ⟨.var 26, (.q (.bin .lss)), [.t 29, .t 31], none⟩])
    (.cond (.t 26) .skip
    (.exit 4)))
    (.seq (.block 5 (.seq (.reg [⟨.var 20, (.q .mv), [.c (.u64 0)], none⟩])
    (.seq (.seq (.reg [⟨.new, (.q .mv), [.t 4], none⟩,
      ⟨.new, (.q .mv), [.t 19], none⟩,
      ⟨.new, (.q .mv), [.t 1], none⟩,
      ⟨.new, (.q (.bin .quo)), [.t 30, .t 31], none⟩,
      ⟨.new, (.q (.iaS .leaf)), [.t 29, .t 32], none⟩,
      ⟨.var 27, (.q (.ld .leaf)), [.t 33], none⟩])
    (.cond (.t 27) (.reg [⟨.new, (.q .mv), [.t 6], none⟩,
      ⟨.new, (.q .mv), [.t 19], none⟩,
      ⟨.new, (.q (.iaS .leaf)), [.t 29, .t 30], none⟩,
      ⟨.new, (.q (.ld .leaf)), [.t 31], none⟩,
      ⟨.var 20, (.q .mv), [.t 32], none⟩])
    .skip))
    (.seq (.reg [⟨.new, (.q .mv), [.t 17], none⟩,
      ⟨.new, (.q .mv), [.t 19], none⟩,
      ⟨.new, (.q (.iaS .leaf)), [.t 29, .t 30], none⟩,
      ⟨.new, (.q (.ld .leaf)), [.t 31], none⟩,
      ⟨.new, (.q .mv), [.t 20], none⟩,
      ⟨.var 28, (.q (.bin .neq)), [.t 32, .t 33], none⟩])
    (.cond (.t 28) (.seq (.reg [⟨.var 5, (.q .mv), [.c (.bool false)], none⟩])
    .ret)
    .skip)))))
    (.reg [⟨.new, (.q .mv), [.t 19], none⟩,
      ⟨.new, (.q (.bin .add)), [.t 29, .c (.int 1)], none⟩,
      ⟨.var 19, (.q .mv), [.t 30], none⟩]))))))
    (.seq (.reg [⟨.new, (.call 11), [], none⟩,
      ⟨.var 5, (.q .mv), [.t 29], none⟩])
    .ret)))))))))))),
    [.t 5]⟩

set_option maxRecDepth 100000
set_option linter.unusedSimpArgs false
set_option linter.unusedVariables false
theorem c5 : cF P [] (drP P []) 5 5 s5.vm = some s5 := by kernel_rfl
theorem fit_idem {W : Nat} {F : Nat → BitVec 64} {n : Nat} (hF : ∀ i, msk W (F i) = F i) : fitL (W : Int) ((List.range n).map F) = true := by
  have := fit_map (W := W) (F := F) (n := n)
  rwa [show (fun i => msk W (F i)) = F from funext hF] at this
theorem msk_msk {l : Int} (x : BitVec 64) : msk l (msk l x) = msk l x := by
  have h2 := msk_add (l := l) x 0
  rw [show ∀ z : BitVec 64, z + 0 = z from fun z => BitVec.add_zero z, show ∀ z : BitVec 64, z + 0 = z from fun z => BitVec.add_zero z] at h2
  exact h2
theorem mapO_sdA {ss : List (List (BitVec 8))} {kp : Nat → Bool} {N : Nat} {h : Heap} {d : Nat} : mapO (demK kp N h (d + 2)) (ss.map sdA) = some (ss.map sdA) := by
  refine mapO_ext rfl fun t ht => ?_
  have ht' : t < ss.length := by simpa using ht
  rw [ld_sd ht']
  (refine gw0 ?_; try exact True.intro)
/-- the seed that is chosen -/
def sF (l : List Pr) (ch : List Bool) (j : Nat) : List (BitVec 8) := if bfn ch j then (l.getD j prD).o else (l.getD j prD).z
def ssL (l : List Pr) (ch : List Bool) (j : Nat) : List (List (BitVec 8)) := (List.range j).map (sF l ch)
theorem ssL_len {l : List Pr} {ch : List Bool} {j : Nat} : (ssL l ch j).length = j := by simp [ssL]
theorem ssL_next {l : List Pr} {ch : List Bool} {j : Nat} : ssL l ch (j + 1) = ssL l ch j ++ [sF l ch j] := by unfold ssL; rw [List.range_succ, List.map_append]; rfl
theorem ssL_ok {l : List Pr} {ch : List Bool} {j : Nat} (hok : ∀ p ∈ l, p.ok) (hj : j ≤ l.length) : ∀ s ∈ ssL l ch j, s.length = 32 := by
  intro s hs
  obtain ⟨q, hq, rfl⟩ := List.mem_map.1 hs
  obtain ⟨h1, h2⟩ := pr_ok hok (show q < l.length by have := List.mem_range.1 hq; omega)
  unfold sF
  cases bfn ch q with
  | true => exact h2
  | false => exact h1
def sdB (v n : Nat) (ss : List (List (BitVec 8))) : Option Blk := some ⟨46, v, true, .arr n (.arr 32 .leaf), .agg (ss.map sdA)⟩
def opA (N0 : Nat) (l : List Pr) (ch : List Bool) (X : Nat → BitVec 64) (j t : Nat) (x s : AV) (L : Heap) : Prop :=
  (j = 0 ∧ t = 0 ∧ x = .nils ∧ s = .nils ∧ L = []) ∨ (0 < j ∧ t = 0 ∧ x = .nils ∧ s = .own (N0 + 2) j [] 0 j (.arr 32 .leaf) ∧ ∃ A B, L = [A, B, sdB j j (ssL l ch j)]) ∨
  (0 < j ∧ 0 < t ∧ s = .own (N0 + 2) j [] 0 j (.arr 32 .leaf) ∧ x = .own (N0 + 4) t [] 0 t .leaf ∧ ∃ A B C J, L = A :: B :: sdB j j (ssL l ch j) :: C :: uB t t (rL X t) :: J)
def I5a (W N : Nat) (l : List Pr) (xs : List (BitVec 64)) (ch : List Bool) (H : Heap) (k : Nat) (st : St) : Prop :=
  ∃ (j t : Nat) (x s u9 u10 u22 u23 u24 : AV) (L : Heap), st = ⟨[.int W, .int N, .ro prS (l.map prA), .ro .leaf (xs.map .u64), .ro .leaf (ch.map .bool), .bool false, x, s, .int (j : Int), u9, u10, .un, .un, .un, .un, .un, .un, .un, .un, .un, .un, .bool false, u22, u23, u24, .un, .un, .un, .un], H ++ L⟩ ∧ k = l.length - j ∧ j ≤ l.length ∧ t = j * N + 0 ∧ opA H.length l ch (fun i => msk W (xs.getD i 0)) j t x s L
def I5b (W N : Nat) (l : List Pr) (xs : List (BitVec 64)) (ch : List Bool) (j : Nat) (u9 u23 : AV) (H : Heap) (k : Nat) (st : St) : Prop :=
  ∃ (i t : Nat) (x s u24 : AV) (L : Heap), st = ⟨[.int W, .int N, .ro prS (l.map prA), .ro .leaf (xs.map .u64), .ro .leaf (ch.map .bool), .bool false, x, s, .int (j : Int), u9, .int (i : Int), .un, .un, .un, .un, .un, .un, .un, .un, .un, .un, .bool false, .bool true, u23, u24, .un, .un, .un, .un], H ++ L⟩ ∧ k = N - i ∧ i ≤ N ∧ t = j * N + i ∧ opA H.length l ch (fun i => msk W (xs.getD i 0)) (j + 1) t x s L
def I5d (M W N : Nat) (X S : Nat → BitVec 64) (ch : List Bool) (a2 a3 a7 a8 a11 a12 a13 a14 a15 a16 : AV) (G : Heap) (k : Nat) (st : St) : Prop :=
  ∃ (i : Nat) (u20 u26 u27 u28 : AV), st = ⟨[.int W, .int N, a2, a3, .ro .leaf (ch.map .bool), .bool false, .ro .leaf (rL X M), a7, a8, .un, .un, a11, a12, a13, a14, a15, a16, .ro .leaf (rL S M), .int 0, .int (i : Int), u20, .bool false, .bool false, .un, .un, .bool false, u26, u27, u28], G⟩ ∧ k = M - i ∧ i ≤ M
set_option maxHeartbeats 4000000 in
theorem f5 {K : AV → Heap → Prop} {H : Heap} {w n : Int} {l : List Pr} {xs : List (BitVec 64)} {ch : List Bool} (hl : l.length ≤ maxLen) (hx : xs.length ≤ maxLen) (hy : ch.length ≤ maxLen) (hok : ∀ p ∈ l, p.ok) (h : K (.bool true) H) : wpF P [] 5 [.int w, .int n, .ro prS (l.map prA), .ro .leaf (xs.map .u64), .ro .leaf (ch.map .bool)] H K := by
  refine wpF_goW c5 rfl 3 ?_
  intro ha hb
  simp only [s5]
  clear ha hb
  unfold maxLen at hl hx hy
  have lx : (xs.map AV.u64).length = xs.length := by simp
  have lc : (ch.map AV.bool).length = ch.length := by simp
  have ll : (l.map prA).length = l.length := by simp
  refine WPS_seqS ?_
  (refine gw2 @thenQ_n @thenQ_r ?_; try exact True.intro)
  refine WPS_seqS ?_
  by_cases h1 : w < 1
  · (refine gw3 @h1 @thenQ_n @thenQ_r ?_; try exact True.intro)
    refine f11 ?_
    (refine gw2 @thenQ_n @thenQ_r ?_; try exact True.intro)
    exact h
  by_cases h2 : 64 < w
  · (refine gw4 @h1 @h2 @thenQ_n @thenQ_r ?_; try exact True.intro)
    refine f11 ?_
    (refine gw2 @thenQ_n @thenQ_r ?_; try exact True.intro)
    exact h
  by_cases h3 : n < 1
  · (refine gw5 @h1 @h2 @h3 @thenQ_n @thenQ_r ?_; try exact True.intro)
    refine f11 ?_
    (refine gw2 @thenQ_n @thenQ_r ?_; try exact True.intro)
    exact h
  by_cases h4 : 6 < n
  · (refine gw6 @h1 @h2 @h3 @h4 @thenQ_n @thenQ_r ?_; try exact True.intro)
    refine f11 ?_
    (refine gw2 @thenQ_n @thenQ_r ?_; try exact True.intro)
    exact h
  have hw : okW w n = true := by simp only [okW, Bool.and_eq_true, decide_eq_true_eq]; omega
  obtain ⟨hg, hn1, hn2⟩ := okW_good hw
  obtain ⟨hw1, hw2⟩ := id hg
  obtain ⟨W, rfl⟩ : ∃ W : Nat, w = W := ⟨w.toNat, by omega⟩
  obtain ⟨N, rfl⟩ : ∃ N : Nat, n = N := ⟨n.toNat, by omega⟩
  have hN : 1 ≤ N ∧ N ≤ 6 := by omega
  have hW : 1 ≤ W ∧ W ≤ 64 := by omega
  by_cases h5 : 20 < l.length
  · have e5 : ((20 : Int) < (l.length : Int)) = True := by simp only [eq_iff_iff, iff_true]; omega
    (refine gw8 @h1 @h2 @h3 @h4 @ll @e5 @thenQ_n @thenQ_r ?_; try exact True.intro)
    refine f11 ?_
    (refine gw2 @thenQ_n @thenQ_r ?_; try exact True.intro)
    exact h
  have e5 : ((20 : Int) < (l.length : Int)) = False := by simp only [eq_iff_iff, iff_false]; omega
  have hmu : (N : Int) * (l.length : Int) = ((N * l.length : Nat) : Int) := by simp
  have hM : N * l.length ≤ 6 * 20 := Nat.mul_le_mul hN.2 (by omega)
  by_cases h6 : ch.length < l.length
  · have e6 : ((ch.length : Int) < (l.length : Int)) = True := by simp only [eq_iff_iff, iff_true]; omega
    (refine gw10 @h1 @h2 @h3 @h4 @ll @e5 @lc @e6 @thenQ_n @thenQ_r ?_; try exact True.intro)
    refine f11 ?_
    (refine gw2 @thenQ_n @thenQ_r ?_; try exact True.intro)
    exact h
  have e6 : ((ch.length : Int) < (l.length : Int)) = False := by simp only [eq_iff_iff, iff_false]; omega
  by_cases h7 : xs.length < N * l.length
  · have e7 : ((xs.length : Int) < ((N * l.length : Nat) : Int)) = True := by simp only [eq_iff_iff, iff_true]; omega
    (refine gw13 @h1 @h2 @h3 @h4 @ll @e5 @lx @lc @hmu @e6 @e7 @thenQ_n @thenQ_r ?_; try exact True.intro)
    (repeat (refine And.intro (by omega) ?_))
    refine f11 ?_
    (refine gw2 @thenQ_n @thenQ_r ?_; try exact True.intro)
    exact h
  have e7 : ((xs.length : Int) < ((N * l.length : Nat) : Int)) = False := by simp only [eq_iff_iff, iff_false]; omega
  have hcm : ∀ x, rcut (rounds (W : Int)) x = msk W x := fun x => f19g' hg x
  (refine gw13 @h1 @h2 @h3 @h4 @ll @e5 @lx @lc @hmu @e6 @e7 @thenQ_n @thenQ_r ?_; try exact True.intro)
  (repeat (refine And.intro (by omega) ?_))
  refine WPS_seqS ?_
  (refine gw2 @thenQ_n @thenQ_r ?_; try exact True.intro)
  refine WPS_seqS ?_
  (refine gw2 @thenQ_n @thenQ_r ?_; try exact True.intro)
  refine WPS_seqS ?_
  (refine gw2 @thenQ_n @thenQ_r ?_; try exact True.intro)
  refine wp_inv (I5a W N l xs ch H) l.length ⟨0, 0, _, _, _, _, _, _, _, [], by rw [List.append_nil]; rfl, rfl, Nat.zero_le _, by simp, .inl ⟨rfl, rfl, rfl, rfl, rfl⟩⟩ ?_
  rintro k st ⟨j, t, x, s, u9, u10, u22, u23, u24, L, rfl, rfl, hj, ht, hc⟩
  by_cases hjl : j < l.length
  · have e8 : ((j : Int) < (l.length : Int)) = True := by simp only [eq_iff_iff, iff_true]; omega
    have gp := ld_pr hjl
    obtain ⟨hz, ho⟩ := pr_ok hok hjl
    have gch := ld_bfn (l := ch) (i := j) (by omega)
    have hsl : (sF l ch j).length = 32 := by unfold sF; split <;> assumption
    have hnx := ssL_next (l := l) (ch := ch) (j := j)
    have hsA : ∀ b, bfn ch j = b → AV.agg ((if b = true then (l.getD j prD).o else (l.getD j prD).z).map .u8) = sdA (sF l ch j) := fun b hb => by unfold sdA sF; rw [hb]
    rcases hc with ⟨hj0, ht0, rfl, rfl, rfl⟩ | ⟨hj0, ht0, _⟩ | ⟨hj0, ht0, rfl, rfl, A, B, C, J, rfl⟩
    · cases hb : bfn ch j with
      | true =>
        have hap : (ssL l ch j).map sdA ++ [AV.agg ((l.getD j prD).o.map .u8)] = (ssL l ch (j + 1)).map sdA := by
          rw [hnx, List.map_append, List.map_cons, List.map_nil, ← hsA true hb]; rfl
        (refine gw8 @e8 @ll @gp @hz @ho @lc @gch @hb ?_; try exact True.intro)
        (repeat (refine And.intro (by omega) ?_))
        refine wp_inv (I5b W N l xs ch j _ _ H) N ⟨0, t, _, _, _, _, rfl, rfl, Nat.zero_le _, ht, .inr (.inl ⟨by omega, ht0, rfl, by rw [hj0], _, _, by rw [hj0] at hap ⊢; exact congrArg (fun z => [_, _, some (Blk.mk 46 1 true (.arr 1 (.arr 32 .leaf)) (.agg z))]) hap⟩)⟩ ?_
        clear ht
        rintro k st ⟨i, t, x, s, u24, L, rfl, rfl, hi, ht, hc⟩
        by_cases hil : i < N
        · have e9 : ((i : Int) < (N : Int)) = True := by simp only [eq_iff_iff, iff_true]; omega
          have m1 : (j : Int) * (N : Int) = ((j * N : Nat) : Int) := by simp
          have hle : (j + 1) * N ≤ l.length * N := Nat.mul_le_mul_right _ hjl
          rw [Nat.succ_mul, Nat.mul_comm l.length] at hle
          have g1 := ld_u64 (show t < xs.length by omega)
          have r1 := rL_one (F := fun i => msk W (xs.getD i 0)) (t := t) rfl
          generalize hp : j * N = q at *
          have had : (q : Int) + (i : Int) = ((q + i : Nat) : Int) := by omega
          rw [ht] at g1
          have hxe : msk W (xs.getD (q + i) 0) = msk W (xs.getD t 0) := by rw [ht]
          rcases hc with ⟨h0, _⟩ | ⟨_, ht0, rfl, rfl, A, B, rfl⟩ | ⟨_, ht0, rfl, rfl, A, B, C, J, rfl⟩
          · omega
          · (refine gw5 @e9 @m1 @had @lx @g1 ?_; try exact True.intro)
            (repeat (refine And.intro (by omega) ?_))
            refine f19 ?_
            rw [hcm, hxe]
            (refine gw0 ?_; try exact True.intro)
            (repeat (refine And.intro (by omega) ?_))
            exact ⟨N - (i + 1), by omega, i + 1, t + 1, _, _, _, _, rfl, rfl, by omega, by rw [hp, ht]; rfl, .inr (.inr ⟨by omega, by omega, rfl, by rw [ht0], _, _, _, [], by rw [ht0]; rfl⟩)⟩
          · unfold uB
            (refine gw5 @e9 @m1 @had @lx @g1 ?_; try exact True.intro)
            (repeat (refine And.intro (by omega) ?_))
            refine f19 ?_
            rw [hcm, hxe]
            (refine gw1 @r1 ?_; try exact True.intro)
            (repeat (refine And.intro (by omega) ?_))
            exact ⟨N - (i + 1), by omega, i + 1, t + 1, _, _, _, _, rfl, rfl, by omega, by rw [hp, ht]; rfl, .inr (.inr ⟨by omega, by omega, rfl, rfl, _, _, _, _, rfl⟩)⟩
        · have e9 : ((i : Int) < (N : Int)) = False := by simp only [eq_iff_iff, iff_false]; omega
          (refine gw1 @e9 ?_; try exact True.intro)
          (repeat (refine And.intro (by omega) ?_))
          exact ⟨l.length - (j + 1), by omega, j + 1, t, _, _, _, _, _, _, _, L, rfl, rfl, by omega, by rw [ht, show i = N by omega, Nat.succ_mul]; rfl, hc⟩
      | false =>
        have hap : (ssL l ch j).map sdA ++ [AV.agg ((l.getD j prD).z.map .u8)] = (ssL l ch (j + 1)).map sdA := by
          rw [hnx, List.map_append, List.map_cons, List.map_nil, ← hsA false hb]; rfl
        (refine gw8 @e8 @ll @gp @hz @ho @lc @gch @hb ?_; try exact True.intro)
        (repeat (refine And.intro (by omega) ?_))
        refine wp_inv (I5b W N l xs ch j _ _ H) N ⟨0, t, _, _, _, _, rfl, rfl, Nat.zero_le _, ht, .inr (.inl ⟨by omega, ht0, rfl, by rw [hj0], _, _, by rw [hj0] at hap ⊢; exact congrArg (fun z => [_, _, some (Blk.mk 46 1 true (.arr 1 (.arr 32 .leaf)) (.agg z))]) hap⟩)⟩ ?_
        clear ht
        rintro k st ⟨i, t, x, s, u24, L, rfl, rfl, hi, ht, hc⟩
        by_cases hil : i < N
        · have e9 : ((i : Int) < (N : Int)) = True := by simp only [eq_iff_iff, iff_true]; omega
          have m1 : (j : Int) * (N : Int) = ((j * N : Nat) : Int) := by simp
          have hle : (j + 1) * N ≤ l.length * N := Nat.mul_le_mul_right _ hjl
          rw [Nat.succ_mul, Nat.mul_comm l.length] at hle
          have g1 := ld_u64 (show t < xs.length by omega)
          have r1 := rL_one (F := fun i => msk W (xs.getD i 0)) (t := t) rfl
          generalize hp : j * N = q at *
          have had : (q : Int) + (i : Int) = ((q + i : Nat) : Int) := by omega
          rw [ht] at g1
          have hxe : msk W (xs.getD (q + i) 0) = msk W (xs.getD t 0) := by rw [ht]
          rcases hc with ⟨h0, _⟩ | ⟨_, ht0, rfl, rfl, A, B, rfl⟩ | ⟨_, ht0, rfl, rfl, A, B, C, J, rfl⟩
          · omega
          · (refine gw5 @e9 @m1 @had @lx @g1 ?_; try exact True.intro)
            (repeat (refine And.intro (by omega) ?_))
            refine f19 ?_
            rw [hcm, hxe]
            (refine gw0 ?_; try exact True.intro)
            (repeat (refine And.intro (by omega) ?_))
            exact ⟨N - (i + 1), by omega, i + 1, t + 1, _, _, _, _, rfl, rfl, by omega, by rw [hp, ht]; rfl, .inr (.inr ⟨by omega, by omega, rfl, by rw [ht0], _, _, _, [], by rw [ht0]; rfl⟩)⟩
          · unfold uB
            (refine gw5 @e9 @m1 @had @lx @g1 ?_; try exact True.intro)
            (repeat (refine And.intro (by omega) ?_))
            refine f19 ?_
            rw [hcm, hxe]
            (refine gw1 @r1 ?_; try exact True.intro)
            (repeat (refine And.intro (by omega) ?_))
            exact ⟨N - (i + 1), by omega, i + 1, t + 1, _, _, _, _, rfl, rfl, by omega, by rw [hp, ht]; rfl, .inr (.inr ⟨by omega, by omega, rfl, rfl, _, _, _, _, rfl⟩)⟩
        · have e9 : ((i : Int) < (N : Int)) = False := by simp only [eq_iff_iff, iff_false]; omega
          (refine gw1 @e9 ?_; try exact True.intro)
          (repeat (refine And.intro (by omega) ?_))
          exact ⟨l.length - (j + 1), by omega, j + 1, t, _, _, _, _, _, _, _, L, rfl, rfl, by omega, by rw [ht, show i = N by omega, Nat.succ_mul]; rfl, hc⟩
    · exfalso
      have := Nat.mul_pos hj0 (show 0 < N by omega)
      omega
    · cases hb : bfn ch j with
      | true =>
        have hap : (ssL l ch j).map sdA ++ [AV.agg ((l.getD j prD).o.map .u8)] = (ssL l ch (j + 1)).map sdA := by
          rw [hnx, List.map_append, List.map_cons, List.map_nil, ← hsA true hb]; rfl
        unfold sdB uB
        (refine gw9 @e8 @ll @gp @hz @ho @lc @gch @hb @hap ?_; try exact True.intro)
        (repeat (refine And.intro (by omega) ?_))
        refine wp_inv (I5b W N l xs ch j _ _ H) N ⟨0, t, _, _, _, _, rfl, rfl, Nat.zero_le _, ht, .inr (.inr ⟨by omega, ht0, rfl, rfl, _, _, _, _, rfl⟩)⟩ ?_
        clear ht
        rintro k st ⟨i, t, x, s, u24, L, rfl, rfl, hi, ht, hc⟩
        by_cases hil : i < N
        · have e9 : ((i : Int) < (N : Int)) = True := by simp only [eq_iff_iff, iff_true]; omega
          have m1 : (j : Int) * (N : Int) = ((j * N : Nat) : Int) := by simp
          have hle : (j + 1) * N ≤ l.length * N := Nat.mul_le_mul_right _ hjl
          rw [Nat.succ_mul, Nat.mul_comm l.length] at hle
          have g1 := ld_u64 (show t < xs.length by omega)
          have r1 := rL_one (F := fun i => msk W (xs.getD i 0)) (t := t) rfl
          generalize hp : j * N = q at *
          have had : (q : Int) + (i : Int) = ((q + i : Nat) : Int) := by omega
          rw [ht] at g1
          have hxe : msk W (xs.getD (q + i) 0) = msk W (xs.getD t 0) := by rw [ht]
          rcases hc with ⟨h0, _⟩ | ⟨_, ht0, rfl, rfl, A, B, rfl⟩ | ⟨_, ht0, rfl, rfl, A, B, C, J, rfl⟩
          · omega
          · (refine gw5 @e9 @m1 @had @lx @g1 ?_; try exact True.intro)
            (repeat (refine And.intro (by omega) ?_))
            refine f19 ?_
            rw [hcm, hxe]
            (refine gw0 ?_; try exact True.intro)
            (repeat (refine And.intro (by omega) ?_))
            exact ⟨N - (i + 1), by omega, i + 1, t + 1, _, _, _, _, rfl, rfl, by omega, by rw [hp, ht]; rfl, .inr (.inr ⟨by omega, by omega, rfl, by rw [ht0], _, _, _, [], by rw [ht0]; rfl⟩)⟩
          · unfold uB
            (refine gw5 @e9 @m1 @had @lx @g1 ?_; try exact True.intro)
            (repeat (refine And.intro (by omega) ?_))
            refine f19 ?_
            rw [hcm, hxe]
            (refine gw1 @r1 ?_; try exact True.intro)
            (repeat (refine And.intro (by omega) ?_))
            exact ⟨N - (i + 1), by omega, i + 1, t + 1, _, _, _, _, rfl, rfl, by omega, by rw [hp, ht]; rfl, .inr (.inr ⟨by omega, by omega, rfl, rfl, _, _, _, _, rfl⟩)⟩
        · have e9 : ((i : Int) < (N : Int)) = False := by simp only [eq_iff_iff, iff_false]; omega
          (refine gw1 @e9 ?_; try exact True.intro)
          (repeat (refine And.intro (by omega) ?_))
          exact ⟨l.length - (j + 1), by omega, j + 1, t, _, _, _, _, _, _, _, L, rfl, rfl, by omega, by rw [ht, show i = N by omega, Nat.succ_mul]; rfl, hc⟩
      | false =>
        have hap : (ssL l ch j).map sdA ++ [AV.agg ((l.getD j prD).z.map .u8)] = (ssL l ch (j + 1)).map sdA := by
          rw [hnx, List.map_append, List.map_cons, List.map_nil, ← hsA false hb]; rfl
        unfold sdB uB
        (refine gw9 @e8 @ll @gp @hz @ho @lc @gch @hb @hap ?_; try exact True.intro)
        (repeat (refine And.intro (by omega) ?_))
        refine wp_inv (I5b W N l xs ch j _ _ H) N ⟨0, t, _, _, _, _, rfl, rfl, Nat.zero_le _, ht, .inr (.inr ⟨by omega, ht0, rfl, rfl, _, _, _, _, rfl⟩)⟩ ?_
        clear ht
        rintro k st ⟨i, t, x, s, u24, L, rfl, rfl, hi, ht, hc⟩
        by_cases hil : i < N
        · have e9 : ((i : Int) < (N : Int)) = True := by simp only [eq_iff_iff, iff_true]; omega
          have m1 : (j : Int) * (N : Int) = ((j * N : Nat) : Int) := by simp
          have hle : (j + 1) * N ≤ l.length * N := Nat.mul_le_mul_right _ hjl
          rw [Nat.succ_mul, Nat.mul_comm l.length] at hle
          have g1 := ld_u64 (show t < xs.length by omega)
          have r1 := rL_one (F := fun i => msk W (xs.getD i 0)) (t := t) rfl
          generalize hp : j * N = q at *
          have had : (q : Int) + (i : Int) = ((q + i : Nat) : Int) := by omega
          rw [ht] at g1
          have hxe : msk W (xs.getD (q + i) 0) = msk W (xs.getD t 0) := by rw [ht]
          rcases hc with ⟨h0, _⟩ | ⟨_, ht0, rfl, rfl, A, B, rfl⟩ | ⟨_, ht0, rfl, rfl, A, B, C, J, rfl⟩
          · omega
          · (refine gw5 @e9 @m1 @had @lx @g1 ?_; try exact True.intro)
            (repeat (refine And.intro (by omega) ?_))
            refine f19 ?_
            rw [hcm, hxe]
            (refine gw0 ?_; try exact True.intro)
            (repeat (refine And.intro (by omega) ?_))
            exact ⟨N - (i + 1), by omega, i + 1, t + 1, _, _, _, _, rfl, rfl, by omega, by rw [hp, ht]; rfl, .inr (.inr ⟨by omega, by omega, rfl, by rw [ht0], _, _, _, [], by rw [ht0]; rfl⟩)⟩
          · unfold uB
            (refine gw5 @e9 @m1 @had @lx @g1 ?_; try exact True.intro)
            (repeat (refine And.intro (by omega) ?_))
            refine f19 ?_
            rw [hcm, hxe]
            (refine gw1 @r1 ?_; try exact True.intro)
            (repeat (refine And.intro (by omega) ?_))
            exact ⟨N - (i + 1), by omega, i + 1, t + 1, _, _, _, _, rfl, rfl, by omega, by rw [hp, ht]; rfl, .inr (.inr ⟨by omega, by omega, rfl, rfl, _, _, _, _, rfl⟩)⟩
        · have e9 : ((i : Int) < (N : Int)) = False := by simp only [eq_iff_iff, iff_false]; omega
          (refine gw1 @e9 ?_; try exact True.intro)
          (repeat (refine And.intro (by omega) ?_))
          exact ⟨l.length - (j + 1), by omega, j + 1, t, _, _, _, _, _, _, _, L, rfl, rfl, by omega, by rw [ht, show i = N by omega, Nat.succ_mul]; rfl, hc⟩
  · have hje : j = l.length := by omega
    subst hje
    have hte : t = N * l.length := by rw [ht, Nat.mul_comm]; rfl
    have e8 : ((l.length : Int) < (l.length : Int)) = False := by simp
    have hmap : ∀ F : Nat → BitVec 64, ((List.range (N * l.length)).map F).length = N * l.length := fun F => by simp
    have hcl : (ch.take l.length).length = l.length := by rw [List.length_take]; omega
    have hct : List.take l.length (ch.map AV.bool) = (ch.take l.length).map .bool := by rw [List.map_take]
    have h16 : ∀ {K : AV → Heap → Prop} {H : Heap}, K (.tup [vec l.length (bfn (ch.take l.length)), .int 0]) H → wpF P [] 16 [.ro .leaf ((ch.take l.length).map .bool)] H K := fun h => f16 (by omega) (by rw [hcl]; exact h)
    rcases hc with ⟨hj0, ht0, rfl, rfl, rfl⟩ | ⟨hj0, ht0, _⟩ | ⟨hj0, ht0, rfl, rfl, A, B, C, J, rfl⟩
    · have hpl : prL l = .nils := if_pos hj0
      have h16 : ∀ {K : AV → Heap → Prop} {H : Heap}, K (.tup [vec 0 (bfn (ch.take l.length)), .int 0]) H → wpF P [] 16 [.ro .leaf ((ch.take l.length).map .bool)] H K := fun h => f16 (by omega) (by rw [hcl, hj0]; exact h)
      have h17 : ∀ {K : AV → Heap → Prop} {H : Heap}, K (.tup [.ro .leaf [], .int 0]) H → wpF P [] 17 [.int W, .int N, .nils, vec 0 (bfn (ch.take l.length)), .ro .leaf []] H K := fun h => f17n hw h
      unfold vec at h16 h17
      generalize wdA 0 (bfn (ch.take l.length)) = wv at *
      (refine gw3 @e8 @ll @thenQ_n ?_; try exact True.intro)
      refine wpS_ok ?_
      (refine gw2 @ll @lc ?_; try exact True.intro)
      (repeat (refine And.intro (by omega) ?_))
      rw [hct]
      refine h16 ?_
      (refine gw0 ?_; try exact True.intro)
      refine f13 (by omega) hok ?_
      rw [hpl]
      (refine gw0 ?_; try exact True.intro)
      refine f12n (.inr ⟨rfl, rfl⟩) hw ?_
      (refine gw0 ?_; try exact True.intro)
      refine h17 ?_
      (refine gw0 ?_; try exact True.intro)
      have h20 : ∀ {K : AV → Heap → Prop} {H : Heap}, K (.tup [.ro .leaf [], .int 0]) H → wpF P [] 20 [.int W, .ro .leaf [], .ro .leaf []] H K := fun h => f20 (F := fun _ => 0) (G := fun _ => 0) (n := 0) (by omega) h
      have h21 : ∀ {K : AV → Heap → Prop} {H : Heap}, K (.bool true) H → wpF P [] 21 [.int W, .ro .leaf []] H K := fun h => f21 (xs := []) (by decide) h
      refine h20 ?_
      (refine gw0 ?_; try exact True.intro)
      refine h21 ?_
      (refine gw0 ?_; try exact True.intro)
      refine h21 ?_
      (refine gw0 ?_; try exact True.intro)
      refine h21 ?_
      (refine gw0 ?_; try exact True.intro)
      refine wp_unroll 1 ?_
      (refine gw0 ?_; try exact True.intro)
      refine f11 ?_
      (refine gw0 ?_; try exact True.intro)
      exact h
    · exfalso
      have := Nat.mul_pos hj0 (show 0 < N by omega)
      rw [Nat.mul_comm] at this
      omega
    · have hl0 : l.length ≠ 0 := by omega
      have hpl : prL l = .ro prS (l.map prA) := if_neg hl0
      have ht1 := take_rL (F := fun i => msk W (xs.getD i 0)) (t := t)
      have hm1 := @mapO_rL
      have hm2 : ∀ {kp : Nat → Bool} {N : Nat} {h : Heap}, mapO (demK kp N h 3) (List.take l.length ((ssL l ch l.length).map sdA)) = some ((ssL l ch l.length).map sdA) := by
        intro kp N h
        rw [List.take_of_length_le (by simp [ssL_len])]; exact mapO_sdA
      have hkp : ∀ j, (decide (H.length + j < H.length)) = false := fun j => by simp
      have hbp := fun k => bnds_prA (k := k) (l := l)
      (refine gw3 @e8 @ll @thenQ_n ?_; try exact True.intro)
      refine WPS_forget [false, false, false, false, false, false, false, false, false, true, true, false, false, false, false, false, false, false, false, false, false, false, false, true, true] ?_
      simp only [fgt]
      refine WPS_freeze (fun b => decide (b < H.length)) 4 (env' := [.int W, .int N, .ro prS (l.map prA), .ro .leaf (xs.map .u64), .ro .leaf (ch.map .bool), .bool false, .ro .leaf (rL (fun i => msk W (xs.getD i 0)) t), .ro (.arr 32 .leaf) ((ssL l ch l.length).map sdA), .int (l.length : Int), .un, .un, .un, .un, .un, .un, .un, .un, .un, .un, .un, .un, .bool false, .bool false, .un, .un, .un, .un, .un, .un]) ?_ ?_
      · unfold sdB uB
        (refine gw5 @hkp @ht1 @hm1 @hm2 @hbp ?_; try exact True.intro)
      rw [kill_own]
      refine wpS_ok ?_
      generalize hGG : H ++ List.replicate _ none = G'
      have htake : ∀ X : Heap, List.take H.length (G' ++ X) = H := fun X => by rw [← hGG, List.append_assoc, List.take_left]
      clear hGG hkp hm2 ht1
      have hbt : ∀ q, q < l.length → bfn (ch.take l.length) q = bfn ch q := fun q hq => by
        unfold bfn
        rw [List.getD_eq_getElem?_getD, List.getElem?_take_of_lt hq, ← List.getD_eq_getElem?_getD]
      have h13 : ∀ {K : AV → Heap → Prop} {H : Heap}, K (.ro prS (l.map prA)) H → wpF P [] 13 [.ro prS (l.map prA)] H K := fun h => f13 (by omega) hok (by rw [hpl]; exact h)
      rw [hte]
      generalize hMM : N * l.length = M at *
      obtain ⟨X, hX⟩ : ∃ X : Nat → BitVec 64, X = fun i => msk W (xs.getD i 0) := ⟨_, rfl⟩
      have hXm : ∀ i, msk W (X i) = X i := fun i => by rw [hX]; exact msk_msk _
      rw [← hX]
      obtain ⟨FX, hFX⟩ : ∃ FX : Nat → BitVec 64, FX = fxF W N l ((List.range M).map X) := ⟨_, rfl⟩
      have hFm : ∀ i, msk W (FX i) = FX i := fun i => by rw [hFX]; exact msk_msk _
      obtain ⟨OW, hOW⟩ : ∃ OW : Nat → BitVec 64, OW = owF W N l := ⟨_, rfl⟩
      have hOm : ∀ i, msk W (OW i) = OW i := fun i => by rw [hOW]; exact msk_msk _
      have hfl : (ssL l ch l.length).length = l.length := ssL_len
      obtain ⟨RC, hRC⟩ : ∃ RC : Nat → BitVec 64, RC = rcF W N (ssL l ch l.length) (bfn (ch.take l.length)) ((List.range M).map FX) := ⟨_, rfl⟩
      have hRm : ∀ i, msk W (RC i) = RC i := fun i => by
        rw [hRC]; unfold rcF
        split
        · exact msk_msk _
        · exact msk_msk _
      have h12 : ∀ {K : AV → Heap → Prop} {H : Heap}, K (.tup [.ro .leaf (rL FX M), .ro .leaf (rL OW M), .int 0]) H → wpF P [] 12 [.int W, .int N, .ro prS (l.map prA), .ro .leaf (rL X M)] H K := fun h => by
        rw [rL_map (F := X)]
        refine f12 (by omega) hok hw (by rw [hmap, hMM]) (fit_idem hXm) ?_
        rw [hmap, ← hFX, ← hOW]
        exact h
      have h17 : ∀ {K : AV → Heap → Prop} {H : Heap}, K (.tup [.ro .leaf (rL RC M), .int 0]) H → wpF P [] 17 [.int W, .int N, .ro (.arr 32 .leaf) ((ssL l ch l.length).map sdA), vec l.length (bfn (ch.take l.length)), .ro .leaf (rL FX M)] H K := fun {K} {H} h => by
        rw [rL_map (F := FX)]
        have := f17 (W := W) (N := N) (ss := ssL l ch l.length) (c := bfn (ch.take l.length)) (xs := (List.range M).map FX) (K := K) (H := H) (by rw [hfl]; omega) (ssL_ok hok (Nat.le_refl _)) hw (by rw [hmap, hfl, hMM]) (fit_idem hFm) (by rw [hmap, ← hRC]; exact h)
        rw [hfl] at this
        exact this
      have hlaw : ∀ k, k < M → addA W (OW k) (RC k) = if bfn ch (k / N) then X k else 0 := fun k hk => by
        have hkN : k / N < l.length := (Nat.div_lt_iff_lt_mul (by omega)).2 (by rw [Nat.mul_comm, hMM]; exact hk)
        have := cot_open (W := W) (N := N) (M := M) (t := k) (l := l) (ss := ssL l ch l.length) (c := bfn (ch.take l.length)) (xs := (List.range M).map X) hk (by
          unfold ssL
          rw [List.getD_eq_getElem?_getD, List.getElem?_map, List.getElem?_range hkN, hbt _ hkN]
          rfl)
        rw [← hFX, ← hOW, ← hRC, hbt _ hkN, getD_rng hk, hXm] at this
        exact this
      have h20 : ∀ {K : AV → Heap → Prop} {H : Heap}, K (.tup [.ro .leaf (rL (fun k => if bfn ch (k / N) then X k else 0) M), .int 0]) H → wpF P [] 20 [.int W, .ro .leaf (rL OW M), .ro .leaf (rL RC M)] H K := fun h => f20 (by omega) (by rw [rL_congr hlaw]; exact h)
      have h21 : ∀ F : Nat → BitVec 64, (∀ i, msk W (F i) = F i) → ∀ {K : AV → Heap → Prop} {H : Heap}, K (.bool true) H → wpF P [] 21 [.int W, .ro .leaf (rL F M)] H K := fun F hF K H h => by
        rw [rL_map]
        refine f21 (by rw [hmap]; omega) ?_
        rw [fitL_eq hg, fit_idem hF]
        exact h
      have lS := rL_len (F := fun k => if bfn ch (k / N) then X k else 0) (t := M)
      have lX := rL_len (F := X) (t := M)
      clear hlaw hFX hOW hRC hX
      unfold vec at h16 h17
      generalize wdA l.length (bfn (ch.take l.length)) = wv at *
      (refine gw2 @ll @lc ?_; try exact True.intro)
      (repeat (refine And.intro (by omega) ?_))
      rw [hct]
      refine h16 ?_
      (refine gw0 ?_; try exact True.intro)
      refine h13 ?_
      (refine gw0 ?_; try exact True.intro)
      refine h12 ?_
      (refine gw0 ?_; try exact True.intro)
      refine h17 ?_
      (refine gw0 ?_; try exact True.intro)
      refine h20 ?_
      (refine gw2 @lS @lX ?_; try exact True.intro)
      refine h21 FX hFm ?_
      (refine gw0 ?_; try exact True.intro)
      refine h21 OW hOm ?_
      (refine gw0 ?_; try exact True.intro)
      refine h21 RC hRm ?_
      (refine gw0 ?_; try exact True.intro)
      have n0 : ((N : Int) = 0) = False := by simp only [eq_iff_iff, iff_false]; omega
      refine wp_inv (I5d M W N X (fun k => if bfn ch (k / N) then X k else 0) ch (.ro prS (l.map prA)) (.ro .leaf (xs.map .u64)) _ _ _ _ _ _ _ _ _) M ⟨0, _, _, _, _, rfl, rfl, Nat.zero_le _⟩ ?_
      rintro k st ⟨k, u20, u26, u27, u28, rfl, rfl, hk⟩
      by_cases hkl : k < M
      · have e9 : ((k : Int) < (M : Int)) = True := by simp only [eq_iff_iff, iff_true]; omega
        have htd : Int.tdiv (k : Int) (N : Int) = ((k / N : Nat) : Int) := (Int.ofNat_tdiv _ _).symm
        have hkN : k / N < l.length := (Nat.div_lt_iff_lt_mul (by omega)).2 (by rw [Nat.mul_comm, hMM]; exact hkl)
        have gch := ld_bfn (l := ch) (i := k / N) (by omega)
        have gX : (rL X M).getD k .un = .u64 (X k) := ld_rng hkl
        have gS : (rL (fun k => if bfn ch (k / N) then X k else 0) M).getD k .un = .u64 (if bfn ch (k / N) then X k else 0) := ld_rng hkl
        have hqc : k / N < ch.length := by omega
        generalize k / N = q at *
        cases hb : bfn ch q with
        | true =>
          rw [hb] at gS
          simp only [if_true] at gS
          (refine gw10 @e9 @lX @lS @htd @n0 @lc @gch @hb @gX @gS ?_; try exact True.intro)
          (repeat (refine And.intro (by omega) ?_))
          exact ⟨M - (k + 1), by omega, k + 1, _, _, _, _, rfl, rfl, by omega⟩
        | false =>
          rw [hb] at gS
          simp only [Bool.false_eq_true, if_false] at gS
          (refine gw10 @e9 @lX @lS @htd @n0 @lc @gch @hb @gX @gS ?_; try exact True.intro)
          (repeat (refine And.intro (by omega) ?_))
          exact ⟨M - (k + 1), by omega, k + 1, _, _, _, _, rfl, rfl, by omega⟩
      · have e9 : ((k : Int) < (M : Int)) = False := by simp only [eq_iff_iff, iff_false]; omega
        (refine gw2 @e9 @lX ?_; try exact True.intro)
        refine f11 ?_
        (refine gw0 ?_; try exact True.intro)
        exact ⟨htake _, h⟩
end Go.Proofs.Ytjilenmngokhpaa

end
