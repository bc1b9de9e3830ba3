/-
  Layer 19 (cot): CotBlind and CotOpens walked.
-/
import Derived.Test.YtjilenmngokhpaaYe
import Derived.Test.YtjilenmngokhpaaV38
import Derived.Test.YtjilenmngokhpaaV44
open Go Go.V
namespace Go.Proofs.Ytjilenmngokhpaa
/-- trefoil/trefoillaw19.CotBlind (0:width, 1:n, 2:l, 3:xs, 4:ys, 10:, 11:x, 12:y, 13:k, 14:a, 15:b, 16:e, 17:c, 18:d, 19:f, 56:, 63:) -/
def s6 : FnS := ⟨135, [0, 1, 2, 3, 4, 10, 11, 12, 13, 14, 15, 16, 17, 18, 19, 56, 63],
    (.seq (.reg [⟨.var 5, (.q .mv), [.c (.bool false)], none⟩])
    (.seq (.seq (.reg [⟨.new, (.q .mv), [.t 0], none⟩,
      ⟨.new, (.q (.bin .lss)), [.t 17, .c (.int 1)], none⟩,
      ⟨.new, (.q .mv), [.t 18], none⟩,
      ⟨.new, (.q .mv), [.t 0], (some (19, false))⟩,
      ⟨.new, (.q (.bin .gtr)), [.t 20, .c (.int 64)], (some (19, false))⟩,
      ⟨.new, (.q .pick), [.t 19, .c (.bool true), .t 21], none⟩,
      ⟨.new, (.q .mv), [.t 22], none⟩,
      ⟨.new, (.q .mv), [.t 1], (some (23, false))⟩,
      ⟨.new, (.q (.bin .lss)), [.t 24, .c (.int 1)], (some (23, false))⟩,
      ⟨.new, (.q .pick), [.t 23, .c (.bool true), .t 25], none⟩,
      ⟨.new, (.q .mv), [.t 26], none⟩,
      ⟨.new, (.q .mv), [.t 1], (some (27, false))⟩,
      ⟨.new, (.q (.bin .gtr)), [.t 28, .c (.int 6)], (some (27, false))⟩,
      ⟨.new, (.q .pick), [.t 27, .c (.bool true), .t 29], none⟩,
      ⟨.new, (.q .mv), [.t 30], none⟩,
      ⟨.new, (.q .mv), [.t 2], (some (31, false))⟩,
      ⟨.new, (.q .len), [.t 32], (some (31, false))⟩,
      ⟨.new, (.q (.bin .gtr)), [.t 33, .c (.int 20)], (some (31, false))⟩,
      ⟨.new, (.q .pick), [.t 31, .c (.bool true), .t 34], none⟩,
      ⟨.new, (.q .mv), [.t 35], none⟩,
      ⟨.new, (.q .mv), [.t 3], (some (36, false))⟩,
      ⟨.new, (.q .len), [.t 37], (some (36, false))⟩,
      ⟨.new, (.q .mv), [.t 1], (some (36, false))⟩,
      ⟨.new, (.q .mv), [.t 2], (some (36, false))⟩,
      ⟨.new, (.q .len), [.t 40], (some (36, false))⟩,
      ⟨.new, (.q (.bin .mul)), [.t 39, .t 41], (some (36, false))⟩,
      ⟨.new, (.q (.bin .lss)), [.t 38, .t 42], (some (36, false))⟩,
      ⟨.new, (.q .pick), [.t 36, .c (.bool true), .t 43], none⟩,
      ⟨.new, (.q .mv), [.t 44], none⟩,
      ⟨.new, (.q .mv), [.t 4], (some (45, false))⟩,
      ⟨.new, (.q .len), [.t 46], (some (45, false))⟩,
      ⟨.new, (.q .mv), [.t 1], (some (45, false))⟩,
      ⟨.new, (.q .mv), [.t 2], (some (45, false))⟩,
      ⟨.new, (.q .len), [.t 49], (some (45, false))⟩,
      ⟨.new, (.q (.bin .mul)), [.t 48, .t 50], (some (45, false))⟩,
      ⟨.new, (.q (.bin .lss)), [.t 47, .t 51], (some (45, false))⟩,
      ⟨.var 15, (.q .pick), [.t 45, .c (.bool true), .t 52], none⟩])
    (.cond (.t 15) (.seq (.reg [⟨.new, (.call 11), [], none⟩,
      ⟨.var 5, (.q .mv), [.t 17], none⟩])
    .ret)
    .skip))
    (.seq (.reg [⟨.var 6, (.q .mv), [.c .nils], none⟩,
      ⟨.var 7, (.q .mv), [.c .nils], none⟩])
    (.seq (.seq (.reg [⟨.var 8, (.q .mv), [.c (.int 0)], none⟩])
    (.block 0 (.loop (.seq (.seq (.reg [⟨.new, (.q .mv), [.t 8], none⟩,
      ⟨.new, (.q .mv), [.t 1], none⟩,
      ⟨.new, (.q .mv), [.t 2], none⟩,
      ⟨.new, (.q .len), [.t 19], none⟩,
      ⟨.new, (.q (.bin .mul)), [.t 18, .t 20], none⟩,
      ⟨.var 16, (.q (.bin .lss)), [.t 17, .t 21], none⟩])
    (.cond (.t 16) .skip
    (.exit 0)))
    (.seq (.block 1 (.seq (.reg [⟨.new, (.q .mv), [.t 6], none⟩,
      ⟨.new, (.q .mv), [.t 0], none⟩,
      ⟨.new, (.q .mv), [.t 3], none⟩,
      ⟨.new, (.q .mv), [.t 8], none⟩,
      ⟨.new, (.q (.iaS .leaf)), [.t 19, .t 20], none⟩,
      ⟨.new, (.q (.ld .leaf)), [.t 21], none⟩,
      ⟨.new, (.call 19), [.t 18, .t 22], none⟩,
      ⟨.new, (.e (.bsl 49 .leaf (.u64 0) 1 [0])), [.t 23], none⟩,
      ⟨.new, (.e (.app 49 .leaf 8)), [.t 17, .t 24], none⟩,
      ⟨.var 6, (.q .mv), [.t 25], none⟩])
    (.reg [⟨.new, (.q .mv), [.t 7], none⟩,
      ⟨.new, (.q .mv), [.t 0], none⟩,
      ⟨.new, (.q .mv), [.t 4], none⟩,
      ⟨.new, (.q .mv), [.t 8], none⟩,
      ⟨.new, (.q (.iaS .leaf)), [.t 19, .t 20], none⟩,
      ⟨.new, (.q (.ld .leaf)), [.t 21], none⟩,
      ⟨.new, (.call 19), [.t 18, .t 22], none⟩,
      ⟨.new, (.e (.bsl 49 .leaf (.u64 0) 1 [0])), [.t 23], none⟩,
      ⟨.new, (.e (.app 49 .leaf 8)), [.t 17, .t 24], none⟩,
      ⟨.var 7, (.q .mv), [.t 25], none⟩])))
    (.reg [⟨.new, (.q .mv), [.t 8], none⟩,
      ⟨.new, (.q (.bin .add)), [.t 17, .c (.int 1)], none⟩,
      ⟨.var 8, (.q .mv), [.t 18], none⟩]))))))
    (.seq (.reg [⟨.new, (.q .mv), [.t 0], none⟩,
      ⟨.new, (.q .mv), [.t 1], none⟩,
      ⟨.new, (.q .mv), [.t 2], none⟩,
      ⟨.new, (.call 13), [.t 19], none⟩,
      ⟨.new, (.q .mv), [.t 6], none⟩,
      ⟨.new, (.call 12), [.t 17, .t 18, .t 20, .t 21], none⟩,
      ⟨.new, (.q .mv), [.t 22], none⟩,
      ⟨.new, (.q (.ext 0)), [.t 23], none⟩,
      ⟨.new, (.q (.ext 1)), [.t 23], none⟩,
      ⟨.new, (.q (.ext 2)), [.t 23], none⟩,
      ⟨.var 9, (.q .mv), [.t 24], none⟩,
      ⟨.var 10, (.q .mv), [.t 25], none⟩,
      ⟨.var 11, (.q .mv), [.t 26], none⟩])
    (.seq (.reg [⟨.new, (.q .mv), [.t 0], none⟩,
      ⟨.new, (.q .mv), [.t 1], none⟩,
      ⟨.new, (.q .mv), [.t 2], none⟩,
      ⟨.new, (.call 13), [.t 19], none⟩,
      ⟨.new, (.q .mv), [.t 7], none⟩,
      ⟨.new, (.call 12), [.t 17, .t 18, .t 20, .t 21], none⟩,
      ⟨.new, (.q .mv), [.t 22], none⟩,
      ⟨.new, (.q (.ext 0)), [.t 23], none⟩,
      ⟨.new, (.q (.ext 1)), [.t 23], none⟩,
      ⟨.new, (.q (.ext 2)), [.t 23], none⟩,
      ⟨.var 12, (.q .mv), [.t 24], none⟩,
      ⟨.var 13, (.q .mv), [.t 25], none⟩,
      ⟨.var 14, (.q .mv), [.t 26], none⟩])
    (.seq (.reg [⟨.new, (.q .mv), [.t 11], none⟩,
      ⟨.new, (.q (.bin .eql)), [.t 17, .c (.int 0)], none⟩,
      ⟨.new, (.q .mv), [.t 18], none⟩,
      ⟨.new, (.q .mv), [.t 14], (some (19, true))⟩,
      ⟨.new, (.q .mv), [.t 11], (some (19, true))⟩,
      ⟨.new, (.q (.bin .eql)), [.t 20, .t 21], (some (19, true))⟩,
      ⟨.new, (.q .pick), [.t 19, .t 22, .c (.bool false)], none⟩,
      ⟨.new, (.q .mv), [.t 23], none⟩,
      ⟨.new, (.q .mv), [.t 10], (some (24, true))⟩,
      ⟨.new, (.q .mv), [.t 13], (some (24, true))⟩,
      ⟨.new, (.call 15), [.t 25, .t 26], (some (24, true))⟩,
      ⟨.new, (.q .pick), [.t 24, .t 27, .c (.bool false)], none⟩,
      ⟨.new, (.q .mv), [.t 28], none⟩,
      ⟨.new, (.q .mv), [.t 9], (some (29, true))⟩,
      ⟨.new, (.q .len), [.t 30], (some (29, true))⟩,
      ⟨.new, (.q .mv), [.t 12], (some (29, true))⟩,
      ⟨.new, (.q .len), [.t 32], (some (29, true))⟩,
      ⟨.new, (.q (.bin .eql)), [.t 31, .t 33], (some (29, true))⟩,
      ⟨.new, (.q .pick), [.t 29, .t 34, .c (.bool false)], none⟩,
      ⟨.new, (.q .mv), [.t 35], none⟩,
      ⟨.new, (.q .mv), [.t 9], (some (36, true))⟩,
      ⟨.new, (.q .len), [.t 37], (some (36, true))⟩,
      ⟨.new, (.q .mv), [.t 1], (some (36, true))⟩,
      ⟨.new, (.q .mv), [.t 2], (some (36, true))⟩,
      ⟨.new, (.q .len), [.t 40], (some (36, true))⟩,
      ⟨.new, (.q (.bin .mul)), [.t 39, .t 41], (some (36, true))⟩,
      ⟨.new, (.q (.bin .eql)), [.t 38, .t 42], (some (36, true))⟩,
      ⟨.new, (.q .pick), [.t 36, .t 43, .c (.bool false)], none⟩,
      ⟨.new, (.q .mv), [.t 44], none⟩,
      ⟨.new, (.call 11), [], (some (45, true))⟩,
      ⟨.new, (.q .pick), [.t 45, .t 46, .c (.bool false)], none⟩,
      ⟨.var 5, (.q .mv), [.t 47], none⟩])
    .ret))))))),
    [.t 5]⟩

set_option maxRecDepth 100000
set_option linter.unusedSimpArgs false
set_option linter.unusedVariables false
theorem c6 : cF P [] (drP P []) 6 5 s6.vm = some s6 := by kernel_rfl
theorem dem_isP {A : AV} {l : List Pr} (hA : isP A l) {kp : Nat → Bool} {N : Nat} {h : Heap} : demK kp N h 3 A = some A := by
  rcases hA with rfl | ⟨_, rfl⟩
  · rw [demK_ro, if_pos bnds_prA]
  · rfl
def I6 (W N : Nat) (l : List Pr) (xs ys : List (BitVec 64)) (H : Heap) (k : Nat) (st : St) : Prop :=
  ∃ (t : Nat) (x y u16 : AV) (L : Heap), st = ⟨[.int W, .int N, .ro prS (l.map prA), .ro .leaf (xs.map .u64), .ro .leaf (ys.map .u64), .bool false, x, y, .int (t : Int), .un, .un, .un, .un, .un, .un, .bool false, u16], H ++ L⟩ ∧ k = N * l.length - t ∧ t ≤ N * l.length ∧ ap14 H.length (fun i => msk W (xs.getD i 0)) (fun i => msk W (ys.getD i 0)) t x y L
theorem f6 {K : AV → Heap → Prop} {H : Heap} {w n : Int} {l : List Pr} {xs ys : List (BitVec 64)} (hl : l.length ≤ maxLen) (hx : xs.length ≤ maxLen) (hy : ys.length ≤ maxLen) (hok : ∀ p ∈ l, p.ok) (h : K (.bool true) H) : wpF P [] 6 [.int w, .int n, .ro prS (l.map prA), .ro .leaf (xs.map .u64), .ro .leaf (ys.map .u64)] H K := by
  refine wpF_go c6 rfl 3 ?_
  intro ha hb
  simp only [s6]
  clear ha hb
  unfold maxLen at hl hx hy
  have lx : (xs.map AV.u64).length = xs.length := by simp
  have ly : (ys.map AV.u64).length = ys.length := by simp
  have ll : (l.map prA).length = l.length := by simp
  by_cases h1 : w < 1
  · (refine gw1 @h1 ?_; try exact True.intro)
    refine f11 ?_
    (refine gw0 ?_; try exact True.intro)
    exact h
  by_cases h2 : 64 < w
  · (refine gw2 @h1 @h2 ?_; try exact True.intro)
    refine f11 ?_
    (refine gw0 ?_; try exact True.intro)
    exact h
  by_cases h3 : n < 1
  · (refine gw3 @h1 @h2 @h3 ?_; try exact True.intro)
    refine f11 ?_
    (refine gw0 ?_; try exact True.intro)
    exact h
  by_cases h4 : 6 < n
  · (refine gw4 @h1 @h2 @h3 @h4 ?_; try exact True.intro)
    refine f11 ?_
    (refine gw0 ?_; try exact True.intro)
    exact h
  have hw : okW w n = true := by simp only [okW, Bool.and_eq_true, decide_eq_true_eq]; omega
  obtain ⟨hg, hn1, hn2⟩ := okW_good hw
  obtain ⟨hw1, hw2⟩ := id hg
  obtain ⟨W, rfl⟩ : ∃ W : Nat, w = W := ⟨w.toNat, by omega⟩
  obtain ⟨N, rfl⟩ : ∃ N : Nat, n = N := ⟨n.toNat, by omega⟩
  have hN : 1 ≤ N ∧ N ≤ 6 := by omega
  have hW : 1 ≤ W ∧ W ≤ 64 := by omega
  by_cases h5 : 20 < l.length
  · have e5 : ((20 : Int) < (l.length : Int)) = True := by simp only [eq_iff_iff, iff_true]; omega
    (refine gw6 @h1 @h2 @h3 @h4 @ll @e5 ?_; try exact True.intro)
    refine f11 ?_
    (refine gw0 ?_; try exact True.intro)
    exact h
  have e5 : ((20 : Int) < (l.length : Int)) = False := by simp only [eq_iff_iff, iff_false]; omega
  have hmu : (N : Int) * (l.length : Int) = ((N * l.length : Nat) : Int) := by simp
  have hM : N * l.length ≤ 6 * 20 := Nat.mul_le_mul hN.2 (by omega)
  by_cases h6 : xs.length < N * l.length
  · have e6 : ((xs.length : Int) < ((N * l.length : Nat) : Int)) = True := by simp only [eq_iff_iff, iff_true]; omega
    (refine gw9 @h1 @h2 @h3 @h4 @ll @e5 @lx @hmu @e6 ?_; try exact True.intro)
    (repeat (refine And.intro (by omega) ?_))
    refine f11 ?_
    (refine gw0 ?_; try exact True.intro)
    exact h
  have e6 : ((xs.length : Int) < ((N * l.length : Nat) : Int)) = False := by simp only [eq_iff_iff, iff_false]; omega
  by_cases h7 : ys.length < N * l.length
  · have e7 : ((ys.length : Int) < ((N * l.length : Nat) : Int)) = True := by simp only [eq_iff_iff, iff_true]; omega
    (refine gw11 @h1 @h2 @h3 @h4 @ll @e5 @lx @ly @hmu @e6 @e7 ?_; try exact True.intro)
    (repeat (refine And.intro (by omega) ?_))
    refine f11 ?_
    (refine gw0 ?_; try exact True.intro)
    exact h
  have e7 : ((ys.length : Int) < ((N * l.length : Nat) : Int)) = False := by simp only [eq_iff_iff, iff_false]; omega
  have hcm : ∀ x, rcut (rounds (W : Int)) x = msk W x := fun x => f19g' hg x
  (refine gw11 @h1 @h2 @h3 @h4 @ll @e5 @lx @ly @hmu @e6 @e7 ?_; try exact True.intro)
  (repeat (refine And.intro (by omega) ?_))
  refine wp_inv (I6 W N l xs ys H) (N * l.length) ⟨0, _, _, _, [], by rw [List.append_nil]; rfl, rfl, Nat.zero_le _, .inl ⟨rfl, rfl, rfl, rfl⟩⟩ ?_
  rintro k st ⟨t, x, y, u16, L, rfl, rfl, ht, hc⟩
  by_cases htl : t < N * l.length
  · have e8 : ((t : Int) < ((N * l.length : Nat) : Int)) = True := by simp only [eq_iff_iff, iff_true]; omega
    have g1 := ld_u64 (show t < xs.length by omega)
    have g2 := ld_u64 (show t < ys.length by omega)
    have r1 := rL_one (F := fun i => msk W (xs.getD i 0)) (t := t) rfl
    have r2 := rL_one (F := fun i => msk W (ys.getD i 0)) (t := t) rfl
    rcases hc with ⟨ht0, rfl, rfl, rfl⟩ | ⟨ht0, rfl, rfl, T1, T2, J, rfl⟩
    · (refine gw5 @e8 @ll @hmu @lx @g1 ?_; try exact True.intro)
      (repeat (refine And.intro (by omega) ?_))
      refine f19 ?_
      rw [hcm]
      (refine gw2 @ly @g2 ?_; try exact True.intro)
      (repeat (refine And.intro (by omega) ?_))
      refine f19 ?_
      rw [hcm]
      (refine gw0 ?_; try exact True.intro)
      (repeat (refine And.intro (by omega) ?_))
      exact ⟨N * l.length - (t + 1), by omega, t + 1, _, _, _, _, rfl, rfl, by omega, .inr ⟨by omega, by rw [ht0], by rw [ht0], _, _, [], by rw [ht0]; rfl⟩⟩
    · unfold uB
      (refine gw5 @e8 @ll @hmu @lx @g1 ?_; try exact True.intro)
      (repeat (refine And.intro (by omega) ?_))
      refine f19 ?_
      rw [hcm]
      (refine gw3 @ly @g2 @r1 ?_; try exact True.intro)
      (repeat (refine And.intro (by omega) ?_))
      refine f19 ?_
      rw [hcm]
      (refine gw1 @r2 ?_; try exact True.intro)
      (repeat (refine And.intro (by omega) ?_))
      exact ⟨N * l.length - (t + 1), by omega, t + 1, _, _, _, _, rfl, rfl, by omega, .inr ⟨by omega, rfl, rfl, _, _, _, rfl⟩⟩
  · have hte : t = N * l.length := by omega
    have e8 : ((t : Int) < ((N * l.length : Nat) : Int)) = False := by simp only [eq_iff_iff, iff_false]; omega
    have hxl : ((List.range (N * l.length)).map fun i => msk W (xs.getD i 0)).length = N * l.length := by simp
    have hyl : ((List.range (N * l.length)).map fun i => msk W (ys.getD i 0)).length = N * l.length := by simp
    have hfx := fit_map (W := W) (F := fun i => xs.getD i 0) (n := N * l.length)
    have hfy := fit_map (W := W) (F := fun i => ys.getD i 0) (n := N * l.length)
    rcases hc with ⟨ht0, rfl, rfl, rfl⟩ | ⟨ht0, rfl, rfl, T1, T2, J, rfl⟩
    · have hl0 : l.length = 0 := by
        have : N * l.length = 0 := by omega
        rcases Nat.mul_eq_zero.1 this with h | h
        · omega
        · exact h
      have hpl : prL l = .nils := if_pos hl0
      have hmz : N * l.length = 0 := by rw [hl0]; rfl
      rw [hmz] at hmu
      have e8' : ((t : Int) < 0) = False := by simp
      (refine gw3 @e8' @ll @hmu ?_; try exact True.intro)
      refine f13 (by omega) hok ?_
      rw [hpl]
      (refine gw0 ?_; try exact True.intro)
      refine f12n (.inr ⟨rfl, rfl⟩) hw ?_
      (refine gw0 ?_; try exact True.intro)
      refine f13 (by omega) hok ?_
      rw [hpl]
      (refine gw0 ?_; try exact True.intro)
      refine f12n (.inr ⟨rfl, rfl⟩) hw ?_
      (refine gw0 ?_; try exact True.intro)
      refine nums_isL (xs := []) (.inl rfl) (.inl rfl) ?_
      (refine gw2 @ll @hmu ?_; try exact True.intro)
      refine f11 ?_
      (refine gw0 ?_; try exact True.intro)
      exact h
    · have hl0 : l.length ≠ 0 := fun hc => by rw [hc] at hte; omega
      have hpl : prL l = .ro prS (l.map prA) := if_neg hl0
      have h13 : ∀ {K : AV → Heap → Prop} {H : Heap}, K (.ro prS (l.map prA)) H → wpF P [] 13 [.ro prS (l.map prA)] H K := fun h => f13 (by omega) hok (by rw [hpl]; exact h)
      have h12x : ∀ {K : AV → Heap → Prop} {H : Heap}, K (.tup [.ro .leaf (rL (fxF W N l ((List.range (N * l.length)).map fun i => msk W (xs.getD i 0))) (N * l.length)), .ro .leaf (rL (owF W N l) (N * l.length)), .int 0]) H → wpF P [] 12 [.int W, .int N, .ro prS (l.map prA), .ro .leaf (rL (fun i => msk W (xs.getD i 0)) t)] H K := fun h => by
        rw [rL_map, hte]
        exact f12 (by omega) hok hw hxl hfx (by rw [hxl]; exact h)
      have h12y : ∀ {K : AV → Heap → Prop} {H : Heap}, K (.tup [.ro .leaf (rL (fxF W N l ((List.range (N * l.length)).map fun i => msk W (ys.getD i 0))) (N * l.length)), .ro .leaf (rL (owF W N l) (N * l.length)), .int 0]) H → wpF P [] 12 [.int W, .int N, .ro prS (l.map prA), .ro .leaf (rL (fun i => msk W (ys.getD i 0)) t)] H K := fun h => by
        rw [rL_map, hte]
        exact f12 (by omega) hok hw hyl hfy (by rw [hyl]; exact h)
      have l1 := rL_len (F := fxF W N l ((List.range (N * l.length)).map fun i => msk W (xs.getD i 0))) (t := N * l.length)
      have l2 := rL_len (F := fxF W N l ((List.range (N * l.length)).map fun i => msk W (ys.getD i 0))) (t := N * l.length)
      have hdm : ∀ {kp : Nat → Bool} {N : Nat} {h : Heap}, demK kp N h 3 (.ro prS (l.map prA)) = some (.ro prS (l.map prA)) := fun {kp} {N} {h} => dem_isP (l := l) (.inl rfl)
      have hbp := fun k => bnds_prA (k := k) (l := l)
      have ht1 := take_rL (F := fun i => msk W (xs.getD i 0)) (t := t)
      have ht2 := take_rL (F := fun i => msk W (ys.getD i 0)) (t := t)
      have hm1 := @mapO_rL
      have hb1 := @bnds_rL
      unfold uB
      (refine gw3 @e8 @ll @hmu ?_; try exact True.intro)
      (repeat (refine And.intro (by omega) ?_))
      refine h13 ?_
      (refine gw0 ?_; try exact True.intro)
      refine wpF_give1 (H.length + 1) 3 ?_
      (refine gw3 @ht1 @hm1 @hbp ?_; try exact True.intro)
      refine h12x ?_
      (refine gw0 ?_; try exact True.intro)
      refine h13 ?_
      (refine gw0 ?_; try exact True.intro)
      refine wpF_give1 (H.length + 3) 3 ?_
      (refine gw3 @ht2 @hm1 @hbp ?_; try exact True.intro)
      refine h12y ?_
      (refine gw0 ?_; try exact True.intro)
      refine nums_isL isL_lu isL_lu ?_
      (refine gw4 @l1 @l2 @ll @hmu ?_; try exact True.intro)
      (repeat (refine And.intro (by omega) ?_))
      refine f11 ?_
      (refine gw0 ?_; try exact True.intro)
      exact h
end Go.Proofs.Ytjilenmngokhpaa
