/-
  Layer 18 (rot): the law RotChosen, walked.
-/
import Derived.Test.YtjilenmngokhpaaDoorRg
import Derived.Test.YtjilenmngokhpaaDoorV38
import Derived.Test.YtjilenmngokhpaaDoorV44
open Go Go.V
namespace Go.Proofs.YtjilenmngokhpaaDoor
/-- trefoil/trefoillaw18.RotChosen (0:l, 1:own, 2:choices, 3:right, 8:, 9:v, 11:j, 12:s, 25:, 32:, 42:, 53:) -/
def s4 : FnS := ⟨76, [0, 1, 2, 3, 8, 9, 11, 12, 25, 32, 42, 53],
    (.seq (.reg [⟨.var 4, (.q .mv), [.c (.bool false)], none⟩])
    (.seq (.seq (.reg [⟨.new, (.q .mv), [.t 0], none⟩,
      ⟨.new, (.q .len), [.t 12], none⟩,
      ⟨.new, (.q (.bin .gtr)), [.t 13, .c (.int 60)], none⟩,
      ⟨.new, (.q .mv), [.t 14], none⟩,
      ⟨.new, (.q .mv), [.t 1], (some (15, false))⟩,
      ⟨.new, (.q .len), [.t 16], (some (15, false))⟩,
      ⟨.new, (.q (.bin .gtr)), [.t 17, .c (.int 60)], (some (15, false))⟩,
      ⟨.new, (.q .pick), [.t 15, .c (.bool true), .t 18], none⟩,
      ⟨.new, (.q .mv), [.t 19], none⟩,
      ⟨.new, (.q .mv), [.t 2], (some (20, false))⟩,
      ⟨.new, (.q .len), [.t 21], (some (20, false))⟩,
      ⟨.new, (.q (.bin .gtr)), [.t 22, .c (.int 60)], (some (20, false))⟩,
      ⟨.var 8, (.q .pick), [.t 20, .c (.bool true), .t 23], none⟩])
    (.cond (.t 8) (.seq (.reg [⟨.new, (.call 7), [], none⟩,
      ⟨.var 4, (.q .mv), [.t 12], none⟩])
    .ret)
    .skip))
    (.seq (.reg [⟨.new, (.q .mv), [.t 2], none⟩,
      ⟨.new, (.call 16), [.t 12], none⟩,
      ⟨.new, (.q .mv), [.t 13], none⟩,
      ⟨.new, (.q (.ext 0)), [.t 14], none⟩,
      ⟨.new, (.q (.ext 1)), [.t 14], none⟩,
      ⟨.var 5, (.e (.alloc 42 (.st [.leaf, .leaf]) (.agg [(.int 0), .nils]))), [], none⟩,
      ⟨.none, (.e (.store (.st [.leaf, .leaf]))), [.t 5, .t 15], none⟩,
      ⟨.new, (.q .mv), [.t 16], none⟩])
    (.seq (.seq (.reg [⟨.var 9, (.q .mv), [.t 3], none⟩])
    (.cond (.t 9) (.seq (.reg [⟨.var 1, (.q .mv), [.c .nils], none⟩])
    (.seq (.reg [⟨.var 6, (.q .mv), [.c (.int 0)], none⟩])
    (.block 0 (.loop (.seq (.seq (.reg [⟨.new, (.q .mv), [.t 6], none⟩,
      ⟨.new, (.q .mv), [.t 0], none⟩,
      ⟨.new, (.q .len), [.t 13], none⟩,
      ⟨.new, (.q (.bin .lss)), [.t 12, .t 14], none⟩,
      ⟨.new, (.q .mv), [.t 15], none⟩,
      ⟨.new, (.q .mv), [.t 6], (some (16, true))⟩,
      ⟨.new, (.q .mv), [.t 2], (some (16, true))⟩,
      ⟨.new, (.q .len), [.t 18], (some (16, true))⟩,
      ⟨.new, (.q (.bin .lss)), [.t 17, .t 19], (some (16, true))⟩,
      ⟨.var 10, (.q .pick), [.t 16, .t 20, .c (.bool false)], none⟩])
    (.cond (.t 10) .skip
    (.exit 0)))
    (.seq (.block 1 (.seq (.reg [⟨.new, (.q .mv), [.t 0], none⟩,
      ⟨.new, (.q .mv), [.t 6], none⟩,
      ⟨.new, (.q (.iaS (.st [(.arr 32 .leaf), (.arr 32 .leaf)]))), [.t 12, .t 13], none⟩,
      ⟨.new, (.q (.fa [(.arr 32 .leaf), (.arr 32 .leaf)] 0)), [.t 14], none⟩,
      ⟨.new, (.q (.ld (.arr 32 .leaf))), [.t 15], none⟩,
      ⟨.var 7, (.e (.alloc 28 (.arr 32 .leaf) (.agg [(.u8 0), (.u8 0), (.u8 0), (.u8 0), (.u8 0), (.u8 0), (.u8 0), (.u8 0), (.u8 0), (.u8 0), (.u8 0), (.u8 0), (.u8 0), (.u8 0), (.u8 0), (.u8 0), (.u8 0), (.u8 0), (.u8 0), (.u8 0), (.u8 0), (.u8 0), (.u8 0), (.u8 0), (.u8 0), (.u8 0), (.u8 0), (.u8 0), (.u8 0), (.u8 0), (.u8 0), (.u8 0)]))), [], none⟩,
      ⟨.none, (.e (.store (.arr 32 .leaf))), [.t 7, .t 16], none⟩])
    (.seq (.seq (.reg [⟨.new, (.q .mv), [.t 2], none⟩,
      ⟨.new, (.q .mv), [.t 6], none⟩,
      ⟨.new, (.q (.iaS .leaf)), [.t 12, .t 13], none⟩,
      ⟨.var 11, (.q (.ld .leaf)), [.t 14], none⟩])
    (.cond (.t 11) (.reg [⟨.new, (.q .mv), [.t 0], none⟩,
      ⟨.new, (.q .mv), [.t 6], none⟩,
      ⟨.new, (.q (.iaS (.st [(.arr 32 .leaf), (.arr 32 .leaf)]))), [.t 12, .t 13], none⟩,
      ⟨.new, (.q (.fa [(.arr 32 .leaf), (.arr 32 .leaf)] 1)), [.t 14], none⟩,
      ⟨.new, (.q (.ld (.arr 32 .leaf))), [.t 15], none⟩,
      ⟨.none, (.e (.store (.arr 32 .leaf))), [.t 7, .t 16], none⟩])
    .skip))
    (.reg [⟨.new, (.q .mv), [.t 1], none⟩,
      ⟨.new, (.q (.ld (.arr 32 .leaf))), [.t 7], none⟩,
      ⟨.new, (.e (.bsl 28 (.arr 32 .leaf) (.agg [(.u8 0), (.u8 0), (.u8 0), (.u8 0), (.u8 0), (.u8 0), (.u8 0), (.u8 0), (.u8 0), (.u8 0), (.u8 0), (.u8 0), (.u8 0), (.u8 0), (.u8 0), (.u8 0), (.u8 0), (.u8 0), (.u8 0), (.u8 0), (.u8 0), (.u8 0), (.u8 0), (.u8 0), (.u8 0), (.u8 0), (.u8 0), (.u8 0), (.u8 0), (.u8 0), (.u8 0), (.u8 0)]) 1 [0])), [.t 13], none⟩,
      ⟨.new, (.e (.app 28 (.arr 32 .leaf) 32)), [.t 12, .t 14], none⟩,
      ⟨.var 1, (.q .mv), [.t 15], none⟩]))))
    (.reg [⟨.new, (.q .mv), [.t 6], none⟩,
      ⟨.new, (.q (.bin .add)), [.t 12, .c (.int 1)], none⟩,
      ⟨.var 6, (.q .mv), [.t 13], none⟩])))))))
    .skip))
    (.seq (.draw [⟨.new, (.q .mv), [.t 0], none⟩,
      ⟨.new, (.call 18), [.t 12], none⟩,
      ⟨.new, (.q .mv), [.t 1], none⟩,
      ⟨.new, (.q (.ld (.st [.leaf, .leaf]))), [.t 5], none⟩,
      ⟨.new, (.call 17), [.t 13, .t 14, .t 15], none⟩,
      ⟨.new, (.q .mv), [.t 0], none⟩,
      ⟨.new, (.q .mv), [.t 1], none⟩,
      ⟨.new, (.q .mv), [.t 2], none⟩,
      ⟨.new, (.call 19), [.t 17, .t 18, .t 19], none⟩,
      ⟨.new, (.q (.eqB false)), [.t 16, .t 20], none⟩,
      ⟨.new, (.q .mv), [.t 21], none⟩,
      ⟨.new, (.call 7), [], (some (22, true))⟩,
      ⟨.new, (.q .pick), [.t 22, .t 23, .c (.bool false)], none⟩,
      ⟨.var 4, (.q .mv), [.t 24], none⟩])
    .ret))))),
    [.t 4]⟩

set_option maxRecDepth 100000
set_option linter.unusedSimpArgs false
set_option linter.unusedVariables false
theorem c4 : cF P G (drP P G) 4 4 s4.vm = some s4 := by kernel_rfl
theorem bnds_prA {k : Nat} : ∀ {l : List Pr}, AV.bnds k (l.map prA) = true
  | [] => rfl
  | p :: l => by simp only [List.map_cons, AV.bnds, prA, AV.bnd, bnds_u8', Bool.and_true, bnds_prA]
theorem demK_P {A : AV} {l : List Pr} (hA : isP A l) {kp : Nat → Bool} {N : Nat} {h : Heap} {d : Nat} : demK kp N h (d + 1) A = some A := by
  rcases hA with rfl | ⟨_, rfl⟩
  · rw [demK_ro, if_pos bnds_prA]
  · rfl
/-- the seeds that were chosen -/
def sel (l : List Pr) (c : List Bool) (j : Nat) : List (List (BitVec 8)) := (List.range j).map (wnt l c.length (bfn c))
theorem sel_len {l : List Pr} {c : List Bool} {j : Nat} : (sel l c j).length = j := by simp [sel]
theorem sel_succ {l : List Pr} {c : List Bool} {j : Nat} : (sel l c j).map sdA ++ [sdA (wnt l c.length (bfn c) j)] = (sel l c (j + 1)).map sdA := by simp [sel, List.range_succ]
theorem sel_ok {l : List Pr} {c : List Bool} {j : Nat} (hok : ∀ p ∈ l, p.ok) (hj : j ≤ l.length) : ∀ s ∈ sel l c j, s.length = 32 := by
  intro s hs
  obtain ⟨t, ht, rfl⟩ := List.mem_map.1 hs
  have htl : t < l.length := by have := List.mem_range.1 ht; omega
  obtain ⟨hz, ho⟩ := pr_ok hok htl
  unfold wnt
  split
  · exact ho
  · exact hz
def I4 (l : List Pr) (c : List Bool) (H : Heap) (k : Nat) (st : St) : Prop :=
  ∃ (j : Nat) (out u7 u10 u11 : AV) (L : Heap), st = ⟨[.ro prS (l.map prA), out, .ro .leaf (c.map .bool), .bool true, .bool false, .ptr H.length 0 [0] (.st [.leaf, .leaf]), .int j, u7, .bool false, .bool true, u10, u11], H ++ bxv c.length (bfn c) :: L⟩ ∧ k = l.length - j ∧ j ≤ l.length ∧ j ≤ c.length ∧
    ((j = 0 ∧ out = .nils ∧ L = []) ∨ (0 < j ∧ out = .own (H.length + 3) j [] 0 j (.arr 32 .leaf) ∧ ∃ X Y J, L = X :: Y :: ssB j j ((sel l c j).map sdA) :: J))
set_option maxHeartbeats 2000000 in
theorem f4 {K : AV → Heap → Prop} {H : Heap} {l : List Pr} {ss : List (List (BitVec 8))} {c : List Bool} {right : Bool} (hok : ∀ p ∈ l, p.ok) (hsk : ∀ s ∈ ss, s.length = 32) (h : K (.bool true) H) : wpF P G 4 [.ro prS (l.map prA), .ro (.arr 32 .leaf) (ss.map sdA), .ro .leaf (c.map .bool), .bool right] H K := by
  refine wpF_go c4 rfl 4 ?_
  intro ha hb
  simp only [s4]
  clear ha hb
  have ll : (l.map prA).length = l.length := by simp
  have ls : (ss.map sdA).length = ss.length := by simp
  have lc : (c.map AV.bool).length = c.length := by simp
  by_cases h1 : 60 < l.length
  · have e1 : ((60 : Int) < (l.length : Int)) = True := by simp only [eq_iff_iff, iff_true]; omega
    (refine gw2 @ll @e1 ?_; try exact True.intro)
    refine f7 ?_
    (refine gw0 ?_; try exact True.intro)
    exact h
  have e1 : ((60 : Int) < (l.length : Int)) = False := by simp only [eq_iff_iff, iff_false]; omega
  by_cases h2 : 60 < ss.length
  · have e2 : ((60 : Int) < (ss.length : Int)) = True := by simp only [eq_iff_iff, iff_true]; omega
    (refine gw4 @ll @ls @e1 @e2 ?_; try exact True.intro)
    refine f7 ?_
    (refine gw0 ?_; try exact True.intro)
    exact h
  have e2 : ((60 : Int) < (ss.length : Int)) = False := by simp only [eq_iff_iff, iff_false]; omega
  by_cases h3 : 60 < c.length
  · have e3 : ((60 : Int) < (c.length : Int)) = True := by simp only [eq_iff_iff, iff_true]; omega
    (refine gw6 @ll @ls @lc @e1 @e2 @e3 ?_; try exact True.intro)
    refine f7 ?_
    (refine gw0 ?_; try exact True.intro)
    exact h
  have e3 : ((60 : Int) < (c.length : Int)) = False := by simp only [eq_iff_iff, iff_false]; omega
  (refine gw6 @ll @ls @lc @e1 @e2 @e3 ?_; try exact True.intro)
  refine f16 (by omega) ?_
  simp only [vec]
  cases right with
  | false =>
    (refine gw0 ?_; try exact True.intro)
    refine drawn _ (f18 (by omega) hok ⟨rfl, rfl⟩) ?_
    have hA := prL_isP (l := l)
    generalize prL l = A at *
    (refine gw0 ?_; try exact True.intro)
    refine drawn _ (f17 (n := c.length) (f := bfn c) hA (.inl rfl) (by omega) (by omega) hok hsk ⟨rfl, rfl⟩) ?_
    (refine gw0 ?_; try exact True.intro)
    refine drawn _ (f19 (c := c) (.inl rfl) (by omega) (by omega) hok hsk ⟨rfl, rfl⟩) ?_
    (refine gw0 ?_; try exact True.intro)
    refine drawn _ (f7 ⟨rfl, rfl⟩) ?_
    (refine gw0 ?_; try exact True.intro)
    exact h
  | true =>
    (refine gw0 ?_; try exact True.intro)
    refine wp_inv (I4 l c H) l.length ⟨0, _, _, _, _, [], rfl, rfl, Nat.zero_le _, Nat.zero_le _, .inl ⟨rfl, rfl, rfl⟩⟩ ?_
    rintro k st ⟨j, out, u7, u10, u11, L, rfl, rfl, hj, hjc, hc⟩
    unfold bxv
    by_cases hjl : j < l.length ∧ j < c.length
    · have e4 : ((j : Int) < (l.length : Int)) = True := by simp only [eq_iff_iff, iff_true]; omega
      have e5 : ((j : Int) < (c.length : Int)) = True := by simp only [eq_iff_iff, iff_true]; omega
      have gp := ld_pr hjl.1
      obtain ⟨hz, ho⟩ := pr_ok hok hjl.1
      have gc := ld_bfn (l := c) hjl.2
      have hsl : ((sel l c j).map sdA).length = j := by simp [sel]
      have hcut : cut c.length (bfn c) j = bfn c j := by unfold cut; rw [decide_eq_true hjl.2, Bool.true_and]
      cases hf : bfn c j with
      | false =>
        have hw : wnt l c.length (bfn c) j = (l.getD j prD).z := by unfold wnt; rw [hcut, hf]; rfl
        have hnx : (sel l c j).map sdA ++ [.agg ((l.getD j prD).z.map .u8)] = (sel l c (j + 1)).map sdA := by
          have := sel_succ (l := l) (c := c) (j := j)
          rw [hw] at this
          exact this
        rw [hf] at gc
        rcases hc with ⟨hi0, rfl, rfl⟩ | ⟨hi0, rfl, X, Y, J, rfl⟩
        · (refine gw8 @e4 @e5 @ll @lc @gp @hz @ho @gc ?_; try exact True.intro)
          (repeat (refine And.intro (by omega) ?_))
          subst hi0
          exact ⟨l.length - 1, by omega, 1, _, _, _, _, _, rfl, rfl, by omega, by omega, .inr ⟨by omega, rfl, _, _, [], by rw [← hnx]; rfl⟩⟩
        · unfold ssB
          (refine gw9 @e4 @e5 @ll @lc @gp @hz @ho @gc @hsl ?_; try exact True.intro)
          (repeat (refine And.intro (by omega) ?_))
          exact ⟨l.length - (j + 1), by omega, j + 1, _, _, _, _, _, rfl, rfl, by omega, by omega, .inr ⟨by omega, rfl, _, _, _, by rw [← hnx]; rfl⟩⟩
      | true =>
        have hw : wnt l c.length (bfn c) j = (l.getD j prD).o := by unfold wnt; rw [hcut, hf]; rfl
        have hnx : (sel l c j).map sdA ++ [.agg ((l.getD j prD).o.map .u8)] = (sel l c (j + 1)).map sdA := by
          have := sel_succ (l := l) (c := c) (j := j)
          rw [hw] at this
          exact this
        rw [hf] at gc
        rcases hc with ⟨hi0, rfl, rfl⟩ | ⟨hi0, rfl, X, Y, J, rfl⟩
        · (refine gw8 @e4 @e5 @ll @lc @gp @hz @ho @gc ?_; try exact True.intro)
          (repeat (refine And.intro (by omega) ?_))
          subst hi0
          exact ⟨l.length - 1, by omega, 1, _, _, _, _, _, rfl, rfl, by omega, by omega, .inr ⟨by omega, rfl, _, _, [], by rw [← hnx]; rfl⟩⟩
        · unfold ssB
          (refine gw9 @e4 @e5 @ll @lc @gp @hz @ho @gc @hsl ?_; try exact True.intro)
          (repeat (refine And.intro (by omega) ?_))
          exact ⟨l.length - (j + 1), by omega, j + 1, _, _, _, _, _, rfl, rfl, by omega, by omega, .inr ⟨by omega, rfl, _, _, _, by rw [← hnx]; rfl⟩⟩
    · have hsk2 := sel_ok (l := l) (c := c) (j := j) hok hj
      have hsl2 := sel_len (l := l) (c := c) (j := j)
      have hE : (((j : Int) < (l.length : Int)) = False) ∨ (((j : Int) < (l.length : Int)) = True ∧ ((j : Int) < (c.length : Int)) = False) := by
        simp only [eq_iff_iff, iff_false, iff_true]
        omega
      rcases hc with ⟨hi0, rfl, rfl⟩ | ⟨hi0, rfl, X, Y, J, rfl⟩
      · rcases hE with e4 | ⟨e4, e5⟩
        · (refine gw3 @e4 @ll @lc ?_; try exact True.intro)
          refine drawn _ (f18 (by omega) hok ⟨rfl, rfl⟩) ?_
          have hA := prL_isP (l := l)
          generalize prL l = A at *
          (refine gw0 ?_; try exact True.intro)
          refine drawn _ (f17 (n := c.length) (f := bfn c) (ss := []) hA (.inr ⟨rfl, rfl⟩) (by omega) (by decide) hok (by simp) ⟨rfl, rfl⟩) ?_
          (refine gw0 ?_; try exact True.intro)
          refine drawn _ (f19 (c := c) (ss := []) (.inr ⟨rfl, rfl⟩) (by omega) (by decide) hok (by simp) ⟨rfl, rfl⟩) ?_
          (refine gw0 ?_; try exact True.intro)
          refine drawn _ (f7 ⟨rfl, rfl⟩) ?_
          (refine gw0 ?_; try exact True.intro)
          exact h
        · (refine gw4 @e4 @e5 @ll @lc ?_; try exact True.intro)
          refine drawn _ (f18 (by omega) hok ⟨rfl, rfl⟩) ?_
          have hA := prL_isP (l := l)
          generalize prL l = A at *
          (refine gw0 ?_; try exact True.intro)
          refine drawn _ (f17 (n := c.length) (f := bfn c) (ss := []) hA (.inr ⟨rfl, rfl⟩) (by omega) (by decide) hok (by simp) ⟨rfl, rfl⟩) ?_
          (refine gw0 ?_; try exact True.intro)
          refine drawn _ (f19 (c := c) (ss := []) (.inr ⟨rfl, rfl⟩) (by omega) (by decide) hok (by simp) ⟨rfl, rfl⟩) ?_
          (refine gw0 ?_; try exact True.intro)
          refine drawn _ (f7 ⟨rfl, rfl⟩) ?_
          (refine gw0 ?_; try exact True.intro)
          exact h
      · unfold ssB
        have ht1 : List.take j ((sel l c j).map sdA) = (sel l c j).map sdA := List.take_of_length_le (by simp [sel])
        have hm1 := @mapO_sdA (sel l c j)
        have hwb : ∀ {k : Nat}, AV.bnds k (wdA c.length (bfn c)) = true := bndA
        have hpb : ∀ {k : Nat}, AV.bnds k (l.map prA) = true := bnds_prA
        rcases hE with e4 | ⟨e4, e5⟩
        · (refine gw3 @e4 @ll @lc ?_; try exact True.intro)
          refine drawn _ (f18 (by omega) hok ⟨rfl, rfl⟩) ?_
          have hA := prL_isP (l := l)
          generalize prL l = A at *
          have hdA : ∀ {kp : Nat → Bool} {N : Nat} {h : Heap} {d : Nat}, demK kp N h (d + 1) A = some A := demK_P hA
          (refine gw0 ?_; try exact True.intro)
          refine drawn (.bool (chs l (sel l c j) c.length (bfn c))) (wpF_lend1 4 ?_) ?_
          · (refine gw4 @ht1 @hm1 @hdA @hwb ?_; try exact True.intro)
            exact f17 (n := c.length) (f := bfn c) hA (.inl rfl) (by omega) (by omega) hok hsk2 ⟨rfl, rfl, rfl⟩
          (refine gw0 ?_; try exact True.intro)
          refine drawn (.bool (chs l (sel l c j) c.length (bfn c))) (wpF_lend1 4 ?_) ?_
          · (refine gw3 @ht1 @hm1 @hpb ?_; try exact True.intro)
            exact f19 (c := c) (.inl rfl) (by omega) (by omega) hok hsk2 ⟨rfl, rfl, rfl⟩
          (refine gw0 ?_; try exact True.intro)
          refine drawn _ (f7 ⟨rfl, rfl⟩) ?_
          (refine gw0 ?_; try exact True.intro)
          exact h
        · (refine gw4 @e4 @e5 @ll @lc ?_; try exact True.intro)
          refine drawn _ (f18 (by omega) hok ⟨rfl, rfl⟩) ?_
          have hA := prL_isP (l := l)
          generalize prL l = A at *
          have hdA : ∀ {kp : Nat → Bool} {N : Nat} {h : Heap} {d : Nat}, demK kp N h (d + 1) A = some A := demK_P hA
          (refine gw0 ?_; try exact True.intro)
          refine drawn (.bool (chs l (sel l c j) c.length (bfn c))) (wpF_lend1 4 ?_) ?_
          · (refine gw4 @ht1 @hm1 @hdA @hwb ?_; try exact True.intro)
            exact f17 (n := c.length) (f := bfn c) hA (.inl rfl) (by omega) (by omega) hok hsk2 ⟨rfl, rfl, rfl⟩
          (refine gw0 ?_; try exact True.intro)
          refine drawn (.bool (chs l (sel l c j) c.length (bfn c))) (wpF_lend1 4 ?_) ?_
          · (refine gw3 @ht1 @hm1 @hpb ?_; try exact True.intro)
            exact f19 (c := c) (.inl rfl) (by omega) (by omega) hok hsk2 ⟨rfl, rfl, rfl⟩
          (refine gw0 ?_; try exact True.intro)
          refine drawn _ (f7 ⟨rfl, rfl⟩) ?_
          (refine gw0 ?_; try exact True.intro)
          exact h
end Go.Proofs.YtjilenmngokhpaaDoor
