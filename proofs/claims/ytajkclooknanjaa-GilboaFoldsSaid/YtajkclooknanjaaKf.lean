/-
  What fits so many bits (layers 3 and 19): the functions that ask it of whole lists.
-/
import Derived.Test.YtajkclooknanjaaKb
import Derived.Test.YtajkclooknanjaaV38
import Derived.Test.YtajkclooknanjaaV44
section
open Go Go.V
namespace Go.Proofs.Ytajkclooknanjaa
/-- trefoil/gilboa.good (0:width, 1:n, 4:) -/
def s25 : FnS := ⟨19, [0, 1, 4],
    (.seq (.reg [⟨.var 2, (.q .mv), [.c (.bool false)], none⟩])
    (.seq (.reg [⟨.new, (.q .mv), [.t 0], none⟩,
      ⟨.new, (.q (.bin .geq)), [.t 3, .c (.int 1)], none⟩,
      ⟨.new, (.q .mv), [.t 4], none⟩,
      ⟨.new, (.q .mv), [.t 0], (some (5, true))⟩,
      ⟨.new, (.q (.bin .leq)), [.t 6, .c (.int 64)], (some (5, true))⟩,
      ⟨.new, (.q .pick), [.t 5, .t 7, .c (.bool false)], none⟩,
      ⟨.new, (.q .mv), [.t 8], none⟩,
      ⟨.new, (.q .mv), [.t 1], (some (9, true))⟩,
      ⟨.new, (.q (.bin .geq)), [.t 10, .c (.int 1)], (some (9, true))⟩,
      ⟨.new, (.q .pick), [.t 9, .t 11, .c (.bool false)], none⟩,
      ⟨.new, (.q .mv), [.t 12], none⟩,
      ⟨.new, (.q .mv), [.t 1], (some (13, true))⟩,
      ⟨.new, (.q (.bin .leq)), [.t 14, .c (.int 6)], (some (13, true))⟩,
      ⟨.new, (.q .pick), [.t 13, .t 15, .c (.bool false)], none⟩,
      ⟨.var 2, (.q .mv), [.t 16], none⟩])
    .ret)),
    [.t 2]⟩

/-- trefoil/trefoilref21.Wrong (0:width, 1:n, 4:) -/
def s18 : FnS := ⟨19, [0, 1, 4],
    (.seq (.reg [⟨.var 2, (.q .mv), [.c (.bool false)], none⟩])
    (.seq (.reg [⟨.new, (.q .mv), [.t 0], none⟩,
      ⟨.new, (.q (.bin .lss)), [.t 3, .c (.int 1)], none⟩,
      ⟨.new, (.q .mv), [.t 4], none⟩,
      ⟨.new, (.q .mv), [.t 0], (some (5, false))⟩,
      ⟨.new, (.q (.bin .gtr)), [.t 6, .c (.int 64)], (some (5, false))⟩,
      ⟨.new, (.q .pick), [.t 5, .c (.bool true), .t 7], none⟩,
      ⟨.new, (.q .mv), [.t 8], none⟩,
      ⟨.new, (.q .mv), [.t 1], (some (9, false))⟩,
      ⟨.new, (.q (.bin .lss)), [.t 10, .c (.int 1)], (some (9, false))⟩,
      ⟨.new, (.q .pick), [.t 9, .c (.bool true), .t 11], none⟩,
      ⟨.new, (.q .mv), [.t 12], none⟩,
      ⟨.new, (.q .mv), [.t 1], (some (13, false))⟩,
      ⟨.new, (.q (.bin .gtr)), [.t 14, .c (.int 6)], (some (13, false))⟩,
      ⟨.new, (.q .pick), [.t 13, .c (.bool true), .t 15], none⟩,
      ⟨.var 2, (.q .mv), [.t 16], none⟩])
    .ret)),
    [.t 2]⟩

/-- trefoil/trefoilref19.Fits (0:width, 1:l, 4:, 5:i, 9:, 22:) -/
def s29 : FnS := ⟨23, [0, 1, 4, 5, 9, 22],
    (.seq (.reg [⟨.var 2, (.q .mv), [.c (.bool false)], none⟩])
    (.seq (.seq (.reg [⟨.var 3, (.q .mv), [.c (.int 0)], none⟩])
    (.block 0 (.loop (.seq (.seq (.reg [⟨.new, (.q .mv), [.t 3], none⟩,
      ⟨.new, (.q .mv), [.t 1], none⟩,
      ⟨.new, (.q .len), [.t 7], none⟩,
      ⟨.var 4, (.q (.bin .lss)), [.t 6, .t 8], none⟩])
    (.cond (.t 4) .skip
    (.exit 0)))
    (.seq (.block 1 (.seq (.draw [⟨.new, (.q .mv), [.t 0], none⟩,
      ⟨.new, (.q .mv), [.t 1], none⟩,
      ⟨.new, (.q .mv), [.t 3], none⟩,
      ⟨.new, (.q (.iaS .leaf)), [.t 7, .t 8], none⟩,
      ⟨.new, (.q (.ld .leaf)), [.t 9], none⟩,
      ⟨.new, (.call 19), [.t 6, .t 10], none⟩,
      ⟨.new, (.q .mv), [.t 1], none⟩,
      ⟨.new, (.q .mv), [.t 3], none⟩,
      ⟨.new, (.q (.iaS .leaf)), [.t 12, .t 13], none⟩,
      ⟨.new, (.q (.ld .leaf)), [.t 14], none⟩,
      ⟨.var 5, (.q (.bin .neq)), [.t 11, .t 15], none⟩])
    (.cond (.t 5) (.seq (.reg [⟨.var 2, (.q .mv), [.c (.bool false)], none⟩])
    .ret)
    .skip)))
    (.reg [⟨.new, (.q .mv), [.t 3], none⟩,
      ⟨.new, (.q (.bin .add)), [.t 6, .c (.int 1)], none⟩,
      ⟨.var 3, (.q .mv), [.t 7], none⟩]))))))
    (.seq (.reg [⟨.var 2, (.q .mv), [.c (.bool true)], none⟩])
    .ret))),
    [.t 2]⟩

set_option maxRecDepth 100000
set_option linter.unusedSimpArgs false
set_option linter.unusedVariables false
theorem c25 : cF P [] (drP P []) 25 2 s25.vm = some s25 := by kernel_rfl
theorem c18 : cF P [] (drP P []) 18 2 s18.vm = some s18 := by kernel_rfl
theorem c29 : cF P [] (drP P []) 29 2 s29.vm = some s29 := by kernel_rfl
/-- do all numbers fit? -/
def fitL (l : Int) (xs : List (BitVec 64)) : Bool := xs.all fun x => decide (x &&& ~~~maskV l = 0)
def I42L (m : BitVec 64) (xs : List (BitVec 64)) (H : Heap) (k : Nat) (st : St) : Prop :=
  ∃ (i : Nat) (u3 u6 u7 : AV), st = ⟨[.ro .leaf (xs.map .u64), .fn 35 [.ptr H.length 0 [0] .leaf], .int 0, u3, .int xs.length, .int i, u6, u7], hM m H⟩ ∧ k = xs.length - i ∧ i ≤ xs.length ∧ ∀ j, j < i → xs.getD j 0 &&& ~~~m = 0
theorem all_get {xs : List (BitVec 64)} {p : BitVec 64 → Bool} : xs.all p = true ↔ ∀ j, j < xs.length → p (xs.getD j 0) = true := by
  rw [List.all_eq_true]
  constructor
  · intro h j hj
    rw [List.getD_eq_getElem?_getD, List.getElem?_eq_getElem hj]
    exact h _ (List.getElem_mem hj)
  · intro h x hx
    obtain ⟨j, hj, rfl⟩ := List.getElem_of_mem hx
    have := h j hj
    rwa [List.getD_eq_getElem?_getD, List.getElem?_eq_getElem hj] at this
theorem f42L {K : AV → Heap → Prop} {H : Heap} {m : BitVec 64} {xs : List (BitVec 64)} (hn : xs.length ≤ 1000000000) (h : ∀ r : Int, decide (0 ≤ r) = (!xs.all fun x => decide (x &&& ~~~m = 0)) → K (.int r) (hM m H)) : wpF P [] 42 [.ro .leaf (xs.map .u64), .fn 35 [.ptr H.length 0 [0] .leaf]] (hM m H) K := by
  refine wpF_go c42 rfl 2 ?_
  intro ha hb
  simp only [s42]
  clear ha hb
  have lm : (xs.map AV.u64).length = xs.length := by simp
  (refine gw1 @lm ?_; try exact True.intro)
  refine wp_inv (I42L m xs H) xs.length ⟨0, _, _, _, rfl, rfl, by omega, fun j hj => by omega⟩ ?_
  rintro k st ⟨i, u3, u6, u7, rfl, rfl, hi, hj⟩
  by_cases hil : i < xs.length
  · have h1 : ((i : Int) < (xs.length : Int)) = True := by simp [hil]
    have g1 := ld_u64 hil
    (refine gw3 @h1 @g1 @lm ?_; try exact True.intro)
    refine f35 ?_
    by_cases hx : xs.getD i 0 &&& ~~~m = 0
    · rw [decide_eq_true hx]
      (refine gw0 ?_; try exact True.intro)
      (repeat (refine And.intro (by omega) ?_))
      refine ⟨xs.length - (i + 1), by omega, i + 1, _, _, _, rfl, rfl, by omega, fun j hj' => ?_⟩
      by_cases hji : j = i
      · rw [hji]; exact hx
      · exact hj j (by omega)
    · have h2 := h (i : Int) (by
        have : (xs.all fun x => decide (x &&& ~~~m = 0)) = false := by
          rw [Bool.eq_false_iff]
          intro hc
          exact hx (of_decide_eq_true (all_get.1 hc i hil))
        rw [this]
        simp)
      rw [decide_eq_false hx]
      (refine gw0 ?_; try exact True.intro)
      exact h2
  · have h1 : ((i : Int) < (xs.length : Int)) = False := by simp; omega
    have h2 := h (-1) (by
      have : (xs.all fun x => decide (x &&& ~~~m = 0)) = true := all_get.2 fun j hj' => decide_eq_true (hj j (by omega))
      rw [this]
      rfl)
    (refine gw1 @h1 ?_; try exact True.intro)
    exact h2
theorem f42n {K : AV → Heap → Prop} {H : Heap} {A : AV} (h : K (.int (-1)) H) : wpF P [] 42 [.nils, A] H K := by
  refine wpF_go c42 rfl 2 ?_
  intro ha hb
  simp only [s42]
  clear ha hb
  (refine gw0 ?_; try exact True.intro)
  refine wp_unroll 1 ?_
  (refine gw0 ?_; try exact True.intro)
  exact h
theorem f34L {K : AV → Heap → Prop} {H : Heap} {m : BitVec 64} {xs : List (BitVec 64)} (hn : xs.length ≤ 1000000000) (h : K (.bool (!xs.all fun x => decide (x &&& ~~~m = 0))) (hM m H)) : wpF P [] 34 [.ro .leaf (xs.map .u64), .fn 35 [.ptr H.length 0 [0] .leaf]] (hM m H) K := by
  refine wpF_go c34 rfl 2 ?_
  intro ha hb
  simp only [s34]
  clear ha hb
  (refine gw0 ?_; try exact True.intro)
  refine f42L hn fun r hr => ?_
  rw [← hr] at h
  (refine gw0 ?_; try exact True.intro)
  exact h
theorem f34n {K : AV → Heap → Prop} {H : Heap} {A : AV} (h : K (.bool false) H) : wpF P [] 34 [.nils, A] H K := by
  refine wpF_go c34 rfl 2 ?_
  intro ha hb
  simp only [s34]
  clear ha hb
  (refine gw0 ?_; try exact True.intro)
  refine f42n ?_
  (refine gw0 ?_; try exact True.intro)
  exact h
theorem f26L {K : AV → Heap → Prop} {H : Heap} {l : Int} {xs : List (BitVec 64)} (hn : xs.length ≤ 1000000000) (h : K (.bool (fitL l xs)) H) : wpF P [] 26 [.int l, .ro .leaf (xs.map .u64)] H K := by
  refine wpF_go c26 rfl 2 ?_
  intro ha hb
  simp only [s26]
  clear ha hb
  (refine gw0 ?_; try exact True.intro)
  refine f33 ?_
  (refine gw0 ?_; try exact True.intro)
  refine f34L (m := maskV l) hn ?_
  unfold hM
  (refine gw0 ?_; try exact True.intro)
  unfold fitL at h
  exact h
theorem f26n {K : AV → Heap → Prop} {H : Heap} {l : Int} (h : K (.bool true) H) : wpF P [] 26 [.int l, .nils] H K := by
  refine wpF_go c26 rfl 2 ?_
  intro ha hb
  simp only [s26]
  clear ha hb
  (refine gw0 ?_; try exact True.intro)
  refine f33 ?_
  (refine gw0 ?_; try exact True.intro)
  refine f34n ?_
  (refine gw0 ?_; try exact True.intro)
  exact h
theorem fits_eq {l : Int} (hg : good l) (x : BitVec 64) : decide (x &&& ~~~maskV l = 0) = decide (rcut (rounds l) x = x) := by
  have hr : rounds l = l.toNat := by unfold rounds; unfold good at hg; split <;> omega
  rw [hr]
  simp only [fits_iff hg x]
def I29L (l : Int) (A : AV) (xs : List (BitVec 64)) (H : Heap) (k : Nat) (st : St) : Prop :=
  ∃ (i : Nat) (u4 u5 : AV), st = ⟨[.int l, A, .bool false, .int i, u4, u5], H⟩ ∧ k = xs.length - i ∧ i ≤ xs.length ∧ ∀ j, j < i → rcut (rounds l) (xs.getD j 0) = xs.getD j 0
theorem f29 {K : AV → Heap → Prop} {H : Heap} {l : Int} {xs : List (BitVec 64)} (hn : xs.length ≤ 1000000000) (h : K (.bool (xs.all fun x => decide (rcut (rounds l) x = x))) H) : wpF P [] 29 [.int l, .ro .leaf (xs.map .u64)] H K := by
  refine wpF_go c29 rfl 2 ?_
  intro ha hb
  simp only [s29]
  clear ha hb
  have lm : (xs.map AV.u64).length = xs.length := by simp
  (refine gw1 @lm ?_; try exact True.intro)
  refine wp_inv (I29L l (.ro .leaf (xs.map .u64)) xs H) xs.length ⟨0, _, _, rfl, rfl, by omega, fun j hj => by omega⟩ ?_
  rintro k st ⟨i, u4, u5, rfl, rfl, hi, hj⟩
  by_cases hil : i < xs.length
  · have h1 : ((i : Int) < (xs.length : Int)) = True := by simp [hil]
    have g1 := ld_u64 hil
    (refine gw3 @h1 @g1 @lm ?_; try exact True.intro)
    refine drawn _ (f19 ⟨rfl, rfl⟩) ?_
    by_cases hx : rcut (rounds l) (xs.getD i 0) = xs.getD i 0
    · (refine gw4 @h1 @g1 @lm @hx ?_; try exact True.intro)
      (repeat (refine And.intro (by omega) ?_))
      refine ⟨xs.length - (i + 1), by omega, i + 1, _, _, rfl, rfl, by omega, fun j hj' => ?_⟩
      by_cases hji : j = i
      · rw [hji]; exact hx
      · exact hj j (by omega)
    · have : (xs.all fun x => decide (rcut (rounds l) x = x)) = false := by
        rw [Bool.eq_false_iff]
        intro hc
        exact hx (of_decide_eq_true (all_get.1 hc i hil))
      rw [this] at h
      (refine gw4 @h1 @g1 @lm @hx ?_; try exact True.intro)
      exact h
  · have h1 : ((i : Int) < (xs.length : Int)) = False := by simp; omega
    have : (xs.all fun x => decide (rcut (rounds l) x = x)) = true := all_get.2 fun j hj' => decide_eq_true (hj j (by omega))
    rw [this] at h
    (refine gw2 @h1 @lm ?_; try exact True.intro)
    exact h
theorem f29n {K : AV → Heap → Prop} {H : Heap} {l : Int} (h : K (.bool true) H) : wpF P [] 29 [.int l, .nils] H K := by
  refine wpF_go c29 rfl 2 ?_
  intro ha hb
  simp only [s29]
  clear ha hb
  (refine gw0 ?_; try exact True.intro)
  refine wp_unroll 1 ?_
  (refine gw0 ?_; try exact True.intro)
  exact h
theorem fitL_eq {l : Int} (hg : good l) {xs : List (BitVec 64)} : (xs.all fun x => decide (rcut (rounds l) x = x)) = fitL l xs := by
  unfold fitL
  congr 1
  funext x
  exact (fits_eq hg x).symm
/-- are a width, and a row's length, good? -/
def okW (w n : Int) : Bool := decide (1 ≤ w) && decide (w ≤ 64) && decide (1 ≤ n) && decide (n ≤ 6)
theorem okW_good {w n : Int} (h : okW w n = true) : good w ∧ 1 ≤ n ∧ n ≤ 6 := by
  simp only [okW, Bool.and_eq_true, decide_eq_true_eq] at h
  exact ⟨⟨h.1.1.1, h.1.1.2⟩, h.1.2, h.2⟩
theorem f25 {K : AV → Heap → Prop} {H : Heap} {w n : Int} (h : K (.bool (okW w n)) H) : wpF P [] 25 [.int w, .int n] H K := by
  refine wpF_go c25 rfl 2 ?_
  intro ha hb
  simp only [s25]
  clear ha hb
  unfold okW at h
  by_cases h1 : 1 ≤ w <;> by_cases h2 : w ≤ 64 <;> by_cases h3 : 1 ≤ n <;> by_cases h4 : n ≤ 6 <;>
  · simp only [h1, h2, h3, h4, decide_true, decide_false, Bool.and_true, Bool.and_false, Bool.true_and, Bool.false_and] at h
    (refine gw4 @h1 @h2 @h3 @h4 ?_; try exact True.intro)
    exact h
theorem f18 {K : AV → Heap → Prop} {H : Heap} {w n : Int} (h : K (.bool (!okW w n)) H) : wpF P [] 18 [.int w, .int n] H K := by
  refine wpF_go c18 rfl 2 ?_
  intro ha hb
  simp only [s18]
  clear ha hb
  unfold okW at h
  by_cases h1 : w < 1
  · have e1 : ¬ 1 ≤ w := by omega
    simp only [e1, decide_false, Bool.false_and, Bool.not_false] at h
    (refine gw1 @h1 ?_; try exact True.intro)
    exact h
  by_cases h2 : 64 < w
  · have e1 : 1 ≤ w := by omega
    have e2 : ¬ w ≤ 64 := by omega
    simp only [e1, e2, decide_true, decide_false, Bool.and_false, Bool.false_and, Bool.not_false] at h
    (refine gw2 @h1 @h2 ?_; try exact True.intro)
    exact h
  by_cases h3 : n < 1
  · have e1 : 1 ≤ w := by omega
    have e2 : w ≤ 64 := by omega
    have e3 : ¬ 1 ≤ n := by omega
    simp only [e1, e2, e3, decide_true, decide_false, Bool.and_false, Bool.false_and, Bool.not_false, Bool.and_true] at h
    (refine gw3 @h1 @h2 @h3 ?_; try exact True.intro)
    exact h
  by_cases h4 : 6 < n
  · have e1 : 1 ≤ w := by omega
    have e2 : w ≤ 64 := by omega
    have e3 : 1 ≤ n := by omega
    have e4 : ¬ n ≤ 6 := by omega
    simp only [e1, e2, e3, e4, decide_true, decide_false, Bool.and_false, Bool.false_and, Bool.not_false, Bool.and_true] at h
    (refine gw4 @h1 @h2 @h3 @h4 ?_; try exact True.intro)
    exact h
  · have e1 : 1 ≤ w := by omega
    have e2 : w ≤ 64 := by omega
    have e3 : 1 ≤ n := by omega
    have e4 : n ≤ 6 := by omega
    simp only [e1, e2, e3, e4, decide_true, Bool.and_true, Bool.not_true] at h
    (refine gw4 @h1 @h2 @h3 @h4 ?_; try exact True.intro)
    exact h
end Go.Proofs.Ytajkclooknanjaa

end

section
/-
  Layer 21 (gilboa): what who multiplies chooses by; the program's and the reference's.
-/
open Go Go.V
namespace Go.Proofs.Ytajkclooknanjaa
/-- trefoil/ring.Bits (0:l, 1:x, 4:, 5:out, 6:i, 9:, 13:, 14:, 15:) -/
def s27 : FnS := ⟨28, [0, 1, 4, 5, 6, 9, 13, 14, 15],
    (.seq (.reg [⟨.var 2, (.q .mv), [.c .nils], none⟩])
    (.seq (.seq (.reg [⟨.new, (.q .mv), [.t 0], none⟩,
      ⟨.new, (.call 33), [.t 9], none⟩,
      ⟨.var 5, (.q (.bin .eql)), [.t 10, .c (.u64 0)], none⟩])
    (.cond (.t 5) (.seq (.reg [⟨.var 2, (.q .mv), [.c .nils], none⟩])
    .ret)
    .skip))
    (.seq (.reg [⟨.new, (.q .mv), [.t 0], none⟩,
      ⟨.new, (.e (.mksl 4 .leaf 1 (.bool false))), [.t 9, .t 9], none⟩,
      ⟨.var 3, (.q .mv), [.t 10], none⟩])
    (.seq (.seq (.reg [⟨.new, (.q .mv), [.t 3], none⟩,
      ⟨.var 6, (.q .len), [.t 9], none⟩,
      ⟨.var 7, (.q .mv), [.c (.int 0)], none⟩])
    (.block 0 (.loop (.seq (.reg [⟨.var 8, (.q (.bin .lss)), [.t 7, .t 6], none⟩])
    (.seq (.cond (.t 8) .skip
    (.exit 0))
    (.seq (.block 1 (.seq (.reg [⟨.new, (.q .mv), [.t 7], none⟩,
      ⟨.var 4, (.q .mv), [.t 9], none⟩])
    (.reg [⟨.new, (.q .mv), [.t 3], none⟩,
      ⟨.new, (.q .mv), [.t 4], none⟩,
      ⟨.new, (.q .mv), [.t 1], none⟩,
      ⟨.new, (.q .mv), [.t 4], none⟩,
      ⟨.new, (.q (.cv .u64)), [.t 12], none⟩,
      ⟨.new, (.q (.bin .shr)), [.t 11, .t 13], none⟩,
      ⟨.new, (.q (.bin .and)), [.t 14, .c (.u64 1)], none⟩,
      ⟨.new, (.q (.bin .eql)), [.t 15, .c (.u64 1)], none⟩,
      ⟨.new, (.q (.iaS .leaf)), [.t 9, .t 10], none⟩,
      ⟨.none, (.e (.store .leaf)), [.t 17, .t 16], none⟩])))
    (.reg [⟨.new, (.q (.bin .add)), [.t 7, .c (.int 1)], none⟩,
      ⟨.var 7, (.q .mv), [.t 9], none⟩])))))))
    (.seq (.reg [⟨.new, (.q .mv), [.t 3], none⟩,
      ⟨.var 2, (.q .mv), [.t 9], none⟩])
    .ret))))),
    [.t 2]⟩

/-- trefoil/gilboa.Choices (0:width, 1:as, 4:, 5:, 6:l, 8:a, 17:, 19:, 20:, 21:, 22:) -/
def s7 : FnS := ⟨35, [0, 1, 4, 5, 6, 8, 17, 19, 20, 21, 22],
    (.seq (.reg [⟨.var 2, (.e (.alloc 25 (.st [.leaf, .leaf]) (.agg [(.int 0), .nils]))), [], none⟩,
      ⟨.var 3, (.q .mv), [.c (.int 0)], none⟩])
    (.seq (.seq (.reg [⟨.new, (.q .mv), [.t 0], none⟩,
      ⟨.new, (.call 25), [.t 11, .c (.int 1)], none⟩,
      ⟨.new, (.q (.un .not)), [.t 12], none⟩,
      ⟨.new, (.q .mv), [.t 13], none⟩,
      ⟨.new, (.q .mv), [.t 0], (some (14, false))⟩,
      ⟨.new, (.q .mv), [.t 1], (some (14, false))⟩,
      ⟨.new, (.call 26), [.t 15, .t 16], (some (14, false))⟩,
      ⟨.new, (.q (.un .not)), [.t 17], (some (14, false))⟩,
      ⟨.var 6, (.q .pick), [.t 14, .c (.bool true), .t 18], none⟩])
    (.cond (.t 6) (.seq (.reg [⟨.new, (.e (.bld (.st [.leaf, .leaf]) (.agg [(.int 0), .nils]) [])), [], none⟩,
      ⟨.none, (.e (.store (.st [.leaf, .leaf]))), [.t 2, .t 11], none⟩,
      ⟨.var 3, (.q .mv), [.c (.int 11)], none⟩])
    .ret)
    .skip))
    (.seq (.reg [⟨.var 4, (.q .mv), [.c .nils], none⟩])
    (.seq (.seq (.reg [⟨.var 7, (.q .mv), [.t 1], none⟩,
      ⟨.var 8, (.q .len), [.t 7], none⟩,
      ⟨.var 9, (.q .mv), [.c (.int 0)], none⟩])
    (.block 0 (.loop (.seq (.reg [⟨.var 10, (.q (.bin .lss)), [.t 9, .t 8], none⟩])
    (.seq (.cond (.t 10) .skip
    (.exit 0))
    (.seq (.block 1 (.seq (.reg [⟨.new, (.q (.iaS .leaf)), [.t 7, .t 9], none⟩,
      ⟨.new, (.q (.ld .leaf)), [.t 11], none⟩,
      ⟨.var 5, (.q .mv), [.t 12], none⟩])
    (.reg [⟨.new, (.q .mv), [.t 4], none⟩,
      ⟨.new, (.q .mv), [.t 0], none⟩,
      ⟨.new, (.q .mv), [.t 5], none⟩,
      ⟨.new, (.call 27), [.t 12, .t 13], none⟩,
      ⟨.new, (.e (.app 4 .leaf 1)), [.t 11, .t 14], none⟩,
      ⟨.var 4, (.q .mv), [.t 15], none⟩])))
    (.reg [⟨.new, (.q (.bin .add)), [.t 9, .c (.int 1)], none⟩,
      ⟨.var 9, (.q .mv), [.t 11], none⟩])))))))
    (.seq (.reg [⟨.new, (.q .mv), [.t 4], none⟩,
      ⟨.new, (.call 28), [.t 11], none⟩,
      ⟨.new, (.q (.ext 0)), [.t 12], none⟩,
      ⟨.new, (.q (.ext 1)), [.t 12], none⟩,
      ⟨.none, (.e (.store (.st [.leaf, .leaf]))), [.t 2, .t 13], none⟩,
      ⟨.var 3, (.q .mv), [.t 14], none⟩])
    .ret))))),
    [.cell 2 (.st [.leaf, .leaf]), .t 3]⟩

set_option maxRecDepth 100000
set_option linter.unusedSimpArgs false
set_option linter.unusedVariables false
theorem c27 : cF P [] (drP P []) 27 2 s27.vm = some s27 := by kernel_rfl
theorem c7 : cF P [] (drP P []) 7 2 s7.vm = some s7 := by kernel_rfl
/-- bit i, as Go asks for it -/
def bitB (x : BitVec 64) (i : Nat) : Bool := decide (x >>> i &&& 1 = 1)
/-- the bits of a number -/
def bl (w : Nat) (x : BitVec 64) : List Bool := (List.range w).map (bitB x)
theorem bl_len {w : Nat} {x : BitVec 64} : (bl w x).length = w := by simp [bl]
theorem bl_map {w : Nat} {x : BitVec 64} : (bl w x).map AV.bool = (List.range w).map fun i => .bool (bitB x i) := by unfold bl; rw [List.map_map]; rfl
def I24 (l : Int) (x : BitVec 64) (H : Heap) (k : Nat) (st : St) : Prop :=
  ∃ (i : Nat) (u1 u2 u3 : AV), st = ⟨[.int l, .u64 x, .nils, .own H.length 0 [] 0 l.toNat .leaf, u1, u2, .int l, .int i, u3], H ++ [some ⟨4, 0, true, .arr l.toNat .leaf, .agg (fillL (fun i => .bool (bitB x i)) (.bool false) l.toNat i)⟩]⟩ ∧ k = 64 - i ∧ (i : Int) ≤ l
theorem f27 {K : AV → Heap → Prop} {H : Heap} {l : Int} {x : BitVec 64} (hg : good l) (h : K (.ro .leaf ((bl l.toNat x).map .bool)) H) : wpF P [] 27 [.int l, .u64 x] H K := by
  refine wpF_go c27 rfl 2 ?_
  intro ha hb
  simp only [s27]
  clear ha hb
  rw [bl_map] at h
  (refine gw0 ?_; try exact True.intro)
  refine f33 ?_
  have hz : (maskV l = 0) = False := eq_false fun h => mask_zero.1 h hg
  have hl : 1 ≤ l ∧ l ≤ 64 := hg
  have hln : ((l.toNat : Nat) : Int) = l := by omega
  (refine gw2 @hz @hln ?_; try exact True.intro)
  refine ⟨by omega, by omega, by omega, by omega, ?_⟩
  refine wp_inv (I24 l x H) 64 ⟨0, _, _, _, by rw [fill_zero]; rfl, rfl, by omega⟩ ?_
  rintro k st ⟨i, u1, u2, u3, rfl, rfl, hi⟩
  by_cases hil : (i : Int) < l
  · have he : (BitVec.ofInt 64 (i : Int)).toNat = i := ofInt_nat (by omega)
    have hin : i < l.toNat := by omega
    have hlt : (i : Int) < (l.toNat : Int) := by omega
    have hget := lget_at (ps := fillL (fun i => .bool (bitB x i)) (.bool false) l.toNat i) (i := i) (by rw [fill_length (by omega)]; exact hin)
    (refine gw4 @hil @he @hlt @hget ?_; try exact True.intro)
    refine ⟨by omega, by omega, 64 - (i + 1), by omega, i + 1, _, _, _, by rw [← fill_set hin]; rfl, rfl, by omega⟩
  · (refine gw1 @hil ?_; try exact True.intro)
    have hie : i = l.toNat := by omega
    have ht : List.take l.toNat (fillL (fun i => AV.bool (bitB x i)) (AV.bool false) l.toNat i) = (List.range l.toNat).map fun i => .bool (bitB x i) := by
      rw [hie, fill_all, List.take_of_length_le (by simp)]
    rw [ht, mapO_plain plain_map_bool]
    (refine gw0 ?_; try exact True.intro)
    exact h
/-- the bits of numbers, one number's behind the other's -/
def chL (w : Nat) (xs : List (BitVec 64)) : List Bool := xs.flatMap (bl w)
theorem chL_len {w : Nat} {xs : List (BitVec 64)} : (chL w xs).length = w * xs.length := by
  unfold chL
  induction xs with
  | nil => rfl
  | cons x xs ih => rw [List.flatMap_cons, List.length_append, ih, bl_len, List.length_cons, Nat.mul_succ, Nat.add_comm]
theorem take_next {α : Type} {xs : List α} {i : Nat} {d : α} (h : i < xs.length) : xs.take (i + 1) = xs.take i ++ [xs.getD i d] := by
  rw [List.take_add_one, List.getD_eq_getElem?_getD, List.getElem?_eq_getElem h]
  rfl
theorem chL_next {w : Nat} {xs : List (BitVec 64)} {i : Nat} (h : i < xs.length) : chL w (xs.take (i + 1)) = chL w (xs.take i) ++ bl w (xs.getD i 0) := by
  rw [take_next (d := 0) h]
  unfold chL
  rw [List.flatMap_append, List.flatMap_cons, List.flatMap_nil, List.append_nil]
theorem mb_kind {l : List Bool} : ∀ q : AV, q ∈ l.map AV.bool → (match q with | AV.agg ps => false | AV.tup ps => false | AV.un => false | x => true) = true := by
  intro q hq
  obtain ⟨b, _, rfl⟩ := List.mem_map.1 hq
  rfl
theorem bnds_wdA {n k : Nat} {f : Nat → Bool} : AV.bnds k (wdA n f) = true := by
  have := bnd_wdA (n := n) (k := k) (f := f)
  simpa only [AV.bnd] using this
/-- a list that grows by lists -/
def boB (v n : Nat) (l : List Bool) : Option Blk := some ⟨4, v, true, .arr n .leaf, .agg (l.map .bool)⟩
def apL (N : Nat) (l : List Bool) (i : Nat) (out : AV) (L : Heap) : Prop :=
  (i = 0 ∧ out = .nils ∧ L = []) ∨ (0 < i ∧ ∃ n, n = l.length ∧ out = .own N i [] 0 n .leaf ∧ L = [boB i n l])
def I7 (w : Int) (xs : List (BitVec 64)) (H : Heap) (k : Nat) (st : St) : Prop :=
  ∃ (i : Nat) (u5 u10 out : AV) (l : List Bool) (L : Heap), st = ⟨[.int w, .ro .leaf (xs.map .u64), .ptr H.length 0 [0] (.st [.leaf, .leaf]), .int 0, out, u5, .bool false, .ro .leaf (xs.map .u64), .int xs.length, .int i, u10], H ++ rblk :: L⟩ ∧ k = xs.length - i ∧ i ≤ xs.length ∧ l = chL w.toNat (xs.take i) ∧ apL (H.length + 1) l i out L
theorem f28n {K : AV → Heap → Prop} {H : Heap} {f : Nat → Bool} (h : K (.tup [vec 0 f, .int 0]) H) : wpF P [] 28 [.nils] H K := by
  refine wpF_go c28 rfl 4 ?_
  intro ha hb
  simp only [s28]
  clear ha hb
  (refine gw0 ?_; try exact True.intro)
  refine f36 (n := 0) (by omega) ?_
  intro B
  have e2 : H.length + 1 + 1 = H.length + 2 := rfl
  (refine gw1 @e2 ?_; try exact True.intro)
  unfold wblk
  refine wp_unroll 1 ?_
  have hz : nw 0 = 0 := rfl
  have hw : wdA 0 (fun _ => false) = [] := rfl
  (refine gw2 @hz @hw ?_; try exact True.intro)
  exact h
theorem f7e {K : AV → Heap → Prop} {H : Heap} {w : Int} {xs : List (BitVec 64)} (hn : xs.length ≤ 1000) (hb : (okW w 1 && fitL w xs) = false) (h : K (.tup [.agg [.int 0, .nils], .int 11]) H) : wpF P [] 7 [.int w, .ro .leaf (xs.map .u64)] H K := by
  refine wpF_go c7 rfl 4 ?_
  intro ha hb'
  simp only [s7]
  clear ha hb'
  by_cases h1 : okW w 1 = true
  · have h2 : fitL w xs = false := by simpa [h1] using hb
    (refine gw0 ?_; try exact True.intro)
    refine f25 ?_
    (refine gw1 @h1 ?_; try exact True.intro)
    refine f26L (by omega) ?_
    (refine gw2 @h1 @h2 ?_; try exact True.intro)
    exact h
  · have h1' : okW w 1 = false := by simpa using h1
    (refine gw0 ?_; try exact True.intro)
    refine f25 ?_
    (refine gw1 @h1' ?_; try exact True.intro)
    exact h
theorem f7 {K : AV → Heap → Prop} {H : Heap} {w : Int} {xs : List (BitVec 64)} (hn : xs.length ≤ 1000) (h1 : okW w 1 = true) (h2 : fitL w xs = true) (h : K (.tup [vec (w.toNat * xs.length) (bfn (chL w.toNat xs)), .int 0]) H) : wpF P [] 7 [.int w, .ro .leaf (xs.map .u64)] H K := by
  refine wpF_go c7 rfl 4 ?_
  intro ha hb'
  simp only [s7]
  clear ha hb'
  have lm : (xs.map AV.u64).length = xs.length := by simp
  have hg := (okW_good h1).1
  obtain ⟨hw1, hw2⟩ := id hg
  have hwn : w.toNat ≤ 64 := by omega
  (refine gw0 ?_; try exact True.intro)
  refine f25 ?_
  (refine gw1 @h1 ?_; try exact True.intro)
  refine f26L (by omega) ?_
  (refine gw2 @h2 @lm ?_; try exact True.intro)
  refine wp_inv (I7 w xs H) xs.length ⟨0, _, _, _, _, [], rfl, rfl, by omega, rfl, .inl ⟨rfl, rfl, rfl⟩⟩ ?_
  rintro k st ⟨i, u5, u10, out, l, L, rfl, rfl, hi, hl, hc⟩
  unfold rblk
  by_cases hil : i < xs.length
  · have e1 : ((i : Int) < (xs.length : Int)) = True := by simp [hil]
    have g1 := ld_u64 hil
    have hll := chL_len (w := w.toNat) (xs := xs.take i)
    rw [← hl, List.length_take, Nat.min_eq_left (by omega)] at hll
    have hm : w.toNat * i ≤ 64 * 1000 := Nat.mul_le_mul hwn (by omega)
    have hbl := bl_len (w := w.toNat) (x := xs.getD i 0)
    have hnx := chL_next (w := w.toNat) hil
    rw [← hl] at hnx
    rcases hc with ⟨hi0, rfl, rfl⟩ | ⟨hi0, n, hnl, rfl, rfl⟩
    · (refine gw3 @e1 @g1 @lm ?_; try exact True.intro)
      refine f27 hg ?_
      have hl0 : l = [] := by rw [hl, hi0]; rfl
      rw [hl0, List.nil_append] at hnx
      (refine gw1 @hbl ?_; try exact True.intro)
      refine ⟨mb_kind, ?_⟩
      (repeat (refine And.intro (by omega) ?_))
      refine ⟨xs.length - (i + 1), by omega, i + 1, _, _, _, bl w.toNat (xs.getD i 0), _, rfl, rfl, by omega, hnx.symm, .inr ⟨by omega, _, hbl.symm, by rw [hi0], by rw [hi0]; rfl⟩⟩
    · unfold boB
      (refine gw3 @e1 @g1 @lm ?_; try exact True.intro)
      refine f27 hg ?_
      (refine gw1 @hbl ?_; try exact True.intro)
      refine ⟨mb_kind, ?_⟩
      (repeat (refine And.intro (by omega) ?_))
      rw [← List.map_append]
      refine ⟨xs.length - (i + 1), by omega, i + 1, _, _, _, _, _, rfl, rfl, by omega, hnx.symm, .inr ⟨by omega, _, by rw [List.length_append, hbl, hnl], rfl, rfl⟩⟩
  · have e1 : ((i : Int) < (xs.length : Int)) = False := by simp; omega
    have hie : i = xs.length := by omega
    rw [hie, List.take_of_length_le (Nat.le_refl _)] at hl
    have hll := chL_len (w := w.toNat) (xs := xs)
    rw [← hl] at hll
    rw [← hll, ← hl] at h
    have hm : w.toNat * xs.length ≤ 64 * 1000 := Nat.mul_le_mul hwn (by omega)
    rcases hc with ⟨hi0, rfl, rfl⟩ | ⟨hi0, n, hnl, rfl, rfl⟩
    · (refine gw1 @e1 ?_; try exact True.intro)
      have h0 : l.length = 0 := by rw [hll, ← hie, hi0, Nat.mul_zero]
      rw [h0] at h
      refine f28n (f := bfn l) ?_
      have hb0 := fun k => bnds_wdA (n := 0) (k := k) (f := bfn l)
      unfold vec at *
      (refine gw1 @hb0 ?_; try exact True.intro)
      exact h
    · unfold boB
      subst hnl
      (refine gw1 @e1 ?_; try exact True.intro)
      refine wpF_give1 (H.length + 1) 3 ?_
      have ht : List.take l.length (l.map AV.bool) = l.map AV.bool := by rw [List.take_of_length_le (by simp)]
      (refine gw1 @ht ?_; try exact True.intro)
      refine f28 (by omega) ?_
      have hb0 := fun k => bnds_wdA (n := l.length) (k := k) (f := bfn l)
      unfold vec at *
      (refine gw1 @hb0 ?_; try exact True.intro)
      exact h
end Go.Proofs.Ytajkclooknanjaa

end
