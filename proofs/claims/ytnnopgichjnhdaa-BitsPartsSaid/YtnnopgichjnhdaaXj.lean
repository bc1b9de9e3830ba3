/-
  Layer 2 (bits): bits one behind the other.
-/
import Derived.Test.YtnnopgichjnhdaaXq
import Derived.Test.YtnnopgichjnhdaaV38
open Go Go.V
namespace Go.Proofs.Ytnnopgichjnhdaa
set_option maxRecDepth 100000
set_option linter.unusedSimpArgs false
set_option linter.unusedVariables false
/-- trefoil/bits.Join (0:l, 2:, 3:, 4:n, 6:v, 7:out, 8:at, 10:v, 11:i, 12:x, 13:k, 14:r, 15:, 16:, 17:, 18:, 26:, 34:, 35:, 36:, 37:, 41:, 42:, 43:, 44:, 78:) -/
def s31 : FnS := ⟨98, [0, 2, 3, 4, 6, 7, 8, 10, 11, 12, 13, 14, 15, 16, 17, 18, 26, 34, 35, 36, 37, 41, 42, 43, 44, 78],
    (.seq (.reg [⟨.var 1, (.e (.alloc 26 (.st [.leaf, .leaf]) (.agg [(.int 0), .nils]))), [], none⟩,
      ⟨.var 2, (.q .mv), [.c (.int 0)], none⟩])
    (.seq (.reg [⟨.var 3, (.q .mv), [.c (.int 0)], none⟩])
    (.seq (.seq (.reg [⟨.var 12, (.q .mv), [.t 0], none⟩,
      ⟨.var 13, (.q .len), [.t 12], none⟩,
      ⟨.var 14, (.q .mv), [.c (.int 0)], none⟩])
    (.block 0 (.loop (.seq (.reg [⟨.var 15, (.q (.bin .lss)), [.t 14, .t 13], none⟩])
    (.seq (.cond (.t 15) .skip
    (.exit 0))
    (.seq (.block 1 (.seq (.reg [⟨.new, (.q (.iaS (.st [.leaf, .leaf]))), [.t 12, .t 14], none⟩,
      ⟨.new, (.q (.ld (.st [.leaf, .leaf]))), [.t 26], none⟩,
      ⟨.var 4, (.e (.alloc 26 (.st [.leaf, .leaf]) (.agg [(.int 0), .nils]))), [], none⟩,
      ⟨.none, (.e (.store (.st [.leaf, .leaf]))), [.t 4, .t 27], none⟩])
    (.seq (.reg [⟨.new, (.q .mv), [.t 3], none⟩,
      ⟨.new, (.q (.fa [.leaf, .leaf] 0)), [.t 4], none⟩,
      ⟨.new, (.q (.ld .leaf)), [.t 27], none⟩,
      ⟨.new, (.q (.bin .add)), [.t 26, .t 28], none⟩,
      ⟨.var 3, (.q .mv), [.t 29], none⟩])
    (.seq (.reg [⟨.new, (.q .mv), [.t 3], none⟩,
      ⟨.var 16, (.q (.bin .gtr)), [.t 26, .c (.int 4194304)], none⟩])
    (.cond (.t 16) (.seq (.reg [⟨.new, (.e (.bld (.st [.leaf, .leaf]) (.agg [(.int 0), .nils]) [])), [], none⟩,
      ⟨.none, (.e (.store (.st [.leaf, .leaf]))), [.t 1, .t 26], none⟩,
      ⟨.var 2, (.q .mv), [.c (.int 2)], none⟩])
    .ret)
    .skip)))))
    (.reg [⟨.new, (.q (.bin .add)), [.t 14, .c (.int 1)], none⟩,
      ⟨.var 14, (.q .mv), [.t 26], none⟩])))))))
    (.seq (.reg [⟨.new, (.q .mv), [.t 3], none⟩,
      ⟨.new, (.q .mv), [.t 3], none⟩,
      ⟨.new, (.call 36), [.t 27], none⟩,
      ⟨.new, (.e (.mksl 55 .leaf 8 (.u64 0))), [.t 28, .t 28], none⟩,
      ⟨.new, (.e (.bld (.st [.leaf, .leaf]) (.agg [(.int 0), .nils]) [0, 1])), [.t 26, .t 29], none⟩,
      ⟨.var 5, (.e (.alloc 26 (.st [.leaf, .leaf]) (.agg [(.int 0), .nils]))), [], none⟩,
      ⟨.none, (.e (.store (.st [.leaf, .leaf]))), [.t 5, .t 30], none⟩])
    (.seq (.reg [⟨.var 6, (.q .mv), [.c (.int 0)], none⟩])
    (.seq (.seq (.reg [⟨.var 17, (.q .mv), [.t 0], none⟩,
      ⟨.var 18, (.q .len), [.t 17], none⟩,
      ⟨.var 19, (.q .mv), [.c (.int 0)], none⟩])
    (.block 2 (.loop (.seq (.reg [⟨.var 20, (.q (.bin .lss)), [.t 19, .t 18], none⟩])
    (.seq (.cond (.t 20) .skip
    (.exit 2))
    (.seq (.block 3 (.seq (.reg [⟨.new, (.q (.iaS (.st [.leaf, .leaf]))), [.t 17, .t 19], none⟩,
      ⟨.new, (.q (.ld (.st [.leaf, .leaf]))), [.t 26], none⟩,
      ⟨.var 7, (.e (.alloc 26 (.st [.leaf, .leaf]) (.agg [(.int 0), .nils]))), [], none⟩,
      ⟨.none, (.e (.store (.st [.leaf, .leaf]))), [.t 7, .t 27], none⟩])
    (.seq (.seq (.reg [⟨.new, (.q (.fa [.leaf, .leaf] 1)), [.t 7], none⟩,
      ⟨.var 21, (.q (.ld .leaf)), [.t 26], none⟩,
      ⟨.var 22, (.q .len), [.t 21], none⟩,
      ⟨.var 23, (.q .mv), [.c (.int 0)], none⟩])
    (.block 4 (.loop (.seq (.reg [⟨.var 24, (.q (.bin .lss)), [.t 23, .t 22], none⟩])
    (.seq (.cond (.t 24) .skip
    (.exit 4))
    (.seq (.block 5 (.seq (.reg [⟨.new, (.q .mv), [.t 23], none⟩,
      ⟨.new, (.q (.iaS .leaf)), [.t 21, .t 23], none⟩,
      ⟨.new, (.q (.ld .leaf)), [.t 27], none⟩,
      ⟨.var 8, (.q .mv), [.t 26], none⟩,
      ⟨.var 9, (.q .mv), [.t 28], none⟩])
    (.seq (.reg [⟨.new, (.q .mv), [.t 6], none⟩,
      ⟨.new, (.q .mv), [.t 8], none⟩,
      ⟨.new, (.q (.bin .mul)), [.c (.int 64), .t 27], none⟩,
      ⟨.new, (.q (.bin .add)), [.t 26, .t 28], none⟩,
      ⟨.new, (.q (.bin .quo)), [.t 29, .c (.int 64)], none⟩,
      ⟨.new, (.q .mv), [.t 6], none⟩,
      ⟨.new, (.q .mv), [.t 8], none⟩,
      ⟨.new, (.q (.bin .mul)), [.c (.int 64), .t 32], none⟩,
      ⟨.new, (.q (.bin .add)), [.t 31, .t 33], none⟩,
      ⟨.new, (.q (.bin .rem)), [.t 34, .c (.int 64)], none⟩,
      ⟨.new, (.q (.cv .u64)), [.t 35], none⟩,
      ⟨.var 10, (.q .mv), [.t 30], none⟩,
      ⟨.var 11, (.q .mv), [.t 36], none⟩])
    (.seq (.reg [⟨.new, (.q (.fa [.leaf, .leaf] 1)), [.t 5], none⟩,
      ⟨.new, (.q (.ld .leaf)), [.t 26], none⟩,
      ⟨.new, (.q .mv), [.t 10], none⟩,
      ⟨.new, (.q (.iaS .leaf)), [.t 27, .t 28], none⟩,
      ⟨.new, (.q (.ld .leaf)), [.t 29], none⟩,
      ⟨.new, (.q .mv), [.t 9], none⟩,
      ⟨.new, (.q .mv), [.t 11], none⟩,
      ⟨.new, (.q (.bin .shl)), [.t 31, .t 32], none⟩,
      ⟨.new, (.q (.bin .or)), [.t 30, .t 33], none⟩,
      ⟨.new, (.q (.iaS .leaf)), [.t 27, .t 28], none⟩,
      ⟨.none, (.e (.store .leaf)), [.t 35, .t 34], none⟩])
    (.seq (.reg [⟨.new, (.q .mv), [.t 11], none⟩,
      ⟨.new, (.q (.bin .gtr)), [.t 26, .c (.u64 0)], none⟩,
      ⟨.new, (.q .mv), [.t 27], none⟩,
      ⟨.new, (.q .mv), [.t 10], (some (28, true))⟩,
      ⟨.new, (.q (.bin .add)), [.t 29, .c (.int 1)], (some (28, true))⟩,
      ⟨.new, (.q (.fa [.leaf, .leaf] 1)), [.t 5], (some (28, true))⟩,
      ⟨.new, (.q (.ld .leaf)), [.t 31], (some (28, true))⟩,
      ⟨.new, (.q .len), [.t 32], (some (28, true))⟩,
      ⟨.new, (.q (.bin .lss)), [.t 30, .t 33], (some (28, true))⟩,
      ⟨.var 25, (.q .pick), [.t 28, .t 34, .c (.bool false)], none⟩])
    (.cond (.t 25) (.reg [⟨.new, (.q (.fa [.leaf, .leaf] 1)), [.t 5], none⟩,
      ⟨.new, (.q (.ld .leaf)), [.t 26], none⟩,
      ⟨.new, (.q .mv), [.t 10], none⟩,
      ⟨.new, (.q (.bin .add)), [.t 28, .c (.int 1)], none⟩,
      ⟨.new, (.q (.iaS .leaf)), [.t 27, .t 29], none⟩,
      ⟨.new, (.q (.ld .leaf)), [.t 30], none⟩,
      ⟨.new, (.q .mv), [.t 9], none⟩,
      ⟨.new, (.q .mv), [.t 11], none⟩,
      ⟨.new, (.q (.bin .sub)), [.c (.u64 64), .t 33], none⟩,
      ⟨.new, (.q (.bin .shr)), [.t 32, .t 34], none⟩,
      ⟨.new, (.q (.bin .or)), [.t 31, .t 35], none⟩,
      ⟨.new, (.q (.iaS .leaf)), [.t 27, .t 29], none⟩,
      ⟨.none, (.e (.store .leaf)), [.t 37, .t 36], none⟩])
    .skip))))))
    (.reg [⟨.new, (.q (.bin .add)), [.t 23, .c (.int 1)], none⟩,
      ⟨.var 23, (.q .mv), [.t 26], none⟩])))))))
    (.reg [⟨.new, (.q .mv), [.t 6], none⟩,
      ⟨.new, (.q (.fa [.leaf, .leaf] 0)), [.t 7], none⟩,
      ⟨.new, (.q (.ld .leaf)), [.t 27], none⟩,
      ⟨.new, (.q (.bin .add)), [.t 26, .t 28], none⟩,
      ⟨.var 6, (.q .mv), [.t 29], none⟩]))))
    (.reg [⟨.new, (.q (.bin .add)), [.t 19, .c (.int 1)], none⟩,
      ⟨.var 19, (.q .mv), [.t 26], none⟩])))))))
    (.seq (.reg [⟨.new, (.q (.ld (.st [.leaf, .leaf]))), [.t 5], none⟩,
      ⟨.none, (.e (.store (.st [.leaf, .leaf]))), [.t 1, .t 26], none⟩,
      ⟨.var 2, (.q .mv), [.c (.int 0)], none⟩])
    .ret))))))),
    [.cell 1 (.st [.leaf, .leaf]), .t 2]⟩

theorem c31 : cF P [] (drP P []) 31 1 s31.vm = some s31 := by kernel_rfl
/-- how many bits lists of bits have, and which -/
def tot : List (Nat × (Nat → Bool)) → Nat
  | [] => 0
  | v :: r => v.1 + tot r
def jn : List (Nat × (Nat → Bool)) → Nat → Bool
  | [], _ => false
  | v :: r, i => if i < v.1 then v.2 i else jn r (i - v.1)
theorem tot_snoc {v : Nat × (Nat → Bool)} : ∀ {r : List (Nat × (Nat → Bool))}, tot (r ++ [v]) = tot r + v.1
  | [] => by simp [tot]
  | w :: r => by simp only [List.cons_append, tot, tot_snoc (r := r)]; omega
theorem jn_out : ∀ {r : List (Nat × (Nat → Bool))} {i : Nat}, tot r ≤ i → jn r i = false
  | [], i, _ => rfl
  | w :: r, i, h => by
    simp only [tot] at h
    simp only [jn]
    rw [if_neg (by omega)]
    exact jn_out (by omega)
theorem jn_snoc {v : Nat × (Nat → Bool)} : ∀ {r : List (Nat × (Nat → Bool))} {i : Nat}, jn (r ++ [v]) i = if i < tot r then jn r i else if i < tot r + v.1 then v.2 (i - tot r) else false
  | [], i => by simp [jn, tot]
  | w :: r, i => by
    show (if i < w.1 then w.2 i else jn (r ++ [v]) (i - w.1)) = if i < w.1 + tot r then (if i < w.1 then w.2 i else jn r (i - w.1)) else if i < w.1 + tot r + v.1 then v.2 (i - (w.1 + tot r)) else false
    rw [jn_snoc (r := r)]
    by_cases h : i < w.1
    · rw [if_pos h, if_pos (show i < w.1 + tot r by omega), if_pos h]
    · rw [if_neg h]
      by_cases h2 : i - w.1 < tot r
      · rw [if_pos h2, if_pos (show i < w.1 + tot r by omega), if_neg h]
      · rw [if_neg h2, if_neg (show ¬ i < w.1 + tot r by omega)]
        by_cases h3 : i - w.1 < tot r + v.1
        · rw [if_pos h3, if_pos (show i < w.1 + tot r + v.1 by omega), Nat.sub_sub]
        · rw [if_neg h3, if_neg (show ¬ i < w.1 + tot r + v.1 by omega)]

/-- some words of the next bits were put behind -/
def mid (a w : Nat) (g f : Nat → Bool) (b : Nat) : Bool := if b < a then g b else (decide (b < a + 64 * w) && f (b - a))
theorem mid_zero {a : Nat} {g f : Nat → Bool} (hg : ∀ i, a ≤ i → g i = false) : mid a 0 g f = g := by
  funext b; unfold mid
  by_cases h : b < a
  · rw [if_pos h]
  · rw [if_neg h, hg b (by omega)]; simp; intro h2; omega
theorem mid_end {r : List (Nat × (Nat → Bool))} {n : Nat} {f : Nat → Bool} (hf : ∀ i, n ≤ i → f i = false) : mid (tot r) (nw n) (jn r) f = jn (r ++ [(n, f)]) := by
  funext b
  rw [jn_snoc]
  unfold mid
  by_cases h : b < tot r
  · rw [if_pos h, if_pos h]
  · rw [if_neg h, if_neg h]
    by_cases h2 : b < tot r + n
    · have : b < tot r + 64 * nw n := by unfold nw; omega
      rw [if_pos h2]; simp [this]
    · rw [if_neg h2, hf _ (by show n ≤ b - tot r; omega)]; simp
theorem wd_mid {a w : Nat} {g f : Nat → Bool} (q : Nat) : wd (mid a (w + 1) g f) q =
    if q = (a + 64 * w) / 64 then wd (mid a w g f) q ||| wd f w <<< ((a + 64 * w) % 64) else if q = (a + 64 * w) / 64 + 1 ∧ 0 < (a + 64 * w) % 64 then wd (mid a w g f) q ||| wd f w >>> (64 - (a + 64 * w) % 64) else wd (mid a w g f) q := by
  symm
  apply wd_of
  intro j hj
  have hm : ∀ b, mid a (w + 1) g f b = if b < a + 64 * w then mid a w g f b else (decide (b < a + 64 * w + 64) && f (b - a)) := by
    intro b
    unfold mid
    by_cases h : b < a
    · rw [if_pos h, if_pos (by omega), if_pos h]
    · rw [if_neg h]
      by_cases h2 : b < a + 64 * w
      · have h3 : b < a + 64 * (w + 1) := by omega
        rw [if_pos h2, if_neg h]; simp [h2, h3]
      · rw [if_neg h2]
        have h3 : (b < a + 64 * (w + 1)) ↔ (b < a + 64 * w + 64) := by omega
        simp [h3]
  have hz : ∀ b, a + 64 * w ≤ b → mid a w g f b = false := by
    intro b hb
    unfold mid
    rw [if_neg (by omega)]
    have : ¬ b < a + 64 * w := by omega
    simp [this]
  rw [hm]
  obtain ⟨k, r, hr, hkr, e1, e2⟩ : ∃ k r, r < 64 ∧ a + 64 * w = 64 * k + r ∧ (a + 64 * w) / 64 = k ∧ (a + 64 * w) % 64 = r := ⟨_, _, Nat.mod_lt _ (by omega), (Nat.div_add_mod _ 64).symm, rfl, rfl⟩
  rw [e1, e2]
  split
  · rename_i hq
    rw [BitVec.getLsbD_or, wd_bit hj, BitVec.getLsbD_shiftLeft]
    by_cases h1 : 64 * q + j < a + 64 * w
    · have h2 : j < r := by omega
      rw [if_pos h1]; simp [h2]
    · have h2 : ¬ j < r := by omega
      have h3 : 64 * q + j < a + 64 * w + 64 := by omega
      rw [if_neg h1, hz _ (by omega), wd_bit (by omega), show 64 * w + (j - r) = 64 * q + j - a by omega]
      simp [h2, h3, hj]
  · rename_i hq
    split
    · rename_i hq2
      rw [BitVec.getLsbD_or, wd_bit hj, BitVec.getLsbD_ushiftRight, hz _ (by omega), if_neg (by omega)]
      by_cases h3 : 64 * q + j < a + 64 * w + 64
      · rw [wd_bit (by omega), show 64 * w + (64 - r + j) = 64 * q + j - a by omega]
        simp [h3]
      · rw [BitVec.getLsbD_of_ge _ _ (by omega)]
        simp [h3]
    · rename_i hq2
      rw [wd_bit hj]
      by_cases h1 : 64 * q + j < a + 64 * w
      · rw [if_pos h1]
      · have h3 : ¬ 64 * q + j < a + 64 * w + 64 := by omega
        rw [if_neg h1, hz _ (by omega)]; simp [h3]
theorem wdA_mid1 {N a w : Nat} {g f : Nat → Bool} (h : ¬ (0 < (a + 64 * w) % 64 ∧ (a + 64 * w) / 64 + 1 < nw N)) : (wdA N (mid a w g f)).set ((a + 64 * w) / 64) (.u64 (wd (mid a w g f) ((a + 64 * w) / 64) ||| wd f w <<< ((a + 64 * w) % 64))) = wdA N (mid a (w + 1) g f) := by
  unfold wdA
  rw [rng_set]
  apply rng_congr
  intro q hq
  rw [wd_mid q]
  by_cases h1 : q = (a + 64 * w) / 64
  · subst h1; simp
  · rw [if_neg h1, if_neg h1, if_neg (fun h2 => h ⟨h2.2, by omega⟩)]
theorem wdA_mid2 {N a w : Nat} {g f : Nat → Bool} (h : 0 < (a + 64 * w) % 64 ∧ (a + 64 * w) / 64 + 1 < nw N) : ((wdA N (mid a w g f)).set ((a + 64 * w) / 64) (.u64 (wd (mid a w g f) ((a + 64 * w) / 64) ||| wd f w <<< ((a + 64 * w) % 64)))).set ((a + 64 * w) / 64 + 1)
    (.u64 (wd (mid a w g f) ((a + 64 * w) / 64 + 1) ||| wd f w >>> (64 - (a + 64 * w) % 64))) = wdA N (mid a (w + 1) g f) := by
  unfold wdA
  rw [rng_set, rng_set]
  apply rng_congr
  intro q hq
  rw [wd_mid q]
  by_cases h1 : q = (a + 64 * w) / 64
  · subst h1; simp
  · by_cases h2 : q = (a + 64 * w) / 64 + 1
    · subst h2
      rw [if_pos rfl, if_neg h1, if_pos ⟨rfl, h.1⟩]
    · rw [if_neg h2, if_neg h1, if_neg h1, if_neg (fun h3 => h2 h3.1)]

def vl (vs : List (Nat × (Nat → Bool))) : List AV := vs.map fun v => vec v.1 v.2
theorem vl_get {vs : List (Nat × (Nat → Bool))} {i : Nat} (h : i < vs.length) : (vl vs).getD i .un = .agg [.int ((vs.getD i (0, fun _ => false)).1 : Nat), .ro .leaf (wdA (vs.getD i (0, fun _ => false)).1 (vs.getD i (0, fun _ => false)).2)] := by
  simp [vl, List.getD_eq_getElem?_getD, List.getElem?_eq_getElem h, vec]
theorem take_get {vs : List (Nat × (Nat → Bool))} {i : Nat} (h : i < vs.length) : vs.take (i + 1) = vs.take i ++ [vs.getD i (0, fun _ => false)] := by
  rw [List.take_add_one]
  simp [List.getD_eq_getElem?_getD, List.getElem?_eq_getElem h]
theorem tot_le : ∀ (r s : List (Nat × (Nat → Bool))), tot r ≤ tot (r ++ s)
  | [], s => by simp [tot]
  | v :: r, s => by simp only [List.cons_append, tot]; have := tot_le r s; omega
theorem tot_take {vs : List (Nat × (Nat → Bool))} (i : Nat) : tot (vs.take i) ≤ tot vs := by
  have := tot_le (vs.take i) (vs.drop i)
  rwa [List.take_append_drop] at this
def vS : Shape := .st [.leaf, .leaf]
def I31 (vs : List (Nat × (Nat → Bool))) (H : Heap) (k : Nat) (st : St) : Prop :=
  ∃ (i : Nat) (J : Heap) (u1 u2 u3 : AV), st = ⟨[.ro vS (vl vs), .ptr H.length 0 [0] vS, .int 0, .int (tot (vs.take i) : Nat), u1, .un, .un, .un, .un, .un, .un, .un, .ro vS (vl vs), .int vs.length, .int (i : Int), u2, u3, .un, .un, .un, .un, .un, .un, .un, .un, .un],
    H ++ rblk :: J⟩ ∧ k = vs.length - i ∧ i ≤ vs.length
def jblk (N q : Nat) : Option Blk := some ⟨26, 0, false, .arr 1 (.st [.leaf, .leaf]), .agg [.agg [.int (N : Int), .own q 0 [] 0 (nw N) .leaf]]⟩
def I31b (vs : List (Nat × (Nat → Bool))) (H J : Heap) (u1 u3 : AV) (k : Nat) (st : St) : Prop :=
  ∃ (j : Nat) (J2 : Heap) (u7 u8 u9 u10 u11 u20 u21 u22 u23 u24 u25 : AV), st = ⟨[.ro vS (vl vs), .ptr H.length 0 [0] vS, .int 0, .int (tot vs : Nat), u1, .ptr (H.length + (J.length + 1 + 1)) 0 [0] vS, .int (tot (vs.take j) : Nat), u7, u8, u9, u10, u11, .ro vS (vl vs), .int vs.length, .int vs.length, .bool false, u3,
    .ro vS (vl vs), .int vs.length, .int (j : Int), u20, u21, u22, u23, u24, u25],
    H ++ rblk :: (J ++ wblk (tot vs) (jn (vs.take j)) :: jblk (tot vs) (H.length + (J.length + 1)) :: J2)⟩ ∧ k = vs.length - j ∧ j ≤ vs.length
def I31c (vs : List (Nat × (Nat → Bool))) (H J J2 : Heap) (u1 u3 u7 : AV) (j a n : Nat) (g f : Nat → Bool) (k : Nat) (st : St) : Prop :=
  ∃ (w : Nat) (u8 u9 u10 u11 u24 u25 : AV), st = ⟨[.ro vS (vl vs), .ptr H.length 0 [0] vS, .int 0, .int (tot vs : Nat), u1, .ptr (H.length + (J.length + 1 + 1)) 0 [0] vS, .int (a : Nat), u7, u8, u9, u10, u11, .ro vS (vl vs), .int vs.length, .int vs.length, .bool false, u3,
    .ro vS (vl vs), .int vs.length, .int (j : Int), .bool true, .ro .leaf (wdA n f), .int (nw n : Nat), .int (w : Int), u24, u25],
    H ++ rblk :: (J ++ wblk (tot vs) (mid a w g f) :: jblk (tot vs) (H.length + (J.length + 1)) :: J2)⟩ ∧ k = nw n - w ∧ w ≤ nw n
set_option maxHeartbeats 1000000 in
theorem f31 {K : AV → Heap → Prop} {H : Heap} {vs : List (Nat × (Nat → Bool))} (ht : tot vs ≤ 4194304) (hv : ∀ v ∈ vs, ∀ i, v.1 ≤ i → v.2 i = false) (h : K (.tup [vec (tot vs) (jn vs), .int 0]) H) : wpF P [] 31 [.ro (.st [.leaf, .leaf]) (vl vs)] H K := by
  refine wpF_go c31 rfl 4 ?_
  intro hA hb
  have hvl : (vl vs).length = vs.length := by simp [vl]
  have hlen : (vs.length : Int) ≤ 9223372036854775807 := by have := (hA (.ro (.st [.leaf, .leaf]) (vl vs)) (by simp)).2.1; rw [hvl] at this; simp [maxLen] at this; omega
  simp only [s31]
  (refine gw1 @hvl ?_; try exact True.intro)
  refine wp_inv (I31 vs H) vs.length ⟨0, [], _, _, _, rfl, rfl, by omega⟩ ?_
  rintro k st ⟨i, J, u1, u2, u3, rfl, rfl, hi⟩
  unfold rblk vS
  by_cases hil : i < vs.length
  · have t1 : ((i : Int) < (vs.length : Int)) = True := by simp; omega
    have g := vl_get hil
    have htk := take_get hil
    have hsum : ((tot (vs.take i) : Nat) : Int) + ((vs.getD i (0, fun _ => false)).1 : Nat) = ((tot (vs.take (i + 1)) : Nat) : Int) := by rw [htk, tot_snoc]; omega
    have hle := tot_take (vs := vs) (i + 1)
    have t2 : ((4194304 : Int) < ((tot (vs.take (i + 1)) : Nat) : Int)) = False := by simp; omega
    (refine gw5 @t1 @hvl @g @hsum @t2 ?_; try exact True.intro)
    (repeat (refine And.intro (by omega) ?_))
    exact ⟨vs.length - (i + 1), by omega, i + 1, _, _, _, _, rfl, rfl, by omega⟩
  · have t1 : ((i : Int) < (vs.length : Int)) = False := by simp; omega
    have hie : i = vs.length := by omega
    subst hie
    have htk : vs.take vs.length = vs := List.take_length
    rw [htk]
    (refine gw2 @t1 @hvl ?_; try exact True.intro)
    refine f36 (by omega) ?_
    have hnw : nw (tot vs) ≤ 4194304 := by unfold nw; omega
    (refine gw1 @hvl ?_; try exact True.intro)
    (repeat (refine And.intro (by omega) ?_))
    rw [zero_wdA]
    refine wp_inv (I31b vs H J u1 u3) vs.length ⟨0, [], _, _, _, _, _, _, _, _, _, _, _, rfl, rfl, by omega⟩ ?_
    rintro k st ⟨j, J2, u7, u8, u9, u10, u11, u20, u21, u22, u23, u24, u25, rfl, rfl, hj⟩
    unfold rblk vS wblk jblk
    by_cases hjl : j < vs.length
    · have t1 : ((j : Int) < (vs.length : Int)) = True := by simp; omega
      have g := vl_get hjl
      have htk := take_get hjl
      have hmem : vs.getD j (0, fun _ => false) ∈ vs := by
        rw [List.getD_eq_getElem?_getD, List.getElem?_eq_getElem hjl]; exact List.getElem_mem hjl
      have hnrm := hv _ hmem
      have hle := tot_take (vs := vs) (j + 1)
      rw [htk, tot_snoc] at hle
      generalize hvj : vs.getD j (0, fun _ => false) = v at g htk hmem hnrm hle
      obtain ⟨n, f⟩ := v
      simp only at g hnrm hle
      have hlw : (wdA n f).length = nw n := wdA_len
      (refine gw4 @t1 @hvl @g @hlw ?_; try exact True.intro)
      refine wp_inv (I31c vs H J (J2 ++ [bxv n f]) u1 u3 (.ptr (H.length + (J.length + (J2.length + 1 + 1) + 1)) 0 [0] vS) j (tot (vs.take j)) n (jn (vs.take j)) f) (nw n) ⟨0, _, _, _, _, _, _, by rw [mid_zero fun i hi => jn_out hi]; rfl, rfl, by omega⟩ ?_
      rintro k2 st2 ⟨w, v8, v9, v10, v11, v24, v25, rfl, rfl, hw⟩
      unfold rblk vS wblk jblk bxv
      by_cases hwl : w < nw n
      · have s1 : ((w : Int) < (nw n : Int)) = True := by simp; omega
        have gw : (wdA n f).getD w .un = .u64 (wd f w) := ld_rng hwl
        obtain ⟨a, hadef⟩ : ∃ a, a = tot (vs.take j) := ⟨_, rfl⟩
        obtain ⟨gg, hgdef⟩ : ∃ gg, gg = jn (vs.take j) := ⟨_, rfl⟩
        have hmid1 := @wdA_mid1 (tot vs) a w gg f
        have hmid2 := @wdA_mid2 (tot vs) a w gg f
        rw [← hadef] at hle ⊢
        rw [← hgdef]
        have h64 : 64 * w < n := by unfold nw at hwl; omega
        have eI : ((a : Nat) : Int) + 64 * (w : Int) = ((a + 64 * w : Nat) : Int) := by omega
        obtain ⟨p, hp⟩ : ∃ p, p = a + 64 * w := ⟨_, rfl⟩
        rw [← hp] at hmid1 hmid2 eI
        have hd := tdiv64 p
        have hm := tmod64 p
        have hs := sh64 p
        have hpN : p / 64 < nw (tot vs) := by unfold nw; omega
        have g1 : (wdA (tot vs) (mid a w gg f)).getD (p / 64) .un = .u64 (wd (mid a w gg f) (p / 64)) := ld_rng hpN
        have hget := lget_at (ps := wdA (tot vs) (mid a w gg f)) (i := p / 64) (by rw [wdA_len]; exact hpN)
        have hgt : ((0 : BitVec 64) < BitVec.ofInt 64 ((p % 64 : Nat) : Int)) = (0 < p % 64) := by
          rw [BitVec.lt_def, hs]; rfl
        have hsub : ((64 : BitVec 64) - BitVec.ofInt 64 ((p % 64 : Nat) : Int)).toNat = 64 - p % 64 := by
          rw [BitVec.toNat_sub, hs]
          have : (64 : BitVec 64).toNat = 64 := rfl
          rw [this]; omega
        have hi1 : ((p / 64 : Nat) : Int) + 1 = ((p / 64 + 1 : Nat) : Int) := by omega
        by_cases h2 : 0 < p % 64
        · have t2 : (0 < p % 64) = True := eq_true h2
          by_cases h3 : p / 64 + 1 < nw (tot vs)
          · have t3 : (((p / 64 + 1 : Nat) : Int) < (nw (tot vs) : Int)) = True := by simp; omega
            have hm2 := hmid2 ⟨h2, h3⟩
            obtain ⟨X, hX⟩ : ∃ X, X = (wdA (tot vs) (mid a w gg f)).set (p / 64) (.u64 (wd (mid a w gg f) (p / 64) ||| wd f w <<< (p % 64))) := ⟨_, rfl⟩
            rw [← hX] at hm2
            have hXl : X.length = nw (tot vs) := by rw [hX, List.length_set, wdA_len]
            have g2 : X.getD (p / 64 + 1) .un = .u64 (wd (mid a w gg f) (p / 64 + 1)) := by
              rw [hX, List.getD_eq_getElem?_getD, List.getElem?_set_ne (by omega), ← List.getD_eq_getElem?_getD]
              exact ld_rng h3
            have hget2 := lget_at (ps := X) (i := p / 64 + 1) (by rw [hXl]; exact h3)
            (refine gw11 @s1 @gw @eI @hd @hm @hs @g1 @hget @hgt @t2 @hi1 ?_; try exact True.intro)
            rw [← hX]
            (repeat (refine And.intro (by omega) ?_))
            (refine gw5 @t3 @g2 @hget2 @hsub @hi1 ?_; try exact True.intro)
            rw [hm2]
            (repeat (refine And.intro (by omega) ?_))
            exact ⟨nw n - (w + 1), by omega, w + 1, _, _, _, _, _, _, rfl, rfl, by omega⟩
          · have t3 : (((p / 64 + 1 : Nat) : Int) < (nw (tot vs) : Int)) = False := by simp; omega
            have hm1 := hmid1 (fun x => h3 x.2)
            (refine gw12 @s1 @gw @eI @hd @hm @hs @g1 @hget @hgt @t2 @hi1 @t3 ?_; try exact True.intro)
            rw [hm1]
            (repeat (refine And.intro (by omega) ?_))
            exact ⟨nw n - (w + 1), by omega, w + 1, _, _, _, _, _, _, rfl, rfl, by omega⟩
        · have t2 : (0 < p % 64) = False := eq_false h2
          have hm1 := hmid1 (fun x => h2 x.1)
          (refine gw10 @s1 @gw @eI @hd @hm @hs @g1 @hget @hgt @t2 ?_; try exact True.intro)
          rw [hm1]
          (repeat (refine And.intro (by omega) ?_))
          exact ⟨nw n - (w + 1), by omega, w + 1, _, _, _, _, _, _, rfl, rfl, by omega⟩
      · have s1 : ((w : Int) < (nw n : Int)) = False := by simp; omega
        have hwe : w = nw n := by omega
        have hme := mid_end (r := vs.take j) hnrm
        rw [← htk] at hme
        have hsum : ((tot (vs.take j) : Nat) : Int) + (n : Nat) = ((tot (vs.take (j + 1)) : Nat) : Int) := by rw [htk, tot_snoc]; omega
        subst hwe
        rw [hme]
        (refine gw2 @s1 @hsum ?_; try exact True.intro)
        (repeat (refine And.intro (by omega) ?_))
        exact ⟨vs.length - (j + 1), by omega, j + 1, _, _, _, _, _, _, _, _, _, _, _, _, rfl, rfl, by omega⟩
    · have t1 : ((j : Int) < (vs.length : Int)) = False := by simp; omega
      have hje : j = vs.length := by omega
      subst hje
      rw [htk]
      (refine gw3 @t1 @hvl @demA ?_; try exact True.intro)
      exact h
end Go.Proofs.Ytnnopgichjnhdaa
