/-
  Sixty-four words turned about in six rounds: what each round does, and what they do together. No program is in sight.
-/
import Derived.Test.YtebmlmkiblieiaaBm
import Derived.Test.YtebmlmkiblieiaaV38
open Go Go.V
namespace Go.V
set_option linter.unusedSimpArgs false
set_option linter.unusedVariables false
set_option maxRecDepth 100000

/-- one round: the s-bit of the number of a word and that of the number of a bit are swapped -/
def swp (s : Nat) (g : Nat → Nat → Bool) (i b : Nat) : Bool :=
  if i &&& s = 0 then (if b &&& s = 0 then g i b else g (i + s) (b - s)) else (if b &&& s = 0 then g (i - s) (b + s) else g i b)
/-- what is done of a round when t words have been looked at -/
def swt (s t : Nat) (g : Nat → Nat → Bool) (i b : Nat) : Bool :=
  if (if i &&& s = 0 then i < t else i - s < t) then swp s g i b else g i b
/-- the words -/
def sqA (g : Nat → Nat → Bool) : List AV := (List.range 64).map fun i => .u64 (wd (g i) 0)
theorem sqA_len {g : Nat → Nat → Bool} : (sqA g).length = 64 := by simp [sqA]
theorem sqA_get {g : Nat → Nat → Bool} {i : Nat} (h : i < 64) : (sqA g).getD i .un = .u64 (wd (g i) 0) := ld_rng h
theorem sqA_at {g : Nat → Nat → Bool} {i : Nat} (h : i < 64) : (sqA g)[i]? = some (.u64 (wd (g i) 0)) := by
  unfold sqA; rw [List.getElem?_map, List.getElem?_range h]; rfl

/-- the steps -/
def stp (s : Nat) : Prop := s = 32 ∨ s = 16 ∨ s = 8 ∨ s = 4 ∨ s = 2 ∨ s = 1
def stpM (s : Nat) : BitVec 64 := if s = 32 then 4294967295 else if s = 16 then 281470681808895 else if s = 8 then 71777214294589695 else if s = 4 then 1085102592571150095 else if s = 2 then 3689348814741910323 else 6148914691236517205
def okS (s : Nat) : Bool := (List.range 64).all fun i =>
  if i &&& s = 0 then decide (i + s < 64) && decide ((i + s) &&& s ≠ 0) && decide (i < s ∨ (i - s) &&& s ≠ 0) && (stpM s).getLsbD i
  else decide (s ≤ i) && decide ((i - s) &&& s = 0) && !(stpM s).getLsbD i
theorem okS_all {s : Nat} (h : stp s) : okS s = true := by
  rcases h with rfl | rfl | rfl | rfl | rfl | rfl <;> decide
theorem st0 {s i : Nat} (h : stp s) (hi : i < 64) (h0 : i &&& s = 0) : i + s < 64 ∧ (i + s) &&& s ≠ 0 ∧ (i < s ∨ (i - s) &&& s ≠ 0) ∧ (stpM s).getLsbD i = true := by
  have a := okS_all h
  unfold okS at a
  rw [List.all_eq_true] at a
  have b := a i (List.mem_range.2 hi)
  rw [if_pos h0] at b
  simp only [Bool.and_eq_true, decide_eq_true_eq] at b
  exact ⟨b.1.1.1, b.1.1.2, b.1.2, b.2⟩
theorem st1 {s i : Nat} (h : stp s) (hi : i < 64) (h0 : i &&& s ≠ 0) : s ≤ i ∧ (i - s) &&& s = 0 ∧ (stpM s).getLsbD i = false := by
  have a := okS_all h
  unfold okS at a
  rw [List.all_eq_true] at a
  have b := a i (List.mem_range.2 hi)
  rw [if_neg h0] at b
  simp only [Bool.and_eq_true, decide_eq_true_eq, Bool.not_eq_true'] at b
  exact ⟨b.1.1, b.1.2, b.2⟩
theorem st_pos {s : Nat} (h : stp s) : 1 ≤ s ∧ s ≤ 32 := by rcases h with rfl | rfl | rfl | rfl | rfl | rfl <;> decide

theorem swt_zero {s : Nat} {g : Nat → Nat → Bool} (h : ∀ i, i < 64 → i &&& s ≠ 0 → s ≤ i) : sqA (swt s 0 g) = sqA g := by
  unfold sqA
  refine List.map_congr_left fun i hi => ?_
  have : swt s 0 g i = g i := by
    funext b
    unfold swt
    rw [if_neg (by split <;> omega)]
  rw [this]
theorem swt_all {s : Nat} {g : Nat → Nat → Bool} : sqA (swt s 64 g) = sqA (swp s g) := by
  unfold sqA
  refine List.map_congr_left fun i hi => ?_
  have hi := List.mem_range.1 hi
  have : swt s 64 g i = swp s g i := by
    funext b
    unfold swt
    rw [if_pos (by split <;> omega)]
  rw [this]
theorem swt_skip {s t : Nat} {g : Nat → Nat → Bool} (h : stp s) (ht : t < 64) (h0 : t &&& s ≠ 0) : sqA (swt s (t + 1) g) = sqA (swt s t g) := by
  unfold sqA
  refine List.map_congr_left fun i hi => ?_
  have hi := List.mem_range.1 hi
  have : swt s (t + 1) g i = swt s t g i := by
    funext b
    unfold swt
    by_cases h1 : i &&& s = 0
    · have : i ≠ t := by intro e; subst e; exact h0 h1
      simp only [h1, if_true]
      by_cases h2 : i < t
      · rw [if_pos h2, if_pos (by omega)]
      · rw [if_neg h2, if_neg (by omega)]
    · have : i - s ≠ t := by intro e; subst e; exact h0 (st1 h hi h1).2.1
      simp only [h1, if_false]
      by_cases h2 : i - s < t
      · rw [if_pos h2, if_pos (by omega)]
      · rw [if_neg h2, if_neg (by omega)]
  rw [this]
theorem swt_a {s t : Nat} {g : Nat → Nat → Bool} (h0 : t &&& s = 0) : swt s t g t = g t := by
  funext b
  unfold swt
  rw [if_neg]
  rw [if_pos h0]; omega
theorem swt_b {s t : Nat} {g : Nat → Nat → Bool} (h : stp s) (ht : t < 64) (h0 : t &&& s = 0) : swt s t g (t + s) = g (t + s) := by
  funext b
  unfold swt
  rw [if_neg]
  rw [if_neg (st0 h ht h0).2.1]; omega

/-- what is swapped -/
def swx (s : Nat) (a b : BitVec 64) : BitVec 64 := (a >>> s ^^^ b) &&& stpM s
theorem swx_bit {s : Nat} {a b : BitVec 64} {k : Nat} : (swx s a b).getLsbD k = ((a.getLsbD (s + k) ^^ b.getLsbD k) && (stpM s).getLsbD k) := by
  unfold swx
  rw [BitVec.getLsbD_and, BitVec.getLsbD_xor, BitVec.getLsbD_ushiftRight]
theorem swx_lo {s t : Nat} {g : Nat → Nat → Bool} (h : stp s) (h0 : t &&& s = 0) : wd (g t) 0 ^^^ swx s (wd (g t) 0) (wd (g (t + s)) 0) <<< s = wd (swp s g t) 0 := by
  apply wd_of
  intro k hk
  have hp := st_pos h
  rw [BitVec.getLsbD_xor, BitVec.getLsbD_shiftLeft, swx_bit, wd_bit hk]
  unfold swp
  simp only [h0, if_true, Nat.mul_zero, Nat.zero_add]
  by_cases h1 : k &&& s = 0
  · have a := st0 h hk h1
    simp only [h1, if_true]
    by_cases h2 : k < s
    · simp [h2]
    · have c := a.2.2.1.resolve_left h2
      have d := (st1 h (i := k - s) (by omega) c).2.2
      simp [d]
  · have a := st1 h hk h1
    have d := (st0 h (i := k - s) (by omega) a.2.1).2.2.2
    have h2 : ¬ k < s := by omega
    have h3 : s + (k - s) = k := by omega
    rw [h3, wd_bit hk, wd_bit (by omega)]
    simp [h1, d, h2, hk]
theorem swx_hi {s t : Nat} {g : Nat → Nat → Bool} (h : stp s) (ht : t < 64) (h0 : t &&& s = 0) : wd (g (t + s)) 0 ^^^ swx s (wd (g t) 0) (wd (g (t + s)) 0) = wd (swp s g (t + s)) 0 := by
  apply wd_of
  intro k hk
  have hp := st_pos h
  have hb := (st0 h ht h0).2.1
  rw [BitVec.getLsbD_xor, swx_bit, wd_bit hk]
  unfold swp
  simp only [hb, if_false, Nat.mul_zero, Nat.zero_add]
  by_cases h1 : k &&& s = 0
  · have a := st0 h hk h1
    rw [wd_bit (by omega)]
    simp [h1, a.2.2.2, show t + s - s = t by omega, show s + k = k + s by omega]
    generalize g (t + s) k = p
    generalize g t (k + s) = q
    cases p <;> cases q <;> rfl
  · have a := st1 h hk h1
    simp [h1, a.2.2]
/-- the two words of a step -/
theorem sw_step {s t : Nat} {g : Nat → Nat → Bool} {x : BitVec 64} (h : stp s) (ht : t < 64) (h0 : t &&& s = 0) (hx : x = swx s (wd (g t) 0) (wd (g (t + s)) 0)) :
    ((sqA (swt s t g)).set t (.u64 (wd (g t) 0 ^^^ x <<< s))).set (t + s) (.u64 (wd (g (t + s)) 0 ^^^ x)) = sqA (swt s (t + 1) g) := by
  have hp := st_pos h
  have hb := st0 h ht h0
  rw [hx, swx_lo h h0, swx_hi h ht h0]
  unfold sqA
  rw [rng_set, rng_set]
  refine rng_congr fun i hi => ?_
  by_cases e1 : i = t + s
  · subst e1
    rw [if_pos rfl]
    have : swt s (t + 1) g (t + s) = swp s g (t + s) := by
      funext b
      unfold swt
      rw [if_pos]
      rw [if_neg hb.2.1]; omega
    rw [this]
  · rw [if_neg e1]
    by_cases e2 : i = t
    · subst e2
      rw [if_pos rfl]
      have : swt s (i + 1) g i = swp s g i := by
        funext b
        unfold swt
        rw [if_pos]
        rw [if_pos h0]; omega
      rw [this]
    · rw [if_neg e2]
      have : swt s (t + 1) g i = swt s t g i := by
        funext b
        unfold swt
        by_cases h1 : i &&& s = 0
        · simp only [h1, if_true]
          by_cases h2 : i < t
          · rw [if_pos h2, if_pos (by omega)]
          · rw [if_neg h2, if_neg (by omega)]
        · have := (st1 h hi h1).1
          simp only [h1, if_false]
          by_cases h2 : i - s < t
          · rw [if_pos h2, if_pos (by omega)]
          · rw [if_neg h2, if_neg (by omega)]
      rw [this]

/-- the six rounds -/
def six (g : Nat → Nat → Bool) : Nat → Nat → Bool := swp 1 (swp 2 (swp 4 (swp 8 (swp 16 (swp 32 g)))))
/-- where a bit comes from -/
def src (s : Nat) (p : Nat × Nat) : Nat × Nat :=
  if p.1 &&& s = 0 then (if p.2 &&& s = 0 then p else (p.1 + s, p.2 - s)) else (if p.2 &&& s = 0 then (p.1 - s, p.2 + s) else p)
theorem swp_src {s : Nat} {g : Nat → Nat → Bool} {p : Nat × Nat} : swp s g p.1 p.2 = g (src s p).1 (src s p).2 := by
  unfold swp src
  split <;> split <;> rfl
def src6 (p : Nat × Nat) : Nat × Nat := src 32 (src 16 (src 8 (src 4 (src 2 (src 1 p)))))
theorem src6_all : ((List.range 64).all fun i => (List.range 64).all fun b => decide (src6 (i, b) = (b, i))) = true := by decide
theorem six_turn {g : Nat → Nat → Bool} {i b : Nat} (hi : i < 64) (hb : b < 64) : six g i b = g b i := by
  have a := src6_all
  rw [List.all_eq_true] at a
  have a1 := a i (List.mem_range.2 hi)
  rw [List.all_eq_true] at a1
  have a2 := a1 b (List.mem_range.2 hb)
  rw [decide_eq_true_eq] at a2
  have e : six g i b = g (src6 (i, b)).1 (src6 (i, b)).2 := by
    unfold six src6
    rw [show swp 1 (swp 2 (swp 4 (swp 8 (swp 16 (swp 32 g))))) i b = swp 1 (swp 2 (swp 4 (swp 8 (swp 16 (swp 32 g))))) (i, b).1 (i, b).2 from rfl]
    rw [swp_src, swp_src, swp_src, swp_src, swp_src, swp_src]
  rw [e, a2]
theorem sqA_six {g : Nat → Nat → Bool} : sqA (six g) = sqA fun i b => g b i := by
  unfold sqA
  refine rng_congr fun i hi => ?_
  congr 1
  apply wd_congr
  intro j hj
  rw [six_turn hi (by omega)]
end Go.V
