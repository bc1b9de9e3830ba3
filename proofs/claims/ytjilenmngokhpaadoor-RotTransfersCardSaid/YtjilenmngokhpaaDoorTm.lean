/-
  Sixty-four words turned about in six rounds: what each round does, and what they do together. No program is in sight.
-/
import Derived.Test.YtjilenmngokhpaaDoorBm
import Derived.Test.YtjilenmngokhpaaDoorV38
import Derived.Test.YtjilenmngokhpaaDoorRk
import Derived.Test.YtjilenmngokhpaaDoorRg
import Derived.Test.YtjilenmngokhpaaDoorV44
section
open Go Go.V
namespace Go.V
set_option linter.unusedSimpArgs false
set_option linter.unusedVariables false
set_option maxRecDepth 100000

/-- one round: the s-bit of the number of a word and that of the number of a bit are swapped -/
def swp (s : Nat) (g : Nat → Nat → Bool) (i b : Nat) : Bool :=
  if i &&& s = 0 then (if b &&& s = 0 then g i b else g (i + s) (b - s)) else (if b &&& s = 0 then g (i - s) (b + s) else g i b)
/-- what is done of a round when t words have been looked at -/
def swt (s t : Nat) (g : Nat → Nat → Bool) (i b : Nat) : Bool :=
  if (if i &&& s = 0 then i < t else i - s < t) then swp s g i b else g i b
/-- the words -/
def sqA (g : Nat → Nat → Bool) : List AV := (List.range 64).map fun i => .u64 (wd (g i) 0)
theorem sqA_len {g : Nat → Nat → Bool} : (sqA g).length = 64 := by simp [sqA]
theorem sqA_get {g : Nat → Nat → Bool} {i : Nat} (h : i < 64) : (sqA g).getD i .un = .u64 (wd (g i) 0) := ld_rng h
theorem sqA_at {g : Nat → Nat → Bool} {i : Nat} (h : i < 64) : (sqA g)[i]? = some (.u64 (wd (g i) 0)) := by
  unfold sqA; rw [List.getElem?_map, List.getElem?_range h]; rfl

/-- the steps -/
def stp (s : Nat) : Prop := s = 32 ∨ s = 16 ∨ s = 8 ∨ s = 4 ∨ s = 2 ∨ s = 1
def stpM (s : Nat) : BitVec 64 := if s = 32 then 4294967295 else if s = 16 then 281470681808895 else if s = 8 then 71777214294589695 else if s = 4 then 1085102592571150095 else if s = 2 then 3689348814741910323 else 6148914691236517205
def okS (s : Nat) : Bool := (List.range 64).all fun i =>
  if i &&& s = 0 then decide (i + s < 64) && decide ((i + s) &&& s ≠ 0) && decide (i < s ∨ (i - s) &&& s ≠ 0) && (stpM s).getLsbD i
  else decide (s ≤ i) && decide ((i - s) &&& s = 0) && !(stpM s).getLsbD i
theorem okS_all {s : Nat} (h : stp s) : okS s = true := by
  rcases h with rfl | rfl | rfl | rfl | rfl | rfl <;> decide
theorem st0 {s i : Nat} (h : stp s) (hi : i < 64) (h0 : i &&& s = 0) : i + s < 64 ∧ (i + s) &&& s ≠ 0 ∧ (i < s ∨ (i - s) &&& s ≠ 0) ∧ (stpM s).getLsbD i = true := by
  have a := okS_all h
  unfold okS at a
  rw [List.all_eq_true] at a
  have b := a i (List.mem_range.2 hi)
  rw [if_pos h0] at b
  simp only [Bool.and_eq_true, decide_eq_true_eq] at b
  exact ⟨b.1.1.1, b.1.1.2, b.1.2, b.2⟩
theorem st1 {s i : Nat} (h : stp s) (hi : i < 64) (h0 : i &&& s ≠ 0) : s ≤ i ∧ (i - s) &&& s = 0 ∧ (stpM s).getLsbD i = false := by
  have a := okS_all h
  unfold okS at a
  rw [List.all_eq_true] at a
  have b := a i (List.mem_range.2 hi)
  rw [if_neg h0] at b
  simp only [Bool.and_eq_true, decide_eq_true_eq, Bool.not_eq_true'] at b
  exact ⟨b.1.1, b.1.2, b.2⟩
theorem st_pos {s : Nat} (h : stp s) : 1 ≤ s ∧ s ≤ 32 := by rcases h with rfl | rfl | rfl | rfl | rfl | rfl <;> decide

theorem swt_zero {s : Nat} {g : Nat → Nat → Bool} (h : ∀ i, i < 64 → i &&& s ≠ 0 → s ≤ i) : sqA (swt s 0 g) = sqA g := by
  unfold sqA
  refine List.map_congr_left fun i hi => ?_
  have : swt s 0 g i = g i := by
    funext b
    unfold swt
    rw [if_neg (by split <;> omega)]
  rw [this]
theorem swt_all {s : Nat} {g : Nat → Nat → Bool} : sqA (swt s 64 g) = sqA (swp s g) := by
  unfold sqA
  refine List.map_congr_left fun i hi => ?_
  have hi := List.mem_range.1 hi
  have : swt s 64 g i = swp s g i := by
    funext b
    unfold swt
    rw [if_pos (by split <;> omega)]
  rw [this]
theorem swt_skip {s t : Nat} {g : Nat → Nat → Bool} (h : stp s) (ht : t < 64) (h0 : t &&& s ≠ 0) : sqA (swt s (t + 1) g) = sqA (swt s t g) := by
  unfold sqA
  refine List.map_congr_left fun i hi => ?_
  have hi := List.mem_range.1 hi
  have : swt s (t + 1) g i = swt s t g i := by
    funext b
    unfold swt
    by_cases h1 : i &&& s = 0
    · have : i ≠ t := by intro e; subst e; exact h0 h1
      simp only [h1, if_true]
      by_cases h2 : i < t
      · rw [if_pos h2, if_pos (by omega)]
      · rw [if_neg h2, if_neg (by omega)]
    · have : i - s ≠ t := by intro e; subst e; exact h0 (st1 h hi h1).2.1
      simp only [h1, if_false]
      by_cases h2 : i - s < t
      · rw [if_pos h2, if_pos (by omega)]
      · rw [if_neg h2, if_neg (by omega)]
  rw [this]
theorem swt_a {s t : Nat} {g : Nat → Nat → Bool} (h0 : t &&& s = 0) : swt s t g t = g t := by
  funext b
  unfold swt
  rw [if_neg]
  rw [if_pos h0]; omega
theorem swt_b {s t : Nat} {g : Nat → Nat → Bool} (h : stp s) (ht : t < 64) (h0 : t &&& s = 0) : swt s t g (t + s) = g (t + s) := by
  funext b
  unfold swt
  rw [if_neg]
  rw [if_neg (st0 h ht h0).2.1]; omega

/-- what is swapped -/
def swx (s : Nat) (a b : BitVec 64) : BitVec 64 := (a >>> s ^^^ b) &&& stpM s
theorem swx_bit {s : Nat} {a b : BitVec 64} {k : Nat} : (swx s a b).getLsbD k = ((a.getLsbD (s + k) ^^ b.getLsbD k) && (stpM s).getLsbD k) := by
  unfold swx
  rw [BitVec.getLsbD_and, BitVec.getLsbD_xor, BitVec.getLsbD_ushiftRight]
theorem swx_lo {s t : Nat} {g : Nat → Nat → Bool} (h : stp s) (h0 : t &&& s = 0) : wd (g t) 0 ^^^ swx s (wd (g t) 0) (wd (g (t + s)) 0) <<< s = wd (swp s g t) 0 := by
  apply wd_of
  intro k hk
  have hp := st_pos h
  rw [BitVec.getLsbD_xor, BitVec.getLsbD_shiftLeft, swx_bit, wd_bit hk]
  unfold swp
  simp only [h0, if_true, Nat.mul_zero, Nat.zero_add]
  by_cases h1 : k &&& s = 0
  · have a := st0 h hk h1
    simp only [h1, if_true]
    by_cases h2 : k < s
    · simp [h2]
    · have c := a.2.2.1.resolve_left h2
      have d := (st1 h (i := k - s) (by omega) c).2.2
      simp [d]
  · have a := st1 h hk h1
    have d := (st0 h (i := k - s) (by omega) a.2.1).2.2.2
    have h2 : ¬ k < s := by omega
    have h3 : s + (k - s) = k := by omega
    rw [h3, wd_bit hk, wd_bit (by omega)]
    simp [h1, d, h2, hk]
theorem swx_hi {s t : Nat} {g : Nat → Nat → Bool} (h : stp s) (ht : t < 64) (h0 : t &&& s = 0) : wd (g (t + s)) 0 ^^^ swx s (wd (g t) 0) (wd (g (t + s)) 0) = wd (swp s g (t + s)) 0 := by
  apply wd_of
  intro k hk
  have hp := st_pos h
  have hb := (st0 h ht h0).2.1
  rw [BitVec.getLsbD_xor, swx_bit, wd_bit hk]
  unfold swp
  simp only [hb, if_false, Nat.mul_zero, Nat.zero_add]
  by_cases h1 : k &&& s = 0
  · have a := st0 h hk h1
    rw [wd_bit (by omega)]
    simp [h1, a.2.2.2, show t + s - s = t by omega, show s + k = k + s by omega]
    generalize g (t + s) k = p
    generalize g t (k + s) = q
    cases p <;> cases q <;> rfl
  · have a := st1 h hk h1
    simp [h1, a.2.2]
/-- the two words of a step -/
theorem sw_step {s t : Nat} {g : Nat → Nat → Bool} {x : BitVec 64} (h : stp s) (ht : t < 64) (h0 : t &&& s = 0) (hx : x = swx s (wd (g t) 0) (wd (g (t + s)) 0)) :
    ((sqA (swt s t g)).set t (.u64 (wd (g t) 0 ^^^ x <<< s))).set (t + s) (.u64 (wd (g (t + s)) 0 ^^^ x)) = sqA (swt s (t + 1) g) := by
  have hp := st_pos h
  have hb := st0 h ht h0
  rw [hx, swx_lo h h0, swx_hi h ht h0]
  unfold sqA
  rw [rng_set, rng_set]
  refine rng_congr fun i hi => ?_
  by_cases e1 : i = t + s
  · subst e1
    rw [if_pos rfl]
    have : swt s (t + 1) g (t + s) = swp s g (t + s) := by
      funext b
      unfold swt
      rw [if_pos]
      rw [if_neg hb.2.1]; omega
    rw [this]
  · rw [if_neg e1]
    by_cases e2 : i = t
    · subst e2
      rw [if_pos rfl]
      have : swt s (i + 1) g i = swp s g i := by
        funext b
        unfold swt
        rw [if_pos]
        rw [if_pos h0]; omega
      rw [this]
    · rw [if_neg e2]
      have : swt s (t + 1) g i = swt s t g i := by
        funext b
        unfold swt
        by_cases h1 : i &&& s = 0
        · simp only [h1, if_true]
          by_cases h2 : i < t
          · rw [if_pos h2, if_pos (by omega)]
          · rw [if_neg h2, if_neg (by omega)]
        · have := (st1 h hi h1).1
          simp only [h1, if_false]
          by_cases h2 : i - s < t
          · rw [if_pos h2, if_pos (by omega)]
          · rw [if_neg h2, if_neg (by omega)]
      rw [this]

/-- the six rounds -/
def six (g : Nat → Nat → Bool) : Nat → Nat → Bool := swp 1 (swp 2 (swp 4 (swp 8 (swp 16 (swp 32 g)))))
/-- where a bit comes from -/
def src (s : Nat) (p : Nat × Nat) : Nat × Nat :=
  if p.1 &&& s = 0 then (if p.2 &&& s = 0 then p else (p.1 + s, p.2 - s)) else (if p.2 &&& s = 0 then (p.1 - s, p.2 + s) else p)
theorem swp_src {s : Nat} {g : Nat → Nat → Bool} {p : Nat × Nat} : swp s g p.1 p.2 = g (src s p).1 (src s p).2 := by
  unfold swp src
  split <;> split <;> rfl
def src6 (p : Nat × Nat) : Nat × Nat := src 32 (src 16 (src 8 (src 4 (src 2 (src 1 p)))))
theorem src6_all : ((List.range 64).all fun i => (List.range 64).all fun b => decide (src6 (i, b) = (b, i))) = true := by decide
theorem six_turn {g : Nat → Nat → Bool} {i b : Nat} (hi : i < 64) (hb : b < 64) : six g i b = g b i := by
  have a := src6_all
  rw [List.all_eq_true] at a
  have a1 := a i (List.mem_range.2 hi)
  rw [List.all_eq_true] at a1
  have a2 := a1 b (List.mem_range.2 hb)
  rw [decide_eq_true_eq] at a2
  have e : six g i b = g (src6 (i, b)).1 (src6 (i, b)).2 := by
    unfold six src6
    rw [show swp 1 (swp 2 (swp 4 (swp 8 (swp 16 (swp 32 g))))) i b = swp 1 (swp 2 (swp 4 (swp 8 (swp 16 (swp 32 g))))) (i, b).1 (i, b).2 from rfl]
    rw [swp_src, swp_src, swp_src, swp_src, swp_src, swp_src]
  rw [e, a2]
theorem sqA_six {g : Nat → Nat → Bool} : sqA (six g) = sqA fun i b => g b i := by
  unfold sqA
  refine rng_congr fun i hi => ?_
  congr 1
  apply wd_congr
  intro j hj
  rw [six_turn hi (by omega)]
end Go.V

end

section
/-
  Layers 7, 15 and 16 (prg.Bits, baseot, trans.Rows), as this seat has them.
-/
open Go Go.V
namespace Go.Proofs.YtjilenmngokhpaaDoor
set_option maxRecDepth 100000
set_option linter.unusedSimpArgs false
set_option linter.unusedVariables false
/-- gosem.cut.init () -/
def s2 : FnS := ⟨1, [],
    (.reg [⟨.new, (.call 1), [], none⟩]),
    []⟩

/-- trefoil/baseot.Deal (0:master, 1:epoch, 2:master, 4:, 5:, 6:root, 7:s0, 8:r1, 9:s1, 10:r0) -/
def s26 : FnS := ⟨32, [0, 1, 2, 4, 5, 6, 7, 8, 9, 10],
    (.seq (.reg [⟨.var 2, (.e (.box 28 (.arr 32 .leaf))), [.t 0], none⟩,
      ⟨.var 3, (.e (.alloc 66 (.st [(.st [(.arr 2 .leaf), .leaf]), (.st [.leaf, .leaf])]) (.agg [(.agg [(.agg [(.u64 0), (.u64 0)]), .nils]), (.agg [.nils, .nils])]))), [], none⟩,
      ⟨.var 4, (.e (.alloc 66 (.st [(.st [(.arr 2 .leaf), .leaf]), (.st [.leaf, .leaf])]) (.agg [(.agg [(.agg [(.u64 0), (.u64 0)]), .nils]), (.agg [.nils, .nils])]))), [], none⟩])
    (.seq (.reg [⟨.new, (.q (.ld (.arr 32 .leaf))), [.t 2], none⟩,
      ⟨.new, (.q .mv), [.t 1], none⟩,
      ⟨.new, (.call 39), [.t 10, .t 11], none⟩,
      ⟨.var 5, (.e (.alloc 28 (.arr 32 .leaf) (.agg [(.u8 0), (.u8 0), (.u8 0), (.u8 0), (.u8 0), (.u8 0), (.u8 0), (.u8 0), (.u8 0), (.u8 0), (.u8 0), (.u8 0), (.u8 0), (.u8 0), (.u8 0), (.u8 0), (.u8 0), (.u8 0), (.u8 0), (.u8 0), (.u8 0), (.u8 0), (.u8 0), (.u8 0), (.u8 0), (.u8 0), (.u8 0), (.u8 0), (.u8 0), (.u8 0), (.u8 0), (.u8 0)]))), [], none⟩,
      ⟨.none, (.e (.store (.arr 32 .leaf))), [.t 5, .t 12], none⟩])
    (.seq (.reg [⟨.new, (.q (.ld (.arr 32 .leaf))), [.t 5], none⟩,
      ⟨.new, (.call 39), [.t 10, .c (.u64 0)], none⟩,
      ⟨.new, (.call 40), [.t 11], none⟩,
      ⟨.new, (.q .mv), [.t 12], none⟩,
      ⟨.new, (.q (.ext 0)), [.t 13], none⟩,
      ⟨.new, (.q (.ext 1)), [.t 13], none⟩,
      ⟨.var 6, (.e (.alloc 62 (.st [(.arr 2 .leaf), .leaf]) (.agg [(.agg [(.u64 0), (.u64 0)]), .nils]))), [], none⟩,
      ⟨.var 7, (.e (.alloc 64 (.st [.leaf, .leaf]) (.agg [.nils, .nils]))), [], none⟩,
      ⟨.none, (.e (.store (.st [(.arr 2 .leaf), .leaf]))), [.t 6, .t 14], none⟩,
      ⟨.none, (.e (.store (.st [.leaf, .leaf]))), [.t 7, .t 15], none⟩])
    (.seq (.reg [⟨.new, (.q (.ld (.arr 32 .leaf))), [.t 5], none⟩,
      ⟨.new, (.call 39), [.t 10, .c (.u64 1)], none⟩,
      ⟨.new, (.call 40), [.t 11], none⟩,
      ⟨.new, (.q .mv), [.t 12], none⟩,
      ⟨.new, (.q (.ext 0)), [.t 13], none⟩,
      ⟨.new, (.q (.ext 1)), [.t 13], none⟩,
      ⟨.var 8, (.e (.alloc 62 (.st [(.arr 2 .leaf), .leaf]) (.agg [(.agg [(.u64 0), (.u64 0)]), .nils]))), [], none⟩,
      ⟨.var 9, (.e (.alloc 64 (.st [.leaf, .leaf]) (.agg [.nils, .nils]))), [], none⟩,
      ⟨.none, (.e (.store (.st [(.arr 2 .leaf), .leaf]))), [.t 8, .t 14], none⟩,
      ⟨.none, (.e (.store (.st [.leaf, .leaf]))), [.t 9, .t 15], none⟩])
    (.seq (.draw [⟨.none, (.pairs [(3, 6), (4, 6)]), [], none⟩,
      ⟨.new, (.q (.ld (.st [(.arr 2 .leaf), .leaf]))), [.t 6], none⟩,
      ⟨.new, (.q (.ld (.st [.leaf, .leaf]))), [.t 9], none⟩,
      ⟨.new, (.e (.bld (.st [(.st [(.arr 2 .leaf), .leaf]), (.st [.leaf, .leaf])]) (.agg [(.agg [(.agg [(.u64 0), (.u64 0)]), .nils]), (.agg [.nils, .nils])]) [0, 1])), [.t 10, .t 11], none⟩,
      ⟨.new, (.q (.ld (.st [(.arr 2 .leaf), .leaf]))), [.t 8], none⟩,
      ⟨.new, (.q (.ld (.st [.leaf, .leaf]))), [.t 7], none⟩,
      ⟨.new, (.e (.bld (.st [(.st [(.arr 2 .leaf), .leaf]), (.st [.leaf, .leaf])]) (.agg [(.agg [(.agg [(.u64 0), (.u64 0)]), .nils]), (.agg [.nils, .nils])]) [0, 1])), [.t 13, .t 14], none⟩,
      ⟨.none, (.e (.store (.st [(.st [(.arr 2 .leaf), .leaf]), (.st [.leaf, .leaf])]))), [.t 3, .t 12], none⟩,
      ⟨.none, (.e (.store (.st [(.st [(.arr 2 .leaf), .leaf]), (.st [.leaf, .leaf])]))), [.t 4, .t 15], none⟩])
    .ret))))),
    [.cell 3 (.st [(.st [(.arr 2 .leaf), .leaf]), (.st [.leaf, .leaf])]), .cell 4 (.st [(.st [(.arr 2 .leaf), .leaf]), (.st [.leaf, .leaf])])]⟩

/-- trefoil/baseot.deal (0:root, 1:root, 2:, 3:, 4:s, 5:r, 6:w, 8:i, 9:zero, 10:one, 20:, 21:, 49:) -/
def s40 : FnS := ⟨65, [0, 1, 2, 3, 4, 5, 6, 8, 9, 10, 20, 21, 49],
    (.seq (.reg [⟨.var 1, (.e (.box 28 (.arr 32 .leaf))), [.t 0], none⟩,
      ⟨.var 2, (.e (.alloc 62 (.st [(.arr 2 .leaf), .leaf]) (.agg [(.agg [(.u64 0), (.u64 0)]), .nils]))), [], none⟩,
      ⟨.var 3, (.e (.alloc 64 (.st [.leaf, .leaf]) (.agg [.nils, .nils]))), [], none⟩])
    (.seq (.reg [⟨.var 4, (.e (.alloc 62 (.st [(.arr 2 .leaf), .leaf]) (.agg [(.agg [(.u64 0), (.u64 0)]), .nils]))), [], none⟩])
    (.seq (.reg [⟨.var 5, (.e (.alloc 64 (.st [.leaf, .leaf]) (.agg [.nils, .nils]))), [], none⟩])
    (.seq (.reg [⟨.new, (.q (.ld (.arr 32 .leaf))), [.t 1], none⟩,
      ⟨.new, (.call 36), [.t 13, .c (.u32 9), .c (.int 0), .c (.int 2)], none⟩,
      ⟨.new, (.q .mv), [.t 14], none⟩,
      ⟨.new, (.q (.ext 0)), [.t 15], none⟩,
      ⟨.new, (.q (.ext 1)), [.t 15], none⟩,
      ⟨.var 6, (.q .mv), [.t 16], none⟩,
      ⟨.new, (.q .mv), [.t 17], none⟩])
    (.seq (.reg [⟨.new, (.q (.fa [(.arr 2 .leaf), .leaf] 0)), [.t 4], none⟩,
      ⟨.new, (.q (.slA 2 .leaf false false)), [.t 13], none⟩,
      ⟨.new, (.q .mv), [.t 6], none⟩,
      ⟨.new, (.e (.cpy .leaf)), [.t 14, .t 15], none⟩])
    (.seq (.seq (.reg [⟨.var 10, (.q .mv), [.c (.int 0)], none⟩])
    (.block 0 (.loop (.seq (.reg [⟨.var 11, (.q (.bin .lss)), [.t 10, .c (.int 128)], none⟩])
    (.seq (.cond (.t 11) .skip
    (.exit 0))
    (.seq (.block 1 (.seq (.reg [⟨.new, (.q .mv), [.t 10], none⟩,
      ⟨.var 7, (.q .mv), [.t 13], none⟩])
    (.seq (.draw [⟨.new, (.q (.ld (.arr 32 .leaf))), [.t 1], none⟩,
      ⟨.new, (.q .mv), [.t 7], none⟩,
      ⟨.new, (.q (.bin .mul)), [.c (.int 2), .t 14], none⟩,
      ⟨.new, (.q (.cv .u64)), [.t 15], none⟩,
      ⟨.new, (.callp 39), [.t 13, .t 16], none⟩,
      ⟨.new, (.q (.ld (.arr 32 .leaf))), [.t 1], none⟩,
      ⟨.new, (.q .mv), [.t 7], none⟩,
      ⟨.new, (.q (.bin .mul)), [.c (.int 2), .t 19], none⟩,
      ⟨.new, (.q (.bin .add)), [.t 20, .c (.int 1)], none⟩,
      ⟨.new, (.q (.cv .u64)), [.t 21], none⟩,
      ⟨.new, (.callp 39), [.t 18, .t 22], none⟩,
      ⟨.var 8, (.e (.alloc 28 (.arr 32 .leaf) (.agg [(.u8 0), (.u8 0), (.u8 0), (.u8 0), (.u8 0), (.u8 0), (.u8 0), (.u8 0), (.u8 0), (.u8 0), (.u8 0), (.u8 0), (.u8 0), (.u8 0), (.u8 0), (.u8 0), (.u8 0), (.u8 0), (.u8 0), (.u8 0), (.u8 0), (.u8 0), (.u8 0), (.u8 0), (.u8 0), (.u8 0), (.u8 0), (.u8 0), (.u8 0), (.u8 0), (.u8 0), (.u8 0)]))), [], none⟩,
      ⟨.var 9, (.e (.alloc 28 (.arr 32 .leaf) (.agg [(.u8 0), (.u8 0), (.u8 0), (.u8 0), (.u8 0), (.u8 0), (.u8 0), (.u8 0), (.u8 0), (.u8 0), (.u8 0), (.u8 0), (.u8 0), (.u8 0), (.u8 0), (.u8 0), (.u8 0), (.u8 0), (.u8 0), (.u8 0), (.u8 0), (.u8 0), (.u8 0), (.u8 0), (.u8 0), (.u8 0), (.u8 0), (.u8 0), (.u8 0), (.u8 0), (.u8 0), (.u8 0)]))), [], none⟩,
      ⟨.none, (.e (.store (.arr 32 .leaf))), [.t 8, .t 17], none⟩,
      ⟨.none, (.e (.store (.arr 32 .leaf))), [.t 9, .t 23], none⟩])
    (.seq (.draw [⟨.none, (.pairs [(4, 6), (4, 7)]), [], none⟩,
      ⟨.new, (.q (.fa [.leaf, .leaf] 0)), [.t 5], none⟩,
      ⟨.new, (.q (.ld .leaf)), [.t 13], none⟩,
      ⟨.new, (.q (.ld (.arr 32 .leaf))), [.t 8], none⟩,
      ⟨.new, (.e (.bsl 28 (.arr 32 .leaf) (.agg [(.u8 0), (.u8 0), (.u8 0), (.u8 0), (.u8 0), (.u8 0), (.u8 0), (.u8 0), (.u8 0), (.u8 0), (.u8 0), (.u8 0), (.u8 0), (.u8 0), (.u8 0), (.u8 0), (.u8 0), (.u8 0), (.u8 0), (.u8 0), (.u8 0), (.u8 0), (.u8 0), (.u8 0), (.u8 0), (.u8 0), (.u8 0), (.u8 0), (.u8 0), (.u8 0), (.u8 0), (.u8 0)]) 1 [0])), [.t 15], none⟩,
      ⟨.new, (.e (.app 28 (.arr 32 .leaf) 32)), [.t 14, .t 16], none⟩,
      ⟨.new, (.q (.fa [.leaf, .leaf] 1)), [.t 5], none⟩,
      ⟨.new, (.q (.ld .leaf)), [.t 18], none⟩,
      ⟨.new, (.q (.ld (.arr 32 .leaf))), [.t 9], none⟩,
      ⟨.new, (.e (.bsl 28 (.arr 32 .leaf) (.agg [(.u8 0), (.u8 0), (.u8 0), (.u8 0), (.u8 0), (.u8 0), (.u8 0), (.u8 0), (.u8 0), (.u8 0), (.u8 0), (.u8 0), (.u8 0), (.u8 0), (.u8 0), (.u8 0), (.u8 0), (.u8 0), (.u8 0), (.u8 0), (.u8 0), (.u8 0), (.u8 0), (.u8 0), (.u8 0), (.u8 0), (.u8 0), (.u8 0), (.u8 0), (.u8 0), (.u8 0), (.u8 0)]) 1 [0])), [.t 20], none⟩,
      ⟨.new, (.e (.app 28 (.arr 32 .leaf) 32)), [.t 19, .t 21], none⟩,
      ⟨.new, (.q (.fa [.leaf, .leaf] 0)), [.t 5], none⟩,
      ⟨.none, (.e (.store .leaf)), [.t 23, .t 17], none⟩,
      ⟨.new, (.q (.fa [.leaf, .leaf] 1)), [.t 5], none⟩,
      ⟨.none, (.e (.store .leaf)), [.t 24, .t 22], none⟩])
    (.seq (.reg [⟨.new, (.q (.fa [(.arr 2 .leaf), .leaf] 0)), [.t 4], none⟩,
      ⟨.new, (.q (.ld (.arr 2 .leaf))), [.t 13], none⟩,
      ⟨.new, (.q .mv), [.t 7], none⟩,
      ⟨.var 12, (.call 45), [.t 14, .t 15], none⟩])
    (.cond (.t 12) (.reg [⟨.new, (.q (.fa [(.arr 2 .leaf), .leaf] 1)), [.t 4], none⟩,
      ⟨.new, (.q (.ld .leaf)), [.t 13], none⟩,
      ⟨.new, (.q (.ld (.arr 32 .leaf))), [.t 9], none⟩,
      ⟨.new, (.e (.bsl 28 (.arr 32 .leaf) (.agg [(.u8 0), (.u8 0), (.u8 0), (.u8 0), (.u8 0), (.u8 0), (.u8 0), (.u8 0), (.u8 0), (.u8 0), (.u8 0), (.u8 0), (.u8 0), (.u8 0), (.u8 0), (.u8 0), (.u8 0), (.u8 0), (.u8 0), (.u8 0), (.u8 0), (.u8 0), (.u8 0), (.u8 0), (.u8 0), (.u8 0), (.u8 0), (.u8 0), (.u8 0), (.u8 0), (.u8 0), (.u8 0)]) 1 [0])), [.t 15], none⟩,
      ⟨.new, (.e (.app 28 (.arr 32 .leaf) 32)), [.t 14, .t 16], none⟩,
      ⟨.new, (.q (.fa [(.arr 2 .leaf), .leaf] 1)), [.t 4], none⟩,
      ⟨.none, (.e (.store .leaf)), [.t 18, .t 17], none⟩])
    (.reg [⟨.new, (.q (.fa [(.arr 2 .leaf), .leaf] 1)), [.t 4], none⟩,
      ⟨.new, (.q (.ld .leaf)), [.t 13], none⟩,
      ⟨.new, (.q (.ld (.arr 32 .leaf))), [.t 8], none⟩,
      ⟨.new, (.e (.bsl 28 (.arr 32 .leaf) (.agg [(.u8 0), (.u8 0), (.u8 0), (.u8 0), (.u8 0), (.u8 0), (.u8 0), (.u8 0), (.u8 0), (.u8 0), (.u8 0), (.u8 0), (.u8 0), (.u8 0), (.u8 0), (.u8 0), (.u8 0), (.u8 0), (.u8 0), (.u8 0), (.u8 0), (.u8 0), (.u8 0), (.u8 0), (.u8 0), (.u8 0), (.u8 0), (.u8 0), (.u8 0), (.u8 0), (.u8 0), (.u8 0)]) 1 [0])), [.t 15], none⟩,
      ⟨.new, (.e (.app 28 (.arr 32 .leaf) 32)), [.t 14, .t 16], none⟩,
      ⟨.new, (.q (.fa [(.arr 2 .leaf), .leaf] 1)), [.t 4], none⟩,
      ⟨.none, (.e (.store .leaf)), [.t 18, .t 17], none⟩])))))))
    (.reg [⟨.new, (.q (.bin .add)), [.t 10, .c (.int 1)], none⟩,
      ⟨.var 10, (.q .mv), [.t 13], none⟩])))))))
    (.seq (.draw [⟨.none, (.pairs [(1, 2)]), [], none⟩,
      ⟨.new, (.q (.ld (.st [(.arr 2 .leaf), .leaf]))), [.t 4], none⟩,
      ⟨.new, (.q (.ld (.st [.leaf, .leaf]))), [.t 5], none⟩,
      ⟨.none, (.e (.store (.st [(.arr 2 .leaf), .leaf]))), [.t 2, .t 13], none⟩,
      ⟨.none, (.e (.store (.st [.leaf, .leaf]))), [.t 3, .t 14], none⟩])
    .ret))))))),
    [.cell 2 (.st [(.arr 2 .leaf), .leaf]), .cell 3 (.st [.leaf, .leaf])]⟩

/-- trefoil/trans.Rows (0:cols, 2:, 3:, 4:n, 5:raw, 6:i, 7:c, 8:out, 9:half, 10:at, 11:w, 12:i, 13:j, 16:, 24:, 25:, 26:, 27:, 34:, 43:, 44:, 48:, 51:, 52:, 77:) -/
def s44 : FnS := ⟨92, [0, 2, 3, 4, 5, 6, 7, 8, 9, 10, 11, 12, 13, 16, 24, 25, 26, 27, 34, 43, 44, 48, 51, 52, 77],
    (.seq (.reg [⟨.var 1, (.q .mv), [.c .nils], none⟩,
      ⟨.var 2, (.q .mv), [.c (.int 0)], none⟩])
    (.seq (.seq (.reg [⟨.new, (.q .mv), [.t 0], none⟩,
      ⟨.new, (.q .len), [.t 25], none⟩,
      ⟨.var 13, (.q (.bin .neq)), [.t 26, .c (.int 128)], none⟩])
    (.cond (.t 13) (.seq (.reg [⟨.var 1, (.q .mv), [.c .nils], none⟩,
      ⟨.var 2, (.q .mv), [.c (.int 11)], none⟩])
    .ret)
    .skip))
    (.seq (.reg [⟨.new, (.q .mv), [.t 0], none⟩,
      ⟨.new, (.q (.iaS (.st [.leaf, .leaf]))), [.t 25, .c (.int 0)], none⟩,
      ⟨.new, (.q (.ld (.st [.leaf, .leaf]))), [.t 26], none⟩,
      ⟨.new, (.call 21), [.t 27], none⟩,
      ⟨.var 3, (.q .mv), [.t 28], none⟩])
    (.seq (.reg [⟨.new, (.q .mv), [.t 0], none⟩,
      ⟨.new, (.q .len), [.t 25], none⟩,
      ⟨.new, (.e (.mksl 40 .leaf 24 .nils)), [.t 26, .t 26], none⟩,
      ⟨.var 4, (.q .mv), [.t 27], none⟩])
    (.seq (.seq (.reg [⟨.var 14, (.q .mv), [.t 0], none⟩,
      ⟨.var 15, (.q .len), [.t 14], none⟩,
      ⟨.var 16, (.q .mv), [.c (.int 0)], none⟩])
    (.block 0 (.loop (.seq (.reg [⟨.var 17, (.q (.bin .lss)), [.t 16, .t 15], none⟩])
    (.seq (.cond (.t 17) .skip
    (.exit 0))
    (.seq (.block 1 (.seq (.reg [⟨.new, (.q .mv), [.t 16], none⟩,
      ⟨.new, (.q (.iaS (.st [.leaf, .leaf]))), [.t 14, .t 16], none⟩,
      ⟨.new, (.q (.ld (.st [.leaf, .leaf]))), [.t 26], none⟩,
      ⟨.var 6, (.e (.alloc 42 (.st [.leaf, .leaf]) (.agg [(.int 0), .nils]))), [], none⟩,
      ⟨.var 5, (.q .mv), [.t 25], none⟩,
      ⟨.none, (.e (.store (.st [.leaf, .leaf]))), [.t 6, .t 27], none⟩])
    (.seq (.seq (.reg [⟨.new, (.q (.ld (.st [.leaf, .leaf]))), [.t 6], none⟩,
      ⟨.new, (.call 21), [.t 25], none⟩,
      ⟨.new, (.q .mv), [.t 3], none⟩,
      ⟨.var 18, (.q (.bin .neq)), [.t 26, .t 27], none⟩])
    (.cond (.t 18) (.seq (.reg [⟨.var 1, (.q .mv), [.c .nils], none⟩,
      ⟨.var 2, (.q .mv), [.c (.int 11)], none⟩])
    .ret)
    .skip))
    (.reg [⟨.new, (.q .mv), [.t 4], none⟩,
      ⟨.new, (.q .mv), [.t 5], none⟩,
      ⟨.new, (.q (.ld (.st [.leaf, .leaf]))), [.t 6], none⟩,
      ⟨.new, (.call 60), [.t 27], none⟩,
      ⟨.new, (.q (.iaS .leaf)), [.t 25, .t 26], none⟩,
      ⟨.none, (.e (.store .leaf)), [.t 29, .t 28], none⟩]))))
    (.reg [⟨.new, (.q (.bin .add)), [.t 16, .c (.int 1)], none⟩,
      ⟨.var 16, (.q .mv), [.t 25], none⟩])))))))
    (.seq (.reg [⟨.new, (.q .mv), [.t 3], none⟩,
      ⟨.new, (.e (.mksl 24 (.arr 2 .leaf) 16 (.agg [(.u64 0), (.u64 0)]))), [.t 25, .t 25], none⟩,
      ⟨.var 7, (.q .mv), [.t 26], none⟩])
    (.seq (.seq (.reg [⟨.var 19, (.q .mv), [.c (.int 0)], none⟩])
    (.block 2 (.loop (.seq (.reg [⟨.var 20, (.q (.bin .lss)), [.t 19, .c (.int 2)], none⟩])
    (.seq (.cond (.t 20) .skip
    (.exit 2))
    (.seq (.block 3 (.seq (.reg [⟨.new, (.q .mv), [.t 19], none⟩,
      ⟨.var 8, (.q .mv), [.t 25], none⟩])
    (.seq (.reg [⟨.var 9, (.q .mv), [.c (.int 0)], none⟩])
    (.block 4 (.loop (.seq (.seq (.reg [⟨.new, (.q .mv), [.t 9], none⟩,
      ⟨.new, (.q .mv), [.t 3], none⟩,
      ⟨.var 21, (.q (.bin .lss)), [.t 25, .t 26], none⟩])
    (.cond (.t 21) .skip
    (.exit 4)))
    (.seq (.block 5 (.seq (.reg [⟨.var 10, (.e (.alloc 118 (.arr 64 .leaf) (.agg [(.u64 0), (.u64 0), (.u64 0), (.u64 0), (.u64 0), (.u64 0), (.u64 0), (.u64 0), (.u64 0), (.u64 0), (.u64 0), (.u64 0), (.u64 0), (.u64 0), (.u64 0), (.u64 0), (.u64 0), (.u64 0), (.u64 0), (.u64 0), (.u64 0), (.u64 0), (.u64 0), (.u64 0), (.u64 0), (.u64 0), (.u64 0), (.u64 0), (.u64 0), (.u64 0), (.u64 0), (.u64 0), (.u64 0), (.u64 0), (.u64 0), (.u64 0), (.u64 0), (.u64 0), (.u64 0), (.u64 0), (.u64 0), (.u64 0), (.u64 0), (.u64 0), (.u64 0), (.u64 0), (.u64 0), (.u64 0), (.u64 0), (.u64 0), (.u64 0), (.u64 0), (.u64 0), (.u64 0), (.u64 0), (.u64 0), (.u64 0), (.u64 0), (.u64 0), (.u64 0), (.u64 0), (.u64 0), (.u64 0), (.u64 0)]))), [], none⟩])
    (.seq (.seq (.reg [⟨.var 22, (.q .mv), [.c (.int 0)], none⟩])
    (.block 6 (.loop (.seq (.reg [⟨.var 23, (.q (.bin .lss)), [.t 22, .c (.int 64)], none⟩])
    (.seq (.cond (.t 23) .skip
    (.exit 6))
    (.seq (.block 7 (.seq (.reg [⟨.new, (.q .mv), [.t 22], none⟩,
      ⟨.var 11, (.q .mv), [.t 25], none⟩])
    (.reg [⟨.new, (.q .mv), [.t 11], none⟩,
      ⟨.new, (.q .mv), [.t 4], none⟩,
      ⟨.new, (.q .mv), [.t 8], none⟩,
      ⟨.new, (.q (.bin .mul)), [.c (.int 64), .t 27], none⟩,
      ⟨.new, (.q .mv), [.t 11], none⟩,
      ⟨.new, (.q (.bin .add)), [.t 28, .t 29], none⟩,
      ⟨.new, (.q (.iaS .leaf)), [.t 26, .t 30], none⟩,
      ⟨.new, (.q (.ld .leaf)), [.t 31], none⟩,
      ⟨.new, (.q .mv), [.t 9], none⟩,
      ⟨.new, (.q (.bin .quo)), [.t 33, .c (.int 64)], none⟩,
      ⟨.new, (.q (.iaS .leaf)), [.t 32, .t 34], none⟩,
      ⟨.new, (.q (.ld .leaf)), [.t 35], none⟩,
      ⟨.new, (.q (.iaA 64 .leaf)), [.t 10, .t 25], none⟩,
      ⟨.none, (.e (.store .leaf)), [.t 37, .t 36], none⟩])))
    (.reg [⟨.new, (.q (.bin .add)), [.t 22, .c (.int 1)], none⟩,
      ⟨.var 22, (.q .mv), [.t 25], none⟩])))))))
    (.seq (.reg [⟨.new, (.call 61), [.t 10], none⟩])
    (.seq (.reg [⟨.var 12, (.q .mv), [.c (.int 0)], none⟩])
    (.block 8 (.loop (.seq (.seq (.reg [⟨.new, (.q .mv), [.t 12], none⟩,
      ⟨.new, (.q (.bin .lss)), [.t 25, .c (.int 64)], none⟩,
      ⟨.new, (.q .mv), [.t 26], none⟩,
      ⟨.new, (.q .mv), [.t 9], (some (27, true))⟩,
      ⟨.new, (.q .mv), [.t 12], (some (27, true))⟩,
      ⟨.new, (.q (.bin .add)), [.t 28, .t 29], (some (27, true))⟩,
      ⟨.new, (.q .mv), [.t 3], (some (27, true))⟩,
      ⟨.new, (.q (.bin .lss)), [.t 30, .t 31], (some (27, true))⟩,
      ⟨.var 24, (.q .pick), [.t 27, .t 32, .c (.bool false)], none⟩])
    (.cond (.t 24) .skip
    (.exit 8)))
    (.seq (.block 9 (.draw [⟨.new, (.q .mv), [.t 7], none⟩,
      ⟨.new, (.q .mv), [.t 9], none⟩,
      ⟨.new, (.q .mv), [.t 12], none⟩,
      ⟨.new, (.q (.bin .add)), [.t 26, .t 27], none⟩,
      ⟨.new, (.q .mv), [.t 8], none⟩,
      ⟨.new, (.q .mv), [.t 12], none⟩,
      ⟨.new, (.q (.iaA 64 .leaf)), [.t 10, .t 30], none⟩,
      ⟨.new, (.q (.ld .leaf)), [.t 31], none⟩,
      ⟨.new, (.q (.iaS (.arr 2 .leaf))), [.t 25, .t 28], none⟩,
      ⟨.new, (.q (.iaA 2 .leaf)), [.t 33, .t 29], none⟩,
      ⟨.none, (.e (.store .leaf)), [.t 34, .t 32], none⟩]))
    (.reg [⟨.new, (.q .mv), [.t 12], none⟩,
      ⟨.new, (.q (.bin .add)), [.t 25, .c (.int 1)], none⟩,
      ⟨.var 12, (.q .mv), [.t 26], none⟩]))))))))))
    (.reg [⟨.new, (.q .mv), [.t 9], none⟩,
      ⟨.new, (.q (.bin .add)), [.t 25, .c (.int 64)], none⟩,
      ⟨.var 9, (.q .mv), [.t 26], none⟩]))))))))
    (.reg [⟨.new, (.q (.bin .add)), [.t 19, .c (.int 1)], none⟩,
      ⟨.var 19, (.q .mv), [.t 25], none⟩])))))))
    (.seq (.reg [⟨.new, (.q .mv), [.t 7], none⟩,
      ⟨.var 1, (.q .mv), [.t 25], none⟩,
      ⟨.var 2, (.q .mv), [.c (.int 0)], none⟩])
    .ret)))))))),
    [.t 1, .t 2]⟩

/-- trefoil/prg.Bits (0:seed, 1:lane, 2:from, 3:n, 4:seed, 8:, 9:, 10:first, 11:skip, 12:s, 13:e, 14:v, 28:, 47:, 59:) -/
def s57 : FnS := ⟨70, [0, 1, 2, 3, 4, 8, 9, 10, 11, 12, 13, 14, 28, 47, 59],
    (.seq (.reg [⟨.var 4, (.e (.box 28 (.arr 32 .leaf))), [.t 0], none⟩,
      ⟨.var 5, (.e (.alloc 42 (.st [.leaf, .leaf]) (.agg [(.int 0), .nils]))), [], none⟩,
      ⟨.var 6, (.q .mv), [.c (.int 0)], none⟩])
    (.seq (.seq (.reg [⟨.new, (.q .mv), [.t 2], none⟩,
      ⟨.new, (.q (.bin .lss)), [.t 15, .c (.int 0)], none⟩,
      ⟨.new, (.q .mv), [.t 16], none⟩,
      ⟨.new, (.q .mv), [.t 3], (some (17, false))⟩,
      ⟨.new, (.q (.bin .lss)), [.t 18, .c (.int 0)], (some (17, false))⟩,
      ⟨.new, (.q .pick), [.t 17, .c (.bool true), .t 19], none⟩,
      ⟨.new, (.q .mv), [.t 20], none⟩,
      ⟨.new, (.q .mv), [.t 2], (some (21, false))⟩,
      ⟨.new, (.q (.bin .gtr)), [.t 22, .c (.int 1073741824)], (some (21, false))⟩,
      ⟨.new, (.q .pick), [.t 21, .c (.bool true), .t 23], none⟩,
      ⟨.new, (.q .mv), [.t 24], none⟩,
      ⟨.new, (.q .mv), [.t 3], (some (25, false))⟩,
      ⟨.new, (.q (.bin .gtr)), [.t 26, .c (.int 65536)], (some (25, false))⟩,
      ⟨.var 12, (.q .pick), [.t 25, .c (.bool true), .t 27], none⟩])
    (.cond (.t 12) (.seq (.reg [⟨.new, (.e (.bld (.st [.leaf, .leaf]) (.agg [(.int 0), .nils]) [])), [], none⟩,
      ⟨.none, (.e (.store (.st [.leaf, .leaf]))), [.t 5, .t 15], none⟩,
      ⟨.var 6, (.q .mv), [.c (.int 2)], none⟩])
    .ret)
    .skip))
    (.seq (.reg [⟨.new, (.q .mv), [.t 2], none⟩,
      ⟨.new, (.q (.bin .quo)), [.t 15, .c (.int 8)], none⟩,
      ⟨.new, (.q .mv), [.t 2], none⟩,
      ⟨.new, (.q (.bin .rem)), [.t 17, .c (.int 8)], none⟩,
      ⟨.var 7, (.q .mv), [.t 16], none⟩,
      ⟨.var 8, (.q .mv), [.t 18], none⟩])
    (.seq (.reg [⟨.new, (.q (.ld (.arr 32 .leaf))), [.t 4], none⟩,
      ⟨.new, (.q .mv), [.t 1], none⟩,
      ⟨.new, (.q .mv), [.t 7], none⟩,
      ⟨.new, (.q .mv), [.t 8], none⟩,
      ⟨.new, (.q .mv), [.t 3], none⟩,
      ⟨.new, (.q (.bin .add)), [.t 18, .t 19], none⟩,
      ⟨.new, (.q (.bin .add)), [.t 20, .c (.int 7)], none⟩,
      ⟨.new, (.q (.bin .quo)), [.t 21, .c (.int 8)], none⟩,
      ⟨.new, (.call 53), [.t 15, .t 16, .t 17, .t 22], none⟩,
      ⟨.new, (.q .mv), [.t 23], none⟩,
      ⟨.new, (.q (.ext 0)), [.t 24], none⟩,
      ⟨.new, (.q (.ext 1)), [.t 24], none⟩,
      ⟨.var 9, (.q .mv), [.t 25], none⟩,
      ⟨.var 10, (.q .mv), [.t 26], none⟩])
    (.seq (.seq (.reg [⟨.new, (.q .mv), [.t 10], none⟩,
      ⟨.var 13, (.q (.bin .neq)), [.t 15, .c (.int 0)], none⟩])
    (.cond (.t 13) (.seq (.reg [⟨.new, (.e (.bld (.st [.leaf, .leaf]) (.agg [(.int 0), .nils]) [])), [], none⟩,
      ⟨.new, (.q .mv), [.t 10], none⟩,
      ⟨.none, (.e (.store (.st [.leaf, .leaf]))), [.t 5, .t 15], none⟩,
      ⟨.var 6, (.q .mv), [.t 16], none⟩])
    .ret)
    .skip))
    (.seq (.reg [⟨.new, (.q .mv), [.t 9], none⟩,
      ⟨.new, (.q .lenS), [.t 15], none⟩,
      ⟨.new, (.q (.bin .mul)), [.c (.int 8), .t 16], none⟩,
      ⟨.new, (.q .mv), [.t 9], none⟩,
      ⟨.new, (.call 73), [.t 17, .t 18], none⟩,
      ⟨.new, (.q .mv), [.t 19], none⟩,
      ⟨.new, (.q (.ext 0)), [.t 20], none⟩,
      ⟨.new, (.q (.ext 1)), [.t 20], none⟩,
      ⟨.var 11, (.e (.alloc 42 (.st [.leaf, .leaf]) (.agg [(.int 0), .nils]))), [], none⟩,
      ⟨.none, (.e (.store (.st [.leaf, .leaf]))), [.t 11, .t 21], none⟩,
      ⟨.var 10, (.q .mv), [.t 22], none⟩])
    (.seq (.seq (.reg [⟨.new, (.q .mv), [.t 10], none⟩,
      ⟨.var 14, (.q (.bin .neq)), [.t 15, .c (.int 0)], none⟩])
    (.cond (.t 14) (.seq (.reg [⟨.new, (.e (.bld (.st [.leaf, .leaf]) (.agg [(.int 0), .nils]) [])), [], none⟩,
      ⟨.new, (.q .mv), [.t 10], none⟩,
      ⟨.none, (.e (.store (.st [.leaf, .leaf]))), [.t 5, .t 15], none⟩,
      ⟨.var 6, (.q .mv), [.t 16], none⟩])
    .ret)
    .skip))
    (.seq (.reg [⟨.new, (.q (.ld (.st [.leaf, .leaf]))), [.t 11], none⟩,
      ⟨.new, (.q .mv), [.t 8], none⟩,
      ⟨.new, (.q .mv), [.t 8], none⟩,
      ⟨.new, (.q .mv), [.t 3], none⟩,
      ⟨.new, (.q (.bin .add)), [.t 17, .t 18], none⟩,
      ⟨.new, (.call 74), [.t 15, .t 16, .t 19], none⟩,
      ⟨.new, (.q (.ext 0)), [.t 20], none⟩,
      ⟨.new, (.q (.ext 1)), [.t 20], none⟩,
      ⟨.none, (.e (.store (.st [.leaf, .leaf]))), [.t 5, .t 21], none⟩,
      ⟨.var 6, (.q .mv), [.t 22], none⟩])
    .ret)))))))),
    [.cell 5 (.st [.leaf, .leaf]), .t 6]⟩

/-- trefoil/trans.square (0:w, 2:mask, 3:step, 4:i, 5:x, 7:, 11:, 17:) -/
def s61 : FnS := ⟨66, [0, 2, 3, 4, 5, 7, 11, 17],
    (.seq (.reg [⟨.var 1, (.q .mv), [.c (.u64 4294967295)], none⟩])
    (.seq (.reg [⟨.var 2, (.q .mv), [.c (.int 32)], none⟩])
    (.block 0 (.loop (.seq (.seq (.reg [⟨.new, (.q .mv), [.t 2], none⟩,
      ⟨.var 5, (.q (.bin .gtr)), [.t 8, .c (.int 0)], none⟩])
    (.cond (.t 5) .skip
    (.exit 0)))
    (.seq (.block 1 (.seq (.seq (.reg [⟨.var 3, (.q .mv), [.c (.int 0)], none⟩])
    (.block 2 (.loop (.seq (.seq (.reg [⟨.new, (.q .mv), [.t 3], none⟩,
      ⟨.var 6, (.q (.bin .lss)), [.t 8, .c (.int 64)], none⟩])
    (.cond (.t 6) .skip
    (.exit 2)))
    (.seq (.block 3 (.seq (.seq (.reg [⟨.new, (.q .mv), [.t 3], none⟩,
      ⟨.new, (.q .mv), [.t 2], none⟩,
      ⟨.new, (.q (.bin .and)), [.t 8, .t 9], none⟩,
      ⟨.var 7, (.q (.bin .neq)), [.t 10, .c (.int 0)], none⟩])
    (.cond (.t 7) (.exit 3)
    .skip))
    (.seq (.draw [⟨.new, (.q .mv), [.t 0], none⟩,
      ⟨.new, (.q .mv), [.t 3], none⟩,
      ⟨.new, (.q .nilc), [.t 8], none⟩,
      ⟨.new, (.q (.iaA 64 .leaf)), [.t 10, .t 9], none⟩,
      ⟨.new, (.q (.ld .leaf)), [.t 11], none⟩,
      ⟨.new, (.q .mv), [.t 2], none⟩,
      ⟨.new, (.q (.cv .u64)), [.t 13], none⟩,
      ⟨.new, (.q (.bin .shr)), [.t 12, .t 14], none⟩,
      ⟨.new, (.q .mv), [.t 0], none⟩,
      ⟨.new, (.q .mv), [.t 3], none⟩,
      ⟨.new, (.q .mv), [.t 2], none⟩,
      ⟨.new, (.q (.bin .add)), [.t 17, .t 18], none⟩,
      ⟨.new, (.q .nilc), [.t 16], none⟩,
      ⟨.new, (.q (.iaA 64 .leaf)), [.t 20, .t 19], none⟩,
      ⟨.new, (.q (.ld .leaf)), [.t 21], none⟩,
      ⟨.new, (.q (.bin .xor)), [.t 15, .t 22], none⟩,
      ⟨.new, (.q .mv), [.t 1], none⟩,
      ⟨.new, (.q (.bin .and)), [.t 23, .t 24], none⟩,
      ⟨.var 4, (.q .mv), [.t 25], none⟩])
    (.seq (.draw [⟨.new, (.q .mv), [.t 0], none⟩,
      ⟨.new, (.q .mv), [.t 3], none⟩,
      ⟨.new, (.q .nilc), [.t 8], none⟩,
      ⟨.new, (.q (.iaA 64 .leaf)), [.t 10, .t 9], none⟩,
      ⟨.new, (.q (.ld .leaf)), [.t 11], none⟩,
      ⟨.new, (.q .mv), [.t 4], none⟩,
      ⟨.new, (.q .mv), [.t 2], none⟩,
      ⟨.new, (.q (.cv .u64)), [.t 14], none⟩,
      ⟨.new, (.q (.bin .shl)), [.t 13, .t 15], none⟩,
      ⟨.new, (.q (.bin .xor)), [.t 12, .t 16], none⟩,
      ⟨.new, (.q .nilc), [.t 8], none⟩,
      ⟨.new, (.q (.iaA 64 .leaf)), [.t 18, .t 9], none⟩,
      ⟨.none, (.e (.store .leaf)), [.t 19, .t 17], none⟩])
    (.draw [⟨.new, (.q .mv), [.t 0], none⟩,
      ⟨.new, (.q .mv), [.t 3], none⟩,
      ⟨.new, (.q .mv), [.t 2], none⟩,
      ⟨.new, (.q (.bin .add)), [.t 9, .t 10], none⟩,
      ⟨.new, (.q .nilc), [.t 8], none⟩,
      ⟨.new, (.q (.iaA 64 .leaf)), [.t 12, .t 11], none⟩,
      ⟨.new, (.q (.ld .leaf)), [.t 13], none⟩,
      ⟨.new, (.q .mv), [.t 4], none⟩,
      ⟨.new, (.q (.bin .xor)), [.t 14, .t 15], none⟩,
      ⟨.new, (.q .nilc), [.t 8], none⟩,
      ⟨.new, (.q (.iaA 64 .leaf)), [.t 17, .t 11], none⟩,
      ⟨.none, (.e (.store .leaf)), [.t 18, .t 16], none⟩])))))
    (.reg [⟨.new, (.q .mv), [.t 3], none⟩,
      ⟨.new, (.q (.bin .add)), [.t 8, .c (.int 1)], none⟩,
      ⟨.var 3, (.q .mv), [.t 9], none⟩]))))))
    (.reg [⟨.new, (.q .mv), [.t 1], none⟩,
      ⟨.new, (.q .mv), [.t 1], none⟩,
      ⟨.new, (.q .mv), [.t 2], none⟩,
      ⟨.new, (.q (.bin .shr)), [.t 10, .c (.u64 1)], none⟩,
      ⟨.new, (.q (.cv .u64)), [.t 11], none⟩,
      ⟨.new, (.q (.bin .shl)), [.t 9, .t 12], none⟩,
      ⟨.new, (.q (.bin .xor)), [.t 8, .t 13], none⟩,
      ⟨.var 1, (.q .mv), [.t 14], none⟩])))
    (.reg [⟨.new, (.q .mv), [.t 2], none⟩,
      ⟨.new, (.q (.bin .shr)), [.t 8, .c (.u64 1)], none⟩,
      ⟨.var 2, (.q .mv), [.t 9], none⟩]))))))),
    []⟩

theorem c2 : cF P G (drP P G) 2 0 s2.vm = some s2 := by kernel_rfl
theorem c26 : cF P G (drP P G) 26 2 s26.vm = some s26 := by kernel_rfl
theorem c40 : cF P G (drP P G) 40 1 s40.vm = some s40 := by kernel_rfl
theorem c44 : cF P G (drP P G) 44 1 s44.vm = some s44 := by kernel_rfl
theorem c57 : cF P G (drP P G) 57 4 s57.vm = some s57 := by kernel_rfl
theorem c61 : cF P G (drP P G) 61 1 s61.vm = some s61 := by kernel_rfl
/-- a bit of a stream -/
def gbit (ks : List (BitVec 8)) (lane : BitVec 32) (k : Nat) : Bool := (gB ks lane (k / 8)).getLsbD (k % 8)
theorem pbit {ks : List (BitVec 8)} {lane : BitVec 32} {a m k : Nat} (h : (a % 8 + k) / 8 < m) : sf (part ks lane (a / 8) m) (a % 8 + k) = gbit ks lane (a + k) := by
  unfold sf gbit
  rw [List.getD_eq_getElem?_getD, part_get h, show a / 8 + (a % 8 + k) / 8 = (a + k) / 8 by omega, show (a % 8 + k) % 8 = (a + k) % 8 by omega, Option.getD_some]

theorem f57e {K : AV → Heap → Prop} {H : Heap} {ks : List (BitVec 8)} {lane : BitVec 32} {a n : Int} (hk : ks.length = 32) (hb : a < 0 ∨ n < 0 ∨ 1073741824 < a ∨ 65536 < n) (h : K (.tup [.agg [.int 0, .nils], .int 2]) H) : wpF P G 57 [.agg (ks.map .u8), .u32 lane, .int a, .int n] H K := by
  refine wpF_go c57 rfl 4 ?_
  intro ha hb'
  simp only [s57]
  by_cases h0 : a < 0
  · (refine gw2 @hk @h0 ?_; try exact True.intro)
    exact h
  by_cases h1 : n < 0
  · (refine gw3 @hk @h0 @h1 ?_; try exact True.intro)
    exact h
  by_cases h2 : 1073741824 < a
  · (refine gw4 @hk @h0 @h1 @h2 ?_; try exact True.intro)
    exact h
  have h3 : 65536 < n := by omega
  (refine gw5 @hk @h0 @h1 @h2 @h3 ?_; try exact True.intro)
  exact h

theorem f57g {K : AV → Heap → Prop} {H : Heap} {ks : List (BitVec 8)} {lane : BitVec 32} {a n : Nat} (hk : ks.length = 32) (hn : n ≤ 65536) (han : a ≤ 1073741824) (h : K (.tup [vec n (cut n fun j => gbit ks lane (a + j)), .int 0]) H) : wpF P G 57 [.agg (ks.map .u8), .u32 lane, .int (a : Int), .int (n : Int)] H K := by
  refine wpF_go c57 rfl 4 ?_
  intro ha hb
  simp only [s57]
  have h0 : ((a : Int) < 0) = False := by simp
  have h01 : ((n : Int) < 0) = False := by simp
  have h1 : ((1073741824 : Int) < (a : Int)) = False := by simp; omega
  have h2 : ((65536 : Int) < (n : Int)) = False := by simp; omega
  have hm : Int.tmod (a : Int) 8 = ((a % 8 : Nat) : Int) := (Int.ofNat_tmod a 8).symm
  have hd : Int.tdiv (a : Int) 8 = ((a / 8 : Nat) : Int) := (Int.ofNat_tdiv a 8).symm
  have hs : ((a % 8 : Nat) : Int) + (n : Int) + 7 = ((a % 8 + n + 7 : Nat) : Int) := by omega
  have hs1 : ((a % 8 : Nat) : Int) + (n : Int) = ((a % 8 + n : Nat) : Int) := by omega
  have hs2 : ((a % 8 + n : Nat) : Int) + 7 = ((a % 8 + n + 7 : Nat) : Int) := by omega
  have hd2 : Int.tdiv ((a % 8 + n + 7 : Nat) : Int) 8 = (((a % 8 + n + 7) / 8 : Nat) : Int) := (Int.ofNat_tdiv _ 8).symm
  (refine gw10 @hk @h0 @h01 @h1 @h2 @hm @hd @hs1 @hs2 @hd2 ?_; try exact True.intro)
  (repeat (refine And.intro (by omega) ?_))
  refine f53g hk (by omega) (by omega) ?_
  have hpl := part_len (ks := ks) (lane := lane) (a := a / 8) (n := (a % 8 + n + 7) / 8)
  have h8 : 8 * (((a % 8 + n + 7) / 8 : Nat) : Int) = ((8 * ((a % 8 + n + 7) / 8) : Nat) : Int) := by omega
  (refine gw2 @hpl @h8 ?_; try exact True.intro)
  (repeat (refine And.intro (by omega) ?_))
  refine f73 (by omega) (by rw [hpl]; unfold ny; omega) ⟨fun hR => ?_, fun _ => ?_⟩
  · obtain ⟨j, h3, h4⟩ := hR
    rw [sf_out (by rw [hpl]; exact h3)] at h4; cases h4
  simp only [vec]
  (refine gw1 @hs1 ?_; try exact True.intro)
  (repeat (refine And.intro (by omega) ?_))
  refine f74 (by omega) (by omega) (by omega) ?_
  have e : a % 8 + n - a % 8 = n := by omega
  have ef : (cut n fun j => sf (part ks lane (a / 8) ((a % 8 + n + 7) / 8)) (a % 8 + j)) = cut n fun j => gbit ks lane (a + j) := by
    funext j
    unfold cut
    by_cases hj : j < n
    · dsimp only
      rw [pbit (by omega)]
    · simp [hj]
  rw [e, ef]
  simp only [vec] at h ⊢
  (refine gw1 @bndA ?_; try exact True.intro)
  exact h

/-! the reference's -/
theorem bit_mod8 (x : BitVec 8) (j : Nat) : decide (x >>> j % 2 = 1) = x.getLsbD j := by
  have e : (x >>> j % 2 = 1) ↔ (x >>> j).toNat % 2 = 1 := by
    rw [← BitVec.toNat_inj, BitVec.toNat_umod]
    exact Iff.rfl
  rw [← BitVec.testBit_toNat, Nat.testBit_eq_decide_div_mod_eq, decide_eq_decide, e, BitVec.toNat_ushiftRight, Nat.shiftRight_eq_div_pow]

def bB (t : Nat) (l : List AV) : Option Blk := some ⟨4, t, true, .arr t .leaf, .agg l⟩
def gbL (ks : List (BitVec 8)) (lane : BitVec 32) (a t : Nat) : List AV := (List.range t).map fun j => .bool (gbit ks lane (a + j))
def Iz54 (ks : List (BitVec 8)) (lane : BitVec 32) (a n : Nat) (s : List (BitVec 8)) (H : Heap) (k : Nat) (st : St) : Prop :=
  ∃ (t : Nat) (out u : AV) (L : Heap), st = ⟨[.agg (ks.map .u8), .u32 lane, .int (a : Int), .int (n : Int), .ptr H.length 0 [0] (.arr 32 .leaf), .nils, .int 0, .str s, .int 0, out, .int ((a % 8 + t : Nat) : Int), .bool false, .bool false, u],
    H ++ kbx ks :: L⟩ ∧ k = n - t ∧ t ≤ n ∧ ((t = 0 ∧ out = .nils ∧ L = []) ∨ (0 < t ∧ out = .own (H.length + 2) t [] 0 t .leaf ∧ ∃ g J l, L = g :: bB t l :: J ∧ l = gbL ks lane a t))

theorem f36g {K : AV → Heap → Prop} {H : Heap} {ks : List (BitVec 8)} {lane : BitVec 32} {a n : Nat} (hk : ks.length = 32) (hn : n ≤ 4096) (han : a + n ≤ 134217728) (h : K (.tup [.ro .leaf ((List.range n).map fun i => .u64 (wdg ks lane (a + i))), .int 0]) H) : wpF P G 36 [.agg (ks.map .u8), .u32 lane, .int (a : Int), .int (n : Int)] H K := by
  refine wpF_go c36 rfl 4 ?_
  intro ha hb
  simp only [s36]
  have h0 : ((a : Int) < 0) = False := by simp
  have h01 : ((n : Int) < 0) = False := by simp
  have h1 : ((134217728 : Int) < (a : Int)) = False := by simp; omega
  have h11 : ((4096 : Int) < (n : Int)) = False := by simp; omega
  have h2 : 8 * (a : Int) = ((8 * a : Nat) : Int) := by omega
  have h3 : 8 * (n : Int) = ((8 * n : Nat) : Int) := by omega
  (refine gw7 @hk @h0 @h01 @h1 @h11 @h2 @h3 ?_; try exact True.intro)
  (repeat (refine And.intro (by omega) ?_))
  refine f53g hk (by omega) (by omega) ?_
  (refine gw0 ?_; try exact True.intro)
  (repeat (refine And.intro (by omega) ?_))
  refine wp_inv (Ix53 ks lane a n H) n ⟨0, _, _, _, _, _, by rw [fill_zero]; rfl, rfl, by omega⟩ ?_
  rintro k st ⟨i, u1, u2, u3, u4, u5, rfl, rfl, hi⟩
  unfold kbx
  by_cases hil : i < n
  · have hlt : ((i : Int) < (n : Int)) = True := by simp; omega
    have hL := fill_length (f := fun i => .u64 (wdg ks lane (a + i))) (z := .u64 0) hi
    have hL0 : (fillL (fun i => AV.u64 (wdg ks lane (a + i))) (.u64 0) n i)[i]? = some (.u64 0) := by
      unfold fillL
      rw [List.getElem?_append_right (by simp), List.length_map, List.length_range, Nat.sub_self, List.getElem?_replicate]
      rw [if_pos (by omega)]
    have hSet := fill_set (f := fun i => .u64 (wdg ks lane (a + i))) (z := .u64 0) hil
    generalize fillL (fun i => AV.u64 (wdg ks lane (a + i))) (.u64 0) n i = L at *
    have hLs : ∀ x, (L.set i x)[i]? = some x := fun x => by rw [List.getElem?_set_self (by omega)]
    have hLL : ∀ x y, (L.set i x).set i y = L.set i y := fun x y => List.set_set ..
    (refine gw1 @hlt ?_; try exact True.intro)
    refine wp_unroll 9 ?_
    have hpl : (part ks lane (8 * a) (8 * n)).length = 8 * n := part_len
    (refine gw5 @hlt @hL0 @hLs @hLL @hpl ?_; try exact True.intro)
    clear hL hL0 hLs hLL hpl ha hb h
    (repeat (refine And.intro (by omega) ?_))
    have hSet' : L.set i (AV.u64 (leW (part ks lane (8 * (a + i)) 8))) = fillL (fun i => AV.u64 (wdg ks lane (a + i))) (AV.u64 0) n (i + 1) := hSet
    simp only [leW] at hSet'
    have e : ∀ (k : Nat) (x : Int), k < 8 → x = 8 * (i : Int) + (k : Int) → (part ks lane (8 * a) (8 * n)).getD x.toNat 0 = (part ks lane (8 * (a + i)) 8).getD k 0 := fun k x hk hx => part_el hk hil hx
    refine ⟨n - (i + 1), by omega, i + 1, _, _, _, _, _, by rw [e 0 (8 * (i : Int) + 0) (by omega) rfl, e 1 (8 * (i : Int) + 1) (by omega) rfl, e 2 (8 * (i : Int) + 2) (by omega) rfl, e 3 (8 * (i : Int) + 3) (by omega) rfl, e 4 (8 * (i : Int) + 4) (by omega) rfl, e 5 (8 * (i : Int) + 5) (by omega) rfl, e 6 (8 * (i : Int) + 6) (by omega) rfl, e 7 (8 * (i : Int) + 7) (by omega) rfl, hSet']; rfl, rfl, by omega⟩
  · have hlt : ((i : Int) < (n : Int)) = False := by simp; omega
    have hie : i = n := by omega
    have ht : ∀ {kp : Nat → Bool} {N : Nat} {h : Heap}, mapO (demK kp N h 2) (List.take n (fillL (fun i => AV.u64 (wdg ks lane (a + i))) (.u64 0) n i)) = some ((List.range n).map fun i => .u64 (wdg ks lane (a + i))) := by
      intro kp N h
      rw [hie, fill_all, List.take_of_length_le (by simp)]; exact mapO_u64
    (refine gw2 @hlt @ht ?_; try exact True.intro)
    exact h
/-! the reference's bytes -/
/-! both say the same -/
/-! the law -/
/-! seeds, and lists of them -/
def sdL (f : Nat → List (BitVec 8)) (n : Nat) : List AV := (List.range n).map fun j => sdA (f j)
theorem sdL_len {f : Nat → List (BitVec 8)} {n : Nat} : (sdL f n).length = n := by simp [sdL]
theorem sdL_succ {f : Nat → List (BitVec 8)} {n : Nat} : sdL f n ++ [sdA (f n)] = sdL f (n + 1) := by simp [sdL, List.range_succ]
theorem demK_sd {kp : Nat → Bool} {N : Nat} {h : Heap} {d : Nat} {s : List (BitVec 8)} : demK kp N h (d + 2) (sdA s) = some (sdA s) := by
  unfold sdA
  rw [demK_agg, mapO_u8']
  rfl
theorem mapO_of {kp : Nat → Bool} {N : Nat} {h : Heap} {d : Nat} : ∀ {l : List AV}, (∀ x ∈ l, demK kp N h d x = some x) → mapO (demK kp N h d) l = some l
  | [], _ => rfl
  | x :: l, hx => by
    simp only [mapO]
    rw [hx x (by simp), mapO_of fun y hy => hx y (by simp [hy])]
theorem mapO_sd {kp : Nat → Bool} {N : Nat} {h : Heap} {d : Nat} {f : Nat → List (BitVec 8)} {n : Nat} : mapO (demK kp N h (d + 2)) (List.take n (sdL f n)) = some (sdL f n) := by
  rw [List.take_of_length_le (by rw [sdL_len]; exact Nat.le_refl _)]
  refine mapO_of fun x hx => ?_
  obtain ⟨j, _, rfl⟩ := List.mem_map.1 hx
  exact demK_sd
theorem bnds_sd {f : Nat → List (BitVec 8)} {n k : Nat} : AV.bnds k (sdL f n) = true := by
  refine bnds_iff.2 fun x hx => ?_
  obtain ⟨j, _, rfl⟩ := List.mem_map.1 hx
  simp only [sdA, AV.bnd]
  exact bnds_u8'

/-! one direction -/
def zS (ks : List (BitVec 8)) (i : Nat) : List (BitVec 8) := child ks (BitVec.ofNat 64 (2 * i))
def oS (ks : List (BitVec 8)) (i : Nat) : List (BitVec 8) := child ks (BitVec.ofNat 64 (2 * i + 1))
def kS (ks : List (BitVec 8)) (i : Nat) : List (BitVec 8) := if rb (wdg ks 9 0) (wdg ks 9 1) i = true then oS ks i else zS ks i
theorem zS_len {ks : List (BitVec 8)} {i : Nat} : (zS ks i).length = 32 := child_len _ _
theorem oS_len {ks : List (BitVec 8)} {i : Nat} : (oS ks i).length = 32 := child_len _ _

/-- a list of seeds that grew -/
def lB (i : Nat) (l : List AV) : Option Blk := some ⟨28, i, true, .arr i (.arr 32 .leaf), .agg l⟩
def sB (ks : List (BitVec 8)) (a : AV) : Option Blk := some ⟨62, 0, false, .arr 1 (.st [.arr 2 .leaf, .leaf]), .agg [.agg [.agg [.u64 (wdg ks 9 0), .u64 (wdg ks 9 1)], a]]⟩
def rB (a b : AV) : Option Blk := some ⟨64, 0, false, .arr 1 (.st [.leaf, .leaf]), .agg [.agg [a, b]]⟩
def s0B : Option Blk := some ⟨62, 0, false, .arr 1 (.st [.arr 2 .leaf, .leaf]), .agg [.agg [.agg [.u64 0, .u64 0], .nils]]⟩

def Iw60 (ks : List (BitVec 8)) (H : Heap) (k : Nat) (st : St) : Prop :=
  ∃ (i : Nat) (w u1 u2 u3 u4 u5 za oa ka : AV) (L : Heap), st = ⟨[.agg (ks.map .u8), .ptr H.length 0 [0] (.arr 32 .leaf), .ptr (H.length + 1) 0 [0] (.st [.arr 2 .leaf, .leaf]), .ptr (H.length + 2) 0 [0] (.st [.leaf, .leaf]),
      .ptr (H.length + 3) 0 [0] (.st [.arr 2 .leaf, .leaf]), .ptr (H.length + 4) 0 [0] (.st [.leaf, .leaf]), w, u1, u2, u3, .int (i : Int), u4, u5],
    H ++ kbx ks :: s0B :: rB .nils .nils :: sB ks ka :: rB za oa :: L⟩ ∧ k = 128 - i ∧ i ≤ 128 ∧
    ((i = 0 ∧ za = .nils ∧ oa = .nils ∧ ka = .nils ∧ L = []) ∨ (0 < i ∧ za = .own (H.length + 8) i [] 0 i (.arr 32 .leaf) ∧ oa = .own (H.length + 10) i [] 0 i (.arr 32 .leaf) ∧ ka = .own (H.length + 12) i [] 0 i (.arr 32 .leaf) ∧
      ∃ g1 g2 g3 g4 g5 J lz lo lk, L = g1 :: g2 :: g3 :: lB i lz :: g4 :: lB i lo :: g5 :: lB i lk :: J ∧ lz = sdL (zS ks) i ∧ lo = sdL (oS ks) i ∧ lk = sdL (kS ks) i))

theorem f40 {K : AV → Heap → Prop} {H : Heap} {ks : List (BitVec 8)} (hk : ks.length = 32) (h : K (.tup [.agg [rowV (wdg ks 9 0) (wdg ks 9 1), .ro (.arr 32 .leaf) (sdL (kS ks) 128)], .agg [.ro (.arr 32 .leaf) (sdL (zS ks) 128), .ro (.arr 32 .leaf) (sdL (oS ks) 128)]]) H) : wpF P G 40 [.agg (ks.map .u8)] H K := by
  refine wpF_go c40 rfl 6 ?_
  intro ha hb
  simp only [s40]
  (refine gw1 @hk ?_; try exact True.intro)
  refine f36g (a := 0) (n := 2) hk (by omega) (by omega) ?_
  have e2 : (List.range 2).map (fun i => AV.u64 (wdg ks 9 (0 + i))) = [.u64 (wdg ks 9 0), .u64 (wdg ks 9 1)] := rfl
  rw [e2]
  simp (maxSteps := 2000000) only [↓vS_skip, ↓vS_reg, ↓vS_draw, ↓vS_seq, ↓wS_cond, ↓vS_block, ↓vS_exit, ↓vS_ret, ↓vI_nil, ↓vI_go, ↓wI_gd, ↓stepI_q, ↓stepI_e, ↓stepI_c, ↓stepI_v, ↓vD_nil, ↓vD_go, ↓wD_gd, ↓stepW_q, ↓stepW_e, ↓stepW_c, ↓stepW_v, ↓Kw_app, ↓KwD_app, ↓Kc_app, ↓Kp_app, ↓Kr_app, ↓Ks_n, ↓Ks_r, ↓Ks_x, ↓Kb_n, ↓Kb_r, ↓Kb_x, ↓Ku_n, ↓Ku_r, ↓Ku_x, ↓Kl_n, ↓Kl_r, ↓Kl_x, ↓Kend_n, ↓Kend_r, ↓Two_t, ↓Two_f, ↓unr_succ, ↓GdM_b, ↓GdM_t, ↓CdM_b, ↓TwU_t, ↓TwU_f, ↓ThI_app, ↓ThW_app, ↓ThK_app, ↓ThS_app, ↓stepI_p, ↓stepW_p, ↓stepI_w, ↓stepW_w, ↓xD_w, ↓stepI_n, ↓xD_n, ↓xD_q, ↓xD_e, ↓xD_c, ↓xD_v, ↓xD_p, ↓xD_m, ↓xD_s, ↓vX_nil, ↓vX_go, ↓wX_gd, ↓KwX_app, ↓stepI_m, ↓stepW_m, ↓hasSh_mbool, ↓hasSh_mu8, ↓hasSh_mu16, ↓hasSh_mu32, ↓hasSh_mu64, ↓hasSh_mint, putE_none, putE_var, putE_new, get_t, get_c, qev, eev, rsGet, rvGet, oneOf, binAV, isSh, bvBin, bvOp, bvCmp, bvSh, intBin, intSh, cvAV, unAV, AV.cnt, AV.num, Ken2_s, Ken3_s, htake_1, htake_2, beq_self_eq_true, beq_true, beq_false, Int.toNat_natCast, Int.natCast_nonneg, BitVec.reduceOfInt, BitVec.reduceToNat, bytesOf, List.map_cons, List.replicate_succ, Bool.not_eq_true, maxLen, Nat.reducePow, Nat.reduceMul, List.map_cons, List.map_nil, List.getD_cons_zero, List.getD_cons_succ, List.set_cons_zero, List.set_cons_succ, List.cons_append, List.nil_append, List.append_nil, List.take_succ_cons, List.take_zero, List.take_nil, List.length_cons, List.length_nil, List.replicate_succ, List.replicate_zero, Option.map_some, Option.map_none, List.getElem?_cons_zero, List.getElem?_cons_succ, true_and, and_true, if_true, if_false, ite_true, ite_false, reduceIte, reduceCtorEq, false_or, or_true, true_or, or_false, Option.some.injEq, Prod.mk.injEq, exists_eq_left', exists_eq_left, exists_eq_right, exists_and_left, exists_and_right, exists_const, and_assoc, decide_true, decide_false, Bool.false_eq_true, forall_const, Bool.not_true, Bool.not_false, false_implies, true_implies, Nat.reduceAdd, Nat.reduceSub, Nat.reduceMul, Nat.reduceLT, Nat.reduceLeDiff, Nat.reduceEqDiff, Int.reduceAdd, Int.reduceSub, Int.reduceMul, Int.reduceLT, Int.reduceLE, Int.reduceTMod, Int.reduceTDiv, Int.reduceToNat, Int.reduceEq, Int.reduceNe, Int.reduceNeg, ne_eq, not_false_eq_true, not_true_eq_false, InR, Bool.true_eq_false, Bool.false_eq_true, reduceDIte, Nat.zero_add, Nat.add_zero, Int.cast_ofNat_Int, eq_self, hget_0, hget_k, hget_z, hget_s, hset_0, hset_k, htake_0, lt_own0, lt_ownk, hasAt_nil, hasAt_arr, hasAt_st, hasSh_l, hasSh_aa, hasSh_sa, hasShs_n, hasShs_c, setAll, AV.isCell, Shape.size_leaf, Shape.size_arr, Shape.size_st, Shape.sizes_cons, Shape.sizes_nil, List.length_append, List.append_assoc, List.length_set, stP, ldP, getP, setP, psh, partsOf, slen, rd, dem, demK_own, demK_ptr, demK_agg, demK_tup, demK_fn, demK_ro, demK_rp, demK_bool, demK_u8, demK_u16, demK_u32, demK_u64, demK_int, demK_str, demK_nilp, demK_nils, demK_nilf, demK_un, mapO, AV.bnds, AV.bnd, bne_self_eq_false, AV.plain2, AV.plain, List.all_cons, List.all_nil, List.take_length, List.drop_zero, List.drop_succ_cons, Nat.mul_one, List.getElem?_nil, List.forall_mem_cons, List.not_mem_nil, implies_true, Bool.and_true, Bool.true_and, Bool.and_false, Bool.false_and, and_self, and_false, false_and, Nat.sub_zero, bnds, bnds_bool, bnds_bool', mapO_bool, mapO_bool', bnds_u8, bnds_u8', mapO_u8, mapO_u8', bnds_u16, bnds_u16', mapO_u16, mapO_u16', bnds_u32, bnds_u32', mapO_u32, mapO_u32', bnds_u64, bnds_u64', mapO_u64, mapO_u64', bnds_int, bnds_int', mapO_int, mapO_int', bt, bf, Bool.not_not, nilK_nils, nilK_own, nilK_ro, ninL_n, ninL_c, disL_n, disL_r, disL_c, chkL_n, chkL_c, apartL_e, fp_ld, fp_b2s, fp_st, fp_app, fp_appS, fp_cpy, fp_cpyS, tb_own, tb_ptr, tb_ro, tb_rp, tb_nils, tb_str, ne_ah, ne_ha, cpH, splL, Nat.min_self]
  refine wp_inv (Iw60 ks H) 128 ⟨0, _, _, _, _, _, _, _, _, _, [], rfl, rfl, by omega, .inl ⟨rfl, rfl, rfl, rfl, rfl⟩⟩ ?_
  rintro k st ⟨i, w, u1, u2, u3, u4, u5, za, oa, ka, L, rfl, rfl, hi, hc⟩
  unfold kbx s0B rB sB
  by_cases hil : i < 128
  · have hlt : ((i : Int) < 128) = True := by simp; omega
    have c1 : BitVec.ofInt 64 (2 * (i : Int)) = BitVec.ofNat 64 (2 * i) := by
      apply BitVec.eq_of_toNat_eq
      rw [BitVec.toNat_ofInt, BitVec.toNat_ofNat]
      omega
    have c2 : BitVec.ofInt 64 (2 * (i : Int) + 1) = BitVec.ofNat 64 (2 * i + 1) := by
      apply BitVec.eq_of_toNat_eq
      rw [BitVec.toNat_ofInt, BitVec.toNat_ofNat]
      omega
    have b1 : (-9223372036854775808 : Int) ≤ 2 * (i : Int) := by omega
    have b2 : 2 * (i : Int) ≤ 9223372036854775807 := by omega
    have b3 : (-9223372036854775808 : Int) ≤ 2 * (i : Int) + 1 := by omega
    have b4 : 2 * (i : Int) + 1 ≤ 9223372036854775807 := by omega
    have b5 : (-9223372036854775808 : Int) ≤ (i : Int) + 1 := by omega
    have b6 : (i : Int) + 1 ≤ 9223372036854775807 := by omega
    have hz := zS_len (ks := ks) (i := i)
    have ho := oS_len (ks := ks) (i := i)
    rcases hc with ⟨hi0, rfl, rfl, rfl, rfl⟩ | ⟨hi0, rfl, rfl, rfl, g1, g2, g3, g4, g5, J, lz, lo, lk, rfl, hlz, hlo, hlk⟩
    · (refine gw4 @hlt @c1 @b1 @b2 ?_; try exact True.intro)
      refine drawp _ (fun H' => f39 hk ⟨rfl, rfl⟩) ?_ bnd0_agg8
      rw [show child ks (BitVec.ofNat 64 (2 * i)) = zS ks i from rfl]
      (refine gw6 @hlt @c2 @b1 @b2 @b3 @b4 ?_; try exact True.intro)
      refine drawp _ (fun H' => f39 hk ⟨rfl, rfl⟩) ?_ bnd0_agg8
      rw [show child ks (BitVec.ofNat 64 (2 * i + 1)) = oS ks i from rfl]
      (refine gw8 @hlt @c2 @b1 @b2 @b3 @b4 @hz @ho ?_; try exact True.intro)
      refine f45 ?_
      by_cases hr : rb (wdg ks 9 0) (wdg ks 9 1) i = true
      · have hk2 : kS ks i = oS ks i := by unfold kS; rw [if_pos hr]
        (refine gw5 @hr @hz @ho @b5 @b6 ?_; try exact True.intro)
        subst hi0
        exact ⟨127, by omega, 1, _, _, _, _, _, _, _, _, _, _, rfl, rfl, by omega, .inr ⟨by omega, rfl, rfl, rfl, _, _, _, _, _, [], _, _, _, rfl, rfl, rfl, by rw [← hk2]; rfl⟩⟩
      · have hk2 : kS ks i = zS ks i := by unfold kS; rw [if_neg hr]
        rw [Bool.not_eq_true] at hr
        (refine gw5 @hr @hz @ho @b5 @b6 ?_; try exact True.intro)
        subst hi0
        exact ⟨127, by omega, 1, _, _, _, _, _, _, _, _, _, _, rfl, rfl, by omega, .inr ⟨by omega, rfl, rfl, rfl, _, _, _, _, _, [], _, _, _, rfl, rfl, rfl, by rw [← hk2]; rfl⟩⟩
    · unfold lB
      (refine gw4 @hlt @c1 @b1 @b2 ?_; try exact True.intro)
      refine drawp _ (fun H' => f39 hk ⟨rfl, rfl⟩) ?_ bnd0_agg8
      rw [show child ks (BitVec.ofNat 64 (2 * i)) = zS ks i from rfl]
      (refine gw6 @hlt @c2 @b1 @b2 @b3 @b4 ?_; try exact True.intro)
      refine drawp _ (fun H' => f39 hk ⟨rfl, rfl⟩) ?_ bnd0_agg8
      rw [show child ks (BitVec.ofNat 64 (2 * i + 1)) = oS ks i from rfl]
      (refine gw8 @hlt @c2 @b1 @b2 @b3 @b4 @hz @ho ?_; try exact True.intro)
      (repeat (refine And.intro (by omega) ?_))
      refine f45 ?_
      by_cases hr : rb (wdg ks 9 0) (wdg ks 9 1) i = true
      · have hk2 : kS ks i = oS ks i := by unfold kS; rw [if_pos hr]
        (refine gw5 @hr @hz @ho @b5 @b6 ?_; try exact True.intro)
        (repeat (refine And.intro (by omega) ?_))
        exact ⟨128 - (i + 1), by omega, i + 1, _, _, _, _, _, _, _, _, _, _, rfl, rfl, by omega, .inr ⟨by omega, rfl, rfl, rfl, _, _, _, _, _, _, _, _, _, rfl, by rw [hlz]; exact sdL_succ, by rw [hlo]; exact sdL_succ, by rw [hlk, ← hk2]; exact sdL_succ⟩⟩
      · have hk2 : kS ks i = zS ks i := by unfold kS; rw [if_neg hr]
        rw [Bool.not_eq_true] at hr
        (refine gw5 @hr @hz @ho @b5 @b6 ?_; try exact True.intro)
        (repeat (refine And.intro (by omega) ?_))
        exact ⟨128 - (i + 1), by omega, i + 1, _, _, _, _, _, _, _, _, _, _, rfl, rfl, by omega, .inr ⟨by omega, rfl, rfl, rfl, _, _, _, _, _, _, _, _, _, rfl, by rw [hlz]; exact sdL_succ, by rw [hlo]; exact sdL_succ, by rw [hlk, ← hk2]; exact sdL_succ⟩⟩
  · have hlt : ((i : Int) < 128) = False := by simp; omega
    rcases hc with ⟨hi0, _⟩ | ⟨hi0, rfl, rfl, rfl, g1, g2, g3, g4, g5, J, lz, lo, lk, rfl, hlz, hlo, hlk⟩
    · omega
    have hi8 : i = 128 := by omega
    subst hi8
    unfold lB
    have mz : ∀ {f : Nat → List (BitVec 8)} {kp : Nat → Bool} {N : Nat} {h : Heap}, mapO (demK kp N h 3) (List.take 128 (sdL f 128)) = some (sdL f 128) := mapO_sd
    unfold rowV at h
    subst hlz hlo hlk
    (refine gw2 @hlt @mz ?_; try exact True.intro)
    exact h

/-! the reference's -/
theorem kS_len {ks : List (BitVec 8)} {i : Nat} : (kS ks i).length = 32 := by unfold kS; split; exact oS_len; exact zS_len
def sndA (ks : List (BitVec 8)) : AV := .agg [.agg [.u64 (wdg ks 9 0), .u64 (wdg ks 9 1)], .ro (.arr 32 .leaf) (sdL (kS ks) 128)]
def rcvA (ks : List (BitVec 8)) : AV := .agg [.ro (.arr 32 .leaf) (sdL (zS ks) 128), .ro (.arr 32 .leaf) (sdL (oS ks) 128)]
def dirA (ks : List (BitVec 8)) : AV := .agg [.agg [.u64 (wdg ks 9 0), .u64 (wdg ks 9 1)], .ro (.arr 32 .leaf) (sdL (zS ks) 128), .ro (.arr 32 .leaf) (sdL (oS ks) 128), .ro (.arr 32 .leaf) (sdL (kS ks) 128)]

theorem demK_aggI {kp : Nat → Bool} {N : Nat} {h : Heap} {d : Nat} {l : List AV} (hx : ∀ x ∈ l, demK kp N h d x = some x) : demK kp N h (d + 1) (.agg l) = some (.agg l) := by
  rw [demK_agg, mapO_of hx]; rfl
theorem demK_tupI {kp : Nat → Bool} {N : Nat} {h : Heap} {d : Nat} {l : List AV} (hx : ∀ x ∈ l, demK kp N h d x = some x) : demK kp N h (d + 1) (.tup l) = some (.tup l) := by
  rw [demK_tup, mapO_of hx]; rfl
theorem demK_roI {kp : Nat → Bool} {N : Nat} {h : Heap} {d : Nat} {e : Shape} {z : List AV} (hz : AV.bnds N z = true) : demK kp N h (d + 1) (.ro e z) = some (.ro e z) := by rw [demK_ro, if_pos hz]
theorem dem_row {kp : Nat → Bool} {N : Nat} {h : Heap} {d : Nat} {x y : BitVec 64} : demK kp N h (d + 2) (.agg [.u64 x, .u64 y]) = some (.agg [.u64 x, .u64 y]) :=
  demK_aggI (by simp only [List.forall_mem_cons, List.not_mem_nil, false_implies, implies_true, and_true]; exact ⟨demK_u64, demK_u64⟩)
theorem f26 {K : AV → Heap → Prop} {H : Heap} {ks : List (BitVec 8)} {n : BitVec 64} (hk : ks.length = 32) (h : K (.tup [.agg [sndA (child (child ks n) 0), rcvA (child (child ks n) 1)], .agg [sndA (child (child ks n) 1), rcvA (child (child ks n) 0)]]) H) : wpF P G 26 [.agg (ks.map .u8), .u64 n] H K := by
  refine wpF_go c26 rfl 6 ?_
  intro ha hb
  simp only [s26]
  (refine gw1 @hk ?_; try exact True.intro)
  refine f39 hk ?_
  have h1 := child_len ks n
  generalize child ks n = r at h h1 ⊢
  (refine gw1 @h1 ?_; try exact True.intro)
  refine f39 h1 ?_
  have h2 := child_len r 0
  have h3 := child_len r 1
  generalize child r 0 = r0 at h h2 ⊢
  (refine gw0 ?_; try exact True.intro)
  refine f40 h2 ?_
  simp only [rowV]
  (refine gw0 ?_; try exact True.intro)
  refine f39 h1 ?_
  generalize child r 1 = r1 at h h3 ⊢
  (refine gw0 ?_; try exact True.intro)
  refine f40 h3 ?_
  simp only [rowV, sndA, rcvA] at h ⊢
  have hzr0 : ∀ {k : Nat}, AV.bnds k (sdL (zS r0) 128) = true := bnds_sd
  generalize sdL (zS r0) 128 = zr0 at hzr0 h ⊢
  have hor0 : ∀ {k : Nat}, AV.bnds k (sdL (oS r0) 128) = true := bnds_sd
  generalize sdL (oS r0) 128 = or0 at hor0 h ⊢
  have hkr0 : ∀ {k : Nat}, AV.bnds k (sdL (kS r0) 128) = true := bnds_sd
  generalize sdL (kS r0) 128 = kr0 at hkr0 h ⊢
  have hzr1 : ∀ {k : Nat}, AV.bnds k (sdL (zS r1) 128) = true := bnds_sd
  generalize sdL (zS r1) 128 = zr1 at hzr1 h ⊢
  have hor1 : ∀ {k : Nat}, AV.bnds k (sdL (oS r1) 128) = true := bnds_sd
  generalize sdL (oS r1) 128 = or1 at hor1 h ⊢
  have hkr1 : ∀ {k : Nat}, AV.bnds k (sdL (kS r1) 128) = true := bnds_sd
  generalize sdL (kS r1) 128 = kr1 at hkr1 h ⊢
  generalize wdg r0 9 0 = x0 at h ⊢
  generalize wdg r0 9 1 = y0 at h ⊢
  generalize wdg r1 9 0 = x1 at h ⊢
  generalize wdg r1 9 1 = y1 at h ⊢
  simp (maxSteps := 2000000) only [↓vS_skip, ↓vS_reg, ↓vS_draw, ↓vS_seq, ↓wS_cond, ↓vS_block, ↓vS_exit, ↓vS_ret, ↓vI_nil, ↓vI_go, ↓wI_gd, ↓stepI_q, ↓stepI_e, ↓stepI_c, ↓stepI_v, ↓vD_nil, ↓vD_go, ↓wD_gd, ↓stepW_q, ↓stepW_e, ↓stepW_c, ↓stepW_v, ↓Kw_app, ↓KwD_app, ↓Kc_app, ↓Kp_app, ↓Kr_app, ↓Ks_n, ↓Ks_r, ↓Ks_x, ↓Kb_n, ↓Kb_r, ↓Kb_x, ↓Ku_n, ↓Ku_r, ↓Ku_x, ↓Kl_n, ↓Kl_r, ↓Kl_x, ↓Kend_n, ↓Kend_r, ↓Two_t, ↓Two_f, ↓unr_succ, ↓GdM_b, ↓GdM_t, ↓CdM_b, ↓TwU_t, ↓TwU_f, ↓ThI_app, ↓ThW_app, ↓ThK_app, ↓ThS_app, ↓stepI_p, ↓stepW_p, ↓stepI_w, ↓stepW_w, ↓xD_w, ↓stepI_n, ↓xD_n, ↓xD_q, ↓xD_e, ↓xD_c, ↓xD_v, ↓xD_p, ↓xD_m, ↓xD_s, ↓vX_nil, ↓vX_go, ↓wX_gd, ↓KwX_app, ↓stepI_m, ↓stepW_m, ↓hasSh_mbool, ↓hasSh_mu8, ↓hasSh_mu16, ↓hasSh_mu32, ↓hasSh_mu64, ↓hasSh_mint, putE_none, putE_var, putE_new, get_t, get_c, qev, eev, rsGet, rvGet, oneOf, binAV, isSh, bvBin, bvOp, bvCmp, bvSh, intBin, intSh, cvAV, unAV, AV.cnt, AV.num, Ken2_s, Ken3_s, htake_1, htake_2, beq_self_eq_true, beq_true, beq_false, Int.toNat_natCast, Int.natCast_nonneg, BitVec.reduceOfInt, BitVec.reduceToNat, bytesOf, List.map_cons, List.replicate_succ, Bool.not_eq_true, maxLen, Nat.reducePow, Nat.reduceMul, List.map_cons, List.map_nil, List.getD_cons_zero, List.getD_cons_succ, List.set_cons_zero, List.set_cons_succ, List.cons_append, List.nil_append, List.append_nil, List.take_succ_cons, List.take_zero, List.take_nil, List.length_cons, List.length_nil, List.replicate_succ, List.replicate_zero, Option.map_some, Option.map_none, List.getElem?_cons_zero, List.getElem?_cons_succ, true_and, and_true, if_true, if_false, ite_true, ite_false, reduceIte, reduceCtorEq, false_or, or_true, true_or, or_false, Option.some.injEq, Prod.mk.injEq, exists_eq_left', exists_eq_left, exists_eq_right, exists_and_left, exists_and_right, exists_const, and_assoc, decide_true, decide_false, Bool.false_eq_true, forall_const, Bool.not_true, Bool.not_false, false_implies, true_implies, Nat.reduceAdd, Nat.reduceSub, Nat.reduceMul, Nat.reduceLT, Nat.reduceLeDiff, Nat.reduceEqDiff, Int.reduceAdd, Int.reduceSub, Int.reduceMul, Int.reduceLT, Int.reduceLE, Int.reduceTMod, Int.reduceTDiv, Int.reduceToNat, Int.reduceEq, Int.reduceNe, Int.reduceNeg, ne_eq, not_false_eq_true, not_true_eq_false, InR, Bool.true_eq_false, Bool.false_eq_true, reduceDIte, Nat.zero_add, Nat.add_zero, Int.cast_ofNat_Int, eq_self, hget_0, hget_k, hget_z, hget_s, hset_0, hset_k, htake_0, lt_own0, lt_ownk, hasAt_nil, hasAt_arr, hasAt_st, hasSh_l, hasSh_aa, hasSh_sa, hasShs_n, hasShs_c, setAll, AV.isCell, Shape.size_leaf, Shape.size_arr, Shape.size_st, Shape.sizes_cons, Shape.sizes_nil, List.length_append, List.append_assoc, List.length_set, stP, ldP, getP, setP, psh, partsOf, slen, rd, demK_own, demK_ptr, demK_agg, demK_tup, demK_fn, demK_ro, demK_rp, demK_bool, demK_u8, demK_u16, demK_u32, demK_u64, demK_int, demK_str, demK_nilp, demK_nils, demK_nilf, demK_un, mapO, AV.bnds, AV.bnd, bne_self_eq_false, AV.plain2, AV.plain, List.all_cons, List.all_nil, List.take_length, List.drop_zero, List.drop_succ_cons, Nat.mul_one, List.getElem?_nil, List.forall_mem_cons, List.not_mem_nil, implies_true, Bool.and_true, Bool.true_and, Bool.and_false, Bool.false_and, and_self, and_false, false_and, Nat.sub_zero, bnds, bnds_bool, bnds_bool', mapO_bool, mapO_bool', bnds_u8, bnds_u8', mapO_u8, mapO_u8', bnds_u16, bnds_u16', mapO_u16, mapO_u16', bnds_u32, bnds_u32', mapO_u32, mapO_u32', bnds_u64, bnds_u64', mapO_u64, mapO_u64', bnds_int, bnds_int', mapO_int, mapO_int', bt, bf, Bool.not_not, nilK_nils, nilK_own, nilK_ro, ninL_n, ninL_c, disL_n, disL_r, disL_c, chkL_n, chkL_c, apartL_e, fp_ld, fp_b2s, fp_st, fp_app, fp_appS, fp_cpy, fp_cpyS, tb_own, tb_ptr, tb_ro, tb_rp, tb_nils, tb_str, ne_ah, ne_ha, hk]
  have hdem : ∀ {hp : Heap}, dem H.length hp 6 (.tup [.agg [.agg [.agg [.u64 x0, .u64 y0], .ro (.arr 32 .leaf) kr0], .agg [.ro (.arr 32 .leaf) zr1, .ro (.arr 32 .leaf) or1]], .agg [.agg [.agg [.u64 x1, .u64 y1], .ro (.arr 32 .leaf) kr1], .agg [.ro (.arr 32 .leaf) zr0, .ro (.arr 32 .leaf) or0]]]) =
      some (.tup [.agg [.agg [.agg [.u64 x0, .u64 y0], .ro (.arr 32 .leaf) kr0], .agg [.ro (.arr 32 .leaf) zr1, .ro (.arr 32 .leaf) or1]], .agg [.agg [.agg [.u64 x1, .u64 y1], .ro (.arr 32 .leaf) kr1], .agg [.ro (.arr 32 .leaf) zr0, .ro (.arr 32 .leaf) or0]]]) := by
    intro hp
    unfold dem
    refine demK_tupI ?_
    simp only [List.forall_mem_cons, List.not_mem_nil, false_implies, implies_true, and_true]
    refine ⟨demK_aggI ?_, demK_aggI ?_⟩
    · simp only [List.forall_mem_cons, List.not_mem_nil, false_implies, implies_true, and_true]
      refine ⟨demK_aggI ?_, demK_aggI ?_⟩
      · simp only [List.forall_mem_cons, List.not_mem_nil, false_implies, implies_true, and_true]
        exact ⟨dem_row, demK_roI hkr0⟩
      · simp only [List.forall_mem_cons, List.not_mem_nil, false_implies, implies_true, and_true]
        exact ⟨demK_roI hzr1, demK_roI hor1⟩
    · simp only [List.forall_mem_cons, List.not_mem_nil, false_implies, implies_true, and_true]
      refine ⟨demK_aggI ?_, demK_aggI ?_⟩
      · simp only [List.forall_mem_cons, List.not_mem_nil, false_implies, implies_true, and_true]
        exact ⟨dem_row, demK_roI hkr1⟩
      · simp only [List.forall_mem_cons, List.not_mem_nil, false_implies, implies_true, and_true]
        exact ⟨demK_roI hzr0, demK_roI hor0⟩
  rw [hdem]
  (refine gw0 ?_; try exact True.intro)
  exact h

/-- the words in their box -/
def sqb (g : Nat → Nat → Bool) : Option Blk := some ⟨118, 0, false, .arr 1 (.arr 64 .leaf), .agg [.agg (sqA g)]⟩
/-- what is still to be done from a step on -/
def fin6 (s : Nat) (g : Nat → Nat → Bool) : Nat → Nat → Bool :=
  if s = 32 then six g else if s = 16 then swp 1 (swp 2 (swp 4 (swp 8 (swp 16 g)))) else if s = 8 then swp 1 (swp 2 (swp 4 (swp 8 g)))
  else if s = 4 then swp 1 (swp 2 (swp 4 g)) else if s = 2 then swp 1 (swp 2 g) else if s = 1 then swp 1 g else g
theorem fin6_step {s : Nat} {g : Nat → Nat → Bool} (h : stp s) : fin6 s g = fin6 (s / 2) (swp s g) := by
  rcases h with rfl | rfl | rfl | rfl | rfl | rfl <;> rfl
theorem stp_half {s : Nat} (h : stp s) : (stp (s / 2) ∧ stpM s ^^^ stpM s <<< (s / 2) = stpM (s / 2)) ∨ s / 2 = 0 := by
  rcases h with rfl | rfl | rfl | rfl | rfl | rfl <;> first | exact .inl ⟨by unfold stp; decide, by decide⟩ | exact .inr rfl
def I64a (H0 L : Heap) (g : Nat → Nat → Bool) (k : Nat) (st : St) : Prop :=
  ∃ (m : BitVec 64) (g' : Nat → Nat → Bool) (u3 u4 u5 u6 u7 : AV), st = ⟨[.ptr H0.length 0 [0] (.arr 64 .leaf), .u64 m, .int (k : Int), u3, u4, u5, u6, u7], H0 ++ sqb g' :: L⟩ ∧ fin6 k g' = six g ∧ (k = 0 ∨ (stp k ∧ m = stpM k))
def I64b (H0 L : Heap) (s : Nat) (g : Nat → Nat → Bool) (u5 : AV) (k : Nat) (st : St) : Prop :=
  ∃ (t : Nat) (u4 u6 u7 : AV), st = ⟨[.ptr H0.length 0 [0] (.arr 64 .leaf), .u64 (stpM s), .int (s : Int), .int (t : Int), u4, u5, u6, u7], H0 ++ sqb (swt s t g) :: L⟩ ∧ k = 64 - t ∧ t ≤ 64
theorem sqb_congr {g g' : Nat → Nat → Bool} (h : sqA g = sqA g') : sqb g = sqb g' := by unfold sqb; rw [h]

theorem f61 {K : AV → Heap → Prop} {H0 L : Heap} {g : Nat → Nat → Bool} (h : K (.tup []) (H0 ++ sqb (fun i b => g b i) :: L)) : wpF P G 61 [.ptr H0.length 0 [0] (.arr 64 .leaf)] (H0 ++ sqb g :: L) K := by
  refine wpF_goM c61 rfl ?_
  intro hA hB
  simp only [s61]
  (refine gw3 @Kmut_n @Kmut_r @Km2_s ?_; try exact True.intro)
  refine wp_inv (I64a H0 L g) 32 ⟨_, g, _, _, _, _, _, rfl, rfl, .inr ⟨.inl rfl, rfl⟩⟩ ?_
  rintro s st ⟨m, g', u3, u4, u5, u6, u7, rfl, hf, hs⟩
  rcases hs with rfl | ⟨hs, rfl⟩
  · have h0 : (0 < ((0 : Nat) : Int)) = False := by simp
    (refine gw4 @h0 @Kmut_n @Kmut_r @Km2_s ?_; try exact True.intro)
    have e : sqb g' = sqb fun i b => g b i := sqb_congr (by rw [show g' = six g from hf]; exact sqA_six)
    have hlen : H0.length + (L.length + 1) = (H0 ++ sqb g :: L).length := by simp
    refine ⟨Nat.le_refl _, ?_, ?_⟩
    · rw [hlen]
      exact HBnd_upd hB (by rintro blk h; cases h; simp only [AV.bnd, AV.bnds, Bool.and_true]; exact bnds_u64)
    · rw [List.take_of_length_le (by simp), e]
      exact h
  · have h0 : (0 < (s : Int)) = True := by have := (st_pos hs).1; simp; omega
    (refine gw4 @h0 @Kmut_n @Kmut_r @Km2_s ?_; try exact True.intro)
    refine wp_inv (I64b H0 L s g' (.bool true)) 64 ⟨0, _, _, _, by rw [sqb_congr (swt_zero fun i hi h => (st1 hs hi h).1)]; rfl, rfl, by omega⟩ ?_
    rintro k st ⟨t, u4, u6, u7, rfl, rfl, ht⟩
    clear hA hB h
    have hp := st_pos hs
    have s1 : (BitVec.ofInt 64 (s : Int)).toNat = s := ofInt64_nat (by omega)
    by_cases htl : t < 64
    · have h1 : ((t : Int) < 64) = True := by simp; omega
      have hand : (BitVec.ofInt 64 (t : Int) &&& BitVec.ofInt 64 (s : Int)).toInt = ((t &&& s : Nat) : Int) := by
        rw [BitVec.toInt_eq_toNat_of_lt, BitVec.toNat_and, ofInt64_nat (by omega), s1]
        rw [BitVec.toNat_and, ofInt64_nat (by omega)]
        exact Nat.lt_of_le_of_lt (Nat.mul_le_mul_left 2 Nat.and_le_left) (by omega)
      by_cases hz : t &&& s = 0
      · have hz' : (((t &&& s : Nat) : Int) = 0) = True := by rw [hz]; simp
        have hb := st0 hs htl hz
        have gt := sqA_at (g := swt s t g') htl
        have gt2 := sqA_at (g := swt s t g') hb.1
        rw [swt_a hz] at gt
        rw [swt_b hs htl hz] at gt2
        have hadd : (t : Int) + (s : Int) = ((t + s : Nat) : Int) := by omega
        have hl2 : (((t + s : Nat) : Int) < 64) = True := by simp; omega
        have hset := sw_step (g := g') hs htl hz rfl
        unfold swx at hset
        unfold sqb
        have gt3 : ∀ X, ((sqA (swt s t g')).set t X)[t + s]? = some (.u64 (wd (g' (t + s)) 0)) := fun X => by rw [List.getElem?_set_ne (by omega), gt2]
        (refine gw13 @h1 @hand @hz' @gt @gt2 @gt3 @hadd @hl2 @s1 @hset @Kmut_n @Kmut_r @Km2_s ?_; try exact True.intro)
        (repeat (refine And.intro (by omega) ?_))
        exact ⟨64 - (t + 1), by omega, t + 1, _, _, _, rfl, rfl, by omega⟩
      · have hz' : (((t &&& s : Nat) : Int) = 0) = False := by simp; exact hz
        (refine gw6 @h1 @hand @hz' @Kmut_n @Kmut_r @Km2_s ?_; try exact True.intro)
        (repeat (refine And.intro (by omega) ?_))
        rw [sqb_congr (swt_skip (g := g') hs htl hz).symm]
        exact ⟨64 - (t + 1), by omega, t + 1, _, _, _, rfl, rfl, by omega⟩
    · have h1 : ((t : Int) < 64) = False := by simp; omega
      have ht' : t = 64 := by omega
      subst ht'
      have hfd : (s : Int).fdiv (2 ^ min 1 64) = ((s / 2 : Nat) : Int) := by
        rw [show (2 : Int) ^ min 1 64 = ((2 : Nat) : Int) from rfl, Int.fdiv_eq_ediv_of_nonneg _ (by omega)]; rfl
      have s2 : (BitVec.ofInt 64 ((s / 2 : Nat) : Int)).toNat = s / 2 := ofInt64_nat (by omega)
      (refine gw6 @h1 @hfd @s2 @Kmut_n @Kmut_r @Km2_s ?_; try exact True.intro)
      (repeat (refine And.intro (by omega) ?_))
      rw [sqb_congr (swt_all (s := s) (g := g'))]
      refine ⟨s / 2, by omega, _, swp s g', _, _, _, _, _, rfl, by rw [← fin6_step hs]; exact hf, ?_⟩
      rcases stp_half hs with ⟨a, b⟩ | a
      · exact .inr ⟨a, b⟩
      · exact .inl a
theorem f61' {K : AV → Heap → Prop} {H0 L Hx : Heap} {g : Nat → Nat → Bool} {m : Nat} {l : List AV} (hm : m = H0.length) (hl : l = sqA g) (hx : Hx = H0 ++ (some ⟨118, 0, false, .arr 1 (.arr 64 .leaf), .agg [.agg l]⟩ : Option Blk) :: L) (h : K (.tup []) (H0 ++ sqb (fun i b => g b i) :: L)) : wpF P G 61 [.ptr m 0 [0] (.arr 64 .leaf)] Hx K := by
  subst hm hl hx
  exact f61 h
/-- rows as Go has them -/
def rwA (x y : Nat → BitVec 64) (n : Nat) : List AV := (List.range n).map fun j => rowV (x j) (y j)
theorem rwA_len {x y : Nat → BitVec 64} {n : Nat} : (rwA x y n).length = n := by simp [rwA]
theorem rwA_get {x y : Nat → BitVec 64} {n j : Nat} (h : j < n) : (rwA x y n).getD j .un = rowV (x j) (y j) := ld_rng h
/-- bit i of each row -/
def colf (x y : Nat → BitVec 64) (i : Nat) (j : Nat) : Bool := rb (x j) (y j) (i : Int)
def cbL (x y : Nat → BitVec 64) (i n : Nat) : List AV := (List.range n).map fun j => .bool (colf x y i j)
def boB (t : Nat) (l : List AV) : Option Blk := some ⟨4, t, true, .arr t .leaf, .agg l⟩
def Ix40 (x y : Nat → BitVec 64) (i n : Nat) (H : Heap) (k : Nat) (st : St) : Prop :=
  ∃ (t : Nat) (out u : AV) (L : Heap), st = ⟨[.ro (.arr 2 .leaf) (rwA x y n), .int (i : Int), .nils, out, .int (t : Int), u], H ++ L⟩ ∧ k = n - t ∧ t ≤ n ∧
    ((t = 0 ∧ out = .nils ∧ L = []) ∨ (0 < t ∧ out = .own (H.length + 1) t [] 0 t .leaf ∧ ∃ g J l, L = g :: boB t l :: J ∧ l = cbL x y i t))
/-! columns out of bytes -/
def chk (s : List (BitVec 8)) (z i : Nat) : List (BitVec 8) := (s.drop (i * z)).take z
def vS : Shape := .st [.leaf, .leaf]
def vB (t : Nat) (l : List AV) : Option Blk := some ⟨42, t, true, .arr t vS, .agg l⟩
/-- columns as Go has them -/
def veL (m : Nat → Nat) (f : Nat → Nat → Bool) (t : Nat) : List AV := (List.range t).map fun i => vec (m i) (f i)
theorem veL_len {m : Nat → Nat} {f : Nat → Nat → Bool} {t : Nat} : (veL m f t).length = t := by simp [veL]
theorem veL_get {m : Nat → Nat} {f : Nat → Nat → Bool} {t i : Nat} (h : i < t) : (veL m f t).getD i .un = vec (m i) (f i) := ld_rng h
theorem veL_succ {m : Nat → Nat} {f : Nat → Nat → Bool} {t : Nat} : veL m f t ++ [vec (m t) (f t)] = veL m f (t + 1) := by simp [veL, List.range_succ]
theorem veL_congr {m m' : Nat → Nat} {f f' : Nat → Nat → Bool} {t : Nat} (h : ∀ i, i < t → m i = m' i ∧ f i = f' i) : veL m f t = veL m' f' t := by
  unfold veL
  refine List.map_congr_left fun i hi => ?_
  rw [(h i (List.mem_range.1 hi)).1, (h i (List.mem_range.1 hi)).2]
theorem demK_vec {kp : Nat → Bool} {N : Nat} {h : Heap} {d : Nat} {n : Nat} {f : Nat → Bool} : demK kp N h (d + 3) (vec n f) = some (vec n f) := by
  unfold vec
  rw [demK_agg]
  simp only [mapO, demK_int, demK_ro, bndA, if_true, Option.map_some]
theorem mapO_ofT {kp : Nat → Bool} {N : Nat} {h : Heap} {d : Nat} : ∀ {l : List AV}, (∀ x ∈ l, demK kp N h d x = some x) → mapO (demK kp N h d) l = some l
  | [], _ => rfl
  | x :: l, hx => by
    simp only [mapO]
    rw [hx x (by simp), mapO_ofT fun y hy => hx y (by simp [hy])]
theorem mapO_veL {kp : Nat → Bool} {N : Nat} {h : Heap} {d : Nat} {m : Nat → Nat} {f : Nat → Nat → Bool} {t : Nat} : mapO (demK kp N h (d + 3)) (veL m f t) = some (veL m f t) := by
  refine mapO_ofT fun x hx => ?_
  obtain ⟨j, _, rfl⟩ := List.mem_map.1 hx
  exact demK_vec
theorem bnds_veL {m : Nat → Nat} {f : Nat → Nat → Bool} {t k : Nat} : AV.bnds k (veL m f t) = true := by
  refine bnds_iff.2 fun x hx => ?_
  obtain ⟨j, _, rfl⟩ := List.mem_map.1 hx
  simp only [vec, AV.bnd, AV.bnds, bndA, Bool.and_true]
theorem chk_len {s : List (BitVec 8)} {z i : Nat} (hs : s.length = 128 * z) (hi : i < 128) : (chk s z i).length = z := by
  unfold chk
  have := Nat.mul_le_mul_right z (show i + 1 ≤ 128 by omega)
  rw [Nat.add_mul] at this
  rw [List.length_take, List.length_drop]
  omega
/-! the reference's columns out of bytes -/
def bel (n : Nat) (f : Nat → Bool) : AV := if n = 0 then .nils else .ro .leaf ((List.range n).map fun i => .bool (f i))
def beL (n : Nat) (f : Nat → Nat → Bool) (t : Nat) : List AV := (List.range t).map fun i => bel n (f i)
theorem beL_len {n : Nat} {f : Nat → Nat → Bool} {t : Nat} : (beL n f t).length = t := by simp [beL]
theorem beL_get {n : Nat} {f : Nat → Nat → Bool} {t i : Nat} (h : i < t) : (beL n f t).getD i .un = bel n (f i) := ld_rng h
theorem beL_succ {n : Nat} {f : Nat → Nat → Bool} {t : Nat} : beL n f t ++ [bel n (f t)] = beL n f (t + 1) := by simp [beL, List.range_succ]
theorem bel_isL {n : Nat} {f : Nat → Bool} : isL (bel n f) (((List.range n).map f).map .bool) := by
  unfold bel isL
  by_cases h : n = 0
  · subst h; exact .inr ⟨rfl, rfl⟩
  · rw [if_neg h]; exact .inl (by rw [List.map_map]; rfl)
theorem demK_bel {kp : Nat → Bool} {N : Nat} {h : Heap} {d : Nat} {n : Nat} {f : Nat → Bool} : demK kp N h (d + 2) (bel n f) = some (bel n f) := by
  unfold bel
  by_cases hn : n = 0
  · rw [if_pos hn]; rfl
  · rw [if_neg hn, demK_ro, if_pos bnds_bool]
theorem mapO_beL {kp : Nat → Bool} {N : Nat} {h : Heap} {d : Nat} {n : Nat} {f : Nat → Nat → Bool} {t : Nat} : mapO (demK kp N h (d + 2)) (beL n f t) = some (beL n f t) := by
  refine mapO_ofT fun x hx => ?_
  obtain ⟨j, _, rfl⟩ := List.mem_map.1 hx
  exact demK_bel
theorem bel_cell {n : Nat} {f : Nat → Bool} : (match bel n f with | AV.agg ps => false | AV.tup ps => false | AV.un => false | x => true) = true := by
  unfold bel
  by_cases h : n = 0
  · rw [if_pos h]
  · rw [if_neg h]
def lsB (t : Nat) (l : List AV) : Option Blk := some ⟨39, t, true, .arr t .leaf, .agg l⟩
/-! columns as bytes -/
def yB (t q : Nat) (s : List (BitVec 8)) : Option Blk := some ⟨5, t, true, .arr q .leaf, .agg (s.map .u8)⟩
def rawB (l : List AV) : Option Blk := some ⟨40, 0, true, .arr 128 .leaf, .agg l⟩
def wbx (l : List AV) : Option Blk := some ⟨118, 0, false, .arr 1 (.arr 64 .leaf), .agg [.agg l]⟩
theorem f44c {K : AV → Heap → Prop} {H : Heap} {m : Nat → Nat} {f : Nat → Nat → Bool} {q : Nat} (hq : q ≠ 128) (h : K (.tup [.nils, .int 11]) H) : wpF P G 44 [.ro vS (veL m f q)] H K := by
  refine wpF_go c44 rfl 4 ?_
  intro ha hb
  simp only [s44]
  have hl := veL_len (m := m) (f := f) (t := q)
  have h1 : ((q : Int) = 128) = False := by simp only [eq_iff_iff, iff_false]; omega
  (refine gw2 @hl @h1 ?_; try exact True.intro)
  exact h
/-- the words of the columns, one row of them after another -/
def reE (n : Nat) (f : Nat → Nat → Bool) (t : Nat) : List AV := (List.range 128).map fun i => if i < t then .ro .leaf (wdA n (f i)) else .nils
theorem reE_len {n : Nat} {f : Nat → Nat → Bool} {t : Nat} : (reE n f t).length = 128 := by simp [reE]
theorem reE_set {n : Nat} {f : Nat → Nat → Bool} {t : Nat} : (reE n f t).set t (.ro .leaf (wdA n (f t))) = reE n f (t + 1) := by
  unfold reE
  rw [rng_set]
  refine rng_congr fun k hk => ?_
  by_cases e : k = t
  · subst e; rw [if_pos rfl, if_pos (by omega)]
  · rw [if_neg e]
    by_cases h2 : k < t
    · rw [if_pos h2, if_pos (by omega)]
    · rw [if_neg h2, if_neg (by omega)]
theorem reE_at {n : Nat} {f : Nat → Nat → Bool} {i : Nat} (hi : i < 128) : (reE n f 128)[i]? = some (.ro .leaf (wdA n (f i))) := by
  unfold reE
  rw [List.getElem?_map, List.getElem?_range hi]
  simp [hi]
def I41a (m : Nat → Nat) (f : Nat → Nat → Bool) (H : Heap) (k : Nat) (st : St) : Prop :=
  ∃ (t : Nat) (u5 u6 u17 u18 : AV) (E : List AV) (J : Heap), st = ⟨[.ro vS (veL m f 128), .nils, .int 0, .int (m 0 : Nat), .own H.length 0 [] 0 128 .leaf, u5, u6, .un, .un, .un, .un, .un, .un, .bool false, .ro vS (veL m f 128), .int 128, .int (t : Int), u17, u18, .un, .un, .un, .un, .un, .un],
    H ++ rawB E :: J⟩ ∧ k = 128 - t ∧ t ≤ 128 ∧ (∀ i, i < t → m i = m 0) ∧ E.length = 128 ∧ (0 < m 0 → E = reE (m 0) f t)

/-- the words of the rows -/
def XY (f : Nat → Nat → Bool) (h j : Nat) : BitVec 64 := wd (fun b => f (64 * h + b) j) 0
def owE (f : Nat → Nat → Bool) (n h c : Nat) : List AV := (List.range n).map fun j =>
  .agg [.u64 (if h = 0 then (if j < c then XY f 0 j else 0) else XY f 0 j), .u64 (if h = 0 then 0 else if h = 1 then (if j < c then XY f 1 j else 0) else XY f 1 j)]
theorem owE_len {f : Nat → Nat → Bool} {n h c : Nat} : (owE f n h c).length = n := by simp [owE]
theorem owE_0 {f : Nat → Nat → Bool} {n : Nat} : List.replicate n (AV.agg [.u64 0, .u64 0]) = owE f n 0 0 := by
  unfold owE
  apply List.ext_getElem?
  intro j
  by_cases hj : j < n
  · rw [List.getElem?_replicate, if_pos hj, List.getElem?_map, List.getElem?_range hj]
    simp
  · rw [List.getElem?_eq_none (by simp; omega), List.getElem?_eq_none (by simp; omega)]
theorem owE_congr {f : Nat → Nat → Bool} {n h c c' : Nat} (hc : ∀ j, j < n → (j < c ↔ j < c')) : owE f n h c = owE f n h c' := by
  unfold owE
  refine rng_congr fun j hj => ?_
  simp only [hc j hj]
theorem owE_next {f : Nat → Nat → Bool} {n h c : Nat} (hh : h < 2) (hc : n ≤ c) : owE f n h c = owE f n (h + 1) 0 := by
  unfold owE
  refine rng_congr fun j hj => ?_
  have : j < c := by omega
  rcases (show h = 0 ∨ h = 1 by omega) with rfl | rfl <;> simp [this]
theorem owE_2 {f : Nat → Nat → Bool} {n c : Nat} : owE f n 2 c = rwA (XY f 0) (XY f 1) n := by
  unfold owE rwA rowV
  refine rng_congr fun j hj => ?_
  simp
def owV (f : Nat → Nat → Bool) (h j : Nat) : AV := .agg [.u64 (if h = 0 then 0 else XY f 0 j), .u64 0]
theorem owE_at {f : Nat → Nat → Bool} {n h j : Nat} (hh : h < 2) (hj : j < n) : (owE f n h j)[j]? = some (.agg [.u64 (if h = 0 then 0 else XY f 0 j), .u64 0]) := by
  unfold owE
  rw [List.getElem?_map, List.getElem?_range hj]
  rcases (show h = 0 ∨ h = 1 by omega) with rfl | rfl <;> simp
theorem owE_set {f : Nat → Nat → Bool} {n h j : Nat} (hh : h < 2) (hj : j < n) :
    (owE f n h j).set j (.agg ([AV.u64 (if h = 0 then 0 else XY f 0 j), .u64 0].set h (.u64 (XY f h j)))) = owE f n h (j + 1) := by
  unfold owE
  rw [rng_set]
  refine rng_congr fun k hk => ?_
  by_cases e : k = j
  · subst e
    rw [if_pos rfl]
    have : k < k + 1 := by omega
    rcases (show h = 0 ∨ h = 1 by omega) with rfl | rfl <;> simp [this]
  · rw [if_neg e]
    have : (k < j) = (k < j + 1) := by simp only [eq_iff_iff]; omega
    simp only [this]
theorem two_at {a b : AV} {h : Nat} (hh : h < 2) : ∃ c, [a, b][h]? = some c := by
  rcases (show h = 0 ∨ h = 1 by omega) with rfl | rfl
  · exact ⟨_, rfl⟩
  · exact ⟨_, rfl⟩
/-- the words that are turned -/
def wrL (f : Nat → Nat → Bool) (h q i : Nat) : List AV := (List.range 64).map fun k => .u64 (if k < i then wd (f (64 * h + k)) q else 0)
theorem wrL_at {f : Nat → Nat → Bool} {h q i : Nat} (hi : i < 64) : (wrL f h q i)[i]? = some (.u64 0) := by
  unfold wrL
  rw [List.getElem?_map, List.getElem?_range hi]
  simp
theorem wrL_set {f : Nat → Nat → Bool} {h q i : Nat} : (wrL f h q i).set i (.u64 (wd (f (64 * h + i)) q)) = wrL f h q (i + 1) := by
  unfold wrL
  rw [rng_set]
  refine rng_congr fun k hk => ?_
  by_cases e : k = i
  · subst e; rw [if_pos rfl, if_pos (by omega)]
  · rw [if_neg e]
    by_cases h2 : k < i
    · rw [if_pos h2, if_pos (by omega)]
    · rw [if_neg h2, if_neg (by omega)]
theorem wrL_sq {f : Nat → Nat → Bool} {h q : Nat} : wrL f h q 64 = sqA fun i b => f (64 * h + i) (64 * q + b) := by
  unfold wrL sqA
  refine rng_congr fun i hi => ?_
  rw [if_pos hi]
  exact congrArg _ (wd_of fun b hb => by rw [wd_bit hb, Nat.mul_zero, Nat.zero_add])
theorem XY_sq {f : Nat → Nat → Bool} {h q j : Nat} : wd (fun b => f (64 * h + b) (64 * q + j)) 0 = XY f h (64 * q + j) := rfl
def oB (n : Nat) (l : List AV) : Option Blk := some ⟨24, 0, true, .arr n (.arr 2 .leaf), .agg l⟩
def I41b (A : AV) (f : Nat → Nat → Bool) (n : Nat) (H L : Heap) (M : Nat) (k : Nat) (st : St) : Prop :=
  ∃ (h : Nat) (u5 u6 u8 u9 u10 u11 u12 u18 u20 u21 u22 u23 u24 : AV) (J : Heap), st = ⟨[A, .nils, .int 0, .int (n : Int), .own H.length 0 [] 0 128 .leaf, u5, u6, .own (H.length + M) 0 [] 0 n (.arr 2 .leaf), u8, u9, u10, u11, u12, .bool false, A, .int 128, .int 128, .bool false, u18, .int (h : Int), u20, u21, u22, u23, u24],
    H ++ (L ++ oB n (owE f n h 0) :: J)⟩ ∧ k = 2 - h ∧ h ≤ 2
def I41c (A : AV) (f : Nat → Nat → Bool) (n : Nat) (H L : Heap) (M : Nat) (h : Nat) (u5 u6 u18 : AV) (k : Nat) (st : St) : Prop :=
  ∃ (q : Nat) (u10 u11 u12 u21 u22 u23 u24 : AV) (J : Heap), st = ⟨[A, .nils, .int 0, .int (n : Int), .own H.length 0 [] 0 128 .leaf, u5, u6, .own (H.length + M) 0 [] 0 n (.arr 2 .leaf), .int (h : Int), .int ((64 * q : Nat) : Int), u10, u11, u12, .bool false, A, .int 128, .int 128, .bool false, u18, .int (h : Int), .bool true, u21, u22, u23, u24],
    H ++ (L ++ oB n (owE f n h (64 * q)) :: J)⟩ ∧ k = nw n - q ∧ q ≤ nw n
def I41d (A : AV) (f : Nat → Nat → Bool) (n : Nat) (H L : Heap) (M : Nat) (h q : Nat) (u5 u6 u12 u18 u24 : AV) (J : Heap) (k : Nat) (st : St) : Prop :=
  ∃ (i : Nat) (u11 u23 : AV), st = ⟨[A, .nils, .int 0, .int (n : Int), .own H.length 0 [] 0 128 .leaf, u5, u6, .own (H.length + M) 0 [] 0 n (.arr 2 .leaf), .int (h : Int), .int ((64 * q : Nat) : Int), .ptr (H.length + (M + (J.length + 1))) 0 [0] (.arr 64 .leaf), u11, u12, .bool false, A, .int 128, .int 128, .bool false, u18, .int (h : Int), .bool true, .bool true, .int (i : Int), u23, u24],
    H ++ (L ++ oB n (owE f n h (64 * q)) :: (J ++ [wbx (wrL f h q i)]))⟩ ∧ k = 64 - i ∧ i ≤ 64
def I41e (A : AV) (f : Nat → Nat → Bool) (n : Nat) (H L : Heap) (M : Nat) (h q : Nat) (u5 u6 u11 u18 : AV) (J : Heap) (w : Option Blk) (k : Nat) (st : St) : Prop :=
  ∃ (j : Nat) (u24 : AV), st = ⟨[A, .nils, .int 0, .int (n : Int), .own H.length 0 [] 0 128 .leaf, u5, u6, .own (H.length + M) 0 [] 0 n (.arr 2 .leaf), .int (h : Int), .int ((64 * q : Nat) : Int), .ptr (H.length + (M + (J.length + 1))) 0 [0] (.arr 64 .leaf), u11, .int (j : Int), .bool false, A, .int 128, .int 128, .bool false, u18, .int (h : Int), .bool true, .bool true, .int 64, .bool false, u24],
    H ++ (L ++ oB n (owE f n h (64 * q + j)) :: (J ++ [w]))⟩ ∧ k = 64 - j ∧ j ≤ 64 ∧ 64 * q + j ≤ n
theorem mapO_rw {kp : Nat → Bool} {N : Nat} {h : Heap} {d : Nat} {x y : Nat → BitVec 64} {t : Nat} : mapO (demK kp N h (d + 2)) (rwA x y t) = some (rwA x y t) := by
  refine mapO_ofT fun x hx => ?_
  obtain ⟨j, _, rfl⟩ := List.mem_map.1 hx
  rfl

theorem f44 {K : AV → Heap → Prop} {H : Heap} {m : Nat → Nat} {f : Nat → Nat → Bool} (hm : ∀ i, m i ≤ 65536)
    (hbad : (∃ i, i < 128 ∧ m i ≠ m 0) → K (.tup [.nils, .int 11]) H)
    (hgood : (∀ i, i < 128 → m i = m 0) → K (.tup [.ro (.arr 2 .leaf) (rwA (fun j => wd (fun b => f (64 * 0 + b) j) 0) (fun j => wd (fun b => f (64 * 1 + b) j) 0) (m 0)), .int 0]) H) : wpF P G 44 [.ro vS (veL m f 128)] H K := by
  refine wpF_go c44 rfl 5 ?_
  intro ha hb
  simp only [s44]
  have hl := veL_len (m := m) (f := f) (t := 128)
  have g0 := veL_get (m := m) (f := f) (t := 128) (i := 0) (by omega)
  (refine gw2 @hl @g0 ?_; try exact True.intro)
  refine ⟨rfl, f21 ?_⟩
  (refine gw1 @hl ?_; try exact True.intro)
  refine wp_inv (I41a m f H) 128 ⟨0, _, _, _, _, List.replicate 128 .nils, [], rfl, rfl, by omega, fun i hi => absurd hi (Nat.not_lt_zero i), rfl, fun _ => rfl⟩ ?_
  rintro k st ⟨t, u5, u6, u17, u18, E, J, rfl, rfl, ht, hr, hE, hEr⟩
  by_cases htl : t < 128
  · have h4 : ((t : Int) < 128) = True := by simp only [eq_iff_iff, iff_true]; omega
    have gt := veL_get (m := m) (f := f) (t := 128) (i := t) htl
    have hmt := hm t
    have hEt := lget_at (ps := E) (i := t) (by omega)
    unfold rawB
    by_cases hq : m t = m 0
    · have hq' : (((m t : Nat) : Int) = ((m 0 : Nat) : Int)) = True := by rw [hq]; simp
      have hr' : ∀ i, i < t + 1 → m i = m 0 := fun i hi => by
        by_cases e : i = t
        · rw [e]; exact hq
        · exact hr i (by omega)
      unfold vec at gt
      (refine gw3 @h4 @hl @gt ?_; try exact True.intro)
      refine ⟨rfl, f21 ?_⟩
      (refine gw1 @hq' ?_; try exact True.intro)
      refine f60 (by omega) ?_ (fun h0 => ?_)
      · (refine gw2 @hE @hEt ?_; try exact True.intro)
        (repeat (refine And.intro (by omega) ?_))
        exact ⟨128 - (t + 1), by omega, t + 1, _, _, _, _, _, _, rfl, rfl, by omega, hr', by simp [hE], fun h0 => by rw [hEr h0, hq]; exact reE_set⟩
      · (refine gw2 @hE @hEt ?_; try exact True.intro)
        (repeat (refine And.intro (by omega) ?_))
        exact ⟨128 - (t + 1), by omega, t + 1, _, _, _, _, _, _, rfl, rfl, by omega, hr', by simp [hE], fun h0 => by omega⟩
    · have hq' : (((m t : Nat) : Int) = ((m 0 : Nat) : Int)) = False := by simp only [eq_iff_iff, iff_false]; omega
      unfold vec at gt
      (refine gw3 @h4 @hl @gt ?_; try exact True.intro)
      refine ⟨rfl, f21 ?_⟩
      (refine gw1 @hq' ?_; try exact True.intro)
      exact hbad ⟨t, htl, hq⟩
  · have ht' : t = 128 := by omega
    subst ht'
    have h4 : ((128 : Int) < 128) = False := by simp
    have hres := hgood hr
    rw [show rwA (fun j => wd (fun b => f (64 * 0 + b) j) 0) (fun j => wd (fun b => f (64 * 1 + b) j) 0) (m 0) = rwA (XY f 0) (XY f 1) (m 0) from rfl] at hres
    have hn := hm 0
    clear hgood hbad hr hm g0 hl
    generalize m 0 = n at *
    generalize hA : AV.ro vS (veL m f 128) = A at *
    have gr : ∀ X : List (Option Blk), Heap.get (rawB E :: J ++ X) 0 = rawB E := fun X => rfl
    have hM : (rawB E :: J).length = J.length + 1 := rfl
    have hw : nw n ≤ 1024 := by unfold nw; omega
    (refine gw1 @h4 ?_; try exact True.intro)
    (repeat (refine And.intro (by omega) ?_))
    refine wp_inv (I41b A f n H (rawB E :: J) (J.length + 1)) 2 ⟨0, _, _, _, _, _, _, _, _, _, _, _, _, _, [], by rw [← owE_0]; rfl, rfl, by omega⟩ ?_
    generalize (rawB E :: J) = L at gr hM ⊢
    generalize J.length + 1 = M at hM ⊢
    have gM : ∀ (X : List (Option Blk)), Heap.get (L ++ X) M = Heap.get X 0 := fun X => by rw [← hM, hget_0]
    have gMk : ∀ (X : List (Option Blk)) k, Heap.get (L ++ X) (M + k) = Heap.get X k := fun X k => by rw [← hM, hget_k]
    have sM : ∀ (X : List (Option Blk)) b, List.set (L ++ X) M b = L ++ List.set X 0 b := fun X b => by rw [← hM, hset_0]
    have sMk : ∀ (X : List (Option Blk)) k b, List.set (L ++ X) (M + k) b = L ++ List.set X k b := fun X k b => by rw [← hM, hset_k]
    clear hA ha hb u5 u6 u17 u18
    rintro k st ⟨h', u5, u6, u8, u9, u10, u11, u12, u18, u20, u21, u22, u23, u24, J, rfl, rfl, hh⟩
    by_cases hhl : h' < 2
    · have h3 : ((h' : Int) < 2) = True := by simp only [eq_iff_iff, iff_true]; omega
      (refine gw1 @h3 ?_; try exact True.intro)
      refine wp_inv (I41c A f n H L M h' u5 u6 u18) (nw n) ⟨0, _, _, _, _, _, _, _, J, rfl, rfl, by omega⟩ ?_
      rintro k st ⟨q, u10, u11, u12, u21, u22, u23, u24, J, rfl, rfl, hq⟩
      by_cases hql : q < nw n
      · have hqn : 64 * q < n := by unfold nw at hql; omega
        have h5 : (((64 * q : Nat) : Int) < (n : Int)) = True := by simp only [eq_iff_iff, iff_true]; omega
        have hEr := hEr (by omega)
        (refine gw2 @h5 @hM ?_; try exact True.intro)
        refine wp_inv (I41d A f n H L M h' q u5 u6 u12 u18 u24 J) 64 ⟨0, _, _, rfl, rfl, by omega⟩ ?_
        rintro k st ⟨i, u11, u23, rfl, rfl, hi⟩
        by_cases hil : i < 64
        · have h6 : ((i : Int) < 64) = True := by simp only [eq_iff_iff, iff_true]; omega
          have e8 : 64 * (h' : Int) = ((64 * h' : Nat) : Int) := by omega
          have e9 : ((64 * h' : Nat) : Int) + (i : Int) = ((64 * h' + i : Nat) : Int) := by omega
          have e10 : Int.tdiv ((64 * q : Nat) : Int) 64 = (q : Int) := by rw [tdiv64]; simp
          have gi := reE_at (n := n) (f := f) (i := 64 * h' + i) (by omega)
          rw [← hEr] at gi
          have gw : (wdA n (f (64 * h' + i))).getD q .un = .u64 (wd (f (64 * h' + i)) q) := ld_rng hql
          have hw1 := wrL_at (f := f) (h := h') (q := q) hil
          have hw2 := wrL_set (f := f) (h := h') (q := q) (i := i)
          have hwl := wdA_len (n := n) (f := f (64 * h' + i))
          have h9 : (((64 * h' + i : Nat) : Int) < 128) = True := by simp only [eq_iff_iff, iff_true]; omega
          unfold wbx
          unfold rawB at gr
          (refine gw14 @h6 @e8 @e9 @e10 @gr @gi @gw @hw1 @hw2 @gM @gMk @sMk @hwl @h9 ?_; try exact True.intro)
          (repeat (refine And.intro (by omega) ?_))
          exact ⟨64 - (i + 1), by omega, i + 1, _, _, rfl, rfl, by omega⟩
        · have hie : i = 64 := by omega
          subst hie
          have h6 : ((64 : Int) < 64) = False := by simp
          (refine gw1 @h6 ?_; try exact True.intro)
          refine f61' (H0 := H ++ (L ++ oB n (owE f n h' (64 * q)) :: J)) (L := []) (g := fun i b => f (64 * h' + i) (64 * q + b)) (l := wrL f h' q 64) (by simp [hM, Nat.add_assoc]) wrL_sq (by simp [wbx]) ?_
          (refine gw0 ?_; try exact True.intro)
          refine wp_inv (I41e A f n H L M h' q u5 u6 u11 u18 J (sqb fun i b => f (64 * h' + b) (64 * q + i))) 64 ⟨0, _, rfl, rfl, by omega, by omega⟩ ?_
          rintro k st ⟨j, u24, rfl, rfl, hj, hjn⟩
          have e5 : ((64 * q : Nat) : Int) + (j : Int) = ((64 * q + j : Nat) : Int) := by omega
          by_cases hjl : j < 64 ∧ 64 * q + j < n
          · have h6 : ((j : Int) < 64) = True := by simp only [eq_iff_iff, iff_true]; omega
            have h7 : (((64 * q + j : Nat) : Int) < (n : Int)) = True := by simp only [eq_iff_iff, iff_true]; omega
            have hw1 := sqA_at (g := fun i b => f (64 * h' + b) (64 * q + i)) hjl.1
            have ho1 := owE_at (f := f) hhl hjl.2
            have ho2 := owE_set (f := f) hhl hjl.2
            obtain ⟨c, hc⟩ := two_at (a := AV.u64 (if h' = 0 then 0 else XY f 0 (64 * q + j))) (b := .u64 0) hhl
            unfold sqb oB
            rw [XY_sq] at hw1
            (refine gw10 @h6 @h7 @e5 @gM @gMk @sM @hw1 @ho1 @ho2 @hc ?_; try exact True.intro)
            (repeat (refine And.intro (by omega) ?_))
            exact ⟨64 - (j + 1), by omega, j + 1, _, rfl, rfl, by omega, by omega⟩
          · have e11 : ((64 * q : Nat) : Int) + 64 = ((64 * (q + 1) : Nat) : Int) := by omega
            have hoc := owE_congr (f := f) (n := n) (h := h') (c := 64 * q + j) (c' := 64 * (q + 1)) (by intro k hk; omega)
            rw [hoc]
            rcases Nat.lt_or_ge j 64 with hj6 | hj6
            · have h6 : ((j : Int) < 64) = True := by simp only [eq_iff_iff, iff_true]; omega
              have h7 : (((64 * q + j : Nat) : Int) < (n : Int)) = False := by simp only [eq_iff_iff, iff_false]; omega
              (refine gw4 @h6 @h7 @e5 @e11 ?_; try exact True.intro)
              (repeat (refine And.intro (by omega) ?_))
              exact ⟨nw n - (q + 1), by omega, q + 1, _, _, _, _, _, _, _, _, rfl, rfl, by omega⟩
            · have h6 : ((j : Int) < 64) = False := by simp only [eq_iff_iff, iff_false]; omega
              (refine gw2 @h6 @e11 ?_; try exact True.intro)
              (repeat (refine And.intro (by omega) ?_))
              exact ⟨nw n - (q + 1), by omega, q + 1, _, _, _, _, _, _, _, _, rfl, rfl, by omega⟩
      · have h5 : (((64 * q : Nat) : Int) < (n : Int)) = False := by unfold nw at hql; simp only [eq_iff_iff, iff_false]; omega
        have hqe : q = nw n := by omega
        (refine gw1 @h5 ?_; try exact True.intro)
        (repeat (refine And.intro (by omega) ?_))
        refine ⟨2 - (h' + 1), by omega, h' + 1, _, _, _, _, _, _, _, _, _, _, _, _, _, J, by rw [← owE_next (c := 64 * q) hhl (by rw [hqe]; unfold nw; omega)]; rfl, rfl, by omega⟩
    · have hhe : h' = 2 := by omega
      subst hhe
      have h3 : ((2 : Int) < 2) = False := by simp
      have hlo := owE_2 (f := f) (n := n) (c := 0)
      have hll : List.take n (rwA (XY f 0) (XY f 1) n) = rwA (XY f 0) (XY f 1) n := List.take_of_length_le (by rw [rwA_len]; exact Nat.le_refl _)
      have hmo : mapO (demK (fun b => decide (b < H.length)) H.length (H ++ (L ++ oB n (rwA (XY f 0) (XY f 1) n) :: J)) 3) (rwA (XY f 0) (XY f 1) n) = some (rwA (XY f 0) (XY f 1) n) := mapO_rw
      rw [hlo]
      unfold oB at *
      (refine gw4 @h3 @gM @hll @hmo ?_; try exact True.intro)
      exact hres
/-- a list of truths as Go has it: none, or some -/
def tel (n : Nat) (f : Nat → Bool) : AV := bel n f
def teL (m : Nat → Nat) (f : Nat → Nat → Bool) (t : Nat) : List AV := (List.range t).map fun i => bel (m i) (f i)
theorem teL_len {m : Nat → Nat} {f : Nat → Nat → Bool} {t : Nat} : (teL m f t).length = t := by simp [teL]
theorem teL_get {m : Nat → Nat} {f : Nat → Nat → Bool} {t i : Nat} (h : i < t) : (teL m f t).getD i .un = bel (m i) (f i) := ld_rng h
/-- bits of a list of truths -/
theorem bfn_of {n : Nat} {f : Nat → Bool} : bfn ((List.range n).map f) = cut n f := by
  funext i
  unfold bfn cut
  by_cases h : i < n
  · rw [List.getD_eq_getElem?_getD, List.getElem?_map, List.getElem?_range h, decide_eq_true h]; simp
  · rw [List.getD_eq_getElem?_getD, List.getElem?_eq_none (by simp; omega), decide_eq_false h]; simp
theorem f16n {K : AV → Heap → Prop} {H : Heap} {f : Nat → Bool} (h : K (.tup [vec 0 f, .int 0]) H) : wpF P G 16 [.nils] H K := by
  refine wpF_go c16 rfl 4 ?_
  intro ha hb
  simp only [s16]
  (refine gw0 ?_; try exact True.intro)
  refine f35 (n := 0) (by omega) ?_
  intro B
  have e2 : H.length + 1 + 1 = H.length + 2 := rfl
  (refine gw1 @e2 ?_; try exact True.intro)
  unfold wblk
  refine wp_unroll 1 ?_
  have hz : nw 0 = 0 := rfl
  have hw : wdA 0 (fun _ => false) = [] := rfl
  (refine gw2 @hz @hw ?_; try exact True.intro)
  exact h
theorem f16b {K : AV → Heap → Prop} {H : Heap} {n : Nat} {f : Nat → Bool} (hn : n ≤ 1000000) (h : K (.tup [vec n (cut n f), .int 0]) H) : wpF P G 16 [bel n f] H K := by
  unfold bel
  by_cases h0 : n = 0
  · subst h0
    rw [if_pos rfl]
    exact f16n (by simpa [cut_zero] using h)
  · rw [if_neg h0, show ((List.range n).map fun i => AV.bool (f i)) = ((List.range n).map f).map .bool by rw [List.map_map]; rfl]
    have hl : ((List.range n).map f).length = n := by simp
    refine f16 (by omega) ?_
    rw [hl, bfn_of]
    exact h
def Ix50 (m : Nat → Nat) (f : Nat → Nat → Bool) (q : Nat) (H : Heap) (k : Nat) (st : St) : Prop :=
  ∃ (t : Nat) (out u4 u5 : AV) (L : Heap), st = ⟨[.ro .leaf (teL m f q), .nils, out, .int (t : Int), u4, u5], H ++ L⟩ ∧ k = q - t ∧ t ≤ q ∧
    ((t = 0 ∧ out = .nils ∧ L = []) ∨ (0 < t ∧ out = .own (H.length + 2) t [] 0 t vS ∧ ∃ g1 g2 J l, L = g1 :: g2 :: vB t l :: J ∧ l = veL m (fun i => cut (m i) (f i)) t))
/-- a list of truths that was made: none yet, or in a block between two places -/
def bl (N : Nat) (L : Heap) (lo hi : Nat) (x : AV) (n : Nat) (f : Nat → Bool) : Prop :=
  (n = 0 ∧ x = .nils) ∨ (0 < n ∧ ∃ b, lo ≤ b ∧ b < hi ∧ x = .own (N + b) n [] 0 n .leaf ∧ Heap.get L b = boB n ((List.range n).map fun j => .bool (f j)))
theorem bl.mono {N : Nat} {L : Heap} {lo hi hi' : Nat} {x : AV} {n : Nat} {f : Nat → Bool} (h : bl N L lo hi x n f) (hh : hi ≤ hi') : bl N L 0 hi' x n f := by
  rcases h with h | ⟨h0, b, h1, h2, h3, h4⟩
  · exact .inl h
  · exact .inr ⟨h0, b, by omega, by omega, h3, h4⟩
theorem bl.mono2 {N : Nat} {L : Heap} {lo hi hi' : Nat} {x : AV} {n : Nat} {f : Nat → Bool} (h : bl N L lo hi x n f) (hh : hi ≤ hi') : bl N L lo hi' x n f := by
  rcases h with h | ⟨h0, b, h1, h2, h3, h4⟩
  · exact .inl h
  · exact .inr ⟨h0, b, by omega, by omega, h3, h4⟩
theorem bl.push {N : Nat} {L : Heap} {lo hi : Nat} {x : AV} {n : Nat} {f : Nat → Bool} (h : bl N L lo hi x n f) (X : List (Option Blk)) : bl N (L ++ X) lo hi x n f := by
  rcases h with h | ⟨h0, b, h1, h2, h3, h4⟩
  · exact .inl h
  · exact .inr ⟨h0, b, h1, h2, h3, Heap.get_some_append h4⟩
theorem bl.set {N : Nat} {L : Heap} {lo hi : Nat} {x : AV} {n : Nat} {f : Nat → Bool} (h : bl N L lo hi x n f) {b' : Nat} {y : Option Blk} (hb : b' < L.length) (hne : hi ≤ b' ∨ (Heap.get L b').map (·.e) ≠ some 4) : bl N (List.set L b' y) lo hi x n f := by
  rcases h with h | ⟨h0, b, h1, h2, h3, h4⟩
  · exact .inl h
  · refine .inr ⟨h0, b, h1, h2, h3, ?_⟩
    rw [Heap.get_set _ _ _ _ hb, if_neg, h4]
    intro e
    subst e
    rcases hne with h | h
    · omega
    · rw [h4] at h; exact h rfl
/-- the list of the lists that were made -/
def LL (N : Nat) (L : Heap) (B : Nat) (l : AV) (i : Nat) (es : List AV) (m : Nat → Nat) (g : Nat → Nat → Bool) : Prop :=
  es.length = i ∧ B ≤ L.length ∧ ((i = 0 ∧ l = .nils) ∨ (0 < i ∧ ∃ a, a < B ∧ l = .own (N + a) i [] 0 i .leaf ∧ Heap.get L a = lsB i es)) ∧ ∀ t, t < i → bl N L 0 B (es.getD t .un) (m t) (g t)
theorem LL.push {N : Nat} {L : Heap} {B : Nat} {l : AV} {i : Nat} {es : List AV} {m : Nat → Nat} {g : Nat → Nat → Bool} (h : LL N L B l i es m g) (X : List (Option Blk)) : LL N (L ++ X) B l i es m g := by
  obtain ⟨h1, h2, h3, h4⟩ := h
  refine ⟨h1, by simp; omega, ?_, fun t ht => (h4 t ht).push X⟩
  rcases h3 with h | ⟨h0, a, g1, g2, g3⟩
  · exact .inl h
  · exact .inr ⟨h0, a, g1, g2, Heap.get_some_append g3⟩
theorem LL.set {N : Nat} {L : Heap} {B : Nat} {l : AV} {i : Nat} {es : List AV} {m : Nat → Nat} {g : Nat → Nat → Bool} (h : LL N L B l i es m g) {b : Nat} {y : Option Blk} (hb : B ≤ b) (hb2 : b < L.length) : LL N (List.set L b y) B l i es m g := by
  obtain ⟨h1, h2, h3, h4⟩ := h
  refine ⟨h1, by simp; omega, ?_, fun t ht => (h4 t ht).set hb2 (.inl hb)⟩
  rcases h3 with h | ⟨h0, a, g1, g2, g3⟩
  · exact .inl h
  · exact .inr ⟨h0, a, g1, g2, by rw [Heap.get_set _ _ _ _ hb2, if_neg (by omega), g3]⟩
theorem boL_succ {n : Nat} {f : Nat → Bool} : ((List.range n).map fun j => AV.bool (f j)) ++ [.bool (f n)] = (List.range (n + 1)).map fun j => .bool (f j) := by simp [List.range_succ]
/-- one more truth: the list's first -/
theorem bl_new {N : Nat} {L : Heap} {lo : Nat} {f : Nat → Bool} {v : Bool} (hv : f 0 = v) (hlo : lo ≤ L.length) (x0 : Option Blk) :
    bl N (L ++ [x0, some ⟨4, 1, true, .arr 1 .leaf, .agg [.bool v]⟩]) lo (L.length + 2) (.own (N + (L.length + 1)) 1 [] 0 1 .leaf) 1 f := by
  refine .inr ⟨by omega, L.length + 1, by omega, by omega, rfl, ?_⟩
  rw [hget_k, ← hv]
  rfl
theorem bl_app {N : Nat} {L : Heap} {lo b j : Nat} {f : Nat → Bool} {v : Bool} (hv : f j = v) (h1 : lo ≤ b) (h2 : b < L.length) (X : List (Option Blk)) :
    bl N (List.set L b (some ⟨4, j + 1, true, .arr (j + 1) .leaf, .agg (((List.range j).map fun j => .bool (f j)) ++ [.bool v])⟩) ++ X) lo (List.set L b (some ⟨4, j + 1, true, .arr (j + 1) .leaf, .agg (((List.range j).map fun j => .bool (f j)) ++ [.bool v])⟩) ++ X).length (.own (N + b) (j + 1) [] 0 (j + 1) .leaf) (j + 1) f := by
  refine .inr ⟨by omega, b, h1, by simp; omega, rfl, ?_⟩
  rw [Heap.get_append _ _ _ (by rw [List.length_set]; exact h2), Heap.get_set _ _ _ _ h2, if_pos rfl, ← hv, boL_succ]
  rfl
theorem lsE_at {es : List AV} {c : AV} {t : Nat} (h : t < es.length) : (es ++ [c]).getD t .un = es.getD t .un := by
  rw [List.getD_eq_getElem?_getD, List.getElem?_append_left h, List.getD_eq_getElem?_getD]
theorem lsE_end {es : List AV} {c : AV} : (es ++ [c]).getD es.length .un = c := by simp
/-- one list more -/
theorem LL.snoc {N : Nat} {L L' : Heap} {B B' : Nat} {l l' c : AV} {i : Nat} {es : List AV} {m : Nat → Nat} {g : Nat → Nat → Bool} (h : LL N L B l i es m g) (hc : bl N L' 0 B' c (m i) (g i)) (hB : B ≤ B') (hB' : B' ≤ L'.length)
    (hl : ∃ a, a < B' ∧ l' = .own (N + a) (i + 1) [] 0 (i + 1) .leaf ∧ Heap.get L' a = lsB (i + 1) (es ++ [c])) (hk : ∀ t, t < i → bl N L' 0 B (es.getD t .un) (m t) (g t)) : LL N L' B' l' (i + 1) (es ++ [c]) m g := by
  obtain ⟨h1, h2, h3, h4⟩ := h
  refine ⟨by simp [h1], hB', .inr ⟨by omega, hl⟩, fun t ht => ?_⟩
  by_cases e : t < i
  · rw [lsE_at (by omega)]
    exact (hk t e).mono hB
  · have : t = es.length := by omega
    subst this
    rw [lsE_end, h1]
    exact hc

theorem bl_cell {N : Nat} {L : Heap} {lo hi : Nat} {x : AV} {n : Nat} {f : Nat → Bool} (h : bl N L lo hi x n f) : x.isCell = true := by
  rcases h with ⟨_, rfl⟩ | ⟨_, b, _, _, rfl, _⟩ <;> rfl
theorem cell_m {x : AV} : x.isCell = true → (match x with | AV.agg ps => false | AV.tup ps => false | AV.un => false | x => true) = true := fun h => h
theorem LL.fin_nil {N : Nat} {L : Heap} {B : Nat} {l c : AV} {es : List AV} {m : Nat → Nat} {g : Nat → Nat → Bool} (h : LL N L B l 0 es m g) (hc : bl N L B L.length c (m 0) (g 0)) (x0 : Option Blk) :
    LL N (L ++ [x0, some ⟨39, 1, true, .arr 1 .leaf, .agg [c]⟩]) (L.length + 2) (.own (N + (L.length + 1)) 1 [] 0 1 .leaf) 1 (es ++ [c]) m g := by
  have hes : es = [] := List.eq_nil_of_length_eq_zero h.1
  refine h.snoc ((hc.push _).mono (by omega)) (by have := h.2.1; omega) (by simp) ⟨L.length + 1, by omega, rfl, ?_⟩ fun t ht => absurd ht (Nat.not_lt_zero t)
  rw [hget_k, hes]
  rfl
theorem LL.fin_own {N : Nat} {L : Heap} {B i a : Nat} {l c : AV} {es : List AV} {m : Nat → Nat} {g : Nat → Nat → Bool} (h : LL N L B l i es m g) (ha : a < B) (hg : Heap.get L a = lsB i es) (hc : bl N L B L.length c (m i) (g i)) (X : List (Option Blk)) :
    LL N (List.set L a (lsB (i + 1) (es ++ [c])) ++ X) (L.length + X.length) (.own (N + a) (i + 1) [] 0 (i + 1) .leaf) (i + 1) (es ++ [c]) m g := by
  have hB := h.2.1
  have hne : (Heap.get L a).map (·.e) ≠ some 4 := by rw [hg]; simp [lsB]
  refine h.snoc (((hc.set (by omega) (.inr hne)).push _).mono (by omega)) (by omega) (by simp) ⟨a, by omega, rfl, ?_⟩ fun t ht => ((h.2.2.2 t ht).set (by omega) (.inr hne)).push _
  rw [Heap.get_append _ _ _ (by rw [List.length_set]; omega), Heap.get_set _ _ _ _ (by omega), if_pos rfl]
theorem bl.dem {L H : Heap} {lo hi : Nat} {x : AV} {n : Nat} {f : Nat → Bool} (h : bl H.length L lo hi x n f) {M d : Nat} : demK (fun b => decide (b < H.length)) M (H ++ L) (d + 2) x = some (bel n f) := by
  unfold bel
  rcases h with ⟨rfl, rfl⟩ | ⟨h0, b, h1, h2, rfl, h4⟩
  · rfl
  · rw [if_neg (by omega), demK_own, if_neg (by simp; omega)]
    have hr : rd (H ++ L) (.own (H.length + b) n [] 0 n .leaf) = some ((List.range n).map fun j => .bool (f j)) := by
      unfold rd
      simp only [hget_k, h4, boB, if_true, getP, List.drop_zero]
      rw [List.take_of_length_le (by simp)]
    rw [hr]
    simp only
    rw [mapO_bool]
    rfl
theorem LL.dem {L H : Heap} {B : Nat} {l : AV} {i : Nat} {es : List AV} {m : Nat → Nat} {g : Nat → Nat → Bool} (h : LL H.length L B l i es m g) (hi : 0 < i) {M d : Nat} : demK (fun b => decide (b < H.length)) M (H ++ L) (d + 3) l = some (.ro .leaf (teL m g i)) := by
  obtain ⟨h1, h2, h3, h4⟩ := h
  rcases h3 with ⟨h, _⟩ | ⟨h0, a, g1, rfl, g3⟩
  · omega
  · rw [demK_own, if_neg (by simp; omega)]
    have hr : rd (H ++ L) (.own (H.length + a) i [] 0 i .leaf) = some es := by
      unfold rd
      simp only [hget_k, g3, lsB, if_true, getP, List.drop_zero]
      rw [List.take_of_length_le (by omega)]
    rw [hr]
    simp only
    rw [mapO_ext (ys := teL m g i) (by rw [h1, teL_len]) fun t ht => (by rw [teL_get (by omega)]; exact (h4 t (by omega)).dem)]
    rfl
end Go.Proofs.YtjilenmngokhpaaDoor

end

section
/-
  Layer 17 (iknp), as this seat has it.
-/
open Go Go.V
namespace Go.Proofs.YtjilenmngokhpaaDoor
set_option maxRecDepth 100000
set_option linter.unusedSimpArgs false
set_option linter.unusedVariables false
/-- trefoil/iknp.Receive (0:r, 1:from, 2:choices, 3:r, 5:choices, 6:, 7:, 8:, 9:n, 10:e, 11:send, 12:own, 13:i, 14:t, 15:e, 16:u, 17:rows, 18:e, 25:, 36:, 37:, 38:, 52:, 66:) -/
def s27 : FnS := ⟨97, [0, 1, 2, 3, 5, 6, 7, 8, 9, 10, 11, 12, 13, 14, 15, 16, 17, 18, 25, 36, 37, 38, 52, 66],
    (.seq (.reg [⟨.var 3, (.e (.box 64 (.st [.leaf, .leaf]))), [.t 0], none⟩,
      ⟨.var 4, (.e (.box 42 (.st [.leaf, .leaf]))), [.t 2], none⟩,
      ⟨.var 5, (.q .mv), [.c .nils], none⟩,
      ⟨.var 6, (.q .mv), [.c .nils], none⟩,
      ⟨.var 7, (.q .mv), [.c (.int 0)], none⟩])
    (.seq (.reg [⟨.new, (.q (.ld (.st [.leaf, .leaf]))), [.t 4], none⟩,
      ⟨.new, (.call 21), [.t 24], none⟩,
      ⟨.var 8, (.q .mv), [.t 25], none⟩])
    (.seq (.seq (.reg [⟨.new, (.q .mv), [.t 1], none⟩,
      ⟨.new, (.q .mv), [.t 8], none⟩,
      ⟨.new, (.call 41), [.t 24, .t 25], none⟩,
      ⟨.var 9, (.q .mv), [.t 26], none⟩])
    (.seq (.reg [⟨.new, (.q .mv), [.t 9], none⟩,
      ⟨.var 18, (.q (.bin .neq)), [.t 24, .c (.int 0)], none⟩])
    (.cond (.t 18) (.seq (.reg [⟨.new, (.q .mv), [.t 9], none⟩,
      ⟨.var 5, (.q .mv), [.c .nils], none⟩,
      ⟨.var 6, (.q .mv), [.c .nils], none⟩,
      ⟨.var 7, (.q .mv), [.t 24], none⟩])
    .ret)
    .skip)))
    (.seq (.seq (.reg [⟨.new, (.q (.fa [.leaf, .leaf] 0)), [.t 3], none⟩,
      ⟨.new, (.q (.ld .leaf)), [.t 24], none⟩,
      ⟨.new, (.q .len), [.t 25], none⟩,
      ⟨.new, (.q (.bin .neq)), [.t 26, .c (.int 128)], none⟩,
      ⟨.new, (.q .mv), [.t 27], none⟩,
      ⟨.new, (.q (.fa [.leaf, .leaf] 1)), [.t 3], (some (28, false))⟩,
      ⟨.new, (.q (.ld .leaf)), [.t 29], (some (28, false))⟩,
      ⟨.new, (.q .len), [.t 30], (some (28, false))⟩,
      ⟨.new, (.q (.bin .neq)), [.t 31, .c (.int 128)], (some (28, false))⟩,
      ⟨.var 19, (.q .pick), [.t 28, .c (.bool true), .t 32], none⟩])
    (.cond (.t 19) (.seq (.reg [⟨.var 5, (.q .mv), [.c .nils], none⟩,
      ⟨.var 6, (.q .mv), [.c .nils], none⟩,
      ⟨.var 7, (.q .mv), [.c (.int 11)], none⟩])
    .ret)
    .skip))
    (.seq (.reg [⟨.var 10, (.q .mv), [.c .nils], none⟩,
      ⟨.var 11, (.q .mv), [.c .nils], none⟩])
    (.seq (.seq (.reg [⟨.var 20, (.q .mv), [.c (.int 0)], none⟩])
    (.block 0 (.loop (.seq (.reg [⟨.var 21, (.q (.bin .lss)), [.t 20, .c (.int 128)], none⟩])
    (.seq (.cond (.t 21) .skip
    (.exit 0))
    (.seq (.block 1 (.seq (.reg [⟨.new, (.q .mv), [.t 20], none⟩,
      ⟨.var 12, (.q .mv), [.t 24], none⟩])
    (.seq (.reg [⟨.new, (.q (.fa [.leaf, .leaf] 0)), [.t 3], none⟩,
      ⟨.new, (.q (.ld .leaf)), [.t 24], none⟩,
      ⟨.new, (.q .mv), [.t 12], none⟩,
      ⟨.new, (.q (.iaS (.arr 32 .leaf))), [.t 25, .t 26], none⟩,
      ⟨.new, (.q (.ld (.arr 32 .leaf))), [.t 27], none⟩,
      ⟨.new, (.q .mv), [.t 1], none⟩,
      ⟨.new, (.q .mv), [.t 8], none⟩,
      ⟨.new, (.call 42), [.t 28, .t 29, .t 30], none⟩,
      ⟨.new, (.q .mv), [.t 31], none⟩,
      ⟨.new, (.q (.ext 0)), [.t 32], none⟩,
      ⟨.new, (.q (.ext 1)), [.t 32], none⟩,
      ⟨.var 13, (.e (.alloc 42 (.st [.leaf, .leaf]) (.agg [(.int 0), .nils]))), [], none⟩,
      ⟨.none, (.e (.store (.st [.leaf, .leaf]))), [.t 13, .t 33], none⟩,
      ⟨.var 14, (.q .mv), [.t 34], none⟩])
    (.seq (.seq (.reg [⟨.new, (.q .mv), [.t 14], none⟩,
      ⟨.var 22, (.q (.bin .neq)), [.t 24, .c (.int 0)], none⟩])
    (.cond (.t 22) (.seq (.reg [⟨.new, (.q .mv), [.t 14], none⟩,
      ⟨.var 5, (.q .mv), [.c .nils], none⟩,
      ⟨.var 6, (.q .mv), [.c .nils], none⟩,
      ⟨.var 7, (.q .mv), [.t 24], none⟩])
    .ret)
    .skip))
    (.seq (.reg [⟨.new, (.q (.fa [.leaf, .leaf] 1)), [.t 3], none⟩,
      ⟨.new, (.q (.ld .leaf)), [.t 24], none⟩,
      ⟨.new, (.q .mv), [.t 12], none⟩,
      ⟨.new, (.q (.iaS (.arr 32 .leaf))), [.t 25, .t 26], none⟩,
      ⟨.new, (.q (.ld (.arr 32 .leaf))), [.t 27], none⟩,
      ⟨.new, (.q .mv), [.t 1], none⟩,
      ⟨.new, (.q .mv), [.t 8], none⟩,
      ⟨.new, (.call 42), [.t 28, .t 29, .t 30], none⟩,
      ⟨.new, (.q .mv), [.t 31], none⟩,
      ⟨.new, (.q (.ext 0)), [.t 32], none⟩,
      ⟨.new, (.q (.ext 1)), [.t 32], none⟩,
      ⟨.var 15, (.e (.alloc 42 (.st [.leaf, .leaf]) (.agg [(.int 0), .nils]))), [], none⟩,
      ⟨.none, (.e (.store (.st [.leaf, .leaf]))), [.t 15, .t 33], none⟩,
      ⟨.var 14, (.q .mv), [.t 34], none⟩])
    (.seq (.seq (.reg [⟨.new, (.q .mv), [.t 14], none⟩,
      ⟨.var 23, (.q (.bin .neq)), [.t 24, .c (.int 0)], none⟩])
    (.cond (.t 23) (.seq (.reg [⟨.new, (.q .mv), [.t 14], none⟩,
      ⟨.var 5, (.q .mv), [.c .nils], none⟩,
      ⟨.var 6, (.q .mv), [.c .nils], none⟩,
      ⟨.var 7, (.q .mv), [.t 24], none⟩])
    .ret)
    .skip))
    (.seq (.reg [⟨.new, (.q (.ld (.st [.leaf, .leaf]))), [.t 13], none⟩,
      ⟨.new, (.q (.ld (.st [.leaf, .leaf]))), [.t 15], none⟩,
      ⟨.new, (.call 43), [.t 24, .t 25], none⟩,
      ⟨.new, (.q .mv), [.t 26], none⟩,
      ⟨.new, (.q (.ext 0)), [.t 27], none⟩,
      ⟨.new, (.q (.ext 1)), [.t 27], none⟩,
      ⟨.none, (.e (.store (.st [.leaf, .leaf]))), [.t 15, .t 28], none⟩])
    (.seq (.reg [⟨.new, (.q (.ld (.st [.leaf, .leaf]))), [.t 15], none⟩,
      ⟨.new, (.q (.ld (.st [.leaf, .leaf]))), [.t 4], none⟩,
      ⟨.new, (.call 43), [.t 24, .t 25], none⟩,
      ⟨.new, (.q .mv), [.t 26], none⟩,
      ⟨.new, (.q (.ext 0)), [.t 27], none⟩,
      ⟨.new, (.q (.ext 1)), [.t 27], none⟩,
      ⟨.none, (.e (.store (.st [.leaf, .leaf]))), [.t 15, .t 28], none⟩])
    (.draw [⟨.none, (.pairs [(3, 5)]), [], none⟩,
      ⟨.new, (.q .mv), [.t 10], none⟩,
      ⟨.new, (.q (.ld (.st [.leaf, .leaf]))), [.t 15], none⟩,
      ⟨.new, (.e (.bsl 42 (.st [.leaf, .leaf]) (.agg [(.int 0), .nils]) 1 [0])), [.t 25], none⟩,
      ⟨.new, (.e (.app 42 (.st [.leaf, .leaf]) 32)), [.t 24, .t 26], none⟩,
      ⟨.new, (.q .mv), [.t 11], none⟩,
      ⟨.new, (.q (.ld (.st [.leaf, .leaf]))), [.t 13], none⟩,
      ⟨.new, (.e (.bsl 42 (.st [.leaf, .leaf]) (.agg [(.int 0), .nils]) 1 [0])), [.t 29], none⟩,
      ⟨.new, (.e (.app 42 (.st [.leaf, .leaf]) 32)), [.t 28, .t 30], none⟩,
      ⟨.var 10, (.q .mv), [.t 27], none⟩,
      ⟨.var 11, (.q .mv), [.t 31], none⟩])))))))))
    (.reg [⟨.new, (.q (.bin .add)), [.t 20, .c (.int 1)], none⟩,
      ⟨.var 20, (.q .mv), [.t 24], none⟩])))))))
    (.seq (.reg [⟨.new, (.q .mv), [.t 11], none⟩,
      ⟨.new, (.call 44), [.t 24], none⟩,
      ⟨.new, (.q .mv), [.t 25], none⟩,
      ⟨.new, (.q (.ext 0)), [.t 26], none⟩,
      ⟨.new, (.q (.ext 1)), [.t 26], none⟩,
      ⟨.var 16, (.q .mv), [.t 27], none⟩,
      ⟨.var 17, (.q .mv), [.t 28], none⟩])
    (.seq (.reg [⟨.new, (.q .mv), [.t 10], none⟩,
      ⟨.new, (.q .mv), [.t 16], none⟩,
      ⟨.new, (.q .mv), [.t 17], none⟩,
      ⟨.var 5, (.q .mv), [.t 24], none⟩,
      ⟨.var 6, (.q .mv), [.t 25], none⟩,
      ⟨.var 7, (.q .mv), [.t 26], none⟩])
    .ret)))))))),
    [.t 5, .t 6, .t 7]⟩

/-- trefoil/iknp.Send (0:s, 1:from, 2:cols, 3:s, 6:, 7:, 8:n, 9:e, 10:own, 11:i, 12:c, 13:q, 14:e, 17:, 26:, 31:, 33:, 34:, 35:, 36:, 43:, 56:, 61:) -/
def s28 : FnS := ⟨77, [0, 1, 2, 3, 6, 7, 8, 9, 10, 11, 12, 13, 14, 17, 26, 31, 33, 34, 35, 36, 43, 56, 61],
    (.seq (.reg [⟨.var 3, (.e (.box 62 (.st [(.arr 2 .leaf), .leaf]))), [.t 0], none⟩,
      ⟨.var 4, (.q .mv), [.c .nils], none⟩,
      ⟨.var 5, (.q .mv), [.c (.int 0)], none⟩])
    (.seq (.seq (.reg [⟨.new, (.q .mv), [.t 2], none⟩,
      ⟨.new, (.q .len), [.t 23], none⟩,
      ⟨.var 13, (.q (.bin .neq)), [.t 24, .c (.int 128)], none⟩])
    (.cond (.t 13) (.seq (.reg [⟨.var 4, (.q .mv), [.c .nils], none⟩,
      ⟨.var 5, (.q .mv), [.c (.int 11)], none⟩])
    .ret)
    .skip))
    (.seq (.reg [⟨.new, (.q .mv), [.t 2], none⟩,
      ⟨.new, (.q (.iaS (.st [.leaf, .leaf]))), [.t 23, .c (.int 0)], none⟩,
      ⟨.new, (.q (.ld (.st [.leaf, .leaf]))), [.t 24], none⟩,
      ⟨.new, (.call 21), [.t 25], none⟩,
      ⟨.var 6, (.q .mv), [.t 26], none⟩])
    (.seq (.seq (.reg [⟨.new, (.q .mv), [.t 1], none⟩,
      ⟨.new, (.q .mv), [.t 6], none⟩,
      ⟨.new, (.call 41), [.t 23, .t 24], none⟩,
      ⟨.var 7, (.q .mv), [.t 25], none⟩])
    (.seq (.reg [⟨.new, (.q .mv), [.t 7], none⟩,
      ⟨.var 14, (.q (.bin .neq)), [.t 23, .c (.int 0)], none⟩])
    (.cond (.t 14) (.seq (.reg [⟨.new, (.q .mv), [.t 7], none⟩,
      ⟨.var 4, (.q .mv), [.c .nils], none⟩,
      ⟨.var 5, (.q .mv), [.t 23], none⟩])
    .ret)
    .skip)))
    (.seq (.seq (.reg [⟨.new, (.q (.fa [(.arr 2 .leaf), .leaf] 1)), [.t 3], none⟩,
      ⟨.new, (.q (.ld .leaf)), [.t 23], none⟩,
      ⟨.new, (.q .len), [.t 24], none⟩,
      ⟨.var 15, (.q (.bin .neq)), [.t 25, .c (.int 128)], none⟩])
    (.cond (.t 15) (.seq (.reg [⟨.var 4, (.q .mv), [.c .nils], none⟩,
      ⟨.var 5, (.q .mv), [.c (.int 11)], none⟩])
    .ret)
    .skip))
    (.seq (.reg [⟨.new, (.e (.mksl 42 (.st [.leaf, .leaf]) 32 (.agg [(.int 0), .nils]))), [.c (.int 0), .c (.int 128)], none⟩,
      ⟨.var 8, (.q .mv), [.t 23], none⟩])
    (.seq (.seq (.reg [⟨.var 16, (.q .mv), [.t 2], none⟩,
      ⟨.var 17, (.q .len), [.t 16], none⟩,
      ⟨.var 18, (.q .mv), [.c (.int 0)], none⟩])
    (.block 0 (.loop (.seq (.reg [⟨.var 19, (.q (.bin .lss)), [.t 18, .t 17], none⟩])
    (.seq (.cond (.t 19) .skip
    (.exit 0))
    (.seq (.block 1 (.seq (.reg [⟨.new, (.q .mv), [.t 18], none⟩,
      ⟨.new, (.q (.iaS (.st [.leaf, .leaf]))), [.t 16, .t 18], none⟩,
      ⟨.new, (.q (.ld (.st [.leaf, .leaf]))), [.t 24], none⟩,
      ⟨.var 10, (.e (.alloc 42 (.st [.leaf, .leaf]) (.agg [(.int 0), .nils]))), [], none⟩,
      ⟨.var 9, (.q .mv), [.t 23], none⟩,
      ⟨.none, (.e (.store (.st [.leaf, .leaf]))), [.t 10, .t 25], none⟩])
    (.seq (.seq (.reg [⟨.new, (.q (.ld (.st [.leaf, .leaf]))), [.t 10], none⟩,
      ⟨.new, (.call 21), [.t 23], none⟩,
      ⟨.new, (.q .mv), [.t 6], none⟩,
      ⟨.var 20, (.q (.bin .neq)), [.t 24, .t 25], none⟩])
    (.cond (.t 20) (.seq (.reg [⟨.var 4, (.q .mv), [.c .nils], none⟩,
      ⟨.var 5, (.q .mv), [.c (.int 11)], none⟩])
    .ret)
    .skip))
    (.seq (.reg [⟨.new, (.q (.fa [(.arr 2 .leaf), .leaf] 1)), [.t 3], none⟩,
      ⟨.new, (.q (.ld .leaf)), [.t 23], none⟩,
      ⟨.new, (.q .mv), [.t 9], none⟩,
      ⟨.new, (.q (.iaS (.arr 32 .leaf))), [.t 24, .t 25], none⟩,
      ⟨.new, (.q (.ld (.arr 32 .leaf))), [.t 26], none⟩,
      ⟨.new, (.q .mv), [.t 1], none⟩,
      ⟨.new, (.q .mv), [.t 6], none⟩,
      ⟨.new, (.call 42), [.t 27, .t 28, .t 29], none⟩,
      ⟨.new, (.q .mv), [.t 30], none⟩,
      ⟨.new, (.q (.ext 0)), [.t 31], none⟩,
      ⟨.new, (.q (.ext 1)), [.t 31], none⟩,
      ⟨.var 11, (.e (.alloc 42 (.st [.leaf, .leaf]) (.agg [(.int 0), .nils]))), [], none⟩,
      ⟨.none, (.e (.store (.st [.leaf, .leaf]))), [.t 11, .t 32], none⟩,
      ⟨.var 12, (.q .mv), [.t 33], none⟩])
    (.seq (.seq (.reg [⟨.new, (.q .mv), [.t 12], none⟩,
      ⟨.var 21, (.q (.bin .neq)), [.t 23, .c (.int 0)], none⟩])
    (.cond (.t 21) (.seq (.reg [⟨.new, (.q .mv), [.t 12], none⟩,
      ⟨.var 4, (.q .mv), [.c .nils], none⟩,
      ⟨.var 5, (.q .mv), [.t 23], none⟩])
    .ret)
    .skip))
    (.seq (.seq (.reg [⟨.new, (.q (.fa [(.arr 2 .leaf), .leaf] 0)), [.t 3], none⟩,
      ⟨.new, (.q (.ld (.arr 2 .leaf))), [.t 23], none⟩,
      ⟨.new, (.q .mv), [.t 9], none⟩,
      ⟨.var 22, (.call 45), [.t 24, .t 25], none⟩])
    (.cond (.t 22) (.reg [⟨.new, (.q (.ld (.st [.leaf, .leaf]))), [.t 11], none⟩,
      ⟨.new, (.q (.ld (.st [.leaf, .leaf]))), [.t 10], none⟩,
      ⟨.new, (.call 43), [.t 23, .t 24], none⟩,
      ⟨.new, (.q .mv), [.t 25], none⟩,
      ⟨.new, (.q (.ext 0)), [.t 26], none⟩,
      ⟨.new, (.q (.ext 1)), [.t 26], none⟩,
      ⟨.none, (.e (.store (.st [.leaf, .leaf]))), [.t 11, .t 27], none⟩])
    .skip))
    (.reg [⟨.new, (.q .mv), [.t 8], none⟩,
      ⟨.new, (.q (.ld (.st [.leaf, .leaf]))), [.t 11], none⟩,
      ⟨.new, (.e (.bsl 42 (.st [.leaf, .leaf]) (.agg [(.int 0), .nils]) 1 [0])), [.t 24], none⟩,
      ⟨.new, (.e (.app 42 (.st [.leaf, .leaf]) 32)), [.t 23, .t 25], none⟩,
      ⟨.var 8, (.q .mv), [.t 26], none⟩])))))))
    (.reg [⟨.new, (.q (.bin .add)), [.t 18, .c (.int 1)], none⟩,
      ⟨.var 18, (.q .mv), [.t 23], none⟩])))))))
    (.seq (.reg [⟨.new, (.q .mv), [.t 8], none⟩,
      ⟨.new, (.call 44), [.t 23], none⟩,
      ⟨.new, (.q (.ext 0)), [.t 24], none⟩,
      ⟨.new, (.q (.ext 1)), [.t 24], none⟩,
      ⟨.var 4, (.q .mv), [.t 25], none⟩,
      ⟨.var 5, (.q .mv), [.t 26], none⟩])
    .ret)))))))),
    [.t 4, .t 5]⟩

/-- trefoil/iknp.span (0:from, 1:n, 4:, 5:, 12:) -/
def s41 : FnS := ⟨18, [0, 1, 4, 5, 12],
    (.seq (.reg [⟨.var 2, (.q .mv), [.c (.int 0)], none⟩])
    (.seq (.block 0 (.seq (.reg [⟨.new, (.q .mv), [.t 1], none⟩,
      ⟨.new, (.q (.bin .lss)), [.t 5, .c (.int 1)], none⟩,
      ⟨.new, (.q .mv), [.t 6], none⟩,
      ⟨.new, (.q .mv), [.t 1], (some (7, false))⟩,
      ⟨.new, (.q (.bin .gtr)), [.t 8, .c (.int 4096)], (some (7, false))⟩,
      ⟨.new, (.q .pick), [.t 7, .c (.bool true), .t 9], none⟩,
      ⟨.var 3, (.q .mv), [.t 10], none⟩])
    (.cond (.t 3) (.seq (.reg [⟨.var 2, (.q .mv), [.c (.int 2)], none⟩])
    .ret)
    (.seq (.reg [⟨.new, (.q .mv), [.t 0], none⟩,
      ⟨.new, (.q .mv), [.t 1], none⟩,
      ⟨.new, (.q (.cv .u64)), [.t 6], none⟩,
      ⟨.new, (.q (.bin .sub)), [.c (.u64 67108864), .t 7], none⟩,
      ⟨.new, (.q (.bin .gtr)), [.t 5, .t 8], none⟩,
      ⟨.var 4, (.q .mv), [.t 9], none⟩])
    (.cond (.t 4) (.seq (.reg [⟨.var 2, (.q .mv), [.c (.int 24)], none⟩])
    .ret)
    .skip)))))
    (.seq (.reg [⟨.var 2, (.q .mv), [.c (.int 0)], none⟩])
    .ret))),
    [.t 2]⟩

/-- trefoil/iknp.column (0:seed, 1:from, 2:n, 3:seed, 6:, 7:) -/
def s42 : FnS := ⟨15, [0, 1, 2, 3, 6, 7],
    (.seq (.reg [⟨.var 3, (.e (.box 28 (.arr 32 .leaf))), [.t 0], none⟩,
      ⟨.var 4, (.e (.alloc 42 (.st [.leaf, .leaf]) (.agg [(.int 0), .nils]))), [], none⟩,
      ⟨.var 5, (.q .mv), [.c (.int 0)], none⟩])
    (.seq (.reg [⟨.new, (.q (.ld (.arr 32 .leaf))), [.t 3], none⟩,
      ⟨.new, (.q .mv), [.t 1], none⟩,
      ⟨.new, (.q (.cv .i64)), [.t 7], none⟩,
      ⟨.new, (.q .mv), [.t 2], none⟩,
      ⟨.new, (.call 57), [.t 6, .c (.u32 0), .t 8, .t 9], none⟩,
      ⟨.new, (.q (.ext 0)), [.t 10], none⟩,
      ⟨.new, (.q (.ext 1)), [.t 10], none⟩,
      ⟨.none, (.e (.store (.st [.leaf, .leaf]))), [.t 4, .t 11], none⟩,
      ⟨.var 5, (.q .mv), [.t 12], none⟩])
    .ret)),
    [.cell 4 (.st [.leaf, .leaf]), .t 5]⟩

theorem c27 : cF P G (drP P G) 27 3 s27.vm = some s27 := by kernel_rfl
theorem c28 : cF P G (drP P G) 28 3 s28.vm = some s28 := by kernel_rfl
theorem c41 : cF P G (drP P G) 41 2 s41.vm = some s41 := by kernel_rfl
theorem c42 : cF P G (drP P G) 42 3 s42.vm = some s42 := by kernel_rfl
/-- may transfers be numbered so? -/
def spn (a : BitVec 64) (n : Int) : Int := if n < 1 ∨ 4096 < n then 2 else if 67108864 - n < (a.toNat : Int) then 24 else 0
theorem f41 {K : AV → Heap → Prop} {H : Heap} {a : BitVec 64} {n : Int} (h : K (.int (spn a n)) H) : wpF P G 41 [.u64 a, .int n] H K := by
  refine wpF_go c41 rfl 3 ?_
  intro ha hb
  simp only [s41]
  clear ha hb
  unfold spn at h
  by_cases h1 : n < 1
  · rw [if_pos (.inl h1)] at h
    (refine gw1 @h1 ?_; try exact True.intro)
    exact h
  by_cases h2 : 4096 < n
  · rw [if_pos (.inr h2)] at h
    (refine gw2 @h1 @h2 ?_; try exact True.intro)
    exact h
  rw [if_neg (by omega)] at h
  have hu : (BitVec.ofInt 64 n).toNat = n.toNat := by rw [BitVec.toNat_ofInt]; omega
  have e : ((67108864 : BitVec 64) - BitVec.ofInt 64 n).toNat = 67108864 - n.toNat := by
    rw [BitVec.toNat_sub, hu]
    show (2 ^ 64 - n.toNat + 67108864) % 2 ^ 64 = _
    omega
  by_cases h3 : 67108864 - n < (a.toNat : Int)
  · rw [if_pos h3] at h
    have e' : ((67108864 : BitVec 64) - BitVec.ofInt 64 n < a) = True := by simp only [BitVec.lt_def, e, eq_iff_iff, iff_true]; omega
    (refine gw3 @h1 @h2 @e' ?_; try exact True.intro)
    exact h
  · rw [if_neg h3] at h
    have e' : ((67108864 : BitVec 64) - BitVec.ofInt 64 n < a) = False := by simp only [BitVec.lt_def, e, eq_iff_iff, iff_false]; omega
    (refine gw3 @h1 @h2 @e' ?_; try exact True.intro)
    exact h
/-- a column -/
def cl (ks : List (BitVec 8)) (a n : Nat) : Nat → Bool := cut n fun j => gbit ks 0 (a + j)
theorem f42 {K : AV → Heap → Prop} {H : Heap} {ks : List (BitVec 8)} {a : BitVec 64} {n : Nat} (hk : ks.length = 32) (hn : n ≤ 4096) (han : a.toNat ≤ 67108864) (h : K (.tup [vec n (cl ks a.toNat n), .int 0]) H) : wpF P G 42 [.agg (ks.map .u8), .u64 a, .int (n : Int)] H K := by
  refine wpF_go c42 rfl 5 ?_
  intro ha hb
  simp only [s42]
  clear ha hb
  have e : a.toInt = (a.toNat : Int) := BitVec.toInt_eq_toNat_of_lt (by omega)
  (refine gw2 @hk @e ?_; try exact True.intro)
  refine f57g (a := a.toNat) (n := n) hk (by omega) (by omega) ?_
  unfold cl vec at h
  unfold vec
  have hbw : ∀ {k : Nat}, AV.bnds k (wdA n (cut n fun j => gbit ks 0 (a.toNat + j))) = true := bndA
  (refine gw1 @hbw ?_; try exact True.intro)
  exact h
/-! a row of truths -/
def rwb (f : Nat → Bool) (i : Nat) : Option Blk := some ⟨24, 0, false, .arr 1 (.arr 2 .leaf), .agg [.agg (wdN 2 (cut i f))]⟩
def Iu81 (f : Nat → Bool) (B : Option Blk) (H : Heap) (k : Nat) (st : St) : Prop :=
  ∃ (i : Nat) (u4 u5 : AV), st = ⟨[.ro .leaf ((List.range 128).map fun i => .bool (f i)), .ptr H.length 0 [0] (.arr 2 .leaf), .ptr (H.length + 1) 0 [0] (.arr 2 .leaf), .int (i : Int), u4, u5], H ++ [B, rwb f i]⟩ ∧ k = 128 - i ∧ i ≤ 128
/-! rows of columns -/
def outr (te N0 : Nat) (e : Shape) (F : Nat → AV) (t : Nat) (out : AV) (L : Heap) : Prop :=
  (t = 0 ∧ out = .nils) ∨ (0 < t ∧ ∃ b, b < L.length ∧ out = .own (N0 + b) t [] 0 t e ∧ Heap.get L b = some ⟨te, t, true, .arr t e, .agg ((List.range t).map F)⟩)
def cw (g : Nat → Nat → Bool) (h j : Nat) : BitVec 64 := wd (fun i => g i j) h
def rwj (g : Nat → Nat → Bool) (j : Nat) : AV := rowV (cw g 0 j) (cw g 1 j)
theorem hsh_rw {g : Nat → Nat → Bool} {j : Nat} : HasSh (.arr 2 .leaf) (rwj g j) := by
  unfold rwj rowV
  simp [hasSh_leaf, AV.isCell]
def I60a (n : Nat) (g : Nat → Nat → Bool) (H : Heap) (k : Nat) (st : St) : Prop :=
  ∃ (t : Nat) (out u4 u5 u6 u7 : AV) (L : Heap), st = ⟨[.ro .leaf (beL n g 128), .nils, out, .int (t : Int), u4, u5, u6, u7], H ++ L⟩ ∧ k = n - t ∧ t ≤ n ∧ outr 56 H.length (.arr 2 .leaf) (rwj g) t out L
def I60b (n : Nat) (g : Nat → Nat → Bool) (G : Heap) (out : AV) (t : Nat) (u6 : AV) (k : Nat) (st : St) : Prop :=
  ∃ (i : Nat) (l u7 : AV) (L : Heap), st = ⟨[.ro .leaf (beL n g 128), .nils, out, .int (t : Int), l, .int (i : Int), u6, u7], G ++ L⟩ ∧ k = 128 - i ∧ i ≤ 128 ∧ apd 4 G.length (fun i => .bool (g i t)) i l L
/-! do rows join? -/
def jrow (d0 d1 : BitVec 64) (b : Bool) (x y z w : BitVec 64) : Bool := decide (x = z ^^^ (if b = true then d0 else 0) ∧ y = w ^^^ (if b = true then d1 else 0))
def jns (d0 d1 : BitVec 64) (x y z w : Nat → BitVec 64) (c : Nat → Bool) : Nat → Bool
  | 0 => true
  | j + 1 => jns d0 d1 x y z w c j && jrow d0 d1 (c j) (x j) (y j) (z j) (w j)
theorem jns_false {d0 d1 : BitVec 64} {x y z w : Nat → BitVec 64} {c : Nat → Bool} {i : Nat} (h : jns d0 d1 x y z w c i = false) : ∀ {j : Nat}, i ≤ j → jns d0 d1 x y z w c j = false
  | 0, hj => by have : i = 0 := by omega
                subst this; exact h
  | j + 1, hj => by
    by_cases e : i = j + 1
    · subst e; exact h
    · simp [jns, jns_false h (j := j) (by omega)]
def jnd (d0 d1 : BitVec 64) (x y z w : Nat → BitVec 64) (c : Nat → Bool) (n m k : Nat) : Bool := decide (n = m) && decide (n = k) && jns d0 d1 x y z w c n
def dbx (d0 d1 : BitVec 64) : Option Blk := some ⟨24, 0, false, .arr 1 (.arr 2 .leaf), .agg [.agg [.u64 d0, .u64 d1]]⟩
def vbx (n : Nat) (f : Nat → Bool) : Option Blk := some ⟨42, 0, false, .arr 1 (.st [.leaf, .leaf]), .agg [vec n f]⟩
def Iu32 (d0 d1 : BitVec 64) (x y z w : Nat → BitVec 64) (c : Nat → Bool) (n : Nat) (H : Heap) (k : Nat) (st : St) : Prop :=
  ∃ (i : Nat) (u7 u8 u13 u14 : AV) (J : Heap), st = ⟨[rowV d0 d1, .ro (.arr 2 .leaf) (rwA x y n), .ro (.arr 2 .leaf) (rwA z w n), vec n c, .ptr H.length 0 [0] (.arr 2 .leaf), .ptr (H.length + 1) 0 [0] (.st [.leaf, .leaf]), .bool false, u7, u8, .bool false, .ro (.arr 2 .leaf) (rwA x y n), .int (n : Int), .int (i : Int), u13, u14],
    H ++ dbx d0 d1 :: vbx n c :: J⟩ ∧ k = n - i ∧ i ≤ n ∧ jns d0 d1 x y z w (cut n c) i = true
/-! the reference's -/
theorem rb_ext {x y z w : BitVec 64} (h : ∀ i : Nat, i < 128 → rb x y i = rb z w i) : x = z ∧ y = w := by
  constructor
  · apply BitVec.eq_of_getLsbD_eq
    intro i hi
    have := h i (by omega)
    unfold rb at this
    rw [if_pos (by omega), if_pos (by omega)] at this
    exact this
  · apply BitVec.eq_of_getLsbD_eq
    intro i hi
    have := h (64 + i) (by omega)
    unfold rb at this
    rw [if_neg (by omega), if_pos (by omega), if_neg (by omega), if_pos (by omega), show ((64 + i : Nat) : Int).toNat - 64 = i by omega] at this
    exact this
def jbs (d0 d1 : BitVec 64) (b : Bool) (x y z w : BitVec 64) : Nat → Bool
  | 0 => true
  | i + 1 => jbs d0 d1 b x y z w i && (rb x y i == (rb z w i != (b && rb d0 d1 i)))
theorem jbs_false {d0 d1 : BitVec 64} {b : Bool} {x y z w : BitVec 64} {i : Nat} (h : jbs d0 d1 b x y z w i = false) : ∀ {j : Nat}, i ≤ j → jbs d0 d1 b x y z w j = false
  | 0, hj => by have : i = 0 := by omega
                subst this; exact h
  | j + 1, hj => by
    by_cases e : i = j + 1
    · subst e; exact h
    · simp [jbs, jbs_false h (j := j) (by omega)]
theorem jbs_all {d0 d1 : BitVec 64} {b : Bool} {x y z w : BitVec 64} : ∀ {n : Nat}, jbs d0 d1 b x y z w n = true ↔ ∀ i, i < n → rb x y i = (rb z w i != (b && rb d0 d1 i))
  | 0 => by simp [jbs]
  | n + 1 => by
    simp only [jbs, Bool.and_eq_true, beq_iff_eq, jbs_all (n := n)]
    constructor
    · rintro ⟨h1, h2⟩ i hi
      by_cases e : i = n
      · rw [e]; exact h2
      · exact h1 i (by omega)
    · intro h
      exact ⟨fun i hi => h i (by omega), h n (by omega)⟩
theorem jbs_row {d0 d1 : BitVec 64} {b : Bool} {x y z w : BitVec 64} : jbs d0 d1 b x y z w 128 = jrow d0 d1 b x y z w := by
  rw [Bool.eq_iff_iff, jbs_all]
  unfold jrow
  rw [decide_eq_true_eq]
  have e : ∀ i : Nat, (rb z w i != (b && rb d0 d1 i)) = rb (z ^^^ if b = true then d0 else 0) (w ^^^ if b = true then d1 else 0) i := fun i => by
    rw [rb_xor]
    cases b
    · rw [if_neg (by decide), if_neg (by decide), rb_zero, Bool.false_and]
    · rw [if_pos rfl, if_pos rfl, Bool.true_and]
  constructor
  · intro h
    exact rb_ext fun i hi => by rw [h i hi, e]
  · rintro ⟨h1, h2⟩ i _
    rw [e, h1, h2]

def boL (c : Nat → Bool) (n : Nat) : List AV := (List.range n).map fun i => .bool (c i)
def I31a (d0 d1 : BitVec 64) (x y z w : Nat → BitVec 64) (c : Nat → Bool) (n : Nat) (C : AV) (H : Heap) (k : Nat) (st : St) : Prop :=
  ∃ (j : Nat) (u7 u9 u10 u11 : AV), st = ⟨[rowV d0 d1, .ro (.arr 2 .leaf) (rwA x y n), .ro (.arr 2 .leaf) (rwA z w n), C, .ptr H.length 0 [0] (.arr 2 .leaf), .bool false, .int (j : Int), u7, .bool false, u9, u10, u11],
    H ++ [dbx d0 d1]⟩ ∧ k = n - j ∧ j ≤ n ∧ jns d0 d1 x y z w c j = true
def I31b (d0 d1 : BitVec 64) (x y z w : Nat → BitVec 64) (c : Nat → Bool) (n : Nat) (C : AV) (j : Nat) (u9 : AV) (H : Heap) (k : Nat) (st : St) : Prop :=
  ∃ (i : Nat) (u10 u11 : AV), st = ⟨[rowV d0 d1, .ro (.arr 2 .leaf) (rwA x y n), .ro (.arr 2 .leaf) (rwA z w n), C, .ptr H.length 0 [0] (.arr 2 .leaf), .bool false, .int (j : Int), .int (i : Int), .bool false, u9, u10, u11],
    H ++ [dbx d0 d1]⟩ ∧ k = 128 - i ∧ i ≤ 128 ∧ jbs d0 d1 (c j) (x j) (y j) (z j) (w j) i = true
theorem spn_0 {a : BitVec 64} {n : Int} (h : spn a n = 0) : 1 ≤ n ∧ n ≤ 4096 ∧ (a.toNat : Int) + n ≤ 67108864 := by
  unfold spn at h
  by_cases h1 : n < 1 ∨ 4096 < n
  · rw [if_pos h1] at h; omega
  · rw [if_neg h1] at h
    by_cases h2 : 67108864 - n < (a.toNat : Int)
    · rw [if_pos h2] at h; omega
    · omega
theorem cw_hi {g : Nat → Nat → Bool} {h j : Nat} : wd (fun b => g (64 * h + b) j) 0 = cw g h j := wd_of fun b hb => by rw [wd_bit hb]; simp
theorem rwA_cw {g : Nat → Nat → Bool} {n : Nat} : rwA (fun j => wd (fun b => g (64 * 0 + b) j) 0) (fun j => wd (fun b => g (64 * 1 + b) j) 0) n = rwA (cw g 0) (cw g 1) n := by
  unfold rwA
  refine rng_congr fun j hj => ?_
  show rowV (wd (fun b => g (64 * 0 + b) j) 0) (wd (fun b => g (64 * 1 + b) j) 0) = _
  rw [cw_hi, cw_hi]
/-- who chooses: the columns that are sent -/
def clF (fz : Nat → List (BitVec 8)) (a n : Nat) (i : Nat) : Nat → Bool := cl (fz i) a n
def uF (fz fo : Nat → List (BitVec 8)) (a n : Nat) (c : Nat → Bool) (i j : Nat) : Bool := (clF fz a n i j != clF fo a n i j) != c j
def rcb (fz fo : Nat → List (BitVec 8)) (p q : Nat) : Option Blk := some ⟨64, 0, false, .arr 1 (.st [.leaf, .leaf]), .agg [.agg [.ro (.arr 32 .leaf) (sdL fz p), .ro (.arr 32 .leaf) (sdL fo q)]]⟩
theorem f27e {K : AV → Heap → Prop} {H : Heap} {fz fo : Nat → List (BitVec 8)} {a : BitVec 64} {n p q : Nat} {c : Nat → Bool} (he : spn a n ≠ 0) (h : K (.tup [.nils, .nils, .int (spn a n)]) H) : wpF P G 27 [.agg [.ro (.arr 32 .leaf) (sdL fz p), .ro (.arr 32 .leaf) (sdL fo q)], .u64 a, vec n c] H K := by
  refine wpF_go c27 rfl 3 ?_
  intro ha hb
  simp only [s27]
  clear ha hb
  have hv : vec n c = .agg [.int (n : Int), .ro .leaf (wdA n c)] := rfl
  rw [hv]
  (refine gw0 ?_; try exact True.intro)
  rw [← hv]
  refine f21 ?_
  rw [hv]
  (refine gw0 ?_; try exact True.intro)
  refine f41 ?_
  have e1 : (spn a n = 0) = False := eq_false he
  generalize spn a n = e at *
  (refine gw1 @e1 ?_; try exact True.intro)
  exact h
theorem f27s {K : AV → Heap → Prop} {H : Heap} {fz fo : Nat → List (BitVec 8)} {a : BitVec 64} {n p q : Nat} {c : Nat → Bool} (he : spn a n = 0) (hpq : p ≠ 128 ∨ q ≠ 128) (h : K (.tup [.nils, .nils, .int 11]) H) : wpF P G 27 [.agg [.ro (.arr 32 .leaf) (sdL fz p), .ro (.arr 32 .leaf) (sdL fo q)], .u64 a, vec n c] H K := by
  refine wpF_go c27 rfl 3 ?_
  intro ha hb
  simp only [s27]
  clear ha hb
  have hv : vec n c = .agg [.int (n : Int), .ro .leaf (wdA n c)] := rfl
  have l1 := sdL_len (f := fz) (n := p)
  have l2 := sdL_len (f := fo) (n := q)
  rw [hv]
  (refine gw0 ?_; try exact True.intro)
  rw [← hv]
  refine f21 ?_
  rw [hv]
  (refine gw0 ?_; try exact True.intro)
  refine f41 ?_
  rw [he]
  by_cases h1 : p = 128
  · have e1 : ((p : Int) = 128) = True := by simp only [eq_iff_iff, iff_true]; omega
    have e2 : ((q : Int) = 128) = False := by simp only [eq_iff_iff, iff_false]; omega
    (refine gw4 @e1 @e2 @l1 @l2 ?_; try exact True.intro)
    exact h
  · have e1 : ((p : Int) = 128) = False := by simp only [eq_iff_iff, iff_false]; omega
    (refine gw2 @e1 @l1 ?_; try exact True.intro)
    exact h
def Iu27 (fz fo : Nat → List (BitVec 8)) (a : BitVec 64) (n : Nat) (c : Nat → Bool) (H : Heap) (k : Nat) (st : St) : Prop :=
  ∃ (i : Nat) (sa oa u12 u13 u14 u15 u21 u22 u23 : AV) (L : Heap), st = ⟨[.agg [.ro (.arr 32 .leaf) (sdL fz 128), .ro (.arr 32 .leaf) (sdL fo 128)], .u64 a, vec n c, .ptr H.length 0 [0] (.st [.leaf, .leaf]), .ptr (H.length + 1) 0 [0] (.st [.leaf, .leaf]), .nils, .nils, .int 0, .int (n : Int), .int 0, sa, oa, u12, u13, u14, u15, .un, .un, .bool false, .bool false, .int (i : Int), u21, u22, u23],
    H ++ rcb fz fo 128 128 :: vbx n c :: L⟩ ∧ k = 128 - i ∧ i ≤ 128 ∧
    ((i = 0 ∧ sa = .nils ∧ oa = .nils ∧ L = []) ∨ (0 < i ∧ sa = .own (H.length + 5) i [] 0 i vS ∧ oa = .own (H.length + 7) i [] 0 i vS ∧
      ∃ g1 g2 g3 g4 J ls lo, L = g1 :: g2 :: g3 :: vB i ls :: g4 :: vB i lo :: J ∧ ls = veL (fun _ => n) (uF fz fo a.toNat n c) i ∧ lo = veL (fun _ => n) (clF fz a.toNat n) i))
set_option maxHeartbeats 4000000 in
theorem f27 {K : AV → Heap → Prop} {H : Heap} {fz fo : Nat → List (BitVec 8)} {a : BitVec 64} {n : Nat} {c : Nat → Bool} (hz : ∀ i, (fz i).length = 32) (ho : ∀ i, (fo i).length = 32) (he : spn a n = 0)
    (h : K (.tup [.ro vS (veL (fun _ => n) (uF fz fo a.toNat n c) 128), .ro (.arr 2 .leaf) (rwA (cw (clF fz a.toNat n) 0) (cw (clF fz a.toNat n) 1) n), .int 0]) H) : wpF P G 27 [.agg [.ro (.arr 32 .leaf) (sdL fz 128), .ro (.arr 32 .leaf) (sdL fo 128)], .u64 a, vec n c] H K := by
  refine wpF_go c27 rfl 6 ?_
  intro ha hb
  simp only [s27]
  clear ha hb
  have hv : ∀ f, vec n f = .agg [.int (n : Int), .ro .leaf (wdA n f)] := fun _ => rfl
  have l1 := sdL_len (f := fz) (n := 128)
  have l2 := sdL_len (f := fo) (n := 128)
  have g1 : ∀ i, i < 128 → (sdL fz 128).getD i .un = .agg ((fz i).map .u8) := fun i hi => ld_rng hi
  have g2 : ∀ i, i < 128 → (sdL fo 128).getD i .un = .agg ((fo i).map .u8) := fun i hi => ld_rng hi
  obtain ⟨n1, n2, n3⟩ := spn_0 he
  rw [hv]
  (refine gw0 ?_; try exact True.intro)
  rw [← hv]
  refine f21 ?_
  rw [hv]
  (refine gw0 ?_; try exact True.intro)
  refine f41 ?_
  rw [he]
  have e128 : ((128 : Nat) : Int) = 128 := rfl
  (refine gw3 @l1 @l2 @e128 ?_; try exact True.intro)
  refine wp_inv (Iu27 fz fo a n c H) 128 ⟨0, _, _, _, _, _, _, _, _, _, [], rfl, rfl, by omega, .inl ⟨rfl, rfl, rfl, rfl⟩⟩ ?_
  rintro k st ⟨i, sa, oa, u12, u13, u14, u15, u21, u22, u23, L, rfl, rfl, hi, hc⟩
  unfold rcb vbx
  by_cases hil : i < 128
  · have h2 : ((i : Int) < 128) = True := by simp only [eq_iff_iff, iff_true]; omega
    have k1 := g1 i hil
    have k2 := g2 i hil
    have q1 := hz i
    have q2 := ho i
    simp only [hv]
    rcases hc with ⟨hi0, rfl, rfl, rfl⟩ | ⟨hi0, rfl, rfl, g1', g2', g3', g4', J, ls, lo, rfl, hls, hlo⟩
    · (refine gw8 @h2 @l1 @l2 @e128 @k1 @k2 @q1 @q2 ?_; try exact True.intro)
      refine f42 q1 (by omega) (by omega) ?_
      rw [hv]
      (refine gw8 @h2 @l1 @l2 @e128 @k1 @k2 @q1 @q2 ?_; try exact True.intro)
      refine f42 q2 (by omega) (by omega) ?_
      rw [hv]
      (refine gw8 @h2 @l1 @l2 @e128 @k1 @k2 @q1 @q2 ?_; try exact True.intro)
      refine f43 (n := n) (m := n) (f := cl (fz i) a.toNat n) (g := cl (fo i) a.toNat n) (by omega) ?_
      rw [if_pos rfl, hv]
      (refine gw0 ?_; try exact True.intro)
      refine f43 (n := n) (m := n) (f := fun j => cl (fz i) a.toNat n j != cl (fo i) a.toNat n j) (g := c) (by omega) ?_
      rw [if_pos rfl, hv]
      (refine gw0 ?_; try exact True.intro)
      (repeat (refine And.intro (by omega) ?_))
      subst hi0
      exact ⟨127, by omega, 1, _, _, _, _, _, _, _, _, _, _, rfl, rfl, by omega, .inr ⟨by omega, rfl, rfl, _, _, _, _, [], _, _, rfl, rfl, rfl⟩⟩
    · unfold vB vS
      (refine gw8 @h2 @l1 @l2 @e128 @k1 @k2 @q1 @q2 ?_; try exact True.intro)
      refine f42 q1 (by omega) (by omega) ?_
      rw [hv]
      (refine gw8 @h2 @l1 @l2 @e128 @k1 @k2 @q1 @q2 ?_; try exact True.intro)
      refine f42 q2 (by omega) (by omega) ?_
      rw [hv]
      (refine gw8 @h2 @l1 @l2 @e128 @k1 @k2 @q1 @q2 ?_; try exact True.intro)
      refine f43 (n := n) (m := n) (f := cl (fz i) a.toNat n) (g := cl (fo i) a.toNat n) (by omega) ?_
      rw [if_pos rfl, hv]
      (refine gw0 ?_; try exact True.intro)
      refine f43 (n := n) (m := n) (f := fun j => cl (fz i) a.toNat n j != cl (fo i) a.toNat n j) (g := c) (by omega) ?_
      rw [if_pos rfl, hv]
      (refine gw0 ?_; try exact True.intro)
      (repeat (refine And.intro (by omega) ?_))
      exact ⟨128 - (i + 1), by omega, i + 1, _, _, _, _, _, _, _, _, _, _, rfl, rfl, by omega, .inr ⟨by omega, rfl, rfl, _, _, _, _, _, _, _, rfl, by rw [hls]; exact veL_succ, by rw [hlo]; exact veL_succ⟩⟩
  · have h2 : ((i : Int) < 128) = False := by simp only [eq_iff_iff, iff_false]; omega
    have hie : i = 128 := by omega
    subst hie
    rcases hc with ⟨hi0, rfl, rfl, rfl⟩ | ⟨hi0, rfl, rfl, g1', g2', g3', g4', J, ls, lo, rfl, hls, hlo⟩
    · omega
    have lt : List.take 128 lo = lo := List.take_of_length_le (by rw [hlo, veL_len]; exact Nat.le_refl _)
    have lt2 : List.take 128 ls = ls := List.take_of_length_le (by rw [hls, veL_len]; exact Nat.le_refl _)
    have mo : ∀ {kp : Nat → Bool} {N : Nat} {h : Heap} {d : Nat}, mapO (demK kp N h (d + 3)) lo = some lo := by rw [hlo]; exact mapO_veL
    have ms : ∀ {kp : Nat → Bool} {N : Nat} {h : Heap} {d : Nat}, mapO (demK kp N h (d + 3)) ls = some ls := by rw [hls]; exact mapO_veL
    simp only [hv]
    unfold vB vS
    (refine gw1 @h2 ?_; try exact True.intro)
    refine wpF_give1 (H.length + 7) 5 ?_
    (refine gw2 @lt @mo ?_; try exact True.intro)
    rw [hlo]
    refine f44 (m := fun _ => n) (f := clF fz a.toNat n) (fun _ => by omega) (fun ⟨i, _, hn⟩ => absurd rfl hn) (fun _ => ?_)
    rw [rwA_cw]
    have hbr : ∀ {k : Nat}, AV.bnds k (rwA (cw (clF fz a.toNat n) 0) (cw (clF fz a.toNat n) 1) n) = true := by
      intro k
      refine bnds_iff.2 fun x hx => ?_
      obtain ⟨j, _, rfl⟩ := List.mem_map.1 hx
      rfl
    generalize rwA (cw (clF fz a.toNat n) 0) (cw (clF fz a.toNat n) 1) n = R at *
    (refine gw3 @lt2 @ms @hbr ?_; try exact True.intro)
    rw [hls]
    exact h
/-- who sends: the columns of the rows -/
def sF (d0 d1 : BitVec 64) (fk : Nat → List (BitVec 8)) (a n : Nat) (f : Nat → Nat → Bool) (i j : Nat) : Bool := cl (fk i) a n j != (rb d0 d1 i && f i j)
def sndV (d0 d1 : BitVec 64) (fk : Nat → List (BitVec 8)) : AV := .agg [.agg [.u64 d0, .u64 d1], .ro (.arr 32 .leaf) (sdL fk 128)]
theorem f28c {K : AV → Heap → Prop} {H : Heap} {d0 d1 : BitVec 64} {fk : Nat → List (BitVec 8)} {a : BitVec 64} {m : Nat → Nat} {f : Nat → Nat → Bool} {q : Nat} (hq : q ≠ 128) (h : K (.tup [.nils, .int 11]) H) : wpF P G 28 [sndV d0 d1 fk, .u64 a, .ro vS (veL m f q)] H K := by
  refine wpF_go c28 rfl 3 ?_
  intro ha hb
  simp only [s28, sndV]
  clear ha hb
  have l1 := veL_len (m := m) (f := f) (t := q)
  have e1 : ((q : Int) = 128) = False := by simp only [eq_iff_iff, iff_false]; omega
  (refine gw2 @l1 @e1 ?_; try exact True.intro)
  exact h
theorem f28e {K : AV → Heap → Prop} {H : Heap} {d0 d1 : BitVec 64} {fk : Nat → List (BitVec 8)} {a : BitVec 64} {m : Nat → Nat} {f : Nat → Nat → Bool} (he : spn a (m 0) ≠ 0) (h : K (.tup [.nils, .int (spn a (m 0))]) H) : wpF P G 28 [sndV d0 d1 fk, .u64 a, .ro vS (veL m f 128)] H K := by
  refine wpF_go c28 rfl 3 ?_
  intro ha hb
  simp only [s28, sndV]
  clear ha hb
  have l1 := veL_len (m := m) (f := f) (t := 128)
  have e128 : ((128 : Nat) : Int) = 128 := rfl
  have g0 := veL_get (m := m) (f := f) (t := 128) (i := 0) (by omega)
  have hv : ∀ n f, vec n f = .agg [.int (n : Int), .ro .leaf (wdA n f)] := fun _ _ => rfl
  rw [hv] at g0
  (refine gw3 @l1 @e128 @g0 ?_; try exact True.intro)
  rw [← hv]
  refine ⟨rfl, f21 ?_⟩
  (refine gw3 @l1 @e128 @g0 ?_; try exact True.intro)
  refine f41 ?_
  have e1 : (spn a (m 0) = 0) = False := eq_false he
  generalize spn a (m 0) = e at *
  (refine gw1 @e1 ?_; try exact True.intro)
  exact h
def skb (d0 d1 : BitVec 64) (lk : List AV) : Option Blk := some ⟨62, 0, false, .arr 1 (.st [.arr 2 .leaf, .leaf]), .agg [.agg [.agg [.u64 d0, .u64 d1], .ro (.arr 32 .leaf) lk]]⟩
def Iu24 (d0 d1 : BitVec 64) (lk lc : List AV) (fk : Nat → List (BitVec 8)) (a : BitVec 64) (n : Nat) (m : Nat → Nat) (f : Nat → Nat → Bool) (H : Heap) (k : Nat) (st : St) : Prop :=
  ∃ (i : Nat) (u9 u10 u11 u12 u19 u20 u21 u22 : AV) (l : List AV) (J : Heap), st = ⟨[.agg [.agg [.u64 d0, .u64 d1], .ro (.arr 32 .leaf) lk], .u64 a, .ro vS lc, .ptr H.length 0 [0] (.st [.arr 2 .leaf, .leaf]), .nils, .int 0, .int (n : Int), .int 0, .own (H.length + 1) i [] 0 i vS, u9, u10, u11, u12, .bool false, .bool false, .bool false, .ro vS lc, .int 128, .int (i : Int), u19, u20, u21, u22],
    H ++ skb d0 d1 lk :: vB i l :: J⟩ ∧ k = 128 - i ∧ i ≤ 128 ∧ (∀ j, j < i → m j = n) ∧ l = veL (fun _ => n) (sF d0 d1 fk a.toNat n f) i
set_option maxHeartbeats 4000000 in
theorem f28 {K : AV → Heap → Prop} {H : Heap} {d0 d1 : BitVec 64} {fk : Nat → List (BitVec 8)} {a : BitVec 64} {m : Nat → Nat} {f : Nat → Nat → Bool} {n : Nat} (hk : ∀ i, (fk i).length = 32) (hm : ∀ i, m i ≤ 65536) (hn : m 0 = n) (he : spn a n = 0)
    (hbad : (∃ i, i < 128 ∧ m i ≠ n) → K (.tup [.nils, .int 11]) H)
    (hgood : (∀ i, i < 128 → m i = n) → K (.tup [.ro (.arr 2 .leaf) (rwA (cw (sF d0 d1 fk a.toNat n f) 0) (cw (sF d0 d1 fk a.toNat n f) 1) n), .int 0]) H) : wpF P G 28 [sndV d0 d1 fk, .u64 a, .ro vS (veL m f 128)] H K := by
  refine wpF_go c28 rfl 5 ?_
  intro ha hb
  simp only [s28, sndV]
  clear ha hb
  have l1 := veL_len (m := m) (f := f) (t := 128)
  have l2 := sdL_len (f := fk) (n := 128)
  have e128 : ((128 : Nat) : Int) = 128 := rfl
  have hv : ∀ n f, vec n f = .agg [.int (n : Int), .ro .leaf (wdA n f)] := fun _ _ => rfl
  have gc : ∀ i, i < 128 → (veL m f 128).getD i .un = vec (m i) (f i) := fun i hi => veL_get hi
  have gk : ∀ i, i < 128 → (sdL fk 128).getD i .un = .agg ((fk i).map .u8) := fun i hi => ld_rng hi
  have g0 := gc 0 (by omega)
  rw [hv, hn] at g0
  obtain ⟨n1, n2, n3⟩ := spn_0 he
  generalize veL m f 128 = lc at *
  generalize sdL fk 128 = lk at *
  (refine gw3 @l1 @e128 @g0 ?_; try exact True.intro)
  refine ⟨rfl, f21 (n := n) (f := f 0) ?_⟩
  (refine gw3 @l1 @e128 @g0 ?_; try exact True.intro)
  refine f41 ?_
  rw [he]
  (refine gw3 @l1 @l2 @e128 ?_; try exact True.intro)
  refine wp_inv (Iu24 d0 d1 lk lc fk a n m f H) 128 ⟨0, _, _, _, _, _, _, _, _, [], [], rfl, rfl, by omega, fun j hj => absurd hj (Nat.not_lt_zero j), rfl⟩ ?_
  rintro k st ⟨i, u9, u10, u11, u12, u19, u20, u21, u22, l, J, rfl, rfl, hi, hmi, hl⟩
  unfold skb vB vS
  by_cases hil : i < 128
  · have h2 : ((i : Int) < 128) = True := by simp only [eq_iff_iff, iff_true]; omega
    have gi := gc i hil
    have ki := gk i hil
    have q1 := hk i
    have hmi' := hm i
    rw [hv] at gi
    (refine gw5 @h2 @l1 @l2 @e128 @gi ?_; try exact True.intro)
    refine f21 (n := m i) (f := f i) ?_
    by_cases hq : m i = n
    · have e1 : (((m i : Nat) : Int) = (n : Int)) = True := by rw [hq]; simp
      have hmi2 : ∀ j, j < i + 1 → m j = n := fun j hj => by
        by_cases e : j = i
        · rw [e]; exact hq
        · exact hmi j (by omega)
      (refine gw7 @e1 @h2 @l1 @l2 @e128 @ki @q1 ?_; try exact True.intro)
      refine f42 q1 (by omega) (by omega) ?_
      rw [hv]
      (refine gw0 ?_; try exact True.intro)
      refine f45 (x := d0) (y := d1) ?_
      cases hr : rb d0 d1 (i : Int) with
      | false =>
        have hS : sF d0 d1 fk a.toNat n f i = cl (fk i) a.toNat n := by funext j; simp [sF, hr]
        (refine gw0 ?_; try exact True.intro)
        (repeat (refine And.intro (by omega) ?_))
        exact ⟨128 - (i + 1), by omega, i + 1, _, _, _, _, _, _, _, _, _, _, rfl, rfl, by omega, hmi2, by rw [hl, ← veL_succ, hS]; rfl⟩
      | true =>
        have hS : sF d0 d1 fk a.toNat n f i = fun j => cl (fk i) a.toNat n j != f i j := by funext j; simp [sF, hr]
        rw [hq]
        (refine gw0 ?_; try exact True.intro)
        refine f43 (n := n) (m := n) (f := cl (fk i) a.toNat n) (g := f i) (by omega) ?_
        rw [if_pos rfl, hv]
        (refine gw0 ?_; try exact True.intro)
        (repeat (refine And.intro (by omega) ?_))
        exact ⟨128 - (i + 1), by omega, i + 1, _, _, _, _, _, _, _, _, _, _, rfl, rfl, by omega, hmi2, by rw [hl, ← veL_succ, hS]; rfl⟩
    · have e1 : (((m i : Nat) : Int) = (n : Int)) = False := by simp only [eq_iff_iff, iff_false]; omega
      (refine gw1 @e1 ?_; try exact True.intro)
      exact hbad ⟨i, hil, hq⟩
  · have h2 : ((i : Int) < 128) = False := by simp only [eq_iff_iff, iff_false]; omega
    have hie : i = 128 := by omega
    subst hie
    have lt : List.take 128 l = l := List.take_of_length_le (by rw [hl, veL_len]; exact Nat.le_refl _)
    have mo : ∀ {kp : Nat → Bool} {N : Nat} {h : Heap} {d : Nat}, mapO (demK kp N h (d + 3)) l = some l := by rw [hl]; exact mapO_veL
    (refine gw1 @h2 ?_; try exact True.intro)
    refine wpF_give1 (H.length + 1) 5 ?_
    (refine gw2 @lt @mo ?_; try exact True.intro)
    rw [hl]
    refine f44 (m := fun _ => n) (f := sF d0 d1 fk a.toNat n f) (fun _ => by omega) (fun ⟨i, _, hn⟩ => absurd rfl hn) (fun _ => ?_)
    rw [rwA_cw]
    have hbr : ∀ {k : Nat}, AV.bnds k (rwA (cw (sF d0 d1 fk a.toNat n f) 0) (cw (sF d0 d1 fk a.toNat n f) 1) n) = true := by
      intro k
      refine bnds_iff.2 fun x hx => ?_
      obtain ⟨j, _, rfl⟩ := List.mem_map.1 hx
      rfl
    have h := hgood hmi
    generalize rwA (cw (sF d0 d1 fk a.toNat n f) 0) (cw (sF d0 d1 fk a.toNat n f) 1) n = R at *
    (refine gw1 @hbr ?_; try exact True.intro)
    exact h
theorem rb_wd {x y : BitVec 64} : wd (fun i => rb x y (i : Int)) 0 = x ∧ wd (fun i => rb x y (i : Int)) 1 = y := by
  constructor
  · refine (wd_of fun j hj => ?_).symm
    unfold rb
    rw [if_pos (by omega)]
    exact congrArg _ (by omega)
  · refine (wd_of fun j hj => ?_).symm
    unfold rb
    rw [if_neg (by omega), if_pos (by omega)]
    exact congrArg _ (by omega)
/-- the columns of who sends are those of who chooses, changed where the bit is 1 and 1 was chosen -/
theorem sF_uF {d0 d1 : BitVec 64} {fk fz fo : Nat → List (BitVec 8)} (hk : ∀ i, fk i = if rb d0 d1 (i : Int) = true then fo i else fz i) {a n : Nat} {c : Nat → Bool} {i j : Nat} :
    sF d0 d1 fk a n (uF fz fo a n c) i j = (clF fz a n i j != (c j && rb d0 d1 (i : Int))) := by
  unfold sF uF clF
  rw [hk]
  cases rb d0 d1 (i : Int)
  · simp
  · rw [if_pos rfl]
    generalize cl (fz i) a n j = p
    generalize cl (fo i) a n j = q
    generalize c j = r
    cases p <;> cases q <;> cases r <;> rfl
theorem cw_sF {d0 d1 : BitVec 64} {fk fz fo : Nat → List (BitVec 8)} (hk : ∀ i, fk i = if rb d0 d1 (i : Int) = true then fo i else fz i) {a n : Nat} {c : Nat → Bool} {j : Nat} :
    jrow d0 d1 (c j) (cw (sF d0 d1 fk a n (uF fz fo a n c)) 0 j) (cw (sF d0 d1 fk a n (uF fz fo a n c)) 1 j) (cw (clF fz a n) 0 j) (cw (clF fz a n) 1 j) = true := by
  have e : ∀ h, cw (sF d0 d1 fk a n (uF fz fo a n c)) h j = cw (clF fz a n) h j ^^^ wd (fun i => c j && rb d0 d1 (i : Int)) h := fun h => by
    unfold cw
    rw [wd_xor]
    exact wd_congr fun i hi => sF_uF hk
  unfold jrow
  rw [decide_eq_true_eq, e, e]
  cases c j
  · rw [if_neg (by decide), if_neg (by decide)]
    simp only [Bool.false_and, wd_false]
    exact ⟨trivial, trivial⟩
  · rw [if_pos rfl, if_pos rfl]
    simp only [Bool.true_and, rb_wd.1, rb_wd.2]
    exact ⟨trivial, trivial⟩
theorem jns_all {d0 d1 : BitVec 64} {x y z w : Nat → BitVec 64} {c : Nat → Bool} : ∀ {n : Nat}, (∀ j, j < n → jrow d0 d1 (c j) (x j) (y j) (z j) (w j) = true) → jns d0 d1 x y z w c n = true
  | 0, _ => rfl
  | n + 1, h => by rw [jns, jns_all fun j hj => h j (by omega), h n (by omega)]; rfl
theorem kS_if {ks : List (BitVec 8)} {i : Nat} : kS ks i = if rb (wdg ks 9 0) (wdg ks 9 1) (i : Int) = true then oS ks i else zS ks i := rfl
theorem jns_deal {ks : List (BitVec 8)} {a n : Nat} {c c' : Nat → Bool} (hc : ∀ j, j < n → c' j = c j) :
    jns (wdg ks 9 0) (wdg ks 9 1) (cw (sF (wdg ks 9 0) (wdg ks 9 1) (kS ks) a n (uF (zS ks) (oS ks) a n c)) 0) (cw (sF (wdg ks 9 0) (wdg ks 9 1) (kS ks) a n (uF (zS ks) (oS ks) a n c)) 1) (cw (clF (zS ks) a n) 0) (cw (clF (zS ks) a n) 1) c' n = true :=
  jns_all fun j hj => by rw [hc j hj]; exact cw_sF fun i => kS_if
end Go.Proofs.YtjilenmngokhpaaDoor

end

section
/-
  Layer 18 (rot): the law RotTransfers, walked.
-/
open Go Go.V
namespace Go.Proofs.YtjilenmngokhpaaDoor
/-- trefoil/trefoillaw18.RotTransfers (0:master, 1:from, 2:choices, 3:master, 6:, 7:a, 8:b, 9:v, 11:u, 12:t, 13:e, 14:q, 15:f, 16:p, 17:s, 18:j, 30:, 65:, 93:, 97:, 134:) -/
def s6 : FnS := ⟨136, [0, 1, 2, 3, 6, 7, 8, 9, 11, 12, 13, 14, 15, 16, 17, 18, 30, 65, 93, 97, 134],
    (.seq (.reg [⟨.var 3, (.e (.box 28 (.arr 32 .leaf))), [.t 0], none⟩,
      ⟨.var 4, (.q .mv), [.c (.bool false)], none⟩])
    (.seq (.seq (.reg [⟨.new, (.q .mv), [.t 2], none⟩,
      ⟨.new, (.q .len), [.t 21], none⟩,
      ⟨.new, (.q (.bin .eql)), [.t 22, .c (.int 0)], none⟩,
      ⟨.new, (.q .mv), [.t 23], none⟩,
      ⟨.new, (.q .mv), [.t 2], (some (24, false))⟩,
      ⟨.new, (.q .len), [.t 25], (some (24, false))⟩,
      ⟨.new, (.q (.bin .gtr)), [.t 26, .c (.int 60)], (some (24, false))⟩,
      ⟨.new, (.q .pick), [.t 24, .c (.bool true), .t 27], none⟩,
      ⟨.new, (.q .mv), [.t 28], none⟩,
      ⟨.new, (.q .mv), [.t 1], (some (29, false))⟩,
      ⟨.new, (.q (.bin .gtr)), [.t 30, .c (.u64 33554432)], (some (29, false))⟩,
      ⟨.var 16, (.q .pick), [.t 29, .c (.bool true), .t 31], none⟩])
    (.cond (.t 16) (.seq (.reg [⟨.new, (.call 7), [], none⟩,
      ⟨.var 4, (.q .mv), [.t 21], none⟩])
    .ret)
    .skip))
    (.seq (.reg [⟨.new, (.q (.ld (.arr 32 .leaf))), [.t 3], none⟩,
      ⟨.new, (.call 26), [.t 21, .c (.u64 1)], none⟩,
      ⟨.new, (.q .mv), [.t 22], none⟩,
      ⟨.new, (.q (.ext 0)), [.t 23], none⟩,
      ⟨.new, (.q (.ext 1)), [.t 23], none⟩,
      ⟨.var 5, (.e (.alloc 66 (.st [(.st [(.arr 2 .leaf), .leaf]), (.st [.leaf, .leaf])]) (.agg [(.agg [(.agg [(.u64 0), (.u64 0)]), .nils]), (.agg [.nils, .nils])]))), [], none⟩,
      ⟨.var 6, (.e (.alloc 66 (.st [(.st [(.arr 2 .leaf), .leaf]), (.st [.leaf, .leaf])]) (.agg [(.agg [(.agg [(.u64 0), (.u64 0)]), .nils]), (.agg [.nils, .nils])]))), [], none⟩,
      ⟨.none, (.e (.store (.st [(.st [(.arr 2 .leaf), .leaf]), (.st [.leaf, .leaf])]))), [.t 5, .t 24], none⟩,
      ⟨.none, (.e (.store (.st [(.st [(.arr 2 .leaf), .leaf]), (.st [.leaf, .leaf])]))), [.t 6, .t 25], none⟩])
    (.seq (.reg [⟨.new, (.q .mv), [.t 2], none⟩,
      ⟨.new, (.call 16), [.t 21], none⟩,
      ⟨.new, (.q .mv), [.t 22], none⟩,
      ⟨.new, (.q (.ext 0)), [.t 23], none⟩,
      ⟨.new, (.q (.ext 1)), [.t 23], none⟩,
      ⟨.var 7, (.e (.alloc 42 (.st [.leaf, .leaf]) (.agg [(.int 0), .nils]))), [], none⟩,
      ⟨.none, (.e (.store (.st [.leaf, .leaf]))), [.t 7, .t 24], none⟩,
      ⟨.new, (.q .mv), [.t 25], none⟩])
    (.seq (.reg [⟨.new, (.q (.fa [(.st [(.arr 2 .leaf), .leaf]), (.st [.leaf, .leaf])] 1)), [.t 6], none⟩,
      ⟨.new, (.q (.ld (.st [.leaf, .leaf]))), [.t 21], none⟩,
      ⟨.new, (.q .mv), [.t 1], none⟩,
      ⟨.new, (.q (.ld (.st [.leaf, .leaf]))), [.t 7], none⟩,
      ⟨.new, (.call 27), [.t 22, .t 23, .t 24], none⟩,
      ⟨.new, (.q .mv), [.t 25], none⟩,
      ⟨.new, (.q (.ext 0)), [.t 26], none⟩,
      ⟨.new, (.q (.ext 1)), [.t 26], none⟩,
      ⟨.new, (.q (.ext 2)), [.t 26], none⟩,
      ⟨.var 8, (.q .mv), [.t 27], none⟩,
      ⟨.var 9, (.q .mv), [.t 28], none⟩,
      ⟨.var 10, (.q .mv), [.t 29], none⟩])
    (.seq (.reg [⟨.new, (.q (.fa [(.st [(.arr 2 .leaf), .leaf]), (.st [.leaf, .leaf])] 0)), [.t 5], none⟩,
      ⟨.new, (.q (.ld (.st [(.arr 2 .leaf), .leaf]))), [.t 21], none⟩,
      ⟨.new, (.q .mv), [.t 1], none⟩,
      ⟨.new, (.q .mv), [.t 8], none⟩,
      ⟨.new, (.call 28), [.t 22, .t 23, .t 24], none⟩,
      ⟨.new, (.q .mv), [.t 25], none⟩,
      ⟨.new, (.q (.ext 0)), [.t 26], none⟩,
      ⟨.new, (.q (.ext 1)), [.t 26], none⟩,
      ⟨.var 11, (.q .mv), [.t 27], none⟩,
      ⟨.var 12, (.q .mv), [.t 28], none⟩])
    (.seq (.seq (.reg [⟨.new, (.q .mv), [.t 10], none⟩,
      ⟨.new, (.q (.bin .neq)), [.t 21, .c (.int 0)], none⟩,
      ⟨.new, (.q .mv), [.t 22], none⟩,
      ⟨.new, (.q .mv), [.t 12], (some (23, false))⟩,
      ⟨.new, (.q .mv), [.t 10], (some (23, false))⟩,
      ⟨.new, (.q (.bin .neq)), [.t 24, .t 25], (some (23, false))⟩,
      ⟨.var 17, (.q .pick), [.t 23, .c (.bool true), .t 26], none⟩])
    (.cond (.t 17) (.seq (.reg [⟨.var 4, (.q .mv), [.c (.bool false)], none⟩])
    .ret)
    .skip))
    (.seq (.reg [⟨.new, (.q (.fa [(.st [(.arr 2 .leaf), .leaf]), (.st [.leaf, .leaf])] 0)), [.t 5], none⟩,
      ⟨.new, (.q (.fa [(.arr 2 .leaf), .leaf] 0)), [.t 21], none⟩,
      ⟨.new, (.q (.ld (.arr 2 .leaf))), [.t 22], none⟩,
      ⟨.new, (.q .mv), [.t 1], none⟩,
      ⟨.new, (.q .mv), [.t 11], none⟩,
      ⟨.new, (.call 11), [.t 23, .t 24, .t 25], none⟩,
      ⟨.new, (.q .mv), [.t 1], none⟩,
      ⟨.new, (.q .mv), [.t 9], none⟩,
      ⟨.new, (.call 14), [.t 27, .t 28], none⟩,
      ⟨.var 13, (.q .mv), [.t 26], none⟩,
      ⟨.var 14, (.q .mv), [.t 29], none⟩])
    (.seq (.seq (.reg [⟨.new, (.q .mv), [.t 13], none⟩,
      ⟨.new, (.q .mv), [.t 14], none⟩,
      ⟨.new, (.q (.ld (.st [.leaf, .leaf]))), [.t 7], none⟩,
      ⟨.new, (.call 17), [.t 21, .t 22, .t 23], none⟩,
      ⟨.new, (.q (.un .not)), [.t 24], none⟩,
      ⟨.new, (.q .mv), [.t 25], none⟩,
      ⟨.new, (.q .mv), [.t 13], (some (26, false))⟩,
      ⟨.new, (.q .len), [.t 27], (some (26, false))⟩,
      ⟨.new, (.q .mv), [.t 2], (some (26, false))⟩,
      ⟨.new, (.q .len), [.t 29], (some (26, false))⟩,
      ⟨.new, (.q (.bin .neq)), [.t 28, .t 30], (some (26, false))⟩,
      ⟨.new, (.q .pick), [.t 26, .c (.bool true), .t 31], none⟩,
      ⟨.new, (.q .mv), [.t 32], none⟩,
      ⟨.new, (.q .mv), [.t 14], (some (33, false))⟩,
      ⟨.new, (.q .len), [.t 34], (some (33, false))⟩,
      ⟨.new, (.q .mv), [.t 2], (some (33, false))⟩,
      ⟨.new, (.q .len), [.t 36], (some (33, false))⟩,
      ⟨.new, (.q (.bin .neq)), [.t 35, .t 37], (some (33, false))⟩,
      ⟨.var 18, (.q .pick), [.t 33, .c (.bool true), .t 38], none⟩])
    (.cond (.t 18) (.seq (.reg [⟨.var 4, (.q .mv), [.c (.bool false)], none⟩])
    .ret)
    .skip))
    (.seq (.seq (.reg [⟨.var 15, (.q .mv), [.c (.int 0)], none⟩])
    (.block 0 (.loop (.seq (.seq (.reg [⟨.new, (.q .mv), [.t 15], none⟩,
      ⟨.new, (.q .mv), [.t 2], none⟩,
      ⟨.new, (.q .len), [.t 22], none⟩,
      ⟨.var 19, (.q (.bin .lss)), [.t 21, .t 23], none⟩])
    (.cond (.t 19) .skip
    (.exit 0)))
    (.seq (.block 1 (.seq (.draw [⟨.new, (.q .mv), [.t 2], none⟩,
      ⟨.new, (.q .mv), [.t 15], none⟩,
      ⟨.new, (.q (.iaS .leaf)), [.t 21, .t 22], none⟩,
      ⟨.new, (.q (.ld .leaf)), [.t 23], none⟩,
      ⟨.new, (.q .mv), [.t 24], none⟩,
      ⟨.new, (.q .mv), [.t 14], (some (25, true))⟩,
      ⟨.new, (.q .mv), [.t 15], (some (25, true))⟩,
      ⟨.new, (.q (.iaS (.arr 32 .leaf))), [.t 26, .t 27], (some (25, true))⟩,
      ⟨.new, (.q (.ld (.arr 32 .leaf))), [.t 28], (some (25, true))⟩,
      ⟨.new, (.q .mv), [.t 13], (some (25, true))⟩,
      ⟨.new, (.q .mv), [.t 15], (some (25, true))⟩,
      ⟨.new, (.q (.iaS (.st [(.arr 32 .leaf), (.arr 32 .leaf)]))), [.t 30, .t 31], (some (25, true))⟩,
      ⟨.new, (.q (.fa [(.arr 32 .leaf), (.arr 32 .leaf)] 1)), [.t 32], (some (25, true))⟩,
      ⟨.new, (.q (.ld (.arr 32 .leaf))), [.t 33], (some (25, true))⟩,
      ⟨.new, (.q (.eqA true 32 .u8)), [.t 29, .t 34], (some (25, true))⟩,
      ⟨.new, (.q .pick), [.t 25, .t 35, .c (.bool false)], none⟩,
      ⟨.new, (.q .mv), [.t 36], none⟩,
      ⟨.new, (.q .mv), [.t 2], (some (37, false))⟩,
      ⟨.new, (.q .mv), [.t 15], (some (37, false))⟩,
      ⟨.new, (.q (.iaS .leaf)), [.t 38, .t 39], (some (37, false))⟩,
      ⟨.new, (.q (.ld .leaf)), [.t 40], (some (37, false))⟩,
      ⟨.new, (.q (.un .not)), [.t 41], (some (37, false))⟩,
      ⟨.new, (.q .mv), [.t 42], (some (37, false))⟩,
      ⟨.new, (.q .mv), [.t 14], (some (43, true))⟩,
      ⟨.new, (.q .mv), [.t 15], (some (43, true))⟩,
      ⟨.new, (.q (.iaS (.arr 32 .leaf))), [.t 44, .t 45], (some (43, true))⟩,
      ⟨.new, (.q (.ld (.arr 32 .leaf))), [.t 46], (some (43, true))⟩,
      ⟨.new, (.q .mv), [.t 13], (some (43, true))⟩,
      ⟨.new, (.q .mv), [.t 15], (some (43, true))⟩,
      ⟨.new, (.q (.iaS (.st [(.arr 32 .leaf), (.arr 32 .leaf)]))), [.t 48, .t 49], (some (43, true))⟩,
      ⟨.new, (.q (.fa [(.arr 32 .leaf), (.arr 32 .leaf)] 0)), [.t 50], (some (43, true))⟩,
      ⟨.new, (.q (.ld (.arr 32 .leaf))), [.t 51], (some (43, true))⟩,
      ⟨.new, (.q (.eqA true 32 .u8)), [.t 47, .t 52], (some (43, true))⟩,
      ⟨.new, (.q .pick), [.t 43, .t 53, .c (.bool false)], (some (37, false))⟩,
      ⟨.var 20, (.q .pick), [.t 37, .c (.bool true), .t 54], none⟩])
    (.cond (.t 20) (.seq (.reg [⟨.var 4, (.q .mv), [.c (.bool false)], none⟩])
    .ret)
    .skip)))
    (.reg [⟨.new, (.q .mv), [.t 15], none⟩,
      ⟨.new, (.q (.bin .add)), [.t 21, .c (.int 1)], none⟩,
      ⟨.var 15, (.q .mv), [.t 22], none⟩]))))))
    (.seq (.reg [⟨.new, (.call 7), [], none⟩,
      ⟨.var 4, (.q .mv), [.t 21], none⟩])
    .ret))))))))))),
    [.t 4]⟩

set_option maxRecDepth 100000
set_option linter.unusedSimpArgs false
set_option linter.unusedVariables false
theorem c6 : cF P G (drP P G) 6 3 s6.vm = some s6 := by kernel_rfl
def colD (ks : List (BitVec 8)) (a n : Nat) (c : Nat → Bool) : List AV := veL (fun _ => n) (uF (zS ks) (oS ks) a n c) 128
theorem bnds_col {ks : List (BitVec 8)} {a n k : Nat} {c : Nat → Bool} : AV.bnds k (colD ks a n c) = true := bnds_veL
/-- the rows of who chooses, and of who sends -/
def tR (ks : List (BitVec 8)) (a n : Nat) : List Rw := (List.range n).map fun j => (cw (clF (zS ks) a n) 0 j, cw (clF (zS ks) a n) 1 j)
def sR (ks : List (BitVec 8)) (a n : Nat) (c : Nat → Bool) : List Rw := (List.range n).map fun j => (cw (sF (wdg ks 9 0) (wdg ks 9 1) (kS ks) a n (uF (zS ks) (oS ks) a n c)) 0 j, cw (sF (wdg ks 9 0) (wdg ks 9 1) (kS ks) a n (uF (zS ks) (oS ks) a n c)) 1 j)
theorem tR_len {ks : List (BitVec 8)} {a n : Nat} : (tR ks a n).length = n := by simp [tR]
theorem sR_len {ks : List (BitVec 8)} {a n : Nat} {c : Nat → Bool} : (sR ks a n c).length = n := by simp [sR]
theorem rwA_map {x y : Nat → BitVec 64} {n : Nat} : rwA x y n = ((List.range n).map fun j => (x j, y j)).map rwP := by unfold rwA; rw [List.map_map]; rfl
theorem f27d {K : AV → Heap → Prop} {H : Heap} {ks : List (BitVec 8)} {a : BitVec 64} {n : Nat} {c : Nat → Bool} (he : spn a n = 0) (h : K (.tup [.ro vS (colD ks a.toNat n c), .ro (.arr 2 .leaf) ((tR ks a.toNat n).map rwP), .int 0]) H) : wpF P G 27 [.agg [.ro (.arr 32 .leaf) (sdL (zS ks) 128), .ro (.arr 32 .leaf) (sdL (oS ks) 128)], .u64 a, vec n c] H K :=
  f27 (fun _ => zS_len) (fun _ => oS_len) he (by rw [rwA_map]; exact h)
theorem f28d {K : AV → Heap → Prop} {H : Heap} {ks : List (BitVec 8)} {a : BitVec 64} {n : Nat} {c : Nat → Bool} (he : spn a n = 0) (h : K (.tup [.ro (.arr 2 .leaf) ((sR ks a.toNat n c).map rwP), .int 0]) H) : wpF P G 28 [.agg [.agg [.u64 (wdg ks 9 0), .u64 (wdg ks 9 1)], .ro (.arr 32 .leaf) (sdL (kS ks) 128)], .u64 a, .ro vS (colD ks a.toNat n c)] H K :=
  f28 (m := fun _ => n) (fun _ => kS_len) (fun _ => by have := spn_0 he; omega) rfl he (fun ⟨_, _, hn⟩ => absurd rfl hn) (fun _ => by rw [rwA_map]; exact h)
theorem rng_at {α : Type} {f : Nat → α} {n j : Nat} {d : α} (h : j < n) : ((List.range n).map f).getD j d = f j := by
  rw [List.getD_eq_getElem?_getD, List.getElem?_map, List.getElem?_range h]; rfl
/-- who chooses has just the seeds that it chose -/
theorem tr_eq {ks : List (BitVec 8)} {a n : Nat} {c : Nat → Bool} {fr : BitVec 64} {j : Nat} (hj : j < n) :
    (rcvL fr (tR ks a n) n).getD j [] = if c j = true then ((sndL (wdg ks 9 0, wdg ks 9 1) fr (sR ks a n c) n).getD j prD).o else ((sndL (wdg ks 9 0, wdg ks 9 1) fr (sR ks a n c) n).getD j prD).z := by
  unfold rcvL sndL
  rw [rng_at hj, rng_at hj]
  unfold rcvF sndF
  unfold tR sR
  rw [rng_at hj, rng_at hj]
  have h := cw_sF (d0 := wdg ks 9 0) (d1 := wdg ks 9 1) (fk := kS ks) (fz := zS ks) (fo := oS ks) (fun i => kS_if) (a := a) (n := n) (c := c) (j := j)
  unfold jrow at h
  rw [decide_eq_true_eq] at h
  obtain ⟨h1, h2⟩ := h
  simp only
  rw [h1, h2]
  cases c j
  · rw [if_neg (by decide), if_neg (by decide), if_neg (by decide)]
    simp
  · rw [if_pos rfl, if_pos rfl, if_pos rfl]
    have e : ∀ x y : BitVec 64, (x ^^^ y) ^^^ y = x := fun x y => by rw [BitVec.xor_assoc, BitVec.xor_self, BitVec.xor_zero]
    rw [e, e]
theorem rcv_at {fr : BitVec 64} {rows : List Rw} {n j : Nat} (h : j < n) : ((rcvL fr rows n).getD j []).length = 32 := sd_ok rcvL_ok (by rw [rcvL_len]; exact h)
def I6 (A : List AV) (n : Nat) (H L : Heap) (k : Nat) (st : St) : Prop :=
  ∃ (j : Nat) (u19 u20 : AV), st = ⟨A ++ [.int (j : Int), .bool false, .bool false, .bool false, u19, u20], H ++ L⟩ ∧ k = n - j ∧ j ≤ n
set_option maxHeartbeats 4000000 in
theorem f6 {K : AV → Heap → Prop} {H : Heap} {ks : List (BitVec 8)} {a : BitVec 64} {cs : List Bool} (hk : ks.length = 32) (h : K (.bool true) H) : wpF P G 6 [.agg (ks.map .u8), .u64 a, .ro .leaf (cs.map .bool)] H K := by
  refine wpF_go c6 rfl 3 ?_
  intro ha hb
  simp only [s6]
  clear ha hb
  have lc : (cs.map AV.bool).length = cs.length := by simp
  by_cases h2 : cs.length = 0
  · have e2 : ((cs.length : Int) = 0) = True := by simp only [eq_iff_iff, iff_true]; omega
    (refine gw3 @hk @lc @e2 ?_; try exact True.intro)
    refine f7 ?_
    (refine gw0 ?_; try exact True.intro)
    exact h
  have e2 : ((cs.length : Int) = 0) = False := by simp only [eq_iff_iff, iff_false]; omega
  by_cases h1 : 60 < cs.length
  · have e1 : ((60 : Int) < (cs.length : Int)) = True := by simp only [eq_iff_iff, iff_true]; omega
    (refine gw4 @hk @lc @e1 @e2 ?_; try exact True.intro)
    refine f7 ?_
    (refine gw0 ?_; try exact True.intro)
    exact h
  have e1 : ((60 : Int) < (cs.length : Int)) = False := by simp only [eq_iff_iff, iff_false]; omega
  by_cases h3 : 33554432 < a
  · have e3 := eq_true h3
    (refine gw5 @hk @lc @e1 @e2 @e3 ?_; try exact True.intro)
    refine f7 ?_
    (refine gw0 ?_; try exact True.intro)
    exact h
  have e3 := eq_false h3
  rw [BitVec.lt_def] at h3
  have h3' : ¬ 33554432 < a.toNat := h3
  have he : spn a cs.length = 0 := by
    unfold spn
    rw [if_neg (by omega), if_neg (by omega)]
  have hv : ∀ f, vec cs.length f = .agg [.int (cs.length : Int), .ro .leaf (wdA cs.length f)] := fun _ => rfl
  have h16 : ∀ {K : AV → Heap → Prop} {H : Heap}, K (.tup [vec cs.length (bfn cs), .int 0]) H → wpF P G 16 [.ro .leaf (cs.map .bool)] H K := fun h => f16 (by omega) h
  (refine gw5 @hk @lc @e1 @e2 @e3 ?_; try exact True.intro)
  refine f26 hk ?_
  simp only [sndA, rcvA]
  generalize child (child ks 1) 0 = r0 at *
  generalize child (child ks 1) 1 = r1 at *
  have p27 := fun K H => @f27d K H r0 a cs.length (bfn cs) he
  have p28 := fun K H => @f28d K H r0 a cs.length (bfn cs) he
  have hR := sR_len (ks := r0) (a := a.toNat) (n := cs.length) (c := bfn cs)
  have hT := tR_len (ks := r0) (a := a.toNat) (n := cs.length)
  have p11 : ∀ (K : AV → Heap → Prop) (H : Heap), K (.ro prS ((sndL (wdg r0 9 0, wdg r0 9 1) a (sR r0 a.toNat cs.length (bfn cs)) cs.length).map prA)) H → wpF P G 11 [.agg [.u64 (wdg r0 9 0), .u64 (wdg r0 9 1)], .u64 a, .ro (.arr 2 .leaf) ((sR r0 a.toNat cs.length (bfn cs)).map rwP)] H K := fun K H h => f11 (d := (wdg r0 9 0, wdg r0 9 1)) (by omega) (by rw [hR]; exact h)
  have p14 : ∀ (K : AV → Heap → Prop) (H : Heap), K (.ro (.arr 32 .leaf) ((rcvL a (tR r0 a.toNat cs.length) cs.length).map sdA)) H → wpF P G 14 [.u64 a, .ro (.arr 2 .leaf) ((tR r0 a.toNat cs.length).map rwP)] H K := fun K H h => f14 (by omega) (by rw [hT]; exact h)
  have hts := fun j (hj : j < cs.length) => tr_eq (ks := r0) (a := a.toNat) (c := bfn cs) (fr := a) hj
  have hpl := sndL_len (d := (wdg r0 9 0, wdg r0 9 1)) (fr := a) (rows := sR r0 a.toNat cs.length (bfn cs)) (n := cs.length)
  have hpo := sndL_ok (d := (wdg r0 9 0, wdg r0 9 1)) (fr := a) (rows := sR r0 a.toNat cs.length (bfn cs)) (n := cs.length)
  have hsl := rcvL_len (fr := a) (rows := tR r0 a.toNat cs.length) (n := cs.length)
  have hso := rcvL_ok (fr := a) (rows := tR r0 a.toNat cs.length) (n := cs.length)
  rw [hv] at p27 h16
  generalize sndL (wdg r0 9 0, wdg r0 9 1) a (sR r0 a.toNat cs.length (bfn cs)) cs.length = pl at *
  generalize rcvL a (tR r0 a.toNat cs.length) cs.length = sl at *
  have h17 : ∀ (K : AV → Heap → Prop) (H : Heap), K (.bool true) H → wpF P G 17 [.ro prS (pl.map prA), .ro (.arr 32 .leaf) (sl.map sdA), vec cs.length (bfn cs)] H K := fun K H h => by
    refine f17 (.inl rfl) (.inl rfl) (by omega) (by omega) hpo hso ?_
    rw [chs_t (by omega) hsl fun j hj => ?_]
    · exact h
    · rw [hts j (by omega)]
      unfold wnt cut
      rw [decide_eq_true (by omega), Bool.true_and]
  rw [hv] at h17
  generalize wdA cs.length (bfn cs) = W at *
  generalize colD r0 a.toNat cs.length (bfn cs) = U0 at *
  generalize (tR r0 a.toNat cs.length).map rwP = T0 at *
  generalize (sR r0 a.toNat cs.length (bfn cs)).map rwP = S0 at *
  generalize sdL (kS r0) 128 = lk0 at *
  generalize sdL (zS r0) 128 = lz0 at *
  generalize sdL (oS r0) 128 = lo0 at *
  generalize wdg r0 9 0 = x0 at *
  generalize wdg r0 9 1 = y0 at *
  generalize sdL (kS r1) 128 = lk1 at *
  generalize sdL (zS r1) 128 = lz1 at *
  generalize sdL (oS r1) 128 = lo1 at *
  generalize wdg r1 9 0 = x1 at *
  generalize wdg r1 9 1 = y1 at *
  (refine gw0 ?_; try exact True.intro)
  refine h16 ?_
  (refine gw0 ?_; try exact True.intro)
  refine p27 _ _ ?_
  (refine gw0 ?_; try exact True.intro)
  refine p28 _ _ ?_
  (refine gw0 ?_; try exact True.intro)
  refine p11 _ _ ?_
  (refine gw0 ?_; try exact True.intro)
  refine p14 _ _ ?_
  (refine gw0 ?_; try exact True.intro)
  refine h17 _ _ ?_
  have lp : (pl.map prA).length = cs.length := by rw [List.length_map]; exact hpl
  have ls : (sl.map sdA).length = cs.length := by rw [List.length_map]; exact hsl
  (refine gw3 @lp @ls @lc ?_; try exact True.intro)
  refine wp_inv (I6 [_, _, _, _, _, _, _, _, _, _, _, _, _, .ro prS (pl.map prA), .ro (.arr 32 .leaf) (sl.map sdA)] cs.length H [_, _, _, _]) cs.length ⟨0, _, _, rfl, rfl, Nat.zero_le _⟩ ?_
  rintro k st ⟨j, u19, u20, rfl, rfl, hj⟩
  by_cases hjl : j < cs.length
  · have e4 : ((j : Int) < (cs.length : Int)) = True := by simp only [eq_iff_iff, iff_true]; omega
    have gc := ld_bfn (l := cs) hjl
    have gp := ld_pr (l := pl) (i := j) (by omega)
    obtain ⟨hz, ho⟩ := pr_ok (l := pl) hpo (i := j) (by omega)
    have gs := ld_sd (ss := sl) (i := j) (by omega)
    have hl := sd_ok (ss := sl) hso (i := j) (by omega)
    have hts' := hts j hjl
    have hk1 := m8_kind (d := sl.getD j [])
    cases hf : bfn cs j with
    | false =>
      rw [hf] at gc hts'
      rw [if_neg (by decide)] at hts'
      have hk2 := m8_kind (d := (pl.getD j prD).z)
      have hne : ((sl.getD j []).map AV.u8 = (pl.getD j prD).z.map AV.u8) = True := by rw [m8_eq]; exact eq_true hts'
      (refine gw11 @gs @hl @hz @ho @gp @ls @lp @lc @gc @e4 @hne ?_; try exact True.intro)
      refine ⟨hk1, hk2, ?_⟩
      (repeat (refine And.intro (by omega) ?_))
      exact ⟨cs.length - (j + 1), by omega, j + 1, _, _, rfl, rfl, by omega⟩
    | true =>
      rw [hf] at gc hts'
      rw [if_pos rfl] at hts'
      have hk2 := m8_kind (d := (pl.getD j prD).o)
      have hne : ((sl.getD j []).map AV.u8 = (pl.getD j prD).o.map AV.u8) = True := by rw [m8_eq]; exact eq_true hts'
      (refine gw11 @gs @hl @hz @ho @gp @ls @lp @lc @gc @e4 @hne ?_; try exact True.intro)
      refine ⟨hk1, hk2, ?_⟩
      (repeat (refine And.intro (by omega) ?_))
      exact ⟨cs.length - (j + 1), by omega, j + 1, _, _, rfl, rfl, by omega⟩
  · have e4 : ((j : Int) < (cs.length : Int)) = False := by simp only [eq_iff_iff, iff_false]; omega
    (refine gw2 @e4 @lc ?_; try exact True.intro)
    refine f7 ?_
    (refine gw0 ?_; try exact True.intro)
    exact h
end Go.Proofs.YtjilenmngokhpaaDoor

end
