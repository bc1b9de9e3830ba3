/-
  Bits in words: what a word of 64 bits is, and what becomes of words when bits change. No program is in sight.
-/
import Derived.Test.YtjilenmngokhpaaV37
import Derived.Test.YtjilenmngokhpaaV38
section
open Go Go.V
namespace Go.V
set_option linter.unusedSimpArgs false
set_option linter.unusedVariables false

/-- the k-th word of bits -/
def wd (f : Nat → Bool) (k : Nat) : BitVec 64 := (BitVec.ofBoolListLE ((List.range 64).map fun j => f (64 * k + j))).cast (by simp)
theorem wd_bit {f : Nat → Bool} {k j : Nat} (hj : j < 64) : (wd f k).getLsbD j = f (64 * k + j) := by
  unfold wd
  rw [BitVec.getLsbD_cast, BitVec.getLsbD_ofBoolListLE, List.getD_eq_getElem?_getD, List.getElem?_map, List.getElem?_range hj]
  rfl
theorem wd_of {f : Nat → Bool} {k : Nat} {x : BitVec 64} (h : ∀ j, j < 64 → x.getLsbD j = f (64 * k + j)) : x = wd f k := by
  apply BitVec.eq_of_getLsbD_eq
  intro j hj
  rw [h j hj, wd_bit hj]
theorem wd_congr {f g : Nat → Bool} {k : Nat} (h : ∀ j, j < 64 → f (64 * k + j) = g (64 * k + j)) : wd f k = wd g k :=
  wd_of fun j hj => by rw [wd_bit hj, h j hj]
theorem wd_inj {f g : Nat → Bool} {k : Nat} (h : wd f k = wd g k) : ∀ j, j < 64 → f (64 * k + j) = g (64 * k + j) := by
  intro j hj
  rw [← wd_bit (f := f) hj, h, wd_bit hj]

/-- the first n bits -/
def cut (n : Nat) (f : Nat → Bool) (i : Nat) : Bool := decide (i < n) && f i
/-- the bits of a list -/
def bfn (l : List Bool) (i : Nat) : Bool := l.getD i false
/-- the bits of words -/
def wf (ws : List (BitVec 64)) (i : Nat) : Bool := (ws.getD (i / 64) 0).getLsbD (i % 64)
/-- how many words bits take -/
def nw (n : Nat) : Nat := (n + 63) / 64
/-- bits as words -/
def wds (n : Nat) (f : Nat → Bool) : List (BitVec 64) := (List.range (nw n)).map (wd f)
/-- a row of words as Go has it -/
def wdA (n : Nat) (f : Nat → Bool) : List AV := (List.range (nw n)).map fun k => .u64 (wd f k)
/-- bits as Go has them -/
def vec (n : Nat) (f : Nat → Bool) : AV := .agg [.int (n : Int), .ro .leaf (wdA n f)]

theorem wdA_len {n : Nat} {f : Nat → Bool} : (wdA n f).length = nw n := by simp [wdA]
theorem wdA_map {n : Nat} {f : Nat → Bool} : wdA n f = (wds n f).map .u64 := by simp [wdA, wds]
theorem wds_len {n : Nat} {f : Nat → Bool} : (wds n f).length = nw n := by simp [wds]
theorem bf_out {l : List Bool} {i : Nat} (h : l.length ≤ i) : bfn l i = false := by simp [bfn, List.getD_eq_getElem?_getD, List.getElem?_eq_none h]
theorem wf_wds {n : Nat} {f : Nat → Bool} {i : Nat} (h : i < 64 * nw n) : wf (wds n f) i = f i := by
  unfold wf wds
  have h1 : i / 64 < nw n := by omega
  rw [List.getD_eq_getElem?_getD, List.getElem?_map, List.getElem?_range h1]
  simp only [Option.map_some, Option.getD_some]
  rw [wd_bit (by omega)]
  congr 1; omega

theorem rng_set {F : Nat → AV} {m q : Nat} {v : AV} : ((List.range m).map F).set q v = (List.range m).map fun k => if k = q then v else F k := by
  apply List.ext_getElem?
  intro i
  rw [List.getElem?_set]
  by_cases hi : i < m
  · by_cases hq : q = i
    · subst hq; simp [hi]
    · simp [hi, hq, Ne.symm hq]
  · have h1 : (List.range m).length ≤ i := by simp; omega
    by_cases hq : q = i
    · subst hq; simp [hi]
    · simp [hi, hq]
theorem rng_congr {F G : Nat → AV} {m : Nat} (h : ∀ k, k < m → F k = G k) : (List.range m).map F = (List.range m).map G := by
  apply List.map_congr_left
  intro k hk
  exact h k (List.mem_range.1 hk)

theorem bit_one {j r : Nat} (hr : r < 64) (hj : j < 64) : ((1 : BitVec 64) <<< r).getLsbD j = decide (j = r) := by
  rw [BitVec.getLsbD_shiftLeft]
  by_cases h : j = r
  · subst h; simp [hj]
  · rcases Nat.lt_or_ge j r with h1 | h1
    · simp [h1, h]
    · have : ¬ j < r := by omega
      have h2 : ¬ (j - r = 0) := by omega
      simp [this, h, h2]

/-- one bit more -/
theorem wd_or {f g : Nat → Bool} {i : Nat} (h : ∀ j, f j = if j = i then true else g j) (k : Nat) : wd f k = if k = i / 64 then wd g k ||| ((1 : BitVec 64) <<< (i % 64)) else wd g k := by
  symm
  apply wd_of
  intro j hj
  rw [h]
  split
  · rename_i hk
    rw [BitVec.getLsbD_or, wd_bit hj, bit_one (by omega) hj]
    by_cases h1 : 64 * k + j = i
    · rw [if_pos h1]; have : j = i % 64 := by omega
      simp [this]
    · rw [if_neg h1]; have : ¬ j = i % 64 := by omega
      simp [this]
  · rename_i hk
    rw [wd_bit hj, if_neg (by omega)]
/-- one bit less -/
theorem wd_andn {f g : Nat → Bool} {i : Nat} (h : ∀ j, f j = if j = i then false else g j) (k : Nat) : wd f k = if k = i / 64 then wd g k &&& ~~~((1 : BitVec 64) <<< (i % 64)) else wd g k := by
  symm
  apply wd_of
  intro j hj
  rw [h]
  split
  · rename_i hk
    rw [BitVec.getLsbD_and, wd_bit hj, BitVec.getLsbD_not, bit_one (by omega) hj]
    by_cases h1 : 64 * k + j = i
    · rw [if_pos h1]; have : j = i % 64 := by omega
      simp [this]
    · rw [if_neg h1]; have : ¬ j = i % 64 := by omega
      simp [this, hj]
  · rename_i hk
    rw [wd_bit hj, if_neg (by omega)]
theorem wd_xor {f g : Nat → Bool} {k : Nat} : wd f k ^^^ wd g k = wd (fun i => f i != g i) k := wd_of fun j hj => by rw [BitVec.getLsbD_xor, wd_bit hj, wd_bit hj]
theorem wd_and {f g : Nat → Bool} {k : Nat} : wd f k &&& wd g k = wd (fun i => f i && g i) k := wd_of fun j hj => by rw [BitVec.getLsbD_and, wd_bit hj, wd_bit hj]
theorem wd_not {f : Nat → Bool} {k : Nat} : ~~~(wd f k) = wd (fun i => !f i) k := wd_of fun j hj => by rw [BitVec.getLsbD_not, wd_bit hj]; simp [hj]
theorem wd_false {k : Nat} : wd (fun _ => false) k = 0 := (wd_of fun j hj => by simp).symm

/-- a bit of a word, as Go asks for it -/
theorem bit_and1 (x : BitVec 64) (j : Nat) : decide (x >>> j &&& 1 = 1) = x.getLsbD j := by
  have e : (x >>> j &&& 1 = 1) ↔ (x >>> j).toNat % 2 = 1 := by
    rw [← BitVec.toNat_inj, BitVec.toNat_and]
    have : (1 : BitVec 64).toNat = 1 := rfl
    rw [this, Nat.and_one_is_mod]
  rw [← BitVec.testBit_toNat, Nat.testBit_eq_decide_div_mod_eq, decide_eq_decide, e, BitVec.toNat_ushiftRight, Nat.shiftRight_eq_div_pow]
theorem bit_mod2 (x : BitVec 64) (j : Nat) : decide (x >>> j % 2 = 1) = x.getLsbD j := by
  have e : (x >>> j % 2 = 1) ↔ (x >>> j).toNat % 2 = 1 := by
    rw [← BitVec.toNat_inj, BitVec.toNat_umod]
    exact Iff.rfl
  rw [← BitVec.testBit_toNat, Nat.testBit_eq_decide_div_mod_eq, decide_eq_decide, e, BitVec.toNat_ushiftRight, Nat.shiftRight_eq_div_pow]

/-- the bits ahead of a place, as a mask -/
theorem mask_bit {r j : Nat} (hr : r < 64) (hj : j < 64) : ((1 : BitVec 64) <<< r - 1).getLsbD j = decide (j < r) := by
  have h1 : ((1 : BitVec 64) <<< r - 1).toNat = 2 ^ r - 1 := by
    have hp : 2 ^ r ≤ 2 ^ 63 := Nat.pow_le_pow_right (by omega) (by omega)
    have hq : 0 < 2 ^ r := Nat.two_pow_pos r
    have e1 : ((1 : BitVec 64) <<< r).toNat = 2 ^ r := by
      rw [BitVec.toNat_shiftLeft, show (1 : BitVec 64).toNat = 1 from rfl, Nat.one_shiftLeft]
      have : 2 ^ 63 = 9223372036854775808 := rfl
      omega
    rw [BitVec.toNat_sub, e1, show (1 : BitVec 64).toNat = 1 from rfl]
    have : 2 ^ 63 = 9223372036854775808 := rfl
    omega
  rw [← BitVec.testBit_toNat, h1, Nat.testBit_two_pow_sub_one]

theorem ofInt64_nat {i : Nat} (h : i < 18446744073709551616) : (BitVec.ofInt 64 (i : Int)).toNat = i := by
  rw [BitVec.toNat_ofInt]; omega
theorem tdiv_nat (i c : Nat) (hc : 0 < c) : Int.tdiv (i : Int) (c : Int) = ((i / c : Nat) : Int) := by
  rw [Int.tdiv_eq_ediv_of_nonneg (by omega)]; exact (Int.natCast_ediv i c).symm
theorem tmod_nat (i c : Nat) (hc : 0 < c) : Int.tmod (i : Int) (c : Int) = ((i % c : Nat) : Int) := by
  rw [Int.tmod_eq_emod_of_nonneg (by omega)]; exact (Int.natCast_emod i c).symm
theorem tdiv64 (i : Nat) : Int.tdiv (i : Int) 64 = ((i / 64 : Nat) : Int) := tdiv_nat i 64 (by omega)
theorem tmod64 (i : Nat) : Int.tmod (i : Int) 64 = ((i % 64 : Nat) : Int) := tmod_nat i 64 (by omega)
theorem tdiv8 (i : Nat) : Int.tdiv (i : Int) 8 = ((i / 8 : Nat) : Int) := tdiv_nat i 8 (by omega)
theorem tmod8 (i : Nat) : Int.tmod (i : Int) 8 = ((i % 8 : Nat) : Int) := tmod_nat i 8 (by omega)
theorem sh64 (i : Nat) : (BitVec.ofInt 64 ((i % 64 : Nat) : Int)).toNat = i % 64 := ofInt64_nat (by omega)
theorem wdA_get {n : Nat} {f : Nat → Bool} {i : Nat} (h : i < n) : (wdA n f).getD (i / 64) .un = .u64 (wd f (i / 64)) := ld_rng (by unfold nw; omega)

/-- the k-th byte of bits -/
def by1 (f : Nat → Bool) (k : Nat) : BitVec 8 := (BitVec.ofBoolListLE ((List.range 8).map fun j => f (8 * k + j))).cast (by simp)
theorem by1_bit {f : Nat → Bool} {k j : Nat} (hj : j < 8) : (by1 f k).getLsbD j = f (8 * k + j) := by
  unfold by1
  rw [BitVec.getLsbD_cast, BitVec.getLsbD_ofBoolListLE, List.getD_eq_getElem?_getD, List.getElem?_map, List.getElem?_range hj]
  rfl
theorem by1_of {f : Nat → Bool} {k : Nat} {x : BitVec 8} (h : ∀ j, j < 8 → x.getLsbD j = f (8 * k + j)) : x = by1 f k := by
  apply BitVec.eq_of_getLsbD_eq
  intro j hj
  rw [h j hj, by1_bit hj]
theorem by1_congr {f g : Nat → Bool} {k : Nat} (h : ∀ j, j < 8 → f (8 * k + j) = g (8 * k + j)) : by1 f k = by1 g k :=
  by1_of fun j hj => by rw [by1_bit hj, h j hj]
/-- how many bytes bits take -/
def ny (n : Nat) : Nat := (n + 7) / 8
/-- bits as bytes -/
def bys (n : Nat) (f : Nat → Bool) : List (BitVec 8) := (List.range (ny n)).map (by1 f)
theorem bys_len {n : Nat} {f : Nat → Bool} : (bys n f).length = ny n := by simp [bys]
theorem bit_one8 {j r : Nat} (hr : r < 8) (hj : j < 8) : ((1 : BitVec 8) <<< r).getLsbD j = decide (j = r) := by
  rw [BitVec.getLsbD_shiftLeft]
  by_cases h : j = r
  · subst h; simp [hj]
  · rcases Nat.lt_or_ge j r with h1 | h1
    · simp [h1, h]
    · have : ¬ j < r := by omega
      have h2 : ¬ (j - r = 0) := by omega
      simp [this, h, h2]
theorem by1_or {f g : Nat → Bool} {i : Nat} (h : ∀ j, f j = if j = i then true else g j) (k : Nat) : by1 f k = if k = i / 8 then by1 g k ||| ((1 : BitVec 8) <<< (i % 8)) else by1 g k := by
  symm
  apply by1_of
  intro j hj
  rw [h]
  split
  · rename_i hk
    rw [BitVec.getLsbD_or, by1_bit hj, bit_one8 (by omega) hj]
    by_cases h1 : 8 * k + j = i
    · rw [if_pos h1]; have : j = i % 8 := by omega
      simp [this]
    · rw [if_neg h1]; have : ¬ j = i % 8 := by omega
      simp [this]
  · rename_i hk
    rw [by1_bit hj, if_neg (by omega)]
theorem by1_false {k : Nat} : by1 (fun _ => false) k = 0 := (by1_of fun j hj => by simp).symm
/-- a byte of a word -/
theorem wd_by1 {f : Nat → Bool} {i : Nat} : (wd f (i / 8) >>> (8 * (i % 8))).setWidth 8 = by1 f i := by
  apply by1_of
  intro j hj
  rw [BitVec.getLsbD_setWidth, BitVec.getLsbD_ushiftRight, wd_bit (by omega), show 64 * (i / 8) + (8 * (i % 8) + j) = 8 * i + j by omega]
  simp [hj]

/-- where nothing is there yet, adding a bit is setting it -/
theorem add_or64 {x : BitVec 64} {r : Nat} (hr : r < 64) (h : x.getLsbD r = false) : x + (1 : BitVec 64) <<< r = x ||| (1 : BitVec 64) <<< r := by
  apply BitVec.add_eq_or_of_and_eq_zero
  apply BitVec.eq_of_getLsbD_eq
  intro j hj
  rw [BitVec.getLsbD_and, bit_one hr hj]
  by_cases hjr : j = r
  · subst hjr; simp [h]
  · simp [hjr]
theorem add_or8 {x : BitVec 8} {r : Nat} (hr : r < 8) (h : x.getLsbD r = false) : x + (1 : BitVec 8) <<< r = x ||| (1 : BitVec 8) <<< r := by
  apply BitVec.add_eq_or_of_and_eq_zero
  apply BitVec.eq_of_getLsbD_eq
  intro j hj
  rw [BitVec.getLsbD_and, bit_one8 hr hj]
  by_cases hjr : j = r
  · subst hjr; simp [h]
  · simp [hjr]

theorem cut_succ {f : Nat → Bool} {i : Nat} (j : Nat) : cut (i + 1) f j = if j = i then f i else cut i f j := by
  unfold cut
  by_cases h : j = i
  · subst h; simp
  · rw [if_neg h]
    have : (j < i + 1) ↔ (j < i) := by omega
    simp [this]
theorem cut_true {f : Nat → Bool} {i : Nat} (h : f i = true) (j : Nat) : cut (i + 1) f j = if j = i then true else cut i f j := by rw [cut_succ, h]
theorem cut_false {f : Nat → Bool} {i : Nat} (h : f i = false) : cut (i + 1) f = cut i f := by
  funext j
  rw [cut_succ, h]
  by_cases hj : j = i
  · subst hj; simp [cut]
  · rw [if_neg hj]
theorem cut_zero {f : Nat → Bool} : cut 0 f = fun _ => false := by funext j; simp [cut]
theorem cut_all {f : Nat → Bool} {n : Nat} (h : ∀ i, n ≤ i → f i = false) : cut n f = f := by
  funext j
  unfold cut
  by_cases hj : j < n
  · simp [hj]
  · simp [hj, h j (by omega)]
theorem cut_bfn {l : List Bool} : cut l.length (bfn l) = bfn l := cut_all fun i h => bf_out h

theorem wdA_or {n i : Nat} {f g : Nat → Bool} (h : ∀ j, f j = if j = i then true else g j) : (wdA n g).set (i / 64) (.u64 (wd g (i / 64) ||| (1 : BitVec 64) <<< (i % 64))) = wdA n f := by
  unfold wdA
  rw [rng_set]
  apply rng_congr
  intro k hk
  rw [wd_or h k]
  by_cases hq : k = i / 64
  · subst hq; simp
  · simp [hq]
theorem wdA_andn {n i : Nat} {f g : Nat → Bool} (h : ∀ j, f j = if j = i then false else g j) : (wdA n g).set (i / 64) (.u64 (wd g (i / 64) &&& ~~~((1 : BitVec 64) <<< (i % 64)))) = wdA n f := by
  unfold wdA
  rw [rng_set]
  apply rng_congr
  intro k hk
  rw [wd_andn h k]
  by_cases hq : k = i / 64
  · subst hq; simp
  · simp [hq]
theorem zero_wdA {n : Nat} : List.replicate (nw n) (AV.u64 0) = wdA n (fun _ => false) := by
  unfold wdA
  simp only [wd_false]
  apply List.ext_getElem?
  intro i
  by_cases h : i < nw n
  · simp [h]
  · simp [h]
theorem ld_bfn {l : List Bool} {i : Nat} (h : i < l.length) : (l.map AV.bool).getD i .un = .bool (bfn l i) := ld_bool h

/-- so many words of bits -/
def wdN (nb : Nat) (f : Nat → Bool) : List AV := (List.range nb).map fun k => .u64 (wd f k)
theorem wdN_A {n : Nat} {f : Nat → Bool} : wdN (nw n) f = wdA n f := rfl
theorem wdN_len {nb : Nat} {f : Nat → Bool} : (wdN nb f).length = nb := by simp [wdN]
theorem wdN_get {nb : Nat} {f : Nat → Bool} {k : Nat} (h : k < nb) : (wdN nb f).getD k .un = .u64 (wd f k) := ld_rng h
theorem wdN_snoc {nb : Nat} {f : Nat → Bool} (h : ∀ i, 64 * nb ≤ i → f i = false) : wdN nb f ++ [.u64 0] = wdN (nb + 1) f := by
  unfold wdN
  rw [List.range_succ, List.map_append]
  have : wd f nb = 0 := by rw [wd_congr (g := fun _ => false) fun j hj => h _ (by omega)]; exact wd_false
  simp [this]
theorem wdN_or {nb i : Nat} {f g : Nat → Bool} (h : ∀ j, f j = if j = i then true else g j) : (wdN nb g).set (i / 64) (.u64 (wd g (i / 64) ||| (1 : BitVec 64) <<< (i % 64))) = wdN nb f := by
  unfold wdN
  rw [rng_set]
  apply rng_congr
  intro k hk
  rw [wd_or h k]
  by_cases hq : k = i / 64
  · subst hq; simp
  · simp [hq]
/-- the same, the bit being added -/
theorem wdN_add {nb i : Nat} {f g : Nat → Bool} (h : ∀ j, f j = if j = i then true else g j) (hg : g i = false) : (wdN nb g).set (i / 64) (.u64 (wd g (i / 64) + (1 : BitVec 64) <<< (i % 64))) = wdN nb f := by
  rw [add_or64 (by omega) (by rw [wd_bit (by omega), show 64 * (i / 64) + i % 64 = i by omega]; exact hg)]
  exact wdN_or h
def byN (nb : Nat) (f : Nat → Bool) : List AV := (List.range nb).map fun k => .u8 (by1 f k)
theorem byN_len {nb : Nat} {f : Nat → Bool} : (byN nb f).length = nb := by simp [byN]
theorem byN_get {nb : Nat} {f : Nat → Bool} {k : Nat} (h : k < nb) : (byN nb f).getD k .un = .u8 (by1 f k) := ld_rng h
theorem byN_bys {n : Nat} {f : Nat → Bool} : byN (ny n) f = (bys n f).map .u8 := by unfold byN bys; rw [List.map_map]; rfl
theorem byN_snoc {nb : Nat} {f : Nat → Bool} (h : ∀ i, 8 * nb ≤ i → f i = false) : byN nb f ++ [.u8 0] = byN (nb + 1) f := by
  unfold byN
  rw [List.range_succ, List.map_append]
  have : by1 f nb = 0 := by rw [by1_congr (g := fun _ => false) fun j hj => h _ (by omega)]; exact by1_false
  simp [this]
theorem byN_add {nb i : Nat} {f g : Nat → Bool} (h : ∀ j, f j = if j = i then true else g j) (hg : g i = false) : (byN nb g).set (i / 8) (.u8 (by1 g (i / 8) + (1 : BitVec 8) <<< (i % 8))) = byN nb f := by
  rw [add_or8 (by omega) (by rw [by1_bit (by omega), show 8 * (i / 8) + i % 8 = i by omega]; exact hg)]
  unfold byN
  rw [rng_set]
  apply rng_congr
  intro k hk
  rw [by1_or h k]
  by_cases hq : k = i / 8
  · subst hq; simp
  · simp [hq]
theorem cut_ge {f : Nat → Bool} {i j : Nat} (h : i ≤ j) : cut i f j = false := by unfold cut; simp; omega

theorem sh8 (i : Nat) : (BitVec.ofInt 64 ((i % 8 : Nat) : Int)).toNat = i % 8 := ofInt64_nat (by omega)
/-- a list that Go has: of so many elements, or nil -/
def isL (A : AV) (xs : List AV) : Prop := A = .ro .leaf xs ∨ (xs = [] ∧ A = .nils)
theorem wdN_and {nb r : Nat} {f g : Nat → Bool} (hr : r < 64) (h : ∀ j, g j = if 64 * nb ≤ j ∧ r ≤ j - 64 * nb then false else f j) : (wdN (nb + 1) f).set nb (.u64 (wd f nb &&& ((1 : BitVec 64) <<< r - 1))) = wdN (nb + 1) g := by
  unfold wdN
  rw [rng_set]
  apply rng_congr
  intro k hk
  by_cases hq : k = nb
  · subst hq
    rw [if_pos rfl]
    congr 1
    apply wd_of
    intro j hj
    rw [BitVec.getLsbD_and, wd_bit hj, mask_bit hr hj, h]
    by_cases h1 : j < r
    · rw [if_neg (by omega)]; simp [h1]
    · rw [if_pos (by omega)]; simp [h1]
  · rw [if_neg hq]
    congr 1
    apply wd_congr
    intro j hj
    rw [h, if_neg (by omega)]
theorem wdA_trim {n : Nat} {f : Nat → Bool} (hr : n % 64 ≠ 0) : (wdA n f).set (nw n - 1) (.u64 (wd f (nw n - 1) &&& ((1 : BitVec 64) <<< (n % 64) - 1))) = wdA n (cut n f) := by
  have e : nw n = (nw n - 1) + 1 := by unfold nw; omega
  rw [← wdN_A, ← wdN_A, e]
  refine wdN_and (by omega) fun j => ?_
  unfold cut
  by_cases hj : j < n
  · rw [if_neg (by unfold nw; omega)]; simp [hj]
  · by_cases hk : 64 * (nw n - 1) ≤ j ∧ n % 64 ≤ j - 64 * (nw n - 1)
    · rw [if_pos hk]; simp [hj]
    · exfalso; unfold nw at hk; omega
theorem wdA_whole {n : Nat} {f : Nat → Bool} (hr : n % 64 = 0) : wdA n (cut n f) = wdA n f := by
  unfold wdA
  apply rng_congr
  intro k hk
  congr 1
  apply wd_congr
  intro j hj
  unfold cut nw at *
  have : 64 * k + j < n := by omega
  simp [this]
/-- words as the words of their bits -/
theorem wdA_wf {n : Nat} {ws : List (BitVec 64)} (h : ws.length = nw n) : wdA n (wf ws) = ws.map .u64 := by
  apply List.ext_getElem?
  intro k
  unfold wdA
  by_cases hk : k < nw n
  · have : wd (wf ws) k = ws.getD k 0 := (wd_of fun j hj => by unfold wf; rw [show (64 * k + j) / 64 = k by omega, show (64 * k + j) % 64 = j by omega]).symm
    rw [List.getElem?_map, List.getElem?_range hk, List.getElem?_map]
    simp [this, List.getD_eq_getElem?_getD, List.getElem?_eq_getElem (show k < ws.length by omega)]
  · rw [List.getElem?_eq_none (by simp; omega), List.getElem?_eq_none (by simp; omega)]
/-- lists that grow by one element -/
def apd (te N : Nat) (F : Nat → AV) (i : Nat) (out : AV) (L : Heap) : Prop :=
  (i = 0 ∧ out = .nils ∧ L = []) ∨ (0 < i ∧ out = .own (N + 1) i [] 0 i .leaf ∧ ∃ T J, L = T :: some ⟨te, i, true, .arr i .leaf, .agg ((List.range i).map F)⟩ :: J)
theorem rng_snoc {F : Nat → AV} {i : Nat} : (List.range i).map F ++ [F i] = (List.range (i + 1)).map F := by rw [List.range_succ, List.map_append]; rfl

theorem HBnd_app {k : Nat} {h E : Heap} (hk : k ≤ h.length) (hB : HBnd k h) : HBnd k (h ++ E) := by
  intro b blk hb hg
  rw [Heap.get_append _ _ _ (by omega)] at hg
  exact hB b blk hb hg
/-- a function that wrote one of its caller's blocks, at its end -/
theorem mut_fin {K : Heap → Prop} {H0 L E : Heap} {x y : Option Blk} (hB : HBnd (H0 ++ x :: L).length (H0 ++ x :: L)) (hy : ∀ k blk, y = some blk → blk.root.bnd k = true) (h : K (H0 ++ y :: L)) :
    HBnd (H0.length + (L.length + 1)) (H0 ++ y :: (L ++ E)) ∧ K (List.take (H0.length + (L.length + 1)) (H0 ++ y :: (L ++ E))) := by
  have hlen : H0.length + (L.length + 1) = (H0 ++ x :: L).length := by simp
  have e : H0 ++ y :: (L ++ E) = (H0 ++ y :: L) ++ E := by simp
  rw [e]
  refine ⟨HBnd_app (by simp) ?_, ?_⟩
  · rw [hlen]
    exact HBnd_upd hB (hy _)
  · rw [List.take_left' (by simp)]
    exact h
theorem bnd_wdA {n k : Nat} {f : Nat → Bool} : (AV.agg (wdA n f)).bnd k = true := by simp only [AV.bnd]; exact bnds_u64

theorem cpH_own {H : Heap} {b ver off n : Nat} {pa : List Nat} {e : Shape} {qs : List AV} : cpH H (.own b ver pa off n e) qs = match H.get b with
    | some blk => if blk.ver = ver then (match getP blk.root pa with
      | some (.agg ps) => (setP blk.root pa (.agg (splL ps off qs))).map fun r => H.set b (some { blk with root := r })
      | _ => none) else none
    | none => none := rfl
theorem splL_full {ps qs : List AV} (h : ps.length ≤ qs.length) : splL ps 0 qs = qs := by
  unfold splL
  rw [List.drop_of_length_le (by omega)]
  simp
theorem cell_u64 {w : List (BitVec 64)} : ∀ q ∈ w.map AV.u64, HasSh .leaf q := by
  intro q hq; obtain ⟨x, _, rfl⟩ := List.mem_map.1 hq; simp [hasSh_leaf, AV.isCell]

/-- the bits of bytes -/
def sf (s : List (BitVec 8)) (i : Nat) : Bool := (s.getD (i / 8) 0).getLsbD (i % 8)
theorem sf_out {s : List (BitVec 8)} {i : Nat} (h : 8 * s.length ≤ i) : sf s i = false := by
  unfold sf; rw [List.getD_eq_getElem?_getD, List.getElem?_eq_none (by omega)]; simp
theorem cut_sf {s : List (BitVec 8)} : cut (8 * s.length) (sf s) = sf s := cut_all fun i h => sf_out h
theorem sf_at {s : List (BitVec 8)} {i j : Nat} (hj : j < 8) : sf s (8 * i + j) = (s.getD i 0).getLsbD j := by
  unfold sf; rw [show (8 * i + j) / 8 = i by omega, show (8 * i + j) % 8 = j by omega]
/-- one byte more -/
theorem wdA_byte {n : Nat} {s : List (BitVec 8)} (i : Nat) : (wdA n (cut (8 * i) (sf s))).set (i / 8) (.u64 (wd (cut (8 * i) (sf s)) (i / 8) ||| (s.getD i 0).setWidth 64 <<< (8 * (i % 8)))) = wdA n (cut (8 * (i + 1)) (sf s)) := by
  unfold wdA
  rw [rng_set]
  apply rng_congr
  intro k hk
  by_cases hq : k = i / 8
  · subst hq
    rw [if_pos rfl]
    congr 1
    apply wd_of
    intro j hj
    rw [BitVec.getLsbD_or, wd_bit hj, BitVec.getLsbD_shiftLeft, BitVec.getLsbD_setWidth]
    unfold cut
    by_cases h1 : 64 * (i / 8) + j < 8 * i
    · have h2 : j < 8 * (i % 8) := by omega
      have h3 : 64 * (i / 8) + j < 8 * (i + 1) := by omega
      simp [h1, h2, h3]
    · have h2 : ¬ j < 8 * (i % 8) := by omega
      by_cases h3 : 64 * (i / 8) + j < 8 * (i + 1)
      · have h4 : 64 * (i / 8) + j = 8 * i + (j - 8 * (i % 8)) := by omega
        have h5 : j - 8 * (i % 8) < 64 := by omega
        rw [h4, sf_at (by omega)]
        have h6 : ¬ (8 * i + (j - 8 * (i % 8)) < 8 * i) := by omega
        have h7 : 8 * i + (j - 8 * (i % 8)) < 8 * (i + 1) := by omega
        simp [h2, h5, h6, h7, hj]
      · have h5 : (s.getD i 0).getLsbD (j - 8 * (i % 8)) = false := BitVec.getLsbD_of_ge _ _ (by omega)
        rw [h5]
        simp [h1, h3]
  · rw [if_neg hq]
    congr 1
    apply wd_congr
    intro j hj
    unfold cut
    have : (64 * k + j < 8 * (i + 1)) ↔ (64 * k + j < 8 * i) := by omega
    simp [this]
/-- bits behind the last one are there -/
def Rb (n : Nat) (s : List (BitVec 8)) : Prop := ∃ i, n ≤ i ∧ sf s i = true
theorem rb_iff {n : Nat} {s : List (BitVec 8)} (hl : s.length = ny n) : Rb n s ↔ n % 8 ≠ 0 ∧ ¬ ((s.getD (s.length - 1) 0) >>> (n % 8) = 0) := by
  unfold ny at hl
  constructor
  · rintro ⟨i, h1, h2⟩
    have hi : i < 8 * s.length := by
      rcases Nat.lt_or_ge i (8 * s.length) with h | h
      · exact h
      · rw [sf_out h] at h2; cases h2
    refine ⟨by omega, fun e => ?_⟩
    have h3 : i = 8 * (s.length - 1) + i % 8 := by omega
    rw [h3, sf_at (by omega)] at h2
    have h4 : ((s.getD (s.length - 1) 0) >>> (n % 8)).getLsbD (i % 8 - n % 8) = true := by
      rw [BitVec.getLsbD_ushiftRight, show n % 8 + (i % 8 - n % 8) = i % 8 by omega]; exact h2
    rw [e] at h4
    simp at h4
  · rintro ⟨h1, h2⟩
    have : ∃ j, j < 8 ∧ ((s.getD (s.length - 1) 0) >>> (n % 8)).getLsbD j = true := by
      by_cases hc : ∃ j, j < 8 ∧ ((s.getD (s.length - 1) 0) >>> (n % 8)).getLsbD j = true
      · exact hc
      · exfalso
        apply h2
        apply BitVec.eq_of_getLsbD_eq
        intro j hj
        cases hx : ((s.getD (s.length - 1) 0) >>> (n % 8)).getLsbD j with
        | false => simp
        | true => exact absurd ⟨j, hj, hx⟩ hc
    obtain ⟨j, hj, hx⟩ := this
    rw [BitVec.getLsbD_ushiftRight] at hx
    have hjl : n % 8 + j < 8 := by
      rcases Nat.lt_or_ge (n % 8 + j) 8 with h | h
      · exact h
      · rw [BitVec.getLsbD_of_ge _ _ h] at hx; cases hx
    refine ⟨8 * (s.length - 1) + (n % 8 + j), by omega, ?_⟩
    rw [sf_at hjl]
    exact hx
theorem by1_sf {s : List (BitVec 8)} {k : Nat} : by1 (sf s) k = s.getD k 0 := (by1_of fun j hj => (sf_at hj).symm).symm
theorem bys_sf {n : Nat} {s : List (BitVec 8)} (hl : s.length = ny n) : bys n (sf s) = s := by
  apply List.ext_getElem
  · rw [bys_len, hl]
  · intro i h1 h2
    simp [bys, by1_sf, List.getD_eq_getElem?_getD, List.getElem?_eq_getElem h2]
theorem sf_bys {n i : Nat} {f : Nat → Bool} (h : i < 8 * ny n) : sf (bys n f) i = f i := by
  unfold sf bys
  have h1 : i / 8 < ny n := by omega
  rw [List.getD_eq_getElem?_getD, List.getElem?_map, List.getElem?_range h1]
  simp only [Option.map_some, Option.getD_some]
  rw [by1_bit (by omega), show 8 * (i / 8) + i % 8 = i by omega]
theorem sf_bys_all {n : Nat} {f : Nat → Bool} (hf : ∀ i, n ≤ i → f i = false) : sf (bys n f) = f := by
  funext i
  rcases Nat.lt_or_ge i (8 * ny n) with h | h
  · exact sf_bys h
  · rw [sf_out (by rw [bys_len]; exact h), hf i (by unfold ny at h; omega)]
theorem ld_str {s : List (BitVec 8)} {i : Nat} : s.getD i 0 = s.getD i 0 := rfl
theorem bit_mod8 (x : BitVec 8) (j : Nat) : decide (x >>> j % 2 = 1) = x.getLsbD j := by
  have e : (x >>> j % 2 = 1) ↔ (x >>> j).toNat % 2 = 1 := by
    rw [← BitVec.toNat_inj, BitVec.toNat_umod]
    exact Iff.rfl
  rw [← BitVec.testBit_toNat, Nat.testBit_eq_decide_div_mod_eq, decide_eq_decide, e, BitVec.toNat_ushiftRight, Nat.shiftRight_eq_div_pow]
end Go.V

end

section
/-
  Sixty-four words turned about in six rounds: what each round does, and what they do together. No program is in sight.
-/
open Go Go.V
namespace Go.V
set_option linter.unusedSimpArgs false
set_option linter.unusedVariables false
set_option maxRecDepth 100000

/-- one round: the s-bit of the number of a word and that of the number of a bit are swapped -/
def swp (s : Nat) (g : Nat → Nat → Bool) (i b : Nat) : Bool :=
  if i &&& s = 0 then (if b &&& s = 0 then g i b else g (i + s) (b - s)) else (if b &&& s = 0 then g (i - s) (b + s) else g i b)
/-- what is done of a round when t words have been looked at -/
def swt (s t : Nat) (g : Nat → Nat → Bool) (i b : Nat) : Bool :=
  if (if i &&& s = 0 then i < t else i - s < t) then swp s g i b else g i b
/-- the words -/
def sqA (g : Nat → Nat → Bool) : List AV := (List.range 64).map fun i => .u64 (wd (g i) 0)
theorem sqA_len {g : Nat → Nat → Bool} : (sqA g).length = 64 := by simp [sqA]
theorem sqA_get {g : Nat → Nat → Bool} {i : Nat} (h : i < 64) : (sqA g).getD i .un = .u64 (wd (g i) 0) := ld_rng h
theorem sqA_at {g : Nat → Nat → Bool} {i : Nat} (h : i < 64) : (sqA g)[i]? = some (.u64 (wd (g i) 0)) := by
  unfold sqA; rw [List.getElem?_map, List.getElem?_range h]; rfl

/-- the steps -/
def stp (s : Nat) : Prop := s = 32 ∨ s = 16 ∨ s = 8 ∨ s = 4 ∨ s = 2 ∨ s = 1
def stpM (s : Nat) : BitVec 64 := if s = 32 then 4294967295 else if s = 16 then 281470681808895 else if s = 8 then 71777214294589695 else if s = 4 then 1085102592571150095 else if s = 2 then 3689348814741910323 else 6148914691236517205
def okS (s : Nat) : Bool := (List.range 64).all fun i =>
  if i &&& s = 0 then decide (i + s < 64) && decide ((i + s) &&& s ≠ 0) && decide (i < s ∨ (i - s) &&& s ≠ 0) && (stpM s).getLsbD i
  else decide (s ≤ i) && decide ((i - s) &&& s = 0) && !(stpM s).getLsbD i
theorem okS_all {s : Nat} (h : stp s) : okS s = true := by
  rcases h with rfl | rfl | rfl | rfl | rfl | rfl <;> decide
theorem st0 {s i : Nat} (h : stp s) (hi : i < 64) (h0 : i &&& s = 0) : i + s < 64 ∧ (i + s) &&& s ≠ 0 ∧ (i < s ∨ (i - s) &&& s ≠ 0) ∧ (stpM s).getLsbD i = true := by
  have a := okS_all h
  unfold okS at a
  rw [List.all_eq_true] at a
  have b := a i (List.mem_range.2 hi)
  rw [if_pos h0] at b
  simp only [Bool.and_eq_true, decide_eq_true_eq] at b
  exact ⟨b.1.1.1, b.1.1.2, b.1.2, b.2⟩
theorem st1 {s i : Nat} (h : stp s) (hi : i < 64) (h0 : i &&& s ≠ 0) : s ≤ i ∧ (i - s) &&& s = 0 ∧ (stpM s).getLsbD i = false := by
  have a := okS_all h
  unfold okS at a
  rw [List.all_eq_true] at a
  have b := a i (List.mem_range.2 hi)
  rw [if_neg h0] at b
  simp only [Bool.and_eq_true, decide_eq_true_eq, Bool.not_eq_true'] at b
  exact ⟨b.1.1, b.1.2, b.2⟩
theorem st_pos {s : Nat} (h : stp s) : 1 ≤ s ∧ s ≤ 32 := by rcases h with rfl | rfl | rfl | rfl | rfl | rfl <;> decide

theorem swt_zero {s : Nat} {g : Nat → Nat → Bool} (h : ∀ i, i < 64 → i &&& s ≠ 0 → s ≤ i) : sqA (swt s 0 g) = sqA g := by
  unfold sqA
  refine List.map_congr_left fun i hi => ?_
  have : swt s 0 g i = g i := by
    funext b
    unfold swt
    rw [if_neg (by split <;> omega)]
  rw [this]
theorem swt_all {s : Nat} {g : Nat → Nat → Bool} : sqA (swt s 64 g) = sqA (swp s g) := by
  unfold sqA
  refine List.map_congr_left fun i hi => ?_
  have hi := List.mem_range.1 hi
  have : swt s 64 g i = swp s g i := by
    funext b
    unfold swt
    rw [if_pos (by split <;> omega)]
  rw [this]
theorem swt_skip {s t : Nat} {g : Nat → Nat → Bool} (h : stp s) (ht : t < 64) (h0 : t &&& s ≠ 0) : sqA (swt s (t + 1) g) = sqA (swt s t g) := by
  unfold sqA
  refine List.map_congr_left fun i hi => ?_
  have hi := List.mem_range.1 hi
  have : swt s (t + 1) g i = swt s t g i := by
    funext b
    unfold swt
    by_cases h1 : i &&& s = 0
    · have : i ≠ t := by intro e; subst e; exact h0 h1
      simp only [h1, if_true]
      by_cases h2 : i < t
      · rw [if_pos h2, if_pos (by omega)]
      · rw [if_neg h2, if_neg (by omega)]
    · have : i - s ≠ t := by intro e; subst e; exact h0 (st1 h hi h1).2.1
      simp only [h1, if_false]
      by_cases h2 : i - s < t
      · rw [if_pos h2, if_pos (by omega)]
      · rw [if_neg h2, if_neg (by omega)]
  rw [this]
theorem swt_a {s t : Nat} {g : Nat → Nat → Bool} (h0 : t &&& s = 0) : swt s t g t = g t := by
  funext b
  unfold swt
  rw [if_neg]
  rw [if_pos h0]; omega
theorem swt_b {s t : Nat} {g : Nat → Nat → Bool} (h : stp s) (ht : t < 64) (h0 : t &&& s = 0) : swt s t g (t + s) = g (t + s) := by
  funext b
  unfold swt
  rw [if_neg]
  rw [if_neg (st0 h ht h0).2.1]; omega

/-- what is swapped -/
def swx (s : Nat) (a b : BitVec 64) : BitVec 64 := (a >>> s ^^^ b) &&& stpM s
theorem swx_bit {s : Nat} {a b : BitVec 64} {k : Nat} : (swx s a b).getLsbD k = ((a.getLsbD (s + k) ^^ b.getLsbD k) && (stpM s).getLsbD k) := by
  unfold swx
  rw [BitVec.getLsbD_and, BitVec.getLsbD_xor, BitVec.getLsbD_ushiftRight]
theorem swx_lo {s t : Nat} {g : Nat → Nat → Bool} (h : stp s) (h0 : t &&& s = 0) : wd (g t) 0 ^^^ swx s (wd (g t) 0) (wd (g (t + s)) 0) <<< s = wd (swp s g t) 0 := by
  apply wd_of
  intro k hk
  have hp := st_pos h
  rw [BitVec.getLsbD_xor, BitVec.getLsbD_shiftLeft, swx_bit, wd_bit hk]
  unfold swp
  simp only [h0, if_true, Nat.mul_zero, Nat.zero_add]
  by_cases h1 : k &&& s = 0
  · have a := st0 h hk h1
    simp only [h1, if_true]
    by_cases h2 : k < s
    · simp [h2]
    · have c := a.2.2.1.resolve_left h2
      have d := (st1 h (i := k - s) (by omega) c).2.2
      simp [d]
  · have a := st1 h hk h1
    have d := (st0 h (i := k - s) (by omega) a.2.1).2.2.2
    have h2 : ¬ k < s := by omega
    have h3 : s + (k - s) = k := by omega
    rw [h3, wd_bit hk, wd_bit (by omega)]
    simp [h1, d, h2, hk]
theorem swx_hi {s t : Nat} {g : Nat → Nat → Bool} (h : stp s) (ht : t < 64) (h0 : t &&& s = 0) : wd (g (t + s)) 0 ^^^ swx s (wd (g t) 0) (wd (g (t + s)) 0) = wd (swp s g (t + s)) 0 := by
  apply wd_of
  intro k hk
  have hp := st_pos h
  have hb := (st0 h ht h0).2.1
  rw [BitVec.getLsbD_xor, swx_bit, wd_bit hk]
  unfold swp
  simp only [hb, if_false, Nat.mul_zero, Nat.zero_add]
  by_cases h1 : k &&& s = 0
  · have a := st0 h hk h1
    rw [wd_bit (by omega)]
    simp [h1, a.2.2.2, show t + s - s = t by omega, show s + k = k + s by omega]
    generalize g (t + s) k = p
    generalize g t (k + s) = q
    cases p <;> cases q <;> rfl
  · have a := st1 h hk h1
    simp [h1, a.2.2]
/-- the two words of a step -/
theorem sw_step {s t : Nat} {g : Nat → Nat → Bool} {x : BitVec 64} (h : stp s) (ht : t < 64) (h0 : t &&& s = 0) (hx : x = swx s (wd (g t) 0) (wd (g (t + s)) 0)) :
    ((sqA (swt s t g)).set t (.u64 (wd (g t) 0 ^^^ x <<< s))).set (t + s) (.u64 (wd (g (t + s)) 0 ^^^ x)) = sqA (swt s (t + 1) g) := by
  have hp := st_pos h
  have hb := st0 h ht h0
  rw [hx, swx_lo h h0, swx_hi h ht h0]
  unfold sqA
  rw [rng_set, rng_set]
  refine rng_congr fun i hi => ?_
  by_cases e1 : i = t + s
  · subst e1
    rw [if_pos rfl]
    have : swt s (t + 1) g (t + s) = swp s g (t + s) := by
      funext b
      unfold swt
      rw [if_pos]
      rw [if_neg hb.2.1]; omega
    rw [this]
  · rw [if_neg e1]
    by_cases e2 : i = t
    · subst e2
      rw [if_pos rfl]
      have : swt s (i + 1) g i = swp s g i := by
        funext b
        unfold swt
        rw [if_pos]
        rw [if_pos h0]; omega
      rw [this]
    · rw [if_neg e2]
      have : swt s (t + 1) g i = swt s t g i := by
        funext b
        unfold swt
        by_cases h1 : i &&& s = 0
        · simp only [h1, if_true]
          by_cases h2 : i < t
          · rw [if_pos h2, if_pos (by omega)]
          · rw [if_neg h2, if_neg (by omega)]
        · have := (st1 h hi h1).1
          simp only [h1, if_false]
          by_cases h2 : i - s < t
          · rw [if_pos h2, if_pos (by omega)]
          · rw [if_neg h2, if_neg (by omega)]
      rw [this]

/-- the six rounds -/
def six (g : Nat → Nat → Bool) : Nat → Nat → Bool := swp 1 (swp 2 (swp 4 (swp 8 (swp 16 (swp 32 g)))))
/-- where a bit comes from -/
def src (s : Nat) (p : Nat × Nat) : Nat × Nat :=
  if p.1 &&& s = 0 then (if p.2 &&& s = 0 then p else (p.1 + s, p.2 - s)) else (if p.2 &&& s = 0 then (p.1 - s, p.2 + s) else p)
theorem swp_src {s : Nat} {g : Nat → Nat → Bool} {p : Nat × Nat} : swp s g p.1 p.2 = g (src s p).1 (src s p).2 := by
  unfold swp src
  split <;> split <;> rfl
def src6 (p : Nat × Nat) : Nat × Nat := src 32 (src 16 (src 8 (src 4 (src 2 (src 1 p)))))
theorem src6_all : ((List.range 64).all fun i => (List.range 64).all fun b => decide (src6 (i, b) = (b, i))) = true := by decide
theorem six_turn {g : Nat → Nat → Bool} {i b : Nat} (hi : i < 64) (hb : b < 64) : six g i b = g b i := by
  have a := src6_all
  rw [List.all_eq_true] at a
  have a1 := a i (List.mem_range.2 hi)
  rw [List.all_eq_true] at a1
  have a2 := a1 b (List.mem_range.2 hb)
  rw [decide_eq_true_eq] at a2
  have e : six g i b = g (src6 (i, b)).1 (src6 (i, b)).2 := by
    unfold six src6
    rw [show swp 1 (swp 2 (swp 4 (swp 8 (swp 16 (swp 32 g))))) i b = swp 1 (swp 2 (swp 4 (swp 8 (swp 16 (swp 32 g))))) (i, b).1 (i, b).2 from rfl]
    rw [swp_src, swp_src, swp_src, swp_src, swp_src, swp_src]
  rw [e, a2]
theorem sqA_six {g : Nat → Nat → Bool} : sqA (six g) = sqA fun i b => g b i := by
  unfold sqA
  refine rng_congr fun i hi => ?_
  congr 1
  apply wd_congr
  intro j hj
  rw [six_turn hi (by omega)]
end Go.V

end
