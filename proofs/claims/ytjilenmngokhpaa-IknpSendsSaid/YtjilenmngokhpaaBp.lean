/-
  How many bits of a word are 1: what the masks and sums of the code come to. No program is in sight.
-/
import Derived.Test.YtjilenmngokhpaaBm
open Go Go.V
namespace Go.V
set_option linter.unusedSimpArgs false
set_option linter.unusedVariables false

/-- a function done to each of k bytes -/
def lan (g : Nat → Nat) : Nat → Nat → Nat
  | 0, _ => 0
  | k + 1, X => g (X % 256) + 256 * lan g k (X / 256)
def rep8 (m : Nat) : Nat → Nat
  | 0 => 0
  | k + 1 => m + 256 * rep8 m k

theorem and_256 {a b m n : Nat} (ha : a < 256) (hm : m < 256) : (a + 256 * b) &&& (m + 256 * n) = (a &&& m) + 256 * (b &&& n) := by
  apply Nat.eq_of_testBit_eq
  intro i
  have e : ∀ x y : Nat, x + 256 * y = 2 ^ 8 * y + x := fun x y => by rw [Nat.add_comm]
  have hl : (a &&& m) < 2 ^ 8 := Nat.lt_of_le_of_lt Nat.and_le_left ha
  rw [e, e, e, Nat.testBit_and, Nat.testBit_two_pow_mul_add _ ha, Nat.testBit_two_pow_mul_add _ hm, Nat.testBit_two_pow_mul_add _ hl]
  split
  · rw [Nat.testBit_and]
  · rw [Nat.testBit_and]

theorem and_low {a c r m : Nat} (hr : r ≤ 8) (ha : a < 2 ^ (8 - r)) (hm : m < 2 ^ (8 - r)) : (a + 2 ^ (8 - r) * c) &&& m = a &&& m := by
  apply Nat.eq_of_testBit_eq
  intro i
  rw [Nat.testBit_and, Nat.testBit_and, Nat.add_comm, Nat.testBit_two_pow_mul_add _ ha]
  split
  · rfl
  · have : m.testBit i = false := Nat.testBit_lt_two_pow (Nat.lt_of_lt_of_le hm (Nat.pow_le_pow_right (by omega) (by omega)))
    rw [this]; simp

/-- a word turned and cut by a mask, byte by byte -/
theorem lan_and {r m : Nat} (hr : r ≤ 8) (hm : m < 2 ^ (8 - r)) : ∀ (k X : Nat), (X >>> r) &&& rep8 m k = lan (fun b => (b >>> r) &&& m) k X
  | 0, X => by simp [rep8, lan]
  | k + 1, X => by
    have h256 : 2 ^ (8 - r) * 2 ^ r = 256 := by rw [← Nat.pow_add, show 8 - r + r = 8 by omega]
    have hpos : 0 < 2 ^ r := Nat.two_pow_pos r
    have hm8 : m < 256 := Nat.lt_of_lt_of_le hm (by rw [← h256]; exact Nat.le_mul_of_pos_right _ hpos)
    have ih := lan_and hr hm k (X / 256)
    have hb : (X % 256) >>> r < 2 ^ (8 - r) := by
      rw [Nat.shiftRight_eq_div_pow, Nat.div_lt_iff_lt_mul hpos, h256]; exact Nat.mod_lt _ (by omega)
    have e : X >>> r = ((X % 256) >>> r + 2 ^ (8 - r) * ((X / 256) % 2 ^ r)) + 256 * ((X / 256) >>> r) := by
      rw [Nat.shiftRight_eq_div_pow, Nat.shiftRight_eq_div_pow, Nat.shiftRight_eq_div_pow]
      have h1 : X = X % 256 + 2 ^ r * (2 ^ (8 - r) * (X / 256)) := by
        rw [← Nat.mul_assoc, Nat.mul_comm (2 ^ r), h256]; omega
      have h2 : X / 2 ^ r = X % 256 / 2 ^ r + 2 ^ (8 - r) * (X / 256) := by
        conv => lhs; rw [h1]
        rw [Nat.add_mul_div_left _ _ hpos]
      have h3 : X / 256 = X / 256 % 2 ^ r + 2 ^ r * (X / 256 / 2 ^ r) := (Nat.mod_add_div _ _).symm
      rw [h2]
      conv => lhs; rw [h3]
      rw [Nat.mul_add, ← Nat.mul_assoc, h256, Nat.add_assoc]
    have hlo : (X % 256) >>> r + 2 ^ (8 - r) * ((X / 256) % 2 ^ r) < 256 := by
      have h4 : (X / 256) % 2 ^ r < 2 ^ r := Nat.mod_lt _ hpos
      have h5 : 2 ^ (8 - r) * ((X / 256) % 2 ^ r + 1) ≤ 2 ^ (8 - r) * 2 ^ r := Nat.mul_le_mul_left _ h4
      rw [Nat.mul_add, h256] at h5
      omega
    simp only [rep8, lan]
    rw [e, and_256 hlo hm8, and_low hr hb hm, ih]
theorem lan_add {g h : Nat → Nat} : ∀ (k X : Nat), lan g k X + lan h k X = lan (fun b => g b + h b) k X
  | 0, X => rfl
  | k + 1, X => by
    have := lan_add (g := g) (h := h) k (X / 256)
    simp only [lan]
    omega
theorem lan_lan {g h : Nat → Nat} (hh : ∀ b, b < 256 → h b < 256) : ∀ (k X : Nat), lan g k (lan h k X) = lan (fun b => g (h b)) k X
  | 0, X => rfl
  | k + 1, X => by
    have h1 := hh (X % 256) (Nat.mod_lt _ (by omega))
    have ih := lan_lan (g := g) hh k (X / 256)
    simp only [lan]
    rw [show (h (X % 256) + 256 * lan h k (X / 256)) % 256 = h (X % 256) by omega, show (h (X % 256) + 256 * lan h k (X / 256)) / 256 = lan h k (X / 256) by omega, ih]
theorem lan_lt {g : Nat → Nat} {c : Nat} (hg : ∀ b, b < 256 → g b ≤ c) (hc : c < 256) : ∀ (k X : Nat), lan g k X < 256 ^ k
  | 0, X => by simp [lan]
  | k + 1, X => by
    have h1 := hg (X % 256) (Nat.mod_lt _ (by omega))
    have ih := lan_lt hg hc k (X / 256)
    simp only [lan]
    rw [Nat.pow_succ]
    omega
theorem lan_congr {g h : Nat → Nat} (e : ∀ b, b < 256 → g b = h b) : ∀ (k X : Nat), lan g k X = lan h k X
  | 0, X => rfl
  | k + 1, X => by simp only [lan]; rw [e _ (Nat.mod_lt _ (by omega)), lan_congr e k]

def pop1 (b : Nat) : Nat := ((b >>> 1) &&& 85) + (b &&& 85)
def pop2 (b : Nat) : Nat := ((b >>> 2) &&& 51) + (b &&& 51)
/-- a byte's bits that are 1 -/
def pop8 (b : Nat) : Nat := b % 2 + b / 2 % 2 + b / 4 % 2 + b / 8 % 2 + b / 16 % 2 + b / 32 % 2 + b / 64 % 2 + b / 128 % 2
theorem pop_le : ∀ b : Nat, b < 256 → pop1 b < 256 ∧ pop2 (pop1 b) < 256 ∧ pop2 (pop1 b) / 16 ≤ 4 ∧ pop2 (pop1 b) % 16 ≤ 4 ∧ pop2 (pop1 b) / 16 + pop2 (pop1 b) % 16 = pop8 b ∧ pop8 b ≤ 8 := by
  have : ∀ b : _root_.Fin 256, pop1 b < 256 ∧ pop2 (pop1 b) < 256 ∧ pop2 (pop1 b) / 16 ≤ 4 ∧ pop2 (pop1 b) % 16 ≤ 4 ∧ pop2 (pop1 b) / 16 + pop2 (pop1 b) % 16 = pop8 b ∧ pop8 b ≤ 8 := by decide +kernel
  intro b hb
  exact this ⟨b, hb⟩

/-- the third step: the sum ahead of the mask -/
theorem lan_nib {h : Nat → Nat} (h0 : ∀ b, b < 256 → h b < 256 ∧ h b / 16 ≤ 4 ∧ h b % 16 ≤ 4) : ∀ (k X : Nat), (lan h k X >>> 4 + lan h k X) &&& rep8 15 k = lan (fun b => h b / 16 + h b % 16) k X
  | 0, X => by simp [rep8, lan]
  | k + 1, X => by
    have h1 := h0 (X % 256) (Nat.mod_lt _ (by omega))
    have ih := lan_nib h0 k (X / 256)
    have h2 : lan h k (X / 256) % 16 ≤ 4 := by
      cases k with
      | zero => simp [lan]
      | succ k =>
        have := h0 (X / 256 % 256) (Nat.mod_lt _ (by omega))
        simp only [lan]; omega
    have e : lan h (k + 1) X >>> 4 + lan h (k + 1) X = ((h (X % 256) / 16 + h (X % 256) % 16) + 16 * (h (X % 256) / 16 + lan h k (X / 256) % 16)) + 256 * (lan h k (X / 256) >>> 4 + lan h k (X / 256)) := by
      simp only [lan, Nat.shiftRight_eq_div_pow, Nat.reducePow]
      omega
    have hlow : ((h (X % 256) / 16 + h (X % 256) % 16) + 16 * (h (X % 256) / 16 + lan h k (X / 256) % 16)) &&& 15 = h (X % 256) / 16 + h (X % 256) % 16 := by
      rw [show (15 : Nat) = 2 ^ 4 - 1 from rfl, Nat.and_two_pow_sub_one_eq_mod]
      omega
    rw [e]
    simp only [rep8]
    rw [and_256 (by omega) (by omega), hlow, ih]
    rfl

/-- how many bits of a word are 1 -/
def pop (x : BitVec 64) : Nat := ((List.range 64).map fun i => (x.getLsbD i).toNat).sum

def bsum : Nat → Nat → Nat
  | 0, _ => 0
  | k + 1, X => X % 2 + bsum k (X / 2)
theorem bsum_eq : ∀ k X : Nat, ((List.range k).map fun i => X / 2 ^ i % 2).sum = bsum k X
  | 0, X => rfl
  | k + 1, X => by
    rw [List.range_succ_eq_map, List.map_cons, List.sum_cons, List.map_map, bsum, ← bsum_eq k (X / 2)]
    have : (List.range k).map ((fun i => X / 2 ^ i % 2) ∘ Nat.succ) = (List.range k).map fun i => X / 2 / 2 ^ i % 2 := by
      apply List.map_congr_left
      intro i _
      show X / 2 ^ (i + 1) % 2 = _
      rw [Nat.pow_succ, Nat.mul_comm, Nat.div_div_eq_div_mul]
    rw [this]; simp
theorem bsum_8 (k X : Nat) : bsum (k + 8) X = pop8 (X % 256) + bsum k (X / 256) := by
  simp only [bsum, pop8, Nat.div_div_eq_div_mul, Nat.reduceMul]
  omega
theorem pop_bytes (X : Nat) : ((List.range 64).map fun i => X / 2 ^ i % 2).sum = pop8 (X % 256) + pop8 (X / 256 % 256) + pop8 (X / 65536 % 256) + pop8 (X / 16777216 % 256) + pop8 (X / 4294967296 % 256) + pop8 (X / 1099511627776 % 256) + pop8 (X / 281474976710656 % 256) + pop8 (X / 72057594037927936 % 256) := by
  rw [bsum_eq]
  rw [show (64 : Nat) = 56 + 8 from rfl, bsum_8, show (56 : Nat) = 48 + 8 from rfl, bsum_8, show (48 : Nat) = 40 + 8 from rfl, bsum_8, show (40 : Nat) = 32 + 8 from rfl, bsum_8,
    show (32 : Nat) = 24 + 8 from rfl, bsum_8, show (24 : Nat) = 16 + 8 from rfl, bsum_8, show (16 : Nat) = 8 + 8 from rfl, bsum_8, show (8 : Nat) = 0 + 8 from rfl, bsum_8]
  simp only [bsum, Nat.div_div_eq_div_mul, Nat.reduceMul, Nat.reduceAdd, Nat.add_zero]
  omega

theorem toNat_bit (x : BitVec 64) (i : Nat) : (x.getLsbD i).toNat = x.toNat / 2 ^ i % 2 := by
  rw [← BitVec.testBit_toNat, Nat.testBit_eq_decide_div_mod_eq]
  have : x.toNat / 2 ^ i % 2 = 0 ∨ x.toNat / 2 ^ i % 2 = 1 := by omega
  rcases this with h | h <;> simp [h]
theorem pop_le64 (x : BitVec 64) : pop x ≤ 64 := by
  have key : ∀ (l : List Nat), (l.map fun i => (x.getLsbD i).toNat).sum ≤ l.length := by
    intro l
    induction l with
    | nil => simp
    | cons a l ih =>
      have : (x.getLsbD a).toNat ≤ 1 := by cases x.getLsbD a <;> simp
      simp only [List.map_cons, List.sum_cons, List.length_cons]
      omega
  have h := key (List.range 64)
  rw [List.length_range] at h
  exact h

theorem dv {A C y : Nat} (h : A < y) : (A + y * C) / y = C := by
  rw [Nat.add_mul_div_left _ _ (by omega), Nat.div_eq_of_lt h, Nat.zero_add]
/-- the last sums -/
theorem sum_last {d0 d1 d2 d3 d4 d5 d6 d7 : Nat} (h0 : d0 ≤ 8) (h1 : d1 ≤ 8) (h2 : d2 ≤ 8) (h3 : d3 ≤ 8) (h4 : d4 ≤ 8) (h5 : d5 ≤ 8) (h6 : d6 ≤ 8) (h7 : d7 ≤ 8) {x3 x4 x5 : BitVec 64}
    (e3 : x3.toNat = d0 + 256 * (d1 + 256 * (d2 + 256 * (d3 + 256 * (d4 + 256 * (d5 + 256 * (d6 + 256 * d7))))))) (q4 : x4 = x3 + x3 >>> 8) (q5 : x5 = x4 + x4 >>> 16) :
    (x5 + x5 >>> 32).toNat % 128 = d0 + d1 + d2 + d3 + d4 + d5 + d6 + d7 := by
  have s3 : (x3 >>> 8).toNat = d1 + 256 * (d2 + 256 * (d3 + 256 * (d4 + 256 * (d5 + 256 * (d6 + 256 * d7))))) := by
    rw [BitVec.toNat_ushiftRight, Nat.shiftRight_eq_div_pow, e3, show (2 : Nat) ^ 8 = 256 from rfl]
    exact dv (by omega)
  have e4 : x4.toNat = ((d0 + d1) + 256 * (d1 + d2)) + 65536 * ((d2 + d3) + 256 * ((d3 + d4) + 256 * ((d4 + d5) + 256 * ((d5 + d6) + 256 * ((d6 + d7) + 256 * d7))))) := by
    rw [q4, BitVec.toNat_add, e3, s3]
    omega
  have s4 : (x4 >>> 16).toNat = (d2 + d3) + 256 * ((d3 + d4) + 256 * ((d4 + d5) + 256 * ((d5 + d6) + 256 * ((d6 + d7) + 256 * d7)))) := by
    rw [BitVec.toNat_ushiftRight, Nat.shiftRight_eq_div_pow, e4, show (2 : Nat) ^ 16 = 65536 from rfl]
    exact dv (by omega)
  have e5 : x5.toNat = ((d0 + d1 + d2 + d3) + 256 * ((d1 + d2 + d3 + d4) + 256 * ((d2 + d3 + d4 + d5) + 256 * (d3 + d4 + d5 + d6)))) + 4294967296 * ((d4 + d5 + d6 + d7) + 256 * ((d5 + d6 + d7) + 256 * ((d6 + d7) + 256 * d7))) := by
    have q : ((d0 + d1) + 256 * (d1 + d2)) + 65536 * ((d2 + d3) + 256 * ((d3 + d4) + 256 * ((d4 + d5) + 256 * ((d5 + d6) + 256 * ((d6 + d7) + 256 * d7))))) +  ((d2 + d3) + 256 * ((d3 + d4) + 256 * ((d4 + d5) + 256 * ((d5 + d6) + 256 * ((d6 + d7) + 256 * d7))))) =
        ((d0 + d1 + d2 + d3) + 256 * ((d1 + d2 + d3 + d4) + 256 * ((d2 + d3 + d4 + d5) + 256 * (d3 + d4 + d5 + d6)))) + 4294967296 * ((d4 + d5 + d6 + d7) + 256 * ((d5 + d6 + d7) + 256 * ((d6 + d7) + 256 * d7))) := by
      clear e3 e4 s3 s4 q4 q5
      omega
    have q' : ((d0 + d1 + d2 + d3) + 256 * ((d1 + d2 + d3 + d4) + 256 * ((d2 + d3 + d4 + d5) + 256 * (d3 + d4 + d5 + d6)))) + 4294967296 * ((d4 + d5 + d6 + d7) + 256 * ((d5 + d6 + d7) + 256 * ((d6 + d7) + 256 * d7))) < 2 ^ 64 := by
      clear e3 e4 s3 s4 q4 q5 q
      omega
    rw [q5, BitVec.toNat_add, e4, s4, q, Nat.mod_eq_of_lt q']
  have s5 : (x5 >>> 32).toNat = (d4 + d5 + d6 + d7) + 256 * ((d5 + d6 + d7) + 256 * ((d6 + d7) + 256 * d7)) := by
    have hA : ((d0 + d1 + d2 + d3) + 256 * ((d1 + d2 + d3 + d4) + 256 * ((d2 + d3 + d4 + d5) + 256 * (d3 + d4 + d5 + d6)))) < 4294967296 := by
      clear e3 e4 e5 s3 s4 q4 q5
      omega
    rw [BitVec.toNat_ushiftRight, Nat.shiftRight_eq_div_pow, e5, show (2 : Nat) ^ 32 = 4294967296 by decide]
    exact dv hA
  have q : ((d0 + d1 + d2 + d3) + 256 * ((d1 + d2 + d3 + d4) + 256 * ((d2 + d3 + d4 + d5) + 256 * (d3 + d4 + d5 + d6)))) + 4294967296 * ((d4 + d5 + d6 + d7) + 256 * ((d5 + d6 + d7) + 256 * ((d6 + d7) + 256 * d7))) + ((d4 + d5 + d6 + d7) + 256 * ((d5 + d6 + d7) + 256 * ((d6 + d7) + 256 * d7))) =
      (d0 + d1 + d2 + d3 + d4 + d5 + d6 + d7) + 128 * (2 * ((d1 + d2 + d3 + d4 + d5 + d6 + d7) + 256 * ((d2 + d3 + d4 + d5 + d6 + d7) + 256 * (d3 + d4 + d5 + d6 + d7))) + 33554432 * ((d4 + d5 + d6 + d7) + 256 * ((d5 + d6 + d7) + 256 * ((d6 + d7) + 256 * d7)))) := by
    clear e3 e4 e5 s3 s4 s5 q4 q5
    omega
  have q' : (d0 + d1 + d2 + d3 + d4 + d5 + d6 + d7) + 128 * (2 * ((d1 + d2 + d3 + d4 + d5 + d6 + d7) + 256 * ((d2 + d3 + d4 + d5 + d6 + d7) + 256 * (d3 + d4 + d5 + d6 + d7))) + 33554432 * ((d4 + d5 + d6 + d7) + 256 * ((d5 + d6 + d7) + 256 * ((d6 + d7) + 256 * d7)))) < 2 ^ 64 := by
    clear e3 e4 e5 s3 s4 s5 q4 q5 q
    omega
  rw [BitVec.toNat_add, e5, s5, q, Nat.mod_eq_of_lt q', Nat.add_mul_mod_self_left, Nat.mod_eq_of_lt (by clear e3 e4 e5 s3 s4 s5 q4 q5 q q'; omega)]
theorem ones_pop (x : BitVec 64) {x1 x2 x3 x4 x5 : BitVec 64} (q1 : x1 = (x >>> 1 &&& 6148914691236517205) + (x &&& 6148914691236517205)) (q2 : x2 = (x1 >>> 2 &&& 3689348814741910323) + (x1 &&& 3689348814741910323))
    (q3 : x3 = (x2 >>> 4 + x2) &&& 1085102592571150095) (q4 : x4 = x3 + x3 >>> 8) (q5 : x5 = x4 + x4 >>> 16) : (x5 + x5 >>> 32).toNat % 128 = pop x := by
  have m1 : (6148914691236517205 : BitVec 64).toNat = rep8 85 8 := by decide
  have m2 : (3689348814741910323 : BitVec 64).toNat = rep8 51 8 := by decide
  have m3 : (1085102592571150095 : BitVec 64).toNat = rep8 15 8 := by decide
  have sh0 : ∀ X : Nat, X = X >>> 0 := fun X => rfl
  generalize hX : x.toNat = X
  have hXlt : X < 2 ^ 64 := hX ▸ x.isLt
  have l1 := lan_and (r := 1) (m := 85) (by omega) (by decide) 8 X
  have l1' := lan_and (r := 0) (m := 85) (by omega) (by decide) 8 X
  have e1 : ((x >>> 1 &&& 6148914691236517205) + (x &&& 6148914691236517205) : BitVec 64).toNat = lan pop1 8 X := by
    rw [BitVec.toNat_add, BitVec.toNat_and, BitVec.toNat_and, BitVec.toNat_ushiftRight, m1, hX, l1]
    rw [Nat.shiftRight_zero] at l1'
    rw [l1', lan_add]
    exact Nat.mod_eq_of_lt (lan_lt (c := 255) (fun b hb => by have := (pop_le b hb).1; unfold pop1 at this; simp only [Nat.shiftRight_zero]; omega) (by omega) 8 X)
  rw [← q1] at e1
  have l2 := lan_and (r := 2) (m := 51) (by omega) (by decide) 8 (lan pop1 8 X)
  have l2' := lan_and (r := 0) (m := 51) (by omega) (by decide) 8 (lan pop1 8 X)
  have e2 : ((x1 >>> 2 &&& 3689348814741910323) + (x1 &&& 3689348814741910323) : BitVec 64).toNat = lan (fun b => pop2 (pop1 b)) 8 X := by
    rw [BitVec.toNat_add, BitVec.toNat_and, BitVec.toNat_and, BitVec.toNat_ushiftRight, m2, e1, l2]
    rw [Nat.shiftRight_zero] at l2'
    rw [l2', lan_add, lan_lan fun b hb => (pop_le b hb).1]
    exact Nat.mod_eq_of_lt (lan_lt (c := 255) (fun b hb => by have := (pop_le b hb).2.1; unfold pop2 at this; simp only [Nat.shiftRight_zero]; omega) (by omega) 8 X)
  rw [← q2] at e2
  have l3 := lan_nib (h := fun b => pop2 (pop1 b)) (fun b hb => ⟨(pop_le b hb).2.1, (pop_le b hb).2.2.1, (pop_le b hb).2.2.2.1⟩) 8 X
  have e3 : ((x2 >>> 4 + x2) &&& 1085102592571150095 : BitVec 64).toNat = lan pop8 8 X := by
    have hb2 : lan (fun b => pop2 (pop1 b)) 8 X < 2 ^ 63 := by
      have : ∀ (k X : Nat), lan (fun b => pop2 (pop1 b)) k X ≤ rep8 68 k := by
        intro k
        induction k with
        | zero => intro X; simp [lan, rep8]
        | succ k ih =>
          intro X
          have h1 := pop_le (X % 256) (Nat.mod_lt _ (by omega))
          have h2 := ih (X / 256)
          simp only [lan, rep8]
          omega
      have h1 := this 8 X
      have h2 : rep8 68 8 < 2 ^ 63 := by decide
      omega
    have hb3 : lan (fun b => pop2 (pop1 b)) 8 X >>> 4 ≤ lan (fun b => pop2 (pop1 b)) 8 X := Nat.shiftRight_le _ _
    rw [BitVec.toNat_and, BitVec.toNat_add, BitVec.toNat_ushiftRight, m3, e2, Nat.mod_eq_of_lt (by omega), l3]
    exact lan_congr (fun b hb => (pop_le b hb).2.2.2.2.1) 8 X
  rw [← q3] at e3
  have hp : ∀ b : Nat, pop8 (b % 256) ≤ 8 := fun b => (pop_le (b % 256) (Nat.mod_lt _ (by omega))).2.2.2.2.2
  have hpop : pop x = pop8 (X % 256) + pop8 (X / 256 % 256) + pop8 (X / 65536 % 256) + pop8 (X / 16777216 % 256) + pop8 (X / 4294967296 % 256) + pop8 (X / 1099511627776 % 256) + pop8 (X / 281474976710656 % 256) + pop8 (X / 72057594037927936 % 256) := by
    unfold pop
    rw [← pop_bytes]
    congr 1
    apply List.map_congr_left
    intro i _
    rw [toNat_bit, hX]
  have hl : lan pop8 8 X = pop8 (X % 256) + 256 * (pop8 (X / 256 % 256) + 256 * (pop8 (X / 65536 % 256) + 256 * (pop8 (X / 16777216 % 256) + 256 * (pop8 (X / 4294967296 % 256) + 256 * (pop8 (X / 1099511627776 % 256) + 256 * (pop8 (X / 281474976710656 % 256) + 256 * pop8 (X / 72057594037927936 % 256))))))) := by
    simp only [lan, Nat.div_div_eq_div_mul, Nat.reduceMul, Nat.mul_zero, Nat.add_zero]
  rw [hpop]
  have h0 := hp X
  have h1 := hp (X / 256)
  have h2 := hp (X / 65536)
  have h3 := hp (X / 16777216)
  have h4 := hp (X / 4294967296)
  have h5 := hp (X / 1099511627776)
  have h6 := hp (X / 281474976710656)
  have h7 := hp (X / 72057594037927936)
  rw [hl] at e3
  exact sum_last h0 h1 h2 h3 h4 h5 h6 h7 e3 q4 q5

/-- how many of the first n bits are 1 -/
def cnt (n : Nat) (f : Nat → Bool) : Nat := ((List.range n).map fun i => (f i).toNat).sum
theorem cnt_succ {n : Nat} {f : Nat → Bool} : cnt (n + 1) f = cnt n f + (f n).toNat := by
  unfold cnt; rw [List.range_succ, List.map_append, List.sum_append]; simp
theorem cnt_add {a b : Nat} {f : Nat → Bool} : cnt (a + b) f = cnt a f + cnt b fun j => f (a + j) := by
  induction b with
  | zero => simp [cnt]
  | succ b ih => rw [← Nat.add_assoc, cnt_succ, ih, cnt_succ, Nat.add_assoc]
theorem cnt_le {n : Nat} {f : Nat → Bool} : cnt n f ≤ n := by
  induction n with
  | zero => simp [cnt]
  | succ n ih => rw [cnt_succ]; have : (f n).toNat ≤ 1 := by cases f n <;> simp
                 omega
theorem pop_wd {f : Nat → Bool} {k : Nat} : pop (wd f k) = cnt 64 fun j => f (64 * k + j) := by
  unfold pop cnt
  congr 1
  apply List.map_congr_left
  intro i hi
  rw [wd_bit (List.mem_range.1 hi)]
theorem cnt_words {f : Nat → Bool} (m : Nat) : cnt (64 * (m + 1)) f = cnt (64 * m) f + pop (wd f m) := by
  rw [pop_wd, Nat.mul_add, Nat.mul_one, cnt_add]
theorem cnt_out {n m : Nat} {f : Nat → Bool} (h : ∀ i, n ≤ i → f i = false) (hm : n ≤ m) : cnt m f = cnt n f := by
  obtain ⟨d, rfl⟩ := Nat.exists_eq_add_of_le hm
  rw [cnt_add]
  have : cnt d (fun j => f (n + j)) = 0 := by
    induction d with
    | zero => rfl
    | succ d ih => rw [cnt_succ, ih (by omega), h _ (by omega)]; rfl
  omega

theorem and127 (z : BitVec 64) : (BitVec.ofInt 64 z.toInt &&& 127#64).toInt = ((z.toNat % 128 : Nat) : Int) := by
  rw [BitVec.ofInt_toInt]
  have e : (z &&& 127#64).toNat = z.toNat % 128 := by
    rw [BitVec.toNat_and, show (127#64).toNat = 2 ^ 7 - 1 from rfl, Nat.and_two_pow_sub_one_eq_mod]
  rw [BitVec.toInt_eq_toNat_of_lt (by rw [e]; omega), e]
theorem and1 (n : Nat) (hn : n < 9223372036854775808) : (BitVec.ofInt 64 (n : Int) &&& 1#64).toInt = ((n % 2 : Nat) : Int) := by
  have e : (BitVec.ofInt 64 (n : Int) &&& 1#64).toNat = n % 2 := by
    rw [BitVec.toNat_and, show (1#64).toNat = 1 from rfl, Nat.and_one_is_mod, ofInt64_nat (by omega)]
  rw [BitVec.toInt_eq_toNat_of_lt (by rw [e]; omega), e]

theorem cnt_xor {f g : Nat → Bool} : ∀ n, cnt n (fun i => f i != g i) % 2 = (cnt n f + cnt n g) % 2
  | 0 => rfl
  | n + 1 => by
    have ih := cnt_xor (f := f) (g := g) n
    rw [cnt_succ, cnt_succ, cnt_succ]
    have : (f n != g n).toNat % 2 = ((f n).toNat + (g n).toNat) % 2 := by cases f n <;> cases g n <;> rfl
    omega
theorem pop_xor (x y : BitVec 64) : pop (x ^^^ y) % 2 = (pop x + pop y) % 2 := by
  have e : ∀ z : BitVec 64, pop z = cnt 64 fun i => z.getLsbD i := fun z => rfl
  rw [e, e, e, ← cnt_xor]
  congr 2
  funext i
  rw [BitVec.getLsbD_xor]
end Go.V
