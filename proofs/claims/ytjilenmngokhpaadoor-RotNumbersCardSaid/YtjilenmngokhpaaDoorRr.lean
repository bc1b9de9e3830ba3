/-
  Words cut to so many bits (from layer 3), as this seat has them.
-/
import Derived.Test.YtjilenmngokhpaaDoorRd
import Derived.Test.YtjilenmngokhpaaDoorRg
import Derived.Test.YtjilenmngokhpaaDoorBm
import Derived.Test.YtjilenmngokhpaaDoorV38
import Derived.Test.YtjilenmngokhpaaDoorV44
import Derived.Test.YtjilenmngokhpaaDoorRa
section
open Go Go.V
namespace Go.Proofs.YtjilenmngokhpaaDoor
set_option maxRecDepth 100000
set_option linter.unusedSimpArgs false
set_option linter.unusedVariables false
/-- may there be so many bits? -/
def good (l : Int) : Prop := 1 ≤ l ∧ l ≤ 64
instance (l : Int) : Decidable (good l) := by unfold good; infer_instance

/-- the lowest bits -/
def rcut (n : Nat) (x : BitVec 64) : BitVec 64 := BitVec.ofNat 64 (x.toNat % 2 ^ n)

def maskV (l : Int) : BitVec 64 := if good l then 18446744073709551615#64 >>> (64 - l.toNat) else 0

theorem ofInt_nat {i : Nat} (h : i < 18446744073709551616) : (BitVec.ofInt 64 (i : Int)).toNat = i := by
  rw [BitVec.toNat_ofInt]; omega

theorem bit_toNat (a : BitVec 64) (i : Nat) : ((a >>> i) % 2).toNat = a.toNat / 2 ^ i % 2 := by
  simp [BitVec.toNat_umod, BitVec.toNat_ushiftRight, Nat.shiftRight_eq_div_pow]

theorem or_bit {out t : BitVec 64} {i : Nat} (hi : i < 64) (ho : out.toNat < 2 ^ i) (ht : t.toNat ≤ 1) : (out ||| t <<< i).toNat = out.toNat + t.toNat * 2 ^ i := by
  rw [BitVec.toNat_or, BitVec.toNat_shiftLeft, Nat.shiftLeft_eq]
  have h1 : t.toNat * 2 ^ i < 2 ^ 64 := by
    have : 2 ^ i ≤ 2 ^ 63 := Nat.pow_le_pow_right (by decide) (by omega)
    have h2 : t.toNat * 2 ^ i ≤ 1 * 2 ^ i := Nat.mul_le_mul_right _ ht
    omega
  rw [Nat.mod_eq_of_lt h1, Nat.or_comm, Nat.mul_comm t.toNat, ← Nat.two_pow_add_eq_or_of_lt ho]
  omega

/-- how many rounds -/
def rounds (l : Int) : Nat := if l ≤ 0 then 0 else min l.toNat 64

theorem and_bit (x : BitVec 64) {i : Nat} (hi : i < 64) : (x &&& (1#64 <<< i)) = (x >>> i % 2) <<< i := by
  ext j hj
  simp only [BitVec.getElem_and, BitVec.getElem_shiftLeft, BitVec.getElem_one]
  by_cases h : j < i
  · simp [h]
  · have hm : (x >>> i % 2) = (BitVec.ofBool (x.getLsbD i)).setWidth 64 := by
      apply BitVec.eq_of_toNat_eq
      rw [bit_toNat]
      simp only [BitVec.toNat_setWidth, BitVec.toNat_ofBool, BitVec.getLsbD, Nat.testBit, Nat.shiftRight_eq_div_pow, Nat.one_and_eq_mod_two]
      have : x.toNat / 2 ^ i % 2 < 2 := Nat.mod_lt _ (by decide)
      rcases (by omega : x.toNat / 2 ^ i % 2 = 0 ∨ x.toNat / 2 ^ i % 2 = 1) with h | h <;> simp [h]
    rw [hm]
    by_cases hji : j = i
    · subst hji
      simp [BitVec.getElem_eq_testBit_toNat, BitVec.getLsbD]
      cases x.toNat.testBit j <;> simp
    · have : j - i ≠ 0 := by omega
      simp [h, this, BitVec.getElem_setWidth]

theorem rounds_64 : rounds 64 = 64 := rfl
theorem cut_64 (x : BitVec 64) : rcut 64 x = x := by
  apply BitVec.eq_of_toNat_eq
  simp only [rcut, BitVec.toNat_ofNat]
  have := x.isLt
  omega

theorem neg_eq (x : BitVec 64) : (18446744073709551615 - x + 1 : BitVec 64) = -x := by
  rw [show (18446744073709551615 : BitVec 64) = -1 from by decide]
  grind

theorem odd_iff (a : BitVec 64) : (a &&& 1 = 0) ↔ a.toNat % 2 = 0 := by
  constructor
  · intro h
    have := congrArg BitVec.toNat h
    rw [BitVec.toNat_and] at this
    have e : (1 : BitVec 64).toNat = 1 := by decide
    rw [e, Nat.and_one_is_mod] at this
    simpa using this
  · intro h
    apply BitVec.eq_of_toNat_eq
    rw [BitVec.toNat_and]
    have e : (1 : BitVec 64).toNat = 1 := by decide
    rw [e, Nat.and_one_is_mod, h]; rfl

theorem mod_iff (a : BitVec 64) : (a % 2 = 0) ↔ a.toNat % 2 = 0 := by
  constructor
  · intro h
    have := congrArg BitVec.toNat h
    rw [BitVec.toNat_umod] at this
    simpa using this
  · intro h
    apply BitVec.eq_of_toNat_eq
    rw [BitVec.toNat_umod]
    show a.toNat % 2 = 0
    exact h

theorem mask_nat {l : Int} (h : good l) : (maskV l).toNat = 2 ^ l.toNat - 1 := by
  unfold maskV
  rw [if_pos h]
  have key : ∀ n, n ≤ 64 → ((18446744073709551615#64) >>> (64 - n)).toNat = 2 ^ n - 1 := by decide +kernel
  exact key _ (by unfold good at h; omega)

theorem and_mask {l : Int} (h : good l) (x : BitVec 64) : x &&& maskV l = rcut l.toNat x := by
  apply BitVec.eq_of_toNat_eq
  rw [BitVec.toNat_and, mask_nat h, Nat.and_two_pow_sub_one_eq_mod]
  simp only [rcut, BitVec.toNat_ofNat]
  have := x.isLt
  have h2 := Nat.mod_le x.toNat (2 ^ l.toNat)
  omega

theorem mask_zero {l : Int} : maskV l = 0 ↔ ¬ good l := by
  constructor
  · intro h hg
    have := mask_nat hg
    rw [h] at this
    have h2 : 2 ≤ 2 ^ l.toNat := by
      have := Nat.pow_le_pow_right (n := 2) (by decide) (show 1 ≤ l.toNat by unfold good at hg; omega)
      simpa using this
    have h3 : (0 : BitVec 64).toNat = 0 := by decide
    omega
  · intro h; unfold maskV; rw [if_neg h]

theorem cut_nat {n : Nat} (x : BitVec 64) : (rcut n x).toNat = x.toNat % 2 ^ n := by
  simp only [rcut, BitVec.toNat_ofNat]
  have := x.isLt
  have h2 := Nat.mod_le x.toNat (2 ^ n)
  omega

theorem cut_mul_cut {n : Nat} (hn : n ≤ 64) (a x : BitVec 64) : rcut n (a * rcut n x) = rcut n (a * x) := by
  have hp : 2 ^ n ∣ 2 ^ 64 := Nat.pow_dvd_pow 2 hn
  apply BitVec.eq_of_toNat_eq
  rw [cut_nat, cut_nat, BitVec.toNat_mul, BitVec.toNat_mul, cut_nat, Nat.mod_mod_of_dvd _ hp, Nat.mod_mod_of_dvd _ hp, Nat.mul_mod, Nat.mod_mod, ← Nat.mul_mod]

/-! sums, products and powers rcut to n bits -/

theorem cut_add_cut {n : Nat} (hn : n ≤ 64) (x y : BitVec 64) : rcut n (rcut n x + y) = rcut n (x + y) := by
  apply BitVec.eq_of_toNat_eq
  rw [cut_nat, cut_nat, BitVec.toNat_add, BitVec.toNat_add, cut_nat]
  have hd : 2 ^ n ∣ 2 ^ 64 := Nat.pow_dvd_pow 2 hn
  rw [Nat.mod_mod_of_dvd _ hd, Nat.mod_mod_of_dvd _ hd, Nat.mod_add_mod]

theorem cut_mul_cut' {n : Nat} (hn : n ≤ 64) (x y : BitVec 64) : rcut n (rcut n x * y) = rcut n (x * y) := by
  rw [BitVec.mul_comm, cut_mul_cut hn, BitVec.mul_comm]

theorem cut_cut {n : Nat} (x : BitVec 64) : rcut n (rcut n x) = rcut n x := by
  apply BitVec.eq_of_toNat_eq
  rw [cut_nat, cut_nat, Nat.mod_mod]

def bitV (b : BitVec 64) (i : Nat) : BitVec 64 := if b.toNat / 2 ^ i % 2 = 1 then 1#64 <<< i else 0

theorem rcut_succ (b : BitVec 64) {i : Nat} (hi : i < 64) : rcut (i + 1) b = rcut i b + bitV b i := by
  have h2 : b.toNat / 2 ^ i % 2 = 0 ∨ b.toNat / 2 ^ i % 2 = 1 := by omega
  have hlt : b.toNat % 2 ^ i < 2 ^ i := Nat.mod_lt _ (Nat.two_pow_pos i)
  have hle : 2 ^ (i + 1) ≤ 2 ^ 64 := Nat.pow_le_pow_right (by omega) (by omega)
  have hp : 2 ^ (i + 1) = 2 * 2 ^ i := by rw [Nat.pow_succ, Nat.mul_comm]
  have hm : b.toNat % 2 ^ (i + 1) = b.toNat % 2 ^ i + 2 ^ i * (b.toNat / 2 ^ i % 2) := by
    rw [Nat.pow_succ, Nat.mod_mul]
  have hs : (1#64 <<< i).toNat = 2 ^ i := by
    have z1 : (1#64 : BitVec 64).toNat = 1 := rfl
    rw [BitVec.toNat_shiftLeft, z1, Nat.shiftLeft_eq, Nat.one_mul, Nat.mod_eq_of_lt (by omega)]
  apply BitVec.eq_of_toNat_eq
  rw [BitVec.toNat_add, cut_nat, cut_nat, hm]
  unfold bitV
  generalize b.toNat % 2 ^ i = m at hlt
  rcases h2 with h | h
  · rw [h, if_neg (by omega)]
    have z0 : (0 : BitVec 64).toNat = 0 := rfl
    rw [z0, Nat.mul_zero, Nat.add_zero, Nat.mod_eq_of_lt (Nat.lt_trans hlt (by omega))]
  · rw [h, if_pos rfl, hs, Nat.mul_one, Nat.mod_eq_of_lt (by omega)]

theorem rcut_zero (b : BitVec 64) : rcut 0 b = 0 := by simp [rcut, Nat.mod_one]
theorem rounds_le (l : Int) : rounds l ≤ 64 := by unfold rounds; split <;> omega

theorem mod2_iff (b : BitVec 64) (i : Nat) : (b >>> i % 2 = 1) ↔ b.toNat / 2 ^ i % 2 = 1 := by
  rw [← BitVec.toNat_inj, bit_toNat]
  exact Iff.rfl

theorem bv_mul_one' (x : BitVec 64) : x * 1 = x := BitVec.mul_one x
theorem bv_mul_one1 (x : BitVec 64) : x * 1#64 = x := BitVec.mul_one x
theorem shl0 : (1#64 <<< 0) = 1#64 := rfl
theorem cut_z (n : Nat) : rcut n 0 = 0 := by simp [rcut]

/-! the code's power -/

def msk (l : Int) (x : BitVec 64) : BitVec 64 := x &&& maskV l

theorem msk_cases (l : Int) : (good l ∧ ∀ x, msk l x = rcut l.toNat x) ∨ (¬ good l ∧ ∀ x, msk l x = 0) := by
  by_cases hg : good l
  · exact .inl ⟨hg, fun x => and_mask hg x⟩
  · refine .inr ⟨hg, fun x => ?_⟩
    unfold msk
    rw [mask_zero.2 hg]
    exact BitVec.and_zero

theorem msk_mul (l : Int) (x y : BitVec 64) : msk l (x * msk l y) = msk l (x * y) := by
  rcases msk_cases l with ⟨hg, h⟩ | ⟨hg, h⟩
  · simp only [h]; exact cut_mul_cut (by unfold good at hg; omega) x y
  · simp only [h]

theorem msk_mul' (l : Int) (x y : BitVec 64) : msk l (msk l x * y) = msk l (x * y) := by
  rw [BitVec.mul_comm, msk_mul, BitVec.mul_comm]

/-! Fits -/

theorem fits_iff {l : Int} (hg : good l) (x : BitVec 64) : (x &&& ~~~maskV l = 0) ↔ rcut l.toNat x = x := by
  rw [← and_mask hg]
  constructor
  · intro h
    have : x = (x &&& maskV l) ||| (x &&& ~~~maskV l) := by
      rw [← BitVec.and_or_distrib_left, BitVec.or_not_self, BitVec.and_allOnes]
    rw [h] at this
    exact (this.trans BitVec.or_zero).symm
  · intro h
    rw [← h, BitVec.and_assoc, BitVec.and_not_self]
    exact BitVec.and_zero

def lst (f : Nat → BitVec 64) (n : Nat) : AV := .ro .leaf ((List.range n).map fun i => .u64 (f i))

/-! the three functions that are handed to it -/
/-! sums -/
theorem f27g' {l : Int} (hg : good l) (x : BitVec 64) : rcut (rounds l) x = x &&& maskV l := by
  have hr : rounds l = l.toNat := by unfold rounds; unfold good at hg; split <;> omega
  rw [hr, and_mask hg]

theorem cut_add_cut' {n : Nat} (hn : n ≤ 64) (x y : BitVec 64) : rcut n (x + rcut n y) = rcut n (x + y) := by
  rw [BitVec.add_comm, cut_add_cut hn, BitVec.add_comm]

/-- do all numbers fit? -/
def fitL (l : Int) (xs : List (BitVec 64)) : Bool := xs.all fun x => decide (x &&& ~~~maskV l = 0)
theorem all_get {xs : List (BitVec 64)} {p : BitVec 64 → Bool} : xs.all p = true ↔ ∀ j, j < xs.length → p (xs.getD j 0) = true := by
  rw [List.all_eq_true]
  constructor
  · intro h j hj
    rw [List.getD_eq_getElem?_getD, List.getElem?_eq_getElem hj]
    exact h _ (List.getElem_mem hj)
  · intro h x hx
    obtain ⟨j, hj, rfl⟩ := List.getElem_of_mem hx
    have := h j hj
    rwa [List.getD_eq_getElem?_getD, List.getElem?_eq_getElem hj] at this
theorem fits_eq {l : Int} (hg : good l) (x : BitVec 64) : decide (x &&& ~~~maskV l = 0) = decide (rcut (rounds l) x = x) := by
  have hr : rounds l = l.toNat := by unfold rounds; unfold good at hg; split <;> omega
  rw [hr]
  simp only [fits_iff hg x]
theorem fitL_eq {l : Int} (hg : good l) {xs : List (BitVec 64)} : (xs.all fun x => decide (rcut (rounds l) x = x)) = fitL l xs := by
  unfold fitL
  congr 1
  funext x
  exact (fits_eq hg x).symm
/-- are a width, and a row's length, good? -/
def okW (w n : Int) : Bool := decide (1 ≤ w) && decide (w ≤ 64) && decide (1 ≤ n) && decide (n ≤ 6)
theorem okW_good {w n : Int} (h : okW w n = true) : good w ∧ 1 ≤ n ∧ n ≤ 6 := by
  simp only [okW, Bool.and_eq_true, decide_eq_true_eq] at h
  exact ⟨⟨h.1.1.1, h.1.1.2⟩, h.1.2, h.2⟩
/-- a list by its places -/
def rL (F : Nat → BitVec 64) (t : Nat) : List AV := (List.range t).map fun i => .u64 (F i)
theorem rL_len {F : Nat → BitVec 64} {t : Nat} : (rL F t).length = t := by simp [rL]
theorem rL_app {F G : Nat → BitVec 64} {t n : Nat} (h : ∀ j, j < n → G j = F (t + j)) : rL F t ++ rL G n = rL F (t + n) := by
  unfold rL
  rw [List.range_add, List.map_append, List.map_map]
  congr 1
  exact List.map_congr_left fun j hj => by rw [h j (List.mem_range.1 hj)]; rfl
theorem rL_one {F : Nat → BitVec 64} {t : Nat} {x : BitVec 64} (h : x = F t) : rL F t ++ [.u64 x] = rL F (t + 1) := by
  rw [h]; unfold rL; rw [List.range_succ, List.map_append]; rfl
theorem rL_kind {F : Nat → BitVec 64} {t : Nat} : ∀ q : AV, q ∈ rL F t → (match q with | AV.agg ps => false | AV.tup ps => false | AV.un => false | x => true) = true := by
  intro q hq
  obtain ⟨b, _, rfl⟩ := List.mem_map.1 hq
  rfl
theorem rL_map {F : Nat → BitVec 64} {t : Nat} : rL F t = ((List.range t).map F).map .u64 := by unfold rL; rw [List.map_map]; rfl
theorem lst_rL {F : Nat → BitVec 64} {t : Nat} : lst F t = .ro .leaf (rL F t) := rfl
theorem mapO_rL {kp : Nat → Bool} {N : Nat} {h : Heap} {d : Nat} {F : Nat → BitVec 64} {t : Nat} : mapO (demK kp N h (d + 1)) (rL F t) = some (rL F t) := by rw [rL_map]; exact mapO_u64
theorem bnds_rL {k : Nat} {F : Nat → BitVec 64} {t : Nat} : AV.bnds k (rL F t) = true := by rw [rL_map]; exact bnds_u64'
theorem take_rL {F : Nat → BitVec 64} {t : Nat} : List.take t (rL F t) = rL F t := List.take_of_length_le (by rw [rL_len]; exact Nat.le_refl _)
def uB (v t : Nat) (l : List AV) : Option Blk := some ⟨22, v, true, .arr t .leaf, .agg l⟩
theorem getD_rng {F : Nat → BitVec 64} {n j : Nat} (h : j < n) : ((List.range n).map F).getD j 0 = F j := by
  rw [List.getD_eq_getElem?_getD, List.getElem?_map, List.getElem?_range h]; rfl
theorem rL_congr {F G : Nat → BitVec 64} {n : Nat} (h : ∀ j, j < n → F j = G j) : rL F n = rL G n := List.map_congr_left fun j hj => by rw [h j (List.mem_range.1 hj)]
theorem msk_fit {l : Int} {x : BitVec 64} (h : x &&& ~~~maskV l = 0) : msk l x = x := by
  unfold msk
  have : x = (x &&& maskV l) ||| (x &&& ~~~maskV l) := by
    rw [← BitVec.and_or_distrib_left, BitVec.or_not_self, BitVec.and_allOnes]
  rw [h] at this
  exact (this.trans BitVec.or_zero).symm
theorem fitL_at {l : Int} {xs : List (BitVec 64)} (h : fitL l xs = true) (i : Nat) : msk l (xs.getD i 0) = xs.getD i 0 := by
  by_cases hi : i < xs.length
  · exact msk_fit (of_decide_eq_true (all_get.1 h i hi))
  · rw [List.getD_eq_getElem?_getD, List.getElem?_eq_none (by omega)]
    exact BitVec.zero_and
/-- the list that came of it -/
def luL (F : Nat → BitVec 64) (t : Nat) : AV := if t = 0 then .nils else .ro .leaf (rL F t)
theorem luL_isL {F : Nat → BitVec 64} {t : Nat} : isL (luL F t) (((List.range t).map F).map .u64) := by
  unfold luL isL
  by_cases h : t = 0
  · rw [if_pos h, h]; exact .inr ⟨rfl, rfl⟩
  · rw [if_neg h, rL_map]; exact .inl rfl
end Go.Proofs.YtjilenmngokhpaaDoor

end

section
/-
  Numbers of seeds, the program's and the reference's.
-/
open Go Go.V
namespace Go.Proofs.YtjilenmngokhpaaDoor
set_option maxRecDepth 100000
set_option linter.unusedSimpArgs false
set_option linter.unusedVariables false
/-- trefoil/rot.Numbers (0:s, 1:width, 2:n, 3:s, 6:, 7:, 8:l, 9:e, 10:i, 16:, 22:, 30:, 33:, 34:, 35:) -/
def s22 : FnS := ⟨49, [0, 1, 2, 3, 6, 7, 8, 9, 10, 16, 22, 30, 33, 34, 35],
    (.seq (.reg [⟨.var 3, (.e (.box 28 (.arr 32 .leaf))), [.t 0], none⟩,
      ⟨.var 4, (.q .mv), [.c .nils], none⟩,
      ⟨.var 5, (.q .mv), [.c (.int 0)], none⟩])
    (.seq (.seq (.reg [⟨.new, (.q .mv), [.t 1], none⟩,
      ⟨.new, (.q (.bin .lss)), [.t 15, .c (.int 1)], none⟩,
      ⟨.new, (.q .mv), [.t 16], none⟩,
      ⟨.new, (.q .mv), [.t 1], (some (17, false))⟩,
      ⟨.new, (.q (.bin .gtr)), [.t 18, .c (.int 64)], (some (17, false))⟩,
      ⟨.var 9, (.q .pick), [.t 17, .c (.bool true), .t 19], none⟩])
    (.cond (.t 9) (.seq (.reg [⟨.var 4, (.q .mv), [.c .nils], none⟩,
      ⟨.var 5, (.q .mv), [.c (.int 11)], none⟩])
    .ret)
    .skip))
    (.seq (.seq (.reg [⟨.new, (.q .mv), [.t 2], none⟩,
      ⟨.new, (.q (.bin .lss)), [.t 15, .c (.int 0)], none⟩,
      ⟨.new, (.q .mv), [.t 16], none⟩,
      ⟨.new, (.q .mv), [.t 2], (some (17, false))⟩,
      ⟨.new, (.q (.bin .gtr)), [.t 18, .c (.int 36)], (some (17, false))⟩,
      ⟨.var 10, (.q .pick), [.t 17, .c (.bool true), .t 19], none⟩])
    (.cond (.t 10) (.seq (.reg [⟨.var 4, (.q .mv), [.c .nils], none⟩,
      ⟨.var 5, (.q .mv), [.c (.int 2)], none⟩])
    .ret)
    .skip))
    (.seq (.reg [⟨.new, (.q (.ld (.arr 32 .leaf))), [.t 3], none⟩,
      ⟨.new, (.q .mv), [.t 2], none⟩,
      ⟨.new, (.call 36), [.t 15, .c (.u32 1), .c (.int 0), .t 16], none⟩,
      ⟨.new, (.q .mv), [.t 17], none⟩,
      ⟨.new, (.q (.ext 0)), [.t 18], none⟩,
      ⟨.new, (.q (.ext 1)), [.t 18], none⟩,
      ⟨.var 6, (.q .mv), [.t 19], none⟩,
      ⟨.var 7, (.q .mv), [.t 20], none⟩])
    (.seq (.seq (.reg [⟨.new, (.q .mv), [.t 7], none⟩,
      ⟨.var 11, (.q (.bin .neq)), [.t 15, .c (.int 0)], none⟩])
    (.cond (.t 11) (.seq (.reg [⟨.new, (.q .mv), [.t 7], none⟩,
      ⟨.var 4, (.q .mv), [.c .nils], none⟩,
      ⟨.var 5, (.q .mv), [.t 15], none⟩])
    .ret)
    .skip))
    (.seq (.seq (.reg [⟨.new, (.q .mv), [.t 6], none⟩,
      ⟨.var 12, (.q .len), [.t 15], none⟩,
      ⟨.var 13, (.q .mv), [.c (.int 0)], none⟩])
    (.block 0 (.loop (.seq (.reg [⟨.var 14, (.q (.bin .lss)), [.t 13, .t 12], none⟩])
    (.seq (.cond (.t 14) .skip
    (.exit 0))
    (.seq (.block 1 (.seq (.reg [⟨.new, (.q .mv), [.t 13], none⟩,
      ⟨.var 8, (.q .mv), [.t 15], none⟩])
    (.reg [⟨.new, (.q .mv), [.t 6], none⟩,
      ⟨.new, (.q .mv), [.t 8], none⟩,
      ⟨.new, (.q (.iaS .leaf)), [.t 15, .t 16], none⟩,
      ⟨.new, (.q (.ld .leaf)), [.t 17], none⟩,
      ⟨.new, (.q .mv), [.t 1], none⟩,
      ⟨.new, (.q (.bin .sub)), [.c (.int 64), .t 19], none⟩,
      ⟨.new, (.q (.cv .u64)), [.t 20], none⟩,
      ⟨.new, (.q (.bin .shr)), [.c (.u64 18446744073709551615), .t 21], none⟩,
      ⟨.new, (.q (.bin .and)), [.t 18, .t 22], none⟩,
      ⟨.new, (.q (.iaS .leaf)), [.t 15, .t 16], none⟩,
      ⟨.none, (.e (.store .leaf)), [.t 24, .t 23], none⟩])))
    (.reg [⟨.new, (.q (.bin .add)), [.t 13, .c (.int 1)], none⟩,
      ⟨.var 13, (.q .mv), [.t 15], none⟩])))))))
    (.seq (.reg [⟨.new, (.q .mv), [.t 6], none⟩,
      ⟨.var 4, (.q .mv), [.t 15], none⟩,
      ⟨.var 5, (.q .mv), [.c (.int 0)], none⟩])
    .ret))))))),
    [.t 4, .t 5]⟩

/-- trefoil/trefoilref18.Numbers (0:s, 1:width, 2:n, 3:s, 6:, 7:, 8:l, 10:i, 16:, 22:, 32:) -/
def s23 : FnS := ⟨45, [0, 1, 2, 3, 6, 7, 8, 10, 16, 22, 32],
    (.seq (.reg [⟨.var 3, (.e (.box 28 (.arr 32 .leaf))), [.t 0], none⟩,
      ⟨.var 4, (.q .mv), [.c .nils], none⟩,
      ⟨.var 5, (.q .mv), [.c (.int 0)], none⟩])
    (.seq (.seq (.reg [⟨.new, (.q .mv), [.t 1], none⟩,
      ⟨.new, (.q (.bin .lss)), [.t 11, .c (.int 1)], none⟩,
      ⟨.new, (.q .mv), [.t 12], none⟩,
      ⟨.new, (.q .mv), [.t 1], (some (13, false))⟩,
      ⟨.new, (.q (.bin .gtr)), [.t 14, .c (.int 64)], (some (13, false))⟩,
      ⟨.var 8, (.q .pick), [.t 13, .c (.bool true), .t 15], none⟩])
    (.cond (.t 8) (.seq (.reg [⟨.var 4, (.q .mv), [.c .nils], none⟩,
      ⟨.var 5, (.q .mv), [.c (.int 11)], none⟩])
    .ret)
    .skip))
    (.seq (.seq (.reg [⟨.new, (.q .mv), [.t 2], none⟩,
      ⟨.new, (.q (.bin .lss)), [.t 11, .c (.int 0)], none⟩,
      ⟨.new, (.q .mv), [.t 12], none⟩,
      ⟨.new, (.q .mv), [.t 2], (some (13, false))⟩,
      ⟨.new, (.q (.bin .gtr)), [.t 14, .c (.int 36)], (some (13, false))⟩,
      ⟨.var 9, (.q .pick), [.t 13, .c (.bool true), .t 15], none⟩])
    (.cond (.t 9) (.seq (.reg [⟨.var 4, (.q .mv), [.c .nils], none⟩,
      ⟨.var 5, (.q .mv), [.c (.int 2)], none⟩])
    .ret)
    .skip))
    (.seq (.reg [⟨.new, (.q (.ld (.arr 32 .leaf))), [.t 3], none⟩,
      ⟨.new, (.q .mv), [.t 2], none⟩,
      ⟨.new, (.call 37), [.t 11, .c (.u32 1), .c (.int 0), .t 12], none⟩,
      ⟨.new, (.q .mv), [.t 13], none⟩,
      ⟨.new, (.q (.ext 0)), [.t 14], none⟩,
      ⟨.new, (.q (.ext 1)), [.t 14], none⟩,
      ⟨.var 6, (.q .mv), [.t 15], none⟩,
      ⟨.new, (.q .mv), [.t 16], none⟩])
    (.seq (.seq (.reg [⟨.var 7, (.q .mv), [.c (.int 0)], none⟩])
    (.block 0 (.loop (.seq (.seq (.reg [⟨.new, (.q .mv), [.t 7], none⟩,
      ⟨.new, (.q .mv), [.t 6], none⟩,
      ⟨.new, (.q .len), [.t 12], none⟩,
      ⟨.var 10, (.q (.bin .lss)), [.t 11, .t 13], none⟩])
    (.cond (.t 10) .skip
    (.exit 0)))
    (.seq (.block 1 (.reg [⟨.new, (.q .mv), [.t 6], none⟩,
      ⟨.new, (.q .mv), [.t 7], none⟩,
      ⟨.new, (.q .mv), [.t 6], none⟩,
      ⟨.new, (.q .mv), [.t 7], none⟩,
      ⟨.new, (.q (.iaS .leaf)), [.t 13, .t 14], none⟩,
      ⟨.new, (.q (.ld .leaf)), [.t 15], none⟩,
      ⟨.new, (.q .mv), [.t 1], none⟩,
      ⟨.new, (.call 38), [.t 16, .t 17], none⟩,
      ⟨.new, (.q (.iaS .leaf)), [.t 11, .t 12], none⟩,
      ⟨.none, (.e (.store .leaf)), [.t 19, .t 18], none⟩]))
    (.reg [⟨.new, (.q .mv), [.t 7], none⟩,
      ⟨.new, (.q (.bin .add)), [.t 11, .c (.int 1)], none⟩,
      ⟨.var 7, (.q .mv), [.t 12], none⟩]))))))
    (.seq (.reg [⟨.new, (.q .mv), [.t 6], none⟩,
      ⟨.var 4, (.q .mv), [.t 11], none⟩,
      ⟨.var 5, (.q .mv), [.c (.int 0)], none⟩])
    .ret)))))),
    [.t 4, .t 5]⟩

/-- trefoil/trefoilref06.Cut (0:w, 1:bits, 4:, 6:) -/
def s38 : FnS := ⟨13, [0, 1, 4, 6],
    (.seq (.reg [⟨.var 2, (.q .mv), [.c (.u64 0)], none⟩])
    (.seq (.seq (.reg [⟨.new, (.q .mv), [.t 1], none⟩,
      ⟨.var 3, (.q (.bin .geq)), [.t 4, .c (.int 64)], none⟩])
    (.cond (.t 3) (.seq (.reg [⟨.new, (.q .mv), [.t 0], none⟩,
      ⟨.var 2, (.q .mv), [.t 4], none⟩])
    .ret)
    .skip))
    (.seq (.reg [⟨.new, (.q .mv), [.t 0], none⟩,
      ⟨.new, (.q .mv), [.t 1], none⟩,
      ⟨.new, (.q (.cv .u64)), [.t 5], none⟩,
      ⟨.new, (.q (.bin .shl)), [.c (.u64 1), .t 6], none⟩,
      ⟨.new, (.q (.bin .rem)), [.t 4, .t 7], none⟩,
      ⟨.var 2, (.q .mv), [.t 8], none⟩])
    .ret))),
    [.t 2]⟩

theorem c22 : cF P G (drP P G) 22 3 s22.vm = some s22 := by kernel_rfl
theorem c23 : cF P G (drP P G) 23 3 s23.vm = some s23 := by kernel_rfl
theorem c38 : cF P G (drP P G) 38 2 s38.vm = some s38 := by kernel_rfl
theorem f36k {K : AV → Heap → Prop} {H : Heap} {ks : List (BitVec 8)} {lane : BitVec 32} {a n : Nat} (hk : ks.length = 32) (hn : n ≤ 4096) (han : a + n ≤ 134217728) (h : K (.tup [.own (H.length + 1) 0 [] 0 n .leaf, .int 0]) (H ++ [kbx ks, uB 0 n (rL (fun i => wdg ks lane (a + i)) n)])) : wpF P G 36 [.agg (ks.map .u8), .u32 lane, .int (a : Int), .int (n : Int)] H K := by
  refine wpF_goK c36 rfl ?_
  intro ha hb
  simp only [s36]
  have h0 : ((a : Int) < 0) = False := by simp
  have h01 : ((n : Int) < 0) = False := by simp
  have h1 : ((134217728 : Int) < (a : Int)) = False := by simp; omega
  have h11 : ((4096 : Int) < (n : Int)) = False := by simp; omega
  have h2 : 8 * (a : Int) = ((8 * a : Nat) : Int) := by omega
  have h3 : 8 * (n : Int) = ((8 * n : Nat) : Int) := by omega
  (refine gw7 @hk @h0 @h01 @h1 @h11 @h2 @h3 ?_; try exact True.intro)
  (repeat (refine And.intro (by omega) ?_))
  refine f53g hk (by omega) (by omega) ?_
  (refine gw0 ?_; try exact True.intro)
  (repeat (refine And.intro (by omega) ?_))
  refine wp_inv (Ix53 ks lane a n H) n ⟨0, _, _, _, _, _, by rw [fill_zero]; rfl, rfl, by omega⟩ ?_
  rintro k st ⟨i, u1, u2, u3, u4, u5, rfl, rfl, hi⟩
  unfold kbx
  by_cases hil : i < n
  · have hlt : ((i : Int) < (n : Int)) = True := by simp; omega
    have hL := fill_length (f := fun i => .u64 (wdg ks lane (a + i))) (z := .u64 0) hi
    have hL0 : (fillL (fun i => AV.u64 (wdg ks lane (a + i))) (.u64 0) n i)[i]? = some (.u64 0) := by
      unfold fillL
      rw [List.getElem?_append_right (by simp), List.length_map, List.length_range, Nat.sub_self, List.getElem?_replicate]
      rw [if_pos (by omega)]
    have hSet := fill_set (f := fun i => .u64 (wdg ks lane (a + i))) (z := .u64 0) hil
    generalize fillL (fun i => AV.u64 (wdg ks lane (a + i))) (.u64 0) n i = L at *
    have hLs : ∀ x, (L.set i x)[i]? = some x := fun x => by rw [List.getElem?_set_self (by omega)]
    have hLL : ∀ x y, (L.set i x).set i y = L.set i y := fun x y => List.set_set ..
    (refine gw1 @hlt ?_; try exact True.intro)
    refine wp_unroll 9 ?_
    have hpl : (part ks lane (8 * a) (8 * n)).length = 8 * n := part_len
    (refine gw5 @hlt @hL0 @hLs @hLL @hpl ?_; try exact True.intro)
    clear hL hL0 hLs hLL hpl ha hb h
    (repeat (refine And.intro (by omega) ?_))
    have hSet' : L.set i (AV.u64 (leW (part ks lane (8 * (a + i)) 8))) = fillL (fun i => AV.u64 (wdg ks lane (a + i))) (AV.u64 0) n (i + 1) := hSet
    simp only [leW] at hSet'
    have e : ∀ (k : Nat) (x : Int), k < 8 → x = 8 * (i : Int) + (k : Int) → (part ks lane (8 * a) (8 * n)).getD x.toNat 0 = (part ks lane (8 * (a + i)) 8).getD k 0 := fun k x hk hx => part_el hk hil hx
    refine ⟨n - (i + 1), by omega, i + 1, _, _, _, _, _, by rw [e 0 (8 * (i : Int) + 0) (by omega) rfl, e 1 (8 * (i : Int) + 1) (by omega) rfl, e 2 (8 * (i : Int) + 2) (by omega) rfl, e 3 (8 * (i : Int) + 3) (by omega) rfl, e 4 (8 * (i : Int) + 4) (by omega) rfl, e 5 (8 * (i : Int) + 5) (by omega) rfl, e 6 (8 * (i : Int) + 6) (by omega) rfl, e 7 (8 * (i : Int) + 7) (by omega) rfl, hSet']; rfl, rfl, by omega⟩
  · have hlt : ((i : Int) < (n : Int)) = False := by simp; omega
    have hie : i = n := by omega
    rw [hie, fill_all]
    have hlt : ((n : Int) < (n : Int)) = False := by simp
    (refine gw4 @hlt @Kall_n @Kall_r @Ka2_s ?_; try exact True.intro)
    exact h
theorem f37k {K : AV → Heap → Prop} {H : Heap} {ks : List (BitVec 8)} {lane : BitVec 32} {a n : Nat} (hk : ks.length = 32) (hn : n ≤ 4096) (han : a + n ≤ 134217728) (h0 : n = 0 → K (.tup [.nils, .int 0]) (H ++ [kbx ks])) (h : 0 < n → ∀ g J, K (.tup [.own (H.length + 2) n [] 0 n .leaf, .int 0]) (H ++ kbx ks :: g :: uB n n (rL (fun i => wdg ks lane (a + i)) n) :: J)) : wpF P G 37 [.agg (ks.map .u8), .u32 lane, .int (a : Int), .int (n : Int)] H K := by
  refine wpF_goK c37 rfl ?_
  intro ha hb
  simp only [s37]
  have h00 : ((a : Int) < 0) = False := by simp
  have h01 : ((n : Int) < 0) = False := by simp
  have h1 : ((134217728 : Int) < (a : Int)) = False := by simp; omega
  have h11 : ((4096 : Int) < (n : Int)) = False := by simp; omega
  have h2 : 8 * (a : Int) = ((8 * a : Nat) : Int) := by omega
  have h3 : 8 * (n : Int) = ((8 * n : Nat) : Int) := by omega
  (refine gw7 @hk @h00 @h01 @h1 @h11 @h2 @h3 ?_; try exact True.intro)
  (repeat (refine And.intro (by omega) ?_))
  refine f54g hk (by omega) (by omega) ?_
  (refine gw0 ?_; try exact True.intro)
  refine wp_inv (Ix34 ks lane a n H) n ⟨0, _, _, _, _, _, [], rfl, rfl, by omega, .inl ⟨rfl, rfl, rfl⟩⟩ ?_
  rintro k st ⟨i, out, u1, u2, u3, u4, L, rfl, rfl, hi, hc⟩
  unfold kbx
  by_cases hil : i < n
  · have hlt : ((i : Int) < (n : Int)) = True := by simp; omega
    have hpl : (part ks lane (8 * a) (8 * n)).length = 8 * n := part_len
    have e : ∀ (k : Nat) (x : Int), k < 8 → x = 8 * (i : Int) + (k : Int) → (part ks lane (8 * a) (8 * n)).getD x.toNat 0 = (part ks lane (8 * (a + i)) 8).getD k 0 := fun k x hk hx => part_el hk hil hx
    have e0 := e 0 (8 * (i : Int) + 0) (by omega) rfl
    have e1 := e 1 (8 * (i : Int) + 1) (by omega) rfl
    have e2 := e 2 (8 * (i : Int) + 2) (by omega) rfl
    have e3 := e 3 (8 * (i : Int) + 3) (by omega) rfl
    have e4 := e 4 (8 * (i : Int) + 4) (by omega) rfl
    have e5 := e 5 (8 * (i : Int) + 5) (by omega) rfl
    have e6 := e 6 (8 * (i : Int) + 6) (by omega) rfl
    have e7 := e 7 (8 * (i : Int) + 7) (by omega) rfl
    (refine gw1 @hlt ?_; try exact True.intro)
    refine wp_unroll 9 ?_
    (refine gw10 @hlt @hpl @e0 @e1 @e2 @e3 @e4 @e5 @e6 @e7 ?_; try exact True.intro)
    clear ha hb h h0 e e0 e1 e2 e3 e4 e5 e6 e7
    (repeat (refine And.intro (by omega) ?_))
    have hw : rW (part ks lane (8 * (a + i)) 8) = wdg ks lane (a + i) := by rw [← leW_rW]; rfl
    simp only [rW] at hw
    rw [hw]
    rcases hc with ⟨rfl, rfl, rfl⟩ | ⟨hi0, rfl, g, J, rfl⟩
    · (refine gw0 ?_; try exact True.intro)
      exact ⟨n - 1, by omega, 1, _, _, _, _, _, _, rfl, rfl, by omega, .inr ⟨by omega, rfl, _, [], rfl⟩⟩
    · unfold oW
      (refine gw0 ?_; try exact True.intro)
      (repeat (refine And.intro (by omega) ?_))
      have er : (List.range i).map (fun j => AV.u64 (wdg ks lane (a + j))) ++ [AV.u64 (wdg ks lane (a + i))] = (List.range (i + 1)).map fun j => AV.u64 (wdg ks lane (a + j)) := by simp [List.range_succ]
      rw [er]
      exact ⟨n - (i + 1), by omega, i + 1, _, _, _, _, _, _, rfl, rfl, by omega, .inr ⟨by omega, rfl, _, _, rfl⟩⟩
  · have hlt : ((i : Int) < (n : Int)) = False := by simp; omega
    have hie : i = n := by omega
    subst hie
    rcases hc with ⟨hi0, rfl, rfl⟩ | ⟨hi0, rfl, g, J, rfl⟩
    · (refine gw4 @hlt @Kall_n @Kall_r @Ka2_s ?_; try exact True.intro)
      exact h0 hi0
    · (refine gw4 @hlt @Kall_n @Kall_r @Ka2_s ?_; try exact True.intro)
      exact h hi0 g J

/-- a number of a seed: so many bits of a word of its stream -/
def nuF (ks : List (BitVec 8)) (w : Int) (i : Nat) : BitVec 64 := msk w (wdg ks 1 i)
theorem f38 {K : AV → Heap → Prop} {H : Heap} {x : BitVec 64} {w : Int} (hg : good w) (h : K (.u64 (msk w x)) H) : wpF P G 38 [.u64 x, .int w] H K := by
  refine wpF_go c38 rfl 2 ?_
  intro ha hb
  simp only [s38]
  clear ha hb
  obtain ⟨h1, h2⟩ := id hg
  have hmsk : msk w x = rcut w.toNat x := and_mask hg x
  rw [hmsk] at h
  by_cases h64 : 64 ≤ w
  · have e : (64 ≤ w) = True := eq_true h64
    have : w.toNat = 64 := by omega
    rw [this] at h
    have e2 : rcut 64 x = x := by
      unfold rcut
      rw [Nat.mod_eq_of_lt x.isLt, BitVec.ofNat_toNat, BitVec.setWidth_eq]
    rw [e2] at h
    (refine gw1 @e ?_; try exact True.intro)
    exact h
  · have e : (64 ≤ w) = False := eq_false h64
    have hw : ((w.toNat : Nat) : Int) = w := by omega
    have hs : (BitVec.ofInt 64 w).toNat = w.toNat := by rw [← hw, ofInt_nat (by omega)]; omega
    have hp : (1 : BitVec 64) <<< w.toNat = BitVec.ofNat 64 (2 ^ w.toNat) := by
      apply BitVec.eq_of_toNat_eq
      rw [BitVec.toNat_shiftLeft, Nat.shiftLeft_eq, BitVec.toNat_ofNat]
      show 1 * 2 ^ w.toNat % 2 ^ 64 = _
      rw [Nat.one_mul]
    have hlt : 2 ^ w.toNat < 2 ^ 64 := Nat.pow_lt_pow_right (by decide) (by omega)
    have hpt : ((1 : BitVec 64) <<< w.toNat).toNat = 2 ^ w.toNat := by rw [hp, BitVec.toNat_ofNat, Nat.mod_eq_of_lt hlt]
    have hne : ((1 : BitVec 64) <<< w.toNat = 0) = False := by
      simp only [eq_iff_iff, iff_false]
      intro hc
      rw [hc] at hpt
      have : 0 < 2 ^ w.toNat := Nat.pow_pos (by decide)
      simp at hpt
      omega
    have hr : x % ((1 : BitVec 64) <<< w.toNat) = rcut w.toNat x := by
      apply BitVec.eq_of_toNat_eq
      rw [BitVec.toNat_umod, hpt]
      unfold rcut
      rw [BitVec.toNat_ofNat, Nat.mod_eq_of_lt (Nat.lt_of_le_of_lt (Nat.mod_le _ _) x.isLt)]
    (refine gw4 @e @hs @hne @hr ?_; try exact True.intro)
    (repeat (refine And.intro (by omega) ?_))
    exact h
def I37n (ks : List (BitVec 8)) (W n : Nat) (H : Heap) (k : Nat) (st : St) : Prop :=
  ∃ (i : Nat) (u8 u14 : AV) (J : Heap), st = ⟨[.agg (ks.map .u8), .int W, .int n, .ptr H.length 0 [0] (.arr 32 .leaf), .nils, .int 0, .own (H.length + 2) 0 [] 0 n .leaf, .int 0, u8, .bool false, .bool false, .bool false, .int n, .int i, u14],
    H ++ kbx ks :: kbx ks :: uB 0 n (rL (fun j => if j < i then nuF ks W j else wdg ks 1 j) n) :: J⟩ ∧ k = n - i ∧ i ≤ n
theorem maskV_shr {w : Int} (hg : good w) : maskV w = 18446744073709551615#64 >>> (64 - w.toNat) := if_pos hg
theorem rL_set {F : Nat → BitVec 64} {n i : Nat} {x : BitVec 64} : (rL F n).set i (.u64 x) = rL (fun j => if j = i then x else F j) n := by
  unfold rL
  rw [rng_set]
  refine List.map_congr_left fun k _ => ?_
  show (if k = i then AV.u64 x else AV.u64 (F k)) = AV.u64 (if k = i then x else F k)
  by_cases h : k = i
  · rw [if_pos h, if_pos h]
  · rw [if_neg h, if_neg h]
theorem rL_at {F : Nat → BitVec 64} {n i : Nat} (h : i < n) : (rL F n)[i]? = some (.u64 (F i)) := by
  unfold rL; rw [List.getElem?_map, List.getElem?_range h]; rfl
theorem f22 {K : AV → Heap → Prop} {H : Heap} {ks : List (BitVec 8)} {W n : Nat} (hk : ks.length = 32) (hg : good (W : Int)) (hn : n ≤ 36) (h : K (.tup [.ro .leaf (rL (nuF ks W) n), .int 0]) H) : wpF P G 22 [.agg (ks.map .u8), .int W, .int n] H K := by
  refine wpF_go c22 rfl 4 ?_
  intro ha hb
  simp only [s22]
  clear ha hb
  obtain ⟨h1, h2⟩ := id hg
  have e1 : ((W : Int) < 1) = False := by simp only [eq_iff_iff, iff_false]; omega
  have e2 : ((64 : Int) < (W : Int)) = False := by simp only [eq_iff_iff, iff_false]; omega
  have e3 : ((n : Int) < 0) = False := by simp only [eq_iff_iff, iff_false]; omega
  have e4 : ((36 : Int) < (n : Int)) = False := by simp only [eq_iff_iff, iff_false]; omega
  (refine gw5 @hk @e1 @e2 @e3 @e4 ?_; try exact True.intro)
  refine f36k (a := 0) hk (by omega) (by omega) ?_
  unfold kbx uB
  have ea : H.length + 1 + 1 = H.length + 2 := rfl
  (refine gw1 @ea ?_; try exact True.intro)
  have hz : rL (fun j => if j < 0 then nuF ks W j else wdg ks 1 j) n = rL (fun i => wdg ks 1 i) n := rL_congr fun j _ => if_neg (Nat.not_lt_zero j)
  refine wp_inv (I37n ks W n H) n ⟨0, _, _, [], by rw [hz]; rfl, rfl, Nat.zero_le _⟩ ?_
  rintro k st ⟨i, u8, u14, J, rfl, rfl, hi⟩
  unfold kbx uB
  by_cases hil : i < n
  · have h3 : ((i : Int) < (n : Int)) = True := by simp only [eq_iff_iff, iff_true]; omega
    have hat := rL_at (F := fun j => if j < i then nuF ks W j else wdg ks 1 j) hil
    simp only [Nat.lt_irrefl, if_false] at hat
    have hsh : (BitVec.ofInt 64 (64 - (W : Int))).toNat = 64 - W := by
      rw [show 64 - (W : Int) = ((64 - W : Nat) : Int) by omega]; exact ofInt_nat (by omega)
    have hmv : wdg ks 1 i &&& ((18446744073709551615 : BitVec 64) >>> (64 - W)) = nuF ks W i := by
      unfold nuF msk
      rw [maskV_shr hg, Int.toNat_natCast]
      rfl
    have hst : rL (fun j => if j = i then nuF ks W i else if j < i then nuF ks W j else wdg ks 1 j) n = rL (fun j => if j < i + 1 then nuF ks W j else wdg ks 1 j) n := rL_congr fun j _ => by
      by_cases hj : j = i
      · rw [if_pos hj, if_pos (by omega), hj]
      · rw [if_neg hj]
        by_cases hj2 : j < i
        · rw [if_pos hj2, if_pos (by omega)]
        · rw [if_neg hj2, if_neg (by omega)]
    have hset := rL_set (F := fun j => if j < i then nuF ks W j else wdg ks 1 j) (n := n) (i := i) (x := nuF ks W i)
    rw [hst] at hset
    have hlen : (rL (fun j => if j < i then nuF ks W j else wdg ks 1 j) n).length = n := rL_len
    generalize rL (fun j => if j < i then nuF ks W j else wdg ks 1 j) n = L at *
    (refine gw5 @h3 @hat @hsh @hmv @hset ?_; try exact True.intro)
    (repeat (refine And.intro (by omega) ?_))
    exact ⟨n - (i + 1), by omega, i + 1, _, _, _, rfl, rfl, by omega⟩
  · have h3 : ((i : Int) < (n : Int)) = False := by simp only [eq_iff_iff, iff_false]; omega
    have hie : i = n := by omega
    have hc : rL (fun j => if j < i then nuF ks W j else wdg ks 1 j) n = rL (nuF ks W) n := rL_congr fun j hj => if_pos (by omega)
    rw [hc]
    have ht1 := take_rL (F := nuF ks W) (t := n)
    have hm1 := @mapO_rL
    (refine gw3 @h3 @ht1 @hm1 ?_; try exact True.intro)
    exact h

theorem f22e {K : AV → Heap → Prop} {H : Heap} {ks : List (BitVec 8)} {w n : Int} (hk : ks.length = 32) (hb : (w < 1 ∨ 64 < w) ∨ (n < 0 ∨ 36 < n)) (h : K (.tup [.nils, .int (if w < 1 ∨ 64 < w then 11 else 2)]) H) : wpF P G 22 [.agg (ks.map .u8), .int w, .int n] H K := by
  refine wpF_go c22 rfl 4 ?_
  intro ha hb'
  simp only [s22]
  clear ha hb'
  by_cases h1 : w < 1
  · rw [if_pos (.inl h1)] at h
    (refine gw2 @hk @h1 ?_; try exact True.intro)
    exact h
  by_cases h2 : 64 < w
  · rw [if_pos (.inr h2)] at h
    (refine gw3 @hk @h1 @h2 ?_; try exact True.intro)
    exact h
  rw [if_neg (by omega)] at h
  by_cases h3 : n < 0
  · (refine gw4 @hk @h1 @h2 @h3 ?_; try exact True.intro)
    exact h
  · have h4 : 36 < n := by omega
    (refine gw5 @hk @h1 @h2 @h3 @h4 ?_; try exact True.intro)
    exact h
def I42n (ks : List (BitVec 8)) (W n : Nat) (H : Heap) (g : Option Blk) (k : Nat) (st : St) : Prop :=
  ∃ (i : Nat) (u10 : AV) (J : Heap), st = ⟨[.agg (ks.map .u8), .int W, .int n, .ptr H.length 0 [0] (.arr 32 .leaf), .nils, .int 0, .own (H.length + 3) n [] 0 n .leaf, .int i, .bool false, .bool false, u10],
    H ++ kbx ks :: kbx ks :: g :: uB n n (rL (fun j => if j < i then nuF ks W j else wdg ks 1 j) n) :: J⟩ ∧ k = n - i ∧ i ≤ n
theorem f23k {K : AV → Heap → Prop} {H : Heap} {ks : List (BitVec 8)} {W n : Nat} (hk : ks.length = 32) (hg : good (W : Int)) (hn : n ≤ 36) (hn0 : 0 < n) (h : ∀ g J, K (.tup [.own (H.length + 3) n [] 0 n .leaf, .int 0]) (H ++ kbx ks :: kbx ks :: g :: uB n n (rL (nuF ks W) n) :: J)) : wpF P G 23 [.agg (ks.map .u8), .int W, .int n] H K := by
  refine wpF_goK c23 rfl ?_
  intro ha hb
  simp only [s23]
  clear ha hb
  obtain ⟨h1, h2⟩ := id hg
  have e1 : ((W : Int) < 1) = False := by simp only [eq_iff_iff, iff_false]; omega
  have e2 : ((64 : Int) < (W : Int)) = False := by simp only [eq_iff_iff, iff_false]; omega
  have e3 : ((n : Int) < 0) = False := by simp only [eq_iff_iff, iff_false]; omega
  have e4 : ((36 : Int) < (n : Int)) = False := by simp only [eq_iff_iff, iff_false]; omega
  (refine gw8 @hk @e1 @e2 @e3 @e4 @Kall_n @Kall_r @Ka2_s ?_; try exact True.intro)
  refine f37k (a := 0) hk (by omega) (by omega) (by omega) ?_
  intro _ g J
  unfold kbx uB
  have ea : H.length + 1 + 2 = H.length + 3 := rfl
  (refine gw4 @ea @Kall_n @Kall_r @Ka2_s ?_; try exact True.intro)
  have hz : rL (fun j => if j < 0 then nuF ks W j else wdg ks 1 j) n = rL (fun i => wdg ks 1 i) n := rL_congr fun j _ => if_neg (Nat.not_lt_zero j)
  refine wp_inv (I42n ks W n H g) n ⟨0, _, J, by rw [hz]; rfl, rfl, Nat.zero_le _⟩ ?_
  clear J
  rintro k st ⟨i, u10, J, rfl, rfl, hi⟩
  unfold kbx uB
  have hlen : (rL (fun j => if j < i then nuF ks W j else wdg ks 1 j) n).length = n := rL_len
  by_cases hil : i < n
  · have h3 : ((i : Int) < (n : Int)) = True := by simp only [eq_iff_iff, iff_true]; omega
    have hat := rL_at (F := fun j => if j < i then nuF ks W j else wdg ks 1 j) hil
    simp only [Nat.lt_irrefl, if_false] at hat
    have hst : rL (fun j => if j = i then nuF ks W i else if j < i then nuF ks W j else wdg ks 1 j) n = rL (fun j => if j < i + 1 then nuF ks W j else wdg ks 1 j) n := rL_congr fun j _ => by
      by_cases hj : j = i
      · rw [if_pos hj, if_pos (by omega), hj]
      · rw [if_neg hj]
        by_cases hj2 : j < i
        · rw [if_pos hj2, if_pos (by omega)]
        · rw [if_neg hj2, if_neg (by omega)]
    have hset := rL_set (F := fun j => if j < i then nuF ks W j else wdg ks 1 j) (n := n) (i := i) (x := nuF ks W i)
    rw [hst] at hset
    generalize rL (fun j => if j < i then nuF ks W j else wdg ks 1 j) n = L at *
    have hnu : msk W (wdg ks 1 i) = nuF ks W i := rfl
    (refine gw5 @h3 @hat @Kall_n @Kall_r @Ka2_s ?_; try exact True.intro)
    refine f38 hg ?_
    rw [hnu]
    (refine gw5 @hat @hset @Kall_n @Kall_r @Ka2_s ?_; try exact True.intro)
    (repeat (refine And.intro (by omega) ?_))
    exact ⟨n - (i + 1), by omega, i + 1, _, _, rfl, rfl, by omega⟩
  · have h3 : ((i : Int) < (n : Int)) = False := by simp only [eq_iff_iff, iff_false]; omega
    have hc : rL (fun j => if j < i then nuF ks W j else wdg ks 1 j) n = rL (nuF ks W) n := rL_congr fun j hj => if_pos (by omega)
    rw [hc]
    have hlen2 : (rL (nuF ks W) n).length = n := rL_len
    (refine gw4 @h3 @Kall_n @Kall_r @Ka2_s ?_; try exact True.intro)
    exact h g J

theorem f23z {K : AV → Heap → Prop} {H : Heap} {ks : List (BitVec 8)} {W : Nat} (hk : ks.length = 32) (hg : good (W : Int)) (h : K (.tup [.nils, .int 0]) H) : wpF P G 23 [.agg (ks.map .u8), .int W, .int 0] H K := by
  refine wpF_go c23 rfl 4 ?_
  intro ha hb
  simp only [s23]
  clear ha hb
  obtain ⟨h1, h2⟩ := id hg
  have e1 : ((W : Int) < 1) = False := by simp only [eq_iff_iff, iff_false]; omega
  have e2 : ((64 : Int) < (W : Int)) = False := by simp only [eq_iff_iff, iff_false]; omega
  (refine gw3 @hk @e1 @e2 ?_; try exact True.intro)
  refine f37k (a := 0) (n := 0) hk (by omega) (by omega) (fun _ => ?_) (fun h => absurd h (Nat.not_lt_zero _))
  unfold kbx
  (refine gw0 ?_; try exact True.intro)
  refine wp_unroll 1 ?_
  (refine gw0 ?_; try exact True.intro)
  exact h
/-- a list of numbers as the reference has it -/
theorem f23 {K : AV → Heap → Prop} {H : Heap} {ks : List (BitVec 8)} {W n : Nat} (hk : ks.length = 32) (hg : good (W : Int)) (hn : n ≤ 36) (h : K (.tup [luL (nuF ks W) n, .int 0]) H) : wpF P G 23 [.agg (ks.map .u8), .int W, .int n] H K := by
  unfold luL at h
  by_cases h0 : n = 0
  · rw [if_pos h0] at h
    subst h0
    exact f23z hk hg h
  · rw [if_neg h0] at h
    refine wpF_pure 3 (f23k hk hg hn (by omega) fun g J => ⟨_, ?_, List.take_left, h⟩)
    unfold kbx uB
    have ht1 := take_rL (F := nuF ks W) (t := n)
    have hm1 := @mapO_rL
    (refine gw2 @ht1 @hm1 ?_; try exact True.intro)
theorem f23e {K : AV → Heap → Prop} {H : Heap} {ks : List (BitVec 8)} {w n : Int} (hk : ks.length = 32) (hb : (w < 1 ∨ 64 < w) ∨ (n < 0 ∨ 36 < n)) (h : K (.tup [.nils, .int (if w < 1 ∨ 64 < w then 11 else 2)]) H) : wpF P G 23 [.agg (ks.map .u8), .int w, .int n] H K := by
  refine wpF_go c23 rfl 4 ?_
  intro ha hb'
  simp only [s23]
  clear ha hb'
  by_cases h1 : w < 1
  · rw [if_pos (.inl h1)] at h
    (refine gw2 @hk @h1 ?_; try exact True.intro)
    exact h
  by_cases h2 : 64 < w
  · rw [if_pos (.inr h2)] at h
    (refine gw3 @hk @h1 @h2 ?_; try exact True.intro)
    exact h
  rw [if_neg (by omega)] at h
  by_cases h3 : n < 0
  · (refine gw4 @hk @h1 @h2 @h3 ?_; try exact True.intro)
    exact h
  · have h4 : 36 < n := by omega
    (refine gw5 @hk @h1 @h2 @h3 @h4 ?_; try exact True.intro)
    exact h
end Go.Proofs.YtjilenmngokhpaaDoor

end

section
/-
  Layer 18 (rot): the law RotNumbers, walked.
-/
open Go Go.V
namespace Go.Proofs.YtjilenmngokhpaaDoor
/-- trefoil/rot.Coins (0:seeds, 2:, 3:, 4:l, 6:s, 10:, 11:, 12:, 13:) -/
def s20 : FnS := ⟨28, [0, 2, 3, 4, 6, 10, 11, 12, 13],
    (.seq (.reg [⟨.var 1, (.e (.alloc 42 (.st [.leaf, .leaf]) (.agg [(.int 0), .nils]))), [], none⟩,
      ⟨.var 2, (.q .mv), [.c (.int 0)], none⟩])
    (.seq (.reg [⟨.new, (.q .mv), [.t 0], none⟩,
      ⟨.new, (.q .len), [.t 9], none⟩,
      ⟨.new, (.e (.mksl 4 .leaf 1 (.bool false))), [.c (.int 0), .t 10], none⟩,
      ⟨.var 3, (.q .mv), [.t 11], none⟩])
    (.seq (.seq (.reg [⟨.var 5, (.q .mv), [.t 0], none⟩,
      ⟨.var 6, (.q .len), [.t 5], none⟩,
      ⟨.var 7, (.q .mv), [.c (.int 0)], none⟩])
    (.block 0 (.loop (.seq (.reg [⟨.var 8, (.q (.bin .lss)), [.t 7, .t 6], none⟩])
    (.seq (.cond (.t 8) .skip
    (.exit 0))
    (.seq (.block 1 (.seq (.reg [⟨.new, (.q (.iaS (.arr 32 .leaf))), [.t 5, .t 7], none⟩,
      ⟨.new, (.q (.ld (.arr 32 .leaf))), [.t 9], none⟩,
      ⟨.var 4, (.e (.alloc 28 (.arr 32 .leaf) (.agg [(.u8 0), (.u8 0), (.u8 0), (.u8 0), (.u8 0), (.u8 0), (.u8 0), (.u8 0), (.u8 0), (.u8 0), (.u8 0), (.u8 0), (.u8 0), (.u8 0), (.u8 0), (.u8 0), (.u8 0), (.u8 0), (.u8 0), (.u8 0), (.u8 0), (.u8 0), (.u8 0), (.u8 0), (.u8 0), (.u8 0), (.u8 0), (.u8 0), (.u8 0), (.u8 0), (.u8 0), (.u8 0)]))), [], none⟩,
      ⟨.none, (.e (.store (.arr 32 .leaf))), [.t 4, .t 10], none⟩])
    (.reg [⟨.new, (.q .mv), [.t 3], none⟩,
      ⟨.new, (.q (.iaA 32 .leaf)), [.t 4, .c (.int 0)], none⟩,
      ⟨.new, (.q (.ld .leaf)), [.t 10], none⟩,
      ⟨.new, (.q (.bin .and)), [.t 11, .c (.u8 1)], none⟩,
      ⟨.new, (.q (.bin .eql)), [.t 12, .c (.u8 1)], none⟩,
      ⟨.new, (.e (.bsl 4 .leaf (.bool false) 1 [0])), [.t 13], none⟩,
      ⟨.new, (.e (.app 4 .leaf 1)), [.t 9, .t 14], none⟩,
      ⟨.var 3, (.q .mv), [.t 15], none⟩])))
    (.reg [⟨.new, (.q (.bin .add)), [.t 7, .c (.int 1)], none⟩,
      ⟨.var 7, (.q .mv), [.t 9], none⟩])))))))
    (.seq (.reg [⟨.new, (.q .mv), [.t 3], none⟩,
      ⟨.new, (.call 16), [.t 9], none⟩,
      ⟨.new, (.q (.ext 0)), [.t 10], none⟩,
      ⟨.new, (.q (.ext 1)), [.t 10], none⟩,
      ⟨.none, (.e (.store (.st [.leaf, .leaf]))), [.t 1, .t 11], none⟩,
      ⟨.var 2, (.q .mv), [.t 12], none⟩])
    .ret)))),
    [.cell 1 (.st [.leaf, .leaf]), .t 2]⟩

/-- trefoil/trefoillaw18.RotNumbers (0:l, 1:width, 2:n, 6:, 7:v, 8:g, 9:i, 10:a, 11:e, 12:b, 13:f, 16:, 31:, 35:, 79:) -/
def s5 : FnS := ⟨81, [0, 1, 2, 6, 7, 8, 9, 10, 11, 12, 13, 16, 31, 35, 79],
    (.seq (.reg [⟨.var 3, (.q .mv), [.c (.bool false)], none⟩])
    (.seq (.seq (.reg [⟨.new, (.q .mv), [.t 0], none⟩,
      ⟨.new, (.q .len), [.t 15], none⟩,
      ⟨.var 11, (.q (.bin .gtr)), [.t 16, .c (.int 20)], none⟩])
    (.cond (.t 11) (.seq (.reg [⟨.new, (.call 7), [], none⟩,
      ⟨.var 3, (.q .mv), [.t 15], none⟩])
    .ret)
    .skip))
    (.seq (.reg [⟨.new, (.q .mv), [.t 0], none⟩,
      ⟨.new, (.call 20), [.t 15], none⟩,
      ⟨.new, (.q .mv), [.t 16], none⟩,
      ⟨.new, (.q (.ext 0)), [.t 17], none⟩,
      ⟨.new, (.q (.ext 1)), [.t 17], none⟩,
      ⟨.var 4, (.e (.alloc 42 (.st [.leaf, .leaf]) (.agg [(.int 0), .nils]))), [], none⟩,
      ⟨.none, (.e (.store (.st [.leaf, .leaf]))), [.t 4, .t 18], none⟩,
      ⟨.var 5, (.q .mv), [.t 19], none⟩])
    (.seq (.seq (.reg [⟨.new, (.q .mv), [.t 5], none⟩,
      ⟨.new, (.q (.bin .neq)), [.t 15, .c (.int 0)], none⟩,
      ⟨.new, (.q .mv), [.t 16], none⟩,
      ⟨.new, (.q (.ld (.st [.leaf, .leaf]))), [.t 4], (some (17, false))⟩,
      ⟨.new, (.call 21), [.t 18], (some (17, false))⟩,
      ⟨.new, (.q .mv), [.t 0], (some (17, false))⟩,
      ⟨.new, (.q .len), [.t 20], (some (17, false))⟩,
      ⟨.new, (.q (.bin .neq)), [.t 19, .t 21], (some (17, false))⟩,
      ⟨.var 12, (.q .pick), [.t 17, .c (.bool true), .t 22], none⟩])
    (.cond (.t 12) (.seq (.reg [⟨.var 3, (.q .mv), [.c (.bool false)], none⟩])
    .ret)
    .skip))
    (.seq (.seq (.reg [⟨.var 6, (.q .mv), [.c (.int 0)], none⟩])
    (.block 0 (.loop (.seq (.seq (.reg [⟨.new, (.q .mv), [.t 6], none⟩,
      ⟨.new, (.q .mv), [.t 0], none⟩,
      ⟨.new, (.q .len), [.t 16], none⟩,
      ⟨.var 13, (.q (.bin .lss)), [.t 15, .t 17], none⟩])
    (.cond (.t 13) .skip
    (.exit 0)))
    (.seq (.block 1 (.seq (.reg [⟨.new, (.q .mv), [.t 0], none⟩,
      ⟨.new, (.q .mv), [.t 6], none⟩,
      ⟨.new, (.q (.iaS (.arr 32 .leaf))), [.t 15, .t 16], none⟩,
      ⟨.new, (.q (.ld (.arr 32 .leaf))), [.t 17], none⟩,
      ⟨.new, (.q .mv), [.t 1], none⟩,
      ⟨.new, (.q .mv), [.t 2], none⟩,
      ⟨.new, (.call 22), [.t 18, .t 19, .t 20], none⟩,
      ⟨.new, (.q .mv), [.t 21], none⟩,
      ⟨.new, (.q (.ext 0)), [.t 22], none⟩,
      ⟨.new, (.q (.ext 1)), [.t 22], none⟩,
      ⟨.var 7, (.q .mv), [.t 23], none⟩,
      ⟨.var 8, (.q .mv), [.t 24], none⟩])
    (.seq (.reg [⟨.new, (.q .mv), [.t 0], none⟩,
      ⟨.new, (.q .mv), [.t 6], none⟩,
      ⟨.new, (.q (.iaS (.arr 32 .leaf))), [.t 15, .t 16], none⟩,
      ⟨.new, (.q (.ld (.arr 32 .leaf))), [.t 17], none⟩,
      ⟨.new, (.q .mv), [.t 1], none⟩,
      ⟨.new, (.q .mv), [.t 2], none⟩,
      ⟨.new, (.call 23), [.t 18, .t 19, .t 20], none⟩,
      ⟨.new, (.q .mv), [.t 21], none⟩,
      ⟨.new, (.q (.ext 0)), [.t 22], none⟩,
      ⟨.new, (.q (.ext 1)), [.t 22], none⟩,
      ⟨.var 9, (.q .mv), [.t 23], none⟩,
      ⟨.var 10, (.q .mv), [.t 24], none⟩])
    (.seq (.draw [⟨.new, (.q .mv), [.t 7], none⟩,
      ⟨.new, (.q .mv), [.t 9], none⟩,
      ⟨.new, (.call 24), [.t 15, .t 16], none⟩,
      ⟨.new, (.q (.un .not)), [.t 17], none⟩,
      ⟨.new, (.q .mv), [.t 18], none⟩,
      ⟨.new, (.q .mv), [.t 8], (some (19, false))⟩,
      ⟨.new, (.q .mv), [.t 10], (some (19, false))⟩,
      ⟨.new, (.q (.bin .neq)), [.t 20, .t 21], (some (19, false))⟩,
      ⟨.new, (.q .pick), [.t 19, .c (.bool true), .t 22], none⟩,
      ⟨.new, (.q .mv), [.t 23], none⟩,
      ⟨.new, (.q (.ld (.st [.leaf, .leaf]))), [.t 4], (some (24, false))⟩,
      ⟨.new, (.q .mv), [.t 6], (some (24, false))⟩,
      ⟨.new, (.call 25), [.t 25, .t 26], (some (24, false))⟩,
      ⟨.new, (.q .mv), [.t 0], (some (24, false))⟩,
      ⟨.new, (.q .mv), [.t 6], (some (24, false))⟩,
      ⟨.new, (.q (.iaS (.arr 32 .leaf))), [.t 28, .t 29], (some (24, false))⟩,
      ⟨.new, (.q (.iaA 32 .leaf)), [.t 30, .c (.int 0)], (some (24, false))⟩,
      ⟨.new, (.q (.ld .leaf)), [.t 31], (some (24, false))⟩,
      ⟨.new, (.q (.bin .rem)), [.t 32, .c (.u8 2)], (some (24, false))⟩,
      ⟨.new, (.q (.bin .eql)), [.t 33, .c (.u8 1)], (some (24, false))⟩,
      ⟨.new, (.q (.eqB true)), [.t 27, .t 34], (some (24, false))⟩,
      ⟨.var 14, (.q .pick), [.t 24, .c (.bool true), .t 35], none⟩])
    (.cond (.t 14) (.seq (.reg [⟨.var 3, (.q .mv), [.c (.bool false)], none⟩])
    .ret)
    .skip)))))
    (.reg [⟨.new, (.q .mv), [.t 6], none⟩,
      ⟨.new, (.q (.bin .add)), [.t 15, .c (.int 1)], none⟩,
      ⟨.var 6, (.q .mv), [.t 16], none⟩]))))))
    (.seq (.reg [⟨.new, (.call 7), [], none⟩,
      ⟨.var 3, (.q .mv), [.t 15], none⟩])
    .ret)))))),
    [.t 3]⟩

set_option maxRecDepth 100000
set_option linter.unusedSimpArgs false
set_option linter.unusedVariables false
theorem c20 : cF P G (drP P G) 20 1 s20.vm = some s20 := by kernel_rfl
theorem c5 : cF P G (drP P G) 5 3 s5.vm = some s5 := by kernel_rfl
/-- a seed's bit -/
def cb (s : List (BitVec 8)) : Bool := decide (s.getD 0 0 &&& 1 = 1)
def cn (ss : List (List (BitVec 8))) : List Bool := ss.map cb
theorem cn_len {ss : List (List (BitVec 8))} : (cn ss).length = ss.length := by simp [cn]
theorem cn_at {ss : List (List (BitVec 8))} {i : Nat} (h : i < ss.length) : bfn (cn ss) i = cb (ss.getD i []) := by
  unfold bfn cn
  rw [List.getD_eq_getElem?_getD, List.getElem?_map, List.getD_eq_getElem?_getD, List.getElem?_eq_getElem h]; rfl
theorem g8 {s : List (BitVec 8)} (h : s.length = 32) : (s.map AV.u8)[0]? = some (.u8 (s.getD 0 0)) := by
  rw [List.getElem?_map, List.getD_eq_getElem?_getD, List.getElem?_eq_getElem (by omega)]; rfl
theorem cn_next {ss : List (List (BitVec 8))} {i : Nat} (h : i < ss.length) : (cn (ss.take i)).map AV.bool ++ [.bool (cb (ss.getD i []))] = (cn (ss.take (i + 1))).map .bool := by
  unfold cn
  rw [List.take_add_one, List.getD_eq_getElem?_getD, List.getElem?_eq_getElem h, List.map_append, List.map_append]
  rfl
def boC (v n : Nat) (l : List AV) : Option Blk := some ⟨4, v, true, .arr n .leaf, .agg l⟩
def X42 : Option Blk := some ⟨42, 0, false, .arr 1 (.st [.leaf, .leaf]), .agg [.agg [.int 0, .nils]]⟩
def I20 (ss : List (List (BitVec 8))) (H : Heap) (k : Nat) (st : St) : Prop :=
  ∃ (i v : Nat) (u4 u8 : AV) (J : Heap), st = ⟨[.ro (.arr 32 .leaf) (ss.map sdA), .ptr H.length 0 [0] (.st [.leaf, .leaf]), .int 0, .own (H.length + 1) v [] 0 i .leaf, u4, .ro (.arr 32 .leaf) (ss.map sdA), .int ss.length, .int i, u8], H ++ X42 :: boC v i ((cn (ss.take i)).map .bool) :: J⟩ ∧ k = ss.length - i ∧ i ≤ ss.length
theorem f20 {K : AV → Heap → Prop} {H : Heap} {ss : List (List (BitVec 8))} (hn : ss.length ≤ 1000) (hsk : ∀ s ∈ ss, s.length = 32) (h : K (.tup [vec ss.length (bfn (cn ss)), .int 0]) H) : wpF P G 20 [.ro (.arr 32 .leaf) (ss.map sdA)] H K := by
  refine wpF_go c20 rfl 4 ?_
  intro ha hb
  simp only [s20]
  clear ha hb
  have ls : (ss.map sdA).length = ss.length := by simp
  (refine gw1 @ls ?_; try exact True.intro)
  (repeat (refine And.intro (by omega) ?_))
  refine wp_inv (I20 ss H) ss.length ⟨0, 0, _, _, [], rfl, rfl, Nat.zero_le _⟩ ?_
  rintro k st ⟨i, v, u4, u8, J, rfl, rfl, hi⟩
  unfold X42 boC
  by_cases hil : i < ss.length
  · have e1 : ((i : Int) < (ss.length : Int)) = True := by simp only [eq_iff_iff, iff_true]; omega
    have gs := ld_sd hil
    have hl := sd_ok hsk hil
    have h8 := g8 hl
    have hnx := cn_next hil
    have hcl : ((cn (ss.take i)).map AV.bool).length = i := by simp [cn]; omega
    unfold cb at hnx
    (refine gw7 @e1 @ls @gs @hl @h8 @hcl @hnx ?_; try exact True.intro)
    (repeat (refine And.intro (by omega) ?_))
    exact ⟨ss.length - (i + 1), by omega, i + 1, _, _, _, _, rfl, rfl, by omega⟩
  · have e1 : ((i : Int) < (ss.length : Int)) = False := by simp only [eq_iff_iff, iff_false]; omega
    have hie : i = ss.length := by omega
    subst hie
    rw [List.take_of_length_le (Nat.le_refl _)]
    have ht1 : List.take ss.length ((cn ss).map AV.bool) = (cn ss).map AV.bool := List.take_of_length_le (by simp [cn])
    (refine gw2 @e1 @ls ?_; try exact True.intro)
    refine wpF_give1 (H.length + 1) 4 ?_
    (refine gw1 @ht1 ?_; try exact True.intro)
    refine f16 (by rw [cn_len]; omega) ?_
    rw [cn_len]
    have hwb : ∀ {k : Nat}, AV.bnds k (wdA ss.length (bfn (cn ss))) = true := bndA
    simp only [vec]
    (refine gw1 @hwb ?_; try exact True.intro)
    exact h
theorem isL_nil : isL .nils (([] : List (BitVec 64)).map .u64) := .inr ⟨rfl, rfl⟩
theorem odd_b (x : BitVec 8) : (x % 2 = 1) = (x &&& 1 = 1) := by
  have e : x % 2 = x &&& 1 := by
    apply BitVec.eq_of_toNat_eq
    rw [BitVec.toNat_umod, BitVec.toNat_and, show (2 : BitVec 8).toNat = 2 from rfl, show (1 : BitVec 8).toNat = 2 ^ 1 - 1 from rfl, Nat.and_two_pow_sub_one_eq_mod]
  rw [e]
def I5 (ss : List (List (BitVec 8))) (w n : Int) (H : Heap) (k : Nat) (st : St) : Prop :=
  ∃ (i : Nat) (u7 u8 u9 u10 u13 u14 : AV), st = ⟨[.ro (.arr 32 .leaf) (ss.map sdA), .int w, .int n, .bool false, .ptr H.length 0 [0] (.st [.leaf, .leaf]), .int 0, .int i, u7, u8, u9, u10, .bool false, .bool false, u13, u14], H ++ [bxv ss.length (bfn (cn ss))]⟩ ∧ k = ss.length - i ∧ i ≤ ss.length
set_option maxHeartbeats 2000000 in
theorem f5 {K : AV → Heap → Prop} {H : Heap} {ss : List (List (BitVec 8))} {w n : Int} (hsk : ∀ s ∈ ss, s.length = 32) (h : K (.bool true) H) : wpF P G 5 [.ro (.arr 32 .leaf) (ss.map sdA), .int w, .int n] H K := by
  refine wpF_go c5 rfl 4 ?_
  intro ha hb
  simp only [s5]
  clear ha hb
  have ls : (ss.map sdA).length = ss.length := by simp
  by_cases h1 : 20 < ss.length
  · have e1 : ((20 : Int) < (ss.length : Int)) = True := by simp only [eq_iff_iff, iff_true]; omega
    (refine gw2 @ls @e1 ?_; try exact True.intro)
    refine f7 ?_
    (refine gw0 ?_; try exact True.intro)
    exact h
  have e1 : ((20 : Int) < (ss.length : Int)) = False := by simp only [eq_iff_iff, iff_false]; omega
  (refine gw2 @ls @e1 ?_; try exact True.intro)
  refine f20 (by omega) hsk ?_
  simp only [vec]
  (refine gw0 ?_; try exact True.intro)
  refine f21 ?_
  (refine gw1 @ls ?_; try exact True.intro)
  refine wp_inv (I5 ss w n H) ss.length ⟨0, _, _, _, _, _, _, rfl, rfl, Nat.zero_le _⟩ ?_
  rintro k st ⟨i, u7, u8, u9, u10, u13, u14, rfl, rfl, hi⟩
  unfold bxv
  by_cases hil : i < ss.length
  · have e2 : ((i : Int) < (ss.length : Int)) = True := by simp only [eq_iff_iff, iff_true]; omega
    have gs := ld_sd hil
    have hl := sd_ok hsk hil
    have h8 : ((ss.getD i []).map AV.u8).getD 0 .un = .u8 ((ss.getD i []).getD 0 0) := by rw [List.getD_eq_getElem?_getD, g8 hl]; rfl
    have hcb := cn_at hil
    have hcut : cut ss.length (bfn (cn ss)) i = bfn (cn ss) i := by unfold cut; rw [decide_eq_true hil, Bool.true_and]
    rw [hcb] at hcut
    unfold cb at hcut
    have ho := odd_b ((ss.getD i []).getD 0 0)
    have go : ∃ (A B : AV) (xs : List (BitVec 64)) (e : Int), isL A (xs.map .u64) ∧ isL B (xs.map .u64) ∧ (∀ (K : AV → Heap → Prop) (H : Heap), K (.tup [A, .int e]) H → wpF P G 22 [.agg ((ss.getD i []).map .u8), .int w, .int n] H K) ∧ (∀ (K : AV → Heap → Prop) (H : Heap), K (.tup [B, .int e]) H → wpF P G 23 [.agg ((ss.getD i []).map .u8), .int w, .int n] H K) := by
      by_cases hg : (w < 1 ∨ 64 < w) ∨ (n < 0 ∨ 36 < n)
      · exact ⟨.nils, .nils, [], _, isL_nil, isL_nil, fun K H h => f22e hl hg h, fun K H h => f23e hl hg h⟩
      · obtain ⟨W, rfl⟩ := Int.eq_ofNat_of_zero_le (show 0 ≤ w by omega)
        obtain ⟨N, rfl⟩ := Int.eq_ofNat_of_zero_le (show 0 ≤ n by omega)
        refine ⟨.ro .leaf (rL (nuF (ss.getD i []) W) N), luL (nuF (ss.getD i []) W) N, (List.range N).map (nuF (ss.getD i []) W), 0, .inl (by rw [rL_map]), luL_isL, fun K H h => f22 hl (by unfold good; omega) (by omega) h, fun K H h => f23 hl (by unfold good; omega) (by omega) h⟩
    obtain ⟨A, B, xs, e, hA, hB, p22, p23⟩ := go
    (refine gw3 @e2 @ls @gs ?_; try exact True.intro)
    refine p22 _ _ ?_
    (refine gw2 @ls @gs ?_; try exact True.intro)
    (repeat (refine And.intro (by omega) ?_))
    refine p23 _ _ ?_
    (refine gw0 ?_; try exact True.intro)
    refine drawn _ (f24 hA hB ⟨rfl, rfl⟩) ?_
    rw [decide_eq_true rfl]
    (refine gw0 ?_; try exact True.intro)
    refine drawn _ (f25 (n := ss.length) (f := bfn (cn ss)) ⟨rfl, rfl⟩) ?_
    generalize ((ss.getD i []).getD 0 0) = x0 at *
    by_cases hx : x0 &&& 1 = 1
    · rw [decide_eq_true hx] at hcut
      have ho' : (x0 % 2 = 1) = True := by rw [ho]; exact eq_true hx
      (refine gw6 @hcut @gs @hl @ls @h8 @ho' ?_; try exact True.intro)
      refine ⟨by omega, by decide, ?_⟩
      (repeat (refine And.intro (by omega) ?_))
      exact ⟨ss.length - (i + 1), by omega, i + 1, _, _, _, _, _, _, rfl, rfl, by omega⟩
    · rw [decide_eq_false hx] at hcut
      have ho' : (x0 % 2 = 1) = False := by rw [ho]; exact eq_false hx
      (refine gw6 @hcut @gs @hl @ls @h8 @ho' ?_; try exact True.intro)
      refine ⟨by omega, by decide, ?_⟩
      (repeat (refine And.intro (by omega) ?_))
      exact ⟨ss.length - (i + 1), by omega, i + 1, _, _, _, _, _, _, rfl, rfl, by omega⟩
  · have e2 : ((i : Int) < (ss.length : Int)) = False := by simp only [eq_iff_iff, iff_false]; omega
    (refine gw2 @e2 @ls ?_; try exact True.intro)
    refine f7 ?_
    (refine gw0 ?_; try exact True.intro)
    exact h
end Go.Proofs.YtjilenmngokhpaaDoor

end
