import Derived.Test.YtjilenmngokhpaaDoorV6
import Derived.Laws.BitsLemmas
import Derived.Laws.Bits64
import Derived.Laws.BitsAllLaws
/- Numbers: what Go's operations on them come to. -/
namespace Go.V
open Go

/-- an unsigned kind of n bits -/
structure UK (k : IntKind) (n : Nat) : Prop where
  bits : k.bits = n
  wrap : ∀ m : Int, k.wrap m = m % 2 ^ n

theorem uk8 : UK .u8 8 := ⟨rfl, fun m => by rw [IntKind.wrap_u8]; rfl⟩
theorem uk16 : UK .u16 16 := ⟨rfl, fun m => by rw [IntKind.wrap_u16]; rfl⟩
theorem uk32 : UK .u32 32 := ⟨rfl, fun m => by rw [IntKind.wrap_u32]; rfl⟩
theorem uk64 : UK .u64 64 := ⟨rfl, fun m => by rw [IntKind.wrap_u64]; rfl⟩

theorem emod_ofInt {n : Nat} (m : Int) : m % 2 ^ n = ((BitVec.ofInt n m).toNat : Int) := by
  rw [BitVec.toNat_ofInt]
  have h : (0 : Int) ≤ m % ((2 ^ n : Nat) : Int) := Int.emod_nonneg _ (by have := Nat.two_pow_pos n; omega)
  rw [Int.toNat_of_nonneg h]
  simp

section
variable {P : Program} {w : World} {loc : Loc} {N : Nat} {k : IntKind} {n : Nat} {mk : BitVec n → AV}

theorem ofInt_toNat' (x : BitVec n) : BitVec.ofInt n (x.toNat : Int) = x := by
  rw [BitVec.ofInt_natCast]; simp

theorem cmp_run {op : BinOp} {x y : BitVec n} {b : Bool} (h : bvCmp op x y = some b) (t : TypeId) : (binOp op t (.int k x.toNat) (.int k y.toNat)).run P w = .ok (.bool b) w := by
  have e1 : ((x.toNat : Int) == (y.toNat : Int)) = decide (x = y) := by
    rw [Bool.eq_iff_iff]; simp [BitVec.toNat_inj, Int.ofNat_inj]
  have e3 : decide ((x.toNat : Int) < (y.toNat : Int)) = decide (x < y) := by
    rw [Bool.eq_iff_iff]; simp [BitVec.lt_def]
  have e4 : decide ((x.toNat : Int) ≤ (y.toNat : Int)) = decide (x ≤ y) := by
    rw [Bool.eq_iff_iff]; simp [BitVec.le_def]
  have e5 : decide ((y.toNat : Int) < (x.toNat : Int)) = decide (y < x) := by
    rw [Bool.eq_iff_iff]; simp [BitVec.lt_def]
  have e6 : decide ((y.toNat : Int) ≤ (x.toNat : Int)) = decide (y ≤ x) := by
    rw [Bool.eq_iff_iff]; simp [BitVec.le_def]
  have e2 : ((x.toNat : Int) != (y.toNat : Int)) = !decide (x = y) := by
    rw [← e1]; rfl
  cases op <;> simp only [bvCmp, Option.some.injEq, reduceCtorEq] at h <;> subst h <;> simp only [binOp, Op.intCmp, ne_eq, not_true_eq_false, if_false, Sem.run_pure, GT.gt, GE.ge, e1, e2, e3, e4, e5, e6]

theorem op_run (hk : UK k n) {op : BinOp} {x y z : BitVec n} {p : Prop} (h : bvOp op x y = some (p, z)) (hp : p) (t : TypeId) : (binOp op t (.int k x.toNat) (.int k y.toNat)).run P w = .ok (.int k z.toNat) w := by
  obtain ⟨hb, hw⟩ := hk
  subst hb
  have key : ∀ m : Int, k.wrap m = ((BitVec.ofInt k.bits m).toNat : Int) := fun m => by rw [hw, emod_ofInt]
  have toNat_wrap : ∀ z : BitVec k.bits, k.wrap (z.toNat : Int) = (z.toNat : Int) := fun z => by rw [key, ofInt_toNat']
  cases op <;> simp only [bvOp, Option.some.injEq, Prod.mk.injEq, reduceCtorEq] at h <;> obtain ⟨rfl, rfl⟩ := h
  case add =>
    have e : BitVec.ofInt k.bits ((x.toNat : Int) + y.toNat) = x + y := by rw [BitVec.ofInt_add, ofInt_toNat', ofInt_toNat']
    simp only [binOp, Op.intArith, ne_eq, not_true_eq_false, if_false, Sem.run_pure, key, e]
  case sub =>
    have e : BitVec.ofInt k.bits ((x.toNat : Int) - y.toNat) = x - y := by rw [Int.sub_eq_add_neg, BitVec.ofInt_add, BitVec.ofInt_neg, ofInt_toNat', ofInt_toNat', BitVec.sub_eq_add_neg]
    simp only [binOp, Op.intArith, ne_eq, not_true_eq_false, if_false, Sem.run_pure, key, e]
  case mul =>
    have e : BitVec.ofInt k.bits ((x.toNat : Int) * y.toNat) = x * y := by rw [BitVec.ofInt_mul, ofInt_toNat', ofInt_toNat']
    simp only [binOp, Op.intArith, ne_eq, not_true_eq_false, if_false, Sem.run_pure, key, e]
  case quo =>
    have hy : ¬ ((y.toNat : Int) = 0) := fun e => hp (BitVec.eq_of_toNat_eq (by simpa using e))
    have e : BitVec.ofInt k.bits ((x.toNat : Int).tdiv (y.toNat : Int)) = x / y := by
      have : (x.toNat : Int).tdiv (y.toNat : Int) = ((x.toNat / y.toNat : Nat) : Int) := by rw [Int.tdiv_eq_ediv_of_nonneg (by omega)]; simp
      rw [this, BitVec.ofInt_natCast]
      apply BitVec.eq_of_toNat_eq
      simp only [BitVec.toNat_ofNat, BitVec.toNat_udiv]
      exact Nat.mod_eq_of_lt (Nat.lt_of_le_of_lt (Nat.div_le_self _ _) x.isLt)
    simp only [binOp, Op.intDiv, ne_eq, not_true_eq_false, if_false, hy, Sem.run_pure, key, e]
  case rem =>
    have hy : ¬ ((y.toNat : Int) = 0) := fun e => hp (BitVec.eq_of_toNat_eq (by simpa using e))
    have e : (x.toNat : Int).tmod (y.toNat : Int) = ((x % y).toNat : Int) := by
      rw [Int.tmod_eq_emod_of_nonneg (by omega)]
      simp
    simp only [binOp, Op.intDiv, ne_eq, not_true_eq_false, if_false, hy, Sem.run_pure, e]
  all_goals
    simp only [binOp, Op.intBits, ne_eq, not_true_eq_false, if_false, Sem.run_pure, ofInt_toNat', toNat_wrap]

theorem sh_run (hk : UK k n) {op : BinOp} (hop : isSh op = true) {x : BitVec n} {c r : AV} {p : Prop} (hmk : ∀ z : BitVec n, Rep w loc N [.int k z.toNat] (mk z)) (h : bvSh op mk x c = some (p, r)) (hp : p)
    {cv : Value} (hc : Rep w loc N [cv] c) (t : TypeId) : ∃ v, (binOp op t (.int k x.toNat) cv).run P w = .ok v w ∧ Rep w loc N [v] r := by
  obtain ⟨hb, hw⟩ := hk
  subst hb
  have key : ∀ m : Int, k.wrap m = ((BitVec.ofInt k.bits m).toNat : Int) := fun m => by rw [hw, emod_ofInt]
  -- the count
  have hcnt : ∃ p' m kk j, c.cnt = some (p', m) ∧ cv = .int kk j ∧ (p' → 0 ≤ j ∧ j.toNat = m) := by
    unfold bvSh at h
    cases hcc : c.cnt with
    | none => simp [hcc] at h
    | some q =>
      obtain ⟨p', m⟩ := q
      refine ⟨p', m, ?_⟩
      cases c <;> simp only [AV.cnt, Option.some.injEq, Prod.mk.injEq, reduceCtorEq] at hcc
      case u8 y => have := hc.u8_inv; simp at this; subst this; obtain ⟨rfl, rfl⟩ := hcc; exact ⟨.u8, _, rfl, rfl, fun _ => ⟨by omega, by omega⟩⟩
      case u16 y => have := hc.u16_inv; simp at this; subst this; obtain ⟨rfl, rfl⟩ := hcc; exact ⟨.u16, _, rfl, rfl, fun _ => ⟨by omega, by omega⟩⟩
      case u32 y => have := hc.u32_inv; simp at this; subst this; obtain ⟨rfl, rfl⟩ := hcc; exact ⟨.u32, _, rfl, rfl, fun _ => ⟨by omega, by omega⟩⟩
      case u64 y => have := hc.u64_inv; simp at this; subst this; obtain ⟨rfl, rfl⟩ := hcc; exact ⟨.u64, _, rfl, rfl, fun _ => ⟨by omega, by omega⟩⟩
      case int y => have := hc.int_inv.1; simp at this; subst this; obtain ⟨rfl, rfl⟩ := hcc; exact ⟨.i64, _, rfl, rfl, fun h => ⟨h, rfl⟩⟩
  obtain ⟨p', m, kk, j, e1, rfl, hj⟩ := hcnt
  unfold bvSh at h
  rw [e1] at h
  cases op <;> simp only [isSh, Bool.false_eq_true] at hop <;> simp only [Option.some.injEq, Prod.mk.injEq] at h <;> obtain ⟨rfl, rfl⟩ := h
  case shl =>
    obtain ⟨h0, h1⟩ := hj hp
    refine ⟨_, ?_, hmk _⟩
    have e : BitVec.ofInt k.bits ((x.toNat : Int) * 2 ^ min m k.bits) = x <<< m := by
      apply BitVec.eq_of_toNat_eq
      rw [show (x.toNat : Int) * 2 ^ min m k.bits = ((x.toNat * 2 ^ min m k.bits : Nat) : Int) by simp, BitVec.ofInt_natCast, BitVec.toNat_ofNat, BitVec.toNat_shiftLeft, Nat.shiftLeft_eq]
      rcases Nat.le_total m k.bits with hm | hm
      · rw [Nat.min_eq_left hm]
      · rw [Nat.min_eq_right hm, Nat.mul_mod_left]
        obtain ⟨d, rfl⟩ := Nat.le.dest hm
        rw [Nat.pow_add, ← Nat.mul_assoc, Nat.mul_right_comm, Nat.mul_mod_left]
    simp only [binOp, Op.shift, Int.not_lt.2 h0, if_false, Sem.run_pure, key, h1, e]
  case shr =>
    obtain ⟨h0, h1⟩ := hj hp
    refine ⟨_, ?_, hmk _⟩
    have e : (x.toNat : Int).fdiv (2 ^ min m k.bits) = ((x >>> m).toNat : Int) := by
      have h2 : (x.toNat : Int).fdiv (2 ^ min m k.bits) = ((x.toNat / 2 ^ min m k.bits : Nat) : Int) := by
        rw [Int.fdiv_eq_ediv_of_nonneg _ (Int.pow_nonneg (by omega))]; simp
      rw [h2, BitVec.toNat_ushiftRight, Nat.shiftRight_eq_div_pow]
      rcases Nat.le_total m k.bits with hm | hm
      · rw [Nat.min_eq_left hm]
      · rw [Nat.min_eq_right hm, Nat.div_eq_of_lt x.isLt, Nat.div_eq_of_lt (Nat.lt_of_lt_of_le x.isLt (Nat.pow_le_pow_right (by omega) hm))]
    simp only [binOp, Op.shift, Int.not_lt.2 h0, if_false, Sem.run_pure, h1, e]
end

end Go.V
