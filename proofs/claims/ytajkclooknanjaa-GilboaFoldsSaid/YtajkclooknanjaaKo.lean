/-
  Layer 21 (gilboa): GilboaFolds walked.
-/
import Derived.Test.YtajkclooknanjaaKn
import Derived.Test.YtajkclooknanjaaV38
import Derived.Test.YtajkclooknanjaaV44
section
open Go Go.V
namespace Go.Proofs.Ytajkclooknanjaa
set_option maxRecDepth 100000
set_option linter.unusedSimpArgs false
set_option linter.unusedVariables false
theorem msk_add {l : Int} (x y : BitVec 64) : msk l (msk l x + y) = msk l (x + y) := by
  rcases msk_cases l with ⟨hg, h⟩ | ⟨_, h⟩
  · rw [h, h, h, cut_add_cut (by unfold good at hg; omega)]
  · rw [h, h]
theorem msk_add' {l : Int} (x y : BitVec 64) : msk l (x + msk l y) = msk l (x + y) := by rw [BitVec.add_comm, msk_add, BitVec.add_comm]
theorem fsum_eq {l : Int} {g : Nat → BitVec 64} : ∀ {k : Nat}, fsum l g k = msk l (sumF g k)
  | 0 => by
    show (0 : BitVec 64) = msk l 0
    exact BitVec.zero_and.symm
  | k + 1 => by
    show addA l (fsum l g k) (g k) = msk l (sumF g k + g k)
    rw [fsum_eq, ← msk_add]; rfl
theorem sumF_add {g h : Nat → BitVec 64} : ∀ {k : Nat}, sumF g k + sumF h k = sumF (fun q => g q + h q) k
  | 0 => BitVec.add_zero _
  | k + 1 => by
    show (sumF g k + g k) + (sumF h k + h k) = sumF (fun q => g q + h q) k + (g k + h k)
    rw [← sumF_add]
    rw [BitVec.add_assoc, ← BitVec.add_assoc (g k), BitVec.add_comm (g k), BitVec.add_assoc (sumF h k), ← BitVec.add_assoc]
theorem sumF_msk {l : Int} {g h : Nat → BitVec 64} : ∀ {k : Nat}, (∀ q, q < k → msk l (g q) = msk l (h q)) → msk l (sumF g k) = msk l (sumF h k)
  | 0, _ => rfl
  | k + 1, e => by
    show msk l (sumF g k + g k) = msk l (sumF h k + h k)
    rw [← msk_add, ← msk_add', sumF_msk fun q hq => e q (by omega), e k (by omega), msk_add', msk_add]
theorem bitB_iff (x : BitVec 64) (i : Nat) : bitB x i = decide (x.toNat / 2 ^ i % 2 = 1) := by
  unfold bitB
  rw [bit_and1, ← BitVec.testBit_toNat, Nat.testBit_eq_decide_div_mod_eq]
theorem sum_bits {x y : BitVec 64} : ∀ {k : Nat}, k ≤ 64 → sumF (fun q => if bitB x q then y <<< q else 0) k = rcut k x * y
  | 0, _ => by
    show (0 : BitVec 64) = _
    rw [rcut_zero]; exact BitVec.zero_mul.symm
  | k + 1, h => by
    show sumF (fun q => if bitB x q then y <<< q else 0) k + (if bitB x k then y <<< k else 0) = _
    rw [sum_bits (by omega), rcut_succ x (by omega), BitVec.add_mul]
    congr 1
    unfold bitV
    rw [bitB_iff]
    by_cases hb : x.toNat / 2 ^ k % 2 = 1
    · rw [if_pos (decide_eq_true hb), if_pos hb]
      apply BitVec.eq_of_toNat_eq
      simp only [BitVec.toNat_mul, BitVec.toNat_shiftLeft, Nat.shiftLeft_eq]
      rw [Nat.mod_mul_mod, BitVec.toNat_ofNat, Nat.mod_eq_of_lt (by decide : 1 < 2 ^ 64), Nat.one_mul, Nat.mul_comm]
    · rw [if_neg (by simpa using hb), if_neg hb]
      exact BitVec.zero_mul.symm
theorem rnd_W {W : Nat} (hg : good (W : Int)) : rounds (W : Int) = W := by unfold rounds; unfold good at hg; split <;> omega
theorem chL_at {W : Nat} : ∀ {xs : List (BitVec 64)} {i q : Nat}, i < xs.length → q < W → bfn (chL W xs) (i * W + q) = bitB (xs.getD i 0) q
  | [], _, _, h, _ => absurd h (Nat.not_lt_zero _)
  | x :: xs, 0, q, _, hq => by
    unfold bfn chL
    rw [List.flatMap_cons, Nat.zero_mul, Nat.zero_add, List.getD_eq_getElem?_getD, List.getElem?_append_left (by rw [bl_len]; exact hq)]
    unfold bl
    rw [List.getElem?_map, List.getElem?_range hq]; rfl
  | x :: xs, i + 1, q, h, hq => by
    have ih := chL_at (W := W) (xs := xs) (i := i) (q := q) (by simpa using h) hq
    unfold bfn chL at *
    rw [List.flatMap_cons, List.getD_eq_getElem?_getD, List.getElem?_append_right (by rw [bl_len, Nat.succ_mul]; omega), bl_len, show (i + 1) * W + q - W = i * W + q by rw [Nat.succ_mul]; omega, ← List.getD_eq_getElem?_getD, ih]
    rfl
/-- what both shares fold to -/
theorem folds_eq {W N : Nat} (hg : good (W : Int)) {xl yl : List (BitVec 64)} {O Pf : Nat → BitVec 64} {m t : Nat} (hN : 0 < N) (hx : xl.length = m) (ht : t < m * N)
    (hP : ∀ k, k < m * W * N → Pf k = msk W ((if bfn (chL W xl) (k / N) then spF W N yl k else 0) - O k)) :
    addA W (foF W N ((List.range (m * W * N)).map O) W t) (foF W N ((List.range (m * W * N)).map Pf) W t) = msk W (xl.getD (t / N) 0 * yl.getD t 0) := by
  have hi : t / N < m := (Nat.div_lt_iff_lt_mul hN).2 ht
  have hj : t % N < N := Nat.mod_lt _ hN
  have htt : t / N * N + t % N = t := by rw [Nat.mul_comm]; exact Nat.div_add_mod t N
  have hW : 1 ≤ W ∧ W ≤ 64 := by unfold good at hg; omega
  have hk : ∀ q, q < W → (t / N * W + q) * N + t % N < m * W * N := fun q hq => by
    have h1 : t / N * W + q + 1 ≤ m * W := by
      have := Nat.mul_le_mul_right W (show t / N + 1 ≤ m from hi)
      rw [Nat.succ_mul] at this
      omega
    have := Nat.mul_le_mul_right N h1
    rw [Nat.succ_mul] at this
    omega
  unfold addA foF
  rw [fsum_eq, fsum_eq]
  show msk W (msk W _ + msk W _) = _
  rw [msk_add, msk_add', sumF_add]
  have e : msk W (sumF (fun q => ((List.range (m * W * N)).map O).getD ((t / N * W + q) * N + t % N) 0 + ((List.range (m * W * N)).map Pf).getD ((t / N * W + q) * N + t % N) 0) W) = msk W (sumF (fun q => if bitB (xl.getD (t / N) 0) q then yl.getD t 0 <<< q else 0) W) := by
    refine sumF_msk fun q hq => ?_
    have hkk := hk q hq
    rw [getD_rng hkk, getD_rng hkk, hP _ hkk]
    have e1 : ((t / N * W + q) * N + t % N) / N = t / N * W + q := by
      rw [Nat.mul_comm, Nat.mul_add_div hN, Nat.div_eq_of_lt hj, Nat.add_zero]
    rw [e1, chL_at (by omega) hq, spF_at hq hj, htt, msk_add']
    generalize O ((t / N * W + q) * N + t % N) = o
    have : ∀ a b : BitVec 64, a + (b - a) = b := fun a b => by rw [BitVec.add_comm]; exact BitVec.sub_add_cancel b a
    rw [this]
    cases bitB (xl.getD (t / N) 0) q with
    | true =>
      show msk W (msk W _) = _
      rw [show ∀ x, msk W (msk W x) = msk W x from fun x => by have h2 := msk_add (l := W) x 0; rw [show ∀ z : BitVec 64, z + 0 = z from fun z => BitVec.add_zero z, show ∀ z : BitVec 64, z + 0 = z from fun z => BitVec.add_zero z] at h2; exact h2]
      rfl
    | false => rfl
  rw [e, sum_bits hW.2]
  rcases msk_cases (W : Int) with ⟨_, h⟩ | ⟨h, _⟩
  · rw [h, h, Int.toNat_natCast, cut_mul_cut' hW.2]
  · exact absurd hg h
end Go.Proofs.Ytajkclooknanjaa

end

section
/-
  Layer 21 (gilboa): GilboaFolds walked.
-/
open Go Go.V
namespace Go.Proofs.Ytajkclooknanjaa
/-- trefoil/trefoillaw21.GilboaFolds (0:width, 1:n, 2:as, 3:rows, 4:noise, 10:, 11:x, 12:y, 13:i, 14:i, 15:c, 16:e, 17:s, 18:f, 19:one, 20:other, 21:k, 22:mine, 23:want, 24:p, 25:g, 26:q, 27:h, 28:r, 29:i, 30:k, 57:, 62:, 79:, 130:, 134:, 150:, 213:, 217:, 253:) -/
def s5 : FnS := ⟨255, [0, 1, 2, 3, 4, 10, 11, 12, 13, 14, 15, 16, 17, 18, 19, 20, 21, 22, 23, 24, 25, 26, 27, 28, 29, 30, 57, 62, 79, 130, 134, 150, 213, 217, 253],
    (.seq (.reg [⟨.var 5, (.q .mv), [.c (.bool false)], none⟩])
    (.seq (.seq (.reg [⟨.new, (.q .mv), [.t 0], none⟩,
      ⟨.new, (.q .mv), [.t 1], none⟩,
      ⟨.new, (.call 18), [.t 35, .t 36], none⟩,
      ⟨.new, (.q .mv), [.t 37], none⟩,
      ⟨.new, (.q .mv), [.t 2], (some (38, false))⟩,
      ⟨.new, (.q .len), [.t 39], (some (38, false))⟩,
      ⟨.new, (.q (.bin .eql)), [.t 40, .c (.int 0)], (some (38, false))⟩,
      ⟨.new, (.q .pick), [.t 38, .c (.bool true), .t 41], none⟩,
      ⟨.new, (.q .mv), [.t 42], none⟩,
      ⟨.new, (.q .mv), [.t 2], (some (43, false))⟩,
      ⟨.new, (.q .len), [.t 44], (some (43, false))⟩,
      ⟨.new, (.q (.bin .gtr)), [.t 45, .c (.int 8)], (some (43, false))⟩,
      ⟨.new, (.q .pick), [.t 43, .c (.bool true), .t 46], none⟩,
      ⟨.new, (.q .mv), [.t 47], none⟩,
      ⟨.new, (.q .mv), [.t 3], (some (48, false))⟩,
      ⟨.new, (.q .len), [.t 49], (some (48, false))⟩,
      ⟨.new, (.q .mv), [.t 1], (some (48, false))⟩,
      ⟨.new, (.q .mv), [.t 2], (some (48, false))⟩,
      ⟨.new, (.q .len), [.t 52], (some (48, false))⟩,
      ⟨.new, (.q (.bin .mul)), [.t 51, .t 53], (some (48, false))⟩,
      ⟨.new, (.q (.bin .lss)), [.t 50, .t 54], (some (48, false))⟩,
      ⟨.new, (.q .pick), [.t 48, .c (.bool true), .t 55], none⟩,
      ⟨.new, (.q .mv), [.t 56], none⟩,
      ⟨.new, (.q .mv), [.t 4], (some (57, false))⟩,
      ⟨.new, (.q .len), [.t 58], (some (57, false))⟩,
      ⟨.new, (.q (.bin .eql)), [.t 59, .c (.int 0)], (some (57, false))⟩,
      ⟨.var 26, (.q .pick), [.t 57, .c (.bool true), .t 60], none⟩])
    (.cond (.t 26) (.seq (.reg [⟨.new, (.call 6), [], none⟩,
      ⟨.var 5, (.q .mv), [.t 35], none⟩])
    .ret)
    .skip))
    (.seq (.reg [⟨.var 6, (.q .mv), [.c .nils], none⟩,
      ⟨.var 7, (.q .mv), [.c .nils], none⟩])
    (.seq (.seq (.reg [⟨.var 8, (.q .mv), [.c (.int 0)], none⟩])
    (.block 0 (.loop (.seq (.seq (.reg [⟨.new, (.q .mv), [.t 8], none⟩,
      ⟨.new, (.q .mv), [.t 2], none⟩,
      ⟨.new, (.q .len), [.t 36], none⟩,
      ⟨.var 27, (.q (.bin .lss)), [.t 35, .t 37], none⟩])
    (.cond (.t 27) .skip
    (.exit 0)))
    (.seq (.block 1 (.reg [⟨.new, (.q .mv), [.t 6], none⟩,
      ⟨.new, (.q .mv), [.t 0], none⟩,
      ⟨.new, (.q .mv), [.t 2], none⟩,
      ⟨.new, (.q .mv), [.t 8], none⟩,
      ⟨.new, (.q (.iaS .leaf)), [.t 37, .t 38], none⟩,
      ⟨.new, (.q (.ld .leaf)), [.t 39], none⟩,
      ⟨.new, (.call 19), [.t 36, .t 40], none⟩,
      ⟨.new, (.e (.bsl 44 .leaf (.u64 0) 1 [0])), [.t 41], none⟩,
      ⟨.new, (.e (.app 44 .leaf 8)), [.t 35, .t 42], none⟩,
      ⟨.var 6, (.q .mv), [.t 43], none⟩]))
    (.reg [⟨.new, (.q .mv), [.t 8], none⟩,
      ⟨.new, (.q (.bin .add)), [.t 35, .c (.int 1)], none⟩,
      ⟨.var 8, (.q .mv), [.t 36], none⟩]))))))
    (.seq (.seq (.reg [⟨.var 9, (.q .mv), [.c (.int 0)], none⟩])
    (.block 2 (.loop (.seq (.seq (.reg [⟨.new, (.q .mv), [.t 9], none⟩,
      ⟨.new, (.q .mv), [.t 1], none⟩,
      ⟨.new, (.q .mv), [.t 2], none⟩,
      ⟨.new, (.q .len), [.t 37], none⟩,
      ⟨.new, (.q (.bin .mul)), [.t 36, .t 38], none⟩,
      ⟨.var 28, (.q (.bin .lss)), [.t 35, .t 39], none⟩])
    (.cond (.t 28) .skip
    (.exit 2)))
    (.seq (.block 3 (.reg [⟨.new, (.q .mv), [.t 7], none⟩,
      ⟨.new, (.q .mv), [.t 0], none⟩,
      ⟨.new, (.q .mv), [.t 3], none⟩,
      ⟨.new, (.q .mv), [.t 9], none⟩,
      ⟨.new, (.q (.iaS .leaf)), [.t 37, .t 38], none⟩,
      ⟨.new, (.q (.ld .leaf)), [.t 39], none⟩,
      ⟨.new, (.call 19), [.t 36, .t 40], none⟩,
      ⟨.new, (.e (.bsl 44 .leaf (.u64 0) 1 [0])), [.t 41], none⟩,
      ⟨.new, (.e (.app 44 .leaf 8)), [.t 35, .t 42], none⟩,
      ⟨.var 7, (.q .mv), [.t 43], none⟩]))
    (.reg [⟨.new, (.q .mv), [.t 9], none⟩,
      ⟨.new, (.q (.bin .add)), [.t 35, .c (.int 1)], none⟩,
      ⟨.var 9, (.q .mv), [.t 36], none⟩]))))))
    (.seq (.reg [⟨.new, (.q .mv), [.t 0], none⟩,
      ⟨.new, (.q .mv), [.t 6], none⟩,
      ⟨.new, (.call 7), [.t 35, .t 36], none⟩,
      ⟨.new, (.q .mv), [.t 37], none⟩,
      ⟨.new, (.q (.ext 0)), [.t 38], none⟩,
      ⟨.new, (.q (.ext 1)), [.t 38], none⟩,
      ⟨.var 10, (.e (.alloc 25 (.st [.leaf, .leaf]) (.agg [(.int 0), .nils]))), [], none⟩,
      ⟨.none, (.e (.store (.st [.leaf, .leaf]))), [.t 10, .t 39], none⟩,
      ⟨.var 11, (.q .mv), [.t 40], none⟩])
    (.seq (.reg [⟨.new, (.q .mv), [.t 0], none⟩,
      ⟨.new, (.q .mv), [.t 1], none⟩,
      ⟨.new, (.q .mv), [.t 7], none⟩,
      ⟨.new, (.call 11), [.t 35, .t 36, .t 37], none⟩,
      ⟨.new, (.q .mv), [.t 38], none⟩,
      ⟨.new, (.q (.ext 0)), [.t 39], none⟩,
      ⟨.new, (.q (.ext 1)), [.t 39], none⟩,
      ⟨.var 12, (.q .mv), [.t 40], none⟩,
      ⟨.var 13, (.q .mv), [.t 41], none⟩])
    (.seq (.seq (.reg [⟨.new, (.q .mv), [.t 11], none⟩,
      ⟨.new, (.q (.bin .neq)), [.t 35, .c (.int 0)], none⟩,
      ⟨.new, (.q .mv), [.t 36], none⟩,
      ⟨.new, (.q .mv), [.t 13], (some (37, false))⟩,
      ⟨.new, (.q .mv), [.t 11], (some (37, false))⟩,
      ⟨.new, (.q (.bin .neq)), [.t 38, .t 39], (some (37, false))⟩,
      ⟨.new, (.q .pick), [.t 37, .c (.bool true), .t 40], none⟩,
      ⟨.new, (.q .mv), [.t 41], none⟩,
      ⟨.new, (.q .mv), [.t 12], (some (42, false))⟩,
      ⟨.new, (.q .len), [.t 43], (some (42, false))⟩,
      ⟨.new, (.q .mv), [.t 0], (some (42, false))⟩,
      ⟨.new, (.q .mv), [.t 1], (some (42, false))⟩,
      ⟨.new, (.q (.bin .mul)), [.t 45, .t 46], (some (42, false))⟩,
      ⟨.new, (.q .mv), [.t 2], (some (42, false))⟩,
      ⟨.new, (.q .len), [.t 48], (some (42, false))⟩,
      ⟨.new, (.q (.bin .mul)), [.t 47, .t 49], (some (42, false))⟩,
      ⟨.new, (.q (.bin .neq)), [.t 44, .t 50], (some (42, false))⟩,
      ⟨.new, (.q .pick), [.t 42, .c (.bool true), .t 51], none⟩,
      ⟨.new, (.q .mv), [.t 52], none⟩,
      ⟨.new, (.q (.ld (.st [.leaf, .leaf]))), [.t 10], (some (53, false))⟩,
      ⟨.new, (.call 20), [.t 54], (some (53, false))⟩,
      ⟨.new, (.q .mv), [.t 0], (some (53, false))⟩,
      ⟨.new, (.q .mv), [.t 2], (some (53, false))⟩,
      ⟨.new, (.q .len), [.t 57], (some (53, false))⟩,
      ⟨.new, (.q (.bin .mul)), [.t 56, .t 58], (some (53, false))⟩,
      ⟨.new, (.q (.bin .neq)), [.t 55, .t 59], (some (53, false))⟩,
      ⟨.var 29, (.q .pick), [.t 53, .c (.bool true), .t 60], none⟩])
    (.cond (.t 29) (.seq (.reg [⟨.var 5, (.q .mv), [.c (.bool false)], none⟩])
    .ret)
    .skip))
    (.seq (.reg [⟨.var 14, (.q .mv), [.c .nils], none⟩,
      ⟨.var 15, (.q .mv), [.c .nils], none⟩])
    (.seq (.seq (.reg [⟨.var 16, (.q .mv), [.c (.int 0)], none⟩])
    (.block 4 (.loop (.seq (.seq (.reg [⟨.new, (.q .mv), [.t 16], none⟩,
      ⟨.new, (.q .mv), [.t 12], none⟩,
      ⟨.new, (.q .len), [.t 36], none⟩,
      ⟨.var 30, (.q (.bin .lss)), [.t 35, .t 37], none⟩])
    (.cond (.t 30) .skip
    (.exit 4)))
    (.seq (.block 5 (.seq (.reg [⟨.new, (.q .mv), [.t 0], none⟩,
      ⟨.new, (.q .mv), [.t 4], none⟩,
      ⟨.new, (.q .mv), [.t 16], none⟩,
      ⟨.new, (.q .mv), [.t 4], none⟩,
      ⟨.new, (.q .len), [.t 38], none⟩,
      ⟨.new, (.q (.bin .rem)), [.t 37, .t 39], none⟩,
      ⟨.new, (.q (.iaS .leaf)), [.t 36, .t 40], none⟩,
      ⟨.new, (.q (.ld .leaf)), [.t 41], none⟩,
      ⟨.new, (.call 19), [.t 35, .t 42], none⟩,
      ⟨.var 17, (.q .mv), [.t 43], none⟩])
    (.seq (.reg [⟨.var 18, (.q .mv), [.c (.u64 0)], none⟩])
    (.seq (.seq (.draw [⟨.new, (.q (.ld (.st [.leaf, .leaf]))), [.t 10], none⟩,
      ⟨.new, (.q .mv), [.t 16], none⟩,
      ⟨.new, (.q .mv), [.t 1], none⟩,
      ⟨.new, (.q (.bin .quo)), [.t 36, .t 37], none⟩,
      ⟨.var 31, (.call 21), [.t 35, .t 38], none⟩])
    (.cond (.t 31) (.reg [⟨.new, (.q .mv), [.t 12], none⟩,
      ⟨.new, (.q .mv), [.t 16], none⟩,
      ⟨.new, (.q (.iaS .leaf)), [.t 35, .t 36], none⟩,
      ⟨.new, (.q (.ld .leaf)), [.t 37], none⟩,
      ⟨.var 18, (.q .mv), [.t 38], none⟩])
    .skip))
    (.seq (.reg [⟨.new, (.q .mv), [.t 14], none⟩,
      ⟨.new, (.q .mv), [.t 17], none⟩,
      ⟨.new, (.e (.bsl 44 .leaf (.u64 0) 1 [0])), [.t 36], none⟩,
      ⟨.new, (.e (.app 44 .leaf 8)), [.t 35, .t 37], none⟩,
      ⟨.var 14, (.q .mv), [.t 38], none⟩])
    (.reg [⟨.new, (.q .mv), [.t 15], none⟩,
      ⟨.new, (.q .mv), [.t 0], none⟩,
      ⟨.new, (.q .mv), [.t 18], none⟩,
      ⟨.new, (.q .mv), [.t 17], none⟩,
      ⟨.new, (.call 22), [.t 36, .t 37, .t 38], none⟩,
      ⟨.new, (.e (.bsl 44 .leaf (.u64 0) 1 [0])), [.t 39], none⟩,
      ⟨.new, (.e (.app 44 .leaf 8)), [.t 35, .t 40], none⟩,
      ⟨.var 15, (.q .mv), [.t 41], none⟩]))))))
    (.reg [⟨.new, (.q .mv), [.t 16], none⟩,
      ⟨.new, (.q (.bin .add)), [.t 35, .c (.int 1)], none⟩,
      ⟨.var 16, (.q .mv), [.t 36], none⟩]))))))
    (.seq (.reg [⟨.new, (.q .mv), [.t 0], none⟩,
      ⟨.new, (.q .mv), [.t 1], none⟩,
      ⟨.new, (.q .mv), [.t 14], none⟩,
      ⟨.new, (.call 13), [.t 35, .t 36, .t 37], none⟩,
      ⟨.new, (.q .mv), [.t 38], none⟩,
      ⟨.new, (.q (.ext 0)), [.t 39], none⟩,
      ⟨.new, (.q (.ext 1)), [.t 39], none⟩,
      ⟨.var 19, (.q .mv), [.t 40], none⟩,
      ⟨.var 20, (.q .mv), [.t 41], none⟩])
    (.seq (.reg [⟨.new, (.q .mv), [.t 0], none⟩,
      ⟨.new, (.q .mv), [.t 1], none⟩,
      ⟨.new, (.q .mv), [.t 15], none⟩,
      ⟨.new, (.call 13), [.t 35, .t 36, .t 37], none⟩,
      ⟨.new, (.q .mv), [.t 38], none⟩,
      ⟨.new, (.q (.ext 0)), [.t 39], none⟩,
      ⟨.new, (.q (.ext 1)), [.t 39], none⟩,
      ⟨.var 21, (.q .mv), [.t 40], none⟩,
      ⟨.var 22, (.q .mv), [.t 41], none⟩])
    (.seq (.reg [⟨.new, (.q .mv), [.t 0], none⟩,
      ⟨.new, (.q .mv), [.t 1], none⟩,
      ⟨.new, (.q .mv), [.t 6], none⟩,
      ⟨.new, (.q .mv), [.t 7], none⟩,
      ⟨.new, (.call 15), [.t 35, .t 36, .t 37, .t 38], none⟩,
      ⟨.new, (.q .mv), [.t 39], none⟩,
      ⟨.new, (.q (.ext 0)), [.t 40], none⟩,
      ⟨.new, (.q (.ext 1)), [.t 40], none⟩,
      ⟨.var 23, (.q .mv), [.t 41], none⟩,
      ⟨.var 24, (.q .mv), [.t 42], none⟩])
    (.seq (.seq (.reg [⟨.new, (.q .mv), [.t 20], none⟩,
      ⟨.new, (.q (.bin .neq)), [.t 35, .c (.int 0)], none⟩,
      ⟨.new, (.q .mv), [.t 36], none⟩,
      ⟨.new, (.q .mv), [.t 22], (some (37, false))⟩,
      ⟨.new, (.q .mv), [.t 20], (some (37, false))⟩,
      ⟨.new, (.q (.bin .neq)), [.t 38, .t 39], (some (37, false))⟩,
      ⟨.new, (.q .pick), [.t 37, .c (.bool true), .t 40], none⟩,
      ⟨.new, (.q .mv), [.t 41], none⟩,
      ⟨.new, (.q .mv), [.t 24], (some (42, false))⟩,
      ⟨.new, (.q .mv), [.t 20], (some (42, false))⟩,
      ⟨.new, (.q (.bin .neq)), [.t 43, .t 44], (some (42, false))⟩,
      ⟨.new, (.q .pick), [.t 42, .c (.bool true), .t 45], none⟩,
      ⟨.new, (.q .mv), [.t 46], none⟩,
      ⟨.new, (.q .mv), [.t 19], (some (47, false))⟩,
      ⟨.new, (.q .len), [.t 48], (some (47, false))⟩,
      ⟨.new, (.q .mv), [.t 23], (some (47, false))⟩,
      ⟨.new, (.q .len), [.t 50], (some (47, false))⟩,
      ⟨.new, (.q (.bin .neq)), [.t 49, .t 51], (some (47, false))⟩,
      ⟨.new, (.q .pick), [.t 47, .c (.bool true), .t 52], none⟩,
      ⟨.new, (.q .mv), [.t 53], none⟩,
      ⟨.new, (.q .mv), [.t 21], (some (54, false))⟩,
      ⟨.new, (.q .len), [.t 55], (some (54, false))⟩,
      ⟨.new, (.q .mv), [.t 23], (some (54, false))⟩,
      ⟨.new, (.q .len), [.t 57], (some (54, false))⟩,
      ⟨.new, (.q (.bin .neq)), [.t 56, .t 58], (some (54, false))⟩,
      ⟨.var 32, (.q .pick), [.t 54, .c (.bool true), .t 59], none⟩])
    (.cond (.t 32) (.seq (.reg [⟨.var 5, (.q .mv), [.c (.bool false)], none⟩])
    .ret)
    .skip))
    (.seq (.seq (.reg [⟨.var 25, (.q .mv), [.c (.int 0)], none⟩])
    (.block 6 (.loop (.seq (.seq (.reg [⟨.new, (.q .mv), [.t 25], none⟩,
      ⟨.new, (.q .mv), [.t 23], none⟩,
      ⟨.new, (.q .len), [.t 36], none⟩,
      ⟨.var 33, (.q (.bin .lss)), [.t 35, .t 37], none⟩])
    (.cond (.t 33) .skip
    (.exit 6)))
    (.seq (.block 7 (.seq (.draw [⟨.new, (.q .mv), [.t 0], none⟩,
      ⟨.new, (.q .mv), [.t 19], none⟩,
      ⟨.new, (.q .mv), [.t 25], none⟩,
      ⟨.new, (.q (.iaS .leaf)), [.t 36, .t 37], none⟩,
      ⟨.new, (.q (.ld .leaf)), [.t 38], none⟩,
      ⟨.new, (.q .mv), [.t 21], none⟩,
      ⟨.new, (.q .mv), [.t 25], none⟩,
      ⟨.new, (.q (.iaS .leaf)), [.t 40, .t 41], none⟩,
      ⟨.new, (.q (.ld .leaf)), [.t 42], none⟩,
      ⟨.new, (.call 23), [.t 35, .t 39, .t 43], none⟩,
      ⟨.new, (.q .mv), [.t 23], none⟩,
      ⟨.new, (.q .mv), [.t 25], none⟩,
      ⟨.new, (.q (.iaS .leaf)), [.t 45, .t 46], none⟩,
      ⟨.new, (.q (.ld .leaf)), [.t 47], none⟩,
      ⟨.new, (.q (.bin .neq)), [.t 44, .t 48], none⟩,
      ⟨.new, (.q .mv), [.t 49], none⟩,
      ⟨.new, (.q .mv), [.t 23], (some (50, false))⟩,
      ⟨.new, (.q .mv), [.t 25], (some (50, false))⟩,
      ⟨.new, (.q (.iaS .leaf)), [.t 51, .t 52], (some (50, false))⟩,
      ⟨.new, (.q (.ld .leaf)), [.t 53], (some (50, false))⟩,
      ⟨.new, (.q .mv), [.t 0], (some (50, false))⟩,
      ⟨.new, (.q .mv), [.t 6], (some (50, false))⟩,
      ⟨.new, (.q .mv), [.t 25], (some (50, false))⟩,
      ⟨.new, (.q .mv), [.t 1], (some (50, false))⟩,
      ⟨.new, (.q (.bin .quo)), [.t 57, .t 58], (some (50, false))⟩,
      ⟨.new, (.q (.iaS .leaf)), [.t 56, .t 59], (some (50, false))⟩,
      ⟨.new, (.q (.ld .leaf)), [.t 60], (some (50, false))⟩,
      ⟨.new, (.q .mv), [.t 7], (some (50, false))⟩,
      ⟨.new, (.q .mv), [.t 25], (some (50, false))⟩,
      ⟨.new, (.q (.iaS .leaf)), [.t 62, .t 63], (some (50, false))⟩,
      ⟨.new, (.q (.ld .leaf)), [.t 64], (some (50, false))⟩,
      ⟨.new, (.call 24), [.t 55, .t 61, .t 65], (some (50, false))⟩,
      ⟨.new, (.q (.bin .neq)), [.t 54, .t 66], (some (50, false))⟩,
      ⟨.var 34, (.q .pick), [.t 50, .c (.bool true), .t 67], none⟩])
    (.cond (.t 34) (.seq (.reg [⟨.var 5, (.q .mv), [.c (.bool false)], none⟩])
    .ret)
    .skip)))
    (.reg [⟨.new, (.q .mv), [.t 25], none⟩,
      ⟨.new, (.q (.bin .add)), [.t 35, .c (.int 1)], none⟩,
      ⟨.var 25, (.q .mv), [.t 36], none⟩]))))))
    (.seq (.reg [⟨.new, (.call 6), [], none⟩,
      ⟨.var 5, (.q .mv), [.t 35], none⟩])
    .ret)))))))))))))))),
    [.t 5]⟩

set_option maxRecDepth 100000
set_option linter.unusedSimpArgs false
set_option linter.unusedVariables false
theorem c5 : cF P [] (drP P []) 5 5 s5.vm = some s5 := by kernel_rfl
theorem fit_map {W : Nat} {F : Nat → BitVec 64} {n : Nat} : fitL (W : Int) ((List.range n).map fun i => msk W (F i)) = true := by
  unfold fitL
  rw [List.all_eq_true]
  intro x hx
  obtain ⟨i, _, rfl⟩ := List.mem_map.1 hx
  unfold msk
  rw [BitVec.and_assoc, BitVec.and_not_self]
  simp
def I5a (W N : Nat) (ys rw nz : List (BitVec 64)) (H : Heap) (k : Nat) (st : St) : Prop :=
  ∃ (i : Nat) (x u27 : AV) (L : Heap), st = ⟨[.int W, .int N, .ro .leaf (ys.map .u64), .ro .leaf (rw.map .u64), .ro .leaf (nz.map .u64), .bool false, x, .nils, .int (i : Int), .un, .un, .un, .un, .un, .un, .un, .un, .un, .un, .un, .un, .un, .un, .un, .un, .un, .bool false, u27, .un, .un, .un, .un, .un, .un, .un], H ++ L⟩ ∧ k = ys.length - i ∧ i ≤ ys.length ∧ apU H.length (fun i => msk W (ys.getD i 0)) i x L
def I5b (W N : Nat) (ys rw nz : List (BitVec 64)) (x : AV) (G : Heap) (k : Nat) (st : St) : Prop :=
  ∃ (i : Nat) (y u28 : AV) (L : Heap), st = ⟨[.int W, .int N, .ro .leaf (ys.map .u64), .ro .leaf (rw.map .u64), .ro .leaf (nz.map .u64), .bool false, x, y, .int (ys.length : Int), .int (i : Int), .un, .un, .un, .un, .un, .un, .un, .un, .un, .un, .un, .un, .un, .un, .un, .un, .bool false, .bool false, u28, .un, .un, .un, .un, .un, .un], G ++ L⟩ ∧ k = N * ys.length - i ∧ i ≤ N * ys.length ∧ apU G.length (fun i => msk W (rw.getD i 0)) i y L
def oF (W : Nat) (nz : List (BitVec 64)) (k : Nat) : BitVec 64 := msk W (nz.getD (k % nz.length) 0)
def pF (W N : Nat) (nz zs : List (BitVec 64)) (cl : List Bool) (k : Nat) : BitVec 64 := msk W ((if bfn cl (k / N) then spF W N zs k else 0) - oF W nz k)
def ap2 (N : Nat) (F E : Nat → BitVec 64) (t : Nat) (o p : AV) (L : Heap) : Prop :=
  (t = 0 ∧ o = .nils ∧ p = .nils ∧ L = []) ∨ (0 < t ∧ o = .own (N + 1) t [] 0 t .leaf ∧ p = .own (N + 3) t [] 0 t .leaf ∧ ∃ T1 T2 J, L = T1 :: uB t t (rL F t) :: T2 :: uB t t (rL E t) :: J)
def I5d (M : Nat) (W N : Nat) (xs zs : List (BitVec 64)) (A B R : Nat → BitVec 64) (a2 a3 a4 a8 a9 a10 a12 a14 a15 a16 a17 a18 a30 a31 : AV) (G : Heap) (k : Nat) (st : St) : Prop :=
  ∃ (i : Nat) (u33 u34 : AV), st = ⟨[.int W, .int N, a2, a3, a4, .bool false, .ro .leaf (xs.map .u64), .ro .leaf (zs.map .u64), a8, a9, a10, .int 0, a12, .int 0, a14, a15, a16, a17, a18, .ro .leaf (rL A M), .int 0, .ro .leaf (rL B M), .int 0, .ro .leaf (rL R M), .int 0, .int (i : Int), .bool false, .bool false, .bool false, .bool false, a30, a31, .bool false, u33, u34], G⟩ ∧ k = M - i ∧ i ≤ M
def I5c (W N Q m : Nat) (ys rw nz xs zs : List (BitVec 64)) (cl : List Bool) (wv : List AV) (G : Heap) (k : Nat) (st : St) : Prop :=
  ∃ (i : Nat) (o p u17 u18 u30 u31 : AV) (L : Heap), st = ⟨[.int W, .int N, .ro .leaf (ys.map .u64), .ro .leaf (rw.map .u64), .ro .leaf (nz.map .u64), .bool false, .ro .leaf (xs.map .u64), .ro .leaf (zs.map .u64), .int (m : Int), .int ((N * m : Nat) : Int), .ptr G.length 0 [0] (.st [.leaf, .leaf]), .int 0, .ro .leaf (rL (spF W N zs) Q), .int 0, o, p, .int (i : Int), u17, u18, .un, .un, .un, .un, .un, .un, .un, .bool false, .bool false, .bool false, .bool false, u30, u31, .un, .un, .un],
    G ++ some ⟨25, 0, false, .arr 1 (.st [.leaf, .leaf]), .agg [.agg [.int ((W * m : Nat) : Int), .ro .leaf wv]]⟩ :: L⟩ ∧ k = Q - i ∧ i ≤ Q ∧ ap2 (G.length + 1) (oF W nz) (pF W N nz zs cl) i o p L
set_option maxHeartbeats 4000000 in
theorem f5 {K : AV → Heap → Prop} {H : Heap} {w n : Int} {ys rw nz : List (BitVec 64)} (hl : ys.length ≤ maxLen) (hr : rw.length ≤ maxLen) (hz : nz.length ≤ maxLen) (h : K (.bool true) H) : wpF P [] 5 [.int w, .int n, .ro .leaf (ys.map .u64), .ro .leaf (rw.map .u64), .ro .leaf (nz.map .u64)] H K := by
  refine wpF_goW c5 rfl 3 ?_
  intro ha hb
  simp only [s5]
  clear ha hb
  unfold maxLen at hl hr hz
  have ly : (ys.map AV.u64).length = ys.length := by simp
  have lr : (rw.map AV.u64).length = rw.length := by simp
  have lz : (nz.map AV.u64).length = nz.length := by simp
  refine WPS_seqS ?_
  (refine gw2 @thenQ_n @thenQ_r ?_; try exact True.intro)
  refine WPS_seqS ?_
  by_cases hw' : okW w n = true
  case neg =>
    have h1' : okW w n = false := by simpa using hw'
    (refine gw2 @thenQ_n @thenQ_r ?_; try exact True.intro)
    refine f18 ?_
    (refine gw3 @thenQ_n @thenQ_r @h1' ?_; try exact True.intro)
    refine f6 ?_
    (refine gw2 @thenQ_n @thenQ_r ?_; try exact True.intro)
    exact h
  have hw := hw'
  clear hw'
  obtain ⟨W, N, rfl, rfl⟩ := okW_nat hw
  obtain ⟨hg, hn1, hn2⟩ := okW_good hw
  obtain ⟨hw1, hw2⟩ := id hg
  have hN : 1 ≤ N ∧ N ≤ 6 := by omega
  have hW : 1 ≤ W ∧ W ≤ 64 := by omega
  by_cases h0 : ys.length = 0
  · have e0 : ((ys.length : Int) = 0) = True := by simp only [eq_iff_iff, iff_true]; omega
    (refine gw2 @thenQ_n @thenQ_r ?_; try exact True.intro)
    refine f18 ?_
    (refine gw5 @thenQ_n @thenQ_r @hw @ly @e0 ?_; try exact True.intro)
    refine f6 ?_
    (refine gw2 @thenQ_n @thenQ_r ?_; try exact True.intro)
    exact h
  have e0 : ((ys.length : Int) = 0) = False := by simp only [eq_iff_iff, iff_false]; omega
  by_cases h8 : 8 < ys.length
  · have e1 : ((8 : Int) < (ys.length : Int)) = True := by simp only [eq_iff_iff, iff_true]; omega
    (refine gw2 @thenQ_n @thenQ_r ?_; try exact True.intro)
    refine f18 ?_
    (refine gw6 @thenQ_n @thenQ_r @hw @ly @e0 @e1 ?_; try exact True.intro)
    refine f6 ?_
    (refine gw2 @thenQ_n @thenQ_r ?_; try exact True.intro)
    exact h
  have e1 : ((8 : Int) < (ys.length : Int)) = False := by simp only [eq_iff_iff, iff_false]; omega
  have hNm : (N : Int) * (ys.length : Int) = ((N * ys.length : Nat) : Int) := by simp
  have hM : N * ys.length ≤ 6 * 8 := Nat.mul_le_mul hN.2 (by omega)
  by_cases h3 : rw.length < N * ys.length
  · have e2 : ((rw.length : Int) < ((N * ys.length : Nat) : Int)) = True := by simp only [eq_iff_iff, iff_true]; omega
    (refine gw2 @thenQ_n @thenQ_r ?_; try exact True.intro)
    refine f18 ?_
    (refine gw9 @thenQ_n @thenQ_r @hw @ly @lr @e0 @e1 @hNm @e2 ?_; try exact True.intro)
    (repeat (refine And.intro (by omega) ?_))
    refine f6 ?_
    (refine gw2 @thenQ_n @thenQ_r ?_; try exact True.intro)
    exact h
  have e2 : ((rw.length : Int) < ((N * ys.length : Nat) : Int)) = False := by simp only [eq_iff_iff, iff_false]; omega
  by_cases h4 : nz.length = 0
  · have e3 : ((nz.length : Int) = 0) = True := by simp only [eq_iff_iff, iff_true]; omega
    (refine gw2 @thenQ_n @thenQ_r ?_; try exact True.intro)
    refine f18 ?_
    (refine gw11 @thenQ_n @thenQ_r @hw @ly @lr @lz @e0 @e1 @hNm @e2 @e3 ?_; try exact True.intro)
    (repeat (refine And.intro (by omega) ?_))
    refine f6 ?_
    (refine gw2 @thenQ_n @thenQ_r ?_; try exact True.intro)
    exact h
  have e3 : ((nz.length : Int) = 0) = False := by simp only [eq_iff_iff, iff_false]; omega
  have hcm : ∀ x, rcut (rounds (W : Int)) x = msk W x := fun x => f19g' hg x
  (refine gw2 @thenQ_n @thenQ_r ?_; try exact True.intro)
  refine f18 ?_
  (refine gw11 @thenQ_n @thenQ_r @hw @ly @lr @lz @e0 @e1 @hNm @e2 @e3 ?_; try exact True.intro)
  (repeat (refine And.intro (by omega) ?_))
  refine WPS_seqS ?_
  (refine gw2 @thenQ_n @thenQ_r ?_; try exact True.intro)
  refine WPS_seqS ?_
  (refine gw2 @thenQ_n @thenQ_r ?_; try exact True.intro)
  refine wp_inv (I5a W N ys rw nz H) ys.length ⟨0, _, _, [], by rw [List.append_nil]; rfl, rfl, Nat.zero_le _, .inl ⟨rfl, rfl, rfl⟩⟩ ?_
  rintro k st ⟨i, x, u27, L, rfl, rfl, hi, hc⟩
  by_cases hil : i < ys.length
  · have e4 : ((i : Int) < (ys.length : Int)) = True := by simp only [eq_iff_iff, iff_true]; omega
    have g1 := ld_u64 hil
    have hr1 := rL_one (F := fun i => msk W (ys.getD i 0)) (t := i) rfl
    rcases hc with ⟨ht0, rfl, rfl⟩ | ⟨ht0, rfl, T, J, rfl⟩
    · (refine gw3 @e4 @ly @g1 ?_; try exact True.intro)
      refine f19 ?_
      rw [hcm]
      (refine gw0 ?_; try exact True.intro)
      (repeat (refine And.intro (by omega) ?_))
      exact ⟨ys.length - (i + 1), by omega, i + 1, _, _, _, rfl, rfl, by omega, .inr ⟨by omega, by rw [ht0], _, [], by rw [ht0]; rfl⟩⟩
    · unfold uB
      (refine gw3 @e4 @ly @g1 ?_; try exact True.intro)
      refine f19 ?_
      rw [hcm]
      (refine gw1 @hr1 ?_; try exact True.intro)
      (repeat (refine And.intro (by omega) ?_))
      exact ⟨ys.length - (i + 1), by omega, i + 1, _, _, _, rfl, rfl, by omega, .inr ⟨by omega, rfl, _, _, rfl⟩⟩
  have hie : i = ys.length := by omega
  subst hie
  have e4 : ((ys.length : Int) < (ys.length : Int)) = False := by simp
  rcases hc with ⟨ht0, _, _⟩ | ⟨_, rfl, T, J, rfl⟩
  · omega
  (refine gw3 @e4 @ly @thenQ_n ?_; try exact True.intro)
  refine WPS_seqS ?_
  (refine gw2 @thenQ_n @thenQ_r ?_; try exact True.intro)
  generalize hx : AV.own (H.length + 1) ys.length [] 0 ys.length .leaf = x
  generalize hG : H ++ T :: uB ys.length ys.length (rL (fun i => msk W (ys.getD i 0)) ys.length) :: J = G
  refine wp_inv (I5b W N ys rw nz x G) (N * ys.length) ⟨0, _, _, [], by rw [List.append_nil]; rfl, rfl, Nat.zero_le _, .inl ⟨rfl, rfl, rfl⟩⟩ ?_
  rintro k st ⟨i, y, u28, L, rfl, rfl, hi, hc⟩
  by_cases hil : i < N * ys.length
  · have e5 : ((i : Int) < ((N * ys.length : Nat) : Int)) = True := by simp only [eq_iff_iff, iff_true]; omega
    have hir : i < rw.length := by omega
    have g1 := ld_u64 hir
    have hr1 := rL_one (F := fun i => msk W (rw.getD i 0)) (t := i) rfl
    rcases hc with ⟨ht0, rfl, rfl⟩ | ⟨ht0, rfl, T, J, rfl⟩
    · (refine gw5 @e5 @hNm @ly @lr @g1 ?_; try exact True.intro)
      (repeat (refine And.intro (by omega) ?_))
      refine f19 ?_
      rw [hcm]
      (refine gw0 ?_; try exact True.intro)
      (repeat (refine And.intro (by omega) ?_))
      exact ⟨N * ys.length - (i + 1), by omega, i + 1, _, _, _, rfl, rfl, by omega, .inr ⟨by omega, by rw [ht0], _, [], by rw [ht0]; rfl⟩⟩
    · unfold uB
      (refine gw5 @e5 @hNm @ly @lr @g1 ?_; try exact True.intro)
      (repeat (refine And.intro (by omega) ?_))
      refine f19 ?_
      rw [hcm]
      (refine gw1 @hr1 ?_; try exact True.intro)
      (repeat (refine And.intro (by omega) ?_))
      exact ⟨N * ys.length - (i + 1), by omega, i + 1, _, _, _, rfl, rfl, by omega, .inr ⟨by omega, rfl, _, _, rfl⟩⟩
  have hie : i = N * ys.length := by omega
  have hM1 : 1 ≤ N * ys.length := Nat.mul_le_mul hN.1 (show 1 ≤ ys.length by omega)
  rcases hc with ⟨ht0, _, _⟩ | ⟨_, rfl, T2, J2, rfl⟩
  · omega
  have e5 : ((i : Int) < ((N * ys.length : Nat) : Int)) = False := by simp only [eq_iff_iff, iff_false]; omega
  (refine gw4 @e5 @hNm @ly @thenQ_n ?_; try exact True.intro)
  (repeat (refine And.intro (by omega) ?_))
  subst hx hG
  rw [List.append_assoc]
  generalize hm : ys.length = m at *
  have hX : ∀ {d : Nat} {kp : Nat → Bool} {M : Nat} {hh : Heap}, mapO (demK kp M hh (d + 1)) (List.take m (rL (fun i => msk W (ys.getD i 0)) m)) = some (rL (fun i => msk W (ys.getD i 0)) m) := by rw [take_rL]; exact mapO_rL
  have hY : ∀ {d : Nat} {kp : Nat → Bool} {M : Nat} {hh : Heap}, mapO (demK kp M hh (d + 1)) (List.take i (rL (fun i => msk W (rw.getD i 0)) i)) = some (rL (fun i => msk W (rw.getD i 0)) i) := by rw [take_rL]; exact mapO_rL
  have hkp : ∀ j, (decide (H.length + j < H.length)) = false := fun j => by simp
  refine WPS_freeze (fun b => decide (b < H.length)) 4 (env' := [.int W, .int N, .ro .leaf (ys.map .u64), .ro .leaf (rw.map .u64), .ro .leaf (nz.map .u64), .bool false, .ro .leaf (rL (fun i => msk W (ys.getD i 0)) m), .ro .leaf (rL (fun i => msk W (rw.getD i 0)) i), .int (m : Int), .int (i : Int), .un, .un, .un, .un, .un, .un, .un, .un, .un, .un, .un, .un, .un, .un, .un, .un, .bool false, .bool false, .bool false, .un, .un, .un, .un, .un, .un]) ?_ ?_
  · have ea : H.length + (J.length + 1 + 1) + 1 = H.length + (J.length + 1 + 1 + 1) := rfl
    unfold uB
    (refine gw4 @hkp @ea @hX @hY ?_; try exact True.intro)
  rw [kill_own]
  refine wpS_ok ?_
  generalize hGG : H ++ List.replicate _ none = G'
  have htake : ∀ X : Heap, List.take H.length (G' ++ X) = H := fun X => by rw [← hGG, List.append_assoc, List.take_left]
  clear hGG
  subst hie
  have hxl : ((List.range m).map fun i => msk W (ys.getD i 0)).length = m := by simp
  have hyl : ((List.range (N * m)).map fun i => msk W (rw.getD i 0)).length = N * m := by simp
  have hfx := fit_map (W := W) (F := fun i => ys.getD i 0) (n := m)
  have hfz := fit_map (W := W) (F := fun i => rw.getD i 0) (n := N * m)
  rw [rL_map, rL_map]
  generalize hxs : ((List.range m).map fun i => msk W (ys.getD i 0)) = xs at *
  generalize hys : ((List.range (N * m)).map fun i => msk W (rw.getD i 0)) = zs at *
  clear hX hY hkp hxs hys e4 e5 hil hi
  have hw1' : okW W 1 = true := by simp only [okW, Bool.and_eq_true, decide_eq_true_eq]; omega
  have h7 : ∀ {K : AV → Heap → Prop} {H : Heap}, K (.tup [vec (W * m) (bfn (chL W xs)), .int 0]) H → wpF P [] 7 [.int W, .ro .leaf (xs.map .u64)] H K := fun h => f7 (by omega) hw1' hfx (by rw [hxl, Int.toNat_natCast]; exact h)
  have h20 : ∀ {K : AV → Heap → Prop} {H : Heap}, K (.int ((W * m : Nat) : Int)) H → wpF P [] 20 [vec (W * m) (bfn (chL W xs))] H K := fun h => f20 h
  have hQ2 : W * (N * m) = m * W * N := by rw [Nat.mul_comm N m, ← Nat.mul_assoc, Nat.mul_comm W m]
  have h21 : ∀ {K : AV → Heap → Prop} {H : Heap} {k : Nat}, k < W * (N * m) → K (.bool (bfn (chL W xs) (k / N))) H → wpF P [] 21 [vec (W * m) (bfn (chL W xs)), .int ((k / N : Nat) : Int)] H K := fun {K} {H} {k} hk h => by
    refine f21 ?_
    have h1 : k / N < W * m := by rw [Nat.mul_comm W m]; exact (Nat.div_lt_iff_lt_mul (by omega)).2 (by rw [← hQ2]; exact hk)
    rw [Int.toNat_natCast, show (decide ((0 : Int) ≤ ((k / N : Nat) : Int)) && Go.V.cut (W * m) (bfn (chL W xs)) (k / N)) = bfn (chL W xs) (k / N) by unfold Go.V.cut; rw [decide_eq_true (Int.natCast_nonneg _), decide_eq_true h1, Bool.true_and, Bool.true_and]]
    exact h
  have hQ1 : W * (N * m) ≤ 64 * (6 * 8) := Nat.mul_le_mul hW.2 hM
  have hWm : W * m ≤ 64 * 8 := Nat.mul_le_mul hW.2 (by omega)
  have p1 : (W : Int) * (N : Int) = ((W * N : Nat) : Int) := by simp
  have p2 : ((W * N : Nat) : Int) * (m : Int) = ((W * (N * m) : Nat) : Int) := by rw [← Nat.mul_assoc]; simp
  have p3 : (W : Int) * (m : Int) = ((W * m : Nat) : Int) := by simp
  have hWN : W * N ≤ 64 * 6 := Nat.mul_le_mul hW.2 hN.2
  unfold vec at h7 h20 h21
  generalize hcl : chL W xs = cl at h7 h20 h21
  generalize wdA (W * m) (bfn cl) = wv at *
  (refine gw0 ?_; try exact True.intro)
  refine h7 ?_
  (refine gw0 ?_; try exact True.intro)
  refine f11 (by omega) hw (by rw [hyl, Nat.mul_mod_right]) hfz ?_
  rw [hyl]
  have lq := rL_len (F := spF W N zs) (t := W * (N * m))
  generalize hQ : W * (N * m) = Q at *
  (refine gw5 @lq @p1 @p2 @p3 @hm ?_; try exact True.intro)
  (repeat (refine And.intro (by omega) ?_))
  refine h20 ?_
  (refine gw2 @p3 @hm ?_; try exact True.intro)
  (repeat (refine And.intro (by omega) ?_))
  have n0 : ((N : Int) = 0) = False := by simp only [eq_iff_iff, iff_false]; omega
  refine wp_inv (I5c W N Q m ys rw nz xs zs cl wv G') Q ⟨0, _, _, _, _, _, _, [], rfl, rfl, Nat.zero_le _, .inl ⟨rfl, rfl, rfl, rfl⟩⟩ ?_
  rintro k st ⟨k, o, p, u17, u18, u30, u31, L, rfl, rfl, hk, hc⟩
  by_cases hkl : k < Q
  · have e6 : ((k : Int) < (Q : Int)) = True := by simp only [eq_iff_iff, iff_true]; omega
    have htm : Int.tmod (k : Int) (nz.length : Int) = ((k % nz.length : Nat) : Int) := (Int.ofNat_tmod _ _).symm
    have htd : Int.tdiv (k : Int) (N : Int) = ((k / N : Nat) : Int) := (Int.ofNat_tdiv _ _).symm
    have hkm : k % nz.length < nz.length := Nat.mod_lt _ (by omega)
    have hkN : k / N ≤ k := Nat.div_le_self _ _
    have g1 := ld_u64 hkm
    have g2 : (rL (spF W N zs) Q).getD k .un = .u64 (spF W N zs k) := ld_rng hkl
    have hof : msk W (nz.getD (k % nz.length) 0) = oF W nz k := rfl
    have hpf : msk W ((if bfn cl (k / N) then spF W N zs k else 0) - oF W nz k) = pF W N nz zs cl k := rfl
    have h21k : ∀ {K : AV → Heap → Prop} {H : Heap}, K (.bool (bfn cl (k / N))) H → wpF P [] 21 [.agg [.int ((W * m : Nat) : Int), .ro .leaf wv], .int ((k / N : Nat) : Int)] H K := fun h => h21 hkl h
    have r1 := rL_one (F := oF W nz) (t := k) rfl
    have r2 := rL_one (F := pF W N nz zs cl) (t := k) rfl
    generalize k % nz.length = km at *
    generalize k / N = kn at *
    generalize bfn cl kn = b at *
    rcases hc with ⟨ht0, rfl, rfl, rfl⟩ | ⟨ht0, rfl, rfl, T1, T2, J, rfl⟩
    · (refine gw6 @e6 @lq @htm @e3 @lz @g1 ?_; try exact True.intro)
      (repeat (refine And.intro (by omega) ?_))
      refine f19 ?_
      rw [hcm, hof]
      generalize hoo : oF W nz k = oo at *
      (refine gw2 @htd @n0 ?_; try exact True.intro)
      (repeat (refine And.intro (by omega) ?_))
      refine drawn _ (h21k ⟨rfl, rfl⟩) ?_
      cases b with
      | true =>
        have hpf' : msk W (spF W N zs k - oo) = pF W N nz zs cl k := hpf
        (refine gw5 @htd @n0 @e6 @lq @g2 ?_; try exact True.intro)
        refine f22 ?_
        rw [hcm, hpf']
        (refine gw0 ?_; try exact True.intro)
        (repeat (refine And.intro (by omega) ?_))
        exact ⟨Q - (k + 1), by omega, k + 1, _, _, _, _, _, _, _, rfl, rfl, by omega, .inr ⟨by omega, by rw [ht0], by rw [ht0], _, _, [], by subst ht0 hoo; rfl⟩⟩
      | false =>
        have hpf' : msk W (0 - oo) = pF W N nz zs cl k := hpf
        (refine gw5 @htd @n0 @e6 @lq @g2 ?_; try exact True.intro)
        refine f22 ?_
        rw [hcm, hpf']
        (refine gw0 ?_; try exact True.intro)
        (repeat (refine And.intro (by omega) ?_))
        exact ⟨Q - (k + 1), by omega, k + 1, _, _, _, _, _, _, _, rfl, rfl, by omega, .inr ⟨by omega, by rw [ht0], by rw [ht0], _, _, [], by subst ht0 hoo; rfl⟩⟩
    · have ea : G'.length + 1 + 1 = G'.length + 2 := rfl
      have eb : G'.length + 1 + 3 = G'.length + 4 := rfl
      unfold uB
      (refine gw6 @e6 @lq @htm @e3 @lz @g1 ?_; try exact True.intro)
      (repeat (refine And.intro (by omega) ?_))
      refine f19 ?_
      rw [hcm, hof]
      generalize hoo : oF W nz k = oo at *
      (refine gw2 @htd @n0 ?_; try exact True.intro)
      (repeat (refine And.intro (by omega) ?_))
      refine drawn _ (h21k ⟨rfl, rfl⟩) ?_
      cases b with
      | true =>
        have hpf' : msk W (spF W N zs k - oo) = pF W N nz zs cl k := hpf
        (refine gw8 @htd @n0 @e6 @lq @g2 @r1 @ea @eb ?_; try exact True.intro)
        (repeat (refine And.intro (by omega) ?_))
        refine f22 ?_
        rw [hcm, hpf']
        (refine gw3 @r2 @ea @eb ?_; try exact True.intro)
        (repeat (refine And.intro (by omega) ?_))
        exact ⟨Q - (k + 1), by omega, k + 1, _, _, _, _, _, _, _, rfl, rfl, by omega, .inr ⟨by omega, rfl, rfl, _, _, _, rfl⟩⟩
      | false =>
        have hpf' : msk W (0 - oo) = pF W N nz zs cl k := hpf
        (refine gw8 @htd @n0 @e6 @lq @g2 @r1 @ea @eb ?_; try exact True.intro)
        (repeat (refine And.intro (by omega) ?_))
        refine f22 ?_
        rw [hcm, hpf']
        (refine gw3 @r2 @ea @eb ?_; try exact True.intro)
        (repeat (refine And.intro (by omega) ?_))
        exact ⟨Q - (k + 1), by omega, k + 1, _, _, _, _, _, _, _, rfl, rfl, by omega, .inr ⟨by omega, rfl, rfl, _, _, _, rfl⟩⟩
  have hke : k = Q := by omega
  have hQp : 0 < Q := by rw [← hQ]; exact Nat.mul_pos (by omega) (by omega)
  rcases hc with ⟨ht0, _, _, _⟩ | ⟨_, rfl, rfl, T1, T2, J, rfl⟩
  · omega
  subst hke
  have e6 : ((k : Int) < (k : Int)) = False := by simp
  have ea : G'.length + 1 + 1 = G'.length + 2 := rfl
  have eb : G'.length + 1 + 3 = G'.length + 4 := rfl
  unfold uB
  (refine gw4 @e6 @lq @ea @eb ?_; try exact True.intro)
  refine wpF_give1 (G'.length + 2) 3 ?_
  have ht1 := take_rL (F := oF W nz) (t := k)
  have hm1 := @mapO_rL
  (refine gw2 @ht1 @hm1 ?_; try exact True.intro)
  have hb1 := @bnds_rL
  have hQm : W * N * m = k := by rw [← hQ, Nat.mul_assoc]
  have hQd : k / W = N * m := by rw [← hQ]; exact Nat.mul_div_cancel_left _ (by omega)
  have hll : ∀ F : Nat → BitVec 64, ((List.range k).map F).length = k := fun F => by simp
  have h13o : ∀ {K : AV → Heap → Prop} {H : Heap}, K (.tup [.ro .leaf (rL (foF W N ((List.range k).map (oF W nz)) W) (N * m)), .int 0]) H → wpF P [] 13 [.int W, .int N, .ro .leaf (rL (oF W nz) k)] H K := fun h => by
    rw [rL_map (F := oF W nz)]
    refine f13 (by rw [hll]; omega) hw (by rw [hll, ← hQm]; exact Nat.mul_mod_right _ _) (fit_map (F := fun k => nz.getD (k % nz.length) 0)) ?_
    rw [hll, hQd]; exact h
  have h13p : ∀ {K : AV → Heap → Prop} {H : Heap}, K (.tup [.ro .leaf (rL (foF W N ((List.range k).map (pF W N nz zs cl)) W) (N * m)), .int 0]) H → wpF P [] 13 [.int W, .int N, .ro .leaf (rL (pF W N nz zs cl) k)] H K := fun h => by
    rw [rL_map (F := pF W N nz zs cl)]
    refine f13 (by rw [hll]; omega) hw (by rw [hll, ← hQm]; exact Nat.mul_mod_right _ _) (fit_map (F := fun k => (if bfn cl (k / N) then spF W N zs k else 0) - oF W nz k)) ?_
    rw [hll, hQd]; exact h
  have h15 : ∀ {K : AV → Heap → Prop} {H : Heap}, K (.tup [.ro .leaf (rL (roF W N xs zs) (N * m)), .int 0]) H → wpF P [] 15 [.int W, .int N, .ro .leaf (xs.map .u64), .ro .leaf (zs.map .u64)] H K := fun h => by
    refine f15 (by omega) hw (by rw [hyl, hxl]) ?_
    rw [hyl]; exact h
  have hlaw : ∀ t, t < N * m → msk W (foF W N ((List.range k).map (oF W nz)) W t + foF W N ((List.range k).map (pF W N nz zs cl)) W t) = roF W N xs zs t := fun t ht => by
    have := folds_eq (W := W) (N := N) (t := t) hg (xl := xs) (yl := zs) (O := oF W nz) (Pf := pF W N nz zs cl) (by omega) hxl (by rw [Nat.mul_comm]; exact ht) fun q _ => by unfold pF; rw [hcl]
    rw [← hQ2] at this
    exact this
  generalize foF W N ((List.range k).map (oF W nz)) W = A at *
  generalize foF W N ((List.range k).map (pF W N nz zs cl)) W = B at *
  have ht2 := take_rL (F := pF W N nz zs cl) (t := k)
  have lA := rL_len (F := A) (t := N * m)
  have lB := rL_len (F := B) (t := N * m)
  have lR := rL_len (F := roF W N xs zs) (t := N * m)
  refine h13o ?_
  (refine gw0 ?_; try exact True.intro)
  refine wpF_give1 (G'.length + 4) 3 ?_
  (refine gw2 @ht2 @hm1 ?_; try exact True.intro)
  refine h13p ?_
  (refine gw0 ?_; try exact True.intro)
  refine h15 ?_
  (refine gw3 @lA @lB @lR ?_; try exact True.intro)
  generalize hHH : G' ++ _ = HH
  refine wp_inv (I5d (N * m) W N xs zs A B (roF W N xs zs) _ _ _ _ _ _ _ _ _ _ _ _ _ _ HH) (N * m) ⟨0, _, _, rfl, rfl, Nat.zero_le _⟩ ?_
  rintro k st ⟨t, u33, u34, rfl, rfl, ht⟩
  by_cases htl : t < N * m
  · have e7 : ((t : Int) < ((N * m : Nat) : Int)) = True := by simp only [eq_iff_iff, iff_true]; omega
    have gA : (rL A (N * m)).getD t .un = .u64 (A t) := ld_rng htl
    have gB : (rL B (N * m)).getD t .un = .u64 (B t) := ld_rng htl
    have gR : (rL (roF W N xs zs) (N * m)).getD t .un = .u64 (roF W N xs zs t) := ld_rng htl
    have hl1 := hlaw t htl
    have htN : t / N < xs.length := by rw [hxl]; exact (Nat.div_lt_iff_lt_mul (by omega)).2 (by rw [Nat.mul_comm]; exact htl)
    have gx := ld_u64 htN
    have gz := ld_u64 (show t < zs.length by omega)
    have htd : Int.tdiv (t : Int) (N : Int) = ((t / N : Nat) : Int) := (Int.ofNat_tdiv _ _).symm
    have hl2 : msk W (xs.getD (t / N) 0 * zs.getD t 0) = roF W N xs zs t := rfl
    have htk : t / N ≤ t := Nat.div_le_self _ _
    have lx : (xs.map AV.u64).length = xs.length := by simp
    have lzz : (zs.map AV.u64).length = zs.length := by simp
    generalize t / N = q at *
    generalize roF W N xs zs t = r at *
    (refine gw7 @e7 @lA @lB @lR @gA @gB @gR ?_; try exact True.intro)
    refine drawn _ (f23 ⟨rfl, rfl⟩) ?_
    rw [hcm, hl1]
    (refine gw13 @e7 @lA @lB @lR @gA @gB @gR @htd @n0 @gx @gz @lx @lzz ?_; try exact True.intro)
    (repeat (refine And.intro (by omega) ?_))
    refine drawn _ (f24 ⟨rfl, rfl⟩) ?_
    rw [hcm, hl2]
    (refine gw13 @e7 @lA @lB @lR @gA @gB @gR @htd @n0 @gx @gz @lx @lzz ?_; try exact True.intro)
    (repeat (refine And.intro (by omega) ?_))
    exact ⟨N * m - (t + 1), by omega, t + 1, _, _, rfl, rfl, by omega⟩
  · have e7 : ((t : Int) < ((N * m : Nat) : Int)) = False := by simp only [eq_iff_iff, iff_false]; omega
    (refine gw2 @e7 @lR ?_; try exact True.intro)
    refine f6 ?_
    (refine gw0 ?_; try exact True.intro)
    exact ⟨by rw [← hHH]; exact htake _, h⟩
end Go.Proofs.Ytajkclooknanjaa

end
