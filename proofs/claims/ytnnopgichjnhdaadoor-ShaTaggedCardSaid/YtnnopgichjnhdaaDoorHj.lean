/-
  Layer 4 (sha), as this seat's program has it: the first eight bytes as a number, awake.
-/
import Derived.Test.YtnnopgichjnhdaaDoorHk
import Derived.Test.YtnnopgichjnhdaaDoorV38
section
open Go Go.V
namespace Go.Proofs.YtnnopgichjnhdaaDoor
/-- trefoil/sha.Low (0:d, 1:d, 2:, 3:n, 4:i, 5:, 6:) -/
def s14 : FnS := ⟨20, [0, 1, 2, 3, 4, 5, 6],
    (.seq (.reg [⟨.var 1, (.e (.box 32 (.arr 32 .leaf))), [.t 0], none⟩,
      ⟨.var 2, (.q .mv), [.c (.u64 0)], none⟩])
    (.seq (.reg [⟨.var 3, (.q .mv), [.c (.u64 0)], none⟩])
    (.seq (.seq (.reg [⟨.var 5, (.q .mv), [.c (.int 0)], none⟩])
    (.block 0 (.loop (.seq (.reg [⟨.var 6, (.q (.bin .lss)), [.t 5, .c (.int 8)], none⟩])
    (.seq (.cond (.t 6) .skip
    (.exit 0))
    (.seq (.block 1 (.seq (.reg [⟨.new, (.q .mv), [.t 5], none⟩,
      ⟨.var 4, (.q .mv), [.t 7], none⟩])
    (.reg [⟨.new, (.q .mv), [.t 3], none⟩,
      ⟨.new, (.q .mv), [.t 4], none⟩,
      ⟨.new, (.q (.iaA 32 .leaf)), [.t 1, .t 8], none⟩,
      ⟨.new, (.q (.ld .leaf)), [.t 9], none⟩,
      ⟨.new, (.q (.cv .u64)), [.t 10], none⟩,
      ⟨.new, (.q .mv), [.t 4], none⟩,
      ⟨.new, (.q (.bin .mul)), [.c (.int 8), .t 12], none⟩,
      ⟨.new, (.q (.cv .u64)), [.t 13], none⟩,
      ⟨.new, (.q (.bin .shl)), [.t 11, .t 14], none⟩,
      ⟨.new, (.q (.bin .or)), [.t 7, .t 15], none⟩,
      ⟨.var 3, (.q .mv), [.t 16], none⟩])))
    (.reg [⟨.new, (.q (.bin .add)), [.t 5, .c (.int 1)], none⟩,
      ⟨.var 5, (.q .mv), [.t 7], none⟩])))))))
    (.seq (.reg [⟨.new, (.q .mv), [.t 3], none⟩,
      ⟨.var 2, (.q .mv), [.t 7], none⟩])
    .ret)))),
    [.t 2]⟩

/-- trefoil/trefoilref04.Low (0:d, 1:d, 2:, 3:n, 4:i, 6:) -/
def s15 : FnS := ⟨17, [0, 1, 2, 3, 4, 6],
    (.seq (.reg [⟨.var 1, (.e (.box 32 (.arr 32 .leaf))), [.t 0], none⟩,
      ⟨.var 2, (.q .mv), [.c (.u64 0)], none⟩])
    (.seq (.reg [⟨.var 3, (.q .mv), [.c (.u64 0)], none⟩])
    (.seq (.seq (.reg [⟨.var 4, (.q .mv), [.c (.int 7)], none⟩])
    (.block 0 (.loop (.seq (.seq (.reg [⟨.new, (.q .mv), [.t 4], none⟩,
      ⟨.var 5, (.q (.bin .geq)), [.t 6, .c (.int 0)], none⟩])
    (.cond (.t 5) .skip
    (.exit 0)))
    (.seq (.block 1 (.reg [⟨.new, (.q .mv), [.t 3], none⟩,
      ⟨.new, (.q (.bin .mul)), [.t 6, .c (.u64 256)], none⟩,
      ⟨.new, (.q .mv), [.t 4], none⟩,
      ⟨.new, (.q (.iaA 32 .leaf)), [.t 1, .t 8], none⟩,
      ⟨.new, (.q (.ld .leaf)), [.t 9], none⟩,
      ⟨.new, (.q (.cv .u64)), [.t 10], none⟩,
      ⟨.new, (.q (.bin .add)), [.t 7, .t 11], none⟩,
      ⟨.var 3, (.q .mv), [.t 12], none⟩]))
    (.reg [⟨.new, (.q .mv), [.t 4], none⟩,
      ⟨.new, (.q (.bin .sub)), [.t 6, .c (.int 1)], none⟩,
      ⟨.var 4, (.q .mv), [.t 7], none⟩]))))))
    (.seq (.reg [⟨.new, (.q .mv), [.t 3], none⟩,
      ⟨.var 2, (.q .mv), [.t 6], none⟩])
    .ret)))),
    [.t 2]⟩

/-- trefoil/trefoillaw04.awake (0:, 1:d) -/
def s8 : FnS := ⟨26, [0, 1],
    (.seq (.reg [⟨.var 0, (.q .mv), [.c (.bool false)], none⟩])
    (.seq (.reg [⟨.new, (.call 11), [.c (.str [97, 98, 99])], none⟩,
      ⟨.var 1, (.e (.alloc 32 (.arr 32 .leaf) (.agg [(.u8 0), (.u8 0), (.u8 0), (.u8 0), (.u8 0), (.u8 0), (.u8 0), (.u8 0), (.u8 0), (.u8 0), (.u8 0), (.u8 0), (.u8 0), (.u8 0), (.u8 0), (.u8 0), (.u8 0), (.u8 0), (.u8 0), (.u8 0), (.u8 0), (.u8 0), (.u8 0), (.u8 0), (.u8 0), (.u8 0), (.u8 0), (.u8 0), (.u8 0), (.u8 0), (.u8 0), (.u8 0)]))), [], none⟩,
      ⟨.none, (.e (.store (.arr 32 .leaf))), [.t 1, .t 2], none⟩])
    (.seq (.reg [⟨.new, (.q (.iaA 32 .leaf)), [.t 1, .c (.int 0)], none⟩,
      ⟨.new, (.q (.ld .leaf)), [.t 2], none⟩,
      ⟨.new, (.q (.bin .eql)), [.t 3, .c (.u8 186)], none⟩,
      ⟨.new, (.q .mv), [.t 4], none⟩,
      ⟨.new, (.q (.iaA 32 .leaf)), [.t 1, .c (.int 1)], (some (5, true))⟩,
      ⟨.new, (.q (.ld .leaf)), [.t 6], (some (5, true))⟩,
      ⟨.new, (.q (.bin .eql)), [.t 7, .c (.u8 120)], (some (5, true))⟩,
      ⟨.new, (.q .pick), [.t 5, .t 8, .c (.bool false)], none⟩,
      ⟨.new, (.q .mv), [.t 9], none⟩,
      ⟨.new, (.q (.iaA 32 .leaf)), [.t 1, .c (.int 2)], (some (10, true))⟩,
      ⟨.new, (.q (.ld .leaf)), [.t 11], (some (10, true))⟩,
      ⟨.new, (.q (.bin .eql)), [.t 12, .c (.u8 22)], (some (10, true))⟩,
      ⟨.new, (.q .pick), [.t 10, .t 13, .c (.bool false)], none⟩,
      ⟨.new, (.q .mv), [.t 14], none⟩,
      ⟨.new, (.q (.iaA 32 .leaf)), [.t 1, .c (.int 3)], (some (15, true))⟩,
      ⟨.new, (.q (.ld .leaf)), [.t 16], (some (15, true))⟩,
      ⟨.new, (.q (.bin .eql)), [.t 17, .c (.u8 191)], (some (15, true))⟩,
      ⟨.new, (.q .pick), [.t 15, .t 18, .c (.bool false)], none⟩,
      ⟨.new, (.q .mv), [.t 19], none⟩,
      ⟨.new, (.q (.iaA 32 .leaf)), [.t 1, .c (.int 31)], (some (20, true))⟩,
      ⟨.new, (.q (.ld .leaf)), [.t 21], (some (20, true))⟩,
      ⟨.new, (.q (.bin .eql)), [.t 22, .c (.u8 173)], (some (20, true))⟩,
      ⟨.new, (.q .pick), [.t 20, .t 23, .c (.bool false)], none⟩,
      ⟨.var 0, (.q .mv), [.t 24], none⟩])
    .ret))),
    [.t 0]⟩

set_option maxRecDepth 100000
set_option linter.unusedSimpArgs false
set_option linter.unusedVariables false
theorem c14 : cF P G (drP P G) 14 1 s14.vm = some s14 := by kernel_rfl
theorem c15 : cF P G (drP P G) 15 1 s15.vm = some s15 := by kernel_rfl
theorem c8 : cF P G (drP P G) 8 0 s8.vm = some s8 := by kernel_rfl
/-- the first i bytes as a number, the lowest one first -/
def lo (d : List (BitVec 8)) : Nat → BitVec 64
  | 0 => 0
  | i + 1 => lo d i ||| (d.getD i 0).setWidth 64 <<< (8 * i)
/-- .. reckoned from the highest one -/
def hr (d : List (BitVec 8)) : Nat → BitVec 64
  | 0 => 0
  | j + 1 => hr d j * 256 + (d.getD (7 - j) 0).setWidth 64
def nv (d : List (BitVec 8)) : Nat → Nat
  | 0 => 0
  | i + 1 => nv d i + (d.getD i 0).toNat * 2 ^ (8 * i)
def hv (d : List (BitVec 8)) : Nat → Nat
  | 0 => 0
  | j + 1 => hv d j * 256 + (d.getD (7 - j) 0).toNat
theorem or_sh64 (x y : BitVec 64) (i : Nat) (hx : x.toNat < 2 ^ i) (hy : y.toNat * 2 ^ i < 2 ^ 64) : (x ||| y <<< i).toNat = x.toNat + y.toNat * 2 ^ i := by
  rw [BitVec.toNat_or, BitVec.toNat_shiftLeft, Nat.shiftLeft_eq, Nat.mod_eq_of_lt hy, Nat.or_comm, ← Nat.shiftLeft_eq, ← Nat.shiftLeft_add_eq_or_of_lt hx, Nat.add_comm]
theorem lo_nat {d : List (BitVec 8)} : ∀ {i : Nat}, i ≤ 8 → (lo d i).toNat = nv d i ∧ nv d i < 2 ^ (8 * i)
  | 0, _ => ⟨rfl, by simp [nv]⟩
  | i + 1, h => by
    obtain ⟨e, l⟩ := lo_nat (d := d) (i := i) (by omega)
    have hb := (d.getD i 0).isLt
    have hsw : ((d.getD i 0).setWidth 64).toNat = (d.getD i 0).toNat := by rw [BitVec.toNat_setWidth]; omega
    have hp : 2 ^ (8 * (i + 1)) = 256 * 2 ^ (8 * i) := by rw [show 8 * (i + 1) = 8 + 8 * i by omega, Nat.pow_add]
    have hm : (d.getD i 0).toNat * 2 ^ (8 * i) ≤ 255 * 2 ^ (8 * i) := Nat.mul_le_mul_right _ (by omega)
    have hle : 2 ^ (8 * (i + 1)) ≤ 2 ^ 64 := Nat.pow_le_pow_right (by omega) (by omega)
    rw [lo, or_sh64 _ _ _ (by rw [e]; exact l) (by rw [hsw]; omega), e, hsw]
    exact ⟨rfl, by rw [nv]; omega⟩
theorem hr_nat {d : List (BitVec 8)} : ∀ {j : Nat}, j ≤ 8 → (hr d j).toNat = hv d j ∧ hv d j < 2 ^ (8 * j)
  | 0, _ => ⟨rfl, by simp [hv]⟩
  | j + 1, h => by
    obtain ⟨e, l⟩ := hr_nat (d := d) (j := j) (by omega)
    have hb := (d.getD (7 - j) 0).isLt
    have hsw : ((d.getD (7 - j) 0).setWidth 64).toNat = (d.getD (7 - j) 0).toNat := by rw [BitVec.toNat_setWidth]; omega
    have hp : 2 ^ (8 * (j + 1)) = 256 * 2 ^ (8 * j) := by rw [show 8 * (j + 1) = 8 + 8 * j by omega, Nat.pow_add]
    have hle : 2 ^ (8 * (j + 1)) ≤ 2 ^ 64 := Nat.pow_le_pow_right (by omega) (by omega)
    have hlt : hv d (j + 1) < 2 ^ (8 * (j + 1)) := by rw [hv]; omega
    refine ⟨?_, hlt⟩
    rw [hr, BitVec.toNat_add, BitVec.toNat_mul, e, hsw, show (256 : BitVec 64).toNat = 256 from rfl]
    rw [hv] at hlt ⊢
    rw [Nat.mod_eq_of_lt (a := hv d j * 256) (by omega), Nat.mod_eq_of_lt (by omega)]
theorem hr_lo {d : List (BitVec 8)} : hr d 8 = lo d 8 := by
  apply BitVec.eq_of_toNat_eq
  rw [(hr_nat (Nat.le_refl 8)).1, (lo_nat (Nat.le_refl 8)).1]
  simp only [hv, nv, show 7 - 0 = 7 from rfl, show 7 - 1 = 6 from rfl, show 7 - 2 = 5 from rfl, show 7 - 3 = 4 from rfl, show 7 - 4 = 3 from rfl, show 7 - 5 = 2 from rfl, show 7 - 6 = 1 from rfl, show 7 - 7 = 0 from rfl]
  omega
theorem m8_at {d : List (BitVec 8)} {i : Nat} (h : i < d.length) : (d.map AV.u8)[i]? = some (.u8 (d.getD i 0)) := by
  rw [List.getElem?_map, List.getElem?_eq_getElem h, List.getD_eq_getElem?_getD, List.getElem?_eq_getElem h]
  rfl
def I14 (d : List (BitVec 8)) (a : AV) (H : Heap) (k : Nat) (st : St) : Prop :=
  ∃ (i : Nat) (u4 u6 : AV), st = ⟨[a, .ptr H.length 0 [0] (.arr 32 .leaf), .u64 0, .u64 (lo d i), u4, .int (i : Int), u6], H ++ [Y32 (d.map .u8)]⟩ ∧ k = 8 - i ∧ i ≤ 8
theorem f14 {K : AV → Heap → Prop} {H : Heap} {d : List (BitVec 8)} (hd : d.length = 32) (h : K (.u64 (lo d 8)) H) : wpF P G 14 [.agg (d.map .u8)] H K := by
  refine wpF_go c14 rfl 3 ?_
  intro ha hb
  simp only [s14]
  clear ha hb
  (refine gw1 @hd ?_; try exact True.intro)
  refine wp_inv (I14 d _ H) 8 ⟨0, _, _, rfl, rfl, by omega⟩ ?_
  rintro k st ⟨i, u4, u6, rfl, rfl, hi⟩
  unfold Y32
  by_cases hil : i < 8
  · have h1 : ((i : Int) < 8) = True := by simp only [eq_iff_iff, iff_true]; omega
    have e2 : 8 * (i : Int) = ((8 * i : Nat) : Int) := by omega
    have e3 : (BitVec.ofInt 64 ((8 * i : Nat) : Int)).toNat = 8 * i := ofInt64_nat (by omega)
    have g1 := m8_at (d := d) (i := i) (by omega)
    have e4 : lo d i ||| (d.getD i 0).setWidth 64 <<< (8 * i) = lo d (i + 1) := rfl
    (refine gw6 @h1 @e2 @e3 @g1 @hd @e4 ?_; try exact True.intro)
    (repeat (refine And.intro (by omega) ?_))
    exact ⟨8 - (i + 1), by omega, i + 1, _, _, rfl, rfl, by omega⟩
  · have h1 : ((i : Int) < 8) = False := by simp only [eq_iff_iff, iff_false]; omega
    have hie : i = 8 := by omega
    subst hie
    generalize lo d 8 = w at *
    (refine gw1 @h1 ?_; try exact True.intro)
    exact h
def I15 (d : List (BitVec 8)) (a : AV) (H : Heap) (k : Nat) (st : St) : Prop :=
  ∃ (z : Int) (u5 : AV), st = ⟨[a, .ptr H.length 0 [0] (.arr 32 .leaf), .u64 0, .u64 (hr d (8 - k)), .int z, u5], H ++ [Y32 (d.map .u8)]⟩ ∧ z = (k : Int) - 1 ∧ k ≤ 8
theorem f15 {K : AV → Heap → Prop} {H : Heap} {d : List (BitVec 8)} (hd : d.length = 32) (h : K (.u64 (lo d 8)) H) : wpF P G 15 [.agg (d.map .u8)] H K := by
  refine wpF_go c15 rfl 3 ?_
  intro ha hb
  simp only [s15]
  clear ha hb
  (refine gw1 @hd ?_; try exact True.intro)
  refine wp_inv (I15 d _ H) 8 ⟨_, _, rfl, rfl, by omega⟩ ?_
  rintro k st ⟨z, u5, rfl, rfl, hk⟩
  unfold Y32
  cases k with
  | zero =>
    have h1 : ((0 : Int) ≤ ((0 : Nat) : Int) - 1) = False := by simp
    rw [← hr_lo] at h
    generalize hw : hr d (8 - 0) = w
    rw [show hr d 8 = w from hw] at h
    (refine gw1 @h1 ?_; try exact True.intro)
    exact h
  | succ k =>
    have h1 : ((0 : Int) ≤ ((k + 1 : Nat) : Int) - 1) = True := by simp only [eq_iff_iff, iff_true]; omega
    have e1 : ((k + 1 : Nat) : Int) - 1 = (k : Int) := by omega
    have g1 := m8_at (d := d) (i := k) (by omega)
    have e4 : hr d (8 - (k + 1)) * 256 + (d.getD k 0).setWidth 64 = hr d (8 - k) := by
      rw [show 8 - k = (8 - (k + 1)) + 1 by omega, hr, show 7 - (8 - (k + 1)) = k by omega]
    (refine gw5 @h1 @e1 @g1 @hd @e4 ?_; try exact True.intro)
    (repeat (refine And.intro (by omega) ?_))
    exact ⟨k, by omega, (k : Int) - 1, _, rfl, rfl, by omega⟩
theorem awk : List.getD (sha [97, 98, 99]) 0 0 = 186 ∧ List.getD (sha [97, 98, 99]) 1 0 = 120 ∧ List.getD (sha [97, 98, 99]) 2 0 = 22 ∧ List.getD (sha [97, 98, 99]) 3 0 = 191 ∧ List.getD (sha [97, 98, 99]) 31 0 = 173 := by
  decide +kernel
theorem f8 {K : AV → Heap → Prop} {H : Heap} (h : K (.bool true) H) : wpF P G 8 [] H K := by
  refine wpF_go c8 rfl 3 ?_
  intro ha hb
  simp only [s8]
  clear ha hb
  (refine gw0 ?_; try exact True.intro)
  refine f11 (by decide) ?_
  have hdd := sha_len (l := [97, 98, 99])
  obtain ⟨a0, a1, a2, a3, a4⟩ := awk
  generalize sha [97, 98, 99] = d at *
  have g0 := m8_at (d := d) (i := 0) (by omega)
  have g1 := m8_at (d := d) (i := 1) (by omega)
  have g2 := m8_at (d := d) (i := 2) (by omega)
  have g3 := m8_at (d := d) (i := 3) (by omega)
  have g4 := m8_at (d := d) (i := 31) (by omega)
  rw [a0] at g0
  rw [a1] at g1
  rw [a2] at g2
  rw [a3] at g3
  rw [a4] at g4
  (refine gw6 @hdd @g0 @g1 @g2 @g3 @g4 ?_; try exact True.intro)
  exact h
end Go.Proofs.YtnnopgichjnhdaaDoor

end

section
/-
  The laws of layer 4 (sha), walked: ShaLow, ShaSums, ShaNobody.
-/
open Go Go.V
namespace Go.Proofs.YtnnopgichjnhdaaDoor
/-- trefoil/trefoillaw04.ShaNobody (0:s, 2:, 3:x, 4:y) -/
def s4 : FnS := ⟨29, [0, 2, 3, 4],
    (.seq (.reg [⟨.var 1, (.q .mv), [.c (.bool false)], none⟩])
    (.seq (.reg [⟨.var 2, (.q .mv), [.c .nilp], none⟩])
    (.seq (.reg [⟨.new, (.q .mv), [.t 2], none⟩,
      ⟨.new, (.q .mv), [.t 0], none⟩,
      ⟨.new, (.call 9), [.t 4, .t 5], none⟩])
    (.seq (.reg [⟨.var 3, (.e (.alloc 29 (.st [(.arr 8 .leaf), .leaf, .leaf, .leaf]) (.agg [(.agg [(.u32 0), (.u32 0), (.u32 0), (.u32 0), (.u32 0), (.u32 0), (.u32 0), (.u32 0)]), (.str []), (.u64 0), (.bool false)]))), [], none⟩])
    (.seq (.reg [⟨.new, (.q .mv), [.t 2], none⟩,
      ⟨.new, (.call 10), [.t 4], none⟩,
      ⟨.new, (.e (.bld (.arr 32 .leaf) (.agg [(.u8 0), (.u8 0), (.u8 0), (.u8 0), (.u8 0), (.u8 0), (.u8 0), (.u8 0), (.u8 0), (.u8 0), (.u8 0), (.u8 0), (.u8 0), (.u8 0), (.u8 0), (.u8 0), (.u8 0), (.u8 0), (.u8 0), (.u8 0), (.u8 0), (.u8 0), (.u8 0), (.u8 0), (.u8 0), (.u8 0), (.u8 0), (.u8 0), (.u8 0), (.u8 0), (.u8 0), (.u8 0)]) [])), [], none⟩,
      ⟨.new, (.q (.eqA false 32 .u8)), [.t 5, .t 6], none⟩,
      ⟨.new, (.q .mv), [.t 7], none⟩,
      ⟨.new, (.q .mv), [.t 2], (some (8, true))⟩,
      ⟨.new, (.call 12), [.t 9], (some (8, true))⟩,
      ⟨.new, (.q (.bin .eql)), [.t 10, .c (.u64 0)], (some (8, true))⟩,
      ⟨.new, (.q .pick), [.t 8, .t 11, .c (.bool false)], none⟩,
      ⟨.new, (.q .mv), [.t 12], none⟩,
      ⟨.new, (.call 10), [.t 3], (some (13, true))⟩,
      ⟨.new, (.call 13), [.c (.str [])], (some (13, true))⟩,
      ⟨.new, (.q (.eqA false 32 .u8)), [.t 14, .t 15], (some (13, true))⟩,
      ⟨.new, (.q .pick), [.t 13, .t 16, .c (.bool false)], none⟩,
      ⟨.new, (.q .mv), [.t 17], none⟩,
      ⟨.new, (.call 12), [.t 3], (some (18, true))⟩,
      ⟨.new, (.q (.bin .eql)), [.t 19, .c (.u64 0)], (some (18, true))⟩,
      ⟨.new, (.q .pick), [.t 18, .t 20, .c (.bool false)], none⟩,
      ⟨.new, (.q .mv), [.t 21], none⟩,
      ⟨.new, (.call 8), [], (some (22, true))⟩,
      ⟨.new, (.q .pick), [.t 22, .t 23, .c (.bool false)], none⟩,
      ⟨.var 1, (.q .mv), [.t 24], none⟩])
    .ret))))),
    [.t 1]⟩

/-- trefoil/trefoillaw04.ShaSums (0:s, 2:, 3:d, 6:) -/
def s5 : FnS := ⟨24, [0, 2, 3, 6],
    (.seq (.reg [⟨.var 1, (.q .mv), [.c (.bool false)], none⟩])
    (.seq (.seq (.reg [⟨.new, (.q .mv), [.t 0], none⟩,
      ⟨.new, (.q .lenS), [.t 4], none⟩,
      ⟨.var 3, (.q (.bin .gtr)), [.t 5, .c (.int 700)], none⟩])
    (.cond (.t 3) (.seq (.reg [⟨.new, (.call 8), [], none⟩,
      ⟨.var 1, (.q .mv), [.t 4], none⟩])
    .ret)
    .skip))
    (.seq (.reg [⟨.new, (.q .mv), [.t 0], none⟩,
      ⟨.new, (.call 11), [.t 4], none⟩,
      ⟨.var 2, (.e (.alloc 32 (.arr 32 .leaf) (.agg [(.u8 0), (.u8 0), (.u8 0), (.u8 0), (.u8 0), (.u8 0), (.u8 0), (.u8 0), (.u8 0), (.u8 0), (.u8 0), (.u8 0), (.u8 0), (.u8 0), (.u8 0), (.u8 0), (.u8 0), (.u8 0), (.u8 0), (.u8 0), (.u8 0), (.u8 0), (.u8 0), (.u8 0), (.u8 0), (.u8 0), (.u8 0), (.u8 0), (.u8 0), (.u8 0), (.u8 0), (.u8 0)]))), [], none⟩,
      ⟨.none, (.e (.store (.arr 32 .leaf))), [.t 2, .t 5], none⟩])
    (.seq (.draw [⟨.new, (.q (.ld (.arr 32 .leaf))), [.t 2], none⟩,
      ⟨.new, (.q .mv), [.t 0], none⟩,
      ⟨.new, (.call 13), [.t 5], none⟩,
      ⟨.new, (.q (.eqA false 32 .u8)), [.t 4, .t 6], none⟩,
      ⟨.new, (.q .mv), [.t 7], none⟩,
      ⟨.new, (.q (.ld (.arr 32 .leaf))), [.t 2], (some (8, true))⟩,
      ⟨.new, (.call 14), [.t 9], (some (8, true))⟩,
      ⟨.new, (.q (.ld (.arr 32 .leaf))), [.t 2], (some (8, true))⟩,
      ⟨.new, (.call 15), [.t 11], (some (8, true))⟩,
      ⟨.new, (.q (.bin .eql)), [.t 10, .t 12], (some (8, true))⟩,
      ⟨.new, (.q .pick), [.t 8, .t 13, .c (.bool false)], none⟩,
      ⟨.new, (.q .mv), [.t 14], none⟩,
      ⟨.new, (.call 8), [], (some (15, true))⟩,
      ⟨.new, (.q .pick), [.t 15, .t 16, .c (.bool false)], none⟩,
      ⟨.var 1, (.q .mv), [.t 17], none⟩])
    .ret)))),
    [.t 1]⟩

/-- trefoil/trefoillaw04.ShaLow (0:d, 1:d, 2:) -/
def s6 : FnS := ⟨11, [0, 1, 2],
    (.seq (.reg [⟨.var 1, (.e (.box 32 (.arr 32 .leaf))), [.t 0], none⟩,
      ⟨.var 2, (.q .mv), [.c (.bool false)], none⟩])
    (.seq (.draw [⟨.new, (.q (.ld (.arr 32 .leaf))), [.t 1], none⟩,
      ⟨.new, (.call 14), [.t 3], none⟩,
      ⟨.new, (.q (.ld (.arr 32 .leaf))), [.t 1], none⟩,
      ⟨.new, (.call 15), [.t 5], none⟩,
      ⟨.new, (.q (.bin .eql)), [.t 4, .t 6], none⟩,
      ⟨.new, (.q .mv), [.t 7], none⟩,
      ⟨.new, (.call 8), [], (some (8, true))⟩,
      ⟨.new, (.q .pick), [.t 8, .t 9, .c (.bool false)], none⟩,
      ⟨.var 2, (.q .mv), [.t 10], none⟩])
    .ret)),
    [.t 2]⟩

set_option maxRecDepth 100000
set_option linter.unusedSimpArgs false
set_option linter.unusedVariables false
theorem c4 : cF P G (drP P G) 4 1 s4.vm = some s4 := by kernel_rfl
theorem c5 : cF P G (drP P G) 5 1 s5.vm = some s5 := by kernel_rfl
theorem c6 : cF P G (drP P G) 6 1 s6.vm = some s6 := by kernel_rfl
theorem m8_kind {d : List (BitVec 8)} : ∀ x, x ∈ d.map AV.u8 → AV.isKind .u8 x = true := fun x hx => by
  obtain ⟨a, _, rfl⟩ := List.mem_map.1 hx; rfl
theorem f6 {K : AV → Heap → Prop} {H : Heap} {d : List (BitVec 8)} (hd : d.length = 32) (h : K (.bool true) H) : wpF P G 6 [.agg (d.map .u8)] H K := by
  refine wpF_go c6 rfl 3 ?_
  intro ha hb
  simp only [s6]
  clear ha hb
  (refine gw1 @hd ?_; try exact True.intro)
  refine drawn _ (f14 hd ⟨rfl, rfl⟩) ?_
  (refine gw1 @hd ?_; try exact True.intro)
  refine drawn _ (f15 hd ⟨rfl, rfl⟩) ?_
  (refine gw1 @hd ?_; try exact True.intro)
  refine drawn _ (f8 ⟨rfl, rfl⟩) ?_
  (refine gw1 @hd ?_; try exact True.intro)
  exact h
theorem f5 {K : AV → Heap → Prop} {H : Heap} {s : List (BitVec 8)} (h : K (.bool true) H) : wpF P G 5 [.str s] H K := by
  refine wpF_go c5 rfl 3 ?_
  intro ha hb
  simp only [s5]
  clear ha hb
  by_cases hs : s.length ≤ 700
  · have h1 : ((700 : Int) < (s.length : Int)) = False := by simp only [eq_iff_iff, iff_false]; omega
    (refine gw1 @h1 ?_; try exact True.intro)
    refine f11 (by omega) ?_
    have hd := sha_len (l := s)
    have h13 : ∀ {K : AV → Heap → Prop} {H : Heap}, K (.agg ((sha s).map .u8)) H → wpF P G 13 [.str s] H K := fun h => f13 (by omega) h
    generalize sha s = d at *
    (refine gw1 @hd ?_; try exact True.intro)
    refine drawn _ (h13 ⟨rfl, rfl⟩) ?_
    (refine gw1 @hd ?_; try exact True.intro)
    refine ⟨m8_kind, ?_⟩
    refine drawn _ (f14 hd ⟨rfl, rfl⟩) ?_
    (refine gw1 @hd ?_; try exact True.intro)
    refine drawn _ (f15 hd ⟨rfl, rfl⟩) ?_
    (refine gw1 @hd ?_; try exact True.intro)
    refine drawn _ (f8 ⟨rfl, rfl⟩) ?_
    (refine gw1 @hd ?_; try exact True.intro)
    exact h
  · have h1 : ((700 : Int) < (s.length : Int)) = True := by simp only [eq_iff_iff, iff_true]; omega
    (refine gw1 @h1 ?_; try exact True.intro)
    refine f8 ?_
    (refine gw0 ?_; try exact True.intro)
    exact h
theorem f10n {K : AV → Heap → Prop} {H : Heap} (h : K (.agg [.u8 0, .u8 0, .u8 0, .u8 0, .u8 0, .u8 0, .u8 0, .u8 0, .u8 0, .u8 0, .u8 0, .u8 0, .u8 0, .u8 0, .u8 0, .u8 0, .u8 0, .u8 0, .u8 0, .u8 0, .u8 0, .u8 0, .u8 0, .u8 0, .u8 0, .u8 0, .u8 0, .u8 0, .u8 0, .u8 0, .u8 0, .u8 0]) H) : wpF P G 10 [.nilp] H K := by
  refine wpF_go c10 rfl 3 ?_
  intro ha hb
  simp only [s10]
  clear ha hb
  (refine gw0 ?_; try exact True.intro)
  exact h
theorem f4 {K : AV → Heap → Prop} {H : Heap} {s : List (BitVec 8)} (h : K (.bool true) H) : wpF P G 4 [.str s] H K := by
  refine wpF_go c4 rfl 3 ?_
  intro ha hb
  simp only [s4]
  clear ha hb
  (refine gw0 ?_; try exact True.intro)
  refine f9n ?_
  (refine gw0 ?_; try exact True.intro)
  refine f10n ?_
  (refine gw0 ?_; try exact True.intro)
  refine ⟨by rfl, ?_⟩
  refine f12n ?_
  (refine gw0 ?_; try exact True.intro)
  refine f10 (on := false) (l := []) ((hget_k (k := 0)).trans rfl) (fun _ => rfl) (by decide) ?_
  have h13 : ∀ {K : AV → Heap → Prop} {H : Heap}, K (.agg ((sha []).map .u8)) H → wpF P G 13 [.str []] H K := fun h => f13 (by decide) h
  have hd := sha_len (l := [])
  generalize sha [] = d at *
  (refine gw1 @hd ?_; try exact True.intro)
  refine h13 ?_
  (refine gw1 @hd ?_; try exact True.intro)
  refine ⟨m8_kind, ?_⟩
  refine f12 (on := false) (l := []) ((hget_k (k := 0)).trans rfl) (fun _ => rfl) ?_
  have e0 : ((0#64 : BitVec 64) = 0) = True := by simp
  (refine gw1 @e0 ?_; try exact True.intro)
  refine f8 ?_
  (refine gw0 ?_; try exact True.intro)
  exact h
end Go.Proofs.YtnnopgichjnhdaaDoor

end

section
/-
  The law ShaParts of layer 4 (sha), walked.
-/
open Go Go.V
namespace Go.Proofs.YtnnopgichjnhdaaDoor
/-- trefoil/trefoillaw04.ShaParts (0:l, 2:, 3:x, 4:all, 5:i, 8:, 13:, 21:, 49:, 52:) -/
def s3 : FnS := ⟨67, [0, 2, 3, 4, 5, 8, 13, 21, 49, 52],
    (.seq (.reg [⟨.var 1, (.q .mv), [.c (.bool false)], none⟩])
    (.seq (.seq (.reg [⟨.new, (.q .mv), [.t 0], none⟩,
      ⟨.new, (.q .len), [.t 10], none⟩,
      ⟨.var 5, (.q (.bin .gtr)), [.t 11, .c (.int 20)], none⟩])
    (.cond (.t 5) (.seq (.reg [⟨.new, (.call 8), [], none⟩,
      ⟨.var 1, (.q .mv), [.t 10], none⟩])
    .ret)
    .skip))
    (.seq (.reg [⟨.var 2, (.e (.alloc 29 (.st [(.arr 8 .leaf), .leaf, .leaf, .leaf]) (.agg [(.agg [(.u32 0), (.u32 0), (.u32 0), (.u32 0), (.u32 0), (.u32 0), (.u32 0), (.u32 0)]), (.str []), (.u64 0), (.bool false)]))), [], none⟩])
    (.seq (.reg [⟨.var 3, (.q .mv), [.c (.str [])], none⟩])
    (.seq (.seq (.reg [⟨.var 4, (.q .mv), [.c (.int 0)], none⟩])
    (.block 0 (.loop (.seq (.seq (.reg [⟨.new, (.q .mv), [.t 4], none⟩,
      ⟨.new, (.q .mv), [.t 0], none⟩,
      ⟨.new, (.q .len), [.t 11], none⟩,
      ⟨.var 6, (.q (.bin .lss)), [.t 10, .t 12], none⟩])
    (.cond (.t 6) .skip
    (.exit 0)))
    (.seq (.block 1 (.seq (.seq (.reg [⟨.new, (.q .mv), [.t 0], none⟩,
      ⟨.new, (.q .mv), [.t 4], none⟩,
      ⟨.new, (.q (.iaS .leaf)), [.t 10, .t 11], none⟩,
      ⟨.new, (.q (.ld .leaf)), [.t 12], none⟩,
      ⟨.new, (.q .lenS), [.t 13], none⟩,
      ⟨.var 7, (.q (.bin .gtr)), [.t 14, .c (.int 200)], none⟩])
    (.cond (.t 7) (.seq (.reg [⟨.new, (.call 8), [], none⟩,
      ⟨.var 1, (.q .mv), [.t 10], none⟩])
    .ret)
    .skip))
    (.seq (.reg [⟨.new, (.q .mv), [.t 0], none⟩,
      ⟨.new, (.q .mv), [.t 4], none⟩,
      ⟨.new, (.q (.iaS .leaf)), [.t 10, .t 11], none⟩,
      ⟨.new, (.q (.ld .leaf)), [.t 12], none⟩,
      ⟨.new, (.call 9), [.t 2, .t 13], none⟩])
    (.seq (.reg [⟨.new, (.q .mv), [.t 3], none⟩,
      ⟨.new, (.q .mv), [.t 0], none⟩,
      ⟨.new, (.q .mv), [.t 4], none⟩,
      ⟨.new, (.q (.iaS .leaf)), [.t 11, .t 12], none⟩,
      ⟨.new, (.q (.ld .leaf)), [.t 13], none⟩,
      ⟨.new, (.q (.bin .add)), [.t 10, .t 14], none⟩,
      ⟨.var 3, (.q .mv), [.t 15], none⟩])
    (.seq (.reg [⟨.new, (.q .mv), [.t 4], none⟩,
      ⟨.new, (.q (.bin .rem)), [.t 10, .c (.int 3)], none⟩,
      ⟨.new, (.q (.bin .eql)), [.t 11, .c (.int 0)], none⟩,
      ⟨.new, (.q .mv), [.t 12], none⟩,
      ⟨.new, (.call 10), [.t 2], (some (13, true))⟩,
      ⟨.new, (.q .mv), [.t 3], (some (13, true))⟩,
      ⟨.new, (.call 11), [.t 15], (some (13, true))⟩,
      ⟨.new, (.q (.eqA true 32 .u8)), [.t 14, .t 16], (some (13, true))⟩,
      ⟨.new, (.q .pick), [.t 13, .t 17, .c (.bool false)], none⟩,
      ⟨.new, (.q .mv), [.t 18], none⟩,
      ⟨.new, (.call 12), [.t 2], (some (19, false))⟩,
      ⟨.new, (.q .mv), [.t 3], (some (19, false))⟩,
      ⟨.new, (.q .lenS), [.t 21], (some (19, false))⟩,
      ⟨.new, (.q (.cv .u64)), [.t 22], (some (19, false))⟩,
      ⟨.new, (.q (.bin .neq)), [.t 20, .t 23], (some (19, false))⟩,
      ⟨.var 8, (.q .pick), [.t 19, .c (.bool true), .t 24], none⟩])
    (.cond (.t 8) (.seq (.reg [⟨.var 1, (.q .mv), [.c (.bool false)], none⟩])
    .ret)
    .skip))))))
    (.reg [⟨.new, (.q .mv), [.t 4], none⟩,
      ⟨.new, (.q (.bin .add)), [.t 10, .c (.int 1)], none⟩,
      ⟨.var 4, (.q .mv), [.t 11], none⟩]))))))
    (.seq (.seq (.reg [⟨.new, (.q .mv), [.t 3], none⟩,
      ⟨.new, (.q .lenS), [.t 10], none⟩,
      ⟨.var 9, (.q (.bin .gtr)), [.t 11, .c (.int 1000)], none⟩])
    (.cond (.t 9) (.seq (.reg [⟨.new, (.call 10), [.t 2], none⟩,
      ⟨.new, (.q .mv), [.t 3], none⟩,
      ⟨.new, (.call 11), [.t 11], none⟩,
      ⟨.new, (.q (.eqA false 32 .u8)), [.t 10, .t 12], none⟩,
      ⟨.new, (.q .mv), [.t 13], none⟩,
      ⟨.new, (.call 8), [], (some (14, true))⟩,
      ⟨.new, (.q .pick), [.t 14, .t 15, .c (.bool false)], none⟩,
      ⟨.var 1, (.q .mv), [.t 16], none⟩])
    .ret)
    .skip))
    (.seq (.reg [⟨.new, (.call 10), [.t 2], none⟩,
      ⟨.new, (.q .mv), [.t 3], none⟩,
      ⟨.new, (.call 13), [.t 11], none⟩,
      ⟨.new, (.q (.eqA false 32 .u8)), [.t 10, .t 12], none⟩,
      ⟨.new, (.q .mv), [.t 13], none⟩,
      ⟨.new, (.call 8), [], (some (14, true))⟩,
      ⟨.new, (.q .pick), [.t 14, .t 15, .c (.bool false)], none⟩,
      ⟨.var 1, (.q .mv), [.t 16], none⟩])
    .ret))))))),
    [.t 1]⟩

set_option maxRecDepth 100000
set_option linter.unusedSimpArgs false
set_option linter.unusedVariables false
theorem c3 : cF P G (drP P G) 3 1 s3.vm = some s3 := by kernel_rfl
/-- the first i texts, one behind the other -/
def ct (ls : List (List (BitVec 8))) : Nat → List (BitVec 8)
  | 0 => []
  | i + 1 => ct ls i ++ ls.getD i []
theorem hct0 (ls : List (List (BitVec 8))) (i : Nat) (h : decide (0 < i) = false) : ct ls i = [] := by
  have : i = 0 := by simpa using h
  rw [this]; rfl
def I3 (ls : List (List (BitVec 8))) (H : Heap) (k : Nat) (st : St) : Prop :=
  ∃ (i : Nat) (u6 u7 u8 : AV), st = ⟨[.ro .leaf (ls.map .str), .bool false, .ptr H.length 0 [0] (.st [.arr 8 .leaf, .leaf, .leaf, .leaf]), .str (ct ls i), .int (i : Int), .bool false, u6, u7, u8, .un], H ++ [smB (smA (decide (0 < i)) (ct ls i))]⟩ ∧ k = ls.length - i ∧ i ≤ ls.length ∧ (ct ls i).length ≤ 200 * i
theorem f3 {K : AV → Heap → Prop} {H : Heap} {ls : List (List (BitVec 8))} (hll : ls.length ≤ 9223372036854775807) (hz : ∀ x ∈ ls, x.length ≤ 9223372036854775807) (h : K (.bool true) H) : wpF P G 3 [.ro .leaf (ls.map .str)] H K := by
  refine wpF_go c3 rfl 3 ?_
  intro ha hb
  simp only [s3]
  clear ha hb
  have lm : (ls.map AV.str).length = ls.length := by simp
  by_cases hl : ls.length ≤ 20
  · have h1 : ((20 : Int) < (ls.length : Int)) = False := by simp only [eq_iff_iff, iff_false]; omega
    (refine gw2 @h1 @lm ?_; try exact True.intro)
    refine wp_inv (I3 ls H) ls.length ⟨0, _, _, _, rfl, rfl, by omega, by simp [ct]⟩ ?_
    rintro k st ⟨i, u6, u7, u8, rfl, rfl, hi, hc⟩
    by_cases hil : i < ls.length
    · have h2 : ((i : Int) < (ls.length : Int)) = True := by simp only [eq_iff_iff, iff_true]; omega
      have g1 : (ls.map AV.str).getD i .un = .str (ls.getD i []) := by
        rw [List.getD_eq_getElem?_getD, List.getElem?_map, List.getElem?_eq_getElem hil, List.getD_eq_getElem?_getD, List.getElem?_eq_getElem hil]
        rfl
      have hzi := hz (ls.getD i []) (by rw [List.getD_eq_getElem?_getD, List.getElem?_eq_getElem hil]; exact List.getElem_mem hil)
      by_cases h200 : (ls.getD i []).length ≤ 200
      · have h3 : ((200 : Int) < ((ls.getD i []).length : Int)) = False := by simp only [eq_iff_iff, iff_false]; omega
        have hcs : ct ls i ++ ls.getD i [] = ct ls (i + 1) := rfl
        have hcl : (ct ls (i + 1)).length ≤ 200 * (i + 1) := by rw [← hcs, List.length_append]; omega
        have e1 : (i : Int).tmod 3 = ((i % 3 : Nat) : Int) := rfl
        have e2 : BitVec.ofInt 64 ((ct ls (i + 1)).length : Int) = BitVec.ofNat 64 (ct ls (i + 1)).length := BitVec.ofInt_natCast _ _
        have hd := sha_len (l := ct ls (i + 1))
        have h11 : ∀ {K : AV → Heap → Prop} {H : Heap}, K (.agg ((sha (ct ls (i + 1))).map .u8)) H → wpF P G 11 [.str (ct ls (i + 1))] H K := fun h => f11 (by omega) h
        have h10 : ∀ {K : AV → Heap → Prop}, K (.agg ((sha (ct ls (i + 1))).map .u8)) (H ++ [smB (smT (ct ls (i + 1)))]) → wpF P G 10 [.ptr H.length 0 [0] (.st [.arr 8 .leaf, .leaf, .leaf, .leaf])] (H ++ [smB (smT (ct ls (i + 1)))]) K := fun h => f10 (on := true) ((hget_k (k := 0)).trans rfl) (fun h => by cases h) (by omega) h
        have h12 : ∀ {K : AV → Heap → Prop}, K (.u64 (BitVec.ofNat 64 (ct ls (i + 1)).length)) (H ++ [smB (smT (ct ls (i + 1)))]) → wpF P G 12 [.ptr H.length 0 [0] (.st [.arr 8 .leaf, .leaf, .leaf, .leaf])] (H ++ [smB (smT (ct ls (i + 1)))]) K := fun h => f12 (on := true) (l := ct ls (i + 1)) ((hget_k (k := 0)).trans rfl) (fun h => by cases h) h
        generalize sha (ct ls (i + 1)) = d at *
        have hfin : ∀ u8', ∃ k', k' < ls.length - i ∧ I3 ls H k' ⟨[.ro .leaf (ls.map .str), .bool false, .ptr H.length 0 [0] (.st [.arr 8 .leaf, .leaf, .leaf, .leaf]), .str (ct ls (i + 1)), .int ((i : Int) + 1), .bool false, .bool true, .bool false, u8', .un], H ++ [smB (smT (ct ls (i + 1)))]⟩ := fun u8' => ⟨ls.length - (i + 1), by omega, i + 1, _, _, _, by rw [show decide (0 < i + 1) = true by simp]; rfl, rfl, by omega, hcl⟩
        have hub : (ct ls i).length + (ls.getD i []).length ≤ 9223372036854775807 := by omega
        have hub2 : (ct ls (i + 1)).length ≤ 9223372036854775807 := by omega
        by_cases h30 : i % 3 = 0
        · have h4 : (((i % 3 : Nat) : Int) = 0) = True := by rw [h30]; simp
          (refine gw4 @h2 @g1 @h3 @lm ?_; try exact True.intro)
          refine f9' (H0 := H) (L := []) (on := decide (0 < i)) (l := ct ls i) rfl rfl (hct0 ls i) (by omega) ?_
          rw [hcs]
          (refine gw5 @g1 @lm @hcs @e1 @h4 ?_; try exact True.intro)
          (repeat (refine And.intro (by omega) ?_))
          refine h10 ?_
          (refine gw0 ?_; try exact True.intro)
          refine h11 ?_
          (refine gw1 @hd ?_; try exact True.intro)
          refine ⟨m8_kind, ?_⟩
          refine h12 ?_
          (refine gw1 @e2 ?_; try exact True.intro)
          (repeat (refine And.intro (by omega) ?_))
          exact hfin _
        · have h4 : (((i % 3 : Nat) : Int) = 0) = False := by simp only [eq_iff_iff, iff_false]; omega
          (refine gw4 @h2 @g1 @h3 @lm ?_; try exact True.intro)
          refine f9' (H0 := H) (L := []) (on := decide (0 < i)) (l := ct ls i) rfl rfl (hct0 ls i) (by omega) ?_
          rw [hcs]
          (refine gw5 @g1 @lm @hcs @e1 @h4 ?_; try exact True.intro)
          (repeat (refine And.intro (by omega) ?_))
          refine h12 ?_
          (refine gw1 @e2 ?_; try exact True.intro)
          (repeat (refine And.intro (by omega) ?_))
          exact hfin _
      · have h3 : ((200 : Int) < ((ls.getD i []).length : Int)) = True := by simp only [eq_iff_iff, iff_true]; omega
        (refine gw4 @h2 @g1 @h3 @lm ?_; try exact True.intro)
        refine f8 ?_
        (refine gw0 ?_; try exact True.intro)
        exact h
    · have h2 : ((i : Int) < (ls.length : Int)) = False := by simp only [eq_iff_iff, iff_false]; omega
      have hie : i = ls.length := by omega
      subst hie
      have hcl : (ct ls ls.length).length ≤ 1000000 := by omega
      have hd := sha_len (l := ct ls ls.length)
      have h11 : ∀ {K : AV → Heap → Prop} {H : Heap}, K (.agg ((sha (ct ls ls.length)).map .u8)) H → wpF P G 11 [.str (ct ls ls.length)] H K := fun h => f11 (by omega) h
      have h13 : ∀ {K : AV → Heap → Prop} {H : Heap}, K (.agg ((sha (ct ls ls.length)).map .u8)) H → wpF P G 13 [.str (ct ls ls.length)] H K := fun h => f13 (by omega) h
      have h10 : ∀ {K : AV → Heap → Prop}, K (.agg ((sha (ct ls ls.length)).map .u8)) (H ++ [smB (smA (decide (0 < ls.length)) (ct ls ls.length))]) → wpF P G 10 [.ptr H.length 0 [0] (.st [.arr 8 .leaf, .leaf, .leaf, .leaf])] (H ++ [smB (smA (decide (0 < ls.length)) (ct ls ls.length))]) K := fun h => f10 (on := decide (0 < ls.length)) ((hget_k (k := 0)).trans rfl) (hct0 ls ls.length) (by omega) h
      generalize sha (ct ls ls.length) = d at *
      by_cases h1k : (ct ls ls.length).length ≤ 1000
      · have h5 : ((1000 : Int) < ((ct ls ls.length).length : Int)) = False := by simp only [eq_iff_iff, iff_false]; omega
        (refine gw3 @h2 @lm @h5 ?_; try exact True.intro)
        refine h10 ?_
        (refine gw0 ?_; try exact True.intro)
        refine h13 ?_
        (refine gw1 @hd ?_; try exact True.intro)
        refine ⟨m8_kind, ?_⟩
        refine f8 ?_
        (refine gw0 ?_; try exact True.intro)
        exact h
      · have h5 : ((1000 : Int) < ((ct ls ls.length).length : Int)) = True := by simp only [eq_iff_iff, iff_true]; omega
        (refine gw3 @h2 @lm @h5 ?_; try exact True.intro)
        refine h10 ?_
        (refine gw0 ?_; try exact True.intro)
        refine h11 ?_
        (refine gw1 @hd ?_; try exact True.intro)
        refine ⟨m8_kind, ?_⟩
        refine f8 ?_
        (refine gw0 ?_; try exact True.intro)
        exact h
  · have h1 : ((20 : Int) < (ls.length : Int)) = True := by simp only [eq_iff_iff, iff_true]; omega
    (refine gw2 @h1 @lm ?_; try exact True.intro)
    refine f8 ?_
    (refine gw0 ?_; try exact True.intro)
    exact h
end Go.Proofs.YtnnopgichjnhdaaDoor

end

section
/-
  Layer 4 (sha), as this seat's program has it: the sum of parts behind a tag.
-/
open Go Go.V
namespace Go.Proofs.YtnnopgichjnhdaaDoor
/-- trefoil/sha.Tagged$1 (0:s, 1:, 3:n) -/
def s24 : FnS := ⟨22, [0, 1, 3],
    (.seq (.reg [⟨.new, (.q .mv), [.t 0], none⟩,
      ⟨.new, (.q .lenS), [.t 3], none⟩,
      ⟨.var 2, (.q .mv), [.t 4], none⟩])
    (.seq (.reg [⟨.new, (.q .mv), [.t 2], none⟩,
      ⟨.new, (.q (.bin .shr)), [.t 3, .c (.u64 24)], none⟩,
      ⟨.new, (.q (.cv .u8)), [.t 4], none⟩,
      ⟨.new, (.q .mv), [.t 2], none⟩,
      ⟨.new, (.q (.bin .shr)), [.t 6, .c (.u64 16)], none⟩,
      ⟨.new, (.q (.cv .u8)), [.t 7], none⟩,
      ⟨.new, (.q .mv), [.t 2], none⟩,
      ⟨.new, (.q (.bin .shr)), [.t 9, .c (.u64 8)], none⟩,
      ⟨.new, (.q (.cv .u8)), [.t 10], none⟩,
      ⟨.new, (.q .mv), [.t 2], none⟩,
      ⟨.new, (.q (.cv .u8)), [.t 12], none⟩,
      ⟨.new, (.e (.bsl 5 .leaf (.u8 0) 4 [0, 1, 2, 3])), [.t 5, .t 8, .t 11, .t 13], none⟩,
      ⟨.new, (.q .b2s), [.t 14], none⟩,
      ⟨.new, (.call 9), [.t 1, .t 15], none⟩])
    (.reg [⟨.new, (.q .mv), [.t 0], none⟩,
      ⟨.new, (.call 9), [.t 1, .t 3], none⟩]))),
    []⟩

/-- trefoil/trefoilref04.Long (0:s, 2:, 3:n) -/
def s25 : FnS := ⟨21, [0, 2, 3],
    (.seq (.reg [⟨.var 1, (.q .mv), [.c (.str [])], none⟩])
    (.seq (.reg [⟨.new, (.q .mv), [.t 0], none⟩,
      ⟨.new, (.q .lenS), [.t 3], none⟩,
      ⟨.var 2, (.q .mv), [.t 4], none⟩])
    (.seq (.reg [⟨.new, (.q .mv), [.t 2], none⟩,
      ⟨.new, (.q (.bin .quo)), [.t 3, .c (.int 16777216)], none⟩,
      ⟨.new, (.q (.cv .u8)), [.t 4], none⟩,
      ⟨.new, (.q .mv), [.t 2], none⟩,
      ⟨.new, (.q (.bin .quo)), [.t 6, .c (.int 65536)], none⟩,
      ⟨.new, (.q (.cv .u8)), [.t 7], none⟩,
      ⟨.new, (.q .mv), [.t 2], none⟩,
      ⟨.new, (.q (.bin .quo)), [.t 9, .c (.int 256)], none⟩,
      ⟨.new, (.q (.cv .u8)), [.t 10], none⟩,
      ⟨.new, (.q .mv), [.t 2], none⟩,
      ⟨.new, (.q (.cv .u8)), [.t 12], none⟩,
      ⟨.new, (.e (.bsl 5 .leaf (.u8 0) 4 [0, 1, 2, 3])), [.t 5, .t 8, .t 11, .t 13], none⟩,
      ⟨.new, (.q .b2s), [.t 14], none⟩,
      ⟨.new, (.q .mv), [.t 0], none⟩,
      ⟨.new, (.q (.bin .add)), [.t 15, .t 16], none⟩,
      ⟨.var 1, (.q .mv), [.t 17], none⟩])
    .ret))),
    [.t 1]⟩

/-- trefoil/sha.Tagged (0:tag, 1:parts, 4:, 5:x, 6:put, 8:p, 13:, 14:, 15:, 16:) -/
def s16 : FnS := ⟨24, [0, 1, 4, 5, 6, 8, 13, 14, 15, 16],
    (.seq (.reg [⟨.var 2, (.e (.alloc 32 (.arr 32 .leaf) (.agg [(.u8 0), (.u8 0), (.u8 0), (.u8 0), (.u8 0), (.u8 0), (.u8 0), (.u8 0), (.u8 0), (.u8 0), (.u8 0), (.u8 0), (.u8 0), (.u8 0), (.u8 0), (.u8 0), (.u8 0), (.u8 0), (.u8 0), (.u8 0), (.u8 0), (.u8 0), (.u8 0), (.u8 0), (.u8 0), (.u8 0), (.u8 0), (.u8 0), (.u8 0), (.u8 0), (.u8 0), (.u8 0)]))), [], none⟩])
    (.seq (.reg [⟨.var 3, (.e (.alloc 29 (.st [(.arr 8 .leaf), .leaf, .leaf, .leaf]) (.agg [(.agg [(.u32 0), (.u32 0), (.u32 0), (.u32 0), (.u32 0), (.u32 0), (.u32 0), (.u32 0)]), (.str []), (.u64 0), (.bool false)]))), [], none⟩])
    (.seq (.reg [⟨.new, (.q (.mkf 24)), [.t 3], none⟩,
      ⟨.var 4, (.q .mv), [.t 10], none⟩])
    (.seq (.reg [⟨.new, (.q .mv), [.t 4], none⟩,
      ⟨.new, (.q .mv), [.t 0], none⟩,
      ⟨.new, .callv, [.t 10, .t 11], none⟩])
    (.seq (.seq (.reg [⟨.var 6, (.q .mv), [.t 1], none⟩,
      ⟨.var 7, (.q .len), [.t 6], none⟩,
      ⟨.var 8, (.q .mv), [.c (.int 0)], none⟩])
    (.block 0 (.loop (.seq (.reg [⟨.var 9, (.q (.bin .lss)), [.t 8, .t 7], none⟩])
    (.seq (.cond (.t 9) .skip
    (.exit 0))
    (.seq (.block 1 (.seq (.reg [⟨.new, (.q (.iaS .leaf)), [.t 6, .t 8], none⟩,
      ⟨.new, (.q (.ld .leaf)), [.t 10], none⟩,
      ⟨.var 5, (.q .mv), [.t 11], none⟩])
    (.reg [⟨.new, (.q .mv), [.t 4], none⟩,
      ⟨.new, (.q .mv), [.t 5], none⟩,
      ⟨.new, .callv, [.t 10, .t 11], none⟩])))
    (.reg [⟨.new, (.q (.bin .add)), [.t 8, .c (.int 1)], none⟩,
      ⟨.var 8, (.q .mv), [.t 10], none⟩])))))))
    (.seq (.reg [⟨.new, (.call 10), [.t 3], none⟩,
      ⟨.none, (.e (.store (.arr 32 .leaf))), [.t 2, .t 10], none⟩])
    .ret)))))),
    [.cell 2 (.arr 32 .leaf)]⟩

/-- trefoil/trefoilref04.Tagged (0:tag, 1:parts, 4:, 5:s, 6:i, 12:) -/
def s17 : FnS := ⟨24, [0, 1, 4, 5, 6, 12],
    (.seq (.reg [⟨.var 2, (.e (.alloc 32 (.arr 32 .leaf) (.agg [(.u8 0), (.u8 0), (.u8 0), (.u8 0), (.u8 0), (.u8 0), (.u8 0), (.u8 0), (.u8 0), (.u8 0), (.u8 0), (.u8 0), (.u8 0), (.u8 0), (.u8 0), (.u8 0), (.u8 0), (.u8 0), (.u8 0), (.u8 0), (.u8 0), (.u8 0), (.u8 0), (.u8 0), (.u8 0), (.u8 0), (.u8 0), (.u8 0), (.u8 0), (.u8 0), (.u8 0), (.u8 0)]))), [], none⟩])
    (.seq (.reg [⟨.new, (.q .mv), [.t 0], none⟩,
      ⟨.new, (.call 25), [.t 6], none⟩,
      ⟨.var 3, (.q .mv), [.t 7], none⟩])
    (.seq (.seq (.reg [⟨.var 4, (.q .mv), [.c (.int 0)], none⟩])
    (.block 0 (.loop (.seq (.seq (.reg [⟨.new, (.q .mv), [.t 4], none⟩,
      ⟨.new, (.q .mv), [.t 1], none⟩,
      ⟨.new, (.q .len), [.t 7], none⟩,
      ⟨.var 5, (.q (.bin .lss)), [.t 6, .t 8], none⟩])
    (.cond (.t 5) .skip
    (.exit 0)))
    (.seq (.block 1 (.reg [⟨.new, (.q .mv), [.t 3], none⟩,
      ⟨.new, (.q .mv), [.t 1], none⟩,
      ⟨.new, (.q .mv), [.t 4], none⟩,
      ⟨.new, (.q (.iaS .leaf)), [.t 7, .t 8], none⟩,
      ⟨.new, (.q (.ld .leaf)), [.t 9], none⟩,
      ⟨.new, (.call 25), [.t 10], none⟩,
      ⟨.new, (.q (.bin .add)), [.t 6, .t 11], none⟩,
      ⟨.var 3, (.q .mv), [.t 12], none⟩]))
    (.reg [⟨.new, (.q .mv), [.t 4], none⟩,
      ⟨.new, (.q (.bin .add)), [.t 6, .c (.int 1)], none⟩,
      ⟨.var 4, (.q .mv), [.t 7], none⟩]))))))
    (.seq (.reg [⟨.new, (.q .mv), [.t 3], none⟩,
      ⟨.new, (.call 13), [.t 6], none⟩,
      ⟨.none, (.e (.store (.arr 32 .leaf))), [.t 2, .t 7], none⟩])
    .ret)))),
    [.cell 2 (.arr 32 .leaf)]⟩

set_option maxRecDepth 100000
set_option linter.unusedSimpArgs false
set_option linter.unusedVariables false
theorem c24 : cF P G (drP P G) 24 2 s24.vm = some s24 := by kernel_rfl
theorem c25 : cF P G (drP P G) 25 1 s25.vm = some s25 := by kernel_rfl
theorem c16 : cF P G (drP P G) 16 2 s16.vm = some s16 := by kernel_rfl
theorem c17 : cF P G (drP P G) 17 2 s17.vm = some s17 := by kernel_rfl
/-- how long a part is, as four bytes, and the part -/
def ln4 (n : Nat) : List (BitVec 8) := [BitVec.ofNat 8 (n / 16777216), BitVec.ofNat 8 (n / 65536), BitVec.ofNat 8 (n / 256), BitVec.ofNat 8 n]
def lg (s : List (BitVec 8)) : List (BitVec 8) := ln4 s.length ++ s
theorem lg_len {s : List (BitVec 8)} : (lg s).length = s.length + 4 := by unfold lg ln4; simp
theorem fd2 (n k m : Nat) (h : 2 ^ k = m) (h64 : min k 64 = k) : ((n : Nat) : Int).fdiv (2 ^ min k 64) = ((n / m : Nat) : Int) := by
  rw [h64, Int.fdiv_eq_ediv_of_nonneg _ (Int.le_of_lt (Int.pow_pos (by decide))), ← h]; simp
theorem f24 {K : AV → Heap → Prop} {H0 L : Heap} {on : Bool} {l s : List (BitVec 8)} (hl : on = false → l = []) (hs : l.length + s.length ≤ 20000000) (h : K (.tup []) (H0 ++ smB (smT (l ++ lg s)) :: L)) :
    wpF P G 24 [.str s, .ptr H0.length 0 [0] (.st [.arr 8 .leaf, .leaf, .leaf, .leaf])] (H0 ++ smB (smA on l) :: L) K := by
  refine wpF_goM c24 rfl ?_
  intro hA hB
  simp only [s24]
  have e1 := fd2 s.length 24 16777216 (by decide) (by decide)
  have e2 := fd2 s.length 16 65536 (by decide) (by decide)
  have e3 := fd2 s.length 8 256 (by decide) (by decide)
  have e4 : ∀ n : Nat, BitVec.ofInt 8 (n : Int) = BitVec.ofNat 8 n := fun n => BitVec.ofInt_natCast _ _
  (refine gw7 @e1 @e2 @e3 @e4 @Kmut_n @Kmut_r @Km2_s ?_; try exact True.intro)
  (repeat (refine And.intro (by omega) ?_))
  refine f9' (H0 := H0) (on := on) (l := l) rfl rfl hl (by simp; omega) ?_
  (refine gw3 @Kmut_n @Kmut_r @Km2_s ?_; try exact True.intro)
  refine f9' (H0 := H0) (on := true) (l := l ++ [BitVec.ofNat 8 (s.length / 16777216), BitVec.ofNat 8 (s.length / 65536), BitVec.ofNat 8 (s.length / 256), BitVec.ofNat 8 s.length]) rfl rfl (fun h => by cases h) (by simp; omega) ?_
  rw [show (l ++ [BitVec.ofNat 8 (s.length / 16777216), BitVec.ofNat 8 (s.length / 65536), BitVec.ofNat 8 (s.length / 256), BitVec.ofNat 8 s.length]) ++ s = l ++ lg s by unfold lg ln4; rw [List.append_assoc]]
  (refine gw3 @Kmut_n @Kmut_r @Km2_s ?_; try exact True.intro)
  refine ⟨by omega, ?_⟩
  have hfin := mut_fin (E := [some ⟨5, 0, true, .arr 4 .leaf, .agg [.u8 (BitVec.ofNat 8 (s.length / 16777216)), .u8 (BitVec.ofNat 8 (s.length / 65536)), .u8 (BitVec.ofNat 8 (s.length / 256)), .u8 (BitVec.ofNat 8 s.length)]⟩]) hB (y := smB (smT (l ++ lg s))) (by rintro k blk h; cases h; rfl) h
  exact hfin
theorem f24' {K : AV → Heap → Prop} {H0 L Hx : Heap} {on : Bool} {l s : List (BitVec 8)} {m : Nat} (hm : m = H0.length) (hx : Hx = H0 ++ smB (smA on l) :: L) (hl : on = false → l = []) (hs : l.length + s.length ≤ 20000000) (h : K (.tup []) (H0 ++ smB (smT (l ++ lg s)) :: L)) :
    wpF P G 24 [.str s, .ptr m 0 [0] (.st [.arr 8 .leaf, .leaf, .leaf, .leaf])] Hx K := by
  subst hm hx
  exact f24 hl hs h
theorem f25 {K : AV → Heap → Prop} {H : Heap} {s : List (BitVec 8)} (hs : s.length ≤ 2000000) (h : K (.str (lg s)) H) : wpF P G 25 [.str s] H K := by
  refine wpF_go c25 rfl 3 ?_
  intro hA hB
  simp only [s25]
  have e1 : ((s.length : Nat) : Int).tdiv 16777216 = ((s.length / 16777216 : Nat) : Int) := rfl
  have e2 : ((s.length : Nat) : Int).tdiv 65536 = ((s.length / 65536 : Nat) : Int) := rfl
  have e3 : ((s.length : Nat) : Int).tdiv 256 = ((s.length / 256 : Nat) : Int) := rfl
  have e4 : ∀ n : Nat, BitVec.ofInt 8 (n : Int) = BitVec.ofNat 8 n := fun n => BitVec.ofInt_natCast _ _
  (refine gw4 @e1 @e2 @e3 @e4 ?_; try exact True.intro)
  (repeat (refine And.intro (by omega) ?_))
  exact h
/-- all parts behind a tag, each with how long it is -/
def lgs (ls : List (List (BitVec 8))) : Nat → List (BitVec 8)
  | 0 => []
  | i + 1 => lgs ls i ++ lg (ls.getD i [])
def sz (ls : List (List (BitVec 8))) : Nat → Nat
  | 0 => 0
  | i + 1 => sz ls i + (ls.getD i []).length
theorem lgs_len {ls : List (List (BitVec 8))} : ∀ {i : Nat}, (lgs ls i).length = sz ls i + 4 * i
  | 0 => rfl
  | i + 1 => by rw [lgs, sz, List.length_append, lgs_len, lg_len]; omega
theorem sz_mono {ls : List (List (BitVec 8))} {i : Nat} : ∀ {k : Nat}, sz ls i ≤ sz ls (i + k)
  | 0 => Nat.le_refl _
  | k + 1 => by rw [← Nat.add_assoc, sz]; have := sz_mono (ls := ls) (i := i) (k := k); omega
theorem ls_at {ls : List (List (BitVec 8))} {i : Nat} (h : i < ls.length) : (ls.map AV.str).getD i .un = .str (ls.getD i []) := by
  rw [List.getD_eq_getElem?_getD, List.getElem?_map, List.getElem?_eq_getElem h, List.getD_eq_getElem?_getD, List.getElem?_eq_getElem h]
  rfl
def I17 (tag : List (BitVec 8)) (ls : List (List (BitVec 8))) (H : Heap) (k : Nat) (st : St) : Prop :=
  ∃ (i : Nat) (u5 : AV), st = ⟨[.str tag, .ro .leaf (ls.map .str), .ptr H.length 0 [0] (.arr 32 .leaf), .str (lg tag ++ lgs ls i), .int (i : Int), u5], H ++ [Y32 (dL ini 0)]⟩ ∧ k = ls.length - i ∧ i ≤ ls.length
theorem f17 {K : AV → Heap → Prop} {H : Heap} {tag : List (BitVec 8)} {ls : List (List (BitVec 8))} (hs : tag.length + sz ls ls.length + ls.length ≤ 2000000) (h : K (.agg ((sha (lg tag ++ lgs ls ls.length)).map .u8)) H) : wpF P G 17 [.str tag, .ro .leaf (ls.map .str)] H K := by
  refine wpF_go c17 rfl 3 ?_
  intro ha hb
  simp only [s17]
  clear ha hb
  have lm : (ls.map AV.str).length = ls.length := by simp
  (refine gw0 ?_; try exact True.intro)
  refine f25 (by omega) ?_
  (refine gw0 ?_; try exact True.intro)
  refine wp_inv (I17 tag ls H) ls.length ⟨0, _, by rw [lgs, List.append_nil]; rfl, rfl, by omega⟩ ?_
  rintro k st ⟨i, u5, rfl, rfl, hi⟩
  by_cases hil : i < ls.length
  · have h2 : ((i : Int) < (ls.length : Int)) = True := by simp only [eq_iff_iff, iff_true]; omega
    have g1 := ls_at hil
    have hz1 : sz ls (i + 1) ≤ sz ls ls.length := by
      have := sz_mono (ls := ls) (i := i + 1) (k := ls.length - (i + 1))
      rwa [show i + 1 + (ls.length - (i + 1)) = ls.length by omega] at this
    have hz2 : sz ls (i + 1) = sz ls i + (ls.getD i []).length := rfl
    have hl1 : (lg tag ++ lgs ls i).length ≤ 20000000 := by rw [List.length_append, lg_len, lgs_len]; omega
    have hl2 := lg_len (s := ls.getD i [])
    have hn : (lg tag ++ lgs ls i) ++ lg (ls.getD i []) = lg tag ++ lgs ls (i + 1) := by rw [lgs, List.append_assoc]
    generalize hA : lg tag ++ lgs ls i = A at *
    (refine gw3 @h2 @g1 @lm ?_; try exact True.intro)
    refine f25 (by omega) ?_
    (refine gw1 @hn ?_; try exact True.intro)
    (repeat (refine And.intro (by omega) ?_))
    exact ⟨ls.length - (i + 1), by omega, i + 1, _, rfl, rfl, by omega⟩
  · have h2 : ((i : Int) < (ls.length : Int)) = False := by simp only [eq_iff_iff, iff_false]; omega
    have hie : i = ls.length := by omega
    subst hie
    have hl1 : (lg tag ++ lgs ls ls.length).length ≤ 20000000 := by rw [List.length_append, lg_len, lgs_len]; omega
    have hd := sha_len (l := lg tag ++ lgs ls ls.length)
    have h13 : ∀ {K : AV → Heap → Prop} {H : Heap}, K (.agg ((sha (lg tag ++ lgs ls ls.length)).map .u8)) H → wpF P G 13 [.str (lg tag ++ lgs ls ls.length)] H K := fun h => f13 (by omega) h
    generalize sha (lg tag ++ lgs ls ls.length) = d at *
    generalize lg tag ++ lgs ls ls.length = A at *
    unfold Y32
    (refine gw2 @h2 @lm ?_; try exact True.intro)
    refine h13 ?_
    (refine gw1 @hd ?_; try exact True.intro)
    exact h
def I16 (tag : List (BitVec 8)) (ls : List (List (BitVec 8))) (p f : AV) (n : Int) (H J : Heap) (k : Nat) (st : St) : Prop :=
  ∃ (i : Nat) (u5 u9 : AV), st = ⟨[.str tag, .ro .leaf (ls.map .str), p, .ptr (H.length + 1) 0 [0] (.st [.arr 8 .leaf, .leaf, .leaf, .leaf]), f, u5, .ro .leaf (ls.map .str), .int n, .int (i : Int), u9], H ++ Y32 (dL ini 0) :: smB (smT (lg tag ++ lgs ls i)) :: J⟩ ∧ k = ls.length - i ∧ i ≤ ls.length
theorem f16 {K : AV → Heap → Prop} {H : Heap} {tag : List (BitVec 8)} {ls : List (List (BitVec 8))} (hs : tag.length + sz ls ls.length + ls.length ≤ 2000000) (h : K (.agg ((sha (lg tag ++ lgs ls ls.length)).map .u8)) H) : wpF P G 16 [.str tag, .ro .leaf (ls.map .str)] H K := by
  refine wpF_go c16 rfl 3 ?_
  intro ha hb
  simp only [s16]
  clear ha hb
  have lm : (ls.map AV.str).length = ls.length := by simp
  (refine gw0 ?_; try exact True.intro)
  refine f24' (H0 := H ++ [Y32 (dL ini 0)]) (L := []) (on := false) (l := []) (s := tag) (by simp) (by rw [List.append_assoc]; rfl) (fun _ => rfl) (by simp; omega) ?_
  rw [List.append_assoc, List.nil_append]
  simp only [List.cons_append, List.nil_append]
  unfold Y32
  (refine gw1 @lm ?_; try exact True.intro)
  refine wp_inv (I16 tag ls _ _ _ H []) ls.length ⟨0, _, _, by rw [lgs, List.append_nil]; rfl, rfl, by omega⟩ ?_
  rintro k st ⟨i, u5, u9, rfl, rfl, hi⟩
  by_cases hil : i < ls.length
  · have h2 : ((i : Int) < (ls.length : Int)) = True := by simp only [eq_iff_iff, iff_true]; omega
    have g1 := ls_at hil
    have hz1 : sz ls (i + 1) ≤ sz ls ls.length := by
      have := sz_mono (ls := ls) (i := i + 1) (k := ls.length - (i + 1))
      rwa [show i + 1 + (ls.length - (i + 1)) = ls.length by omega] at this
    have hz2 : sz ls (i + 1) = sz ls i + (ls.getD i []).length := rfl
    have hl1 : (lg tag ++ lgs ls i).length + (ls.getD i []).length ≤ 20000000 := by rw [List.length_append, lg_len, lgs_len]; omega
    have hn : (lg tag ++ lgs ls i) ++ lg (ls.getD i []) = lg tag ++ lgs ls (i + 1) := by rw [lgs, List.append_assoc]
    generalize hA : lg tag ++ lgs ls i = A at *
    (refine gw3 @h2 @g1 @lm ?_; try exact True.intro)
    refine f24' (H0 := H ++ [Y32 (dL ini 0)]) (L := []) (on := true) (l := A) (by simp) (by rw [List.append_assoc]; rfl) (fun h => by cases h) (by omega) ?_
    rw [hn, List.append_assoc]
    simp only [List.cons_append, List.nil_append]
    (refine gw0 ?_; try exact True.intro)
    (repeat (refine And.intro (by omega) ?_))
    exact ⟨ls.length - (i + 1), by omega, i + 1, _, _, rfl, rfl, by omega⟩
  · have h2 : ((i : Int) < (ls.length : Int)) = False := by simp only [eq_iff_iff, iff_false]; omega
    have hie : i = ls.length := by omega
    subst hie
    have hl1 : (lg tag ++ lgs ls ls.length).length ≤ 20000000 := by rw [List.length_append, lg_len, lgs_len]; omega
    have hd := sha_len (l := lg tag ++ lgs ls ls.length)
    have h10 : ∀ {K : AV → Heap → Prop} {H : Heap} {b : Nat}, Heap.get H b = smB (smT (lg tag ++ lgs ls ls.length)) → K (.agg ((sha (lg tag ++ lgs ls ls.length)).map .u8)) H → wpF P G 10 [.ptr b 0 [0] (.st [.arr 8 .leaf, .leaf, .leaf, .leaf])] H K := fun hg h => f10 (on := true) hg (fun h => by cases h) (by omega) h
    generalize sha (lg tag ++ lgs ls ls.length) = d at *
    generalize lg tag ++ lgs ls ls.length = A at *
    unfold Y32
    (refine gw2 @h2 @lm ?_; try exact True.intro)
    refine h10 (by rw [hget_k]; rfl) ?_
    (refine gw1 @hd ?_; try exact True.intro)
    exact h
end Go.Proofs.YtnnopgichjnhdaaDoor

end

section
/-
  The law ShaTagged of layer 4 (sha), walked.
-/
open Go Go.V
namespace Go.Proofs.YtnnopgichjnhdaaDoor
/-- trefoil/trefoillaw04.ShaTagged (0:tag, 1:l, 4:, 5:n, 6:i, 20:, 36:) -/
def s7 : FnS := ⟨48, [0, 1, 4, 5, 6, 20, 36],
    (.seq (.reg [⟨.var 2, (.q .mv), [.c (.bool false)], none⟩])
    (.seq (.reg [⟨.new, (.q .mv), [.t 0], none⟩,
      ⟨.new, (.q .lenS), [.t 7], none⟩,
      ⟨.var 3, (.q .mv), [.t 8], none⟩])
    (.seq (.seq (.reg [⟨.var 4, (.q .mv), [.c (.int 0)], none⟩])
    (.block 0 (.loop (.seq (.seq (.reg [⟨.new, (.q .mv), [.t 4], none⟩,
      ⟨.new, (.q .mv), [.t 1], none⟩,
      ⟨.new, (.q .len), [.t 8], none⟩,
      ⟨.new, (.q (.bin .lss)), [.t 7, .t 9], none⟩,
      ⟨.new, (.q .mv), [.t 10], none⟩,
      ⟨.new, (.q .mv), [.t 4], (some (11, true))⟩,
      ⟨.new, (.q (.bin .leq)), [.t 12, .c (.int 20)], (some (11, true))⟩,
      ⟨.new, (.q .pick), [.t 11, .t 13, .c (.bool false)], none⟩,
      ⟨.new, (.q .mv), [.t 14], none⟩,
      ⟨.new, (.q .mv), [.t 3], (some (15, true))⟩,
      ⟨.new, (.q (.bin .leq)), [.t 16, .c (.int 600)], (some (15, true))⟩,
      ⟨.var 5, (.q .pick), [.t 15, .t 17, .c (.bool false)], none⟩])
    (.cond (.t 5) .skip
    (.exit 0)))
    (.seq (.block 1 (.reg [⟨.new, (.q .mv), [.t 3], none⟩,
      ⟨.new, (.q .mv), [.t 1], none⟩,
      ⟨.new, (.q .mv), [.t 4], none⟩,
      ⟨.new, (.q (.iaS .leaf)), [.t 8, .t 9], none⟩,
      ⟨.new, (.q (.ld .leaf)), [.t 10], none⟩,
      ⟨.new, (.q .lenS), [.t 11], none⟩,
      ⟨.new, (.q (.bin .add)), [.t 7, .t 12], none⟩,
      ⟨.var 3, (.q .mv), [.t 13], none⟩]))
    (.reg [⟨.new, (.q .mv), [.t 4], none⟩,
      ⟨.new, (.q (.bin .add)), [.t 7, .c (.int 1)], none⟩,
      ⟨.var 4, (.q .mv), [.t 8], none⟩]))))))
    (.seq (.seq (.reg [⟨.new, (.q .mv), [.t 1], none⟩,
      ⟨.new, (.q .len), [.t 7], none⟩,
      ⟨.new, (.q (.bin .gtr)), [.t 8, .c (.int 20)], none⟩,
      ⟨.new, (.q .mv), [.t 9], none⟩,
      ⟨.new, (.q .mv), [.t 3], (some (10, false))⟩,
      ⟨.new, (.q (.bin .gtr)), [.t 11, .c (.int 600)], (some (10, false))⟩,
      ⟨.var 6, (.q .pick), [.t 10, .c (.bool true), .t 12], none⟩])
    (.cond (.t 6) (.seq (.reg [⟨.new, (.call 8), [], none⟩,
      ⟨.var 2, (.q .mv), [.t 7], none⟩])
    .ret)
    .skip))
    (.seq (.reg [⟨.new, (.q .mv), [.t 0], none⟩,
      ⟨.new, (.q .mv), [.t 1], none⟩,
      ⟨.new, (.call 16), [.t 7, .t 8], none⟩,
      ⟨.new, (.q .mv), [.t 0], none⟩,
      ⟨.new, (.q .mv), [.t 1], none⟩,
      ⟨.new, (.call 17), [.t 10, .t 11], none⟩,
      ⟨.new, (.q (.eqA false 32 .u8)), [.t 9, .t 12], none⟩,
      ⟨.new, (.q .mv), [.t 13], none⟩,
      ⟨.new, (.call 8), [], (some (14, true))⟩,
      ⟨.new, (.q .pick), [.t 14, .t 15, .c (.bool false)], none⟩,
      ⟨.var 2, (.q .mv), [.t 16], none⟩])
    .ret))))),
    [.t 2]⟩

set_option maxRecDepth 100000
set_option linter.unusedSimpArgs false
set_option linter.unusedVariables false
theorem c7 : cF P G (drP P G) 7 2 s7.vm = some s7 := by kernel_rfl
def I7 (tag : List (BitVec 8)) (ls : List (List (BitVec 8))) (H : Heap) (k : Nat) (st : St) : Prop :=
  ∃ (i : Nat) (u5 : AV), st = ⟨[.str tag, .ro .leaf (ls.map .str), .bool false, .int ((tag.length + sz ls i : Nat) : Int), .int (i : Int), u5, .un], H⟩ ∧ k = ls.length - i ∧ i ≤ ls.length ∧ tag.length + sz ls i ≤ 600 + 140737488351232
theorem f7 {K : AV → Heap → Prop} {H : Heap} {tag : List (BitVec 8)} {ls : List (List (BitVec 8))} (hll : ls.length ≤ 9223372036854775807) (ht : tag.length ≤ 140737488351232) (hz : ∀ x ∈ ls, x.length ≤ 140737488351232) (h : K (.bool true) H) : wpF P G 7 [.str tag, .ro .leaf (ls.map .str)] H K := by
  refine wpF_go c7 rfl 3 ?_
  intro ha hb
  simp only [s7]
  clear ha hb
  have lm : (ls.map AV.str).length = ls.length := by simp
  (refine gw0 ?_; try exact True.intro)
  refine wp_inv (I7 tag ls H) ls.length ⟨0, _, rfl, rfl, by omega, by rw [sz]; omega⟩ ?_
  rintro k st ⟨i, u5, rfl, rfl, hi, hn⟩
  by_cases hgo : i < ls.length ∧ i ≤ 20 ∧ tag.length + sz ls i ≤ 600
  · obtain ⟨hil, h20, h600⟩ := hgo
    have h1 : ((i : Int) < (ls.length : Int)) = True := by simp only [eq_iff_iff, iff_true]; omega
    have h2 : ((i : Int) ≤ 20) = True := by simp only [eq_iff_iff, iff_true]; omega
    have h3 : (((tag.length + sz ls i : Nat) : Int) ≤ 600) = True := by simp only [eq_iff_iff, iff_true]; omega
    have g1 := ls_at hil
    have hzi := hz (ls.getD i []) (by rw [List.getD_eq_getElem?_getD, List.getElem?_eq_getElem hil]; exact List.getElem_mem hil)
    have hz2 : sz ls (i + 1) = sz ls i + (ls.getD i []).length := rfl
    have e1 : ((tag.length + sz ls i : Nat) : Int) + ((ls.getD i []).length : Int) = ((tag.length + sz ls (i + 1) : Nat) : Int) := by omega
    (refine gw6 @h1 @h2 @h3 @g1 @lm @e1 ?_; try exact True.intro)
    (repeat (refine And.intro (by omega) ?_))
    exact ⟨ls.length - (i + 1), by omega, i + 1, _, rfl, rfl, by omega, by omega⟩
  · by_cases h20 : ls.length ≤ 20 ∧ tag.length + sz ls i ≤ 600
    · have hie : i = ls.length := by omega
      subst hie
      have h1 : ((ls.length : Int) < (ls.length : Int)) = False := by simp
      have h2 : ((20 : Int) < (ls.length : Int)) = False := by simp only [eq_iff_iff, iff_false]; omega
      have h3 : ((600 : Int) < ((tag.length + sz ls ls.length : Nat) : Int)) = False := by simp only [eq_iff_iff, iff_false]; omega
      have hs : tag.length + sz ls ls.length + ls.length ≤ 2000000 := by omega
      have hd := sha_len (l := lg tag ++ lgs ls ls.length)
      have h16 : ∀ {K : AV → Heap → Prop} {H : Heap}, K (.agg ((sha (lg tag ++ lgs ls ls.length)).map .u8)) H → wpF P G 16 [.str tag, .ro .leaf (ls.map .str)] H K := fun h => f16 hs h
      have h17 : ∀ {K : AV → Heap → Prop} {H : Heap}, K (.agg ((sha (lg tag ++ lgs ls ls.length)).map .u8)) H → wpF P G 17 [.str tag, .ro .leaf (ls.map .str)] H K := fun h => f17 hs h
      generalize sha (lg tag ++ lgs ls ls.length) = d at *
      (refine gw4 @h1 @h2 @h3 @lm ?_; try exact True.intro)
      refine h16 ?_
      (refine gw0 ?_; try exact True.intro)
      refine h17 ?_
      (refine gw1 @hd ?_; try exact True.intro)
      refine ⟨m8_kind, ?_⟩
      refine f8 ?_
      (refine gw0 ?_; try exact True.intro)
      exact h
    · by_cases h20' : ls.length ≤ 20
      · have h2 : ((20 : Int) < (ls.length : Int)) = False := by simp only [eq_iff_iff, iff_false]; omega
        have h3 : ((600 : Int) < ((tag.length + sz ls i : Nat) : Int)) = True := by simp only [eq_iff_iff, iff_true]; omega
        have h3' : (((tag.length + sz ls i : Nat) : Int) ≤ 600) = False := by simp only [eq_iff_iff, iff_false]; omega
        have h2' : ((i : Int) ≤ 20) = True := by simp only [eq_iff_iff, iff_true]; omega
        by_cases hil : i < ls.length
        · have h1 : ((i : Int) < (ls.length : Int)) = True := by simp only [eq_iff_iff, iff_true]; omega
          (refine gw6 @h1 @h2 @h2' @h3 @h3' @lm ?_; try exact True.intro)
          refine f8 ?_
          (refine gw0 ?_; try exact True.intro)
          exact h
        · have h1 : ((i : Int) < (ls.length : Int)) = False := by simp only [eq_iff_iff, iff_false]; omega
          (refine gw6 @h1 @h2 @h2' @h3 @h3' @lm ?_; try exact True.intro)
          refine f8 ?_
          (refine gw0 ?_; try exact True.intro)
          exact h
      · have h2 : ((20 : Int) < (ls.length : Int)) = True := by simp only [eq_iff_iff, iff_true]; omega
        by_cases hil : i < ls.length
        · have h1 : ((i : Int) < (ls.length : Int)) = True := by simp only [eq_iff_iff, iff_true]; omega
          by_cases h21 : i ≤ 20
          · have h2' : ((i : Int) ≤ 20) = True := by simp only [eq_iff_iff, iff_true]; omega
            have h3' : (((tag.length + sz ls i : Nat) : Int) ≤ 600) = False := by simp only [eq_iff_iff, iff_false]; omega
            (refine gw5 @h1 @h2 @h2' @h3' @lm ?_; try exact True.intro)
            refine f8 ?_
            (refine gw0 ?_; try exact True.intro)
            exact h
          · have h2' : ((i : Int) ≤ 20) = False := by simp only [eq_iff_iff, iff_false]; omega
            (refine gw4 @h1 @h2 @h2' @lm ?_; try exact True.intro)
            refine f8 ?_
            (refine gw0 ?_; try exact True.intro)
            exact h
        · have h1 : ((i : Int) < (ls.length : Int)) = False := by simp only [eq_iff_iff, iff_false]; omega
          (refine gw3 @h1 @h2 @lm ?_; try exact True.intro)
          refine f8 ?_
          (refine gw0 ?_; try exact True.intro)
          exact h
end Go.Proofs.YtnnopgichjnhdaaDoor

end
