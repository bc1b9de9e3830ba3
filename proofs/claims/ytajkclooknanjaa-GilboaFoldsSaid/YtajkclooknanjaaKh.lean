/-
  Layer 21 (gilboa): what the other one has; the program's and the reference's.
-/
import Derived.Test.YtajkclooknanjaaKf
import Derived.Test.YtajkclooknanjaaV38
import Derived.Test.YtajkclooknanjaaV44
section
open Go Go.V
namespace Go.Proofs.Ytajkclooknanjaa
/-- trefoil/gilboa.Spread (0:width, 1:n, 2:rows, 6:, 7:, 8:out, 9:at, 10:row, 27:, 36:, 46:, 47:, 48:) -/
def s11 : FnS := ⟨57, [0, 1, 2, 6, 7, 8, 9, 10, 27, 36, 46, 47, 48],
    (.seq (.reg [⟨.var 3, (.q .mv), [.c .nils], none⟩,
      ⟨.var 4, (.q .mv), [.c (.int 0)], none⟩])
    (.seq (.seq (.reg [⟨.new, (.q .mv), [.t 0], none⟩,
      ⟨.new, (.q .mv), [.t 1], none⟩,
      ⟨.new, (.call 25), [.t 13, .t 14], none⟩,
      ⟨.new, (.q (.un .not)), [.t 15], none⟩,
      ⟨.new, (.q .mv), [.t 16], none⟩,
      ⟨.new, (.q .mv), [.t 2], (some (17, false))⟩,
      ⟨.new, (.q .len), [.t 18], (some (17, false))⟩,
      ⟨.new, (.q .mv), [.t 1], (some (17, false))⟩,
      ⟨.new, (.q (.bin .rem)), [.t 19, .t 20], (some (17, false))⟩,
      ⟨.new, (.q (.bin .neq)), [.t 21, .c (.int 0)], (some (17, false))⟩,
      ⟨.new, (.q .pick), [.t 17, .c (.bool true), .t 22], none⟩,
      ⟨.new, (.q .mv), [.t 23], none⟩,
      ⟨.new, (.q .mv), [.t 0], (some (24, false))⟩,
      ⟨.new, (.q .mv), [.t 2], (some (24, false))⟩,
      ⟨.new, (.call 26), [.t 25, .t 26], (some (24, false))⟩,
      ⟨.new, (.q (.un .not)), [.t 27], (some (24, false))⟩,
      ⟨.var 8, (.q .pick), [.t 24, .c (.bool true), .t 28], none⟩])
    (.cond (.t 8) (.seq (.reg [⟨.var 3, (.q .mv), [.c .nils], none⟩,
      ⟨.var 4, (.q .mv), [.c (.int 11)], none⟩])
    .ret)
    .skip))
    (.seq (.reg [⟨.new, (.q .mv), [.t 0], none⟩,
      ⟨.new, (.q .mv), [.t 2], none⟩,
      ⟨.new, (.q .len), [.t 14], none⟩,
      ⟨.new, (.q (.bin .mul)), [.t 13, .t 15], none⟩,
      ⟨.new, (.e (.mksl 44 .leaf 8 (.u64 0))), [.c (.int 0), .t 16], none⟩,
      ⟨.var 5, (.q .mv), [.t 17], none⟩])
    (.seq (.seq (.reg [⟨.var 6, (.q .mv), [.c (.int 0)], none⟩])
    (.block 0 (.loop (.seq (.seq (.reg [⟨.new, (.q .mv), [.t 6], none⟩,
      ⟨.new, (.q .mv), [.t 2], none⟩,
      ⟨.new, (.q .len), [.t 14], none⟩,
      ⟨.var 9, (.q (.bin .lss)), [.t 13, .t 15], none⟩])
    (.cond (.t 9) .skip
    (.exit 0)))
    (.seq (.block 1 (.seq (.reg [⟨.new, (.q .mv), [.t 2], none⟩,
      ⟨.new, (.q .mv), [.t 6], none⟩,
      ⟨.new, (.q .mv), [.t 6], none⟩,
      ⟨.new, (.q .mv), [.t 1], none⟩,
      ⟨.new, (.q (.bin .add)), [.t 15, .t 16], none⟩,
      ⟨.new, (.q (.slV .leaf true true)), [.t 13, .t 14, .t 17], none⟩,
      ⟨.var 7, (.q .mv), [.t 18], none⟩])
    (.seq (.reg [⟨.var 10, (.q .mv), [.t 0], none⟩,
      ⟨.var 11, (.q .mv), [.c (.int 0)], none⟩])
    (.block 2 (.loop (.seq (.reg [⟨.var 12, (.q (.bin .lss)), [.t 11, .t 10], none⟩])
    (.seq (.cond (.t 12) .skip
    (.exit 2))
    (.seq (.block 3 (.seq (.reg [⟨.new, (.q .mv), [.t 5], none⟩,
      ⟨.new, (.q .mv), [.t 7], none⟩,
      ⟨.new, (.e (.app 44 .leaf 8)), [.t 13, .t 14], none⟩,
      ⟨.var 5, (.q .mv), [.t 15], none⟩])
    (.reg [⟨.new, (.q .mv), [.t 0], none⟩,
      ⟨.new, (.q .mv), [.t 7], none⟩,
      ⟨.new, (.call 30), [.t 13, .c (.u64 2), .t 14], none⟩,
      ⟨.var 7, (.q .mv), [.t 15], none⟩])))
    (.reg [⟨.new, (.q (.bin .add)), [.t 11, .c (.int 1)], none⟩,
      ⟨.var 11, (.q .mv), [.t 13], none⟩])))))))))
    (.reg [⟨.new, (.q .mv), [.t 6], none⟩,
      ⟨.new, (.q .mv), [.t 1], none⟩,
      ⟨.new, (.q (.bin .add)), [.t 13, .t 14], none⟩,
      ⟨.var 6, (.q .mv), [.t 15], none⟩]))))))
    (.seq (.reg [⟨.new, (.q .mv), [.t 5], none⟩,
      ⟨.var 3, (.q .mv), [.t 13], none⟩,
      ⟨.var 4, (.q .mv), [.c (.int 0)], none⟩])
    .ret))))),
    [.t 3, .t 4]⟩

set_option maxRecDepth 100000
set_option linter.unusedSimpArgs false
set_option linter.unusedVariables false
theorem c11 : cF P [] (drP P []) 11 3 s11.vm = some s11 := by kernel_rfl
/-- a list by its places -/
def rL (F : Nat → BitVec 64) (t : Nat) : List AV := (List.range t).map fun i => .u64 (F i)
theorem rL_len {F : Nat → BitVec 64} {t : Nat} : (rL F t).length = t := by simp [rL]
theorem rL_app {F G : Nat → BitVec 64} {t n : Nat} (h : ∀ j, j < n → G j = F (t + j)) : rL F t ++ rL G n = rL F (t + n) := by
  unfold rL
  rw [List.range_add, List.map_append, List.map_map]
  congr 1
  exact List.map_congr_left fun j hj => by rw [h j (List.mem_range.1 hj)]; rfl
theorem rL_one {F : Nat → BitVec 64} {t : Nat} {x : BitVec 64} (h : x = F t) : rL F t ++ [.u64 x] = rL F (t + 1) := by
  rw [h]; unfold rL; rw [List.range_succ, List.map_append]; rfl
theorem rL_kind {F : Nat → BitVec 64} {t : Nat} : ∀ q : AV, q ∈ rL F t → (match q with | AV.agg ps => false | AV.tup ps => false | AV.un => false | x => true) = true := by
  intro q hq
  obtain ⟨b, _, rfl⟩ := List.mem_map.1 hq
  rfl
theorem rL_map {F : Nat → BitVec 64} {t : Nat} : rL F t = ((List.range t).map F).map .u64 := by unfold rL; rw [List.map_map]; rfl
theorem lst_rL {F : Nat → BitVec 64} {t : Nat} : lst F t = .ro .leaf (rL F t) := rfl
theorem mapO_rL {kp : Nat → Bool} {N : Nat} {h : Heap} {d : Nat} {F : Nat → BitVec 64} {t : Nat} : mapO (demK kp N h (d + 1)) (rL F t) = some (rL F t) := by rw [rL_map]; exact mapO_u64
theorem bnds_rL {k : Nat} {F : Nat → BitVec 64} {t : Nat} : AV.bnds k (rL F t) = true := by rw [rL_map]; exact bnds_u64'
theorem take_rL {F : Nat → BitVec 64} {t : Nat} : List.take t (rL F t) = rL F t := List.take_of_length_le (by rw [rL_len]; exact Nat.le_refl _)
def uB (v t : Nat) (l : List AV) : Option Blk := some ⟨44, v, true, .arr t .leaf, .agg l⟩
theorem getD_rng {F : Nat → BitVec 64} {n j : Nat} (h : j < n) : ((List.range n).map F).getD j 0 = F j := by
  rw [List.getD_eq_getElem?_getD, List.getElem?_map, List.getElem?_range h]; rfl
theorem rL_congr {F G : Nat → BitVec 64} {n : Nat} (h : ∀ j, j < n → F j = G j) : rL F n = rL G n := List.map_congr_left fun j hj => by rw [h j (List.mem_range.1 hj)]
theorem f30r {K : AV → Heap → Prop} {H : Heap} {l : Int} {k0 : BitVec 64} {F : Nat → BitVec 64} {n : Nat} (hb : n ≤ 1000000) (h : K (.ro .leaf (rL (fun j => msk l (k0 * F j)) n)) H) : wpF P [] 30 [.int l, .u64 k0, .ro .leaf (rL F n)] H K := by
  rw [rL_map]
  refine f30 (by simpa using hb) ?_
  have hl : ((List.range n).map F).length = n := by simp
  rw [hl, lst_rL, rL_congr (G := fun j => msk l (k0 * F j)) fun j hj => by rw [getD_rng hj]]
  exact h
theorem f31r {K : AV → Heap → Prop} {H : Heap} {l : Int} {F G : Nat → BitVec 64} {n : Nat} (hb : n ≤ 1000000) (h : K (.tup [.ro .leaf (rL (fun j => addA l (F j) (G j)) n), .int 0]) H) : wpF P [] 31 [.int l, .ro .leaf (rL F n), .ro .leaf (rL G n)] H K := by
  rw [rL_map, rL_map]
  refine f31 (by simpa using hb) ?_
  have hl : ((List.range n).map F).length = n := by simp
  have hl' : ((List.range n).map G).length = n := by simp
  rw [hl, hl', if_pos rfl, lst_rL, rL_congr (G := fun j => addA l (F j) (G j)) fun j hj => by unfold pg; rw [getD_rng hj, getD_rng hj]]
  exact h
/-- what is spread -/
def spF (W N : Nat) (xs : List (BitVec 64)) (t : Nat) : BitVec 64 := msk W (xs.getD (t / N / W * N + t % N) 0 <<< (t / N % W))
theorem spF_at {W N : Nat} {xs : List (BitVec 64)} {i k j : Nat} (hk : k < W) (hj : j < N) : spF W N xs ((i * W + k) * N + j) = msk W (xs.getD (i * N + j) 0 <<< k) := by
  unfold spF
  have e1 : ((i * W + k) * N + j) / N = i * W + k := by
    rw [Nat.mul_comm, Nat.mul_add_div (by omega), Nat.div_eq_of_lt hj, Nat.add_zero]
  have e2 : ((i * W + k) * N + j) % N = j := by
    rw [Nat.mul_comm, Nat.mul_add_mod, Nat.mod_eq_of_lt hj]
  have e3 : (i * W + k) / W = i := by
    rw [Nat.mul_comm, Nat.mul_add_div (by omega), Nat.div_eq_of_lt hk, Nat.add_zero]
  have e4 : (i * W + k) % W = k := by
    rw [Nat.mul_comm, Nat.mul_add_mod, Nat.mod_eq_of_lt hk]
  rw [e1, e2, e3, e4]
def rwF (W N : Nat) (xs : List (BitVec 64)) (i k j : Nat) : BitVec 64 := msk W (xs.getD (i * N + j) 0 <<< k)
theorem msk_fit {l : Int} {x : BitVec 64} (h : x &&& ~~~maskV l = 0) : msk l x = x := by
  unfold msk
  have : x = (x &&& maskV l) ||| (x &&& ~~~maskV l) := by
    rw [← BitVec.and_or_distrib_left, BitVec.or_not_self, BitVec.and_allOnes]
  rw [h] at this
  exact (this.trans BitVec.or_zero).symm
theorem fitL_at {l : Int} {xs : List (BitVec 64)} (h : fitL l xs = true) (i : Nat) : msk l (xs.getD i 0) = xs.getD i 0 := by
  by_cases hi : i < xs.length
  · exact msk_fit (of_decide_eq_true (all_get.1 h i hi))
  · rw [List.getD_eq_getElem?_getD, List.getElem?_eq_none (by omega)]
    exact BitVec.zero_and
theorem dbl_shl (x : BitVec 64) (k : Nat) : 2 * (x <<< k) = x <<< (k + 1) := by
  apply BitVec.eq_of_toNat_eq
  simp only [BitVec.toNat_mul, BitVec.toNat_shiftLeft, Nat.shiftLeft_eq, Nat.pow_succ]
  have : (2 : BitVec 64).toNat = 2 := rfl
  rw [this, Nat.mul_mod_mod]
  congr 1
  rw [Nat.mul_comm, Nat.mul_assoc]
theorem rwF_next {W N : Nat} {xs : List (BitVec 64)} {i k j : Nat} : msk W (2 * rwF W N xs i k j) = rwF W N xs i (k + 1) j := by
  unfold rwF
  rw [msk_mul, dbl_shl]
theorem rL_row0 {W N : Nat} {xs : List (BitVec 64)} {i : Nat} (hf : fitL (W : Int) xs = true) (h : i * N + N ≤ xs.length) : List.take N (List.drop (i * N) (xs.map AV.u64)) = rL (rwF W N xs i 0) N := by
  apply List.ext_getElem?
  intro j
  by_cases hj : j < N
  · have hlt : i * N + j < xs.length := by omega
    rw [List.getElem?_take_of_lt hj, List.getElem?_drop, List.getElem?_map]
    unfold rL
    rw [List.getElem?_map, List.getElem?_range hj, List.getElem?_eq_getElem hlt]
    simp only [Option.map_some]
    unfold rwF
    rw [BitVec.shiftLeft_zero, fitL_at hf, List.getD_eq_getElem?_getD, List.getElem?_eq_getElem hlt]
    rfl
  · rw [List.getElem?_take_eq_none (by omega), List.getElem?_eq_none (by rw [rL_len]; omega)]
def I11a (W N : Nat) (xs : List (BitVec 64)) (H : Heap) (k : Nat) (st : St) : Prop :=
  ∃ (i a t v : Nat) (u7 u9 u10 u11 u12 : AV), st = ⟨[.int W, .int N, .ro .leaf (xs.map .u64), .nils, .int 0, .own H.length v [] 0 t .leaf, .int (a : Int), u7, .bool false, u9, u10, u11, u12], H ++ [uB v t (rL (spF W N xs) t)]⟩ ∧ k = xs.length / N - i ∧ i ≤ xs.length / N ∧ a = i * N ∧ t = (i * W + 0) * N
def I11b (W N : Nat) (xs : List (BitVec 64)) (i a : Nat) (H : Heap) (k : Nat) (st : St) : Prop :=
  ∃ (q t v : Nat) (u12 : AV), st = ⟨[.int W, .int N, .ro .leaf (xs.map .u64), .nils, .int 0, .own H.length v [] 0 t .leaf, .int (a : Int), .ro .leaf (rL (rwF W N xs i q) N), .bool false, .bool true, .int W, .int q, u12], H ++ [uB v t (rL (spF W N xs) t)]⟩ ∧ k = W - q ∧ q ≤ W ∧ t = (i * W + q) * N
theorem f11 {K : AV → Heap → Prop} {H : Heap} {W N : Nat} {xs : List (BitVec 64)} (hn : xs.length ≤ 1000) (hw : okW W N = true) (hd : xs.length % N = 0) (hf : fitL W xs = true) (h : K (.tup [.ro .leaf (rL (spF W N xs) (W * xs.length)), .int 0]) H) : wpF P [] 11 [.int W, .int N, .ro .leaf (xs.map .u64)] H K := by
  refine wpF_go c11 rfl 4 ?_
  intro ha hb'
  simp only [s11]
  clear ha hb'
  have lm : (xs.map AV.u64).length = xs.length := by simp
  obtain ⟨⟨hw1, hw2⟩, hn1, hn2⟩ := okW_good hw
  have hN : 1 ≤ N ∧ N ≤ 6 := by omega
  have hW : 1 ≤ W ∧ W ≤ 64 := by omega
  have hdm : xs.length = xs.length / N * N := by have := Nat.div_add_mod xs.length N; rw [hd, Nat.mul_comm] at this; omega
  generalize hR : xs.length / N = R at *
  have n0 : ((N : Int) = 0) = False := by simp; omega
  have hm : Int.tmod (xs.length : Int) (N : Int) = 0 := by rw [← Int.ofNat_tmod, hd]; rfl
  have hWx : W * xs.length ≤ 64 * 1000 := Nat.mul_le_mul hW.2 hn
  have hWc : (W : Int) * (xs.length : Int) = ((W * xs.length : Nat) : Int) := by simp
  (refine gw0 ?_; try exact True.intro)
  refine f25 ?_
  (refine gw4 @hw @lm @n0 @hm ?_; try exact True.intro)
  (repeat (refine And.intro (by omega) ?_))
  refine f26L (by omega) ?_
  (refine gw3 @hf @lm @hWc ?_; try exact True.intro)
  (repeat (refine And.intro (by omega) ?_))
  refine wp_inv (I11a W N xs H) R ⟨0, 0, 0, 0, _, _, _, _, _, rfl, by rw [hR]; rfl, Nat.zero_le _, by simp, by simp⟩ ?_
  rintro k st ⟨i, a, t, v, u7, u9, u10, u11, u12, rfl, rfl, hi, ha, ht⟩
  rw [hR] at hi ⊢
  unfold uB
  by_cases hil : i < R
  · have hle : (i + 1) * N ≤ R * N := Nat.mul_le_mul_right _ hil
    rw [Nat.succ_mul, ← ha] at hle
    have e1 : ((a : Int) < (xs.length : Int)) = True := by simp; omega
    have e2 : ((a : Int) + (N : Int)).toNat - a = N := by omega
    have hr0 := rL_row0 (i := i) hf (by rw [← ha]; omega)
    rw [← ha] at hr0
    (refine gw4 @e1 @lm @e2 @hr0 ?_; try exact True.intro)
    (repeat (refine And.intro (by omega) ?_))
    refine wp_inv (I11b W N xs i a H) W ⟨0, t, v, _, rfl, rfl, Nat.zero_le _, ht⟩ ?_
    rintro k st ⟨q, t, v, u12, rfl, rfl, hq, ht⟩
    unfold uB
    by_cases hql : q < W
    · have hb1 : (i * W + q) * N + N ≤ W * xs.length := by
        have h1 : (i * W + q) + 1 ≤ R * W := by
          have : (i + 1) * W ≤ R * W := Nat.mul_le_mul_right _ hil
          rw [Nat.succ_mul] at this
          omega
        have h2 : ((i * W + q) + 1) * N ≤ R * W * N := Nat.mul_le_mul_right _ h1
        rw [Nat.succ_mul] at h2
        rw [hdm, ← Nat.mul_assoc, Nat.mul_comm W R]
        exact h2
      have hap := rL_app (F := spF W N xs) (G := rwF W N xs i q) (t := t) (n := N) fun j hj => by rw [ht, spF_at hql hj]; rfl
      have e3 : ((q : Int) < (W : Int)) = True := by simp; omega
      have hrl := rL_len (F := rwF W N xs i q) (t := N)
      have hkd := rL_kind (F := rwF W N xs i q) (t := N)
      rw [← ht] at hb1
      (refine gw3 @e3 @hrl @hap ?_; try exact True.intro)
      refine ⟨hkd, ?_⟩
      (repeat (refine And.intro (by omega) ?_))
      refine f30r (by omega) ?_
      have hnx : rL (fun j => msk W (2 * rwF W N xs i q j)) N = rL (rwF W N xs i (q + 1)) N := rL_congr fun j _ => rwF_next
      rw [hnx]
      (refine gw0 ?_; try exact True.intro)
      (repeat (refine And.intro (by omega) ?_))
      refine ⟨W - (q + 1), by omega, q + 1, t + N, _, _, rfl, rfl, by omega, by rw [ht, ← Nat.add_assoc, Nat.succ_mul]⟩
    · have hqe : q = W := by omega
      have e3 : ((q : Int) < (W : Int)) = False := by simp; omega
      have hat : ((a : Nat) : Int) + (N : Int) = ((a + N : Nat) : Int) := by omega
      (refine gw2 @e3 @hat ?_; try exact True.intro)
      (repeat (refine And.intro (by omega) ?_))
      refine ⟨R - (i + 1), by omega, i + 1, a + N, t, v, _, _, _, _, _, rfl, by rw [hR], by omega, by rw [Nat.succ_mul, ha], by rw [ht, hqe, Nat.succ_mul, Nat.add_zero]⟩
  · have hie : i = R := by omega
    have hae : a = xs.length := by rw [ha, hie, hdm]
    have hte : t = W * xs.length := by rw [ht, hie, hdm, Nat.add_zero, Nat.mul_comm R W, Nat.mul_assoc]
    have e1 : ((a : Int) < (xs.length : Int)) = False := by simp; omega
    rw [← hte] at h
    have ht1 := take_rL (F := spF W N xs) (t := t)
    have hm1 := @mapO_rL
    have hb1 := @bnds_rL
    (refine gw4 @e1 @lm @ht1 @hm1 ?_; try exact True.intro)
    exact h

theorem f11e {K : AV → Heap → Prop} {H : Heap} {w n : Int} {xs : List (BitVec 64)} (hn : xs.length ≤ 1000) (hb : okW w n = true → (decide (Int.tmod xs.length n = 0) && fitL w xs) = false) (h : K (.tup [.nils, .int 11]) H) : wpF P [] 11 [.int w, .int n, .ro .leaf (xs.map .u64)] H K := by
  refine wpF_go c11 rfl 4 ?_
  intro ha hb'
  simp only [s11]
  clear ha hb'
  have lm : (xs.map AV.u64).length = xs.length := by simp
  by_cases h1 : okW w n = true
  · have hb2 := hb h1
    obtain ⟨_, hn1, hn2⟩ := okW_good h1
    have n0 : (n = 0) = False := by simp; omega
    have m1 := Int.tmod_lt_of_pos (xs.length : Int) (show 0 < n by omega)
    have m2 := Int.tmod_nonneg (a := (xs.length : Int)) n (by omega)
    by_cases h2 : Int.tmod xs.length n = 0
    · have h3 : fitL w xs = false := by simpa [h2] using hb2
      (refine gw0 ?_; try exact True.intro)
      refine f25 ?_
      (refine gw4 @h1 @lm @n0 @h2 ?_; try exact True.intro)
      (repeat (refine And.intro (by omega) ?_))
      refine f26L (by omega) ?_
      (refine gw1 @h3 ?_; try exact True.intro)
      exact h
    · (refine gw0 ?_; try exact True.intro)
      refine f25 ?_
      (refine gw4 @h1 @lm @n0 @h2 ?_; try exact True.intro)
      (repeat (refine And.intro (by omega) ?_))
      exact h
  · have h1' : okW w n = false := by simpa using h1
    (refine gw0 ?_; try exact True.intro)
    refine f25 ?_
    (refine gw1 @h1' ?_; try exact True.intro)
    exact h
end Go.Proofs.Ytajkclooknanjaa

end

section
/-
  Layer 21 (gilboa): the reference's choices, and what it spreads.
-/
open Go Go.V
namespace Go.Proofs.Ytajkclooknanjaa
/-- trefoil/trefoilref21.Spread (0:width, 1:n, 2:rows, 6:, 7:, 8:out, 9:i, 10:k, 11:j, 27:, 33:, 38:, 43:) -/
def s12 : FnS := ⟨63, [0, 1, 2, 6, 7, 8, 9, 10, 11, 27, 33, 38, 43],
    (.seq (.reg [⟨.var 3, (.q .mv), [.c .nils], none⟩,
      ⟨.var 4, (.q .mv), [.c (.int 0)], none⟩])
    (.seq (.seq (.reg [⟨.new, (.q .mv), [.t 0], none⟩,
      ⟨.new, (.q .mv), [.t 1], none⟩,
      ⟨.new, (.call 18), [.t 13, .t 14], none⟩,
      ⟨.new, (.q .mv), [.t 15], none⟩,
      ⟨.new, (.q .mv), [.t 2], (some (16, false))⟩,
      ⟨.new, (.q .len), [.t 17], (some (16, false))⟩,
      ⟨.new, (.q .mv), [.t 1], (some (16, false))⟩,
      ⟨.new, (.q (.bin .rem)), [.t 18, .t 19], (some (16, false))⟩,
      ⟨.new, (.q (.bin .neq)), [.t 20, .c (.int 0)], (some (16, false))⟩,
      ⟨.new, (.q .pick), [.t 16, .c (.bool true), .t 21], none⟩,
      ⟨.new, (.q .mv), [.t 22], none⟩,
      ⟨.new, (.q .mv), [.t 0], (some (23, false))⟩,
      ⟨.new, (.q .mv), [.t 2], (some (23, false))⟩,
      ⟨.new, (.call 29), [.t 24, .t 25], (some (23, false))⟩,
      ⟨.new, (.q (.un .not)), [.t 26], (some (23, false))⟩,
      ⟨.var 9, (.q .pick), [.t 23, .c (.bool true), .t 27], none⟩])
    (.cond (.t 9) (.seq (.reg [⟨.var 3, (.q .mv), [.c .nils], none⟩,
      ⟨.var 4, (.q .mv), [.c (.int 11)], none⟩])
    .ret)
    .skip))
    (.seq (.reg [⟨.var 5, (.q .mv), [.c .nils], none⟩])
    (.seq (.seq (.reg [⟨.var 6, (.q .mv), [.c (.int 0)], none⟩])
    (.block 0 (.loop (.seq (.seq (.reg [⟨.new, (.q .mv), [.t 6], none⟩,
      ⟨.new, (.q .mv), [.t 2], none⟩,
      ⟨.new, (.q .len), [.t 14], none⟩,
      ⟨.new, (.q .mv), [.t 1], none⟩,
      ⟨.new, (.q (.bin .quo)), [.t 15, .t 16], none⟩,
      ⟨.var 10, (.q (.bin .lss)), [.t 13, .t 17], none⟩])
    (.cond (.t 10) .skip
    (.exit 0)))
    (.seq (.block 1 (.seq (.reg [⟨.var 7, (.q .mv), [.c (.int 0)], none⟩])
    (.block 2 (.loop (.seq (.seq (.reg [⟨.new, (.q .mv), [.t 7], none⟩,
      ⟨.new, (.q .mv), [.t 0], none⟩,
      ⟨.var 11, (.q (.bin .lss)), [.t 13, .t 14], none⟩])
    (.cond (.t 11) .skip
    (.exit 2)))
    (.seq (.block 3 (.seq (.reg [⟨.var 8, (.q .mv), [.c (.int 0)], none⟩])
    (.block 4 (.loop (.seq (.seq (.reg [⟨.new, (.q .mv), [.t 8], none⟩,
      ⟨.new, (.q .mv), [.t 1], none⟩,
      ⟨.var 12, (.q (.bin .lss)), [.t 13, .t 14], none⟩])
    (.cond (.t 12) .skip
    (.exit 4)))
    (.seq (.block 5 (.reg [⟨.new, (.q .mv), [.t 5], none⟩,
      ⟨.new, (.q .mv), [.t 0], none⟩,
      ⟨.new, (.q .mv), [.t 2], none⟩,
      ⟨.new, (.q .mv), [.t 6], none⟩,
      ⟨.new, (.q .mv), [.t 1], none⟩,
      ⟨.new, (.q (.bin .mul)), [.t 16, .t 17], none⟩,
      ⟨.new, (.q .mv), [.t 8], none⟩,
      ⟨.new, (.q (.bin .add)), [.t 18, .t 19], none⟩,
      ⟨.new, (.q (.iaS .leaf)), [.t 15, .t 20], none⟩,
      ⟨.new, (.q (.ld .leaf)), [.t 21], none⟩,
      ⟨.new, (.q .mv), [.t 7], none⟩,
      ⟨.new, (.q (.cv .u64)), [.t 23], none⟩,
      ⟨.new, (.q (.bin .shl)), [.t 22, .t 24], none⟩,
      ⟨.new, (.call 19), [.t 14, .t 25], none⟩,
      ⟨.new, (.e (.bsl 44 .leaf (.u64 0) 1 [0])), [.t 26], none⟩,
      ⟨.new, (.e (.app 44 .leaf 8)), [.t 13, .t 27], none⟩,
      ⟨.var 5, (.q .mv), [.t 28], none⟩]))
    (.reg [⟨.new, (.q .mv), [.t 8], none⟩,
      ⟨.new, (.q (.bin .add)), [.t 13, .c (.int 1)], none⟩,
      ⟨.var 8, (.q .mv), [.t 14], none⟩])))))))
    (.reg [⟨.new, (.q .mv), [.t 7], none⟩,
      ⟨.new, (.q (.bin .add)), [.t 13, .c (.int 1)], none⟩,
      ⟨.var 7, (.q .mv), [.t 14], none⟩])))))))
    (.reg [⟨.new, (.q .mv), [.t 6], none⟩,
      ⟨.new, (.q (.bin .add)), [.t 13, .c (.int 1)], none⟩,
      ⟨.var 6, (.q .mv), [.t 14], none⟩]))))))
    (.seq (.reg [⟨.new, (.q .mv), [.t 5], none⟩,
      ⟨.var 3, (.q .mv), [.t 13], none⟩,
      ⟨.var 4, (.q .mv), [.c (.int 0)], none⟩])
    .ret))))),
    [.t 3, .t 4]⟩

set_option maxRecDepth 100000
set_option linter.unusedSimpArgs false
set_option linter.unusedVariables false
theorem c12 : cF P [] (drP P []) 12 3 s12.vm = some s12 := by kernel_rfl
/-- a list that grows by one element -/
def apU (N : Nat) (F : Nat → BitVec 64) (t : Nat) (out : AV) (L : Heap) : Prop :=
  (t = 0 ∧ out = .nils ∧ L = []) ∨ (0 < t ∧ out = .own (N + 1) t [] 0 t .leaf ∧ ∃ T J, L = T :: uB t t (rL F t) :: J)
/-- the list that came of it -/
def luL (F : Nat → BitVec 64) (t : Nat) : AV := if t = 0 then .nils else .ro .leaf (rL F t)
theorem luL_isL {F : Nat → BitVec 64} {t : Nat} : isL (luL F t) (((List.range t).map F).map .u64) := by
  unfold luL isL
  by_cases h : t = 0
  · rw [if_pos h, h]; exact .inr ⟨rfl, rfl⟩
  · rw [if_neg h, rL_map]; exact .inl rfl
def A12 (W N : Nat) (xs : List (BitVec 64)) (out : AV) (i k j : Nat) (c0 c1 c2 : AV) : List AV := [.int W, .int N, .ro .leaf (xs.map .u64), .nils, .int 0, out, .int (i : Int), .int (k : Int), .int (j : Int), .bool false, c0, c1, c2]
def I12a (W N : Nat) (xs : List (BitVec 64)) (H : Heap) (k : Nat) (st : St) : Prop :=
  ∃ (i t : Nat) (out u7 u8 c0 c1 c2 : AV) (L : Heap), st = ⟨[.int W, .int N, .ro .leaf (xs.map .u64), .nils, .int 0, out, .int (i : Int), u7, u8, .bool false, c0, c1, c2], H ++ L⟩ ∧ k = xs.length / N - i ∧ i ≤ xs.length / N ∧ t = (i * W + 0) * N + 0 ∧ apU H.length (spF W N xs) t out L
def I12b (W N : Nat) (xs : List (BitVec 64)) (i : Nat) (H : Heap) (k : Nat) (st : St) : Prop :=
  ∃ (q t : Nat) (out u8 c1 c2 : AV) (L : Heap), st = ⟨[.int W, .int N, .ro .leaf (xs.map .u64), .nils, .int 0, out, .int (i : Int), .int (q : Int), u8, .bool false, .bool true, c1, c2], H ++ L⟩ ∧ k = W - q ∧ q ≤ W ∧ t = (i * W + q) * N + 0 ∧ apU H.length (spF W N xs) t out L
def I12c (W N : Nat) (xs : List (BitVec 64)) (i q : Nat) (H : Heap) (k : Nat) (st : St) : Prop :=
  ∃ (j t : Nat) (out c2 : AV) (L : Heap), st = ⟨[.int W, .int N, .ro .leaf (xs.map .u64), .nils, .int 0, out, .int (i : Int), .int (q : Int), .int (j : Int), .bool false, .bool true, .bool true, c2], H ++ L⟩ ∧ k = N - j ∧ j ≤ N ∧ t = (i * W + q) * N + j ∧ apU H.length (spF W N xs) t out L
theorem f12 {K : AV → Heap → Prop} {H : Heap} {W N : Nat} {xs : List (BitVec 64)} (hn : xs.length ≤ 1000) (hw : okW W N = true) (hd : xs.length % N = 0) (hf : fitL W xs = true) (h : K (.tup [luL (spF W N xs) (W * xs.length), .int 0]) H) : wpF P [] 12 [.int W, .int N, .ro .leaf (xs.map .u64)] H K := by
  refine wpF_go c12 rfl 4 ?_
  intro ha hb'
  simp only [s12]
  clear ha hb'
  have lm : (xs.map AV.u64).length = xs.length := by simp
  obtain ⟨hg, hn1, hn2⟩ := okW_good hw
  obtain ⟨hw1, hw2⟩ := id hg
  have hN : 1 ≤ N ∧ N ≤ 6 := by omega
  have hW : 1 ≤ W ∧ W ≤ 64 := by omega
  have hdm : xs.length = xs.length / N * N := by have := Nat.div_add_mod xs.length N; rw [hd, Nat.mul_comm] at this; omega
  have hq : Int.tdiv (xs.length : Int) (N : Int) = ((xs.length / N : Nat) : Int) := (Int.ofNat_tdiv _ _).symm
  generalize hR : xs.length / N = R at *
  have n0 : ((N : Int) = 0) = False := by simp; omega
  have hm : Int.tmod (xs.length : Int) (N : Int) = 0 := by rw [← Int.ofNat_tmod, hd]; rfl
  have hWx : W * xs.length ≤ 64 * 1000 := Nat.mul_le_mul hW.2 hn
  have hR2 : R ≤ 1000 := by have := Nat.le_mul_of_pos_right R (show 0 < N by omega); omega
  have hff : (xs.all fun x => decide (rcut (rounds (W : Int)) x = x)) = true := by rw [fitL_eq hg]; exact hf
  (refine gw0 ?_; try exact True.intro)
  refine f18 ?_
  (refine gw4 @hw @lm @n0 @hm ?_; try exact True.intro)
  (repeat (refine And.intro (by omega) ?_))
  refine f29 (by omega) ?_
  (refine gw1 @hff ?_; try exact True.intro)
  refine wp_inv (I12a W N xs H) R ⟨0, 0, _, _, _, _, _, _, [], by rw [List.append_nil]; rfl, by rw [hR]; rfl, Nat.zero_le _, by simp, .inl ⟨rfl, rfl, rfl⟩⟩ ?_
  rintro k st ⟨i, t, out, u7, u8, c0, c1, c2, L, rfl, rfl, hi, ht, hc⟩
  rw [hR] at hi ⊢
  by_cases hil : i < R
  · have hle : (i + 1) * N ≤ R * N := Nat.mul_le_mul_right _ hil
    rw [Nat.succ_mul] at hle
    have e1 : ((i : Int) < (R : Int)) = True := by simp; omega
    (refine gw4 @lm @n0 @hq @e1 ?_; try exact True.intro)
    (repeat (refine And.intro (by omega) ?_))
    refine wp_inv (I12b W N xs i H) W ⟨0, t, _, _, _, _, L, rfl, rfl, Nat.zero_le _, ht, hc⟩ ?_
    rintro k st ⟨q, t, out, u8, c1, c2, L, rfl, rfl, hq', ht, hc⟩
    by_cases hql : q < W
    · have e2 : ((q : Int) < (W : Int)) = True := by simp; omega
      have hsh : (BitVec.ofInt 64 (q : Int)).toNat = q := ofInt_nat (by omega)
      have hb1 : (i * W + q) * N + N ≤ W * xs.length := by
        have h1 : (i * W + q) + 1 ≤ R * W := by
          have : (i + 1) * W ≤ R * W := Nat.mul_le_mul_right _ hil
          rw [Nat.succ_mul] at this
          omega
        have h2 : ((i * W + q) + 1) * N ≤ R * W * N := Nat.mul_le_mul_right _ h1
        rw [Nat.succ_mul] at h2
        rw [hdm, ← Nat.mul_assoc, Nat.mul_comm W R]
        exact h2
      (refine gw1 @e2 ?_; try exact True.intro)
      refine wp_inv (I12c W N xs i q H) N ⟨0, t, _, _, L, rfl, rfl, Nat.zero_le _, ht, hc⟩ ?_
      rintro k st ⟨j, t, out, c2, L, rfl, rfl, hj', ht, hc⟩
      by_cases hjl : j < N
      · have e3 : ((j : Int) < (N : Int)) = True := by simp; omega
        have hmu : (i : Int) * (N : Int) = ((i * N : Nat) : Int) := by simp
        have hia : i * N + j < xs.length := by omega
        generalize hp : i * N = p at *
        have had : ((p : Nat) : Int) + (j : Int) = ((p + j : Nat) : Int) := by omega
        have g1 := ld_u64 hia
        have hx : msk W (xs.getD (p + j) 0 <<< q) = spF W N xs t := by rw [ht, spF_at hql hjl, hp]
        have hcm : ∀ x, rcut (rounds (W : Int)) x = msk W x := fun x => f19g' hg x
        rcases hc with ⟨ht0, rfl, rfl⟩ | ⟨ht0, rfl, T, J, rfl⟩
        · (refine gw6 @e3 @hmu @had @lm @g1 @hsh ?_; try exact True.intro)
          (repeat (refine And.intro (by omega) ?_))
          refine f19 ?_
          rw [hcm, hx]
          (refine gw0 ?_; try exact True.intro)
          (repeat (refine And.intro (by omega) ?_))
          refine ⟨N - (j + 1), by omega, j + 1, t + 1, _, _, _, rfl, rfl, by omega, by rw [ht]; rfl, .inr ⟨by omega, by rw [ht0], _, [], by rw [ht0]; rfl⟩⟩
        · unfold uB
          (refine gw6 @e3 @hmu @had @lm @g1 @hsh ?_; try exact True.intro)
          (repeat (refine And.intro (by omega) ?_))
          refine f19 ?_
          have hr1 := rL_one (F := spF W N xs) (t := t) rfl
          rw [hcm, hx]
          (refine gw1 @hr1 ?_; try exact True.intro)
          (repeat (refine And.intro (by omega) ?_))
          refine ⟨N - (j + 1), by omega, j + 1, t + 1, _, _, _, rfl, rfl, by omega, by rw [ht]; rfl, .inr ⟨by omega, rfl, _, _, rfl⟩⟩
      · have e3 : ((j : Int) < (N : Int)) = False := by simp; omega
        (refine gw1 @e3 ?_; try exact True.intro)
        (repeat (refine And.intro (by omega) ?_))
        refine ⟨W - (q + 1), by omega, q + 1, t, _, _, _, _, _, rfl, rfl, by omega, by rw [ht, show j = N by omega, ← Nat.add_assoc (i * W), Nat.succ_mul]; rfl, hc⟩
    · have e2 : ((q : Int) < (W : Int)) = False := by simp; omega
      (refine gw1 @e2 ?_; try exact True.intro)
      (repeat (refine And.intro (by omega) ?_))
      refine ⟨R - (i + 1), by omega, i + 1, t, _, _, _, _, _, _, _, rfl, by rw [hR], by omega, by rw [ht, show q = W by omega, Nat.succ_mul]; rfl, hc⟩
  · have hie : i = R := by omega
    have hte : t = W * xs.length := by rw [ht, hie, hdm, Nat.add_zero, Nat.add_zero, Nat.mul_comm R W, Nat.mul_assoc]
    have e1 : ((i : Int) < (R : Int)) = False := by simp; omega
    rw [← hte] at h
    unfold luL at h
    rcases hc with ⟨ht0, rfl, rfl⟩ | ⟨ht0, rfl, T, J, rfl⟩
    · rw [if_pos ht0] at h
      (refine gw4 @lm @n0 @hq @e1 ?_; try exact True.intro)
      (repeat (refine And.intro (by omega) ?_))
      exact h
    · rw [if_neg (by omega)] at h
      unfold uB
      have ht1 := take_rL (F := spF W N xs) (t := t)
      have hm1 := @mapO_rL
      (refine gw6 @lm @n0 @hq @e1 @ht1 @hm1 ?_; try exact True.intro)
      (repeat (refine And.intro (by omega) ?_))
      exact h
theorem f12e {K : AV → Heap → Prop} {H : Heap} {w n : Int} {xs : List (BitVec 64)} (hn : xs.length ≤ 1000) (hb : okW w n = true → (decide (Int.tmod xs.length n = 0) && fitL w xs) = false) (h : K (.tup [.nils, .int 11]) H) : wpF P [] 12 [.int w, .int n, .ro .leaf (xs.map .u64)] H K := by
  refine wpF_go c12 rfl 4 ?_
  intro ha hb'
  simp only [s12]
  clear ha hb'
  have lm : (xs.map AV.u64).length = xs.length := by simp
  by_cases h1 : okW w n = true
  · have hb2 := hb h1
    obtain ⟨hg, hn1, hn2⟩ := okW_good h1
    have n0 : (n = 0) = False := by simp; omega
    have m1 := Int.tmod_lt_of_pos (xs.length : Int) (show 0 < n by omega)
    have m2 := Int.tmod_nonneg (a := (xs.length : Int)) n (by omega)
    by_cases h2 : Int.tmod xs.length n = 0
    · have h3 : (xs.all fun x => decide (rcut (rounds w) x = x)) = false := by rw [fitL_eq hg]; simpa [h2] using hb2
      (refine gw0 ?_; try exact True.intro)
      refine f18 ?_
      (refine gw4 @h1 @lm @n0 @h2 ?_; try exact True.intro)
      (repeat (refine And.intro (by omega) ?_))
      refine f29 (by omega) ?_
      (refine gw1 @h3 ?_; try exact True.intro)
      exact h
    · (refine gw0 ?_; try exact True.intro)
      refine f18 ?_
      (refine gw4 @h1 @lm @n0 @h2 ?_; try exact True.intro)
      (repeat (refine And.intro (by omega) ?_))
      exact h
  · have h1' : okW w n = false := by simpa using h1
    (refine gw0 ?_; try exact True.intro)
    refine f18 ?_
    (refine gw1 @h1' ?_; try exact True.intro)
    exact h
end Go.Proofs.Ytajkclooknanjaa

end
