/-
  Layer 17 (iknp): the reference's Receive.
-/
import Derived.Test.YtjilenmngokhpaaZe
import Derived.Test.YtjilenmngokhpaaV38
import Derived.Test.YtjilenmngokhpaaV44
section
open Go Go.V
namespace Go.Proofs.Ytjilenmngokhpaa
/-- trefoil/trefoilref17.Receive (0:zero, 1:one, 2:from, 3:choices, 8:, 9:, 10:, 11:e, 12:cols, 13:own, 14:i, 15:t, 17:u, 19:c, 20:j, 21:odd, 27:, 36:, 38:, 68:, 74:, 80:, 86:) -/
def s28 : FnS := ⟨106, [0, 1, 2, 3, 8, 9, 10, 11, 12, 13, 14, 15, 17, 19, 20, 21, 27, 36, 38, 68, 74, 80, 86],
    (.seq (.reg [⟨.var 4, (.q .mv), [.c .nils], none⟩,
      ⟨.var 5, (.q .mv), [.c .nils], none⟩,
      ⟨.var 6, (.q .mv), [.c (.int 0)], none⟩])
    (.seq (.seq (.reg [⟨.new, (.q .mv), [.t 2], none⟩,
      ⟨.new, (.q .mv), [.t 3], none⟩,
      ⟨.new, (.q .len), [.t 24], none⟩,
      ⟨.new, (.call 57), [.t 23, .t 25], none⟩,
      ⟨.var 7, (.q .mv), [.t 26], none⟩])
    (.seq (.reg [⟨.new, (.q .mv), [.t 7], none⟩,
      ⟨.var 16, (.q (.bin .neq)), [.t 23, .c (.int 0)], none⟩])
    (.cond (.t 16) (.seq (.reg [⟨.new, (.q .mv), [.t 7], none⟩,
      ⟨.var 4, (.q .mv), [.c .nils], none⟩,
      ⟨.var 5, (.q .mv), [.c .nils], none⟩,
      ⟨.var 6, (.q .mv), [.t 23], none⟩])
    .ret)
    .skip)))
    (.seq (.seq (.reg [⟨.new, (.q .mv), [.t 0], none⟩,
      ⟨.new, (.q .len), [.t 23], none⟩,
      ⟨.new, (.q (.bin .neq)), [.t 24, .c (.int 128)], none⟩,
      ⟨.new, (.q .mv), [.t 25], none⟩,
      ⟨.new, (.q .mv), [.t 1], (some (26, false))⟩,
      ⟨.new, (.q .len), [.t 27], (some (26, false))⟩,
      ⟨.new, (.q (.bin .neq)), [.t 28, .c (.int 128)], (some (26, false))⟩,
      ⟨.var 17, (.q .pick), [.t 26, .c (.bool true), .t 29], none⟩])
    (.cond (.t 17) (.seq (.reg [⟨.var 4, (.q .mv), [.c .nils], none⟩,
      ⟨.var 5, (.q .mv), [.c .nils], none⟩,
      ⟨.var 6, (.q .mv), [.c (.int 11)], none⟩])
    .ret)
    .skip))
    (.seq (.reg [⟨.var 8, (.q .mv), [.c .nils], none⟩,
      ⟨.var 9, (.q .mv), [.c .nils], none⟩])
    (.seq (.seq (.reg [⟨.var 10, (.q .mv), [.c (.int 0)], none⟩])
    (.block 0 (.loop (.seq (.seq (.reg [⟨.new, (.q .mv), [.t 10], none⟩,
      ⟨.var 18, (.q (.bin .lss)), [.t 23, .c (.int 128)], none⟩])
    (.cond (.t 18) .skip
    (.exit 0)))
    (.seq (.block 1 (.seq (.reg [⟨.new, (.q .mv), [.t 0], none⟩,
      ⟨.new, (.q .mv), [.t 10], none⟩,
      ⟨.new, (.q (.iaS (.arr 32 .leaf))), [.t 23, .t 24], none⟩,
      ⟨.new, (.q (.ld (.arr 32 .leaf))), [.t 25], none⟩,
      ⟨.new, (.q .mv), [.t 2], none⟩,
      ⟨.new, (.q (.cv .i64)), [.t 27], none⟩,
      ⟨.new, (.q .mv), [.t 3], none⟩,
      ⟨.new, (.q .len), [.t 29], none⟩,
      ⟨.new, (.call 58), [.t 26, .c (.u32 0), .t 28, .t 30], none⟩,
      ⟨.new, (.q .mv), [.t 31], none⟩,
      ⟨.new, (.q (.ext 0)), [.t 32], none⟩,
      ⟨.new, (.q (.ext 1)), [.t 32], none⟩,
      ⟨.var 11, (.q .mv), [.t 33], none⟩,
      ⟨.new, (.q .mv), [.t 34], none⟩])
    (.seq (.reg [⟨.new, (.q .mv), [.t 1], none⟩,
      ⟨.new, (.q .mv), [.t 10], none⟩,
      ⟨.new, (.q (.iaS (.arr 32 .leaf))), [.t 23, .t 24], none⟩,
      ⟨.new, (.q (.ld (.arr 32 .leaf))), [.t 25], none⟩,
      ⟨.new, (.q .mv), [.t 2], none⟩,
      ⟨.new, (.q (.cv .i64)), [.t 27], none⟩,
      ⟨.new, (.q .mv), [.t 3], none⟩,
      ⟨.new, (.q .len), [.t 29], none⟩,
      ⟨.new, (.call 58), [.t 26, .c (.u32 0), .t 28, .t 30], none⟩,
      ⟨.new, (.q .mv), [.t 31], none⟩,
      ⟨.new, (.q (.ext 0)), [.t 32], none⟩,
      ⟨.new, (.q (.ext 1)), [.t 32], none⟩,
      ⟨.var 12, (.q .mv), [.t 33], none⟩,
      ⟨.new, (.q .mv), [.t 34], none⟩])
    (.seq (.reg [⟨.var 13, (.q .mv), [.c .nils], none⟩])
    (.seq (.seq (.reg [⟨.var 14, (.q .mv), [.c (.int 0)], none⟩])
    (.block 2 (.loop (.seq (.seq (.reg [⟨.new, (.q .mv), [.t 14], none⟩,
      ⟨.new, (.q .mv), [.t 3], none⟩,
      ⟨.new, (.q .len), [.t 24], none⟩,
      ⟨.var 19, (.q (.bin .lss)), [.t 23, .t 25], none⟩])
    (.cond (.t 19) .skip
    (.exit 2)))
    (.seq (.block 3 (.seq (.reg [⟨.var 15, (.q .mv), [.c (.int 0)], none⟩])
    (.seq (.seq (.reg [⟨.new, (.q .mv), [.t 11], none⟩,
      ⟨.new, (.q .mv), [.t 14], none⟩,
      ⟨.new, (.q (.iaS .leaf)), [.t 23, .t 24], none⟩,
      ⟨.var 20, (.q (.ld .leaf)), [.t 25], none⟩])
    (.cond (.t 20) (.reg [⟨.new, (.q .mv), [.t 15], none⟩,
      ⟨.new, (.q (.bin .add)), [.t 23, .c (.int 1)], none⟩,
      ⟨.var 15, (.q .mv), [.t 24], none⟩])
    .skip))
    (.seq (.seq (.reg [⟨.new, (.q .mv), [.t 12], none⟩,
      ⟨.new, (.q .mv), [.t 14], none⟩,
      ⟨.new, (.q (.iaS .leaf)), [.t 23, .t 24], none⟩,
      ⟨.var 21, (.q (.ld .leaf)), [.t 25], none⟩])
    (.cond (.t 21) (.reg [⟨.new, (.q .mv), [.t 15], none⟩,
      ⟨.new, (.q (.bin .add)), [.t 23, .c (.int 1)], none⟩,
      ⟨.var 15, (.q .mv), [.t 24], none⟩])
    .skip))
    (.seq (.seq (.reg [⟨.new, (.q .mv), [.t 3], none⟩,
      ⟨.new, (.q .mv), [.t 14], none⟩,
      ⟨.new, (.q (.iaS .leaf)), [.t 23, .t 24], none⟩,
      ⟨.var 22, (.q (.ld .leaf)), [.t 25], none⟩])
    (.cond (.t 22) (.reg [⟨.new, (.q .mv), [.t 15], none⟩,
      ⟨.new, (.q (.bin .add)), [.t 23, .c (.int 1)], none⟩,
      ⟨.var 15, (.q .mv), [.t 24], none⟩])
    .skip))
    (.reg [⟨.new, (.q .mv), [.t 13], none⟩,
      ⟨.new, (.q .mv), [.t 15], none⟩,
      ⟨.new, (.q (.bin .rem)), [.t 24, .c (.int 2)], none⟩,
      ⟨.new, (.q (.bin .eql)), [.t 25, .c (.int 1)], none⟩,
      ⟨.new, (.e (.bsl 4 .leaf (.bool false) 1 [0])), [.t 26], none⟩,
      ⟨.new, (.e (.app 4 .leaf 1)), [.t 23, .t 27], none⟩,
      ⟨.var 13, (.q .mv), [.t 28], none⟩]))))))
    (.reg [⟨.new, (.q .mv), [.t 14], none⟩,
      ⟨.new, (.q (.bin .add)), [.t 23, .c (.int 1)], none⟩,
      ⟨.var 14, (.q .mv), [.t 24], none⟩]))))))
    (.reg [⟨.new, (.q .mv), [.t 8], none⟩,
      ⟨.new, (.q .mv), [.t 13], none⟩,
      ⟨.new, (.e (.bsl 35 .leaf .nils 1 [0])), [.t 24], none⟩,
      ⟨.new, (.e (.app 35 .leaf 24)), [.t 23, .t 25], none⟩,
      ⟨.new, (.q .mv), [.t 9], none⟩,
      ⟨.new, (.q .mv), [.t 11], none⟩,
      ⟨.new, (.e (.bsl 35 .leaf .nils 1 [0])), [.t 28], none⟩,
      ⟨.new, (.e (.app 35 .leaf 24)), [.t 27, .t 29], none⟩,
      ⟨.var 8, (.q .mv), [.t 26], none⟩,
      ⟨.var 9, (.q .mv), [.t 30], none⟩]))))))
    (.reg [⟨.new, (.q .mv), [.t 10], none⟩,
      ⟨.new, (.q (.bin .add)), [.t 23, .c (.int 1)], none⟩,
      ⟨.var 10, (.q .mv), [.t 24], none⟩]))))))
    (.seq (.reg [⟨.new, (.q .mv), [.t 8], none⟩,
      ⟨.new, (.q .mv), [.t 9], none⟩,
      ⟨.new, (.call 60), [.t 24], none⟩,
      ⟨.var 4, (.q .mv), [.t 23], none⟩,
      ⟨.var 5, (.q .mv), [.t 25], none⟩,
      ⟨.var 6, (.q .mv), [.c (.int 0)], none⟩])
    .ret)))))),
    [.t 4, .t 5, .t 6]⟩

set_option maxRecDepth 100000
set_option linter.unusedSimpArgs false
set_option linter.unusedVariables false
theorem c28 : cF P [] (drP P []) 28 4 s28.vm = some s28 := by kernel_rfl
/-- a list of lists that were handed over, in a block that grows -/
def ol (N : Nat) (L : Heap) (o : AV) (i : Nat) (xs : List AV) : Prop :=
  (i = 0 ∧ o = .nils) ∨ (0 < i ∧ ∃ b, b < L.length ∧ o = .own (N + b) i [] 0 i .leaf ∧ Heap.get L b = lsB i xs)
theorem ol.push {N : Nat} {L : Heap} {o : AV} {i : Nat} {xs : List AV} (h : ol N L o i xs) (X : Heap) : ol N (L ++ X) o i xs := by
  rcases h with h | ⟨h0, b, h1, h2, h3⟩
  · exact .inl h
  · exact .inr ⟨h0, b, by simp; omega, h2, Heap.get_some_append h3⟩
theorem ol.set {N : Nat} {L : Heap} {o : AV} {i : Nat} {xs : List AV} (h : ol N L o i xs) {a : Nat} {y : Option Blk} (ha : a < L.length) (hne : o ≠ .own (N + a) i [] 0 i .leaf) : ol N (List.set L a y) o i xs := by
  rcases h with h | ⟨h0, b, h1, h2, h3⟩
  · exact .inl h
  · refine .inr ⟨h0, b, by simp; omega, h2, ?_⟩
    rw [Heap.get_set _ _ _ _ ha, if_neg, h3]
    intro e; subst e; exact hne h2
theorem LL.set3 {N : Nat} {L : Heap} {B : Nat} {l : AV} {i k : Nat} {es ys : List AV} {m : Nat → Nat} {g : Nat → Nat → Bool} (h : LL N L B l i es m g) {b : Nat} {y : Option Blk} (hb : b < L.length) (hg : Heap.get L b = lsB k ys) (hne : l ≠ .own (N + b) i [] 0 i .leaf) : LL N (List.set L b y) B l i es m g := by
  obtain ⟨h1, h2, h3, h4⟩ := h
  refine ⟨h1, by simp; omega, ?_, fun t ht => (h4 t ht).set hb (.inr (by rw [hg]; simp [lsB]))⟩
  rcases h3 with h | ⟨h0, a, g1, g2, g3⟩
  · exact .inl h
  · refine .inr ⟨h0, a, g1, g2, ?_⟩
    rw [Heap.get_set _ _ _ _ hb, if_neg, g3]
    intro e; subst e; exact hne g2
theorem gbL_cl {ks : List (BitVec 8)} {a n : Nat} : gbL ks 0 a n = boL (cl ks a n) n := by
  unfold gbL boL cl
  refine rng_congr fun j hj => ?_
  simp [cut, hj]
theorem bel_pos {n : Nat} {f : Nat → Bool} (h : 0 < n) : bel n f = .ro .leaf (boL f n) := if_neg (by omega)
theorem f28e {K : AV → Heap → Prop} {H : Heap} {fz fo : Nat → List (BitVec 8)} {a : BitVec 64} {n p q : Nat} {c : Nat → Bool} (hn : n ≤ 100000) (he : spn a n ≠ 0) (h : K (.tup [.nils, .nils, .int (spn a n)]) H) : wpF P [] 28 [.ro (.arr 32 .leaf) (sdL fz p), .ro (.arr 32 .leaf) (sdL fo q), .u64 a, .ro .leaf (boL c n)] H K := by
  refine wpF_go c28 rfl 3 ?_
  intro ha hb
  simp only [s28]
  clear ha hb
  have l3 : (boL c n).length = n := by simp [boL]
  (refine gw1 @l3 ?_; try exact True.intro)
  refine f57 (by omega) ?_
  have e1 : (spn a n = 0) = False := eq_false he
  generalize spn a n = e at *
  (refine gw1 @e1 ?_; try exact True.intro)
  exact h
theorem f28s {K : AV → Heap → Prop} {H : Heap} {fz fo : Nat → List (BitVec 8)} {a : BitVec 64} {n p q : Nat} {c : Nat → Bool} (he : spn a n = 0) (hpq : p ≠ 128 ∨ q ≠ 128) (h : K (.tup [.nils, .nils, .int 11]) H) : wpF P [] 28 [.ro (.arr 32 .leaf) (sdL fz p), .ro (.arr 32 .leaf) (sdL fo q), .u64 a, .ro .leaf (boL c n)] H K := by
  refine wpF_go c28 rfl 3 ?_
  intro ha hb
  simp only [s28]
  clear ha hb
  have l1 := sdL_len (f := fz) (n := p)
  have l2 := sdL_len (f := fo) (n := q)
  have l3 : (boL c n).length = n := by simp [boL]
  obtain ⟨n1, n2, n3⟩ := spn_0 he
  (refine gw1 @l3 ?_; try exact True.intro)
  refine f57 (by omega) ?_
  rw [he]
  by_cases h1 : p = 128
  · have e1 : ((p : Int) = 128) = True := by simp only [eq_iff_iff, iff_true]; omega
    have e2 : ((q : Int) = 128) = False := by simp only [eq_iff_iff, iff_false]; omega
    (refine gw4 @e1 @e2 @l1 @l2 ?_; try exact True.intro)
    exact h
  · have e1 : ((p : Int) = 128) = False := by simp only [eq_iff_iff, iff_false]; omega
    (refine gw2 @e1 @l1 ?_; try exact True.intro)
    exact h
def I28a (Z O C : AV) (a : BitVec 64) (n : Nat) (T U : Nat → Nat → Bool) (H : Heap) (k : Nat) (st : St) : Prop :=
  ∃ (i : Nat) (l o u11 u12 u13 u14 u15 u18 u19 u20 u21 u22 : AV) (es : List AV) (B : Nat) (L : Heap), st = ⟨[Z, O, .u64 a, C, .nils, .nils, .int 0, .int 0, l, o, .int (i : Int), u11, u12, u13, u14, u15, .bool false, .bool false, u18, u19, u20, u21, u22], H ++ L⟩ ∧ k = 128 - i ∧ i ≤ 128 ∧
    LL H.length L B l i es (fun _ => n) U ∧ ol H.length L o i (beL n T i) ∧ (0 < i → l ≠ o)
def I28b (Z O C : AV) (a : BitVec 64) (n : Nat) (i : Nat) (l o t u : AV) (F : Nat → AV) (G : Heap) (k : Nat) (st : St) : Prop :=
  ∃ (j : Nat) (c u15 u19 u20 u21 u22 : AV) (L : Heap), st = ⟨[Z, O, .u64 a, C, .nils, .nils, .int 0, .int 0, l, o, .int (i : Int), t, u, c, .int (j : Int), u15, .bool false, .bool false, .bool true, u19, u20, u21, u22], G ++ L⟩ ∧ k = n - j ∧ j ≤ n ∧
    apd 4 G.length F j c L
set_option maxHeartbeats 4000000 in
theorem f28 {K : AV → Heap → Prop} {H : Heap} {fz fo : Nat → List (BitVec 8)} {a : BitVec 64} {n : Nat} {c : Nat → Bool} (hz : ∀ i, (fz i).length = 32) (ho : ∀ i, (fo i).length = 32) (he : spn a n = 0)
    (h : K (.tup [.ro .leaf (teL (fun _ => n) (uF fz fo a.toNat n c) 128), .ro (.arr 2 .leaf) (rwA (cw (clF fz a.toNat n) 0) (cw (clF fz a.toNat n) 1) n), .int 0]) H) : wpF P [] 28 [.ro (.arr 32 .leaf) (sdL fz 128), .ro (.arr 32 .leaf) (sdL fo 128), .u64 a, .ro .leaf (boL c n)] H K := by
  refine wpF_go c28 rfl 6 ?_
  intro ha hb
  simp only [s28]
  clear ha hb
  have l1 := sdL_len (f := fz) (n := 128)
  have l2 := sdL_len (f := fo) (n := 128)
  have l3 : (boL c n).length = n := by simp [boL]
  have g1 : ∀ i, i < 128 → (sdL fz 128).getD i .un = .agg ((fz i).map .u8) := fun i hi => ld_rng hi
  have g2 : ∀ i, i < 128 → (sdL fo 128).getD i .un = .agg ((fo i).map .u8) := fun i hi => ld_rng hi
  have g3 : ∀ j, j < n → (boL c n).getD j .un = .bool (c j) := fun j hj => ld_rng hj
  obtain ⟨n1, n2, n3⟩ := spn_0 he
  have n0 : n ≠ 0 := by omega
  (refine gw1 @l3 ?_; try exact True.intro)
  refine f57 (by omega) ?_
  rw [he]
  have e128 : ((128 : Nat) : Int) = 128 := rfl
  (refine gw3 @l1 @l2 @e128 ?_; try exact True.intro)
  have ai : a.toInt = (a.toNat : Int) := BitVec.toInt_eq_toNat_of_lt (by omega)
  generalize sdL fz 128 = lz at *
  generalize sdL fo 128 = lo at *
  generalize boL c n = lc at *
  refine wp_inv (I28a (.ro (.arr 32 .leaf) lz) (.ro (.arr 32 .leaf) lo) (.ro .leaf lc) a n (clF fz a.toNat n) (uF fz fo a.toNat n c) H) 128 ⟨0, _, _, _, _, _, _, _, _, _, _, _, _, [], 0, [], by rw [List.append_nil]; rfl, rfl, by omega, ⟨rfl, Nat.le_refl _, .inl ⟨rfl, rfl⟩, fun t ht => absurd ht (Nat.not_lt_zero t)⟩, .inl ⟨rfl, rfl⟩, fun h0 => absurd h0 (Nat.lt_irrefl 0)⟩ ?_
  rintro k st ⟨i, l, o, u11, u12, u13, u14, u15, u18, u19, u20, u21, u22, es, B, L, rfl, rfl, hi, hLL, hol, hlo⟩
  by_cases hil : i < 128
  · have h2 : ((i : Int) < 128) = True := by simp only [eq_iff_iff, iff_true]; omega
    have k1 := g1 i hil
    have k2 := g2 i hil
    have q1 := hz i
    have q2 := ho i
    have hGl : (H ++ L).length = H.length + L.length := List.length_append
    obtain ⟨G, hG⟩ : ∃ G, H ++ L = G := ⟨_, rfl⟩
    rw [hG] at hGl ⊢
    (refine gw9 @h2 @l1 @l2 @l3 @k1 @k2 @q1 @q2 @ai ?_; try exact True.intro)
    refine f58g (a := a.toNat) (n := n) q1 (by omega) (by omega) ?_
    rw [if_neg n0, gbL_cl]
    (refine gw9 @h2 @l1 @l2 @l3 @k1 @k2 @q1 @q2 @ai ?_; try exact True.intro)
    refine f58g (a := a.toNat) (n := n) q2 (by omega) (by omega) ?_
    rw [if_neg n0, gbL_cl]
    have hT : ∀ j, j < n → (boL (cl (fz i) a.toNat n) n).getD j .un = .bool (clF fz a.toNat n i j) := fun j hj => ld_rng hj
    have hV : ∀ j, j < n → (boL (cl (fo i) a.toNat n) n).getD j .un = .bool (clF fo a.toNat n i j) := fun j hj => ld_rng hj
    have lT : (boL (cl (fz i) a.toNat n) n).length = n := by simp [boL]
    have lV : (boL (cl (fo i) a.toNat n) n).length = n := by simp [boL]
    have hTe : AV.ro .leaf (boL (cl (fz i) a.toNat n) n) = bel n (clF fz a.toNat n i) := (bel_pos (by omega)).symm
    generalize hTL : boL (cl (fz i) a.toNat n) n = lT' at *
    generalize boL (cl (fo i) a.toNat n) n = lV' at *
    (refine gw0 ?_; try exact True.intro)
    refine wp_inv (I28b (.ro (.arr 32 .leaf) lz) (.ro (.arr 32 .leaf) lo) (.ro .leaf lc) a n i l o (.ro .leaf lT') (.ro .leaf lV') (fun j => .bool (uF fz fo a.toNat n c i j)) G) n ⟨0, _, _, _, _, _, _, [], by rw [List.append_nil]; rfl, rfl, by omega, .inl ⟨rfl, rfl, rfl⟩⟩ ?_
    rintro k st ⟨j, cc, u15, u19, u20, u21, u22, L', rfl, rfl, hj, hap⟩
    by_cases hjl : j < n
    · have h3 : ((j : Int) < (n : Int)) = True := by simp only [eq_iff_iff, iff_true]; omega
      have t1 := hT j hjl
      have t2 := hV j hjl
      have t3 := g3 j hjl
      have hU : uF fz fo a.toNat n c i j = ((clF fz a.toNat n i j != clF fo a.toNat n i j) != c j) := rfl
      generalize clF fz a.toNat n i j = p at *
      generalize clF fo a.toNat n i j = q at *
      generalize c j = r at *
      have hs := rng_snoc (F := fun j => AV.bool (uF fz fo a.toNat n c i j)) (i := j)
      rcases hap with ⟨hj0, rfl, rfl⟩ | ⟨hj0, rfl, x0, J, rfl⟩
      · cases p <;> cases q <;> cases r <;> (refine gw7 @h3 @l3 @t1 @t2 @t3 @lT @lV ?_; try exact True.intro) <;> (repeat (refine And.intro (by omega) ?_)) <;> exact ⟨n - (j + 1), by omega, j + 1, _, _, _, _, _, _, _, by subst hj0; rfl, rfl, by omega, .inr ⟨by omega, by subst hj0; rfl, _, [], by rw [← hs, hU]; subst hj0; rfl⟩⟩
      · cases p <;> cases q <;> cases r <;> (refine gw7 @h3 @l3 @t1 @t2 @t3 @lT @lV ?_; try exact True.intro) <;> (repeat (refine And.intro (by omega) ?_)) <;> exact ⟨n - (j + 1), by omega, j + 1, _, _, _, _, _, _, _, rfl, rfl, by omega, .inr ⟨by omega, rfl, _, _, by rw [← hs, hU]; rfl⟩⟩
    · have hje : j = n := by omega
      subst hje
      have h3 : ((j : Int) < (j : Int)) = False := by simp
      rcases hap with ⟨hj0, _⟩ | ⟨_, rfl, x0, J, rfl⟩
      · omega
      have hcc : G.length + 1 = H.length + (L.length + 1) := by omega
      rw [hcc, ← hG, List.append_assoc]
      have hbl : bl H.length (L ++ x0 :: some ⟨4, j, true, .arr j .leaf, .agg ((List.range j).map fun q => .bool (uF fz fo a.toNat j c i q))⟩ :: J) B (L ++ x0 :: some ⟨4, j, true, .arr j .leaf, .agg ((List.range j).map fun q => .bool (uF fz fo a.toNat j c i q))⟩ :: J).length (.own (H.length + (L.length + 1)) j [] 0 j .leaf) j (uF fz fo a.toNat j c i) :=
        .inr ⟨by omega, L.length + 1, by have := hLL.2.1; omega, by simp, rfl, by rw [hget_k]; rfl⟩
      have hLL2 := hLL.push (x0 :: some ⟨4, j, true, .arr j .leaf, .agg ((List.range j).map fun q => .bool (uF fz fo a.toNat j c i q))⟩ :: J)
      have hol2 := hol.push (x0 :: some ⟨4, j, true, .arr j .leaf, .agg ((List.range j).map fun q => .bool (uF fz fo a.toNat j c i q))⟩ :: J)
      clear hLL hol hG hcc hGl
      have hlL : L.length + 1 < (L ++ x0 :: some (Blk.mk 4 j true (.arr j .leaf) (.agg ((List.range j).map fun q => .bool (uF fz fo a.toNat j c i q)))) :: J).length := by simp
      generalize L ++ x0 :: some (Blk.mk 4 j true (.arr j .leaf) (.agg ((List.range j).map fun q => .bool (uF fz fo a.toNat j c i q)))) :: J = L2 at *
      generalize L.length + 1 = lc' at *
      rw [hTe]
      have hcell := bl_cell hbl
      rcases hLL2.2.2.1 with ⟨hi0, rfl⟩ | ⟨hi0, b1, hb1, rfl, hg1⟩
      · rcases hol2 with ⟨_, rfl⟩ | ⟨h0, _⟩
        rotate_left
        · omega
        rw [← hTe]
        (refine gw2 @h3 @l3 ?_; try exact True.intro)
        rw [hTe]
        (repeat (refine And.intro (by omega) ?_))
        subst hi0
        have r1 := (hLL2.fin_nil hbl (some ⟨35, 0, true, .arr 1 .leaf, .agg [.own (H.length + lc') j [] 0 j .leaf]⟩)).push [some ⟨35, 0, true, .arr 1 .leaf, .agg [bel j (clF fz a.toNat j 0)]⟩, some ⟨35, 1, true, .arr 1 .leaf, .agg [bel j (clF fz a.toNat j 0)]⟩]
        rw [List.append_assoc] at r1
        refine ⟨127, by omega, 1, _, _, _, _, _, _, _, _, _, _, _, _, _, _, _, rfl, rfl, by omega, r1, .inr ⟨by omega, L2.length + 3, by simp, rfl, ?_⟩, fun _ => ?_⟩
        · rw [hget_k]; rfl
        · intro e
          injection e
          omega
      · rcases hol2 with ⟨h0, _⟩ | ⟨_, b2, hb2, rfl, hg2⟩
        · omega
        have hes := hLL2.1
        have hBL := hLL2.2.1
        have hne := hlo hi0
        have hbb : b1 ≠ b2 := fun e => hne (by rw [e])
        obtain ⟨L3, hL3⟩ : ∃ L3, List.set L2 b1 (lsB (i + 1) (es ++ [.own (H.length + lc') j [] 0 j .leaf])) = L3 := ⟨_, rfl⟩
        have lL3 : L3.length = L2.length := by rw [← hL3, List.length_set]
        have hg3 : Heap.get L3 b2 = lsB i (beL j (clF fz a.toNat j) i) := by rw [← hL3, Heap.get_set _ _ _ _ (by omega), if_neg (Ne.symm hbb), hg2]
        have r1 := fun X => hLL2.fin_own hb1 hg1 hbl X
        rw [hL3] at r1
        have hg3' := hg3
        unfold lsB at hg1 hg3 hL3
        have gb1 : ∀ X, Heap.get (L2 ++ X) b1 = _ := fun X => Heap.get_some_append hg1
        have gb2 : ∀ X, Heap.get (L3 ++ X) b2 = _ := fun X => Heap.get_some_append hg3
        have sb1 : ∀ X y, List.set (L2 ++ X) b1 y = List.set L2 b1 y ++ X := fun X y => List.set_append_left _ _ (by omega)
        have sb2 : ∀ X y, List.set (L3 ++ X) b2 y = List.set L3 b2 y ++ X := fun X y => List.set_append_left _ _ (by omega)
        rw [← hTe]
        (refine gw7 @h3 @l3 @gb1 @gb2 @sb1 @sb2 @hL3 ?_; try exact True.intro)
        (repeat (refine And.intro (by omega) ?_))
        have r2 := (r1 [some ⟨35, 0, true, .arr 1 .leaf, .agg [.own (H.length + lc') j [] 0 j .leaf]⟩, some ⟨35, 0, true, .arr 1 .leaf, .agg [.ro .leaf lT']⟩]).set3 (b := b2) (y := some ⟨35, i + 1, true, .arr (i + 1) .leaf, .agg (beL j (clF fz a.toNat j) i ++ [AV.ro .leaf lT'])⟩) (by simp; omega) (Heap.get_some_append hg3') (fun e => by injection e; omega)
        rw [sb2] at r2
        refine ⟨128 - (i + 1), by omega, i + 1, _, _, _, _, _, _, _, _, _, _, _, _, _, _, _, rfl, rfl, by omega, r2, .inr ⟨by omega, b2, by simp; omega, rfl, ?_⟩, fun _ => ?_⟩
        · rw [Heap.get_append _ _ _ (by rw [List.length_set]; omega), Heap.get_set _ _ _ _ (by omega), if_pos rfl, hTe, beL_succ]
          rfl
        · intro e
          injection e
          omega
  · have h2 : ((i : Int) < 128) = False := by simp only [eq_iff_iff, iff_false]; omega
    have hie : i = 128 := by omega
    subst hie
    rcases hol with ⟨h0, _⟩ | ⟨_, b2, hb2, rfl, hg2⟩
    · omega
    have hne := hlo (by omega)
    have r2 := fun M d => (hLL.set3 (b := b2) (y := none) hb2 hg2 hne).dem (H := H) (M := M) (d := d) (by omega)
    have mb : ∀ {kp : Nat → Bool} {N : Nat} {h : Heap} {d : Nat}, mapO (demK kp N h (d + 2)) (beL n (clF fz a.toNat n) 128) = some (beL n (clF fz a.toNat n) 128) := mapO_beL
    have lt : List.take 128 (beL n (clF fz a.toNat n) 128) = beL n (clF fz a.toNat n) 128 := List.take_of_length_le (by rw [beL_len]; exact Nat.le_refl _)
    unfold lsB at hg2
    obtain ⟨L', hL'⟩ : ∃ L', List.set L b2 none = L' := ⟨_, rfl⟩
    rw [hL'] at r2
    generalize l = l' at *
    (refine gw1 @h2 ?_; try exact True.intro)
    refine wpF_give1 (H.length + b2) 4 ?_
    (refine gw3 @hg2 @lt @mb ?_; try exact True.intro)
    refine f60 (by omega) (by omega) ?_
    rw [hL']
    have hbr : ∀ {k : Nat}, AV.bnds k (rwA (cw (clF fz a.toNat n) 0) (cw (clF fz a.toNat n) 1) n) = true := by
      intro k
      refine bnds_iff.2 fun x hx => ?_
      obtain ⟨j, _, rfl⟩ := List.mem_map.1 hx
      rfl
    generalize rwA (cw (clF fz a.toNat n) 0) (cw (clF fz a.toNat n) 1) n = R at *
    have hdem : dem H.length (H ++ L') 6 (.tup [l', .ro (.arr 2 .leaf) R, .int 0]) = some (.tup [.ro .leaf (teL (fun _ => n) (uF fz fo a.toNat n c) 128), .ro (.arr 2 .leaf) R, .int 0]) := by
      unfold dem
      rw [demK_tup]
      simp only [mapO]
      rw [r2 H.length 2, demK_roI hbr, demK_int]
      rfl
    generalize teL (fun _ => n) (uF fz fo a.toNat n c) 128 = TL at *
    simp (maxSteps := 2000000) only [↓vS_skip, ↓vS_reg, ↓vS_draw, ↓vS_seq, ↓wS_cond, ↓vS_block, ↓vS_exit, ↓vS_ret, ↓vI_nil, ↓vI_go, ↓wI_gd, ↓stepI_q, ↓stepI_e, ↓stepI_c, ↓stepI_v, ↓vD_nil, ↓vD_go, ↓wD_gd, ↓stepW_q, ↓stepW_e, ↓stepW_c, ↓stepW_v, ↓Kw_app, ↓KwD_app, ↓Kc_app, ↓Kp_app, ↓Kr_app, ↓Ks_n, ↓Ks_r, ↓Ks_x, ↓Kb_n, ↓Kb_r, ↓Kb_x, ↓Ku_n, ↓Ku_r, ↓Ku_x, ↓Kl_n, ↓Kl_r, ↓Kl_x, ↓Kend_n, ↓Kend_r, ↓Two_t, ↓Two_f, ↓unr_succ, ↓GdM_b, ↓GdM_t, ↓CdM_b, ↓TwU_t, ↓TwU_f, ↓ThI_app, ↓ThW_app, ↓ThK_app, ↓ThS_app, ↓stepI_p, ↓stepW_p, ↓stepI_w, ↓stepW_w, ↓xD_w, ↓stepI_n, ↓xD_n, ↓xD_q, ↓xD_e, ↓xD_c, ↓xD_v, ↓xD_p, ↓xD_m, ↓xD_s, ↓vX_nil, ↓vX_go, ↓wX_gd, ↓KwX_app, ↓stepI_m, ↓stepW_m, ↓hasSh_mbool, ↓hasSh_mu8, ↓hasSh_mu16, ↓hasSh_mu32, ↓hasSh_mu64, ↓hasSh_mint, putE_none, putE_var, putE_new, get_t, get_c, qev, eev, rsGet, rvGet, oneOf, binAV, isSh, bvBin, bvOp, bvCmp, bvSh, intBin, intSh, cvAV, unAV, AV.cnt, AV.num, Ken2_s, Ken3_s, htake_1, htake_2, beq_self_eq_true, beq_true, beq_false, Int.toNat_natCast, Int.natCast_nonneg, BitVec.reduceOfInt, BitVec.reduceToNat, bytesOf, List.map_cons, List.replicate_succ, Bool.not_eq_true, maxLen, Nat.reducePow, Nat.reduceMul, List.map_cons, List.map_nil, List.getD_cons_zero, List.getD_cons_succ, List.set_cons_zero, List.set_cons_succ, List.cons_append, List.nil_append, List.append_nil, List.take_succ_cons, List.take_zero, List.take_nil, List.length_cons, List.length_nil, List.replicate_succ, List.replicate_zero, Option.map_some, Option.map_none, List.getElem?_cons_zero, List.getElem?_cons_succ, true_and, and_true, if_true, if_false, ite_true, ite_false, reduceIte, reduceCtorEq, false_or, or_true, true_or, or_false, Option.some.injEq, Prod.mk.injEq, exists_eq_left', exists_eq_left, exists_eq_right, exists_and_left, exists_and_right, exists_const, and_assoc, decide_true, decide_false, Bool.false_eq_true, forall_const, Bool.not_true, Bool.not_false, false_implies, true_implies, Nat.reduceAdd, Nat.reduceSub, Nat.reduceMul, Nat.reduceLT, Nat.reduceLeDiff, Nat.reduceEqDiff, Int.reduceAdd, Int.reduceSub, Int.reduceMul, Int.reduceLT, Int.reduceLE, Int.reduceTMod, Int.reduceTDiv, Int.reduceToNat, Int.reduceEq, Int.reduceNe, Int.reduceNeg, ne_eq, not_false_eq_true, not_true_eq_false, InR, Bool.true_eq_false, Bool.false_eq_true, reduceDIte, Nat.zero_add, Nat.add_zero, Int.cast_ofNat_Int, eq_self, hget_0, hget_k, hget_z, hget_s, hset_0, hset_k, htake_0, lt_own0, lt_ownk, hasAt_nil, hasAt_arr, hasAt_st, hasSh_l, hasSh_aa, hasSh_sa, hasShs_n, hasShs_c, setAll, AV.isCell, Shape.size_leaf, Shape.size_arr, Shape.size_st, Shape.sizes_cons, Shape.sizes_nil, List.length_append, List.append_assoc, List.length_set, stP, ldP, getP, setP, psh, partsOf, slen, rd, demK_own, demK_ptr, demK_agg, demK_tup, demK_fn, demK_ro, demK_rp, demK_bool, demK_u8, demK_u16, demK_u32, demK_u64, demK_int, demK_str, demK_nilp, demK_nils, demK_nilf, demK_un, mapO, AV.bnds, AV.bnd, bne_self_eq_false, AV.plain2, AV.plain, List.all_cons, List.all_nil, List.take_length, List.drop_zero, List.drop_succ_cons, Nat.mul_one, List.getElem?_nil, List.forall_mem_cons, List.not_mem_nil, implies_true, Bool.and_true, Bool.true_and, Bool.and_false, Bool.false_and, and_self, and_false, false_and, Nat.sub_zero, bnds, bnds_bool, bnds_bool', mapO_bool, mapO_bool', bnds_u8, bnds_u8', mapO_u8, mapO_u8', bnds_u16, bnds_u16', mapO_u16, mapO_u16', bnds_u32, bnds_u32', mapO_u32, mapO_u32', bnds_u64, bnds_u64', mapO_u64, mapO_u64', bnds_int, bnds_int', mapO_int, mapO_int', bt, bf, Bool.not_not, nilK_nils, nilK_own, nilK_ro, ninL_n, ninL_c, disL_n, disL_r, disL_c, chkL_n, chkL_c, apartL_e, fp_ld, fp_b2s, fp_st, fp_app, fp_appS, fp_cpy, fp_cpyS, tb_own, tb_ptr, tb_ro, tb_rp, tb_nils, tb_str, ne_ah, ne_ha, hdem]
    exact h
end Go.Proofs.Ytjilenmngokhpaa

end

section
/-
  Layer 17 (iknp): Send.
-/
open Go Go.V
namespace Go.Proofs.Ytjilenmngokhpaa
/-- trefoil/iknp.Send (0:s, 1:from, 2:cols, 3:s, 6:, 7:, 8:n, 9:e, 10:own, 11:i, 12:c, 13:q, 14:e, 17:, 26:, 31:, 33:, 34:, 35:, 36:, 43:, 56:, 61:) -/
def s24 : FnS := ⟨77, [0, 1, 2, 3, 6, 7, 8, 9, 10, 11, 12, 13, 14, 17, 26, 31, 33, 34, 35, 36, 43, 56, 61],
    (.seq (.reg [⟨.var 3, (.e (.box 58 (.st [(.arr 2 .leaf), .leaf]))), [.t 0], none⟩,
      ⟨.var 4, (.q .mv), [.c .nils], none⟩,
      ⟨.var 5, (.q .mv), [.c (.int 0)], none⟩])
    (.seq (.seq (.reg [⟨.new, (.q .mv), [.t 2], none⟩,
      ⟨.new, (.q .len), [.t 23], none⟩,
      ⟨.var 13, (.q (.bin .neq)), [.t 24, .c (.int 128)], none⟩])
    (.cond (.t 13) (.seq (.reg [⟨.var 4, (.q .mv), [.c .nils], none⟩,
      ⟨.var 5, (.q .mv), [.c (.int 11)], none⟩])
    .ret)
    .skip))
    (.seq (.reg [⟨.new, (.q .mv), [.t 2], none⟩,
      ⟨.new, (.q (.iaS (.st [.leaf, .leaf]))), [.t 23, .c (.int 0)], none⟩,
      ⟨.new, (.q (.ld (.st [.leaf, .leaf]))), [.t 24], none⟩,
      ⟨.new, (.call 46), [.t 25], none⟩,
      ⟨.var 6, (.q .mv), [.t 26], none⟩])
    (.seq (.seq (.reg [⟨.new, (.q .mv), [.t 1], none⟩,
      ⟨.new, (.q .mv), [.t 6], none⟩,
      ⟨.new, (.call 52), [.t 23, .t 24], none⟩,
      ⟨.var 7, (.q .mv), [.t 25], none⟩])
    (.seq (.reg [⟨.new, (.q .mv), [.t 7], none⟩,
      ⟨.var 14, (.q (.bin .neq)), [.t 23, .c (.int 0)], none⟩])
    (.cond (.t 14) (.seq (.reg [⟨.new, (.q .mv), [.t 7], none⟩,
      ⟨.var 4, (.q .mv), [.c .nils], none⟩,
      ⟨.var 5, (.q .mv), [.t 23], none⟩])
    .ret)
    .skip)))
    (.seq (.seq (.reg [⟨.new, (.q (.fa [(.arr 2 .leaf), .leaf] 1)), [.t 3], none⟩,
      ⟨.new, (.q (.ld .leaf)), [.t 23], none⟩,
      ⟨.new, (.q .len), [.t 24], none⟩,
      ⟨.var 15, (.q (.bin .neq)), [.t 25, .c (.int 128)], none⟩])
    (.cond (.t 15) (.seq (.reg [⟨.var 4, (.q .mv), [.c .nils], none⟩,
      ⟨.var 5, (.q .mv), [.c (.int 11)], none⟩])
    .ret)
    .skip))
    (.seq (.reg [⟨.new, (.e (.mksl 37 (.st [.leaf, .leaf]) 32 (.agg [(.int 0), .nils]))), [.c (.int 0), .c (.int 128)], none⟩,
      ⟨.var 8, (.q .mv), [.t 23], none⟩])
    (.seq (.seq (.reg [⟨.var 16, (.q .mv), [.t 2], none⟩,
      ⟨.var 17, (.q .len), [.t 16], none⟩,
      ⟨.var 18, (.q .mv), [.c (.int 0)], none⟩])
    (.block 0 (.loop (.seq (.reg [⟨.var 19, (.q (.bin .lss)), [.t 18, .t 17], none⟩])
    (.seq (.cond (.t 19) .skip
    (.exit 0))
    (.seq (.block 1 (.seq (.reg [⟨.new, (.q .mv), [.t 18], none⟩,
      ⟨.new, (.q (.iaS (.st [.leaf, .leaf]))), [.t 16, .t 18], none⟩,
      ⟨.new, (.q (.ld (.st [.leaf, .leaf]))), [.t 24], none⟩,
      ⟨.var 10, (.e (.alloc 37 (.st [.leaf, .leaf]) (.agg [(.int 0), .nils]))), [], none⟩,
      ⟨.var 9, (.q .mv), [.t 23], none⟩,
      ⟨.none, (.e (.store (.st [.leaf, .leaf]))), [.t 10, .t 25], none⟩])
    (.seq (.seq (.reg [⟨.new, (.q (.ld (.st [.leaf, .leaf]))), [.t 10], none⟩,
      ⟨.new, (.call 46), [.t 23], none⟩,
      ⟨.new, (.q .mv), [.t 6], none⟩,
      ⟨.var 20, (.q (.bin .neq)), [.t 24, .t 25], none⟩])
    (.cond (.t 20) (.seq (.reg [⟨.var 4, (.q .mv), [.c .nils], none⟩,
      ⟨.var 5, (.q .mv), [.c (.int 11)], none⟩])
    .ret)
    .skip))
    (.seq (.reg [⟨.new, (.q (.fa [(.arr 2 .leaf), .leaf] 1)), [.t 3], none⟩,
      ⟨.new, (.q (.ld .leaf)), [.t 23], none⟩,
      ⟨.new, (.q .mv), [.t 9], none⟩,
      ⟨.new, (.q (.iaS (.arr 32 .leaf))), [.t 24, .t 25], none⟩,
      ⟨.new, (.q (.ld (.arr 32 .leaf))), [.t 26], none⟩,
      ⟨.new, (.q .mv), [.t 1], none⟩,
      ⟨.new, (.q .mv), [.t 6], none⟩,
      ⟨.new, (.call 53), [.t 27, .t 28, .t 29], none⟩,
      ⟨.new, (.q .mv), [.t 30], none⟩,
      ⟨.new, (.q (.ext 0)), [.t 31], none⟩,
      ⟨.new, (.q (.ext 1)), [.t 31], none⟩,
      ⟨.var 11, (.e (.alloc 37 (.st [.leaf, .leaf]) (.agg [(.int 0), .nils]))), [], none⟩,
      ⟨.none, (.e (.store (.st [.leaf, .leaf]))), [.t 11, .t 32], none⟩,
      ⟨.var 12, (.q .mv), [.t 33], none⟩])
    (.seq (.seq (.reg [⟨.new, (.q .mv), [.t 12], none⟩,
      ⟨.var 21, (.q (.bin .neq)), [.t 23, .c (.int 0)], none⟩])
    (.cond (.t 21) (.seq (.reg [⟨.new, (.q .mv), [.t 12], none⟩,
      ⟨.var 4, (.q .mv), [.c .nils], none⟩,
      ⟨.var 5, (.q .mv), [.t 23], none⟩])
    .ret)
    .skip))
    (.seq (.seq (.reg [⟨.new, (.q (.fa [(.arr 2 .leaf), .leaf] 0)), [.t 3], none⟩,
      ⟨.new, (.q (.ld (.arr 2 .leaf))), [.t 23], none⟩,
      ⟨.new, (.q .mv), [.t 9], none⟩,
      ⟨.var 22, (.call 54), [.t 24, .t 25], none⟩])
    (.cond (.t 22) (.reg [⟨.new, (.q (.ld (.st [.leaf, .leaf]))), [.t 11], none⟩,
      ⟨.new, (.q (.ld (.st [.leaf, .leaf]))), [.t 10], none⟩,
      ⟨.new, (.call 55), [.t 23, .t 24], none⟩,
      ⟨.new, (.q .mv), [.t 25], none⟩,
      ⟨.new, (.q (.ext 0)), [.t 26], none⟩,
      ⟨.new, (.q (.ext 1)), [.t 26], none⟩,
      ⟨.none, (.e (.store (.st [.leaf, .leaf]))), [.t 11, .t 27], none⟩])
    .skip))
    (.reg [⟨.new, (.q .mv), [.t 8], none⟩,
      ⟨.new, (.q (.ld (.st [.leaf, .leaf]))), [.t 11], none⟩,
      ⟨.new, (.e (.bsl 37 (.st [.leaf, .leaf]) (.agg [(.int 0), .nils]) 1 [0])), [.t 24], none⟩,
      ⟨.new, (.e (.app 37 (.st [.leaf, .leaf]) 32)), [.t 23, .t 25], none⟩,
      ⟨.var 8, (.q .mv), [.t 26], none⟩])))))))
    (.reg [⟨.new, (.q (.bin .add)), [.t 18, .c (.int 1)], none⟩,
      ⟨.var 18, (.q .mv), [.t 23], none⟩])))))))
    (.seq (.reg [⟨.new, (.q .mv), [.t 8], none⟩,
      ⟨.new, (.call 56), [.t 23], none⟩,
      ⟨.new, (.q (.ext 0)), [.t 24], none⟩,
      ⟨.new, (.q (.ext 1)), [.t 24], none⟩,
      ⟨.var 4, (.q .mv), [.t 25], none⟩,
      ⟨.var 5, (.q .mv), [.t 26], none⟩])
    .ret)))))))),
    [.t 4, .t 5]⟩

set_option maxRecDepth 100000
set_option linter.unusedSimpArgs false
set_option linter.unusedVariables false
theorem c24 : cF P [] (drP P []) 24 3 s24.vm = some s24 := by kernel_rfl
/-- who sends: the columns of the rows -/
def sF (d0 d1 : BitVec 64) (fk : Nat → List (BitVec 8)) (a n : Nat) (f : Nat → Nat → Bool) (i j : Nat) : Bool := cl (fk i) a n j != (rb d0 d1 i && f i j)
def sndV (d0 d1 : BitVec 64) (fk : Nat → List (BitVec 8)) : AV := .agg [.agg [.u64 d0, .u64 d1], .ro (.arr 32 .leaf) (sdL fk 128)]
theorem f24c {K : AV → Heap → Prop} {H : Heap} {d0 d1 : BitVec 64} {fk : Nat → List (BitVec 8)} {a : BitVec 64} {m : Nat → Nat} {f : Nat → Nat → Bool} {q : Nat} (hq : q ≠ 128) (h : K (.tup [.nils, .int 11]) H) : wpF P [] 24 [sndV d0 d1 fk, .u64 a, .ro vS (veL m f q)] H K := by
  refine wpF_go c24 rfl 3 ?_
  intro ha hb
  simp only [s24, sndV]
  clear ha hb
  have l1 := veL_len (m := m) (f := f) (t := q)
  have e1 : ((q : Int) = 128) = False := by simp only [eq_iff_iff, iff_false]; omega
  (refine gw2 @l1 @e1 ?_; try exact True.intro)
  exact h
theorem f24e {K : AV → Heap → Prop} {H : Heap} {d0 d1 : BitVec 64} {fk : Nat → List (BitVec 8)} {a : BitVec 64} {m : Nat → Nat} {f : Nat → Nat → Bool} (he : spn a (m 0) ≠ 0) (h : K (.tup [.nils, .int (spn a (m 0))]) H) : wpF P [] 24 [sndV d0 d1 fk, .u64 a, .ro vS (veL m f 128)] H K := by
  refine wpF_go c24 rfl 3 ?_
  intro ha hb
  simp only [s24, sndV]
  clear ha hb
  have l1 := veL_len (m := m) (f := f) (t := 128)
  have e128 : ((128 : Nat) : Int) = 128 := rfl
  have g0 := veL_get (m := m) (f := f) (t := 128) (i := 0) (by omega)
  have hv : ∀ n f, vec n f = .agg [.int (n : Int), .ro .leaf (wdA n f)] := fun _ _ => rfl
  rw [hv] at g0
  (refine gw3 @l1 @e128 @g0 ?_; try exact True.intro)
  rw [← hv]
  refine ⟨rfl, f46 ?_⟩
  (refine gw3 @l1 @e128 @g0 ?_; try exact True.intro)
  refine f52 ?_
  have e1 : (spn a (m 0) = 0) = False := eq_false he
  generalize spn a (m 0) = e at *
  (refine gw1 @e1 ?_; try exact True.intro)
  exact h
def skb (d0 d1 : BitVec 64) (lk : List AV) : Option Blk := some ⟨58, 0, false, .arr 1 (.st [.arr 2 .leaf, .leaf]), .agg [.agg [.agg [.u64 d0, .u64 d1], .ro (.arr 32 .leaf) lk]]⟩
def I24 (d0 d1 : BitVec 64) (lk lc : List AV) (fk : Nat → List (BitVec 8)) (a : BitVec 64) (n : Nat) (m : Nat → Nat) (f : Nat → Nat → Bool) (H : Heap) (k : Nat) (st : St) : Prop :=
  ∃ (i : Nat) (u9 u10 u11 u12 u19 u20 u21 u22 : AV) (l : List AV) (J : Heap), st = ⟨[.agg [.agg [.u64 d0, .u64 d1], .ro (.arr 32 .leaf) lk], .u64 a, .ro vS lc, .ptr H.length 0 [0] (.st [.arr 2 .leaf, .leaf]), .nils, .int 0, .int (n : Int), .int 0, .own (H.length + 1) i [] 0 i vS, u9, u10, u11, u12, .bool false, .bool false, .bool false, .ro vS lc, .int 128, .int (i : Int), u19, u20, u21, u22],
    H ++ skb d0 d1 lk :: vB i l :: J⟩ ∧ k = 128 - i ∧ i ≤ 128 ∧ (∀ j, j < i → m j = n) ∧ l = veL (fun _ => n) (sF d0 d1 fk a.toNat n f) i
set_option maxHeartbeats 4000000 in
theorem f24 {K : AV → Heap → Prop} {H : Heap} {d0 d1 : BitVec 64} {fk : Nat → List (BitVec 8)} {a : BitVec 64} {m : Nat → Nat} {f : Nat → Nat → Bool} {n : Nat} (hk : ∀ i, (fk i).length = 32) (hm : ∀ i, m i ≤ 65536) (hn : m 0 = n) (he : spn a n = 0)
    (hbad : (∃ i, i < 128 ∧ m i ≠ n) → K (.tup [.nils, .int 11]) H)
    (hgood : (∀ i, i < 128 → m i = n) → K (.tup [.ro (.arr 2 .leaf) (rwA (cw (sF d0 d1 fk a.toNat n f) 0) (cw (sF d0 d1 fk a.toNat n f) 1) n), .int 0]) H) : wpF P [] 24 [sndV d0 d1 fk, .u64 a, .ro vS (veL m f 128)] H K := by
  refine wpF_go c24 rfl 5 ?_
  intro ha hb
  simp only [s24, sndV]
  clear ha hb
  have l1 := veL_len (m := m) (f := f) (t := 128)
  have l2 := sdL_len (f := fk) (n := 128)
  have e128 : ((128 : Nat) : Int) = 128 := rfl
  have hv : ∀ n f, vec n f = .agg [.int (n : Int), .ro .leaf (wdA n f)] := fun _ _ => rfl
  have gc : ∀ i, i < 128 → (veL m f 128).getD i .un = vec (m i) (f i) := fun i hi => veL_get hi
  have gk : ∀ i, i < 128 → (sdL fk 128).getD i .un = .agg ((fk i).map .u8) := fun i hi => ld_rng hi
  have g0 := gc 0 (by omega)
  rw [hv, hn] at g0
  obtain ⟨n1, n2, n3⟩ := spn_0 he
  generalize veL m f 128 = lc at *
  generalize sdL fk 128 = lk at *
  (refine gw3 @l1 @e128 @g0 ?_; try exact True.intro)
  refine ⟨rfl, f46 (n := n) (f := f 0) ?_⟩
  (refine gw3 @l1 @e128 @g0 ?_; try exact True.intro)
  refine f52 ?_
  rw [he]
  (refine gw3 @l1 @l2 @e128 ?_; try exact True.intro)
  refine wp_inv (I24 d0 d1 lk lc fk a n m f H) 128 ⟨0, _, _, _, _, _, _, _, _, [], [], rfl, rfl, by omega, fun j hj => absurd hj (Nat.not_lt_zero j), rfl⟩ ?_
  rintro k st ⟨i, u9, u10, u11, u12, u19, u20, u21, u22, l, J, rfl, rfl, hi, hmi, hl⟩
  unfold skb vB vS
  by_cases hil : i < 128
  · have h2 : ((i : Int) < 128) = True := by simp only [eq_iff_iff, iff_true]; omega
    have gi := gc i hil
    have ki := gk i hil
    have q1 := hk i
    have hmi' := hm i
    rw [hv] at gi
    (refine gw5 @h2 @l1 @l2 @e128 @gi ?_; try exact True.intro)
    refine f46 (n := m i) (f := f i) ?_
    by_cases hq : m i = n
    · have e1 : (((m i : Nat) : Int) = (n : Int)) = True := by rw [hq]; simp
      have hmi2 : ∀ j, j < i + 1 → m j = n := fun j hj => by
        by_cases e : j = i
        · rw [e]; exact hq
        · exact hmi j (by omega)
      (refine gw7 @e1 @h2 @l1 @l2 @e128 @ki @q1 ?_; try exact True.intro)
      refine f53 q1 (by omega) (by omega) ?_
      rw [hv]
      (refine gw0 ?_; try exact True.intro)
      refine f54 (x := d0) (y := d1) ?_
      cases hr : rb d0 d1 (i : Int) with
      | false =>
        have hS : sF d0 d1 fk a.toNat n f i = cl (fk i) a.toNat n := by funext j; simp [sF, hr]
        (refine gw0 ?_; try exact True.intro)
        (repeat (refine And.intro (by omega) ?_))
        exact ⟨128 - (i + 1), by omega, i + 1, _, _, _, _, _, _, _, _, _, _, rfl, rfl, by omega, hmi2, by rw [hl, ← veL_succ, hS]; rfl⟩
      | true =>
        have hS : sF d0 d1 fk a.toNat n f i = fun j => cl (fk i) a.toNat n j != f i j := by funext j; simp [sF, hr]
        rw [hq]
        (refine gw0 ?_; try exact True.intro)
        refine f55 (n := n) (m := n) (f := cl (fk i) a.toNat n) (g := f i) (by omega) ?_
        rw [if_pos rfl, hv]
        (refine gw0 ?_; try exact True.intro)
        (repeat (refine And.intro (by omega) ?_))
        exact ⟨128 - (i + 1), by omega, i + 1, _, _, _, _, _, _, _, _, _, _, rfl, rfl, by omega, hmi2, by rw [hl, ← veL_succ, hS]; rfl⟩
    · have e1 : (((m i : Nat) : Int) = (n : Int)) = False := by simp only [eq_iff_iff, iff_false]; omega
      (refine gw1 @e1 ?_; try exact True.intro)
      exact hbad ⟨i, hil, hq⟩
  · have h2 : ((i : Int) < 128) = False := by simp only [eq_iff_iff, iff_false]; omega
    have hie : i = 128 := by omega
    subst hie
    have lt : List.take 128 l = l := List.take_of_length_le (by rw [hl, veL_len]; exact Nat.le_refl _)
    have mo : ∀ {kp : Nat → Bool} {N : Nat} {h : Heap} {d : Nat}, mapO (demK kp N h (d + 3)) l = some l := by rw [hl]; exact mapO_veL
    (refine gw1 @h2 ?_; try exact True.intro)
    refine wpF_give1 (H.length + 1) 5 ?_
    (refine gw2 @lt @mo ?_; try exact True.intro)
    rw [hl]
    refine f56 (m := fun _ => n) (f := sF d0 d1 fk a.toNat n f) (fun _ => by omega) (fun ⟨i, _, hn⟩ => absurd rfl hn) (fun _ => ?_)
    rw [rwA_cw]
    have hbr : ∀ {k : Nat}, AV.bnds k (rwA (cw (sF d0 d1 fk a.toNat n f) 0) (cw (sF d0 d1 fk a.toNat n f) 1) n) = true := by
      intro k
      refine bnds_iff.2 fun x hx => ?_
      obtain ⟨j, _, rfl⟩ := List.mem_map.1 hx
      rfl
    have h := hgood hmi
    generalize rwA (cw (sF d0 d1 fk a.toNat n f) 0) (cw (sF d0 d1 fk a.toNat n f) 1) n = R at *
    (refine gw1 @hbr ?_; try exact True.intro)
    exact h
end Go.Proofs.Ytjilenmngokhpaa

end

section
/-
  Layer 17 (iknp): the reference's Send.
-/
open Go Go.V
namespace Go.Proofs.Ytjilenmngokhpaa
/-- trefoil/trefoilref17.Send (0:delta, 1:keys, 2:from, 3:cols, 4:delta, 8:, 9:, 10:n, 11:e, 12:own, 13:i, 14:q, 16:c, 17:j, 20:, 29:, 33:, 35:, 44:, 58:) -/
def s25 : FnS := ⟨87, [0, 1, 2, 3, 4, 8, 9, 10, 11, 12, 13, 14, 16, 17, 20, 29, 33, 35, 44, 58],
    (.seq (.reg [⟨.var 4, (.e (.box 56 (.arr 2 .leaf))), [.t 0], none⟩,
      ⟨.var 5, (.q .mv), [.c .nils], none⟩,
      ⟨.var 6, (.q .mv), [.c (.int 0)], none⟩])
    (.seq (.seq (.reg [⟨.new, (.q .mv), [.t 3], none⟩,
      ⟨.new, (.q .len), [.t 20], none⟩,
      ⟨.var 14, (.q (.bin .neq)), [.t 21, .c (.int 128)], none⟩])
    (.cond (.t 14) (.seq (.reg [⟨.var 5, (.q .mv), [.c .nils], none⟩,
      ⟨.var 6, (.q .mv), [.c (.int 11)], none⟩])
    .ret)
    .skip))
    (.seq (.reg [⟨.new, (.q .mv), [.t 3], none⟩,
      ⟨.new, (.q (.iaS .leaf)), [.t 20, .c (.int 0)], none⟩,
      ⟨.new, (.q (.ld .leaf)), [.t 21], none⟩,
      ⟨.new, (.q .len), [.t 22], none⟩,
      ⟨.var 7, (.q .mv), [.t 23], none⟩])
    (.seq (.seq (.reg [⟨.new, (.q .mv), [.t 2], none⟩,
      ⟨.new, (.q .mv), [.t 7], none⟩,
      ⟨.new, (.call 57), [.t 20, .t 21], none⟩,
      ⟨.var 8, (.q .mv), [.t 22], none⟩])
    (.seq (.reg [⟨.new, (.q .mv), [.t 8], none⟩,
      ⟨.var 15, (.q (.bin .neq)), [.t 20, .c (.int 0)], none⟩])
    (.cond (.t 15) (.seq (.reg [⟨.new, (.q .mv), [.t 8], none⟩,
      ⟨.var 5, (.q .mv), [.c .nils], none⟩,
      ⟨.var 6, (.q .mv), [.t 20], none⟩])
    .ret)
    .skip)))
    (.seq (.seq (.reg [⟨.new, (.q .mv), [.t 1], none⟩,
      ⟨.new, (.q .len), [.t 20], none⟩,
      ⟨.var 16, (.q (.bin .neq)), [.t 21, .c (.int 128)], none⟩])
    (.cond (.t 16) (.seq (.reg [⟨.var 5, (.q .mv), [.c .nils], none⟩,
      ⟨.var 6, (.q .mv), [.c (.int 11)], none⟩])
    .ret)
    .skip))
    (.seq (.reg [⟨.var 9, (.q .mv), [.c .nils], none⟩])
    (.seq (.seq (.reg [⟨.var 10, (.q .mv), [.c (.int 0)], none⟩])
    (.block 0 (.loop (.seq (.seq (.reg [⟨.new, (.q .mv), [.t 10], none⟩,
      ⟨.var 17, (.q (.bin .lss)), [.t 20, .c (.int 128)], none⟩])
    (.cond (.t 17) .skip
    (.exit 0)))
    (.seq (.block 1 (.seq (.seq (.reg [⟨.new, (.q .mv), [.t 3], none⟩,
      ⟨.new, (.q .mv), [.t 10], none⟩,
      ⟨.new, (.q (.iaS .leaf)), [.t 20, .t 21], none⟩,
      ⟨.new, (.q (.ld .leaf)), [.t 22], none⟩,
      ⟨.new, (.q .len), [.t 23], none⟩,
      ⟨.new, (.q .mv), [.t 7], none⟩,
      ⟨.var 18, (.q (.bin .neq)), [.t 24, .t 25], none⟩])
    (.cond (.t 18) (.seq (.reg [⟨.var 5, (.q .mv), [.c .nils], none⟩,
      ⟨.var 6, (.q .mv), [.c (.int 11)], none⟩])
    .ret)
    .skip))
    (.seq (.reg [⟨.new, (.q .mv), [.t 1], none⟩,
      ⟨.new, (.q .mv), [.t 10], none⟩,
      ⟨.new, (.q (.iaS (.arr 32 .leaf))), [.t 20, .t 21], none⟩,
      ⟨.new, (.q (.ld (.arr 32 .leaf))), [.t 22], none⟩,
      ⟨.new, (.q .mv), [.t 2], none⟩,
      ⟨.new, (.q (.cv .i64)), [.t 24], none⟩,
      ⟨.new, (.q .mv), [.t 7], none⟩,
      ⟨.new, (.call 58), [.t 23, .c (.u32 0), .t 25, .t 26], none⟩,
      ⟨.new, (.q .mv), [.t 27], none⟩,
      ⟨.new, (.q (.ext 0)), [.t 28], none⟩,
      ⟨.new, (.q (.ext 1)), [.t 28], none⟩,
      ⟨.var 11, (.q .mv), [.t 29], none⟩,
      ⟨.new, (.q .mv), [.t 30], none⟩])
    (.seq (.reg [⟨.var 12, (.q .mv), [.c .nils], none⟩])
    (.seq (.seq (.reg [⟨.var 13, (.q .mv), [.c (.int 0)], none⟩])
    (.block 2 (.loop (.seq (.seq (.reg [⟨.new, (.q .mv), [.t 13], none⟩,
      ⟨.new, (.q .mv), [.t 7], none⟩,
      ⟨.var 19, (.q (.bin .lss)), [.t 20, .t 21], none⟩])
    (.cond (.t 19) .skip
    (.exit 2)))
    (.seq (.block 3 (.draw [⟨.new, (.q .mv), [.t 12], none⟩,
      ⟨.new, (.q .mv), [.t 11], none⟩,
      ⟨.new, (.q .mv), [.t 13], none⟩,
      ⟨.new, (.q (.iaS .leaf)), [.t 21, .t 22], none⟩,
      ⟨.new, (.q (.ld .leaf)), [.t 23], none⟩,
      ⟨.new, (.q (.ld (.arr 2 .leaf))), [.t 4], none⟩,
      ⟨.new, (.q .mv), [.t 10], none⟩,
      ⟨.new, (.call 59), [.t 25, .t 26], none⟩,
      ⟨.new, (.q .mv), [.t 27], none⟩,
      ⟨.new, (.q .mv), [.t 3], (some (28, true))⟩,
      ⟨.new, (.q .mv), [.t 10], (some (28, true))⟩,
      ⟨.new, (.q (.iaS .leaf)), [.t 29, .t 30], (some (28, true))⟩,
      ⟨.new, (.q (.ld .leaf)), [.t 31], (some (28, true))⟩,
      ⟨.new, (.q .mv), [.t 13], (some (28, true))⟩,
      ⟨.new, (.q (.iaS .leaf)), [.t 32, .t 33], (some (28, true))⟩,
      ⟨.new, (.q (.ld .leaf)), [.t 34], (some (28, true))⟩,
      ⟨.new, (.q .pick), [.t 28, .t 35, .c (.bool false)], none⟩,
      ⟨.new, (.q (.eqB true)), [.t 24, .t 36], none⟩,
      ⟨.new, (.e (.bsl 4 .leaf (.bool false) 1 [0])), [.t 37], none⟩,
      ⟨.new, (.e (.app 4 .leaf 1)), [.t 20, .t 38], none⟩,
      ⟨.var 12, (.q .mv), [.t 39], none⟩]))
    (.reg [⟨.new, (.q .mv), [.t 13], none⟩,
      ⟨.new, (.q (.bin .add)), [.t 20, .c (.int 1)], none⟩,
      ⟨.var 13, (.q .mv), [.t 21], none⟩]))))))
    (.reg [⟨.new, (.q .mv), [.t 9], none⟩,
      ⟨.new, (.q .mv), [.t 12], none⟩,
      ⟨.new, (.e (.bsl 35 .leaf .nils 1 [0])), [.t 21], none⟩,
      ⟨.new, (.e (.app 35 .leaf 24)), [.t 20, .t 22], none⟩,
      ⟨.var 9, (.q .mv), [.t 23], none⟩]))))))
    (.reg [⟨.new, (.q .mv), [.t 10], none⟩,
      ⟨.new, (.q (.bin .add)), [.t 20, .c (.int 1)], none⟩,
      ⟨.var 10, (.q .mv), [.t 21], none⟩]))))))
    (.seq (.reg [⟨.new, (.q .mv), [.t 9], none⟩,
      ⟨.new, (.call 60), [.t 20], none⟩,
      ⟨.var 5, (.q .mv), [.t 21], none⟩,
      ⟨.var 6, (.q .mv), [.c (.int 0)], none⟩])
    .ret)))))))),
    [.t 5, .t 6]⟩

set_option maxRecDepth 100000
set_option linter.unusedSimpArgs false
set_option linter.unusedVariables false
theorem c25 : cF P [] (drP P []) 25 4 s25.vm = some s25 := by kernel_rfl
theorem f25c {K : AV → Heap → Prop} {H : Heap} {d0 d1 : BitVec 64} {lk : List AV} {a : BitVec 64} {m : Nat → Nat} {f : Nat → Nat → Bool} {q : Nat} (hq : q ≠ 128) (h : K (.tup [.nils, .int 11]) H) : wpF P [] 25 [rowV d0 d1, .ro (.arr 32 .leaf) lk, .u64 a, .ro .leaf (teL m f q)] H K := by
  refine wpF_go c25 rfl 3 ?_
  intro ha hb
  simp only [s25, rowV]
  clear ha hb
  have l1 := teL_len (m := m) (f := f) (t := q)
  have e1 : ((q : Int) = 128) = False := by simp only [eq_iff_iff, iff_false]; omega
  (refine gw2 @l1 @e1 ?_; try exact True.intro)
  exact h
theorem f25e {K : AV → Heap → Prop} {H : Heap} {d0 d1 : BitVec 64} {lk : List AV} {a : BitVec 64} {m : Nat → Nat} {f : Nat → Nat → Bool} (hm : m 0 ≤ 1000000) (he : spn a (m 0) ≠ 0) (h : K (.tup [.nils, .int (spn a (m 0))]) H) : wpF P [] 25 [rowV d0 d1, .ro (.arr 32 .leaf) lk, .u64 a, .ro .leaf (teL m f 128)] H K := by
  refine wpF_go c25 rfl 3 ?_
  intro ha hb
  simp only [s25, rowV]
  clear ha hb
  have l1 := teL_len (m := m) (f := f) (t := 128)
  have e128 : ((128 : Nat) : Int) = 128 := rfl
  have g0 := teL_get (m := m) (f := f) (t := 128) (i := 0) (by omega)
  by_cases h0 : m 0 = 0
  · rw [h0] at g0 he h
    rw [show bel 0 (f 0) = .nils from rfl] at g0
    (refine gw3 @l1 @e128 @g0 ?_; try exact True.intro)
    refine f57 (by omega) ?_
    have e1 : (spn a ((0 : Nat) : Int) = 0) = False := eq_false he
    have e2 : spn a ((0 : Nat) : Int) = spn a 0 := rfl
    rw [e2] at e1 h
    generalize spn a 0 = e at *
    (refine gw1 @e1 ?_; try exact True.intro)
    exact h
  · rw [bel_pos (by omega)] at g0
    have l3 : (boL (f 0) (m 0)).length = m 0 := by simp [boL]
    (refine gw4 @l1 @e128 @g0 @l3 ?_; try exact True.intro)
    refine f57 (by omega) ?_
    have e1 : (spn a (m 0) = 0) = False := eq_false he
    generalize spn a (m 0) = e at *
    (refine gw1 @e1 ?_; try exact True.intro)
    exact h
def I25a (d0 d1 : BitVec 64) (lk lc : List AV) (a : BitVec 64) (n : Nat) (m : Nat → Nat) (S : Nat → Nat → Bool) (H : Heap) (k : Nat) (st : St) : Prop :=
  ∃ (i : Nat) (l u11 u12 u13 u17 u18 u19 : AV) (es : List AV) (B : Nat) (L : Heap), st = ⟨[.agg [.u64 d0, .u64 d1], .ro (.arr 32 .leaf) lk, .u64 a, .ro .leaf lc, .ptr H.length 0 [0] (.arr 2 .leaf), .nils, .int 0, .int (n : Int), .int 0, l, .int (i : Int), u11, u12, u13, .bool false, .bool false, .bool false, u17, u18, u19], H ++ L⟩ ∧ k = 128 - i ∧ i ≤ 128 ∧
    (∀ j, j < i → m j = n) ∧ Heap.get L 0 = dbx d0 d1 ∧ 0 < L.length ∧ LL H.length L B l i es (fun _ => n) S
def I25b (d0 d1 : BitVec 64) (lk lc : List AV) (a : BitVec 64) (n i N : Nat) (l t : AV) (F : Nat → AV) (G : Heap) (k : Nat) (st : St) : Prop :=
  ∃ (j : Nat) (c u19 : AV) (L : Heap), st = ⟨[.agg [.u64 d0, .u64 d1], .ro (.arr 32 .leaf) lk, .u64 a, .ro .leaf lc, .ptr N 0 [0] (.arr 2 .leaf), .nils, .int 0, .int (n : Int), .int 0, l, .int (i : Int), t, c, .int (j : Int), .bool false, .bool false, .bool false, .bool true, .bool false, u19], G ++ L⟩ ∧ k = n - j ∧ j ≤ n ∧
    apd 4 G.length F j c L
set_option maxHeartbeats 4000000 in
theorem f25 {K : AV → Heap → Prop} {H : Heap} {d0 d1 : BitVec 64} {fk : Nat → List (BitVec 8)} {a : BitVec 64} {m : Nat → Nat} {f : Nat → Nat → Bool} {n : Nat} (hk : ∀ i, (fk i).length = 32) (hm : ∀ i, m i ≤ 65536) (hn : m 0 = n) (he : spn a n = 0)
    (hbad : (∃ i, i < 128 ∧ m i ≠ n) → K (.tup [.nils, .int 11]) H)
    (hgood : (∀ i, i < 128 → m i = n) → K (.tup [.ro (.arr 2 .leaf) (rwA (cw (sF d0 d1 fk a.toNat n f) 0) (cw (sF d0 d1 fk a.toNat n f) 1) n), .int 0]) H) : wpF P [] 25 [rowV d0 d1, .ro (.arr 32 .leaf) (sdL fk 128), .u64 a, .ro .leaf (teL m f 128)] H K := by
  refine wpF_go c25 rfl 5 ?_
  intro ha hb
  simp only [s25, rowV]
  clear ha hb
  have l1 := teL_len (m := m) (f := f) (t := 128)
  have l2 := sdL_len (f := fk) (n := 128)
  have e128 : ((128 : Nat) : Int) = 128 := rfl
  have gc : ∀ i, i < 128 → (teL m f 128).getD i .un = bel (m i) (f i) := fun i hi => teL_get hi
  have gk : ∀ i, i < 128 → (sdL fk 128).getD i .un = .agg ((fk i).map .u8) := fun i hi => ld_rng hi
  obtain ⟨n1, n2, n3⟩ := spn_0 he
  have n0 : n ≠ 0 := by omega
  have g0 := gc 0 (by omega)
  rw [hn, bel_pos (by omega)] at g0
  have l3 : ∀ f, (boL f n).length = n := fun f => by simp [boL]
  have ai : a.toInt = (a.toNat : Int) := BitVec.toInt_eq_toNat_of_lt (by omega)
  generalize teL m f 128 = lc at *
  generalize sdL fk 128 = lk at *
  (refine gw4 @l1 @e128 @g0 @l3 ?_; try exact True.intro)
  refine f57 (by omega) ?_
  rw [he]
  (refine gw3 @l1 @l2 @e128 ?_; try exact True.intro)
  refine wp_inv (I25a d0 d1 lk lc a n m (sF d0 d1 fk a.toNat n f) H) 128 ⟨0, _, _, _, _, _, _, _, [], 0, [_], rfl, rfl, by omega, fun j hj => absurd hj (Nat.not_lt_zero j), rfl, by simp, ⟨rfl, by omega, .inl ⟨rfl, rfl⟩, fun t ht => absurd ht (Nat.not_lt_zero t)⟩⟩ ?_
  rintro k st ⟨i, l, u11, u12, u13, u17, u18, u19, es, B, L, rfl, rfl, hi, hmi, hL0, hLp, hLL⟩
  by_cases hil : i < 128
  · have h2 : ((i : Int) < 128) = True := by simp only [eq_iff_iff, iff_true]; omega
    have gi := gc i hil
    have k1 := gk i hil
    have q1 := hk i
    have hmi' := hm i
    by_cases hq : m i = n
    · have hmi2 : ∀ j, j < i + 1 → m j = n := fun j hj => by
        by_cases e : j = i
        · rw [e]; exact hq
        · exact hmi j (by omega)
      rw [hq, bel_pos (by omega)] at gi
      have e1 : ((n : Int) = (n : Int)) = True := by simp
      have hGl : (H ++ L).length = H.length + L.length := List.length_append
      obtain ⟨G, hG⟩ : ∃ G, H ++ L = G := ⟨_, rfl⟩
      have gd : ∀ X, Heap.get (G ++ X) H.length = dbx d0 d1 := fun X => by
        rw [← hG, List.append_assoc, hget_0, Heap.get_some_append hL0]; rfl
      have gd0 : Heap.get G H.length = dbx d0 d1 := by have := gd []; rwa [List.append_nil] at this
      rw [hG] at hGl ⊢
      (refine gw9 @h2 @l1 @l2 @l3 @gi @k1 @q1 @ai @e1 ?_; try exact True.intro)
      refine f58g (a := a.toNat) (n := n) q1 (by omega) (by omega) ?_
      rw [if_neg n0, gbL_cl]
      have hT : ∀ j, j < n → (boL (cl (fk i) a.toNat n) n).getD j .un = .bool (cl (fk i) a.toNat n j) := fun j hj => ld_rng hj
      have hV : ∀ j, j < n → (boL (f i) n).getD j .un = .bool (f i j) := fun j hj => ld_rng hj
      have lT : (boL (cl (fk i) a.toNat n) n).length = n := by simp [boL]
      have lV : (boL (f i) n).length = n := by simp [boL]
      generalize boL (cl (fk i) a.toNat n) n = lT' at *
      generalize boL (f i) n = lV' at *
      (refine gw0 ?_; try exact True.intro)
      refine wp_inv (I25b d0 d1 lk lc a n i H.length l (.ro .leaf lT') (fun j => .bool (sF d0 d1 fk a.toNat n f i j)) G) n ⟨0, _, _, [], by rw [List.append_nil]; rfl, rfl, by omega, .inl ⟨rfl, rfl, rfl⟩⟩ ?_
      rintro k st ⟨j, cc, u19, L', rfl, rfl, hj, hap⟩
      by_cases hjl : j < n
      · have h3 : ((j : Int) < (n : Int)) = True := by simp only [eq_iff_iff, iff_true]; omega
        have t1 := hT j hjl
        have t2 := hV j hjl
        have hU : sF d0 d1 fk a.toNat n f i j = (cl (fk i) a.toNat n j != (rb d0 d1 i && f i j)) := rfl
        generalize cl (fk i) a.toNat n j = p at *
        have hs := rng_snoc (F := fun j => AV.bool (sF d0 d1 fk a.toNat n f i j)) (i := j)
        unfold dbx at gd gd0
        have hij : i < 128 := hil
        rcases hap with ⟨hj0, rfl, rfl⟩ | ⟨hj0, rfl, x0, J, rfl⟩
        · (refine gw6 @h3 @h2 @t1 @lT @gd @gd0 ?_; try exact True.intro)
          refine drawn _ (f59 (x := d0) (y := d1) ⟨rfl, rfl⟩) ?_
          generalize rb d0 d1 (i : Int) = r at *
          generalize f i j = q at *
          cases p <;> cases r <;> cases q <;> (refine gw11 @h3 @h2 @e128 @l1 @gi @t1 @t2 @lT @lV @gd @gd0 ?_; try exact True.intro) <;> (repeat (refine And.intro (by omega) ?_)) <;> exact ⟨n - (j + 1), by omega, j + 1, _, _, _, by subst hj0; rfl, rfl, by omega, .inr ⟨by omega, by subst hj0; rfl, _, [], by rw [← hs, hU]; subst hj0; rfl⟩⟩
        · (refine gw6 @h3 @h2 @t1 @lT @gd @gd0 ?_; try exact True.intro)
          refine drawn _ (f59 (x := d0) (y := d1) ⟨rfl, rfl⟩) ?_
          generalize rb d0 d1 (i : Int) = r at *
          generalize f i j = q at *
          cases p <;> cases r <;> cases q <;> (refine gw11 @h3 @h2 @e128 @l1 @gi @t1 @t2 @lT @lV @gd @gd0 ?_; try exact True.intro) <;> (repeat (refine And.intro (by omega) ?_)) <;> exact ⟨n - (j + 1), by omega, j + 1, _, _, _, rfl, rfl, by omega, .inr ⟨by omega, rfl, _, _, by rw [← hs, hU]; rfl⟩⟩
      · have hje : j = n := by omega
        subst hje
        have h3 : ((j : Int) < (j : Int)) = False := by simp
        rcases hap with ⟨hj0, _⟩ | ⟨_, rfl, x0, J, rfl⟩
        · omega
        have hcc : G.length + 1 = H.length + (L.length + 1) := by omega
        rw [hcc, ← hG, List.append_assoc]
        have hbl : bl H.length (L ++ x0 :: some ⟨4, j, true, .arr j .leaf, .agg ((List.range j).map fun q => .bool (sF d0 d1 fk a.toNat j f i q))⟩ :: J) B (L ++ x0 :: some ⟨4, j, true, .arr j .leaf, .agg ((List.range j).map fun q => .bool (sF d0 d1 fk a.toNat j f i q))⟩ :: J).length (.own (H.length + (L.length + 1)) j [] 0 j .leaf) j (sF d0 d1 fk a.toNat j f i) :=
          .inr ⟨by omega, L.length + 1, by have := hLL.2.1; omega, by simp, rfl, by rw [hget_k]; rfl⟩
        have hLL2 := hLL.push (x0 :: some ⟨4, j, true, .arr j .leaf, .agg ((List.range j).map fun q => .bool (sF d0 d1 fk a.toNat j f i q))⟩ :: J)
        have hL02 : Heap.get (L ++ x0 :: some ⟨4, j, true, .arr j .leaf, .agg ((List.range j).map fun q => .bool (sF d0 d1 fk a.toNat j f i q))⟩ :: J) 0 = dbx d0 d1 := Heap.get_some_append hL0
        have hLp2 : 0 < (L ++ x0 :: some (Blk.mk 4 j true (.arr j .leaf) (.agg ((List.range j).map fun q => .bool (sF d0 d1 fk a.toNat j f i q)))) :: J).length := by simp <;> omega
        clear hLL hG hcc hGl gd gd0
        generalize L ++ x0 :: some (Blk.mk 4 j true (.arr j .leaf) (.agg ((List.range j).map fun q => .bool (sF d0 d1 fk a.toNat j f i q)))) :: J = L2 at *
        generalize L.length + 1 = lc' at *
        have hcell := bl_cell hbl
        rcases hLL2.2.2.1 with ⟨hi0, rfl⟩ | ⟨hi0, b1, hb1, rfl, hg1⟩
        · (refine gw1 @h3 ?_; try exact True.intro)
          (repeat (refine And.intro (by omega) ?_))
          subst hi0
          have r1 := hLL2.fin_nil hbl (some ⟨35, 0, true, .arr 1 .leaf, .agg [.own (H.length + lc') j [] 0 j .leaf]⟩)
          exact ⟨127, by omega, 1, _, _, _, _, _, _, _, _, _, _, rfl, rfl, by omega, hmi2, Heap.get_some_append hL02, by simp <;> omega, r1⟩
        · have hes := hLL2.1
          have hBL := hLL2.2.1
          have r1 := fun X => hLL2.fin_own hb1 hg1 hbl X
          have hb10 : b1 ≠ 0 := fun e => by rw [e, hL02] at hg1; simp [dbx, lsB] at hg1
          unfold lsB at hg1
          have gb1 : ∀ X, Heap.get (L2 ++ X) b1 = _ := fun X => Heap.get_some_append hg1
          have sb1 : ∀ X y, List.set (L2 ++ X) b1 y = List.set L2 b1 y ++ X := fun X y => List.set_append_left _ _ (by omega)
          (refine gw3 @h3 @gb1 @sb1 ?_; try exact True.intro)
          (repeat (refine And.intro (by omega) ?_))
          refine ⟨128 - (i + 1), by omega, i + 1, _, _, _, _, _, _, _, _, _, _, rfl, rfl, by omega, hmi2, ?_, by simp <;> omega, r1 [_]⟩
          exact Heap.get_some_append (by rw [Heap.get_set _ _ _ _ (by omega), if_neg hb10.symm, hL02]; rfl)
    · by_cases h0 : m i = 0
      · have e1 : ((0 : Int) = (n : Int)) = False := by simp only [eq_iff_iff, iff_false]; omega
        rw [h0, show bel 0 (f i) = .nils from rfl] at gi
        (refine gw5 @h2 @l1 @e128 @gi @e1 ?_; try exact True.intro)
        exact hbad ⟨i, hil, hq⟩
      · have e1 : (((m i : Nat) : Int) = (n : Int)) = False := by simp only [eq_iff_iff, iff_false]; omega
        have l4 : (boL (f i) (m i)).length = m i := by simp [boL]
        rw [bel_pos (by omega)] at gi
        (refine gw6 @h2 @l1 @l4 @e128 @gi @e1 ?_; try exact True.intro)
        exact hbad ⟨i, hil, hq⟩
  · have h2 : ((i : Int) < 128) = False := by simp only [eq_iff_iff, iff_false]; omega
    have hie : i = 128 := by omega
    subst hie
    (refine gw1 @h2 ?_; try exact True.intro)
    refine wpF_give (args' := [.ro .leaf (teL (fun _ => n) (sF d0 d1 fk a.toNat n f) 128)]) (fun b => decide (b < H.length)) 4 ?_ ?_
    · simp only [mapO]
      rw [hLL.dem (d := 1) (by omega)]
    rw [kill_own]
    refine f60 (n := n) (g := sF d0 d1 fk a.toNat n f) (by omega) (by omega) ?_
    have hbr : ∀ {k : Nat}, AV.bnds k (rwA (cw (sF d0 d1 fk a.toNat n f) 0) (cw (sF d0 d1 fk a.toNat n f) 1) n) = true := by
      intro k
      refine bnds_iff.2 fun x hx => ?_
      obtain ⟨j, _, rfl⟩ := List.mem_map.1 hx
      rfl
    have h := hgood hmi
    generalize rwA (cw (sF d0 d1 fk a.toNat n f) 0) (cw (sF d0 d1 fk a.toNat n f) 1) n = R at *
    (refine gw1 @hbr ?_; try exact True.intro)
    exact h
end Go.Proofs.Ytjilenmngokhpaa

end
