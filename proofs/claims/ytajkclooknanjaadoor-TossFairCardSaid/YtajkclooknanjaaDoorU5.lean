/-
  Layer 28 (toss): a side of a toss, as this seat has it.
-/
import Derived.Test.YtajkclooknanjaaDoorHk
import Derived.Test.YtajkclooknanjaaDoorV38
section
open Go Go.V
namespace Go.Proofs.YtajkclooknanjaaDoor
/-- trefoil/toss.Mix (0:zero, 1:one, 2:zero, 3:one, 4:, 5:x, 6:i, 7:, 8:) -/
def s33 : FnS := ⟨24, [0, 1, 2, 3, 4, 5, 6, 7, 8],
    (.seq (.reg [⟨.var 2, (.e (.box 25 (.arr 32 .leaf))), [.t 0], none⟩,
      ⟨.var 3, (.e (.box 25 (.arr 32 .leaf))), [.t 1], none⟩,
      ⟨.var 4, (.e (.alloc 25 (.arr 32 .leaf) (.agg [(.u8 0), (.u8 0), (.u8 0), (.u8 0), (.u8 0), (.u8 0), (.u8 0), (.u8 0), (.u8 0), (.u8 0), (.u8 0), (.u8 0), (.u8 0), (.u8 0), (.u8 0), (.u8 0), (.u8 0), (.u8 0), (.u8 0), (.u8 0), (.u8 0), (.u8 0), (.u8 0), (.u8 0), (.u8 0), (.u8 0), (.u8 0), (.u8 0), (.u8 0), (.u8 0), (.u8 0), (.u8 0)]))), [], none⟩])
    (.seq (.reg [⟨.var 5, (.e (.alloc 25 (.arr 32 .leaf) (.agg [(.u8 0), (.u8 0), (.u8 0), (.u8 0), (.u8 0), (.u8 0), (.u8 0), (.u8 0), (.u8 0), (.u8 0), (.u8 0), (.u8 0), (.u8 0), (.u8 0), (.u8 0), (.u8 0), (.u8 0), (.u8 0), (.u8 0), (.u8 0), (.u8 0), (.u8 0), (.u8 0), (.u8 0), (.u8 0), (.u8 0), (.u8 0), (.u8 0), (.u8 0), (.u8 0), (.u8 0), (.u8 0)]))), [], none⟩])
    (.seq (.seq (.reg [⟨.var 7, (.q .mv), [.c (.int 0)], none⟩])
    (.block 0 (.loop (.seq (.reg [⟨.var 8, (.q (.bin .lss)), [.t 7, .c (.int 32)], none⟩])
    (.seq (.cond (.t 8) .skip
    (.exit 0))
    (.seq (.block 1 (.seq (.reg [⟨.new, (.q .mv), [.t 7], none⟩,
      ⟨.var 6, (.q .mv), [.t 9], none⟩])
    (.draw [⟨.new, (.q .mv), [.t 6], none⟩,
      ⟨.new, (.q .mv), [.t 6], none⟩,
      ⟨.new, (.q (.iaA 32 .leaf)), [.t 2, .t 10], none⟩,
      ⟨.new, (.q (.ld .leaf)), [.t 11], none⟩,
      ⟨.new, (.q .mv), [.t 6], none⟩,
      ⟨.new, (.q (.iaA 32 .leaf)), [.t 3, .t 13], none⟩,
      ⟨.new, (.q (.ld .leaf)), [.t 14], none⟩,
      ⟨.new, (.q (.bin .xor)), [.t 12, .t 15], none⟩,
      ⟨.new, (.q (.iaA 32 .leaf)), [.t 5, .t 9], none⟩,
      ⟨.none, (.e (.store .leaf)), [.t 17, .t 16], none⟩])))
    (.reg [⟨.new, (.q (.bin .add)), [.t 7, .c (.int 1)], none⟩,
      ⟨.var 7, (.q .mv), [.t 9], none⟩])))))))
    (.seq (.reg [⟨.new, (.q (.slA 32 .leaf false false)), [.t 5], none⟩,
      ⟨.new, (.q .b2s), [.t 9], none⟩,
      ⟨.new, (.e (.bsl 9 .leaf (.str []) 1 [0])), [.t 10], none⟩,
      ⟨.new, (.call 30), [.c (.str [99, 111, 105, 110]), .t 11], none⟩,
      ⟨.none, (.e (.store (.arr 32 .leaf))), [.t 4, .t 12], none⟩])
    .ret)))),
    [.cell 4 (.arr 32 .leaf)]⟩

/-- trefoil/trefoilref28.Mix (0:zero, 1:one, 2:zero, 3:one, 4:, 5:b, 6:i, 8:) -/
def s27 : FnS := ⟨25, [0, 1, 2, 3, 4, 5, 6, 8],
    (.seq (.reg [⟨.var 2, (.e (.box 25 (.arr 32 .leaf))), [.t 0], none⟩,
      ⟨.var 3, (.e (.box 25 (.arr 32 .leaf))), [.t 1], none⟩,
      ⟨.var 4, (.e (.alloc 25 (.arr 32 .leaf) (.agg [(.u8 0), (.u8 0), (.u8 0), (.u8 0), (.u8 0), (.u8 0), (.u8 0), (.u8 0), (.u8 0), (.u8 0), (.u8 0), (.u8 0), (.u8 0), (.u8 0), (.u8 0), (.u8 0), (.u8 0), (.u8 0), (.u8 0), (.u8 0), (.u8 0), (.u8 0), (.u8 0), (.u8 0), (.u8 0), (.u8 0), (.u8 0), (.u8 0), (.u8 0), (.u8 0), (.u8 0), (.u8 0)]))), [], none⟩])
    (.seq (.reg [⟨.var 5, (.q .mv), [.c .nils], none⟩])
    (.seq (.seq (.reg [⟨.var 6, (.q .mv), [.c (.int 0)], none⟩])
    (.block 0 (.loop (.seq (.seq (.reg [⟨.new, (.q .mv), [.t 6], none⟩,
      ⟨.var 7, (.q (.bin .lss)), [.t 8, .c (.int 32)], none⟩])
    (.cond (.t 7) .skip
    (.exit 0)))
    (.seq (.block 1 (.draw [⟨.new, (.q .mv), [.t 5], none⟩,
      ⟨.new, (.q .mv), [.t 6], none⟩,
      ⟨.new, (.q (.iaA 32 .leaf)), [.t 2, .t 9], none⟩,
      ⟨.new, (.q (.ld .leaf)), [.t 10], none⟩,
      ⟨.new, (.q .mv), [.t 6], none⟩,
      ⟨.new, (.q (.iaA 32 .leaf)), [.t 3, .t 12], none⟩,
      ⟨.new, (.q (.ld .leaf)), [.t 13], none⟩,
      ⟨.new, (.q (.bin .xor)), [.t 11, .t 14], none⟩,
      ⟨.new, (.e (.bsl 5 .leaf (.u8 0) 1 [0])), [.t 15], none⟩,
      ⟨.new, (.e (.app 5 .leaf 1)), [.t 8, .t 16], none⟩,
      ⟨.var 5, (.q .mv), [.t 17], none⟩]))
    (.reg [⟨.new, (.q .mv), [.t 6], none⟩,
      ⟨.new, (.q (.bin .add)), [.t 8, .c (.int 1)], none⟩,
      ⟨.var 6, (.q .mv), [.t 9], none⟩]))))))
    (.seq (.reg [⟨.new, (.q .mv), [.t 5], none⟩,
      ⟨.new, (.q .b2s), [.t 8], none⟩,
      ⟨.new, (.e (.bsl 9 .leaf (.str []) 1 [0])), [.t 9], none⟩,
      ⟨.new, (.call 28), [.c (.str [99, 111, 105, 110]), .t 10], none⟩,
      ⟨.none, (.e (.store (.arr 32 .leaf))), [.t 4, .t 11], none⟩])
    .ret)))),
    [.cell 4 (.arr 32 .leaf)]⟩

/-- trefoil/trefoillaw28.awake (0:, 1:x) -/
def s24 : FnS := ⟨22, [0, 1],
    (.seq (.reg [⟨.var 0, (.q .mv), [.c (.bool false)], none⟩])
    (.seq (.reg [⟨.new, (.e (.bld (.arr 32 .leaf) (.agg [(.u8 0), (.u8 0), (.u8 0), (.u8 0), (.u8 0), (.u8 0), (.u8 0), (.u8 0), (.u8 0), (.u8 0), (.u8 0), (.u8 0), (.u8 0), (.u8 0), (.u8 0), (.u8 0), (.u8 0), (.u8 0), (.u8 0), (.u8 0), (.u8 0), (.u8 0), (.u8 0), (.u8 0), (.u8 0), (.u8 0), (.u8 0), (.u8 0), (.u8 0), (.u8 0), (.u8 0), (.u8 0)]) [0])), [.c (.u8 5)], none⟩,
      ⟨.new, (.e (.bld (.arr 32 .leaf) (.agg [(.u8 0), (.u8 0), (.u8 0), (.u8 0), (.u8 0), (.u8 0), (.u8 0), (.u8 0), (.u8 0), (.u8 0), (.u8 0), (.u8 0), (.u8 0), (.u8 0), (.u8 0), (.u8 0), (.u8 0), (.u8 0), (.u8 0), (.u8 0), (.u8 0), (.u8 0), (.u8 0), (.u8 0), (.u8 0), (.u8 0), (.u8 0), (.u8 0), (.u8 0), (.u8 0), (.u8 0), (.u8 0)]) [0])), [.c (.u8 5)], none⟩,
      ⟨.new, (.call 33), [.t 2, .t 3], none⟩,
      ⟨.var 1, (.e (.alloc 25 (.arr 32 .leaf) (.agg [(.u8 0), (.u8 0), (.u8 0), (.u8 0), (.u8 0), (.u8 0), (.u8 0), (.u8 0), (.u8 0), (.u8 0), (.u8 0), (.u8 0), (.u8 0), (.u8 0), (.u8 0), (.u8 0), (.u8 0), (.u8 0), (.u8 0), (.u8 0), (.u8 0), (.u8 0), (.u8 0), (.u8 0), (.u8 0), (.u8 0), (.u8 0), (.u8 0), (.u8 0), (.u8 0), (.u8 0), (.u8 0)]))), [], none⟩,
      ⟨.none, (.e (.store (.arr 32 .leaf))), [.t 1, .t 4], none⟩])
    (.seq (.draw [⟨.new, (.q (.ld (.arr 32 .leaf))), [.t 1], none⟩,
      ⟨.new, (.e (.bld (.arr 32 .leaf) (.agg [(.u8 0), (.u8 0), (.u8 0), (.u8 0), (.u8 0), (.u8 0), (.u8 0), (.u8 0), (.u8 0), (.u8 0), (.u8 0), (.u8 0), (.u8 0), (.u8 0), (.u8 0), (.u8 0), (.u8 0), (.u8 0), (.u8 0), (.u8 0), (.u8 0), (.u8 0), (.u8 0), (.u8 0), (.u8 0), (.u8 0), (.u8 0), (.u8 0), (.u8 0), (.u8 0), (.u8 0), (.u8 0)]) [])), [], none⟩,
      ⟨.new, (.e (.bld (.arr 32 .leaf) (.agg [(.u8 0), (.u8 0), (.u8 0), (.u8 0), (.u8 0), (.u8 0), (.u8 0), (.u8 0), (.u8 0), (.u8 0), (.u8 0), (.u8 0), (.u8 0), (.u8 0), (.u8 0), (.u8 0), (.u8 0), (.u8 0), (.u8 0), (.u8 0), (.u8 0), (.u8 0), (.u8 0), (.u8 0), (.u8 0), (.u8 0), (.u8 0), (.u8 0), (.u8 0), (.u8 0), (.u8 0), (.u8 0)]) [])), [], none⟩,
      ⟨.new, (.call 33), [.t 3, .t 4], none⟩,
      ⟨.new, (.q (.eqA false 32 .u8)), [.t 2, .t 5], none⟩,
      ⟨.new, (.q .mv), [.t 6], none⟩,
      ⟨.new, (.q (.ld (.arr 32 .leaf))), [.t 1], (some (7, true))⟩,
      ⟨.new, (.e (.bld (.arr 32 .leaf) (.agg [(.u8 0), (.u8 0), (.u8 0), (.u8 0), (.u8 0), (.u8 0), (.u8 0), (.u8 0), (.u8 0), (.u8 0), (.u8 0), (.u8 0), (.u8 0), (.u8 0), (.u8 0), (.u8 0), (.u8 0), (.u8 0), (.u8 0), (.u8 0), (.u8 0), (.u8 0), (.u8 0), (.u8 0), (.u8 0), (.u8 0), (.u8 0), (.u8 0), (.u8 0), (.u8 0), (.u8 0), (.u8 0)]) [])), [], (some (7, true))⟩,
      ⟨.new, (.e (.bld (.arr 32 .leaf) (.agg [(.u8 0), (.u8 0), (.u8 0), (.u8 0), (.u8 0), (.u8 0), (.u8 0), (.u8 0), (.u8 0), (.u8 0), (.u8 0), (.u8 0), (.u8 0), (.u8 0), (.u8 0), (.u8 0), (.u8 0), (.u8 0), (.u8 0), (.u8 0), (.u8 0), (.u8 0), (.u8 0), (.u8 0), (.u8 0), (.u8 0), (.u8 0), (.u8 0), (.u8 0), (.u8 0), (.u8 0), (.u8 0)]) [])), [], (some (7, true))⟩,
      ⟨.new, (.call 27), [.t 9, .t 10], (some (7, true))⟩,
      ⟨.new, (.q (.eqA false 32 .u8)), [.t 8, .t 11], (some (7, true))⟩,
      ⟨.new, (.q .pick), [.t 7, .t 12, .c (.bool false)], none⟩,
      ⟨.new, (.q .mv), [.t 13], none⟩,
      ⟨.new, (.q (.ld (.arr 32 .leaf))), [.t 1], (some (14, true))⟩,
      ⟨.new, (.e (.bld (.arr 32 .leaf) (.agg [(.u8 0), (.u8 0), (.u8 0), (.u8 0), (.u8 0), (.u8 0), (.u8 0), (.u8 0), (.u8 0), (.u8 0), (.u8 0), (.u8 0), (.u8 0), (.u8 0), (.u8 0), (.u8 0), (.u8 0), (.u8 0), (.u8 0), (.u8 0), (.u8 0), (.u8 0), (.u8 0), (.u8 0), (.u8 0), (.u8 0), (.u8 0), (.u8 0), (.u8 0), (.u8 0), (.u8 0), (.u8 0)]) [])), [], (some (14, true))⟩,
      ⟨.new, (.q (.eqA true 32 .u8)), [.t 15, .t 16], (some (14, true))⟩,
      ⟨.new, (.q .pick), [.t 14, .t 17, .c (.bool false)], none⟩,
      ⟨.var 0, (.q .mv), [.t 18], none⟩])
    .ret))),
    [.t 0]⟩

set_option maxRecDepth 100000
set_option linter.unusedSimpArgs false
set_option linter.unusedVariables false
theorem c33 : cF P G (drP P G) 33 2 s33.vm = some s33 := by kernel_rfl
theorem c27 : cF P G (drP P G) 27 2 s27.vm = some s27 := by kernel_rfl
theorem c24 : cF P G (drP P G) 24 0 s24.vm = some s24 := by kernel_rfl
abbrev tsS : Shape := .st [.leaf, .leaf, .arr 32 .leaf, bxS, .leaf, .leaf]
/-- a side of a toss, but for the other one's box -/
structure Ts where
  p : Int
  b : BitVec 32
  o : List (BitVec 8)
  g : Bool
  m : Bool
def tsA (t : Ts) (z : Bx) : AV := .agg [.int t.p, .u32 t.b, .agg (t.o.map .u8), bxA z, .bool t.g, .bool t.m]
def tsB (t : Ts) (z : Bx) : Option Blk := some ⟨51, 0, false, .arr 1 tsS, .agg [tsA t z]⟩
theorem ts_bnd {t : Ts} {z : Bx} {k : Nat} : (AV.agg [tsA t z]).bnd k = true := by
  simp only [tsA, bxA, AV.bnd, AV.bnds, bnds_u8', Bool.and_true]
theorem f14t {K : AV → Heap → Prop} {H0 L : Heap} {t : Ts} {z : Bx} {p : Int} {b : BitVec 32} {d : List (BitVec 8)} (hd : d.length = 32) (hz : z.ok) (h : K (.int (bindE z)) (H0 ++ tsB t (bind z p b d) :: L)) :
    wpF P G 14 [.ptr H0.length 0 [0, 3] bxS, .int p, .u32 b, .agg (d.map .u8)] (H0 ++ tsB t z :: L) K := by
  refine wpF_goM c14 rfl ?_
  intro hA hB
  simp only [s14]
  obtain ⟨hz1, hz2⟩ := hz
  by_cases h0 : z.s = 0
  · have e1 : bind z p b d = ⟨d, p, b, 1, z.x⟩ := if_pos h0
    have e2 : bindE z = 0 := if_pos h0
    rw [e1, e2] at h
    unfold tsB tsA bxA
    (refine gw7 @h0 @hd @hz1 @hz2 @Kmut_n @Kmut_r @Km2_s ?_; try exact True.intro)
    refine ⟨by omega, ?_⟩
    exact mut_fin (E := [some ⟨26, 0, false, .arr 1 (.arr 32 .leaf), .agg [.agg (d.map .u8)]⟩]) hB (y := tsB t ⟨d, p, b, 1, z.x⟩) (by rintro k blk h; cases h; exact ts_bnd) h
  · have e1 : bind z p b d = z := if_neg h0
    have e2 : bindE z = 7 := if_neg h0
    rw [e1, e2] at h
    unfold tsB tsA bxA
    (refine gw7 @h0 @hd @hz1 @hz2 @Kmut_n @Kmut_r @Km2_s ?_; try exact True.intro)
    refine ⟨by omega, ?_⟩
    exact mut_fin (E := [some ⟨26, 0, false, .arr 1 (.arr 32 .leaf), .agg [.agg (d.map .u8)]⟩]) hB (y := tsB t z) (by rintro k blk h; cases h; exact ts_bnd) h
theorem f16t {K : AV → Heap → Prop} {H0 L : Heap} {t : Ts} {z : Bx} {x : List (BitVec 8)} (hx : x.length = 32) (hz : z.ok) (h : K (.int (tellE z x)) (H0 ++ tsB t (tell z x) :: L)) :
    wpF P G 16 [.ptr H0.length 0 [0, 3] bxS, .agg (x.map .u8)] (H0 ++ tsB t z :: L) K := by
  refine wpF_goM c16 rfl ?_
  intro hA hB
  simp only [s16]
  obtain ⟨hz1, hz2⟩ := hz
  have key : ∀ z', K (.int (tellE z x)) (H0 ++ tsB t z' :: L) → List.length H0 + (List.length L + 1) ≤ List.length H0 + (List.length L + 1 + 1) ∧ HBnd (List.length H0 + (List.length L + 1)) (H0 ++ tsB t z' :: (L ++ [some ⟨25, 0, false, .arr 1 (.arr 32 .leaf), .agg [.agg (x.map .u8)]⟩])) ∧ K (.int (tellE z x)) (List.take (List.length H0 + (List.length L + 1)) (H0 ++ tsB t z' :: (L ++ [some ⟨25, 0, false, .arr 1 (.arr 32 .leaf), .agg [.agg (x.map .u8)]⟩]))) := by
    intro z' h
    refine ⟨by omega, ?_⟩
    exact mut_fin (E := [some ⟨25, 0, false, .arr 1 (.arr 32 .leaf), .agg [.agg (x.map .u8)]⟩]) hB (y := tsB t z') (by rintro k blk h; cases h; exact ts_bnd) h
  unfold tsB at key
  by_cases h0 : z.s = 0
  · have e1 : tell z x = z := if_pos h0
    have e2 : tellE z x = 8 := if_pos h0
    rw [e1] at h
    have k := key z h
    rw [e2] at k
    clear key
    unfold tsB tsA bxA at *
    rw [h0] at k
    (refine gw7 @h0 @hx @hz1 @hz2 @Kmut_n @Kmut_r @Km2_s ?_; try exact True.intro)
    exact k
  · by_cases h2 : z.s = 2
    · have e1 : tell z x = z := by unfold tell; rw [if_neg h0, if_pos h2]
      have e2 : tellE z x = 7 := by unfold tellE; rw [if_neg h0, if_pos h2]
      rw [e1] at h
      have k := key z h
      rw [e2] at k
      clear key
      have h0' : ¬ ((2 : Int) = 0) := by decide
      unfold tsB tsA bxA at *
      rw [h2] at k
      (refine gw8 @h0' @h2 @hx @hz1 @hz2 @Kmut_n @Kmut_r @Km2_s ?_; try exact True.intro)
      exact k
    · by_cases hc : com z.p z.b x = z.d
      · have e1 : tell z x = ⟨z.d, z.p, z.b, 2, x⟩ := by unfold tell; rw [if_neg h0, if_neg h2, if_pos hc]
        have e2 : tellE z x = 0 := by unfold tellE; rw [if_neg h0, if_neg h2, if_pos hc]
        rw [e1] at h
        have k := key ⟨z.d, z.p, z.b, 2, x⟩ h
        rw [e2] at k
        clear key
        unfold tsB tsA bxA at *
        (refine gw8 @h0 @h2 @hx @hz1 @hz2 @Kmut_n @Kmut_r @Km2_s ?_; try exact True.intro)
        refine drawn _ (f11 hz1 hx ⟨rfl, rfl⟩) ?_
        rw [decide_eq_true hc]
        (refine gw6 @hx @hz1 @hz2 @Kmut_n @Kmut_r @Km2_s ?_; try exact True.intro)
        exact k
      · have e1 : tell z x = z := by unfold tell; rw [if_neg h0, if_neg h2, if_neg hc]
        have e2 : tellE z x = 30 := by unfold tellE; rw [if_neg h0, if_neg h2, if_neg hc]
        rw [e1] at h
        have k := key z h
        rw [e2] at k
        clear key
        unfold tsB tsA bxA at *
        (refine gw8 @h0 @h2 @hx @hz1 @hz2 @Kmut_n @Kmut_r @Km2_s ?_; try exact True.intro)
        refine drawn _ (f11 hz1 hx ⟨rfl, rfl⟩) ?_
        rw [decide_eq_false hc]
        (refine gw6 @hx @hz1 @hz2 @Kmut_n @Kmut_r @Km2_s ?_; try exact True.intro)
        exact k
theorem f17t {K : AV → Heap → Prop} {H : Heap} {b : Nat} {t : Ts} {z : Bx} (hg : Heap.get H b = tsB t z) (hz : z.ok) (h : K (.tup [.agg ((sdX z).map .u8), .bool (decide (z.s = 2))]) H) : wpF P G 17 [.ptr b 0 [0, 3] bxS] H K := by
  refine wpF_go c17 rfl 3 ?_
  intro hA hB
  simp only [s17]
  clear hA hB
  obtain ⟨hz1, hz2⟩ := hz
  have hbl : b < H.length := Heap.get_lt hg
  have hgX : ∀ X : List (Option Blk), Heap.get (H ++ X) b = tsB t z := fun X => Heap.get_some_append hg
  unfold tsB tsA bxA at hgX
  by_cases h2 : z.s = 2
  · have e1 : sdX z = z.x := if_pos h2
    rw [e1, decide_eq_true h2] at h
    (refine gw4 @hgX @h2 @hz1 @hz2 ?_; try exact True.intro)
    exact h
  · have e1 : sdX z = z32 := if_neg h2
    rw [e1, decide_eq_false h2] at h
    (refine gw4 @hgX @h2 @hz1 @hz2 ?_; try exact True.intro)
    exact h
theorem f18t {K : AV → Heap → Prop} {H : Heap} {b : Nat} {t : Ts} {z : Bx} (hg : Heap.get H b = tsB t z) (h : K (.bool (!decide (z.s = 0))) H) : wpF P G 18 [.ptr b 0 [0, 3] bxS] H K := by
  refine wpF_go c18 rfl 3 ?_
  intro hA hB
  simp only [s18]
  clear hA hB
  unfold tsB tsA bxA at hg
  (refine gw1 @hg ?_; try exact True.intro)
  exact h
/-- a list of 32 bytes, filled as far as i -/
def qL (d : List (BitVec 8)) (i : Nat) : List AV := (List.range 32).map fun k => .u8 (if k < i then d.getD k 0 else 0)
theorem qL_len {d : List (BitVec 8)} {i : Nat} : (qL d i).length = 32 := by simp [qL]
theorem qL_set {d : List (BitVec 8)} {i : Nat} (h : i < 32) : (qL d i).set i (.u8 (d.getD i 0)) = qL d (i + 1) := by
  unfold qL
  rw [rng_set]
  refine rng_congr fun k hk => ?_
  by_cases e : k = i
  · rw [if_pos e, e, if_pos (by omega)]
  · rw [if_neg e]
    by_cases h2 : k < i
    · rw [if_pos h2, if_pos (by omega)]
    · rw [if_neg h2, if_neg (by omega)]
theorem qL_all {d : List (BitVec 8)} (hd : d.length = 32) : qL d 32 = d.map .u8 := by
  unfold qL
  apply List.ext_getElem?
  intro k
  by_cases hk : k < 32
  · rw [List.getElem?_map, List.getElem?_range hk, List.getElem?_map, List.getElem?_eq_getElem (by omega)]
    simp only [Option.map_some, if_pos hk, List.getD_eq_getElem?_getD]
    rw [List.getElem?_eq_getElem (by omega)]
    rfl
  · rw [List.getElem?_eq_none (by simp; omega), List.getElem?_eq_none (by rw [List.length_map]; omega)]
/-- bit by bit, of two lists of 32 bytes -/
def xr (a b : List (BitVec 8)) : List (BitVec 8) := (List.range 32).map fun k => a.getD k 0 ^^^ b.getD k 0
theorem xr_len {a b : List (BitVec 8)} : (xr a b).length = 32 := by simp [xr]
theorem xr_at {a b : List (BitVec 8)} {k : Nat} (h : k < 32) : (xr a b).getD k 0 = a.getD k 0 ^^^ b.getD k 0 := by
  unfold xr
  rw [List.getD_eq_getElem?_getD, List.getElem?_map, List.getElem?_range h]; rfl
def tc : List (BitVec 8) := [99, 111, 105, 110]
def mx (a b : List (BitVec 8)) : List (BitVec 8) := sha (lg tc ++ lgs [xr a b] 1)
theorem mx_len {a b : List (BitVec 8)} : (mx a b).length = 32 := sha_len
theorem mx_sz {a b : List (BitVec 8)} : tc.length + sz [xr a b] 1 + 1 ≤ 2000000 := by
  simp only [sz, List.getD_cons_zero, xr_len, tc, List.length_cons, List.length_nil]
  omega
theorem m8_at' {d : List (BitVec 8)} {i : Nat} (h : i < d.length) : (d.map AV.u8)[i]? = some (.u8 (d.getD i 0)) := by
  rw [List.getElem?_map, List.getElem?_eq_getElem h, List.getD_eq_getElem?_getD, List.getElem?_eq_getElem h]
  rfl
def A32 (l : List AV) : Option Blk := some ⟨25, 0, false, .arr 1 (.arr 32 .leaf), .agg [.agg l]⟩
def I33 (a b : List (BitVec 8)) (ar br : AV) (H : Heap) (k : Nat) (st : St) : Prop :=
  ∃ (i : Nat) (u6 u8 : AV), st = ⟨[ar, br, .ptr H.length 0 [0] (.arr 32 .leaf), .ptr (H.length + 1) 0 [0] (.arr 32 .leaf), .ptr (H.length + 2) 0 [0] (.arr 32 .leaf), .ptr (H.length + 3) 0 [0] (.arr 32 .leaf), u6, .int (i : Int), u8], H ++ [A32 (a.map .u8), A32 (b.map .u8), A32 (qL [] 0), A32 (qL (xr a b) i)]⟩ ∧ k = 32 - i ∧ i ≤ 32
theorem f33 {K : AV → Heap → Prop} {H : Heap} {a b : List (BitVec 8)} (ha : a.length = 32) (hb : b.length = 32) (h : K (.agg ((mx a b).map .u8)) H) : wpF P G 33 [.agg (a.map .u8), .agg (b.map .u8)] H K := by
  refine wpF_go c33 rfl 3 ?_
  intro hA hB
  simp only [s33]
  clear hA hB
  (refine gw2 @ha @hb ?_; try exact True.intro)
  refine wp_inv (I33 a b _ _ H) 32 ⟨0, _, _, rfl, rfl, by omega⟩ ?_
  rintro k st ⟨i, u6, u8, rfl, rfl, hi⟩
  unfold A32
  by_cases hil : i < 32
  · have h1 : ((i : Int) < 32) = True := by simp only [eq_iff_iff, iff_true]; omega
    have g1 := m8_at' (d := a) (i := i) (by omega)
    have g2 := m8_at' (d := b) (i := i) (by omega)
    have g3 : (qL (xr a b) i)[i]? = some (.u8 (if i < i then (xr a b).getD i 0 else 0)) := by unfold qL; rw [List.getElem?_map, List.getElem?_range hil]; rfl
    have hx := xr_at (a := a) (b := b) hil
    have hs := qL_set (d := xr a b) hil
    rw [hx] at hs
    (refine gw5 @h1 @g1 @g2 @g3 @hs ?_; try exact True.intro)
    (repeat (refine And.intro (by omega) ?_))
    exact ⟨32 - (i + 1), by omega, i + 1, _, _, rfl, rfl, by omega⟩
  · have h1 : ((i : Int) < 32) = False := by simp only [eq_iff_iff, iff_false]; omega
    have hie : i = 32 := by omega
    subst hie
    rw [qL_all xr_len]
    have hby : bytesOf (List.take 32 ((xr a b).map .u8)) = some (xr a b) := by
      rw [List.take_of_length_le (by rw [List.length_map, xr_len]; omega), bytesOf_m]
    have hxl := xr_len (a := a) (b := b)
    (refine gw3 @h1 @hby @hxl ?_; try exact True.intro)
    refine wpF_lend1 3 ?_
    (refine gw0 ?_; try exact True.intro)
    refine f30 (tag := tc) (ls := [xr a b]) mx_sz ⟨m8_plain, ?_⟩
    have hml := mx_len (a := a) (b := b)
    rw [show sha (lg tc ++ lgs [xr a b] [xr a b].length) = mx a b from rfl]
    generalize mx a b = m at *
    (refine gw1 @hml ?_; try exact True.intro)
    exact h
def u1B (n : Nat) (l : List (BitVec 8)) : Option Blk := some ⟨5, n, true, .arr n .leaf, .agg (l.map .u8)⟩
def I27 (a b : List (BitVec 8)) (ar br : AV) (H : Heap) (k : Nat) (st : St) : Prop :=
  ∃ (i : Nat) (w u7 : AV) (L : Heap), st = ⟨[ar, br, .ptr H.length 0 [0] (.arr 32 .leaf), .ptr (H.length + 1) 0 [0] (.arr 32 .leaf), .ptr (H.length + 2) 0 [0] (.arr 32 .leaf), w, .int (i : Int), u7], H ++ A32 (a.map .u8) :: A32 (b.map .u8) :: A32 (qL [] 0) :: L⟩ ∧ k = 32 - i ∧ i ≤ 32 ∧
    ((i = 0 ∧ w = .nils ∧ L = []) ∨ (0 < i ∧ w = .own (H.length + 4) i [] 0 i .leaf ∧ ∃ g J l, L = g :: u1B i l :: J ∧ l = (xr a b).take i))
theorem xr_take {a b : List (BitVec 8)} {i : Nat} (h : i < 32) : (xr a b).take i ++ [a.getD i 0 ^^^ b.getD i 0] = (xr a b).take (i + 1) := by
  rw [List.take_add_one, List.getElem?_eq_getElem (by rw [xr_len]; exact h), ← xr_at h, List.getD_eq_getElem?_getD, List.getElem?_eq_getElem (by rw [xr_len]; exact h)]
  rfl
theorem f27 {K : AV → Heap → Prop} {H : Heap} {a b : List (BitVec 8)} (ha : a.length = 32) (hb : b.length = 32) (h : K (.agg ((mx a b).map .u8)) H) : wpF P G 27 [.agg (a.map .u8), .agg (b.map .u8)] H K := by
  refine wpF_go c27 rfl 3 ?_
  intro hA hB
  simp only [s27]
  clear hA hB
  (refine gw2 @ha @hb ?_; try exact True.intro)
  refine wp_inv (I27 a b _ _ H) 32 ⟨0, _, _, [], rfl, rfl, by omega, .inl ⟨rfl, rfl, rfl⟩⟩ ?_
  rintro k st ⟨i, w, u7, L, rfl, rfl, hi, hc⟩
  unfold A32
  by_cases hil : i < 32
  · have h1 : ((i : Int) < 32) = True := by simp only [eq_iff_iff, iff_true]; omega
    have g1 := m8_at' (d := a) (i := i) (by omega)
    have g2 := m8_at' (d := b) (i := i) (by omega)
    rcases hc with ⟨hi0, rfl, rfl⟩ | ⟨hi0, rfl, g, J, l, rfl, hl⟩
    · (refine gw3 @h1 @g1 @g2 ?_; try exact True.intro)
      (repeat (refine And.intro (by omega) ?_))
      subst hi0
      exact ⟨31, by omega, 1, _, _, _, rfl, rfl, by omega, .inr ⟨by omega, rfl, _, [], [a.getD 0 0 ^^^ b.getD 0 0], rfl, xr_take (a := a) (b := b) (i := 0) (by omega)⟩⟩
    · have hll : l.length = i := by rw [hl, List.length_take, xr_len]; omega
      have hlm : (l.map AV.u8).length = i := by simpa using hll
      unfold u1B
      (refine gw4 @h1 @g1 @g2 @hlm ?_; try exact True.intro)
      (repeat (refine And.intro (by omega) ?_))
      exact ⟨32 - (i + 1), by omega, i + 1, _, _, _, rfl, rfl, by omega, .inr ⟨by omega, rfl, g, J ++ _, l ++ [a.getD i 0 ^^^ b.getD i 0], by unfold u1B; rw [List.map_append]; rfl, by rw [hl]; exact xr_take hil⟩⟩
  · have h1 : ((i : Int) < 32) = False := by simp only [eq_iff_iff, iff_false]; omega
    have hie : i = 32 := by omega
    subst hie
    rcases hc with ⟨hi0, rfl, rfl⟩ | ⟨hi0, rfl, g, J, l, rfl, hl⟩
    · omega
    have hl' : l = xr a b := by rw [hl]; exact List.take_of_length_le (by rw [xr_len]; omega)
    rw [hl']
    clear hl hl'
    have hby : bytesOf (List.take 32 ((xr a b).map .u8)) = some (xr a b) := by
      rw [List.take_of_length_le (by rw [List.length_map, xr_len]; omega), bytesOf_m]
    have hxl := xr_len (a := a) (b := b)
    unfold u1B
    (refine gw3 @h1 @hby @hxl ?_; try exact True.intro)
    refine wpF_lend1 3 ?_
    (refine gw0 ?_; try exact True.intro)
    refine f28 (tag := tc) (ls := [xr a b]) mx_sz ⟨m8_plain, ?_⟩
    have hml := mx_len (a := a) (b := b)
    rw [show sha (lg tc ++ lgs [xr a b] [xr a b].length) = mx a b from rfl]
    generalize mx a b = m at *
    (refine gw1 @hml ?_; try exact True.intro)
    exact h
theorem mx55 : mx (5 :: List.replicate 31 0) (5 :: List.replicate 31 0) = mx z32 z32 ∧ mx z32 z32 ≠ z32 := by
  decide +kernel
theorem f24 {K : AV → Heap → Prop} {H : Heap} (h : K (.bool true) H) : wpF P G 24 [] H K := by
  refine wpF_go c24 rfl 3 ?_
  intro hA hB
  simp only [s24]
  clear hA hB
  obtain ⟨e1, e2⟩ := mx55
  have h33a : ∀ {K : AV → Heap → Prop} {H : Heap}, K (.agg ((mx z32 z32).map .u8)) H → wpF P G 33 [.agg [.u8 5, .u8 0, .u8 0, .u8 0, .u8 0, .u8 0, .u8 0, .u8 0, .u8 0, .u8 0, .u8 0, .u8 0, .u8 0, .u8 0, .u8 0, .u8 0, .u8 0, .u8 0, .u8 0, .u8 0, .u8 0, .u8 0, .u8 0, .u8 0, .u8 0, .u8 0, .u8 0, .u8 0, .u8 0, .u8 0, .u8 0, .u8 0], .agg [.u8 5, .u8 0, .u8 0, .u8 0, .u8 0, .u8 0, .u8 0, .u8 0, .u8 0, .u8 0, .u8 0, .u8 0, .u8 0, .u8 0, .u8 0, .u8 0, .u8 0, .u8 0, .u8 0, .u8 0, .u8 0, .u8 0, .u8 0, .u8 0, .u8 0, .u8 0, .u8 0, .u8 0, .u8 0, .u8 0, .u8 0, .u8 0]] H K := fun h => f33 (a := 5 :: List.replicate 31 0) (b := 5 :: List.replicate 31 0) rfl rfl (by rw [e1]; exact h)
  have h33b : ∀ {K : AV → Heap → Prop} {H : Heap}, K (.agg ((mx z32 z32).map .u8)) H → wpF P G 33 [.agg [.u8 0, .u8 0, .u8 0, .u8 0, .u8 0, .u8 0, .u8 0, .u8 0, .u8 0, .u8 0, .u8 0, .u8 0, .u8 0, .u8 0, .u8 0, .u8 0, .u8 0, .u8 0, .u8 0, .u8 0, .u8 0, .u8 0, .u8 0, .u8 0, .u8 0, .u8 0, .u8 0, .u8 0, .u8 0, .u8 0, .u8 0, .u8 0], .agg [.u8 0, .u8 0, .u8 0, .u8 0, .u8 0, .u8 0, .u8 0, .u8 0, .u8 0, .u8 0, .u8 0, .u8 0, .u8 0, .u8 0, .u8 0, .u8 0, .u8 0, .u8 0, .u8 0, .u8 0, .u8 0, .u8 0, .u8 0, .u8 0, .u8 0, .u8 0, .u8 0, .u8 0, .u8 0, .u8 0, .u8 0, .u8 0]] H K := fun h => f33 (a := z32) (b := z32) rfl rfl h
  have h27b : ∀ {K : AV → Heap → Prop} {H : Heap}, K (.agg ((mx z32 z32).map .u8)) H → wpF P G 27 [.agg [.u8 0, .u8 0, .u8 0, .u8 0, .u8 0, .u8 0, .u8 0, .u8 0, .u8 0, .u8 0, .u8 0, .u8 0, .u8 0, .u8 0, .u8 0, .u8 0, .u8 0, .u8 0, .u8 0, .u8 0, .u8 0, .u8 0, .u8 0, .u8 0, .u8 0, .u8 0, .u8 0, .u8 0, .u8 0, .u8 0, .u8 0, .u8 0], .agg [.u8 0, .u8 0, .u8 0, .u8 0, .u8 0, .u8 0, .u8 0, .u8 0, .u8 0, .u8 0, .u8 0, .u8 0, .u8 0, .u8 0, .u8 0, .u8 0, .u8 0, .u8 0, .u8 0, .u8 0, .u8 0, .u8 0, .u8 0, .u8 0, .u8 0, .u8 0, .u8 0, .u8 0, .u8 0, .u8 0, .u8 0, .u8 0]] H K := fun h => f27 (a := z32) (b := z32) rfl rfl h
  have hm := mx_len (a := z32) (b := z32)
  have hne : ((mx z32 z32).map AV.u8 = [.u8 0, .u8 0, .u8 0, .u8 0, .u8 0, .u8 0, .u8 0, .u8 0, .u8 0, .u8 0, .u8 0, .u8 0, .u8 0, .u8 0, .u8 0, .u8 0, .u8 0, .u8 0, .u8 0, .u8 0, .u8 0, .u8 0, .u8 0, .u8 0, .u8 0, .u8 0, .u8 0, .u8 0, .u8 0, .u8 0, .u8 0, .u8 0]) = False := by
    simp only [eq_iff_iff, iff_false]
    intro h
    exact e2 ((List.map_inj_right (fun a b h => by injection h)).1 (show (mx z32 z32).map AV.u8 = z32.map AV.u8 from h))
  generalize mx z32 z32 = m at *
  (refine gw0 ?_; try exact True.intro)
  refine h33a ?_
  (refine gw1 @hm ?_; try exact True.intro)
  refine drawn _ (h33b ⟨rfl, rfl⟩) ?_
  (refine gw1 @hm ?_; try exact True.intro)
  refine ⟨m8_kind, ?_⟩
  refine drawn _ (h27b ⟨rfl, rfl⟩) ?_
  (refine gw2 @hm @hne ?_; try exact True.intro)
  exact ⟨m8_kind, m8_kind, rfl, h⟩
end Go.Proofs.YtajkclooknanjaaDoor

end

section
/-
  Layer 28 (toss): what a side answers to every call.
-/
open Go Go.V
namespace Go.Proofs.YtajkclooknanjaaDoor
/-- (*trefoil/toss.Toss).ready (0:t, 2:) -/
def s32 : FnS := ⟨11, [0, 2],
    (.seq (.reg [⟨.var 1, (.q .mv), [.c (.bool false)], none⟩])
    (.seq (.reg [⟨.new, (.q .mv), [.t 0], none⟩,
      ⟨.new, (.q (.eqP true)), [.t 2, .c .nilp], none⟩,
      ⟨.new, (.q .mv), [.t 3], none⟩,
      ⟨.new, (.q .mv), [.t 0], (some (4, true))⟩,
      ⟨.new, (.q .nilc), [.t 5], (some (4, true))⟩,
      ⟨.new, (.q (.fa [.leaf, .leaf, (.arr 32 .leaf), (.st [(.arr 32 .leaf), .leaf, .leaf, .leaf, (.arr 32 .leaf)]), .leaf, .leaf] 5)), [.t 6], (some (4, true))⟩,
      ⟨.new, (.q (.ld .leaf)), [.t 7], (some (4, true))⟩,
      ⟨.new, (.q .pick), [.t 4, .t 8, .c (.bool false)], none⟩,
      ⟨.var 1, (.q .mv), [.t 9], none⟩])
    .ret)),
    [.t 1]⟩

/-- (*trefoil/toss.Toss).Reveal (0:t, 2:, 3:, 4:, 9:) -/
def s19 : FnS := ⟨23, [0, 2, 3, 4, 9],
    (.seq (.reg [⟨.var 1, (.e (.alloc 25 (.arr 32 .leaf) (.agg [(.u8 0), (.u8 0), (.u8 0), (.u8 0), (.u8 0), (.u8 0), (.u8 0), (.u8 0), (.u8 0), (.u8 0), (.u8 0), (.u8 0), (.u8 0), (.u8 0), (.u8 0), (.u8 0), (.u8 0), (.u8 0), (.u8 0), (.u8 0), (.u8 0), (.u8 0), (.u8 0), (.u8 0), (.u8 0), (.u8 0), (.u8 0), (.u8 0), (.u8 0), (.u8 0), (.u8 0), (.u8 0)]))), [], none⟩,
      ⟨.var 2, (.q .mv), [.c (.int 0)], none⟩])
    (.seq (.block 0 (.seq (.reg [⟨.new, (.q .mv), [.t 0], none⟩,
      ⟨.new, (.call 32), [.t 5], none⟩,
      ⟨.new, (.q (.un .not)), [.t 6], none⟩,
      ⟨.var 3, (.q .mv), [.t 7], none⟩])
    (.cond (.t 3) (.seq (.reg [⟨.new, (.e (.bld (.arr 32 .leaf) (.agg [(.u8 0), (.u8 0), (.u8 0), (.u8 0), (.u8 0), (.u8 0), (.u8 0), (.u8 0), (.u8 0), (.u8 0), (.u8 0), (.u8 0), (.u8 0), (.u8 0), (.u8 0), (.u8 0), (.u8 0), (.u8 0), (.u8 0), (.u8 0), (.u8 0), (.u8 0), (.u8 0), (.u8 0), (.u8 0), (.u8 0), (.u8 0), (.u8 0), (.u8 0), (.u8 0), (.u8 0), (.u8 0)]) [])), [], none⟩,
      ⟨.none, (.e (.store (.arr 32 .leaf))), [.t 1, .t 5], none⟩,
      ⟨.var 2, (.q .mv), [.c (.int 3)], none⟩])
    .ret)
    (.seq (.reg [⟨.new, (.q .mv), [.t 0], none⟩,
      ⟨.new, (.q .nilc), [.t 5], none⟩,
      ⟨.new, (.q (.fa [.leaf, .leaf, (.arr 32 .leaf), (.st [(.arr 32 .leaf), .leaf, .leaf, .leaf, (.arr 32 .leaf)]), .leaf, .leaf] 3)), [.t 6], none⟩,
      ⟨.new, (.call 18), [.t 7], none⟩,
      ⟨.new, (.q (.un .not)), [.t 8], none⟩,
      ⟨.var 4, (.q .mv), [.t 9], none⟩])
    (.cond (.t 4) (.seq (.reg [⟨.new, (.e (.bld (.arr 32 .leaf) (.agg [(.u8 0), (.u8 0), (.u8 0), (.u8 0), (.u8 0), (.u8 0), (.u8 0), (.u8 0), (.u8 0), (.u8 0), (.u8 0), (.u8 0), (.u8 0), (.u8 0), (.u8 0), (.u8 0), (.u8 0), (.u8 0), (.u8 0), (.u8 0), (.u8 0), (.u8 0), (.u8 0), (.u8 0), (.u8 0), (.u8 0), (.u8 0), (.u8 0), (.u8 0), (.u8 0), (.u8 0), (.u8 0)]) [])), [], none⟩,
      ⟨.none, (.e (.store (.arr 32 .leaf))), [.t 1, .t 5], none⟩,
      ⟨.var 2, (.q .mv), [.c (.int 8)], none⟩])
    .ret)
    .skip)))))
    (.seq (.reg [⟨.new, (.q .mv), [.t 0], none⟩,
      ⟨.new, (.q .nilc), [.t 5], none⟩,
      ⟨.new, (.q (.fa [.leaf, .leaf, (.arr 32 .leaf), (.st [(.arr 32 .leaf), .leaf, .leaf, .leaf, (.arr 32 .leaf)]), .leaf, .leaf] 4)), [.t 6], none⟩,
      ⟨.none, (.e (.store .leaf)), [.t 7, .c (.bool true)], none⟩])
    (.seq (.reg [⟨.new, (.q .mv), [.t 0], none⟩,
      ⟨.new, (.q .nilc), [.t 5], none⟩,
      ⟨.new, (.q (.fa [.leaf, .leaf, (.arr 32 .leaf), (.st [(.arr 32 .leaf), .leaf, .leaf, .leaf, (.arr 32 .leaf)]), .leaf, .leaf] 2)), [.t 6], none⟩,
      ⟨.new, (.q (.ld (.arr 32 .leaf))), [.t 7], none⟩,
      ⟨.none, (.e (.store (.arr 32 .leaf))), [.t 1, .t 8], none⟩,
      ⟨.var 2, (.q .mv), [.c (.int 0)], none⟩])
    .ret)))),
    [.cell 1 (.arr 32 .leaf), .t 2]⟩

/-- (*trefoil/toss.Toss).Coin (0:t, 2:, 3:, 4:s, 5:ok, 15:, 25:, 31:) -/
def s20 : FnS := ⟨44, [0, 2, 3, 4, 5, 15, 25, 31],
    (.seq (.reg [⟨.var 1, (.e (.alloc 25 (.arr 32 .leaf) (.agg [(.u8 0), (.u8 0), (.u8 0), (.u8 0), (.u8 0), (.u8 0), (.u8 0), (.u8 0), (.u8 0), (.u8 0), (.u8 0), (.u8 0), (.u8 0), (.u8 0), (.u8 0), (.u8 0), (.u8 0), (.u8 0), (.u8 0), (.u8 0), (.u8 0), (.u8 0), (.u8 0), (.u8 0), (.u8 0), (.u8 0), (.u8 0), (.u8 0), (.u8 0), (.u8 0), (.u8 0), (.u8 0)]))), [], none⟩,
      ⟨.var 2, (.q .mv), [.c (.bool false)], none⟩])
    (.seq (.seq (.reg [⟨.new, (.q .mv), [.t 0], none⟩,
      ⟨.new, (.call 32), [.t 8], none⟩,
      ⟨.new, (.q (.un .not)), [.t 9], none⟩,
      ⟨.new, (.q .mv), [.t 10], none⟩,
      ⟨.new, (.q .mv), [.t 0], (some (11, false))⟩,
      ⟨.new, (.q .nilc), [.t 12], (some (11, false))⟩,
      ⟨.new, (.q (.fa [.leaf, .leaf, (.arr 32 .leaf), (.st [(.arr 32 .leaf), .leaf, .leaf, .leaf, (.arr 32 .leaf)]), .leaf, .leaf] 4)), [.t 13], (some (11, false))⟩,
      ⟨.new, (.q (.ld .leaf)), [.t 14], (some (11, false))⟩,
      ⟨.new, (.q (.un .not)), [.t 15], (some (11, false))⟩,
      ⟨.var 5, (.q .pick), [.t 11, .c (.bool true), .t 16], none⟩])
    (.cond (.t 5) (.seq (.reg [⟨.new, (.e (.bld (.arr 32 .leaf) (.agg [(.u8 0), (.u8 0), (.u8 0), (.u8 0), (.u8 0), (.u8 0), (.u8 0), (.u8 0), (.u8 0), (.u8 0), (.u8 0), (.u8 0), (.u8 0), (.u8 0), (.u8 0), (.u8 0), (.u8 0), (.u8 0), (.u8 0), (.u8 0), (.u8 0), (.u8 0), (.u8 0), (.u8 0), (.u8 0), (.u8 0), (.u8 0), (.u8 0), (.u8 0), (.u8 0), (.u8 0), (.u8 0)]) [])), [], none⟩,
      ⟨.none, (.e (.store (.arr 32 .leaf))), [.t 1, .t 8], none⟩,
      ⟨.var 2, (.q .mv), [.c (.bool false)], none⟩])
    .ret)
    .skip))
    (.seq (.reg [⟨.new, (.q .mv), [.t 0], none⟩,
      ⟨.new, (.q .nilc), [.t 8], none⟩,
      ⟨.new, (.q (.fa [.leaf, .leaf, (.arr 32 .leaf), (.st [(.arr 32 .leaf), .leaf, .leaf, .leaf, (.arr 32 .leaf)]), .leaf, .leaf] 3)), [.t 9], none⟩,
      ⟨.new, (.call 17), [.t 10], none⟩,
      ⟨.new, (.q .mv), [.t 11], none⟩,
      ⟨.new, (.q (.ext 0)), [.t 12], none⟩,
      ⟨.new, (.q (.ext 1)), [.t 12], none⟩,
      ⟨.var 3, (.e (.alloc 25 (.arr 32 .leaf) (.agg [(.u8 0), (.u8 0), (.u8 0), (.u8 0), (.u8 0), (.u8 0), (.u8 0), (.u8 0), (.u8 0), (.u8 0), (.u8 0), (.u8 0), (.u8 0), (.u8 0), (.u8 0), (.u8 0), (.u8 0), (.u8 0), (.u8 0), (.u8 0), (.u8 0), (.u8 0), (.u8 0), (.u8 0), (.u8 0), (.u8 0), (.u8 0), (.u8 0), (.u8 0), (.u8 0), (.u8 0), (.u8 0)]))), [], none⟩,
      ⟨.none, (.e (.store (.arr 32 .leaf))), [.t 3, .t 13], none⟩,
      ⟨.var 4, (.q .mv), [.t 14], none⟩])
    (.seq (.seq (.reg [⟨.new, (.q .mv), [.t 4], none⟩,
      ⟨.var 6, (.q (.un .not)), [.t 8], none⟩])
    (.cond (.t 6) (.seq (.reg [⟨.new, (.e (.bld (.arr 32 .leaf) (.agg [(.u8 0), (.u8 0), (.u8 0), (.u8 0), (.u8 0), (.u8 0), (.u8 0), (.u8 0), (.u8 0), (.u8 0), (.u8 0), (.u8 0), (.u8 0), (.u8 0), (.u8 0), (.u8 0), (.u8 0), (.u8 0), (.u8 0), (.u8 0), (.u8 0), (.u8 0), (.u8 0), (.u8 0), (.u8 0), (.u8 0), (.u8 0), (.u8 0), (.u8 0), (.u8 0), (.u8 0), (.u8 0)]) [])), [], none⟩,
      ⟨.none, (.e (.store (.arr 32 .leaf))), [.t 1, .t 8], none⟩,
      ⟨.var 2, (.q .mv), [.c (.bool false)], none⟩])
    .ret)
    .skip))
    (.seq (.seq (.reg [⟨.new, (.q .mv), [.t 0], none⟩,
      ⟨.new, (.q .nilc), [.t 8], none⟩,
      ⟨.new, (.q (.fa [.leaf, .leaf, (.arr 32 .leaf), (.st [(.arr 32 .leaf), .leaf, .leaf, .leaf, (.arr 32 .leaf)]), .leaf, .leaf] 0)), [.t 9], none⟩,
      ⟨.new, (.q (.ld .leaf)), [.t 10], none⟩,
      ⟨.var 7, (.q (.bin .eql)), [.t 11, .c (.int 1)], none⟩])
    (.cond (.t 7) (.seq (.draw [⟨.new, (.q (.ld (.arr 32 .leaf))), [.t 3], none⟩,
      ⟨.new, (.q .mv), [.t 0], none⟩,
      ⟨.new, (.q .nilc), [.t 9], none⟩,
      ⟨.new, (.q (.fa [.leaf, .leaf, (.arr 32 .leaf), (.st [(.arr 32 .leaf), .leaf, .leaf, .leaf, (.arr 32 .leaf)]), .leaf, .leaf] 2)), [.t 10], none⟩,
      ⟨.new, (.q (.ld (.arr 32 .leaf))), [.t 11], none⟩,
      ⟨.new, (.call 33), [.t 8, .t 12], none⟩,
      ⟨.none, (.e (.store (.arr 32 .leaf))), [.t 1, .t 13], none⟩,
      ⟨.var 2, (.q .mv), [.c (.bool true)], none⟩])
    .ret)
    .skip))
    (.seq (.draw [⟨.new, (.q .mv), [.t 0], none⟩,
      ⟨.new, (.q .nilc), [.t 8], none⟩,
      ⟨.new, (.q (.fa [.leaf, .leaf, (.arr 32 .leaf), (.st [(.arr 32 .leaf), .leaf, .leaf, .leaf, (.arr 32 .leaf)]), .leaf, .leaf] 2)), [.t 9], none⟩,
      ⟨.new, (.q (.ld (.arr 32 .leaf))), [.t 10], none⟩,
      ⟨.new, (.q (.ld (.arr 32 .leaf))), [.t 3], none⟩,
      ⟨.new, (.call 33), [.t 11, .t 12], none⟩,
      ⟨.none, (.e (.store (.arr 32 .leaf))), [.t 1, .t 13], none⟩,
      ⟨.var 2, (.q .mv), [.c (.bool true)], none⟩])
    .ret)))))),
    [.cell 1 (.arr 32 .leaf), .t 2]⟩

/-- (*trefoil/toss.Toss).Commit (0:t, 2:, 5:) -/
def s21 : FnS := ⟨20, [0, 2, 5],
    (.seq (.reg [⟨.var 1, (.e (.alloc 26 (.arr 32 .leaf) (.agg [(.u8 0), (.u8 0), (.u8 0), (.u8 0), (.u8 0), (.u8 0), (.u8 0), (.u8 0), (.u8 0), (.u8 0), (.u8 0), (.u8 0), (.u8 0), (.u8 0), (.u8 0), (.u8 0), (.u8 0), (.u8 0), (.u8 0), (.u8 0), (.u8 0), (.u8 0), (.u8 0), (.u8 0), (.u8 0), (.u8 0), (.u8 0), (.u8 0), (.u8 0), (.u8 0), (.u8 0), (.u8 0)]))), [], none⟩])
    (.seq (.seq (.reg [⟨.new, (.q .mv), [.t 0], none⟩,
      ⟨.new, (.call 32), [.t 3], none⟩,
      ⟨.var 2, (.q (.un .not)), [.t 4], none⟩])
    (.cond (.t 2) (.seq (.reg [⟨.new, (.e (.bld (.arr 32 .leaf) (.agg [(.u8 0), (.u8 0), (.u8 0), (.u8 0), (.u8 0), (.u8 0), (.u8 0), (.u8 0), (.u8 0), (.u8 0), (.u8 0), (.u8 0), (.u8 0), (.u8 0), (.u8 0), (.u8 0), (.u8 0), (.u8 0), (.u8 0), (.u8 0), (.u8 0), (.u8 0), (.u8 0), (.u8 0), (.u8 0), (.u8 0), (.u8 0), (.u8 0), (.u8 0), (.u8 0), (.u8 0), (.u8 0)]) [])), [], none⟩,
      ⟨.none, (.e (.store (.arr 32 .leaf))), [.t 1, .t 3], none⟩])
    .ret)
    .skip))
    (.seq (.draw [⟨.new, (.q .mv), [.t 0], none⟩,
      ⟨.new, (.q .nilc), [.t 3], none⟩,
      ⟨.new, (.q (.fa [.leaf, .leaf, (.arr 32 .leaf), (.st [(.arr 32 .leaf), .leaf, .leaf, .leaf, (.arr 32 .leaf)]), .leaf, .leaf] 0)), [.t 4], none⟩,
      ⟨.new, (.q (.ld .leaf)), [.t 5], none⟩,
      ⟨.new, (.q .mv), [.t 0], none⟩,
      ⟨.new, (.q .nilc), [.t 7], none⟩,
      ⟨.new, (.q (.fa [.leaf, .leaf, (.arr 32 .leaf), (.st [(.arr 32 .leaf), .leaf, .leaf, .leaf, (.arr 32 .leaf)]), .leaf, .leaf] 1)), [.t 8], none⟩,
      ⟨.new, (.q (.ld .leaf)), [.t 9], none⟩,
      ⟨.new, (.q .mv), [.t 0], none⟩,
      ⟨.new, (.q .nilc), [.t 11], none⟩,
      ⟨.new, (.q (.fa [.leaf, .leaf, (.arr 32 .leaf), (.st [(.arr 32 .leaf), .leaf, .leaf, .leaf, (.arr 32 .leaf)]), .leaf, .leaf] 2)), [.t 12], none⟩,
      ⟨.new, (.q (.ld (.arr 32 .leaf))), [.t 13], none⟩,
      ⟨.new, (.call 10), [.t 6, .t 10, .t 14], none⟩,
      ⟨.none, (.e (.store (.arr 32 .leaf))), [.t 1, .t 15], none⟩])
    .ret))),
    [.cell 1 (.arr 32 .leaf)]⟩

/-- (*trefoil/toss.Toss).Bound (0:t, 1:d, 3:d, 4:, 7:) -/
def s22 : FnS := ⟨22, [0, 1, 3, 4, 7],
    (.seq (.reg [⟨.var 2, (.e (.box 26 (.arr 32 .leaf))), [.t 1], none⟩,
      ⟨.var 3, (.q .mv), [.c (.int 0)], none⟩])
    (.seq (.seq (.reg [⟨.new, (.q .mv), [.t 0], none⟩,
      ⟨.new, (.call 32), [.t 5], none⟩,
      ⟨.var 4, (.q (.un .not)), [.t 6], none⟩])
    (.cond (.t 4) (.seq (.reg [⟨.var 3, (.q .mv), [.c (.int 3)], none⟩])
    .ret)
    .skip))
    (.seq (.draw [⟨.new, (.q .mv), [.t 0], none⟩,
      ⟨.new, (.q .nilc), [.t 5], none⟩,
      ⟨.new, (.q (.fa [.leaf, .leaf, (.arr 32 .leaf), (.st [(.arr 32 .leaf), .leaf, .leaf, .leaf, (.arr 32 .leaf)]), .leaf, .leaf] 3)), [.t 6], none⟩,
      ⟨.new, (.q .mv), [.t 0], none⟩,
      ⟨.new, (.q .nilc), [.t 8], none⟩,
      ⟨.new, (.q (.fa [.leaf, .leaf, (.arr 32 .leaf), (.st [(.arr 32 .leaf), .leaf, .leaf, .leaf, (.arr 32 .leaf)]), .leaf, .leaf] 0)), [.t 9], none⟩,
      ⟨.new, (.q (.ld .leaf)), [.t 10], none⟩,
      ⟨.new, (.q (.bin .sub)), [.c (.int 1), .t 11], none⟩,
      ⟨.new, (.q .mv), [.t 0], none⟩,
      ⟨.new, (.q .nilc), [.t 13], none⟩,
      ⟨.new, (.q (.fa [.leaf, .leaf, (.arr 32 .leaf), (.st [(.arr 32 .leaf), .leaf, .leaf, .leaf, (.arr 32 .leaf)]), .leaf, .leaf] 1)), [.t 14], none⟩,
      ⟨.new, (.q (.ld .leaf)), [.t 15], none⟩,
      ⟨.new, (.q (.ld (.arr 32 .leaf))), [.t 2], none⟩,
      ⟨.new, (.callw 14), [.t 7, .t 12, .t 16, .t 17], none⟩,
      ⟨.var 3, (.q .mv), [.t 18], none⟩])
    .ret))),
    [.t 3]⟩

/-- (*trefoil/toss.Toss).Told (0:t, 1:s, 3:s, 4:, 7:) -/
def s23 : FnS := ⟨13, [0, 1, 3, 4, 7],
    (.seq (.reg [⟨.var 2, (.e (.box 25 (.arr 32 .leaf))), [.t 1], none⟩,
      ⟨.var 3, (.q .mv), [.c (.int 0)], none⟩])
    (.seq (.seq (.reg [⟨.new, (.q .mv), [.t 0], none⟩,
      ⟨.new, (.call 32), [.t 5], none⟩,
      ⟨.var 4, (.q (.un .not)), [.t 6], none⟩])
    (.cond (.t 4) (.seq (.reg [⟨.var 3, (.q .mv), [.c (.int 3)], none⟩])
    .ret)
    .skip))
    (.seq (.draw [⟨.new, (.q .mv), [.t 0], none⟩,
      ⟨.new, (.q .nilc), [.t 5], none⟩,
      ⟨.new, (.q (.fa [.leaf, .leaf, (.arr 32 .leaf), (.st [(.arr 32 .leaf), .leaf, .leaf, .leaf, (.arr 32 .leaf)]), .leaf, .leaf] 3)), [.t 6], none⟩,
      ⟨.new, (.q (.ld (.arr 32 .leaf))), [.t 2], none⟩,
      ⟨.new, (.callw 16), [.t 7, .t 8], none⟩,
      ⟨.var 3, (.q .mv), [.t 9], none⟩])
    .ret))),
    [.t 3]⟩

/-- trefoil/toss.New (0:party, 1:batch, 2:own, 5:own, 6:, 7:, 13:) -/
def s25 : FnS := ⟨19, [0, 1, 2, 5, 6, 7, 13],
    (.seq (.reg [⟨.var 3, (.e (.box 25 (.arr 32 .leaf))), [.t 2], none⟩,
      ⟨.var 4, (.q .mv), [.c .nilp], none⟩,
      ⟨.var 5, (.q .mv), [.c (.int 0)], none⟩])
    (.seq (.seq (.reg [⟨.new, (.q .mv), [.t 0], none⟩,
      ⟨.new, (.q (.bin .lss)), [.t 7, .c (.int 0)], none⟩,
      ⟨.new, (.q .mv), [.t 8], none⟩,
      ⟨.new, (.q .mv), [.t 0], (some (9, false))⟩,
      ⟨.new, (.q (.bin .gtr)), [.t 10, .c (.int 1)], (some (9, false))⟩,
      ⟨.var 6, (.q .pick), [.t 9, .c (.bool true), .t 11], none⟩])
    (.cond (.t 6) (.seq (.reg [⟨.var 4, (.q .mv), [.c .nilp], none⟩,
      ⟨.var 5, (.q .mv), [.c (.int 1)], none⟩])
    .ret)
    .skip))
    (.seq (.reg [⟨.new, (.q .mv), [.t 0], none⟩,
      ⟨.new, (.q .mv), [.t 1], none⟩,
      ⟨.new, (.q (.ld (.arr 32 .leaf))), [.t 3], none⟩,
      ⟨.new, (.e (.bld (.st [.leaf, .leaf, (.arr 32 .leaf), (.st [(.arr 32 .leaf), .leaf, .leaf, .leaf, (.arr 32 .leaf)]), .leaf, .leaf]) (.agg [(.int 0), (.u32 0), (.agg [(.u8 0), (.u8 0), (.u8 0), (.u8 0), (.u8 0), (.u8 0), (.u8 0), (.u8 0), (.u8 0), (.u8 0), (.u8 0), (.u8 0), (.u8 0), (.u8 0), (.u8 0), (.u8 0), (.u8 0), (.u8 0), (.u8 0), (.u8 0), (.u8 0), (.u8 0), (.u8 0), (.u8 0), (.u8 0), (.u8 0), (.u8 0), (.u8 0), (.u8 0), (.u8 0), (.u8 0), (.u8 0)]), (.agg [(.agg [(.u8 0), (.u8 0), (.u8 0), (.u8 0), (.u8 0), (.u8 0), (.u8 0), (.u8 0), (.u8 0), (.u8 0), (.u8 0), (.u8 0), (.u8 0), (.u8 0), (.u8 0), (.u8 0), (.u8 0), (.u8 0), (.u8 0), (.u8 0), (.u8 0), (.u8 0), (.u8 0), (.u8 0), (.u8 0), (.u8 0), (.u8 0), (.u8 0), (.u8 0), (.u8 0), (.u8 0), (.u8 0)]), (.int 0), (.u32 0), (.int 0), (.agg [(.u8 0), (.u8 0), (.u8 0), (.u8 0), (.u8 0), (.u8 0), (.u8 0), (.u8 0), (.u8 0), (.u8 0), (.u8 0), (.u8 0), (.u8 0), (.u8 0), (.u8 0), (.u8 0), (.u8 0), (.u8 0), (.u8 0), (.u8 0), (.u8 0), (.u8 0), (.u8 0), (.u8 0), (.u8 0), (.u8 0), (.u8 0), (.u8 0), (.u8 0), (.u8 0), (.u8 0), (.u8 0)])]), (.bool false), (.bool false)]) [0, 1, 2, 5])), [.t 7, .t 8, .t 9, .c (.bool true)], none⟩,
      ⟨.new, (.e (.box 51 (.st [.leaf, .leaf, (.arr 32 .leaf), (.st [(.arr 32 .leaf), .leaf, .leaf, .leaf, (.arr 32 .leaf)]), .leaf, .leaf]))), [.t 10], none⟩,
      ⟨.var 4, (.q .mv), [.t 11], none⟩,
      ⟨.var 5, (.q .mv), [.c (.int 0)], none⟩])
    .ret))),
    [.t 4, .t 5]⟩

set_option maxRecDepth 100000
set_option linter.unusedSimpArgs false
set_option linter.unusedVariables false
theorem c32 : cF P G (drP P G) 32 1 s32.vm = some s32 := by kernel_rfl
theorem c19 : cF P G (drP P G) 19 1 s19.vm = some s19 := by kernel_rfl
theorem c20 : cF P G (drP P G) 20 1 s20.vm = some s20 := by kernel_rfl
theorem c21 : cF P G (drP P G) 21 1 s21.vm = some s21 := by kernel_rfl
theorem c22 : cF P G (drP P G) 22 2 s22.vm = some s22 := by kernel_rfl
theorem c23 : cF P G (drP P G) 23 2 s23.vm = some s23 := by kernel_rfl
theorem c25 : cF P G (drP P G) 25 3 s25.vm = some s25 := by kernel_rfl
theorem f32 {K : AV → Heap → Prop} {H : Heap} {b : Nat} {t : Ts} {z : Bx} (hg : Heap.get H b = tsB t z) (h : K (.bool t.m) H) : wpF P G 32 [.ptr b 0 [0] tsS] H K := by
  refine wpF_go c32 rfl 3 ?_
  intro hA hB
  simp only [s32]
  clear hA hB
  unfold tsB tsA bxA at hg
  (refine gw1 @hg ?_; try exact True.intro)
  exact h
theorem f32n {K : AV → Heap → Prop} {H : Heap} (h : K (.bool false) H) : wpF P G 32 [.nilp] H K := by
  refine wpF_go c32 rfl 3 ?_
  intro hA hB
  simp only [s32]
  (refine gw0 ?_; try exact True.intro)
  exact h
theorem f19n {K : AV → Heap → Prop} {H : Heap} (h : K (.tup [.agg [.u8 0, .u8 0, .u8 0, .u8 0, .u8 0, .u8 0, .u8 0, .u8 0, .u8 0, .u8 0, .u8 0, .u8 0, .u8 0, .u8 0, .u8 0, .u8 0, .u8 0, .u8 0, .u8 0, .u8 0, .u8 0, .u8 0, .u8 0, .u8 0, .u8 0, .u8 0, .u8 0, .u8 0, .u8 0, .u8 0, .u8 0, .u8 0], .int 3]) H) : wpF P G 19 [.nilp] H K := by
  refine wpF_go c19 rfl 3 ?_
  intro hA hB
  simp only [s19]
  (refine gw0 ?_; try exact True.intro)
  refine f32n ?_
  (refine gw0 ?_; try exact True.intro)
  exact h
theorem f19x {K : AV → Heap → Prop} {H : Heap} {b : Nat} {t : Ts} {z : Bx} (hm : t.m = false) (hg : Heap.get H b = tsB t z) (h : K (.tup [.agg [.u8 0, .u8 0, .u8 0, .u8 0, .u8 0, .u8 0, .u8 0, .u8 0, .u8 0, .u8 0, .u8 0, .u8 0, .u8 0, .u8 0, .u8 0, .u8 0, .u8 0, .u8 0, .u8 0, .u8 0, .u8 0, .u8 0, .u8 0, .u8 0, .u8 0, .u8 0, .u8 0, .u8 0, .u8 0, .u8 0, .u8 0, .u8 0], .int 3]) H) : wpF P G 19 [.ptr b 0 [0] tsS] H K := by
  refine wpF_go c19 rfl 3 ?_
  intro hA hB
  simp only [s19]
  clear hA hB
  have hgX : ∀ X : List (Option Blk), Heap.get (H ++ X) b = tsB t z := fun X => Heap.get_some_append hg
  (refine gw0 ?_; try exact True.intro)
  refine f32 (hgX _) ?_
  (refine gw1 @hm ?_; try exact True.intro)
  exact h
theorem f19a {K : AV → Heap → Prop} {H : Heap} {b : Nat} {t : Ts} {z : Bx} (hm : t.m = true) (hz : z.s = 0) (hg : Heap.get H b = tsB t z) (h : K (.tup [.agg [.u8 0, .u8 0, .u8 0, .u8 0, .u8 0, .u8 0, .u8 0, .u8 0, .u8 0, .u8 0, .u8 0, .u8 0, .u8 0, .u8 0, .u8 0, .u8 0, .u8 0, .u8 0, .u8 0, .u8 0, .u8 0, .u8 0, .u8 0, .u8 0, .u8 0, .u8 0, .u8 0, .u8 0, .u8 0, .u8 0, .u8 0, .u8 0], .int 8]) H) : wpF P G 19 [.ptr b 0 [0] tsS] H K := by
  refine wpF_go c19 rfl 3 ?_
  intro hA hB
  simp only [s19]
  clear hA hB
  have hgX : ∀ X : List (Option Blk), Heap.get (H ++ X) b = tsB t z := fun X => Heap.get_some_append hg
  have hbl : b < H.length := Heap.get_lt hg
  (refine gw0 ?_; try exact True.intro)
  refine f32 (hgX _) ?_
  (refine gw1 @hm ?_; try exact True.intro)
  refine f18t (hgX _) ?_
  (refine gw1 @hz ?_; try exact True.intro)
  exact h
theorem f19b {K : AV → Heap → Prop} {H0 L : Heap} {t : Ts} {z : Bx} (ho : t.o.length = 32) (hz1 : z.ok) (hm : t.m = true) (hz : z.s ≠ 0) (h : K (.tup [.agg (t.o.map .u8), .int 0]) (H0 ++ tsB { t with g := true } z :: L)) : wpF P G 19 [.ptr H0.length 0 [0] tsS] (H0 ++ tsB t z :: L) K := by
  refine wpF_goM c19 rfl ?_
  intro hA hB
  simp only [s19]
  (refine gw3 @Kmut_n @Kmut_r @Km2_s ?_; try exact True.intro)
  refine f32 (t := t) (z := z) (by rw [hget_0, hget_z]) ?_
  (refine gw4 @hm @Kmut_n @Kmut_r @Km2_s ?_; try exact True.intro)
  refine f18t (t := t) (z := z) (by rw [hget_0, hget_z]) ?_
  (refine gw4 @hz @Kmut_n @Kmut_r @Km2_s ?_; try exact True.intro)
  unfold tsB tsA bxA
  (refine gw5 @ho @hz1 @Kmut_n @Kmut_r @Km2_s ?_; try exact True.intro)
  refine ⟨by omega, ?_⟩
  exact mut_fin (E := [some ⟨25, 0, false, .arr 1 (.arr 32 .leaf), .agg [.agg (t.o.map .u8)]⟩]) hB (y := tsB { t with g := true } z) (by rintro k blk h; cases h; exact ts_bnd) h
def coin (t : Ts) (z : Bx) : List (BitVec 8) := if t.p = 1 then mx z.x t.o else mx t.o z.x
theorem f20n {K : AV → Heap → Prop} {H : Heap} (h : K (.tup [.agg [.u8 0, .u8 0, .u8 0, .u8 0, .u8 0, .u8 0, .u8 0, .u8 0, .u8 0, .u8 0, .u8 0, .u8 0, .u8 0, .u8 0, .u8 0, .u8 0, .u8 0, .u8 0, .u8 0, .u8 0, .u8 0, .u8 0, .u8 0, .u8 0, .u8 0, .u8 0, .u8 0, .u8 0, .u8 0, .u8 0, .u8 0, .u8 0], .bool false]) H) : wpF P G 20 [.nilp] H K := by
  refine wpF_go c20 rfl 3 ?_
  intro hA hB
  simp only [s20]
  (refine gw0 ?_; try exact True.intro)
  refine f32n ?_
  (refine gw0 ?_; try exact True.intro)
  exact h
theorem f20x {K : AV → Heap → Prop} {H : Heap} {b : Nat} {t : Ts} {z : Bx} (hz : z.ok) (hm : t.m = false ∨ t.g = false ∨ z.s ≠ 2) (hg : Heap.get H b = tsB t z) (h : K (.tup [.agg [.u8 0, .u8 0, .u8 0, .u8 0, .u8 0, .u8 0, .u8 0, .u8 0, .u8 0, .u8 0, .u8 0, .u8 0, .u8 0, .u8 0, .u8 0, .u8 0, .u8 0, .u8 0, .u8 0, .u8 0, .u8 0, .u8 0, .u8 0, .u8 0, .u8 0, .u8 0, .u8 0, .u8 0, .u8 0, .u8 0, .u8 0, .u8 0], .bool false]) H) : wpF P G 20 [.ptr b 0 [0] tsS] H K := by
  refine wpF_go c20 rfl 3 ?_
  intro hA hB
  simp only [s20]
  clear hA hB
  have hgX : ∀ X : List (Option Blk), Heap.get (H ++ X) b = tsB t z := fun X => Heap.get_some_append hg
  have hbl : b < H.length := Heap.get_lt hg
  have hgY := hgX
  unfold tsB tsA bxA at hgY
  cases hm1 : t.m with
  | false =>
    (refine gw0 ?_; try exact True.intro)
    refine f32 (hgX _) ?_
    (refine gw1 @hm1 ?_; try exact True.intro)
    exact h
  | true =>
    cases hg1 : t.g with
    | false =>
      (refine gw0 ?_; try exact True.intro)
      refine f32 (hgX _) ?_
      (refine gw3 @hm1 @hgY @hg1 ?_; try exact True.intro)
      exact h
    | true =>
      have h2 : z.s ≠ 2 := by
        rcases hm with h | h | h
        · rw [hm1] at h; cases h
        · rw [hg1] at h; cases h
        · exact h
      have e2 : sdX z = z32 := if_neg h2
      (refine gw0 ?_; try exact True.intro)
      refine f32 (hgX _) ?_
      (refine gw3 @hm1 @hgY @hg1 ?_; try exact True.intro)
      refine f17t (hgX _) hz ?_
      rw [e2, decide_eq_false h2, show z32.map AV.u8 = [.u8 0, .u8 0, .u8 0, .u8 0, .u8 0, .u8 0, .u8 0, .u8 0, .u8 0, .u8 0, .u8 0, .u8 0, .u8 0, .u8 0, .u8 0, .u8 0, .u8 0, .u8 0, .u8 0, .u8 0, .u8 0, .u8 0, .u8 0, .u8 0, .u8 0, .u8 0, .u8 0, .u8 0, .u8 0, .u8 0, .u8 0, .u8 0] from rfl]
      (refine gw0 ?_; try exact True.intro)
      exact h
theorem f20g {K : AV → Heap → Prop} {H : Heap} {b : Nat} {t : Ts} {z : Bx} (ho : t.o.length = 32) (hz : z.ok) (hm : t.m = true) (hg1 : t.g = true) (h2 : z.s = 2) (hg : Heap.get H b = tsB t z) (h : K (.tup [.agg ((coin t z).map .u8), .bool true]) H) : wpF P G 20 [.ptr b 0 [0] tsS] H K := by
  refine wpF_go c20 rfl 3 ?_
  intro hA hB
  simp only [s20]
  clear hA hB
  have hgX : ∀ X : List (Option Blk), Heap.get (H ++ X) b = tsB t z := fun X => Heap.get_some_append hg
  have hbl : b < H.length := Heap.get_lt hg
  have hgY := hgX
  unfold tsB tsA bxA at hgY
  have e2 : sdX z = z.x := if_pos h2
  have hx := hz.2
  (refine gw0 ?_; try exact True.intro)
  refine f32 (hgX _) ?_
  (refine gw3 @hm @hgY @hg1 ?_; try exact True.intro)
  refine f17t (hgX _) hz ?_
  rw [e2, decide_eq_true h2]
  by_cases hp : t.p = 1
  · have ec : coin t z = mx z.x t.o := if_pos hp
    rw [ec] at h
    (refine gw3 @hx @hgY @hp ?_; try exact True.intro)
    refine drawn _ (f33 hx ho ⟨rfl, rfl⟩) ?_
    have hml := mx_len (a := z.x) (b := t.o)
    generalize mx z.x t.o = m at *
    (refine gw1 @hml ?_; try exact True.intro)
    exact h
  · have ec : coin t z = mx t.o z.x := if_neg hp
    rw [ec] at h
    (refine gw3 @hx @hgY @hp ?_; try exact True.intro)
    refine drawn _ (f33 ho hx ⟨rfl, rfl⟩) ?_
    have hml := mx_len (a := t.o) (b := z.x)
    generalize mx t.o z.x = m at *
    (refine gw1 @hml ?_; try exact True.intro)
    exact h
theorem f21n {K : AV → Heap → Prop} {H : Heap} (h : K (.agg [.u8 0, .u8 0, .u8 0, .u8 0, .u8 0, .u8 0, .u8 0, .u8 0, .u8 0, .u8 0, .u8 0, .u8 0, .u8 0, .u8 0, .u8 0, .u8 0, .u8 0, .u8 0, .u8 0, .u8 0, .u8 0, .u8 0, .u8 0, .u8 0, .u8 0, .u8 0, .u8 0, .u8 0, .u8 0, .u8 0, .u8 0, .u8 0]) H) : wpF P G 21 [.nilp] H K := by
  refine wpF_go c21 rfl 3 ?_
  intro hA hB
  simp only [s21]
  (refine gw0 ?_; try exact True.intro)
  refine f32n ?_
  (refine gw0 ?_; try exact True.intro)
  exact h
theorem f21x {K : AV → Heap → Prop} {H : Heap} {b : Nat} {t : Ts} {z : Bx} (hm : t.m = false) (hg : Heap.get H b = tsB t z) (h : K (.agg [.u8 0, .u8 0, .u8 0, .u8 0, .u8 0, .u8 0, .u8 0, .u8 0, .u8 0, .u8 0, .u8 0, .u8 0, .u8 0, .u8 0, .u8 0, .u8 0, .u8 0, .u8 0, .u8 0, .u8 0, .u8 0, .u8 0, .u8 0, .u8 0, .u8 0, .u8 0, .u8 0, .u8 0, .u8 0, .u8 0, .u8 0, .u8 0]) H) : wpF P G 21 [.ptr b 0 [0] tsS] H K := by
  refine wpF_go c21 rfl 3 ?_
  intro hA hB
  simp only [s21]
  clear hA hB
  have hgX : ∀ X : List (Option Blk), Heap.get (H ++ X) b = tsB t z := fun X => Heap.get_some_append hg
  (refine gw0 ?_; try exact True.intro)
  refine f32 (hgX _) ?_
  (refine gw1 @hm ?_; try exact True.intro)
  exact h
theorem f21 {K : AV → Heap → Prop} {H : Heap} {b : Nat} {t : Ts} {z : Bx} (ho : t.o.length = 32) (hm : t.m = true) (hg : Heap.get H b = tsB t z) (h : K (.agg ((com t.p t.b t.o).map .u8)) H) : wpF P G 21 [.ptr b 0 [0] tsS] H K := by
  refine wpF_go c21 rfl 3 ?_
  intro hA hB
  simp only [s21]
  clear hA hB
  have hgX : ∀ X : List (Option Blk), Heap.get (H ++ X) b = tsB t z := fun X => Heap.get_some_append hg
  have hbl : b < H.length := Heap.get_lt hg
  have hgY := hgX
  unfold tsB tsA bxA at hgY
  (refine gw0 ?_; try exact True.intro)
  refine f32 (hgX _) ?_
  (refine gw3 @hm @hgY @ho ?_; try exact True.intro)
  refine drawn _ (f10 ho ⟨rfl, rfl⟩) ?_
  have hml := com_len (p := t.p) (b := t.b) (s := t.o)
  generalize com t.p t.b t.o = m at *
  (refine gw1 @hml ?_; try exact True.intro)
  exact h
theorem f22n {K : AV → Heap → Prop} {H : Heap} {d : List (BitVec 8)} (hd : d.length = 32) (h : K (.int 3) H) : wpF P G 22 [.nilp, .agg (d.map .u8)] H K := by
  refine wpF_go c22 rfl 3 ?_
  intro hA hB
  simp only [s22]
  (refine gw1 @hd ?_; try exact True.intro)
  refine f32n ?_
  (refine gw0 ?_; try exact True.intro)
  exact h
theorem f22x {K : AV → Heap → Prop} {H : Heap} {b : Nat} {t : Ts} {z : Bx} {d : List (BitVec 8)} (hd : d.length = 32) (hm : t.m = false) (hg : Heap.get H b = tsB t z) (h : K (.int 3) H) : wpF P G 22 [.ptr b 0 [0] tsS, .agg (d.map .u8)] H K := by
  refine wpF_go c22 rfl 3 ?_
  intro hA hB
  simp only [s22]
  clear hA hB
  have hgX : ∀ X : List (Option Blk), Heap.get (H ++ X) b = tsB t z := fun X => Heap.get_some_append hg
  (refine gw1 @hd ?_; try exact True.intro)
  refine f32 (hgX _) ?_
  (refine gw1 @hm ?_; try exact True.intro)
  exact h
theorem f23n {K : AV → Heap → Prop} {H : Heap} {d : List (BitVec 8)} (hd : d.length = 32) (h : K (.int 3) H) : wpF P G 23 [.nilp, .agg (d.map .u8)] H K := by
  refine wpF_go c23 rfl 3 ?_
  intro hA hB
  simp only [s23]
  (refine gw1 @hd ?_; try exact True.intro)
  refine f32n ?_
  (refine gw0 ?_; try exact True.intro)
  exact h
theorem f23x {K : AV → Heap → Prop} {H : Heap} {b : Nat} {t : Ts} {z : Bx} {d : List (BitVec 8)} (hd : d.length = 32) (hm : t.m = false) (hg : Heap.get H b = tsB t z) (h : K (.int 3) H) : wpF P G 23 [.ptr b 0 [0] tsS, .agg (d.map .u8)] H K := by
  refine wpF_go c23 rfl 3 ?_
  intro hA hB
  simp only [s23]
  clear hA hB
  have hgX : ∀ X : List (Option Blk), Heap.get (H ++ X) b = tsB t z := fun X => Heap.get_some_append hg
  (refine gw1 @hd ?_; try exact True.intro)
  refine f32 (hgX _) ?_
  (refine gw1 @hm ?_; try exact True.intro)
  exact h
theorem f22 {K : AV → Heap → Prop} {H0 L : Heap} {t : Ts} {z : Bx} {d : List (BitVec 8)} (hd : d.length = 32) (hz : z.ok) (hp : t.p = 0 ∨ t.p = 1) (hm : t.m = true) (h : K (.int (bindE z)) (H0 ++ tsB t (bind z (1 - t.p) t.b d) :: L)) : wpF P G 22 [.ptr H0.length 0 [0] tsS, .agg (d.map .u8)] (H0 ++ tsB t z :: L) K := by
  refine wpF_goM c22 rfl ?_
  intro hA hB
  simp only [s22]
  (refine gw4 @hd @Kmut_n @Kmut_r @Km2_s ?_; try exact True.intro)
  refine f32 (t := t) (z := z) (by rw [hget_0, hget_z]) ?_
  (refine gw4 @hm @Kmut_n @Kmut_r @Km2_s ?_; try exact True.intro)
  have hb1 : -9223372036854775808 ≤ 1 - t.p ∧ 1 - t.p ≤ 9223372036854775807 := by omega
  unfold tsB tsA bxA
  (refine gw4 @hd @Kmut_n @Kmut_r @Km2_s ?_; try exact True.intro)
  refine ⟨hb1.1, hb1.2, ?_⟩
  refine draww _ _ (by simp) (f14t (t := t) (z := z) (L := L ++ [some ⟨26, 0, false, .arr 1 (.arr 32 .leaf), .agg [.agg (d.map .u8)]⟩]) hd hz ⟨rfl, rfl⟩) ?_
  (refine gw3 @Kmut_n @Kmut_r @Km2_s ?_; try exact True.intro)
  refine ⟨by omega, ?_⟩
  exact mut_fin (E := [some ⟨26, 0, false, .arr 1 (.arr 32 .leaf), .agg [.agg (d.map .u8)]⟩]) hB (y := tsB t (bind z (1 - t.p) t.b d)) (by rintro k blk h; cases h; exact ts_bnd) h
theorem f23 {K : AV → Heap → Prop} {H0 L : Heap} {t : Ts} {z : Bx} {d : List (BitVec 8)} (hd : d.length = 32) (hz : z.ok) (hm : t.m = true) (h : K (.int (tellE z d)) (H0 ++ tsB t (tell z d) :: L)) : wpF P G 23 [.ptr H0.length 0 [0] tsS, .agg (d.map .u8)] (H0 ++ tsB t z :: L) K := by
  refine wpF_goM c23 rfl ?_
  intro hA hB
  simp only [s23]
  (refine gw4 @hd @Kmut_n @Kmut_r @Km2_s ?_; try exact True.intro)
  refine f32 (t := t) (z := z) (by rw [hget_0, hget_z]) ?_
  (refine gw5 @hm @hd @Kmut_n @Kmut_r @Km2_s ?_; try exact True.intro)
  refine draww _ _ (by simp) (f16t (t := t) (z := z) (L := L ++ [some ⟨25, 0, false, .arr 1 (.arr 32 .leaf), .agg [.agg (d.map .u8)]⟩]) hd hz ⟨rfl, rfl⟩) ?_
  (refine gw3 @Kmut_n @Kmut_r @Km2_s ?_; try exact True.intro)
  refine ⟨by omega, ?_⟩
  exact mut_fin (E := [some ⟨25, 0, false, .arr 1 (.arr 32 .leaf), .agg [.agg (d.map .u8)]⟩]) hB (y := tsB t (tell z d)) (by rintro k blk h; cases h; exact ts_bnd) h
theorem f25 {K : AV → Heap → Prop} {H : Heap} {p : Int} {b : BitVec 32} {o : List (BitVec 8)} (ho : o.length = 32) (hp : p = 0 ∨ p = 1) (h : K (.tup [.ptr (H.length + 1) 0 [0] tsS, .int 0]) (H ++ [A32 (o.map .u8), tsB ⟨p, b, o, false, true⟩ z0])) : wpF P G 25 [.int p, .u32 b, .agg (o.map .u8)] H K := by
  refine wpF_goK c25 rfl ?_
  intro hA hB
  simp only [s25]
  rcases hp with rfl | rfl
  · (refine gw4 @ho @Kall_n @Kall_r @Ka2_s ?_; try exact True.intro)
    exact h
  · (refine gw4 @ho @Kall_n @Kall_r @Ka2_s ?_; try exact True.intro)
    exact h
end Go.Proofs.YtajkclooknanjaaDoor

end

section
/-
  The laws TossNobody and TossFair of layer 28 (toss), walked.
-/
open Go Go.V
namespace Go.Proofs.YtajkclooknanjaaDoor
/-- trefoil/trefoillaw28.TossNobody (0:d, 1:s, 2:d, 3:s, 4:, 6:t, 7:x, 8:e, 9:y, 10:ok, 13:, 14:, 15:, 16:, 62:) -/
def s6 : FnS := ⟨65, [0, 1, 2, 3, 4, 6, 7, 8, 9, 10, 13, 14, 15, 16, 62],
    (.seq (.reg [⟨.var 2, (.e (.box 26 (.arr 32 .leaf))), [.t 0], none⟩,
      ⟨.var 3, (.e (.box 25 (.arr 32 .leaf))), [.t 1], none⟩,
      ⟨.var 4, (.q .mv), [.c (.bool false)], none⟩])
    (.seq (.seq (.reg [⟨.new, (.e (.bld (.st [.leaf, .leaf, (.arr 32 .leaf), (.st [(.arr 32 .leaf), .leaf, .leaf, .leaf, (.arr 32 .leaf)]), .leaf, .leaf]) (.agg [(.int 0), (.u32 0), (.agg [(.u8 0), (.u8 0), (.u8 0), (.u8 0), (.u8 0), (.u8 0), (.u8 0), (.u8 0), (.u8 0), (.u8 0), (.u8 0), (.u8 0), (.u8 0), (.u8 0), (.u8 0), (.u8 0), (.u8 0), (.u8 0), (.u8 0), (.u8 0), (.u8 0), (.u8 0), (.u8 0), (.u8 0), (.u8 0), (.u8 0), (.u8 0), (.u8 0), (.u8 0), (.u8 0), (.u8 0), (.u8 0)]), (.agg [(.agg [(.u8 0), (.u8 0), (.u8 0), (.u8 0), (.u8 0), (.u8 0), (.u8 0), (.u8 0), (.u8 0), (.u8 0), (.u8 0), (.u8 0), (.u8 0), (.u8 0), (.u8 0), (.u8 0), (.u8 0), (.u8 0), (.u8 0), (.u8 0), (.u8 0), (.u8 0), (.u8 0), (.u8 0), (.u8 0), (.u8 0), (.u8 0), (.u8 0), (.u8 0), (.u8 0), (.u8 0), (.u8 0)]), (.int 0), (.u32 0), (.int 0), (.agg [(.u8 0), (.u8 0), (.u8 0), (.u8 0), (.u8 0), (.u8 0), (.u8 0), (.u8 0), (.u8 0), (.u8 0), (.u8 0), (.u8 0), (.u8 0), (.u8 0), (.u8 0), (.u8 0), (.u8 0), (.u8 0), (.u8 0), (.u8 0), (.u8 0), (.u8 0), (.u8 0), (.u8 0), (.u8 0), (.u8 0), (.u8 0), (.u8 0), (.u8 0), (.u8 0), (.u8 0), (.u8 0)])]), (.bool false), (.bool false)]) [])), [], none⟩,
      ⟨.new, (.e (.box 51 (.st [.leaf, .leaf, (.arr 32 .leaf), (.st [(.arr 32 .leaf), .leaf, .leaf, .leaf, (.arr 32 .leaf)]), .leaf, .leaf]))), [.t 15], none⟩,
      ⟨.var 10, (.e (.bsl 49 .leaf .nilp 2 [0, 1])), [.c .nilp, .t 16], none⟩,
      ⟨.var 11, (.q .len), [.t 10], none⟩,
      ⟨.var 12, (.q .mv), [.c (.int 0)], none⟩])
    (.block 0 (.loop (.seq (.reg [⟨.var 13, (.q (.bin .lss)), [.t 12, .t 11], none⟩])
    (.seq (.cond (.t 13) .skip
    (.exit 0))
    (.seq (.block 1 (.seq (.reg [⟨.new, (.q (.iaS .leaf)), [.t 10, .t 12], none⟩,
      ⟨.new, (.q (.ld .leaf)), [.t 15], none⟩,
      ⟨.var 5, (.q .mv), [.t 16], none⟩])
    (.seq (.reg [⟨.new, (.q .mv), [.t 5], none⟩,
      ⟨.new, (.call 19), [.t 15], none⟩,
      ⟨.new, (.q .mv), [.t 16], none⟩,
      ⟨.new, (.q (.ext 0)), [.t 17], none⟩,
      ⟨.new, (.q (.ext 1)), [.t 17], none⟩,
      ⟨.var 6, (.e (.alloc 25 (.arr 32 .leaf) (.agg [(.u8 0), (.u8 0), (.u8 0), (.u8 0), (.u8 0), (.u8 0), (.u8 0), (.u8 0), (.u8 0), (.u8 0), (.u8 0), (.u8 0), (.u8 0), (.u8 0), (.u8 0), (.u8 0), (.u8 0), (.u8 0), (.u8 0), (.u8 0), (.u8 0), (.u8 0), (.u8 0), (.u8 0), (.u8 0), (.u8 0), (.u8 0), (.u8 0), (.u8 0), (.u8 0), (.u8 0), (.u8 0)]))), [], none⟩,
      ⟨.none, (.e (.store (.arr 32 .leaf))), [.t 6, .t 18], none⟩,
      ⟨.var 7, (.q .mv), [.t 19], none⟩])
    (.seq (.reg [⟨.new, (.q .mv), [.t 5], none⟩,
      ⟨.new, (.call 20), [.t 15], none⟩,
      ⟨.new, (.q .mv), [.t 16], none⟩,
      ⟨.new, (.q (.ext 0)), [.t 17], none⟩,
      ⟨.new, (.q (.ext 1)), [.t 17], none⟩,
      ⟨.var 8, (.e (.alloc 25 (.arr 32 .leaf) (.agg [(.u8 0), (.u8 0), (.u8 0), (.u8 0), (.u8 0), (.u8 0), (.u8 0), (.u8 0), (.u8 0), (.u8 0), (.u8 0), (.u8 0), (.u8 0), (.u8 0), (.u8 0), (.u8 0), (.u8 0), (.u8 0), (.u8 0), (.u8 0), (.u8 0), (.u8 0), (.u8 0), (.u8 0), (.u8 0), (.u8 0), (.u8 0), (.u8 0), (.u8 0), (.u8 0), (.u8 0), (.u8 0)]))), [], none⟩,
      ⟨.none, (.e (.store (.arr 32 .leaf))), [.t 8, .t 18], none⟩,
      ⟨.var 9, (.q .mv), [.t 19], none⟩])
    (.seq (.reg [⟨.new, (.q .mv), [.t 5], none⟩,
      ⟨.new, (.call 21), [.t 15], none⟩,
      ⟨.new, (.e (.bld (.arr 32 .leaf) (.agg [(.u8 0), (.u8 0), (.u8 0), (.u8 0), (.u8 0), (.u8 0), (.u8 0), (.u8 0), (.u8 0), (.u8 0), (.u8 0), (.u8 0), (.u8 0), (.u8 0), (.u8 0), (.u8 0), (.u8 0), (.u8 0), (.u8 0), (.u8 0), (.u8 0), (.u8 0), (.u8 0), (.u8 0), (.u8 0), (.u8 0), (.u8 0), (.u8 0), (.u8 0), (.u8 0), (.u8 0), (.u8 0)]) [])), [], none⟩,
      ⟨.new, (.q (.eqA true 32 .u8)), [.t 16, .t 17], none⟩,
      ⟨.new, (.q .mv), [.t 18], none⟩,
      ⟨.new, (.q .mv), [.t 5], (some (19, false))⟩,
      ⟨.new, (.q (.ld (.arr 32 .leaf))), [.t 2], (some (19, false))⟩,
      ⟨.new, (.call 22), [.t 20, .t 21], (some (19, false))⟩,
      ⟨.new, (.q (.bin .neq)), [.t 22, .c (.int 3)], (some (19, false))⟩,
      ⟨.new, (.q .pick), [.t 19, .c (.bool true), .t 23], none⟩,
      ⟨.new, (.q .mv), [.t 24], none⟩,
      ⟨.new, (.q (.ld (.arr 32 .leaf))), [.t 6], (some (25, false))⟩,
      ⟨.new, (.e (.bld (.arr 32 .leaf) (.agg [(.u8 0), (.u8 0), (.u8 0), (.u8 0), (.u8 0), (.u8 0), (.u8 0), (.u8 0), (.u8 0), (.u8 0), (.u8 0), (.u8 0), (.u8 0), (.u8 0), (.u8 0), (.u8 0), (.u8 0), (.u8 0), (.u8 0), (.u8 0), (.u8 0), (.u8 0), (.u8 0), (.u8 0), (.u8 0), (.u8 0), (.u8 0), (.u8 0), (.u8 0), (.u8 0), (.u8 0), (.u8 0)]) [])), [], (some (25, false))⟩,
      ⟨.new, (.q (.eqA true 32 .u8)), [.t 26, .t 27], (some (25, false))⟩,
      ⟨.new, (.q .pick), [.t 25, .c (.bool true), .t 28], none⟩,
      ⟨.new, (.q .mv), [.t 29], none⟩,
      ⟨.new, (.q .mv), [.t 7], (some (30, false))⟩,
      ⟨.new, (.q (.bin .neq)), [.t 31, .c (.int 3)], (some (30, false))⟩,
      ⟨.new, (.q .pick), [.t 30, .c (.bool true), .t 32], none⟩,
      ⟨.new, (.q .mv), [.t 33], none⟩,
      ⟨.new, (.q .mv), [.t 5], (some (34, false))⟩,
      ⟨.new, (.q (.ld (.arr 32 .leaf))), [.t 3], (some (34, false))⟩,
      ⟨.new, (.call 23), [.t 35, .t 36], (some (34, false))⟩,
      ⟨.new, (.q .mv), [.t 7], (some (34, false))⟩,
      ⟨.new, (.q (.bin .neq)), [.t 37, .t 38], (some (34, false))⟩,
      ⟨.new, (.q .pick), [.t 34, .c (.bool true), .t 39], none⟩,
      ⟨.new, (.q .mv), [.t 40], none⟩,
      ⟨.new, (.q (.ld (.arr 32 .leaf))), [.t 8], (some (41, false))⟩,
      ⟨.new, (.q (.ld (.arr 32 .leaf))), [.t 6], (some (41, false))⟩,
      ⟨.new, (.q (.eqA true 32 .u8)), [.t 42, .t 43], (some (41, false))⟩,
      ⟨.new, (.q .pick), [.t 41, .c (.bool true), .t 44], none⟩,
      ⟨.new, (.q .mv), [.t 45], none⟩,
      ⟨.new, (.q .mv), [.t 9], (some (46, false))⟩,
      ⟨.var 14, (.q .pick), [.t 46, .c (.bool true), .t 47], none⟩])
    (.cond (.t 14) (.seq (.reg [⟨.var 4, (.q .mv), [.c (.bool false)], none⟩])
    .ret)
    .skip))))))
    (.reg [⟨.new, (.q (.bin .add)), [.t 12, .c (.int 1)], none⟩,
      ⟨.var 12, (.q .mv), [.t 15], none⟩])))))))
    (.seq (.reg [⟨.new, (.call 24), [], none⟩,
      ⟨.var 4, (.q .mv), [.t 15], none⟩])
    .ret))),
    [.t 4]⟩

/-- trefoil/trefoillaw28.TossFair (0:batch, 1:one, 2:other, 4:one, 5:other, 6:, 7:a, 8:e, 9:b, 10:f, 12:g, 13:x, 14:g, 15:y, 16:h, 18:ok, 19:p, 20:ok, 21:q, 22:is, 41:, 48:, 60:, 109:) -/
def s8 : FnS := ⟨139, [0, 1, 2, 4, 5, 6, 7, 8, 9, 10, 12, 13, 14, 15, 16, 18, 19, 20, 21, 22, 41, 48, 60, 109],
    (.seq (.reg [⟨.var 3, (.e (.box 25 (.arr 32 .leaf))), [.t 1], none⟩,
      ⟨.var 4, (.e (.box 25 (.arr 32 .leaf))), [.t 2], none⟩,
      ⟨.var 5, (.q .mv), [.c (.bool false)], none⟩])
    (.seq (.reg [⟨.new, (.q .mv), [.t 0], none⟩,
      ⟨.new, (.q (.ld (.arr 32 .leaf))), [.t 3], none⟩,
      ⟨.new, (.call 25), [.c (.int 0), .t 24, .t 25], none⟩,
      ⟨.new, (.q .mv), [.t 26], none⟩,
      ⟨.new, (.q (.ext 0)), [.t 27], none⟩,
      ⟨.new, (.q (.ext 1)), [.t 27], none⟩,
      ⟨.var 6, (.q .mv), [.t 28], none⟩,
      ⟨.var 7, (.q .mv), [.t 29], none⟩])
    (.seq (.reg [⟨.new, (.q .mv), [.t 0], none⟩,
      ⟨.new, (.q (.ld (.arr 32 .leaf))), [.t 4], none⟩,
      ⟨.new, (.call 25), [.c (.int 1), .t 24, .t 25], none⟩,
      ⟨.new, (.q .mv), [.t 26], none⟩,
      ⟨.new, (.q (.ext 0)), [.t 27], none⟩,
      ⟨.new, (.q (.ext 1)), [.t 27], none⟩,
      ⟨.var 8, (.q .mv), [.t 28], none⟩,
      ⟨.var 9, (.q .mv), [.t 29], none⟩])
    (.seq (.seq (.reg [⟨.new, (.q .mv), [.t 7], none⟩,
      ⟨.new, (.q (.bin .neq)), [.t 24, .c (.int 0)], none⟩,
      ⟨.new, (.q .mv), [.t 25], none⟩,
      ⟨.new, (.q .mv), [.t 9], (some (26, false))⟩,
      ⟨.new, (.q .mv), [.t 7], (some (26, false))⟩,
      ⟨.new, (.q (.bin .neq)), [.t 27, .t 28], (some (26, false))⟩,
      ⟨.var 20, (.q .pick), [.t 26, .c (.bool true), .t 29], none⟩])
    (.cond (.t 20) (.seq (.reg [⟨.var 5, (.q .mv), [.c (.bool false)], none⟩])
    .ret)
    .skip))
    (.seq (.seq (.reg [⟨.new, (.q .mv), [.t 6], none⟩,
      ⟨.new, (.call 19), [.t 24], none⟩,
      ⟨.new, (.q .mv), [.t 25], none⟩,
      ⟨.new, (.q (.ext 0)), [.t 26], none⟩,
      ⟨.new, (.q (.ext 1)), [.t 26], none⟩,
      ⟨.new, (.e (.alloc 25 (.arr 32 .leaf) (.agg [(.u8 0), (.u8 0), (.u8 0), (.u8 0), (.u8 0), (.u8 0), (.u8 0), (.u8 0), (.u8 0), (.u8 0), (.u8 0), (.u8 0), (.u8 0), (.u8 0), (.u8 0), (.u8 0), (.u8 0), (.u8 0), (.u8 0), (.u8 0), (.u8 0), (.u8 0), (.u8 0), (.u8 0), (.u8 0), (.u8 0), (.u8 0), (.u8 0), (.u8 0), (.u8 0), (.u8 0), (.u8 0)]))), [], none⟩,
      ⟨.none, (.e (.store (.arr 32 .leaf))), [.t 29, .t 27], none⟩,
      ⟨.var 10, (.q .mv), [.t 28], none⟩])
    (.seq (.reg [⟨.new, (.q .mv), [.t 10], none⟩,
      ⟨.var 21, (.q (.bin .neq)), [.t 24, .c (.int 8)], none⟩])
    (.cond (.t 21) (.seq (.reg [⟨.var 5, (.q .mv), [.c (.bool false)], none⟩])
    .ret)
    .skip)))
    (.seq (.seq (.reg [⟨.new, (.q .mv), [.t 6], none⟩,
      ⟨.new, (.q .mv), [.t 8], none⟩,
      ⟨.new, (.call 21), [.t 25], none⟩,
      ⟨.new, (.call 22), [.t 24, .t 26], none⟩,
      ⟨.new, (.q (.bin .neq)), [.t 27, .c (.int 0)], none⟩,
      ⟨.new, (.q .mv), [.t 28], none⟩,
      ⟨.new, (.q .mv), [.t 8], (some (29, false))⟩,
      ⟨.new, (.q .mv), [.t 6], (some (29, false))⟩,
      ⟨.new, (.call 21), [.t 31], (some (29, false))⟩,
      ⟨.new, (.call 22), [.t 30, .t 32], (some (29, false))⟩,
      ⟨.new, (.q (.bin .neq)), [.t 33, .c (.int 0)], (some (29, false))⟩,
      ⟨.var 22, (.q .pick), [.t 29, .c (.bool true), .t 34], none⟩])
    (.cond (.t 22) (.seq (.reg [⟨.var 5, (.q .mv), [.c (.bool false)], none⟩])
    .ret)
    .skip))
    (.seq (.reg [⟨.new, (.q .mv), [.t 6], none⟩,
      ⟨.new, (.call 19), [.t 24], none⟩,
      ⟨.new, (.q .mv), [.t 25], none⟩,
      ⟨.new, (.q (.ext 0)), [.t 26], none⟩,
      ⟨.new, (.q (.ext 1)), [.t 26], none⟩,
      ⟨.var 11, (.e (.alloc 25 (.arr 32 .leaf) (.agg [(.u8 0), (.u8 0), (.u8 0), (.u8 0), (.u8 0), (.u8 0), (.u8 0), (.u8 0), (.u8 0), (.u8 0), (.u8 0), (.u8 0), (.u8 0), (.u8 0), (.u8 0), (.u8 0), (.u8 0), (.u8 0), (.u8 0), (.u8 0), (.u8 0), (.u8 0), (.u8 0), (.u8 0), (.u8 0), (.u8 0), (.u8 0), (.u8 0), (.u8 0), (.u8 0), (.u8 0), (.u8 0)]))), [], none⟩,
      ⟨.none, (.e (.store (.arr 32 .leaf))), [.t 11, .t 27], none⟩,
      ⟨.var 12, (.q .mv), [.t 28], none⟩])
    (.seq (.reg [⟨.new, (.q .mv), [.t 8], none⟩,
      ⟨.new, (.call 19), [.t 24], none⟩,
      ⟨.new, (.q .mv), [.t 25], none⟩,
      ⟨.new, (.q (.ext 0)), [.t 26], none⟩,
      ⟨.new, (.q (.ext 1)), [.t 26], none⟩,
      ⟨.var 13, (.e (.alloc 25 (.arr 32 .leaf) (.agg [(.u8 0), (.u8 0), (.u8 0), (.u8 0), (.u8 0), (.u8 0), (.u8 0), (.u8 0), (.u8 0), (.u8 0), (.u8 0), (.u8 0), (.u8 0), (.u8 0), (.u8 0), (.u8 0), (.u8 0), (.u8 0), (.u8 0), (.u8 0), (.u8 0), (.u8 0), (.u8 0), (.u8 0), (.u8 0), (.u8 0), (.u8 0), (.u8 0), (.u8 0), (.u8 0), (.u8 0), (.u8 0)]))), [], none⟩,
      ⟨.none, (.e (.store (.arr 32 .leaf))), [.t 13, .t 27], none⟩,
      ⟨.var 14, (.q .mv), [.t 28], none⟩])
    (.seq (.seq (.reg [⟨.new, (.q .mv), [.t 6], none⟩,
      ⟨.new, (.call 20), [.t 24], none⟩,
      ⟨.new, (.q .mv), [.t 25], none⟩,
      ⟨.new, (.q (.ext 0)), [.t 26], none⟩,
      ⟨.new, (.q (.ext 1)), [.t 26], none⟩,
      ⟨.new, (.e (.alloc 25 (.arr 32 .leaf) (.agg [(.u8 0), (.u8 0), (.u8 0), (.u8 0), (.u8 0), (.u8 0), (.u8 0), (.u8 0), (.u8 0), (.u8 0), (.u8 0), (.u8 0), (.u8 0), (.u8 0), (.u8 0), (.u8 0), (.u8 0), (.u8 0), (.u8 0), (.u8 0), (.u8 0), (.u8 0), (.u8 0), (.u8 0), (.u8 0), (.u8 0), (.u8 0), (.u8 0), (.u8 0), (.u8 0), (.u8 0), (.u8 0)]))), [], none⟩,
      ⟨.none, (.e (.store (.arr 32 .leaf))), [.t 29, .t 27], none⟩,
      ⟨.var 15, (.q .mv), [.t 28], none⟩])
    (.seq (.reg [⟨.new, (.q .mv), [.t 15], none⟩,
      ⟨.new, (.q .mv), [.t 24], none⟩,
      ⟨.new, (.q .mv), [.t 12], (some (25, false))⟩,
      ⟨.new, (.q (.bin .neq)), [.t 26, .c (.int 0)], (some (25, false))⟩,
      ⟨.new, (.q .pick), [.t 25, .c (.bool true), .t 27], none⟩,
      ⟨.new, (.q .mv), [.t 28], none⟩,
      ⟨.new, (.q .mv), [.t 14], (some (29, false))⟩,
      ⟨.new, (.q .mv), [.t 12], (some (29, false))⟩,
      ⟨.new, (.q (.bin .neq)), [.t 30, .t 31], (some (29, false))⟩,
      ⟨.new, (.q .pick), [.t 29, .c (.bool true), .t 32], none⟩,
      ⟨.new, (.q .mv), [.t 33], none⟩,
      ⟨.new, (.q (.ld (.arr 32 .leaf))), [.t 11], (some (34, false))⟩,
      ⟨.new, (.q (.ld (.arr 32 .leaf))), [.t 3], (some (34, false))⟩,
      ⟨.new, (.q (.eqA true 32 .u8)), [.t 35, .t 36], (some (34, false))⟩,
      ⟨.new, (.q .pick), [.t 34, .c (.bool true), .t 37], none⟩,
      ⟨.new, (.q .mv), [.t 38], none⟩,
      ⟨.new, (.q (.ld (.arr 32 .leaf))), [.t 13], (some (39, false))⟩,
      ⟨.new, (.q (.ld (.arr 32 .leaf))), [.t 4], (some (39, false))⟩,
      ⟨.new, (.q (.eqA true 32 .u8)), [.t 40, .t 41], (some (39, false))⟩,
      ⟨.new, (.q .pick), [.t 39, .c (.bool true), .t 42], none⟩,
      ⟨.new, (.q .mv), [.t 43], none⟩,
      ⟨.new, (.q .mv), [.t 6], (some (44, false))⟩,
      ⟨.new, (.q (.ld (.arr 32 .leaf))), [.t 13], (some (44, false))⟩,
      ⟨.new, (.call 23), [.t 45, .t 46], (some (44, false))⟩,
      ⟨.new, (.q .mv), [.t 12], (some (44, false))⟩,
      ⟨.new, (.q (.bin .neq)), [.t 47, .t 48], (some (44, false))⟩,
      ⟨.new, (.q .pick), [.t 44, .c (.bool true), .t 49], none⟩,
      ⟨.new, (.q .mv), [.t 50], none⟩,
      ⟨.new, (.q .mv), [.t 8], (some (51, false))⟩,
      ⟨.new, (.q (.ld (.arr 32 .leaf))), [.t 11], (some (51, false))⟩,
      ⟨.new, (.call 23), [.t 52, .t 53], (some (51, false))⟩,
      ⟨.new, (.q .mv), [.t 12], (some (51, false))⟩,
      ⟨.new, (.q (.bin .neq)), [.t 54, .t 55], (some (51, false))⟩,
      ⟨.var 23, (.q .pick), [.t 51, .c (.bool true), .t 56], none⟩])
    (.cond (.t 23) (.seq (.reg [⟨.var 5, (.q .mv), [.c (.bool false)], none⟩])
    .ret)
    .skip)))
    (.seq (.reg [⟨.new, (.q .mv), [.t 6], none⟩,
      ⟨.new, (.call 20), [.t 24], none⟩,
      ⟨.new, (.q .mv), [.t 25], none⟩,
      ⟨.new, (.q (.ext 0)), [.t 26], none⟩,
      ⟨.new, (.q (.ext 1)), [.t 26], none⟩,
      ⟨.var 16, (.e (.alloc 25 (.arr 32 .leaf) (.agg [(.u8 0), (.u8 0), (.u8 0), (.u8 0), (.u8 0), (.u8 0), (.u8 0), (.u8 0), (.u8 0), (.u8 0), (.u8 0), (.u8 0), (.u8 0), (.u8 0), (.u8 0), (.u8 0), (.u8 0), (.u8 0), (.u8 0), (.u8 0), (.u8 0), (.u8 0), (.u8 0), (.u8 0), (.u8 0), (.u8 0), (.u8 0), (.u8 0), (.u8 0), (.u8 0), (.u8 0), (.u8 0)]))), [], none⟩,
      ⟨.none, (.e (.store (.arr 32 .leaf))), [.t 16, .t 27], none⟩,
      ⟨.var 17, (.q .mv), [.t 28], none⟩])
    (.seq (.reg [⟨.new, (.q .mv), [.t 8], none⟩,
      ⟨.new, (.call 20), [.t 24], none⟩,
      ⟨.new, (.q .mv), [.t 25], none⟩,
      ⟨.new, (.q (.ext 0)), [.t 26], none⟩,
      ⟨.new, (.q (.ext 1)), [.t 26], none⟩,
      ⟨.var 18, (.e (.alloc 25 (.arr 32 .leaf) (.agg [(.u8 0), (.u8 0), (.u8 0), (.u8 0), (.u8 0), (.u8 0), (.u8 0), (.u8 0), (.u8 0), (.u8 0), (.u8 0), (.u8 0), (.u8 0), (.u8 0), (.u8 0), (.u8 0), (.u8 0), (.u8 0), (.u8 0), (.u8 0), (.u8 0), (.u8 0), (.u8 0), (.u8 0), (.u8 0), (.u8 0), (.u8 0), (.u8 0), (.u8 0), (.u8 0), (.u8 0), (.u8 0)]))), [], none⟩,
      ⟨.none, (.e (.store (.arr 32 .leaf))), [.t 18, .t 27], none⟩,
      ⟨.var 19, (.q .mv), [.t 28], none⟩])
    (.seq (.draw [⟨.new, (.q .mv), [.t 17], none⟩,
      ⟨.new, (.q .mv), [.t 24], none⟩,
      ⟨.new, (.q .mv), [.t 19], (some (25, true))⟩,
      ⟨.new, (.q .pick), [.t 25, .t 26, .c (.bool false)], none⟩,
      ⟨.new, (.q .mv), [.t 27], none⟩,
      ⟨.new, (.q (.ld (.arr 32 .leaf))), [.t 16], (some (28, true))⟩,
      ⟨.new, (.q (.ld (.arr 32 .leaf))), [.t 18], (some (28, true))⟩,
      ⟨.new, (.q (.eqA false 32 .u8)), [.t 29, .t 30], (some (28, true))⟩,
      ⟨.new, (.q .pick), [.t 28, .t 31, .c (.bool false)], none⟩,
      ⟨.new, (.q .mv), [.t 32], none⟩,
      ⟨.new, (.q (.ld (.arr 32 .leaf))), [.t 16], (some (33, true))⟩,
      ⟨.new, (.q (.ld (.arr 32 .leaf))), [.t 3], (some (33, true))⟩,
      ⟨.new, (.q (.ld (.arr 32 .leaf))), [.t 4], (some (33, true))⟩,
      ⟨.new, (.call 27), [.t 35, .t 36], (some (33, true))⟩,
      ⟨.new, (.q (.eqA false 32 .u8)), [.t 34, .t 37], (some (33, true))⟩,
      ⟨.new, (.q .pick), [.t 33, .t 38, .c (.bool false)], none⟩,
      ⟨.new, (.q .mv), [.t 39], none⟩,
      ⟨.new, (.call 24), [], (some (40, true))⟩,
      ⟨.new, (.q .pick), [.t 40, .t 41, .c (.bool false)], none⟩,
      ⟨.var 5, (.q .mv), [.t 42], none⟩])
    .ret)))))))))))),
    [.t 5]⟩

set_option maxRecDepth 100000
set_option linter.unusedSimpArgs false
set_option linter.unusedVariables false
theorem c6 : cF P G (drP P G) 6 2 s6.vm = some s6 := by kernel_rfl
theorem c8 : cF P G (drP P G) 8 3 s8.vm = some s8 := by kernel_rfl
def tz : Ts := ⟨0, 0, z32, false, false⟩
theorem f6 {K : AV → Heap → Prop} {H : Heap} {d s : List (BitVec 8)} (hd : d.length = 32) (hs : s.length = 32) (h : K (.bool true) H) : wpF P G 6 [.agg (d.map .u8), .agg (s.map .u8)] H K := by
  refine wpF_go c6 rfl 3 ?_
  intro hA hB
  simp only [s6]
  clear hA hB
  (refine gw2 @hs @hd ?_; try exact True.intro)
  refine wp_unroll 3 ?_
  (refine gw0 ?_; try exact True.intro)
  refine f19n ?_
  (refine gw0 ?_; try exact True.intro)
  refine f20n ?_
  (refine gw0 ?_; try exact True.intro)
  refine f21n ?_
  (refine gw2 @hs @hd ?_; try exact True.intro)
  refine ⟨rfl, ?_⟩
  refine f22n hd ?_
  (refine gw2 @hs @hd ?_; try exact True.intro)
  refine ⟨rfl, ?_⟩
  refine f23n hs ?_
  (refine gw2 @hs @hd ?_; try exact True.intro)
  refine ⟨rfl, ?_⟩
  refine f19x (t := tz) (z := z0) rfl (by rw [hget_k]; rfl) ?_
  (refine gw0 ?_; try exact True.intro)
  refine f20x (t := tz) (z := z0) ⟨rfl, rfl⟩ (.inl rfl) (by rw [hget_k]; rfl) ?_
  (refine gw0 ?_; try exact True.intro)
  refine f21x (t := tz) (z := z0) rfl (by rw [hget_k]; rfl) ?_
  (refine gw2 @hs @hd ?_; try exact True.intro)
  refine ⟨rfl, ?_⟩
  refine f22x (t := tz) (z := z0) hd rfl (by rw [hget_k]; rfl) ?_
  (refine gw2 @hs @hd ?_; try exact True.intro)
  refine ⟨rfl, ?_⟩
  refine f23x (t := tz) (z := z0) hs rfl (by rw [hget_k]; rfl) ?_
  (refine gw2 @hs @hd ?_; try exact True.intro)
  refine ⟨rfl, ?_⟩
  refine f24 ?_
  (refine gw0 ?_; try exact True.intro)
  exact h
theorem f22' {K : AV → Heap → Prop} {H0 L Hx : Heap} {m : Nat} {t : Ts} {z : Bx} {d : List (BitVec 8)} (hmm : m = H0.length) (hx : Hx = H0 ++ tsB t z :: L) (hd : d.length = 32) (hz : z.ok) (hp : t.p = 0 ∨ t.p = 1) (hm : t.m = true) (h : K (.int (bindE z)) (H0 ++ tsB t (bind z (1 - t.p) t.b d) :: L)) : wpF P G 22 [.ptr m 0 [0] tsS, .agg (d.map .u8)] Hx K := by
  subst hmm hx
  exact f22 hd hz hp hm h
theorem f23' {K : AV → Heap → Prop} {H0 L Hx : Heap} {m : Nat} {t : Ts} {z : Bx} {d : List (BitVec 8)} (hmm : m = H0.length) (hx : Hx = H0 ++ tsB t z :: L) (hd : d.length = 32) (hz : z.ok) (hm : t.m = true) (h : K (.int (tellE z d)) (H0 ++ tsB t (tell z d) :: L)) : wpF P G 23 [.ptr m 0 [0] tsS, .agg (d.map .u8)] Hx K := by
  subst hmm hx
  exact f23 hd hz hm h
theorem f19b' {K : AV → Heap → Prop} {H0 L Hx : Heap} {m : Nat} {t : Ts} {z : Bx} (hmm : m = H0.length) (hx : Hx = H0 ++ tsB t z :: L) (ho : t.o.length = 32) (hz1 : z.ok) (hm : t.m = true) (hz : z.s ≠ 0) (h : K (.tup [.agg (t.o.map .u8), .int 0]) (H0 ++ tsB { t with g := true } z :: L)) : wpF P G 19 [.ptr m 0 [0] tsS] Hx K := by
  subst hmm hx
  exact f19b ho hz1 hm hz h
theorem f8 {K : AV → Heap → Prop} {H : Heap} {b : BitVec 32} {x y : List (BitVec 8)} (hx : x.length = 32) (hy : y.length = 32) (h : K (.bool true) H) : wpF P G 8 [.u32 b, .agg (x.map .u8), .agg (y.map .u8)] H K := by
  refine wpF_go c8 rfl 3 ?_
  intro hA hB
  simp only [s8]
  clear hA hB
  (refine gw2 @hx @hy ?_; try exact True.intro)
  have e3 : H.length + 2 + 1 = H.length + 3 := rfl
  have e5 : H.length + 4 + 1 = H.length + 5 := rfl
  refine f25 hx (.inl rfl) ?_
  (refine gw3 @hx @hy @e3 ?_; try exact True.intro)
  refine f25 hy (.inr rfl) ?_
  (refine gw4 @hx @hy @e3 @e5 ?_; try exact True.intro)
  have l0 := com_len (p := 0) (b := b) (s := x)
  have l1 := com_len (p := 1) (b := b) (s := y)
  have z3 : z32.length = 32 := rfl
  refine f19a (t := ⟨0, b, x, false, true⟩) (z := z0) rfl rfl (by rw [hget_k]; rfl) ?_
  (refine gw0 ?_; try exact True.intro)
  refine f21 (t := ⟨1, b, y, false, true⟩) (z := z0) hy rfl (by rw [hget_k]; rfl) ?_
  have ht1 : tell ⟨com 1 b y, 1, b, 1, z32⟩ y = ⟨com 1 b y, 1, b, 2, y⟩ := by unfold tell; simp
  have he1 : tellE ⟨com 1 b y, 1, b, 1, z32⟩ y = 0 := by unfold tellE; simp
  have ht0 : tell ⟨com 0 b x, 0, b, 1, z32⟩ x = ⟨com 0 b x, 0, b, 2, x⟩ := by unfold tell; simp
  have he0 : tellE ⟨com 0 b x, 0, b, 1, z32⟩ x = 0 := by unfold tellE; simp
  have h21 : ∀ {K : AV → Heap → Prop} {H : Heap} {m : Nat} {z : Bx}, Heap.get H m = tsB ⟨0, b, x, false, true⟩ z → K (.agg ((com 0 b x).map .u8)) H → wpF P G 21 [.ptr m 0 [0] tsS] H K := fun hg h => f21 hx rfl hg h
  generalize hc1 : com 1 b y = c1 at *
  generalize hc0 : com 0 b x = c0 at *
  generalize hZ : some (Blk.mk 25 0 false (.arr 1 (.arr 32 .leaf)) (.agg [.agg [.u8 0, .u8 0, .u8 0, .u8 0, .u8 0, .u8 0, .u8 0, .u8 0, .u8 0, .u8 0, .u8 0, .u8 0, .u8 0, .u8 0, .u8 0, .u8 0, .u8 0, .u8 0, .u8 0, .u8 0, .u8 0, .u8 0, .u8 0, .u8 0, .u8 0, .u8 0, .u8 0, .u8 0, .u8 0, .u8 0, .u8 0, .u8 0]])) = Z
  (refine gw1 @l1 ?_; try exact True.intro)
  refine f22' (H0 := H ++ [A32 (x.map .u8), A32 (y.map .u8), A32 (x.map .u8)]) (L := [A32 (y.map .u8), tsB ⟨1, b, y, false, true⟩ z0, Z]) (t := ⟨0, b, x, false, true⟩) (z := z0) (by simp) (by rw [List.append_assoc]; rfl) l1 ⟨rfl, rfl⟩ (.inl rfl) rfl ?_
  rw [List.append_assoc, show bind z0 (1 - 0) b c1 = ⟨c1, 1, b, 1, z32⟩ from rfl, show bindE z0 = 0 from rfl]
  simp only [List.cons_append, List.nil_append]
  (refine gw0 ?_; try exact True.intro)
  refine h21 (z := ⟨c1, 1, b, 1, z32⟩) (by rw [hget_k]; rfl) ?_
  (refine gw1 @l0 ?_; try exact True.intro)
  refine f22' (H0 := H ++ [A32 (x.map .u8), A32 (y.map .u8), A32 (x.map .u8), tsB ⟨0, b, x, false, true⟩ ⟨c1, 1, b, 1, z32⟩, A32 (y.map .u8)]) (L := [Z]) (t := ⟨1, b, y, false, true⟩) (z := z0) (by simp) (by rw [List.append_assoc]; rfl) l0 ⟨rfl, rfl⟩ (.inr rfl) rfl ?_
  rw [List.append_assoc, show bind z0 (1 - 1) b c0 = ⟨c0, 0, b, 1, z32⟩ from rfl, show bindE z0 = 0 from rfl]
  simp only [List.cons_append, List.nil_append]
  (refine gw0 ?_; try exact True.intro)
  refine f19b' (H0 := H ++ [A32 (x.map .u8), A32 (y.map .u8), A32 (x.map .u8)]) (L := [A32 (y.map .u8), tsB ⟨1, b, y, false, true⟩ ⟨c0, 0, b, 1, z32⟩, Z]) (t := ⟨0, b, x, false, true⟩) (z := ⟨c1, 1, b, 1, z32⟩) (by simp) (by rw [List.append_assoc]; rfl) hx ⟨l1, rfl⟩ rfl (show (1 : Int) ≠ 0 by decide) ?_
  rw [List.append_assoc]
  simp only [List.cons_append, List.nil_append]
  (refine gw1 @hx ?_; try exact True.intro)
  refine f19b' (H0 := H ++ [A32 (x.map .u8), A32 (y.map .u8), A32 (x.map .u8), tsB ⟨0, b, x, true, true⟩ ⟨c1, 1, b, 1, z32⟩, A32 (y.map .u8)]) (L := [Z, A32 (x.map .u8)]) (t := ⟨1, b, y, false, true⟩) (z := ⟨c0, 0, b, 1, z32⟩) (by simp) (by rw [List.append_assoc]; rfl) hy ⟨l0, rfl⟩ rfl (show (1 : Int) ≠ 0 by decide) ?_
  rw [List.append_assoc]
  simp only [List.cons_append, List.nil_append]
  (refine gw1 @hy ?_; try exact True.intro)
  refine f20x (t := ⟨0, b, x, true, true⟩) (z := ⟨c1, 1, b, 1, z32⟩) ⟨l1, rfl⟩ (.inr (.inr (show (1 : Int) ≠ 2 by decide))) (by rw [hget_k]; rfl) ?_
  unfold A32
  (refine gw2 @hx @hy ?_; try exact True.intro)
  refine ⟨m8_kind, m8_kind, ?_⟩
  rw [hZ]
  refine f23' (H0 := H ++ [A32 (x.map .u8), A32 (y.map .u8), A32 (x.map .u8)]) (L := [A32 (y.map .u8), tsB ⟨1, b, y, true, true⟩ ⟨c0, 0, b, 1, z32⟩, Z, A32 (x.map .u8), A32 (y.map .u8), Z]) (t := ⟨0, b, x, true, true⟩) (z := ⟨c1, 1, b, 1, z32⟩) (by simp) (by rw [List.append_assoc]; rfl) hy ⟨l1, rfl⟩ rfl ?_
  rw [List.append_assoc, ht1, he1]
  simp only [List.cons_append, List.nil_append]
  unfold A32
  (refine gw1 @hx ?_; try exact True.intro)
  refine f23' (H0 := H ++ [A32 (x.map .u8), A32 (y.map .u8), A32 (x.map .u8), tsB ⟨0, b, x, true, true⟩ ⟨c1, 1, b, 2, y⟩, A32 (y.map .u8)]) (L := [Z, A32 (x.map .u8), A32 (y.map .u8), Z]) (t := ⟨1, b, y, true, true⟩) (z := ⟨c0, 0, b, 1, z32⟩) (by simp) (by rw [List.append_assoc]; rfl) hx ⟨l0, rfl⟩ rfl ?_
  rw [List.append_assoc, ht0, he0]
  simp only [List.cons_append, List.nil_append]
  (refine gw0 ?_; try exact True.intro)
  refine f20g (t := ⟨0, b, x, true, true⟩) (z := ⟨c1, 1, b, 2, y⟩) hx ⟨l1, hy⟩ rfl rfl rfl (by rw [hget_k]; rfl) ?_
  rw [show coin ⟨0, b, x, true, true⟩ ⟨c1, 1, b, 2, y⟩ = mx x y from rfl]
  have h27 : ∀ {K : AV → Heap → Prop} {H : Heap}, K (.agg ((mx x y).map .u8)) H → wpF P G 27 [.agg (x.map .u8), .agg (y.map .u8)] H K := fun h => f27 hx hy h
  have hml := mx_len (a := x) (b := y)
  have h20 : ∀ {K : AV → Heap → Prop} {H : Heap} {m : Nat}, Heap.get H m = tsB ⟨1, b, y, true, true⟩ ⟨c0, 0, b, 2, x⟩ → K (.tup [.agg ((mx x y).map .u8), .bool true]) H → wpF P G 20 [.ptr m 0 [0] tsS] H K := fun hg h => f20g (t := ⟨1, b, y, true, true⟩) (z := ⟨c0, 0, b, 2, x⟩) hy ⟨l0, hx⟩ rfl rfl rfl hg h
  generalize mx x y = m at *
  (refine gw1 @hml ?_; try exact True.intro)
  refine h20 (by rw [hget_k]; rfl) ?_
  unfold A32
  (refine gw3 @hml @hx @hy ?_; try exact True.intro)
  refine ⟨m8_kind, ?_⟩
  refine drawn _ (h27 ⟨rfl, rfl⟩) ?_
  (refine gw1 @hml ?_; try exact True.intro)
  refine ⟨m8_kind, ?_⟩
  refine drawn _ (f24 ⟨rfl, rfl⟩) ?_
  (refine gw0 ?_; try exact True.intro)
  exact h
end Go.Proofs.YtajkclooknanjaaDoor

end
