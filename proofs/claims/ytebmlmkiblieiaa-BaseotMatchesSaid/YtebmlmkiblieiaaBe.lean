/-
  The law BaseotDeals returns true for all inputs: what both parties are dealt of every seed, for every epoch, is what the reference says.
-/
import Derived.Test.YtebmlmkiblieiaaBd
import Derived.Test.YtebmlmkiblieiaaV38
open Go Go.V
namespace Go.Proofs.Ytebmlmkiblieiaa
/-- trefoil/trefoilref15.Deal (0:master, 1:epoch, 2:master, 4:, 5:, 6:root) -/
def s32 : FnS := ⟨16, [0, 1, 2, 4, 5, 6],
    (.seq (.reg [⟨.var 2, (.e (.box 32 (.arr 32 .leaf))), [.t 0], none⟩,
      ⟨.var 3, (.e (.alloc 60 (.st [(.arr 2 .leaf), .leaf, .leaf, .leaf]) (.agg [(.agg [(.u64 0), (.u64 0)]), .nils, .nils, .nils]))), [], none⟩,
      ⟨.var 4, (.e (.alloc 60 (.st [(.arr 2 .leaf), .leaf, .leaf, .leaf]) (.agg [(.agg [(.u64 0), (.u64 0)]), .nils, .nils, .nils]))), [], none⟩])
    (.seq (.reg [⟨.new, (.q (.ld (.arr 32 .leaf))), [.t 2], none⟩,
      ⟨.new, (.q .mv), [.t 1], none⟩,
      ⟨.new, (.call 23), [.t 6, .t 7], none⟩,
      ⟨.var 5, (.e (.alloc 32 (.arr 32 .leaf) (.agg [(.u8 0), (.u8 0), (.u8 0), (.u8 0), (.u8 0), (.u8 0), (.u8 0), (.u8 0), (.u8 0), (.u8 0), (.u8 0), (.u8 0), (.u8 0), (.u8 0), (.u8 0), (.u8 0), (.u8 0), (.u8 0), (.u8 0), (.u8 0), (.u8 0), (.u8 0), (.u8 0), (.u8 0), (.u8 0), (.u8 0), (.u8 0), (.u8 0), (.u8 0), (.u8 0), (.u8 0), (.u8 0)]))), [], none⟩,
      ⟨.none, (.e (.store (.arr 32 .leaf))), [.t 5, .t 8], none⟩])
    (.seq (.draw [⟨.new, (.q (.ld (.arr 32 .leaf))), [.t 5], none⟩,
      ⟨.new, (.call 23), [.t 6, .c (.u64 0)], none⟩,
      ⟨.new, (.call 61), [.t 7], none⟩,
      ⟨.new, (.q (.ld (.arr 32 .leaf))), [.t 5], none⟩,
      ⟨.new, (.call 23), [.t 9, .c (.u64 1)], none⟩,
      ⟨.new, (.call 61), [.t 10], none⟩,
      ⟨.none, (.e (.store (.st [(.arr 2 .leaf), .leaf, .leaf, .leaf]))), [.t 3, .t 8], none⟩,
      ⟨.none, (.e (.store (.st [(.arr 2 .leaf), .leaf, .leaf, .leaf]))), [.t 4, .t 11], none⟩])
    .ret))),
    [.cell 3 (.st [(.arr 2 .leaf), .leaf, .leaf, .leaf]), .cell 4 (.st [(.arr 2 .leaf), .leaf, .leaf, .leaf])]⟩

/-- trefoil/baseot.Deal (0:master, 1:epoch, 2:master, 4:, 5:, 6:root, 7:s0, 8:r1, 9:s1, 10:r0) -/
def s31 : FnS := ⟨32, [0, 1, 2, 4, 5, 6, 7, 8, 9, 10],
    (.seq (.reg [⟨.var 2, (.e (.box 32 (.arr 32 .leaf))), [.t 0], none⟩,
      ⟨.var 3, (.e (.alloc 56 (.st [(.st [(.arr 2 .leaf), .leaf]), (.st [.leaf, .leaf])]) (.agg [(.agg [(.agg [(.u64 0), (.u64 0)]), .nils]), (.agg [.nils, .nils])]))), [], none⟩,
      ⟨.var 4, (.e (.alloc 56 (.st [(.st [(.arr 2 .leaf), .leaf]), (.st [.leaf, .leaf])]) (.agg [(.agg [(.agg [(.u64 0), (.u64 0)]), .nils]), (.agg [.nils, .nils])]))), [], none⟩])
    (.seq (.reg [⟨.new, (.q (.ld (.arr 32 .leaf))), [.t 2], none⟩,
      ⟨.new, (.q .mv), [.t 1], none⟩,
      ⟨.new, (.call 22), [.t 10, .t 11], none⟩,
      ⟨.var 5, (.e (.alloc 32 (.arr 32 .leaf) (.agg [(.u8 0), (.u8 0), (.u8 0), (.u8 0), (.u8 0), (.u8 0), (.u8 0), (.u8 0), (.u8 0), (.u8 0), (.u8 0), (.u8 0), (.u8 0), (.u8 0), (.u8 0), (.u8 0), (.u8 0), (.u8 0), (.u8 0), (.u8 0), (.u8 0), (.u8 0), (.u8 0), (.u8 0), (.u8 0), (.u8 0), (.u8 0), (.u8 0), (.u8 0), (.u8 0), (.u8 0), (.u8 0)]))), [], none⟩,
      ⟨.none, (.e (.store (.arr 32 .leaf))), [.t 5, .t 12], none⟩])
    (.seq (.reg [⟨.new, (.q (.ld (.arr 32 .leaf))), [.t 5], none⟩,
      ⟨.new, (.call 22), [.t 10, .c (.u64 0)], none⟩,
      ⟨.new, (.call 60), [.t 11], none⟩,
      ⟨.new, (.q .mv), [.t 12], none⟩,
      ⟨.new, (.q (.ext 0)), [.t 13], none⟩,
      ⟨.new, (.q (.ext 1)), [.t 13], none⟩,
      ⟨.var 6, (.e (.alloc 52 (.st [(.arr 2 .leaf), .leaf]) (.agg [(.agg [(.u64 0), (.u64 0)]), .nils]))), [], none⟩,
      ⟨.var 7, (.e (.alloc 54 (.st [.leaf, .leaf]) (.agg [.nils, .nils]))), [], none⟩,
      ⟨.none, (.e (.store (.st [(.arr 2 .leaf), .leaf]))), [.t 6, .t 14], none⟩,
      ⟨.none, (.e (.store (.st [.leaf, .leaf]))), [.t 7, .t 15], none⟩])
    (.seq (.reg [⟨.new, (.q (.ld (.arr 32 .leaf))), [.t 5], none⟩,
      ⟨.new, (.call 22), [.t 10, .c (.u64 1)], none⟩,
      ⟨.new, (.call 60), [.t 11], none⟩,
      ⟨.new, (.q .mv), [.t 12], none⟩,
      ⟨.new, (.q (.ext 0)), [.t 13], none⟩,
      ⟨.new, (.q (.ext 1)), [.t 13], none⟩,
      ⟨.var 8, (.e (.alloc 52 (.st [(.arr 2 .leaf), .leaf]) (.agg [(.agg [(.u64 0), (.u64 0)]), .nils]))), [], none⟩,
      ⟨.var 9, (.e (.alloc 54 (.st [.leaf, .leaf]) (.agg [.nils, .nils]))), [], none⟩,
      ⟨.none, (.e (.store (.st [(.arr 2 .leaf), .leaf]))), [.t 8, .t 14], none⟩,
      ⟨.none, (.e (.store (.st [.leaf, .leaf]))), [.t 9, .t 15], none⟩])
    (.seq (.draw [⟨.none, (.pairs [(3, 6), (4, 6)]), [], none⟩,
      ⟨.new, (.q (.ld (.st [(.arr 2 .leaf), .leaf]))), [.t 6], none⟩,
      ⟨.new, (.q (.ld (.st [.leaf, .leaf]))), [.t 9], none⟩,
      ⟨.new, (.e (.bld (.st [(.st [(.arr 2 .leaf), .leaf]), (.st [.leaf, .leaf])]) (.agg [(.agg [(.agg [(.u64 0), (.u64 0)]), .nils]), (.agg [.nils, .nils])]) [0, 1])), [.t 10, .t 11], none⟩,
      ⟨.new, (.q (.ld (.st [(.arr 2 .leaf), .leaf]))), [.t 8], none⟩,
      ⟨.new, (.q (.ld (.st [.leaf, .leaf]))), [.t 7], none⟩,
      ⟨.new, (.e (.bld (.st [(.st [(.arr 2 .leaf), .leaf]), (.st [.leaf, .leaf])]) (.agg [(.agg [(.agg [(.u64 0), (.u64 0)]), .nils]), (.agg [.nils, .nils])]) [0, 1])), [.t 13, .t 14], none⟩,
      ⟨.none, (.e (.store (.st [(.st [(.arr 2 .leaf), .leaf]), (.st [.leaf, .leaf])]))), [.t 3, .t 12], none⟩,
      ⟨.none, (.e (.store (.st [(.st [(.arr 2 .leaf), .leaf]), (.st [.leaf, .leaf])]))), [.t 4, .t 15], none⟩])
    .ret))))),
    [.cell 3 (.st [(.st [(.arr 2 .leaf), .leaf]), (.st [.leaf, .leaf])]), .cell 4 (.st [(.st [(.arr 2 .leaf), .leaf]), (.st [.leaf, .leaf])])]⟩

/-- trefoil/trefoillaw15.BaseotDeals (0:master, 1:epoch, 2:master, 4:, 5:a, 6:b, 7:x, 8:y) -/
def s7 : FnS := ⟨46, [0, 1, 2, 4, 5, 6, 7, 8],
    (.seq (.reg [⟨.var 2, (.e (.box 32 (.arr 32 .leaf))), [.t 0], none⟩,
      ⟨.var 3, (.q .mv), [.c (.bool false)], none⟩])
    (.seq (.reg [⟨.new, (.q (.ld (.arr 32 .leaf))), [.t 2], none⟩,
      ⟨.new, (.q .mv), [.t 1], none⟩,
      ⟨.new, (.call 31), [.t 8, .t 9], none⟩,
      ⟨.new, (.q .mv), [.t 10], none⟩,
      ⟨.new, (.q (.ext 0)), [.t 11], none⟩,
      ⟨.new, (.q (.ext 1)), [.t 11], none⟩,
      ⟨.var 4, (.e (.alloc 56 (.st [(.st [(.arr 2 .leaf), .leaf]), (.st [.leaf, .leaf])]) (.agg [(.agg [(.agg [(.u64 0), (.u64 0)]), .nils]), (.agg [.nils, .nils])]))), [], none⟩,
      ⟨.var 5, (.e (.alloc 56 (.st [(.st [(.arr 2 .leaf), .leaf]), (.st [.leaf, .leaf])]) (.agg [(.agg [(.agg [(.u64 0), (.u64 0)]), .nils]), (.agg [.nils, .nils])]))), [], none⟩,
      ⟨.none, (.e (.store (.st [(.st [(.arr 2 .leaf), .leaf]), (.st [.leaf, .leaf])]))), [.t 4, .t 12], none⟩,
      ⟨.none, (.e (.store (.st [(.st [(.arr 2 .leaf), .leaf]), (.st [.leaf, .leaf])]))), [.t 5, .t 13], none⟩])
    (.seq (.reg [⟨.new, (.q (.ld (.arr 32 .leaf))), [.t 2], none⟩,
      ⟨.new, (.q .mv), [.t 1], none⟩,
      ⟨.new, (.call 32), [.t 8, .t 9], none⟩,
      ⟨.new, (.q .mv), [.t 10], none⟩,
      ⟨.new, (.q (.ext 0)), [.t 11], none⟩,
      ⟨.new, (.q (.ext 1)), [.t 11], none⟩,
      ⟨.var 6, (.e (.alloc 60 (.st [(.arr 2 .leaf), .leaf, .leaf, .leaf]) (.agg [(.agg [(.u64 0), (.u64 0)]), .nils, .nils, .nils]))), [], none⟩,
      ⟨.var 7, (.e (.alloc 60 (.st [(.arr 2 .leaf), .leaf, .leaf, .leaf]) (.agg [(.agg [(.u64 0), (.u64 0)]), .nils, .nils, .nils]))), [], none⟩,
      ⟨.none, (.e (.store (.st [(.arr 2 .leaf), .leaf, .leaf, .leaf]))), [.t 6, .t 12], none⟩,
      ⟨.none, (.e (.store (.st [(.arr 2 .leaf), .leaf, .leaf, .leaf]))), [.t 7, .t 13], none⟩])
    (.seq (.reg [⟨.new, (.q (.fa [(.st [(.arr 2 .leaf), .leaf]), (.st [.leaf, .leaf])] 0)), [.t 4], none⟩,
      ⟨.new, (.q (.ld (.st [(.arr 2 .leaf), .leaf]))), [.t 8], none⟩,
      ⟨.new, (.q (.fa [(.st [(.arr 2 .leaf), .leaf]), (.st [.leaf, .leaf])] 1)), [.t 5], none⟩,
      ⟨.new, (.q (.ld (.st [.leaf, .leaf]))), [.t 10], none⟩,
      ⟨.new, (.q (.ld (.st [(.arr 2 .leaf), .leaf, .leaf, .leaf]))), [.t 6], none⟩,
      ⟨.new, (.call 33), [.t 9, .t 11, .t 12], none⟩,
      ⟨.new, (.q .mv), [.t 13], none⟩,
      ⟨.new, (.q (.fa [(.st [(.arr 2 .leaf), .leaf]), (.st [.leaf, .leaf])] 0)), [.t 5], (some (14, true))⟩,
      ⟨.new, (.q (.ld (.st [(.arr 2 .leaf), .leaf]))), [.t 15], (some (14, true))⟩,
      ⟨.new, (.q (.fa [(.st [(.arr 2 .leaf), .leaf]), (.st [.leaf, .leaf])] 1)), [.t 4], (some (14, true))⟩,
      ⟨.new, (.q (.ld (.st [.leaf, .leaf]))), [.t 17], (some (14, true))⟩,
      ⟨.new, (.q (.ld (.st [(.arr 2 .leaf), .leaf, .leaf, .leaf]))), [.t 7], (some (14, true))⟩,
      ⟨.new, (.call 33), [.t 16, .t 18, .t 19], (some (14, true))⟩,
      ⟨.new, (.q .pick), [.t 14, .t 20, .c (.bool false)], none⟩,
      ⟨.new, (.q .mv), [.t 21], none⟩,
      ⟨.new, (.q (.fa [(.st [(.arr 2 .leaf), .leaf]), (.st [.leaf, .leaf])] 0)), [.t 4], (some (22, true))⟩,
      ⟨.new, (.q (.fa [(.arr 2 .leaf), .leaf] 0)), [.t 23], (some (22, true))⟩,
      ⟨.new, (.q (.ld (.arr 2 .leaf))), [.t 24], (some (22, true))⟩,
      ⟨.new, (.call 19), [.t 25], (some (22, true))⟩,
      ⟨.new, (.q .lenS), [.t 26], (some (22, true))⟩,
      ⟨.new, (.q (.bin .eql)), [.t 27, .c (.int 16)], (some (22, true))⟩,
      ⟨.new, (.q .pick), [.t 22, .t 28, .c (.bool false)], none⟩,
      ⟨.new, (.q .mv), [.t 29], none⟩,
      ⟨.new, (.call 21), [], (some (30, true))⟩,
      ⟨.new, (.q .pick), [.t 30, .t 31, .c (.bool false)], none⟩,
      ⟨.var 3, (.q .mv), [.t 32], none⟩])
    .ret)))),
    [.t 3]⟩

set_option maxRecDepth 100000
set_option linter.unusedSimpArgs false
set_option linter.unusedVariables false
theorem c32 : cF P [] (drP P []) 32 2 s32.vm = some s32 := by kernel_rfl
theorem c31 : cF P [] (drP P []) 31 2 s31.vm = some s31 := by kernel_rfl
theorem c7 : cF P [] (drP P []) 7 2 s7.vm = some s7 := by kernel_rfl
theorem demK_aggI {kp : Nat → Bool} {N : Nat} {h : Heap} {d : Nat} {l : List AV} (hx : ∀ x ∈ l, demK kp N h d x = some x) : demK kp N h (d + 1) (.agg l) = some (.agg l) := by
  rw [demK_agg, mapO_of hx]; rfl
theorem demK_tupI {kp : Nat → Bool} {N : Nat} {h : Heap} {d : Nat} {l : List AV} (hx : ∀ x ∈ l, demK kp N h d x = some x) : demK kp N h (d + 1) (.tup l) = some (.tup l) := by
  rw [demK_tup, mapO_of hx]; rfl
theorem demK_roI {kp : Nat → Bool} {N : Nat} {h : Heap} {d : Nat} {e : Shape} {z : List AV} (hz : AV.bnds N z = true) : demK kp N h (d + 1) (.ro e z) = some (.ro e z) := by rw [demK_ro, if_pos hz]
theorem dem_row {kp : Nat → Bool} {N : Nat} {h : Heap} {d : Nat} {x y : BitVec 64} : demK kp N h (d + 2) (.agg [.u64 x, .u64 y]) = some (.agg [.u64 x, .u64 y]) :=
  demK_aggI (by simp only [List.forall_mem_cons, List.not_mem_nil, false_implies, implies_true, and_true]; exact ⟨demK_u64, demK_u64⟩)
theorem f32 {K : AV → Heap → Prop} {H : Heap} {ks : List (BitVec 8)} {n : BitVec 64} (hk : ks.length = 32) (h : K (.tup [dirA (child (child ks n) 0), dirA (child (child ks n) 1)]) H) : wpF P [] 32 [.agg (ks.map .u8), .u64 n] H K := by
  refine wpF_go c32 rfl 6 ?_
  intro ha hb
  simp only [s32]
  (refine gw1 @hk ?_; try exact True.intro)
  refine f23 hk ?_
  have h1 := child_len ks n
  generalize child ks n = r at h h1 ⊢
  (refine gw1 @h1 ?_; try exact True.intro)
  refine drawn _ (f23 h1 ⟨rfl, rfl⟩) ?_
  have h2 := child_len r 0
  have h3 := child_len r 1
  generalize child r 0 = r0 at h h2 ⊢
  (refine gw0 ?_; try exact True.intro)
  refine drawn _ (f61 h2 ⟨rfl, rfl⟩) ?_
  (refine gw0 ?_; try exact True.intro)
  refine drawn _ (f23 h1 ⟨rfl, rfl⟩) ?_
  generalize child r 1 = r1 at h h3 ⊢
  (refine gw0 ?_; try exact True.intro)
  refine drawn _ (f61 h3 ⟨rfl, rfl⟩) ?_
  simp only [rowV, dirA] at h ⊢
  have hzr0 : ∀ {k : Nat}, AV.bnds k (sdL (zS r0) 128) = true := bnds_sd
  generalize sdL (zS r0) 128 = zr0 at hzr0 h ⊢
  have hor0 : ∀ {k : Nat}, AV.bnds k (sdL (oS r0) 128) = true := bnds_sd
  generalize sdL (oS r0) 128 = or0 at hor0 h ⊢
  have hkr0 : ∀ {k : Nat}, AV.bnds k (sdL (kS r0) 128) = true := bnds_sd
  generalize sdL (kS r0) 128 = kr0 at hkr0 h ⊢
  have hzr1 : ∀ {k : Nat}, AV.bnds k (sdL (zS r1) 128) = true := bnds_sd
  generalize sdL (zS r1) 128 = zr1 at hzr1 h ⊢
  have hor1 : ∀ {k : Nat}, AV.bnds k (sdL (oS r1) 128) = true := bnds_sd
  generalize sdL (oS r1) 128 = or1 at hor1 h ⊢
  have hkr1 : ∀ {k : Nat}, AV.bnds k (sdL (kS r1) 128) = true := bnds_sd
  generalize sdL (kS r1) 128 = kr1 at hkr1 h ⊢
  generalize wdg r0 9 0 = x0 at h ⊢
  generalize wdg r0 9 1 = y0 at h ⊢
  generalize wdg r1 9 0 = x1 at h ⊢
  generalize wdg r1 9 1 = y1 at h ⊢
  simp (maxSteps := 2000000) only [↓vS_skip, ↓vS_reg, ↓vS_draw, ↓vS_seq, ↓wS_cond, ↓vS_block, ↓vS_exit, ↓vS_ret, ↓vI_nil, ↓vI_go, ↓wI_gd, ↓stepI_q, ↓stepI_e, ↓stepI_c, ↓stepI_v, ↓vD_nil, ↓vD_go, ↓wD_gd, ↓stepW_q, ↓stepW_e, ↓stepW_c, ↓stepW_v, ↓Kw_app, ↓KwD_app, ↓Kc_app, ↓Kp_app, ↓Kr_app, ↓Ks_n, ↓Ks_r, ↓Ks_x, ↓Kb_n, ↓Kb_r, ↓Kb_x, ↓Ku_n, ↓Ku_r, ↓Ku_x, ↓Kl_n, ↓Kl_r, ↓Kl_x, ↓Kend_n, ↓Kend_r, ↓Two_t, ↓Two_f, ↓unr_succ, ↓GdM_b, ↓GdM_t, ↓CdM_b, ↓TwU_t, ↓TwU_f, ↓ThI_app, ↓ThW_app, ↓ThK_app, ↓ThS_app, ↓stepI_p, ↓stepW_p, ↓stepI_n, ↓xD_n, ↓xD_q, ↓xD_e, ↓xD_c, ↓xD_v, ↓xD_p, ↓xD_m, ↓xD_s, ↓vX_nil, ↓vX_go, ↓wX_gd, ↓KwX_app, ↓stepI_m, ↓stepW_m, ↓hasSh_mbool, ↓hasSh_mu8, ↓hasSh_mu16, ↓hasSh_mu32, ↓hasSh_mu64, ↓hasSh_mint, putE_none, putE_var, putE_new, get_t, get_c, qev, eev, rsGet, rvGet, oneOf, binAV, isSh, bvBin, bvOp, bvCmp, bvSh, intBin, intSh, cvAV, unAV, AV.cnt, AV.num, Ken2_s, Ken3_s, htake_1, htake_2, beq_self_eq_true, beq_true, beq_false, Int.toNat_natCast, Int.natCast_nonneg, BitVec.reduceOfInt, BitVec.reduceToNat, bytesOf, List.map_cons, List.replicate_succ, Bool.not_eq_true, maxLen, Nat.reducePow, Nat.reduceMul, List.map_cons, List.map_nil, List.getD_cons_zero, List.getD_cons_succ, List.set_cons_zero, List.set_cons_succ, List.cons_append, List.nil_append, List.append_nil, List.take_succ_cons, List.take_zero, List.take_nil, List.length_cons, List.length_nil, List.replicate_succ, List.replicate_zero, Option.map_some, Option.map_none, List.getElem?_cons_zero, List.getElem?_cons_succ, true_and, and_true, if_true, if_false, ite_true, ite_false, reduceIte, reduceCtorEq, false_or, or_true, true_or, or_false, Option.some.injEq, Prod.mk.injEq, exists_eq_left', exists_eq_left, exists_eq_right, exists_and_left, exists_and_right, exists_const, and_assoc, decide_true, decide_false, Bool.false_eq_true, forall_const, Bool.not_true, Bool.not_false, false_implies, true_implies, Nat.reduceAdd, Nat.reduceSub, Nat.reduceMul, Nat.reduceLT, Nat.reduceLeDiff, Nat.reduceEqDiff, Int.reduceAdd, Int.reduceSub, Int.reduceMul, Int.reduceLT, Int.reduceLE, Int.reduceTMod, Int.reduceTDiv, Int.reduceToNat, Int.reduceEq, Int.reduceNe, Int.reduceNeg, ne_eq, not_false_eq_true, not_true_eq_false, InR, Bool.true_eq_false, Bool.false_eq_true, reduceDIte, Nat.zero_add, Nat.add_zero, Int.cast_ofNat_Int, eq_self, hget_0, hget_k, hget_z, hget_s, hset_0, hset_k, htake_0, lt_own0, lt_ownk, hasAt_nil, hasAt_arr, hasAt_st, hasSh_l, hasSh_aa, hasSh_sa, hasShs_n, hasShs_c, setAll, AV.isCell, Shape.size_leaf, Shape.size_arr, Shape.size_st, Shape.sizes_cons, Shape.sizes_nil, List.length_append, List.append_assoc, List.length_set, stP, ldP, getP, setP, psh, partsOf, slen, rd, demK_own, demK_ptr, demK_agg, demK_tup, demK_fn, demK_ro, demK_rp, demK_bool, demK_u8, demK_u16, demK_u32, demK_u64, demK_int, demK_str, demK_nilp, demK_nils, demK_nilf, demK_un, mapO, AV.bnds, AV.bnd, bne_self_eq_false, AV.plain2, AV.plain, List.all_cons, List.all_nil, List.take_length, List.drop_zero, List.drop_succ_cons, Nat.mul_one, List.getElem?_nil, List.forall_mem_cons, List.not_mem_nil, implies_true, Bool.and_true, Bool.true_and, Bool.and_false, Bool.false_and, and_self, and_false, false_and, Nat.sub_zero, bnds, bnds_bool, bnds_bool', mapO_bool, mapO_bool', bnds_u8, bnds_u8', mapO_u8, mapO_u8', bnds_u16, bnds_u16', mapO_u16, mapO_u16', bnds_u32, bnds_u32', mapO_u32, mapO_u32', bnds_u64, bnds_u64', mapO_u64, mapO_u64', bnds_int, bnds_int', mapO_int, mapO_int', bt, bf, Bool.not_not, nilK_nils, nilK_own, nilK_ro, ninL_n, ninL_c, disL_n, disL_r, disL_c, chkL_n, chkL_c, apartL_e, fp_ld, fp_b2s, fp_st, fp_app, fp_appS, fp_cpy, fp_cpyS, tb_own, tb_ptr, tb_ro, tb_rp, tb_nils, tb_str, ne_ah, ne_ha, hk]
  have hdem : ∀ {hp : Heap}, dem H.length hp 6 (.tup [.agg [.agg [.u64 x0, .u64 y0], .ro (.arr 32 .leaf) zr0, .ro (.arr 32 .leaf) or0, .ro (.arr 32 .leaf) kr0], .agg [.agg [.u64 x1, .u64 y1], .ro (.arr 32 .leaf) zr1, .ro (.arr 32 .leaf) or1, .ro (.arr 32 .leaf) kr1]]) =
      some (.tup [.agg [.agg [.u64 x0, .u64 y0], .ro (.arr 32 .leaf) zr0, .ro (.arr 32 .leaf) or0, .ro (.arr 32 .leaf) kr0], .agg [.agg [.u64 x1, .u64 y1], .ro (.arr 32 .leaf) zr1, .ro (.arr 32 .leaf) or1, .ro (.arr 32 .leaf) kr1]]) := by
    intro hp
    unfold dem
    refine demK_tupI ?_
    simp only [List.forall_mem_cons, List.not_mem_nil, false_implies, implies_true, and_true]
    refine ⟨demK_aggI ?_, demK_aggI ?_⟩
    · simp only [List.forall_mem_cons, List.not_mem_nil, false_implies, implies_true, and_true]
      exact ⟨dem_row, demK_roI hzr0, demK_roI hor0, demK_roI hkr0⟩
    · simp only [List.forall_mem_cons, List.not_mem_nil, false_implies, implies_true, and_true]
      exact ⟨dem_row, demK_roI hzr1, demK_roI hor1, demK_roI hkr1⟩
  rw [hdem]
  (refine gw0 ?_; try exact True.intro)
  exact h

theorem f31 {K : AV → Heap → Prop} {H : Heap} {ks : List (BitVec 8)} {n : BitVec 64} (hk : ks.length = 32) (h : K (.tup [.agg [sndA (child (child ks n) 0), rcvA (child (child ks n) 1)], .agg [sndA (child (child ks n) 1), rcvA (child (child ks n) 0)]]) H) : wpF P [] 31 [.agg (ks.map .u8), .u64 n] H K := by
  refine wpF_go c31 rfl 6 ?_
  intro ha hb
  simp only [s31]
  (refine gw1 @hk ?_; try exact True.intro)
  refine f22 hk ?_
  have h1 := child_len ks n
  generalize child ks n = r at h h1 ⊢
  (refine gw1 @h1 ?_; try exact True.intro)
  refine f22 h1 ?_
  have h2 := child_len r 0
  have h3 := child_len r 1
  generalize child r 0 = r0 at h h2 ⊢
  (refine gw0 ?_; try exact True.intro)
  refine f60 h2 ?_
  simp only [rowV]
  (refine gw0 ?_; try exact True.intro)
  refine f22 h1 ?_
  generalize child r 1 = r1 at h h3 ⊢
  (refine gw0 ?_; try exact True.intro)
  refine f60 h3 ?_
  simp only [rowV, sndA, rcvA] at h ⊢
  have hzr0 : ∀ {k : Nat}, AV.bnds k (sdL (zS r0) 128) = true := bnds_sd
  generalize sdL (zS r0) 128 = zr0 at hzr0 h ⊢
  have hor0 : ∀ {k : Nat}, AV.bnds k (sdL (oS r0) 128) = true := bnds_sd
  generalize sdL (oS r0) 128 = or0 at hor0 h ⊢
  have hkr0 : ∀ {k : Nat}, AV.bnds k (sdL (kS r0) 128) = true := bnds_sd
  generalize sdL (kS r0) 128 = kr0 at hkr0 h ⊢
  have hzr1 : ∀ {k : Nat}, AV.bnds k (sdL (zS r1) 128) = true := bnds_sd
  generalize sdL (zS r1) 128 = zr1 at hzr1 h ⊢
  have hor1 : ∀ {k : Nat}, AV.bnds k (sdL (oS r1) 128) = true := bnds_sd
  generalize sdL (oS r1) 128 = or1 at hor1 h ⊢
  have hkr1 : ∀ {k : Nat}, AV.bnds k (sdL (kS r1) 128) = true := bnds_sd
  generalize sdL (kS r1) 128 = kr1 at hkr1 h ⊢
  generalize wdg r0 9 0 = x0 at h ⊢
  generalize wdg r0 9 1 = y0 at h ⊢
  generalize wdg r1 9 0 = x1 at h ⊢
  generalize wdg r1 9 1 = y1 at h ⊢
  simp (maxSteps := 2000000) only [↓vS_skip, ↓vS_reg, ↓vS_draw, ↓vS_seq, ↓wS_cond, ↓vS_block, ↓vS_exit, ↓vS_ret, ↓vI_nil, ↓vI_go, ↓wI_gd, ↓stepI_q, ↓stepI_e, ↓stepI_c, ↓stepI_v, ↓vD_nil, ↓vD_go, ↓wD_gd, ↓stepW_q, ↓stepW_e, ↓stepW_c, ↓stepW_v, ↓Kw_app, ↓KwD_app, ↓Kc_app, ↓Kp_app, ↓Kr_app, ↓Ks_n, ↓Ks_r, ↓Ks_x, ↓Kb_n, ↓Kb_r, ↓Kb_x, ↓Ku_n, ↓Ku_r, ↓Ku_x, ↓Kl_n, ↓Kl_r, ↓Kl_x, ↓Kend_n, ↓Kend_r, ↓Two_t, ↓Two_f, ↓unr_succ, ↓GdM_b, ↓GdM_t, ↓CdM_b, ↓TwU_t, ↓TwU_f, ↓ThI_app, ↓ThW_app, ↓ThK_app, ↓ThS_app, ↓stepI_p, ↓stepW_p, ↓stepI_n, ↓xD_n, ↓xD_q, ↓xD_e, ↓xD_c, ↓xD_v, ↓xD_p, ↓xD_m, ↓xD_s, ↓vX_nil, ↓vX_go, ↓wX_gd, ↓KwX_app, ↓stepI_m, ↓stepW_m, ↓hasSh_mbool, ↓hasSh_mu8, ↓hasSh_mu16, ↓hasSh_mu32, ↓hasSh_mu64, ↓hasSh_mint, putE_none, putE_var, putE_new, get_t, get_c, qev, eev, rsGet, rvGet, oneOf, binAV, isSh, bvBin, bvOp, bvCmp, bvSh, intBin, intSh, cvAV, unAV, AV.cnt, AV.num, Ken2_s, Ken3_s, htake_1, htake_2, beq_self_eq_true, beq_true, beq_false, Int.toNat_natCast, Int.natCast_nonneg, BitVec.reduceOfInt, BitVec.reduceToNat, bytesOf, List.map_cons, List.replicate_succ, Bool.not_eq_true, maxLen, Nat.reducePow, Nat.reduceMul, List.map_cons, List.map_nil, List.getD_cons_zero, List.getD_cons_succ, List.set_cons_zero, List.set_cons_succ, List.cons_append, List.nil_append, List.append_nil, List.take_succ_cons, List.take_zero, List.take_nil, List.length_cons, List.length_nil, List.replicate_succ, List.replicate_zero, Option.map_some, Option.map_none, List.getElem?_cons_zero, List.getElem?_cons_succ, true_and, and_true, if_true, if_false, ite_true, ite_false, reduceIte, reduceCtorEq, false_or, or_true, true_or, or_false, Option.some.injEq, Prod.mk.injEq, exists_eq_left', exists_eq_left, exists_eq_right, exists_and_left, exists_and_right, exists_const, and_assoc, decide_true, decide_false, Bool.false_eq_true, forall_const, Bool.not_true, Bool.not_false, false_implies, true_implies, Nat.reduceAdd, Nat.reduceSub, Nat.reduceMul, Nat.reduceLT, Nat.reduceLeDiff, Nat.reduceEqDiff, Int.reduceAdd, Int.reduceSub, Int.reduceMul, Int.reduceLT, Int.reduceLE, Int.reduceTMod, Int.reduceTDiv, Int.reduceToNat, Int.reduceEq, Int.reduceNe, Int.reduceNeg, ne_eq, not_false_eq_true, not_true_eq_false, InR, Bool.true_eq_false, Bool.false_eq_true, reduceDIte, Nat.zero_add, Nat.add_zero, Int.cast_ofNat_Int, eq_self, hget_0, hget_k, hget_z, hget_s, hset_0, hset_k, htake_0, lt_own0, lt_ownk, hasAt_nil, hasAt_arr, hasAt_st, hasSh_l, hasSh_aa, hasSh_sa, hasShs_n, hasShs_c, setAll, AV.isCell, Shape.size_leaf, Shape.size_arr, Shape.size_st, Shape.sizes_cons, Shape.sizes_nil, List.length_append, List.append_assoc, List.length_set, stP, ldP, getP, setP, psh, partsOf, slen, rd, demK_own, demK_ptr, demK_agg, demK_tup, demK_fn, demK_ro, demK_rp, demK_bool, demK_u8, demK_u16, demK_u32, demK_u64, demK_int, demK_str, demK_nilp, demK_nils, demK_nilf, demK_un, mapO, AV.bnds, AV.bnd, bne_self_eq_false, AV.plain2, AV.plain, List.all_cons, List.all_nil, List.take_length, List.drop_zero, List.drop_succ_cons, Nat.mul_one, List.getElem?_nil, List.forall_mem_cons, List.not_mem_nil, implies_true, Bool.and_true, Bool.true_and, Bool.and_false, Bool.false_and, and_self, and_false, false_and, Nat.sub_zero, bnds, bnds_bool, bnds_bool', mapO_bool, mapO_bool', bnds_u8, bnds_u8', mapO_u8, mapO_u8', bnds_u16, bnds_u16', mapO_u16, mapO_u16', bnds_u32, bnds_u32', mapO_u32, mapO_u32', bnds_u64, bnds_u64', mapO_u64, mapO_u64', bnds_int, bnds_int', mapO_int, mapO_int', bt, bf, Bool.not_not, nilK_nils, nilK_own, nilK_ro, ninL_n, ninL_c, disL_n, disL_r, disL_c, chkL_n, chkL_c, apartL_e, fp_ld, fp_b2s, fp_st, fp_app, fp_appS, fp_cpy, fp_cpyS, tb_own, tb_ptr, tb_ro, tb_rp, tb_nils, tb_str, ne_ah, ne_ha, hk]
  have hdem : ∀ {hp : Heap}, dem H.length hp 6 (.tup [.agg [.agg [.agg [.u64 x0, .u64 y0], .ro (.arr 32 .leaf) kr0], .agg [.ro (.arr 32 .leaf) zr1, .ro (.arr 32 .leaf) or1]], .agg [.agg [.agg [.u64 x1, .u64 y1], .ro (.arr 32 .leaf) kr1], .agg [.ro (.arr 32 .leaf) zr0, .ro (.arr 32 .leaf) or0]]]) =
      some (.tup [.agg [.agg [.agg [.u64 x0, .u64 y0], .ro (.arr 32 .leaf) kr0], .agg [.ro (.arr 32 .leaf) zr1, .ro (.arr 32 .leaf) or1]], .agg [.agg [.agg [.u64 x1, .u64 y1], .ro (.arr 32 .leaf) kr1], .agg [.ro (.arr 32 .leaf) zr0, .ro (.arr 32 .leaf) or0]]]) := by
    intro hp
    unfold dem
    refine demK_tupI ?_
    simp only [List.forall_mem_cons, List.not_mem_nil, false_implies, implies_true, and_true]
    refine ⟨demK_aggI ?_, demK_aggI ?_⟩
    · simp only [List.forall_mem_cons, List.not_mem_nil, false_implies, implies_true, and_true]
      refine ⟨demK_aggI ?_, demK_aggI ?_⟩
      · simp only [List.forall_mem_cons, List.not_mem_nil, false_implies, implies_true, and_true]
        exact ⟨dem_row, demK_roI hkr0⟩
      · simp only [List.forall_mem_cons, List.not_mem_nil, false_implies, implies_true, and_true]
        exact ⟨demK_roI hzr1, demK_roI hor1⟩
    · simp only [List.forall_mem_cons, List.not_mem_nil, false_implies, implies_true, and_true]
      refine ⟨demK_aggI ?_, demK_aggI ?_⟩
      · simp only [List.forall_mem_cons, List.not_mem_nil, false_implies, implies_true, and_true]
        exact ⟨dem_row, demK_roI hkr1⟩
      · simp only [List.forall_mem_cons, List.not_mem_nil, false_implies, implies_true, and_true]
        exact ⟨demK_roI hzr0, demK_roI hor0⟩
  rw [hdem]
  (refine gw0 ?_; try exact True.intro)
  exact h

theorem f7 {K : AV → Heap → Prop} {H : Heap} {ks : List (BitVec 8)} {n : BitVec 64} (hk : ks.length = 32) (h : K (.bool true) H) : wpF P [] 7 [.agg (ks.map .u8), .u64 n] H K := by
  refine wpF_go c7 rfl 3 ?_
  intro ha hb
  simp only [s7]
  (refine gw1 @hk ?_; try exact True.intro)
  refine f31 hk ?_
  generalize e0 : child (child ks n) 0 = r0
  generalize e1 : child (child ks n) 1 = r1
  simp only [sndA, rcvA]
  (refine gw0 ?_; try exact True.intro)
  refine f32 hk ?_
  rw [e0, e1]
  simp only [dirA]
  (refine gw0 ?_; try exact True.intro)
  refine f33 (ks := r0) ?_
  (refine gw0 ?_; try exact True.intro)
  refine f33 (ks := r1) ?_
  (refine gw0 ?_; try exact True.intro)
  refine f19 ?_
  have hl : ∀ {x y : BitVec 64}, (rowB x y).length = 16 := by intro x y; rfl
  (refine gw1 @hl ?_; try exact True.intro)
  refine f21 ?_
  (refine gw0 ?_; try exact True.intro)
  exact h

end Go.Proofs.Ytebmlmkiblieiaa
