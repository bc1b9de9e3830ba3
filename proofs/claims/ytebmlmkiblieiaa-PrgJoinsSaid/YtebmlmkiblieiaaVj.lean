/-
  The law PrgJoins returns true for all inputs: a part of a stream doesn't hang on how it is asked for.
-/
import Derived.Test.YtebmlmkiblieiaaVp
import Derived.Test.YtebmlmkiblieiaaV38
open Go Go.V
namespace Go.Proofs.Ytebmlmkiblieiaa
/-- trefoil/trefoillaw07.PrgJoins (0:seed, 1:lane, 2:from, 3:a, 4:b, 5:seed, 10:, 11:m, 12:x, 13:y, 14:p, 15:e, 16:q, 17:f, 18:r, 19:g, 20:u, 21:h, 22:v, 23:i, 24:w, 25:k, 26:all) -/
def s11 : FnS := ⟨147, [0, 1, 2, 3, 4, 5, 10, 11, 12, 13, 14, 15, 16, 17, 18, 19, 20, 21, 22, 23, 24, 25, 26],
    (.seq (.reg [⟨.var 5, (.e (.box 32 (.arr 32 .leaf))), [.t 0], none⟩,
      ⟨.var 6, (.q .mv), [.c (.bool false)], none⟩])
    (.seq (.reg [⟨.new, (.q .mv), [.t 2], none⟩,
      ⟨.new, (.q (.cv .i64)), [.t 23], none⟩,
      ⟨.new, (.q .mv), [.t 3], none⟩,
      ⟨.new, (.q (.cv .i64)), [.t 25], none⟩,
      ⟨.new, (.q .mv), [.t 4], none⟩,
      ⟨.new, (.q (.cv .i64)), [.t 27], none⟩,
      ⟨.var 7, (.q .mv), [.t 24], none⟩,
      ⟨.var 8, (.q .mv), [.t 26], none⟩,
      ⟨.var 9, (.q .mv), [.t 28], none⟩])
    (.seq (.reg [⟨.new, (.q (.ld (.arr 32 .leaf))), [.t 5], none⟩,
      ⟨.new, (.q .mv), [.t 1], none⟩,
      ⟨.new, (.q .mv), [.t 7], none⟩,
      ⟨.new, (.q .mv), [.t 8], none⟩,
      ⟨.new, (.call 45), [.t 23, .t 24, .t 25, .t 26], none⟩,
      ⟨.new, (.q .mv), [.t 27], none⟩,
      ⟨.new, (.q (.ext 0)), [.t 28], none⟩,
      ⟨.new, (.q (.ext 1)), [.t 28], none⟩,
      ⟨.var 10, (.q .mv), [.t 29], none⟩,
      ⟨.var 11, (.q .mv), [.t 30], none⟩])
    (.seq (.reg [⟨.new, (.q (.ld (.arr 32 .leaf))), [.t 5], none⟩,
      ⟨.new, (.q .mv), [.t 1], none⟩,
      ⟨.new, (.q .mv), [.t 7], none⟩,
      ⟨.new, (.q .mv), [.t 8], none⟩,
      ⟨.new, (.q (.bin .add)), [.t 25, .t 26], none⟩,
      ⟨.new, (.q .mv), [.t 9], none⟩,
      ⟨.new, (.call 45), [.t 23, .t 24, .t 27, .t 28], none⟩,
      ⟨.new, (.q .mv), [.t 29], none⟩,
      ⟨.new, (.q (.ext 0)), [.t 30], none⟩,
      ⟨.new, (.q (.ext 1)), [.t 30], none⟩,
      ⟨.var 12, (.q .mv), [.t 31], none⟩,
      ⟨.var 13, (.q .mv), [.t 32], none⟩])
    (.seq (.reg [⟨.new, (.q (.ld (.arr 32 .leaf))), [.t 5], none⟩,
      ⟨.new, (.q .mv), [.t 1], none⟩,
      ⟨.new, (.q .mv), [.t 7], none⟩,
      ⟨.new, (.q .mv), [.t 8], none⟩,
      ⟨.new, (.q .mv), [.t 9], none⟩,
      ⟨.new, (.q (.bin .add)), [.t 26, .t 27], none⟩,
      ⟨.new, (.call 45), [.t 23, .t 24, .t 25, .t 28], none⟩,
      ⟨.new, (.q .mv), [.t 29], none⟩,
      ⟨.new, (.q (.ext 0)), [.t 30], none⟩,
      ⟨.new, (.q (.ext 1)), [.t 30], none⟩,
      ⟨.var 14, (.q .mv), [.t 31], none⟩,
      ⟨.var 15, (.q .mv), [.t 32], none⟩])
    (.seq (.reg [⟨.new, (.q (.ld (.arr 32 .leaf))), [.t 5], none⟩,
      ⟨.new, (.q .mv), [.t 1], none⟩,
      ⟨.new, (.q .mv), [.t 7], none⟩,
      ⟨.new, (.q .mv), [.t 8], none⟩,
      ⟨.new, (.call 46), [.t 23, .t 24, .t 25, .t 26], none⟩,
      ⟨.new, (.q .mv), [.t 27], none⟩,
      ⟨.new, (.q (.ext 0)), [.t 28], none⟩,
      ⟨.new, (.q (.ext 1)), [.t 28], none⟩,
      ⟨.var 16, (.e (.alloc 77 (.st [.leaf, .leaf]) (.agg [(.int 0), .nils]))), [], none⟩,
      ⟨.none, (.e (.store (.st [.leaf, .leaf]))), [.t 16, .t 29], none⟩,
      ⟨.var 17, (.q .mv), [.t 30], none⟩])
    (.seq (.reg [⟨.new, (.q (.ld (.arr 32 .leaf))), [.t 5], none⟩,
      ⟨.new, (.q .mv), [.t 1], none⟩,
      ⟨.new, (.q .mv), [.t 7], none⟩,
      ⟨.new, (.q .mv), [.t 8], none⟩,
      ⟨.new, (.q (.bin .add)), [.t 25, .t 26], none⟩,
      ⟨.new, (.q .mv), [.t 9], none⟩,
      ⟨.new, (.call 46), [.t 23, .t 24, .t 27, .t 28], none⟩,
      ⟨.new, (.q .mv), [.t 29], none⟩,
      ⟨.new, (.q (.ext 0)), [.t 30], none⟩,
      ⟨.new, (.q (.ext 1)), [.t 30], none⟩,
      ⟨.var 18, (.e (.alloc 77 (.st [.leaf, .leaf]) (.agg [(.int 0), .nils]))), [], none⟩,
      ⟨.none, (.e (.store (.st [.leaf, .leaf]))), [.t 18, .t 31], none⟩,
      ⟨.var 19, (.q .mv), [.t 32], none⟩])
    (.seq (.reg [⟨.new, (.q (.ld (.arr 32 .leaf))), [.t 5], none⟩,
      ⟨.new, (.q .mv), [.t 1], none⟩,
      ⟨.new, (.q .mv), [.t 7], none⟩,
      ⟨.new, (.q .mv), [.t 8], none⟩,
      ⟨.new, (.q .mv), [.t 9], none⟩,
      ⟨.new, (.q (.bin .add)), [.t 26, .t 27], none⟩,
      ⟨.new, (.call 46), [.t 23, .t 24, .t 25, .t 28], none⟩,
      ⟨.new, (.q .mv), [.t 29], none⟩,
      ⟨.new, (.q (.ext 0)), [.t 30], none⟩,
      ⟨.new, (.q (.ext 1)), [.t 30], none⟩,
      ⟨.var 20, (.e (.alloc 77 (.st [.leaf, .leaf]) (.agg [(.int 0), .nils]))), [], none⟩,
      ⟨.none, (.e (.store (.st [.leaf, .leaf]))), [.t 20, .t 31], none⟩,
      ⟨.var 21, (.q .mv), [.t 32], none⟩])
    (.seq (.draw [⟨.none, (.pairs [(3, 4)]), [], none⟩,
      ⟨.new, (.e (.bsl 4 .leaf (.bool false) 0 [])), [], none⟩,
      ⟨.new, (.q (.ld (.st [.leaf, .leaf]))), [.t 16], none⟩,
      ⟨.new, (.callp 39), [.t 24], none⟩,
      ⟨.new, (.e (.app 4 .leaf 1)), [.t 23, .t 25], none⟩,
      ⟨.new, (.q (.ld (.st [.leaf, .leaf]))), [.t 18], none⟩,
      ⟨.new, (.callp 39), [.t 27], none⟩,
      ⟨.new, (.e (.app 4 .leaf 1)), [.t 26, .t 28], none⟩,
      ⟨.var 22, (.q .mv), [.t 29], none⟩])
    (.seq (.reg [⟨.new, (.q .mv), [.t 11], none⟩,
      ⟨.new, (.q (.bin .eql)), [.t 23, .c (.int 0)], none⟩,
      ⟨.new, (.q .mv), [.t 24], none⟩,
      ⟨.new, (.q .mv), [.t 13], (some (25, true))⟩,
      ⟨.new, (.q .mv), [.t 11], (some (25, true))⟩,
      ⟨.new, (.q (.bin .eql)), [.t 26, .t 27], (some (25, true))⟩,
      ⟨.new, (.q .pick), [.t 25, .t 28, .c (.bool false)], none⟩,
      ⟨.new, (.q .mv), [.t 29], none⟩,
      ⟨.new, (.q .mv), [.t 15], (some (30, true))⟩,
      ⟨.new, (.q .mv), [.t 11], (some (30, true))⟩,
      ⟨.new, (.q (.bin .eql)), [.t 31, .t 32], (some (30, true))⟩,
      ⟨.new, (.q .pick), [.t 30, .t 33, .c (.bool false)], none⟩,
      ⟨.new, (.q .mv), [.t 34], none⟩,
      ⟨.new, (.q .mv), [.t 17], (some (35, true))⟩,
      ⟨.new, (.q .mv), [.t 11], (some (35, true))⟩,
      ⟨.new, (.q (.bin .eql)), [.t 36, .t 37], (some (35, true))⟩,
      ⟨.new, (.q .pick), [.t 35, .t 38, .c (.bool false)], none⟩,
      ⟨.new, (.q .mv), [.t 39], none⟩,
      ⟨.new, (.q .mv), [.t 19], (some (40, true))⟩,
      ⟨.new, (.q .mv), [.t 11], (some (40, true))⟩,
      ⟨.new, (.q (.bin .eql)), [.t 41, .t 42], (some (40, true))⟩,
      ⟨.new, (.q .pick), [.t 40, .t 43, .c (.bool false)], none⟩,
      ⟨.new, (.q .mv), [.t 44], none⟩,
      ⟨.new, (.q .mv), [.t 21], (some (45, true))⟩,
      ⟨.new, (.q .mv), [.t 11], (some (45, true))⟩,
      ⟨.new, (.q (.bin .eql)), [.t 46, .t 47], (some (45, true))⟩,
      ⟨.new, (.q .pick), [.t 45, .t 48, .c (.bool false)], none⟩,
      ⟨.new, (.q .mv), [.t 49], none⟩,
      ⟨.new, (.q .mv), [.t 10], (some (50, true))⟩,
      ⟨.new, (.q .mv), [.t 12], (some (50, true))⟩,
      ⟨.new, (.q (.bin .add)), [.t 51, .t 52], (some (50, true))⟩,
      ⟨.new, (.q .mv), [.t 14], (some (50, true))⟩,
      ⟨.new, (.q (.bin .eql)), [.t 53, .t 54], (some (50, true))⟩,
      ⟨.new, (.q .pick), [.t 50, .t 55, .c (.bool false)], none⟩,
      ⟨.new, (.q .mv), [.t 56], none⟩,
      ⟨.new, (.q .mv), [.t 22], (some (57, true))⟩,
      ⟨.new, (.q (.ld (.st [.leaf, .leaf]))), [.t 20], (some (57, true))⟩,
      ⟨.new, (.call 39), [.t 59], (some (57, true))⟩,
      ⟨.new, (.call 38), [.t 58, .t 60], (some (57, true))⟩,
      ⟨.new, (.q .pick), [.t 57, .t 61, .c (.bool false)], none⟩,
      ⟨.new, (.q .mv), [.t 62], none⟩,
      ⟨.new, (.q .mv), [.t 14], (some (63, true))⟩,
      ⟨.new, (.q .lenS), [.t 64], (some (63, true))⟩,
      ⟨.new, (.q .mv), [.t 8], (some (63, true))⟩,
      ⟨.new, (.q .mv), [.t 9], (some (63, true))⟩,
      ⟨.new, (.q (.bin .add)), [.t 66, .t 67], (some (63, true))⟩,
      ⟨.new, (.q (.bin .eql)), [.t 65, .t 68], (some (63, true))⟩,
      ⟨.new, (.q .pick), [.t 63, .t 69, .c (.bool false)], none⟩,
      ⟨.new, (.q .mv), [.t 70], none⟩,
      ⟨.new, (.call 24), [], (some (71, true))⟩,
      ⟨.new, (.q .pick), [.t 71, .t 72, .c (.bool false)], none⟩,
      ⟨.var 6, (.q .mv), [.t 73], none⟩])
    .ret)))))))))),
    [.t 6]⟩

set_option maxRecDepth 100000
set_option linter.unusedSimpArgs false
set_option linter.unusedVariables false
theorem c11 : cF P [] (drP P []) 11 5 s11.vm = some s11 := by kernel_rfl
theorem part_add {ks : List (BitVec 8)} {lane : BitVec 32} {m x y : Nat} : part ks lane m x ++ part ks lane (m + x) y = part ks lane m (x + y) := by
  apply List.ext_getElem?
  intro j
  rcases Nat.lt_or_ge j x with h | h
  · rw [List.getElem?_append_left (by rw [part_len]; exact h), part_get h, part_get (by omega)]
  · rw [List.getElem?_append_right (by rw [part_len]; exact h), part_len]
    rcases Nat.lt_or_ge (j - x) y with h2 | h2
    · rw [part_get h2, part_get (by omega), show m + x + (j - x) = m + j by omega]
    · rw [List.getElem?_eq_none (by rw [part_len]; exact h2), List.getElem?_eq_none (by rw [part_len]; omega)]
/-- bits of a stream as Go has them -/
def gbA (ks : List (BitVec 8)) (lane : BitVec 32) (m n : Nat) : List AV := (List.range n).map fun i => .bool (cut n (fun j => gbit ks lane (m + j)) i)
def gbl (ks : List (BitVec 8)) (lane : BitVec 32) (m n : Nat) : List Bool := (List.range n).map fun i => gbit ks lane (m + i)
theorem gbl_len {ks : List (BitVec 8)} {lane : BitVec 32} {m n : Nat} : (gbl ks lane m n).length = n := by simp [gbl]
theorem gbA_map {ks : List (BitVec 8)} {lane : BitVec 32} {m n : Nat} : gbA ks lane m n = (gbl ks lane m n).map .bool := by
  unfold gbA gbl
  rw [List.map_map]
  refine List.map_congr_left fun i hi => ?_
  have := List.mem_range.1 hi
  simp [cut, this]
theorem gbl_add {ks : List (BitVec 8)} {lane : BitVec 32} {m x y : Nat} : gbl ks lane m x ++ gbl ks lane (m + x) y = gbl ks lane m (x + y) := by
  unfold gbl
  rw [List.range_add, List.map_append, List.map_map]
  refine congrArg _ (List.map_congr_left fun i hi => ?_)
  simp only [Function.comp, Nat.add_assoc]

theorem plb {l : List Bool} : ∀ q, q ∈ l.map AV.bool → (match q with | AV.agg ps => false | AV.tup ps => false | AV.un => false | x => true) = true := by
  intro q hq
  obtain ⟨_, _, rfl⟩ := List.mem_map.1 hq
  rfl
theorem f11 {K : AV → Heap → Prop} {H : Heap} {ks : List (BitVec 8)} {lane : BitVec 32} {fr : BitVec 16} {a b : BitVec 8} (hk : ks.length = 32) (h : K (.bool true) H) : wpF P [] 11 [.agg (ks.map .u8), .u32 lane, .u16 fr, .u8 a, .u8 b] H K := by
  refine wpF_go c11 rfl 3 ?_
  intro ha hb
  simp only [s11]
  clear ha hb
  have hm := fr.isLt
  have hx := a.isLt
  have hy := b.isLt
  have e1 : (fr.toNat : Int) + (a.toNat : Int) = ((fr.toNat + a.toNat : Nat) : Int) := by omega
  have e2 : (a.toNat : Int) + (b.toNat : Int) = ((a.toNat + b.toNat : Nat) : Int) := by omega
  (refine gw1 @hk ?_; try exact True.intro)
  refine f45g hk (by omega) (by omega) ?_
  (refine gw2 @hk @e1 ?_; try exact True.intro)
  (repeat (refine And.intro (by omega) ?_))
  refine f45g hk (by omega) (by omega) ?_
  (refine gw2 @hk @e2 ?_; try exact True.intro)
  (repeat (refine And.intro (by omega) ?_))
  refine f45g hk (by omega) (by omega) ?_
  (refine gw1 @hk ?_; try exact True.intro)
  refine f46g hk (by omega) (by omega) ?_
  simp only [vec]
  (refine gw2 @hk @e1 ?_; try exact True.intro)
  (repeat (refine And.intro (by omega) ?_))
  refine f46g hk (by omega) (by omega) ?_
  simp only [vec]
  (refine gw2 @hk @e2 ?_; try exact True.intro)
  (repeat (refine And.intro (by omega) ?_))
  refine f46g hk (by omega) (by omega) ?_
  simp only [vec]
  (refine gw0 ?_; try exact True.intro)
  have hl1 := gbl_len (ks := ks) (lane := lane) (m := fr.toNat) (n := a.toNat)
  have hl2 := gbl_len (ks := ks) (lane := lane) (m := fr.toNat + a.toNat) (n := b.toNat)
  have hj := gbl_add (ks := ks) (lane := lane) (m := fr.toNat) (x := a.toNat) (y := b.toNat)
  refine drawp (.ro .leaf ((gbl ks lane fr.toNat a.toNat).map .bool)) (fun H' => f39 (by omega) ⟨congrArg _ gbA_map, rfl⟩) ?_ bnds_bool
  generalize gbl ks lane fr.toNat a.toNat = l1 at *
  (refine gw1 @hl1 ?_; try exact True.intro)
  refine ⟨plb, ?_⟩
  (repeat (refine And.intro (by omega) ?_))
  refine drawp (.ro .leaf ((gbl ks lane (fr.toNat + a.toNat) b.toNat).map .bool)) (fun H' => f39 (by omega) ⟨congrArg _ gbA_map, rfl⟩) ?_ bnds_bool
  generalize gbl ks lane (fr.toNat + a.toNat) b.toNat = l2 at *
  (refine gw2 @hl1 @hl2 ?_; try exact True.intro)
  refine ⟨plb, ?_⟩
  (repeat (refine And.intro (by omega) ?_))
  have hpa := part_add (ks := ks) (lane := lane) (m := fr.toNat) (x := a.toNat) (y := b.toNat)
  have p1 := part_len (ks := ks) (lane := lane) (a := fr.toNat) (n := a.toNat)
  have p2 := part_len (ks := ks) (lane := lane) (a := fr.toNat + a.toNat) (n := b.toNat)
  have p3 := part_len (ks := ks) (lane := lane) (a := fr.toNat) (n := a.toNat + b.toNat)
  refine ⟨by omega, ?_⟩
  simp (maxSteps := 2000000) only [↓vS_skip, ↓vS_reg, ↓vS_draw, ↓vS_seq, ↓wS_cond, ↓vS_block, ↓vS_exit, ↓vS_ret, ↓vI_nil, ↓vI_go, ↓wI_gd, ↓stepI_q, ↓stepI_e, ↓stepI_c, ↓stepI_v, ↓vD_nil, ↓vD_go, ↓wD_gd, ↓stepW_q, ↓stepW_e, ↓stepW_c, ↓stepW_v, ↓Kw_app, ↓KwD_app, ↓Kc_app, ↓Kp_app, ↓Kr_app, ↓Ks_n, ↓Ks_r, ↓Ks_x, ↓Kb_n, ↓Kb_r, ↓Kb_x, ↓Ku_n, ↓Ku_r, ↓Ku_x, ↓Kl_n, ↓Kl_r, ↓Kl_x, ↓Kend_n, ↓Kend_r, ↓Two_t, ↓Two_f, ↓unr_succ, ↓GdM_b, ↓GdM_t, ↓CdM_b, ↓TwU_t, ↓TwU_f, ↓ThI_app, ↓ThW_app, ↓ThK_app, ↓ThS_app, ↓stepI_p, ↓stepW_p, ↓stepI_n, ↓xD_n, ↓xD_q, ↓xD_e, ↓xD_c, ↓xD_v, ↓xD_p, ↓xD_m, ↓xD_s, ↓vX_nil, ↓vX_go, ↓wX_gd, ↓KwX_app, ↓stepI_m, ↓stepW_m, ↓hasSh_mbool, ↓hasSh_mu8, ↓hasSh_mu16, ↓hasSh_mu32, ↓hasSh_mu64, ↓hasSh_mint, putE_none, putE_var, putE_new, get_t, get_c, qev, eev, rsGet, rvGet, oneOf, binAV, isSh, bvBin, bvOp, bvCmp, bvSh, intBin, intSh, cvAV, unAV, AV.cnt, AV.num, Ken2_s, Ken3_s, htake_1, htake_2, beq_self_eq_true, beq_true, beq_false, Int.toNat_natCast, Int.natCast_nonneg, BitVec.reduceOfInt, BitVec.reduceToNat, bytesOf, List.map_cons, List.replicate_succ, Bool.not_eq_true, maxLen, Nat.reducePow, Nat.reduceMul, List.map_cons, List.map_nil, List.getD_cons_zero, List.getD_cons_succ, List.set_cons_zero, List.set_cons_succ, List.cons_append, List.nil_append, List.append_nil, List.take_succ_cons, List.take_zero, List.take_nil, List.length_cons, List.length_nil, List.replicate_succ, List.replicate_zero, Option.map_some, Option.map_none, List.getElem?_cons_zero, List.getElem?_cons_succ, true_and, and_true, if_true, if_false, ite_true, ite_false, reduceIte, reduceCtorEq, false_or, or_true, true_or, or_false, Option.some.injEq, Prod.mk.injEq, exists_eq_left', exists_eq_left, exists_eq_right, exists_and_left, exists_and_right, exists_const, and_assoc, decide_true, decide_false, Bool.false_eq_true, forall_const, Bool.not_true, Bool.not_false, false_implies, true_implies, Nat.reduceAdd, Nat.reduceSub, Nat.reduceMul, Nat.reduceLT, Nat.reduceLeDiff, Nat.reduceEqDiff, Int.reduceAdd, Int.reduceSub, Int.reduceMul, Int.reduceLT, Int.reduceLE, Int.reduceTMod, Int.reduceTDiv, Int.reduceToNat, Int.reduceEq, Int.reduceNe, Int.reduceNeg, ne_eq, not_false_eq_true, not_true_eq_false, InR, Bool.true_eq_false, Bool.false_eq_true, reduceDIte, Nat.zero_add, Nat.add_zero, Int.cast_ofNat_Int, eq_self, hget_0, hget_k, hget_z, hget_s, hset_0, hset_k, htake_0, lt_own0, lt_ownk, hasAt_nil, hasAt_arr, hasAt_st, hasSh_l, hasSh_aa, hasSh_sa, hasShs_n, hasShs_c, setAll, AV.isCell, Shape.size_leaf, Shape.size_arr, Shape.size_st, Shape.sizes_cons, Shape.sizes_nil, List.length_append, List.append_assoc, List.length_set, stP, ldP, getP, setP, psh, partsOf, slen, rd, dem, demK_own, demK_ptr, demK_agg, demK_tup, demK_fn, demK_ro, demK_rp, demK_bool, demK_u8, demK_u16, demK_u32, demK_u64, demK_int, demK_str, demK_nilp, demK_nils, demK_nilf, demK_un, mapO, AV.bnds, AV.bnd, bne_self_eq_false, AV.plain2, AV.plain, List.all_cons, List.all_nil, List.take_length, List.drop_zero, List.drop_succ_cons, Nat.mul_one, List.getElem?_nil, List.forall_mem_cons, List.not_mem_nil, implies_true, Bool.and_true, Bool.true_and, Bool.and_false, Bool.false_and, and_self, and_false, false_and, Nat.sub_zero, bnds, bnds_bool, bnds_bool', mapO_bool, mapO_bool', bnds_u8, bnds_u8', mapO_u8, mapO_u8', bnds_u16, bnds_u16', mapO_u16, mapO_u16', bnds_u32, bnds_u32', mapO_u32, mapO_u32', bnds_u64, bnds_u64', mapO_u64, mapO_u64', bnds_int, bnds_int', mapO_int, mapO_int', bt, bf, Bool.not_not, nilK_nils, nilK_own, nilK_ro, ninL_n, ninL_c, disL_n, disL_r, disL_c, chkL_n, chkL_c, apartL_e, fp_ld, fp_b2s, fp_st, fp_app, fp_appS, fp_cpy, fp_cpyS, tb_own, tb_ptr, tb_ro, tb_rp, tb_nils, tb_str, ne_ah, ne_ha, hpa, List.map_append]
  refine f39 (by omega) ?_
  (refine gw0 ?_; try exact True.intro)
  have hcat : l1.map AV.bool ++ l2.map AV.bool = (gbl ks lane fr.toNat (a.toNat + b.toNat)).map .bool := by rw [← List.map_append, hj]
  have hl3 := gbl_len (ks := ks) (lane := lane) (m := fr.toNat) (n := a.toNat + b.toNat)
  have hga := gbA_map (ks := ks) (lane := lane) (m := fr.toNat) (n := a.toNat + b.toNat)
  unfold gbA at hga
  generalize gbl ks lane fr.toNat (a.toNat + b.toNat) = l3 at *
  have htk : List.take (a.toNat + b.toNat) (l3.map AV.bool) = l3.map .bool := List.take_of_length_le (by simp; omega)
  refine wpF_lend1 4 ?_
  (refine gw5 @hl1 @hl2 @hcat @htk @hga ?_; try exact True.intro)
  refine f38 (.inl rfl) (.inl rfl) ?_
  (refine gw2 @p3 @e2 ?_; try exact True.intro)
  (repeat (refine And.intro (by omega) ?_))
  refine f24 ?_
  (refine gw0 ?_; try exact True.intro)
  exact h
end Go.Proofs.Ytebmlmkiblieiaa
