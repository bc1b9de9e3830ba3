/-
  Streams of layer 5.
-/
import Derived.Test.YtebmlmkiblieiaaDb
import Derived.Test.YtebmlmkiblieiaaV35
open Go Go.V
namespace Go.Proofs.Ytebmlmkiblieiaa
set_option maxRecDepth 100000
set_option linter.unusedSimpArgs false
set_option linter.unusedVariables false
/-- trefoil/chacha.Stream (0:key, 1:nonce, 2:counter, 3:n, 4:key, 8:, 9:, 10:b, 11:s, 13:, 17:, 24:, 40:) -/
def s72 : FnS := ⟨57, [0, 1, 2, 3, 4, 8, 9, 10, 11, 13, 17, 24, 40],
    (.seq (.reg [⟨.var 4, (.e (.box 32 (.arr 32 .leaf))), [.t 0], none⟩,
      ⟨.var 5, (.q .mv), [.c (.str [])], none⟩,
      ⟨.var 6, (.q .mv), [.c (.int 0)], none⟩])
    (.seq (.block 0 (.seq (.reg [⟨.new, (.q .mv), [.t 1], none⟩,
      ⟨.new, (.q .lenS), [.t 13], none⟩,
      ⟨.new, (.q (.bin .neq)), [.t 14, .c (.int 12)], none⟩,
      ⟨.var 9, (.q .mv), [.t 15], none⟩])
    (.cond (.t 9) (.seq (.reg [⟨.var 5, (.q .mv), [.c (.str [])], none⟩,
      ⟨.var 6, (.q .mv), [.c (.int 11)], none⟩])
    .ret)
    (.seq (.reg [⟨.new, (.q .mv), [.t 3], none⟩,
      ⟨.new, (.q (.bin .lss)), [.t 13, .c (.int 0)], none⟩,
      ⟨.new, (.q .mv), [.t 14], none⟩,
      ⟨.new, (.q .mv), [.t 3], (some (15, false))⟩,
      ⟨.new, (.q (.bin .gtr)), [.t 16, .c (.int 65536)], (some (15, false))⟩,
      ⟨.new, (.q .pick), [.t 15, .c (.bool true), .t 17], none⟩,
      ⟨.var 10, (.q .mv), [.t 18], none⟩])
    (.cond (.t 10) (.seq (.reg [⟨.var 5, (.q .mv), [.c (.str [])], none⟩,
      ⟨.var 6, (.q .mv), [.c (.int 2)], none⟩])
    .ret)
    (.seq (.reg [⟨.new, (.q .mv), [.t 2], none⟩,
      ⟨.new, (.q (.cv .u64)), [.t 13], none⟩,
      ⟨.new, (.q .mv), [.t 3], none⟩,
      ⟨.new, (.q (.bin .add)), [.t 15, .c (.int 64)], none⟩,
      ⟨.new, (.q (.bin .sub)), [.t 16, .c (.int 1)], none⟩,
      ⟨.new, (.q (.bin .quo)), [.t 17, .c (.int 64)], none⟩,
      ⟨.new, (.q (.cv .u64)), [.t 18], none⟩,
      ⟨.new, (.q (.bin .add)), [.t 14, .t 19], none⟩,
      ⟨.new, (.q (.bin .gtr)), [.t 20, .c (.u64 4294967296)], none⟩,
      ⟨.var 11, (.q .mv), [.t 21], none⟩])
    (.cond (.t 11) (.seq (.reg [⟨.var 5, (.q .mv), [.c (.str [])], none⟩,
      ⟨.var 6, (.q .mv), [.c (.int 24)], none⟩])
    .ret)
    .skip)))))))
    (.seq (.reg [⟨.new, (.q .mv), [.t 3], none⟩,
      ⟨.new, (.q (.bin .add)), [.t 13, .c (.int 64)], none⟩,
      ⟨.new, (.e (.mksl 5 .leaf 1 (.u8 0))), [.c (.int 0), .t 14], none⟩,
      ⟨.var 7, (.q .mv), [.t 15], none⟩])
    (.seq (.block 1 (.loop (.seq (.seq (.reg [⟨.new, (.q .mv), [.t 7], none⟩,
      ⟨.new, (.q .len), [.t 13], none⟩,
      ⟨.new, (.q .mv), [.t 3], none⟩,
      ⟨.var 12, (.q (.bin .lss)), [.t 14, .t 15], none⟩])
    (.cond (.t 12) .skip
    (.exit 1)))
    (.block 2 (.seq (.reg [⟨.new, (.q (.ld (.arr 32 .leaf))), [.t 4], none⟩,
      ⟨.new, (.q .mv), [.t 1], none⟩,
      ⟨.new, (.q .mv), [.t 2], none⟩,
      ⟨.new, (.call 56), [.t 13, .t 14, .t 15], none⟩,
      ⟨.new, (.q .mv), [.t 16], none⟩,
      ⟨.new, (.q (.ext 0)), [.t 17], none⟩,
      ⟨.new, (.q (.ext 1)), [.t 17], none⟩,
      ⟨.var 8, (.q .mv), [.t 18], none⟩,
      ⟨.new, (.q .mv), [.t 19], none⟩])
    (.seq (.reg [⟨.new, (.q .mv), [.t 7], none⟩,
      ⟨.new, (.q .mv), [.t 8], none⟩,
      ⟨.new, (.e (.appS 5)), [.t 13, .t 14], none⟩,
      ⟨.var 7, (.q .mv), [.t 15], none⟩])
    (.reg [⟨.new, (.q .mv), [.t 2], none⟩,
      ⟨.new, (.q (.bin .add)), [.t 13, .c (.u32 1)], none⟩,
      ⟨.var 2, (.q .mv), [.t 14], none⟩])))))))
    (.seq (.reg [⟨.new, (.q .mv), [.t 7], none⟩,
      ⟨.new, (.q .mv), [.t 3], none⟩,
      ⟨.new, (.q (.slV .leaf false true)), [.t 13, .t 14], none⟩,
      ⟨.new, (.q .b2s), [.t 15], none⟩,
      ⟨.var 5, (.q .mv), [.t 16], none⟩,
      ⟨.var 6, (.q .mv), [.c (.int 0)], none⟩])
    .ret))))),
    [.t 5, .t 6]⟩

theorem c72 : cF P [] (drP P []) 72 4 s72.vm = some s72 := by kernel_rfl

theorem blk_length (ks ns : List (BitVec 8)) (c : BitVec 32) : (blk ks ns c).length = 64 := by unfold blk; rw [outB_length]

/-- so many blocks, one behind the other -/
def sb (ks ns : List (BitVec 8)) (c : BitVec 32) : Nat → List (BitVec 8)
  | 0 => []
  | m + 1 => sb ks ns c m ++ blk ks ns (c + BitVec.ofNat 32 m)
theorem sb_length (ks ns : List (BitVec 8)) (c : BitVec 32) (m : Nat) : (sb ks ns c m).length = 64 * m := by
  induction m with
  | zero => rfl
  | succ m ih => rw [sb, List.length_append, ih, blk_length]; rfl

def nblk (m : Nat) : Nat := (m + 63) / 64
/-- a stream's first m bytes -/
def stm (ks ns : List (BitVec 8)) (c : BitVec 32) (m : Nat) : List (BitVec 8) := (sb ks ns c (nblk m)).take m
theorem stm_length (ks ns : List (BitVec 8)) (c : BitVec 32) (m : Nat) : (stm ks ns c m).length = m := by
  unfold stm
  rw [List.length_take, sb_length]
  unfold nblk
  omega
/-- what Stream hands back -/
def strV (ks ns : List (BitVec 8)) (c : BitVec 32) (n : Int) : AV :=
  if ns.length = 12 then
    if 0 ≤ n ∧ n ≤ 65536 then
      if c.toNat + nblk n.toNat ≤ 4294967296 then .tup [.str (stm ks ns c n.toNat), .int 0] else .tup [.str [], .int 24]
    else .tup [.str [], .int 2]
  else .tup [.str [], .int 11]

def Ic50 (ks ns : List (BitVec 8)) (c : BitVec 32) (m : Nat) (H : Heap) (k : Nat) (st : St) : Prop :=
  ∃ (i : Nat) (J : Heap) (u1 u2 : AV), st = ⟨[.agg (ks.map .u8), .str ns, .u32 (c + BitVec.ofNat 32 i), .int m, .ptr H.length 0 [0] (.arr 32 .leaf), .str [], .int 0, .own (H.length + 1) i [] 0 (64 * i) .leaf, u1, .bool false, .bool false, .bool false, u2],
    H ++ kbx ks :: some ⟨5, i, true, .arr (64 * i) .leaf, .agg ((sb ks ns c i).map .u8)⟩ :: J⟩ ∧ k = nblk m - i ∧ i ≤ nblk m

set_option maxHeartbeats 1000000 in
theorem f72 {K : AV → Heap → Prop} {H : Heap} {ks ns : List (BitVec 8)} {c : BitVec 32} {n : Int} (hk : ks.length = 32) (h : K (strV ks ns c n) H) : wpF P [] 72 [.agg (ks.map .u8), .str ns, .u32 c, .int n] H K := by
  refine wpF_go c72 rfl 3 ?_
  intro ha hb
  simp only [s72]
  unfold strV at h
  by_cases hn : ns.length = 12
  rotate_left 1
  · have h1 : ((ns.length : Int) = 12) = False := by simp; omega
    rw [if_neg hn] at h
    simp (maxSteps := 2000000) only [↓vS_skip, ↓vS_reg, ↓vS_draw, ↓vS_seq, ↓wS_cond, ↓vS_block, ↓vS_exit, ↓vS_ret, ↓vI_nil, ↓vI_go, ↓wI_gd, ↓stepI_q, ↓stepI_e, ↓stepI_c, ↓stepI_v, ↓vD_nil, ↓vD_go, ↓wD_gd, ↓stepW_q, ↓stepW_e, ↓stepW_c, ↓stepW_v, ↓Kw_app, ↓KwD_app, ↓Kc_app, ↓Kp_app, ↓Kr_app, ↓Ks_n, ↓Ks_r, ↓Ks_x, ↓Kb_n, ↓Kb_r, ↓Kb_x, ↓Ku_n, ↓Ku_r, ↓Ku_x, ↓Kl_n, ↓Kl_r, ↓Kl_x, ↓Kend_n, ↓Kend_r, ↓Two_t, ↓Two_f, ↓unr_succ, ↓GdM_b, ↓GdM_t, ↓CdM_b, ↓TwU_t, ↓TwU_f, ↓ThI_app, ↓ThW_app, ↓ThK_app, ↓ThS_app, ↓stepI_p, ↓stepW_p, ↓hasSh_mbool, ↓hasSh_mu8, ↓hasSh_mu16, ↓hasSh_mu32, ↓hasSh_mu64, ↓hasSh_mint, putE_none, putE_var, putE_new, get_t, get_c, qev, eev, rsGet, rvGet, oneOf, binAV, isSh, bvBin, bvOp, bvCmp, bvSh, intBin, intSh, cvAV, unAV, AV.cnt, AV.num, Ken2_s, Ken3_s, htake_1, htake_2, beq_self_eq_true, beq_true, beq_false, Int.toNat_natCast, Int.natCast_nonneg, BitVec.reduceOfInt, BitVec.reduceToNat, bytesOf, List.map_cons, List.replicate_succ, Bool.not_eq_true, maxLen, Nat.reducePow, Nat.reduceMul, List.map_cons, List.map_nil, List.getD_cons_zero, List.getD_cons_succ, List.set_cons_zero, List.set_cons_succ, List.cons_append, List.nil_append, List.append_nil, List.take_succ_cons, List.take_zero, List.take_nil, List.length_cons, List.length_nil, List.replicate_succ, List.replicate_zero, Option.map_some, Option.map_none, List.getElem?_cons_zero, List.getElem?_cons_succ, true_and, and_true, if_true, if_false, ite_true, ite_false, reduceIte, reduceCtorEq, false_or, or_true, true_or, or_false, Option.some.injEq, Prod.mk.injEq, exists_eq_left', exists_eq_left, exists_eq_right, exists_and_left, exists_and_right, exists_const, and_assoc, decide_true, decide_false, Bool.false_eq_true, forall_const, Bool.not_true, Bool.not_false, false_implies, true_implies, Nat.reduceAdd, Nat.reduceSub, Nat.reduceMul, Nat.reduceLT, Nat.reduceLeDiff, Nat.reduceEqDiff, Int.reduceAdd, Int.reduceSub, Int.reduceMul, Int.reduceLT, Int.reduceLE, Int.reduceTMod, Int.reduceTDiv, Int.reduceToNat, Int.reduceEq, Int.reduceNe, Int.reduceNeg, ne_eq, not_false_eq_true, not_true_eq_false, InR, Bool.true_eq_false, Bool.false_eq_true, reduceDIte, Nat.zero_add, Nat.add_zero, Int.cast_ofNat_Int, eq_self, hget_0, hget_k, hget_z, hget_s, hset_0, hset_k, htake_0, lt_own0, lt_ownk, hasAt_nil, hasAt_arr, hasAt_st, hasSh_l, hasSh_aa, hasSh_sa, hasShs_n, hasShs_c, setAll, AV.isCell, Shape.size_leaf, Shape.size_arr, Shape.size_st, Shape.sizes_cons, Shape.sizes_nil, List.length_append, List.append_assoc, List.length_set, stP, ldP, getP, setP, psh, partsOf, slen, rd, dem, demK_own, demK_ptr, demK_agg, demK_tup, demK_fn, demK_ro, demK_rp, demK_bool, demK_u8, demK_u16, demK_u32, demK_u64, demK_int, demK_str, demK_nilp, demK_nils, demK_nilf, demK_un, mapO, AV.bnds, AV.bnd, bne_self_eq_false, AV.plain2, AV.plain, List.all_cons, List.all_nil, List.take_length, List.drop_zero, List.drop_succ_cons, Nat.mul_one, List.getElem?_nil, List.forall_mem_cons, List.not_mem_nil, implies_true, Bool.and_true, Bool.true_and, Bool.and_false, Bool.false_and, and_self, and_false, false_and, Nat.sub_zero, bnds, bnds_bool, bnds_bool', mapO_bool, mapO_bool', bnds_u8, bnds_u8', mapO_u8, mapO_u8', bnds_u16, bnds_u16', mapO_u16, mapO_u16', bnds_u32, bnds_u32', mapO_u32, mapO_u32', bnds_u64, bnds_u64', mapO_u64, mapO_u64', bnds_int, bnds_int', mapO_int, mapO_int', bt, bf, Bool.not_not, h1, hk]
    exact h
  have h1 : ((ns.length : Int) = 12) = True := by simp; omega
  rw [if_pos hn] at h
  by_cases hn0 : n < 0
  · rw [if_neg (by omega)] at h
    simp (maxSteps := 2000000) only [↓vS_skip, ↓vS_reg, ↓vS_draw, ↓vS_seq, ↓wS_cond, ↓vS_block, ↓vS_exit, ↓vS_ret, ↓vI_nil, ↓vI_go, ↓wI_gd, ↓stepI_q, ↓stepI_e, ↓stepI_c, ↓stepI_v, ↓vD_nil, ↓vD_go, ↓wD_gd, ↓stepW_q, ↓stepW_e, ↓stepW_c, ↓stepW_v, ↓Kw_app, ↓KwD_app, ↓Kc_app, ↓Kp_app, ↓Kr_app, ↓Ks_n, ↓Ks_r, ↓Ks_x, ↓Kb_n, ↓Kb_r, ↓Kb_x, ↓Ku_n, ↓Ku_r, ↓Ku_x, ↓Kl_n, ↓Kl_r, ↓Kl_x, ↓Kend_n, ↓Kend_r, ↓Two_t, ↓Two_f, ↓unr_succ, ↓GdM_b, ↓GdM_t, ↓CdM_b, ↓TwU_t, ↓TwU_f, ↓ThI_app, ↓ThW_app, ↓ThK_app, ↓ThS_app, ↓stepI_p, ↓stepW_p, ↓hasSh_mbool, ↓hasSh_mu8, ↓hasSh_mu16, ↓hasSh_mu32, ↓hasSh_mu64, ↓hasSh_mint, putE_none, putE_var, putE_new, get_t, get_c, qev, eev, rsGet, rvGet, oneOf, binAV, isSh, bvBin, bvOp, bvCmp, bvSh, intBin, intSh, cvAV, unAV, AV.cnt, AV.num, Ken2_s, Ken3_s, htake_1, htake_2, beq_self_eq_true, beq_true, beq_false, Int.toNat_natCast, Int.natCast_nonneg, BitVec.reduceOfInt, BitVec.reduceToNat, bytesOf, List.map_cons, List.replicate_succ, Bool.not_eq_true, maxLen, Nat.reducePow, Nat.reduceMul, List.map_cons, List.map_nil, List.getD_cons_zero, List.getD_cons_succ, List.set_cons_zero, List.set_cons_succ, List.cons_append, List.nil_append, List.append_nil, List.take_succ_cons, List.take_zero, List.take_nil, List.length_cons, List.length_nil, List.replicate_succ, List.replicate_zero, Option.map_some, Option.map_none, List.getElem?_cons_zero, List.getElem?_cons_succ, true_and, and_true, if_true, if_false, ite_true, ite_false, reduceIte, reduceCtorEq, false_or, or_true, true_or, or_false, Option.some.injEq, Prod.mk.injEq, exists_eq_left', exists_eq_left, exists_eq_right, exists_and_left, exists_and_right, exists_const, and_assoc, decide_true, decide_false, Bool.false_eq_true, forall_const, Bool.not_true, Bool.not_false, false_implies, true_implies, Nat.reduceAdd, Nat.reduceSub, Nat.reduceMul, Nat.reduceLT, Nat.reduceLeDiff, Nat.reduceEqDiff, Int.reduceAdd, Int.reduceSub, Int.reduceMul, Int.reduceLT, Int.reduceLE, Int.reduceTMod, Int.reduceTDiv, Int.reduceToNat, Int.reduceEq, Int.reduceNe, Int.reduceNeg, ne_eq, not_false_eq_true, not_true_eq_false, InR, Bool.true_eq_false, Bool.false_eq_true, reduceDIte, Nat.zero_add, Nat.add_zero, Int.cast_ofNat_Int, eq_self, hget_0, hget_k, hget_z, hget_s, hset_0, hset_k, htake_0, lt_own0, lt_ownk, hasAt_nil, hasAt_arr, hasAt_st, hasSh_l, hasSh_aa, hasSh_sa, hasShs_n, hasShs_c, setAll, AV.isCell, Shape.size_leaf, Shape.size_arr, Shape.size_st, Shape.sizes_cons, Shape.sizes_nil, List.length_append, List.append_assoc, List.length_set, stP, ldP, getP, setP, psh, partsOf, slen, rd, dem, demK_own, demK_ptr, demK_agg, demK_tup, demK_fn, demK_ro, demK_rp, demK_bool, demK_u8, demK_u16, demK_u32, demK_u64, demK_int, demK_str, demK_nilp, demK_nils, demK_nilf, demK_un, mapO, AV.bnds, AV.bnd, bne_self_eq_false, AV.plain2, AV.plain, List.all_cons, List.all_nil, List.take_length, List.drop_zero, List.drop_succ_cons, Nat.mul_one, List.getElem?_nil, List.forall_mem_cons, List.not_mem_nil, implies_true, Bool.and_true, Bool.true_and, Bool.and_false, Bool.false_and, and_self, and_false, false_and, Nat.sub_zero, bnds, bnds_bool, bnds_bool', mapO_bool, mapO_bool', bnds_u8, bnds_u8', mapO_u8, mapO_u8', bnds_u16, bnds_u16', mapO_u16, mapO_u16', bnds_u32, bnds_u32', mapO_u32, mapO_u32', bnds_u64, bnds_u64', mapO_u64, mapO_u64', bnds_int, bnds_int', mapO_int, mapO_int', bt, bf, Bool.not_not, h1, hk, hn0]
    exact h
  by_cases hn1 : 65536 < n
  · rw [if_neg (by omega)] at h
    simp (maxSteps := 2000000) only [↓vS_skip, ↓vS_reg, ↓vS_draw, ↓vS_seq, ↓wS_cond, ↓vS_block, ↓vS_exit, ↓vS_ret, ↓vI_nil, ↓vI_go, ↓wI_gd, ↓stepI_q, ↓stepI_e, ↓stepI_c, ↓stepI_v, ↓vD_nil, ↓vD_go, ↓wD_gd, ↓stepW_q, ↓stepW_e, ↓stepW_c, ↓stepW_v, ↓Kw_app, ↓KwD_app, ↓Kc_app, ↓Kp_app, ↓Kr_app, ↓Ks_n, ↓Ks_r, ↓Ks_x, ↓Kb_n, ↓Kb_r, ↓Kb_x, ↓Ku_n, ↓Ku_r, ↓Ku_x, ↓Kl_n, ↓Kl_r, ↓Kl_x, ↓Kend_n, ↓Kend_r, ↓Two_t, ↓Two_f, ↓unr_succ, ↓GdM_b, ↓GdM_t, ↓CdM_b, ↓TwU_t, ↓TwU_f, ↓ThI_app, ↓ThW_app, ↓ThK_app, ↓ThS_app, ↓stepI_p, ↓stepW_p, ↓hasSh_mbool, ↓hasSh_mu8, ↓hasSh_mu16, ↓hasSh_mu32, ↓hasSh_mu64, ↓hasSh_mint, putE_none, putE_var, putE_new, get_t, get_c, qev, eev, rsGet, rvGet, oneOf, binAV, isSh, bvBin, bvOp, bvCmp, bvSh, intBin, intSh, cvAV, unAV, AV.cnt, AV.num, Ken2_s, Ken3_s, htake_1, htake_2, beq_self_eq_true, beq_true, beq_false, Int.toNat_natCast, Int.natCast_nonneg, BitVec.reduceOfInt, BitVec.reduceToNat, bytesOf, List.map_cons, List.replicate_succ, Bool.not_eq_true, maxLen, Nat.reducePow, Nat.reduceMul, List.map_cons, List.map_nil, List.getD_cons_zero, List.getD_cons_succ, List.set_cons_zero, List.set_cons_succ, List.cons_append, List.nil_append, List.append_nil, List.take_succ_cons, List.take_zero, List.take_nil, List.length_cons, List.length_nil, List.replicate_succ, List.replicate_zero, Option.map_some, Option.map_none, List.getElem?_cons_zero, List.getElem?_cons_succ, true_and, and_true, if_true, if_false, ite_true, ite_false, reduceIte, reduceCtorEq, false_or, or_true, true_or, or_false, Option.some.injEq, Prod.mk.injEq, exists_eq_left', exists_eq_left, exists_eq_right, exists_and_left, exists_and_right, exists_const, and_assoc, decide_true, decide_false, Bool.false_eq_true, forall_const, Bool.not_true, Bool.not_false, false_implies, true_implies, Nat.reduceAdd, Nat.reduceSub, Nat.reduceMul, Nat.reduceLT, Nat.reduceLeDiff, Nat.reduceEqDiff, Int.reduceAdd, Int.reduceSub, Int.reduceMul, Int.reduceLT, Int.reduceLE, Int.reduceTMod, Int.reduceTDiv, Int.reduceToNat, Int.reduceEq, Int.reduceNe, Int.reduceNeg, ne_eq, not_false_eq_true, not_true_eq_false, InR, Bool.true_eq_false, Bool.false_eq_true, reduceDIte, Nat.zero_add, Nat.add_zero, Int.cast_ofNat_Int, eq_self, hget_0, hget_k, hget_z, hget_s, hset_0, hset_k, htake_0, lt_own0, lt_ownk, hasAt_nil, hasAt_arr, hasAt_st, hasSh_l, hasSh_aa, hasSh_sa, hasShs_n, hasShs_c, setAll, AV.isCell, Shape.size_leaf, Shape.size_arr, Shape.size_st, Shape.sizes_cons, Shape.sizes_nil, List.length_append, List.append_assoc, List.length_set, stP, ldP, getP, setP, psh, partsOf, slen, rd, dem, demK_own, demK_ptr, demK_agg, demK_tup, demK_fn, demK_ro, demK_rp, demK_bool, demK_u8, demK_u16, demK_u32, demK_u64, demK_int, demK_str, demK_nilp, demK_nils, demK_nilf, demK_un, mapO, AV.bnds, AV.bnd, bne_self_eq_false, AV.plain2, AV.plain, List.all_cons, List.all_nil, List.take_length, List.drop_zero, List.drop_succ_cons, Nat.mul_one, List.getElem?_nil, List.forall_mem_cons, List.not_mem_nil, implies_true, Bool.and_true, Bool.true_and, Bool.and_false, Bool.false_and, and_self, and_false, false_and, Nat.sub_zero, bnds, bnds_bool, bnds_bool', mapO_bool, mapO_bool', bnds_u8, bnds_u8', mapO_u8, mapO_u8', bnds_u16, bnds_u16', mapO_u16, mapO_u16', bnds_u32, bnds_u32', mapO_u32, mapO_u32', bnds_u64, bnds_u64', mapO_u64, mapO_u64', bnds_int, bnds_int', mapO_int, mapO_int', bt, bf, Bool.not_not, h1, hk, hn0, hn1]
    exact h
  rw [if_pos (by omega)] at h
  obtain ⟨m, rfl⟩ := Int.eq_ofNat_of_zero_le (show 0 ≤ n by omega)
  have hm : m ≤ 65536 := by omega
  simp only [Int.toNat_natCast] at h
  have ht : Int.tdiv ((m : Int) + 64 - 1) 64 = ((nblk m : Nat) : Int) := by
    unfold nblk
    rw [Int.tdiv_eq_ediv_of_nonneg (by omega)]
    omega
  have hnb : nblk m ≤ 1024 := by unfold nblk; omega
  have hc := c.isLt
  have hs : (c.setWidth 64 + BitVec.ofInt 64 ((nblk m : Nat) : Int)).toNat = c.toNat + nblk m := by
    rw [BitVec.toNat_add, BitVec.toNat_setWidth, BitVec.toNat_ofInt]
    omega
  by_cases hc1 : c.toNat + nblk m ≤ 4294967296
  rotate_left 1
  · rw [if_neg hc1] at h
    have h2 : ((4294967296 : BitVec 64) < c.setWidth 64 + BitVec.ofInt 64 ((nblk m : Nat) : Int)) = True := by
      rw [BitVec.lt_def, hs]
      exact eq_true (show 4294967296 < _ by omega)
    simp (maxSteps := 2000000) only [↓vS_skip, ↓vS_reg, ↓vS_draw, ↓vS_seq, ↓wS_cond, ↓vS_block, ↓vS_exit, ↓vS_ret, ↓vI_nil, ↓vI_go, ↓wI_gd, ↓stepI_q, ↓stepI_e, ↓stepI_c, ↓stepI_v, ↓vD_nil, ↓vD_go, ↓wD_gd, ↓stepW_q, ↓stepW_e, ↓stepW_c, ↓stepW_v, ↓Kw_app, ↓KwD_app, ↓Kc_app, ↓Kp_app, ↓Kr_app, ↓Ks_n, ↓Ks_r, ↓Ks_x, ↓Kb_n, ↓Kb_r, ↓Kb_x, ↓Ku_n, ↓Ku_r, ↓Ku_x, ↓Kl_n, ↓Kl_r, ↓Kl_x, ↓Kend_n, ↓Kend_r, ↓Two_t, ↓Two_f, ↓unr_succ, ↓GdM_b, ↓GdM_t, ↓CdM_b, ↓TwU_t, ↓TwU_f, ↓ThI_app, ↓ThW_app, ↓ThK_app, ↓ThS_app, ↓stepI_p, ↓stepW_p, ↓hasSh_mbool, ↓hasSh_mu8, ↓hasSh_mu16, ↓hasSh_mu32, ↓hasSh_mu64, ↓hasSh_mint, putE_none, putE_var, putE_new, get_t, get_c, qev, eev, rsGet, rvGet, oneOf, binAV, isSh, bvBin, bvOp, bvCmp, bvSh, intBin, intSh, cvAV, unAV, AV.cnt, AV.num, Ken2_s, Ken3_s, htake_1, htake_2, beq_self_eq_true, beq_true, beq_false, Int.toNat_natCast, Int.natCast_nonneg, BitVec.reduceOfInt, BitVec.reduceToNat, bytesOf, List.map_cons, List.replicate_succ, Bool.not_eq_true, maxLen, Nat.reducePow, Nat.reduceMul, List.map_cons, List.map_nil, List.getD_cons_zero, List.getD_cons_succ, List.set_cons_zero, List.set_cons_succ, List.cons_append, List.nil_append, List.append_nil, List.take_succ_cons, List.take_zero, List.take_nil, List.length_cons, List.length_nil, List.replicate_succ, List.replicate_zero, Option.map_some, Option.map_none, List.getElem?_cons_zero, List.getElem?_cons_succ, true_and, and_true, if_true, if_false, ite_true, ite_false, reduceIte, reduceCtorEq, false_or, or_true, true_or, or_false, Option.some.injEq, Prod.mk.injEq, exists_eq_left', exists_eq_left, exists_eq_right, exists_and_left, exists_and_right, exists_const, and_assoc, decide_true, decide_false, Bool.false_eq_true, forall_const, Bool.not_true, Bool.not_false, false_implies, true_implies, Nat.reduceAdd, Nat.reduceSub, Nat.reduceMul, Nat.reduceLT, Nat.reduceLeDiff, Nat.reduceEqDiff, Int.reduceAdd, Int.reduceSub, Int.reduceMul, Int.reduceLT, Int.reduceLE, Int.reduceTMod, Int.reduceTDiv, Int.reduceToNat, Int.reduceEq, Int.reduceNe, Int.reduceNeg, ne_eq, not_false_eq_true, not_true_eq_false, InR, Bool.true_eq_false, Bool.false_eq_true, reduceDIte, Nat.zero_add, Nat.add_zero, Int.cast_ofNat_Int, eq_self, hget_0, hget_k, hget_z, hget_s, hset_0, hset_k, htake_0, lt_own0, lt_ownk, hasAt_nil, hasAt_arr, hasAt_st, hasSh_l, hasSh_aa, hasSh_sa, hasShs_n, hasShs_c, setAll, AV.isCell, Shape.size_leaf, Shape.size_arr, Shape.size_st, Shape.sizes_cons, Shape.sizes_nil, List.length_append, List.append_assoc, List.length_set, stP, ldP, getP, setP, psh, partsOf, slen, rd, dem, demK_own, demK_ptr, demK_agg, demK_tup, demK_fn, demK_ro, demK_rp, demK_bool, demK_u8, demK_u16, demK_u32, demK_u64, demK_int, demK_str, demK_nilp, demK_nils, demK_nilf, demK_un, mapO, AV.bnds, AV.bnd, bne_self_eq_false, AV.plain2, AV.plain, List.all_cons, List.all_nil, List.take_length, List.drop_zero, List.drop_succ_cons, Nat.mul_one, List.getElem?_nil, List.forall_mem_cons, List.not_mem_nil, implies_true, Bool.and_true, Bool.true_and, Bool.and_false, Bool.false_and, and_self, and_false, false_and, Nat.sub_zero, bnds, bnds_bool, bnds_bool', mapO_bool, mapO_bool', bnds_u8, bnds_u8', mapO_u8, mapO_u8', bnds_u16, bnds_u16', mapO_u16, mapO_u16', bnds_u32, bnds_u32', mapO_u32, mapO_u32', bnds_u64, bnds_u64', mapO_u64, mapO_u64', bnds_int, bnds_int', mapO_int, mapO_int', bt, bf, Bool.not_not, h1, hk, hn0, hn1, ht, h2]
    repeat (refine ⟨by omega, ?_⟩)
    exact h
  rw [if_pos hc1] at h
  have h2 : ((4294967296 : BitVec 64) < c.setWidth 64 + BitVec.ofInt 64 ((nblk m : Nat) : Int)) = False := by
    rw [BitVec.lt_def, hs]
    exact eq_false (show ¬ 4294967296 < _ by omega)
  simp (maxSteps := 2000000) only [↓vS_skip, ↓vS_reg, ↓vS_draw, ↓vS_seq, ↓wS_cond, ↓vS_block, ↓vS_exit, ↓vS_ret, ↓vI_nil, ↓vI_go, ↓wI_gd, ↓stepI_q, ↓stepI_e, ↓stepI_c, ↓stepI_v, ↓vD_nil, ↓vD_go, ↓wD_gd, ↓stepW_q, ↓stepW_e, ↓stepW_c, ↓stepW_v, ↓Kw_app, ↓KwD_app, ↓Kc_app, ↓Kp_app, ↓Kr_app, ↓Ks_n, ↓Ks_r, ↓Ks_x, ↓Kb_n, ↓Kb_r, ↓Kb_x, ↓Ku_n, ↓Ku_r, ↓Ku_x, ↓Kl_n, ↓Kl_r, ↓Kl_x, ↓Kend_n, ↓Kend_r, ↓Two_t, ↓Two_f, ↓unr_succ, ↓GdM_b, ↓GdM_t, ↓CdM_b, ↓TwU_t, ↓TwU_f, ↓ThI_app, ↓ThW_app, ↓ThK_app, ↓ThS_app, ↓stepI_p, ↓stepW_p, ↓hasSh_mbool, ↓hasSh_mu8, ↓hasSh_mu16, ↓hasSh_mu32, ↓hasSh_mu64, ↓hasSh_mint, putE_none, putE_var, putE_new, get_t, get_c, qev, eev, rsGet, rvGet, oneOf, binAV, isSh, bvBin, bvOp, bvCmp, bvSh, intBin, intSh, cvAV, unAV, AV.cnt, AV.num, Ken2_s, Ken3_s, htake_1, htake_2, beq_self_eq_true, beq_true, beq_false, Int.toNat_natCast, Int.natCast_nonneg, BitVec.reduceOfInt, BitVec.reduceToNat, bytesOf, List.map_cons, List.replicate_succ, Bool.not_eq_true, maxLen, Nat.reducePow, Nat.reduceMul, List.map_cons, List.map_nil, List.getD_cons_zero, List.getD_cons_succ, List.set_cons_zero, List.set_cons_succ, List.cons_append, List.nil_append, List.append_nil, List.take_succ_cons, List.take_zero, List.take_nil, List.length_cons, List.length_nil, List.replicate_succ, List.replicate_zero, Option.map_some, Option.map_none, List.getElem?_cons_zero, List.getElem?_cons_succ, true_and, and_true, if_true, if_false, ite_true, ite_false, reduceIte, reduceCtorEq, false_or, or_true, true_or, or_false, Option.some.injEq, Prod.mk.injEq, exists_eq_left', exists_eq_left, exists_eq_right, exists_and_left, exists_and_right, exists_const, and_assoc, decide_true, decide_false, Bool.false_eq_true, forall_const, Bool.not_true, Bool.not_false, false_implies, true_implies, Nat.reduceAdd, Nat.reduceSub, Nat.reduceMul, Nat.reduceLT, Nat.reduceLeDiff, Nat.reduceEqDiff, Int.reduceAdd, Int.reduceSub, Int.reduceMul, Int.reduceLT, Int.reduceLE, Int.reduceTMod, Int.reduceTDiv, Int.reduceToNat, Int.reduceEq, Int.reduceNe, Int.reduceNeg, ne_eq, not_false_eq_true, not_true_eq_false, InR, Bool.true_eq_false, Bool.false_eq_true, reduceDIte, Nat.zero_add, Nat.add_zero, Int.cast_ofNat_Int, eq_self, hget_0, hget_k, hget_z, hget_s, hset_0, hset_k, htake_0, lt_own0, lt_ownk, hasAt_nil, hasAt_arr, hasAt_st, hasSh_l, hasSh_aa, hasSh_sa, hasShs_n, hasShs_c, setAll, AV.isCell, Shape.size_leaf, Shape.size_arr, Shape.size_st, Shape.sizes_cons, Shape.sizes_nil, List.length_append, List.append_assoc, List.length_set, stP, ldP, getP, setP, psh, partsOf, slen, rd, dem, demK_own, demK_ptr, demK_agg, demK_tup, demK_fn, demK_ro, demK_rp, demK_bool, demK_u8, demK_u16, demK_u32, demK_u64, demK_int, demK_str, demK_nilp, demK_nils, demK_nilf, demK_un, mapO, AV.bnds, AV.bnd, bne_self_eq_false, AV.plain2, AV.plain, List.all_cons, List.all_nil, List.take_length, List.drop_zero, List.drop_succ_cons, Nat.mul_one, List.getElem?_nil, List.forall_mem_cons, List.not_mem_nil, implies_true, Bool.and_true, Bool.true_and, Bool.and_false, Bool.false_and, and_self, and_false, false_and, Nat.sub_zero, bnds, bnds_bool, bnds_bool', mapO_bool, mapO_bool', bnds_u8, bnds_u8', mapO_u8, mapO_u8', bnds_u16, bnds_u16', mapO_u16, mapO_u16', bnds_u32, bnds_u32', mapO_u32, mapO_u32', bnds_u64, bnds_u64', mapO_u64, mapO_u64', bnds_int, bnds_int', mapO_int, mapO_int', bt, bf, Bool.not_not, h1, hk, hn0, hn1, ht, h2]
  repeat (refine ⟨by omega, ?_⟩)
  refine wp_inv (Ic50 ks ns c m H) (nblk m) ⟨0, [], _, _, by rw [show c + BitVec.ofNat 32 0 = c from BitVec.add_zero c]; rfl, rfl, by omega⟩ ?_
  rintro k st ⟨i, J, u1, u2, rfl, rfl, hi⟩
  by_cases hil : 64 * i < m
  · have h3 : (((64 * i : Nat) : Int) < (m : Int)) = True := by simp; omega
    have hin : i < nblk m := by unfold nblk; omega
    unfold kbx
    simp (maxSteps := 2000000) only [↓vS_skip, ↓vS_reg, ↓vS_draw, ↓vS_seq, ↓wS_cond, ↓vS_block, ↓vS_exit, ↓vS_ret, ↓vI_nil, ↓vI_go, ↓wI_gd, ↓stepI_q, ↓stepI_e, ↓stepI_c, ↓stepI_v, ↓vD_nil, ↓vD_go, ↓wD_gd, ↓stepW_q, ↓stepW_e, ↓stepW_c, ↓stepW_v, ↓Kw_app, ↓KwD_app, ↓Kc_app, ↓Kp_app, ↓Kr_app, ↓Ks_n, ↓Ks_r, ↓Ks_x, ↓Kb_n, ↓Kb_r, ↓Kb_x, ↓Ku_n, ↓Ku_r, ↓Ku_x, ↓Kl_n, ↓Kl_r, ↓Kl_x, ↓Kend_n, ↓Kend_r, ↓Two_t, ↓Two_f, ↓unr_succ, ↓GdM_b, ↓GdM_t, ↓CdM_b, ↓TwU_t, ↓TwU_f, ↓ThI_app, ↓ThW_app, ↓ThK_app, ↓ThS_app, ↓stepI_p, ↓stepW_p, ↓hasSh_mbool, ↓hasSh_mu8, ↓hasSh_mu16, ↓hasSh_mu32, ↓hasSh_mu64, ↓hasSh_mint, putE_none, putE_var, putE_new, get_t, get_c, qev, eev, rsGet, rvGet, oneOf, binAV, isSh, bvBin, bvOp, bvCmp, bvSh, intBin, intSh, cvAV, unAV, AV.cnt, AV.num, Ken2_s, Ken3_s, htake_1, htake_2, beq_self_eq_true, beq_true, beq_false, Int.toNat_natCast, Int.natCast_nonneg, BitVec.reduceOfInt, BitVec.reduceToNat, bytesOf, List.map_cons, List.replicate_succ, Bool.not_eq_true, maxLen, Nat.reducePow, Nat.reduceMul, List.map_cons, List.map_nil, List.getD_cons_zero, List.getD_cons_succ, List.set_cons_zero, List.set_cons_succ, List.cons_append, List.nil_append, List.append_nil, List.take_succ_cons, List.take_zero, List.take_nil, List.length_cons, List.length_nil, List.replicate_succ, List.replicate_zero, Option.map_some, Option.map_none, List.getElem?_cons_zero, List.getElem?_cons_succ, true_and, and_true, if_true, if_false, ite_true, ite_false, reduceIte, reduceCtorEq, false_or, or_true, true_or, or_false, Option.some.injEq, Prod.mk.injEq, exists_eq_left', exists_eq_left, exists_eq_right, exists_and_left, exists_and_right, exists_const, and_assoc, decide_true, decide_false, Bool.false_eq_true, forall_const, Bool.not_true, Bool.not_false, false_implies, true_implies, Nat.reduceAdd, Nat.reduceSub, Nat.reduceMul, Nat.reduceLT, Nat.reduceLeDiff, Nat.reduceEqDiff, Int.reduceAdd, Int.reduceSub, Int.reduceMul, Int.reduceLT, Int.reduceLE, Int.reduceTMod, Int.reduceTDiv, Int.reduceToNat, Int.reduceEq, Int.reduceNe, Int.reduceNeg, ne_eq, not_false_eq_true, not_true_eq_false, InR, Bool.true_eq_false, Bool.false_eq_true, reduceDIte, Nat.zero_add, Nat.add_zero, Int.cast_ofNat_Int, eq_self, hget_0, hget_k, hget_z, hget_s, hset_0, hset_k, htake_0, lt_own0, lt_ownk, hasAt_nil, hasAt_arr, hasAt_st, hasSh_l, hasSh_aa, hasSh_sa, hasShs_n, hasShs_c, setAll, AV.isCell, Shape.size_leaf, Shape.size_arr, Shape.size_st, Shape.sizes_cons, Shape.sizes_nil, List.length_append, List.append_assoc, List.length_set, stP, ldP, getP, setP, psh, partsOf, slen, rd, dem, demK_own, demK_ptr, demK_agg, demK_tup, demK_fn, demK_ro, demK_rp, demK_bool, demK_u8, demK_u16, demK_u32, demK_u64, demK_int, demK_str, demK_nilp, demK_nils, demK_nilf, demK_un, mapO, AV.bnds, AV.bnd, bne_self_eq_false, AV.plain2, AV.plain, List.all_cons, List.all_nil, List.take_length, List.drop_zero, List.drop_succ_cons, Nat.mul_one, List.getElem?_nil, List.forall_mem_cons, List.not_mem_nil, implies_true, Bool.and_true, Bool.true_and, Bool.and_false, Bool.false_and, and_self, and_false, false_and, Nat.sub_zero, bnds, bnds_bool, bnds_bool', mapO_bool, mapO_bool', bnds_u8, bnds_u8', mapO_u8, mapO_u8', bnds_u16, bnds_u16', mapO_u16, mapO_u16', bnds_u32, bnds_u32', mapO_u32, mapO_u32', bnds_u64, bnds_u64', mapO_u64, mapO_u64', bnds_int, bnds_int', mapO_int, mapO_int', bt, bf, Bool.not_not, h3]
    refine f56 hk ?_
    rw [if_pos hn]
    have hbl := blk_length ks ns (c + BitVec.ofNat 32 i)
    simp (maxSteps := 2000000) only [↓vS_skip, ↓vS_reg, ↓vS_draw, ↓vS_seq, ↓wS_cond, ↓vS_block, ↓vS_exit, ↓vS_ret, ↓vI_nil, ↓vI_go, ↓wI_gd, ↓stepI_q, ↓stepI_e, ↓stepI_c, ↓stepI_v, ↓vD_nil, ↓vD_go, ↓wD_gd, ↓stepW_q, ↓stepW_e, ↓stepW_c, ↓stepW_v, ↓Kw_app, ↓KwD_app, ↓Kc_app, ↓Kp_app, ↓Kr_app, ↓Ks_n, ↓Ks_r, ↓Ks_x, ↓Kb_n, ↓Kb_r, ↓Kb_x, ↓Ku_n, ↓Ku_r, ↓Ku_x, ↓Kl_n, ↓Kl_r, ↓Kl_x, ↓Kend_n, ↓Kend_r, ↓Two_t, ↓Two_f, ↓unr_succ, ↓GdM_b, ↓GdM_t, ↓CdM_b, ↓TwU_t, ↓TwU_f, ↓ThI_app, ↓ThW_app, ↓ThK_app, ↓ThS_app, ↓stepI_p, ↓stepW_p, ↓hasSh_mbool, ↓hasSh_mu8, ↓hasSh_mu16, ↓hasSh_mu32, ↓hasSh_mu64, ↓hasSh_mint, putE_none, putE_var, putE_new, get_t, get_c, qev, eev, rsGet, rvGet, oneOf, binAV, isSh, bvBin, bvOp, bvCmp, bvSh, intBin, intSh, cvAV, unAV, AV.cnt, AV.num, Ken2_s, Ken3_s, htake_1, htake_2, beq_self_eq_true, beq_true, beq_false, Int.toNat_natCast, Int.natCast_nonneg, BitVec.reduceOfInt, BitVec.reduceToNat, bytesOf, List.map_cons, List.replicate_succ, Bool.not_eq_true, maxLen, Nat.reducePow, Nat.reduceMul, List.map_cons, List.map_nil, List.getD_cons_zero, List.getD_cons_succ, List.set_cons_zero, List.set_cons_succ, List.cons_append, List.nil_append, List.append_nil, List.take_succ_cons, List.take_zero, List.take_nil, List.length_cons, List.length_nil, List.replicate_succ, List.replicate_zero, Option.map_some, Option.map_none, List.getElem?_cons_zero, List.getElem?_cons_succ, true_and, and_true, if_true, if_false, ite_true, ite_false, reduceIte, reduceCtorEq, false_or, or_true, true_or, or_false, Option.some.injEq, Prod.mk.injEq, exists_eq_left', exists_eq_left, exists_eq_right, exists_and_left, exists_and_right, exists_const, and_assoc, decide_true, decide_false, Bool.false_eq_true, forall_const, Bool.not_true, Bool.not_false, false_implies, true_implies, Nat.reduceAdd, Nat.reduceSub, Nat.reduceMul, Nat.reduceLT, Nat.reduceLeDiff, Nat.reduceEqDiff, Int.reduceAdd, Int.reduceSub, Int.reduceMul, Int.reduceLT, Int.reduceLE, Int.reduceTMod, Int.reduceTDiv, Int.reduceToNat, Int.reduceEq, Int.reduceNe, Int.reduceNeg, ne_eq, not_false_eq_true, not_true_eq_false, InR, Bool.true_eq_false, Bool.false_eq_true, reduceDIte, Nat.zero_add, Nat.add_zero, Int.cast_ofNat_Int, eq_self, hget_0, hget_k, hget_z, hget_s, hset_0, hset_k, htake_0, lt_own0, lt_ownk, hasAt_nil, hasAt_arr, hasAt_st, hasSh_l, hasSh_aa, hasSh_sa, hasShs_n, hasShs_c, setAll, AV.isCell, Shape.size_leaf, Shape.size_arr, Shape.size_st, Shape.sizes_cons, Shape.sizes_nil, List.length_append, List.append_assoc, List.length_set, stP, ldP, getP, setP, psh, partsOf, slen, rd, dem, demK_own, demK_ptr, demK_agg, demK_tup, demK_fn, demK_ro, demK_rp, demK_bool, demK_u8, demK_u16, demK_u32, demK_u64, demK_int, demK_str, demK_nilp, demK_nils, demK_nilf, demK_un, mapO, AV.bnds, AV.bnd, bne_self_eq_false, AV.plain2, AV.plain, List.all_cons, List.all_nil, List.take_length, List.drop_zero, List.drop_succ_cons, Nat.mul_one, List.getElem?_nil, List.forall_mem_cons, List.not_mem_nil, implies_true, Bool.and_true, Bool.true_and, Bool.and_false, Bool.false_and, and_self, and_false, false_and, Nat.sub_zero, bnds, bnds_bool, bnds_bool', mapO_bool, mapO_bool', bnds_u8, bnds_u8', mapO_u8, mapO_u8', bnds_u16, bnds_u16', mapO_u16, mapO_u16', bnds_u32, bnds_u32', mapO_u32, mapO_u32', bnds_u64, bnds_u64', mapO_u64, mapO_u64', bnds_int, bnds_int', mapO_int, mapO_int', bt, bf, Bool.not_not, hbl]
    have e : (sb ks ns c (i + 1)).map AV.u8 = (sb ks ns c i).map AV.u8 ++ (blk ks ns (c + BitVec.ofNat 32 i)).map AV.u8 := by simp only [sb, List.map_append]
    have e2 : c + BitVec.ofNat 32 (i + 1) = c + BitVec.ofNat 32 i + 1 := by
      apply BitVec.eq_of_toNat_eq
      simp [BitVec.toNat_add]
      omega
    refine ⟨by omega, nblk m - (i + 1), by omega, i + 1, _, _, _, by rw [e, e2]; rfl, rfl, by omega⟩
  · have h3 : (((64 * i : Nat) : Int) < (m : Int)) = False := by simp; omega
    have hin : i = nblk m := by unfold nblk; unfold nblk at hi; omega
    subst hin
    have hmt : List.take m ((sb ks ns c (nblk m)).map AV.u8) = (stm ks ns c m).map AV.u8 := by rw [stm, List.map_take]
    simp (maxSteps := 2000000) only [↓vS_skip, ↓vS_reg, ↓vS_draw, ↓vS_seq, ↓wS_cond, ↓vS_block, ↓vS_exit, ↓vS_ret, ↓vI_nil, ↓vI_go, ↓wI_gd, ↓stepI_q, ↓stepI_e, ↓stepI_c, ↓stepI_v, ↓vD_nil, ↓vD_go, ↓wD_gd, ↓stepW_q, ↓stepW_e, ↓stepW_c, ↓stepW_v, ↓Kw_app, ↓KwD_app, ↓Kc_app, ↓Kp_app, ↓Kr_app, ↓Ks_n, ↓Ks_r, ↓Ks_x, ↓Kb_n, ↓Kb_r, ↓Kb_x, ↓Ku_n, ↓Ku_r, ↓Ku_x, ↓Kl_n, ↓Kl_r, ↓Kl_x, ↓Kend_n, ↓Kend_r, ↓Two_t, ↓Two_f, ↓unr_succ, ↓GdM_b, ↓GdM_t, ↓CdM_b, ↓TwU_t, ↓TwU_f, ↓ThI_app, ↓ThW_app, ↓ThK_app, ↓ThS_app, ↓stepI_p, ↓stepW_p, ↓hasSh_mbool, ↓hasSh_mu8, ↓hasSh_mu16, ↓hasSh_mu32, ↓hasSh_mu64, ↓hasSh_mint, putE_none, putE_var, putE_new, get_t, get_c, qev, eev, rsGet, rvGet, oneOf, binAV, isSh, bvBin, bvOp, bvCmp, bvSh, intBin, intSh, cvAV, unAV, AV.cnt, AV.num, Ken2_s, Ken3_s, htake_1, htake_2, beq_self_eq_true, beq_true, beq_false, Int.toNat_natCast, Int.natCast_nonneg, BitVec.reduceOfInt, BitVec.reduceToNat, bytesOf, List.map_cons, List.replicate_succ, Bool.not_eq_true, maxLen, Nat.reducePow, Nat.reduceMul, List.map_cons, List.map_nil, List.getD_cons_zero, List.getD_cons_succ, List.set_cons_zero, List.set_cons_succ, List.cons_append, List.nil_append, List.append_nil, List.take_succ_cons, List.take_zero, List.take_nil, List.length_cons, List.length_nil, List.replicate_succ, List.replicate_zero, Option.map_some, Option.map_none, List.getElem?_cons_zero, List.getElem?_cons_succ, true_and, and_true, if_true, if_false, ite_true, ite_false, reduceIte, reduceCtorEq, false_or, or_true, true_or, or_false, Option.some.injEq, Prod.mk.injEq, exists_eq_left', exists_eq_left, exists_eq_right, exists_and_left, exists_and_right, exists_const, and_assoc, decide_true, decide_false, Bool.false_eq_true, forall_const, Bool.not_true, Bool.not_false, false_implies, true_implies, Nat.reduceAdd, Nat.reduceSub, Nat.reduceMul, Nat.reduceLT, Nat.reduceLeDiff, Nat.reduceEqDiff, Int.reduceAdd, Int.reduceSub, Int.reduceMul, Int.reduceLT, Int.reduceLE, Int.reduceTMod, Int.reduceTDiv, Int.reduceToNat, Int.reduceEq, Int.reduceNe, Int.reduceNeg, ne_eq, not_false_eq_true, not_true_eq_false, InR, Bool.true_eq_false, Bool.false_eq_true, reduceDIte, Nat.zero_add, Nat.add_zero, Int.cast_ofNat_Int, eq_self, hget_0, hget_k, hget_z, hget_s, hset_0, hset_k, htake_0, lt_own0, lt_ownk, hasAt_nil, hasAt_arr, hasAt_st, hasSh_l, hasSh_aa, hasSh_sa, hasShs_n, hasShs_c, setAll, AV.isCell, Shape.size_leaf, Shape.size_arr, Shape.size_st, Shape.sizes_cons, Shape.sizes_nil, List.length_append, List.append_assoc, List.length_set, stP, ldP, getP, setP, psh, partsOf, slen, rd, dem, demK_own, demK_ptr, demK_agg, demK_tup, demK_fn, demK_ro, demK_rp, demK_bool, demK_u8, demK_u16, demK_u32, demK_u64, demK_int, demK_str, demK_nilp, demK_nils, demK_nilf, demK_un, mapO, AV.bnds, AV.bnd, bne_self_eq_false, AV.plain2, AV.plain, List.all_cons, List.all_nil, List.take_length, List.drop_zero, List.drop_succ_cons, Nat.mul_one, List.getElem?_nil, List.forall_mem_cons, List.not_mem_nil, implies_true, Bool.and_true, Bool.true_and, Bool.and_false, Bool.false_and, and_self, and_false, false_and, Nat.sub_zero, bnds, bnds_bool, bnds_bool', mapO_bool, mapO_bool', bnds_u8, bnds_u8', mapO_u8, mapO_u8', bnds_u16, bnds_u16', mapO_u16, mapO_u16', bnds_u32, bnds_u32', mapO_u32, mapO_u32', bnds_u64, bnds_u64', mapO_u64, mapO_u64', bnds_int, bnds_int', mapO_int, mapO_int', bt, bf, Bool.not_not, h3, hmt, bytesOf_m]
    exact ⟨by omega, h⟩


end Go.Proofs.Ytebmlmkiblieiaa
