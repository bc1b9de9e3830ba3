/-
  The law BaseotMatches returns true for all inputs: what is dealt matches, in both directions, and which others do.
-/
import Derived.Test.YtebmlmkiblieiaaMt
import Derived.Test.YtebmlmkiblieiaaV38
open Go Go.V
namespace Go.Proofs.Ytebmlmkiblieiaa
/-- trefoil/trefoillaw15.BaseotMatches (0:master, 1:epoch, 2:i, 3:turn, 4:other, 5:master, 9:other, 10:, 11:a, 12:b, 13:c, 14:k, 15:want, 35:, 56:, 60:) -/
def s12 : FnS := ⟨120, [0, 1, 2, 3, 4, 5, 9, 10, 11, 12, 13, 14, 15, 35, 56, 60],
    (.seq (.reg [⟨.var 5, (.e (.box 32 (.arr 32 .leaf))), [.t 0], none⟩,
      ⟨.var 6, (.e (.box 32 (.arr 32 .leaf))), [.t 4], none⟩,
      ⟨.var 7, (.q .mv), [.c (.bool false)], none⟩])
    (.seq (.reg [⟨.new, (.q (.ld (.arr 32 .leaf))), [.t 5], none⟩,
      ⟨.new, (.q .mv), [.t 1], none⟩,
      ⟨.new, (.call 31), [.t 16, .t 17], none⟩,
      ⟨.new, (.q .mv), [.t 18], none⟩,
      ⟨.new, (.q (.ext 0)), [.t 19], none⟩,
      ⟨.new, (.q (.ext 1)), [.t 19], none⟩,
      ⟨.var 8, (.e (.alloc 56 (.st [(.st [(.arr 2 .leaf), .leaf]), (.st [.leaf, .leaf])]) (.agg [(.agg [(.agg [(.u64 0), (.u64 0)]), .nils]), (.agg [.nils, .nils])]))), [], none⟩,
      ⟨.var 9, (.e (.alloc 56 (.st [(.st [(.arr 2 .leaf), .leaf]), (.st [.leaf, .leaf])]) (.agg [(.agg [(.agg [(.u64 0), (.u64 0)]), .nils]), (.agg [.nils, .nils])]))), [], none⟩,
      ⟨.none, (.e (.store (.st [(.st [(.arr 2 .leaf), .leaf]), (.st [.leaf, .leaf])]))), [.t 8, .t 20], none⟩,
      ⟨.none, (.e (.store (.st [(.st [(.arr 2 .leaf), .leaf]), (.st [.leaf, .leaf])]))), [.t 9, .t 21], none⟩])
    (.seq (.seq (.reg [⟨.new, (.q (.fa [(.st [(.arr 2 .leaf), .leaf]), (.st [.leaf, .leaf])] 0)), [.t 8], none⟩,
      ⟨.new, (.q (.ld (.st [(.arr 2 .leaf), .leaf]))), [.t 16], none⟩,
      ⟨.new, (.q (.fa [(.st [(.arr 2 .leaf), .leaf]), (.st [.leaf, .leaf])] 1)), [.t 9], none⟩,
      ⟨.new, (.q (.ld (.st [.leaf, .leaf]))), [.t 18], none⟩,
      ⟨.new, (.call 47), [.t 17, .t 19], none⟩,
      ⟨.new, (.q (.un .not)), [.t 20], none⟩,
      ⟨.new, (.q .mv), [.t 21], none⟩,
      ⟨.new, (.q (.fa [(.st [(.arr 2 .leaf), .leaf]), (.st [.leaf, .leaf])] 0)), [.t 9], (some (22, false))⟩,
      ⟨.new, (.q (.ld (.st [(.arr 2 .leaf), .leaf]))), [.t 23], (some (22, false))⟩,
      ⟨.new, (.q (.fa [(.st [(.arr 2 .leaf), .leaf]), (.st [.leaf, .leaf])] 1)), [.t 8], (some (22, false))⟩,
      ⟨.new, (.q (.ld (.st [.leaf, .leaf]))), [.t 25], (some (22, false))⟩,
      ⟨.new, (.call 47), [.t 24, .t 26], (some (22, false))⟩,
      ⟨.new, (.q (.un .not)), [.t 27], (some (22, false))⟩,
      ⟨.var 13, (.q .pick), [.t 22, .c (.bool true), .t 28], none⟩])
    (.cond (.t 13) (.seq (.reg [⟨.var 7, (.q .mv), [.c (.bool false)], none⟩])
    .ret)
    .skip))
    (.seq (.reg [⟨.new, (.q (.ld (.st [(.st [(.arr 2 .leaf), .leaf]), (.st [.leaf, .leaf])]))), [.t 8], none⟩,
      ⟨.new, (.call 48), [.t 16], none⟩,
      ⟨.var 10, (.e (.alloc 56 (.st [(.st [(.arr 2 .leaf), .leaf]), (.st [.leaf, .leaf])]) (.agg [(.agg [(.agg [(.u64 0), (.u64 0)]), .nils]), (.agg [.nils, .nils])]))), [], none⟩,
      ⟨.none, (.e (.store (.st [(.st [(.arr 2 .leaf), .leaf]), (.st [.leaf, .leaf])]))), [.t 10, .t 17], none⟩])
    (.seq (.seq (.reg [⟨.new, (.q (.fa [(.st [(.arr 2 .leaf), .leaf]), (.st [.leaf, .leaf])] 0)), [.t 10], none⟩,
      ⟨.new, (.q (.fa [(.arr 2 .leaf), .leaf] 1)), [.t 16], none⟩,
      ⟨.new, (.q (.ld .leaf)), [.t 17], none⟩,
      ⟨.new, (.q .len), [.t 18], none⟩,
      ⟨.new, (.q (.bin .neq)), [.t 19, .c (.int 128)], none⟩,
      ⟨.new, (.q .mv), [.t 20], none⟩,
      ⟨.new, (.q (.fa [(.st [(.arr 2 .leaf), .leaf]), (.st [.leaf, .leaf])] 1)), [.t 9], (some (21, false))⟩,
      ⟨.new, (.q (.fa [.leaf, .leaf] 0)), [.t 22], (some (21, false))⟩,
      ⟨.new, (.q (.ld .leaf)), [.t 23], (some (21, false))⟩,
      ⟨.new, (.q .len), [.t 24], (some (21, false))⟩,
      ⟨.new, (.q (.bin .neq)), [.t 25, .c (.int 128)], (some (21, false))⟩,
      ⟨.new, (.q .pick), [.t 21, .c (.bool true), .t 26], none⟩,
      ⟨.new, (.q .mv), [.t 27], none⟩,
      ⟨.new, (.q (.fa [(.st [(.arr 2 .leaf), .leaf]), (.st [.leaf, .leaf])] 1)), [.t 9], (some (28, false))⟩,
      ⟨.new, (.q (.fa [.leaf, .leaf] 1)), [.t 29], (some (28, false))⟩,
      ⟨.new, (.q (.ld .leaf)), [.t 30], (some (28, false))⟩,
      ⟨.new, (.q .len), [.t 31], (some (28, false))⟩,
      ⟨.new, (.q (.bin .neq)), [.t 32, .c (.int 128)], (some (28, false))⟩,
      ⟨.var 14, (.q .pick), [.t 28, .c (.bool true), .t 33], none⟩])
    (.cond (.t 14) (.seq (.reg [⟨.var 7, (.q .mv), [.c (.bool false)], none⟩])
    .ret)
    .skip))
    (.seq (.reg [⟨.new, (.q .mv), [.t 2], none⟩,
      ⟨.new, (.q (.bin .rem)), [.t 16, .c (.u64 128)], none⟩,
      ⟨.new, (.q (.cv .i64)), [.t 17], none⟩,
      ⟨.var 11, (.q .mv), [.t 18], none⟩])
    (.seq (.seq (.reg [⟨.var 15, (.q .mv), [.t 3], none⟩])
    (.cond (.t 15) (.reg [⟨.new, (.q .mv), [.t 11], none⟩,
      ⟨.new, (.q (.bin .quo)), [.t 16, .c (.int 64)], none⟩,
      ⟨.new, (.q .mv), [.t 11], none⟩,
      ⟨.new, (.q (.bin .quo)), [.t 18, .c (.int 64)], none⟩,
      ⟨.new, (.q (.fa [(.st [(.arr 2 .leaf), .leaf]), (.st [.leaf, .leaf])] 0)), [.t 10], none⟩,
      ⟨.new, (.q (.fa [(.arr 2 .leaf), .leaf] 0)), [.t 20], none⟩,
      ⟨.new, (.q (.iaA 2 .leaf)), [.t 21, .t 19], none⟩,
      ⟨.new, (.q (.ld .leaf)), [.t 22], none⟩,
      ⟨.new, (.q .mv), [.t 11], none⟩,
      ⟨.new, (.q (.bin .rem)), [.t 24, .c (.int 64)], none⟩,
      ⟨.new, (.q (.cv .u64)), [.t 25], none⟩,
      ⟨.new, (.q (.bin .shl)), [.c (.u64 1), .t 26], none⟩,
      ⟨.new, (.q (.bin .xor)), [.t 23, .t 27], none⟩,
      ⟨.new, (.q (.fa [(.st [(.arr 2 .leaf), .leaf]), (.st [.leaf, .leaf])] 0)), [.t 10], none⟩,
      ⟨.new, (.q (.fa [(.arr 2 .leaf), .leaf] 0)), [.t 29], none⟩,
      ⟨.new, (.q (.iaA 2 .leaf)), [.t 30, .t 17], none⟩,
      ⟨.none, (.e (.store .leaf)), [.t 31, .t 28], none⟩])
    (.reg [⟨.new, (.q (.fa [(.st [(.arr 2 .leaf), .leaf]), (.st [.leaf, .leaf])] 0)), [.t 10], none⟩,
      ⟨.new, (.q (.fa [(.arr 2 .leaf), .leaf] 1)), [.t 16], none⟩,
      ⟨.new, (.q (.ld .leaf)), [.t 17], none⟩,
      ⟨.new, (.q .mv), [.t 11], none⟩,
      ⟨.new, (.q (.ld (.arr 32 .leaf))), [.t 6], none⟩,
      ⟨.new, (.q (.iaS (.arr 32 .leaf))), [.t 18, .t 19], none⟩,
      ⟨.none, (.e (.store (.arr 32 .leaf))), [.t 21, .t 20], none⟩])))
    (.seq (.reg [⟨.new, (.q (.fa [(.st [(.arr 2 .leaf), .leaf]), (.st [.leaf, .leaf])] 0)), [.t 10], none⟩,
      ⟨.new, (.q (.fa [(.arr 2 .leaf), .leaf] 0)), [.t 16], none⟩,
      ⟨.new, (.q (.ld (.arr 2 .leaf))), [.t 17], none⟩,
      ⟨.new, (.q (.fa [(.st [(.arr 2 .leaf), .leaf]), (.st [.leaf, .leaf])] 0)), [.t 10], none⟩,
      ⟨.new, (.q (.fa [(.arr 2 .leaf), .leaf] 1)), [.t 19], none⟩,
      ⟨.new, (.q (.ld .leaf)), [.t 20], none⟩,
      ⟨.new, (.q (.fa [(.st [(.arr 2 .leaf), .leaf]), (.st [.leaf, .leaf])] 1)), [.t 9], none⟩,
      ⟨.new, (.q (.fa [.leaf, .leaf] 0)), [.t 22], none⟩,
      ⟨.new, (.q (.ld .leaf)), [.t 23], none⟩,
      ⟨.new, (.q (.fa [(.st [(.arr 2 .leaf), .leaf]), (.st [.leaf, .leaf])] 1)), [.t 9], none⟩,
      ⟨.new, (.q (.fa [.leaf, .leaf] 1)), [.t 25], none⟩,
      ⟨.new, (.q (.ld .leaf)), [.t 26], none⟩,
      ⟨.new, (.call 49), [.t 18, .t 21, .t 24, .t 27], none⟩,
      ⟨.var 12, (.q .mv), [.t 28], none⟩])
    (.seq (.reg [⟨.new, (.q (.fa [(.st [(.arr 2 .leaf), .leaf]), (.st [.leaf, .leaf])] 0)), [.t 10], none⟩,
      ⟨.new, (.q (.ld (.st [(.arr 2 .leaf), .leaf]))), [.t 16], none⟩,
      ⟨.new, (.q (.fa [(.st [(.arr 2 .leaf), .leaf]), (.st [.leaf, .leaf])] 1)), [.t 9], none⟩,
      ⟨.new, (.q (.ld (.st [.leaf, .leaf]))), [.t 18], none⟩,
      ⟨.new, (.call 47), [.t 17, .t 19], none⟩,
      ⟨.new, (.q .mv), [.t 12], none⟩,
      ⟨.new, (.q (.eqB false)), [.t 20, .t 21], none⟩,
      ⟨.new, (.q .mv), [.t 22], none⟩,
      ⟨.new, (.q (.fa [(.st [(.arr 2 .leaf), .leaf]), (.st [.leaf, .leaf])] 0)), [.t 8], (some (23, true))⟩,
      ⟨.new, (.q (.ld (.st [(.arr 2 .leaf), .leaf]))), [.t 24], (some (23, true))⟩,
      ⟨.new, (.q (.fa [(.st [(.arr 2 .leaf), .leaf]), (.st [.leaf, .leaf])] 1)), [.t 9], (some (23, true))⟩,
      ⟨.new, (.q (.ld (.st [.leaf, .leaf]))), [.t 26], (some (23, true))⟩,
      ⟨.new, (.call 47), [.t 25, .t 27], (some (23, true))⟩,
      ⟨.new, (.q .pick), [.t 23, .t 28, .c (.bool false)], none⟩,
      ⟨.new, (.q .mv), [.t 29], none⟩,
      ⟨.new, (.e (.bld (.st [(.arr 2 .leaf), .leaf]) (.agg [(.agg [(.u64 0), (.u64 0)]), .nils]) [])), [], (some (30, true))⟩,
      ⟨.new, (.q (.fa [(.st [(.arr 2 .leaf), .leaf]), (.st [.leaf, .leaf])] 1)), [.t 9], (some (30, true))⟩,
      ⟨.new, (.q (.ld (.st [.leaf, .leaf]))), [.t 32], (some (30, true))⟩,
      ⟨.new, (.call 47), [.t 31, .t 33], (some (30, true))⟩,
      ⟨.new, (.q (.un .not)), [.t 34], (some (30, true))⟩,
      ⟨.new, (.q .pick), [.t 30, .t 35, .c (.bool false)], none⟩,
      ⟨.new, (.q .mv), [.t 36], none⟩,
      ⟨.new, (.call 21), [], (some (37, true))⟩,
      ⟨.new, (.q .pick), [.t 37, .t 38, .c (.bool false)], none⟩,
      ⟨.var 7, (.q .mv), [.t 39], none⟩])
    .ret))))))))),
    [.t 7]⟩

set_option maxRecDepth 100000
set_option linter.unusedSimpArgs false
set_option linter.unusedVariables false
theorem c12 : cF P [] (drP P []) 12 5 s12.vm = some s12 := by kernel_rfl
theorem f12 {K : AV → Heap → Prop} {H : Heap} {ms ot : List (BitVec 8)} {ep i : BitVec 64} {turn : Bool} (hk : ms.length = 32) (ho : ot.length = 32) (h : K (.bool true) H) : wpF P [] 12 [.agg (ms.map .u8), .u64 ep, .u64 i, .bool turn, .agg (ot.map .u8)] H K := by
  refine wpF_go c12 rfl 3 ?_
  intro ha hb
  simp only [s12]
  clear ha
  (refine gw2 @hk @ho ?_; try exact True.intro)
  refine f31 hk ?_
  obtain ⟨x0, y0, kf0, zf0, of0, lk0, lz0, lo0, D0, e0, e1⟩ := dir_of (child (child ms ep) 0)
  obtain ⟨x1, y1, kf1, zf1, of1, lk1, lz1, lo1, D1, e2, e3⟩ := dir_of (child (child ms ep) 1)
  rw [e0, e1, e2, e3]
  clear e0 e1 e2 e3
  have t0 : ∀ {n : Nat}, mtB x0 y0 kf0 zf0 of0 n = true := mtB_true D0.m
  have t1 : ∀ {n : Nat}, mtB x1 y1 kf1 zf1 of1 n = true := mtB_true D1.m
  have l1 : lz0.length = 128 := by rw [D0.ez, sdL_len]
  have l2 : lo0.length = 128 := by rw [D0.eo, sdL_len]
  have e128 : ((128 : Nat) : Int) = 128 := rfl
  (refine gw0 ?_; try exact True.intro)
  refine f47' D0.ek D0.ez D0.eo D0.k D0.z D0.o ?_
  rw [t0]
  (refine gw0 ?_; try exact True.intro)
  refine f47' D1.ek D1.ez D1.eo D1.k D1.z D1.o ?_
  rw [t1]
  (refine gw0 ?_; try exact True.intro)
  refine f48' D0.ek D1.ez D1.eo D0.k D1.z D1.o ?_
  intro B0 B1
  unfold sdB
  have z2 : H.length + 4 + 2 = H.length + 6 := rfl
  have z3 : H.length + 4 + 3 = H.length + 7 := rfl
  have z4 : H.length + 4 + 4 = H.length + 8 := rfl
  (refine gw6 @l1 @l2 @e128 @z2 @z3 @z4 ?_; try exact True.intro)
  refine ⟨by decide, ?_⟩
  obtain ⟨q, hq, hq8⟩ : ∃ q : Nat, (i % 128).toInt = (q : Int) ∧ q < 128 := by
    refine ⟨(i % 128).toNat, ?_, ?_⟩
    · rw [BitVec.toInt_eq_toNat_of_lt]
      rw [BitVec.toNat_umod]
      have : (128 : BitVec 64).toNat = 128 := rfl
      rw [this]; omega
    · rw [BitVec.toNat_umod]
      have : (128 : BitVec 64).toNat = 128 := rfl
      rw [this]; omega
  rw [hq]
  clear hq hb
  have bz : ∀ {k : Nat}, AV.bnds k lz0 = true := by intro k; rw [D0.ez]; exact bnds_sd
  have bo : ∀ {k : Nat}, AV.bnds k lo0 = true := by intro k; rw [D0.eo]; exact bnds_sd
  cases turn with
  | true =>
    have hd : Int.tdiv (q : Int) 64 = ((q / 64 : Nat) : Int) := (Int.ofNat_tdiv q 64).symm
    have hm : Int.tmod (q : Int) 64 = ((q % 64 : Nat) : Int) := (Int.ofNat_tmod q 64).symm
    have mK : ∀ {kp : Nat → Bool} {N : Nat} {h : Heap} {d : Nat}, mapO (demK kp N h (d + 2)) (List.take 128 lk0) = some lk0 := by
      intro kp N h d; rw [D0.ek]; exact mapO_sd
    by_cases h64 : q < 64
    · have d0 : ((q / 64 : Nat) : Int) = 0 := by omega
      (refine gw3 @hd @hm @d0 ?_; try exact True.intro)
      (repeat (refine And.intro (by omega) ?_))
      generalize x0 ^^^ (1 : BitVec 64) <<< (BitVec.ofInt 64 ((q % 64 : Nat) : Int)).toNat = xn
      refine wpF_lend1 4 ?_
      (refine gw3 @mK @bz @bo ?_; try exact True.intro)
      refine f49' D0.ek D0.ez D0.eo D0.k D0.z D0.o ?_
      (refine gw0 ?_; try exact True.intro)
      refine wpF_lend1 5 ?_
      (refine gw3 @mK @bz @bo ?_; try exact True.intro)
      refine f47' D0.ek D0.ez D0.eo D0.k D0.z D0.o ?_
      generalize mtB xn y0 kf0 zf0 of0 128 = m
      have em : (m == m) = true := by simp
      (refine gw1 @em ?_; try exact True.intro)
      refine f47' D0.ek D0.ez D0.eo D0.k D0.z D0.o ?_
      rw [t0]
      (refine gw0 ?_; try exact True.intro)
      refine f47n ?_
      (refine gw0 ?_; try exact True.intro)
      refine f21 ?_
      (refine gw0 ?_; try exact True.intro)
      exact h
    · have d0 : ((q / 64 : Nat) : Int) = 1 := by omega
      (refine gw3 @hd @hm @d0 ?_; try exact True.intro)
      (repeat (refine And.intro (by omega) ?_))
      generalize y0 ^^^ (1 : BitVec 64) <<< (BitVec.ofInt 64 ((q % 64 : Nat) : Int)).toNat = yn
      refine wpF_lend1 4 ?_
      (refine gw3 @mK @bz @bo ?_; try exact True.intro)
      refine f49' D0.ek D0.ez D0.eo D0.k D0.z D0.o ?_
      (refine gw0 ?_; try exact True.intro)
      refine wpF_lend1 5 ?_
      (refine gw3 @mK @bz @bo ?_; try exact True.intro)
      refine f47' D0.ek D0.ez D0.eo D0.k D0.z D0.o ?_
      generalize mtB x0 yn kf0 zf0 of0 128 = m
      have em : (m == m) = true := by simp
      (refine gw1 @em ?_; try exact True.intro)
      refine f47' D0.ek D0.ez D0.eo D0.k D0.z D0.o ?_
      rw [t0]
      (refine gw0 ?_; try exact True.intro)
      refine f47n ?_
      (refine gw0 ?_; try exact True.intro)
      refine f21 ?_
      (refine gw0 ?_; try exact True.intro)
      exact h
  | false =>
    have hset : lk0.set q (.agg (ot.map .u8)) = sdL (fun j => if j = q then ot else kf0 j) 128 := by
      rw [D0.ek]
      apply List.ext_getElem (by simp [sdL])
      intro j h1 h2
      rw [List.getElem_set]
      simp only [sdL, List.getElem_map, List.getElem_range]
      by_cases e : q = j
      · subst e; simp [sdA]
      · rw [if_neg e, if_neg (Ne.symm e)]
    have hkn : ∀ j, ((fun j => if j = q then ot else kf0 j) j : List (BitVec 8)).length = 32 := by
      intro j; simp only; split; exact ho; exact D0.k j
    have mK : ∀ {kp : Nat → Bool} {N : Nat} {h : Heap} {d : Nat}, mapO (demK kp N h (d + 2)) (List.take 128 (sdL (fun j => if j = q then ot else kf0 j) 128)) = some (sdL (fun j => if j = q then ot else kf0 j) 128) := by
      intro kp N h d; exact mapO_sd
    generalize hkf : (fun j => if j = q then ot else kf0 j) = kn at *
    generalize hlk : sdL kn 128 = lkn at hset mK
    have lk : lk0.length = 128 := by rw [D0.ek, sdL_len]
    have hg : ∃ z, lk0[q]? = some z := ⟨_, List.getElem?_eq_getElem (by omega)⟩
    obtain ⟨z, hg⟩ := hg
    (refine gw4 @hset @ho @lk @hg ?_; try exact True.intro)
    (repeat (refine And.intro (by omega) ?_))
    refine wpF_lend1 4 ?_
    (refine gw3 @mK @bz @bo ?_; try exact True.intro)
    refine f49' hlk.symm D0.ez D0.eo hkn D0.z D0.o ?_
    (refine gw0 ?_; try exact True.intro)
    refine wpF_lend1 5 ?_
    (refine gw3 @mK @bz @bo ?_; try exact True.intro)
    refine f47' hlk.symm D0.ez D0.eo hkn D0.z D0.o ?_
    generalize mtB x0 y0 kn zf0 of0 128 = m
    have em : (m == m) = true := by simp
    (refine gw1 @em ?_; try exact True.intro)
    refine f47' D0.ek D0.ez D0.eo D0.k D0.z D0.o ?_
    rw [t0]
    (refine gw0 ?_; try exact True.intro)
    refine f47n ?_
    (refine gw0 ?_; try exact True.intro)
    refine f21 ?_
    (refine gw0 ?_; try exact True.intro)
    exact h
end Go.Proofs.Ytebmlmkiblieiaa
