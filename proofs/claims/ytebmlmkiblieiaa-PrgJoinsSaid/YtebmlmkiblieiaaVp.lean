/-
  Bits of any part of a stream of layer 7, both sides.
-/
import Derived.Test.YtebmlmkiblieiaaVb
import Derived.Test.YtebmlmkiblieiaaV38
open Go Go.V
namespace Go.Proofs.Ytebmlmkiblieiaa
/-- trefoil/prg.Bits (0:seed, 1:lane, 2:from, 3:n, 4:seed, 8:, 9:, 10:first, 11:skip, 12:s, 13:e, 14:v, 28:, 47:, 59:) -/
def s46 : FnS := ⟨70, [0, 1, 2, 3, 4, 8, 9, 10, 11, 12, 13, 14, 28, 47, 59],
    (.seq (.reg [⟨.var 4, (.e (.box 32 (.arr 32 .leaf))), [.t 0], none⟩,
      ⟨.var 5, (.e (.alloc 77 (.st [.leaf, .leaf]) (.agg [(.int 0), .nils]))), [], none⟩,
      ⟨.var 6, (.q .mv), [.c (.int 0)], none⟩])
    (.seq (.seq (.reg [⟨.new, (.q .mv), [.t 2], none⟩,
      ⟨.new, (.q (.bin .lss)), [.t 15, .c (.int 0)], none⟩,
      ⟨.new, (.q .mv), [.t 16], none⟩,
      ⟨.new, (.q .mv), [.t 3], (some (17, false))⟩,
      ⟨.new, (.q (.bin .lss)), [.t 18, .c (.int 0)], (some (17, false))⟩,
      ⟨.new, (.q .pick), [.t 17, .c (.bool true), .t 19], none⟩,
      ⟨.new, (.q .mv), [.t 20], none⟩,
      ⟨.new, (.q .mv), [.t 2], (some (21, false))⟩,
      ⟨.new, (.q (.bin .gtr)), [.t 22, .c (.int 1073741824)], (some (21, false))⟩,
      ⟨.new, (.q .pick), [.t 21, .c (.bool true), .t 23], none⟩,
      ⟨.new, (.q .mv), [.t 24], none⟩,
      ⟨.new, (.q .mv), [.t 3], (some (25, false))⟩,
      ⟨.new, (.q (.bin .gtr)), [.t 26, .c (.int 65536)], (some (25, false))⟩,
      ⟨.var 12, (.q .pick), [.t 25, .c (.bool true), .t 27], none⟩])
    (.cond (.t 12) (.seq (.reg [⟨.new, (.e (.bld (.st [.leaf, .leaf]) (.agg [(.int 0), .nils]) [])), [], none⟩,
      ⟨.none, (.e (.store (.st [.leaf, .leaf]))), [.t 5, .t 15], none⟩,
      ⟨.var 6, (.q .mv), [.c (.int 2)], none⟩])
    .ret)
    .skip))
    (.seq (.reg [⟨.new, (.q .mv), [.t 2], none⟩,
      ⟨.new, (.q (.bin .quo)), [.t 15, .c (.int 8)], none⟩,
      ⟨.new, (.q .mv), [.t 2], none⟩,
      ⟨.new, (.q (.bin .rem)), [.t 17, .c (.int 8)], none⟩,
      ⟨.var 7, (.q .mv), [.t 16], none⟩,
      ⟨.var 8, (.q .mv), [.t 18], none⟩])
    (.seq (.reg [⟨.new, (.q (.ld (.arr 32 .leaf))), [.t 4], none⟩,
      ⟨.new, (.q .mv), [.t 1], none⟩,
      ⟨.new, (.q .mv), [.t 7], none⟩,
      ⟨.new, (.q .mv), [.t 8], none⟩,
      ⟨.new, (.q .mv), [.t 3], none⟩,
      ⟨.new, (.q (.bin .add)), [.t 18, .t 19], none⟩,
      ⟨.new, (.q (.bin .add)), [.t 20, .c (.int 7)], none⟩,
      ⟨.new, (.q (.bin .quo)), [.t 21, .c (.int 8)], none⟩,
      ⟨.new, (.call 45), [.t 15, .t 16, .t 17, .t 22], none⟩,
      ⟨.new, (.q .mv), [.t 23], none⟩,
      ⟨.new, (.q (.ext 0)), [.t 24], none⟩,
      ⟨.new, (.q (.ext 1)), [.t 24], none⟩,
      ⟨.var 9, (.q .mv), [.t 25], none⟩,
      ⟨.var 10, (.q .mv), [.t 26], none⟩])
    (.seq (.seq (.reg [⟨.new, (.q .mv), [.t 10], none⟩,
      ⟨.var 13, (.q (.bin .neq)), [.t 15, .c (.int 0)], none⟩])
    (.cond (.t 13) (.seq (.reg [⟨.new, (.e (.bld (.st [.leaf, .leaf]) (.agg [(.int 0), .nils]) [])), [], none⟩,
      ⟨.new, (.q .mv), [.t 10], none⟩,
      ⟨.none, (.e (.store (.st [.leaf, .leaf]))), [.t 5, .t 15], none⟩,
      ⟨.var 6, (.q .mv), [.t 16], none⟩])
    .ret)
    .skip))
    (.seq (.reg [⟨.new, (.q .mv), [.t 9], none⟩,
      ⟨.new, (.q .lenS), [.t 15], none⟩,
      ⟨.new, (.q (.bin .mul)), [.c (.int 8), .t 16], none⟩,
      ⟨.new, (.q .mv), [.t 9], none⟩,
      ⟨.new, (.call 69), [.t 17, .t 18], none⟩,
      ⟨.new, (.q .mv), [.t 19], none⟩,
      ⟨.new, (.q (.ext 0)), [.t 20], none⟩,
      ⟨.new, (.q (.ext 1)), [.t 20], none⟩,
      ⟨.var 11, (.e (.alloc 77 (.st [.leaf, .leaf]) (.agg [(.int 0), .nils]))), [], none⟩,
      ⟨.none, (.e (.store (.st [.leaf, .leaf]))), [.t 11, .t 21], none⟩,
      ⟨.var 10, (.q .mv), [.t 22], none⟩])
    (.seq (.seq (.reg [⟨.new, (.q .mv), [.t 10], none⟩,
      ⟨.var 14, (.q (.bin .neq)), [.t 15, .c (.int 0)], none⟩])
    (.cond (.t 14) (.seq (.reg [⟨.new, (.e (.bld (.st [.leaf, .leaf]) (.agg [(.int 0), .nils]) [])), [], none⟩,
      ⟨.new, (.q .mv), [.t 10], none⟩,
      ⟨.none, (.e (.store (.st [.leaf, .leaf]))), [.t 5, .t 15], none⟩,
      ⟨.var 6, (.q .mv), [.t 16], none⟩])
    .ret)
    .skip))
    (.seq (.reg [⟨.new, (.q (.ld (.st [.leaf, .leaf]))), [.t 11], none⟩,
      ⟨.new, (.q .mv), [.t 8], none⟩,
      ⟨.new, (.q .mv), [.t 8], none⟩,
      ⟨.new, (.q .mv), [.t 3], none⟩,
      ⟨.new, (.q (.bin .add)), [.t 17, .t 18], none⟩,
      ⟨.new, (.call 73), [.t 15, .t 16, .t 19], none⟩,
      ⟨.new, (.q (.ext 0)), [.t 20], none⟩,
      ⟨.new, (.q (.ext 1)), [.t 20], none⟩,
      ⟨.none, (.e (.store (.st [.leaf, .leaf]))), [.t 5, .t 21], none⟩,
      ⟨.var 6, (.q .mv), [.t 22], none⟩])
    .ret)))))))),
    [.cell 5 (.st [.leaf, .leaf]), .t 6]⟩

/-- trefoil/trefoilref07.Bits (0:seed, 1:lane, 2:from, 3:n, 4:seed, 8:, 9:, 10:s, 11:e, 12:out, 13:i, 27:, 43:, 52:) -/
def s54 : FnS := ⟨69, [0, 1, 2, 3, 4, 8, 9, 10, 11, 12, 13, 27, 43, 52],
    (.seq (.reg [⟨.var 4, (.e (.box 32 (.arr 32 .leaf))), [.t 0], none⟩,
      ⟨.var 5, (.q .mv), [.c .nils], none⟩,
      ⟨.var 6, (.q .mv), [.c (.int 0)], none⟩])
    (.seq (.seq (.reg [⟨.new, (.q .mv), [.t 2], none⟩,
      ⟨.new, (.q (.bin .lss)), [.t 14, .c (.int 0)], none⟩,
      ⟨.new, (.q .mv), [.t 15], none⟩,
      ⟨.new, (.q .mv), [.t 3], (some (16, false))⟩,
      ⟨.new, (.q (.bin .lss)), [.t 17, .c (.int 0)], (some (16, false))⟩,
      ⟨.new, (.q .pick), [.t 16, .c (.bool true), .t 18], none⟩,
      ⟨.new, (.q .mv), [.t 19], none⟩,
      ⟨.new, (.q .mv), [.t 3], (some (20, false))⟩,
      ⟨.new, (.q (.bin .gtr)), [.t 21, .c (.int 65536)], (some (20, false))⟩,
      ⟨.new, (.q .pick), [.t 20, .c (.bool true), .t 22], none⟩,
      ⟨.new, (.q .mv), [.t 23], none⟩,
      ⟨.new, (.q .mv), [.t 2], (some (24, false))⟩,
      ⟨.new, (.q (.bin .gtr)), [.t 25, .c (.int 1073741824)], (some (24, false))⟩,
      ⟨.var 11, (.q .pick), [.t 24, .c (.bool true), .t 26], none⟩])
    (.cond (.t 11) (.seq (.reg [⟨.var 5, (.q .mv), [.c .nils], none⟩,
      ⟨.var 6, (.q .mv), [.c (.int 2)], none⟩])
    .ret)
    .skip))
    (.seq (.reg [⟨.new, (.q (.ld (.arr 32 .leaf))), [.t 4], none⟩,
      ⟨.new, (.q .mv), [.t 1], none⟩,
      ⟨.new, (.q .mv), [.t 2], none⟩,
      ⟨.new, (.q (.bin .quo)), [.t 16, .c (.int 8)], none⟩,
      ⟨.new, (.q .mv), [.t 2], none⟩,
      ⟨.new, (.q (.bin .rem)), [.t 18, .c (.int 8)], none⟩,
      ⟨.new, (.q .mv), [.t 3], none⟩,
      ⟨.new, (.q (.bin .add)), [.t 19, .t 20], none⟩,
      ⟨.new, (.q (.bin .add)), [.t 21, .c (.int 7)], none⟩,
      ⟨.new, (.q (.bin .quo)), [.t 22, .c (.int 8)], none⟩,
      ⟨.new, (.call 52), [.t 14, .t 15, .t 17, .t 23], none⟩,
      ⟨.new, (.q .mv), [.t 24], none⟩,
      ⟨.new, (.q (.ext 0)), [.t 25], none⟩,
      ⟨.new, (.q (.ext 1)), [.t 25], none⟩,
      ⟨.var 7, (.q .mv), [.t 26], none⟩,
      ⟨.var 8, (.q .mv), [.t 27], none⟩])
    (.seq (.seq (.reg [⟨.new, (.q .mv), [.t 8], none⟩,
      ⟨.var 12, (.q (.bin .neq)), [.t 14, .c (.int 0)], none⟩])
    (.cond (.t 12) (.seq (.reg [⟨.new, (.q .mv), [.t 8], none⟩,
      ⟨.var 5, (.q .mv), [.c .nils], none⟩,
      ⟨.var 6, (.q .mv), [.t 14], none⟩])
    .ret)
    .skip))
    (.seq (.reg [⟨.var 9, (.q .mv), [.c .nils], none⟩])
    (.seq (.seq (.reg [⟨.new, (.q .mv), [.t 2], none⟩,
      ⟨.new, (.q (.bin .rem)), [.t 14, .c (.int 8)], none⟩,
      ⟨.var 10, (.q .mv), [.t 15], none⟩])
    (.block 0 (.loop (.seq (.seq (.reg [⟨.new, (.q .mv), [.t 10], none⟩,
      ⟨.new, (.q .mv), [.t 2], none⟩,
      ⟨.new, (.q (.bin .rem)), [.t 15, .c (.int 8)], none⟩,
      ⟨.new, (.q .mv), [.t 3], none⟩,
      ⟨.new, (.q (.bin .add)), [.t 16, .t 17], none⟩,
      ⟨.var 13, (.q (.bin .lss)), [.t 14, .t 18], none⟩])
    (.cond (.t 13) .skip
    (.exit 0)))
    (.seq (.block 1 (.reg [⟨.new, (.q .mv), [.t 9], none⟩,
      ⟨.new, (.q .mv), [.t 7], none⟩,
      ⟨.new, (.q .mv), [.t 10], none⟩,
      ⟨.new, (.q (.bin .quo)), [.t 16, .c (.int 8)], none⟩,
      ⟨.new, (.q .idxS), [.t 15, .t 17], none⟩,
      ⟨.new, (.q .mv), [.t 10], none⟩,
      ⟨.new, (.q (.bin .rem)), [.t 19, .c (.int 8)], none⟩,
      ⟨.new, (.q (.cv .u64)), [.t 20], none⟩,
      ⟨.new, (.q (.bin .shr)), [.t 18, .t 21], none⟩,
      ⟨.new, (.q (.bin .rem)), [.t 22, .c (.u8 2)], none⟩,
      ⟨.new, (.q (.bin .eql)), [.t 23, .c (.u8 1)], none⟩,
      ⟨.new, (.e (.bsl 4 .leaf (.bool false) 1 [0])), [.t 24], none⟩,
      ⟨.new, (.e (.app 4 .leaf 1)), [.t 14, .t 25], none⟩,
      ⟨.var 9, (.q .mv), [.t 26], none⟩]))
    (.reg [⟨.new, (.q .mv), [.t 10], none⟩,
      ⟨.new, (.q (.bin .add)), [.t 14, .c (.int 1)], none⟩,
      ⟨.var 10, (.q .mv), [.t 15], none⟩]))))))
    (.seq (.reg [⟨.new, (.q .mv), [.t 9], none⟩,
      ⟨.var 5, (.q .mv), [.t 14], none⟩,
      ⟨.var 6, (.q .mv), [.c (.int 0)], none⟩])
    .ret))))))),
    [.t 5, .t 6]⟩

set_option maxRecDepth 100000
set_option linter.unusedSimpArgs false
set_option linter.unusedVariables false
theorem c46 : cF P [] (drP P []) 46 4 s46.vm = some s46 := by kernel_rfl
theorem c54 : cF P [] (drP P []) 54 4 s54.vm = some s54 := by kernel_rfl
/-- a bit of a stream -/
def gbit (ks : List (BitVec 8)) (lane : BitVec 32) (k : Nat) : Bool := (gB ks lane (k / 8)).getLsbD (k % 8)
theorem pbit {ks : List (BitVec 8)} {lane : BitVec 32} {a m k : Nat} (h : (a % 8 + k) / 8 < m) : sf (part ks lane (a / 8) m) (a % 8 + k) = gbit ks lane (a + k) := by
  unfold sf gbit
  rw [List.getD_eq_getElem?_getD, part_get h, show a / 8 + (a % 8 + k) / 8 = (a + k) / 8 by omega, show (a % 8 + k) % 8 = (a + k) % 8 by omega, Option.getD_some]

theorem f46e {K : AV → Heap → Prop} {H : Heap} {ks : List (BitVec 8)} {lane : BitVec 32} {a n : Int} (hk : ks.length = 32) (hb : a < 0 ∨ n < 0 ∨ 1073741824 < a ∨ 65536 < n) (h : K (.tup [.agg [.int 0, .nils], .int 2]) H) : wpF P [] 46 [.agg (ks.map .u8), .u32 lane, .int a, .int n] H K := by
  refine wpF_go c46 rfl 4 ?_
  intro ha hb'
  simp only [s46]
  by_cases h0 : a < 0
  · (refine gw2 @hk @h0 ?_; try exact True.intro)
    exact h
  by_cases h1 : n < 0
  · (refine gw3 @hk @h0 @h1 ?_; try exact True.intro)
    exact h
  by_cases h2 : 1073741824 < a
  · (refine gw4 @hk @h0 @h1 @h2 ?_; try exact True.intro)
    exact h
  have h3 : 65536 < n := by omega
  (refine gw5 @hk @h0 @h1 @h2 @h3 ?_; try exact True.intro)
  exact h

theorem f46g {K : AV → Heap → Prop} {H : Heap} {ks : List (BitVec 8)} {lane : BitVec 32} {a n : Nat} (hk : ks.length = 32) (hn : n ≤ 65536) (han : a ≤ 1073741824) (h : K (.tup [vec n (cut n fun j => gbit ks lane (a + j)), .int 0]) H) : wpF P [] 46 [.agg (ks.map .u8), .u32 lane, .int (a : Int), .int (n : Int)] H K := by
  refine wpF_go c46 rfl 4 ?_
  intro ha hb
  simp only [s46]
  have h0 : ((a : Int) < 0) = False := by simp
  have h01 : ((n : Int) < 0) = False := by simp
  have h1 : ((1073741824 : Int) < (a : Int)) = False := by simp; omega
  have h2 : ((65536 : Int) < (n : Int)) = False := by simp; omega
  have hm : Int.tmod (a : Int) 8 = ((a % 8 : Nat) : Int) := (Int.ofNat_tmod a 8).symm
  have hd : Int.tdiv (a : Int) 8 = ((a / 8 : Nat) : Int) := (Int.ofNat_tdiv a 8).symm
  have hs : ((a % 8 : Nat) : Int) + (n : Int) + 7 = ((a % 8 + n + 7 : Nat) : Int) := by omega
  have hs1 : ((a % 8 : Nat) : Int) + (n : Int) = ((a % 8 + n : Nat) : Int) := by omega
  have hs2 : ((a % 8 + n : Nat) : Int) + 7 = ((a % 8 + n + 7 : Nat) : Int) := by omega
  have hd2 : Int.tdiv ((a % 8 + n + 7 : Nat) : Int) 8 = (((a % 8 + n + 7) / 8 : Nat) : Int) := (Int.ofNat_tdiv _ 8).symm
  (refine gw10 @hk @h0 @h01 @h1 @h2 @hm @hd @hs1 @hs2 @hd2 ?_; try exact True.intro)
  (repeat (refine And.intro (by omega) ?_))
  refine f45g hk (by omega) (by omega) ?_
  have hpl := part_len (ks := ks) (lane := lane) (a := a / 8) (n := (a % 8 + n + 7) / 8)
  have h8 : 8 * (((a % 8 + n + 7) / 8 : Nat) : Int) = ((8 * ((a % 8 + n + 7) / 8) : Nat) : Int) := by omega
  (refine gw2 @hpl @h8 ?_; try exact True.intro)
  (repeat (refine And.intro (by omega) ?_))
  refine f69 (by omega) (by rw [hpl]; unfold ny; omega) ⟨fun hR => ?_, fun _ => ?_⟩
  · obtain ⟨j, h3, h4⟩ := hR
    rw [sf_out (by rw [hpl]; exact h3)] at h4; cases h4
  simp only [vec]
  (refine gw1 @hs1 ?_; try exact True.intro)
  (repeat (refine And.intro (by omega) ?_))
  refine f73 (by omega) (by omega) (by omega) ?_
  have e : a % 8 + n - a % 8 = n := by omega
  have ef : (cut n fun j => sf (part ks lane (a / 8) ((a % 8 + n + 7) / 8)) (a % 8 + j)) = cut n fun j => gbit ks lane (a + j) := by
    funext j
    unfold cut
    by_cases hj : j < n
    · dsimp only
      rw [pbit (by omega)]
    · simp [hj]
  rw [e, ef]
  simp only [vec] at h ⊢
  (refine gw1 @bndA ?_; try exact True.intro)
  exact h

/-! the reference's -/
theorem f54e {K : AV → Heap → Prop} {H : Heap} {ks : List (BitVec 8)} {lane : BitVec 32} {a n : Int} (hk : ks.length = 32) (hb : a < 0 ∨ n < 0 ∨ 1073741824 < a ∨ 65536 < n) (h : K (.tup [.nils, .int 2]) H) : wpF P [] 54 [.agg (ks.map .u8), .u32 lane, .int a, .int n] H K := by
  refine wpF_go c54 rfl 4 ?_
  intro ha hb'
  simp only [s54]
  by_cases h0 : a < 0
  · (refine gw2 @hk @h0 ?_; try exact True.intro)
    exact h
  by_cases h1 : n < 0
  · (refine gw3 @hk @h0 @h1 ?_; try exact True.intro)
    exact h
  by_cases h3 : 65536 < n
  · (refine gw4 @hk @h0 @h1 @h3 ?_; try exact True.intro)
    exact h
  have h2 : 1073741824 < a := by omega
  (refine gw5 @hk @h0 @h1 @h2 @h3 ?_; try exact True.intro)
  exact h

theorem bit_mod8 (x : BitVec 8) (j : Nat) : decide (x >>> j % 2 = 1) = x.getLsbD j := by
  have e : (x >>> j % 2 = 1) ↔ (x >>> j).toNat % 2 = 1 := by
    rw [← BitVec.toNat_inj, BitVec.toNat_umod]
    exact Iff.rfl
  rw [← BitVec.testBit_toNat, Nat.testBit_eq_decide_div_mod_eq, decide_eq_decide, e, BitVec.toNat_ushiftRight, Nat.shiftRight_eq_div_pow]

def bB (t : Nat) (l : List AV) : Option Blk := some ⟨4, t, true, .arr t .leaf, .agg l⟩
def gbL (ks : List (BitVec 8)) (lane : BitVec 32) (a t : Nat) : List AV := (List.range t).map fun j => .bool (gbit ks lane (a + j))
def I54 (ks : List (BitVec 8)) (lane : BitVec 32) (a n : Nat) (s : List (BitVec 8)) (H : Heap) (k : Nat) (st : St) : Prop :=
  ∃ (t : Nat) (out u : AV) (L : Heap), st = ⟨[.agg (ks.map .u8), .u32 lane, .int (a : Int), .int (n : Int), .ptr H.length 0 [0] (.arr 32 .leaf), .nils, .int 0, .str s, .int 0, out, .int ((a % 8 + t : Nat) : Int), .bool false, .bool false, u],
    H ++ kbx ks :: L⟩ ∧ k = n - t ∧ t ≤ n ∧ ((t = 0 ∧ out = .nils ∧ L = []) ∨ (0 < t ∧ out = .own (H.length + 2) t [] 0 t .leaf ∧ ∃ g J l, L = g :: bB t l :: J ∧ l = gbL ks lane a t))

theorem f54g {K : AV → Heap → Prop} {H : Heap} {ks : List (BitVec 8)} {lane : BitVec 32} {a n : Nat} (hk : ks.length = 32) (hn : n ≤ 65536) (han : a ≤ 1073741824) (h : K (.tup [if n = 0 then .nils else .ro .leaf (gbL ks lane a n), .int 0]) H) : wpF P [] 54 [.agg (ks.map .u8), .u32 lane, .int (a : Int), .int (n : Int)] H K := by
  refine wpF_go c54 rfl 4 ?_
  intro ha hb
  simp only [s54]
  have h0 : ((a : Int) < 0) = False := by simp
  have h01 : ((n : Int) < 0) = False := by simp
  have h1 : ((1073741824 : Int) < (a : Int)) = False := by simp; omega
  have h2 : ((65536 : Int) < (n : Int)) = False := by simp; omega
  have hm : Int.tmod (a : Int) 8 = ((a % 8 : Nat) : Int) := (Int.ofNat_tmod a 8).symm
  have hd : Int.tdiv (a : Int) 8 = ((a / 8 : Nat) : Int) := (Int.ofNat_tdiv a 8).symm
  have hs1 : ((a % 8 : Nat) : Int) + (n : Int) = ((a % 8 + n : Nat) : Int) := by omega
  have hs2 : ((a % 8 + n : Nat) : Int) + 7 = ((a % 8 + n + 7 : Nat) : Int) := by omega
  have hd2 : Int.tdiv ((a % 8 + n + 7 : Nat) : Int) 8 = (((a % 8 + n + 7) / 8 : Nat) : Int) := (Int.ofNat_tdiv _ 8).symm
  (refine gw10 @hk @h0 @h01 @h1 @h2 @hm @hd @hs1 @hs2 @hd2 ?_; try exact True.intro)
  (repeat (refine And.intro (by omega) ?_))
  refine f52g hk (by omega) (by omega) ?_
  have hpl := part_len (ks := ks) (lane := lane) (a := a / 8) (n := (a % 8 + n + 7) / 8)
  have hpb : ∀ t, t < n → ((part ks lane (a / 8) ((a % 8 + n + 7) / 8)).getD ((a % 8 + t) / 8) 0).getLsbD ((a % 8 + t) % 8) = gbit ks lane (a + t) := fun t ht => pbit (by omega)
  generalize part ks lane (a / 8) ((a % 8 + n + 7) / 8) = s at hpl hpb ⊢
  (refine gw1 @hm ?_; try exact True.intro)
  (repeat (refine And.intro (by omega) ?_))
  refine wp_inv (I54 ks lane a n s H) n ⟨0, _, _, [], rfl, rfl, by omega, .inl ⟨rfl, rfl, rfl⟩⟩ ?_
  rintro k st ⟨t, out, u, L, rfl, rfl, ht, hc⟩
  unfold kbx
  by_cases htl : t < n
  · have hlt : (((a % 8 + t : Nat) : Int) < ((a % 8 + n : Nat) : Int)) = True := by simp; omega
    have hm2 : Int.tmod ((a % 8 + t : Nat) : Int) 8 = (((a % 8 + t) % 8 : Nat) : Int) := (Int.ofNat_tmod _ 8).symm
    have hd3 : Int.tdiv ((a % 8 + t : Nat) : Int) 8 = (((a % 8 + t) / 8 : Nat) : Int) := (Int.ofNat_tdiv _ 8).symm
    have hb8 : (BitVec.ofInt 64 (((a % 8 + t) % 8 : Nat) : Int)).toNat = (a % 8 + t) % 8 := by rw [BitVec.toNat_ofInt]; omega
    have hq := hpb t htl
    have hbm := bit_mod8 (s.getD ((a % 8 + t) / 8) 0) ((a % 8 + t) % 8)
    rw [hq] at hbm
    have n2 : ((2 : BitVec 8) = 0) = False := by decide
    have he : ((a % 8 + t : Nat) : Int) + 1 = ((a % 8 + (t + 1) : Nat) : Int) := by omega
    have b1 : (-9223372036854775808 : Int) ≤ ((a % 8 : Nat) : Int) := by omega
    have b2 : ((a % 8 : Nat) : Int) ≤ 9223372036854775807 := by omega
    rcases hc with ⟨ht0, rfl, rfl⟩ | ⟨ht0, rfl, g, J, l, rfl, hl⟩
    · (refine gw9 @hm @hs1 @hlt @hm2 @hd3 @hb8 @hbm @hpl @n2 ?_; try exact True.intro)
      (repeat (refine And.intro (by omega) ?_))
      rw [he]
      subst ht0
      exact ⟨n - 1, by omega, 1, _, _, _, rfl, rfl, by omega, .inr ⟨by omega, rfl, _, [], _, rfl, rfl⟩⟩
    · unfold bB
      (refine gw9 @hm @hs1 @hlt @hm2 @hd3 @hb8 @hbm @hpl @n2 ?_; try exact True.intro)
      (repeat (refine And.intro (by omega) ?_))
      rw [he]
      exact ⟨n - (t + 1), by omega, t + 1, _, _, _, rfl, rfl, by omega, .inr ⟨by omega, rfl, _, _, _, rfl, by rw [hl]; simp [gbL, List.range_succ]⟩⟩
  · have hlt : (((a % 8 + t : Nat) : Int) < ((a % 8 + n : Nat) : Int)) = False := by simp; omega
    have hie : t = n := by omega
    subst hie
    have b1 : (-9223372036854775808 : Int) ≤ ((a % 8 : Nat) : Int) := by omega
    have b2 : ((a % 8 : Nat) : Int) ≤ 9223372036854775807 := by omega
    rcases hc with ⟨ht0, rfl, rfl⟩ | ⟨ht0, rfl, g, J, l, rfl, hl⟩
    · rw [if_pos ht0] at h
      (refine gw3 @hm @hs1 @hlt ?_; try exact True.intro)
      (repeat (refine And.intro (by omega) ?_))
      exact h
    · rw [if_neg (by omega), ← hl] at h
      have mt : ∀ {kp : Nat → Bool} {N : Nat} {h : Heap}, mapO (demK kp N h 2) (List.take t l) = some l := by
        intro kp N h
        rw [List.take_of_length_le (by rw [hl]; simp [gbL]), hl]; exact mapO_bool
      unfold bB
      (refine gw4 @hm @hs1 @hlt @mt ?_; try exact True.intro)
      (repeat (refine And.intro (by omega) ?_))
      exact h
end Go.Proofs.Ytebmlmkiblieiaa
