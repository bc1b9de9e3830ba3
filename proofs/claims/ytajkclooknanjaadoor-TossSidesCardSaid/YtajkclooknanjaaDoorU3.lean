/-
  Layer 27 (commit): the sum that binds, as the program and the reference have it.
-/
import Derived.Test.YtajkclooknanjaaDoorHk
import Derived.Test.YtajkclooknanjaaDoorV38
section
open Go Go.V
namespace Go.Proofs.YtajkclooknanjaaDoor
/-- trefoil/trefoilref08.Fixed (0:x, 1:size, 4:, 6:) -/
def s29 : FnS := ⟨18, [0, 1, 4, 6],
    (.seq (.reg [⟨.var 2, (.q .mv), [.c (.str [])], none⟩])
    (.seq (.seq (.reg [⟨.new, (.q .mv), [.t 1], none⟩,
      ⟨.var 3, (.q (.bin .leq)), [.t 4, .c (.int 0)], none⟩])
    (.cond (.t 3) (.seq (.reg [⟨.var 2, (.q .mv), [.c (.str [])], none⟩])
    .ret)
    .skip))
    (.seq (.draw [⟨.new, (.q .mv), [.t 0], none⟩,
      ⟨.new, (.q (.bin .quo)), [.t 4, .c (.u64 256)], none⟩,
      ⟨.new, (.q .mv), [.t 1], none⟩,
      ⟨.new, (.q (.bin .sub)), [.t 6, .c (.int 1)], none⟩,
      ⟨.new, (.callp 29), [.t 5, .t 7], none⟩,
      ⟨.new, (.q .mv), [.t 0], none⟩,
      ⟨.new, (.q (.bin .rem)), [.t 9, .c (.u64 256)], none⟩,
      ⟨.new, (.q (.cv .u8)), [.t 10], none⟩,
      ⟨.new, (.e (.bsl 5 .leaf (.u8 0) 1 [0])), [.t 11], none⟩,
      ⟨.new, (.q .b2s), [.t 12], none⟩,
      ⟨.new, (.q (.bin .add)), [.t 8, .t 13], none⟩,
      ⟨.var 2, (.q .mv), [.t 14], none⟩])
    .ret))),
    [.t 2]⟩

/-- trefoil/commit.number (0:n, 2:) -/
def s31 : FnS := ⟨16, [0, 2],
    (.seq (.reg [⟨.var 1, (.q .mv), [.c (.str [])], none⟩])
    (.seq (.reg [⟨.new, (.q .mv), [.t 0], none⟩,
      ⟨.new, (.q (.bin .shr)), [.t 2, .c (.u64 24)], none⟩,
      ⟨.new, (.q (.cv .u8)), [.t 3], none⟩,
      ⟨.new, (.q .mv), [.t 0], none⟩,
      ⟨.new, (.q (.bin .shr)), [.t 5, .c (.u64 16)], none⟩,
      ⟨.new, (.q (.cv .u8)), [.t 6], none⟩,
      ⟨.new, (.q .mv), [.t 0], none⟩,
      ⟨.new, (.q (.bin .shr)), [.t 8, .c (.u64 8)], none⟩,
      ⟨.new, (.q (.cv .u8)), [.t 9], none⟩,
      ⟨.new, (.q .mv), [.t 0], none⟩,
      ⟨.new, (.q (.cv .u8)), [.t 11], none⟩,
      ⟨.new, (.e (.bsl 5 .leaf (.u8 0) 4 [0, 1, 2, 3])), [.t 4, .t 7, .t 10, .t 12], none⟩,
      ⟨.new, (.q .b2s), [.t 13], none⟩,
      ⟨.var 1, (.q .mv), [.t 14], none⟩])
    .ret)),
    [.t 1]⟩

/-- trefoil/trefoilref27.Of (0:party, 1:batch, 2:seed, 5:seed, 6:) -/
def s9 : FnS := ⟨17, [0, 1, 2, 5, 6],
    (.seq (.reg [⟨.var 3, (.e (.box 25 (.arr 32 .leaf))), [.t 2], none⟩,
      ⟨.var 4, (.e (.alloc 26 (.arr 32 .leaf) (.agg [(.u8 0), (.u8 0), (.u8 0), (.u8 0), (.u8 0), (.u8 0), (.u8 0), (.u8 0), (.u8 0), (.u8 0), (.u8 0), (.u8 0), (.u8 0), (.u8 0), (.u8 0), (.u8 0), (.u8 0), (.u8 0), (.u8 0), (.u8 0), (.u8 0), (.u8 0), (.u8 0), (.u8 0), (.u8 0), (.u8 0), (.u8 0), (.u8 0), (.u8 0), (.u8 0), (.u8 0), (.u8 0)]))), [], none⟩])
    (.seq (.draw [⟨.new, (.q .mv), [.t 0], none⟩,
      ⟨.new, (.q (.cv .u64)), [.t 5], none⟩,
      ⟨.new, (.call 29), [.t 6, .c (.int 4)], none⟩,
      ⟨.new, (.q .mv), [.t 1], none⟩,
      ⟨.new, (.q (.cv .u64)), [.t 8], none⟩,
      ⟨.new, (.call 29), [.t 9, .c (.int 4)], none⟩,
      ⟨.new, (.q (.slA 32 .leaf false false)), [.t 3], none⟩,
      ⟨.new, (.q .b2s), [.t 11], none⟩,
      ⟨.new, (.e (.bsl 9 .leaf (.str []) 3 [0, 1, 2])), [.t 7, .t 10, .t 12], none⟩,
      ⟨.new, (.call 28), [.c (.str [99, 111, 109, 109, 105, 116]), .t 13], none⟩,
      ⟨.none, (.e (.store (.arr 32 .leaf))), [.t 4, .t 14], none⟩])
    .ret)),
    [.cell 4 (.arr 32 .leaf)]⟩

/-- trefoil/commit.Of (0:party, 1:batch, 2:seed, 5:seed, 6:) -/
def s10 : FnS := ⟨16, [0, 1, 2, 5, 6],
    (.seq (.reg [⟨.var 3, (.e (.box 25 (.arr 32 .leaf))), [.t 2], none⟩,
      ⟨.var 4, (.e (.alloc 26 (.arr 32 .leaf) (.agg [(.u8 0), (.u8 0), (.u8 0), (.u8 0), (.u8 0), (.u8 0), (.u8 0), (.u8 0), (.u8 0), (.u8 0), (.u8 0), (.u8 0), (.u8 0), (.u8 0), (.u8 0), (.u8 0), (.u8 0), (.u8 0), (.u8 0), (.u8 0), (.u8 0), (.u8 0), (.u8 0), (.u8 0), (.u8 0), (.u8 0), (.u8 0), (.u8 0), (.u8 0), (.u8 0), (.u8 0), (.u8 0)]))), [], none⟩])
    (.seq (.draw [⟨.new, (.q .mv), [.t 0], none⟩,
      ⟨.new, (.q (.cv .u32)), [.t 5], none⟩,
      ⟨.new, (.call 31), [.t 6], none⟩,
      ⟨.new, (.q .mv), [.t 1], none⟩,
      ⟨.new, (.call 31), [.t 8], none⟩,
      ⟨.new, (.q (.slA 32 .leaf false false)), [.t 3], none⟩,
      ⟨.new, (.q .b2s), [.t 10], none⟩,
      ⟨.new, (.e (.bsl 9 .leaf (.str []) 3 [0, 1, 2])), [.t 7, .t 9, .t 11], none⟩,
      ⟨.new, (.call 30), [.c (.str [99, 111, 109, 109, 105, 116]), .t 12], none⟩,
      ⟨.none, (.e (.store (.arr 32 .leaf))), [.t 4, .t 13], none⟩])
    .ret)),
    [.cell 4 (.arr 32 .leaf)]⟩

/-- trefoil/commit.Holds (0:d, 1:party, 2:batch, 3:seed, 4:d, 7:seed, 8:) -/
def s11 : FnS := ⟨15, [0, 1, 2, 3, 4, 7, 8],
    (.seq (.reg [⟨.var 4, (.e (.box 26 (.arr 32 .leaf))), [.t 0], none⟩,
      ⟨.var 5, (.e (.box 25 (.arr 32 .leaf))), [.t 3], none⟩,
      ⟨.var 6, (.q .mv), [.c (.bool false)], none⟩])
    (.seq (.draw [⟨.new, (.q .mv), [.t 1], none⟩,
      ⟨.new, (.q .mv), [.t 2], none⟩,
      ⟨.new, (.q (.ld (.arr 32 .leaf))), [.t 5], none⟩,
      ⟨.new, (.call 10), [.t 7, .t 8, .t 9], none⟩,
      ⟨.new, (.q (.ld (.arr 32 .leaf))), [.t 4], none⟩,
      ⟨.new, (.q (.eqA false 32 .u8)), [.t 10, .t 11], none⟩,
      ⟨.var 6, (.q .mv), [.t 12], none⟩])
    .ret)),
    [.t 6]⟩

set_option maxRecDepth 100000
set_option linter.unusedSimpArgs false
set_option linter.unusedVariables false
theorem c29 : cF P G (drP P G) 29 2 s29.vm = some s29 := by kernel_rfl
theorem c31 : cF P G (drP P G) 31 1 s31.vm = some s31 := by kernel_rfl
theorem c9 : cF P G (drP P G) 9 3 s9.vm = some s9 := by kernel_rfl
theorem c10 : cF P G (drP P G) 10 3 s10.vm = some s10 := by kernel_rfl
theorem c11 : cF P G (drP P G) 11 4 s11.vm = some s11 := by kernel_rfl
/-- a number as so many bytes, the highest one first -/
def fx : BitVec 64 → Nat → List (BitVec 8)
  | _, 0 => []
  | x, n + 1 => fx (x / 256) n ++ [(x % 256).setWidth 8]
theorem fx_len : ∀ {n : Nat} {x : BitVec 64}, (fx x n).length = n
  | 0, _ => rfl
  | n + 1, x => by rw [fx, List.length_append, fx_len]; rfl
def num4 (n : BitVec 32) : List (BitVec 8) := [(n >>> 24).setWidth 8, (n >>> 16).setWidth 8, (n >>> 8).setWidth 8, n.setWidth 8]
theorem fx_num (x : BitVec 64) : fx x 4 = num4 (x.setWidth 32) := by
  have h1 : ((x / 256 / 256 / 256) % 256).setWidth 8 = ((x.setWidth 32) >>> 24).setWidth 8 := by
    apply BitVec.eq_of_toNat_eq
    simp only [BitVec.toNat_setWidth, BitVec.toNat_umod, BitVec.toNat_udiv, BitVec.toNat_ushiftRight, Nat.shiftRight_eq_div_pow, show (256 : BitVec 64).toNat = 256 from rfl]
    omega
  have h2 : ((x / 256 / 256) % 256).setWidth 8 = ((x.setWidth 32) >>> 16).setWidth 8 := by
    apply BitVec.eq_of_toNat_eq
    simp only [BitVec.toNat_setWidth, BitVec.toNat_umod, BitVec.toNat_udiv, BitVec.toNat_ushiftRight, Nat.shiftRight_eq_div_pow, show (256 : BitVec 64).toNat = 256 from rfl]
    omega
  have h3 : ((x / 256) % 256).setWidth 8 = ((x.setWidth 32) >>> 8).setWidth 8 := by
    apply BitVec.eq_of_toNat_eq
    simp only [BitVec.toNat_setWidth, BitVec.toNat_umod, BitVec.toNat_udiv, BitVec.toNat_ushiftRight, Nat.shiftRight_eq_div_pow, show (256 : BitVec 64).toNat = 256 from rfl]
    omega
  have h4 : (x % 256).setWidth 8 = (x.setWidth 32).setWidth 8 := by
    apply BitVec.eq_of_toNat_eq
    simp only [BitVec.toNat_setWidth, BitVec.toNat_umod, show (256 : BitVec 64).toNat = 256 from rfl]
    omega
  simp only [fx, num4, List.nil_append, List.cons_append, h1, h2, h3, h4]
theorem fx_int (p : Int) : fx (BitVec.ofInt 64 p) 4 = num4 (BitVec.ofInt 32 p) := by
  rw [fx_num]
  congr 1
  apply BitVec.eq_of_toNat_eq
  rw [BitVec.toNat_setWidth, BitVec.toNat_ofInt, BitVec.toNat_ofInt]
  omega
theorem fx_u32 (b : BitVec 32) : fx (b.setWidth 64) 4 = num4 b := by
  rw [fx_num]
  congr 1
  simp
theorem f29 : ∀ {n : Nat} {K : AV → Heap → Prop} {H : Heap} {x : BitVec 64}, n ≤ 100 → K (.str (fx x n)) H → wpF P G 29 [.u64 x, .int (n : Int)] H K
  | 0, K, H, x, _, h => by
    refine wpF_go c29 rfl 3 ?_
    intro ha hb
    simp only [s29]
    (refine gw0 ?_; try exact True.intro)
    exact h
  | n + 1, K, H, x, hn, h => by
    refine wpF_go c29 rfl 3 ?_
    intro ha hb
    simp only [s29]
    have h1 : (((n + 1 : Nat) : Int) ≤ 0) = False := by simp only [eq_iff_iff, iff_false]; omega
    have e1 : ((n + 1 : Nat) : Int) - 1 = (n : Int) := by omega
    have hl := fx_len (n := n) (x := x / 256)
    (refine gw2 @h1 @e1 ?_; try exact True.intro)
    refine ⟨by decide, ?_⟩
    (repeat (refine And.intro (by omega) ?_))
    refine drawp _ (fun H => f29 (n := n) (by omega) ⟨rfl, rfl⟩) ?_
    (refine gw1 @hl ?_; try exact True.intro)
    refine ⟨by decide, ?_⟩
    (repeat (refine And.intro (by omega) ?_))
    exact h
theorem f31 {K : AV → Heap → Prop} {H : Heap} {n : BitVec 32} (h : K (.str (num4 n)) H) : wpF P G 31 [.u32 n] H K := by
  refine wpF_go c31 rfl 3 ?_
  intro ha hb
  simp only [s31]
  (refine gw0 ?_; try exact True.intro)
  exact h
def tg : List (BitVec 8) := [99, 111, 109, 109, 105, 116]
/-- what binds a party to a seed -/
def com (p : Int) (b : BitVec 32) (s : List (BitVec 8)) : List (BitVec 8) := sha (lg tg ++ lgs [num4 (BitVec.ofInt 32 p), num4 b, s] 3)
theorem com_len {p : Int} {b : BitVec 32} {s : List (BitVec 8)} : (com p b s).length = 32 := sha_len
theorem m8_plain {d : List (BitVec 8)} : (AV.agg (d.map AV.u8)).plain2 = true := by
  simp only [AV.plain2, List.all_map, List.all_eq_true]
  intro x _; rfl
theorem com_sz {p b : BitVec 32} {s : List (BitVec 8)} (hs : s.length = 32) : tg.length + sz [num4 p, num4 b, s] 3 + 3 ≤ 2000000 := by
  simp only [sz, List.getD_cons_zero, List.getD_cons_succ, num4, List.length_cons, List.length_nil, hs, tg]
  omega
theorem f9 {K : AV → Heap → Prop} {H : Heap} {p : Int} {b : BitVec 32} {s : List (BitVec 8)} (hs : s.length = 32) (h : K (.agg ((com p b s).map .u8)) H) : wpF P G 9 [.int p, .u32 b, .agg (s.map .u8)] H K := by
  refine wpF_go c9 rfl 3 ?_
  intro ha hb
  simp only [s9]
  clear ha hb
  have hby : bytesOf (List.take 32 (s.map .u8)) = some s := by
    rw [List.take_of_length_le (by rw [List.length_map, hs]; omega), bytesOf_m]
  (refine gw1 @hs ?_; try exact True.intro)
  refine drawn _ (f29 (n := 4) (by decide) ⟨rfl, rfl⟩) ?_
  (refine gw0 ?_; try exact True.intro)
  refine drawn _ (f29 (n := 4) (by decide) ⟨rfl, rfl⟩) ?_
  (refine gw2 @hs @hby ?_; try exact True.intro)
  refine drawn (.agg ((com p b s).map .u8)) (wpF_lend1 3 ?_) ?_
  · (refine gw0 ?_; try exact True.intro)
    rw [fx_int, fx_u32]
    exact f28 (tag := tg) (ls := [num4 (BitVec.ofInt 32 p), num4 b, s]) (com_sz hs) ⟨m8_plain, rfl, rfl⟩
  · (refine gw0 ?_; try exact True.intro)
    exact ⟨com_len, h⟩
theorem f10 {K : AV → Heap → Prop} {H : Heap} {p : Int} {b : BitVec 32} {s : List (BitVec 8)} (hs : s.length = 32) (h : K (.agg ((com p b s).map .u8)) H) : wpF P G 10 [.int p, .u32 b, .agg (s.map .u8)] H K := by
  refine wpF_go c10 rfl 3 ?_
  intro ha hb
  simp only [s10]
  clear ha hb
  have hby : bytesOf (List.take 32 (s.map .u8)) = some s := by
    rw [List.take_of_length_le (by rw [List.length_map, hs]; omega), bytesOf_m]
  (refine gw1 @hs ?_; try exact True.intro)
  refine drawn _ (f31 ⟨rfl, rfl⟩) ?_
  (refine gw0 ?_; try exact True.intro)
  refine drawn _ (f31 ⟨rfl, rfl⟩) ?_
  (refine gw2 @hs @hby ?_; try exact True.intro)
  refine drawn (.agg ((com p b s).map .u8)) (wpF_lend1 3 ?_) ?_
  · (refine gw0 ?_; try exact True.intro)
    exact f30 (tag := tg) (ls := [num4 (BitVec.ofInt 32 p), num4 b, s]) (com_sz hs) ⟨m8_plain, rfl, rfl⟩
  · (refine gw0 ?_; try exact True.intro)
    exact ⟨com_len, h⟩
theorem f11 {K : AV → Heap → Prop} {H : Heap} {d : List (BitVec 8)} {p : Int} {b : BitVec 32} {s : List (BitVec 8)} (hd : d.length = 32) (hs : s.length = 32) (h : K (.bool (decide (com p b s = d))) H) : wpF P G 11 [.agg (d.map .u8), .int p, .u32 b, .agg (s.map .u8)] H K := by
  refine wpF_go c11 rfl 3 ?_
  intro ha hb
  simp only [s11]
  clear ha hb
  have hc := com_len (p := p) (b := b) (s := s)
  have hi : ((com p b s).map AV.u8 = d.map AV.u8) = (com p b s = d) := by
    simp only [eq_iff_iff]
    refine ⟨fun h => ?_, fun h => by rw [h]⟩
    exact (List.map_inj_right (fun a b h => by injection h)).1 h
  have h10 : ∀ {K : AV → Heap → Prop} {H : Heap}, K (.agg ((com p b s).map .u8)) H → wpF P G 10 [.int p, .u32 b, .agg (s.map .u8)] H K := fun h => f10 hs h
  generalize com p b s = e at *
  (refine gw2 @hd @hs ?_; try exact True.intro)
  refine drawn _ (h10 ⟨rfl, rfl⟩) ?_
  (refine gw3 @hc @hd @hi ?_; try exact True.intro)
  exact ⟨m8_kind, m8_kind, h⟩
end Go.Proofs.YtajkclooknanjaaDoor

end

section
/-
  Layer 27 (commit): a box that a party is bound in; the laws CommitSums and CommitNobody, walked.
-/
open Go Go.V
namespace Go.Proofs.YtajkclooknanjaaDoor
/-- (*trefoil/commit.Box).Bind (0:b, 1:party, 2:batch, 3:d, 7:d, 8:, 9:, 12:) -/
def s14 : FnS := ⟨33, [0, 1, 2, 3, 7, 8, 9, 12],
    (.seq (.reg [⟨.var 4, (.e (.box 26 (.arr 32 .leaf))), [.t 3], none⟩,
      ⟨.var 5, (.q .mv), [.c (.int 0)], none⟩])
    (.seq (.block 0 (.seq (.reg [⟨.new, (.q .mv), [.t 0], none⟩,
      ⟨.new, (.q (.eqP false)), [.t 8, .c .nilp], none⟩,
      ⟨.var 6, (.q .mv), [.t 9], none⟩])
    (.cond (.t 6) (.seq (.reg [⟨.var 5, (.q .mv), [.c (.int 3)], none⟩])
    .ret)
    (.seq (.reg [⟨.new, (.q .mv), [.t 0], none⟩,
      ⟨.new, (.q .nilc), [.t 8], none⟩,
      ⟨.new, (.q (.fa [(.arr 32 .leaf), .leaf, .leaf, .leaf, (.arr 32 .leaf)] 3)), [.t 9], none⟩,
      ⟨.new, (.q (.ld .leaf)), [.t 10], none⟩,
      ⟨.new, (.q (.bin .neq)), [.t 11, .c (.int 0)], none⟩,
      ⟨.var 7, (.q .mv), [.t 12], none⟩])
    (.cond (.t 7) (.seq (.reg [⟨.var 5, (.q .mv), [.c (.int 7)], none⟩])
    .ret)
    .skip)))))
    (.seq (.draw [⟨.none, (.pairs [(6, 9), (6, 12)]), [], none⟩,
      ⟨.new, (.q .mv), [.t 0], none⟩,
      ⟨.new, (.q .mv), [.t 0], none⟩,
      ⟨.new, (.q .mv), [.t 0], none⟩,
      ⟨.new, (.q .mv), [.t 0], none⟩,
      ⟨.new, (.q .mv), [.t 1], none⟩,
      ⟨.new, (.q .mv), [.t 2], none⟩,
      ⟨.new, (.q (.ld (.arr 32 .leaf))), [.t 4], none⟩,
      ⟨.new, (.q .nilc), [.t 8], none⟩,
      ⟨.new, (.q (.fa [(.arr 32 .leaf), .leaf, .leaf, .leaf, (.arr 32 .leaf)] 1)), [.t 15], none⟩,
      ⟨.none, (.e (.store .leaf)), [.t 16, .t 12], none⟩,
      ⟨.new, (.q .nilc), [.t 9], none⟩,
      ⟨.new, (.q (.fa [(.arr 32 .leaf), .leaf, .leaf, .leaf, (.arr 32 .leaf)] 2)), [.t 17], none⟩,
      ⟨.none, (.e (.store .leaf)), [.t 18, .t 13], none⟩,
      ⟨.new, (.q .nilc), [.t 10], none⟩,
      ⟨.new, (.q (.fa [(.arr 32 .leaf), .leaf, .leaf, .leaf, (.arr 32 .leaf)] 0)), [.t 19], none⟩,
      ⟨.none, (.e (.store (.arr 32 .leaf))), [.t 20, .t 14], none⟩,
      ⟨.new, (.q .nilc), [.t 11], none⟩,
      ⟨.new, (.q (.fa [(.arr 32 .leaf), .leaf, .leaf, .leaf, (.arr 32 .leaf)] 3)), [.t 21], none⟩,
      ⟨.none, (.e (.store .leaf)), [.t 22, .c (.int 1)], none⟩])
    (.seq (.reg [⟨.var 5, (.q .mv), [.c (.int 0)], none⟩])
    .ret)))),
    [.t 5]⟩

/-- (*trefoil/commit.Box).Tell (0:b, 1:seed, 3:seed, 4:, 5:, 8:, 14:, 20:) -/
def s16 : FnS := ⟨43, [0, 1, 3, 4, 5, 8, 14, 20],
    (.seq (.reg [⟨.var 2, (.e (.box 25 (.arr 32 .leaf))), [.t 1], none⟩,
      ⟨.var 3, (.q .mv), [.c (.int 0)], none⟩])
    (.seq (.block 0 (.seq (.reg [⟨.new, (.q .mv), [.t 0], none⟩,
      ⟨.new, (.q (.eqP false)), [.t 8, .c .nilp], none⟩,
      ⟨.var 4, (.q .mv), [.t 9], none⟩])
    (.cond (.t 4) (.seq (.reg [⟨.var 3, (.q .mv), [.c (.int 3)], none⟩])
    .ret)
    (.seq (.reg [⟨.new, (.q .mv), [.t 0], none⟩,
      ⟨.new, (.q .nilc), [.t 8], none⟩,
      ⟨.new, (.q (.fa [(.arr 32 .leaf), .leaf, .leaf, .leaf, (.arr 32 .leaf)] 3)), [.t 9], none⟩,
      ⟨.new, (.q (.ld .leaf)), [.t 10], none⟩,
      ⟨.new, (.q (.bin .eql)), [.t 11, .c (.int 0)], none⟩,
      ⟨.var 5, (.q .mv), [.t 12], none⟩])
    (.cond (.t 5) (.seq (.reg [⟨.var 3, (.q .mv), [.c (.int 8)], none⟩])
    .ret)
    (.seq (.reg [⟨.new, (.q .mv), [.t 0], none⟩,
      ⟨.new, (.q .nilc), [.t 8], none⟩,
      ⟨.new, (.q (.fa [(.arr 32 .leaf), .leaf, .leaf, .leaf, (.arr 32 .leaf)] 3)), [.t 9], none⟩,
      ⟨.new, (.q (.ld .leaf)), [.t 10], none⟩,
      ⟨.new, (.q (.bin .eql)), [.t 11, .c (.int 2)], none⟩,
      ⟨.var 6, (.q .mv), [.t 12], none⟩])
    (.cond (.t 6) (.seq (.reg [⟨.var 3, (.q .mv), [.c (.int 7)], none⟩])
    .ret)
    (.seq (.draw [⟨.new, (.q .mv), [.t 0], none⟩,
      ⟨.new, (.q .nilc), [.t 8], none⟩,
      ⟨.new, (.q (.fa [(.arr 32 .leaf), .leaf, .leaf, .leaf, (.arr 32 .leaf)] 0)), [.t 9], none⟩,
      ⟨.new, (.q (.ld (.arr 32 .leaf))), [.t 10], none⟩,
      ⟨.new, (.q .mv), [.t 0], none⟩,
      ⟨.new, (.q .nilc), [.t 12], none⟩,
      ⟨.new, (.q (.fa [(.arr 32 .leaf), .leaf, .leaf, .leaf, (.arr 32 .leaf)] 1)), [.t 13], none⟩,
      ⟨.new, (.q (.ld .leaf)), [.t 14], none⟩,
      ⟨.new, (.q .mv), [.t 0], none⟩,
      ⟨.new, (.q .nilc), [.t 16], none⟩,
      ⟨.new, (.q (.fa [(.arr 32 .leaf), .leaf, .leaf, .leaf, (.arr 32 .leaf)] 2)), [.t 17], none⟩,
      ⟨.new, (.q (.ld .leaf)), [.t 18], none⟩,
      ⟨.new, (.q (.ld (.arr 32 .leaf))), [.t 2], none⟩,
      ⟨.new, (.call 11), [.t 11, .t 15, .t 19, .t 20], none⟩,
      ⟨.new, (.q (.un .not)), [.t 21], none⟩,
      ⟨.var 7, (.q .mv), [.t 22], none⟩])
    (.cond (.t 7) (.seq (.reg [⟨.var 3, (.q .mv), [.c (.int 30)], none⟩])
    .ret)
    .skip)))))))))
    (.seq (.reg [⟨.new, (.q .mv), [.t 0], none⟩,
      ⟨.new, (.q .mv), [.t 0], none⟩,
      ⟨.new, (.q (.ld (.arr 32 .leaf))), [.t 2], none⟩,
      ⟨.new, (.q .nilc), [.t 8], none⟩,
      ⟨.new, (.q (.fa [(.arr 32 .leaf), .leaf, .leaf, .leaf, (.arr 32 .leaf)] 4)), [.t 11], none⟩,
      ⟨.none, (.e (.store (.arr 32 .leaf))), [.t 12, .t 10], none⟩,
      ⟨.new, (.q .nilc), [.t 9], none⟩,
      ⟨.new, (.q (.fa [(.arr 32 .leaf), .leaf, .leaf, .leaf, (.arr 32 .leaf)] 3)), [.t 13], none⟩,
      ⟨.none, (.e (.store .leaf)), [.t 14, .c (.int 2)], none⟩])
    (.seq (.reg [⟨.var 3, (.q .mv), [.c (.int 0)], none⟩])
    .ret)))),
    [.t 3]⟩

/-- (*trefoil/commit.Box).Seed (0:b, 2:, 3:, 12:) -/
def s17 : FnS := ⟨18, [0, 2, 3, 12],
    (.seq (.reg [⟨.var 1, (.e (.alloc 25 (.arr 32 .leaf) (.agg [(.u8 0), (.u8 0), (.u8 0), (.u8 0), (.u8 0), (.u8 0), (.u8 0), (.u8 0), (.u8 0), (.u8 0), (.u8 0), (.u8 0), (.u8 0), (.u8 0), (.u8 0), (.u8 0), (.u8 0), (.u8 0), (.u8 0), (.u8 0), (.u8 0), (.u8 0), (.u8 0), (.u8 0), (.u8 0), (.u8 0), (.u8 0), (.u8 0), (.u8 0), (.u8 0), (.u8 0), (.u8 0)]))), [], none⟩,
      ⟨.var 2, (.q .mv), [.c (.bool false)], none⟩])
    (.seq (.seq (.reg [⟨.new, (.q .mv), [.t 0], none⟩,
      ⟨.new, (.q (.eqP false)), [.t 4, .c .nilp], none⟩,
      ⟨.new, (.q .mv), [.t 5], none⟩,
      ⟨.new, (.q .mv), [.t 0], (some (6, false))⟩,
      ⟨.new, (.q .nilc), [.t 7], (some (6, false))⟩,
      ⟨.new, (.q (.fa [(.arr 32 .leaf), .leaf, .leaf, .leaf, (.arr 32 .leaf)] 3)), [.t 8], (some (6, false))⟩,
      ⟨.new, (.q (.ld .leaf)), [.t 9], (some (6, false))⟩,
      ⟨.new, (.q (.bin .neq)), [.t 10, .c (.int 2)], (some (6, false))⟩,
      ⟨.var 3, (.q .pick), [.t 6, .c (.bool true), .t 11], none⟩])
    (.cond (.t 3) (.seq (.reg [⟨.new, (.e (.bld (.arr 32 .leaf) (.agg [(.u8 0), (.u8 0), (.u8 0), (.u8 0), (.u8 0), (.u8 0), (.u8 0), (.u8 0), (.u8 0), (.u8 0), (.u8 0), (.u8 0), (.u8 0), (.u8 0), (.u8 0), (.u8 0), (.u8 0), (.u8 0), (.u8 0), (.u8 0), (.u8 0), (.u8 0), (.u8 0), (.u8 0), (.u8 0), (.u8 0), (.u8 0), (.u8 0), (.u8 0), (.u8 0), (.u8 0), (.u8 0)]) [])), [], none⟩,
      ⟨.none, (.e (.store (.arr 32 .leaf))), [.t 1, .t 4], none⟩,
      ⟨.var 2, (.q .mv), [.c (.bool false)], none⟩])
    .ret)
    .skip))
    (.seq (.reg [⟨.new, (.q .mv), [.t 0], none⟩,
      ⟨.new, (.q .nilc), [.t 4], none⟩,
      ⟨.new, (.q (.fa [(.arr 32 .leaf), .leaf, .leaf, .leaf, (.arr 32 .leaf)] 4)), [.t 5], none⟩,
      ⟨.new, (.q (.ld (.arr 32 .leaf))), [.t 6], none⟩,
      ⟨.none, (.e (.store (.arr 32 .leaf))), [.t 1, .t 7], none⟩,
      ⟨.var 2, (.q .mv), [.c (.bool true)], none⟩])
    .ret))),
    [.cell 1 (.arr 32 .leaf), .t 2]⟩

/-- (*trefoil/commit.Box).Bound (0:b, 2:) -/
def s18 : FnS := ⟨12, [0, 2],
    (.seq (.reg [⟨.var 1, (.q .mv), [.c (.bool false)], none⟩])
    (.seq (.reg [⟨.new, (.q .mv), [.t 0], none⟩,
      ⟨.new, (.q (.eqP true)), [.t 2, .c .nilp], none⟩,
      ⟨.new, (.q .mv), [.t 3], none⟩,
      ⟨.new, (.q .mv), [.t 0], (some (4, true))⟩,
      ⟨.new, (.q .nilc), [.t 5], (some (4, true))⟩,
      ⟨.new, (.q (.fa [(.arr 32 .leaf), .leaf, .leaf, .leaf, (.arr 32 .leaf)] 3)), [.t 6], (some (4, true))⟩,
      ⟨.new, (.q (.ld .leaf)), [.t 7], (some (4, true))⟩,
      ⟨.new, (.q (.bin .neq)), [.t 8, .c (.int 0)], (some (4, true))⟩,
      ⟨.new, (.q .pick), [.t 4, .t 9, .c (.bool false)], none⟩,
      ⟨.var 1, (.q .mv), [.t 10], none⟩])
    .ret)),
    [.t 1]⟩

/-- trefoil/trefoillaw27.awake (0:, 1:b, 2:s, 3:x, 4:ok, 14:) -/
def s12 : FnS := ⟨32, [0, 1, 2, 3, 4, 14],
    (.seq (.reg [⟨.var 0, (.q .mv), [.c (.bool false)], none⟩])
    (.seq (.reg [⟨.var 1, (.e (.alloc 33 (.st [(.arr 32 .leaf), .leaf, .leaf, .leaf, (.arr 32 .leaf)]) (.agg [(.agg [(.u8 0), (.u8 0), (.u8 0), (.u8 0), (.u8 0), (.u8 0), (.u8 0), (.u8 0), (.u8 0), (.u8 0), (.u8 0), (.u8 0), (.u8 0), (.u8 0), (.u8 0), (.u8 0), (.u8 0), (.u8 0), (.u8 0), (.u8 0), (.u8 0), (.u8 0), (.u8 0), (.u8 0), (.u8 0), (.u8 0), (.u8 0), (.u8 0), (.u8 0), (.u8 0), (.u8 0), (.u8 0)]), (.int 0), (.u32 0), (.int 0), (.agg [(.u8 0), (.u8 0), (.u8 0), (.u8 0), (.u8 0), (.u8 0), (.u8 0), (.u8 0), (.u8 0), (.u8 0), (.u8 0), (.u8 0), (.u8 0), (.u8 0), (.u8 0), (.u8 0), (.u8 0), (.u8 0), (.u8 0), (.u8 0), (.u8 0), (.u8 0), (.u8 0), (.u8 0), (.u8 0), (.u8 0), (.u8 0), (.u8 0), (.u8 0), (.u8 0), (.u8 0), (.u8 0)])]))), [], none⟩])
    (.seq (.reg [⟨.new, (.e (.bld (.arr 32 .leaf) (.agg [(.u8 0), (.u8 0), (.u8 0), (.u8 0), (.u8 0), (.u8 0), (.u8 0), (.u8 0), (.u8 0), (.u8 0), (.u8 0), (.u8 0), (.u8 0), (.u8 0), (.u8 0), (.u8 0), (.u8 0), (.u8 0), (.u8 0), (.u8 0), (.u8 0), (.u8 0), (.u8 0), (.u8 0), (.u8 0), (.u8 0), (.u8 0), (.u8 0), (.u8 0), (.u8 0), (.u8 0), (.u8 0)]) [0])), [.c (.u8 7)], none⟩,
      ⟨.var 2, (.e (.alloc 25 (.arr 32 .leaf) (.agg [(.u8 0), (.u8 0), (.u8 0), (.u8 0), (.u8 0), (.u8 0), (.u8 0), (.u8 0), (.u8 0), (.u8 0), (.u8 0), (.u8 0), (.u8 0), (.u8 0), (.u8 0), (.u8 0), (.u8 0), (.u8 0), (.u8 0), (.u8 0), (.u8 0), (.u8 0), (.u8 0), (.u8 0), (.u8 0), (.u8 0), (.u8 0), (.u8 0), (.u8 0), (.u8 0), (.u8 0), (.u8 0)]))), [], none⟩,
      ⟨.none, (.e (.store (.arr 32 .leaf))), [.t 2, .t 6], none⟩])
    (.seq (.seq (.reg [⟨.new, (.q (.ld (.arr 32 .leaf))), [.t 2], none⟩,
      ⟨.new, (.call 10), [.c (.int 0), .c (.u32 1), .t 6], none⟩,
      ⟨.new, (.call 14), [.t 1, .c (.int 0), .c (.u32 1), .t 7], none⟩,
      ⟨.new, (.q (.bin .neq)), [.t 8, .c (.int 0)], none⟩,
      ⟨.new, (.q .mv), [.t 9], none⟩,
      ⟨.new, (.q (.ld (.arr 32 .leaf))), [.t 2], (some (10, false))⟩,
      ⟨.new, (.call 16), [.t 1, .t 11], (some (10, false))⟩,
      ⟨.new, (.q (.bin .neq)), [.t 12, .c (.int 0)], (some (10, false))⟩,
      ⟨.var 5, (.q .pick), [.t 10, .c (.bool true), .t 13], none⟩])
    (.cond (.t 5) (.seq (.reg [⟨.var 0, (.q .mv), [.c (.bool false)], none⟩])
    .ret)
    .skip))
    (.seq (.reg [⟨.new, (.call 17), [.t 1], none⟩,
      ⟨.new, (.q .mv), [.t 6], none⟩,
      ⟨.new, (.q (.ext 0)), [.t 7], none⟩,
      ⟨.new, (.q (.ext 1)), [.t 7], none⟩,
      ⟨.var 3, (.e (.alloc 25 (.arr 32 .leaf) (.agg [(.u8 0), (.u8 0), (.u8 0), (.u8 0), (.u8 0), (.u8 0), (.u8 0), (.u8 0), (.u8 0), (.u8 0), (.u8 0), (.u8 0), (.u8 0), (.u8 0), (.u8 0), (.u8 0), (.u8 0), (.u8 0), (.u8 0), (.u8 0), (.u8 0), (.u8 0), (.u8 0), (.u8 0), (.u8 0), (.u8 0), (.u8 0), (.u8 0), (.u8 0), (.u8 0), (.u8 0), (.u8 0)]))), [], none⟩,
      ⟨.none, (.e (.store (.arr 32 .leaf))), [.t 3, .t 8], none⟩,
      ⟨.var 4, (.q .mv), [.t 9], none⟩])
    (.seq (.draw [⟨.new, (.q .mv), [.t 4], none⟩,
      ⟨.new, (.q .mv), [.t 6], none⟩,
      ⟨.new, (.q (.ld (.arr 32 .leaf))), [.t 3], (some (7, true))⟩,
      ⟨.new, (.q (.ld (.arr 32 .leaf))), [.t 2], (some (7, true))⟩,
      ⟨.new, (.q (.eqA false 32 .u8)), [.t 8, .t 9], (some (7, true))⟩,
      ⟨.new, (.q .pick), [.t 7, .t 10, .c (.bool false)], none⟩,
      ⟨.new, (.q .mv), [.t 11], none⟩,
      ⟨.new, (.q (.ld (.arr 32 .leaf))), [.t 2], (some (12, true))⟩,
      ⟨.new, (.call 10), [.c (.int 0), .c (.u32 1), .t 13], (some (12, true))⟩,
      ⟨.new, (.q (.ld (.arr 32 .leaf))), [.t 2], (some (12, true))⟩,
      ⟨.new, (.call 9), [.c (.int 0), .c (.u32 1), .t 15], (some (12, true))⟩,
      ⟨.new, (.q (.eqA false 32 .u8)), [.t 14, .t 16], (some (12, true))⟩,
      ⟨.new, (.q .pick), [.t 12, .t 17, .c (.bool false)], none⟩,
      ⟨.var 0, (.q .mv), [.t 18], none⟩])
    .ret)))))),
    [.t 0]⟩

/-- trefoil/trefoillaw27.CommitSums (0:party, 1:batch, 2:seed, 3:d, 4:right, 7:seed, 8:d, 10:, 11:own, 17:) -/
def s3 : FnS := ⟨41, [0, 1, 2, 3, 4, 7, 8, 10, 11, 17],
    (.seq (.reg [⟨.var 5, (.e (.box 25 (.arr 32 .leaf))), [.t 2], none⟩,
      ⟨.var 6, (.e (.box 26 (.arr 32 .leaf))), [.t 3], none⟩,
      ⟨.var 7, (.q .mv), [.c (.bool false)], none⟩])
    (.seq (.reg [⟨.new, (.q .mv), [.t 0], none⟩,
      ⟨.new, (.q (.cv .i64)), [.t 10], none⟩,
      ⟨.new, (.q .mv), [.t 1], none⟩,
      ⟨.new, (.q (.ld (.arr 32 .leaf))), [.t 5], none⟩,
      ⟨.new, (.call 9), [.t 11, .t 12, .t 13], none⟩,
      ⟨.var 8, (.e (.alloc 26 (.arr 32 .leaf) (.agg [(.u8 0), (.u8 0), (.u8 0), (.u8 0), (.u8 0), (.u8 0), (.u8 0), (.u8 0), (.u8 0), (.u8 0), (.u8 0), (.u8 0), (.u8 0), (.u8 0), (.u8 0), (.u8 0), (.u8 0), (.u8 0), (.u8 0), (.u8 0), (.u8 0), (.u8 0), (.u8 0), (.u8 0), (.u8 0), (.u8 0), (.u8 0), (.u8 0), (.u8 0), (.u8 0), (.u8 0), (.u8 0)]))), [], none⟩,
      ⟨.none, (.e (.store (.arr 32 .leaf))), [.t 8, .t 14], none⟩])
    (.seq (.seq (.reg [⟨.var 9, (.q .mv), [.t 4], none⟩])
    (.cond (.t 9) (.reg [⟨.new, (.q (.ld (.arr 32 .leaf))), [.t 8], none⟩,
      ⟨.none, (.e (.store (.arr 32 .leaf))), [.t 6, .t 10], none⟩])
    .skip))
    (.seq (.draw [⟨.new, (.q .mv), [.t 0], none⟩,
      ⟨.new, (.q (.cv .i64)), [.t 10], none⟩,
      ⟨.new, (.q .mv), [.t 1], none⟩,
      ⟨.new, (.q (.ld (.arr 32 .leaf))), [.t 5], none⟩,
      ⟨.new, (.call 10), [.t 11, .t 12, .t 13], none⟩,
      ⟨.new, (.q (.ld (.arr 32 .leaf))), [.t 8], none⟩,
      ⟨.new, (.q (.eqA false 32 .u8)), [.t 14, .t 15], none⟩,
      ⟨.new, (.q .mv), [.t 16], none⟩,
      ⟨.new, (.q (.ld (.arr 32 .leaf))), [.t 6], (some (17, true))⟩,
      ⟨.new, (.q .mv), [.t 0], (some (17, true))⟩,
      ⟨.new, (.q (.cv .i64)), [.t 19], (some (17, true))⟩,
      ⟨.new, (.q .mv), [.t 1], (some (17, true))⟩,
      ⟨.new, (.q (.ld (.arr 32 .leaf))), [.t 5], (some (17, true))⟩,
      ⟨.new, (.call 11), [.t 18, .t 20, .t 21, .t 22], (some (17, true))⟩,
      ⟨.new, (.q (.ld (.arr 32 .leaf))), [.t 6], (some (17, true))⟩,
      ⟨.new, (.q (.ld (.arr 32 .leaf))), [.t 8], (some (17, true))⟩,
      ⟨.new, (.q (.eqA false 32 .u8)), [.t 24, .t 25], (some (17, true))⟩,
      ⟨.new, (.q (.eqB false)), [.t 23, .t 26], (some (17, true))⟩,
      ⟨.new, (.q .pick), [.t 17, .t 27, .c (.bool false)], none⟩,
      ⟨.new, (.q .mv), [.t 28], none⟩,
      ⟨.new, (.call 12), [], (some (29, true))⟩,
      ⟨.new, (.q .pick), [.t 29, .t 30, .c (.bool false)], none⟩,
      ⟨.var 7, (.q .mv), [.t 31], none⟩])
    .ret)))),
    [.t 7]⟩

/-- trefoil/trefoillaw27.CommitNobody (0:d, 1:seed, 2:d, 3:seed, 4:, 5:b, 6:s, 7:ok) -/
def s5 : FnS := ⟨40, [0, 1, 2, 3, 4, 5, 6, 7],
    (.seq (.reg [⟨.var 2, (.e (.box 26 (.arr 32 .leaf))), [.t 0], none⟩,
      ⟨.var 3, (.e (.box 25 (.arr 32 .leaf))), [.t 1], none⟩,
      ⟨.var 4, (.q .mv), [.c (.bool false)], none⟩])
    (.seq (.reg [⟨.var 5, (.q .mv), [.c .nilp], none⟩])
    (.seq (.reg [⟨.new, (.q .mv), [.t 5], none⟩,
      ⟨.new, (.call 17), [.t 8], none⟩,
      ⟨.new, (.q .mv), [.t 9], none⟩,
      ⟨.new, (.q (.ext 0)), [.t 10], none⟩,
      ⟨.new, (.q (.ext 1)), [.t 10], none⟩,
      ⟨.var 6, (.e (.alloc 25 (.arr 32 .leaf) (.agg [(.u8 0), (.u8 0), (.u8 0), (.u8 0), (.u8 0), (.u8 0), (.u8 0), (.u8 0), (.u8 0), (.u8 0), (.u8 0), (.u8 0), (.u8 0), (.u8 0), (.u8 0), (.u8 0), (.u8 0), (.u8 0), (.u8 0), (.u8 0), (.u8 0), (.u8 0), (.u8 0), (.u8 0), (.u8 0), (.u8 0), (.u8 0), (.u8 0), (.u8 0), (.u8 0), (.u8 0), (.u8 0)]))), [], none⟩,
      ⟨.none, (.e (.store (.arr 32 .leaf))), [.t 6, .t 11], none⟩,
      ⟨.var 7, (.q .mv), [.t 12], none⟩])
    (.seq (.reg [⟨.new, (.q .mv), [.t 5], none⟩,
      ⟨.new, (.q (.ld (.arr 32 .leaf))), [.t 2], none⟩,
      ⟨.new, (.call 14), [.t 8, .c (.int 0), .c (.u32 0), .t 9], none⟩,
      ⟨.new, (.q (.bin .eql)), [.t 10, .c (.int 3)], none⟩,
      ⟨.new, (.q .mv), [.t 11], none⟩,
      ⟨.new, (.q .mv), [.t 5], (some (12, true))⟩,
      ⟨.new, (.q (.ld (.arr 32 .leaf))), [.t 3], (some (12, true))⟩,
      ⟨.new, (.call 16), [.t 13, .t 14], (some (12, true))⟩,
      ⟨.new, (.q (.bin .eql)), [.t 15, .c (.int 3)], (some (12, true))⟩,
      ⟨.new, (.q .pick), [.t 12, .t 16, .c (.bool false)], none⟩,
      ⟨.new, (.q .mv), [.t 17], none⟩,
      ⟨.new, (.q (.ld (.arr 32 .leaf))), [.t 6], (some (18, true))⟩,
      ⟨.new, (.e (.bld (.arr 32 .leaf) (.agg [(.u8 0), (.u8 0), (.u8 0), (.u8 0), (.u8 0), (.u8 0), (.u8 0), (.u8 0), (.u8 0), (.u8 0), (.u8 0), (.u8 0), (.u8 0), (.u8 0), (.u8 0), (.u8 0), (.u8 0), (.u8 0), (.u8 0), (.u8 0), (.u8 0), (.u8 0), (.u8 0), (.u8 0), (.u8 0), (.u8 0), (.u8 0), (.u8 0), (.u8 0), (.u8 0), (.u8 0), (.u8 0)]) [])), [], (some (18, true))⟩,
      ⟨.new, (.q (.eqA false 32 .u8)), [.t 19, .t 20], (some (18, true))⟩,
      ⟨.new, (.q .pick), [.t 18, .t 21, .c (.bool false)], none⟩,
      ⟨.new, (.q .mv), [.t 22], none⟩,
      ⟨.new, (.q .mv), [.t 7], (some (23, true))⟩,
      ⟨.new, (.q (.un .not)), [.t 24], (some (23, true))⟩,
      ⟨.new, (.q .pick), [.t 23, .t 25, .c (.bool false)], none⟩,
      ⟨.new, (.q .mv), [.t 26], none⟩,
      ⟨.new, (.q .mv), [.t 5], (some (27, true))⟩,
      ⟨.new, (.call 18), [.t 28], (some (27, true))⟩,
      ⟨.new, (.q (.un .not)), [.t 29], (some (27, true))⟩,
      ⟨.new, (.q .pick), [.t 27, .t 30, .c (.bool false)], none⟩,
      ⟨.new, (.q .mv), [.t 31], none⟩,
      ⟨.new, (.call 12), [], (some (32, true))⟩,
      ⟨.new, (.q .pick), [.t 32, .t 33, .c (.bool false)], none⟩,
      ⟨.var 4, (.q .mv), [.t 34], none⟩])
    .ret)))),
    [.t 4]⟩

set_option maxRecDepth 100000
set_option linter.unusedSimpArgs false
set_option linter.unusedVariables false
theorem c14 : cF P G (drP P G) 14 4 s14.vm = some s14 := by kernel_rfl
theorem c16 : cF P G (drP P G) 16 2 s16.vm = some s16 := by kernel_rfl
theorem c17 : cF P G (drP P G) 17 1 s17.vm = some s17 := by kernel_rfl
theorem c18 : cF P G (drP P G) 18 1 s18.vm = some s18 := by kernel_rfl
theorem c12 : cF P G (drP P G) 12 0 s12.vm = some s12 := by kernel_rfl
theorem c3 : cF P G (drP P G) 3 5 s3.vm = some s3 := by kernel_rfl
theorem c5 : cF P G (drP P G) 5 2 s5.vm = some s5 := by kernel_rfl
abbrev bxS : Shape := .st [.arr 32 .leaf, .leaf, .leaf, .leaf, .arr 32 .leaf]
/-- a box: what a party was bound to, who, in which batch, the state, the seed -/
structure Bx where
  d : List (BitVec 8)
  p : Int
  b : BitVec 32
  s : Int
  x : List (BitVec 8)
def Bx.ok (z : Bx) : Prop := z.d.length = 32 ∧ z.x.length = 32
def bxA (z : Bx) : AV := .agg [.agg (z.d.map .u8), .int z.p, .u32 z.b, .int z.s, .agg (z.x.map .u8)]
def bxB (z : Bx) : Option Blk := some ⟨33, 0, false, .arr 1 bxS, .agg [bxA z]⟩
/-- what Bind makes of it -/
def bind (z : Bx) (p : Int) (b : BitVec 32) (d : List (BitVec 8)) : Bx := if z.s = 0 then ⟨d, p, b, 1, z.x⟩ else z
def bindE (z : Bx) : Int := if z.s = 0 then 0 else 7
theorem bx_bnd {z : Bx} {k : Nat} : (AV.agg [bxA z]).bnd k = true := by
  simp only [bxA, AV.bnd, AV.bnds, bnds_u8', Bool.and_true]
theorem f14 {K : AV → Heap → Prop} {H0 L : Heap} {z : Bx} {p : Int} {b : BitVec 32} {d : List (BitVec 8)} (hd : d.length = 32) (hz : z.ok) (h : K (.int (bindE z)) (H0 ++ bxB (bind z p b d) :: L)) :
    wpF P G 14 [.ptr H0.length 0 [0] bxS, .int p, .u32 b, .agg (d.map .u8)] (H0 ++ bxB z :: L) K := by
  refine wpF_goM c14 rfl ?_
  intro hA hB
  simp only [s14]
  obtain ⟨hz1, hz2⟩ := hz
  by_cases h0 : z.s = 0
  · have e1 : bind z p b d = ⟨d, p, b, 1, z.x⟩ := if_pos h0
    have e2 : bindE z = 0 := if_pos h0
    rw [e1, e2] at h
    unfold bxB bxA
    (refine gw7 @h0 @hd @hz1 @hz2 @Kmut_n @Kmut_r @Km2_s ?_; try exact True.intro)
    refine ⟨by omega, ?_⟩
    exact mut_fin (E := [some ⟨26, 0, false, .arr 1 (.arr 32 .leaf), .agg [.agg (d.map .u8)]⟩]) hB (y := bxB ⟨d, p, b, 1, z.x⟩) (by rintro k blk h; cases h; exact bx_bnd) h
  · have e1 : bind z p b d = z := if_neg h0
    have e2 : bindE z = 7 := if_neg h0
    rw [e1, e2] at h
    unfold bxB bxA
    (refine gw7 @h0 @hd @hz1 @hz2 @Kmut_n @Kmut_r @Km2_s ?_; try exact True.intro)
    refine ⟨by omega, ?_⟩
    exact mut_fin (E := [some ⟨26, 0, false, .arr 1 (.arr 32 .leaf), .agg [.agg (d.map .u8)]⟩]) hB (y := bxB z) (by rintro k blk h; cases h; exact bx_bnd) h
theorem f14n {K : AV → Heap → Prop} {H : Heap} {p : Int} {b : BitVec 32} {d : List (BitVec 8)} (hd : d.length = 32) (h : K (.int 3) H) : wpF P G 14 [.nilp, .int p, .u32 b, .agg (d.map .u8)] H K := by
  refine wpF_go c14 rfl 3 ?_
  intro hA hB
  simp only [s14]
  (refine gw1 @hd ?_; try exact True.intro)
  exact h
/-- what Tell makes of it -/
def tell (z : Bx) (x : List (BitVec 8)) : Bx := if z.s = 0 then z else if z.s = 2 then z else if com z.p z.b x = z.d then ⟨z.d, z.p, z.b, 2, x⟩ else z
def tellE (z : Bx) (x : List (BitVec 8)) : Int := if z.s = 0 then 8 else if z.s = 2 then 7 else if com z.p z.b x = z.d then 0 else 30
theorem f16 {K : AV → Heap → Prop} {H0 L : Heap} {z : Bx} {x : List (BitVec 8)} (hx : x.length = 32) (hz : z.ok) (h : K (.int (tellE z x)) (H0 ++ bxB (tell z x) :: L)) :
    wpF P G 16 [.ptr H0.length 0 [0] bxS, .agg (x.map .u8)] (H0 ++ bxB z :: L) K := by
  refine wpF_goM c16 rfl ?_
  intro hA hB
  simp only [s16]
  obtain ⟨hz1, hz2⟩ := hz
  have key : ∀ z', K (.int (tellE z x)) (H0 ++ bxB z' :: L) → List.length H0 + (List.length L + 1) ≤ List.length H0 + (List.length L + 1 + 1) ∧ HBnd (List.length H0 + (List.length L + 1)) (H0 ++ bxB z' :: (L ++ [some ⟨25, 0, false, .arr 1 (.arr 32 .leaf), .agg [.agg (x.map .u8)]⟩])) ∧ K (.int (tellE z x)) (List.take (List.length H0 + (List.length L + 1)) (H0 ++ bxB z' :: (L ++ [some ⟨25, 0, false, .arr 1 (.arr 32 .leaf), .agg [.agg (x.map .u8)]⟩]))) := by
    intro z' h
    refine ⟨by omega, ?_⟩
    exact mut_fin (E := [some ⟨25, 0, false, .arr 1 (.arr 32 .leaf), .agg [.agg (x.map .u8)]⟩]) hB (y := bxB z') (by rintro k blk h; cases h; exact bx_bnd) h
  unfold bxB at key
  by_cases h0 : z.s = 0
  · have e1 : tell z x = z := if_pos h0
    have e2 : tellE z x = 8 := if_pos h0
    rw [e1] at h
    have k := key z h
    rw [e2] at k
    clear key
    unfold bxB bxA at *
    rw [h0] at k
    (refine gw7 @h0 @hx @hz1 @hz2 @Kmut_n @Kmut_r @Km2_s ?_; try exact True.intro)
    exact k
  · by_cases h2 : z.s = 2
    · have e1 : tell z x = z := by unfold tell; rw [if_neg h0, if_pos h2]
      have e2 : tellE z x = 7 := by unfold tellE; rw [if_neg h0, if_pos h2]
      rw [e1] at h
      have k := key z h
      rw [e2] at k
      clear key
      have h0' : ¬ ((2 : Int) = 0) := by decide
      unfold bxB bxA at *
      rw [h2] at k
      (refine gw8 @h0' @h2 @hx @hz1 @hz2 @Kmut_n @Kmut_r @Km2_s ?_; try exact True.intro)
      exact k
    · by_cases hc : com z.p z.b x = z.d
      · have e1 : tell z x = ⟨z.d, z.p, z.b, 2, x⟩ := by unfold tell; rw [if_neg h0, if_neg h2, if_pos hc]
        have e2 : tellE z x = 0 := by unfold tellE; rw [if_neg h0, if_neg h2, if_pos hc]
        rw [e1] at h
        have k := key ⟨z.d, z.p, z.b, 2, x⟩ h
        rw [e2] at k
        clear key
        unfold bxB bxA at *
        (refine gw8 @h0 @h2 @hx @hz1 @hz2 @Kmut_n @Kmut_r @Km2_s ?_; try exact True.intro)
        refine drawn _ (f11 hz1 hx ⟨rfl, rfl⟩) ?_
        rw [decide_eq_true hc]
        (refine gw6 @hx @hz1 @hz2 @Kmut_n @Kmut_r @Km2_s ?_; try exact True.intro)
        exact k
      · have e1 : tell z x = z := by unfold tell; rw [if_neg h0, if_neg h2, if_neg hc]
        have e2 : tellE z x = 30 := by unfold tellE; rw [if_neg h0, if_neg h2, if_neg hc]
        rw [e1] at h
        have k := key z h
        rw [e2] at k
        clear key
        unfold bxB bxA at *
        (refine gw8 @h0 @h2 @hx @hz1 @hz2 @Kmut_n @Kmut_r @Km2_s ?_; try exact True.intro)
        refine drawn _ (f11 hz1 hx ⟨rfl, rfl⟩) ?_
        rw [decide_eq_false hc]
        (refine gw6 @hx @hz1 @hz2 @Kmut_n @Kmut_r @Km2_s ?_; try exact True.intro)
        exact k
theorem f16n {K : AV → Heap → Prop} {H : Heap} {x : List (BitVec 8)} (hd : x.length = 32) (h : K (.int 3) H) : wpF P G 16 [.nilp, .agg (x.map .u8)] H K := by
  refine wpF_go c16 rfl 3 ?_
  intro hA hB
  simp only [s16]
  (refine gw1 @hd ?_; try exact True.intro)
  exact h
def z32 : List (BitVec 8) := List.replicate 32 0
def sdX (z : Bx) : List (BitVec 8) := if z.s = 2 then z.x else z32
theorem f17 {K : AV → Heap → Prop} {H : Heap} {b : Nat} {z : Bx} (hg : Heap.get H b = bxB z) (hz : z.ok) (h : K (.tup [.agg ((sdX z).map .u8), .bool (decide (z.s = 2))]) H) : wpF P G 17 [.ptr b 0 [0] bxS] H K := by
  refine wpF_go c17 rfl 3 ?_
  intro hA hB
  simp only [s17]
  clear hA hB
  obtain ⟨hz1, hz2⟩ := hz
  have hbl : b < H.length := Heap.get_lt hg
  have hgX : ∀ X : List (Option Blk), Heap.get (H ++ X) b = bxB z := fun X => Heap.get_some_append hg
  unfold bxB bxA at hgX
  by_cases h2 : z.s = 2
  · have e1 : sdX z = z.x := if_pos h2
    rw [e1, decide_eq_true h2] at h
    (refine gw4 @hgX @h2 @hz1 @hz2 ?_; try exact True.intro)
    exact h
  · have e1 : sdX z = z32 := if_neg h2
    rw [e1, decide_eq_false h2] at h
    (refine gw4 @hgX @h2 @hz1 @hz2 ?_; try exact True.intro)
    exact h
theorem f17n {K : AV → Heap → Prop} {H : Heap} (h : K (.tup [.agg [.u8 0, .u8 0, .u8 0, .u8 0, .u8 0, .u8 0, .u8 0, .u8 0, .u8 0, .u8 0, .u8 0, .u8 0, .u8 0, .u8 0, .u8 0, .u8 0, .u8 0, .u8 0, .u8 0, .u8 0, .u8 0, .u8 0, .u8 0, .u8 0, .u8 0, .u8 0, .u8 0, .u8 0, .u8 0, .u8 0, .u8 0, .u8 0], .bool false]) H) : wpF P G 17 [.nilp] H K := by
  refine wpF_go c17 rfl 3 ?_
  intro hA hB
  simp only [s17]
  (refine gw0 ?_; try exact True.intro)
  exact h
theorem f18 {K : AV → Heap → Prop} {H : Heap} {b : Nat} {z : Bx} (hg : Heap.get H b = bxB z) (h : K (.bool (!decide (z.s = 0))) H) : wpF P G 18 [.ptr b 0 [0] bxS] H K := by
  refine wpF_go c18 rfl 3 ?_
  intro hA hB
  simp only [s18]
  clear hA hB
  unfold bxB bxA at hg
  (refine gw1 @hg ?_; try exact True.intro)
  exact h
theorem f18n {K : AV → Heap → Prop} {H : Heap} (h : K (.bool false) H) : wpF P G 18 [.nilp] H K := by
  refine wpF_go c18 rfl 3 ?_
  intro hA hB
  simp only [s18]
  (refine gw0 ?_; try exact True.intro)
  exact h
def sdE : List (BitVec 8) := 7 :: List.replicate 31 0
def z0 : Bx := ⟨z32, 0, 0, 0, z32⟩
theorem f12 {K : AV → Heap → Prop} {H : Heap} (h : K (.bool true) H) : wpF P G 12 [] H K := by
  refine wpF_go c12 rfl 3 ?_
  intro hA hB
  simp only [s12]
  clear hA hB
  have hs7 : sdE.length = 32 := rfl
  have hcl := com_len (p := 0) (b := 1) (s := sdE)
  have h9 : ∀ {K : AV → Heap → Prop} {H : Heap}, K (.agg ((com 0 1 sdE).map .u8)) H → wpF P G 9 [.int 0, .u32 1, .agg (sdE.map .u8)] H K := fun h => f9 rfl h
  have h10 : ∀ {K : AV → Heap → Prop} {H : Heap}, K (.agg ((com 0 1 sdE).map .u8)) H → wpF P G 10 [.int 0, .u32 1, .agg (sdE.map .u8)] H K := fun h => f10 rfl h
  have hcom : com (0 : Int) (1 : BitVec 32) sdE = com 0 1 sdE := rfl
  (refine gw0 ?_; try exact True.intro)
  refine h10 ?_
  have ht : tell ⟨com 0 1 sdE, 0, 1, 1, z32⟩ sdE = ⟨com 0 1 sdE, 0, 1, 2, sdE⟩ := by unfold tell; simp
  have hte : tellE ⟨com 0 1 sdE, 0, 1, 1, z32⟩ sdE = 0 := by unfold tellE; simp
  generalize com 0 1 sdE = cc at *
  (refine gw1 @hcl ?_; try exact True.intro)
  refine f14 (z := z0) (H0 := H) (d := cc) hcl ⟨rfl, rfl⟩ ?_
  rw [show bind z0 0 1 cc = ⟨cc, 0, 1, 1, z32⟩ from rfl, show bindE z0 = 0 from rfl]
  (refine gw1 @hcl ?_; try exact True.intro)
  refine f16 (z := ⟨cc, 0, 1, 1, z32⟩) (H0 := H) (x := sdE) rfl ⟨hcl, rfl⟩ ?_
  rw [ht, hte]
  (refine gw1 @hcl ?_; try exact True.intro)
  refine f17 (z := ⟨cc, 0, 1, 2, sdE⟩) (by rw [hget_0, hget_z]) ⟨hcl, rfl⟩ ?_
  rw [show sdX ⟨cc, 0, 1, 2, sdE⟩ = sdE from rfl, show decide ((2 : Int) = 2) = true from rfl]
  rw [show sdE.map AV.u8 = [.u8 7, .u8 0, .u8 0, .u8 0, .u8 0, .u8 0, .u8 0, .u8 0, .u8 0, .u8 0, .u8 0, .u8 0, .u8 0, .u8 0, .u8 0, .u8 0, .u8 0, .u8 0, .u8 0, .u8 0, .u8 0, .u8 0, .u8 0, .u8 0, .u8 0, .u8 0, .u8 0, .u8 0, .u8 0, .u8 0, .u8 0, .u8 0] from rfl]
  (refine gw1 @hcl ?_; try exact True.intro)
  refine ⟨rfl, rfl, ?_⟩
  refine drawn _ (h10 ⟨rfl, rfl⟩) ?_
  (refine gw1 @hcl ?_; try exact True.intro)
  refine drawn _ (h9 ⟨rfl, rfl⟩) ?_
  (refine gw1 @hcl ?_; try exact True.intro)
  exact ⟨m8_kind, h⟩
theorem f3 {K : AV → Heap → Prop} {H : Heap} {p : BitVec 16} {b : BitVec 32} {s d : List (BitVec 8)} {r : Bool} (hs : s.length = 32) (hd : d.length = 32) (h : K (.bool true) H) : wpF P G 3 [.u16 p, .u32 b, .agg (s.map .u8), .agg (d.map .u8), .bool r] H K := by
  refine wpF_go c3 rfl 3 ?_
  intro hA hB
  simp only [s3]
  clear hA hB
  (refine gw2 @hs @hd ?_; try exact True.intro)
  refine f9 hs ?_
  have h10 : ∀ {K : AV → Heap → Prop} {H : Heap}, K (.agg ((com (p.toNat : Int) b s).map .u8)) H → wpF P G 10 [.int (p.toNat : Int), .u32 b, .agg (s.map .u8)] H K := fun h => f10 hs h
  have h11 : ∀ {d : List (BitVec 8)} {K : AV → Heap → Prop} {H : Heap}, d.length = 32 → K (.bool (decide (com (p.toNat : Int) b s = d))) H → wpF P G 11 [.agg (d.map .u8), .int (p.toNat : Int), .u32 b, .agg (s.map .u8)] H K := fun hd h => f11 hd hs h
  have hcl := com_len (p := (p.toNat : Int)) (b := b) (s := s)
  generalize com (p.toNat : Int) b s = cc at *
  have hinj : ∀ {x y : List (BitVec 8)}, x.map AV.u8 = y.map AV.u8 → x = y := fun h => (List.map_inj_right (fun a b h => by injection h)).1 h
  cases r
  · by_cases hcd : cc = d
    · subst hcd
      (refine gw2 @hcl @hs ?_; try exact True.intro)
      refine drawn _ (h10 ⟨rfl, rfl⟩) ?_
      (refine gw2 @hcl @hs ?_; try exact True.intro)
      refine ⟨m8_kind, ?_⟩
      refine drawn _ (h11 hcl ⟨rfl, rfl⟩) ?_
      (refine gw2 @hcl @hs ?_; try exact True.intro)
      refine ⟨m8_kind, ?_⟩
      refine drawn _ (f12 ⟨rfl, rfl⟩) ?_
      (refine gw0 ?_; try exact True.intro)
      exact h
    · have e1 : (cc = d) = False := by simp [hcd]
      have e2 : (d.map AV.u8 = cc.map AV.u8) = False := by simp only [eq_iff_iff, iff_false]; exact fun h => hcd (hinj h).symm
      (refine gw3 @hcl @hs @hd ?_; try exact True.intro)
      refine drawn _ (h10 ⟨rfl, rfl⟩) ?_
      (refine gw3 @hcl @hs @hd ?_; try exact True.intro)
      refine ⟨m8_kind, ?_⟩
      refine drawn _ (h11 hd ⟨rfl, rfl⟩) ?_
      (refine gw5 @hcl @hs @hd @e1 @e2 ?_; try exact True.intro)
      refine ⟨m8_kind, m8_kind, ?_⟩
      refine drawn _ (f12 ⟨rfl, rfl⟩) ?_
      (refine gw0 ?_; try exact True.intro)
      exact h
  · (refine gw3 @hcl @hs @hd ?_; try exact True.intro)
    refine drawn _ (h10 ⟨rfl, rfl⟩) ?_
    (refine gw3 @hcl @hs @hd ?_; try exact True.intro)
    refine ⟨m8_kind, ?_⟩
    refine drawn _ (h11 hcl ⟨rfl, rfl⟩) ?_
    (refine gw2 @hcl @hs ?_; try exact True.intro)
    refine ⟨m8_kind, ?_⟩
    refine drawn _ (f12 ⟨rfl, rfl⟩) ?_
    (refine gw0 ?_; try exact True.intro)
    exact h
theorem f5 {K : AV → Heap → Prop} {H : Heap} {d s : List (BitVec 8)} (hd : d.length = 32) (hs : s.length = 32) (h : K (.bool true) H) : wpF P G 5 [.agg (d.map .u8), .agg (s.map .u8)] H K := by
  refine wpF_go c5 rfl 3 ?_
  intro hA hB
  simp only [s5]
  clear hA hB
  (refine gw2 @hs @hd ?_; try exact True.intro)
  refine f17n ?_
  (refine gw2 @hs @hd ?_; try exact True.intro)
  refine f14n hd ?_
  (refine gw2 @hs @hd ?_; try exact True.intro)
  refine f16n hs ?_
  (refine gw2 @hs @hd ?_; try exact True.intro)
  refine ⟨by rfl, ?_⟩
  refine f18n ?_
  (refine gw2 @hs @hd ?_; try exact True.intro)
  refine f12 ?_
  (refine gw2 @hs @hd ?_; try exact True.intro)
  exact h
end Go.Proofs.YtajkclooknanjaaDoor

end

section
/-
  Layer 28 (toss): a side of a toss, as this seat has it.
-/
open Go Go.V
namespace Go.Proofs.YtajkclooknanjaaDoor
/-- trefoil/toss.Mix (0:zero, 1:one, 2:zero, 3:one, 4:, 5:x, 6:i, 7:, 8:) -/
def s33 : FnS := ⟨24, [0, 1, 2, 3, 4, 5, 6, 7, 8],
    (.seq (.reg [⟨.var 2, (.e (.box 25 (.arr 32 .leaf))), [.t 0], none⟩,
      ⟨.var 3, (.e (.box 25 (.arr 32 .leaf))), [.t 1], none⟩,
      ⟨.var 4, (.e (.alloc 25 (.arr 32 .leaf) (.agg [(.u8 0), (.u8 0), (.u8 0), (.u8 0), (.u8 0), (.u8 0), (.u8 0), (.u8 0), (.u8 0), (.u8 0), (.u8 0), (.u8 0), (.u8 0), (.u8 0), (.u8 0), (.u8 0), (.u8 0), (.u8 0), (.u8 0), (.u8 0), (.u8 0), (.u8 0), (.u8 0), (.u8 0), (.u8 0), (.u8 0), (.u8 0), (.u8 0), (.u8 0), (.u8 0), (.u8 0), (.u8 0)]))), [], none⟩])
    (.seq (.reg [⟨.var 5, (.e (.alloc 25 (.arr 32 .leaf) (.agg [(.u8 0), (.u8 0), (.u8 0), (.u8 0), (.u8 0), (.u8 0), (.u8 0), (.u8 0), (.u8 0), (.u8 0), (.u8 0), (.u8 0), (.u8 0), (.u8 0), (.u8 0), (.u8 0), (.u8 0), (.u8 0), (.u8 0), (.u8 0), (.u8 0), (.u8 0), (.u8 0), (.u8 0), (.u8 0), (.u8 0), (.u8 0), (.u8 0), (.u8 0), (.u8 0), (.u8 0), (.u8 0)]))), [], none⟩])
    (.seq (.seq (.reg [⟨.var 7, (.q .mv), [.c (.int 0)], none⟩])
    (.block 0 (.loop (.seq (.reg [⟨.var 8, (.q (.bin .lss)), [.t 7, .c (.int 32)], none⟩])
    (.seq (.cond (.t 8) .skip
    (.exit 0))
    (.seq (.block 1 (.seq (.reg [⟨.new, (.q .mv), [.t 7], none⟩,
      ⟨.var 6, (.q .mv), [.t 9], none⟩])
    (.draw [⟨.new, (.q .mv), [.t 6], none⟩,
      ⟨.new, (.q .mv), [.t 6], none⟩,
      ⟨.new, (.q (.iaA 32 .leaf)), [.t 2, .t 10], none⟩,
      ⟨.new, (.q (.ld .leaf)), [.t 11], none⟩,
      ⟨.new, (.q .mv), [.t 6], none⟩,
      ⟨.new, (.q (.iaA 32 .leaf)), [.t 3, .t 13], none⟩,
      ⟨.new, (.q (.ld .leaf)), [.t 14], none⟩,
      ⟨.new, (.q (.bin .xor)), [.t 12, .t 15], none⟩,
      ⟨.new, (.q (.iaA 32 .leaf)), [.t 5, .t 9], none⟩,
      ⟨.none, (.e (.store .leaf)), [.t 17, .t 16], none⟩])))
    (.reg [⟨.new, (.q (.bin .add)), [.t 7, .c (.int 1)], none⟩,
      ⟨.var 7, (.q .mv), [.t 9], none⟩])))))))
    (.seq (.reg [⟨.new, (.q (.slA 32 .leaf false false)), [.t 5], none⟩,
      ⟨.new, (.q .b2s), [.t 9], none⟩,
      ⟨.new, (.e (.bsl 9 .leaf (.str []) 1 [0])), [.t 10], none⟩,
      ⟨.new, (.call 30), [.c (.str [99, 111, 105, 110]), .t 11], none⟩,
      ⟨.none, (.e (.store (.arr 32 .leaf))), [.t 4, .t 12], none⟩])
    .ret)))),
    [.cell 4 (.arr 32 .leaf)]⟩

/-- trefoil/trefoilref28.Mix (0:zero, 1:one, 2:zero, 3:one, 4:, 5:b, 6:i, 8:) -/
def s27 : FnS := ⟨25, [0, 1, 2, 3, 4, 5, 6, 8],
    (.seq (.reg [⟨.var 2, (.e (.box 25 (.arr 32 .leaf))), [.t 0], none⟩,
      ⟨.var 3, (.e (.box 25 (.arr 32 .leaf))), [.t 1], none⟩,
      ⟨.var 4, (.e (.alloc 25 (.arr 32 .leaf) (.agg [(.u8 0), (.u8 0), (.u8 0), (.u8 0), (.u8 0), (.u8 0), (.u8 0), (.u8 0), (.u8 0), (.u8 0), (.u8 0), (.u8 0), (.u8 0), (.u8 0), (.u8 0), (.u8 0), (.u8 0), (.u8 0), (.u8 0), (.u8 0), (.u8 0), (.u8 0), (.u8 0), (.u8 0), (.u8 0), (.u8 0), (.u8 0), (.u8 0), (.u8 0), (.u8 0), (.u8 0), (.u8 0)]))), [], none⟩])
    (.seq (.reg [⟨.var 5, (.q .mv), [.c .nils], none⟩])
    (.seq (.seq (.reg [⟨.var 6, (.q .mv), [.c (.int 0)], none⟩])
    (.block 0 (.loop (.seq (.seq (.reg [⟨.new, (.q .mv), [.t 6], none⟩,
      ⟨.var 7, (.q (.bin .lss)), [.t 8, .c (.int 32)], none⟩])
    (.cond (.t 7) .skip
    (.exit 0)))
    (.seq (.block 1 (.draw [⟨.new, (.q .mv), [.t 5], none⟩,
      ⟨.new, (.q .mv), [.t 6], none⟩,
      ⟨.new, (.q (.iaA 32 .leaf)), [.t 2, .t 9], none⟩,
      ⟨.new, (.q (.ld .leaf)), [.t 10], none⟩,
      ⟨.new, (.q .mv), [.t 6], none⟩,
      ⟨.new, (.q (.iaA 32 .leaf)), [.t 3, .t 12], none⟩,
      ⟨.new, (.q (.ld .leaf)), [.t 13], none⟩,
      ⟨.new, (.q (.bin .xor)), [.t 11, .t 14], none⟩,
      ⟨.new, (.e (.bsl 5 .leaf (.u8 0) 1 [0])), [.t 15], none⟩,
      ⟨.new, (.e (.app 5 .leaf 1)), [.t 8, .t 16], none⟩,
      ⟨.var 5, (.q .mv), [.t 17], none⟩]))
    (.reg [⟨.new, (.q .mv), [.t 6], none⟩,
      ⟨.new, (.q (.bin .add)), [.t 8, .c (.int 1)], none⟩,
      ⟨.var 6, (.q .mv), [.t 9], none⟩]))))))
    (.seq (.reg [⟨.new, (.q .mv), [.t 5], none⟩,
      ⟨.new, (.q .b2s), [.t 8], none⟩,
      ⟨.new, (.e (.bsl 9 .leaf (.str []) 1 [0])), [.t 9], none⟩,
      ⟨.new, (.call 28), [.c (.str [99, 111, 105, 110]), .t 10], none⟩,
      ⟨.none, (.e (.store (.arr 32 .leaf))), [.t 4, .t 11], none⟩])
    .ret)))),
    [.cell 4 (.arr 32 .leaf)]⟩

/-- trefoil/trefoillaw28.awake (0:, 1:x) -/
def s24 : FnS := ⟨22, [0, 1],
    (.seq (.reg [⟨.var 0, (.q .mv), [.c (.bool false)], none⟩])
    (.seq (.reg [⟨.new, (.e (.bld (.arr 32 .leaf) (.agg [(.u8 0), (.u8 0), (.u8 0), (.u8 0), (.u8 0), (.u8 0), (.u8 0), (.u8 0), (.u8 0), (.u8 0), (.u8 0), (.u8 0), (.u8 0), (.u8 0), (.u8 0), (.u8 0), (.u8 0), (.u8 0), (.u8 0), (.u8 0), (.u8 0), (.u8 0), (.u8 0), (.u8 0), (.u8 0), (.u8 0), (.u8 0), (.u8 0), (.u8 0), (.u8 0), (.u8 0), (.u8 0)]) [0])), [.c (.u8 5)], none⟩,
      ⟨.new, (.e (.bld (.arr 32 .leaf) (.agg [(.u8 0), (.u8 0), (.u8 0), (.u8 0), (.u8 0), (.u8 0), (.u8 0), (.u8 0), (.u8 0), (.u8 0), (.u8 0), (.u8 0), (.u8 0), (.u8 0), (.u8 0), (.u8 0), (.u8 0), (.u8 0), (.u8 0), (.u8 0), (.u8 0), (.u8 0), (.u8 0), (.u8 0), (.u8 0), (.u8 0), (.u8 0), (.u8 0), (.u8 0), (.u8 0), (.u8 0), (.u8 0)]) [0])), [.c (.u8 5)], none⟩,
      ⟨.new, (.call 33), [.t 2, .t 3], none⟩,
      ⟨.var 1, (.e (.alloc 25 (.arr 32 .leaf) (.agg [(.u8 0), (.u8 0), (.u8 0), (.u8 0), (.u8 0), (.u8 0), (.u8 0), (.u8 0), (.u8 0), (.u8 0), (.u8 0), (.u8 0), (.u8 0), (.u8 0), (.u8 0), (.u8 0), (.u8 0), (.u8 0), (.u8 0), (.u8 0), (.u8 0), (.u8 0), (.u8 0), (.u8 0), (.u8 0), (.u8 0), (.u8 0), (.u8 0), (.u8 0), (.u8 0), (.u8 0), (.u8 0)]))), [], none⟩,
      ⟨.none, (.e (.store (.arr 32 .leaf))), [.t 1, .t 4], none⟩])
    (.seq (.draw [⟨.new, (.q (.ld (.arr 32 .leaf))), [.t 1], none⟩,
      ⟨.new, (.e (.bld (.arr 32 .leaf) (.agg [(.u8 0), (.u8 0), (.u8 0), (.u8 0), (.u8 0), (.u8 0), (.u8 0), (.u8 0), (.u8 0), (.u8 0), (.u8 0), (.u8 0), (.u8 0), (.u8 0), (.u8 0), (.u8 0), (.u8 0), (.u8 0), (.u8 0), (.u8 0), (.u8 0), (.u8 0), (.u8 0), (.u8 0), (.u8 0), (.u8 0), (.u8 0), (.u8 0), (.u8 0), (.u8 0), (.u8 0), (.u8 0)]) [])), [], none⟩,
      ⟨.new, (.e (.bld (.arr 32 .leaf) (.agg [(.u8 0), (.u8 0), (.u8 0), (.u8 0), (.u8 0), (.u8 0), (.u8 0), (.u8 0), (.u8 0), (.u8 0), (.u8 0), (.u8 0), (.u8 0), (.u8 0), (.u8 0), (.u8 0), (.u8 0), (.u8 0), (.u8 0), (.u8 0), (.u8 0), (.u8 0), (.u8 0), (.u8 0), (.u8 0), (.u8 0), (.u8 0), (.u8 0), (.u8 0), (.u8 0), (.u8 0), (.u8 0)]) [])), [], none⟩,
      ⟨.new, (.call 33), [.t 3, .t 4], none⟩,
      ⟨.new, (.q (.eqA false 32 .u8)), [.t 2, .t 5], none⟩,
      ⟨.new, (.q .mv), [.t 6], none⟩,
      ⟨.new, (.q (.ld (.arr 32 .leaf))), [.t 1], (some (7, true))⟩,
      ⟨.new, (.e (.bld (.arr 32 .leaf) (.agg [(.u8 0), (.u8 0), (.u8 0), (.u8 0), (.u8 0), (.u8 0), (.u8 0), (.u8 0), (.u8 0), (.u8 0), (.u8 0), (.u8 0), (.u8 0), (.u8 0), (.u8 0), (.u8 0), (.u8 0), (.u8 0), (.u8 0), (.u8 0), (.u8 0), (.u8 0), (.u8 0), (.u8 0), (.u8 0), (.u8 0), (.u8 0), (.u8 0), (.u8 0), (.u8 0), (.u8 0), (.u8 0)]) [])), [], (some (7, true))⟩,
      ⟨.new, (.e (.bld (.arr 32 .leaf) (.agg [(.u8 0), (.u8 0), (.u8 0), (.u8 0), (.u8 0), (.u8 0), (.u8 0), (.u8 0), (.u8 0), (.u8 0), (.u8 0), (.u8 0), (.u8 0), (.u8 0), (.u8 0), (.u8 0), (.u8 0), (.u8 0), (.u8 0), (.u8 0), (.u8 0), (.u8 0), (.u8 0), (.u8 0), (.u8 0), (.u8 0), (.u8 0), (.u8 0), (.u8 0), (.u8 0), (.u8 0), (.u8 0)]) [])), [], (some (7, true))⟩,
      ⟨.new, (.call 27), [.t 9, .t 10], (some (7, true))⟩,
      ⟨.new, (.q (.eqA false 32 .u8)), [.t 8, .t 11], (some (7, true))⟩,
      ⟨.new, (.q .pick), [.t 7, .t 12, .c (.bool false)], none⟩,
      ⟨.new, (.q .mv), [.t 13], none⟩,
      ⟨.new, (.q (.ld (.arr 32 .leaf))), [.t 1], (some (14, true))⟩,
      ⟨.new, (.e (.bld (.arr 32 .leaf) (.agg [(.u8 0), (.u8 0), (.u8 0), (.u8 0), (.u8 0), (.u8 0), (.u8 0), (.u8 0), (.u8 0), (.u8 0), (.u8 0), (.u8 0), (.u8 0), (.u8 0), (.u8 0), (.u8 0), (.u8 0), (.u8 0), (.u8 0), (.u8 0), (.u8 0), (.u8 0), (.u8 0), (.u8 0), (.u8 0), (.u8 0), (.u8 0), (.u8 0), (.u8 0), (.u8 0), (.u8 0), (.u8 0)]) [])), [], (some (14, true))⟩,
      ⟨.new, (.q (.eqA true 32 .u8)), [.t 15, .t 16], (some (14, true))⟩,
      ⟨.new, (.q .pick), [.t 14, .t 17, .c (.bool false)], none⟩,
      ⟨.var 0, (.q .mv), [.t 18], none⟩])
    .ret))),
    [.t 0]⟩

set_option maxRecDepth 100000
set_option linter.unusedSimpArgs false
set_option linter.unusedVariables false
theorem c33 : cF P G (drP P G) 33 2 s33.vm = some s33 := by kernel_rfl
theorem c27 : cF P G (drP P G) 27 2 s27.vm = some s27 := by kernel_rfl
theorem c24 : cF P G (drP P G) 24 0 s24.vm = some s24 := by kernel_rfl
abbrev tsS : Shape := .st [.leaf, .leaf, .arr 32 .leaf, bxS, .leaf, .leaf]
/-- a side of a toss, but for the other one's box -/
structure Ts where
  p : Int
  b : BitVec 32
  o : List (BitVec 8)
  g : Bool
  m : Bool
def tsA (t : Ts) (z : Bx) : AV := .agg [.int t.p, .u32 t.b, .agg (t.o.map .u8), bxA z, .bool t.g, .bool t.m]
def tsB (t : Ts) (z : Bx) : Option Blk := some ⟨51, 0, false, .arr 1 tsS, .agg [tsA t z]⟩
theorem ts_bnd {t : Ts} {z : Bx} {k : Nat} : (AV.agg [tsA t z]).bnd k = true := by
  simp only [tsA, bxA, AV.bnd, AV.bnds, bnds_u8', Bool.and_true]
theorem f14t {K : AV → Heap → Prop} {H0 L : Heap} {t : Ts} {z : Bx} {p : Int} {b : BitVec 32} {d : List (BitVec 8)} (hd : d.length = 32) (hz : z.ok) (h : K (.int (bindE z)) (H0 ++ tsB t (bind z p b d) :: L)) :
    wpF P G 14 [.ptr H0.length 0 [0, 3] bxS, .int p, .u32 b, .agg (d.map .u8)] (H0 ++ tsB t z :: L) K := by
  refine wpF_goM c14 rfl ?_
  intro hA hB
  simp only [s14]
  obtain ⟨hz1, hz2⟩ := hz
  by_cases h0 : z.s = 0
  · have e1 : bind z p b d = ⟨d, p, b, 1, z.x⟩ := if_pos h0
    have e2 : bindE z = 0 := if_pos h0
    rw [e1, e2] at h
    unfold tsB tsA bxA
    (refine gw7 @h0 @hd @hz1 @hz2 @Kmut_n @Kmut_r @Km2_s ?_; try exact True.intro)
    refine ⟨by omega, ?_⟩
    exact mut_fin (E := [some ⟨26, 0, false, .arr 1 (.arr 32 .leaf), .agg [.agg (d.map .u8)]⟩]) hB (y := tsB t ⟨d, p, b, 1, z.x⟩) (by rintro k blk h; cases h; exact ts_bnd) h
  · have e1 : bind z p b d = z := if_neg h0
    have e2 : bindE z = 7 := if_neg h0
    rw [e1, e2] at h
    unfold tsB tsA bxA
    (refine gw7 @h0 @hd @hz1 @hz2 @Kmut_n @Kmut_r @Km2_s ?_; try exact True.intro)
    refine ⟨by omega, ?_⟩
    exact mut_fin (E := [some ⟨26, 0, false, .arr 1 (.arr 32 .leaf), .agg [.agg (d.map .u8)]⟩]) hB (y := tsB t z) (by rintro k blk h; cases h; exact ts_bnd) h
theorem f16t {K : AV → Heap → Prop} {H0 L : Heap} {t : Ts} {z : Bx} {x : List (BitVec 8)} (hx : x.length = 32) (hz : z.ok) (h : K (.int (tellE z x)) (H0 ++ tsB t (tell z x) :: L)) :
    wpF P G 16 [.ptr H0.length 0 [0, 3] bxS, .agg (x.map .u8)] (H0 ++ tsB t z :: L) K := by
  refine wpF_goM c16 rfl ?_
  intro hA hB
  simp only [s16]
  obtain ⟨hz1, hz2⟩ := hz
  have key : ∀ z', K (.int (tellE z x)) (H0 ++ tsB t z' :: L) → List.length H0 + (List.length L + 1) ≤ List.length H0 + (List.length L + 1 + 1) ∧ HBnd (List.length H0 + (List.length L + 1)) (H0 ++ tsB t z' :: (L ++ [some ⟨25, 0, false, .arr 1 (.arr 32 .leaf), .agg [.agg (x.map .u8)]⟩])) ∧ K (.int (tellE z x)) (List.take (List.length H0 + (List.length L + 1)) (H0 ++ tsB t z' :: (L ++ [some ⟨25, 0, false, .arr 1 (.arr 32 .leaf), .agg [.agg (x.map .u8)]⟩]))) := by
    intro z' h
    refine ⟨by omega, ?_⟩
    exact mut_fin (E := [some ⟨25, 0, false, .arr 1 (.arr 32 .leaf), .agg [.agg (x.map .u8)]⟩]) hB (y := tsB t z') (by rintro k blk h; cases h; exact ts_bnd) h
  unfold tsB at key
  by_cases h0 : z.s = 0
  · have e1 : tell z x = z := if_pos h0
    have e2 : tellE z x = 8 := if_pos h0
    rw [e1] at h
    have k := key z h
    rw [e2] at k
    clear key
    unfold tsB tsA bxA at *
    rw [h0] at k
    (refine gw7 @h0 @hx @hz1 @hz2 @Kmut_n @Kmut_r @Km2_s ?_; try exact True.intro)
    exact k
  · by_cases h2 : z.s = 2
    · have e1 : tell z x = z := by unfold tell; rw [if_neg h0, if_pos h2]
      have e2 : tellE z x = 7 := by unfold tellE; rw [if_neg h0, if_pos h2]
      rw [e1] at h
      have k := key z h
      rw [e2] at k
      clear key
      have h0' : ¬ ((2 : Int) = 0) := by decide
      unfold tsB tsA bxA at *
      rw [h2] at k
      (refine gw8 @h0' @h2 @hx @hz1 @hz2 @Kmut_n @Kmut_r @Km2_s ?_; try exact True.intro)
      exact k
    · by_cases hc : com z.p z.b x = z.d
      · have e1 : tell z x = ⟨z.d, z.p, z.b, 2, x⟩ := by unfold tell; rw [if_neg h0, if_neg h2, if_pos hc]
        have e2 : tellE z x = 0 := by unfold tellE; rw [if_neg h0, if_neg h2, if_pos hc]
        rw [e1] at h
        have k := key ⟨z.d, z.p, z.b, 2, x⟩ h
        rw [e2] at k
        clear key
        unfold tsB tsA bxA at *
        (refine gw8 @h0 @h2 @hx @hz1 @hz2 @Kmut_n @Kmut_r @Km2_s ?_; try exact True.intro)
        refine drawn _ (f11 hz1 hx ⟨rfl, rfl⟩) ?_
        rw [decide_eq_true hc]
        (refine gw6 @hx @hz1 @hz2 @Kmut_n @Kmut_r @Km2_s ?_; try exact True.intro)
        exact k
      · have e1 : tell z x = z := by unfold tell; rw [if_neg h0, if_neg h2, if_neg hc]
        have e2 : tellE z x = 30 := by unfold tellE; rw [if_neg h0, if_neg h2, if_neg hc]
        rw [e1] at h
        have k := key z h
        rw [e2] at k
        clear key
        unfold tsB tsA bxA at *
        (refine gw8 @h0 @h2 @hx @hz1 @hz2 @Kmut_n @Kmut_r @Km2_s ?_; try exact True.intro)
        refine drawn _ (f11 hz1 hx ⟨rfl, rfl⟩) ?_
        rw [decide_eq_false hc]
        (refine gw6 @hx @hz1 @hz2 @Kmut_n @Kmut_r @Km2_s ?_; try exact True.intro)
        exact k
theorem f17t {K : AV → Heap → Prop} {H : Heap} {b : Nat} {t : Ts} {z : Bx} (hg : Heap.get H b = tsB t z) (hz : z.ok) (h : K (.tup [.agg ((sdX z).map .u8), .bool (decide (z.s = 2))]) H) : wpF P G 17 [.ptr b 0 [0, 3] bxS] H K := by
  refine wpF_go c17 rfl 3 ?_
  intro hA hB
  simp only [s17]
  clear hA hB
  obtain ⟨hz1, hz2⟩ := hz
  have hbl : b < H.length := Heap.get_lt hg
  have hgX : ∀ X : List (Option Blk), Heap.get (H ++ X) b = tsB t z := fun X => Heap.get_some_append hg
  unfold tsB tsA bxA at hgX
  by_cases h2 : z.s = 2
  · have e1 : sdX z = z.x := if_pos h2
    rw [e1, decide_eq_true h2] at h
    (refine gw4 @hgX @h2 @hz1 @hz2 ?_; try exact True.intro)
    exact h
  · have e1 : sdX z = z32 := if_neg h2
    rw [e1, decide_eq_false h2] at h
    (refine gw4 @hgX @h2 @hz1 @hz2 ?_; try exact True.intro)
    exact h
theorem f18t {K : AV → Heap → Prop} {H : Heap} {b : Nat} {t : Ts} {z : Bx} (hg : Heap.get H b = tsB t z) (h : K (.bool (!decide (z.s = 0))) H) : wpF P G 18 [.ptr b 0 [0, 3] bxS] H K := by
  refine wpF_go c18 rfl 3 ?_
  intro hA hB
  simp only [s18]
  clear hA hB
  unfold tsB tsA bxA at hg
  (refine gw1 @hg ?_; try exact True.intro)
  exact h
/-- a list of 32 bytes, filled as far as i -/
def qL (d : List (BitVec 8)) (i : Nat) : List AV := (List.range 32).map fun k => .u8 (if k < i then d.getD k 0 else 0)
theorem qL_len {d : List (BitVec 8)} {i : Nat} : (qL d i).length = 32 := by simp [qL]
theorem qL_set {d : List (BitVec 8)} {i : Nat} (h : i < 32) : (qL d i).set i (.u8 (d.getD i 0)) = qL d (i + 1) := by
  unfold qL
  rw [rng_set]
  refine rng_congr fun k hk => ?_
  by_cases e : k = i
  · rw [if_pos e, e, if_pos (by omega)]
  · rw [if_neg e]
    by_cases h2 : k < i
    · rw [if_pos h2, if_pos (by omega)]
    · rw [if_neg h2, if_neg (by omega)]
theorem qL_all {d : List (BitVec 8)} (hd : d.length = 32) : qL d 32 = d.map .u8 := by
  unfold qL
  apply List.ext_getElem?
  intro k
  by_cases hk : k < 32
  · rw [List.getElem?_map, List.getElem?_range hk, List.getElem?_map, List.getElem?_eq_getElem (by omega)]
    simp only [Option.map_some, if_pos hk, List.getD_eq_getElem?_getD]
    rw [List.getElem?_eq_getElem (by omega)]
    rfl
  · rw [List.getElem?_eq_none (by simp; omega), List.getElem?_eq_none (by rw [List.length_map]; omega)]
/-- bit by bit, of two lists of 32 bytes -/
def xr (a b : List (BitVec 8)) : List (BitVec 8) := (List.range 32).map fun k => a.getD k 0 ^^^ b.getD k 0
theorem xr_len {a b : List (BitVec 8)} : (xr a b).length = 32 := by simp [xr]
theorem xr_at {a b : List (BitVec 8)} {k : Nat} (h : k < 32) : (xr a b).getD k 0 = a.getD k 0 ^^^ b.getD k 0 := by
  unfold xr
  rw [List.getD_eq_getElem?_getD, List.getElem?_map, List.getElem?_range h]; rfl
def tc : List (BitVec 8) := [99, 111, 105, 110]
def mx (a b : List (BitVec 8)) : List (BitVec 8) := sha (lg tc ++ lgs [xr a b] 1)
theorem mx_len {a b : List (BitVec 8)} : (mx a b).length = 32 := sha_len
theorem mx_sz {a b : List (BitVec 8)} : tc.length + sz [xr a b] 1 + 1 ≤ 2000000 := by
  simp only [sz, List.getD_cons_zero, xr_len, tc, List.length_cons, List.length_nil]
  omega
theorem m8_at' {d : List (BitVec 8)} {i : Nat} (h : i < d.length) : (d.map AV.u8)[i]? = some (.u8 (d.getD i 0)) := by
  rw [List.getElem?_map, List.getElem?_eq_getElem h, List.getD_eq_getElem?_getD, List.getElem?_eq_getElem h]
  rfl
def A32 (l : List AV) : Option Blk := some ⟨25, 0, false, .arr 1 (.arr 32 .leaf), .agg [.agg l]⟩
def I33 (a b : List (BitVec 8)) (ar br : AV) (H : Heap) (k : Nat) (st : St) : Prop :=
  ∃ (i : Nat) (u6 u8 : AV), st = ⟨[ar, br, .ptr H.length 0 [0] (.arr 32 .leaf), .ptr (H.length + 1) 0 [0] (.arr 32 .leaf), .ptr (H.length + 2) 0 [0] (.arr 32 .leaf), .ptr (H.length + 3) 0 [0] (.arr 32 .leaf), u6, .int (i : Int), u8], H ++ [A32 (a.map .u8), A32 (b.map .u8), A32 (qL [] 0), A32 (qL (xr a b) i)]⟩ ∧ k = 32 - i ∧ i ≤ 32
theorem f33 {K : AV → Heap → Prop} {H : Heap} {a b : List (BitVec 8)} (ha : a.length = 32) (hb : b.length = 32) (h : K (.agg ((mx a b).map .u8)) H) : wpF P G 33 [.agg (a.map .u8), .agg (b.map .u8)] H K := by
  refine wpF_go c33 rfl 3 ?_
  intro hA hB
  simp only [s33]
  clear hA hB
  (refine gw2 @ha @hb ?_; try exact True.intro)
  refine wp_inv (I33 a b _ _ H) 32 ⟨0, _, _, rfl, rfl, by omega⟩ ?_
  rintro k st ⟨i, u6, u8, rfl, rfl, hi⟩
  unfold A32
  by_cases hil : i < 32
  · have h1 : ((i : Int) < 32) = True := by simp only [eq_iff_iff, iff_true]; omega
    have g1 := m8_at' (d := a) (i := i) (by omega)
    have g2 := m8_at' (d := b) (i := i) (by omega)
    have g3 : (qL (xr a b) i)[i]? = some (.u8 (if i < i then (xr a b).getD i 0 else 0)) := by unfold qL; rw [List.getElem?_map, List.getElem?_range hil]; rfl
    have hx := xr_at (a := a) (b := b) hil
    have hs := qL_set (d := xr a b) hil
    rw [hx] at hs
    (refine gw5 @h1 @g1 @g2 @g3 @hs ?_; try exact True.intro)
    (repeat (refine And.intro (by omega) ?_))
    exact ⟨32 - (i + 1), by omega, i + 1, _, _, rfl, rfl, by omega⟩
  · have h1 : ((i : Int) < 32) = False := by simp only [eq_iff_iff, iff_false]; omega
    have hie : i = 32 := by omega
    subst hie
    rw [qL_all xr_len]
    have hby : bytesOf (List.take 32 ((xr a b).map .u8)) = some (xr a b) := by
      rw [List.take_of_length_le (by rw [List.length_map, xr_len]; omega), bytesOf_m]
    have hxl := xr_len (a := a) (b := b)
    (refine gw3 @h1 @hby @hxl ?_; try exact True.intro)
    refine wpF_lend1 3 ?_
    (refine gw0 ?_; try exact True.intro)
    refine f30 (tag := tc) (ls := [xr a b]) mx_sz ⟨m8_plain, ?_⟩
    have hml := mx_len (a := a) (b := b)
    rw [show sha (lg tc ++ lgs [xr a b] [xr a b].length) = mx a b from rfl]
    generalize mx a b = m at *
    (refine gw1 @hml ?_; try exact True.intro)
    exact h
def u1B (n : Nat) (l : List (BitVec 8)) : Option Blk := some ⟨5, n, true, .arr n .leaf, .agg (l.map .u8)⟩
def I27 (a b : List (BitVec 8)) (ar br : AV) (H : Heap) (k : Nat) (st : St) : Prop :=
  ∃ (i : Nat) (w u7 : AV) (L : Heap), st = ⟨[ar, br, .ptr H.length 0 [0] (.arr 32 .leaf), .ptr (H.length + 1) 0 [0] (.arr 32 .leaf), .ptr (H.length + 2) 0 [0] (.arr 32 .leaf), w, .int (i : Int), u7], H ++ A32 (a.map .u8) :: A32 (b.map .u8) :: A32 (qL [] 0) :: L⟩ ∧ k = 32 - i ∧ i ≤ 32 ∧
    ((i = 0 ∧ w = .nils ∧ L = []) ∨ (0 < i ∧ w = .own (H.length + 4) i [] 0 i .leaf ∧ ∃ g J l, L = g :: u1B i l :: J ∧ l = (xr a b).take i))
theorem xr_take {a b : List (BitVec 8)} {i : Nat} (h : i < 32) : (xr a b).take i ++ [a.getD i 0 ^^^ b.getD i 0] = (xr a b).take (i + 1) := by
  rw [List.take_add_one, List.getElem?_eq_getElem (by rw [xr_len]; exact h), ← xr_at h, List.getD_eq_getElem?_getD, List.getElem?_eq_getElem (by rw [xr_len]; exact h)]
  rfl
theorem f27 {K : AV → Heap → Prop} {H : Heap} {a b : List (BitVec 8)} (ha : a.length = 32) (hb : b.length = 32) (h : K (.agg ((mx a b).map .u8)) H) : wpF P G 27 [.agg (a.map .u8), .agg (b.map .u8)] H K := by
  refine wpF_go c27 rfl 3 ?_
  intro hA hB
  simp only [s27]
  clear hA hB
  (refine gw2 @ha @hb ?_; try exact True.intro)
  refine wp_inv (I27 a b _ _ H) 32 ⟨0, _, _, [], rfl, rfl, by omega, .inl ⟨rfl, rfl, rfl⟩⟩ ?_
  rintro k st ⟨i, w, u7, L, rfl, rfl, hi, hc⟩
  unfold A32
  by_cases hil : i < 32
  · have h1 : ((i : Int) < 32) = True := by simp only [eq_iff_iff, iff_true]; omega
    have g1 := m8_at' (d := a) (i := i) (by omega)
    have g2 := m8_at' (d := b) (i := i) (by omega)
    rcases hc with ⟨hi0, rfl, rfl⟩ | ⟨hi0, rfl, g, J, l, rfl, hl⟩
    · (refine gw3 @h1 @g1 @g2 ?_; try exact True.intro)
      (repeat (refine And.intro (by omega) ?_))
      subst hi0
      exact ⟨31, by omega, 1, _, _, _, rfl, rfl, by omega, .inr ⟨by omega, rfl, _, [], [a.getD 0 0 ^^^ b.getD 0 0], rfl, xr_take (a := a) (b := b) (i := 0) (by omega)⟩⟩
    · have hll : l.length = i := by rw [hl, List.length_take, xr_len]; omega
      have hlm : (l.map AV.u8).length = i := by simpa using hll
      unfold u1B
      (refine gw4 @h1 @g1 @g2 @hlm ?_; try exact True.intro)
      (repeat (refine And.intro (by omega) ?_))
      exact ⟨32 - (i + 1), by omega, i + 1, _, _, _, rfl, rfl, by omega, .inr ⟨by omega, rfl, g, J ++ _, l ++ [a.getD i 0 ^^^ b.getD i 0], by unfold u1B; rw [List.map_append]; rfl, by rw [hl]; exact xr_take hil⟩⟩
  · have h1 : ((i : Int) < 32) = False := by simp only [eq_iff_iff, iff_false]; omega
    have hie : i = 32 := by omega
    subst hie
    rcases hc with ⟨hi0, rfl, rfl⟩ | ⟨hi0, rfl, g, J, l, rfl, hl⟩
    · omega
    have hl' : l = xr a b := by rw [hl]; exact List.take_of_length_le (by rw [xr_len]; omega)
    rw [hl']
    clear hl hl'
    have hby : bytesOf (List.take 32 ((xr a b).map .u8)) = some (xr a b) := by
      rw [List.take_of_length_le (by rw [List.length_map, xr_len]; omega), bytesOf_m]
    have hxl := xr_len (a := a) (b := b)
    unfold u1B
    (refine gw3 @h1 @hby @hxl ?_; try exact True.intro)
    refine wpF_lend1 3 ?_
    (refine gw0 ?_; try exact True.intro)
    refine f28 (tag := tc) (ls := [xr a b]) mx_sz ⟨m8_plain, ?_⟩
    have hml := mx_len (a := a) (b := b)
    rw [show sha (lg tc ++ lgs [xr a b] [xr a b].length) = mx a b from rfl]
    generalize mx a b = m at *
    (refine gw1 @hml ?_; try exact True.intro)
    exact h
theorem mx55 : mx (5 :: List.replicate 31 0) (5 :: List.replicate 31 0) = mx z32 z32 ∧ mx z32 z32 ≠ z32 := by
  decide +kernel
theorem f24 {K : AV → Heap → Prop} {H : Heap} (h : K (.bool true) H) : wpF P G 24 [] H K := by
  refine wpF_go c24 rfl 3 ?_
  intro hA hB
  simp only [s24]
  clear hA hB
  obtain ⟨e1, e2⟩ := mx55
  have h33a : ∀ {K : AV → Heap → Prop} {H : Heap}, K (.agg ((mx z32 z32).map .u8)) H → wpF P G 33 [.agg [.u8 5, .u8 0, .u8 0, .u8 0, .u8 0, .u8 0, .u8 0, .u8 0, .u8 0, .u8 0, .u8 0, .u8 0, .u8 0, .u8 0, .u8 0, .u8 0, .u8 0, .u8 0, .u8 0, .u8 0, .u8 0, .u8 0, .u8 0, .u8 0, .u8 0, .u8 0, .u8 0, .u8 0, .u8 0, .u8 0, .u8 0, .u8 0], .agg [.u8 5, .u8 0, .u8 0, .u8 0, .u8 0, .u8 0, .u8 0, .u8 0, .u8 0, .u8 0, .u8 0, .u8 0, .u8 0, .u8 0, .u8 0, .u8 0, .u8 0, .u8 0, .u8 0, .u8 0, .u8 0, .u8 0, .u8 0, .u8 0, .u8 0, .u8 0, .u8 0, .u8 0, .u8 0, .u8 0, .u8 0, .u8 0]] H K := fun h => f33 (a := 5 :: List.replicate 31 0) (b := 5 :: List.replicate 31 0) rfl rfl (by rw [e1]; exact h)
  have h33b : ∀ {K : AV → Heap → Prop} {H : Heap}, K (.agg ((mx z32 z32).map .u8)) H → wpF P G 33 [.agg [.u8 0, .u8 0, .u8 0, .u8 0, .u8 0, .u8 0, .u8 0, .u8 0, .u8 0, .u8 0, .u8 0, .u8 0, .u8 0, .u8 0, .u8 0, .u8 0, .u8 0, .u8 0, .u8 0, .u8 0, .u8 0, .u8 0, .u8 0, .u8 0, .u8 0, .u8 0, .u8 0, .u8 0, .u8 0, .u8 0, .u8 0, .u8 0], .agg [.u8 0, .u8 0, .u8 0, .u8 0, .u8 0, .u8 0, .u8 0, .u8 0, .u8 0, .u8 0, .u8 0, .u8 0, .u8 0, .u8 0, .u8 0, .u8 0, .u8 0, .u8 0, .u8 0, .u8 0, .u8 0, .u8 0, .u8 0, .u8 0, .u8 0, .u8 0, .u8 0, .u8 0, .u8 0, .u8 0, .u8 0, .u8 0]] H K := fun h => f33 (a := z32) (b := z32) rfl rfl h
  have h27b : ∀ {K : AV → Heap → Prop} {H : Heap}, K (.agg ((mx z32 z32).map .u8)) H → wpF P G 27 [.agg [.u8 0, .u8 0, .u8 0, .u8 0, .u8 0, .u8 0, .u8 0, .u8 0, .u8 0, .u8 0, .u8 0, .u8 0, .u8 0, .u8 0, .u8 0, .u8 0, .u8 0, .u8 0, .u8 0, .u8 0, .u8 0, .u8 0, .u8 0, .u8 0, .u8 0, .u8 0, .u8 0, .u8 0, .u8 0, .u8 0, .u8 0, .u8 0], .agg [.u8 0, .u8 0, .u8 0, .u8 0, .u8 0, .u8 0, .u8 0, .u8 0, .u8 0, .u8 0, .u8 0, .u8 0, .u8 0, .u8 0, .u8 0, .u8 0, .u8 0, .u8 0, .u8 0, .u8 0, .u8 0, .u8 0, .u8 0, .u8 0, .u8 0, .u8 0, .u8 0, .u8 0, .u8 0, .u8 0, .u8 0, .u8 0]] H K := fun h => f27 (a := z32) (b := z32) rfl rfl h
  have hm := mx_len (a := z32) (b := z32)
  have hne : ((mx z32 z32).map AV.u8 = [.u8 0, .u8 0, .u8 0, .u8 0, .u8 0, .u8 0, .u8 0, .u8 0, .u8 0, .u8 0, .u8 0, .u8 0, .u8 0, .u8 0, .u8 0, .u8 0, .u8 0, .u8 0, .u8 0, .u8 0, .u8 0, .u8 0, .u8 0, .u8 0, .u8 0, .u8 0, .u8 0, .u8 0, .u8 0, .u8 0, .u8 0, .u8 0]) = False := by
    simp only [eq_iff_iff, iff_false]
    intro h
    exact e2 ((List.map_inj_right (fun a b h => by injection h)).1 (show (mx z32 z32).map AV.u8 = z32.map AV.u8 from h))
  generalize mx z32 z32 = m at *
  (refine gw0 ?_; try exact True.intro)
  refine h33a ?_
  (refine gw1 @hm ?_; try exact True.intro)
  refine drawn _ (h33b ⟨rfl, rfl⟩) ?_
  (refine gw1 @hm ?_; try exact True.intro)
  refine ⟨m8_kind, ?_⟩
  refine drawn _ (h27b ⟨rfl, rfl⟩) ?_
  (refine gw2 @hm @hne ?_; try exact True.intro)
  exact ⟨m8_kind, m8_kind, rfl, h⟩
end Go.Proofs.YtajkclooknanjaaDoor

end

section
/-
  Layer 28 (toss): what a side answers to every call.
-/
open Go Go.V
namespace Go.Proofs.YtajkclooknanjaaDoor
/-- (*trefoil/toss.Toss).ready (0:t, 2:) -/
def s32 : FnS := ⟨11, [0, 2],
    (.seq (.reg [⟨.var 1, (.q .mv), [.c (.bool false)], none⟩])
    (.seq (.reg [⟨.new, (.q .mv), [.t 0], none⟩,
      ⟨.new, (.q (.eqP true)), [.t 2, .c .nilp], none⟩,
      ⟨.new, (.q .mv), [.t 3], none⟩,
      ⟨.new, (.q .mv), [.t 0], (some (4, true))⟩,
      ⟨.new, (.q .nilc), [.t 5], (some (4, true))⟩,
      ⟨.new, (.q (.fa [.leaf, .leaf, (.arr 32 .leaf), (.st [(.arr 32 .leaf), .leaf, .leaf, .leaf, (.arr 32 .leaf)]), .leaf, .leaf] 5)), [.t 6], (some (4, true))⟩,
      ⟨.new, (.q (.ld .leaf)), [.t 7], (some (4, true))⟩,
      ⟨.new, (.q .pick), [.t 4, .t 8, .c (.bool false)], none⟩,
      ⟨.var 1, (.q .mv), [.t 9], none⟩])
    .ret)),
    [.t 1]⟩

/-- (*trefoil/toss.Toss).Reveal (0:t, 2:, 3:, 4:, 9:) -/
def s19 : FnS := ⟨23, [0, 2, 3, 4, 9],
    (.seq (.reg [⟨.var 1, (.e (.alloc 25 (.arr 32 .leaf) (.agg [(.u8 0), (.u8 0), (.u8 0), (.u8 0), (.u8 0), (.u8 0), (.u8 0), (.u8 0), (.u8 0), (.u8 0), (.u8 0), (.u8 0), (.u8 0), (.u8 0), (.u8 0), (.u8 0), (.u8 0), (.u8 0), (.u8 0), (.u8 0), (.u8 0), (.u8 0), (.u8 0), (.u8 0), (.u8 0), (.u8 0), (.u8 0), (.u8 0), (.u8 0), (.u8 0), (.u8 0), (.u8 0)]))), [], none⟩,
      ⟨.var 2, (.q .mv), [.c (.int 0)], none⟩])
    (.seq (.block 0 (.seq (.reg [⟨.new, (.q .mv), [.t 0], none⟩,
      ⟨.new, (.call 32), [.t 5], none⟩,
      ⟨.new, (.q (.un .not)), [.t 6], none⟩,
      ⟨.var 3, (.q .mv), [.t 7], none⟩])
    (.cond (.t 3) (.seq (.reg [⟨.new, (.e (.bld (.arr 32 .leaf) (.agg [(.u8 0), (.u8 0), (.u8 0), (.u8 0), (.u8 0), (.u8 0), (.u8 0), (.u8 0), (.u8 0), (.u8 0), (.u8 0), (.u8 0), (.u8 0), (.u8 0), (.u8 0), (.u8 0), (.u8 0), (.u8 0), (.u8 0), (.u8 0), (.u8 0), (.u8 0), (.u8 0), (.u8 0), (.u8 0), (.u8 0), (.u8 0), (.u8 0), (.u8 0), (.u8 0), (.u8 0), (.u8 0)]) [])), [], none⟩,
      ⟨.none, (.e (.store (.arr 32 .leaf))), [.t 1, .t 5], none⟩,
      ⟨.var 2, (.q .mv), [.c (.int 3)], none⟩])
    .ret)
    (.seq (.reg [⟨.new, (.q .mv), [.t 0], none⟩,
      ⟨.new, (.q .nilc), [.t 5], none⟩,
      ⟨.new, (.q (.fa [.leaf, .leaf, (.arr 32 .leaf), (.st [(.arr 32 .leaf), .leaf, .leaf, .leaf, (.arr 32 .leaf)]), .leaf, .leaf] 3)), [.t 6], none⟩,
      ⟨.new, (.call 18), [.t 7], none⟩,
      ⟨.new, (.q (.un .not)), [.t 8], none⟩,
      ⟨.var 4, (.q .mv), [.t 9], none⟩])
    (.cond (.t 4) (.seq (.reg [⟨.new, (.e (.bld (.arr 32 .leaf) (.agg [(.u8 0), (.u8 0), (.u8 0), (.u8 0), (.u8 0), (.u8 0), (.u8 0), (.u8 0), (.u8 0), (.u8 0), (.u8 0), (.u8 0), (.u8 0), (.u8 0), (.u8 0), (.u8 0), (.u8 0), (.u8 0), (.u8 0), (.u8 0), (.u8 0), (.u8 0), (.u8 0), (.u8 0), (.u8 0), (.u8 0), (.u8 0), (.u8 0), (.u8 0), (.u8 0), (.u8 0), (.u8 0)]) [])), [], none⟩,
      ⟨.none, (.e (.store (.arr 32 .leaf))), [.t 1, .t 5], none⟩,
      ⟨.var 2, (.q .mv), [.c (.int 8)], none⟩])
    .ret)
    .skip)))))
    (.seq (.reg [⟨.new, (.q .mv), [.t 0], none⟩,
      ⟨.new, (.q .nilc), [.t 5], none⟩,
      ⟨.new, (.q (.fa [.leaf, .leaf, (.arr 32 .leaf), (.st [(.arr 32 .leaf), .leaf, .leaf, .leaf, (.arr 32 .leaf)]), .leaf, .leaf] 4)), [.t 6], none⟩,
      ⟨.none, (.e (.store .leaf)), [.t 7, .c (.bool true)], none⟩])
    (.seq (.reg [⟨.new, (.q .mv), [.t 0], none⟩,
      ⟨.new, (.q .nilc), [.t 5], none⟩,
      ⟨.new, (.q (.fa [.leaf, .leaf, (.arr 32 .leaf), (.st [(.arr 32 .leaf), .leaf, .leaf, .leaf, (.arr 32 .leaf)]), .leaf, .leaf] 2)), [.t 6], none⟩,
      ⟨.new, (.q (.ld (.arr 32 .leaf))), [.t 7], none⟩,
      ⟨.none, (.e (.store (.arr 32 .leaf))), [.t 1, .t 8], none⟩,
      ⟨.var 2, (.q .mv), [.c (.int 0)], none⟩])
    .ret)))),
    [.cell 1 (.arr 32 .leaf), .t 2]⟩

/-- (*trefoil/toss.Toss).Coin (0:t, 2:, 3:, 4:s, 5:ok, 15:, 25:, 31:) -/
def s20 : FnS := ⟨44, [0, 2, 3, 4, 5, 15, 25, 31],
    (.seq (.reg [⟨.var 1, (.e (.alloc 25 (.arr 32 .leaf) (.agg [(.u8 0), (.u8 0), (.u8 0), (.u8 0), (.u8 0), (.u8 0), (.u8 0), (.u8 0), (.u8 0), (.u8 0), (.u8 0), (.u8 0), (.u8 0), (.u8 0), (.u8 0), (.u8 0), (.u8 0), (.u8 0), (.u8 0), (.u8 0), (.u8 0), (.u8 0), (.u8 0), (.u8 0), (.u8 0), (.u8 0), (.u8 0), (.u8 0), (.u8 0), (.u8 0), (.u8 0), (.u8 0)]))), [], none⟩,
      ⟨.var 2, (.q .mv), [.c (.bool false)], none⟩])
    (.seq (.seq (.reg [⟨.new, (.q .mv), [.t 0], none⟩,
      ⟨.new, (.call 32), [.t 8], none⟩,
      ⟨.new, (.q (.un .not)), [.t 9], none⟩,
      ⟨.new, (.q .mv), [.t 10], none⟩,
      ⟨.new, (.q .mv), [.t 0], (some (11, false))⟩,
      ⟨.new, (.q .nilc), [.t 12], (some (11, false))⟩,
      ⟨.new, (.q (.fa [.leaf, .leaf, (.arr 32 .leaf), (.st [(.arr 32 .leaf), .leaf, .leaf, .leaf, (.arr 32 .leaf)]), .leaf, .leaf] 4)), [.t 13], (some (11, false))⟩,
      ⟨.new, (.q (.ld .leaf)), [.t 14], (some (11, false))⟩,
      ⟨.new, (.q (.un .not)), [.t 15], (some (11, false))⟩,
      ⟨.var 5, (.q .pick), [.t 11, .c (.bool true), .t 16], none⟩])
    (.cond (.t 5) (.seq (.reg [⟨.new, (.e (.bld (.arr 32 .leaf) (.agg [(.u8 0), (.u8 0), (.u8 0), (.u8 0), (.u8 0), (.u8 0), (.u8 0), (.u8 0), (.u8 0), (.u8 0), (.u8 0), (.u8 0), (.u8 0), (.u8 0), (.u8 0), (.u8 0), (.u8 0), (.u8 0), (.u8 0), (.u8 0), (.u8 0), (.u8 0), (.u8 0), (.u8 0), (.u8 0), (.u8 0), (.u8 0), (.u8 0), (.u8 0), (.u8 0), (.u8 0), (.u8 0)]) [])), [], none⟩,
      ⟨.none, (.e (.store (.arr 32 .leaf))), [.t 1, .t 8], none⟩,
      ⟨.var 2, (.q .mv), [.c (.bool false)], none⟩])
    .ret)
    .skip))
    (.seq (.reg [⟨.new, (.q .mv), [.t 0], none⟩,
      ⟨.new, (.q .nilc), [.t 8], none⟩,
      ⟨.new, (.q (.fa [.leaf, .leaf, (.arr 32 .leaf), (.st [(.arr 32 .leaf), .leaf, .leaf, .leaf, (.arr 32 .leaf)]), .leaf, .leaf] 3)), [.t 9], none⟩,
      ⟨.new, (.call 17), [.t 10], none⟩,
      ⟨.new, (.q .mv), [.t 11], none⟩,
      ⟨.new, (.q (.ext 0)), [.t 12], none⟩,
      ⟨.new, (.q (.ext 1)), [.t 12], none⟩,
      ⟨.var 3, (.e (.alloc 25 (.arr 32 .leaf) (.agg [(.u8 0), (.u8 0), (.u8 0), (.u8 0), (.u8 0), (.u8 0), (.u8 0), (.u8 0), (.u8 0), (.u8 0), (.u8 0), (.u8 0), (.u8 0), (.u8 0), (.u8 0), (.u8 0), (.u8 0), (.u8 0), (.u8 0), (.u8 0), (.u8 0), (.u8 0), (.u8 0), (.u8 0), (.u8 0), (.u8 0), (.u8 0), (.u8 0), (.u8 0), (.u8 0), (.u8 0), (.u8 0)]))), [], none⟩,
      ⟨.none, (.e (.store (.arr 32 .leaf))), [.t 3, .t 13], none⟩,
      ⟨.var 4, (.q .mv), [.t 14], none⟩])
    (.seq (.seq (.reg [⟨.new, (.q .mv), [.t 4], none⟩,
      ⟨.var 6, (.q (.un .not)), [.t 8], none⟩])
    (.cond (.t 6) (.seq (.reg [⟨.new, (.e (.bld (.arr 32 .leaf) (.agg [(.u8 0), (.u8 0), (.u8 0), (.u8 0), (.u8 0), (.u8 0), (.u8 0), (.u8 0), (.u8 0), (.u8 0), (.u8 0), (.u8 0), (.u8 0), (.u8 0), (.u8 0), (.u8 0), (.u8 0), (.u8 0), (.u8 0), (.u8 0), (.u8 0), (.u8 0), (.u8 0), (.u8 0), (.u8 0), (.u8 0), (.u8 0), (.u8 0), (.u8 0), (.u8 0), (.u8 0), (.u8 0)]) [])), [], none⟩,
      ⟨.none, (.e (.store (.arr 32 .leaf))), [.t 1, .t 8], none⟩,
      ⟨.var 2, (.q .mv), [.c (.bool false)], none⟩])
    .ret)
    .skip))
    (.seq (.seq (.reg [⟨.new, (.q .mv), [.t 0], none⟩,
      ⟨.new, (.q .nilc), [.t 8], none⟩,
      ⟨.new, (.q (.fa [.leaf, .leaf, (.arr 32 .leaf), (.st [(.arr 32 .leaf), .leaf, .leaf, .leaf, (.arr 32 .leaf)]), .leaf, .leaf] 0)), [.t 9], none⟩,
      ⟨.new, (.q (.ld .leaf)), [.t 10], none⟩,
      ⟨.var 7, (.q (.bin .eql)), [.t 11, .c (.int 1)], none⟩])
    (.cond (.t 7) (.seq (.draw [⟨.new, (.q (.ld (.arr 32 .leaf))), [.t 3], none⟩,
      ⟨.new, (.q .mv), [.t 0], none⟩,
      ⟨.new, (.q .nilc), [.t 9], none⟩,
      ⟨.new, (.q (.fa [.leaf, .leaf, (.arr 32 .leaf), (.st [(.arr 32 .leaf), .leaf, .leaf, .leaf, (.arr 32 .leaf)]), .leaf, .leaf] 2)), [.t 10], none⟩,
      ⟨.new, (.q (.ld (.arr 32 .leaf))), [.t 11], none⟩,
      ⟨.new, (.call 33), [.t 8, .t 12], none⟩,
      ⟨.none, (.e (.store (.arr 32 .leaf))), [.t 1, .t 13], none⟩,
      ⟨.var 2, (.q .mv), [.c (.bool true)], none⟩])
    .ret)
    .skip))
    (.seq (.draw [⟨.new, (.q .mv), [.t 0], none⟩,
      ⟨.new, (.q .nilc), [.t 8], none⟩,
      ⟨.new, (.q (.fa [.leaf, .leaf, (.arr 32 .leaf), (.st [(.arr 32 .leaf), .leaf, .leaf, .leaf, (.arr 32 .leaf)]), .leaf, .leaf] 2)), [.t 9], none⟩,
      ⟨.new, (.q (.ld (.arr 32 .leaf))), [.t 10], none⟩,
      ⟨.new, (.q (.ld (.arr 32 .leaf))), [.t 3], none⟩,
      ⟨.new, (.call 33), [.t 11, .t 12], none⟩,
      ⟨.none, (.e (.store (.arr 32 .leaf))), [.t 1, .t 13], none⟩,
      ⟨.var 2, (.q .mv), [.c (.bool true)], none⟩])
    .ret)))))),
    [.cell 1 (.arr 32 .leaf), .t 2]⟩

/-- (*trefoil/toss.Toss).Commit (0:t, 2:, 5:) -/
def s21 : FnS := ⟨20, [0, 2, 5],
    (.seq (.reg [⟨.var 1, (.e (.alloc 26 (.arr 32 .leaf) (.agg [(.u8 0), (.u8 0), (.u8 0), (.u8 0), (.u8 0), (.u8 0), (.u8 0), (.u8 0), (.u8 0), (.u8 0), (.u8 0), (.u8 0), (.u8 0), (.u8 0), (.u8 0), (.u8 0), (.u8 0), (.u8 0), (.u8 0), (.u8 0), (.u8 0), (.u8 0), (.u8 0), (.u8 0), (.u8 0), (.u8 0), (.u8 0), (.u8 0), (.u8 0), (.u8 0), (.u8 0), (.u8 0)]))), [], none⟩])
    (.seq (.seq (.reg [⟨.new, (.q .mv), [.t 0], none⟩,
      ⟨.new, (.call 32), [.t 3], none⟩,
      ⟨.var 2, (.q (.un .not)), [.t 4], none⟩])
    (.cond (.t 2) (.seq (.reg [⟨.new, (.e (.bld (.arr 32 .leaf) (.agg [(.u8 0), (.u8 0), (.u8 0), (.u8 0), (.u8 0), (.u8 0), (.u8 0), (.u8 0), (.u8 0), (.u8 0), (.u8 0), (.u8 0), (.u8 0), (.u8 0), (.u8 0), (.u8 0), (.u8 0), (.u8 0), (.u8 0), (.u8 0), (.u8 0), (.u8 0), (.u8 0), (.u8 0), (.u8 0), (.u8 0), (.u8 0), (.u8 0), (.u8 0), (.u8 0), (.u8 0), (.u8 0)]) [])), [], none⟩,
      ⟨.none, (.e (.store (.arr 32 .leaf))), [.t 1, .t 3], none⟩])
    .ret)
    .skip))
    (.seq (.draw [⟨.new, (.q .mv), [.t 0], none⟩,
      ⟨.new, (.q .nilc), [.t 3], none⟩,
      ⟨.new, (.q (.fa [.leaf, .leaf, (.arr 32 .leaf), (.st [(.arr 32 .leaf), .leaf, .leaf, .leaf, (.arr 32 .leaf)]), .leaf, .leaf] 0)), [.t 4], none⟩,
      ⟨.new, (.q (.ld .leaf)), [.t 5], none⟩,
      ⟨.new, (.q .mv), [.t 0], none⟩,
      ⟨.new, (.q .nilc), [.t 7], none⟩,
      ⟨.new, (.q (.fa [.leaf, .leaf, (.arr 32 .leaf), (.st [(.arr 32 .leaf), .leaf, .leaf, .leaf, (.arr 32 .leaf)]), .leaf, .leaf] 1)), [.t 8], none⟩,
      ⟨.new, (.q (.ld .leaf)), [.t 9], none⟩,
      ⟨.new, (.q .mv), [.t 0], none⟩,
      ⟨.new, (.q .nilc), [.t 11], none⟩,
      ⟨.new, (.q (.fa [.leaf, .leaf, (.arr 32 .leaf), (.st [(.arr 32 .leaf), .leaf, .leaf, .leaf, (.arr 32 .leaf)]), .leaf, .leaf] 2)), [.t 12], none⟩,
      ⟨.new, (.q (.ld (.arr 32 .leaf))), [.t 13], none⟩,
      ⟨.new, (.call 10), [.t 6, .t 10, .t 14], none⟩,
      ⟨.none, (.e (.store (.arr 32 .leaf))), [.t 1, .t 15], none⟩])
    .ret))),
    [.cell 1 (.arr 32 .leaf)]⟩

/-- (*trefoil/toss.Toss).Bound (0:t, 1:d, 3:d, 4:, 7:) -/
def s22 : FnS := ⟨22, [0, 1, 3, 4, 7],
    (.seq (.reg [⟨.var 2, (.e (.box 26 (.arr 32 .leaf))), [.t 1], none⟩,
      ⟨.var 3, (.q .mv), [.c (.int 0)], none⟩])
    (.seq (.seq (.reg [⟨.new, (.q .mv), [.t 0], none⟩,
      ⟨.new, (.call 32), [.t 5], none⟩,
      ⟨.var 4, (.q (.un .not)), [.t 6], none⟩])
    (.cond (.t 4) (.seq (.reg [⟨.var 3, (.q .mv), [.c (.int 3)], none⟩])
    .ret)
    .skip))
    (.seq (.draw [⟨.new, (.q .mv), [.t 0], none⟩,
      ⟨.new, (.q .nilc), [.t 5], none⟩,
      ⟨.new, (.q (.fa [.leaf, .leaf, (.arr 32 .leaf), (.st [(.arr 32 .leaf), .leaf, .leaf, .leaf, (.arr 32 .leaf)]), .leaf, .leaf] 3)), [.t 6], none⟩,
      ⟨.new, (.q .mv), [.t 0], none⟩,
      ⟨.new, (.q .nilc), [.t 8], none⟩,
      ⟨.new, (.q (.fa [.leaf, .leaf, (.arr 32 .leaf), (.st [(.arr 32 .leaf), .leaf, .leaf, .leaf, (.arr 32 .leaf)]), .leaf, .leaf] 0)), [.t 9], none⟩,
      ⟨.new, (.q (.ld .leaf)), [.t 10], none⟩,
      ⟨.new, (.q (.bin .sub)), [.c (.int 1), .t 11], none⟩,
      ⟨.new, (.q .mv), [.t 0], none⟩,
      ⟨.new, (.q .nilc), [.t 13], none⟩,
      ⟨.new, (.q (.fa [.leaf, .leaf, (.arr 32 .leaf), (.st [(.arr 32 .leaf), .leaf, .leaf, .leaf, (.arr 32 .leaf)]), .leaf, .leaf] 1)), [.t 14], none⟩,
      ⟨.new, (.q (.ld .leaf)), [.t 15], none⟩,
      ⟨.new, (.q (.ld (.arr 32 .leaf))), [.t 2], none⟩,
      ⟨.new, (.callw 14), [.t 7, .t 12, .t 16, .t 17], none⟩,
      ⟨.var 3, (.q .mv), [.t 18], none⟩])
    .ret))),
    [.t 3]⟩

/-- (*trefoil/toss.Toss).Told (0:t, 1:s, 3:s, 4:, 7:) -/
def s23 : FnS := ⟨13, [0, 1, 3, 4, 7],
    (.seq (.reg [⟨.var 2, (.e (.box 25 (.arr 32 .leaf))), [.t 1], none⟩,
      ⟨.var 3, (.q .mv), [.c (.int 0)], none⟩])
    (.seq (.seq (.reg [⟨.new, (.q .mv), [.t 0], none⟩,
      ⟨.new, (.call 32), [.t 5], none⟩,
      ⟨.var 4, (.q (.un .not)), [.t 6], none⟩])
    (.cond (.t 4) (.seq (.reg [⟨.var 3, (.q .mv), [.c (.int 3)], none⟩])
    .ret)
    .skip))
    (.seq (.draw [⟨.new, (.q .mv), [.t 0], none⟩,
      ⟨.new, (.q .nilc), [.t 5], none⟩,
      ⟨.new, (.q (.fa [.leaf, .leaf, (.arr 32 .leaf), (.st [(.arr 32 .leaf), .leaf, .leaf, .leaf, (.arr 32 .leaf)]), .leaf, .leaf] 3)), [.t 6], none⟩,
      ⟨.new, (.q (.ld (.arr 32 .leaf))), [.t 2], none⟩,
      ⟨.new, (.callw 16), [.t 7, .t 8], none⟩,
      ⟨.var 3, (.q .mv), [.t 9], none⟩])
    .ret))),
    [.t 3]⟩

/-- trefoil/toss.New (0:party, 1:batch, 2:own, 5:own, 6:, 7:, 13:) -/
def s25 : FnS := ⟨19, [0, 1, 2, 5, 6, 7, 13],
    (.seq (.reg [⟨.var 3, (.e (.box 25 (.arr 32 .leaf))), [.t 2], none⟩,
      ⟨.var 4, (.q .mv), [.c .nilp], none⟩,
      ⟨.var 5, (.q .mv), [.c (.int 0)], none⟩])
    (.seq (.seq (.reg [⟨.new, (.q .mv), [.t 0], none⟩,
      ⟨.new, (.q (.bin .lss)), [.t 7, .c (.int 0)], none⟩,
      ⟨.new, (.q .mv), [.t 8], none⟩,
      ⟨.new, (.q .mv), [.t 0], (some (9, false))⟩,
      ⟨.new, (.q (.bin .gtr)), [.t 10, .c (.int 1)], (some (9, false))⟩,
      ⟨.var 6, (.q .pick), [.t 9, .c (.bool true), .t 11], none⟩])
    (.cond (.t 6) (.seq (.reg [⟨.var 4, (.q .mv), [.c .nilp], none⟩,
      ⟨.var 5, (.q .mv), [.c (.int 1)], none⟩])
    .ret)
    .skip))
    (.seq (.reg [⟨.new, (.q .mv), [.t 0], none⟩,
      ⟨.new, (.q .mv), [.t 1], none⟩,
      ⟨.new, (.q (.ld (.arr 32 .leaf))), [.t 3], none⟩,
      ⟨.new, (.e (.bld (.st [.leaf, .leaf, (.arr 32 .leaf), (.st [(.arr 32 .leaf), .leaf, .leaf, .leaf, (.arr 32 .leaf)]), .leaf, .leaf]) (.agg [(.int 0), (.u32 0), (.agg [(.u8 0), (.u8 0), (.u8 0), (.u8 0), (.u8 0), (.u8 0), (.u8 0), (.u8 0), (.u8 0), (.u8 0), (.u8 0), (.u8 0), (.u8 0), (.u8 0), (.u8 0), (.u8 0), (.u8 0), (.u8 0), (.u8 0), (.u8 0), (.u8 0), (.u8 0), (.u8 0), (.u8 0), (.u8 0), (.u8 0), (.u8 0), (.u8 0), (.u8 0), (.u8 0), (.u8 0), (.u8 0)]), (.agg [(.agg [(.u8 0), (.u8 0), (.u8 0), (.u8 0), (.u8 0), (.u8 0), (.u8 0), (.u8 0), (.u8 0), (.u8 0), (.u8 0), (.u8 0), (.u8 0), (.u8 0), (.u8 0), (.u8 0), (.u8 0), (.u8 0), (.u8 0), (.u8 0), (.u8 0), (.u8 0), (.u8 0), (.u8 0), (.u8 0), (.u8 0), (.u8 0), (.u8 0), (.u8 0), (.u8 0), (.u8 0), (.u8 0)]), (.int 0), (.u32 0), (.int 0), (.agg [(.u8 0), (.u8 0), (.u8 0), (.u8 0), (.u8 0), (.u8 0), (.u8 0), (.u8 0), (.u8 0), (.u8 0), (.u8 0), (.u8 0), (.u8 0), (.u8 0), (.u8 0), (.u8 0), (.u8 0), (.u8 0), (.u8 0), (.u8 0), (.u8 0), (.u8 0), (.u8 0), (.u8 0), (.u8 0), (.u8 0), (.u8 0), (.u8 0), (.u8 0), (.u8 0), (.u8 0), (.u8 0)])]), (.bool false), (.bool false)]) [0, 1, 2, 5])), [.t 7, .t 8, .t 9, .c (.bool true)], none⟩,
      ⟨.new, (.e (.box 51 (.st [.leaf, .leaf, (.arr 32 .leaf), (.st [(.arr 32 .leaf), .leaf, .leaf, .leaf, (.arr 32 .leaf)]), .leaf, .leaf]))), [.t 10], none⟩,
      ⟨.var 4, (.q .mv), [.t 11], none⟩,
      ⟨.var 5, (.q .mv), [.c (.int 0)], none⟩])
    .ret))),
    [.t 4, .t 5]⟩

set_option maxRecDepth 100000
set_option linter.unusedSimpArgs false
set_option linter.unusedVariables false
theorem c32 : cF P G (drP P G) 32 1 s32.vm = some s32 := by kernel_rfl
theorem c19 : cF P G (drP P G) 19 1 s19.vm = some s19 := by kernel_rfl
theorem c20 : cF P G (drP P G) 20 1 s20.vm = some s20 := by kernel_rfl
theorem c21 : cF P G (drP P G) 21 1 s21.vm = some s21 := by kernel_rfl
theorem c22 : cF P G (drP P G) 22 2 s22.vm = some s22 := by kernel_rfl
theorem c23 : cF P G (drP P G) 23 2 s23.vm = some s23 := by kernel_rfl
theorem c25 : cF P G (drP P G) 25 3 s25.vm = some s25 := by kernel_rfl
theorem f32 {K : AV → Heap → Prop} {H : Heap} {b : Nat} {t : Ts} {z : Bx} (hg : Heap.get H b = tsB t z) (h : K (.bool t.m) H) : wpF P G 32 [.ptr b 0 [0] tsS] H K := by
  refine wpF_go c32 rfl 3 ?_
  intro hA hB
  simp only [s32]
  clear hA hB
  unfold tsB tsA bxA at hg
  (refine gw1 @hg ?_; try exact True.intro)
  exact h
theorem f32n {K : AV → Heap → Prop} {H : Heap} (h : K (.bool false) H) : wpF P G 32 [.nilp] H K := by
  refine wpF_go c32 rfl 3 ?_
  intro hA hB
  simp only [s32]
  (refine gw0 ?_; try exact True.intro)
  exact h
theorem f19n {K : AV → Heap → Prop} {H : Heap} (h : K (.tup [.agg [.u8 0, .u8 0, .u8 0, .u8 0, .u8 0, .u8 0, .u8 0, .u8 0, .u8 0, .u8 0, .u8 0, .u8 0, .u8 0, .u8 0, .u8 0, .u8 0, .u8 0, .u8 0, .u8 0, .u8 0, .u8 0, .u8 0, .u8 0, .u8 0, .u8 0, .u8 0, .u8 0, .u8 0, .u8 0, .u8 0, .u8 0, .u8 0], .int 3]) H) : wpF P G 19 [.nilp] H K := by
  refine wpF_go c19 rfl 3 ?_
  intro hA hB
  simp only [s19]
  (refine gw0 ?_; try exact True.intro)
  refine f32n ?_
  (refine gw0 ?_; try exact True.intro)
  exact h
theorem f19x {K : AV → Heap → Prop} {H : Heap} {b : Nat} {t : Ts} {z : Bx} (hm : t.m = false) (hg : Heap.get H b = tsB t z) (h : K (.tup [.agg [.u8 0, .u8 0, .u8 0, .u8 0, .u8 0, .u8 0, .u8 0, .u8 0, .u8 0, .u8 0, .u8 0, .u8 0, .u8 0, .u8 0, .u8 0, .u8 0, .u8 0, .u8 0, .u8 0, .u8 0, .u8 0, .u8 0, .u8 0, .u8 0, .u8 0, .u8 0, .u8 0, .u8 0, .u8 0, .u8 0, .u8 0, .u8 0], .int 3]) H) : wpF P G 19 [.ptr b 0 [0] tsS] H K := by
  refine wpF_go c19 rfl 3 ?_
  intro hA hB
  simp only [s19]
  clear hA hB
  have hgX : ∀ X : List (Option Blk), Heap.get (H ++ X) b = tsB t z := fun X => Heap.get_some_append hg
  (refine gw0 ?_; try exact True.intro)
  refine f32 (hgX _) ?_
  (refine gw1 @hm ?_; try exact True.intro)
  exact h
theorem f19a {K : AV → Heap → Prop} {H : Heap} {b : Nat} {t : Ts} {z : Bx} (hm : t.m = true) (hz : z.s = 0) (hg : Heap.get H b = tsB t z) (h : K (.tup [.agg [.u8 0, .u8 0, .u8 0, .u8 0, .u8 0, .u8 0, .u8 0, .u8 0, .u8 0, .u8 0, .u8 0, .u8 0, .u8 0, .u8 0, .u8 0, .u8 0, .u8 0, .u8 0, .u8 0, .u8 0, .u8 0, .u8 0, .u8 0, .u8 0, .u8 0, .u8 0, .u8 0, .u8 0, .u8 0, .u8 0, .u8 0, .u8 0], .int 8]) H) : wpF P G 19 [.ptr b 0 [0] tsS] H K := by
  refine wpF_go c19 rfl 3 ?_
  intro hA hB
  simp only [s19]
  clear hA hB
  have hgX : ∀ X : List (Option Blk), Heap.get (H ++ X) b = tsB t z := fun X => Heap.get_some_append hg
  have hbl : b < H.length := Heap.get_lt hg
  (refine gw0 ?_; try exact True.intro)
  refine f32 (hgX _) ?_
  (refine gw1 @hm ?_; try exact True.intro)
  refine f18t (hgX _) ?_
  (refine gw1 @hz ?_; try exact True.intro)
  exact h
theorem f19b {K : AV → Heap → Prop} {H0 L : Heap} {t : Ts} {z : Bx} (ho : t.o.length = 32) (hz1 : z.ok) (hm : t.m = true) (hz : z.s ≠ 0) (h : K (.tup [.agg (t.o.map .u8), .int 0]) (H0 ++ tsB { t with g := true } z :: L)) : wpF P G 19 [.ptr H0.length 0 [0] tsS] (H0 ++ tsB t z :: L) K := by
  refine wpF_goM c19 rfl ?_
  intro hA hB
  simp only [s19]
  (refine gw3 @Kmut_n @Kmut_r @Km2_s ?_; try exact True.intro)
  refine f32 (t := t) (z := z) (by rw [hget_0, hget_z]) ?_
  (refine gw4 @hm @Kmut_n @Kmut_r @Km2_s ?_; try exact True.intro)
  refine f18t (t := t) (z := z) (by rw [hget_0, hget_z]) ?_
  (refine gw4 @hz @Kmut_n @Kmut_r @Km2_s ?_; try exact True.intro)
  unfold tsB tsA bxA
  (refine gw5 @ho @hz1 @Kmut_n @Kmut_r @Km2_s ?_; try exact True.intro)
  refine ⟨by omega, ?_⟩
  exact mut_fin (E := [some ⟨25, 0, false, .arr 1 (.arr 32 .leaf), .agg [.agg (t.o.map .u8)]⟩]) hB (y := tsB { t with g := true } z) (by rintro k blk h; cases h; exact ts_bnd) h
def coin (t : Ts) (z : Bx) : List (BitVec 8) := if t.p = 1 then mx z.x t.o else mx t.o z.x
theorem f20n {K : AV → Heap → Prop} {H : Heap} (h : K (.tup [.agg [.u8 0, .u8 0, .u8 0, .u8 0, .u8 0, .u8 0, .u8 0, .u8 0, .u8 0, .u8 0, .u8 0, .u8 0, .u8 0, .u8 0, .u8 0, .u8 0, .u8 0, .u8 0, .u8 0, .u8 0, .u8 0, .u8 0, .u8 0, .u8 0, .u8 0, .u8 0, .u8 0, .u8 0, .u8 0, .u8 0, .u8 0, .u8 0], .bool false]) H) : wpF P G 20 [.nilp] H K := by
  refine wpF_go c20 rfl 3 ?_
  intro hA hB
  simp only [s20]
  (refine gw0 ?_; try exact True.intro)
  refine f32n ?_
  (refine gw0 ?_; try exact True.intro)
  exact h
theorem f20x {K : AV → Heap → Prop} {H : Heap} {b : Nat} {t : Ts} {z : Bx} (hz : z.ok) (hm : t.m = false ∨ t.g = false ∨ z.s ≠ 2) (hg : Heap.get H b = tsB t z) (h : K (.tup [.agg [.u8 0, .u8 0, .u8 0, .u8 0, .u8 0, .u8 0, .u8 0, .u8 0, .u8 0, .u8 0, .u8 0, .u8 0, .u8 0, .u8 0, .u8 0, .u8 0, .u8 0, .u8 0, .u8 0, .u8 0, .u8 0, .u8 0, .u8 0, .u8 0, .u8 0, .u8 0, .u8 0, .u8 0, .u8 0, .u8 0, .u8 0, .u8 0], .bool false]) H) : wpF P G 20 [.ptr b 0 [0] tsS] H K := by
  refine wpF_go c20 rfl 3 ?_
  intro hA hB
  simp only [s20]
  clear hA hB
  have hgX : ∀ X : List (Option Blk), Heap.get (H ++ X) b = tsB t z := fun X => Heap.get_some_append hg
  have hbl : b < H.length := Heap.get_lt hg
  have hgY := hgX
  unfold tsB tsA bxA at hgY
  cases hm1 : t.m with
  | false =>
    (refine gw0 ?_; try exact True.intro)
    refine f32 (hgX _) ?_
    (refine gw1 @hm1 ?_; try exact True.intro)
    exact h
  | true =>
    cases hg1 : t.g with
    | false =>
      (refine gw0 ?_; try exact True.intro)
      refine f32 (hgX _) ?_
      (refine gw3 @hm1 @hgY @hg1 ?_; try exact True.intro)
      exact h
    | true =>
      have h2 : z.s ≠ 2 := by
        rcases hm with h | h | h
        · rw [hm1] at h; cases h
        · rw [hg1] at h; cases h
        · exact h
      have e2 : sdX z = z32 := if_neg h2
      (refine gw0 ?_; try exact True.intro)
      refine f32 (hgX _) ?_
      (refine gw3 @hm1 @hgY @hg1 ?_; try exact True.intro)
      refine f17t (hgX _) hz ?_
      rw [e2, decide_eq_false h2, show z32.map AV.u8 = [.u8 0, .u8 0, .u8 0, .u8 0, .u8 0, .u8 0, .u8 0, .u8 0, .u8 0, .u8 0, .u8 0, .u8 0, .u8 0, .u8 0, .u8 0, .u8 0, .u8 0, .u8 0, .u8 0, .u8 0, .u8 0, .u8 0, .u8 0, .u8 0, .u8 0, .u8 0, .u8 0, .u8 0, .u8 0, .u8 0, .u8 0, .u8 0] from rfl]
      (refine gw0 ?_; try exact True.intro)
      exact h
theorem f20g {K : AV → Heap → Prop} {H : Heap} {b : Nat} {t : Ts} {z : Bx} (ho : t.o.length = 32) (hz : z.ok) (hm : t.m = true) (hg1 : t.g = true) (h2 : z.s = 2) (hg : Heap.get H b = tsB t z) (h : K (.tup [.agg ((coin t z).map .u8), .bool true]) H) : wpF P G 20 [.ptr b 0 [0] tsS] H K := by
  refine wpF_go c20 rfl 3 ?_
  intro hA hB
  simp only [s20]
  clear hA hB
  have hgX : ∀ X : List (Option Blk), Heap.get (H ++ X) b = tsB t z := fun X => Heap.get_some_append hg
  have hbl : b < H.length := Heap.get_lt hg
  have hgY := hgX
  unfold tsB tsA bxA at hgY
  have e2 : sdX z = z.x := if_pos h2
  have hx := hz.2
  (refine gw0 ?_; try exact True.intro)
  refine f32 (hgX _) ?_
  (refine gw3 @hm @hgY @hg1 ?_; try exact True.intro)
  refine f17t (hgX _) hz ?_
  rw [e2, decide_eq_true h2]
  by_cases hp : t.p = 1
  · have ec : coin t z = mx z.x t.o := if_pos hp
    rw [ec] at h
    (refine gw3 @hx @hgY @hp ?_; try exact True.intro)
    refine drawn _ (f33 hx ho ⟨rfl, rfl⟩) ?_
    have hml := mx_len (a := z.x) (b := t.o)
    generalize mx z.x t.o = m at *
    (refine gw1 @hml ?_; try exact True.intro)
    exact h
  · have ec : coin t z = mx t.o z.x := if_neg hp
    rw [ec] at h
    (refine gw3 @hx @hgY @hp ?_; try exact True.intro)
    refine drawn _ (f33 ho hx ⟨rfl, rfl⟩) ?_
    have hml := mx_len (a := t.o) (b := z.x)
    generalize mx t.o z.x = m at *
    (refine gw1 @hml ?_; try exact True.intro)
    exact h
theorem f21n {K : AV → Heap → Prop} {H : Heap} (h : K (.agg [.u8 0, .u8 0, .u8 0, .u8 0, .u8 0, .u8 0, .u8 0, .u8 0, .u8 0, .u8 0, .u8 0, .u8 0, .u8 0, .u8 0, .u8 0, .u8 0, .u8 0, .u8 0, .u8 0, .u8 0, .u8 0, .u8 0, .u8 0, .u8 0, .u8 0, .u8 0, .u8 0, .u8 0, .u8 0, .u8 0, .u8 0, .u8 0]) H) : wpF P G 21 [.nilp] H K := by
  refine wpF_go c21 rfl 3 ?_
  intro hA hB
  simp only [s21]
  (refine gw0 ?_; try exact True.intro)
  refine f32n ?_
  (refine gw0 ?_; try exact True.intro)
  exact h
theorem f21x {K : AV → Heap → Prop} {H : Heap} {b : Nat} {t : Ts} {z : Bx} (hm : t.m = false) (hg : Heap.get H b = tsB t z) (h : K (.agg [.u8 0, .u8 0, .u8 0, .u8 0, .u8 0, .u8 0, .u8 0, .u8 0, .u8 0, .u8 0, .u8 0, .u8 0, .u8 0, .u8 0, .u8 0, .u8 0, .u8 0, .u8 0, .u8 0, .u8 0, .u8 0, .u8 0, .u8 0, .u8 0, .u8 0, .u8 0, .u8 0, .u8 0, .u8 0, .u8 0, .u8 0, .u8 0]) H) : wpF P G 21 [.ptr b 0 [0] tsS] H K := by
  refine wpF_go c21 rfl 3 ?_
  intro hA hB
  simp only [s21]
  clear hA hB
  have hgX : ∀ X : List (Option Blk), Heap.get (H ++ X) b = tsB t z := fun X => Heap.get_some_append hg
  (refine gw0 ?_; try exact True.intro)
  refine f32 (hgX _) ?_
  (refine gw1 @hm ?_; try exact True.intro)
  exact h
theorem f21 {K : AV → Heap → Prop} {H : Heap} {b : Nat} {t : Ts} {z : Bx} (ho : t.o.length = 32) (hm : t.m = true) (hg : Heap.get H b = tsB t z) (h : K (.agg ((com t.p t.b t.o).map .u8)) H) : wpF P G 21 [.ptr b 0 [0] tsS] H K := by
  refine wpF_go c21 rfl 3 ?_
  intro hA hB
  simp only [s21]
  clear hA hB
  have hgX : ∀ X : List (Option Blk), Heap.get (H ++ X) b = tsB t z := fun X => Heap.get_some_append hg
  have hbl : b < H.length := Heap.get_lt hg
  have hgY := hgX
  unfold tsB tsA bxA at hgY
  (refine gw0 ?_; try exact True.intro)
  refine f32 (hgX _) ?_
  (refine gw3 @hm @hgY @ho ?_; try exact True.intro)
  refine drawn _ (f10 ho ⟨rfl, rfl⟩) ?_
  have hml := com_len (p := t.p) (b := t.b) (s := t.o)
  generalize com t.p t.b t.o = m at *
  (refine gw1 @hml ?_; try exact True.intro)
  exact h
theorem f22n {K : AV → Heap → Prop} {H : Heap} {d : List (BitVec 8)} (hd : d.length = 32) (h : K (.int 3) H) : wpF P G 22 [.nilp, .agg (d.map .u8)] H K := by
  refine wpF_go c22 rfl 3 ?_
  intro hA hB
  simp only [s22]
  (refine gw1 @hd ?_; try exact True.intro)
  refine f32n ?_
  (refine gw0 ?_; try exact True.intro)
  exact h
theorem f22x {K : AV → Heap → Prop} {H : Heap} {b : Nat} {t : Ts} {z : Bx} {d : List (BitVec 8)} (hd : d.length = 32) (hm : t.m = false) (hg : Heap.get H b = tsB t z) (h : K (.int 3) H) : wpF P G 22 [.ptr b 0 [0] tsS, .agg (d.map .u8)] H K := by
  refine wpF_go c22 rfl 3 ?_
  intro hA hB
  simp only [s22]
  clear hA hB
  have hgX : ∀ X : List (Option Blk), Heap.get (H ++ X) b = tsB t z := fun X => Heap.get_some_append hg
  (refine gw1 @hd ?_; try exact True.intro)
  refine f32 (hgX _) ?_
  (refine gw1 @hm ?_; try exact True.intro)
  exact h
theorem f23n {K : AV → Heap → Prop} {H : Heap} {d : List (BitVec 8)} (hd : d.length = 32) (h : K (.int 3) H) : wpF P G 23 [.nilp, .agg (d.map .u8)] H K := by
  refine wpF_go c23 rfl 3 ?_
  intro hA hB
  simp only [s23]
  (refine gw1 @hd ?_; try exact True.intro)
  refine f32n ?_
  (refine gw0 ?_; try exact True.intro)
  exact h
theorem f23x {K : AV → Heap → Prop} {H : Heap} {b : Nat} {t : Ts} {z : Bx} {d : List (BitVec 8)} (hd : d.length = 32) (hm : t.m = false) (hg : Heap.get H b = tsB t z) (h : K (.int 3) H) : wpF P G 23 [.ptr b 0 [0] tsS, .agg (d.map .u8)] H K := by
  refine wpF_go c23 rfl 3 ?_
  intro hA hB
  simp only [s23]
  clear hA hB
  have hgX : ∀ X : List (Option Blk), Heap.get (H ++ X) b = tsB t z := fun X => Heap.get_some_append hg
  (refine gw1 @hd ?_; try exact True.intro)
  refine f32 (hgX _) ?_
  (refine gw1 @hm ?_; try exact True.intro)
  exact h
theorem f22 {K : AV → Heap → Prop} {H0 L : Heap} {t : Ts} {z : Bx} {d : List (BitVec 8)} (hd : d.length = 32) (hz : z.ok) (hp : t.p = 0 ∨ t.p = 1) (hm : t.m = true) (h : K (.int (bindE z)) (H0 ++ tsB t (bind z (1 - t.p) t.b d) :: L)) : wpF P G 22 [.ptr H0.length 0 [0] tsS, .agg (d.map .u8)] (H0 ++ tsB t z :: L) K := by
  refine wpF_goM c22 rfl ?_
  intro hA hB
  simp only [s22]
  (refine gw4 @hd @Kmut_n @Kmut_r @Km2_s ?_; try exact True.intro)
  refine f32 (t := t) (z := z) (by rw [hget_0, hget_z]) ?_
  (refine gw4 @hm @Kmut_n @Kmut_r @Km2_s ?_; try exact True.intro)
  have hb1 : -9223372036854775808 ≤ 1 - t.p ∧ 1 - t.p ≤ 9223372036854775807 := by omega
  unfold tsB tsA bxA
  (refine gw4 @hd @Kmut_n @Kmut_r @Km2_s ?_; try exact True.intro)
  refine ⟨hb1.1, hb1.2, ?_⟩
  refine draww _ _ (by simp) (f14t (t := t) (z := z) (L := L ++ [some ⟨26, 0, false, .arr 1 (.arr 32 .leaf), .agg [.agg (d.map .u8)]⟩]) hd hz ⟨rfl, rfl⟩) ?_
  (refine gw3 @Kmut_n @Kmut_r @Km2_s ?_; try exact True.intro)
  refine ⟨by omega, ?_⟩
  exact mut_fin (E := [some ⟨26, 0, false, .arr 1 (.arr 32 .leaf), .agg [.agg (d.map .u8)]⟩]) hB (y := tsB t (bind z (1 - t.p) t.b d)) (by rintro k blk h; cases h; exact ts_bnd) h
theorem f23 {K : AV → Heap → Prop} {H0 L : Heap} {t : Ts} {z : Bx} {d : List (BitVec 8)} (hd : d.length = 32) (hz : z.ok) (hm : t.m = true) (h : K (.int (tellE z d)) (H0 ++ tsB t (tell z d) :: L)) : wpF P G 23 [.ptr H0.length 0 [0] tsS, .agg (d.map .u8)] (H0 ++ tsB t z :: L) K := by
  refine wpF_goM c23 rfl ?_
  intro hA hB
  simp only [s23]
  (refine gw4 @hd @Kmut_n @Kmut_r @Km2_s ?_; try exact True.intro)
  refine f32 (t := t) (z := z) (by rw [hget_0, hget_z]) ?_
  (refine gw5 @hm @hd @Kmut_n @Kmut_r @Km2_s ?_; try exact True.intro)
  refine draww _ _ (by simp) (f16t (t := t) (z := z) (L := L ++ [some ⟨25, 0, false, .arr 1 (.arr 32 .leaf), .agg [.agg (d.map .u8)]⟩]) hd hz ⟨rfl, rfl⟩) ?_
  (refine gw3 @Kmut_n @Kmut_r @Km2_s ?_; try exact True.intro)
  refine ⟨by omega, ?_⟩
  exact mut_fin (E := [some ⟨25, 0, false, .arr 1 (.arr 32 .leaf), .agg [.agg (d.map .u8)]⟩]) hB (y := tsB t (tell z d)) (by rintro k blk h; cases h; exact ts_bnd) h
theorem f25 {K : AV → Heap → Prop} {H : Heap} {p : Int} {b : BitVec 32} {o : List (BitVec 8)} (ho : o.length = 32) (hp : p = 0 ∨ p = 1) (h : K (.tup [.ptr (H.length + 1) 0 [0] tsS, .int 0]) (H ++ [A32 (o.map .u8), tsB ⟨p, b, o, false, true⟩ z0])) : wpF P G 25 [.int p, .u32 b, .agg (o.map .u8)] H K := by
  refine wpF_goK c25 rfl ?_
  intro hA hB
  simp only [s25]
  rcases hp with rfl | rfl
  · (refine gw4 @ho @Kall_n @Kall_r @Ka2_s ?_; try exact True.intro)
    exact h
  · (refine gw4 @ho @Kall_n @Kall_r @Ka2_s ?_; try exact True.intro)
    exact h
end Go.Proofs.YtajkclooknanjaaDoor

end

section
/-
  The laws TossNobody and TossFair of layer 28 (toss), walked.
-/
open Go Go.V
namespace Go.Proofs.YtajkclooknanjaaDoor
/-- trefoil/trefoillaw28.TossNobody (0:d, 1:s, 2:d, 3:s, 4:, 6:t, 7:x, 8:e, 9:y, 10:ok, 13:, 14:, 15:, 16:, 62:) -/
def s6 : FnS := ⟨65, [0, 1, 2, 3, 4, 6, 7, 8, 9, 10, 13, 14, 15, 16, 62],
    (.seq (.reg [⟨.var 2, (.e (.box 26 (.arr 32 .leaf))), [.t 0], none⟩,
      ⟨.var 3, (.e (.box 25 (.arr 32 .leaf))), [.t 1], none⟩,
      ⟨.var 4, (.q .mv), [.c (.bool false)], none⟩])
    (.seq (.seq (.reg [⟨.new, (.e (.bld (.st [.leaf, .leaf, (.arr 32 .leaf), (.st [(.arr 32 .leaf), .leaf, .leaf, .leaf, (.arr 32 .leaf)]), .leaf, .leaf]) (.agg [(.int 0), (.u32 0), (.agg [(.u8 0), (.u8 0), (.u8 0), (.u8 0), (.u8 0), (.u8 0), (.u8 0), (.u8 0), (.u8 0), (.u8 0), (.u8 0), (.u8 0), (.u8 0), (.u8 0), (.u8 0), (.u8 0), (.u8 0), (.u8 0), (.u8 0), (.u8 0), (.u8 0), (.u8 0), (.u8 0), (.u8 0), (.u8 0), (.u8 0), (.u8 0), (.u8 0), (.u8 0), (.u8 0), (.u8 0), (.u8 0)]), (.agg [(.agg [(.u8 0), (.u8 0), (.u8 0), (.u8 0), (.u8 0), (.u8 0), (.u8 0), (.u8 0), (.u8 0), (.u8 0), (.u8 0), (.u8 0), (.u8 0), (.u8 0), (.u8 0), (.u8 0), (.u8 0), (.u8 0), (.u8 0), (.u8 0), (.u8 0), (.u8 0), (.u8 0), (.u8 0), (.u8 0), (.u8 0), (.u8 0), (.u8 0), (.u8 0), (.u8 0), (.u8 0), (.u8 0)]), (.int 0), (.u32 0), (.int 0), (.agg [(.u8 0), (.u8 0), (.u8 0), (.u8 0), (.u8 0), (.u8 0), (.u8 0), (.u8 0), (.u8 0), (.u8 0), (.u8 0), (.u8 0), (.u8 0), (.u8 0), (.u8 0), (.u8 0), (.u8 0), (.u8 0), (.u8 0), (.u8 0), (.u8 0), (.u8 0), (.u8 0), (.u8 0), (.u8 0), (.u8 0), (.u8 0), (.u8 0), (.u8 0), (.u8 0), (.u8 0), (.u8 0)])]), (.bool false), (.bool false)]) [])), [], none⟩,
      ⟨.new, (.e (.box 51 (.st [.leaf, .leaf, (.arr 32 .leaf), (.st [(.arr 32 .leaf), .leaf, .leaf, .leaf, (.arr 32 .leaf)]), .leaf, .leaf]))), [.t 15], none⟩,
      ⟨.var 10, (.e (.bsl 49 .leaf .nilp 2 [0, 1])), [.c .nilp, .t 16], none⟩,
      ⟨.var 11, (.q .len), [.t 10], none⟩,
      ⟨.var 12, (.q .mv), [.c (.int 0)], none⟩])
    (.block 0 (.loop (.seq (.reg [⟨.var 13, (.q (.bin .lss)), [.t 12, .t 11], none⟩])
    (.seq (.cond (.t 13) .skip
    (.exit 0))
    (.seq (.block 1 (.seq (.reg [⟨.new, (.q (.iaS .leaf)), [.t 10, .t 12], none⟩,
      ⟨.new, (.q (.ld .leaf)), [.t 15], none⟩,
      ⟨.var 5, (.q .mv), [.t 16], none⟩])
    (.seq (.reg [⟨.new, (.q .mv), [.t 5], none⟩,
      ⟨.new, (.call 19), [.t 15], none⟩,
      ⟨.new, (.q .mv), [.t 16], none⟩,
      ⟨.new, (.q (.ext 0)), [.t 17], none⟩,
      ⟨.new, (.q (.ext 1)), [.t 17], none⟩,
      ⟨.var 6, (.e (.alloc 25 (.arr 32 .leaf) (.agg [(.u8 0), (.u8 0), (.u8 0), (.u8 0), (.u8 0), (.u8 0), (.u8 0), (.u8 0), (.u8 0), (.u8 0), (.u8 0), (.u8 0), (.u8 0), (.u8 0), (.u8 0), (.u8 0), (.u8 0), (.u8 0), (.u8 0), (.u8 0), (.u8 0), (.u8 0), (.u8 0), (.u8 0), (.u8 0), (.u8 0), (.u8 0), (.u8 0), (.u8 0), (.u8 0), (.u8 0), (.u8 0)]))), [], none⟩,
      ⟨.none, (.e (.store (.arr 32 .leaf))), [.t 6, .t 18], none⟩,
      ⟨.var 7, (.q .mv), [.t 19], none⟩])
    (.seq (.reg [⟨.new, (.q .mv), [.t 5], none⟩,
      ⟨.new, (.call 20), [.t 15], none⟩,
      ⟨.new, (.q .mv), [.t 16], none⟩,
      ⟨.new, (.q (.ext 0)), [.t 17], none⟩,
      ⟨.new, (.q (.ext 1)), [.t 17], none⟩,
      ⟨.var 8, (.e (.alloc 25 (.arr 32 .leaf) (.agg [(.u8 0), (.u8 0), (.u8 0), (.u8 0), (.u8 0), (.u8 0), (.u8 0), (.u8 0), (.u8 0), (.u8 0), (.u8 0), (.u8 0), (.u8 0), (.u8 0), (.u8 0), (.u8 0), (.u8 0), (.u8 0), (.u8 0), (.u8 0), (.u8 0), (.u8 0), (.u8 0), (.u8 0), (.u8 0), (.u8 0), (.u8 0), (.u8 0), (.u8 0), (.u8 0), (.u8 0), (.u8 0)]))), [], none⟩,
      ⟨.none, (.e (.store (.arr 32 .leaf))), [.t 8, .t 18], none⟩,
      ⟨.var 9, (.q .mv), [.t 19], none⟩])
    (.seq (.reg [⟨.new, (.q .mv), [.t 5], none⟩,
      ⟨.new, (.call 21), [.t 15], none⟩,
      ⟨.new, (.e (.bld (.arr 32 .leaf) (.agg [(.u8 0), (.u8 0), (.u8 0), (.u8 0), (.u8 0), (.u8 0), (.u8 0), (.u8 0), (.u8 0), (.u8 0), (.u8 0), (.u8 0), (.u8 0), (.u8 0), (.u8 0), (.u8 0), (.u8 0), (.u8 0), (.u8 0), (.u8 0), (.u8 0), (.u8 0), (.u8 0), (.u8 0), (.u8 0), (.u8 0), (.u8 0), (.u8 0), (.u8 0), (.u8 0), (.u8 0), (.u8 0)]) [])), [], none⟩,
      ⟨.new, (.q (.eqA true 32 .u8)), [.t 16, .t 17], none⟩,
      ⟨.new, (.q .mv), [.t 18], none⟩,
      ⟨.new, (.q .mv), [.t 5], (some (19, false))⟩,
      ⟨.new, (.q (.ld (.arr 32 .leaf))), [.t 2], (some (19, false))⟩,
      ⟨.new, (.call 22), [.t 20, .t 21], (some (19, false))⟩,
      ⟨.new, (.q (.bin .neq)), [.t 22, .c (.int 3)], (some (19, false))⟩,
      ⟨.new, (.q .pick), [.t 19, .c (.bool true), .t 23], none⟩,
      ⟨.new, (.q .mv), [.t 24], none⟩,
      ⟨.new, (.q (.ld (.arr 32 .leaf))), [.t 6], (some (25, false))⟩,
      ⟨.new, (.e (.bld (.arr 32 .leaf) (.agg [(.u8 0), (.u8 0), (.u8 0), (.u8 0), (.u8 0), (.u8 0), (.u8 0), (.u8 0), (.u8 0), (.u8 0), (.u8 0), (.u8 0), (.u8 0), (.u8 0), (.u8 0), (.u8 0), (.u8 0), (.u8 0), (.u8 0), (.u8 0), (.u8 0), (.u8 0), (.u8 0), (.u8 0), (.u8 0), (.u8 0), (.u8 0), (.u8 0), (.u8 0), (.u8 0), (.u8 0), (.u8 0)]) [])), [], (some (25, false))⟩,
      ⟨.new, (.q (.eqA true 32 .u8)), [.t 26, .t 27], (some (25, false))⟩,
      ⟨.new, (.q .pick), [.t 25, .c (.bool true), .t 28], none⟩,
      ⟨.new, (.q .mv), [.t 29], none⟩,
      ⟨.new, (.q .mv), [.t 7], (some (30, false))⟩,
      ⟨.new, (.q (.bin .neq)), [.t 31, .c (.int 3)], (some (30, false))⟩,
      ⟨.new, (.q .pick), [.t 30, .c (.bool true), .t 32], none⟩,
      ⟨.new, (.q .mv), [.t 33], none⟩,
      ⟨.new, (.q .mv), [.t 5], (some (34, false))⟩,
      ⟨.new, (.q (.ld (.arr 32 .leaf))), [.t 3], (some (34, false))⟩,
      ⟨.new, (.call 23), [.t 35, .t 36], (some (34, false))⟩,
      ⟨.new, (.q .mv), [.t 7], (some (34, false))⟩,
      ⟨.new, (.q (.bin .neq)), [.t 37, .t 38], (some (34, false))⟩,
      ⟨.new, (.q .pick), [.t 34, .c (.bool true), .t 39], none⟩,
      ⟨.new, (.q .mv), [.t 40], none⟩,
      ⟨.new, (.q (.ld (.arr 32 .leaf))), [.t 8], (some (41, false))⟩,
      ⟨.new, (.q (.ld (.arr 32 .leaf))), [.t 6], (some (41, false))⟩,
      ⟨.new, (.q (.eqA true 32 .u8)), [.t 42, .t 43], (some (41, false))⟩,
      ⟨.new, (.q .pick), [.t 41, .c (.bool true), .t 44], none⟩,
      ⟨.new, (.q .mv), [.t 45], none⟩,
      ⟨.new, (.q .mv), [.t 9], (some (46, false))⟩,
      ⟨.var 14, (.q .pick), [.t 46, .c (.bool true), .t 47], none⟩])
    (.cond (.t 14) (.seq (.reg [⟨.var 4, (.q .mv), [.c (.bool false)], none⟩])
    .ret)
    .skip))))))
    (.reg [⟨.new, (.q (.bin .add)), [.t 12, .c (.int 1)], none⟩,
      ⟨.var 12, (.q .mv), [.t 15], none⟩])))))))
    (.seq (.reg [⟨.new, (.call 24), [], none⟩,
      ⟨.var 4, (.q .mv), [.t 15], none⟩])
    .ret))),
    [.t 4]⟩

/-- trefoil/trefoillaw28.TossFair (0:batch, 1:one, 2:other, 4:one, 5:other, 6:, 7:a, 8:e, 9:b, 10:f, 12:g, 13:x, 14:g, 15:y, 16:h, 18:ok, 19:p, 20:ok, 21:q, 22:is, 41:, 48:, 60:, 109:) -/
def s8 : FnS := ⟨139, [0, 1, 2, 4, 5, 6, 7, 8, 9, 10, 12, 13, 14, 15, 16, 18, 19, 20, 21, 22, 41, 48, 60, 109],
    (.seq (.reg [⟨.var 3, (.e (.box 25 (.arr 32 .leaf))), [.t 1], none⟩,
      ⟨.var 4, (.e (.box 25 (.arr 32 .leaf))), [.t 2], none⟩,
      ⟨.var 5, (.q .mv), [.c (.bool false)], none⟩])
    (.seq (.reg [⟨.new, (.q .mv), [.t 0], none⟩,
      ⟨.new, (.q (.ld (.arr 32 .leaf))), [.t 3], none⟩,
      ⟨.new, (.call 25), [.c (.int 0), .t 24, .t 25], none⟩,
      ⟨.new, (.q .mv), [.t 26], none⟩,
      ⟨.new, (.q (.ext 0)), [.t 27], none⟩,
      ⟨.new, (.q (.ext 1)), [.t 27], none⟩,
      ⟨.var 6, (.q .mv), [.t 28], none⟩,
      ⟨.var 7, (.q .mv), [.t 29], none⟩])
    (.seq (.reg [⟨.new, (.q .mv), [.t 0], none⟩,
      ⟨.new, (.q (.ld (.arr 32 .leaf))), [.t 4], none⟩,
      ⟨.new, (.call 25), [.c (.int 1), .t 24, .t 25], none⟩,
      ⟨.new, (.q .mv), [.t 26], none⟩,
      ⟨.new, (.q (.ext 0)), [.t 27], none⟩,
      ⟨.new, (.q (.ext 1)), [.t 27], none⟩,
      ⟨.var 8, (.q .mv), [.t 28], none⟩,
      ⟨.var 9, (.q .mv), [.t 29], none⟩])
    (.seq (.seq (.reg [⟨.new, (.q .mv), [.t 7], none⟩,
      ⟨.new, (.q (.bin .neq)), [.t 24, .c (.int 0)], none⟩,
      ⟨.new, (.q .mv), [.t 25], none⟩,
      ⟨.new, (.q .mv), [.t 9], (some (26, false))⟩,
      ⟨.new, (.q .mv), [.t 7], (some (26, false))⟩,
      ⟨.new, (.q (.bin .neq)), [.t 27, .t 28], (some (26, false))⟩,
      ⟨.var 20, (.q .pick), [.t 26, .c (.bool true), .t 29], none⟩])
    (.cond (.t 20) (.seq (.reg [⟨.var 5, (.q .mv), [.c (.bool false)], none⟩])
    .ret)
    .skip))
    (.seq (.seq (.reg [⟨.new, (.q .mv), [.t 6], none⟩,
      ⟨.new, (.call 19), [.t 24], none⟩,
      ⟨.new, (.q .mv), [.t 25], none⟩,
      ⟨.new, (.q (.ext 0)), [.t 26], none⟩,
      ⟨.new, (.q (.ext 1)), [.t 26], none⟩,
      ⟨.new, (.e (.alloc 25 (.arr 32 .leaf) (.agg [(.u8 0), (.u8 0), (.u8 0), (.u8 0), (.u8 0), (.u8 0), (.u8 0), (.u8 0), (.u8 0), (.u8 0), (.u8 0), (.u8 0), (.u8 0), (.u8 0), (.u8 0), (.u8 0), (.u8 0), (.u8 0), (.u8 0), (.u8 0), (.u8 0), (.u8 0), (.u8 0), (.u8 0), (.u8 0), (.u8 0), (.u8 0), (.u8 0), (.u8 0), (.u8 0), (.u8 0), (.u8 0)]))), [], none⟩,
      ⟨.none, (.e (.store (.arr 32 .leaf))), [.t 29, .t 27], none⟩,
      ⟨.var 10, (.q .mv), [.t 28], none⟩])
    (.seq (.reg [⟨.new, (.q .mv), [.t 10], none⟩,
      ⟨.var 21, (.q (.bin .neq)), [.t 24, .c (.int 8)], none⟩])
    (.cond (.t 21) (.seq (.reg [⟨.var 5, (.q .mv), [.c (.bool false)], none⟩])
    .ret)
    .skip)))
    (.seq (.seq (.reg [⟨.new, (.q .mv), [.t 6], none⟩,
      ⟨.new, (.q .mv), [.t 8], none⟩,
      ⟨.new, (.call 21), [.t 25], none⟩,
      ⟨.new, (.call 22), [.t 24, .t 26], none⟩,
      ⟨.new, (.q (.bin .neq)), [.t 27, .c (.int 0)], none⟩,
      ⟨.new, (.q .mv), [.t 28], none⟩,
      ⟨.new, (.q .mv), [.t 8], (some (29, false))⟩,
      ⟨.new, (.q .mv), [.t 6], (some (29, false))⟩,
      ⟨.new, (.call 21), [.t 31], (some (29, false))⟩,
      ⟨.new, (.call 22), [.t 30, .t 32], (some (29, false))⟩,
      ⟨.new, (.q (.bin .neq)), [.t 33, .c (.int 0)], (some (29, false))⟩,
      ⟨.var 22, (.q .pick), [.t 29, .c (.bool true), .t 34], none⟩])
    (.cond (.t 22) (.seq (.reg [⟨.var 5, (.q .mv), [.c (.bool false)], none⟩])
    .ret)
    .skip))
    (.seq (.reg [⟨.new, (.q .mv), [.t 6], none⟩,
      ⟨.new, (.call 19), [.t 24], none⟩,
      ⟨.new, (.q .mv), [.t 25], none⟩,
      ⟨.new, (.q (.ext 0)), [.t 26], none⟩,
      ⟨.new, (.q (.ext 1)), [.t 26], none⟩,
      ⟨.var 11, (.e (.alloc 25 (.arr 32 .leaf) (.agg [(.u8 0), (.u8 0), (.u8 0), (.u8 0), (.u8 0), (.u8 0), (.u8 0), (.u8 0), (.u8 0), (.u8 0), (.u8 0), (.u8 0), (.u8 0), (.u8 0), (.u8 0), (.u8 0), (.u8 0), (.u8 0), (.u8 0), (.u8 0), (.u8 0), (.u8 0), (.u8 0), (.u8 0), (.u8 0), (.u8 0), (.u8 0), (.u8 0), (.u8 0), (.u8 0), (.u8 0), (.u8 0)]))), [], none⟩,
      ⟨.none, (.e (.store (.arr 32 .leaf))), [.t 11, .t 27], none⟩,
      ⟨.var 12, (.q .mv), [.t 28], none⟩])
    (.seq (.reg [⟨.new, (.q .mv), [.t 8], none⟩,
      ⟨.new, (.call 19), [.t 24], none⟩,
      ⟨.new, (.q .mv), [.t 25], none⟩,
      ⟨.new, (.q (.ext 0)), [.t 26], none⟩,
      ⟨.new, (.q (.ext 1)), [.t 26], none⟩,
      ⟨.var 13, (.e (.alloc 25 (.arr 32 .leaf) (.agg [(.u8 0), (.u8 0), (.u8 0), (.u8 0), (.u8 0), (.u8 0), (.u8 0), (.u8 0), (.u8 0), (.u8 0), (.u8 0), (.u8 0), (.u8 0), (.u8 0), (.u8 0), (.u8 0), (.u8 0), (.u8 0), (.u8 0), (.u8 0), (.u8 0), (.u8 0), (.u8 0), (.u8 0), (.u8 0), (.u8 0), (.u8 0), (.u8 0), (.u8 0), (.u8 0), (.u8 0), (.u8 0)]))), [], none⟩,
      ⟨.none, (.e (.store (.arr 32 .leaf))), [.t 13, .t 27], none⟩,
      ⟨.var 14, (.q .mv), [.t 28], none⟩])
    (.seq (.seq (.reg [⟨.new, (.q .mv), [.t 6], none⟩,
      ⟨.new, (.call 20), [.t 24], none⟩,
      ⟨.new, (.q .mv), [.t 25], none⟩,
      ⟨.new, (.q (.ext 0)), [.t 26], none⟩,
      ⟨.new, (.q (.ext 1)), [.t 26], none⟩,
      ⟨.new, (.e (.alloc 25 (.arr 32 .leaf) (.agg [(.u8 0), (.u8 0), (.u8 0), (.u8 0), (.u8 0), (.u8 0), (.u8 0), (.u8 0), (.u8 0), (.u8 0), (.u8 0), (.u8 0), (.u8 0), (.u8 0), (.u8 0), (.u8 0), (.u8 0), (.u8 0), (.u8 0), (.u8 0), (.u8 0), (.u8 0), (.u8 0), (.u8 0), (.u8 0), (.u8 0), (.u8 0), (.u8 0), (.u8 0), (.u8 0), (.u8 0), (.u8 0)]))), [], none⟩,
      ⟨.none, (.e (.store (.arr 32 .leaf))), [.t 29, .t 27], none⟩,
      ⟨.var 15, (.q .mv), [.t 28], none⟩])
    (.seq (.reg [⟨.new, (.q .mv), [.t 15], none⟩,
      ⟨.new, (.q .mv), [.t 24], none⟩,
      ⟨.new, (.q .mv), [.t 12], (some (25, false))⟩,
      ⟨.new, (.q (.bin .neq)), [.t 26, .c (.int 0)], (some (25, false))⟩,
      ⟨.new, (.q .pick), [.t 25, .c (.bool true), .t 27], none⟩,
      ⟨.new, (.q .mv), [.t 28], none⟩,
      ⟨.new, (.q .mv), [.t 14], (some (29, false))⟩,
      ⟨.new, (.q .mv), [.t 12], (some (29, false))⟩,
      ⟨.new, (.q (.bin .neq)), [.t 30, .t 31], (some (29, false))⟩,
      ⟨.new, (.q .pick), [.t 29, .c (.bool true), .t 32], none⟩,
      ⟨.new, (.q .mv), [.t 33], none⟩,
      ⟨.new, (.q (.ld (.arr 32 .leaf))), [.t 11], (some (34, false))⟩,
      ⟨.new, (.q (.ld (.arr 32 .leaf))), [.t 3], (some (34, false))⟩,
      ⟨.new, (.q (.eqA true 32 .u8)), [.t 35, .t 36], (some (34, false))⟩,
      ⟨.new, (.q .pick), [.t 34, .c (.bool true), .t 37], none⟩,
      ⟨.new, (.q .mv), [.t 38], none⟩,
      ⟨.new, (.q (.ld (.arr 32 .leaf))), [.t 13], (some (39, false))⟩,
      ⟨.new, (.q (.ld (.arr 32 .leaf))), [.t 4], (some (39, false))⟩,
      ⟨.new, (.q (.eqA true 32 .u8)), [.t 40, .t 41], (some (39, false))⟩,
      ⟨.new, (.q .pick), [.t 39, .c (.bool true), .t 42], none⟩,
      ⟨.new, (.q .mv), [.t 43], none⟩,
      ⟨.new, (.q .mv), [.t 6], (some (44, false))⟩,
      ⟨.new, (.q (.ld (.arr 32 .leaf))), [.t 13], (some (44, false))⟩,
      ⟨.new, (.call 23), [.t 45, .t 46], (some (44, false))⟩,
      ⟨.new, (.q .mv), [.t 12], (some (44, false))⟩,
      ⟨.new, (.q (.bin .neq)), [.t 47, .t 48], (some (44, false))⟩,
      ⟨.new, (.q .pick), [.t 44, .c (.bool true), .t 49], none⟩,
      ⟨.new, (.q .mv), [.t 50], none⟩,
      ⟨.new, (.q .mv), [.t 8], (some (51, false))⟩,
      ⟨.new, (.q (.ld (.arr 32 .leaf))), [.t 11], (some (51, false))⟩,
      ⟨.new, (.call 23), [.t 52, .t 53], (some (51, false))⟩,
      ⟨.new, (.q .mv), [.t 12], (some (51, false))⟩,
      ⟨.new, (.q (.bin .neq)), [.t 54, .t 55], (some (51, false))⟩,
      ⟨.var 23, (.q .pick), [.t 51, .c (.bool true), .t 56], none⟩])
    (.cond (.t 23) (.seq (.reg [⟨.var 5, (.q .mv), [.c (.bool false)], none⟩])
    .ret)
    .skip)))
    (.seq (.reg [⟨.new, (.q .mv), [.t 6], none⟩,
      ⟨.new, (.call 20), [.t 24], none⟩,
      ⟨.new, (.q .mv), [.t 25], none⟩,
      ⟨.new, (.q (.ext 0)), [.t 26], none⟩,
      ⟨.new, (.q (.ext 1)), [.t 26], none⟩,
      ⟨.var 16, (.e (.alloc 25 (.arr 32 .leaf) (.agg [(.u8 0), (.u8 0), (.u8 0), (.u8 0), (.u8 0), (.u8 0), (.u8 0), (.u8 0), (.u8 0), (.u8 0), (.u8 0), (.u8 0), (.u8 0), (.u8 0), (.u8 0), (.u8 0), (.u8 0), (.u8 0), (.u8 0), (.u8 0), (.u8 0), (.u8 0), (.u8 0), (.u8 0), (.u8 0), (.u8 0), (.u8 0), (.u8 0), (.u8 0), (.u8 0), (.u8 0), (.u8 0)]))), [], none⟩,
      ⟨.none, (.e (.store (.arr 32 .leaf))), [.t 16, .t 27], none⟩,
      ⟨.var 17, (.q .mv), [.t 28], none⟩])
    (.seq (.reg [⟨.new, (.q .mv), [.t 8], none⟩,
      ⟨.new, (.call 20), [.t 24], none⟩,
      ⟨.new, (.q .mv), [.t 25], none⟩,
      ⟨.new, (.q (.ext 0)), [.t 26], none⟩,
      ⟨.new, (.q (.ext 1)), [.t 26], none⟩,
      ⟨.var 18, (.e (.alloc 25 (.arr 32 .leaf) (.agg [(.u8 0), (.u8 0), (.u8 0), (.u8 0), (.u8 0), (.u8 0), (.u8 0), (.u8 0), (.u8 0), (.u8 0), (.u8 0), (.u8 0), (.u8 0), (.u8 0), (.u8 0), (.u8 0), (.u8 0), (.u8 0), (.u8 0), (.u8 0), (.u8 0), (.u8 0), (.u8 0), (.u8 0), (.u8 0), (.u8 0), (.u8 0), (.u8 0), (.u8 0), (.u8 0), (.u8 0), (.u8 0)]))), [], none⟩,
      ⟨.none, (.e (.store (.arr 32 .leaf))), [.t 18, .t 27], none⟩,
      ⟨.var 19, (.q .mv), [.t 28], none⟩])
    (.seq (.draw [⟨.new, (.q .mv), [.t 17], none⟩,
      ⟨.new, (.q .mv), [.t 24], none⟩,
      ⟨.new, (.q .mv), [.t 19], (some (25, true))⟩,
      ⟨.new, (.q .pick), [.t 25, .t 26, .c (.bool false)], none⟩,
      ⟨.new, (.q .mv), [.t 27], none⟩,
      ⟨.new, (.q (.ld (.arr 32 .leaf))), [.t 16], (some (28, true))⟩,
      ⟨.new, (.q (.ld (.arr 32 .leaf))), [.t 18], (some (28, true))⟩,
      ⟨.new, (.q (.eqA false 32 .u8)), [.t 29, .t 30], (some (28, true))⟩,
      ⟨.new, (.q .pick), [.t 28, .t 31, .c (.bool false)], none⟩,
      ⟨.new, (.q .mv), [.t 32], none⟩,
      ⟨.new, (.q (.ld (.arr 32 .leaf))), [.t 16], (some (33, true))⟩,
      ⟨.new, (.q (.ld (.arr 32 .leaf))), [.t 3], (some (33, true))⟩,
      ⟨.new, (.q (.ld (.arr 32 .leaf))), [.t 4], (some (33, true))⟩,
      ⟨.new, (.call 27), [.t 35, .t 36], (some (33, true))⟩,
      ⟨.new, (.q (.eqA false 32 .u8)), [.t 34, .t 37], (some (33, true))⟩,
      ⟨.new, (.q .pick), [.t 33, .t 38, .c (.bool false)], none⟩,
      ⟨.new, (.q .mv), [.t 39], none⟩,
      ⟨.new, (.call 24), [], (some (40, true))⟩,
      ⟨.new, (.q .pick), [.t 40, .t 41, .c (.bool false)], none⟩,
      ⟨.var 5, (.q .mv), [.t 42], none⟩])
    .ret)))))))))))),
    [.t 5]⟩

set_option maxRecDepth 100000
set_option linter.unusedSimpArgs false
set_option linter.unusedVariables false
theorem c6 : cF P G (drP P G) 6 2 s6.vm = some s6 := by kernel_rfl
theorem c8 : cF P G (drP P G) 8 3 s8.vm = some s8 := by kernel_rfl
def tz : Ts := ⟨0, 0, z32, false, false⟩
theorem f6 {K : AV → Heap → Prop} {H : Heap} {d s : List (BitVec 8)} (hd : d.length = 32) (hs : s.length = 32) (h : K (.bool true) H) : wpF P G 6 [.agg (d.map .u8), .agg (s.map .u8)] H K := by
  refine wpF_go c6 rfl 3 ?_
  intro hA hB
  simp only [s6]
  clear hA hB
  (refine gw2 @hs @hd ?_; try exact True.intro)
  refine wp_unroll 3 ?_
  (refine gw0 ?_; try exact True.intro)
  refine f19n ?_
  (refine gw0 ?_; try exact True.intro)
  refine f20n ?_
  (refine gw0 ?_; try exact True.intro)
  refine f21n ?_
  (refine gw2 @hs @hd ?_; try exact True.intro)
  refine ⟨rfl, ?_⟩
  refine f22n hd ?_
  (refine gw2 @hs @hd ?_; try exact True.intro)
  refine ⟨rfl, ?_⟩
  refine f23n hs ?_
  (refine gw2 @hs @hd ?_; try exact True.intro)
  refine ⟨rfl, ?_⟩
  refine f19x (t := tz) (z := z0) rfl (by rw [hget_k]; rfl) ?_
  (refine gw0 ?_; try exact True.intro)
  refine f20x (t := tz) (z := z0) ⟨rfl, rfl⟩ (.inl rfl) (by rw [hget_k]; rfl) ?_
  (refine gw0 ?_; try exact True.intro)
  refine f21x (t := tz) (z := z0) rfl (by rw [hget_k]; rfl) ?_
  (refine gw2 @hs @hd ?_; try exact True.intro)
  refine ⟨rfl, ?_⟩
  refine f22x (t := tz) (z := z0) hd rfl (by rw [hget_k]; rfl) ?_
  (refine gw2 @hs @hd ?_; try exact True.intro)
  refine ⟨rfl, ?_⟩
  refine f23x (t := tz) (z := z0) hs rfl (by rw [hget_k]; rfl) ?_
  (refine gw2 @hs @hd ?_; try exact True.intro)
  refine ⟨rfl, ?_⟩
  refine f24 ?_
  (refine gw0 ?_; try exact True.intro)
  exact h
theorem f22' {K : AV → Heap → Prop} {H0 L Hx : Heap} {m : Nat} {t : Ts} {z : Bx} {d : List (BitVec 8)} (hmm : m = H0.length) (hx : Hx = H0 ++ tsB t z :: L) (hd : d.length = 32) (hz : z.ok) (hp : t.p = 0 ∨ t.p = 1) (hm : t.m = true) (h : K (.int (bindE z)) (H0 ++ tsB t (bind z (1 - t.p) t.b d) :: L)) : wpF P G 22 [.ptr m 0 [0] tsS, .agg (d.map .u8)] Hx K := by
  subst hmm hx
  exact f22 hd hz hp hm h
theorem f23' {K : AV → Heap → Prop} {H0 L Hx : Heap} {m : Nat} {t : Ts} {z : Bx} {d : List (BitVec 8)} (hmm : m = H0.length) (hx : Hx = H0 ++ tsB t z :: L) (hd : d.length = 32) (hz : z.ok) (hm : t.m = true) (h : K (.int (tellE z d)) (H0 ++ tsB t (tell z d) :: L)) : wpF P G 23 [.ptr m 0 [0] tsS, .agg (d.map .u8)] Hx K := by
  subst hmm hx
  exact f23 hd hz hm h
theorem f19b' {K : AV → Heap → Prop} {H0 L Hx : Heap} {m : Nat} {t : Ts} {z : Bx} (hmm : m = H0.length) (hx : Hx = H0 ++ tsB t z :: L) (ho : t.o.length = 32) (hz1 : z.ok) (hm : t.m = true) (hz : z.s ≠ 0) (h : K (.tup [.agg (t.o.map .u8), .int 0]) (H0 ++ tsB { t with g := true } z :: L)) : wpF P G 19 [.ptr m 0 [0] tsS] Hx K := by
  subst hmm hx
  exact f19b ho hz1 hm hz h
theorem f8 {K : AV → Heap → Prop} {H : Heap} {b : BitVec 32} {x y : List (BitVec 8)} (hx : x.length = 32) (hy : y.length = 32) (h : K (.bool true) H) : wpF P G 8 [.u32 b, .agg (x.map .u8), .agg (y.map .u8)] H K := by
  refine wpF_go c8 rfl 3 ?_
  intro hA hB
  simp only [s8]
  clear hA hB
  (refine gw2 @hx @hy ?_; try exact True.intro)
  have e3 : H.length + 2 + 1 = H.length + 3 := rfl
  have e5 : H.length + 4 + 1 = H.length + 5 := rfl
  refine f25 hx (.inl rfl) ?_
  (refine gw3 @hx @hy @e3 ?_; try exact True.intro)
  refine f25 hy (.inr rfl) ?_
  (refine gw4 @hx @hy @e3 @e5 ?_; try exact True.intro)
  have l0 := com_len (p := 0) (b := b) (s := x)
  have l1 := com_len (p := 1) (b := b) (s := y)
  have z3 : z32.length = 32 := rfl
  refine f19a (t := ⟨0, b, x, false, true⟩) (z := z0) rfl rfl (by rw [hget_k]; rfl) ?_
  (refine gw0 ?_; try exact True.intro)
  refine f21 (t := ⟨1, b, y, false, true⟩) (z := z0) hy rfl (by rw [hget_k]; rfl) ?_
  have ht1 : tell ⟨com 1 b y, 1, b, 1, z32⟩ y = ⟨com 1 b y, 1, b, 2, y⟩ := by unfold tell; simp
  have he1 : tellE ⟨com 1 b y, 1, b, 1, z32⟩ y = 0 := by unfold tellE; simp
  have ht0 : tell ⟨com 0 b x, 0, b, 1, z32⟩ x = ⟨com 0 b x, 0, b, 2, x⟩ := by unfold tell; simp
  have he0 : tellE ⟨com 0 b x, 0, b, 1, z32⟩ x = 0 := by unfold tellE; simp
  have h21 : ∀ {K : AV → Heap → Prop} {H : Heap} {m : Nat} {z : Bx}, Heap.get H m = tsB ⟨0, b, x, false, true⟩ z → K (.agg ((com 0 b x).map .u8)) H → wpF P G 21 [.ptr m 0 [0] tsS] H K := fun hg h => f21 hx rfl hg h
  generalize hc1 : com 1 b y = c1 at *
  generalize hc0 : com 0 b x = c0 at *
  generalize hZ : some (Blk.mk 25 0 false (.arr 1 (.arr 32 .leaf)) (.agg [.agg [.u8 0, .u8 0, .u8 0, .u8 0, .u8 0, .u8 0, .u8 0, .u8 0, .u8 0, .u8 0, .u8 0, .u8 0, .u8 0, .u8 0, .u8 0, .u8 0, .u8 0, .u8 0, .u8 0, .u8 0, .u8 0, .u8 0, .u8 0, .u8 0, .u8 0, .u8 0, .u8 0, .u8 0, .u8 0, .u8 0, .u8 0, .u8 0]])) = Z
  (refine gw1 @l1 ?_; try exact True.intro)
  refine f22' (H0 := H ++ [A32 (x.map .u8), A32 (y.map .u8), A32 (x.map .u8)]) (L := [A32 (y.map .u8), tsB ⟨1, b, y, false, true⟩ z0, Z]) (t := ⟨0, b, x, false, true⟩) (z := z0) (by simp) (by rw [List.append_assoc]; rfl) l1 ⟨rfl, rfl⟩ (.inl rfl) rfl ?_
  rw [List.append_assoc, show bind z0 (1 - 0) b c1 = ⟨c1, 1, b, 1, z32⟩ from rfl, show bindE z0 = 0 from rfl]
  simp only [List.cons_append, List.nil_append]
  (refine gw0 ?_; try exact True.intro)
  refine h21 (z := ⟨c1, 1, b, 1, z32⟩) (by rw [hget_k]; rfl) ?_
  (refine gw1 @l0 ?_; try exact True.intro)
  refine f22' (H0 := H ++ [A32 (x.map .u8), A32 (y.map .u8), A32 (x.map .u8), tsB ⟨0, b, x, false, true⟩ ⟨c1, 1, b, 1, z32⟩, A32 (y.map .u8)]) (L := [Z]) (t := ⟨1, b, y, false, true⟩) (z := z0) (by simp) (by rw [List.append_assoc]; rfl) l0 ⟨rfl, rfl⟩ (.inr rfl) rfl ?_
  rw [List.append_assoc, show bind z0 (1 - 1) b c0 = ⟨c0, 0, b, 1, z32⟩ from rfl, show bindE z0 = 0 from rfl]
  simp only [List.cons_append, List.nil_append]
  (refine gw0 ?_; try exact True.intro)
  refine f19b' (H0 := H ++ [A32 (x.map .u8), A32 (y.map .u8), A32 (x.map .u8)]) (L := [A32 (y.map .u8), tsB ⟨1, b, y, false, true⟩ ⟨c0, 0, b, 1, z32⟩, Z]) (t := ⟨0, b, x, false, true⟩) (z := ⟨c1, 1, b, 1, z32⟩) (by simp) (by rw [List.append_assoc]; rfl) hx ⟨l1, rfl⟩ rfl (show (1 : Int) ≠ 0 by decide) ?_
  rw [List.append_assoc]
  simp only [List.cons_append, List.nil_append]
  (refine gw1 @hx ?_; try exact True.intro)
  refine f19b' (H0 := H ++ [A32 (x.map .u8), A32 (y.map .u8), A32 (x.map .u8), tsB ⟨0, b, x, true, true⟩ ⟨c1, 1, b, 1, z32⟩, A32 (y.map .u8)]) (L := [Z, A32 (x.map .u8)]) (t := ⟨1, b, y, false, true⟩) (z := ⟨c0, 0, b, 1, z32⟩) (by simp) (by rw [List.append_assoc]; rfl) hy ⟨l0, rfl⟩ rfl (show (1 : Int) ≠ 0 by decide) ?_
  rw [List.append_assoc]
  simp only [List.cons_append, List.nil_append]
  (refine gw1 @hy ?_; try exact True.intro)
  refine f20x (t := ⟨0, b, x, true, true⟩) (z := ⟨c1, 1, b, 1, z32⟩) ⟨l1, rfl⟩ (.inr (.inr (show (1 : Int) ≠ 2 by decide))) (by rw [hget_k]; rfl) ?_
  unfold A32
  (refine gw2 @hx @hy ?_; try exact True.intro)
  refine ⟨m8_kind, m8_kind, ?_⟩
  rw [hZ]
  refine f23' (H0 := H ++ [A32 (x.map .u8), A32 (y.map .u8), A32 (x.map .u8)]) (L := [A32 (y.map .u8), tsB ⟨1, b, y, true, true⟩ ⟨c0, 0, b, 1, z32⟩, Z, A32 (x.map .u8), A32 (y.map .u8), Z]) (t := ⟨0, b, x, true, true⟩) (z := ⟨c1, 1, b, 1, z32⟩) (by simp) (by rw [List.append_assoc]; rfl) hy ⟨l1, rfl⟩ rfl ?_
  rw [List.append_assoc, ht1, he1]
  simp only [List.cons_append, List.nil_append]
  unfold A32
  (refine gw1 @hx ?_; try exact True.intro)
  refine f23' (H0 := H ++ [A32 (x.map .u8), A32 (y.map .u8), A32 (x.map .u8), tsB ⟨0, b, x, true, true⟩ ⟨c1, 1, b, 2, y⟩, A32 (y.map .u8)]) (L := [Z, A32 (x.map .u8), A32 (y.map .u8), Z]) (t := ⟨1, b, y, true, true⟩) (z := ⟨c0, 0, b, 1, z32⟩) (by simp) (by rw [List.append_assoc]; rfl) hx ⟨l0, rfl⟩ rfl ?_
  rw [List.append_assoc, ht0, he0]
  simp only [List.cons_append, List.nil_append]
  (refine gw0 ?_; try exact True.intro)
  refine f20g (t := ⟨0, b, x, true, true⟩) (z := ⟨c1, 1, b, 2, y⟩) hx ⟨l1, hy⟩ rfl rfl rfl (by rw [hget_k]; rfl) ?_
  rw [show coin ⟨0, b, x, true, true⟩ ⟨c1, 1, b, 2, y⟩ = mx x y from rfl]
  have h27 : ∀ {K : AV → Heap → Prop} {H : Heap}, K (.agg ((mx x y).map .u8)) H → wpF P G 27 [.agg (x.map .u8), .agg (y.map .u8)] H K := fun h => f27 hx hy h
  have hml := mx_len (a := x) (b := y)
  have h20 : ∀ {K : AV → Heap → Prop} {H : Heap} {m : Nat}, Heap.get H m = tsB ⟨1, b, y, true, true⟩ ⟨c0, 0, b, 2, x⟩ → K (.tup [.agg ((mx x y).map .u8), .bool true]) H → wpF P G 20 [.ptr m 0 [0] tsS] H K := fun hg h => f20g (t := ⟨1, b, y, true, true⟩) (z := ⟨c0, 0, b, 2, x⟩) hy ⟨l0, hx⟩ rfl rfl rfl hg h
  generalize mx x y = m at *
  (refine gw1 @hml ?_; try exact True.intro)
  refine h20 (by rw [hget_k]; rfl) ?_
  unfold A32
  (refine gw3 @hml @hx @hy ?_; try exact True.intro)
  refine ⟨m8_kind, ?_⟩
  refine drawn _ (h27 ⟨rfl, rfl⟩) ?_
  (refine gw1 @hml ?_; try exact True.intro)
  refine ⟨m8_kind, ?_⟩
  refine drawn _ (f24 ⟨rfl, rfl⟩) ?_
  (refine gw0 ?_; try exact True.intro)
  exact h
end Go.Proofs.YtajkclooknanjaaDoor

end

section
/-
  Layer 27 (commit): the reference, and the law CommitBoxes, walked.
-/
open Go Go.V
namespace Go.Proofs.YtajkclooknanjaaDoor
/-- (trefoil/trefoilref27.Box).Bind (0:b, 1:party, 2:batch, 3:d, 4:b, 7:d, 8:, 9:, 12:) -/
def s13 : FnS := ⟨18, [0, 1, 2, 3, 4, 7, 8, 9, 12],
    (.seq (.reg [⟨.var 4, (.e (.box 35 (.st [.leaf, (.arr 32 .leaf), .leaf, .leaf, (.arr 32 .leaf)]))), [.t 0], none⟩,
      ⟨.var 5, (.e (.box 26 (.arr 32 .leaf))), [.t 3], none⟩,
      ⟨.var 6, (.e (.alloc 35 (.st [.leaf, (.arr 32 .leaf), .leaf, .leaf, (.arr 32 .leaf)]) (.agg [(.int 0), (.agg [(.u8 0), (.u8 0), (.u8 0), (.u8 0), (.u8 0), (.u8 0), (.u8 0), (.u8 0), (.u8 0), (.u8 0), (.u8 0), (.u8 0), (.u8 0), (.u8 0), (.u8 0), (.u8 0), (.u8 0), (.u8 0), (.u8 0), (.u8 0), (.u8 0), (.u8 0), (.u8 0), (.u8 0), (.u8 0), (.u8 0), (.u8 0), (.u8 0), (.u8 0), (.u8 0), (.u8 0), (.u8 0)]), (.int 0), (.u32 0), (.agg [(.u8 0), (.u8 0), (.u8 0), (.u8 0), (.u8 0), (.u8 0), (.u8 0), (.u8 0), (.u8 0), (.u8 0), (.u8 0), (.u8 0), (.u8 0), (.u8 0), (.u8 0), (.u8 0), (.u8 0), (.u8 0), (.u8 0), (.u8 0), (.u8 0), (.u8 0), (.u8 0), (.u8 0), (.u8 0), (.u8 0), (.u8 0), (.u8 0), (.u8 0), (.u8 0), (.u8 0), (.u8 0)])]))), [], none⟩,
      ⟨.var 7, (.q .mv), [.c (.int 0)], none⟩])
    (.seq (.seq (.reg [⟨.new, (.q (.fa [.leaf, (.arr 32 .leaf), .leaf, .leaf, (.arr 32 .leaf)] 0)), [.t 4], none⟩,
      ⟨.new, (.q (.ld .leaf)), [.t 9], none⟩,
      ⟨.var 8, (.q (.bin .neq)), [.t 10, .c (.int 0)], none⟩])
    (.cond (.t 8) (.seq (.reg [⟨.new, (.q (.ld (.st [.leaf, (.arr 32 .leaf), .leaf, .leaf, (.arr 32 .leaf)]))), [.t 4], none⟩,
      ⟨.none, (.e (.store (.st [.leaf, (.arr 32 .leaf), .leaf, .leaf, (.arr 32 .leaf)]))), [.t 6, .t 9], none⟩,
      ⟨.var 7, (.q .mv), [.c (.int 7)], none⟩])
    .ret)
    .skip))
    (.seq (.reg [⟨.new, (.q (.ld (.arr 32 .leaf))), [.t 5], none⟩,
      ⟨.new, (.q .mv), [.t 1], none⟩,
      ⟨.new, (.q .mv), [.t 2], none⟩,
      ⟨.new, (.e (.bld (.st [.leaf, (.arr 32 .leaf), .leaf, .leaf, (.arr 32 .leaf)]) (.agg [(.int 0), (.agg [(.u8 0), (.u8 0), (.u8 0), (.u8 0), (.u8 0), (.u8 0), (.u8 0), (.u8 0), (.u8 0), (.u8 0), (.u8 0), (.u8 0), (.u8 0), (.u8 0), (.u8 0), (.u8 0), (.u8 0), (.u8 0), (.u8 0), (.u8 0), (.u8 0), (.u8 0), (.u8 0), (.u8 0), (.u8 0), (.u8 0), (.u8 0), (.u8 0), (.u8 0), (.u8 0), (.u8 0), (.u8 0)]), (.int 0), (.u32 0), (.agg [(.u8 0), (.u8 0), (.u8 0), (.u8 0), (.u8 0), (.u8 0), (.u8 0), (.u8 0), (.u8 0), (.u8 0), (.u8 0), (.u8 0), (.u8 0), (.u8 0), (.u8 0), (.u8 0), (.u8 0), (.u8 0), (.u8 0), (.u8 0), (.u8 0), (.u8 0), (.u8 0), (.u8 0), (.u8 0), (.u8 0), (.u8 0), (.u8 0), (.u8 0), (.u8 0), (.u8 0), (.u8 0)])]) [0, 1, 2, 3])), [.c (.int 1), .t 9, .t 10, .t 11], none⟩,
      ⟨.none, (.e (.store (.st [.leaf, (.arr 32 .leaf), .leaf, .leaf, (.arr 32 .leaf)]))), [.t 6, .t 12], none⟩,
      ⟨.var 7, (.q .mv), [.c (.int 0)], none⟩])
    .ret))),
    [.cell 6 (.st [.leaf, (.arr 32 .leaf), .leaf, .leaf, (.arr 32 .leaf)]), .t 7]⟩

/-- (trefoil/trefoilref27.Box).Tell (0:b, 1:seed, 2:b, 3:seed, 4:, 5:, 8:, 12:, 22:) -/
def s15 : FnS := ⟨28, [0, 1, 2, 3, 4, 5, 8, 12, 22],
    (.seq (.reg [⟨.var 2, (.e (.box 35 (.st [.leaf, (.arr 32 .leaf), .leaf, .leaf, (.arr 32 .leaf)]))), [.t 0], none⟩,
      ⟨.var 3, (.e (.box 25 (.arr 32 .leaf))), [.t 1], none⟩,
      ⟨.var 4, (.e (.alloc 35 (.st [.leaf, (.arr 32 .leaf), .leaf, .leaf, (.arr 32 .leaf)]) (.agg [(.int 0), (.agg [(.u8 0), (.u8 0), (.u8 0), (.u8 0), (.u8 0), (.u8 0), (.u8 0), (.u8 0), (.u8 0), (.u8 0), (.u8 0), (.u8 0), (.u8 0), (.u8 0), (.u8 0), (.u8 0), (.u8 0), (.u8 0), (.u8 0), (.u8 0), (.u8 0), (.u8 0), (.u8 0), (.u8 0), (.u8 0), (.u8 0), (.u8 0), (.u8 0), (.u8 0), (.u8 0), (.u8 0), (.u8 0)]), (.int 0), (.u32 0), (.agg [(.u8 0), (.u8 0), (.u8 0), (.u8 0), (.u8 0), (.u8 0), (.u8 0), (.u8 0), (.u8 0), (.u8 0), (.u8 0), (.u8 0), (.u8 0), (.u8 0), (.u8 0), (.u8 0), (.u8 0), (.u8 0), (.u8 0), (.u8 0), (.u8 0), (.u8 0), (.u8 0), (.u8 0), (.u8 0), (.u8 0), (.u8 0), (.u8 0), (.u8 0), (.u8 0), (.u8 0), (.u8 0)])]))), [], none⟩,
      ⟨.var 5, (.q .mv), [.c (.int 0)], none⟩])
    (.seq (.seq (.reg [⟨.new, (.q (.fa [.leaf, (.arr 32 .leaf), .leaf, .leaf, (.arr 32 .leaf)] 0)), [.t 2], none⟩,
      ⟨.new, (.q (.ld .leaf)), [.t 9], none⟩,
      ⟨.var 6, (.q (.bin .eql)), [.t 10, .c (.int 0)], none⟩])
    (.cond (.t 6) (.seq (.reg [⟨.new, (.q (.ld (.st [.leaf, (.arr 32 .leaf), .leaf, .leaf, (.arr 32 .leaf)]))), [.t 2], none⟩,
      ⟨.none, (.e (.store (.st [.leaf, (.arr 32 .leaf), .leaf, .leaf, (.arr 32 .leaf)]))), [.t 4, .t 9], none⟩,
      ⟨.var 5, (.q .mv), [.c (.int 8)], none⟩])
    .ret)
    .skip))
    (.seq (.seq (.reg [⟨.new, (.q (.fa [.leaf, (.arr 32 .leaf), .leaf, .leaf, (.arr 32 .leaf)] 0)), [.t 2], none⟩,
      ⟨.new, (.q (.ld .leaf)), [.t 9], none⟩,
      ⟨.var 7, (.q (.bin .eql)), [.t 10, .c (.int 2)], none⟩])
    (.cond (.t 7) (.seq (.reg [⟨.new, (.q (.ld (.st [.leaf, (.arr 32 .leaf), .leaf, .leaf, (.arr 32 .leaf)]))), [.t 2], none⟩,
      ⟨.none, (.e (.store (.st [.leaf, (.arr 32 .leaf), .leaf, .leaf, (.arr 32 .leaf)]))), [.t 4, .t 9], none⟩,
      ⟨.var 5, (.q .mv), [.c (.int 7)], none⟩])
    .ret)
    .skip))
    (.seq (.seq (.draw [⟨.new, (.q (.fa [.leaf, (.arr 32 .leaf), .leaf, .leaf, (.arr 32 .leaf)] 2)), [.t 2], none⟩,
      ⟨.new, (.q (.ld .leaf)), [.t 9], none⟩,
      ⟨.new, (.q (.fa [.leaf, (.arr 32 .leaf), .leaf, .leaf, (.arr 32 .leaf)] 3)), [.t 2], none⟩,
      ⟨.new, (.q (.ld .leaf)), [.t 11], none⟩,
      ⟨.new, (.q (.ld (.arr 32 .leaf))), [.t 3], none⟩,
      ⟨.new, (.call 9), [.t 10, .t 12, .t 13], none⟩,
      ⟨.new, (.q (.fa [.leaf, (.arr 32 .leaf), .leaf, .leaf, (.arr 32 .leaf)] 1)), [.t 2], none⟩,
      ⟨.new, (.q (.ld (.arr 32 .leaf))), [.t 15], none⟩,
      ⟨.var 8, (.q (.eqA true 32 .u8)), [.t 14, .t 16], none⟩])
    (.cond (.t 8) (.seq (.reg [⟨.new, (.q (.ld (.st [.leaf, (.arr 32 .leaf), .leaf, .leaf, (.arr 32 .leaf)]))), [.t 2], none⟩,
      ⟨.none, (.e (.store (.st [.leaf, (.arr 32 .leaf), .leaf, .leaf, (.arr 32 .leaf)]))), [.t 4, .t 9], none⟩,
      ⟨.var 5, (.q .mv), [.c (.int 30)], none⟩])
    .ret)
    .skip))
    (.seq (.draw [⟨.none, (.pairs [(0, 2)]), [], none⟩,
      ⟨.new, (.q (.ld (.arr 32 .leaf))), [.t 3], none⟩,
      ⟨.new, (.q (.fa [.leaf, (.arr 32 .leaf), .leaf, .leaf, (.arr 32 .leaf)] 0)), [.t 2], none⟩,
      ⟨.none, (.e (.store .leaf)), [.t 10, .c (.int 2)], none⟩,
      ⟨.new, (.q (.fa [.leaf, (.arr 32 .leaf), .leaf, .leaf, (.arr 32 .leaf)] 4)), [.t 2], none⟩,
      ⟨.none, (.e (.store (.arr 32 .leaf))), [.t 11, .t 9], none⟩])
    (.seq (.reg [⟨.new, (.q (.ld (.st [.leaf, (.arr 32 .leaf), .leaf, .leaf, (.arr 32 .leaf)]))), [.t 2], none⟩,
      ⟨.none, (.e (.store (.st [.leaf, (.arr 32 .leaf), .leaf, .leaf, (.arr 32 .leaf)]))), [.t 4, .t 9], none⟩,
      ⟨.var 5, (.q .mv), [.c (.int 0)], none⟩])
    .ret)))))),
    [.cell 4 (.st [.leaf, (.arr 32 .leaf), .leaf, .leaf, (.arr 32 .leaf)]), .t 5]⟩

/-- trefoil/trefoillaw27.CommitBoxes (0:acts, 2:, 3:b, 4:r, 5:i, 6:a, 7:e, 8:f, 9:next, 10:d, 11:s, 12:ok, 20:, 30:, 53:, 117:) -/
def s4 : FnS := ⟨119, [0, 2, 3, 4, 5, 6, 7, 8, 9, 10, 11, 12, 20, 30, 53, 117],
    (.seq (.reg [⟨.var 1, (.q .mv), [.c (.bool false)], none⟩])
    (.seq (.reg [⟨.var 2, (.e (.alloc 33 (.st [(.arr 32 .leaf), .leaf, .leaf, .leaf, (.arr 32 .leaf)]) (.agg [(.agg [(.u8 0), (.u8 0), (.u8 0), (.u8 0), (.u8 0), (.u8 0), (.u8 0), (.u8 0), (.u8 0), (.u8 0), (.u8 0), (.u8 0), (.u8 0), (.u8 0), (.u8 0), (.u8 0), (.u8 0), (.u8 0), (.u8 0), (.u8 0), (.u8 0), (.u8 0), (.u8 0), (.u8 0), (.u8 0), (.u8 0), (.u8 0), (.u8 0), (.u8 0), (.u8 0), (.u8 0), (.u8 0)]), (.int 0), (.u32 0), (.int 0), (.agg [(.u8 0), (.u8 0), (.u8 0), (.u8 0), (.u8 0), (.u8 0), (.u8 0), (.u8 0), (.u8 0), (.u8 0), (.u8 0), (.u8 0), (.u8 0), (.u8 0), (.u8 0), (.u8 0), (.u8 0), (.u8 0), (.u8 0), (.u8 0), (.u8 0), (.u8 0), (.u8 0), (.u8 0), (.u8 0), (.u8 0), (.u8 0), (.u8 0), (.u8 0), (.u8 0), (.u8 0), (.u8 0)])]))), [], none⟩])
    (.seq (.reg [⟨.var 3, (.e (.alloc 35 (.st [.leaf, (.arr 32 .leaf), .leaf, .leaf, (.arr 32 .leaf)]) (.agg [(.int 0), (.agg [(.u8 0), (.u8 0), (.u8 0), (.u8 0), (.u8 0), (.u8 0), (.u8 0), (.u8 0), (.u8 0), (.u8 0), (.u8 0), (.u8 0), (.u8 0), (.u8 0), (.u8 0), (.u8 0), (.u8 0), (.u8 0), (.u8 0), (.u8 0), (.u8 0), (.u8 0), (.u8 0), (.u8 0), (.u8 0), (.u8 0), (.u8 0), (.u8 0), (.u8 0), (.u8 0), (.u8 0), (.u8 0)]), (.int 0), (.u32 0), (.agg [(.u8 0), (.u8 0), (.u8 0), (.u8 0), (.u8 0), (.u8 0), (.u8 0), (.u8 0), (.u8 0), (.u8 0), (.u8 0), (.u8 0), (.u8 0), (.u8 0), (.u8 0), (.u8 0), (.u8 0), (.u8 0), (.u8 0), (.u8 0), (.u8 0), (.u8 0), (.u8 0), (.u8 0), (.u8 0), (.u8 0), (.u8 0), (.u8 0), (.u8 0), (.u8 0), (.u8 0), (.u8 0)])]))), [], none⟩])
    (.seq (.seq (.reg [⟨.var 4, (.q .mv), [.c (.int 0)], none⟩])
    (.block 0 (.loop (.seq (.seq (.reg [⟨.new, (.q .mv), [.t 4], none⟩,
      ⟨.new, (.q .mv), [.t 0], none⟩,
      ⟨.new, (.q .len), [.t 17], none⟩,
      ⟨.new, (.q (.bin .lss)), [.t 16, .t 18], none⟩,
      ⟨.new, (.q .mv), [.t 19], none⟩,
      ⟨.new, (.q .mv), [.t 4], (some (20, true))⟩,
      ⟨.new, (.q (.bin .lss)), [.t 21, .c (.int 20)], (some (20, true))⟩,
      ⟨.var 12, (.q .pick), [.t 20, .t 22, .c (.bool false)], none⟩])
    (.cond (.t 12) .skip
    (.exit 0)))
    (.seq (.block 1 (.seq (.reg [⟨.new, (.q .mv), [.t 0], none⟩,
      ⟨.new, (.q .mv), [.t 4], none⟩,
      ⟨.new, (.q (.iaS (.st [.leaf, .leaf, .leaf, (.arr 32 .leaf), (.arr 32 .leaf)]))), [.t 16, .t 17], none⟩,
      ⟨.new, (.q (.ld (.st [.leaf, .leaf, .leaf, (.arr 32 .leaf), (.arr 32 .leaf)]))), [.t 18], none⟩,
      ⟨.var 5, (.e (.alloc 37 (.st [.leaf, .leaf, .leaf, (.arr 32 .leaf), (.arr 32 .leaf)]) (.agg [(.int 0), (.u8 0), (.u32 0), (.agg [(.u8 0), (.u8 0), (.u8 0), (.u8 0), (.u8 0), (.u8 0), (.u8 0), (.u8 0), (.u8 0), (.u8 0), (.u8 0), (.u8 0), (.u8 0), (.u8 0), (.u8 0), (.u8 0), (.u8 0), (.u8 0), (.u8 0), (.u8 0), (.u8 0), (.u8 0), (.u8 0), (.u8 0), (.u8 0), (.u8 0), (.u8 0), (.u8 0), (.u8 0), (.u8 0), (.u8 0), (.u8 0)]), (.agg [(.u8 0), (.u8 0), (.u8 0), (.u8 0), (.u8 0), (.u8 0), (.u8 0), (.u8 0), (.u8 0), (.u8 0), (.u8 0), (.u8 0), (.u8 0), (.u8 0), (.u8 0), (.u8 0), (.u8 0), (.u8 0), (.u8 0), (.u8 0), (.u8 0), (.u8 0), (.u8 0), (.u8 0), (.u8 0), (.u8 0), (.u8 0), (.u8 0), (.u8 0), (.u8 0), (.u8 0), (.u8 0)])]))), [], none⟩,
      ⟨.none, (.e (.store (.st [.leaf, .leaf, .leaf, (.arr 32 .leaf), (.arr 32 .leaf)]))), [.t 5, .t 19], none⟩])
    (.seq (.reg [⟨.var 6, (.q .mv), [.c (.int 0)], none⟩])
    (.seq (.reg [⟨.var 7, (.q .mv), [.c (.int 0)], none⟩])
    (.seq (.reg [⟨.new, (.q (.ld (.st [.leaf, (.arr 32 .leaf), .leaf, .leaf, (.arr 32 .leaf)]))), [.t 3], none⟩,
      ⟨.var 8, (.e (.alloc 35 (.st [.leaf, (.arr 32 .leaf), .leaf, .leaf, (.arr 32 .leaf)]) (.agg [(.int 0), (.agg [(.u8 0), (.u8 0), (.u8 0), (.u8 0), (.u8 0), (.u8 0), (.u8 0), (.u8 0), (.u8 0), (.u8 0), (.u8 0), (.u8 0), (.u8 0), (.u8 0), (.u8 0), (.u8 0), (.u8 0), (.u8 0), (.u8 0), (.u8 0), (.u8 0), (.u8 0), (.u8 0), (.u8 0), (.u8 0), (.u8 0), (.u8 0), (.u8 0), (.u8 0), (.u8 0), (.u8 0), (.u8 0)]), (.int 0), (.u32 0), (.agg [(.u8 0), (.u8 0), (.u8 0), (.u8 0), (.u8 0), (.u8 0), (.u8 0), (.u8 0), (.u8 0), (.u8 0), (.u8 0), (.u8 0), (.u8 0), (.u8 0), (.u8 0), (.u8 0), (.u8 0), (.u8 0), (.u8 0), (.u8 0), (.u8 0), (.u8 0), (.u8 0), (.u8 0), (.u8 0), (.u8 0), (.u8 0), (.u8 0), (.u8 0), (.u8 0), (.u8 0), (.u8 0)])]))), [], none⟩,
      ⟨.none, (.e (.store (.st [.leaf, (.arr 32 .leaf), .leaf, .leaf, (.arr 32 .leaf)]))), [.t 8, .t 16], none⟩])
    (.seq (.seq (.reg [⟨.new, (.q (.fa [.leaf, .leaf, .leaf, (.arr 32 .leaf), (.arr 32 .leaf)] 0)), [.t 5], none⟩,
      ⟨.new, (.q (.ld .leaf)), [.t 16], none⟩,
      ⟨.var 13, (.q (.bin .eql)), [.t 17, .c (.int 0)], none⟩])
    (.cond (.t 13) (.seq (.reg [⟨.new, (.q (.ld (.st [.leaf, (.arr 32 .leaf), .leaf, .leaf, (.arr 32 .leaf)]))), [.t 3], none⟩,
      ⟨.new, (.q (.fa [.leaf, .leaf, .leaf, (.arr 32 .leaf), (.arr 32 .leaf)] 1)), [.t 5], none⟩,
      ⟨.new, (.q (.ld .leaf)), [.t 17], none⟩,
      ⟨.new, (.q (.cv .i64)), [.t 18], none⟩,
      ⟨.new, (.q (.fa [.leaf, .leaf, .leaf, (.arr 32 .leaf), (.arr 32 .leaf)] 2)), [.t 5], none⟩,
      ⟨.new, (.q (.ld .leaf)), [.t 20], none⟩,
      ⟨.new, (.q (.fa [.leaf, .leaf, .leaf, (.arr 32 .leaf), (.arr 32 .leaf)] 3)), [.t 5], none⟩,
      ⟨.new, (.q (.ld (.arr 32 .leaf))), [.t 22], none⟩,
      ⟨.new, (.call 13), [.t 16, .t 19, .t 21, .t 23], none⟩,
      ⟨.new, (.q .mv), [.t 24], none⟩,
      ⟨.new, (.q (.ext 0)), [.t 25], none⟩,
      ⟨.new, (.q (.ext 1)), [.t 25], none⟩,
      ⟨.none, (.e (.store (.st [.leaf, (.arr 32 .leaf), .leaf, .leaf, (.arr 32 .leaf)]))), [.t 8, .t 26], none⟩,
      ⟨.var 6, (.q .mv), [.t 27], none⟩])
    (.reg [⟨.new, (.q (.fa [.leaf, .leaf, .leaf, (.arr 32 .leaf), (.arr 32 .leaf)] 1)), [.t 5], none⟩,
      ⟨.new, (.q (.ld .leaf)), [.t 16], none⟩,
      ⟨.new, (.q (.cv .i64)), [.t 17], none⟩,
      ⟨.new, (.q (.fa [.leaf, .leaf, .leaf, (.arr 32 .leaf), (.arr 32 .leaf)] 2)), [.t 5], none⟩,
      ⟨.new, (.q (.ld .leaf)), [.t 19], none⟩,
      ⟨.new, (.q (.fa [.leaf, .leaf, .leaf, (.arr 32 .leaf), (.arr 32 .leaf)] 3)), [.t 5], none⟩,
      ⟨.new, (.q (.ld (.arr 32 .leaf))), [.t 21], none⟩,
      ⟨.new, (.call 14), [.t 2, .t 18, .t 20, .t 22], none⟩,
      ⟨.var 7, (.q .mv), [.t 23], none⟩]))
    (.seq (.reg [⟨.new, (.q (.fa [.leaf, .leaf, .leaf, (.arr 32 .leaf), (.arr 32 .leaf)] 0)), [.t 5], none⟩,
      ⟨.new, (.q (.ld .leaf)), [.t 16], none⟩,
      ⟨.var 14, (.q (.bin .eql)), [.t 17, .c (.int 1)], none⟩])
    (.cond (.t 14) (.seq (.reg [⟨.new, (.q (.fa [.leaf, .leaf, .leaf, (.arr 32 .leaf), (.arr 32 .leaf)] 1)), [.t 5], none⟩,
      ⟨.new, (.q (.ld .leaf)), [.t 16], none⟩,
      ⟨.new, (.q (.cv .i64)), [.t 17], none⟩,
      ⟨.new, (.q (.fa [.leaf, .leaf, .leaf, (.arr 32 .leaf), (.arr 32 .leaf)] 2)), [.t 5], none⟩,
      ⟨.new, (.q (.ld .leaf)), [.t 19], none⟩,
      ⟨.new, (.q (.fa [.leaf, .leaf, .leaf, (.arr 32 .leaf), (.arr 32 .leaf)] 4)), [.t 5], none⟩,
      ⟨.new, (.q (.ld (.arr 32 .leaf))), [.t 21], none⟩,
      ⟨.new, (.call 9), [.t 18, .t 20, .t 22], none⟩,
      ⟨.var 9, (.e (.alloc 26 (.arr 32 .leaf) (.agg [(.u8 0), (.u8 0), (.u8 0), (.u8 0), (.u8 0), (.u8 0), (.u8 0), (.u8 0), (.u8 0), (.u8 0), (.u8 0), (.u8 0), (.u8 0), (.u8 0), (.u8 0), (.u8 0), (.u8 0), (.u8 0), (.u8 0), (.u8 0), (.u8 0), (.u8 0), (.u8 0), (.u8 0), (.u8 0), (.u8 0), (.u8 0), (.u8 0), (.u8 0), (.u8 0), (.u8 0), (.u8 0)]))), [], none⟩,
      ⟨.none, (.e (.store (.arr 32 .leaf))), [.t 9, .t 23], none⟩])
    (.seq (.reg [⟨.new, (.q (.ld (.st [.leaf, (.arr 32 .leaf), .leaf, .leaf, (.arr 32 .leaf)]))), [.t 3], none⟩,
      ⟨.new, (.q (.fa [.leaf, .leaf, .leaf, (.arr 32 .leaf), (.arr 32 .leaf)] 1)), [.t 5], none⟩,
      ⟨.new, (.q (.ld .leaf)), [.t 17], none⟩,
      ⟨.new, (.q (.cv .i64)), [.t 18], none⟩,
      ⟨.new, (.q (.fa [.leaf, .leaf, .leaf, (.arr 32 .leaf), (.arr 32 .leaf)] 2)), [.t 5], none⟩,
      ⟨.new, (.q (.ld .leaf)), [.t 20], none⟩,
      ⟨.new, (.q (.ld (.arr 32 .leaf))), [.t 9], none⟩,
      ⟨.new, (.call 13), [.t 16, .t 19, .t 21, .t 22], none⟩,
      ⟨.new, (.q .mv), [.t 23], none⟩,
      ⟨.new, (.q (.ext 0)), [.t 24], none⟩,
      ⟨.new, (.q (.ext 1)), [.t 24], none⟩,
      ⟨.none, (.e (.store (.st [.leaf, (.arr 32 .leaf), .leaf, .leaf, (.arr 32 .leaf)]))), [.t 8, .t 25], none⟩,
      ⟨.var 6, (.q .mv), [.t 26], none⟩])
    (.reg [⟨.new, (.q (.fa [.leaf, .leaf, .leaf, (.arr 32 .leaf), (.arr 32 .leaf)] 1)), [.t 5], none⟩,
      ⟨.new, (.q (.ld .leaf)), [.t 16], none⟩,
      ⟨.new, (.q (.cv .i64)), [.t 17], none⟩,
      ⟨.new, (.q (.fa [.leaf, .leaf, .leaf, (.arr 32 .leaf), (.arr 32 .leaf)] 2)), [.t 5], none⟩,
      ⟨.new, (.q (.ld .leaf)), [.t 19], none⟩,
      ⟨.new, (.q (.ld (.arr 32 .leaf))), [.t 9], none⟩,
      ⟨.new, (.call 14), [.t 2, .t 18, .t 20, .t 21], none⟩,
      ⟨.var 7, (.q .mv), [.t 22], none⟩])))
    (.seq (.reg [⟨.new, (.q (.ld (.st [.leaf, (.arr 32 .leaf), .leaf, .leaf, (.arr 32 .leaf)]))), [.t 3], none⟩,
      ⟨.new, (.q (.fa [.leaf, .leaf, .leaf, (.arr 32 .leaf), (.arr 32 .leaf)] 4)), [.t 5], none⟩,
      ⟨.new, (.q (.ld (.arr 32 .leaf))), [.t 17], none⟩,
      ⟨.new, (.call 15), [.t 16, .t 18], none⟩,
      ⟨.new, (.q .mv), [.t 19], none⟩,
      ⟨.new, (.q (.ext 0)), [.t 20], none⟩,
      ⟨.new, (.q (.ext 1)), [.t 20], none⟩,
      ⟨.none, (.e (.store (.st [.leaf, (.arr 32 .leaf), .leaf, .leaf, (.arr 32 .leaf)]))), [.t 8, .t 21], none⟩,
      ⟨.var 6, (.q .mv), [.t 22], none⟩])
    (.reg [⟨.new, (.q (.fa [.leaf, .leaf, .leaf, (.arr 32 .leaf), (.arr 32 .leaf)] 4)), [.t 5], none⟩,
      ⟨.new, (.q (.ld (.arr 32 .leaf))), [.t 16], none⟩,
      ⟨.new, (.call 16), [.t 2, .t 17], none⟩,
      ⟨.var 7, (.q .mv), [.t 18], none⟩]))))))
    (.seq (.reg [⟨.new, (.q (.ld (.st [.leaf, (.arr 32 .leaf), .leaf, .leaf, (.arr 32 .leaf)]))), [.t 8], none⟩,
      ⟨.none, (.e (.store (.st [.leaf, (.arr 32 .leaf), .leaf, .leaf, (.arr 32 .leaf)]))), [.t 3, .t 16], none⟩])
    (.seq (.reg [⟨.new, (.call 17), [.t 2], none⟩,
      ⟨.new, (.q .mv), [.t 16], none⟩,
      ⟨.new, (.q (.ext 0)), [.t 17], none⟩,
      ⟨.new, (.q (.ext 1)), [.t 17], none⟩,
      ⟨.var 10, (.e (.alloc 25 (.arr 32 .leaf) (.agg [(.u8 0), (.u8 0), (.u8 0), (.u8 0), (.u8 0), (.u8 0), (.u8 0), (.u8 0), (.u8 0), (.u8 0), (.u8 0), (.u8 0), (.u8 0), (.u8 0), (.u8 0), (.u8 0), (.u8 0), (.u8 0), (.u8 0), (.u8 0), (.u8 0), (.u8 0), (.u8 0), (.u8 0), (.u8 0), (.u8 0), (.u8 0), (.u8 0), (.u8 0), (.u8 0), (.u8 0), (.u8 0)]))), [], none⟩,
      ⟨.none, (.e (.store (.arr 32 .leaf))), [.t 10, .t 18], none⟩,
      ⟨.var 11, (.q .mv), [.t 19], none⟩])
    (.seq (.draw [⟨.new, (.q .mv), [.t 7], none⟩,
      ⟨.new, (.q .mv), [.t 6], none⟩,
      ⟨.new, (.q (.bin .neq)), [.t 16, .t 17], none⟩,
      ⟨.new, (.q .mv), [.t 18], none⟩,
      ⟨.new, (.q (.ld (.arr 32 .leaf))), [.t 10], (some (19, false))⟩,
      ⟨.new, (.q (.fa [.leaf, (.arr 32 .leaf), .leaf, .leaf, (.arr 32 .leaf)] 4)), [.t 3], (some (19, false))⟩,
      ⟨.new, (.q (.ld (.arr 32 .leaf))), [.t 21], (some (19, false))⟩,
      ⟨.new, (.q (.eqA true 32 .u8)), [.t 20, .t 22], (some (19, false))⟩,
      ⟨.new, (.q .pick), [.t 19, .c (.bool true), .t 23], none⟩,
      ⟨.new, (.q .mv), [.t 24], none⟩,
      ⟨.new, (.q .mv), [.t 11], (some (25, false))⟩,
      ⟨.new, (.q (.fa [.leaf, (.arr 32 .leaf), .leaf, .leaf, (.arr 32 .leaf)] 0)), [.t 3], (some (25, false))⟩,
      ⟨.new, (.q (.ld .leaf)), [.t 27], (some (25, false))⟩,
      ⟨.new, (.q (.bin .eql)), [.t 28, .c (.int 2)], (some (25, false))⟩,
      ⟨.new, (.q (.eqB true)), [.t 26, .t 29], (some (25, false))⟩,
      ⟨.new, (.q .pick), [.t 25, .c (.bool true), .t 30], none⟩,
      ⟨.new, (.q .mv), [.t 31], none⟩,
      ⟨.new, (.call 18), [.t 2], (some (32, false))⟩,
      ⟨.new, (.q (.fa [.leaf, (.arr 32 .leaf), .leaf, .leaf, (.arr 32 .leaf)] 0)), [.t 3], (some (32, false))⟩,
      ⟨.new, (.q (.ld .leaf)), [.t 34], (some (32, false))⟩,
      ⟨.new, (.q (.bin .gtr)), [.t 35, .c (.int 0)], (some (32, false))⟩,
      ⟨.new, (.q (.eqB true)), [.t 33, .t 36], (some (32, false))⟩,
      ⟨.var 15, (.q .pick), [.t 32, .c (.bool true), .t 37], none⟩])
    (.cond (.t 15) (.seq (.reg [⟨.var 1, (.q .mv), [.c (.bool false)], none⟩])
    .ret)
    .skip))))))))))
    (.reg [⟨.new, (.q .mv), [.t 4], none⟩,
      ⟨.new, (.q (.bin .add)), [.t 16, .c (.int 1)], none⟩,
      ⟨.var 4, (.q .mv), [.t 17], none⟩]))))))
    (.seq (.reg [⟨.new, (.call 12), [], none⟩,
      ⟨.var 1, (.q .mv), [.t 16], none⟩])
    .ret))))),
    [.t 1]⟩

set_option maxRecDepth 100000
set_option linter.unusedSimpArgs false
set_option linter.unusedVariables false
theorem c13 : cF P G (drP P G) 13 4 s13.vm = some s13 := by kernel_rfl
theorem c15 : cF P G (drP P G) 15 2 s15.vm = some s15 := by kernel_rfl
theorem c4 : cF P G (drP P G) 4 1 s4.vm = some s4 := by kernel_rfl
abbrev rxS : Shape := .st [.leaf, .arr 32 .leaf, .leaf, .leaf, .arr 32 .leaf]
/-- a box, as the reference has it -/
def rxA (z : Bx) : AV := .agg [.int z.s, .agg (z.d.map .u8), .int z.p, .u32 z.b, .agg (z.x.map .u8)]
def rxB (z : Bx) : Option Blk := some ⟨35, 0, false, .arr 1 rxS, .agg [rxA z]⟩
def bindR (z : Bx) (p : Int) (b : BitVec 32) (d : List (BitVec 8)) : Bx := if z.s = 0 then ⟨d, p, b, 1, z32⟩ else z
theorem f13 {K : AV → Heap → Prop} {H : Heap} {z : Bx} {p : Int} {b : BitVec 32} {d : List (BitVec 8)} (hd : d.length = 32) (hz : z.ok) (h : K (.tup [rxA (bindR z p b d), .int (bindE z)]) H) : wpF P G 13 [rxA z, .int p, .u32 b, .agg (d.map .u8)] H K := by
  refine wpF_go c13 rfl 5 ?_
  intro hA hB
  simp only [s13]
  clear hA hB
  obtain ⟨hz1, hz2⟩ := hz
  by_cases h0 : z.s = 0
  · have e1 : bindR z p b d = ⟨d, p, b, 1, z32⟩ := if_pos h0
    have e2 : bindE z = 0 := if_pos h0
    rw [e1, e2] at h
    unfold rxA at *
    (refine gw4 @h0 @hd @hz1 @hz2 ?_; try exact True.intro)
    exact h
  · have e1 : bindR z p b d = z := if_neg h0
    have e2 : bindE z = 7 := if_neg h0
    rw [e1, e2] at h
    unfold rxA at *
    (refine gw4 @h0 @hd @hz1 @hz2 ?_; try exact True.intro)
    exact h
theorem f15 {K : AV → Heap → Prop} {H : Heap} {z : Bx} {x : List (BitVec 8)} (hx : x.length = 32) (hz : z.ok) (h : K (.tup [rxA (tell z x), .int (tellE z x)]) H) : wpF P G 15 [rxA z, .agg (x.map .u8)] H K := by
  refine wpF_go c15 rfl 5 ?_
  intro hA hB
  simp only [s15]
  clear hA hB
  obtain ⟨hz1, hz2⟩ := hz
  by_cases h0 : z.s = 0
  · have e1 : tell z x = z := if_pos h0
    have e2 : tellE z x = 8 := if_pos h0
    rw [e1, e2] at h
    unfold rxA at *
    rw [h0] at h
    (refine gw4 @h0 @hx @hz1 @hz2 ?_; try exact True.intro)
    exact h
  · by_cases h2 : z.s = 2
    · have e1 : tell z x = z := by unfold tell; rw [if_neg h0, if_pos h2]
      have e2 : tellE z x = 7 := by unfold tellE; rw [if_neg h0, if_pos h2]
      rw [e1, e2] at h
      have h0' : ¬ ((2 : Int) = 0) := by decide
      unfold rxA at *
      rw [h2] at h
      (refine gw5 @h0' @h2 @hx @hz1 @hz2 ?_; try exact True.intro)
      exact h
    · have h9 : ∀ {K : AV → Heap → Prop} {H : Heap}, K (.agg ((com z.p z.b x).map .u8)) H → wpF P G 9 [.int z.p, .u32 z.b, .agg (x.map .u8)] H K := fun h => f9 hx h
      have hcl := com_len (p := z.p) (b := z.b) (s := x)
      by_cases hc : com z.p z.b x = z.d
      · have e1 : tell z x = ⟨z.d, z.p, z.b, 2, x⟩ := by unfold tell; rw [if_neg h0, if_neg h2, if_pos hc]
        have e2 : tellE z x = 0 := by unfold tellE; rw [if_neg h0, if_neg h2, if_pos hc]
        rw [e1, e2] at h
        unfold rxA at *
        rw [hc] at h9
        (refine gw5 @h0 @h2 @hx @hz1 @hz2 ?_; try exact True.intro)
        refine drawn _ (h9 ⟨rfl, rfl⟩) ?_
        (refine gw3 @hx @hz1 @hz2 ?_; try exact True.intro)
        exact ⟨m8_kind, h⟩
      · have e1 : tell z x = z := by unfold tell; rw [if_neg h0, if_neg h2, if_neg hc]
        have e2 : tellE z x = 30 := by unfold tellE; rw [if_neg h0, if_neg h2, if_neg hc]
        rw [e1, e2] at h
        have hne : ((com z.p z.b x).map AV.u8 = z.d.map AV.u8) = False := by
          simp only [eq_iff_iff, iff_false]
          exact fun h => hc ((List.map_inj_right (fun a b h => by injection h)).1 h)
        generalize com z.p z.b x = cc at *
        unfold rxA at *
        (refine gw5 @h0 @h2 @hx @hz1 @hz2 ?_; try exact True.intro)
        refine drawn _ (h9 ⟨rfl, rfl⟩) ?_
        (refine gw5 @hx @hz1 @hz2 @hcl @hne ?_; try exact True.intro)
        exact ⟨m8_kind, m8_kind, h⟩
/-- an act of the law -/
structure Ac where
  k : Int
  p : BitVec 8
  b : BitVec 32
  d : List (BitVec 8)
  s : List (BitVec 8)
abbrev acS : Shape := .st [.leaf, .leaf, .leaf, .arr 32 .leaf, .arr 32 .leaf]
def acA (a : Ac) : AV := .agg [.int a.k, .u8 a.p, .u32 a.b, .agg (a.d.map .u8), .agg (a.s.map .u8)]
def acOk (a : Ac) : Prop := a.d.length = 32 ∧ a.s.length = 32
/-- what a box may be -/
def Bx.good (z : Bx) : Prop := z.ok ∧ (z.s = 0 ∨ z.s = 1 ∨ z.s = 2) ∧ (z.s ≠ 2 → z.x = z32)
theorem bindR_eq {z : Bx} (hz : z.good) {p : Int} {b : BitVec 32} {d : List (BitVec 8)} : bindR z p b d = bind z p b d := by
  unfold bindR bind
  by_cases h : z.s = 0
  · rw [if_pos h, if_pos h, hz.2.2 (by rw [h]; decide)]
  · rw [if_neg h, if_neg h]
theorem bind_good {z : Bx} (hz : z.good) {p : Int} {b : BitVec 32} {d : List (BitVec 8)} (hd : d.length = 32) : (bind z p b d).good := by
  unfold bind
  by_cases h : z.s = 0
  · rw [if_pos h]
    exact ⟨⟨hd, hz.1.2⟩, .inr (.inl rfl), fun _ => hz.2.2 (by rw [h]; decide)⟩
  · rw [if_neg h]; exact hz
theorem tell_good {z : Bx} (hz : z.good) {x : List (BitVec 8)} (hx : x.length = 32) : (tell z x).good := by
  unfold tell
  split
  · exact hz
  · split
    · exact hz
    · split
      · exact ⟨⟨hz.1.1, hx⟩, .inr (.inr rfl), fun h => absurd rfl h⟩
      · exact hz
theorem sdX_good {z : Bx} (hz : z.good) : sdX z = z.x := by
  unfold sdX
  by_cases h : z.s = 2
  · rw [if_pos h]
  · rw [if_neg h, hz.2.2 h]
theorem pos_good {z : Bx} (hz : z.good) : decide (0 < z.s) = !decide (z.s = 0) := by
  rcases hz.2.1 with h | h | h <;> rw [h] <;> rfl
def I4 (al : List Ac) (H : Heap) (k : Nat) (st : St) : Prop :=
  ∃ (i : Nat) (z : Bx) (J : Heap) (u5 u6 u7 u8 u9 u10 u11 u12 u13 u14 u15 : AV), st = ⟨[.ro acS (al.map acA), .bool false, .ptr H.length 0 [0] bxS, .ptr (H.length + 1) 0 [0] rxS, .int (i : Int), u5, u6, u7, u8, u9, u10, u11, u12, u13, u14, u15], H ++ bxB z :: rxB z :: J⟩ ∧ k = 20 - i ∧ i ≤ 20 ∧ z.good
theorem f4 {K : AV → Heap → Prop} {H : Heap} {al : List Ac} (hl : al.length ≤ 9223372036854775807) (ha : ∀ a ∈ al, acOk a) (h : K (.bool true) H) : wpF P G 4 [.ro acS (al.map acA)] H K := by
  refine wpF_go c4 rfl 3 ?_
  intro hA hB
  simp only [s4]
  clear hA hB
  have lm : (al.map acA).length = al.length := by simp
  (refine gw0 ?_; try exact True.intro)
  refine wp_inv (I4 al H) 20 ⟨0, z0, [], _, _, _, _, _, _, _, _, _, _, _, rfl, rfl, by omega, ⟨⟨rfl, rfl⟩, .inl rfl, fun _ => rfl⟩⟩ ?_
  rintro k st ⟨i, z, J, u5, u6, u7, u8, u9, u10, u11, u12, u13, u14, u15, rfl, rfl, hi, hz⟩
  by_cases hil : i < al.length
  · by_cases h20 : i < 20
    · have h1 : ((i : Int) < (al.length : Int)) = True := by simp only [eq_iff_iff, iff_true]; omega
      have h2 : ((i : Int) < 20) = True := by simp only [eq_iff_iff, iff_true]; omega
      obtain ⟨a, hai⟩ : ∃ a, al[i]? = some a := ⟨al[i], List.getElem?_eq_getElem hil⟩
      have hao := ha a (List.mem_of_getElem? hai)
      obtain ⟨hd, hs⟩ := hao
      have g1 : (al.map acA).getD i .un = .agg [.int a.k, .u8 a.p, .u32 a.b, .agg (a.d.map .u8), .agg (a.s.map .u8)] := by
        rw [List.getD_eq_getElem?_getD, List.getElem?_map, hai]; rfl
      have hpz : -9223372036854775808 ≤ (a.p.toNat : Int) ∧ (a.p.toNat : Int) ≤ 9223372036854775807 := by have := a.p.isLt; omega
      by_cases hk0 : a.k = 0
      · have hz' := bind_good hz (p := (a.p.toNat : Int)) (b := a.b) hd
        have h13 : ∀ {K : AV → Heap → Prop} {H : Heap}, K (.tup [rxA (bind z a.p.toNat a.b a.d), .int (bindE z)]) H → wpF P G 13 [rxA z, .int a.p.toNat, .u32 a.b, .agg (a.d.map .u8)] H K := fun h => f13 hd hz.1 (by rw [bindR_eq hz]; exact h)
        have h14 : ∀ {K : AV → Heap → Prop} {L : Heap}, K (.int (bindE z)) (H ++ bxB (bind z a.p.toNat a.b a.d) :: L) → wpF P G 14 [.ptr H.length 0 [0] bxS, .int a.p.toNat, .u32 a.b, .agg (a.d.map .u8)] (H ++ bxB z :: L) K := fun h => f14 hd hz.1 h
        generalize bind z a.p.toNat a.b a.d = z' at *
        unfold rxB rxA
        (refine gw7 @h1 @h2 @g1 @lm @hd @hs @hk0 ?_; try exact True.intro)
        refine ⟨hz.1.1, hz.1.2, ?_⟩
        refine h13 ?_
        unfold rxA
        (refine gw1 @hk0 ?_; try exact True.intro)
        refine ⟨hz'.1.1, hz'.1.2, ?_⟩
        refine h14 ?_
        (refine gw1 @hk0 ?_; try exact True.intro)
        refine ⟨hz'.1.1, hz'.1.2, ?_⟩
        refine f17 (z := z') (by rw [hget_0, hget_z]) hz'.1 ?_
        rw [sdX_good hz']
        have hz1' := hz'.1.1
        have hz2' := hz'.1.2
        (refine gw2 @hz1' @hz2' ?_; try exact True.intro)
        refine ⟨m8_kind, ?_⟩
        refine drawn _ (f18 (z := z') (by rw [hget_0, hget_z]) ⟨rfl, rfl⟩) ?_
        rw [← pos_good hz']
        (refine gw0 ?_; try exact True.intro)
        (repeat (refine And.intro (by omega) ?_))
        exact ⟨20 - (i + 1), by omega, i + 1, z', _, _, _, _, _, _, _, _, _, _, _, _, rfl, rfl, by omega, hz'⟩
      · by_cases hk1 : a.k = 1
        · have hcl := com_len (p := (a.p.toNat : Int)) (b := a.b) (s := a.s)
          have h9 : ∀ {K : AV → Heap → Prop} {H : Heap}, K (.agg ((com a.p.toNat a.b a.s).map .u8)) H → wpF P G 9 [.int a.p.toNat, .u32 a.b, .agg (a.s.map .u8)] H K := fun h => f9 hs h
          generalize com a.p.toNat a.b a.s = c at *
          have hz' := bind_good hz (p := (a.p.toNat : Int)) (b := a.b) hcl
          have h13 : ∀ {K : AV → Heap → Prop} {H : Heap}, K (.tup [rxA (bind z a.p.toNat a.b c), .int (bindE z)]) H → wpF P G 13 [rxA z, .int a.p.toNat, .u32 a.b, .agg (c.map .u8)] H K := fun h => f13 hcl hz.1 (by rw [bindR_eq hz]; exact h)
          have h14 : ∀ {K : AV → Heap → Prop} {L : Heap}, K (.int (bindE z)) (H ++ bxB (bind z a.p.toNat a.b c) :: L) → wpF P G 14 [.ptr H.length 0 [0] bxS, .int a.p.toNat, .u32 a.b, .agg (c.map .u8)] (H ++ bxB z :: L) K := fun h => f14 hcl hz.1 h
          generalize bind z a.p.toNat a.b c = z' at *
          have e0 : ((1 : Int) = 0) = False := by simp
          unfold rxB rxA
          (refine gw8 @h1 @h2 @g1 @lm @hd @hs @hk1 @e0 ?_; try exact True.intro)
          refine ⟨hz.1.1, hz.1.2, ?_⟩
          refine h9 ?_
          (refine gw2 @hk1 @hcl ?_; try exact True.intro)
          refine h13 ?_
          unfold rxA
          (refine gw2 @hk1 @hcl ?_; try exact True.intro)
          refine ⟨hz'.1.1, hz'.1.2, ?_⟩
          refine h14 ?_
          (refine gw1 @hk1 ?_; try exact True.intro)
          refine ⟨hz'.1.1, hz'.1.2, ?_⟩
          refine f17 (z := z') (by rw [hget_0, hget_z]) hz'.1 ?_
          rw [sdX_good hz']
          have hz1' := hz'.1.1
          have hz2' := hz'.1.2
          (refine gw2 @hz1' @hz2' ?_; try exact True.intro)
          refine ⟨m8_kind, ?_⟩
          refine drawn _ (f18 (z := z') (by rw [hget_0, hget_z]) ⟨rfl, rfl⟩) ?_
          rw [← pos_good hz']
          (refine gw0 ?_; try exact True.intro)
          (repeat (refine And.intro (by omega) ?_))
          exact ⟨20 - (i + 1), by omega, i + 1, z', _, _, _, _, _, _, _, _, _, _, _, _, rfl, rfl, by omega, hz'⟩
        · have hz' := tell_good hz hs
          have h15 : ∀ {K : AV → Heap → Prop} {H : Heap}, K (.tup [rxA (tell z a.s), .int (tellE z a.s)]) H → wpF P G 15 [rxA z, .agg (a.s.map .u8)] H K := fun h => f15 hs hz.1 h
          have h16 : ∀ {K : AV → Heap → Prop} {L : Heap}, K (.int (tellE z a.s)) (H ++ bxB (tell z a.s) :: L) → wpF P G 16 [.ptr H.length 0 [0] bxS, .agg (a.s.map .u8)] (H ++ bxB z :: L) K := fun h => f16 hs hz.1 h
          generalize tell z a.s = z' at *
          have e0 : (a.k = 0) = False := by simp [hk0]
          have e1 : (a.k = 1) = False := by simp [hk1]
          unfold rxB rxA
          (refine gw8 @h1 @h2 @g1 @lm @hd @hs @e0 @e1 ?_; try exact True.intro)
          refine ⟨hz.1.1, hz.1.2, ?_⟩
          refine h15 ?_
          unfold rxA
          (refine gw2 @e0 @e1 ?_; try exact True.intro)
          refine ⟨hz'.1.1, hz'.1.2, ?_⟩
          refine h16 ?_
          (refine gw0 ?_; try exact True.intro)
          refine ⟨hz'.1.1, hz'.1.2, ?_⟩
          refine f17 (z := z') (by rw [hget_0, hget_z]) hz'.1 ?_
          rw [sdX_good hz']
          have hz1' := hz'.1.1
          have hz2' := hz'.1.2
          (refine gw2 @hz1' @hz2' ?_; try exact True.intro)
          refine ⟨m8_kind, ?_⟩
          refine drawn _ (f18 (z := z') (by rw [hget_0, hget_z]) ⟨rfl, rfl⟩) ?_
          rw [← pos_good hz']
          (refine gw0 ?_; try exact True.intro)
          (repeat (refine And.intro (by omega) ?_))
          exact ⟨20 - (i + 1), by omega, i + 1, z', _, _, _, _, _, _, _, _, _, _, _, _, rfl, rfl, by omega, hz'⟩
    · have h1 : ((i : Int) < (al.length : Int)) = True := by simp only [eq_iff_iff, iff_true]; omega
      have h2 : ((i : Int) < 20) = False := by simp only [eq_iff_iff, iff_false]; omega
      (refine gw3 @h1 @h2 @lm ?_; try exact True.intro)
      refine f12 ?_
      (refine gw0 ?_; try exact True.intro)
      exact h
  · have h1 : ((i : Int) < (al.length : Int)) = False := by simp only [eq_iff_iff, iff_false]; omega
    (refine gw2 @h1 @lm ?_; try exact True.intro)
    refine f12 ?_
    (refine gw0 ?_; try exact True.intro)
    exact h
end Go.Proofs.YtajkclooknanjaaDoor

end

section
/-
  The law TossSides of layer 28 (toss), walked.
-/
open Go Go.V
namespace Go.Proofs.YtajkclooknanjaaDoor
/-- (trefoil/trefoilref28.Toss).Coin (0:t, 1:t, 2:, 3:, 12:) -/
def s26 : FnS := ⟨20, [0, 1, 2, 3, 12],
    (.seq (.reg [⟨.var 1, (.e (.box 61 (.st [.leaf, .leaf, (.arr 32 .leaf), (.st [.leaf, (.arr 32 .leaf), .leaf, .leaf, (.arr 32 .leaf)]), .leaf]))), [.t 0], none⟩,
      ⟨.var 2, (.e (.alloc 25 (.arr 32 .leaf) (.agg [(.u8 0), (.u8 0), (.u8 0), (.u8 0), (.u8 0), (.u8 0), (.u8 0), (.u8 0), (.u8 0), (.u8 0), (.u8 0), (.u8 0), (.u8 0), (.u8 0), (.u8 0), (.u8 0), (.u8 0), (.u8 0), (.u8 0), (.u8 0), (.u8 0), (.u8 0), (.u8 0), (.u8 0), (.u8 0), (.u8 0), (.u8 0), (.u8 0), (.u8 0), (.u8 0), (.u8 0), (.u8 0)]))), [], none⟩,
      ⟨.var 3, (.q .mv), [.c (.bool false)], none⟩])
    (.seq (.seq (.reg [⟨.new, (.q (.fa [.leaf, .leaf, (.arr 32 .leaf), (.st [.leaf, (.arr 32 .leaf), .leaf, .leaf, (.arr 32 .leaf)]), .leaf] 4)), [.t 1], none⟩,
      ⟨.new, (.q (.ld .leaf)), [.t 5], none⟩,
      ⟨.new, (.q (.un .not)), [.t 6], none⟩,
      ⟨.new, (.q .mv), [.t 7], none⟩,
      ⟨.new, (.q (.fa [.leaf, .leaf, (.arr 32 .leaf), (.st [.leaf, (.arr 32 .leaf), .leaf, .leaf, (.arr 32 .leaf)]), .leaf] 3)), [.t 1], (some (8, false))⟩,
      ⟨.new, (.q (.fa [.leaf, (.arr 32 .leaf), .leaf, .leaf, (.arr 32 .leaf)] 0)), [.t 9], (some (8, false))⟩,
      ⟨.new, (.q (.ld .leaf)), [.t 10], (some (8, false))⟩,
      ⟨.new, (.q (.bin .neq)), [.t 11, .c (.int 2)], (some (8, false))⟩,
      ⟨.var 4, (.q .pick), [.t 8, .c (.bool true), .t 12], none⟩])
    (.cond (.t 4) (.seq (.reg [⟨.new, (.e (.bld (.arr 32 .leaf) (.agg [(.u8 0), (.u8 0), (.u8 0), (.u8 0), (.u8 0), (.u8 0), (.u8 0), (.u8 0), (.u8 0), (.u8 0), (.u8 0), (.u8 0), (.u8 0), (.u8 0), (.u8 0), (.u8 0), (.u8 0), (.u8 0), (.u8 0), (.u8 0), (.u8 0), (.u8 0), (.u8 0), (.u8 0), (.u8 0), (.u8 0), (.u8 0), (.u8 0), (.u8 0), (.u8 0), (.u8 0), (.u8 0)]) [])), [], none⟩,
      ⟨.none, (.e (.store (.arr 32 .leaf))), [.t 2, .t 5], none⟩,
      ⟨.var 3, (.q .mv), [.c (.bool false)], none⟩])
    .ret)
    .skip))
    (.seq (.reg [⟨.new, (.q (.fa [.leaf, .leaf, (.arr 32 .leaf), (.st [.leaf, (.arr 32 .leaf), .leaf, .leaf, (.arr 32 .leaf)]), .leaf] 2)), [.t 1], none⟩,
      ⟨.new, (.q (.ld (.arr 32 .leaf))), [.t 5], none⟩,
      ⟨.new, (.q (.fa [.leaf, .leaf, (.arr 32 .leaf), (.st [.leaf, (.arr 32 .leaf), .leaf, .leaf, (.arr 32 .leaf)]), .leaf] 3)), [.t 1], none⟩,
      ⟨.new, (.q (.fa [.leaf, (.arr 32 .leaf), .leaf, .leaf, (.arr 32 .leaf)] 4)), [.t 7], none⟩,
      ⟨.new, (.q (.ld (.arr 32 .leaf))), [.t 8], none⟩,
      ⟨.new, (.call 27), [.t 6, .t 9], none⟩,
      ⟨.none, (.e (.store (.arr 32 .leaf))), [.t 2, .t 10], none⟩,
      ⟨.var 3, (.q .mv), [.c (.bool true)], none⟩])
    .ret))),
    [.cell 2 (.arr 32 .leaf), .t 3]⟩

/-- trefoil/trefoillaw28.TossSides (0:party, 1:batch, 2:own, 3:acts, 6:own, 8:, 9:t, 10:e, 11:r, 12:i, 13:a, 14:f, 15:g, 16:d, 17:s, 18:h, 19:x, 20:ok, 21:y, 22:is, 35:, 59:, 71:, 79:, 93:, 100:, 121:, 131:, 149:, 172:) -/
def s7 : FnS := ⟨174, [0, 1, 2, 3, 6, 8, 9, 10, 11, 12, 13, 14, 15, 16, 17, 18, 19, 20, 21, 22, 35, 59, 71, 79, 93, 100, 121, 131, 149, 172],
    (.seq (.reg [⟨.var 4, (.e (.box 25 (.arr 32 .leaf))), [.t 2], none⟩,
      ⟨.var 5, (.q .mv), [.c (.bool false)], none⟩])
    (.seq (.reg [⟨.new, (.q .mv), [.t 0], none⟩,
      ⟨.new, (.q .mv), [.t 1], none⟩,
      ⟨.new, (.q (.ld (.arr 32 .leaf))), [.t 4], none⟩,
      ⟨.new, (.call 25), [.t 30, .t 31, .t 32], none⟩,
      ⟨.new, (.q .mv), [.t 33], none⟩,
      ⟨.new, (.q (.ext 0)), [.t 34], none⟩,
      ⟨.new, (.q (.ext 1)), [.t 34], none⟩,
      ⟨.var 6, (.q .mv), [.t 35], none⟩,
      ⟨.var 7, (.q .mv), [.t 36], none⟩])
    (.seq (.seq (.reg [⟨.new, (.q .mv), [.t 0], none⟩,
      ⟨.new, (.q (.bin .lss)), [.t 30, .c (.int 0)], none⟩,
      ⟨.new, (.q .mv), [.t 31], none⟩,
      ⟨.new, (.q .mv), [.t 0], (some (32, false))⟩,
      ⟨.new, (.q (.bin .gtr)), [.t 33, .c (.int 1)], (some (32, false))⟩,
      ⟨.var 20, (.q .pick), [.t 32, .c (.bool true), .t 34], none⟩])
    (.cond (.t 20) (.seq (.reg [⟨.new, (.q .mv), [.t 6], none⟩,
      ⟨.new, (.q (.eqP false)), [.t 30, .c .nilp], none⟩,
      ⟨.new, (.q .mv), [.t 31], none⟩,
      ⟨.new, (.q .mv), [.t 7], (some (32, true))⟩,
      ⟨.new, (.q (.bin .eql)), [.t 33, .c (.int 1)], (some (32, true))⟩,
      ⟨.new, (.q .pick), [.t 32, .t 34, .c (.bool false)], none⟩,
      ⟨.new, (.q .mv), [.t 35], none⟩,
      ⟨.new, (.call 24), [], (some (36, true))⟩,
      ⟨.new, (.q .pick), [.t 36, .t 37, .c (.bool false)], none⟩,
      ⟨.var 5, (.q .mv), [.t 38], none⟩])
    .ret)
    .skip))
    (.seq (.seq (.draw [⟨.new, (.q .mv), [.t 7], none⟩,
      ⟨.new, (.q (.bin .neq)), [.t 30, .c (.int 0)], none⟩,
      ⟨.new, (.q .mv), [.t 31], none⟩,
      ⟨.new, (.q .mv), [.t 6], (some (32, false))⟩,
      ⟨.new, (.q (.eqP false)), [.t 33, .c .nilp], (some (32, false))⟩,
      ⟨.new, (.q .pick), [.t 32, .c (.bool true), .t 34], none⟩,
      ⟨.new, (.q .mv), [.t 35], none⟩,
      ⟨.new, (.q .mv), [.t 6], (some (36, false))⟩,
      ⟨.new, (.call 21), [.t 37], (some (36, false))⟩,
      ⟨.new, (.q .mv), [.t 0], (some (36, false))⟩,
      ⟨.new, (.q .mv), [.t 1], (some (36, false))⟩,
      ⟨.new, (.q (.ld (.arr 32 .leaf))), [.t 4], (some (36, false))⟩,
      ⟨.new, (.call 9), [.t 39, .t 40, .t 41], (some (36, false))⟩,
      ⟨.new, (.q (.eqA true 32 .u8)), [.t 38, .t 42], (some (36, false))⟩,
      ⟨.var 21, (.q .pick), [.t 36, .c (.bool true), .t 43], none⟩])
    (.cond (.t 21) (.seq (.reg [⟨.var 5, (.q .mv), [.c (.bool false)], none⟩])
    .ret)
    .skip))
    (.seq (.reg [⟨.new, (.q .mv), [.t 0], none⟩,
      ⟨.new, (.q .mv), [.t 1], none⟩,
      ⟨.new, (.q (.ld (.arr 32 .leaf))), [.t 4], none⟩,
      ⟨.new, (.e (.bld (.st [.leaf, .leaf, (.arr 32 .leaf), (.st [.leaf, (.arr 32 .leaf), .leaf, .leaf, (.arr 32 .leaf)]), .leaf]) (.agg [(.int 0), (.u32 0), (.agg [(.u8 0), (.u8 0), (.u8 0), (.u8 0), (.u8 0), (.u8 0), (.u8 0), (.u8 0), (.u8 0), (.u8 0), (.u8 0), (.u8 0), (.u8 0), (.u8 0), (.u8 0), (.u8 0), (.u8 0), (.u8 0), (.u8 0), (.u8 0), (.u8 0), (.u8 0), (.u8 0), (.u8 0), (.u8 0), (.u8 0), (.u8 0), (.u8 0), (.u8 0), (.u8 0), (.u8 0), (.u8 0)]), (.agg [(.int 0), (.agg [(.u8 0), (.u8 0), (.u8 0), (.u8 0), (.u8 0), (.u8 0), (.u8 0), (.u8 0), (.u8 0), (.u8 0), (.u8 0), (.u8 0), (.u8 0), (.u8 0), (.u8 0), (.u8 0), (.u8 0), (.u8 0), (.u8 0), (.u8 0), (.u8 0), (.u8 0), (.u8 0), (.u8 0), (.u8 0), (.u8 0), (.u8 0), (.u8 0), (.u8 0), (.u8 0), (.u8 0), (.u8 0)]), (.int 0), (.u32 0), (.agg [(.u8 0), (.u8 0), (.u8 0), (.u8 0), (.u8 0), (.u8 0), (.u8 0), (.u8 0), (.u8 0), (.u8 0), (.u8 0), (.u8 0), (.u8 0), (.u8 0), (.u8 0), (.u8 0), (.u8 0), (.u8 0), (.u8 0), (.u8 0), (.u8 0), (.u8 0), (.u8 0), (.u8 0), (.u8 0), (.u8 0), (.u8 0), (.u8 0), (.u8 0), (.u8 0), (.u8 0), (.u8 0)])]), (.bool false)]) [0, 1, 2])), [.t 30, .t 31, .t 32], none⟩,
      ⟨.var 8, (.e (.alloc 61 (.st [.leaf, .leaf, (.arr 32 .leaf), (.st [.leaf, (.arr 32 .leaf), .leaf, .leaf, (.arr 32 .leaf)]), .leaf]) (.agg [(.int 0), (.u32 0), (.agg [(.u8 0), (.u8 0), (.u8 0), (.u8 0), (.u8 0), (.u8 0), (.u8 0), (.u8 0), (.u8 0), (.u8 0), (.u8 0), (.u8 0), (.u8 0), (.u8 0), (.u8 0), (.u8 0), (.u8 0), (.u8 0), (.u8 0), (.u8 0), (.u8 0), (.u8 0), (.u8 0), (.u8 0), (.u8 0), (.u8 0), (.u8 0), (.u8 0), (.u8 0), (.u8 0), (.u8 0), (.u8 0)]), (.agg [(.int 0), (.agg [(.u8 0), (.u8 0), (.u8 0), (.u8 0), (.u8 0), (.u8 0), (.u8 0), (.u8 0), (.u8 0), (.u8 0), (.u8 0), (.u8 0), (.u8 0), (.u8 0), (.u8 0), (.u8 0), (.u8 0), (.u8 0), (.u8 0), (.u8 0), (.u8 0), (.u8 0), (.u8 0), (.u8 0), (.u8 0), (.u8 0), (.u8 0), (.u8 0), (.u8 0), (.u8 0), (.u8 0), (.u8 0)]), (.int 0), (.u32 0), (.agg [(.u8 0), (.u8 0), (.u8 0), (.u8 0), (.u8 0), (.u8 0), (.u8 0), (.u8 0), (.u8 0), (.u8 0), (.u8 0), (.u8 0), (.u8 0), (.u8 0), (.u8 0), (.u8 0), (.u8 0), (.u8 0), (.u8 0), (.u8 0), (.u8 0), (.u8 0), (.u8 0), (.u8 0), (.u8 0), (.u8 0), (.u8 0), (.u8 0), (.u8 0), (.u8 0), (.u8 0), (.u8 0)])]), (.bool false)]))), [], none⟩,
      ⟨.none, (.e (.store (.st [.leaf, .leaf, (.arr 32 .leaf), (.st [.leaf, (.arr 32 .leaf), .leaf, .leaf, (.arr 32 .leaf)]), .leaf]))), [.t 8, .t 33], none⟩])
    (.seq (.seq (.reg [⟨.var 9, (.q .mv), [.c (.int 0)], none⟩])
    (.block 0 (.loop (.seq (.seq (.reg [⟨.new, (.q .mv), [.t 9], none⟩,
      ⟨.new, (.q .mv), [.t 3], none⟩,
      ⟨.new, (.q .len), [.t 31], none⟩,
      ⟨.new, (.q (.bin .lss)), [.t 30, .t 32], none⟩,
      ⟨.new, (.q .mv), [.t 33], none⟩,
      ⟨.new, (.q .mv), [.t 9], (some (34, true))⟩,
      ⟨.new, (.q (.bin .lss)), [.t 35, .c (.int 20)], (some (34, true))⟩,
      ⟨.var 22, (.q .pick), [.t 34, .t 36, .c (.bool false)], none⟩])
    (.cond (.t 22) .skip
    (.exit 0)))
    (.seq (.block 1 (.seq (.reg [⟨.new, (.q .mv), [.t 3], none⟩,
      ⟨.new, (.q .mv), [.t 9], none⟩,
      ⟨.new, (.q (.iaS (.st [.leaf, (.arr 32 .leaf), (.arr 32 .leaf)]))), [.t 30, .t 31], none⟩,
      ⟨.new, (.q (.ld (.st [.leaf, (.arr 32 .leaf), (.arr 32 .leaf)]))), [.t 32], none⟩,
      ⟨.var 10, (.e (.alloc 63 (.st [.leaf, (.arr 32 .leaf), (.arr 32 .leaf)]) (.agg [(.int 0), (.agg [(.u8 0), (.u8 0), (.u8 0), (.u8 0), (.u8 0), (.u8 0), (.u8 0), (.u8 0), (.u8 0), (.u8 0), (.u8 0), (.u8 0), (.u8 0), (.u8 0), (.u8 0), (.u8 0), (.u8 0), (.u8 0), (.u8 0), (.u8 0), (.u8 0), (.u8 0), (.u8 0), (.u8 0), (.u8 0), (.u8 0), (.u8 0), (.u8 0), (.u8 0), (.u8 0), (.u8 0), (.u8 0)]), (.agg [(.u8 0), (.u8 0), (.u8 0), (.u8 0), (.u8 0), (.u8 0), (.u8 0), (.u8 0), (.u8 0), (.u8 0), (.u8 0), (.u8 0), (.u8 0), (.u8 0), (.u8 0), (.u8 0), (.u8 0), (.u8 0), (.u8 0), (.u8 0), (.u8 0), (.u8 0), (.u8 0), (.u8 0), (.u8 0), (.u8 0), (.u8 0), (.u8 0), (.u8 0), (.u8 0), (.u8 0), (.u8 0)])]))), [], none⟩,
      ⟨.none, (.e (.store (.st [.leaf, (.arr 32 .leaf), (.arr 32 .leaf)]))), [.t 10, .t 33], none⟩])
    (.seq (.reg [⟨.var 11, (.q .mv), [.c (.int 0)], none⟩])
    (.seq (.reg [⟨.var 12, (.q .mv), [.c (.int 0)], none⟩])
    (.seq (.seq (.reg [⟨.new, (.q (.fa [.leaf, (.arr 32 .leaf), (.arr 32 .leaf)] 0)), [.t 10], none⟩,
      ⟨.var 23, (.q (.ld .leaf)), [.t 30], none⟩])
    (.block 2 (.seq (.seq (.reg [⟨.new, (.q (.bin .eql)), [.t 23, .c (.int 0)], none⟩,
      ⟨.var 24, (.q .mv), [.t 30], none⟩])
    (.cond (.t 24) .skip
    (.reg [⟨.new, (.q (.bin .eql)), [.t 23, .c (.int 1)], none⟩,
      ⟨.var 24, (.q .mv), [.t 30], none⟩])))
    (.cond (.t 24) (.seq (.reg [⟨.new, (.q (.fa [.leaf, (.arr 32 .leaf), (.arr 32 .leaf)] 1)), [.t 10], none⟩,
      ⟨.new, (.q (.ld (.arr 32 .leaf))), [.t 30], none⟩,
      ⟨.var 13, (.e (.alloc 26 (.arr 32 .leaf) (.agg [(.u8 0), (.u8 0), (.u8 0), (.u8 0), (.u8 0), (.u8 0), (.u8 0), (.u8 0), (.u8 0), (.u8 0), (.u8 0), (.u8 0), (.u8 0), (.u8 0), (.u8 0), (.u8 0), (.u8 0), (.u8 0), (.u8 0), (.u8 0), (.u8 0), (.u8 0), (.u8 0), (.u8 0), (.u8 0), (.u8 0), (.u8 0), (.u8 0), (.u8 0), (.u8 0), (.u8 0), (.u8 0)]))), [], none⟩,
      ⟨.none, (.e (.store (.arr 32 .leaf))), [.t 13, .t 31], none⟩])
    (.seq (.seq (.reg [⟨.new, (.q (.fa [.leaf, (.arr 32 .leaf), (.arr 32 .leaf)] 0)), [.t 10], none⟩,
      ⟨.new, (.q (.ld .leaf)), [.t 30], none⟩,
      ⟨.var 25, (.q (.bin .eql)), [.t 31, .c (.int 1)], none⟩])
    (.cond (.t 25) (.reg [⟨.new, (.q .mv), [.t 0], none⟩,
      ⟨.new, (.q (.bin .sub)), [.c (.int 1), .t 30], none⟩,
      ⟨.new, (.q .mv), [.t 1], none⟩,
      ⟨.new, (.q (.fa [.leaf, (.arr 32 .leaf), (.arr 32 .leaf)] 2)), [.t 10], none⟩,
      ⟨.new, (.q (.ld (.arr 32 .leaf))), [.t 33], none⟩,
      ⟨.new, (.call 9), [.t 31, .t 32, .t 34], none⟩,
      ⟨.none, (.e (.store (.arr 32 .leaf))), [.t 13, .t 35], none⟩])
    .skip))
    (.seq (.reg [⟨.new, (.q (.fa [.leaf, .leaf, (.arr 32 .leaf), (.st [.leaf, (.arr 32 .leaf), .leaf, .leaf, (.arr 32 .leaf)]), .leaf] 3)), [.t 8], none⟩,
      ⟨.new, (.q (.ld (.st [.leaf, (.arr 32 .leaf), .leaf, .leaf, (.arr 32 .leaf)]))), [.t 30], none⟩,
      ⟨.new, (.q .mv), [.t 0], none⟩,
      ⟨.new, (.q (.bin .sub)), [.c (.int 1), .t 32], none⟩,
      ⟨.new, (.q .mv), [.t 1], none⟩,
      ⟨.new, (.q (.ld (.arr 32 .leaf))), [.t 13], none⟩,
      ⟨.new, (.call 13), [.t 31, .t 33, .t 34, .t 35], none⟩,
      ⟨.new, (.q .mv), [.t 36], none⟩,
      ⟨.new, (.q (.ext 0)), [.t 37], none⟩,
      ⟨.new, (.q (.ext 1)), [.t 37], none⟩,
      ⟨.new, (.q (.fa [.leaf, .leaf, (.arr 32 .leaf), (.st [.leaf, (.arr 32 .leaf), .leaf, .leaf, (.arr 32 .leaf)]), .leaf] 3)), [.t 8], none⟩,
      ⟨.none, (.e (.store (.st [.leaf, (.arr 32 .leaf), .leaf, .leaf, (.arr 32 .leaf)]))), [.t 40, .t 38], none⟩,
      ⟨.var 11, (.q .mv), [.t 39], none⟩])
    (.reg [⟨.new, (.q .mv), [.t 6], none⟩,
      ⟨.new, (.q (.ld (.arr 32 .leaf))), [.t 13], none⟩,
      ⟨.new, (.call 22), [.t 30, .t 31], none⟩,
      ⟨.var 12, (.q .mv), [.t 32], none⟩]))))
    (.seq (.reg [⟨.new, (.q (.bin .eql)), [.t 23, .c (.int 2)], none⟩,
      ⟨.var 26, (.q .mv), [.t 30], none⟩])
    (.cond (.t 26) (.seq (.reg [⟨.new, (.q .mv), [.t 6], none⟩,
      ⟨.new, (.call 19), [.t 30], none⟩,
      ⟨.new, (.q .mv), [.t 31], none⟩,
      ⟨.new, (.q (.ext 0)), [.t 32], none⟩,
      ⟨.new, (.q (.ext 1)), [.t 32], none⟩,
      ⟨.var 14, (.e (.alloc 25 (.arr 32 .leaf) (.agg [(.u8 0), (.u8 0), (.u8 0), (.u8 0), (.u8 0), (.u8 0), (.u8 0), (.u8 0), (.u8 0), (.u8 0), (.u8 0), (.u8 0), (.u8 0), (.u8 0), (.u8 0), (.u8 0), (.u8 0), (.u8 0), (.u8 0), (.u8 0), (.u8 0), (.u8 0), (.u8 0), (.u8 0), (.u8 0), (.u8 0), (.u8 0), (.u8 0), (.u8 0), (.u8 0), (.u8 0), (.u8 0)]))), [], none⟩,
      ⟨.none, (.e (.store (.arr 32 .leaf))), [.t 14, .t 33], none⟩,
      ⟨.var 15, (.q .mv), [.t 34], none⟩])
    (.seq (.seq (.reg [⟨.new, (.q (.fa [.leaf, .leaf, (.arr 32 .leaf), (.st [.leaf, (.arr 32 .leaf), .leaf, .leaf, (.arr 32 .leaf)]), .leaf] 3)), [.t 8], none⟩,
      ⟨.new, (.q (.fa [.leaf, (.arr 32 .leaf), .leaf, .leaf, (.arr 32 .leaf)] 0)), [.t 30], none⟩,
      ⟨.new, (.q (.ld .leaf)), [.t 31], none⟩,
      ⟨.var 27, (.q (.bin .eql)), [.t 32, .c (.int 0)], none⟩])
    (.cond (.t 27) (.reg [⟨.var 11, (.q .mv), [.c (.int 8)], none⟩])
    (.reg [⟨.new, (.q (.fa [.leaf, .leaf, (.arr 32 .leaf), (.st [.leaf, (.arr 32 .leaf), .leaf, .leaf, (.arr 32 .leaf)]), .leaf] 4)), [.t 8], none⟩,
      ⟨.none, (.e (.store .leaf)), [.t 30, .c (.bool true)], none⟩])))
    (.seq (.reg [⟨.new, (.q .mv), [.t 15], none⟩,
      ⟨.var 12, (.q .mv), [.t 30], none⟩])
    (.seq (.reg [⟨.new, (.q .mv), [.t 11], none⟩,
      ⟨.new, (.q (.bin .eql)), [.t 30, .c (.int 0)], none⟩,
      ⟨.new, (.q .mv), [.t 31], none⟩,
      ⟨.new, (.q (.ld (.arr 32 .leaf))), [.t 14], (some (32, true))⟩,
      ⟨.new, (.q (.ld (.arr 32 .leaf))), [.t 4], (some (32, true))⟩,
      ⟨.new, (.q (.eqA true 32 .u8)), [.t 33, .t 34], (some (32, true))⟩,
      ⟨.new, (.q .pick), [.t 32, .t 35, .c (.bool false)], none⟩,
      ⟨.new, (.q .mv), [.t 36], none⟩,
      ⟨.new, (.q .mv), [.t 11], (some (37, false))⟩,
      ⟨.new, (.q (.bin .neq)), [.t 38, .c (.int 0)], (some (37, false))⟩,
      ⟨.new, (.q .mv), [.t 39], (some (37, false))⟩,
      ⟨.new, (.q (.ld (.arr 32 .leaf))), [.t 14], (some (40, true))⟩,
      ⟨.new, (.e (.bld (.arr 32 .leaf) (.agg [(.u8 0), (.u8 0), (.u8 0), (.u8 0), (.u8 0), (.u8 0), (.u8 0), (.u8 0), (.u8 0), (.u8 0), (.u8 0), (.u8 0), (.u8 0), (.u8 0), (.u8 0), (.u8 0), (.u8 0), (.u8 0), (.u8 0), (.u8 0), (.u8 0), (.u8 0), (.u8 0), (.u8 0), (.u8 0), (.u8 0), (.u8 0), (.u8 0), (.u8 0), (.u8 0), (.u8 0), (.u8 0)]) [])), [], (some (40, true))⟩,
      ⟨.new, (.q (.eqA true 32 .u8)), [.t 41, .t 42], (some (40, true))⟩,
      ⟨.new, (.q .pick), [.t 40, .t 43, .c (.bool false)], (some (37, false))⟩,
      ⟨.var 28, (.q .pick), [.t 37, .c (.bool true), .t 44], none⟩])
    (.cond (.t 28) (.seq (.reg [⟨.var 5, (.q .mv), [.c (.bool false)], none⟩])
    .ret)
    .skip)))))
    (.seq (.reg [⟨.new, (.q (.fa [.leaf, .leaf, (.arr 32 .leaf), (.st [.leaf, (.arr 32 .leaf), .leaf, .leaf, (.arr 32 .leaf)]), .leaf] 3)), [.t 8], none⟩,
      ⟨.new, (.q (.ld (.st [.leaf, (.arr 32 .leaf), .leaf, .leaf, (.arr 32 .leaf)]))), [.t 30], none⟩,
      ⟨.new, (.q (.fa [.leaf, (.arr 32 .leaf), (.arr 32 .leaf)] 2)), [.t 10], none⟩,
      ⟨.new, (.q (.ld (.arr 32 .leaf))), [.t 32], none⟩,
      ⟨.new, (.call 15), [.t 31, .t 33], none⟩,
      ⟨.new, (.q .mv), [.t 34], none⟩,
      ⟨.new, (.q (.ext 0)), [.t 35], none⟩,
      ⟨.new, (.q (.ext 1)), [.t 35], none⟩,
      ⟨.new, (.q (.fa [.leaf, .leaf, (.arr 32 .leaf), (.st [.leaf, (.arr 32 .leaf), .leaf, .leaf, (.arr 32 .leaf)]), .leaf] 3)), [.t 8], none⟩,
      ⟨.none, (.e (.store (.st [.leaf, (.arr 32 .leaf), .leaf, .leaf, (.arr 32 .leaf)]))), [.t 38, .t 36], none⟩,
      ⟨.var 11, (.q .mv), [.t 37], none⟩])
    (.reg [⟨.new, (.q .mv), [.t 6], none⟩,
      ⟨.new, (.q (.fa [.leaf, (.arr 32 .leaf), (.arr 32 .leaf)] 2)), [.t 10], none⟩,
      ⟨.new, (.q (.ld (.arr 32 .leaf))), [.t 31], none⟩,
      ⟨.new, (.call 23), [.t 30, .t 32], none⟩,
      ⟨.var 12, (.q .mv), [.t 33], none⟩]))))))))
    (.seq (.reg [⟨.new, (.q .mv), [.t 6], none⟩,
      ⟨.new, (.call 20), [.t 30], none⟩,
      ⟨.new, (.q .mv), [.t 31], none⟩,
      ⟨.new, (.q (.ext 0)), [.t 32], none⟩,
      ⟨.new, (.q (.ext 1)), [.t 32], none⟩,
      ⟨.var 16, (.e (.alloc 25 (.arr 32 .leaf) (.agg [(.u8 0), (.u8 0), (.u8 0), (.u8 0), (.u8 0), (.u8 0), (.u8 0), (.u8 0), (.u8 0), (.u8 0), (.u8 0), (.u8 0), (.u8 0), (.u8 0), (.u8 0), (.u8 0), (.u8 0), (.u8 0), (.u8 0), (.u8 0), (.u8 0), (.u8 0), (.u8 0), (.u8 0), (.u8 0), (.u8 0), (.u8 0), (.u8 0), (.u8 0), (.u8 0), (.u8 0), (.u8 0)]))), [], none⟩,
      ⟨.none, (.e (.store (.arr 32 .leaf))), [.t 16, .t 33], none⟩,
      ⟨.var 17, (.q .mv), [.t 34], none⟩])
    (.seq (.reg [⟨.new, (.q (.ld (.st [.leaf, .leaf, (.arr 32 .leaf), (.st [.leaf, (.arr 32 .leaf), .leaf, .leaf, (.arr 32 .leaf)]), .leaf]))), [.t 8], none⟩,
      ⟨.new, (.call 26), [.t 30], none⟩,
      ⟨.new, (.q .mv), [.t 31], none⟩,
      ⟨.new, (.q (.ext 0)), [.t 32], none⟩,
      ⟨.new, (.q (.ext 1)), [.t 32], none⟩,
      ⟨.var 18, (.e (.alloc 25 (.arr 32 .leaf) (.agg [(.u8 0), (.u8 0), (.u8 0), (.u8 0), (.u8 0), (.u8 0), (.u8 0), (.u8 0), (.u8 0), (.u8 0), (.u8 0), (.u8 0), (.u8 0), (.u8 0), (.u8 0), (.u8 0), (.u8 0), (.u8 0), (.u8 0), (.u8 0), (.u8 0), (.u8 0), (.u8 0), (.u8 0), (.u8 0), (.u8 0), (.u8 0), (.u8 0), (.u8 0), (.u8 0), (.u8 0), (.u8 0)]))), [], none⟩,
      ⟨.none, (.e (.store (.arr 32 .leaf))), [.t 18, .t 33], none⟩,
      ⟨.var 19, (.q .mv), [.t 34], none⟩])
    (.seq (.reg [⟨.new, (.q .mv), [.t 12], none⟩,
      ⟨.new, (.q .mv), [.t 11], none⟩,
      ⟨.new, (.q (.bin .neq)), [.t 30, .t 31], none⟩,
      ⟨.new, (.q .mv), [.t 32], none⟩,
      ⟨.new, (.q (.ld (.arr 32 .leaf))), [.t 16], (some (33, false))⟩,
      ⟨.new, (.q (.ld (.arr 32 .leaf))), [.t 18], (some (33, false))⟩,
      ⟨.new, (.q (.eqA true 32 .u8)), [.t 34, .t 35], (some (33, false))⟩,
      ⟨.new, (.q .pick), [.t 33, .c (.bool true), .t 36], none⟩,
      ⟨.new, (.q .mv), [.t 37], none⟩,
      ⟨.new, (.q .mv), [.t 17], (some (38, false))⟩,
      ⟨.new, (.q .mv), [.t 19], (some (38, false))⟩,
      ⟨.new, (.q (.eqB true)), [.t 39, .t 40], (some (38, false))⟩,
      ⟨.var 29, (.q .pick), [.t 38, .c (.bool true), .t 41], none⟩])
    (.cond (.t 29) (.seq (.reg [⟨.var 5, (.q .mv), [.c (.bool false)], none⟩])
    .ret)
    .skip)))))))))
    (.reg [⟨.new, (.q .mv), [.t 9], none⟩,
      ⟨.new, (.q (.bin .add)), [.t 30, .c (.int 1)], none⟩,
      ⟨.var 9, (.q .mv), [.t 31], none⟩]))))))
    (.seq (.reg [⟨.new, (.call 24), [], none⟩,
      ⟨.var 5, (.q .mv), [.t 30], none⟩])
    .ret))))))),
    [.t 5]⟩

set_option maxRecDepth 100000
set_option linter.unusedSimpArgs false
set_option linter.unusedVariables false
theorem c26 : cF P G (drP P G) 26 1 s26.vm = some s26 := by kernel_rfl
theorem c7 : cF P G (drP P G) 7 4 s7.vm = some s7 := by kernel_rfl
theorem mx_comm {a b : List (BitVec 8)} : mx a b = mx b a := by
  have : xr a b = xr b a := by
    unfold xr
    exact List.map_congr_left fun k _ => BitVec.xor_comm _ _
  unfold mx; rw [this]
theorem coin_eq {t : Ts} {z : Bx} : coin t z = mx t.o z.x := by
  unfold coin
  split
  · exact mx_comm
  · rfl
/-- the coin, or that there is none -/
def cnL (t : Ts) (z : Bx) : List (BitVec 8) := if t.g = true ∧ z.s = 2 then mx t.o z.x else z32
def cnB (t : Ts) (z : Bx) : Bool := decide (t.g = true ∧ z.s = 2)
theorem cnL_len {t : Ts} {z : Bx} : (cnL t z).length = 32 := by
  unfold cnL; split
  · exact mx_len
  · rfl
theorem f20u {K : AV → Heap → Prop} {H : Heap} {b : Nat} {t : Ts} {z : Bx} (ho : t.o.length = 32) (hz : z.ok) (hm : t.m = true) (hg : Heap.get H b = tsB t z) (h : K (.tup [.agg ((cnL t z).map .u8), .bool (cnB t z)]) H) : wpF P G 20 [.ptr b 0 [0] tsS] H K := by
  unfold cnL cnB at h
  by_cases hc : t.g = true ∧ z.s = 2
  · rw [if_pos hc, decide_eq_true hc] at h
    exact f20g ho hz hm hc.1 hc.2 hg (by rw [coin_eq]; exact h)
  · rw [if_neg hc, decide_eq_false hc] at h
    refine f20x hz ?_ hg h
    cases hg1 : t.g with
    | false => exact .inr (.inl rfl)
    | true => exact .inr (.inr fun h2 => hc ⟨hg1, h2⟩)
abbrev rtS : Shape := .st [.leaf, .leaf, .arr 32 .leaf, rxS, .leaf]
def rtA (t : Ts) (z : Bx) : AV := .agg [.int t.p, .u32 t.b, .agg (t.o.map .u8), rxA z, .bool t.g]
def rtB (t : Ts) (z : Bx) : Option Blk := some ⟨61, 0, false, .arr 1 rtS, .agg [rtA t z]⟩
theorem f26 {K : AV → Heap → Prop} {H : Heap} {t : Ts} {z : Bx} (ho : t.o.length = 32) (hz : z.ok) (h : K (.tup [.agg ((cnL t z).map .u8), .bool (cnB t z)]) H) : wpF P G 26 [rtA t z] H K := by
  refine wpF_go c26 rfl 3 ?_
  intro hA hB
  simp only [s26]
  clear hA hB
  obtain ⟨hz1, hz2⟩ := hz
  unfold cnL cnB at h
  unfold rtA rxA
  cases hg1 : t.g with
  | false =>
    rw [hg1] at h
    simp only [Bool.false_eq_true, false_and, if_false, decide_false] at h
    (refine gw3 @ho @hz1 @hz2 ?_; try exact True.intro)
    exact h
  | true =>
    rw [hg1] at h
    by_cases h2 : z.s = 2
    · simp only [h2, and_self, if_true, decide_true] at h
      have h27 : ∀ {K : AV → Heap → Prop} {H : Heap}, K (.agg ((mx t.o z.x).map .u8)) H → wpF P G 27 [.agg (t.o.map .u8), .agg (z.x.map .u8)] H K := fun h => f27 ho hz2 h
      have hml := mx_len (a := t.o) (b := z.x)
      generalize mx t.o z.x = m at *
      (refine gw4 @ho @hz1 @hz2 @h2 ?_; try exact True.intro)
      refine h27 ?_
      (refine gw1 @hml ?_; try exact True.intro)
      exact h
    · simp only [h2, and_false, if_false, decide_false] at h
      (refine gw4 @ho @hz1 @hz2 @h2 ?_; try exact True.intro)
      exact h
theorem f25e {K : AV → Heap → Prop} {H : Heap} {p : Int} {b : BitVec 32} {o : List (BitVec 8)} (ho : o.length = 32) (hp : p < 0 ∨ 1 < p) (h : K (.tup [.nilp, .int 1]) H) : wpF P G 25 [.int p, .u32 b, .agg (o.map .u8)] H K := by
  refine wpF_go c25 rfl 3 ?_
  intro hA hB
  simp only [s25]
  clear hA hB
  by_cases h0 : p < 0
  · have h1 : (p < 0) = True := by simp [h0]
    (refine gw2 @ho @h1 ?_; try exact True.intro)
    exact h
  · have h1 : (p < 0) = False := by simp [h0]
    have h2 : (1 < p) = True := by simp; omega
    (refine gw3 @ho @h1 @h2 ?_; try exact True.intro)
    exact h
/-- an act of the law -/
structure At where
  k : Int
  d : List (BitVec 8)
  s : List (BitVec 8)
abbrev atS : Shape := .st [.leaf, .arr 32 .leaf, .arr 32 .leaf]
def atA (a : At) : AV := .agg [.int a.k, .agg (a.d.map .u8), .agg (a.s.map .u8)]
def atOk (a : At) : Prop := a.d.length = 32 ∧ a.s.length = 32
def I7 (al : List At) (p : Int) (b : BitVec 32) (o : List (BitVec 8)) (H : Heap) (k : Nat) (st : St) : Prop :=
  ∃ (i : Nat) (z : Bx) (g : Bool) (J : Heap) (u10 u11 u12 u13 u14 u15 u16 u17 u18 u19 u22 u23 u24 u25 u26 u27 u28 u29 : AV), st = ⟨[.int p, .u32 b, .agg (o.map .u8), .ro atS (al.map atA), .ptr H.length 0 [0] (.arr 32 .leaf), .bool false, .ptr (H.length + 2) 0 [0] tsS, .int 0, .ptr (H.length + 3) 0 [0] rtS, .int (i : Int), u10, u11, u12, u13, u14, u15, u16, u17, u18, u19, .bool false, .bool false, u22, u23, u24, u25, u26, u27, u28, u29], H ++ A32 (o.map .u8) :: A32 (o.map .u8) :: tsB ⟨p, b, o, g, true⟩ z :: rtB ⟨p, b, o, g, true⟩ z :: J⟩ ∧ k = 20 - i ∧ i ≤ 20 ∧ z.good
theorem f7 {K : AV → Heap → Prop} {H : Heap} {p : Int} {b : BitVec 32} {o : List (BitVec 8)} {al : List At} (ho : o.length = 32) (hl : al.length ≤ 9223372036854775807) (ha : ∀ a ∈ al, atOk a) (h : K (.bool true) H) : wpF P G 7 [.int p, .u32 b, .agg (o.map .u8), .ro atS (al.map atA)] H K := by
  refine wpF_go c7 rfl 3 ?_
  intro hA hB
  simp only [s7]
  clear hA hB
  have lm : (al.map atA).length = al.length := by simp
  by_cases hp0 : p < 0
  · have h1 : (p < 0) = True := by simp [hp0]
    (refine gw1 @ho ?_; try exact True.intro)
    refine f25e ho (.inl hp0) ?_
    (refine gw1 @h1 ?_; try exact True.intro)
    refine f24 ?_
    (refine gw0 ?_; try exact True.intro)
    exact h
  by_cases hp1 : 1 < p
  · have h1 : (p < 0) = False := by simp [hp0]
    have h2 : (1 < p) = True := by simp [hp1]
    (refine gw1 @ho ?_; try exact True.intro)
    refine f25e ho (.inr hp1) ?_
    (refine gw2 @h1 @h2 ?_; try exact True.intro)
    refine f24 ?_
    (refine gw0 ?_; try exact True.intro)
    exact h
  have h1 : (p < 0) = False := by simp [hp0]
  have h2 : (1 < p) = False := by simp [hp1]
  have e2 : H.length + 1 + 1 = H.length + 2 := rfl
  have hpp : p = 0 ∨ p = 1 := by omega
  (refine gw1 @ho ?_; try exact True.intro)
  refine f25 ho hpp ?_
  (refine gw3 @h1 @h2 @e2 ?_; try exact True.intro)
  have hcl := com_len (p := p) (b := b) (s := o)
  have h21 : ∀ {K : AV → Heap → Prop} {H : Heap} {m : Nat}, Heap.get H m = tsB ⟨p, b, o, false, true⟩ z0 → K (.agg ((com p b o).map .u8)) H → wpF P G 21 [.ptr m 0 [0] tsS] H K := fun hg h => f21 (t := ⟨p, b, o, false, true⟩) ho rfl hg h
  have h9 : ∀ {K : AV → Heap → Prop} {H : Heap}, K (.agg ((com p b o).map .u8)) H → wpF P G 9 [.int p, .u32 b, .agg (o.map .u8)] H K := fun h => f9 ho h
  generalize com p b o = c at *
  refine drawn _ (h21 (by rw [hget_k]; rfl) ⟨rfl, rfl⟩) ?_
  (refine gw2 @hcl @ho ?_; try exact True.intro)
  refine drawn _ (h9 ⟨rfl, rfl⟩) ?_
  (refine gw2 @hcl @ho ?_; try exact True.intro)
  refine ⟨m8_kind, ?_⟩
  clear h9 h21
  (refine gw1 @ho ?_; try exact True.intro)
  refine wp_inv (I7 al p b o H) 20 ⟨0, z0, false, [], _, _, _, _, _, _, _, _, _, _, _, _, _, _, _, _, _, _, rfl, rfl, by omega, ⟨⟨rfl, rfl⟩, .inl rfl, fun _ => rfl⟩⟩ ?_
  rintro k st ⟨i, z, g, J, u10, u11, u12, u13, u14, u15, u16, u17, u18, u19, u22, u23, u24, u25, u26, u27, u28, u29, rfl, rfl, hi, hz⟩
  have hgo : ∀ k : Int, -9223372036854775808 ≤ k → True := fun _ _ => trivial
  by_cases hil : i < al.length
  · by_cases h20 : i < 20
    · have h3 : ((i : Int) < (al.length : Int)) = True := by simp only [eq_iff_iff, iff_true]; omega
      have h4 : ((i : Int) < 20) = True := by simp only [eq_iff_iff, iff_true]; omega
      obtain ⟨a, hai⟩ : ∃ a, al[i]? = some a := ⟨al[i], List.getElem?_eq_getElem hil⟩
      have hao := ha a (List.mem_of_getElem? hai)
      obtain ⟨hd, hs⟩ := hao
      have g1 : (al.map atA).getD i .un = .agg [.int a.k, .agg (a.d.map .u8), .agg (a.s.map .u8)] := by
        rw [List.getD_eq_getElem?_getD, List.getElem?_map, hai]; rfl
      have hpz : -9223372036854775808 ≤ 1 - p ∧ 1 - p ≤ 9223372036854775807 := by omega
      obtain ⟨hz1, hz2⟩ := hz.1
      by_cases hk0 : a.k = 0
      · have hz' := bind_good hz (p := 1 - p) (b := b) hd
        have h13 : ∀ {K : AV → Heap → Prop} {H : Heap}, K (.tup [rxA (bind z (1 - p) b a.d), .int (bindE z)]) H → wpF P G 13 [rxA z, .int (1 - p), .u32 b, .agg (a.d.map .u8)] H K := fun h => f13 hd hz.1 (by rw [bindR_eq hz]; exact h)
        have h22 : ∀ {K : AV → Heap → Prop} {H0 L Hx : Heap} {m : Nat}, m = H0.length → Hx = H0 ++ tsB ⟨p, b, o, g, true⟩ z :: L → K (.int (bindE z)) (H0 ++ tsB ⟨p, b, o, g, true⟩ (bind z (1 - p) b a.d) :: L) → wpF P G 22 [.ptr m 0 [0] tsS, .agg (a.d.map .u8)] Hx K := fun hm hx h => f22' (t := ⟨p, b, o, g, true⟩) hm hx hd hz.1 hpp rfl h
        generalize bind z (1 - p) b a.d = z' at *
        obtain ⟨hz1', hz2'⟩ := hz'.1
        unfold rtB rtA rxA
        (refine gw10 @h3 @h4 @g1 @lm @hd @hs @hk0 @ho @hz1 @hz2 ?_; try exact True.intro)
        (repeat (refine And.intro (by omega) ?_))
        refine h13 ?_
        unfold rxA
        (refine gw3 @hz1' @hz2' @hd ?_; try exact True.intro)
        refine h22 (H0 := H ++ [A32 (o.map .u8), A32 (o.map .u8)]) (by simp) (by rw [List.append_assoc]; rfl) ?_
        rw [List.append_assoc]
        simp only [List.cons_append, List.nil_append]
        (refine gw0 ?_; try exact True.intro)
        refine f20u (t := ⟨p, b, o, g, true⟩) (z := z') ho hz'.1 rfl (by rw [hget_k]; rfl) ?_
        have hcn := cnL_len (t := ⟨p, b, o, g, true⟩) (z := z')
        have h26 : ∀ {K : AV → Heap → Prop} {H : Heap}, K (.tup [.agg ((cnL ⟨p, b, o, g, true⟩ z').map .u8), .bool (cnB ⟨p, b, o, g, true⟩ z')]) H → wpF P G 26 [rtA ⟨p, b, o, g, true⟩ z'] H K := fun h => f26 ho hz'.1 h
        generalize cnL ⟨p, b, o, g, true⟩ z' = cn at *
        generalize cnB ⟨p, b, o, g, true⟩ z' = cb at *
        (refine gw4 @hcn @ho @hz1' @hz2' ?_; try exact True.intro)
        refine h26 ?_
        (refine gw1 @hcn ?_; try exact True.intro)
        exact ⟨m8_kind, by omega, by omega, 20 - (i + 1), by omega, i + 1, z', g, _, _, _, _, _, _, _, _, _, _, _, _, _, _, _, _, _, _, _, rfl, by omega, by omega, hz'⟩
      · by_cases hk1 : a.k = 1
        · have hcl2 := com_len (p := 1 - p) (b := b) (s := a.s)
          have h9 : ∀ {K : AV → Heap → Prop} {H : Heap}, K (.agg ((com (1 - p) b a.s).map .u8)) H → wpF P G 9 [.int (1 - p), .u32 b, .agg (a.s.map .u8)] H K := fun h => f9 hs h
          generalize com (1 - p) b a.s = c2 at *
          have hz' := bind_good hz (p := 1 - p) (b := b) hcl2
          have h13 : ∀ {K : AV → Heap → Prop} {H : Heap}, K (.tup [rxA (bind z (1 - p) b c2), .int (bindE z)]) H → wpF P G 13 [rxA z, .int (1 - p), .u32 b, .agg (c2.map .u8)] H K := fun h => f13 hcl2 hz.1 (by rw [bindR_eq hz]; exact h)
          have h22 : ∀ {K : AV → Heap → Prop} {H0 L Hx : Heap} {m : Nat}, m = H0.length → Hx = H0 ++ tsB ⟨p, b, o, g, true⟩ z :: L → K (.int (bindE z)) (H0 ++ tsB ⟨p, b, o, g, true⟩ (bind z (1 - p) b c2) :: L) → wpF P G 22 [.ptr m 0 [0] tsS, .agg (c2.map .u8)] Hx K := fun hm hx h => f22' (t := ⟨p, b, o, g, true⟩) hm hx hcl2 hz.1 hpp rfl h
          generalize bind z (1 - p) b c2 = z' at *
          obtain ⟨hz1', hz2'⟩ := hz'.1
          have e0 : ((1 : Int) = 0) = False := by simp
          unfold rtB rtA rxA
          (refine gw11 @h3 @h4 @g1 @lm @hd @hs @hk1 @e0 @ho @hz1 @hz2 ?_; try exact True.intro)
          (repeat (refine And.intro (by omega) ?_))
          refine h9 ?_
          (refine gw4 @hcl2 @ho @hz1 @hz2 ?_; try exact True.intro)
          (repeat (refine And.intro (by omega) ?_))
          refine h13 ?_
          unfold rxA
          (refine gw3 @hz1' @hz2' @hcl2 ?_; try exact True.intro)
          refine h22 (H0 := H ++ [A32 (o.map .u8), A32 (o.map .u8)]) (by simp) (by rw [List.append_assoc]; rfl) ?_
          rw [List.append_assoc]
          simp only [List.cons_append, List.nil_append]
          (refine gw0 ?_; try exact True.intro)
          refine f20u (t := ⟨p, b, o, g, true⟩) (z := z') ho hz'.1 rfl (by rw [hget_k]; rfl) ?_
          have hcn := cnL_len (t := ⟨p, b, o, g, true⟩) (z := z')
          have h26 : ∀ {K : AV → Heap → Prop} {H : Heap}, K (.tup [.agg ((cnL ⟨p, b, o, g, true⟩ z').map .u8), .bool (cnB ⟨p, b, o, g, true⟩ z')]) H → wpF P G 26 [rtA ⟨p, b, o, g, true⟩ z'] H K := fun h => f26 ho hz'.1 h
          generalize cnL ⟨p, b, o, g, true⟩ z' = cn at *
          generalize cnB ⟨p, b, o, g, true⟩ z' = cb at *
          (refine gw4 @hcn @ho @hz1' @hz2' ?_; try exact True.intro)
          refine h26 ?_
          (refine gw1 @hcn ?_; try exact True.intro)
          exact ⟨m8_kind, by omega, by omega, 20 - (i + 1), by omega, i + 1, z', g, _, _, _, _, _, _, _, _, _, _, _, _, _, _, _, _, _, _, _, rfl, by omega, by omega, hz'⟩
        · have e0 : (a.k = 0) = False := by simp [hk0]
          have e1 : (a.k = 1) = False := by simp [hk1]
          by_cases hk2 : a.k = 2
          · have d0 : ((2 : Int) = 0) = False := by simp
            have d1 : ((2 : Int) = 1) = False := by simp
            by_cases hzs : z.s = 0
            · unfold rtB rtA rxA
              (refine gw12 @h3 @h4 @g1 @lm @hd @hs @hk2 @d0 @d1 @ho @hz1 @hz2 ?_; try exact True.intro)
              refine f19a (t := ⟨p, b, o, g, true⟩) (z := z) rfl hzs (by rw [hget_k]; rfl) ?_
              have hzT : (z.s = 0) = True := eq_true hzs
              (refine gw4 @hzT @ho @hz1 @hz2 ?_; try exact True.intro)
              refine ⟨rfl, ?_⟩
              refine f20u (t := ⟨p, b, o, g, true⟩) (z := z) ho hz.1 rfl (by rw [hget_k]; rfl) ?_
              have hcn := cnL_len (t := ⟨p, b, o, g, true⟩) (z := z)
              have h26 : ∀ {K : AV → Heap → Prop} {H : Heap}, K (.tup [.agg ((cnL ⟨p, b, o, g, true⟩ z).map .u8), .bool (cnB ⟨p, b, o, g, true⟩ z)]) H → wpF P G 26 [rtA ⟨p, b, o, g, true⟩ z] H K := fun h => f26 ho hz.1 h
              generalize cnL ⟨p, b, o, g, true⟩ z = cn at *
              generalize cnB ⟨p, b, o, g, true⟩ z = cb at *
              (refine gw4 @hcn @ho @hz1 @hz2 ?_; try exact True.intro)
              refine h26 ?_
              (refine gw1 @hcn ?_; try exact True.intro)
              exact ⟨m8_kind, by omega, by omega, 20 - (i + 1), by omega, i + 1, z, g, _, _, _, _, _, _, _, _, _, _, _, _, _, _, _, _, _, _, _, rfl, by omega, by omega, hz⟩
            · unfold rtB rtA rxA
              (refine gw12 @h3 @h4 @g1 @lm @hd @hs @hk2 @d0 @d1 @ho @hz1 @hz2 ?_; try exact True.intro)
              refine f19b' (H0 := H ++ [A32 (o.map .u8), A32 (o.map .u8)]) (t := ⟨p, b, o, g, true⟩) (z := z) (by simp) (by rw [List.append_assoc]; rfl) ho hz.1 rfl hzs ?_
              rw [List.append_assoc]
              simp only [List.cons_append, List.nil_append]
              have hzT : (z.s = 0) = False := eq_false hzs
              unfold A32
              (refine gw4 @hzT @ho @hz1 @hz2 ?_; try exact True.intro)
              refine ⟨m8_kind, ?_⟩
              refine f20u (t := ⟨p, b, o, true, true⟩) (z := z) ho hz.1 rfl (by rw [hget_k]; rfl) ?_
              have hcn := cnL_len (t := ⟨p, b, o, true, true⟩) (z := z)
              have h26 : ∀ {K : AV → Heap → Prop} {H : Heap}, K (.tup [.agg ((cnL ⟨p, b, o, true, true⟩ z).map .u8), .bool (cnB ⟨p, b, o, true, true⟩ z)]) H → wpF P G 26 [rtA ⟨p, b, o, true, true⟩ z] H K := fun h => f26 ho hz.1 h
              generalize cnL ⟨p, b, o, true, true⟩ z = cn at *
              generalize cnB ⟨p, b, o, true, true⟩ z = cb at *
              (refine gw4 @hcn @ho @hz1 @hz2 ?_; try exact True.intro)
              refine h26 ?_
              (refine gw1 @hcn ?_; try exact True.intro)
              exact ⟨m8_kind, by omega, by omega, 20 - (i + 1), by omega, i + 1, z, true, _, _, _, _, _, _, _, _, _, _, _, _, _, _, _, _, _, _, _, rfl, by omega, by omega, hz⟩
          · have e2' : (a.k = 2) = False := by simp [hk2]
            have hz' := tell_good hz hs
            have h15 : ∀ {K : AV → Heap → Prop} {H : Heap}, K (.tup [rxA (tell z a.s), .int (tellE z a.s)]) H → wpF P G 15 [rxA z, .agg (a.s.map .u8)] H K := fun h => f15 hs hz.1 h
            have h23 : ∀ {K : AV → Heap → Prop} {H0 L Hx : Heap} {m : Nat}, m = H0.length → Hx = H0 ++ tsB ⟨p, b, o, g, true⟩ z :: L → K (.int (tellE z a.s)) (H0 ++ tsB ⟨p, b, o, g, true⟩ (tell z a.s) :: L) → wpF P G 23 [.ptr m 0 [0] tsS, .agg (a.s.map .u8)] Hx K := fun hm hx h => f23' (t := ⟨p, b, o, g, true⟩) hm hx hs hz.1 rfl h
            generalize tellE z a.s = te at *
            generalize tell z a.s = z' at *
            obtain ⟨hz1', hz2'⟩ := hz'.1
            unfold rtB rtA rxA
            (refine gw12 @h3 @h4 @g1 @lm @hd @hs @e0 @e1 @e2' @ho @hz1 @hz2 ?_; try exact True.intro)
            refine h15 ?_
            unfold rxA
            (refine gw3 @hz1' @hz2' @hs ?_; try exact True.intro)
            refine h23 (H0 := H ++ [A32 (o.map .u8), A32 (o.map .u8)]) (by simp) (by rw [List.append_assoc]; rfl) ?_
            rw [List.append_assoc]
            simp only [List.cons_append, List.nil_append]
            (refine gw0 ?_; try exact True.intro)
            refine f20u (t := ⟨p, b, o, g, true⟩) (z := z') ho hz'.1 rfl (by rw [hget_k]; rfl) ?_
            have hcn := cnL_len (t := ⟨p, b, o, g, true⟩) (z := z')
            have h26 : ∀ {K : AV → Heap → Prop} {H : Heap}, K (.tup [.agg ((cnL ⟨p, b, o, g, true⟩ z').map .u8), .bool (cnB ⟨p, b, o, g, true⟩ z')]) H → wpF P G 26 [rtA ⟨p, b, o, g, true⟩ z'] H K := fun h => f26 ho hz'.1 h
            generalize cnL ⟨p, b, o, g, true⟩ z' = cn at *
            generalize cnB ⟨p, b, o, g, true⟩ z' = cb at *
            (refine gw4 @hcn @ho @hz1' @hz2' ?_; try exact True.intro)
            refine h26 ?_
            (refine gw1 @hcn ?_; try exact True.intro)
            exact ⟨m8_kind, by omega, by omega, 20 - (i + 1), by omega, i + 1, z', g, _, _, _, _, _, _, _, _, _, _, _, _, _, _, _, _, _, _, _, rfl, by omega, by omega, hz'⟩
    · have h3 : ((i : Int) < (al.length : Int)) = True := by simp only [eq_iff_iff, iff_true]; omega
      have h4 : ((i : Int) < 20) = False := by simp only [eq_iff_iff, iff_false]; omega
      (refine gw3 @h3 @h4 @lm ?_; try exact True.intro)
      refine f24 ?_
      (refine gw0 ?_; try exact True.intro)
      exact h
  · have h3 : ((i : Int) < (al.length : Int)) = False := by simp only [eq_iff_iff, iff_false]; omega
    (refine gw2 @h3 @lm ?_; try exact True.intro)
    refine f24 ?_
    (refine gw0 ?_; try exact True.intro)
    exact h
end Go.Proofs.YtajkclooknanjaaDoor

end
