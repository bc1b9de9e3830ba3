/-
  Layers 18 and 19 (rot, cot): numbers of seeds, the program's and the reference's.
-/
import Derived.Test.YtjilenmngokhpaaYb
import Derived.Test.YtjilenmngokhpaaV38
import Derived.Test.YtjilenmngokhpaaV44
section
open Go Go.V
namespace Go.Proofs.Ytjilenmngokhpaa
/-- trefoil/rot.Numbers (0:s, 1:width, 2:n, 3:s, 6:, 7:, 8:l, 9:e, 10:i, 16:, 22:, 30:, 33:, 34:, 35:) -/
def s37 : FnS := ⟨49, [0, 1, 2, 3, 6, 7, 8, 9, 10, 16, 22, 30, 33, 34, 35],
    (.seq (.reg [⟨.var 3, (.e (.box 46 (.arr 32 .leaf))), [.t 0], none⟩,
      ⟨.var 4, (.q .mv), [.c .nils], none⟩,
      ⟨.var 5, (.q .mv), [.c (.int 0)], none⟩])
    (.seq (.seq (.reg [⟨.new, (.q .mv), [.t 1], none⟩,
      ⟨.new, (.q (.bin .lss)), [.t 15, .c (.int 1)], none⟩,
      ⟨.new, (.q .mv), [.t 16], none⟩,
      ⟨.new, (.q .mv), [.t 1], (some (17, false))⟩,
      ⟨.new, (.q (.bin .gtr)), [.t 18, .c (.int 64)], (some (17, false))⟩,
      ⟨.var 9, (.q .pick), [.t 17, .c (.bool true), .t 19], none⟩])
    (.cond (.t 9) (.seq (.reg [⟨.var 4, (.q .mv), [.c .nils], none⟩,
      ⟨.var 5, (.q .mv), [.c (.int 11)], none⟩])
    .ret)
    .skip))
    (.seq (.seq (.reg [⟨.new, (.q .mv), [.t 2], none⟩,
      ⟨.new, (.q (.bin .lss)), [.t 15, .c (.int 0)], none⟩,
      ⟨.new, (.q .mv), [.t 16], none⟩,
      ⟨.new, (.q .mv), [.t 2], (some (17, false))⟩,
      ⟨.new, (.q (.bin .gtr)), [.t 18, .c (.int 36)], (some (17, false))⟩,
      ⟨.var 10, (.q .pick), [.t 17, .c (.bool true), .t 19], none⟩])
    (.cond (.t 10) (.seq (.reg [⟨.var 4, (.q .mv), [.c .nils], none⟩,
      ⟨.var 5, (.q .mv), [.c (.int 2)], none⟩])
    .ret)
    .skip))
    (.seq (.reg [⟨.new, (.q (.ld (.arr 32 .leaf))), [.t 3], none⟩,
      ⟨.new, (.q .mv), [.t 2], none⟩,
      ⟨.new, (.call 66), [.t 15, .c (.u32 1), .c (.int 0), .t 16], none⟩,
      ⟨.new, (.q .mv), [.t 17], none⟩,
      ⟨.new, (.q (.ext 0)), [.t 18], none⟩,
      ⟨.new, (.q (.ext 1)), [.t 18], none⟩,
      ⟨.var 6, (.q .mv), [.t 19], none⟩,
      ⟨.var 7, (.q .mv), [.t 20], none⟩])
    (.seq (.seq (.reg [⟨.new, (.q .mv), [.t 7], none⟩,
      ⟨.var 11, (.q (.bin .neq)), [.t 15, .c (.int 0)], none⟩])
    (.cond (.t 11) (.seq (.reg [⟨.new, (.q .mv), [.t 7], none⟩,
      ⟨.var 4, (.q .mv), [.c .nils], none⟩,
      ⟨.var 5, (.q .mv), [.t 15], none⟩])
    .ret)
    .skip))
    (.seq (.seq (.reg [⟨.new, (.q .mv), [.t 6], none⟩,
      ⟨.var 12, (.q .len), [.t 15], none⟩,
      ⟨.var 13, (.q .mv), [.c (.int 0)], none⟩])
    (.block 0 (.loop (.seq (.reg [⟨.var 14, (.q (.bin .lss)), [.t 13, .t 12], none⟩])
    (.seq (.cond (.t 14) .skip
    (.exit 0))
    (.seq (.block 1 (.seq (.reg [⟨.new, (.q .mv), [.t 13], none⟩,
      ⟨.var 8, (.q .mv), [.t 15], none⟩])
    (.reg [⟨.new, (.q .mv), [.t 6], none⟩,
      ⟨.new, (.q .mv), [.t 8], none⟩,
      ⟨.new, (.q (.iaS .leaf)), [.t 15, .t 16], none⟩,
      ⟨.new, (.q (.ld .leaf)), [.t 17], none⟩,
      ⟨.new, (.q .mv), [.t 1], none⟩,
      ⟨.new, (.q (.bin .sub)), [.c (.int 64), .t 19], none⟩,
      ⟨.new, (.q (.cv .u64)), [.t 20], none⟩,
      ⟨.new, (.q (.bin .shr)), [.c (.u64 18446744073709551615), .t 21], none⟩,
      ⟨.new, (.q (.bin .and)), [.t 18, .t 22], none⟩,
      ⟨.new, (.q (.iaS .leaf)), [.t 15, .t 16], none⟩,
      ⟨.none, (.e (.store .leaf)), [.t 24, .t 23], none⟩])))
    (.reg [⟨.new, (.q (.bin .add)), [.t 13, .c (.int 1)], none⟩,
      ⟨.var 13, (.q .mv), [.t 15], none⟩])))))))
    (.seq (.reg [⟨.new, (.q .mv), [.t 6], none⟩,
      ⟨.var 4, (.q .mv), [.t 15], none⟩,
      ⟨.var 5, (.q .mv), [.c (.int 0)], none⟩])
    .ret))))))),
    [.t 4, .t 5]⟩

/-- trefoil/trefoilref18.Numbers (0:s, 1:width, 2:n, 3:s, 6:, 7:, 8:l, 10:i, 16:, 22:, 32:) -/
def s42 : FnS := ⟨45, [0, 1, 2, 3, 6, 7, 8, 10, 16, 22, 32],
    (.seq (.reg [⟨.var 3, (.e (.box 46 (.arr 32 .leaf))), [.t 0], none⟩,
      ⟨.var 4, (.q .mv), [.c .nils], none⟩,
      ⟨.var 5, (.q .mv), [.c (.int 0)], none⟩])
    (.seq (.seq (.reg [⟨.new, (.q .mv), [.t 1], none⟩,
      ⟨.new, (.q (.bin .lss)), [.t 11, .c (.int 1)], none⟩,
      ⟨.new, (.q .mv), [.t 12], none⟩,
      ⟨.new, (.q .mv), [.t 1], (some (13, false))⟩,
      ⟨.new, (.q (.bin .gtr)), [.t 14, .c (.int 64)], (some (13, false))⟩,
      ⟨.var 8, (.q .pick), [.t 13, .c (.bool true), .t 15], none⟩])
    (.cond (.t 8) (.seq (.reg [⟨.var 4, (.q .mv), [.c .nils], none⟩,
      ⟨.var 5, (.q .mv), [.c (.int 11)], none⟩])
    .ret)
    .skip))
    (.seq (.seq (.reg [⟨.new, (.q .mv), [.t 2], none⟩,
      ⟨.new, (.q (.bin .lss)), [.t 11, .c (.int 0)], none⟩,
      ⟨.new, (.q .mv), [.t 12], none⟩,
      ⟨.new, (.q .mv), [.t 2], (some (13, false))⟩,
      ⟨.new, (.q (.bin .gtr)), [.t 14, .c (.int 36)], (some (13, false))⟩,
      ⟨.var 9, (.q .pick), [.t 13, .c (.bool true), .t 15], none⟩])
    (.cond (.t 9) (.seq (.reg [⟨.var 4, (.q .mv), [.c .nils], none⟩,
      ⟨.var 5, (.q .mv), [.c (.int 2)], none⟩])
    .ret)
    .skip))
    (.seq (.reg [⟨.new, (.q (.ld (.arr 32 .leaf))), [.t 3], none⟩,
      ⟨.new, (.q .mv), [.t 2], none⟩,
      ⟨.new, (.call 67), [.t 11, .c (.u32 1), .c (.int 0), .t 12], none⟩,
      ⟨.new, (.q .mv), [.t 13], none⟩,
      ⟨.new, (.q (.ext 0)), [.t 14], none⟩,
      ⟨.new, (.q (.ext 1)), [.t 14], none⟩,
      ⟨.var 6, (.q .mv), [.t 15], none⟩,
      ⟨.new, (.q .mv), [.t 16], none⟩])
    (.seq (.seq (.reg [⟨.var 7, (.q .mv), [.c (.int 0)], none⟩])
    (.block 0 (.loop (.seq (.seq (.reg [⟨.new, (.q .mv), [.t 7], none⟩,
      ⟨.new, (.q .mv), [.t 6], none⟩,
      ⟨.new, (.q .len), [.t 12], none⟩,
      ⟨.var 10, (.q (.bin .lss)), [.t 11, .t 13], none⟩])
    (.cond (.t 10) .skip
    (.exit 0)))
    (.seq (.block 1 (.reg [⟨.new, (.q .mv), [.t 6], none⟩,
      ⟨.new, (.q .mv), [.t 7], none⟩,
      ⟨.new, (.q .mv), [.t 6], none⟩,
      ⟨.new, (.q .mv), [.t 7], none⟩,
      ⟨.new, (.q (.iaS .leaf)), [.t 13, .t 14], none⟩,
      ⟨.new, (.q (.ld .leaf)), [.t 15], none⟩,
      ⟨.new, (.q .mv), [.t 1], none⟩,
      ⟨.new, (.call 68), [.t 16, .t 17], none⟩,
      ⟨.new, (.q (.iaS .leaf)), [.t 11, .t 12], none⟩,
      ⟨.none, (.e (.store .leaf)), [.t 19, .t 18], none⟩]))
    (.reg [⟨.new, (.q .mv), [.t 7], none⟩,
      ⟨.new, (.q (.bin .add)), [.t 11, .c (.int 1)], none⟩,
      ⟨.var 7, (.q .mv), [.t 12], none⟩]))))))
    (.seq (.reg [⟨.new, (.q .mv), [.t 6], none⟩,
      ⟨.var 4, (.q .mv), [.t 11], none⟩,
      ⟨.var 5, (.q .mv), [.c (.int 0)], none⟩])
    .ret)))))),
    [.t 4, .t 5]⟩

/-- trefoil/trefoilref06.Cut (0:w, 1:bits, 4:, 6:) -/
def s68 : FnS := ⟨13, [0, 1, 4, 6],
    (.seq (.reg [⟨.var 2, (.q .mv), [.c (.u64 0)], none⟩])
    (.seq (.seq (.reg [⟨.new, (.q .mv), [.t 1], none⟩,
      ⟨.var 3, (.q (.bin .geq)), [.t 4, .c (.int 64)], none⟩])
    (.cond (.t 3) (.seq (.reg [⟨.new, (.q .mv), [.t 0], none⟩,
      ⟨.var 2, (.q .mv), [.t 4], none⟩])
    .ret)
    .skip))
    (.seq (.reg [⟨.new, (.q .mv), [.t 0], none⟩,
      ⟨.new, (.q .mv), [.t 1], none⟩,
      ⟨.new, (.q (.cv .u64)), [.t 5], none⟩,
      ⟨.new, (.q (.bin .shl)), [.c (.u64 1), .t 6], none⟩,
      ⟨.new, (.q (.bin .rem)), [.t 4, .t 7], none⟩,
      ⟨.var 2, (.q .mv), [.t 8], none⟩])
    .ret))),
    [.t 2]⟩

/-- trefoil/cot.check (0:width, 1:n, 4:, 10:, 16:) -/
def s35 : FnS := ⟨17, [0, 1, 4, 10, 16],
    (.seq (.reg [⟨.var 2, (.q .mv), [.c (.int 0)], none⟩])
    (.seq (.seq (.reg [⟨.new, (.q .mv), [.t 0], none⟩,
      ⟨.new, (.q (.bin .lss)), [.t 5, .c (.int 1)], none⟩,
      ⟨.new, (.q .mv), [.t 6], none⟩,
      ⟨.new, (.q .mv), [.t 0], (some (7, false))⟩,
      ⟨.new, (.q (.bin .gtr)), [.t 8, .c (.int 64)], (some (7, false))⟩,
      ⟨.var 3, (.q .pick), [.t 7, .c (.bool true), .t 9], none⟩])
    (.cond (.t 3) (.seq (.reg [⟨.var 2, (.q .mv), [.c (.int 11)], none⟩])
    .ret)
    .skip))
    (.seq (.seq (.reg [⟨.new, (.q .mv), [.t 1], none⟩,
      ⟨.new, (.q (.bin .lss)), [.t 5, .c (.int 1)], none⟩,
      ⟨.new, (.q .mv), [.t 6], none⟩,
      ⟨.new, (.q .mv), [.t 1], (some (7, false))⟩,
      ⟨.new, (.q (.bin .gtr)), [.t 8, .c (.int 6)], (some (7, false))⟩,
      ⟨.var 4, (.q .pick), [.t 7, .c (.bool true), .t 9], none⟩])
    (.cond (.t 4) (.seq (.reg [⟨.var 2, (.q .mv), [.c (.int 11)], none⟩])
    .ret)
    .skip))
    (.seq (.reg [⟨.var 2, (.q .mv), [.c (.int 0)], none⟩])
    .ret)))),
    [.t 2]⟩

/-- trefoil/trefoilref19.wrong (0:width, 1:n, 4:) -/
def s41 : FnS := ⟨19, [0, 1, 4],
    (.seq (.reg [⟨.var 2, (.q .mv), [.c (.bool false)], none⟩])
    (.seq (.reg [⟨.new, (.q .mv), [.t 0], none⟩,
      ⟨.new, (.q (.bin .lss)), [.t 3, .c (.int 1)], none⟩,
      ⟨.new, (.q .mv), [.t 4], none⟩,
      ⟨.new, (.q .mv), [.t 0], (some (5, false))⟩,
      ⟨.new, (.q (.bin .gtr)), [.t 6, .c (.int 64)], (some (5, false))⟩,
      ⟨.new, (.q .pick), [.t 5, .c (.bool true), .t 7], none⟩,
      ⟨.new, (.q .mv), [.t 8], none⟩,
      ⟨.new, (.q .mv), [.t 1], (some (9, false))⟩,
      ⟨.new, (.q (.bin .lss)), [.t 10, .c (.int 1)], (some (9, false))⟩,
      ⟨.new, (.q .pick), [.t 9, .c (.bool true), .t 11], none⟩,
      ⟨.new, (.q .mv), [.t 12], none⟩,
      ⟨.new, (.q .mv), [.t 1], (some (13, false))⟩,
      ⟨.new, (.q (.bin .gtr)), [.t 14, .c (.int 6)], (some (13, false))⟩,
      ⟨.new, (.q .pick), [.t 13, .c (.bool true), .t 15], none⟩,
      ⟨.var 2, (.q .mv), [.t 16], none⟩])
    .ret)),
    [.t 2]⟩

/-- trefoil/ring.Sub (0:l, 1:a, 2:b, 6:) -/
def s39 : FnS := ⟨13, [0, 1, 2, 6],
    (.seq (.reg [⟨.var 3, (.q .mv), [.c (.u64 0)], none⟩])
    (.seq (.reg [⟨.new, (.q .mv), [.t 1], none⟩,
      ⟨.new, (.q .mv), [.t 2], none⟩,
      ⟨.new, (.q (.bin .sub)), [.t 4, .t 5], none⟩,
      ⟨.new, (.q .mv), [.t 0], none⟩,
      ⟨.new, (.call 63), [.t 7], none⟩,
      ⟨.new, (.q (.bin .and)), [.t 6, .t 8], none⟩,
      ⟨.var 3, (.q .mv), [.t 9], none⟩])
    .ret)),
    [.t 3]⟩

/-- trefoil/ring.Neg (0:l, 1:a, 4:) -/
def s40 : FnS := ⟨10, [0, 1, 4],
    (.seq (.reg [⟨.var 2, (.q .mv), [.c (.u64 0)], none⟩])
    (.seq (.reg [⟨.new, (.q .mv), [.t 1], none⟩,
      ⟨.new, (.q (.un .neg)), [.t 3], none⟩,
      ⟨.new, (.q .mv), [.t 0], none⟩,
      ⟨.new, (.call 63), [.t 5], none⟩,
      ⟨.new, (.q (.bin .and)), [.t 4, .t 6], none⟩,
      ⟨.var 2, (.q .mv), [.t 7], none⟩])
    .ret)),
    [.t 2]⟩

set_option maxRecDepth 100000
set_option linter.unusedSimpArgs false
set_option linter.unusedVariables false
theorem c37 : cF P [] (drP P []) 37 3 s37.vm = some s37 := by kernel_rfl
theorem c42 : cF P [] (drP P []) 42 3 s42.vm = some s42 := by kernel_rfl
theorem c68 : cF P [] (drP P []) 68 2 s68.vm = some s68 := by kernel_rfl
theorem c35 : cF P [] (drP P []) 35 2 s35.vm = some s35 := by kernel_rfl
theorem c41 : cF P [] (drP P []) 41 2 s41.vm = some s41 := by kernel_rfl
theorem c39 : cF P [] (drP P []) 39 3 s39.vm = some s39 := by kernel_rfl
theorem c40 : cF P [] (drP P []) 40 2 s40.vm = some s40 := by kernel_rfl
theorem f39 {K : AV → Heap → Prop} {H : Heap} {l : Int} {x y : BitVec 64} (h : K (.u64 (msk l (x - y))) H) : wpF P [] 39 [.int l, .u64 x, .u64 y] H K := by
  refine wpF_go c39 rfl 2 ?_
  intro ha hb
  simp only [s39]
  (refine gw0 ?_; try exact True.intro)
  refine f63 ?_
  (refine gw0 ?_; try exact True.intro)
  exact h
theorem f40 {K : AV → Heap → Prop} {H : Heap} {l : Int} {x : BitVec 64} (h : K (.u64 (msk l (-x))) H) : wpF P [] 40 [.int l, .u64 x] H K := by
  refine wpF_go c40 rfl 2 ?_
  intro ha hb
  simp only [s40]
  (refine gw0 ?_; try exact True.intro)
  refine f63 ?_
  (refine gw0 ?_; try exact True.intro)
  exact h
theorem f66k {K : AV → Heap → Prop} {H : Heap} {ks : List (BitVec 8)} {lane : BitVec 32} {a n : Nat} (hk : ks.length = 32) (hn : n ≤ 4096) (han : a + n ≤ 134217728) (h : K (.tup [.own (H.length + 1) 0 [] 0 n .leaf, .int 0]) (H ++ [kbx ks, uB 0 n (rL (fun i => wdg ks lane (a + i)) n)])) : wpF P [] 66 [.agg (ks.map .u8), .u32 lane, .int (a : Int), .int (n : Int)] H K := by
  refine wpF_goK c66 rfl ?_
  intro ha hb
  simp only [s66]
  have h0 : ((a : Int) < 0) = False := by simp
  have h01 : ((n : Int) < 0) = False := by simp
  have h1 : ((134217728 : Int) < (a : Int)) = False := by simp; omega
  have h11 : ((4096 : Int) < (n : Int)) = False := by simp; omega
  have h2 : 8 * (a : Int) = ((8 * a : Nat) : Int) := by omega
  have h3 : 8 * (n : Int) = ((8 * n : Nat) : Int) := by omega
  (refine gw7 @hk @h0 @h01 @h1 @h11 @h2 @h3 ?_; try exact True.intro)
  (repeat (refine And.intro (by omega) ?_))
  refine f84g hk (by omega) (by omega) ?_
  (refine gw0 ?_; try exact True.intro)
  (repeat (refine And.intro (by omega) ?_))
  refine wp_inv (Ix53 ks lane a n H) n ⟨0, _, _, _, _, _, by rw [fill_zero]; rfl, rfl, by omega⟩ ?_
  rintro k st ⟨i, u1, u2, u3, u4, u5, rfl, rfl, hi⟩
  unfold kbx
  by_cases hil : i < n
  · have hlt : ((i : Int) < (n : Int)) = True := by simp; omega
    have hL := fill_length (f := fun i => .u64 (wdg ks lane (a + i))) (z := .u64 0) hi
    have hL0 : (fillL (fun i => AV.u64 (wdg ks lane (a + i))) (.u64 0) n i)[i]? = some (.u64 0) := by
      unfold fillL
      rw [List.getElem?_append_right (by simp), List.length_map, List.length_range, Nat.sub_self, List.getElem?_replicate]
      rw [if_pos (by omega)]
    have hSet := fill_set (f := fun i => .u64 (wdg ks lane (a + i))) (z := .u64 0) hil
    generalize fillL (fun i => AV.u64 (wdg ks lane (a + i))) (.u64 0) n i = L at *
    have hLs : ∀ x, (L.set i x)[i]? = some x := fun x => by rw [List.getElem?_set_self (by omega)]
    have hLL : ∀ x y, (L.set i x).set i y = L.set i y := fun x y => List.set_set ..
    (refine gw1 @hlt ?_; try exact True.intro)
    refine wp_unroll 9 ?_
    have hpl : (part ks lane (8 * a) (8 * n)).length = 8 * n := part_len
    (refine gw5 @hlt @hL0 @hLs @hLL @hpl ?_; try exact True.intro)
    clear hL hL0 hLs hLL hpl ha hb h
    (repeat (refine And.intro (by omega) ?_))
    have hSet' : L.set i (AV.u64 (leW (part ks lane (8 * (a + i)) 8))) = fillL (fun i => AV.u64 (wdg ks lane (a + i))) (AV.u64 0) n (i + 1) := hSet
    simp only [leW] at hSet'
    have e : ∀ (k : Nat) (x : Int), k < 8 → x = 8 * (i : Int) + (k : Int) → (part ks lane (8 * a) (8 * n)).getD x.toNat 0 = (part ks lane (8 * (a + i)) 8).getD k 0 := fun k x hk hx => part_el hk hil hx
    refine ⟨n - (i + 1), by omega, i + 1, _, _, _, _, _, by rw [e 0 (8 * (i : Int) + 0) (by omega) rfl, e 1 (8 * (i : Int) + 1) (by omega) rfl, e 2 (8 * (i : Int) + 2) (by omega) rfl, e 3 (8 * (i : Int) + 3) (by omega) rfl, e 4 (8 * (i : Int) + 4) (by omega) rfl, e 5 (8 * (i : Int) + 5) (by omega) rfl, e 6 (8 * (i : Int) + 6) (by omega) rfl, e 7 (8 * (i : Int) + 7) (by omega) rfl, hSet']; rfl, rfl, by omega⟩
  · have hlt : ((i : Int) < (n : Int)) = False := by simp; omega
    have hie : i = n := by omega
    rw [hie, fill_all]
    have hlt : ((n : Int) < (n : Int)) = False := by simp
    (refine gw4 @hlt @Kall_n @Kall_r @Ka2_s ?_; try exact True.intro)
    exact h
theorem f67k {K : AV → Heap → Prop} {H : Heap} {ks : List (BitVec 8)} {lane : BitVec 32} {a n : Nat} (hk : ks.length = 32) (hn : n ≤ 4096) (han : a + n ≤ 134217728) (h0 : n = 0 → K (.tup [.nils, .int 0]) (H ++ [kbx ks])) (h : 0 < n → ∀ g J, K (.tup [.own (H.length + 2) n [] 0 n .leaf, .int 0]) (H ++ kbx ks :: g :: uB n n (rL (fun i => wdg ks lane (a + i)) n) :: J)) : wpF P [] 67 [.agg (ks.map .u8), .u32 lane, .int (a : Int), .int (n : Int)] H K := by
  refine wpF_goK c67 rfl ?_
  intro ha hb
  simp only [s67]
  have h00 : ((a : Int) < 0) = False := by simp
  have h01 : ((n : Int) < 0) = False := by simp
  have h1 : ((134217728 : Int) < (a : Int)) = False := by simp; omega
  have h11 : ((4096 : Int) < (n : Int)) = False := by simp; omega
  have h2 : 8 * (a : Int) = ((8 * a : Nat) : Int) := by omega
  have h3 : 8 * (n : Int) = ((8 * n : Nat) : Int) := by omega
  (refine gw7 @hk @h00 @h01 @h1 @h11 @h2 @h3 ?_; try exact True.intro)
  (repeat (refine And.intro (by omega) ?_))
  refine f80g hk (by omega) (by omega) ?_
  (refine gw0 ?_; try exact True.intro)
  refine wp_inv (Ix34 ks lane a n H) n ⟨0, _, _, _, _, _, [], rfl, rfl, by omega, .inl ⟨rfl, rfl, rfl⟩⟩ ?_
  rintro k st ⟨i, out, u1, u2, u3, u4, L, rfl, rfl, hi, hc⟩
  unfold kbx
  by_cases hil : i < n
  · have hlt : ((i : Int) < (n : Int)) = True := by simp; omega
    have hpl : (part ks lane (8 * a) (8 * n)).length = 8 * n := part_len
    have e : ∀ (k : Nat) (x : Int), k < 8 → x = 8 * (i : Int) + (k : Int) → (part ks lane (8 * a) (8 * n)).getD x.toNat 0 = (part ks lane (8 * (a + i)) 8).getD k 0 := fun k x hk hx => part_el hk hil hx
    have e0 := e 0 (8 * (i : Int) + 0) (by omega) rfl
    have e1 := e 1 (8 * (i : Int) + 1) (by omega) rfl
    have e2 := e 2 (8 * (i : Int) + 2) (by omega) rfl
    have e3 := e 3 (8 * (i : Int) + 3) (by omega) rfl
    have e4 := e 4 (8 * (i : Int) + 4) (by omega) rfl
    have e5 := e 5 (8 * (i : Int) + 5) (by omega) rfl
    have e6 := e 6 (8 * (i : Int) + 6) (by omega) rfl
    have e7 := e 7 (8 * (i : Int) + 7) (by omega) rfl
    (refine gw1 @hlt ?_; try exact True.intro)
    refine wp_unroll 9 ?_
    (refine gw10 @hlt @hpl @e0 @e1 @e2 @e3 @e4 @e5 @e6 @e7 ?_; try exact True.intro)
    clear ha hb h h0 e e0 e1 e2 e3 e4 e5 e6 e7
    (repeat (refine And.intro (by omega) ?_))
    have hw : rW (part ks lane (8 * (a + i)) 8) = wdg ks lane (a + i) := by rw [← leW_rW]; rfl
    simp only [rW] at hw
    rw [hw]
    rcases hc with ⟨rfl, rfl, rfl⟩ | ⟨hi0, rfl, g, J, rfl⟩
    · (refine gw0 ?_; try exact True.intro)
      exact ⟨n - 1, by omega, 1, _, _, _, _, _, _, rfl, rfl, by omega, .inr ⟨by omega, rfl, _, [], rfl⟩⟩
    · unfold oW
      (refine gw0 ?_; try exact True.intro)
      (repeat (refine And.intro (by omega) ?_))
      have er : (List.range i).map (fun j => AV.u64 (wdg ks lane (a + j))) ++ [AV.u64 (wdg ks lane (a + i))] = (List.range (i + 1)).map fun j => AV.u64 (wdg ks lane (a + j)) := by simp [List.range_succ]
      rw [er]
      exact ⟨n - (i + 1), by omega, i + 1, _, _, _, _, _, _, rfl, rfl, by omega, .inr ⟨by omega, rfl, _, _, rfl⟩⟩
  · have hlt : ((i : Int) < (n : Int)) = False := by simp; omega
    have hie : i = n := by omega
    subst hie
    rcases hc with ⟨hi0, rfl, rfl⟩ | ⟨hi0, rfl, g, J, rfl⟩
    · (refine gw4 @hlt @Kall_n @Kall_r @Ka2_s ?_; try exact True.intro)
      exact h0 hi0
    · (refine gw4 @hlt @Kall_n @Kall_r @Ka2_s ?_; try exact True.intro)
      exact h hi0 g J

/-- a number of a seed: so many bits of a word of its stream -/
def nuF (ks : List (BitVec 8)) (w : Int) (i : Nat) : BitVec 64 := msk w (wdg ks 1 i)
theorem f68 {K : AV → Heap → Prop} {H : Heap} {x : BitVec 64} {w : Int} (hg : good w) (h : K (.u64 (msk w x)) H) : wpF P [] 68 [.u64 x, .int w] H K := by
  refine wpF_go c68 rfl 2 ?_
  intro ha hb
  simp only [s68]
  clear ha hb
  obtain ⟨h1, h2⟩ := id hg
  have hmsk : msk w x = rcut w.toNat x := and_mask hg x
  rw [hmsk] at h
  by_cases h64 : 64 ≤ w
  · have e : (64 ≤ w) = True := eq_true h64
    have : w.toNat = 64 := by omega
    rw [this] at h
    have e2 : rcut 64 x = x := by
      unfold rcut
      rw [Nat.mod_eq_of_lt x.isLt, BitVec.ofNat_toNat, BitVec.setWidth_eq]
    rw [e2] at h
    (refine gw1 @e ?_; try exact True.intro)
    exact h
  · have e : (64 ≤ w) = False := eq_false h64
    have hw : ((w.toNat : Nat) : Int) = w := by omega
    have hs : (BitVec.ofInt 64 w).toNat = w.toNat := by rw [← hw, ofInt_nat (by omega)]; omega
    have hp : (1 : BitVec 64) <<< w.toNat = BitVec.ofNat 64 (2 ^ w.toNat) := by
      apply BitVec.eq_of_toNat_eq
      rw [BitVec.toNat_shiftLeft, Nat.shiftLeft_eq, BitVec.toNat_ofNat]
      show 1 * 2 ^ w.toNat % 2 ^ 64 = _
      rw [Nat.one_mul]
    have hlt : 2 ^ w.toNat < 2 ^ 64 := Nat.pow_lt_pow_right (by decide) (by omega)
    have hpt : ((1 : BitVec 64) <<< w.toNat).toNat = 2 ^ w.toNat := by rw [hp, BitVec.toNat_ofNat, Nat.mod_eq_of_lt hlt]
    have hne : ((1 : BitVec 64) <<< w.toNat = 0) = False := by
      simp only [eq_iff_iff, iff_false]
      intro hc
      rw [hc] at hpt
      have : 0 < 2 ^ w.toNat := Nat.pow_pos (by decide)
      simp at hpt
      omega
    have hr : x % ((1 : BitVec 64) <<< w.toNat) = rcut w.toNat x := by
      apply BitVec.eq_of_toNat_eq
      rw [BitVec.toNat_umod, hpt]
      unfold rcut
      rw [BitVec.toNat_ofNat, Nat.mod_eq_of_lt (Nat.lt_of_le_of_lt (Nat.mod_le _ _) x.isLt)]
    (refine gw4 @e @hs @hne @hr ?_; try exact True.intro)
    (repeat (refine And.intro (by omega) ?_))
    exact h
theorem f35 {K : AV → Heap → Prop} {H : Heap} {w n : Int} (h : K (.int (if okW w n = true then 0 else 11)) H) : wpF P [] 35 [.int w, .int n] H K := by
  refine wpF_go c35 rfl 2 ?_
  intro ha hb
  simp only [s35]
  clear ha hb
  unfold okW at h
  by_cases h1 : w < 1
  · have e1 : ¬ 1 ≤ w := by omega
    simp only [e1, decide_false, Bool.false_and, Bool.false_eq_true, if_false] at h
    (refine gw1 @h1 ?_; try exact True.intro)
    exact h
  by_cases h2 : 64 < w
  · have e1 : 1 ≤ w := by omega
    have e2 : ¬ w ≤ 64 := by omega
    simp only [e1, e2, decide_true, decide_false, Bool.and_false, Bool.false_and, Bool.false_eq_true, if_false] at h
    (refine gw2 @h1 @h2 ?_; try exact True.intro)
    exact h
  by_cases h3 : n < 1
  · have e1 : 1 ≤ w := by omega
    have e2 : w ≤ 64 := by omega
    have e3 : ¬ 1 ≤ n := by omega
    simp only [e1, e2, e3, decide_true, decide_false, Bool.and_false, Bool.false_and, Bool.and_true, Bool.false_eq_true, if_false] at h
    (refine gw3 @h1 @h2 @h3 ?_; try exact True.intro)
    exact h
  by_cases h4 : 6 < n
  · have e1 : 1 ≤ w := by omega
    have e2 : w ≤ 64 := by omega
    have e3 : 1 ≤ n := by omega
    have e4 : ¬ n ≤ 6 := by omega
    simp only [e1, e2, e3, e4, decide_true, decide_false, Bool.and_false, Bool.false_and, Bool.and_true, Bool.false_eq_true, if_false] at h
    (refine gw4 @h1 @h2 @h3 @h4 ?_; try exact True.intro)
    exact h
  · have e1 : 1 ≤ w := by omega
    have e2 : w ≤ 64 := by omega
    have e3 : 1 ≤ n := by omega
    have e4 : n ≤ 6 := by omega
    simp only [e1, e2, e3, e4, decide_true, Bool.and_true, if_true] at h
    (refine gw4 @h1 @h2 @h3 @h4 ?_; try exact True.intro)
    exact h
def I37n (ks : List (BitVec 8)) (W n : Nat) (H : Heap) (k : Nat) (st : St) : Prop :=
  ∃ (i : Nat) (u8 u14 : AV) (J : Heap), st = ⟨[.agg (ks.map .u8), .int W, .int n, .ptr H.length 0 [0] (.arr 32 .leaf), .nils, .int 0, .own (H.length + 2) 0 [] 0 n .leaf, .int 0, u8, .bool false, .bool false, .bool false, .int n, .int i, u14],
    H ++ kbx ks :: kbx ks :: uB 0 n (rL (fun j => if j < i then nuF ks W j else wdg ks 1 j) n) :: J⟩ ∧ k = n - i ∧ i ≤ n
theorem maskV_shr {w : Int} (hg : good w) : maskV w = 18446744073709551615#64 >>> (64 - w.toNat) := if_pos hg
theorem rL_set {F : Nat → BitVec 64} {n i : Nat} {x : BitVec 64} : (rL F n).set i (.u64 x) = rL (fun j => if j = i then x else F j) n := by
  unfold rL
  rw [rng_set]
  refine List.map_congr_left fun k _ => ?_
  show (if k = i then AV.u64 x else AV.u64 (F k)) = AV.u64 (if k = i then x else F k)
  by_cases h : k = i
  · rw [if_pos h, if_pos h]
  · rw [if_neg h, if_neg h]
theorem rL_at {F : Nat → BitVec 64} {n i : Nat} (h : i < n) : (rL F n)[i]? = some (.u64 (F i)) := by
  unfold rL; rw [List.getElem?_map, List.getElem?_range h]; rfl
theorem f37 {K : AV → Heap → Prop} {H : Heap} {ks : List (BitVec 8)} {W n : Nat} (hk : ks.length = 32) (hg : good (W : Int)) (hn : n ≤ 36) (h : K (.tup [.ro .leaf (rL (nuF ks W) n), .int 0]) H) : wpF P [] 37 [.agg (ks.map .u8), .int W, .int n] H K := by
  refine wpF_go c37 rfl 4 ?_
  intro ha hb
  simp only [s37]
  clear ha hb
  obtain ⟨h1, h2⟩ := id hg
  have e1 : ((W : Int) < 1) = False := by simp only [eq_iff_iff, iff_false]; omega
  have e2 : ((64 : Int) < (W : Int)) = False := by simp only [eq_iff_iff, iff_false]; omega
  have e3 : ((n : Int) < 0) = False := by simp only [eq_iff_iff, iff_false]; omega
  have e4 : ((36 : Int) < (n : Int)) = False := by simp only [eq_iff_iff, iff_false]; omega
  (refine gw5 @hk @e1 @e2 @e3 @e4 ?_; try exact True.intro)
  refine f66k (a := 0) hk (by omega) (by omega) ?_
  unfold kbx uB
  have ea : H.length + 1 + 1 = H.length + 2 := rfl
  (refine gw1 @ea ?_; try exact True.intro)
  have hz : rL (fun j => if j < 0 then nuF ks W j else wdg ks 1 j) n = rL (fun i => wdg ks 1 i) n := rL_congr fun j _ => if_neg (Nat.not_lt_zero j)
  refine wp_inv (I37n ks W n H) n ⟨0, _, _, [], by rw [hz]; rfl, rfl, Nat.zero_le _⟩ ?_
  rintro k st ⟨i, u8, u14, J, rfl, rfl, hi⟩
  unfold kbx uB
  by_cases hil : i < n
  · have h3 : ((i : Int) < (n : Int)) = True := by simp only [eq_iff_iff, iff_true]; omega
    have hat := rL_at (F := fun j => if j < i then nuF ks W j else wdg ks 1 j) hil
    simp only [Nat.lt_irrefl, if_false] at hat
    have hsh : (BitVec.ofInt 64 (64 - (W : Int))).toNat = 64 - W := by
      rw [show 64 - (W : Int) = ((64 - W : Nat) : Int) by omega]; exact ofInt_nat (by omega)
    have hmv : wdg ks 1 i &&& ((18446744073709551615 : BitVec 64) >>> (64 - W)) = nuF ks W i := by
      unfold nuF msk
      rw [maskV_shr hg, Int.toNat_natCast]
      rfl
    have hst : rL (fun j => if j = i then nuF ks W i else if j < i then nuF ks W j else wdg ks 1 j) n = rL (fun j => if j < i + 1 then nuF ks W j else wdg ks 1 j) n := rL_congr fun j _ => by
      by_cases hj : j = i
      · rw [if_pos hj, if_pos (by omega), hj]
      · rw [if_neg hj]
        by_cases hj2 : j < i
        · rw [if_pos hj2, if_pos (by omega)]
        · rw [if_neg hj2, if_neg (by omega)]
    have hset := rL_set (F := fun j => if j < i then nuF ks W j else wdg ks 1 j) (n := n) (i := i) (x := nuF ks W i)
    rw [hst] at hset
    have hlen : (rL (fun j => if j < i then nuF ks W j else wdg ks 1 j) n).length = n := rL_len
    generalize rL (fun j => if j < i then nuF ks W j else wdg ks 1 j) n = L at *
    (refine gw5 @h3 @hat @hsh @hmv @hset ?_; try exact True.intro)
    (repeat (refine And.intro (by omega) ?_))
    exact ⟨n - (i + 1), by omega, i + 1, _, _, _, rfl, rfl, by omega⟩
  · have h3 : ((i : Int) < (n : Int)) = False := by simp only [eq_iff_iff, iff_false]; omega
    have hie : i = n := by omega
    have hc : rL (fun j => if j < i then nuF ks W j else wdg ks 1 j) n = rL (nuF ks W) n := rL_congr fun j hj => if_pos (by omega)
    rw [hc]
    have ht1 := take_rL (F := nuF ks W) (t := n)
    have hm1 := @mapO_rL
    (refine gw3 @h3 @ht1 @hm1 ?_; try exact True.intro)
    exact h

theorem f37e {K : AV → Heap → Prop} {H : Heap} {ks : List (BitVec 8)} {w n : Int} (hk : ks.length = 32) (hb : (w < 1 ∨ 64 < w) ∨ (n < 0 ∨ 36 < n)) (h : K (.tup [.nils, .int (if w < 1 ∨ 64 < w then 11 else 2)]) H) : wpF P [] 37 [.agg (ks.map .u8), .int w, .int n] H K := by
  refine wpF_go c37 rfl 4 ?_
  intro ha hb'
  simp only [s37]
  clear ha hb'
  by_cases h1 : w < 1
  · rw [if_pos (.inl h1)] at h
    (refine gw2 @hk @h1 ?_; try exact True.intro)
    exact h
  by_cases h2 : 64 < w
  · rw [if_pos (.inr h2)] at h
    (refine gw3 @hk @h1 @h2 ?_; try exact True.intro)
    exact h
  rw [if_neg (by omega)] at h
  by_cases h3 : n < 0
  · (refine gw4 @hk @h1 @h2 @h3 ?_; try exact True.intro)
    exact h
  · have h4 : 36 < n := by omega
    (refine gw5 @hk @h1 @h2 @h3 @h4 ?_; try exact True.intro)
    exact h
def I42n (ks : List (BitVec 8)) (W n : Nat) (H : Heap) (g : Option Blk) (k : Nat) (st : St) : Prop :=
  ∃ (i : Nat) (u10 : AV) (J : Heap), st = ⟨[.agg (ks.map .u8), .int W, .int n, .ptr H.length 0 [0] (.arr 32 .leaf), .nils, .int 0, .own (H.length + 3) n [] 0 n .leaf, .int i, .bool false, .bool false, u10],
    H ++ kbx ks :: kbx ks :: g :: uB n n (rL (fun j => if j < i then nuF ks W j else wdg ks 1 j) n) :: J⟩ ∧ k = n - i ∧ i ≤ n
theorem f42k {K : AV → Heap → Prop} {H : Heap} {ks : List (BitVec 8)} {W n : Nat} (hk : ks.length = 32) (hg : good (W : Int)) (hn : n ≤ 36) (hn0 : 0 < n) (h : ∀ g J, K (.tup [.own (H.length + 3) n [] 0 n .leaf, .int 0]) (H ++ kbx ks :: kbx ks :: g :: uB n n (rL (nuF ks W) n) :: J)) : wpF P [] 42 [.agg (ks.map .u8), .int W, .int n] H K := by
  refine wpF_goK c42 rfl ?_
  intro ha hb
  simp only [s42]
  clear ha hb
  obtain ⟨h1, h2⟩ := id hg
  have e1 : ((W : Int) < 1) = False := by simp only [eq_iff_iff, iff_false]; omega
  have e2 : ((64 : Int) < (W : Int)) = False := by simp only [eq_iff_iff, iff_false]; omega
  have e3 : ((n : Int) < 0) = False := by simp only [eq_iff_iff, iff_false]; omega
  have e4 : ((36 : Int) < (n : Int)) = False := by simp only [eq_iff_iff, iff_false]; omega
  (refine gw8 @hk @e1 @e2 @e3 @e4 @Kall_n @Kall_r @Ka2_s ?_; try exact True.intro)
  refine f67k (a := 0) hk (by omega) (by omega) (by omega) ?_
  intro _ g J
  unfold kbx uB
  have ea : H.length + 1 + 2 = H.length + 3 := rfl
  (refine gw4 @ea @Kall_n @Kall_r @Ka2_s ?_; try exact True.intro)
  have hz : rL (fun j => if j < 0 then nuF ks W j else wdg ks 1 j) n = rL (fun i => wdg ks 1 i) n := rL_congr fun j _ => if_neg (Nat.not_lt_zero j)
  refine wp_inv (I42n ks W n H g) n ⟨0, _, J, by rw [hz]; rfl, rfl, Nat.zero_le _⟩ ?_
  clear J
  rintro k st ⟨i, u10, J, rfl, rfl, hi⟩
  unfold kbx uB
  have hlen : (rL (fun j => if j < i then nuF ks W j else wdg ks 1 j) n).length = n := rL_len
  by_cases hil : i < n
  · have h3 : ((i : Int) < (n : Int)) = True := by simp only [eq_iff_iff, iff_true]; omega
    have hat := rL_at (F := fun j => if j < i then nuF ks W j else wdg ks 1 j) hil
    simp only [Nat.lt_irrefl, if_false] at hat
    have hst : rL (fun j => if j = i then nuF ks W i else if j < i then nuF ks W j else wdg ks 1 j) n = rL (fun j => if j < i + 1 then nuF ks W j else wdg ks 1 j) n := rL_congr fun j _ => by
      by_cases hj : j = i
      · rw [if_pos hj, if_pos (by omega), hj]
      · rw [if_neg hj]
        by_cases hj2 : j < i
        · rw [if_pos hj2, if_pos (by omega)]
        · rw [if_neg hj2, if_neg (by omega)]
    have hset := rL_set (F := fun j => if j < i then nuF ks W j else wdg ks 1 j) (n := n) (i := i) (x := nuF ks W i)
    rw [hst] at hset
    generalize rL (fun j => if j < i then nuF ks W j else wdg ks 1 j) n = L at *
    have hnu : msk W (wdg ks 1 i) = nuF ks W i := rfl
    (refine gw5 @h3 @hat @Kall_n @Kall_r @Ka2_s ?_; try exact True.intro)
    refine f68 hg ?_
    rw [hnu]
    (refine gw5 @hat @hset @Kall_n @Kall_r @Ka2_s ?_; try exact True.intro)
    (repeat (refine And.intro (by omega) ?_))
    exact ⟨n - (i + 1), by omega, i + 1, _, _, rfl, rfl, by omega⟩
  · have h3 : ((i : Int) < (n : Int)) = False := by simp only [eq_iff_iff, iff_false]; omega
    have hc : rL (fun j => if j < i then nuF ks W j else wdg ks 1 j) n = rL (nuF ks W) n := rL_congr fun j hj => if_pos (by omega)
    rw [hc]
    have hlen2 : (rL (nuF ks W) n).length = n := rL_len
    (refine gw4 @h3 @Kall_n @Kall_r @Ka2_s ?_; try exact True.intro)
    exact h g J

theorem f42z {K : AV → Heap → Prop} {H : Heap} {ks : List (BitVec 8)} {W : Nat} (hk : ks.length = 32) (hg : good (W : Int)) (h : K (.tup [.nils, .int 0]) H) : wpF P [] 42 [.agg (ks.map .u8), .int W, .int 0] H K := by
  refine wpF_go c42 rfl 4 ?_
  intro ha hb
  simp only [s42]
  clear ha hb
  obtain ⟨h1, h2⟩ := id hg
  have e1 : ((W : Int) < 1) = False := by simp only [eq_iff_iff, iff_false]; omega
  have e2 : ((64 : Int) < (W : Int)) = False := by simp only [eq_iff_iff, iff_false]; omega
  (refine gw3 @hk @e1 @e2 ?_; try exact True.intro)
  refine f67k (a := 0) (n := 0) hk (by omega) (by omega) (fun _ => ?_) (fun h => absurd h (Nat.not_lt_zero _))
  unfold kbx
  (refine gw0 ?_; try exact True.intro)
  refine wp_unroll 1 ?_
  (refine gw0 ?_; try exact True.intro)
  exact h
/-- a list of numbers as the reference has it -/
theorem f42 {K : AV → Heap → Prop} {H : Heap} {ks : List (BitVec 8)} {W n : Nat} (hk : ks.length = 32) (hg : good (W : Int)) (hn : n ≤ 36) (h : K (.tup [luL (nuF ks W) n, .int 0]) H) : wpF P [] 42 [.agg (ks.map .u8), .int W, .int n] H K := by
  unfold luL at h
  by_cases h0 : n = 0
  · rw [if_pos h0] at h
    subst h0
    exact f42z hk hg h
  · rw [if_neg h0] at h
    refine wpF_pure 3 (f42k hk hg hn (by omega) fun g J => ⟨_, ?_, List.take_left, h⟩)
    unfold kbx uB
    have ht1 := take_rL (F := nuF ks W) (t := n)
    have hm1 := @mapO_rL
    (refine gw2 @ht1 @hm1 ?_; try exact True.intro)
theorem f42e {K : AV → Heap → Prop} {H : Heap} {ks : List (BitVec 8)} {w n : Int} (hk : ks.length = 32) (hb : (w < 1 ∨ 64 < w) ∨ (n < 0 ∨ 36 < n)) (h : K (.tup [.nils, .int (if w < 1 ∨ 64 < w then 11 else 2)]) H) : wpF P [] 42 [.agg (ks.map .u8), .int w, .int n] H K := by
  refine wpF_go c42 rfl 4 ?_
  intro ha hb'
  simp only [s42]
  clear ha hb'
  by_cases h1 : w < 1
  · rw [if_pos (.inl h1)] at h
    (refine gw2 @hk @h1 ?_; try exact True.intro)
    exact h
  by_cases h2 : 64 < w
  · rw [if_pos (.inr h2)] at h
    (refine gw3 @hk @h1 @h2 ?_; try exact True.intro)
    exact h
  rw [if_neg (by omega)] at h
  by_cases h3 : n < 0
  · (refine gw4 @hk @h1 @h2 @h3 ?_; try exact True.intro)
    exact h
  · have h4 : 36 < n := by omega
    (refine gw5 @hk @h1 @h2 @h3 @h4 ?_; try exact True.intro)
    exact h
theorem f41 {K : AV → Heap → Prop} {H : Heap} {w n : Int} (h : K (.bool (!okW w n)) H) : wpF P [] 41 [.int w, .int n] H K := by
  refine wpF_go c41 rfl 2 ?_
  intro ha hb
  simp only [s41]
  clear ha hb
  unfold okW at h
  by_cases h1 : w < 1
  · have e1 : ¬ 1 ≤ w := by omega
    simp only [e1, decide_false, Bool.false_and, Bool.not_false] at h
    (refine gw1 @h1 ?_; try exact True.intro)
    exact h
  by_cases h2 : 64 < w
  · have e1 : 1 ≤ w := by omega
    have e2 : ¬ w ≤ 64 := by omega
    simp only [e1, e2, decide_true, decide_false, Bool.and_false, Bool.false_and, Bool.not_false] at h
    (refine gw2 @h1 @h2 ?_; try exact True.intro)
    exact h
  by_cases h3 : n < 1
  · have e1 : 1 ≤ w := by omega
    have e2 : w ≤ 64 := by omega
    have e3 : ¬ 1 ≤ n := by omega
    simp only [e1, e2, e3, decide_true, decide_false, Bool.and_false, Bool.false_and, Bool.not_false, Bool.and_true] at h
    (refine gw3 @h1 @h2 @h3 ?_; try exact True.intro)
    exact h
  by_cases h4 : 6 < n
  · have e1 : 1 ≤ w := by omega
    have e2 : w ≤ 64 := by omega
    have e3 : 1 ≤ n := by omega
    have e4 : ¬ n ≤ 6 := by omega
    simp only [e1, e2, e3, e4, decide_true, decide_false, Bool.and_false, Bool.false_and, Bool.not_false, Bool.and_true] at h
    (refine gw4 @h1 @h2 @h3 @h4 ?_; try exact True.intro)
    exact h
  · have e1 : 1 ≤ w := by omega
    have e2 : w ≤ 64 := by omega
    have e3 : 1 ≤ n := by omega
    have e4 : n ≤ 6 := by omega
    simp only [e1, e2, e3, e4, decide_true, Bool.and_true, Bool.not_true] at h
    (refine gw4 @h1 @h2 @h3 @h4 ?_; try exact True.intro)
    exact h
end Go.Proofs.Ytjilenmngokhpaa

end

section
/-
  Layer 19 (cot): what who sends makes; the program's and the reference's.
-/
open Go Go.V
namespace Go.Proofs.Ytjilenmngokhpaa
/-- trefoil/cot.Send (0:width, 1:n, 2:pairs, 3:xs, 8:, 9:, 10:, 11:e, 12:fix, 13:own, 14:j, 15:p, 16:zero, 17:e, 18:one, 19:i, 24:, 38:, 45:, 46:, 47:, 48:, 61:, 72:, 74:, 75:, 76:) -/
def s12 : FnS := ⟨114, [0, 1, 2, 3, 8, 9, 10, 11, 12, 13, 14, 15, 16, 17, 18, 19, 24, 38, 45, 46, 47, 48, 61, 72, 74, 75, 76],
    (.seq (.reg [⟨.var 4, (.q .mv), [.c .nils], none⟩,
      ⟨.var 5, (.q .mv), [.c .nils], none⟩,
      ⟨.var 6, (.q .mv), [.c (.int 0)], none⟩])
    (.seq (.seq (.reg [⟨.new, (.q .mv), [.t 0], none⟩,
      ⟨.new, (.q .mv), [.t 1], none⟩,
      ⟨.new, (.call 35), [.t 27, .t 28], none⟩,
      ⟨.var 7, (.q .mv), [.t 29], none⟩])
    (.seq (.reg [⟨.new, (.q .mv), [.t 7], none⟩,
      ⟨.var 16, (.q (.bin .neq)), [.t 27, .c (.int 0)], none⟩])
    (.cond (.t 16) (.seq (.reg [⟨.new, (.q .mv), [.t 7], none⟩,
      ⟨.var 4, (.q .mv), [.c .nils], none⟩,
      ⟨.var 5, (.q .mv), [.c .nils], none⟩,
      ⟨.var 6, (.q .mv), [.t 27], none⟩])
    .ret)
    .skip)))
    (.seq (.seq (.reg [⟨.new, (.q .mv), [.t 3], none⟩,
      ⟨.new, (.q .len), [.t 27], none⟩,
      ⟨.new, (.q .mv), [.t 1], none⟩,
      ⟨.new, (.q .mv), [.t 2], none⟩,
      ⟨.new, (.q .len), [.t 30], none⟩,
      ⟨.new, (.q (.bin .mul)), [.t 29, .t 31], none⟩,
      ⟨.new, (.q (.bin .neq)), [.t 28, .t 32], none⟩,
      ⟨.new, (.q .mv), [.t 33], none⟩,
      ⟨.new, (.q .mv), [.t 0], (some (34, false))⟩,
      ⟨.new, (.q .mv), [.t 3], (some (34, false))⟩,
      ⟨.new, (.call 36), [.t 35, .t 36], (some (34, false))⟩,
      ⟨.new, (.q (.un .not)), [.t 37], (some (34, false))⟩,
      ⟨.var 17, (.q .pick), [.t 34, .c (.bool true), .t 38], none⟩])
    (.cond (.t 17) (.seq (.reg [⟨.var 4, (.q .mv), [.c .nils], none⟩,
      ⟨.var 5, (.q .mv), [.c .nils], none⟩,
      ⟨.var 6, (.q .mv), [.c (.int 11)], none⟩])
    .ret)
    .skip))
    (.seq (.reg [⟨.new, (.q .mv), [.t 3], none⟩,
      ⟨.new, (.q .len), [.t 27], none⟩,
      ⟨.new, (.e (.mksl 49 .leaf 8 (.u64 0))), [.c (.int 0), .t 28], none⟩,
      ⟨.var 8, (.q .mv), [.t 29], none⟩])
    (.seq (.reg [⟨.new, (.q .mv), [.t 3], none⟩,
      ⟨.new, (.q .len), [.t 27], none⟩,
      ⟨.new, (.e (.mksl 49 .leaf 8 (.u64 0))), [.c (.int 0), .t 28], none⟩,
      ⟨.var 9, (.q .mv), [.t 29], none⟩])
    (.seq (.seq (.reg [⟨.var 18, (.q .mv), [.t 2], none⟩,
      ⟨.var 19, (.q .len), [.t 18], none⟩,
      ⟨.var 20, (.q .mv), [.c (.int 0)], none⟩])
    (.block 0 (.loop (.seq (.reg [⟨.var 21, (.q (.bin .lss)), [.t 20, .t 19], none⟩])
    (.seq (.cond (.t 21) .skip
    (.exit 0))
    (.seq (.block 1 (.seq (.reg [⟨.new, (.q .mv), [.t 20], none⟩,
      ⟨.new, (.q (.iaS (.st [(.arr 32 .leaf), (.arr 32 .leaf)]))), [.t 18, .t 20], none⟩,
      ⟨.new, (.q (.ld (.st [(.arr 32 .leaf), (.arr 32 .leaf)]))), [.t 28], none⟩,
      ⟨.var 11, (.e (.alloc 88 (.st [(.arr 32 .leaf), (.arr 32 .leaf)]) (.agg [(.agg [(.u8 0), (.u8 0), (.u8 0), (.u8 0), (.u8 0), (.u8 0), (.u8 0), (.u8 0), (.u8 0), (.u8 0), (.u8 0), (.u8 0), (.u8 0), (.u8 0), (.u8 0), (.u8 0), (.u8 0), (.u8 0), (.u8 0), (.u8 0), (.u8 0), (.u8 0), (.u8 0), (.u8 0), (.u8 0), (.u8 0), (.u8 0), (.u8 0), (.u8 0), (.u8 0), (.u8 0), (.u8 0)]), (.agg [(.u8 0), (.u8 0), (.u8 0), (.u8 0), (.u8 0), (.u8 0), (.u8 0), (.u8 0), (.u8 0), (.u8 0), (.u8 0), (.u8 0), (.u8 0), (.u8 0), (.u8 0), (.u8 0), (.u8 0), (.u8 0), (.u8 0), (.u8 0), (.u8 0), (.u8 0), (.u8 0), (.u8 0), (.u8 0), (.u8 0), (.u8 0), (.u8 0), (.u8 0), (.u8 0), (.u8 0), (.u8 0)])]))), [], none⟩,
      ⟨.var 10, (.q .mv), [.t 27], none⟩,
      ⟨.none, (.e (.store (.st [(.arr 32 .leaf), (.arr 32 .leaf)]))), [.t 11, .t 29], none⟩])
    (.seq (.reg [⟨.new, (.q (.fa [(.arr 32 .leaf), (.arr 32 .leaf)] 0)), [.t 11], none⟩,
      ⟨.new, (.q (.ld (.arr 32 .leaf))), [.t 27], none⟩,
      ⟨.new, (.q .mv), [.t 0], none⟩,
      ⟨.new, (.q .mv), [.t 1], none⟩,
      ⟨.new, (.call 37), [.t 28, .t 29, .t 30], none⟩,
      ⟨.new, (.q .mv), [.t 31], none⟩,
      ⟨.new, (.q (.ext 0)), [.t 32], none⟩,
      ⟨.new, (.q (.ext 1)), [.t 32], none⟩,
      ⟨.var 12, (.q .mv), [.t 33], none⟩,
      ⟨.var 13, (.q .mv), [.t 34], none⟩])
    (.seq (.seq (.reg [⟨.new, (.q .mv), [.t 13], none⟩,
      ⟨.var 22, (.q (.bin .neq)), [.t 27, .c (.int 0)], none⟩])
    (.cond (.t 22) (.seq (.reg [⟨.new, (.q .mv), [.t 13], none⟩,
      ⟨.var 4, (.q .mv), [.c .nils], none⟩,
      ⟨.var 5, (.q .mv), [.c .nils], none⟩,
      ⟨.var 6, (.q .mv), [.t 27], none⟩])
    .ret)
    .skip))
    (.seq (.reg [⟨.new, (.q (.fa [(.arr 32 .leaf), (.arr 32 .leaf)] 1)), [.t 11], none⟩,
      ⟨.new, (.q (.ld (.arr 32 .leaf))), [.t 27], none⟩,
      ⟨.new, (.q .mv), [.t 0], none⟩,
      ⟨.new, (.q .mv), [.t 1], none⟩,
      ⟨.new, (.call 37), [.t 28, .t 29, .t 30], none⟩,
      ⟨.new, (.q .mv), [.t 31], none⟩,
      ⟨.new, (.q (.ext 0)), [.t 32], none⟩,
      ⟨.new, (.q (.ext 1)), [.t 32], none⟩,
      ⟨.var 14, (.q .mv), [.t 33], none⟩,
      ⟨.var 13, (.q .mv), [.t 34], none⟩])
    (.seq (.seq (.reg [⟨.new, (.q .mv), [.t 13], none⟩,
      ⟨.var 23, (.q (.bin .neq)), [.t 27, .c (.int 0)], none⟩])
    (.cond (.t 23) (.seq (.reg [⟨.new, (.q .mv), [.t 13], none⟩,
      ⟨.var 4, (.q .mv), [.c .nils], none⟩,
      ⟨.var 5, (.q .mv), [.c .nils], none⟩,
      ⟨.var 6, (.q .mv), [.t 27], none⟩])
    .ret)
    .skip))
    (.seq (.reg [⟨.var 24, (.q .mv), [.t 1], none⟩,
      ⟨.var 25, (.q .mv), [.c (.int 0)], none⟩])
    (.block 2 (.loop (.seq (.reg [⟨.var 26, (.q (.bin .lss)), [.t 25, .t 24], none⟩])
    (.seq (.cond (.t 26) .skip
    (.exit 2))
    (.seq (.block 3 (.seq (.reg [⟨.new, (.q .mv), [.t 25], none⟩,
      ⟨.var 15, (.q .mv), [.t 27], none⟩])
    (.seq (.draw [⟨.new, (.q .mv), [.t 8], none⟩,
      ⟨.new, (.q .mv), [.t 0], none⟩,
      ⟨.new, (.q .mv), [.t 3], none⟩,
      ⟨.new, (.q .mv), [.t 10], none⟩,
      ⟨.new, (.q .mv), [.t 1], none⟩,
      ⟨.new, (.q (.bin .mul)), [.t 30, .t 31], none⟩,
      ⟨.new, (.q .mv), [.t 15], none⟩,
      ⟨.new, (.q (.bin .add)), [.t 32, .t 33], none⟩,
      ⟨.new, (.q (.iaS .leaf)), [.t 29, .t 34], none⟩,
      ⟨.new, (.q (.ld .leaf)), [.t 35], none⟩,
      ⟨.new, (.q .mv), [.t 0], none⟩,
      ⟨.new, (.q .mv), [.t 12], none⟩,
      ⟨.new, (.q .mv), [.t 15], none⟩,
      ⟨.new, (.q (.iaS .leaf)), [.t 38, .t 39], none⟩,
      ⟨.new, (.q (.ld .leaf)), [.t 40], none⟩,
      ⟨.new, (.q .mv), [.t 14], none⟩,
      ⟨.new, (.q .mv), [.t 15], none⟩,
      ⟨.new, (.q (.iaS .leaf)), [.t 42, .t 43], none⟩,
      ⟨.new, (.q (.ld .leaf)), [.t 44], none⟩,
      ⟨.new, (.call 39), [.t 37, .t 41, .t 45], none⟩,
      ⟨.new, (.call 38), [.t 28, .t 36, .t 46], none⟩,
      ⟨.new, (.e (.bsl 49 .leaf (.u64 0) 1 [0])), [.t 47], none⟩,
      ⟨.new, (.e (.app 49 .leaf 8)), [.t 27, .t 48], none⟩,
      ⟨.var 8, (.q .mv), [.t 49], none⟩])
    (.reg [⟨.new, (.q .mv), [.t 9], none⟩,
      ⟨.new, (.q .mv), [.t 0], none⟩,
      ⟨.new, (.q .mv), [.t 12], none⟩,
      ⟨.new, (.q .mv), [.t 15], none⟩,
      ⟨.new, (.q (.iaS .leaf)), [.t 29, .t 30], none⟩,
      ⟨.new, (.q (.ld .leaf)), [.t 31], none⟩,
      ⟨.new, (.call 40), [.t 28, .t 32], none⟩,
      ⟨.new, (.e (.bsl 49 .leaf (.u64 0) 1 [0])), [.t 33], none⟩,
      ⟨.new, (.e (.app 49 .leaf 8)), [.t 27, .t 34], none⟩,
      ⟨.var 9, (.q .mv), [.t 35], none⟩]))))
    (.reg [⟨.new, (.q (.bin .add)), [.t 25, .c (.int 1)], none⟩,
      ⟨.var 25, (.q .mv), [.t 27], none⟩])))))))))))))
    (.reg [⟨.new, (.q (.bin .add)), [.t 20, .c (.int 1)], none⟩,
      ⟨.var 20, (.q .mv), [.t 27], none⟩])))))))
    (.seq (.reg [⟨.new, (.q .mv), [.t 8], none⟩,
      ⟨.new, (.q .mv), [.t 9], none⟩,
      ⟨.var 4, (.q .mv), [.t 27], none⟩,
      ⟨.var 5, (.q .mv), [.t 28], none⟩,
      ⟨.var 6, (.q .mv), [.c (.int 0)], none⟩])
    .ret))))))),
    [.t 4, .t 5, .t 6]⟩

/-- trefoil/trefoilref19.Send (0:width, 1:n, 2:pairs, 3:xs, 8:, 9:, 10:, 11:fix, 12:own, 13:j, 14:a, 16:b, 18:i, 36:, 40:, 67:) -/
def s14 : FnS := ⟨104, [0, 1, 2, 3, 8, 9, 10, 11, 12, 13, 14, 16, 18, 36, 40, 67],
    (.seq (.reg [⟨.var 4, (.q .mv), [.c .nils], none⟩,
      ⟨.var 5, (.q .mv), [.c .nils], none⟩,
      ⟨.var 6, (.q .mv), [.c (.int 0)], none⟩])
    (.seq (.seq (.reg [⟨.new, (.q .mv), [.t 0], none⟩,
      ⟨.new, (.q .mv), [.t 1], none⟩,
      ⟨.new, (.call 41), [.t 16, .t 17], none⟩,
      ⟨.new, (.q .mv), [.t 18], none⟩,
      ⟨.new, (.q .mv), [.t 3], (some (19, false))⟩,
      ⟨.new, (.q .len), [.t 20], (some (19, false))⟩,
      ⟨.new, (.q .mv), [.t 1], (some (19, false))⟩,
      ⟨.new, (.q .mv), [.t 2], (some (19, false))⟩,
      ⟨.new, (.q .len), [.t 23], (some (19, false))⟩,
      ⟨.new, (.q (.bin .mul)), [.t 22, .t 24], (some (19, false))⟩,
      ⟨.new, (.q (.bin .neq)), [.t 21, .t 25], (some (19, false))⟩,
      ⟨.new, (.q .pick), [.t 19, .c (.bool true), .t 26], none⟩,
      ⟨.new, (.q .mv), [.t 27], none⟩,
      ⟨.new, (.q .mv), [.t 0], (some (28, false))⟩,
      ⟨.new, (.q .mv), [.t 3], (some (28, false))⟩,
      ⟨.new, (.call 21), [.t 29, .t 30], (some (28, false))⟩,
      ⟨.new, (.q (.un .not)), [.t 31], (some (28, false))⟩,
      ⟨.var 13, (.q .pick), [.t 28, .c (.bool true), .t 32], none⟩])
    (.cond (.t 13) (.seq (.reg [⟨.var 4, (.q .mv), [.c .nils], none⟩,
      ⟨.var 5, (.q .mv), [.c .nils], none⟩,
      ⟨.var 6, (.q .mv), [.c (.int 11)], none⟩])
    .ret)
    .skip))
    (.seq (.reg [⟨.var 7, (.q .mv), [.c .nils], none⟩,
      ⟨.var 8, (.q .mv), [.c .nils], none⟩])
    (.seq (.seq (.reg [⟨.var 9, (.q .mv), [.c (.int 0)], none⟩])
    (.block 0 (.loop (.seq (.seq (.reg [⟨.new, (.q .mv), [.t 9], none⟩,
      ⟨.new, (.q .mv), [.t 2], none⟩,
      ⟨.new, (.q .len), [.t 17], none⟩,
      ⟨.var 14, (.q (.bin .lss)), [.t 16, .t 18], none⟩])
    (.cond (.t 14) .skip
    (.exit 0)))
    (.seq (.block 1 (.seq (.reg [⟨.new, (.q .mv), [.t 2], none⟩,
      ⟨.new, (.q .mv), [.t 9], none⟩,
      ⟨.new, (.q (.iaS (.st [(.arr 32 .leaf), (.arr 32 .leaf)]))), [.t 16, .t 17], none⟩,
      ⟨.new, (.q (.fa [(.arr 32 .leaf), (.arr 32 .leaf)] 0)), [.t 18], none⟩,
      ⟨.new, (.q (.ld (.arr 32 .leaf))), [.t 19], none⟩,
      ⟨.new, (.q .mv), [.t 0], none⟩,
      ⟨.new, (.q .mv), [.t 1], none⟩,
      ⟨.new, (.call 42), [.t 20, .t 21, .t 22], none⟩,
      ⟨.new, (.q .mv), [.t 23], none⟩,
      ⟨.new, (.q (.ext 0)), [.t 24], none⟩,
      ⟨.new, (.q (.ext 1)), [.t 24], none⟩,
      ⟨.var 10, (.q .mv), [.t 25], none⟩,
      ⟨.new, (.q .mv), [.t 26], none⟩])
    (.seq (.reg [⟨.new, (.q .mv), [.t 2], none⟩,
      ⟨.new, (.q .mv), [.t 9], none⟩,
      ⟨.new, (.q (.iaS (.st [(.arr 32 .leaf), (.arr 32 .leaf)]))), [.t 16, .t 17], none⟩,
      ⟨.new, (.q (.fa [(.arr 32 .leaf), (.arr 32 .leaf)] 1)), [.t 18], none⟩,
      ⟨.new, (.q (.ld (.arr 32 .leaf))), [.t 19], none⟩,
      ⟨.new, (.q .mv), [.t 0], none⟩,
      ⟨.new, (.q .mv), [.t 1], none⟩,
      ⟨.new, (.call 42), [.t 20, .t 21, .t 22], none⟩,
      ⟨.new, (.q .mv), [.t 23], none⟩,
      ⟨.new, (.q (.ext 0)), [.t 24], none⟩,
      ⟨.new, (.q (.ext 1)), [.t 24], none⟩,
      ⟨.var 11, (.q .mv), [.t 25], none⟩,
      ⟨.new, (.q .mv), [.t 26], none⟩])
    (.seq (.reg [⟨.var 12, (.q .mv), [.c (.int 0)], none⟩])
    (.block 2 (.loop (.seq (.seq (.reg [⟨.new, (.q .mv), [.t 12], none⟩,
      ⟨.new, (.q .mv), [.t 1], none⟩,
      ⟨.var 15, (.q (.bin .lss)), [.t 16, .t 17], none⟩])
    (.cond (.t 15) .skip
    (.exit 2)))
    (.seq (.block 3 (.seq (.draw [⟨.new, (.q .mv), [.t 7], none⟩,
      ⟨.new, (.q .mv), [.t 0], none⟩,
      ⟨.new, (.q .mv), [.t 0], none⟩,
      ⟨.new, (.q .mv), [.t 3], none⟩,
      ⟨.new, (.q .mv), [.t 9], none⟩,
      ⟨.new, (.q .mv), [.t 1], none⟩,
      ⟨.new, (.q (.bin .mul)), [.t 20, .t 21], none⟩,
      ⟨.new, (.q .mv), [.t 12], none⟩,
      ⟨.new, (.q (.bin .add)), [.t 22, .t 23], none⟩,
      ⟨.new, (.q (.iaS .leaf)), [.t 19, .t 24], none⟩,
      ⟨.new, (.q (.ld .leaf)), [.t 25], none⟩,
      ⟨.new, (.q .mv), [.t 10], none⟩,
      ⟨.new, (.q .mv), [.t 12], none⟩,
      ⟨.new, (.q (.iaS .leaf)), [.t 27, .t 28], none⟩,
      ⟨.new, (.q (.ld .leaf)), [.t 29], none⟩,
      ⟨.new, (.call 44), [.t 18, .t 26, .t 30], none⟩,
      ⟨.new, (.q .mv), [.t 11], none⟩,
      ⟨.new, (.q .mv), [.t 12], none⟩,
      ⟨.new, (.q (.iaS .leaf)), [.t 32, .t 33], none⟩,
      ⟨.new, (.q (.ld .leaf)), [.t 34], none⟩,
      ⟨.new, (.call 43), [.t 17, .t 31, .t 35], none⟩,
      ⟨.new, (.e (.bsl 49 .leaf (.u64 0) 1 [0])), [.t 36], none⟩,
      ⟨.new, (.e (.app 49 .leaf 8)), [.t 16, .t 37], none⟩,
      ⟨.var 7, (.q .mv), [.t 38], none⟩])
    (.reg [⟨.new, (.q .mv), [.t 8], none⟩,
      ⟨.new, (.q .mv), [.t 0], none⟩,
      ⟨.new, (.q .mv), [.t 10], none⟩,
      ⟨.new, (.q .mv), [.t 12], none⟩,
      ⟨.new, (.q (.iaS .leaf)), [.t 18, .t 19], none⟩,
      ⟨.new, (.q (.ld .leaf)), [.t 20], none⟩,
      ⟨.new, (.call 43), [.t 17, .c (.u64 0), .t 21], none⟩,
      ⟨.new, (.e (.bsl 49 .leaf (.u64 0) 1 [0])), [.t 22], none⟩,
      ⟨.new, (.e (.app 49 .leaf 8)), [.t 16, .t 23], none⟩,
      ⟨.var 8, (.q .mv), [.t 24], none⟩])))
    (.reg [⟨.new, (.q .mv), [.t 12], none⟩,
      ⟨.new, (.q (.bin .add)), [.t 16, .c (.int 1)], none⟩,
      ⟨.var 12, (.q .mv), [.t 17], none⟩])))))))))
    (.reg [⟨.new, (.q .mv), [.t 9], none⟩,
      ⟨.new, (.q (.bin .add)), [.t 16, .c (.int 1)], none⟩,
      ⟨.var 9, (.q .mv), [.t 17], none⟩]))))))
    (.seq (.reg [⟨.new, (.q .mv), [.t 7], none⟩,
      ⟨.new, (.q .mv), [.t 8], none⟩,
      ⟨.var 4, (.q .mv), [.t 16], none⟩,
      ⟨.var 5, (.q .mv), [.t 17], none⟩,
      ⟨.var 6, (.q .mv), [.c (.int 0)], none⟩])
    .ret))))),
    [.t 4, .t 5, .t 6]⟩

set_option maxRecDepth 100000
set_option linter.unusedSimpArgs false
set_option linter.unusedVariables false
theorem c12 : cF P [] (drP P []) 12 4 s12.vm = some s12 := by kernel_rfl
theorem c14 : cF P [] (drP P []) 14 4 s14.vm = some s14 := by kernel_rfl
theorem msk_add {l : Int} (x y : BitVec 64) : msk l (msk l x + y) = msk l (x + y) := by
  rcases msk_cases l with ⟨hg, h⟩ | ⟨_, h⟩
  · rw [h, h, h, cut_add_cut (by unfold good at hg; omega)]
  · rw [h, h]
theorem msk_add' {l : Int} (x y : BitVec 64) : msk l (x + msk l y) = msk l (x + y) := by rw [BitVec.add_comm, msk_add, BitVec.add_comm]
/-- both seeds of a transfer -/
structure Pr where
  z : List (BitVec 8)
  o : List (BitVec 8)
abbrev prS : Shape := .st [.arr 32 .leaf, .arr 32 .leaf]
def prA (p : Pr) : AV := .agg [.agg (p.z.map .u8), .agg (p.o.map .u8)]
def Pr.ok (p : Pr) : Prop := p.z.length = 32 ∧ p.o.length = 32
def isP (A : AV) (l : List Pr) : Prop := A = .ro prS (l.map prA) ∨ (l = [] ∧ A = .nils)
def prD : Pr := ⟨[], []⟩
theorem ld_pr {l : List Pr} {i : Nat} (h : i < l.length) : (l.map prA).getD i .un = .agg [.agg ((l.getD i prD).z.map .u8), .agg ((l.getD i prD).o.map .u8)] := by
  rw [List.getD_eq_getElem?_getD, List.getElem?_map, List.getD_eq_getElem?_getD, List.getElem?_eq_getElem h]; rfl
theorem pr_ok {l : List Pr} (hl : ∀ p ∈ l, p.ok) {i : Nat} (h : i < l.length) : (l.getD i prD).ok := by
  rw [List.getD_eq_getElem?_getD, List.getElem?_eq_getElem h]
  exact hl _ (List.getElem_mem h)
/-- what the sender has of a transfer -/
def owF (W N : Nat) (l : List Pr) (t : Nat) : BitVec 64 := msk W (-nuF (l.getD (t / N) prD).z W (t % N))
/-- corrections -/
def fxF (W N : Nat) (l : List Pr) (xs : List (BitVec 64)) (t : Nat) : BitVec 64 := msk W (xs.getD t 0 + (nuF (l.getD (t / N) prD).z W (t % N) - nuF (l.getD (t / N) prD).o W (t % N)))
theorem div_at {N j i : Nat} (h : i < N) : (j * N + i) / N = j ∧ (j * N + i) % N = i := by
  constructor
  · rw [Nat.mul_comm, Nat.mul_add_div (by omega), Nat.div_eq_of_lt h, Nat.add_zero]
  · rw [Nat.mul_comm, Nat.mul_add_mod, Nat.mod_eq_of_lt h]
theorem m8 (l : List (BitVec 8)) : ∀ x, x ∈ l.map AV.u8 → AV.isKind .u8 x = true := fun x hx => by
  obtain ⟨b, _, rfl⟩ := List.mem_map.1 hx
  rfl
def I12a (W N : Nat) (A : AV) (l : List Pr) (xs : List (BitVec 64)) (H : Heap) (k : Nat) (st : St) : Prop :=
  ∃ (j t : Nat) (u10 u11 u12 u13 u14 u15 u21 u22 u23 u24 u25 u26 : AV) (J : Heap), st = ⟨[.int W, .int N, A, .ro .leaf (xs.map .u64), .nils, .nils, .int 0, .int 0, .own H.length t [] 0 t .leaf, .own (H.length + 1) t [] 0 t .leaf, u10, u11, u12, u13, u14, u15, .bool false, .bool false, A, .int l.length, .int j, u21, u22, u23, u24, u25, u26],
    H ++ uB t t (rL (fxF W N l xs) t) :: uB t t (rL (owF W N l) t) :: J⟩ ∧ k = l.length - j ∧ j ≤ l.length ∧ t = j * N + 0
def I12b (W N : Nat) (A : AV) (l : List Pr) (xs : List (BitVec 64)) (j : Nat) (p : AV) (H : Heap) (k : Nat) (st : St) : Prop :=
  ∃ (i t : Nat) (u15 u26 : AV) (J : Heap), st = ⟨[.int W, .int N, A, .ro .leaf (xs.map .u64), .nils, .nils, .int 0, .int 0, .own H.length t [] 0 t .leaf, .own (H.length + 1) t [] 0 t .leaf, .int j, p, .ro .leaf (rL (nuF (l.getD j prD).z W) N), .int 0, .ro .leaf (rL (nuF (l.getD j prD).o W) N), u15, .bool false, .bool false, A, .int l.length, .int j, .bool true, .bool false, .bool false, .int N, .int i, u26],
    H ++ uB t t (rL (fxF W N l xs) t) :: uB t t (rL (owF W N l) t) :: J⟩ ∧ k = N - i ∧ i ≤ N ∧ t = j * N + i
theorem f12 {K : AV → Heap → Prop} {H : Heap} {W N : Nat} {l : List Pr} {xs : List (BitVec 64)} (hl : l.length ≤ 1000) (hok : ∀ p ∈ l, p.ok) (hw : okW W N = true) (hd : xs.length = N * l.length) (hf : fitL W xs = true) (h : K (.tup [.ro .leaf (rL (fxF W N l xs) xs.length), .ro .leaf (rL (owF W N l) xs.length), .int 0]) H) : wpF P [] 12 [.int W, .int N, .ro prS (l.map prA), .ro .leaf (xs.map .u64)] H K := by
  refine wpF_go c12 rfl 4 ?_
  intro ha hb
  simp only [s12]
  clear ha hb
  have lm : (xs.map AV.u64).length = xs.length := by simp
  have ll : (l.map prA).length = l.length := by simp
  obtain ⟨hg, hn1, hn2⟩ := okW_good hw
  obtain ⟨hw1, hw2⟩ := id hg
  have hN : 1 ≤ N ∧ N ≤ 6 := by omega
  have hW : 1 ≤ W ∧ W ≤ 64 := by omega
  have hx6 : N * l.length ≤ 6 * 1000 := Nat.mul_le_mul hN.2 hl
  have hmu : (N : Int) * (l.length : Int) = (xs.length : Int) := by rw [hd]; simp
  (refine gw0 ?_; try exact True.intro)
  refine f35 ?_
  rw [if_pos hw]
  (refine gw3 @lm @ll @hmu ?_; try exact True.intro)
  (repeat (refine And.intro (by omega) ?_))
  refine f36L (by omega) ?_
  (refine gw3 @hf @lm @ll ?_; try exact True.intro)
  (repeat (refine And.intro (by omega) ?_))
  refine wp_inv (I12a W N (.ro prS (l.map prA)) l xs H) l.length ⟨0, 0, _, _, _, _, _, _, _, _, _, _, _, _, [], rfl, rfl, Nat.zero_le _, by simp⟩ ?_
  rintro k st ⟨j, t, u10, u11, u12, u13, u14, u15, u21, u22, u23, u24, u25, u26, J, rfl, rfl, hj, ht⟩
  unfold uB
  by_cases hjl : j < l.length
  · have e1 : ((j : Int) < (l.length : Int)) = True := by simp only [eq_iff_iff, iff_true]; omega
    have gp := ld_pr hjl
    obtain ⟨hz, ho⟩ := pr_ok hok hjl
    (refine gw5 @e1 @ll @gp @hz @ho ?_; try exact True.intro)
    refine f37 hz hg (by omega) ?_
    (refine gw1 @ho ?_; try exact True.intro)
    refine f37 ho hg (by omega) ?_
    (refine gw0 ?_; try exact True.intro)
    generalize hpp : AV.ptr (H.length + (J.length + 1 + 1)) 0 [0] (.st [.arr 32 .leaf, .arr 32 .leaf]) = pp
    refine wp_inv (I12b W N (.ro prS (l.map prA)) l xs j pp H) N ⟨0, t, _, _, _, rfl, rfl, Nat.zero_le _, ht⟩ ?_
    clear ht
    rintro k st ⟨i, t, u15, u26, J, rfl, rfl, hi, ht⟩
    unfold uB
    by_cases hil : i < N
    · have e2 : ((i : Int) < (N : Int)) = True := by simp only [eq_iff_iff, iff_true]; omega
      have m1 : (j : Int) * (N : Int) = ((j * N : Nat) : Int) := by simp
      have hle : (j + 1) * N ≤ l.length * N := Nat.mul_le_mul_right _ hjl
      rw [Nat.succ_mul, Nat.mul_comm l.length, ← hd] at hle
      have hx : t < xs.length := by omega
      have g1 := ld_u64 hx
      obtain ⟨d1, d2⟩ := div_at (j := j) hil
      rw [← ht] at d1 d2
      have hfx : msk W (xs.getD t 0 + msk W (nuF (l.getD j prD).z W i - nuF (l.getD j prD).o W i)) = fxF W N l xs t := by
        unfold fxF
        rw [d1, d2, msk_add']
      have how : msk W (-nuF (l.getD j prD).z W i) = owF W N l t := by
        unfold owF
        rw [d1, d2]
      have gz : (rL (nuF (l.getD j prD).z W) N).getD i .un = .u64 (nuF (l.getD j prD).z W i) := ld_rng hil
      have go : (rL (nuF (l.getD j prD).o W) N).getD i .un = .u64 (nuF (l.getD j prD).o W i) := ld_rng hil
      have lz := rL_len (F := nuF (l.getD j prD).z W) (t := N)
      have lo := rL_len (F := nuF (l.getD j prD).o W) (t := N)
      have r1 := rL_one (F := fxF W N l xs) (t := t) rfl
      have r2 := rL_one (F := owF W N l) (t := t) rfl
      generalize nuF (l.getD j prD).z W i = zi at *
      generalize nuF (l.getD j prD).o W i = oi at *
      generalize hp : j * N = p at *
      have had : (p : Int) + (i : Int) = ((p + i : Nat) : Int) := by omega
      rw [ht] at g1
      (refine gw9 @e2 @m1 @had @lm @g1 @gz @go @lz @lo ?_; try exact True.intro)
      (repeat (refine And.intro (by omega) ?_))
      refine drawn _ (f39 ⟨rfl, rfl⟩) ?_
      (refine gw9 @e2 @m1 @had @lm @g1 @gz @go @lz @lo ?_; try exact True.intro)
      refine drawn _ (f38 ⟨rfl, rfl⟩) ?_
      have hfx' : (xs.getD (p + i) 0 + msk W (zi - oi)) &&& maskV W = fxF W N l xs t := by rw [← ht]; exact hfx
      rw [hfx']
      (refine gw10 @e2 @m1 @had @lm @g1 @gz @go @lz @lo @r1 ?_; try exact True.intro)
      (repeat (refine And.intro (by omega) ?_))
      refine f40 ?_
      rw [how]
      (refine gw1 @r2 ?_; try exact True.intro)
      (repeat (refine And.intro (by omega) ?_))
      exact ⟨N - (i + 1), by omega, i + 1, t + 1, _, _, _, rfl, rfl, by omega, by rw [hp, ht]; rfl⟩
    · have e2 : ((i : Int) < (N : Int)) = False := by simp only [eq_iff_iff, iff_false]; omega
      (refine gw1 @e2 ?_; try exact True.intro)
      (repeat (refine And.intro (by omega) ?_))
      exact ⟨l.length - (j + 1), by omega, j + 1, t, _, _, _, _, _, _, _, _, _, _, _, _, _, rfl, rfl, by omega, by rw [ht, show i = N by omega, Nat.succ_mul]; rfl⟩
  · have e1 : ((j : Int) < (l.length : Int)) = False := by simp only [eq_iff_iff, iff_false]; omega
    have hte : t = xs.length := by rw [ht, show j = l.length by omega, hd, Nat.mul_comm]; rfl
    rw [← hte] at h
    have ht1 := take_rL (F := fxF W N l xs) (t := t)
    have ht2 := take_rL (F := owF W N l) (t := t)
    have hm1 := @mapO_rL
    (refine gw4 @e1 @ht1 @ht2 @hm1 ?_; try exact True.intro)
    exact h
theorem f12n {K : AV → Heap → Prop} {H : Heap} {W N : Nat} {X : AV} (hX : isL X []) (hw : okW W N = true) (h : K (.tup [.ro .leaf [], .ro .leaf [], .int 0]) H) : wpF P [] 12 [.int W, .int N, .nils, X] H K := by
  refine wpF_go c12 rfl 4 ?_
  intro ha hb
  simp only [s12]
  clear ha hb
  obtain ⟨hg, hn1, hn2⟩ := okW_good hw
  have hmu : (N : Int) * 0 = 0 := Int.mul_zero _
  rcases hX with rfl | ⟨_, rfl⟩
  · (refine gw0 ?_; try exact True.intro)
    refine f35 ?_
    rw [if_pos hw]
    (refine gw1 @hmu ?_; try exact True.intro)
    refine f36L (xs := []) (by decide) ?_
    have hf : fitL (W : Int) [] = true := rfl
    (refine gw1 @hf ?_; try exact True.intro)
    refine wp_unroll 1 ?_
    (refine gw0 ?_; try exact True.intro)
    exact h
  · (refine gw0 ?_; try exact True.intro)
    refine f35 ?_
    rw [if_pos hw]
    (refine gw1 @hmu ?_; try exact True.intro)
    refine f36n ?_
    (refine gw0 ?_; try exact True.intro)
    refine wp_unroll 1 ?_
    (refine gw0 ?_; try exact True.intro)
    exact h
theorem f12e {K : AV → Heap → Prop} {H : Heap} {w n : Int} {A X : AV} {l : List Pr} {xs : List (BitVec 64)} (hA : isP A l) (hX : isL X (xs.map .u64)) (hl : l.length ≤ 1000) (hx : xs.length ≤ 100000) (hb : (okW w n && decide ((xs.length : Int) = n * l.length) && fitL w xs) = false) (h : K (.tup [.nils, .nils, .int 11]) H) : wpF P [] 12 [.int w, .int n, A, X] H K := by
  refine wpF_go c12 rfl 4 ?_
  intro ha hb'
  simp only [s12]
  clear ha hb'
  have lm : (xs.map AV.u64).length = xs.length := by simp
  have ll : (l.map prA).length = l.length := by simp
  by_cases h1 : okW w n = true
  · obtain ⟨hg, hn1, hn2⟩ := okW_good h1
    have b1 : n * (l.length : Int) ≤ 6 * 1000 := Int.mul_le_mul hn2 (by omega) (by omega) (by decide)
    have b2 : 0 ≤ n * (l.length : Int) := Int.mul_nonneg (by omega) (by omega)
    have hlA : A = .ro prS (l.map prA) ∨ (A = .nils ∧ l.length = 0) := by
      rcases hA with h | ⟨h1, h2⟩
      · exact .inl h
      · exact .inr ⟨h2, by rw [h1]; rfl⟩
    have hlX : X = .ro .leaf (xs.map .u64) ∨ (X = .nils ∧ xs.length = 0) := by
      rcases hX with h | ⟨h1, h2⟩
      · exact .inl h
      · exact .inr ⟨h2, by simpa using h1⟩
    by_cases h2 : (xs.length : Int) = n * l.length
    · have h3 : fitL w xs = false := by
        rw [h1, decide_eq_true h2, Bool.true_and, Bool.true_and] at hb
        exact hb
      have hX' : X = .ro .leaf (xs.map .u64) := by
        rcases hlX with h | ⟨_, h0⟩
        · exact h
        · rw [List.length_eq_zero_iff.1 h0] at h3; cases h3
      subst hX'
      have hne : ((xs.length : Int) = n * (l.length : Int)) = True := eq_true h2
      have hA' : A = .ro prS (l.map prA) := by
        rcases hlA with h | ⟨_, h0⟩
        · exact h
        · exfalso
          rw [h0] at h2
          have : xs.length = 0 := by simpa using h2
          rw [List.length_eq_zero_iff.1 this] at h3; cases h3
      subst hA'
      generalize hM : n * (l.length : Int) = M at *
      (refine gw0 ?_; try exact True.intro)
      refine f35 ?_
      rw [if_pos h1]
      (refine gw4 @lm @ll @hM @hne ?_; try exact True.intro)
      (repeat (refine And.intro (by omega) ?_))
      refine f36L (by omega) ?_
      (refine gw1 @h3 ?_; try exact True.intro)
      exact h
    · have hne : ((xs.length : Int) = n * (l.length : Int)) = False := eq_false h2
      rcases hlA with rfl | ⟨rfl, hl0⟩
      · generalize hM : n * (l.length : Int) = M at *
        rcases hlX with rfl | ⟨rfl, hx0⟩
        · (refine gw0 ?_; try exact True.intro)
          refine f35 ?_
          rw [if_pos h1]
          (refine gw4 @lm @ll @hM @hne ?_; try exact True.intro)
          (repeat (refine And.intro (by omega) ?_))
          exact h
        · rw [hx0] at hne
          have hne' : ((0 : Int) = M) = False := hne
          (refine gw0 ?_; try exact True.intro)
          refine f35 ?_
          rw [if_pos h1]
          (refine gw4 @lm @ll @hM @hne' ?_; try exact True.intro)
          (repeat (refine And.intro (by omega) ?_))
          exact h
      · rw [hl0] at hne
        have hmu : n * 0 = 0 := Int.mul_zero _
        have hne' : ((xs.length : Int) = 0) = False := by rw [← hmu]; exact hne
        rcases hlX with rfl | ⟨rfl, hx0⟩
        · (refine gw0 ?_; try exact True.intro)
          refine f35 ?_
          rw [if_pos h1]
          (refine gw3 @lm @hmu @hne' ?_; try exact True.intro)
          exact h
        · exfalso
          rw [hx0] at hne'
          simp at hne'
  · have h1' : okW w n = false := by simpa using h1
    (refine gw0 ?_; try exact True.intro)
    refine f35 ?_
    rw [if_neg h1]
    (refine gw0 ?_; try exact True.intro)
    exact h
def ap14 (N : Nat) (F E : Nat → BitVec 64) (t : Nat) (o p : AV) (L : Heap) : Prop :=
  (t = 0 ∧ o = .nils ∧ p = .nils ∧ L = []) ∨ (0 < t ∧ o = .own (N + 1) t [] 0 t .leaf ∧ p = .own (N + 3) t [] 0 t .leaf ∧ ∃ T1 T2 J, L = T1 :: uB t t (rL F t) :: T2 :: uB t t (rL E t) :: J)
def I14a (W N : Nat) (l : List Pr) (xs : List (BitVec 64)) (H : Heap) (k : Nat) (st : St) : Prop :=
  ∃ (j t : Nat) (o p u10 u11 u12 c14 c15 : AV) (L : Heap), st = ⟨[.int W, .int N, .ro prS (l.map prA), .ro .leaf (xs.map .u64), .nils, .nils, .int 0, o, p, .int j, u10, u11, u12, .bool false, c14, c15], H ++ L⟩ ∧ k = l.length - j ∧ j ≤ l.length ∧ t = j * N + 0 ∧ ap14 H.length (fxF W N l xs) (owF W N l) t o p L
def I14b (W N : Nat) (l : List Pr) (xs : List (BitVec 64)) (j : Nat) (H : Heap) (k : Nat) (st : St) : Prop :=
  ∃ (i t : Nat) (o p c15 : AV) (L : Heap), st = ⟨[.int W, .int N, .ro prS (l.map prA), .ro .leaf (xs.map .u64), .nils, .nils, .int 0, o, p, .int j, luL (nuF (l.getD j prD).z W) N, luL (nuF (l.getD j prD).o W) N, .int i, .bool false, .bool true, c15], H ++ L⟩ ∧ k = N - i ∧ i ≤ N ∧ t = j * N + i ∧ ap14 H.length (fxF W N l xs) (owF W N l) t o p L
theorem f14 {K : AV → Heap → Prop} {H : Heap} {W N : Nat} {l : List Pr} {xs : List (BitVec 64)} (hl : l.length ≤ 1000) (hok : ∀ p ∈ l, p.ok) (hw : okW W N = true) (hd : xs.length = N * l.length) (hf : fitL W xs = true) (h : K (.tup [luL (fxF W N l xs) xs.length, luL (owF W N l) xs.length, .int 0]) H) : wpF P [] 14 [.int W, .int N, .ro prS (l.map prA), .ro .leaf (xs.map .u64)] H K := by
  refine wpF_go c14 rfl 4 ?_
  intro ha hb
  simp only [s14]
  clear ha hb
  have lm : (xs.map AV.u64).length = xs.length := by simp
  have ll : (l.map prA).length = l.length := by simp
  obtain ⟨hg, hn1, hn2⟩ := okW_good hw
  obtain ⟨hw1, hw2⟩ := id hg
  have hN : 1 ≤ N ∧ N ≤ 6 := by omega
  have hW : 1 ≤ W ∧ W ≤ 64 := by omega
  have hx6 : N * l.length ≤ 6 * 1000 := Nat.mul_le_mul hN.2 hl
  have hmu : (N : Int) * (l.length : Int) = (xs.length : Int) := by rw [hd]; simp
  have hff : (xs.all fun x => decide (rcut (rounds (W : Int)) x = x)) = true := by rw [fitL_eq hg]; exact hf
  have hcm : ∀ x, rcut (rounds (W : Int)) x = msk W x := fun x => f19g' hg x
  (refine gw0 ?_; try exact True.intro)
  refine f41 ?_
  (refine gw4 @hw @lm @ll @hmu ?_; try exact True.intro)
  (repeat (refine And.intro (by omega) ?_))
  refine f21 (by omega) ?_
  (refine gw1 @hff ?_; try exact True.intro)
  refine wp_inv (I14a W N l xs H) l.length ⟨0, 0, _, _, _, _, _, _, _, [], by rw [List.append_nil]; rfl, rfl, Nat.zero_le _, by simp, .inl ⟨rfl, rfl, rfl, rfl⟩⟩ ?_
  rintro k st ⟨j, t, o, p, u10, u11, u12, c14, c15, L, rfl, rfl, hj, ht, hc⟩
  by_cases hjl : j < l.length
  · have e1 : ((j : Int) < (l.length : Int)) = True := by simp only [eq_iff_iff, iff_true]; omega
    have gp := ld_pr hjl
    obtain ⟨hz, ho⟩ := pr_ok hok hjl
    (refine gw5 @e1 @ll @gp @hz @ho ?_; try exact True.intro)
    refine f42 hz hg (by omega) ?_
    generalize hZ : luL (nuF (l.getD j prD).z W) N = Z
    (refine gw5 @e1 @ll @gp @hz @ho ?_; try exact True.intro)
    refine f42 ho hg (by omega) ?_
    generalize hO : luL (nuF (l.getD j prD).o W) N = O
    (refine gw0 ?_; try exact True.intro)
    subst hZ hO
    refine wp_inv (I14b W N l xs j H) N ⟨0, t, _, _, _, L, rfl, rfl, Nat.zero_le _, ht, hc⟩ ?_
    clear ht hc
    rintro k st ⟨i, t, o, p, c15, L, rfl, rfl, hi, ht, hc⟩
    have hZe : luL (nuF (l.getD j prD).z W) N = .ro .leaf (rL (nuF (l.getD j prD).z W) N) := if_neg (by omega)
    have hOe : luL (nuF (l.getD j prD).o W) N = .ro .leaf (rL (nuF (l.getD j prD).o W) N) := if_neg (by omega)
    by_cases hil : i < N
    · have e2 : ((i : Int) < (N : Int)) = True := by simp only [eq_iff_iff, iff_true]; omega
      have m1 : (j : Int) * (N : Int) = ((j * N : Nat) : Int) := by simp
      have hle : (j + 1) * N ≤ l.length * N := Nat.mul_le_mul_right _ hjl
      rw [Nat.succ_mul, Nat.mul_comm l.length, ← hd] at hle
      have hx : t < xs.length := by omega
      have g1 := ld_u64 hx
      obtain ⟨d1, d2⟩ := div_at (j := j) hil
      rw [← ht] at d1 d2
      have hfx : msk W (msk W (xs.getD t 0 + nuF (l.getD j prD).z W i) - nuF (l.getD j prD).o W i) = fxF W N l xs t := by
        unfold fxF
        rw [d1, d2, BitVec.sub_eq_add_neg, msk_add, BitVec.sub_eq_add_neg, BitVec.add_assoc]
      have how : msk W (0 - nuF (l.getD j prD).z W i) = owF W N l t := by
        unfold owF
        rw [d1, d2]
        exact congrArg (msk _) (BitVec.zero_sub _)
      have gz : (rL (nuF (l.getD j prD).z W) N).getD i .un = .u64 (nuF (l.getD j prD).z W i) := ld_rng hil
      have go : (rL (nuF (l.getD j prD).o W) N).getD i .un = .u64 (nuF (l.getD j prD).o W i) := ld_rng hil
      have lz := rL_len (F := nuF (l.getD j prD).z W) (t := N)
      have lo := rL_len (F := nuF (l.getD j prD).o W) (t := N)
      have r1 := rL_one (F := fxF W N l xs) (t := t) rfl
      have r2 := rL_one (F := owF W N l) (t := t) rfl
      rw [hZe, hOe]
      generalize nuF (l.getD j prD).z W i = zi at *
      generalize nuF (l.getD j prD).o W i = oi at *
      generalize hp : j * N = q at *
      have had : (q : Int) + (i : Int) = ((q + i : Nat) : Int) := by omega
      rw [ht] at g1
      have hfx' : msk W (msk W (xs.getD (q + i) 0 + zi) - oi) = fxF W N l xs t := by rw [← ht]; exact hfx
      rcases hc with ⟨ht0, rfl, rfl, rfl⟩ | ⟨ht0, rfl, rfl, T1, T2, J, rfl⟩
      · (refine gw9 @e2 @m1 @had @lm @g1 @gz @go @lz @lo ?_; try exact True.intro)
        (repeat (refine And.intro (by omega) ?_))
        refine drawn _ (f44 ⟨rfl, rfl⟩) ?_
        rw [hcm]
        (refine gw9 @e2 @m1 @had @lm @g1 @gz @go @lz @lo ?_; try exact True.intro)
        refine drawn _ (f43 ⟨rfl, rfl⟩) ?_
        rw [hcm, hfx']
        (refine gw9 @e2 @m1 @had @lm @g1 @gz @go @lz @lo ?_; try exact True.intro)
        refine f43 ?_
        rw [hcm, how]
        (refine gw0 ?_; try exact True.intro)
        (repeat (refine And.intro (by omega) ?_))
        refine ⟨N - (i + 1), by omega, i + 1, t + 1, _, _, _, _, by rw [hZe, hOe]; rfl, rfl, by omega, by rw [hp, ht]; rfl, .inr ⟨by omega, by rw [ht0], by rw [ht0], _, _, [], by rw [ht0]; rfl⟩⟩
      · unfold uB
        (refine gw9 @e2 @m1 @had @lm @g1 @gz @go @lz @lo ?_; try exact True.intro)
        (repeat (refine And.intro (by omega) ?_))
        refine drawn _ (f44 ⟨rfl, rfl⟩) ?_
        rw [hcm]
        (refine gw9 @e2 @m1 @had @lm @g1 @gz @go @lz @lo ?_; try exact True.intro)
        refine drawn _ (f43 ⟨rfl, rfl⟩) ?_
        rw [hcm, hfx']
        (refine gw10 @e2 @m1 @had @lm @g1 @gz @go @lz @lo @r1 ?_; try exact True.intro)
        (repeat (refine And.intro (by omega) ?_))
        refine f43 ?_
        rw [hcm, how]
        (refine gw1 @r2 ?_; try exact True.intro)
        (repeat (refine And.intro (by omega) ?_))
        refine ⟨N - (i + 1), by omega, i + 1, t + 1, _, _, _, _, by rw [hZe, hOe]; rfl, rfl, by omega, by rw [hp, ht]; rfl, .inr ⟨by omega, rfl, rfl, _, _, _, rfl⟩⟩
    · have e2 : ((i : Int) < (N : Int)) = False := by simp only [eq_iff_iff, iff_false]; omega
      (refine gw1 @e2 ?_; try exact True.intro)
      (repeat (refine And.intro (by omega) ?_))
      exact ⟨l.length - (j + 1), by omega, j + 1, t, _, _, _, _, _, _, _, _, rfl, rfl, by omega, by rw [ht, show i = N by omega, Nat.succ_mul]; rfl, hc⟩
  · have e1 : ((j : Int) < (l.length : Int)) = False := by simp only [eq_iff_iff, iff_false]; omega
    have hte : t = xs.length := by rw [ht, show j = l.length by omega, hd, Nat.mul_comm]; rfl
    rw [← hte] at h
    unfold luL at h
    rcases hc with ⟨ht0, rfl, rfl, rfl⟩ | ⟨ht0, rfl, rfl, T1, T2, J, rfl⟩
    · rw [if_pos ht0, if_pos ht0] at h
      (refine gw2 @e1 @ll ?_; try exact True.intro)
      exact h
    · rw [if_neg (by omega), if_neg (by omega)] at h
      unfold uB
      have ht1 := take_rL (F := fxF W N l xs) (t := t)
      have ht2 := take_rL (F := owF W N l) (t := t)
      have hm1 := @mapO_rL
      (refine gw5 @e1 @ll @ht1 @ht2 @hm1 ?_; try exact True.intro)
      exact h
theorem f14e {K : AV → Heap → Prop} {H : Heap} {w n : Int} {l : List Pr} {xs : List (BitVec 64)} (hl : l.length ≤ 1000) (hx : xs.length ≤ 100000) (hb : (okW w n && decide ((xs.length : Int) = n * l.length) && fitL w xs) = false) (h : K (.tup [.nils, .nils, .int 11]) H) : wpF P [] 14 [.int w, .int n, .ro prS (l.map prA), .ro .leaf (xs.map .u64)] H K := by
  refine wpF_go c14 rfl 4 ?_
  intro ha hb'
  simp only [s14]
  clear ha hb'
  have lm : (xs.map AV.u64).length = xs.length := by simp
  have ll : (l.map prA).length = l.length := by simp
  by_cases h1 : okW w n = true
  · obtain ⟨hg, hn1, hn2⟩ := okW_good h1
    have b1 : n * (l.length : Int) ≤ 6 * 1000 := Int.mul_le_mul hn2 (by omega) (by omega) (by decide)
    have b2 : 0 ≤ n * (l.length : Int) := Int.mul_nonneg (by omega) (by omega)
    by_cases h2 : (xs.length : Int) = n * l.length
    · have h3 : (xs.all fun x => decide (rcut (rounds w) x = x)) = false := by
        rw [h1, decide_eq_true h2, Bool.true_and, Bool.true_and] at hb
        rw [fitL_eq hg]
        exact hb
      have hne : ((xs.length : Int) = n * (l.length : Int)) = True := eq_true h2
      generalize hM : n * (l.length : Int) = M at *
      (refine gw0 ?_; try exact True.intro)
      refine f41 ?_
      (refine gw5 @h1 @lm @ll @hM @hne ?_; try exact True.intro)
      (repeat (refine And.intro (by omega) ?_))
      refine f21 (by omega) ?_
      (refine gw1 @h3 ?_; try exact True.intro)
      exact h
    · have hne : ((xs.length : Int) = n * (l.length : Int)) = False := eq_false h2
      generalize hM : n * (l.length : Int) = M at *
      (refine gw0 ?_; try exact True.intro)
      refine f41 ?_
      (refine gw5 @h1 @lm @ll @hM @hne ?_; try exact True.intro)
      (repeat (refine And.intro (by omega) ?_))
      exact h
  · have h1' : okW w n = false := by simpa using h1
    (refine gw0 ?_; try exact True.intro)
    refine f41 ?_
    (refine gw1 @h1' ?_; try exact True.intro)
    exact h
end Go.Proofs.Ytjilenmngokhpaa

end
