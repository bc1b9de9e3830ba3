/-
  Layer 16 (trans.Rows), as the seat of layer 17 has it.
-/
import Derived.Test.YtjilenmngokhpaaZa
import Derived.Test.YtjilenmngokhpaaBm
import Derived.Test.YtjilenmngokhpaaV38
import Derived.Test.YtjilenmngokhpaaV44
section
open Go Go.V
namespace Go.Proofs.Ytjilenmngokhpaa
set_option maxRecDepth 100000
set_option linter.unusedSimpArgs false
set_option linter.unusedVariables false
/-- trefoil/trans.Rows (0:cols, 2:, 3:, 4:n, 5:raw, 6:i, 7:c, 8:out, 9:half, 10:at, 11:w, 12:i, 13:j, 16:, 24:, 25:, 26:, 27:, 34:, 43:, 44:, 48:, 51:, 52:, 77:) -/
def s56 : FnS := ⟨92, [0, 2, 3, 4, 5, 6, 7, 8, 9, 10, 11, 12, 13, 16, 24, 25, 26, 27, 34, 43, 44, 48, 51, 52, 77],
    (.seq (.reg [⟨.var 1, (.q .mv), [.c .nils], none⟩,
      ⟨.var 2, (.q .mv), [.c (.int 0)], none⟩])
    (.seq (.seq (.reg [⟨.new, (.q .mv), [.t 0], none⟩,
      ⟨.new, (.q .len), [.t 25], none⟩,
      ⟨.var 13, (.q (.bin .neq)), [.t 26, .c (.int 128)], none⟩])
    (.cond (.t 13) (.seq (.reg [⟨.var 1, (.q .mv), [.c .nils], none⟩,
      ⟨.var 2, (.q .mv), [.c (.int 11)], none⟩])
    .ret)
    .skip))
    (.seq (.reg [⟨.new, (.q .mv), [.t 0], none⟩,
      ⟨.new, (.q (.iaS (.st [.leaf, .leaf]))), [.t 25, .c (.int 0)], none⟩,
      ⟨.new, (.q (.ld (.st [.leaf, .leaf]))), [.t 26], none⟩,
      ⟨.new, (.call 46), [.t 27], none⟩,
      ⟨.var 3, (.q .mv), [.t 28], none⟩])
    (.seq (.reg [⟨.new, (.q .mv), [.t 0], none⟩,
      ⟨.new, (.q .len), [.t 25], none⟩,
      ⟨.new, (.e (.mksl 23 .leaf 24 .nils)), [.t 26, .t 26], none⟩,
      ⟨.var 4, (.q .mv), [.t 27], none⟩])
    (.seq (.seq (.reg [⟨.var 14, (.q .mv), [.t 0], none⟩,
      ⟨.var 15, (.q .len), [.t 14], none⟩,
      ⟨.var 16, (.q .mv), [.c (.int 0)], none⟩])
    (.block 0 (.loop (.seq (.reg [⟨.var 17, (.q (.bin .lss)), [.t 16, .t 15], none⟩])
    (.seq (.cond (.t 17) .skip
    (.exit 0))
    (.seq (.block 1 (.seq (.reg [⟨.new, (.q .mv), [.t 16], none⟩,
      ⟨.new, (.q (.iaS (.st [.leaf, .leaf]))), [.t 14, .t 16], none⟩,
      ⟨.new, (.q (.ld (.st [.leaf, .leaf]))), [.t 26], none⟩,
      ⟨.var 6, (.e (.alloc 37 (.st [.leaf, .leaf]) (.agg [(.int 0), .nils]))), [], none⟩,
      ⟨.var 5, (.q .mv), [.t 25], none⟩,
      ⟨.none, (.e (.store (.st [.leaf, .leaf]))), [.t 6, .t 27], none⟩])
    (.seq (.seq (.reg [⟨.new, (.q (.ld (.st [.leaf, .leaf]))), [.t 6], none⟩,
      ⟨.new, (.call 46), [.t 25], none⟩,
      ⟨.new, (.q .mv), [.t 3], none⟩,
      ⟨.var 18, (.q (.bin .neq)), [.t 26, .t 27], none⟩])
    (.cond (.t 18) (.seq (.reg [⟨.var 1, (.q .mv), [.c .nils], none⟩,
      ⟨.var 2, (.q .mv), [.c (.int 11)], none⟩])
    .ret)
    .skip))
    (.reg [⟨.new, (.q .mv), [.t 4], none⟩,
      ⟨.new, (.q .mv), [.t 5], none⟩,
      ⟨.new, (.q (.ld (.st [.leaf, .leaf]))), [.t 6], none⟩,
      ⟨.new, (.call 78), [.t 27], none⟩,
      ⟨.new, (.q (.iaS .leaf)), [.t 25, .t 26], none⟩,
      ⟨.none, (.e (.store .leaf)), [.t 29, .t 28], none⟩]))))
    (.reg [⟨.new, (.q (.bin .add)), [.t 16, .c (.int 1)], none⟩,
      ⟨.var 16, (.q .mv), [.t 25], none⟩])))))))
    (.seq (.reg [⟨.new, (.q .mv), [.t 3], none⟩,
      ⟨.new, (.e (.mksl 56 (.arr 2 .leaf) 16 (.agg [(.u64 0), (.u64 0)]))), [.t 25, .t 25], none⟩,
      ⟨.var 7, (.q .mv), [.t 26], none⟩])
    (.seq (.seq (.reg [⟨.var 19, (.q .mv), [.c (.int 0)], none⟩])
    (.block 2 (.loop (.seq (.reg [⟨.var 20, (.q (.bin .lss)), [.t 19, .c (.int 2)], none⟩])
    (.seq (.cond (.t 20) .skip
    (.exit 2))
    (.seq (.block 3 (.seq (.reg [⟨.new, (.q .mv), [.t 19], none⟩,
      ⟨.var 8, (.q .mv), [.t 25], none⟩])
    (.seq (.reg [⟨.var 9, (.q .mv), [.c (.int 0)], none⟩])
    (.block 4 (.loop (.seq (.seq (.reg [⟨.new, (.q .mv), [.t 9], none⟩,
      ⟨.new, (.q .mv), [.t 3], none⟩,
      ⟨.var 21, (.q (.bin .lss)), [.t 25, .t 26], none⟩])
    (.cond (.t 21) .skip
    (.exit 4)))
    (.seq (.block 5 (.seq (.reg [⟨.var 10, (.e (.alloc 129 (.arr 64 .leaf) (.agg [(.u64 0), (.u64 0), (.u64 0), (.u64 0), (.u64 0), (.u64 0), (.u64 0), (.u64 0), (.u64 0), (.u64 0), (.u64 0), (.u64 0), (.u64 0), (.u64 0), (.u64 0), (.u64 0), (.u64 0), (.u64 0), (.u64 0), (.u64 0), (.u64 0), (.u64 0), (.u64 0), (.u64 0), (.u64 0), (.u64 0), (.u64 0), (.u64 0), (.u64 0), (.u64 0), (.u64 0), (.u64 0), (.u64 0), (.u64 0), (.u64 0), (.u64 0), (.u64 0), (.u64 0), (.u64 0), (.u64 0), (.u64 0), (.u64 0), (.u64 0), (.u64 0), (.u64 0), (.u64 0), (.u64 0), (.u64 0), (.u64 0), (.u64 0), (.u64 0), (.u64 0), (.u64 0), (.u64 0), (.u64 0), (.u64 0), (.u64 0), (.u64 0), (.u64 0), (.u64 0), (.u64 0), (.u64 0), (.u64 0), (.u64 0)]))), [], none⟩])
    (.seq (.seq (.reg [⟨.var 22, (.q .mv), [.c (.int 0)], none⟩])
    (.block 6 (.loop (.seq (.reg [⟨.var 23, (.q (.bin .lss)), [.t 22, .c (.int 64)], none⟩])
    (.seq (.cond (.t 23) .skip
    (.exit 6))
    (.seq (.block 7 (.seq (.reg [⟨.new, (.q .mv), [.t 22], none⟩,
      ⟨.var 11, (.q .mv), [.t 25], none⟩])
    (.reg [⟨.new, (.q .mv), [.t 11], none⟩,
      ⟨.new, (.q .mv), [.t 4], none⟩,
      ⟨.new, (.q .mv), [.t 8], none⟩,
      ⟨.new, (.q (.bin .mul)), [.c (.int 64), .t 27], none⟩,
      ⟨.new, (.q .mv), [.t 11], none⟩,
      ⟨.new, (.q (.bin .add)), [.t 28, .t 29], none⟩,
      ⟨.new, (.q (.iaS .leaf)), [.t 26, .t 30], none⟩,
      ⟨.new, (.q (.ld .leaf)), [.t 31], none⟩,
      ⟨.new, (.q .mv), [.t 9], none⟩,
      ⟨.new, (.q (.bin .quo)), [.t 33, .c (.int 64)], none⟩,
      ⟨.new, (.q (.iaS .leaf)), [.t 32, .t 34], none⟩,
      ⟨.new, (.q (.ld .leaf)), [.t 35], none⟩,
      ⟨.new, (.q (.iaA 64 .leaf)), [.t 10, .t 25], none⟩,
      ⟨.none, (.e (.store .leaf)), [.t 37, .t 36], none⟩])))
    (.reg [⟨.new, (.q (.bin .add)), [.t 22, .c (.int 1)], none⟩,
      ⟨.var 22, (.q .mv), [.t 25], none⟩])))))))
    (.seq (.reg [⟨.new, (.call 79), [.t 10], none⟩])
    (.seq (.reg [⟨.var 12, (.q .mv), [.c (.int 0)], none⟩])
    (.block 8 (.loop (.seq (.seq (.reg [⟨.new, (.q .mv), [.t 12], none⟩,
      ⟨.new, (.q (.bin .lss)), [.t 25, .c (.int 64)], none⟩,
      ⟨.new, (.q .mv), [.t 26], none⟩,
      ⟨.new, (.q .mv), [.t 9], (some (27, true))⟩,
      ⟨.new, (.q .mv), [.t 12], (some (27, true))⟩,
      ⟨.new, (.q (.bin .add)), [.t 28, .t 29], (some (27, true))⟩,
      ⟨.new, (.q .mv), [.t 3], (some (27, true))⟩,
      ⟨.new, (.q (.bin .lss)), [.t 30, .t 31], (some (27, true))⟩,
      ⟨.var 24, (.q .pick), [.t 27, .t 32, .c (.bool false)], none⟩])
    (.cond (.t 24) .skip
    (.exit 8)))
    (.seq (.block 9 (.draw [⟨.new, (.q .mv), [.t 7], none⟩,
      ⟨.new, (.q .mv), [.t 9], none⟩,
      ⟨.new, (.q .mv), [.t 12], none⟩,
      ⟨.new, (.q (.bin .add)), [.t 26, .t 27], none⟩,
      ⟨.new, (.q .mv), [.t 8], none⟩,
      ⟨.new, (.q .mv), [.t 12], none⟩,
      ⟨.new, (.q (.iaA 64 .leaf)), [.t 10, .t 30], none⟩,
      ⟨.new, (.q (.ld .leaf)), [.t 31], none⟩,
      ⟨.new, (.q (.iaS (.arr 2 .leaf))), [.t 25, .t 28], none⟩,
      ⟨.new, (.q (.iaA 2 .leaf)), [.t 33, .t 29], none⟩,
      ⟨.none, (.e (.store .leaf)), [.t 34, .t 32], none⟩]))
    (.reg [⟨.new, (.q .mv), [.t 12], none⟩,
      ⟨.new, (.q (.bin .add)), [.t 25, .c (.int 1)], none⟩,
      ⟨.var 12, (.q .mv), [.t 26], none⟩]))))))))))
    (.reg [⟨.new, (.q .mv), [.t 9], none⟩,
      ⟨.new, (.q (.bin .add)), [.t 25, .c (.int 64)], none⟩,
      ⟨.var 9, (.q .mv), [.t 26], none⟩]))))))))
    (.reg [⟨.new, (.q (.bin .add)), [.t 19, .c (.int 1)], none⟩,
      ⟨.var 19, (.q .mv), [.t 25], none⟩])))))))
    (.seq (.reg [⟨.new, (.q .mv), [.t 7], none⟩,
      ⟨.var 1, (.q .mv), [.t 25], none⟩,
      ⟨.var 2, (.q .mv), [.c (.int 0)], none⟩])
    .ret)))))))),
    [.t 1, .t 2]⟩

/-- trefoil/trans.square (0:w, 2:mask, 3:step, 4:i, 5:x, 7:, 11:, 17:) -/
def s79 : FnS := ⟨66, [0, 2, 3, 4, 5, 7, 11, 17],
    (.seq (.reg [⟨.var 1, (.q .mv), [.c (.u64 4294967295)], none⟩])
    (.seq (.reg [⟨.var 2, (.q .mv), [.c (.int 32)], none⟩])
    (.block 0 (.loop (.seq (.seq (.reg [⟨.new, (.q .mv), [.t 2], none⟩,
      ⟨.var 5, (.q (.bin .gtr)), [.t 8, .c (.int 0)], none⟩])
    (.cond (.t 5) .skip
    (.exit 0)))
    (.seq (.block 1 (.seq (.seq (.reg [⟨.var 3, (.q .mv), [.c (.int 0)], none⟩])
    (.block 2 (.loop (.seq (.seq (.reg [⟨.new, (.q .mv), [.t 3], none⟩,
      ⟨.var 6, (.q (.bin .lss)), [.t 8, .c (.int 64)], none⟩])
    (.cond (.t 6) .skip
    (.exit 2)))
    (.seq (.block 3 (.seq (.seq (.reg [⟨.new, (.q .mv), [.t 3], none⟩,
      ⟨.new, (.q .mv), [.t 2], none⟩,
      ⟨.new, (.q (.bin .and)), [.t 8, .t 9], none⟩,
      ⟨.var 7, (.q (.bin .neq)), [.t 10, .c (.int 0)], none⟩])
    (.cond (.t 7) (.exit 3)
    .skip))
    (.seq (.draw [⟨.new, (.q .mv), [.t 0], none⟩,
      ⟨.new, (.q .mv), [.t 3], none⟩,
      ⟨.new, (.q .nilc), [.t 8], none⟩,
      ⟨.new, (.q (.iaA 64 .leaf)), [.t 10, .t 9], none⟩,
      ⟨.new, (.q (.ld .leaf)), [.t 11], none⟩,
      ⟨.new, (.q .mv), [.t 2], none⟩,
      ⟨.new, (.q (.cv .u64)), [.t 13], none⟩,
      ⟨.new, (.q (.bin .shr)), [.t 12, .t 14], none⟩,
      ⟨.new, (.q .mv), [.t 0], none⟩,
      ⟨.new, (.q .mv), [.t 3], none⟩,
      ⟨.new, (.q .mv), [.t 2], none⟩,
      ⟨.new, (.q (.bin .add)), [.t 17, .t 18], none⟩,
      ⟨.new, (.q .nilc), [.t 16], none⟩,
      ⟨.new, (.q (.iaA 64 .leaf)), [.t 20, .t 19], none⟩,
      ⟨.new, (.q (.ld .leaf)), [.t 21], none⟩,
      ⟨.new, (.q (.bin .xor)), [.t 15, .t 22], none⟩,
      ⟨.new, (.q .mv), [.t 1], none⟩,
      ⟨.new, (.q (.bin .and)), [.t 23, .t 24], none⟩,
      ⟨.var 4, (.q .mv), [.t 25], none⟩])
    (.seq (.draw [⟨.new, (.q .mv), [.t 0], none⟩,
      ⟨.new, (.q .mv), [.t 3], none⟩,
      ⟨.new, (.q .nilc), [.t 8], none⟩,
      ⟨.new, (.q (.iaA 64 .leaf)), [.t 10, .t 9], none⟩,
      ⟨.new, (.q (.ld .leaf)), [.t 11], none⟩,
      ⟨.new, (.q .mv), [.t 4], none⟩,
      ⟨.new, (.q .mv), [.t 2], none⟩,
      ⟨.new, (.q (.cv .u64)), [.t 14], none⟩,
      ⟨.new, (.q (.bin .shl)), [.t 13, .t 15], none⟩,
      ⟨.new, (.q (.bin .xor)), [.t 12, .t 16], none⟩,
      ⟨.new, (.q .nilc), [.t 8], none⟩,
      ⟨.new, (.q (.iaA 64 .leaf)), [.t 18, .t 9], none⟩,
      ⟨.none, (.e (.store .leaf)), [.t 19, .t 17], none⟩])
    (.draw [⟨.new, (.q .mv), [.t 0], none⟩,
      ⟨.new, (.q .mv), [.t 3], none⟩,
      ⟨.new, (.q .mv), [.t 2], none⟩,
      ⟨.new, (.q (.bin .add)), [.t 9, .t 10], none⟩,
      ⟨.new, (.q .nilc), [.t 8], none⟩,
      ⟨.new, (.q (.iaA 64 .leaf)), [.t 12, .t 11], none⟩,
      ⟨.new, (.q (.ld .leaf)), [.t 13], none⟩,
      ⟨.new, (.q .mv), [.t 4], none⟩,
      ⟨.new, (.q (.bin .xor)), [.t 14, .t 15], none⟩,
      ⟨.new, (.q .nilc), [.t 8], none⟩,
      ⟨.new, (.q (.iaA 64 .leaf)), [.t 17, .t 11], none⟩,
      ⟨.none, (.e (.store .leaf)), [.t 18, .t 16], none⟩])))))
    (.reg [⟨.new, (.q .mv), [.t 3], none⟩,
      ⟨.new, (.q (.bin .add)), [.t 8, .c (.int 1)], none⟩,
      ⟨.var 3, (.q .mv), [.t 9], none⟩]))))))
    (.reg [⟨.new, (.q .mv), [.t 1], none⟩,
      ⟨.new, (.q .mv), [.t 1], none⟩,
      ⟨.new, (.q .mv), [.t 2], none⟩,
      ⟨.new, (.q (.bin .shr)), [.t 10, .c (.u64 1)], none⟩,
      ⟨.new, (.q (.cv .u64)), [.t 11], none⟩,
      ⟨.new, (.q (.bin .shl)), [.t 9, .t 12], none⟩,
      ⟨.new, (.q (.bin .xor)), [.t 8, .t 13], none⟩,
      ⟨.var 1, (.q .mv), [.t 14], none⟩])))
    (.reg [⟨.new, (.q .mv), [.t 2], none⟩,
      ⟨.new, (.q (.bin .shr)), [.t 8, .c (.u64 1)], none⟩,
      ⟨.var 2, (.q .mv), [.t 9], none⟩]))))))),
    []⟩

theorem c56 : cF P [] (drP P []) 56 1 s56.vm = some s56 := by kernel_rfl
theorem c79 : cF P [] (drP P []) 79 1 s79.vm = some s79 := by kernel_rfl
/-- the words in their box -/
def sqb (g : Nat → Nat → Bool) : Option Blk := some ⟨129, 0, false, .arr 1 (.arr 64 .leaf), .agg [.agg (sqA g)]⟩
/-- what is still to be done from a step on -/
def fin6 (s : Nat) (g : Nat → Nat → Bool) : Nat → Nat → Bool :=
  if s = 32 then six g else if s = 16 then swp 1 (swp 2 (swp 4 (swp 8 (swp 16 g)))) else if s = 8 then swp 1 (swp 2 (swp 4 (swp 8 g)))
  else if s = 4 then swp 1 (swp 2 (swp 4 g)) else if s = 2 then swp 1 (swp 2 g) else if s = 1 then swp 1 g else g
theorem fin6_step {s : Nat} {g : Nat → Nat → Bool} (h : stp s) : fin6 s g = fin6 (s / 2) (swp s g) := by
  rcases h with rfl | rfl | rfl | rfl | rfl | rfl <;> rfl
theorem stp_half {s : Nat} (h : stp s) : (stp (s / 2) ∧ stpM s ^^^ stpM s <<< (s / 2) = stpM (s / 2)) ∨ s / 2 = 0 := by
  rcases h with rfl | rfl | rfl | rfl | rfl | rfl <;> first | exact .inl ⟨by unfold stp; decide, by decide⟩ | exact .inr rfl
def I64a (H0 L : Heap) (g : Nat → Nat → Bool) (k : Nat) (st : St) : Prop :=
  ∃ (m : BitVec 64) (g' : Nat → Nat → Bool) (u3 u4 u5 u6 u7 : AV), st = ⟨[.ptr H0.length 0 [0] (.arr 64 .leaf), .u64 m, .int (k : Int), u3, u4, u5, u6, u7], H0 ++ sqb g' :: L⟩ ∧ fin6 k g' = six g ∧ (k = 0 ∨ (stp k ∧ m = stpM k))
def I64b (H0 L : Heap) (s : Nat) (g : Nat → Nat → Bool) (u5 : AV) (k : Nat) (st : St) : Prop :=
  ∃ (t : Nat) (u4 u6 u7 : AV), st = ⟨[.ptr H0.length 0 [0] (.arr 64 .leaf), .u64 (stpM s), .int (s : Int), .int (t : Int), u4, u5, u6, u7], H0 ++ sqb (swt s t g) :: L⟩ ∧ k = 64 - t ∧ t ≤ 64
theorem sqb_congr {g g' : Nat → Nat → Bool} (h : sqA g = sqA g') : sqb g = sqb g' := by unfold sqb; rw [h]

theorem f79 {K : AV → Heap → Prop} {H0 L : Heap} {g : Nat → Nat → Bool} (h : K (.tup []) (H0 ++ sqb (fun i b => g b i) :: L)) : wpF P [] 79 [.ptr H0.length 0 [0] (.arr 64 .leaf)] (H0 ++ sqb g :: L) K := by
  refine wpF_goM c79 rfl ?_
  intro hA hB
  simp only [s79]
  (refine gw3 @Kmut_n @Kmut_r @Km2_s ?_; try exact True.intro)
  refine wp_inv (I64a H0 L g) 32 ⟨_, g, _, _, _, _, _, rfl, rfl, .inr ⟨.inl rfl, rfl⟩⟩ ?_
  rintro s st ⟨m, g', u3, u4, u5, u6, u7, rfl, hf, hs⟩
  rcases hs with rfl | ⟨hs, rfl⟩
  · have h0 : (0 < ((0 : Nat) : Int)) = False := by simp
    (refine gw4 @h0 @Kmut_n @Kmut_r @Km2_s ?_; try exact True.intro)
    have e : sqb g' = sqb fun i b => g b i := sqb_congr (by rw [show g' = six g from hf]; exact sqA_six)
    have hlen : H0.length + (L.length + 1) = (H0 ++ sqb g :: L).length := by simp
    refine ⟨Nat.le_refl _, ?_, ?_⟩
    · rw [hlen]
      exact HBnd_upd hB (by rintro blk h; cases h; simp only [AV.bnd, AV.bnds, Bool.and_true]; exact bnds_u64)
    · rw [List.take_of_length_le (by simp), e]
      exact h
  · have h0 : (0 < (s : Int)) = True := by have := (st_pos hs).1; simp; omega
    (refine gw4 @h0 @Kmut_n @Kmut_r @Km2_s ?_; try exact True.intro)
    refine wp_inv (I64b H0 L s g' (.bool true)) 64 ⟨0, _, _, _, by rw [sqb_congr (swt_zero fun i hi h => (st1 hs hi h).1)]; rfl, rfl, by omega⟩ ?_
    rintro k st ⟨t, u4, u6, u7, rfl, rfl, ht⟩
    clear hA hB h
    have hp := st_pos hs
    have s1 : (BitVec.ofInt 64 (s : Int)).toNat = s := ofInt64_nat (by omega)
    by_cases htl : t < 64
    · have h1 : ((t : Int) < 64) = True := by simp; omega
      have hand : (BitVec.ofInt 64 (t : Int) &&& BitVec.ofInt 64 (s : Int)).toInt = ((t &&& s : Nat) : Int) := by
        rw [BitVec.toInt_eq_toNat_of_lt, BitVec.toNat_and, ofInt64_nat (by omega), s1]
        rw [BitVec.toNat_and, ofInt64_nat (by omega)]
        exact Nat.lt_of_le_of_lt (Nat.mul_le_mul_left 2 Nat.and_le_left) (by omega)
      by_cases hz : t &&& s = 0
      · have hz' : (((t &&& s : Nat) : Int) = 0) = True := by rw [hz]; simp
        have hb := st0 hs htl hz
        have gt := sqA_at (g := swt s t g') htl
        have gt2 := sqA_at (g := swt s t g') hb.1
        rw [swt_a hz] at gt
        rw [swt_b hs htl hz] at gt2
        have hadd : (t : Int) + (s : Int) = ((t + s : Nat) : Int) := by omega
        have hl2 : (((t + s : Nat) : Int) < 64) = True := by simp; omega
        have hset := sw_step (g := g') hs htl hz rfl
        unfold swx at hset
        unfold sqb
        have gt3 : ∀ X, ((sqA (swt s t g')).set t X)[t + s]? = some (.u64 (wd (g' (t + s)) 0)) := fun X => by rw [List.getElem?_set_ne (by omega), gt2]
        (refine gw13 @h1 @hand @hz' @gt @gt2 @gt3 @hadd @hl2 @s1 @hset @Kmut_n @Kmut_r @Km2_s ?_; try exact True.intro)
        (repeat (refine And.intro (by omega) ?_))
        exact ⟨64 - (t + 1), by omega, t + 1, _, _, _, rfl, rfl, by omega⟩
      · have hz' : (((t &&& s : Nat) : Int) = 0) = False := by simp; exact hz
        (refine gw6 @h1 @hand @hz' @Kmut_n @Kmut_r @Km2_s ?_; try exact True.intro)
        (repeat (refine And.intro (by omega) ?_))
        rw [sqb_congr (swt_skip (g := g') hs htl hz).symm]
        exact ⟨64 - (t + 1), by omega, t + 1, _, _, _, rfl, rfl, by omega⟩
    · have h1 : ((t : Int) < 64) = False := by simp; omega
      have ht' : t = 64 := by omega
      subst ht'
      have hfd : (s : Int).fdiv (2 ^ min 1 64) = ((s / 2 : Nat) : Int) := by
        rw [show (2 : Int) ^ min 1 64 = ((2 : Nat) : Int) from rfl, Int.fdiv_eq_ediv_of_nonneg _ (by omega)]; rfl
      have s2 : (BitVec.ofInt 64 ((s / 2 : Nat) : Int)).toNat = s / 2 := ofInt64_nat (by omega)
      (refine gw6 @h1 @hfd @s2 @Kmut_n @Kmut_r @Km2_s ?_; try exact True.intro)
      (repeat (refine And.intro (by omega) ?_))
      rw [sqb_congr (swt_all (s := s) (g := g'))]
      refine ⟨s / 2, by omega, _, swp s g', _, _, _, _, _, rfl, by rw [← fin6_step hs]; exact hf, ?_⟩
      rcases stp_half hs with ⟨a, b⟩ | a
      · exact .inr ⟨a, b⟩
      · exact .inl a
theorem f79' {K : AV → Heap → Prop} {H0 L Hx : Heap} {g : Nat → Nat → Bool} {m : Nat} {l : List AV} (hm : m = H0.length) (hl : l = sqA g) (hx : Hx = H0 ++ (some ⟨129, 0, false, .arr 1 (.arr 64 .leaf), .agg [.agg l]⟩ : Option Blk) :: L) (h : K (.tup []) (H0 ++ sqb (fun i b => g b i) :: L)) : wpF P [] 79 [.ptr m 0 [0] (.arr 64 .leaf)] Hx K := by
  subst hm hl hx
  exact f79 h
/-- rows as Go has them -/
def rwA (x y : Nat → BitVec 64) (n : Nat) : List AV := (List.range n).map fun j => rowV (x j) (y j)
theorem rwA_len {x y : Nat → BitVec 64} {n : Nat} : (rwA x y n).length = n := by simp [rwA]
theorem rwA_get {x y : Nat → BitVec 64} {n j : Nat} (h : j < n) : (rwA x y n).getD j .un = rowV (x j) (y j) := ld_rng h
/-- bit i of each row -/
def colf (x y : Nat → BitVec 64) (i : Nat) (j : Nat) : Bool := rb (x j) (y j) (i : Int)
def cbL (x y : Nat → BitVec 64) (i n : Nat) : List AV := (List.range n).map fun j => .bool (colf x y i j)
def boB (t : Nat) (l : List AV) : Option Blk := some ⟨4, t, true, .arr t .leaf, .agg l⟩
def Ix40 (x y : Nat → BitVec 64) (i n : Nat) (H : Heap) (k : Nat) (st : St) : Prop :=
  ∃ (t : Nat) (out u : AV) (L : Heap), st = ⟨[.ro (.arr 2 .leaf) (rwA x y n), .int (i : Int), .nils, out, .int (t : Int), u], H ++ L⟩ ∧ k = n - t ∧ t ≤ n ∧
    ((t = 0 ∧ out = .nils ∧ L = []) ∨ (0 < t ∧ out = .own (H.length + 1) t [] 0 t .leaf ∧ ∃ g J l, L = g :: boB t l :: J ∧ l = cbL x y i t))
/-! columns out of bytes -/
def chk (s : List (BitVec 8)) (z i : Nat) : List (BitVec 8) := (s.drop (i * z)).take z
def vS : Shape := .st [.leaf, .leaf]
def vB (t : Nat) (l : List AV) : Option Blk := some ⟨37, t, true, .arr t vS, .agg l⟩
/-- columns as Go has them -/
def veL (m : Nat → Nat) (f : Nat → Nat → Bool) (t : Nat) : List AV := (List.range t).map fun i => vec (m i) (f i)
theorem veL_len {m : Nat → Nat} {f : Nat → Nat → Bool} {t : Nat} : (veL m f t).length = t := by simp [veL]
theorem veL_get {m : Nat → Nat} {f : Nat → Nat → Bool} {t i : Nat} (h : i < t) : (veL m f t).getD i .un = vec (m i) (f i) := ld_rng h
theorem veL_succ {m : Nat → Nat} {f : Nat → Nat → Bool} {t : Nat} : veL m f t ++ [vec (m t) (f t)] = veL m f (t + 1) := by simp [veL, List.range_succ]
theorem veL_congr {m m' : Nat → Nat} {f f' : Nat → Nat → Bool} {t : Nat} (h : ∀ i, i < t → m i = m' i ∧ f i = f' i) : veL m f t = veL m' f' t := by
  unfold veL
  refine List.map_congr_left fun i hi => ?_
  rw [(h i (List.mem_range.1 hi)).1, (h i (List.mem_range.1 hi)).2]
theorem demK_vec {kp : Nat → Bool} {N : Nat} {h : Heap} {d : Nat} {n : Nat} {f : Nat → Bool} : demK kp N h (d + 3) (vec n f) = some (vec n f) := by
  unfold vec
  rw [demK_agg]
  simp only [mapO, demK_int, demK_ro, bndA, if_true, Option.map_some]
theorem mapO_ofT {kp : Nat → Bool} {N : Nat} {h : Heap} {d : Nat} : ∀ {l : List AV}, (∀ x ∈ l, demK kp N h d x = some x) → mapO (demK kp N h d) l = some l
  | [], _ => rfl
  | x :: l, hx => by
    simp only [mapO]
    rw [hx x (by simp), mapO_ofT fun y hy => hx y (by simp [hy])]
theorem mapO_veL {kp : Nat → Bool} {N : Nat} {h : Heap} {d : Nat} {m : Nat → Nat} {f : Nat → Nat → Bool} {t : Nat} : mapO (demK kp N h (d + 3)) (veL m f t) = some (veL m f t) := by
  refine mapO_ofT fun x hx => ?_
  obtain ⟨j, _, rfl⟩ := List.mem_map.1 hx
  exact demK_vec
theorem bnds_veL {m : Nat → Nat} {f : Nat → Nat → Bool} {t k : Nat} : AV.bnds k (veL m f t) = true := by
  refine bnds_iff.2 fun x hx => ?_
  obtain ⟨j, _, rfl⟩ := List.mem_map.1 hx
  simp only [vec, AV.bnd, AV.bnds, bndA, Bool.and_true]
theorem chk_len {s : List (BitVec 8)} {z i : Nat} (hs : s.length = 128 * z) (hi : i < 128) : (chk s z i).length = z := by
  unfold chk
  have := Nat.mul_le_mul_right z (show i + 1 ≤ 128 by omega)
  rw [Nat.add_mul] at this
  rw [List.length_take, List.length_drop]
  omega
/-! the reference's columns out of bytes -/
def bel (n : Nat) (f : Nat → Bool) : AV := if n = 0 then .nils else .ro .leaf ((List.range n).map fun i => .bool (f i))
def beL (n : Nat) (f : Nat → Nat → Bool) (t : Nat) : List AV := (List.range t).map fun i => bel n (f i)
theorem beL_len {n : Nat} {f : Nat → Nat → Bool} {t : Nat} : (beL n f t).length = t := by simp [beL]
theorem beL_get {n : Nat} {f : Nat → Nat → Bool} {t i : Nat} (h : i < t) : (beL n f t).getD i .un = bel n (f i) := ld_rng h
theorem beL_succ {n : Nat} {f : Nat → Nat → Bool} {t : Nat} : beL n f t ++ [bel n (f t)] = beL n f (t + 1) := by simp [beL, List.range_succ]
theorem bel_isL {n : Nat} {f : Nat → Bool} : isL (bel n f) (((List.range n).map f).map .bool) := by
  unfold bel isL
  by_cases h : n = 0
  · subst h; exact .inr ⟨rfl, rfl⟩
  · rw [if_neg h]; exact .inl (by rw [List.map_map]; rfl)
theorem demK_bel {kp : Nat → Bool} {N : Nat} {h : Heap} {d : Nat} {n : Nat} {f : Nat → Bool} : demK kp N h (d + 2) (bel n f) = some (bel n f) := by
  unfold bel
  by_cases hn : n = 0
  · rw [if_pos hn]; rfl
  · rw [if_neg hn, demK_ro, if_pos bnds_bool]
theorem mapO_beL {kp : Nat → Bool} {N : Nat} {h : Heap} {d : Nat} {n : Nat} {f : Nat → Nat → Bool} {t : Nat} : mapO (demK kp N h (d + 2)) (beL n f t) = some (beL n f t) := by
  refine mapO_ofT fun x hx => ?_
  obtain ⟨j, _, rfl⟩ := List.mem_map.1 hx
  exact demK_bel
theorem bel_cell {n : Nat} {f : Nat → Bool} : (match bel n f with | AV.agg ps => false | AV.tup ps => false | AV.un => false | x => true) = true := by
  unfold bel
  by_cases h : n = 0
  · rw [if_pos h]
  · rw [if_neg h]
def lsB (t : Nat) (l : List AV) : Option Blk := some ⟨35, t, true, .arr t .leaf, .agg l⟩
/-! columns as bytes -/
def yB (t q : Nat) (s : List (BitVec 8)) : Option Blk := some ⟨5, t, true, .arr q .leaf, .agg (s.map .u8)⟩
def rawB (l : List AV) : Option Blk := some ⟨23, 0, true, .arr 128 .leaf, .agg l⟩
def wbx (l : List AV) : Option Blk := some ⟨129, 0, false, .arr 1 (.arr 64 .leaf), .agg [.agg l]⟩
theorem f56c {K : AV → Heap → Prop} {H : Heap} {m : Nat → Nat} {f : Nat → Nat → Bool} {q : Nat} (hq : q ≠ 128) (h : K (.tup [.nils, .int 11]) H) : wpF P [] 56 [.ro vS (veL m f q)] H K := by
  refine wpF_go c56 rfl 4 ?_
  intro ha hb
  simp only [s56]
  have hl := veL_len (m := m) (f := f) (t := q)
  have h1 : ((q : Int) = 128) = False := by simp only [eq_iff_iff, iff_false]; omega
  (refine gw2 @hl @h1 ?_; try exact True.intro)
  exact h
/-- the words of the columns, one row of them after another -/
def reE (n : Nat) (f : Nat → Nat → Bool) (t : Nat) : List AV := (List.range 128).map fun i => if i < t then .ro .leaf (wdA n (f i)) else .nils
theorem reE_len {n : Nat} {f : Nat → Nat → Bool} {t : Nat} : (reE n f t).length = 128 := by simp [reE]
theorem reE_set {n : Nat} {f : Nat → Nat → Bool} {t : Nat} : (reE n f t).set t (.ro .leaf (wdA n (f t))) = reE n f (t + 1) := by
  unfold reE
  rw [rng_set]
  refine rng_congr fun k hk => ?_
  by_cases e : k = t
  · subst e; rw [if_pos rfl, if_pos (by omega)]
  · rw [if_neg e]
    by_cases h2 : k < t
    · rw [if_pos h2, if_pos (by omega)]
    · rw [if_neg h2, if_neg (by omega)]
theorem reE_at {n : Nat} {f : Nat → Nat → Bool} {i : Nat} (hi : i < 128) : (reE n f 128)[i]? = some (.ro .leaf (wdA n (f i))) := by
  unfold reE
  rw [List.getElem?_map, List.getElem?_range hi]
  simp [hi]
def I41a (m : Nat → Nat) (f : Nat → Nat → Bool) (H : Heap) (k : Nat) (st : St) : Prop :=
  ∃ (t : Nat) (u5 u6 u17 u18 : AV) (E : List AV) (J : Heap), st = ⟨[.ro vS (veL m f 128), .nils, .int 0, .int (m 0 : Nat), .own H.length 0 [] 0 128 .leaf, u5, u6, .un, .un, .un, .un, .un, .un, .bool false, .ro vS (veL m f 128), .int 128, .int (t : Int), u17, u18, .un, .un, .un, .un, .un, .un],
    H ++ rawB E :: J⟩ ∧ k = 128 - t ∧ t ≤ 128 ∧ (∀ i, i < t → m i = m 0) ∧ E.length = 128 ∧ (0 < m 0 → E = reE (m 0) f t)

/-- the words of the rows -/
def XY (f : Nat → Nat → Bool) (h j : Nat) : BitVec 64 := wd (fun b => f (64 * h + b) j) 0
def owE (f : Nat → Nat → Bool) (n h c : Nat) : List AV := (List.range n).map fun j =>
  .agg [.u64 (if h = 0 then (if j < c then XY f 0 j else 0) else XY f 0 j), .u64 (if h = 0 then 0 else if h = 1 then (if j < c then XY f 1 j else 0) else XY f 1 j)]
theorem owE_len {f : Nat → Nat → Bool} {n h c : Nat} : (owE f n h c).length = n := by simp [owE]
theorem owE_0 {f : Nat → Nat → Bool} {n : Nat} : List.replicate n (AV.agg [.u64 0, .u64 0]) = owE f n 0 0 := by
  unfold owE
  apply List.ext_getElem?
  intro j
  by_cases hj : j < n
  · rw [List.getElem?_replicate, if_pos hj, List.getElem?_map, List.getElem?_range hj]
    simp
  · rw [List.getElem?_eq_none (by simp; omega), List.getElem?_eq_none (by simp; omega)]
theorem owE_congr {f : Nat → Nat → Bool} {n h c c' : Nat} (hc : ∀ j, j < n → (j < c ↔ j < c')) : owE f n h c = owE f n h c' := by
  unfold owE
  refine rng_congr fun j hj => ?_
  simp only [hc j hj]
theorem owE_next {f : Nat → Nat → Bool} {n h c : Nat} (hh : h < 2) (hc : n ≤ c) : owE f n h c = owE f n (h + 1) 0 := by
  unfold owE
  refine rng_congr fun j hj => ?_
  have : j < c := by omega
  rcases (show h = 0 ∨ h = 1 by omega) with rfl | rfl <;> simp [this]
theorem owE_2 {f : Nat → Nat → Bool} {n c : Nat} : owE f n 2 c = rwA (XY f 0) (XY f 1) n := by
  unfold owE rwA rowV
  refine rng_congr fun j hj => ?_
  simp
def owV (f : Nat → Nat → Bool) (h j : Nat) : AV := .agg [.u64 (if h = 0 then 0 else XY f 0 j), .u64 0]
theorem owE_at {f : Nat → Nat → Bool} {n h j : Nat} (hh : h < 2) (hj : j < n) : (owE f n h j)[j]? = some (.agg [.u64 (if h = 0 then 0 else XY f 0 j), .u64 0]) := by
  unfold owE
  rw [List.getElem?_map, List.getElem?_range hj]
  rcases (show h = 0 ∨ h = 1 by omega) with rfl | rfl <;> simp
theorem owE_set {f : Nat → Nat → Bool} {n h j : Nat} (hh : h < 2) (hj : j < n) :
    (owE f n h j).set j (.agg ([AV.u64 (if h = 0 then 0 else XY f 0 j), .u64 0].set h (.u64 (XY f h j)))) = owE f n h (j + 1) := by
  unfold owE
  rw [rng_set]
  refine rng_congr fun k hk => ?_
  by_cases e : k = j
  · subst e
    rw [if_pos rfl]
    have : k < k + 1 := by omega
    rcases (show h = 0 ∨ h = 1 by omega) with rfl | rfl <;> simp [this]
  · rw [if_neg e]
    have : (k < j) = (k < j + 1) := by simp only [eq_iff_iff]; omega
    simp only [this]
theorem two_at {a b : AV} {h : Nat} (hh : h < 2) : ∃ c, [a, b][h]? = some c := by
  rcases (show h = 0 ∨ h = 1 by omega) with rfl | rfl
  · exact ⟨_, rfl⟩
  · exact ⟨_, rfl⟩
/-- the words that are turned -/
def wrL (f : Nat → Nat → Bool) (h q i : Nat) : List AV := (List.range 64).map fun k => .u64 (if k < i then wd (f (64 * h + k)) q else 0)
theorem wrL_at {f : Nat → Nat → Bool} {h q i : Nat} (hi : i < 64) : (wrL f h q i)[i]? = some (.u64 0) := by
  unfold wrL
  rw [List.getElem?_map, List.getElem?_range hi]
  simp
theorem wrL_set {f : Nat → Nat → Bool} {h q i : Nat} : (wrL f h q i).set i (.u64 (wd (f (64 * h + i)) q)) = wrL f h q (i + 1) := by
  unfold wrL
  rw [rng_set]
  refine rng_congr fun k hk => ?_
  by_cases e : k = i
  · subst e; rw [if_pos rfl, if_pos (by omega)]
  · rw [if_neg e]
    by_cases h2 : k < i
    · rw [if_pos h2, if_pos (by omega)]
    · rw [if_neg h2, if_neg (by omega)]
theorem wrL_sq {f : Nat → Nat → Bool} {h q : Nat} : wrL f h q 64 = sqA fun i b => f (64 * h + i) (64 * q + b) := by
  unfold wrL sqA
  refine rng_congr fun i hi => ?_
  rw [if_pos hi]
  exact congrArg _ (wd_of fun b hb => by rw [wd_bit hb, Nat.mul_zero, Nat.zero_add])
theorem XY_sq {f : Nat → Nat → Bool} {h q j : Nat} : wd (fun b => f (64 * h + b) (64 * q + j)) 0 = XY f h (64 * q + j) := rfl
def oB (n : Nat) (l : List AV) : Option Blk := some ⟨56, 0, true, .arr n (.arr 2 .leaf), .agg l⟩
def I41b (A : AV) (f : Nat → Nat → Bool) (n : Nat) (H L : Heap) (M : Nat) (k : Nat) (st : St) : Prop :=
  ∃ (h : Nat) (u5 u6 u8 u9 u10 u11 u12 u18 u20 u21 u22 u23 u24 : AV) (J : Heap), st = ⟨[A, .nils, .int 0, .int (n : Int), .own H.length 0 [] 0 128 .leaf, u5, u6, .own (H.length + M) 0 [] 0 n (.arr 2 .leaf), u8, u9, u10, u11, u12, .bool false, A, .int 128, .int 128, .bool false, u18, .int (h : Int), u20, u21, u22, u23, u24],
    H ++ (L ++ oB n (owE f n h 0) :: J)⟩ ∧ k = 2 - h ∧ h ≤ 2
def I41c (A : AV) (f : Nat → Nat → Bool) (n : Nat) (H L : Heap) (M : Nat) (h : Nat) (u5 u6 u18 : AV) (k : Nat) (st : St) : Prop :=
  ∃ (q : Nat) (u10 u11 u12 u21 u22 u23 u24 : AV) (J : Heap), st = ⟨[A, .nils, .int 0, .int (n : Int), .own H.length 0 [] 0 128 .leaf, u5, u6, .own (H.length + M) 0 [] 0 n (.arr 2 .leaf), .int (h : Int), .int ((64 * q : Nat) : Int), u10, u11, u12, .bool false, A, .int 128, .int 128, .bool false, u18, .int (h : Int), .bool true, u21, u22, u23, u24],
    H ++ (L ++ oB n (owE f n h (64 * q)) :: J)⟩ ∧ k = nw n - q ∧ q ≤ nw n
def I41d (A : AV) (f : Nat → Nat → Bool) (n : Nat) (H L : Heap) (M : Nat) (h q : Nat) (u5 u6 u12 u18 u24 : AV) (J : Heap) (k : Nat) (st : St) : Prop :=
  ∃ (i : Nat) (u11 u23 : AV), st = ⟨[A, .nils, .int 0, .int (n : Int), .own H.length 0 [] 0 128 .leaf, u5, u6, .own (H.length + M) 0 [] 0 n (.arr 2 .leaf), .int (h : Int), .int ((64 * q : Nat) : Int), .ptr (H.length + (M + (J.length + 1))) 0 [0] (.arr 64 .leaf), u11, u12, .bool false, A, .int 128, .int 128, .bool false, u18, .int (h : Int), .bool true, .bool true, .int (i : Int), u23, u24],
    H ++ (L ++ oB n (owE f n h (64 * q)) :: (J ++ [wbx (wrL f h q i)]))⟩ ∧ k = 64 - i ∧ i ≤ 64
def I41e (A : AV) (f : Nat → Nat → Bool) (n : Nat) (H L : Heap) (M : Nat) (h q : Nat) (u5 u6 u11 u18 : AV) (J : Heap) (w : Option Blk) (k : Nat) (st : St) : Prop :=
  ∃ (j : Nat) (u24 : AV), st = ⟨[A, .nils, .int 0, .int (n : Int), .own H.length 0 [] 0 128 .leaf, u5, u6, .own (H.length + M) 0 [] 0 n (.arr 2 .leaf), .int (h : Int), .int ((64 * q : Nat) : Int), .ptr (H.length + (M + (J.length + 1))) 0 [0] (.arr 64 .leaf), u11, .int (j : Int), .bool false, A, .int 128, .int 128, .bool false, u18, .int (h : Int), .bool true, .bool true, .int 64, .bool false, u24],
    H ++ (L ++ oB n (owE f n h (64 * q + j)) :: (J ++ [w]))⟩ ∧ k = 64 - j ∧ j ≤ 64 ∧ 64 * q + j ≤ n
theorem mapO_rw {kp : Nat → Bool} {N : Nat} {h : Heap} {d : Nat} {x y : Nat → BitVec 64} {t : Nat} : mapO (demK kp N h (d + 2)) (rwA x y t) = some (rwA x y t) := by
  refine mapO_ofT fun x hx => ?_
  obtain ⟨j, _, rfl⟩ := List.mem_map.1 hx
  rfl

theorem f56 {K : AV → Heap → Prop} {H : Heap} {m : Nat → Nat} {f : Nat → Nat → Bool} (hm : ∀ i, m i ≤ 65536)
    (hbad : (∃ i, i < 128 ∧ m i ≠ m 0) → K (.tup [.nils, .int 11]) H)
    (hgood : (∀ i, i < 128 → m i = m 0) → K (.tup [.ro (.arr 2 .leaf) (rwA (fun j => wd (fun b => f (64 * 0 + b) j) 0) (fun j => wd (fun b => f (64 * 1 + b) j) 0) (m 0)), .int 0]) H) : wpF P [] 56 [.ro vS (veL m f 128)] H K := by
  refine wpF_go c56 rfl 5 ?_
  intro ha hb
  simp only [s56]
  have hl := veL_len (m := m) (f := f) (t := 128)
  have g0 := veL_get (m := m) (f := f) (t := 128) (i := 0) (by omega)
  (refine gw2 @hl @g0 ?_; try exact True.intro)
  refine ⟨rfl, f46 ?_⟩
  (refine gw1 @hl ?_; try exact True.intro)
  refine wp_inv (I41a m f H) 128 ⟨0, _, _, _, _, List.replicate 128 .nils, [], rfl, rfl, by omega, fun i hi => absurd hi (Nat.not_lt_zero i), rfl, fun _ => rfl⟩ ?_
  rintro k st ⟨t, u5, u6, u17, u18, E, J, rfl, rfl, ht, hr, hE, hEr⟩
  by_cases htl : t < 128
  · have h4 : ((t : Int) < 128) = True := by simp only [eq_iff_iff, iff_true]; omega
    have gt := veL_get (m := m) (f := f) (t := 128) (i := t) htl
    have hmt := hm t
    have hEt := lget_at (ps := E) (i := t) (by omega)
    unfold rawB
    by_cases hq : m t = m 0
    · have hq' : (((m t : Nat) : Int) = ((m 0 : Nat) : Int)) = True := by rw [hq]; simp
      have hr' : ∀ i, i < t + 1 → m i = m 0 := fun i hi => by
        by_cases e : i = t
        · rw [e]; exact hq
        · exact hr i (by omega)
      unfold vec at gt
      (refine gw3 @h4 @hl @gt ?_; try exact True.intro)
      refine ⟨rfl, f46 ?_⟩
      (refine gw1 @hq' ?_; try exact True.intro)
      refine f78 (by omega) ?_ (fun h0 => ?_)
      · (refine gw2 @hE @hEt ?_; try exact True.intro)
        (repeat (refine And.intro (by omega) ?_))
        exact ⟨128 - (t + 1), by omega, t + 1, _, _, _, _, _, _, rfl, rfl, by omega, hr', by simp [hE], fun h0 => by rw [hEr h0, hq]; exact reE_set⟩
      · (refine gw2 @hE @hEt ?_; try exact True.intro)
        (repeat (refine And.intro (by omega) ?_))
        exact ⟨128 - (t + 1), by omega, t + 1, _, _, _, _, _, _, rfl, rfl, by omega, hr', by simp [hE], fun h0 => by omega⟩
    · have hq' : (((m t : Nat) : Int) = ((m 0 : Nat) : Int)) = False := by simp only [eq_iff_iff, iff_false]; omega
      unfold vec at gt
      (refine gw3 @h4 @hl @gt ?_; try exact True.intro)
      refine ⟨rfl, f46 ?_⟩
      (refine gw1 @hq' ?_; try exact True.intro)
      exact hbad ⟨t, htl, hq⟩
  · have ht' : t = 128 := by omega
    subst ht'
    have h4 : ((128 : Int) < 128) = False := by simp
    have hres := hgood hr
    rw [show rwA (fun j => wd (fun b => f (64 * 0 + b) j) 0) (fun j => wd (fun b => f (64 * 1 + b) j) 0) (m 0) = rwA (XY f 0) (XY f 1) (m 0) from rfl] at hres
    have hn := hm 0
    clear hgood hbad hr hm g0 hl
    generalize m 0 = n at *
    generalize hA : AV.ro vS (veL m f 128) = A at *
    have gr : ∀ X : List (Option Blk), Heap.get (rawB E :: J ++ X) 0 = rawB E := fun X => rfl
    have hM : (rawB E :: J).length = J.length + 1 := rfl
    have hw : nw n ≤ 1024 := by unfold nw; omega
    (refine gw1 @h4 ?_; try exact True.intro)
    (repeat (refine And.intro (by omega) ?_))
    refine wp_inv (I41b A f n H (rawB E :: J) (J.length + 1)) 2 ⟨0, _, _, _, _, _, _, _, _, _, _, _, _, _, [], by rw [← owE_0]; rfl, rfl, by omega⟩ ?_
    generalize (rawB E :: J) = L at gr hM ⊢
    generalize J.length + 1 = M at hM ⊢
    have gM : ∀ (X : List (Option Blk)), Heap.get (L ++ X) M = Heap.get X 0 := fun X => by rw [← hM, hget_0]
    have gMk : ∀ (X : List (Option Blk)) k, Heap.get (L ++ X) (M + k) = Heap.get X k := fun X k => by rw [← hM, hget_k]
    have sM : ∀ (X : List (Option Blk)) b, List.set (L ++ X) M b = L ++ List.set X 0 b := fun X b => by rw [← hM, hset_0]
    have sMk : ∀ (X : List (Option Blk)) k b, List.set (L ++ X) (M + k) b = L ++ List.set X k b := fun X k b => by rw [← hM, hset_k]
    clear hA ha hb u5 u6 u17 u18
    rintro k st ⟨h', u5, u6, u8, u9, u10, u11, u12, u18, u20, u21, u22, u23, u24, J, rfl, rfl, hh⟩
    by_cases hhl : h' < 2
    · have h3 : ((h' : Int) < 2) = True := by simp only [eq_iff_iff, iff_true]; omega
      (refine gw1 @h3 ?_; try exact True.intro)
      refine wp_inv (I41c A f n H L M h' u5 u6 u18) (nw n) ⟨0, _, _, _, _, _, _, _, J, rfl, rfl, by omega⟩ ?_
      rintro k st ⟨q, u10, u11, u12, u21, u22, u23, u24, J, rfl, rfl, hq⟩
      by_cases hql : q < nw n
      · have hqn : 64 * q < n := by unfold nw at hql; omega
        have h5 : (((64 * q : Nat) : Int) < (n : Int)) = True := by simp only [eq_iff_iff, iff_true]; omega
        have hEr := hEr (by omega)
        (refine gw2 @h5 @hM ?_; try exact True.intro)
        refine wp_inv (I41d A f n H L M h' q u5 u6 u12 u18 u24 J) 64 ⟨0, _, _, rfl, rfl, by omega⟩ ?_
        rintro k st ⟨i, u11, u23, rfl, rfl, hi⟩
        by_cases hil : i < 64
        · have h6 : ((i : Int) < 64) = True := by simp only [eq_iff_iff, iff_true]; omega
          have e8 : 64 * (h' : Int) = ((64 * h' : Nat) : Int) := by omega
          have e9 : ((64 * h' : Nat) : Int) + (i : Int) = ((64 * h' + i : Nat) : Int) := by omega
          have e10 : Int.tdiv ((64 * q : Nat) : Int) 64 = (q : Int) := by rw [tdiv64]; simp
          have gi := reE_at (n := n) (f := f) (i := 64 * h' + i) (by omega)
          rw [← hEr] at gi
          have gw : (wdA n (f (64 * h' + i))).getD q .un = .u64 (wd (f (64 * h' + i)) q) := ld_rng hql
          have hw1 := wrL_at (f := f) (h := h') (q := q) hil
          have hw2 := wrL_set (f := f) (h := h') (q := q) (i := i)
          have hwl := wdA_len (n := n) (f := f (64 * h' + i))
          have h9 : (((64 * h' + i : Nat) : Int) < 128) = True := by simp only [eq_iff_iff, iff_true]; omega
          unfold wbx
          unfold rawB at gr
          (refine gw14 @h6 @e8 @e9 @e10 @gr @gi @gw @hw1 @hw2 @gM @gMk @sMk @hwl @h9 ?_; try exact True.intro)
          (repeat (refine And.intro (by omega) ?_))
          exact ⟨64 - (i + 1), by omega, i + 1, _, _, rfl, rfl, by omega⟩
        · have hie : i = 64 := by omega
          subst hie
          have h6 : ((64 : Int) < 64) = False := by simp
          (refine gw1 @h6 ?_; try exact True.intro)
          refine f79' (H0 := H ++ (L ++ oB n (owE f n h' (64 * q)) :: J)) (L := []) (g := fun i b => f (64 * h' + i) (64 * q + b)) (l := wrL f h' q 64) (by simp [hM, Nat.add_assoc]) wrL_sq (by simp [wbx]) ?_
          (refine gw0 ?_; try exact True.intro)
          refine wp_inv (I41e A f n H L M h' q u5 u6 u11 u18 J (sqb fun i b => f (64 * h' + b) (64 * q + i))) 64 ⟨0, _, rfl, rfl, by omega, by omega⟩ ?_
          rintro k st ⟨j, u24, rfl, rfl, hj, hjn⟩
          have e5 : ((64 * q : Nat) : Int) + (j : Int) = ((64 * q + j : Nat) : Int) := by omega
          by_cases hjl : j < 64 ∧ 64 * q + j < n
          · have h6 : ((j : Int) < 64) = True := by simp only [eq_iff_iff, iff_true]; omega
            have h7 : (((64 * q + j : Nat) : Int) < (n : Int)) = True := by simp only [eq_iff_iff, iff_true]; omega
            have hw1 := sqA_at (g := fun i b => f (64 * h' + b) (64 * q + i)) hjl.1
            have ho1 := owE_at (f := f) hhl hjl.2
            have ho2 := owE_set (f := f) hhl hjl.2
            obtain ⟨c, hc⟩ := two_at (a := AV.u64 (if h' = 0 then 0 else XY f 0 (64 * q + j))) (b := .u64 0) hhl
            unfold sqb oB
            rw [XY_sq] at hw1
            (refine gw10 @h6 @h7 @e5 @gM @gMk @sM @hw1 @ho1 @ho2 @hc ?_; try exact True.intro)
            (repeat (refine And.intro (by omega) ?_))
            exact ⟨64 - (j + 1), by omega, j + 1, _, rfl, rfl, by omega, by omega⟩
          · have e11 : ((64 * q : Nat) : Int) + 64 = ((64 * (q + 1) : Nat) : Int) := by omega
            have hoc := owE_congr (f := f) (n := n) (h := h') (c := 64 * q + j) (c' := 64 * (q + 1)) (by intro k hk; omega)
            rw [hoc]
            rcases Nat.lt_or_ge j 64 with hj6 | hj6
            · have h6 : ((j : Int) < 64) = True := by simp only [eq_iff_iff, iff_true]; omega
              have h7 : (((64 * q + j : Nat) : Int) < (n : Int)) = False := by simp only [eq_iff_iff, iff_false]; omega
              (refine gw4 @h6 @h7 @e5 @e11 ?_; try exact True.intro)
              (repeat (refine And.intro (by omega) ?_))
              exact ⟨nw n - (q + 1), by omega, q + 1, _, _, _, _, _, _, _, _, rfl, rfl, by omega⟩
            · have h6 : ((j : Int) < 64) = False := by simp only [eq_iff_iff, iff_false]; omega
              (refine gw2 @h6 @e11 ?_; try exact True.intro)
              (repeat (refine And.intro (by omega) ?_))
              exact ⟨nw n - (q + 1), by omega, q + 1, _, _, _, _, _, _, _, _, rfl, rfl, by omega⟩
      · have h5 : (((64 * q : Nat) : Int) < (n : Int)) = False := by unfold nw at hql; simp only [eq_iff_iff, iff_false]; omega
        have hqe : q = nw n := by omega
        (refine gw1 @h5 ?_; try exact True.intro)
        (repeat (refine And.intro (by omega) ?_))
        refine ⟨2 - (h' + 1), by omega, h' + 1, _, _, _, _, _, _, _, _, _, _, _, _, _, J, by rw [← owE_next (c := 64 * q) hhl (by rw [hqe]; unfold nw; omega)]; rfl, rfl, by omega⟩
    · have hhe : h' = 2 := by omega
      subst hhe
      have h3 : ((2 : Int) < 2) = False := by simp
      have hlo := owE_2 (f := f) (n := n) (c := 0)
      have hll : List.take n (rwA (XY f 0) (XY f 1) n) = rwA (XY f 0) (XY f 1) n := List.take_of_length_le (by rw [rwA_len]; exact Nat.le_refl _)
      have hmo : mapO (demK (fun b => decide (b < H.length)) H.length (H ++ (L ++ oB n (rwA (XY f 0) (XY f 1) n) :: J)) 3) (rwA (XY f 0) (XY f 1) n) = some (rwA (XY f 0) (XY f 1) n) := mapO_rw
      rw [hlo]
      unfold oB at *
      (refine gw4 @h3 @gM @hll @hmo ?_; try exact True.intro)
      exact hres
/-- a list of truths as Go has it: none, or some -/
def tel (n : Nat) (f : Nat → Bool) : AV := bel n f
def teL (m : Nat → Nat) (f : Nat → Nat → Bool) (t : Nat) : List AV := (List.range t).map fun i => bel (m i) (f i)
theorem teL_len {m : Nat → Nat} {f : Nat → Nat → Bool} {t : Nat} : (teL m f t).length = t := by simp [teL]
theorem teL_get {m : Nat → Nat} {f : Nat → Nat → Bool} {t i : Nat} (h : i < t) : (teL m f t).getD i .un = bel (m i) (f i) := ld_rng h
/-- bits of a list of truths -/
theorem bfn_of {n : Nat} {f : Nat → Bool} : bfn ((List.range n).map f) = cut n f := by
  funext i
  unfold bfn cut
  by_cases h : i < n
  · rw [List.getD_eq_getElem?_getD, List.getElem?_map, List.getElem?_range h, decide_eq_true h]; simp
  · rw [List.getD_eq_getElem?_getD, List.getElem?_eq_none (by simp; omega), decide_eq_false h]; simp
theorem f16n {K : AV → Heap → Prop} {H : Heap} {f : Nat → Bool} (h : K (.tup [vec 0 f, .int 0]) H) : wpF P [] 16 [.nils] H K := by
  refine wpF_go c16 rfl 4 ?_
  intro ha hb
  simp only [s16]
  (refine gw0 ?_; try exact True.intro)
  refine f45 (n := 0) (by omega) ?_
  intro B
  have e2 : H.length + 1 + 1 = H.length + 2 := rfl
  (refine gw1 @e2 ?_; try exact True.intro)
  unfold wblk
  refine wp_unroll 1 ?_
  have hz : nw 0 = 0 := rfl
  have hw : wdA 0 (fun _ => false) = [] := rfl
  (refine gw2 @hz @hw ?_; try exact True.intro)
  exact h
theorem f16b {K : AV → Heap → Prop} {H : Heap} {n : Nat} {f : Nat → Bool} (hn : n ≤ 1000000) (h : K (.tup [vec n (cut n f), .int 0]) H) : wpF P [] 16 [bel n f] H K := by
  unfold bel
  by_cases h0 : n = 0
  · subst h0
    rw [if_pos rfl]
    exact f16n (by simpa [cut_zero] using h)
  · rw [if_neg h0, show ((List.range n).map fun i => AV.bool (f i)) = ((List.range n).map f).map .bool by rw [List.map_map]; rfl]
    have hl : ((List.range n).map f).length = n := by simp
    refine f16 (by omega) ?_
    rw [hl, bfn_of]
    exact h
def Ix50 (m : Nat → Nat) (f : Nat → Nat → Bool) (q : Nat) (H : Heap) (k : Nat) (st : St) : Prop :=
  ∃ (t : Nat) (out u4 u5 : AV) (L : Heap), st = ⟨[.ro .leaf (teL m f q), .nils, out, .int (t : Int), u4, u5], H ++ L⟩ ∧ k = q - t ∧ t ≤ q ∧
    ((t = 0 ∧ out = .nils ∧ L = []) ∨ (0 < t ∧ out = .own (H.length + 2) t [] 0 t vS ∧ ∃ g1 g2 J l, L = g1 :: g2 :: vB t l :: J ∧ l = veL m (fun i => cut (m i) (f i)) t))
end Go.Proofs.Ytjilenmngokhpaa

end

section
/-
  Lists of lists that a function makes.
-/
open Go Go.V
namespace Go.Proofs.Ytjilenmngokhpaa
set_option maxRecDepth 100000
set_option linter.unusedSimpArgs false
set_option linter.unusedVariables false
/-- a list of truths that was made: none yet, or in a block between two places -/
def bl (N : Nat) (L : Heap) (lo hi : Nat) (x : AV) (n : Nat) (f : Nat → Bool) : Prop :=
  (n = 0 ∧ x = .nils) ∨ (0 < n ∧ ∃ b, lo ≤ b ∧ b < hi ∧ x = .own (N + b) n [] 0 n .leaf ∧ Heap.get L b = boB n ((List.range n).map fun j => .bool (f j)))
theorem bl.mono {N : Nat} {L : Heap} {lo hi hi' : Nat} {x : AV} {n : Nat} {f : Nat → Bool} (h : bl N L lo hi x n f) (hh : hi ≤ hi') : bl N L 0 hi' x n f := by
  rcases h with h | ⟨h0, b, h1, h2, h3, h4⟩
  · exact .inl h
  · exact .inr ⟨h0, b, by omega, by omega, h3, h4⟩
theorem bl.mono2 {N : Nat} {L : Heap} {lo hi hi' : Nat} {x : AV} {n : Nat} {f : Nat → Bool} (h : bl N L lo hi x n f) (hh : hi ≤ hi') : bl N L lo hi' x n f := by
  rcases h with h | ⟨h0, b, h1, h2, h3, h4⟩
  · exact .inl h
  · exact .inr ⟨h0, b, by omega, by omega, h3, h4⟩
theorem bl.push {N : Nat} {L : Heap} {lo hi : Nat} {x : AV} {n : Nat} {f : Nat → Bool} (h : bl N L lo hi x n f) (X : List (Option Blk)) : bl N (L ++ X) lo hi x n f := by
  rcases h with h | ⟨h0, b, h1, h2, h3, h4⟩
  · exact .inl h
  · exact .inr ⟨h0, b, h1, h2, h3, Heap.get_some_append h4⟩
theorem bl.set {N : Nat} {L : Heap} {lo hi : Nat} {x : AV} {n : Nat} {f : Nat → Bool} (h : bl N L lo hi x n f) {b' : Nat} {y : Option Blk} (hb : b' < L.length) (hne : hi ≤ b' ∨ (Heap.get L b').map (·.e) ≠ some 4) : bl N (List.set L b' y) lo hi x n f := by
  rcases h with h | ⟨h0, b, h1, h2, h3, h4⟩
  · exact .inl h
  · refine .inr ⟨h0, b, h1, h2, h3, ?_⟩
    rw [Heap.get_set _ _ _ _ hb, if_neg, h4]
    intro e
    subst e
    rcases hne with h | h
    · omega
    · rw [h4] at h; exact h rfl
/-- the list of the lists that were made -/
def LL (N : Nat) (L : Heap) (B : Nat) (l : AV) (i : Nat) (es : List AV) (m : Nat → Nat) (g : Nat → Nat → Bool) : Prop :=
  es.length = i ∧ B ≤ L.length ∧ ((i = 0 ∧ l = .nils) ∨ (0 < i ∧ ∃ a, a < B ∧ l = .own (N + a) i [] 0 i .leaf ∧ Heap.get L a = lsB i es)) ∧ ∀ t, t < i → bl N L 0 B (es.getD t .un) (m t) (g t)
theorem LL.push {N : Nat} {L : Heap} {B : Nat} {l : AV} {i : Nat} {es : List AV} {m : Nat → Nat} {g : Nat → Nat → Bool} (h : LL N L B l i es m g) (X : List (Option Blk)) : LL N (L ++ X) B l i es m g := by
  obtain ⟨h1, h2, h3, h4⟩ := h
  refine ⟨h1, by simp; omega, ?_, fun t ht => (h4 t ht).push X⟩
  rcases h3 with h | ⟨h0, a, g1, g2, g3⟩
  · exact .inl h
  · exact .inr ⟨h0, a, g1, g2, Heap.get_some_append g3⟩
theorem LL.set {N : Nat} {L : Heap} {B : Nat} {l : AV} {i : Nat} {es : List AV} {m : Nat → Nat} {g : Nat → Nat → Bool} (h : LL N L B l i es m g) {b : Nat} {y : Option Blk} (hb : B ≤ b) (hb2 : b < L.length) : LL N (List.set L b y) B l i es m g := by
  obtain ⟨h1, h2, h3, h4⟩ := h
  refine ⟨h1, by simp; omega, ?_, fun t ht => (h4 t ht).set hb2 (.inl hb)⟩
  rcases h3 with h | ⟨h0, a, g1, g2, g3⟩
  · exact .inl h
  · exact .inr ⟨h0, a, g1, g2, by rw [Heap.get_set _ _ _ _ hb2, if_neg (by omega), g3]⟩
theorem boL_succ {n : Nat} {f : Nat → Bool} : ((List.range n).map fun j => AV.bool (f j)) ++ [.bool (f n)] = (List.range (n + 1)).map fun j => .bool (f j) := by simp [List.range_succ]
/-- one more truth: the list's first -/
theorem bl_new {N : Nat} {L : Heap} {lo : Nat} {f : Nat → Bool} {v : Bool} (hv : f 0 = v) (hlo : lo ≤ L.length) (x0 : Option Blk) :
    bl N (L ++ [x0, some ⟨4, 1, true, .arr 1 .leaf, .agg [.bool v]⟩]) lo (L.length + 2) (.own (N + (L.length + 1)) 1 [] 0 1 .leaf) 1 f := by
  refine .inr ⟨by omega, L.length + 1, by omega, by omega, rfl, ?_⟩
  rw [hget_k, ← hv]
  rfl
theorem bl_app {N : Nat} {L : Heap} {lo b j : Nat} {f : Nat → Bool} {v : Bool} (hv : f j = v) (h1 : lo ≤ b) (h2 : b < L.length) (X : List (Option Blk)) :
    bl N (List.set L b (some ⟨4, j + 1, true, .arr (j + 1) .leaf, .agg (((List.range j).map fun j => .bool (f j)) ++ [.bool v])⟩) ++ X) lo (List.set L b (some ⟨4, j + 1, true, .arr (j + 1) .leaf, .agg (((List.range j).map fun j => .bool (f j)) ++ [.bool v])⟩) ++ X).length (.own (N + b) (j + 1) [] 0 (j + 1) .leaf) (j + 1) f := by
  refine .inr ⟨by omega, b, h1, by simp; omega, rfl, ?_⟩
  rw [Heap.get_append _ _ _ (by rw [List.length_set]; exact h2), Heap.get_set _ _ _ _ h2, if_pos rfl, ← hv, boL_succ]
  rfl
theorem lsE_at {es : List AV} {c : AV} {t : Nat} (h : t < es.length) : (es ++ [c]).getD t .un = es.getD t .un := by
  rw [List.getD_eq_getElem?_getD, List.getElem?_append_left h, List.getD_eq_getElem?_getD]
theorem lsE_end {es : List AV} {c : AV} : (es ++ [c]).getD es.length .un = c := by simp
/-- one list more -/
theorem LL.snoc {N : Nat} {L L' : Heap} {B B' : Nat} {l l' c : AV} {i : Nat} {es : List AV} {m : Nat → Nat} {g : Nat → Nat → Bool} (h : LL N L B l i es m g) (hc : bl N L' 0 B' c (m i) (g i)) (hB : B ≤ B') (hB' : B' ≤ L'.length)
    (hl : ∃ a, a < B' ∧ l' = .own (N + a) (i + 1) [] 0 (i + 1) .leaf ∧ Heap.get L' a = lsB (i + 1) (es ++ [c])) (hk : ∀ t, t < i → bl N L' 0 B (es.getD t .un) (m t) (g t)) : LL N L' B' l' (i + 1) (es ++ [c]) m g := by
  obtain ⟨h1, h2, h3, h4⟩ := h
  refine ⟨by simp [h1], hB', .inr ⟨by omega, hl⟩, fun t ht => ?_⟩
  by_cases e : t < i
  · rw [lsE_at (by omega)]
    exact (hk t e).mono hB
  · have : t = es.length := by omega
    subst this
    rw [lsE_end, h1]
    exact hc

theorem bl_cell {N : Nat} {L : Heap} {lo hi : Nat} {x : AV} {n : Nat} {f : Nat → Bool} (h : bl N L lo hi x n f) : x.isCell = true := by
  rcases h with ⟨_, rfl⟩ | ⟨_, b, _, _, rfl, _⟩ <;> rfl
theorem cell_m {x : AV} : x.isCell = true → (match x with | AV.agg ps => false | AV.tup ps => false | AV.un => false | x => true) = true := fun h => h
theorem LL.fin_nil {N : Nat} {L : Heap} {B : Nat} {l c : AV} {es : List AV} {m : Nat → Nat} {g : Nat → Nat → Bool} (h : LL N L B l 0 es m g) (hc : bl N L B L.length c (m 0) (g 0)) (x0 : Option Blk) :
    LL N (L ++ [x0, some ⟨35, 1, true, .arr 1 .leaf, .agg [c]⟩]) (L.length + 2) (.own (N + (L.length + 1)) 1 [] 0 1 .leaf) 1 (es ++ [c]) m g := by
  have hes : es = [] := List.eq_nil_of_length_eq_zero h.1
  refine h.snoc ((hc.push _).mono (by omega)) (by have := h.2.1; omega) (by simp) ⟨L.length + 1, by omega, rfl, ?_⟩ fun t ht => absurd ht (Nat.not_lt_zero t)
  rw [hget_k, hes]
  rfl
theorem LL.fin_own {N : Nat} {L : Heap} {B i a : Nat} {l c : AV} {es : List AV} {m : Nat → Nat} {g : Nat → Nat → Bool} (h : LL N L B l i es m g) (ha : a < B) (hg : Heap.get L a = lsB i es) (hc : bl N L B L.length c (m i) (g i)) (X : List (Option Blk)) :
    LL N (List.set L a (lsB (i + 1) (es ++ [c])) ++ X) (L.length + X.length) (.own (N + a) (i + 1) [] 0 (i + 1) .leaf) (i + 1) (es ++ [c]) m g := by
  have hB := h.2.1
  have hne : (Heap.get L a).map (·.e) ≠ some 4 := by rw [hg]; simp [lsB]
  refine h.snoc (((hc.set (by omega) (.inr hne)).push _).mono (by omega)) (by omega) (by simp) ⟨a, by omega, rfl, ?_⟩ fun t ht => ((h.2.2.2 t ht).set (by omega) (.inr hne)).push _
  rw [Heap.get_append _ _ _ (by rw [List.length_set]; omega), Heap.get_set _ _ _ _ (by omega), if_pos rfl]
theorem bl.dem {L H : Heap} {lo hi : Nat} {x : AV} {n : Nat} {f : Nat → Bool} (h : bl H.length L lo hi x n f) {M d : Nat} : demK (fun b => decide (b < H.length)) M (H ++ L) (d + 2) x = some (bel n f) := by
  unfold bel
  rcases h with ⟨rfl, rfl⟩ | ⟨h0, b, h1, h2, rfl, h4⟩
  · rfl
  · rw [if_neg (by omega), demK_own, if_neg (by simp; omega)]
    have hr : rd (H ++ L) (.own (H.length + b) n [] 0 n .leaf) = some ((List.range n).map fun j => .bool (f j)) := by
      unfold rd
      simp only [hget_k, h4, boB, if_true, getP, List.drop_zero]
      rw [List.take_of_length_le (by simp)]
    rw [hr]
    simp only
    rw [mapO_bool]
    rfl
theorem LL.dem {L H : Heap} {B : Nat} {l : AV} {i : Nat} {es : List AV} {m : Nat → Nat} {g : Nat → Nat → Bool} (h : LL H.length L B l i es m g) (hi : 0 < i) {M d : Nat} : demK (fun b => decide (b < H.length)) M (H ++ L) (d + 3) l = some (.ro .leaf (teL m g i)) := by
  obtain ⟨h1, h2, h3, h4⟩ := h
  rcases h3 with ⟨h, _⟩ | ⟨h0, a, g1, rfl, g3⟩
  · omega
  · rw [demK_own, if_neg (by simp; omega)]
    have hr : rd (H ++ L) (.own (H.length + a) i [] 0 i .leaf) = some es := by
      unfold rd
      simp only [hget_k, g3, lsB, if_true, getP, List.drop_zero]
      rw [List.take_of_length_le (by omega)]
    rw [hr]
    simp only
    rw [mapO_ext (ys := teL m g i) (by rw [h1, teL_len]) fun t ht => (by rw [teL_get (by omega)]; exact (h4 t (by omega)).dem)]
    rfl
end Go.Proofs.Ytjilenmngokhpaa

end

section
/-
  Layer 17 (iknp): spans, columns, rows, what joins.
-/
open Go Go.V
namespace Go.Proofs.Ytjilenmngokhpaa
/-- trefoil/trefoillaw17.rows (0:a, 1:b, 4:, 5:i, 10:, 14:, 25:) -/
def s26 : FnS := ⟨26, [0, 1, 4, 5, 10, 14, 25],
    (.seq (.reg [⟨.var 2, (.q .mv), [.c (.bool false)], none⟩])
    (.seq (.seq (.reg [⟨.new, (.q .mv), [.t 0], none⟩,
      ⟨.new, (.q .len), [.t 7], none⟩,
      ⟨.new, (.q .mv), [.t 1], none⟩,
      ⟨.new, (.q .len), [.t 9], none⟩,
      ⟨.var 4, (.q (.bin .neq)), [.t 8, .t 10], none⟩])
    (.cond (.t 4) (.seq (.reg [⟨.var 2, (.q .mv), [.c (.bool false)], none⟩])
    .ret)
    .skip))
    (.seq (.seq (.reg [⟨.var 3, (.q .mv), [.c (.int 0)], none⟩])
    (.block 0 (.loop (.seq (.seq (.reg [⟨.new, (.q .mv), [.t 3], none⟩,
      ⟨.new, (.q .mv), [.t 0], none⟩,
      ⟨.new, (.q .len), [.t 8], none⟩,
      ⟨.var 5, (.q (.bin .lss)), [.t 7, .t 9], none⟩])
    (.cond (.t 5) .skip
    (.exit 0)))
    (.seq (.block 1 (.seq (.draw [⟨.new, (.q .mv), [.t 0], none⟩,
      ⟨.new, (.q .mv), [.t 3], none⟩,
      ⟨.new, (.q (.iaS (.arr 2 .leaf))), [.t 7, .t 8], none⟩,
      ⟨.new, (.q (.ld (.arr 2 .leaf))), [.t 9], none⟩,
      ⟨.new, (.q .mv), [.t 1], none⟩,
      ⟨.new, (.q .mv), [.t 3], none⟩,
      ⟨.new, (.q (.iaS (.arr 2 .leaf))), [.t 11, .t 12], none⟩,
      ⟨.new, (.q (.ld (.arr 2 .leaf))), [.t 13], none⟩,
      ⟨.var 6, (.q (.eqA true 2 .u64)), [.t 10, .t 14], none⟩])
    (.cond (.t 6) (.seq (.reg [⟨.var 2, (.q .mv), [.c (.bool false)], none⟩])
    .ret)
    .skip)))
    (.reg [⟨.new, (.q .mv), [.t 3], none⟩,
      ⟨.new, (.q (.bin .add)), [.t 7, .c (.int 1)], none⟩,
      ⟨.var 3, (.q .mv), [.t 8], none⟩]))))))
    (.seq (.reg [⟨.var 2, (.q .mv), [.c (.bool true)], none⟩])
    .ret)))),
    [.t 2]⟩

/-- trefoil/iknp.span (0:from, 1:n, 4:, 5:, 12:) -/
def s52 : FnS := ⟨18, [0, 1, 4, 5, 12],
    (.seq (.reg [⟨.var 2, (.q .mv), [.c (.int 0)], none⟩])
    (.seq (.block 0 (.seq (.reg [⟨.new, (.q .mv), [.t 1], none⟩,
      ⟨.new, (.q (.bin .lss)), [.t 5, .c (.int 1)], none⟩,
      ⟨.new, (.q .mv), [.t 6], none⟩,
      ⟨.new, (.q .mv), [.t 1], (some (7, false))⟩,
      ⟨.new, (.q (.bin .gtr)), [.t 8, .c (.int 4096)], (some (7, false))⟩,
      ⟨.new, (.q .pick), [.t 7, .c (.bool true), .t 9], none⟩,
      ⟨.var 3, (.q .mv), [.t 10], none⟩])
    (.cond (.t 3) (.seq (.reg [⟨.var 2, (.q .mv), [.c (.int 2)], none⟩])
    .ret)
    (.seq (.reg [⟨.new, (.q .mv), [.t 0], none⟩,
      ⟨.new, (.q .mv), [.t 1], none⟩,
      ⟨.new, (.q (.cv .u64)), [.t 6], none⟩,
      ⟨.new, (.q (.bin .sub)), [.c (.u64 67108864), .t 7], none⟩,
      ⟨.new, (.q (.bin .gtr)), [.t 5, .t 8], none⟩,
      ⟨.var 4, (.q .mv), [.t 9], none⟩])
    (.cond (.t 4) (.seq (.reg [⟨.var 2, (.q .mv), [.c (.int 24)], none⟩])
    .ret)
    .skip)))))
    (.seq (.reg [⟨.var 2, (.q .mv), [.c (.int 0)], none⟩])
    .ret))),
    [.t 2]⟩

/-- trefoil/iknp.column (0:seed, 1:from, 2:n, 3:seed, 6:, 7:) -/
def s53 : FnS := ⟨15, [0, 1, 2, 3, 6, 7],
    (.seq (.reg [⟨.var 3, (.e (.box 46 (.arr 32 .leaf))), [.t 0], none⟩,
      ⟨.var 4, (.e (.alloc 37 (.st [.leaf, .leaf]) (.agg [(.int 0), .nils]))), [], none⟩,
      ⟨.var 5, (.q .mv), [.c (.int 0)], none⟩])
    (.seq (.reg [⟨.new, (.q (.ld (.arr 32 .leaf))), [.t 3], none⟩,
      ⟨.new, (.q .mv), [.t 1], none⟩,
      ⟨.new, (.q (.cv .i64)), [.t 7], none⟩,
      ⟨.new, (.q .mv), [.t 2], none⟩,
      ⟨.new, (.call 75), [.t 6, .c (.u32 0), .t 8, .t 9], none⟩,
      ⟨.new, (.q (.ext 0)), [.t 10], none⟩,
      ⟨.new, (.q (.ext 1)), [.t 10], none⟩,
      ⟨.none, (.e (.store (.st [.leaf, .leaf]))), [.t 4, .t 11], none⟩,
      ⟨.var 5, (.q .mv), [.t 12], none⟩])
    .ret)),
    [.cell 4 (.st [.leaf, .leaf]), .t 5]⟩

/-- trefoil/trefoilref17.Span (0:from, 1:n, 4:, 10:, 19:) -/
def s57 : FnS := ⟨20, [0, 1, 4, 10, 19],
    (.seq (.reg [⟨.var 2, (.q .mv), [.c (.int 0)], none⟩])
    (.seq (.seq (.reg [⟨.new, (.q .mv), [.t 1], none⟩,
      ⟨.new, (.q (.bin .lss)), [.t 5, .c (.int 1)], none⟩,
      ⟨.new, (.q .mv), [.t 6], none⟩,
      ⟨.new, (.q .mv), [.t 1], (some (7, false))⟩,
      ⟨.new, (.q (.bin .gtr)), [.t 8, .c (.int 4096)], (some (7, false))⟩,
      ⟨.var 3, (.q .pick), [.t 7, .c (.bool true), .t 9], none⟩])
    (.cond (.t 3) (.seq (.reg [⟨.var 2, (.q .mv), [.c (.int 2)], none⟩])
    .ret)
    .skip))
    (.seq (.seq (.reg [⟨.new, (.q .mv), [.t 0], none⟩,
      ⟨.new, (.q (.bin .gtr)), [.t 5, .c (.u64 67108864)], none⟩,
      ⟨.new, (.q .mv), [.t 6], none⟩,
      ⟨.new, (.q .mv), [.t 0], (some (7, false))⟩,
      ⟨.new, (.q (.cv .i64)), [.t 8], (some (7, false))⟩,
      ⟨.new, (.q .mv), [.t 1], (some (7, false))⟩,
      ⟨.new, (.q (.bin .add)), [.t 9, .t 10], (some (7, false))⟩,
      ⟨.new, (.q (.bin .gtr)), [.t 11, .c (.int 67108864)], (some (7, false))⟩,
      ⟨.var 4, (.q .pick), [.t 7, .c (.bool true), .t 12], none⟩])
    (.cond (.t 4) (.seq (.reg [⟨.var 2, (.q .mv), [.c (.int 24)], none⟩])
    .ret)
    .skip))
    (.seq (.reg [⟨.var 2, (.q .mv), [.c (.int 0)], none⟩])
    .ret)))),
    [.t 2]⟩

/-- trefoil/trefoilref17.Rows (0:cols, 2:, 3:out, 4:j, 5:l, 6:i, 12:, 18:) -/
def s60 : FnS := ⟨37, [0, 2, 3, 4, 5, 6, 12, 18],
    (.seq (.reg [⟨.var 1, (.q .mv), [.c .nils], none⟩])
    (.seq (.reg [⟨.var 2, (.q .mv), [.c .nils], none⟩])
    (.seq (.seq (.reg [⟨.var 3, (.q .mv), [.c (.int 0)], none⟩])
    (.block 0 (.loop (.seq (.seq (.reg [⟨.new, (.q .mv), [.t 3], none⟩,
      ⟨.new, (.q .mv), [.t 0], none⟩,
      ⟨.new, (.q (.iaS .leaf)), [.t 9, .c (.int 0)], none⟩,
      ⟨.new, (.q (.ld .leaf)), [.t 10], none⟩,
      ⟨.new, (.q .len), [.t 11], none⟩,
      ⟨.var 6, (.q (.bin .lss)), [.t 8, .t 12], none⟩])
    (.cond (.t 6) .skip
    (.exit 0)))
    (.seq (.block 1 (.seq (.reg [⟨.var 4, (.q .mv), [.c .nils], none⟩])
    (.seq (.seq (.reg [⟨.var 5, (.q .mv), [.c (.int 0)], none⟩])
    (.block 2 (.loop (.seq (.seq (.reg [⟨.new, (.q .mv), [.t 5], none⟩,
      ⟨.new, (.q .mv), [.t 0], none⟩,
      ⟨.new, (.q .len), [.t 9], none⟩,
      ⟨.var 7, (.q (.bin .lss)), [.t 8, .t 10], none⟩])
    (.cond (.t 7) .skip
    (.exit 2)))
    (.seq (.block 3 (.reg [⟨.new, (.q .mv), [.t 4], none⟩,
      ⟨.new, (.q .mv), [.t 0], none⟩,
      ⟨.new, (.q .mv), [.t 5], none⟩,
      ⟨.new, (.q (.iaS .leaf)), [.t 9, .t 10], none⟩,
      ⟨.new, (.q (.ld .leaf)), [.t 11], none⟩,
      ⟨.new, (.q .mv), [.t 3], none⟩,
      ⟨.new, (.q (.iaS .leaf)), [.t 12, .t 13], none⟩,
      ⟨.new, (.q (.ld .leaf)), [.t 14], none⟩,
      ⟨.new, (.e (.bsl 4 .leaf (.bool false) 1 [0])), [.t 15], none⟩,
      ⟨.new, (.e (.app 4 .leaf 1)), [.t 8, .t 16], none⟩,
      ⟨.var 4, (.q .mv), [.t 17], none⟩]))
    (.reg [⟨.new, (.q .mv), [.t 5], none⟩,
      ⟨.new, (.q (.bin .add)), [.t 8, .c (.int 1)], none⟩,
      ⟨.var 5, (.q .mv), [.t 9], none⟩]))))))
    (.reg [⟨.new, (.q .mv), [.t 2], none⟩,
      ⟨.new, (.q .mv), [.t 4], none⟩,
      ⟨.new, (.call 81), [.t 9], none⟩,
      ⟨.new, (.e (.bsl 56 (.arr 2 .leaf) (.agg [(.u64 0), (.u64 0)]) 1 [0])), [.t 10], none⟩,
      ⟨.new, (.e (.app 56 (.arr 2 .leaf) 16)), [.t 8, .t 11], none⟩,
      ⟨.var 2, (.q .mv), [.t 12], none⟩]))))
    (.reg [⟨.new, (.q .mv), [.t 3], none⟩,
      ⟨.new, (.q (.bin .add)), [.t 8, .c (.int 1)], none⟩,
      ⟨.var 3, (.q .mv), [.t 9], none⟩]))))))
    (.seq (.reg [⟨.new, (.q .mv), [.t 2], none⟩,
      ⟨.var 1, (.q .mv), [.t 8], none⟩])
    .ret)))),
    [.t 1]⟩

/-- trefoil/trefoilref16.Row (0:l, 2:, 3:r, 4:i, 12:, 18:) -/
def s81 : FnS := ⟨32, [0, 2, 3, 4, 12, 18],
    (.seq (.reg [⟨.var 1, (.e (.alloc 56 (.arr 2 .leaf) (.agg [(.u64 0), (.u64 0)]))), [], none⟩])
    (.seq (.reg [⟨.var 2, (.e (.alloc 56 (.arr 2 .leaf) (.agg [(.u64 0), (.u64 0)]))), [], none⟩])
    (.seq (.seq (.reg [⟨.var 3, (.q .mv), [.c (.int 0)], none⟩])
    (.block 0 (.loop (.seq (.seq (.reg [⟨.new, (.q .mv), [.t 3], none⟩,
      ⟨.new, (.q .mv), [.t 0], none⟩,
      ⟨.new, (.q .len), [.t 7], none⟩,
      ⟨.new, (.q (.bin .lss)), [.t 6, .t 8], none⟩,
      ⟨.new, (.q .mv), [.t 9], none⟩,
      ⟨.new, (.q .mv), [.t 3], (some (10, true))⟩,
      ⟨.new, (.q (.bin .lss)), [.t 11, .c (.int 128)], (some (10, true))⟩,
      ⟨.var 4, (.q .pick), [.t 10, .t 12, .c (.bool false)], none⟩])
    (.cond (.t 4) .skip
    (.exit 0)))
    (.seq (.block 1 (.seq (.reg [⟨.new, (.q .mv), [.t 0], none⟩,
      ⟨.new, (.q .mv), [.t 3], none⟩,
      ⟨.new, (.q (.iaS .leaf)), [.t 6, .t 7], none⟩,
      ⟨.var 5, (.q (.ld .leaf)), [.t 8], none⟩])
    (.cond (.t 5) (.reg [⟨.new, (.q .mv), [.t 3], none⟩,
      ⟨.new, (.q (.bin .quo)), [.t 6, .c (.int 64)], none⟩,
      ⟨.new, (.q .mv), [.t 3], none⟩,
      ⟨.new, (.q (.bin .quo)), [.t 8, .c (.int 64)], none⟩,
      ⟨.new, (.q (.iaA 2 .leaf)), [.t 2, .t 9], none⟩,
      ⟨.new, (.q (.ld .leaf)), [.t 10], none⟩,
      ⟨.new, (.q .mv), [.t 3], none⟩,
      ⟨.new, (.q (.bin .rem)), [.t 12, .c (.int 64)], none⟩,
      ⟨.new, (.q (.cv .u64)), [.t 13], none⟩,
      ⟨.new, (.q (.bin .shl)), [.c (.u64 1), .t 14], none⟩,
      ⟨.new, (.q (.bin .add)), [.t 11, .t 15], none⟩,
      ⟨.new, (.q (.iaA 2 .leaf)), [.t 2, .t 7], none⟩,
      ⟨.none, (.e (.store .leaf)), [.t 17, .t 16], none⟩])
    .skip)))
    (.reg [⟨.new, (.q .mv), [.t 3], none⟩,
      ⟨.new, (.q (.bin .add)), [.t 6, .c (.int 1)], none⟩,
      ⟨.var 3, (.q .mv), [.t 7], none⟩]))))))
    (.seq (.reg [⟨.new, (.q (.ld (.arr 2 .leaf))), [.t 2], none⟩,
      ⟨.none, (.e (.store (.arr 2 .leaf))), [.t 1, .t 6], none⟩])
    .ret)))),
    [.cell 1 (.arr 2 .leaf)]⟩

set_option maxRecDepth 100000
set_option linter.unusedSimpArgs false
set_option linter.unusedVariables false
theorem c26 : cF P [] (drP P []) 26 2 s26.vm = some s26 := by kernel_rfl
theorem c52 : cF P [] (drP P []) 52 2 s52.vm = some s52 := by kernel_rfl
theorem c53 : cF P [] (drP P []) 53 3 s53.vm = some s53 := by kernel_rfl
theorem c57 : cF P [] (drP P []) 57 2 s57.vm = some s57 := by kernel_rfl
theorem c60 : cF P [] (drP P []) 60 1 s60.vm = some s60 := by kernel_rfl
theorem c81 : cF P [] (drP P []) 81 1 s81.vm = some s81 := by kernel_rfl
/-- may transfers be numbered so? -/
def spn (a : BitVec 64) (n : Int) : Int := if n < 1 ∨ 4096 < n then 2 else if 67108864 - n < (a.toNat : Int) then 24 else 0
theorem f52 {K : AV → Heap → Prop} {H : Heap} {a : BitVec 64} {n : Int} (h : K (.int (spn a n)) H) : wpF P [] 52 [.u64 a, .int n] H K := by
  refine wpF_go c52 rfl 3 ?_
  intro ha hb
  simp only [s52]
  clear ha hb
  unfold spn at h
  by_cases h1 : n < 1
  · rw [if_pos (.inl h1)] at h
    (refine gw1 @h1 ?_; try exact True.intro)
    exact h
  by_cases h2 : 4096 < n
  · rw [if_pos (.inr h2)] at h
    (refine gw2 @h1 @h2 ?_; try exact True.intro)
    exact h
  rw [if_neg (by omega)] at h
  have hu : (BitVec.ofInt 64 n).toNat = n.toNat := by rw [BitVec.toNat_ofInt]; omega
  have e : ((67108864 : BitVec 64) - BitVec.ofInt 64 n).toNat = 67108864 - n.toNat := by
    rw [BitVec.toNat_sub, hu]
    show (2 ^ 64 - n.toNat + 67108864) % 2 ^ 64 = _
    omega
  by_cases h3 : 67108864 - n < (a.toNat : Int)
  · rw [if_pos h3] at h
    have e' : ((67108864 : BitVec 64) - BitVec.ofInt 64 n < a) = True := by simp only [BitVec.lt_def, e, eq_iff_iff, iff_true]; omega
    (refine gw3 @h1 @h2 @e' ?_; try exact True.intro)
    exact h
  · rw [if_neg h3] at h
    have e' : ((67108864 : BitVec 64) - BitVec.ofInt 64 n < a) = False := by simp only [BitVec.lt_def, e, eq_iff_iff, iff_false]; omega
    (refine gw3 @h1 @h2 @e' ?_; try exact True.intro)
    exact h
theorem f57 {K : AV → Heap → Prop} {H : Heap} {a : BitVec 64} {n : Int} (hn : n ≤ 1000000) (h : K (.int (spn a n)) H) : wpF P [] 57 [.u64 a, .int n] H K := by
  refine wpF_go c57 rfl 3 ?_
  intro ha hb
  simp only [s57]
  clear ha hb
  unfold spn at h
  by_cases h1 : n < 1
  · rw [if_pos (.inl h1)] at h
    (refine gw1 @h1 ?_; try exact True.intro)
    exact h
  by_cases h2 : 4096 < n
  · rw [if_pos (.inr h2)] at h
    (refine gw2 @h1 @h2 ?_; try exact True.intro)
    exact h
  rw [if_neg (by omega)] at h
  by_cases h4 : 67108864 < a.toNat
  · rw [if_pos (by omega)] at h
    have h4 : ((67108864 : BitVec 64) < a) = True := by simp only [BitVec.lt_def, eq_iff_iff, iff_true]; exact h4
    (refine gw3 @h1 @h2 @h4 ?_; try exact True.intro)
    exact h
  have e : a.toInt = (a.toNat : Int) := BitVec.toInt_eq_toNat_of_lt (by omega)
  have h4' := h4
  have h4 : ((67108864 : BitVec 64) < a) = False := by simp only [BitVec.lt_def, eq_iff_iff, iff_false]; exact h4'
  have e4 : ((-9223372036854775808 : Int) ≤ (a.toNat : Int) + n) = True := by simp only [eq_iff_iff, iff_true]; omega
  have e5 : ((a.toNat : Int) + n ≤ 9223372036854775807) = True := by simp only [eq_iff_iff, iff_true]; omega
  by_cases h3 : 67108864 - n < (a.toNat : Int)
  · rw [if_pos h3] at h
    have e3 : (67108864 < (a.toNat : Int) + n) = True := by simp only [eq_iff_iff, iff_true]; omega
    (refine gw7 @h1 @h2 @h4 @e @e3 @e4 @e5 ?_; try exact True.intro)
    exact h
  · rw [if_neg h3] at h
    have e3 : (67108864 < (a.toNat : Int) + n) = False := by simp only [eq_iff_iff, iff_false]; omega
    (refine gw7 @h1 @h2 @h4 @e @e3 @e4 @e5 ?_; try exact True.intro)
    exact h
/-- a column -/
def cl (ks : List (BitVec 8)) (a n : Nat) : Nat → Bool := cut n fun j => gbit ks 0 (a + j)
theorem f53 {K : AV → Heap → Prop} {H : Heap} {ks : List (BitVec 8)} {a : BitVec 64} {n : Nat} (hk : ks.length = 32) (hn : n ≤ 4096) (han : a.toNat ≤ 67108864) (h : K (.tup [vec n (cl ks a.toNat n), .int 0]) H) : wpF P [] 53 [.agg (ks.map .u8), .u64 a, .int (n : Int)] H K := by
  refine wpF_go c53 rfl 5 ?_
  intro ha hb
  simp only [s53]
  clear ha hb
  have e : a.toInt = (a.toNat : Int) := BitVec.toInt_eq_toNat_of_lt (by omega)
  (refine gw2 @hk @e ?_; try exact True.intro)
  refine f75g (a := a.toNat) (n := n) hk (by omega) (by omega) ?_
  unfold cl vec at h
  unfold vec
  have hbw : ∀ {k : Nat}, AV.bnds k (wdA n (cut n fun j => gbit ks 0 (a.toNat + j))) = true := bndA
  (refine gw1 @hbw ?_; try exact True.intro)
  exact h
/-- the same rows? -/
theorem f26 {K : AV → Heap → Prop} {H : Heap} {x y : Nat → BitVec 64} {n : Nat} (hn : n ≤ 1000000) (h : K (.bool true) H) : wpF P [] 26 [.ro (.arr 2 .leaf) (rwA x y n), .ro (.arr 2 .leaf) (rwA x y n)] H K := by
  refine wpF_go c26 rfl 3 ?_
  intro ha hb
  simp only [s26]
  clear ha hb
  have hl := rwA_len (x := x) (y := y) (n := n)
  have e1 : ((n : Int) = (n : Int)) = True := by simp
  (refine gw2 @hl @e1 ?_; try exact True.intro)
  refine wp_inv (fun k st => ∃ (i : Nat) (u1 u2 : AV), st = ⟨[.ro (.arr 2 .leaf) (rwA x y n), .ro (.arr 2 .leaf) (rwA x y n), .bool false, .int (i : Int), .bool false, u1, u2], H⟩ ∧ k = n - i ∧ i ≤ n) n ⟨0, _, _, rfl, rfl, by omega⟩ ?_
  rintro k st ⟨i, u1, u2, rfl, rfl, hi⟩
  by_cases hil : i < n
  · have hlt : ((i : Int) < (n : Int)) = True := by simp; omega
    have hg := rwA_get (x := x) (y := y) hil
    unfold rowV at hg
    (refine gw3 @hl @hlt @hg ?_; try exact True.intro)
    exact ⟨rfl, rfl, by omega, by omega, n - (i + 1), by omega, i + 1, ⟨_, _, rfl⟩, rfl, by omega⟩
  · have hlt : ((i : Int) < (n : Int)) = False := by simp; omega
    (refine gw2 @hl @hlt ?_; try exact True.intro)
    exact h
theorem f26n {K : AV → Heap → Prop} {H : Heap} (h : K (.bool true) H) : wpF P [] 26 [.nils, .nils] H K := by
  refine wpF_go c26 rfl 3 ?_
  intro ha hb
  simp only [s26]
  clear ha hb
  (refine gw0 ?_; try exact True.intro)
  refine wp_unroll 1 ?_
  (refine gw0 ?_; try exact True.intro)
  exact h

/-! a row of truths -/
def rwb (f : Nat → Bool) (i : Nat) : Option Blk := some ⟨56, 0, false, .arr 1 (.arr 2 .leaf), .agg [.agg (wdN 2 (cut i f))]⟩
def I81 (f : Nat → Bool) (B : Option Blk) (H : Heap) (k : Nat) (st : St) : Prop :=
  ∃ (i : Nat) (u4 u5 : AV), st = ⟨[.ro .leaf ((List.range 128).map fun i => .bool (f i)), .ptr H.length 0 [0] (.arr 2 .leaf), .ptr (H.length + 1) 0 [0] (.arr 2 .leaf), .int (i : Int), u4, u5], H ++ [B, rwb f i]⟩ ∧ k = 128 - i ∧ i ≤ 128
theorem f81 {K : AV → Heap → Prop} {H : Heap} {f : Nat → Bool} (h : K (rowV (wd f 0) (wd f 1)) H) : wpF P [] 81 [.ro .leaf ((List.range 128).map fun i => .bool (f i))] H K := by
  refine wpF_go c81 rfl 3 ?_
  intro ha hb
  simp only [s81]
  clear ha hb
  have hl : ((List.range 128).map fun i => AV.bool (f i)).length = 128 := by simp
  (refine gw0 ?_; try exact True.intro)
  refine wp_inv (I81 f _ H) 128 ⟨0, _, _, by rw [rwb, cut_zero]; rfl, rfl, by omega⟩ ?_
  rintro k st ⟨i, u4, u5, rfl, rfl, hi⟩
  unfold rwb
  by_cases hil : i < 128
  · have h1 : ((i : Int) < 128) = True := by simp; omega
    have gl : ((List.range 128).map fun i => AV.bool (f i)).getD i .un = .bool (f i) := ld_rng hil
    cases hb2 : f i with
    | false =>
      (refine gw4 @hl @h1 @gl @hb2 ?_; try exact True.intro)
      (repeat (refine And.intro (by omega) ?_))
      exact ⟨128 - (i + 1), by omega, i + 1, _, _, by rw [rwb, cut_false hb2]; rfl, rfl, by omega⟩
    | true =>
      have hd := tdiv64 i
      have hm := tmod64 i
      have he := sh64 i
      have hw : i / 64 < 2 := by omega
      have hw2 : (((i / 64 : Nat) : Int) < 2) = True := by simp only [eq_iff_iff, iff_true]; omega
      have hget : (wdN 2 (cut i f))[i / 64]? = some (.u64 (wd (cut i f) (i / 64))) := by
        unfold wdN
        rw [List.getElem?_map, List.getElem?_range hw]; rfl
      have hset := wdN_add (nb := 2) (cut_true hb2) (cut_ge (f := f) (Nat.le_refl i))
      (refine gw10 @hl @h1 @gl @hb2 @hd @hm @he @hw2 @hget @hset ?_; try exact True.intro)
      (repeat (refine And.intro (by omega) ?_))
      exact ⟨128 - (i + 1), by omega, i + 1, _, _, rfl, rfl, by omega⟩
  · have h1 : ((i : Int) < 128) = False := by simp; omega
    have hie : i = 128 := by omega
    subst hie
    have h0 : wdN 2 (cut 128 f) = [.u64 (wd f 0), .u64 (wd f 1)] := by
      show [AV.u64 _, .u64 _] = _
      rw [wd_congr (f := cut 128 f) (g := f) (k := 0), wd_congr (f := cut 128 f) (g := f) (k := 1)]
      · intro j hj; unfold cut; simp; omega
      · intro j hj; unfold cut; simp; omega
    (refine gw3 @hl @h1 @h0 ?_; try exact True.intro)
    exact h

/-! rows of columns -/
def outr (te N0 : Nat) (e : Shape) (F : Nat → AV) (t : Nat) (out : AV) (L : Heap) : Prop :=
  (t = 0 ∧ out = .nils) ∨ (0 < t ∧ ∃ b, b < L.length ∧ out = .own (N0 + b) t [] 0 t e ∧ Heap.get L b = some ⟨te, t, true, .arr t e, .agg ((List.range t).map F)⟩)
def cw (g : Nat → Nat → Bool) (h j : Nat) : BitVec 64 := wd (fun i => g i j) h
def rwj (g : Nat → Nat → Bool) (j : Nat) : AV := rowV (cw g 0 j) (cw g 1 j)
theorem hsh_rw {g : Nat → Nat → Bool} {j : Nat} : HasSh (.arr 2 .leaf) (rwj g j) := by
  unfold rwj rowV
  simp [hasSh_leaf, AV.isCell]
def I60a (n : Nat) (g : Nat → Nat → Bool) (H : Heap) (k : Nat) (st : St) : Prop :=
  ∃ (t : Nat) (out u4 u5 u6 u7 : AV) (L : Heap), st = ⟨[.ro .leaf (beL n g 128), .nils, out, .int (t : Int), u4, u5, u6, u7], H ++ L⟩ ∧ k = n - t ∧ t ≤ n ∧ outr 56 H.length (.arr 2 .leaf) (rwj g) t out L
def I60b (n : Nat) (g : Nat → Nat → Bool) (G : Heap) (out : AV) (t : Nat) (u6 : AV) (k : Nat) (st : St) : Prop :=
  ∃ (i : Nat) (l u7 : AV) (L : Heap), st = ⟨[.ro .leaf (beL n g 128), .nils, out, .int (t : Int), l, .int (i : Int), u6, u7], G ++ L⟩ ∧ k = 128 - i ∧ i ≤ 128 ∧ apd 4 G.length (fun i => .bool (g i t)) i l L
theorem f60 {K : AV → Heap → Prop} {H : Heap} {n : Nat} {g : Nat → Nat → Bool} (h0 : 0 < n) (hn : n ≤ 100000) (h : K (.ro (.arr 2 .leaf) (rwA (cw g 0) (cw g 1) n)) H) : wpF P [] 60 [.ro .leaf (beL n g 128)] H K := by
  refine wpF_go c60 rfl 4 ?_
  intro ha hb
  simp only [s60]
  clear ha hb
  have hl := beL_len (n := n) (f := g) (t := 128)
  have bl : ∀ i, i < 128 → (beL n g 128).getD i .un = .ro .leaf ((List.range n).map fun j => .bool (g i j)) := fun i hi => by
    rw [beL_get hi]; unfold bel; rw [if_neg (by omega)]
  have bl0 := bl 0 (by omega)
  have rl : ∀ i, ((List.range n).map fun j => AV.bool (g i j)).length = n := fun i => by simp
  (refine gw0 ?_; try exact True.intro)
  refine wp_inv (I60a n g H) n ⟨0, _, _, _, _, _, [], by rw [List.append_nil]; rfl, rfl, by omega, .inl ⟨rfl, rfl⟩⟩ ?_
  rintro k st ⟨t, out, u4, u5, u6, u7, L, rfl, rfl, ht, ho⟩
  by_cases htl : t < n
  · have h1 : ((t : Int) < (n : Int)) = True := by simp only [eq_iff_iff, iff_true]; omega
    have hGl : (H ++ L).length = H.length + L.length := List.length_append
    obtain ⟨G, hG⟩ : ∃ G, H ++ L = G := ⟨_, rfl⟩
    rw [hG] at hGl ⊢
    (refine gw4 @hl @bl0 @rl @h1 ?_; try exact True.intro)
    refine wp_inv (I60b n g G out t _) 128 ⟨0, _, _, [], by rw [List.append_nil]; rfl, rfl, by omega, .inl ⟨rfl, rfl, rfl⟩⟩ ?_
    rintro k st ⟨i, l, u7, L', rfl, rfl, hi, ha⟩
    by_cases hil : i < 128
    · have h2 : ((i : Int) < 128) = True := by simp only [eq_iff_iff, iff_true]; omega
      have bi := bl i hil
      have gt : ((List.range n).map fun j => AV.bool (g i j)).getD t .un = .bool (g i t) := ld_rng htl
      have hs := rng_snoc (F := fun i => AV.bool (g i t)) (i := i)
      rcases ha with ⟨hi0, rfl, rfl⟩ | ⟨hi0, rfl, T, J, rfl⟩
      · (refine gw5 @h2 @hl @bi @rl @gt ?_; try exact True.intro)
        (repeat (refine And.intro (by omega) ?_))
        subst hi0
        exact ⟨127, by omega, 1, _, _, _, rfl, rfl, by omega, .inr ⟨by omega, rfl, _, [], rfl⟩⟩
      · (refine gw6 @h2 @hl @bi @rl @gt @hs ?_; try exact True.intro)
        (repeat (refine And.intro (by omega) ?_))
        exact ⟨128 - (i + 1), by omega, i + 1, _, _, _, rfl, rfl, by omega, .inr ⟨by omega, rfl, _, _, rfl⟩⟩
    · have hie : i = 128 := by omega
      subst hie
      have h2 : ((128 : Int) < 128) = False := by simp
      rcases ha with ⟨hi0, _⟩ | ⟨hi0, rfl, T, J, rfl⟩
      · omega
      have lt : List.take 128 ((List.range 128).map fun i => AV.bool (g i t)) = (List.range 128).map fun i => .bool (g i t) := List.take_of_length_le (by simp)
      have mb : ∀ {kp : Nat → Bool} {N : Nat} {h : Heap} {d : Nat}, mapO (demK kp N h (d + 1)) ((List.range 128).map fun i => AV.bool (g i t)) = some ((List.range 128).map fun i => .bool (g i t)) := by
        intro kp N h d
        refine mapO_of fun x hx => ?_
        obtain ⟨j, _, rfl⟩ := List.mem_map.1 hx
        exact demK_bool
      (refine gw2 @h2 @hl ?_; try exact True.intro)
      refine wpF_lend1 2 ?_
      (refine gw2 @lt @mb ?_; try exact True.intro)
      refine f81 ?_
      have hrw : rowV (wd (fun i => g i t) 0) (wd (fun i => g i t) 1) = rwj g t := rfl
      unfold rowV at hrw
      have hs := rng_snoc (F := rwj g) (i := t)
      unfold rowV
      rcases ho with ⟨ht0, rfl⟩ | ⟨ht0, b, hbl, rfl, hgb⟩
      · (refine gw0 ?_; try exact True.intro)
        (repeat (refine And.intro (by omega) ?_))
        subst hG ht0
        rw [List.append_assoc, hrw]
        exact ⟨n - 1, by omega, 1, _, _, _, _, _, _, rfl, rfl, by omega, .inr ⟨by omega, L.length + (J.length + 3), by simp, by rw [List.length_append, Nat.add_assoc], by rw [hget_k]; show Heap.get (J ++ _) (J.length + 1) = _; rw [hget_k]; rfl⟩⟩
      · have gb : ∀ X, Heap.get (G ++ X) (H.length + b) = some ⟨56, t, true, .arr t (.arr 2 .leaf), .agg ((List.range t).map (rwj g))⟩ := fun X => by
          rw [← hG, List.append_assoc, hget_k]; exact Heap.get_some_append hgb
        have sb : ∀ X y, List.set (G ++ X) (H.length + b) y = H ++ (List.set L b y ++ X) := fun X y => by
          rw [← hG, List.append_assoc, hset_k, List.set_append_left _ _ hbl]
        (refine gw4 @gb @sb @hrw @hs ?_; try exact True.intro)
        refine ⟨hsh_rw, hsh_rw, ?_⟩
        (repeat (refine And.intro (by omega) ?_))
        exact ⟨n - (t + 1), by omega, t + 1, _, _, _, _, _, _, rfl, rfl, by omega, .inr ⟨by omega, b, by simp; omega, rfl, Heap.get_some_append (by rw [Heap.get_set _ _ _ _ (by omega), if_pos rfl])⟩⟩
  · have h1 : ((t : Int) < (n : Int)) = False := by simp only [eq_iff_iff, iff_false]; omega
    have hte : t = n := by omega
    subst hte
    rcases ho with ⟨ht0, rfl⟩ | ⟨ht0, b, hbl, rfl, hgb⟩
    · omega
    have mb : ∀ {kp : Nat → Bool} {N : Nat} {h : Heap} {d : Nat}, mapO (demK kp N h (d + 2)) ((List.range t).map (rwj g)) = some ((List.range t).map (rwj g)) := by
      intro kp N h d
      refine mapO_of fun x hx => ?_
      obtain ⟨j, _, rfl⟩ := List.mem_map.1 hx
      rfl
    have lt : List.take t ((List.range t).map (rwj g)) = (List.range t).map (rwj g) := List.take_of_length_le (by simp)
    have gb : ∀ X, Heap.get (L ++ X) b = some ⟨56, t, true, .arr t (.arr 2 .leaf), .agg ((List.range t).map (rwj g))⟩ := fun X => Heap.get_some_append hgb
    have hrw : (List.range t).map (rwj g) = rwA (cw g 0) (cw g 1) t := rfl
    (refine gw8 @hl @bl0 @rl @h1 @hgb @gb @lt @mb ?_; try exact True.intro)
    rw [hrw]
    exact h
end Go.Proofs.Ytjilenmngokhpaa

end
