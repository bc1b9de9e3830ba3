/-
  Layer 16 (trans), as this seat's program has it: sixty-four words turned about.
-/
import Derived.Test.YtebmlmkiblieiaaVt
import Derived.Test.YtebmlmkiblieiaaTm
import Derived.Test.YtebmlmkiblieiaaV38
open Go Go.V
namespace Go.Proofs.Ytebmlmkiblieiaa
/-- trefoil/trans.square (0:w, 2:mask, 3:step, 4:i, 5:x, 7:, 11:, 17:) -/
def s64 : FnS := ⟨66, [0, 2, 3, 4, 5, 7, 11, 17],
    (.seq (.reg [⟨.var 1, (.q .mv), [.c (.u64 4294967295)], none⟩])
    (.seq (.reg [⟨.var 2, (.q .mv), [.c (.int 32)], none⟩])
    (.block 0 (.loop (.seq (.seq (.reg [⟨.new, (.q .mv), [.t 2], none⟩,
      ⟨.var 5, (.q (.bin .gtr)), [.t 8, .c (.int 0)], none⟩])
    (.cond (.t 5) .skip
    (.exit 0)))
    (.seq (.block 1 (.seq (.seq (.reg [⟨.var 3, (.q .mv), [.c (.int 0)], none⟩])
    (.block 2 (.loop (.seq (.seq (.reg [⟨.new, (.q .mv), [.t 3], none⟩,
      ⟨.var 6, (.q (.bin .lss)), [.t 8, .c (.int 64)], none⟩])
    (.cond (.t 6) .skip
    (.exit 2)))
    (.seq (.block 3 (.seq (.seq (.reg [⟨.new, (.q .mv), [.t 3], none⟩,
      ⟨.new, (.q .mv), [.t 2], none⟩,
      ⟨.new, (.q (.bin .and)), [.t 8, .t 9], none⟩,
      ⟨.var 7, (.q (.bin .neq)), [.t 10, .c (.int 0)], none⟩])
    (.cond (.t 7) (.exit 3)
    .skip))
    (.seq (.draw [⟨.new, (.q .mv), [.t 0], none⟩,
      ⟨.new, (.q .mv), [.t 3], none⟩,
      ⟨.new, (.q .nilc), [.t 8], none⟩,
      ⟨.new, (.q (.iaA 64 .leaf)), [.t 10, .t 9], none⟩,
      ⟨.new, (.q (.ld .leaf)), [.t 11], none⟩,
      ⟨.new, (.q .mv), [.t 2], none⟩,
      ⟨.new, (.q (.cv .u64)), [.t 13], none⟩,
      ⟨.new, (.q (.bin .shr)), [.t 12, .t 14], none⟩,
      ⟨.new, (.q .mv), [.t 0], none⟩,
      ⟨.new, (.q .mv), [.t 3], none⟩,
      ⟨.new, (.q .mv), [.t 2], none⟩,
      ⟨.new, (.q (.bin .add)), [.t 17, .t 18], none⟩,
      ⟨.new, (.q .nilc), [.t 16], none⟩,
      ⟨.new, (.q (.iaA 64 .leaf)), [.t 20, .t 19], none⟩,
      ⟨.new, (.q (.ld .leaf)), [.t 21], none⟩,
      ⟨.new, (.q (.bin .xor)), [.t 15, .t 22], none⟩,
      ⟨.new, (.q .mv), [.t 1], none⟩,
      ⟨.new, (.q (.bin .and)), [.t 23, .t 24], none⟩,
      ⟨.var 4, (.q .mv), [.t 25], none⟩])
    (.seq (.draw [⟨.new, (.q .mv), [.t 0], none⟩,
      ⟨.new, (.q .mv), [.t 3], none⟩,
      ⟨.new, (.q .nilc), [.t 8], none⟩,
      ⟨.new, (.q (.iaA 64 .leaf)), [.t 10, .t 9], none⟩,
      ⟨.new, (.q (.ld .leaf)), [.t 11], none⟩,
      ⟨.new, (.q .mv), [.t 4], none⟩,
      ⟨.new, (.q .mv), [.t 2], none⟩,
      ⟨.new, (.q (.cv .u64)), [.t 14], none⟩,
      ⟨.new, (.q (.bin .shl)), [.t 13, .t 15], none⟩,
      ⟨.new, (.q (.bin .xor)), [.t 12, .t 16], none⟩,
      ⟨.new, (.q .nilc), [.t 8], none⟩,
      ⟨.new, (.q (.iaA 64 .leaf)), [.t 18, .t 9], none⟩,
      ⟨.none, (.e (.store .leaf)), [.t 19, .t 17], none⟩])
    (.draw [⟨.new, (.q .mv), [.t 0], none⟩,
      ⟨.new, (.q .mv), [.t 3], none⟩,
      ⟨.new, (.q .mv), [.t 2], none⟩,
      ⟨.new, (.q (.bin .add)), [.t 9, .t 10], none⟩,
      ⟨.new, (.q .nilc), [.t 8], none⟩,
      ⟨.new, (.q (.iaA 64 .leaf)), [.t 12, .t 11], none⟩,
      ⟨.new, (.q (.ld .leaf)), [.t 13], none⟩,
      ⟨.new, (.q .mv), [.t 4], none⟩,
      ⟨.new, (.q (.bin .xor)), [.t 14, .t 15], none⟩,
      ⟨.new, (.q .nilc), [.t 8], none⟩,
      ⟨.new, (.q (.iaA 64 .leaf)), [.t 17, .t 11], none⟩,
      ⟨.none, (.e (.store .leaf)), [.t 18, .t 16], none⟩])))))
    (.reg [⟨.new, (.q .mv), [.t 3], none⟩,
      ⟨.new, (.q (.bin .add)), [.t 8, .c (.int 1)], none⟩,
      ⟨.var 3, (.q .mv), [.t 9], none⟩]))))))
    (.reg [⟨.new, (.q .mv), [.t 1], none⟩,
      ⟨.new, (.q .mv), [.t 1], none⟩,
      ⟨.new, (.q .mv), [.t 2], none⟩,
      ⟨.new, (.q (.bin .shr)), [.t 10, .c (.u64 1)], none⟩,
      ⟨.new, (.q (.cv .u64)), [.t 11], none⟩,
      ⟨.new, (.q (.bin .shl)), [.t 9, .t 12], none⟩,
      ⟨.new, (.q (.bin .xor)), [.t 8, .t 13], none⟩,
      ⟨.var 1, (.q .mv), [.t 14], none⟩])))
    (.reg [⟨.new, (.q .mv), [.t 2], none⟩,
      ⟨.new, (.q (.bin .shr)), [.t 8, .c (.u64 1)], none⟩,
      ⟨.var 2, (.q .mv), [.t 9], none⟩]))))))),
    []⟩

set_option maxRecDepth 100000
set_option linter.unusedSimpArgs false
set_option linter.unusedVariables false
theorem c64 : cF P [] (drP P []) 64 1 s64.vm = some s64 := by kernel_rfl
/-- the words in their box -/
def sqb (g : Nat → Nat → Bool) : Option Blk := some ⟨119, 0, false, .arr 1 (.arr 64 .leaf), .agg [.agg (sqA g)]⟩
/-- what is still to be done from a step on -/
def fin6 (s : Nat) (g : Nat → Nat → Bool) : Nat → Nat → Bool :=
  if s = 32 then six g else if s = 16 then swp 1 (swp 2 (swp 4 (swp 8 (swp 16 g)))) else if s = 8 then swp 1 (swp 2 (swp 4 (swp 8 g)))
  else if s = 4 then swp 1 (swp 2 (swp 4 g)) else if s = 2 then swp 1 (swp 2 g) else if s = 1 then swp 1 g else g
theorem fin6_step {s : Nat} {g : Nat → Nat → Bool} (h : stp s) : fin6 s g = fin6 (s / 2) (swp s g) := by
  rcases h with rfl | rfl | rfl | rfl | rfl | rfl <;> rfl
theorem stp_half {s : Nat} (h : stp s) : (stp (s / 2) ∧ stpM s ^^^ stpM s <<< (s / 2) = stpM (s / 2)) ∨ s / 2 = 0 := by
  rcases h with rfl | rfl | rfl | rfl | rfl | rfl <;> first | exact .inl ⟨by unfold stp; decide, by decide⟩ | exact .inr rfl
def I64a (H0 L : Heap) (g : Nat → Nat → Bool) (k : Nat) (st : St) : Prop :=
  ∃ (m : BitVec 64) (g' : Nat → Nat → Bool) (u3 u4 u5 u6 u7 : AV), st = ⟨[.ptr H0.length 0 [0] (.arr 64 .leaf), .u64 m, .int (k : Int), u3, u4, u5, u6, u7], H0 ++ sqb g' :: L⟩ ∧ fin6 k g' = six g ∧ (k = 0 ∨ (stp k ∧ m = stpM k))
def I64b (H0 L : Heap) (s : Nat) (g : Nat → Nat → Bool) (u5 : AV) (k : Nat) (st : St) : Prop :=
  ∃ (t : Nat) (u4 u6 u7 : AV), st = ⟨[.ptr H0.length 0 [0] (.arr 64 .leaf), .u64 (stpM s), .int (s : Int), .int (t : Int), u4, u5, u6, u7], H0 ++ sqb (swt s t g) :: L⟩ ∧ k = 64 - t ∧ t ≤ 64
theorem sqb_congr {g g' : Nat → Nat → Bool} (h : sqA g = sqA g') : sqb g = sqb g' := by unfold sqb; rw [h]

theorem f64 {K : AV → Heap → Prop} {H0 L : Heap} {g : Nat → Nat → Bool} (h : K (.tup []) (H0 ++ sqb (fun i b => g b i) :: L)) : wpF P [] 64 [.ptr H0.length 0 [0] (.arr 64 .leaf)] (H0 ++ sqb g :: L) K := by
  refine wpF_goM c64 rfl ?_
  intro hA hB
  simp only [s64]
  (refine gw3 @Kmut_n @Kmut_r @Km2_s ?_; try exact True.intro)
  refine wp_inv (I64a H0 L g) 32 ⟨_, g, _, _, _, _, _, rfl, rfl, .inr ⟨.inl rfl, rfl⟩⟩ ?_
  rintro s st ⟨m, g', u3, u4, u5, u6, u7, rfl, hf, hs⟩
  rcases hs with rfl | ⟨hs, rfl⟩
  · have h0 : (0 < ((0 : Nat) : Int)) = False := by simp
    (refine gw4 @h0 @Kmut_n @Kmut_r @Km2_s ?_; try exact True.intro)
    have e : sqb g' = sqb fun i b => g b i := sqb_congr (by rw [show g' = six g from hf]; exact sqA_six)
    have hlen : H0.length + (L.length + 1) = (H0 ++ sqb g :: L).length := by simp
    refine ⟨Nat.le_refl _, ?_, ?_⟩
    · rw [hlen]
      exact HBnd_upd hB (by rintro blk h; cases h; simp only [AV.bnd, AV.bnds, Bool.and_true]; exact bnds_u64)
    · rw [List.take_of_length_le (by simp), e]
      exact h
  · have h0 : (0 < (s : Int)) = True := by have := (st_pos hs).1; simp; omega
    (refine gw4 @h0 @Kmut_n @Kmut_r @Km2_s ?_; try exact True.intro)
    refine wp_inv (I64b H0 L s g' (.bool true)) 64 ⟨0, _, _, _, by rw [sqb_congr (swt_zero fun i hi h => (st1 hs hi h).1)]; rfl, rfl, by omega⟩ ?_
    rintro k st ⟨t, u4, u6, u7, rfl, rfl, ht⟩
    clear hA hB h
    have hp := st_pos hs
    have s1 : (BitVec.ofInt 64 (s : Int)).toNat = s := ofInt64_nat (by omega)
    by_cases htl : t < 64
    · have h1 : ((t : Int) < 64) = True := by simp; omega
      have hand : (BitVec.ofInt 64 (t : Int) &&& BitVec.ofInt 64 (s : Int)).toInt = ((t &&& s : Nat) : Int) := by
        rw [BitVec.toInt_eq_toNat_of_lt, BitVec.toNat_and, ofInt64_nat (by omega), s1]
        rw [BitVec.toNat_and, ofInt64_nat (by omega)]
        exact Nat.lt_of_le_of_lt (Nat.mul_le_mul_left 2 Nat.and_le_left) (by omega)
      by_cases hz : t &&& s = 0
      · have hz' : (((t &&& s : Nat) : Int) = 0) = True := by rw [hz]; simp
        have hb := st0 hs htl hz
        have gt := sqA_at (g := swt s t g') htl
        have gt2 := sqA_at (g := swt s t g') hb.1
        rw [swt_a hz] at gt
        rw [swt_b hs htl hz] at gt2
        have hadd : (t : Int) + (s : Int) = ((t + s : Nat) : Int) := by omega
        have hl2 : (((t + s : Nat) : Int) < 64) = True := by simp; omega
        have hset := sw_step (g := g') hs htl hz rfl
        unfold swx at hset
        unfold sqb
        have gt3 : ∀ X, ((sqA (swt s t g')).set t X)[t + s]? = some (.u64 (wd (g' (t + s)) 0)) := fun X => by rw [List.getElem?_set_ne (by omega), gt2]
        (refine gw13 @h1 @hand @hz' @gt @gt2 @gt3 @hadd @hl2 @s1 @hset @Kmut_n @Kmut_r @Km2_s ?_; try exact True.intro)
        (repeat (refine And.intro (by omega) ?_))
        exact ⟨64 - (t + 1), by omega, t + 1, _, _, _, rfl, rfl, by omega⟩
      · have hz' : (((t &&& s : Nat) : Int) = 0) = False := by simp; exact hz
        (refine gw6 @h1 @hand @hz' @Kmut_n @Kmut_r @Km2_s ?_; try exact True.intro)
        (repeat (refine And.intro (by omega) ?_))
        rw [sqb_congr (swt_skip (g := g') hs htl hz).symm]
        exact ⟨64 - (t + 1), by omega, t + 1, _, _, _, rfl, rfl, by omega⟩
    · have h1 : ((t : Int) < 64) = False := by simp; omega
      have ht' : t = 64 := by omega
      subst ht'
      have hfd : (s : Int).fdiv (2 ^ min 1 64) = ((s / 2 : Nat) : Int) := by
        rw [show (2 : Int) ^ min 1 64 = ((2 : Nat) : Int) from rfl, Int.fdiv_eq_ediv_of_nonneg _ (by omega)]; rfl
      have s2 : (BitVec.ofInt 64 ((s / 2 : Nat) : Int)).toNat = s / 2 := ofInt64_nat (by omega)
      (refine gw6 @h1 @hfd @s2 @Kmut_n @Kmut_r @Km2_s ?_; try exact True.intro)
      (repeat (refine And.intro (by omega) ?_))
      rw [sqb_congr (swt_all (s := s) (g := g'))]
      refine ⟨s / 2, by omega, _, swp s g', _, _, _, _, _, rfl, by rw [← fin6_step hs]; exact hf, ?_⟩
      rcases stp_half hs with ⟨a, b⟩ | a
      · exact .inr ⟨a, b⟩
      · exact .inl a
theorem f64' {K : AV → Heap → Prop} {H0 L Hx : Heap} {g : Nat → Nat → Bool} {m : Nat} {l : List AV} (hm : m = H0.length) (hl : l = sqA g) (hx : Hx = H0 ++ (some ⟨119, 0, false, .arr 1 (.arr 64 .leaf), .agg [.agg l]⟩ : Option Blk) :: L) (h : K (.tup []) (H0 ++ sqb (fun i b => g b i) :: L)) : wpF P [] 64 [.ptr m 0 [0] (.arr 64 .leaf)] Hx K := by
  subst hm hl hx
  exact f64 h
end Go.Proofs.Ytebmlmkiblieiaa
