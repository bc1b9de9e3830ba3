/-
  The law PrgParts returns true for all inputs: every part of every seed's stream, as bytes, words and bits.
-/
import Derived.Test.YtebmlmkiblieiaaVp
import Derived.Test.YtebmlmkiblieiaaV38
open Go Go.V
namespace Go.Proofs.Ytebmlmkiblieiaa
/-- trefoil/trefoillaw07.PrgParts (0:seed, 1:lane, 2:from, 3:n, 4:seed, 8:, 9:a, 10:e, 11:b, 12:f, 13:c, 14:g, 15:d, 16:h, 17:x, 18:i, 19:y, 20:k, 26:) -/
def s14 : FnS := ⟨108, [0, 1, 2, 3, 4, 8, 9, 10, 11, 12, 13, 14, 15, 16, 17, 18, 19, 20, 26],
    (.seq (.reg [⟨.var 4, (.e (.box 32 (.arr 32 .leaf))), [.t 0], none⟩,
      ⟨.var 5, (.q .mv), [.c (.bool false)], none⟩])
    (.seq (.seq (.reg [⟨.new, (.q .mv), [.t 3], none⟩,
      ⟨.new, (.q (.bin .gtr)), [.t 19, .c (.int 500)], none⟩,
      ⟨.new, (.q .mv), [.t 20], none⟩,
      ⟨.new, (.q .mv), [.t 3], (some (21, true))⟩,
      ⟨.new, (.q (.bin .leq)), [.t 22, .c (.int 65536)], (some (21, true))⟩,
      ⟨.var 18, (.q .pick), [.t 21, .t 23, .c (.bool false)], none⟩])
    (.cond (.t 18) (.seq (.reg [⟨.new, (.call 24), [], none⟩,
      ⟨.var 5, (.q .mv), [.t 19], none⟩])
    .ret)
    .skip))
    (.seq (.reg [⟨.new, (.q (.ld (.arr 32 .leaf))), [.t 4], none⟩,
      ⟨.new, (.q .mv), [.t 1], none⟩,
      ⟨.new, (.q .mv), [.t 2], none⟩,
      ⟨.new, (.q .mv), [.t 3], none⟩,
      ⟨.new, (.call 45), [.t 19, .t 20, .t 21, .t 22], none⟩,
      ⟨.new, (.q .mv), [.t 23], none⟩,
      ⟨.new, (.q (.ext 0)), [.t 24], none⟩,
      ⟨.new, (.q (.ext 1)), [.t 24], none⟩,
      ⟨.var 6, (.q .mv), [.t 25], none⟩,
      ⟨.var 7, (.q .mv), [.t 26], none⟩])
    (.seq (.reg [⟨.new, (.q (.ld (.arr 32 .leaf))), [.t 4], none⟩,
      ⟨.new, (.q .mv), [.t 1], none⟩,
      ⟨.new, (.q .mv), [.t 2], none⟩,
      ⟨.new, (.q .mv), [.t 3], none⟩,
      ⟨.new, (.call 52), [.t 19, .t 20, .t 21, .t 22], none⟩,
      ⟨.new, (.q .mv), [.t 23], none⟩,
      ⟨.new, (.q (.ext 0)), [.t 24], none⟩,
      ⟨.new, (.q (.ext 1)), [.t 24], none⟩,
      ⟨.var 8, (.q .mv), [.t 25], none⟩,
      ⟨.var 9, (.q .mv), [.t 26], none⟩])
    (.seq (.reg [⟨.new, (.q (.ld (.arr 32 .leaf))), [.t 4], none⟩,
      ⟨.new, (.q .mv), [.t 1], none⟩,
      ⟨.new, (.q .mv), [.t 2], none⟩,
      ⟨.new, (.q .mv), [.t 3], none⟩,
      ⟨.new, (.call 53), [.t 19, .t 20, .t 21, .t 22], none⟩,
      ⟨.new, (.q .mv), [.t 23], none⟩,
      ⟨.new, (.q (.ext 0)), [.t 24], none⟩,
      ⟨.new, (.q (.ext 1)), [.t 24], none⟩,
      ⟨.var 10, (.q .mv), [.t 25], none⟩,
      ⟨.var 11, (.q .mv), [.t 26], none⟩])
    (.seq (.reg [⟨.new, (.q (.ld (.arr 32 .leaf))), [.t 4], none⟩,
      ⟨.new, (.q .mv), [.t 1], none⟩,
      ⟨.new, (.q .mv), [.t 2], none⟩,
      ⟨.new, (.q .mv), [.t 3], none⟩,
      ⟨.new, (.call 34), [.t 19, .t 20, .t 21, .t 22], none⟩,
      ⟨.new, (.q .mv), [.t 23], none⟩,
      ⟨.new, (.q (.ext 0)), [.t 24], none⟩,
      ⟨.new, (.q (.ext 1)), [.t 24], none⟩,
      ⟨.var 12, (.q .mv), [.t 25], none⟩,
      ⟨.var 13, (.q .mv), [.t 26], none⟩])
    (.seq (.reg [⟨.new, (.q (.ld (.arr 32 .leaf))), [.t 4], none⟩,
      ⟨.new, (.q .mv), [.t 1], none⟩,
      ⟨.new, (.q .mv), [.t 2], none⟩,
      ⟨.new, (.q .mv), [.t 3], none⟩,
      ⟨.new, (.call 46), [.t 19, .t 20, .t 21, .t 22], none⟩,
      ⟨.new, (.q .mv), [.t 23], none⟩,
      ⟨.new, (.q (.ext 0)), [.t 24], none⟩,
      ⟨.new, (.q (.ext 1)), [.t 24], none⟩,
      ⟨.var 14, (.e (.alloc 77 (.st [.leaf, .leaf]) (.agg [(.int 0), .nils]))), [], none⟩,
      ⟨.none, (.e (.store (.st [.leaf, .leaf]))), [.t 14, .t 25], none⟩,
      ⟨.var 15, (.q .mv), [.t 26], none⟩])
    (.seq (.reg [⟨.new, (.q (.ld (.arr 32 .leaf))), [.t 4], none⟩,
      ⟨.new, (.q .mv), [.t 1], none⟩,
      ⟨.new, (.q .mv), [.t 2], none⟩,
      ⟨.new, (.q .mv), [.t 3], none⟩,
      ⟨.new, (.call 54), [.t 19, .t 20, .t 21, .t 22], none⟩,
      ⟨.new, (.q .mv), [.t 23], none⟩,
      ⟨.new, (.q (.ext 0)), [.t 24], none⟩,
      ⟨.new, (.q (.ext 1)), [.t 24], none⟩,
      ⟨.var 16, (.q .mv), [.t 25], none⟩,
      ⟨.var 17, (.q .mv), [.t 26], none⟩])
    (.seq (.reg [⟨.new, (.q .mv), [.t 6], none⟩,
      ⟨.new, (.q .mv), [.t 8], none⟩,
      ⟨.new, (.q (.bin .eql)), [.t 19, .t 20], none⟩,
      ⟨.new, (.q .mv), [.t 21], none⟩,
      ⟨.new, (.q .mv), [.t 7], (some (22, true))⟩,
      ⟨.new, (.q .mv), [.t 9], (some (22, true))⟩,
      ⟨.new, (.q (.bin .eql)), [.t 23, .t 24], (some (22, true))⟩,
      ⟨.new, (.q .pick), [.t 22, .t 25, .c (.bool false)], none⟩,
      ⟨.new, (.q .mv), [.t 26], none⟩,
      ⟨.new, (.q .mv), [.t 10], (some (27, true))⟩,
      ⟨.new, (.q .mv), [.t 12], (some (27, true))⟩,
      ⟨.new, (.call 55), [.t 28, .t 29], (some (27, true))⟩,
      ⟨.new, (.q .pick), [.t 27, .t 30, .c (.bool false)], none⟩,
      ⟨.new, (.q .mv), [.t 31], none⟩,
      ⟨.new, (.q .mv), [.t 11], (some (32, true))⟩,
      ⟨.new, (.q .mv), [.t 13], (some (32, true))⟩,
      ⟨.new, (.q (.bin .eql)), [.t 33, .t 34], (some (32, true))⟩,
      ⟨.new, (.q .pick), [.t 32, .t 35, .c (.bool false)], none⟩,
      ⟨.new, (.q .mv), [.t 36], none⟩,
      ⟨.new, (.q (.ld (.st [.leaf, .leaf]))), [.t 14], (some (37, true))⟩,
      ⟨.new, (.call 39), [.t 38], (some (37, true))⟩,
      ⟨.new, (.q .mv), [.t 16], (some (37, true))⟩,
      ⟨.new, (.call 38), [.t 39, .t 40], (some (37, true))⟩,
      ⟨.new, (.q .pick), [.t 37, .t 41, .c (.bool false)], none⟩,
      ⟨.new, (.q .mv), [.t 42], none⟩,
      ⟨.new, (.q .mv), [.t 15], (some (43, true))⟩,
      ⟨.new, (.q .mv), [.t 17], (some (43, true))⟩,
      ⟨.new, (.q (.bin .eql)), [.t 44, .t 45], (some (43, true))⟩,
      ⟨.new, (.q .pick), [.t 43, .t 46, .c (.bool false)], none⟩,
      ⟨.new, (.q .mv), [.t 47], none⟩,
      ⟨.new, (.call 24), [], (some (48, true))⟩,
      ⟨.new, (.q .pick), [.t 48, .t 49, .c (.bool false)], none⟩,
      ⟨.var 5, (.q .mv), [.t 50], none⟩])
    .ret))))))))),
    [.t 5]⟩

set_option maxRecDepth 100000
set_option linter.unusedSimpArgs false
set_option linter.unusedVariables false
theorem c14 : cF P [] (drP P []) 14 4 s14.vm = some s14 := by kernel_rfl
theorem f39n {K : AV → Heap → Prop} {H : Heap} (h : K (.ro .leaf []) H) : wpF P [] 39 [.agg [.int 0, .nils]] H K := by
  refine wpF_go c39 rfl 3 ?_
  intro ha hb
  simp only [s39]
  (refine gw0 ?_; try exact True.intro)
  refine wp_unroll 1 ?_
  (refine gw0 ?_; try exact True.intro)
  exact h

theorem bytes2 {ks : List (BitVec 8)} {lane : BitVec 32} {a n : Int} (hk : ks.length = 32) : ∃ (S : List (BitVec 8)) (e : Int), (∀ K H, K (.tup [.str S, .int e]) H → wpF P [] 45 [.agg (ks.map .u8), .u32 lane, .int a, .int n] H K) ∧ (∀ K H, K (.tup [.str S, .int e]) H → wpF P [] 52 [.agg (ks.map .u8), .u32 lane, .int a, .int n] H K) := by
  by_cases hb : a < 0 ∨ n < 0 ∨ 32768 < n ∨ 1073741824 - n < a
  · exact ⟨[], 2, fun K H h => f45e hk hb h, fun K H h => f52e hk hb h⟩
  · obtain ⟨a, rfl⟩ := Int.eq_ofNat_of_zero_le (show 0 ≤ a by omega)
    obtain ⟨n, rfl⟩ := Int.eq_ofNat_of_zero_le (show 0 ≤ n by omega)
    exact ⟨_, 0, fun K H h => f45g hk (by omega) (by omega) h, fun K H h => f52g hk (by omega) (by omega) h⟩

theorem words2 {ks : List (BitVec 8)} {lane : BitVec 32} {a n : Int} (hk : ks.length = 32) : ∃ (w : List (BitVec 64)) (A B : AV) (e : Int), isL A (w.map .u64) ∧ isL B (w.map .u64) ∧ (∀ K H, K (.tup [A, .int e]) H → wpF P [] 53 [.agg (ks.map .u8), .u32 lane, .int a, .int n] H K) ∧
    (∀ K H, K (.tup [B, .int e]) H → wpF P [] 34 [.agg (ks.map .u8), .u32 lane, .int a, .int n] H K) := by
  by_cases hb : a < 0 ∨ n < 0 ∨ 4096 < n ∨ 134217728 - n < a
  · exact ⟨[], .nils, .nils, 2, .inr ⟨rfl, rfl⟩, .inr ⟨rfl, rfl⟩, fun K H h => f53e hk hb h, fun K H h => f34e hk hb h⟩
  · obtain ⟨a, rfl⟩ := Int.eq_ofNat_of_zero_le (show 0 ≤ a by omega)
    obtain ⟨n, rfl⟩ := Int.eq_ofNat_of_zero_le (show 0 ≤ n by omega)
    refine ⟨(List.range n).map fun i => wdg ks lane (a + i), _, _, 0, .inl ?_, ?_, fun K H h => f53g hk (by omega) (by omega) h, fun K H h => f34g hk (by omega) (by omega) h⟩
    · rw [List.map_map]; rfl
    · by_cases h0 : n = 0
      · rw [if_pos h0]; subst h0; exact .inr ⟨rfl, rfl⟩
      · rw [if_neg h0]; refine .inl ?_; rw [List.map_map]; rfl

theorem bits2 {ks : List (BitVec 8)} {lane : BitVec 32} {a n : Int} (hk : ks.length = 32) : ∃ (l : List Bool) (m : Int) (L B : AV) (e : Int), L.isCell = true ∧ isL B (l.map .bool) ∧ (∀ K H, K (.tup [.agg [.int m, L], .int e]) H → wpF P [] 46 [.agg (ks.map .u8), .u32 lane, .int a, .int n] H K) ∧
    (∀ K H, K (.tup [B, .int e]) H → wpF P [] 54 [.agg (ks.map .u8), .u32 lane, .int a, .int n] H K) ∧ (∀ K H, K (.ro .leaf (l.map .bool)) H → wpF P [] 39 [.agg [.int m, L]] H K) := by
  by_cases hb : a < 0 ∨ n < 0 ∨ 1073741824 < a ∨ 65536 < n
  · exact ⟨[], 0, .nils, .nils, 2, rfl, .inr ⟨rfl, rfl⟩, fun K H h => f46e hk hb h, fun K H h => f54e hk hb h, fun K H h => f39n h⟩
  · obtain ⟨a, rfl⟩ := Int.eq_ofNat_of_zero_le (show 0 ≤ a by omega)
    obtain ⟨n, rfl⟩ := Int.eq_ofNat_of_zero_le (show 0 ≤ n by omega)
    have el : (List.range n).map (fun i => AV.bool (cut n (fun j => gbit ks lane (a + j)) i)) = gbL ks lane a n := by
      unfold gbL
      apply List.map_congr_left
      intro i hi
      have : i < n := List.mem_range.1 hi
      simp [cut, this]
    have em : ((List.range n).map fun j => gbit ks lane (a + j)).map AV.bool = gbL ks lane a n := by rw [List.map_map]; rfl
    refine ⟨(List.range n).map fun j => gbit ks lane (a + j), (n : Int), .ro .leaf (wdA n (cut n fun j => gbit ks lane (a + j))), _, 0, rfl, ?_, fun K H h => f46g hk (by omega) (by omega) h, fun K H h => f54g hk (by omega) (by omega) h, fun K H h => ?_⟩
    · rw [em]
      by_cases h0 : n = 0
      · rw [if_pos h0]; subst h0; exact .inr ⟨rfl, rfl⟩
      · rw [if_neg h0]; exact .inl rfl
    · rw [em] at h
      refine f39 (n := n) (f := cut n fun j => gbit ks lane (a + j)) (by omega) ?_
      rw [el]; exact h

theorem f14 {K : AV → Heap → Prop} {H : Heap} {ks : List (BitVec 8)} {lane : BitVec 32} {a n : Int} (hk : ks.length = 32) (h : K (.bool true) H) : wpF P [] 14 [.agg (ks.map .u8), .u32 lane, .int a, .int n] H K := by
  refine wpF_go c14 rfl 3 ?_
  intro ha hb
  simp only [s14]
  clear ha hb
  have rest : ∀ {X : Prop}, X → X := fun h => h
  obtain ⟨S, e1, p1, p2⟩ := bytes2 (lane := lane) (a := a) (n := n) hk
  obtain ⟨w, A, B, e2, iA, iB, p3, p4⟩ := words2 (lane := lane) (a := a) (n := n) hk
  obtain ⟨l, m, L, C, e3, hL, iC, p5, p6, p7⟩ := bits2 (lane := lane) (a := a) (n := n) hk
  by_cases h5 : 500 < n
  · by_cases h6 : n ≤ 65536
    · (refine gw3 @hk @h5 @h6 ?_; try exact True.intro)
      refine f24 ?_
      (refine gw0 ?_; try exact True.intro)
      exact h
    · (refine gw3 @hk @h5 @h6 ?_; try exact True.intro)
      refine p1 _ _ ?_
      (refine gw0 ?_; try exact True.intro)
      refine p2 _ _ ?_
      (refine gw0 ?_; try exact True.intro)
      refine p3 _ _ ?_
      (refine gw0 ?_; try exact True.intro)
      refine p4 _ _ ?_
      (refine gw0 ?_; try exact True.intro)
      refine p5 _ _ ?_
      (refine gw1 @hL ?_; try exact True.intro)
      refine ⟨hL, ?_⟩
      refine p6 _ _ ?_
      (refine gw1 @hL ?_; try exact True.intro)
      refine f55 iA iB ?_
      (refine gw0 ?_; try exact True.intro)
      refine p7 _ _ ?_
      (refine gw0 ?_; try exact True.intro)
      refine f38 (.inl rfl) iC ?_
      (refine gw0 ?_; try exact True.intro)
      refine f24 ?_
      (refine gw0 ?_; try exact True.intro)
      exact h
  · (refine gw2 @hk @h5 ?_; try exact True.intro)
    refine p1 _ _ ?_
    (refine gw0 ?_; try exact True.intro)
    refine p2 _ _ ?_
    (refine gw0 ?_; try exact True.intro)
    refine p3 _ _ ?_
    (refine gw0 ?_; try exact True.intro)
    refine p4 _ _ ?_
    (refine gw0 ?_; try exact True.intro)
    refine p5 _ _ ?_
    (refine gw1 @hL ?_; try exact True.intro)
    refine ⟨hL, ?_⟩
    refine p6 _ _ ?_
    (refine gw1 @hL ?_; try exact True.intro)
    refine f55 iA iB ?_
    (refine gw0 ?_; try exact True.intro)
    refine p7 _ _ ?_
    (refine gw0 ?_; try exact True.intro)
    refine f38 (.inl rfl) iC ?_
    (refine gw0 ?_; try exact True.intro)
    refine f24 ?_
    (refine gw0 ?_; try exact True.intro)
    exact h
end Go.Proofs.Ytebmlmkiblieiaa
