/-
  Layer 18 (rot): the law RotSends, walked.
-/
import Derived.Test.YtjilenmngokhpaaDoorRa
import Derived.Test.YtjilenmngokhpaaDoorV38
import Derived.Test.YtjilenmngokhpaaDoorV44
open Go Go.V
namespace Go.Proofs.YtjilenmngokhpaaDoor
/-- trefoil/trefoillaw18.RotSends (0:delta, 1:from, 2:rows, 3:delta, 6:, 7:j, 14:, 19:, 34:) -/
def s3 : FnS := ⟨56, [0, 1, 2, 3, 6, 7, 14, 19, 34],
    (.seq (.reg [⟨.var 3, (.e (.box 24 (.arr 2 .leaf))), [.t 0], none⟩,
      ⟨.var 4, (.q .mv), [.c (.bool false)], none⟩])
    (.seq (.seq (.reg [⟨.new, (.q .mv), [.t 2], none⟩,
      ⟨.new, (.q .len), [.t 9], none⟩,
      ⟨.new, (.q (.bin .gtr)), [.t 10, .c (.int 40)], none⟩,
      ⟨.new, (.q .mv), [.t 11], none⟩,
      ⟨.new, (.q .mv), [.t 1], (some (12, false))⟩,
      ⟨.new, (.q (.bin .gtr)), [.t 13, .c (.u64 1152921504606846976)], (some (12, false))⟩,
      ⟨.var 6, (.q .pick), [.t 12, .c (.bool true), .t 14], none⟩])
    (.cond (.t 6) (.seq (.reg [⟨.new, (.call 7), [], none⟩,
      ⟨.var 4, (.q .mv), [.t 9], none⟩])
    .ret)
    .skip))
    (.seq (.seq (.reg [⟨.var 5, (.q .mv), [.c (.int 0)], none⟩])
    (.block 0 (.loop (.seq (.seq (.reg [⟨.new, (.q .mv), [.t 5], none⟩,
      ⟨.new, (.q .mv), [.t 2], none⟩,
      ⟨.new, (.q .len), [.t 10], none⟩,
      ⟨.var 7, (.q (.bin .lss)), [.t 9, .t 11], none⟩])
    (.cond (.t 7) .skip
    (.exit 0)))
    (.seq (.block 1 (.seq (.draw [⟨.new, (.q .mv), [.t 1], none⟩,
      ⟨.new, (.q .mv), [.t 2], none⟩,
      ⟨.new, (.q .mv), [.t 5], none⟩,
      ⟨.new, (.q (.iaS (.arr 2 .leaf))), [.t 10, .t 11], none⟩,
      ⟨.new, (.q (.ld (.arr 2 .leaf))), [.t 12], none⟩,
      ⟨.new, (.call 8), [.t 9, .t 13], none⟩,
      ⟨.new, (.q .mv), [.t 1], none⟩,
      ⟨.new, (.q .mv), [.t 2], none⟩,
      ⟨.new, (.q .mv), [.t 5], none⟩,
      ⟨.new, (.q (.iaS (.arr 2 .leaf))), [.t 16, .t 17], none⟩,
      ⟨.new, (.q (.ld (.arr 2 .leaf))), [.t 18], none⟩,
      ⟨.new, (.call 9), [.t 15, .t 19], none⟩,
      ⟨.var 8, (.q (.eqA true 32 .u8)), [.t 14, .t 20], none⟩])
    (.cond (.t 8) (.seq (.reg [⟨.var 4, (.q .mv), [.c (.bool false)], none⟩])
    .ret)
    .skip)))
    (.reg [⟨.new, (.q .mv), [.t 5], none⟩,
      ⟨.new, (.q (.bin .add)), [.t 9, .c (.int 1)], none⟩,
      ⟨.var 5, (.q .mv), [.t 10], none⟩]))))))
    (.seq (.draw [⟨.new, (.q (.ld (.arr 2 .leaf))), [.t 3], none⟩,
      ⟨.new, (.q .mv), [.t 1], none⟩,
      ⟨.new, (.q .mv), [.t 2], none⟩,
      ⟨.new, (.call 11), [.t 9, .t 10, .t 11], none⟩,
      ⟨.new, (.q (.ld (.arr 2 .leaf))), [.t 3], none⟩,
      ⟨.new, (.q .mv), [.t 1], none⟩,
      ⟨.new, (.q .mv), [.t 2], none⟩,
      ⟨.new, (.call 12), [.t 13, .t 14, .t 15], none⟩,
      ⟨.new, (.call 10), [.t 12, .t 16], none⟩,
      ⟨.new, (.q .mv), [.t 17], none⟩,
      ⟨.new, (.q .mv), [.t 1], (some (18, true))⟩,
      ⟨.new, (.q .mv), [.t 2], (some (18, true))⟩,
      ⟨.new, (.call 14), [.t 19, .t 20], (some (18, true))⟩,
      ⟨.new, (.q .mv), [.t 1], (some (18, true))⟩,
      ⟨.new, (.q .mv), [.t 2], (some (18, true))⟩,
      ⟨.new, (.call 15), [.t 22, .t 23], (some (18, true))⟩,
      ⟨.new, (.call 13), [.t 21, .t 24], (some (18, true))⟩,
      ⟨.new, (.q .pick), [.t 18, .t 25, .c (.bool false)], none⟩,
      ⟨.new, (.q .mv), [.t 26], none⟩,
      ⟨.new, (.call 7), [], (some (27, true))⟩,
      ⟨.new, (.q .pick), [.t 27, .t 28, .c (.bool false)], none⟩,
      ⟨.var 4, (.q .mv), [.t 29], none⟩])
    .ret)))),
    [.t 4]⟩

set_option maxRecDepth 100000
set_option linter.unusedSimpArgs false
set_option linter.unusedVariables false
theorem c3 : cF P G (drP P G) 3 3 s3.vm = some s3 := by kernel_rfl
def I3 (d : Rw) (fr : BitVec 64) (rows : List Rw) (H : Heap) (k : Nat) (st : St) : Prop :=
  ∃ (j : Nat) (u7 u8 : AV), st = ⟨[.agg [.u64 d.1, .u64 d.2], .u64 fr, .ro (.arr 2 .leaf) (rows.map rwP), .ptr H.length 0 [0] (.arr 2 .leaf), .bool false, .int j, .bool false, u7, u8], H ++ [bxr d.1 d.2]⟩ ∧ k = rows.length - j ∧ j ≤ rows.length
set_option maxHeartbeats 2000000 in
theorem f3 {K : AV → Heap → Prop} {H : Heap} {d : Rw} {fr : BitVec 64} {rows : List Rw} (h : K (.bool true) H) : wpF P G 3 [.agg [.u64 d.1, .u64 d.2], .u64 fr, .ro (.arr 2 .leaf) (rows.map rwP)] H K := by
  refine wpF_go c3 rfl 4 ?_
  intro ha hb
  simp only [s3]
  clear ha hb
  have ll : (rows.map rwP).length = rows.length := by simp
  by_cases h0 : 40 < rows.length
  · have e0 : ((40 : Int) < (rows.length : Int)) = True := by simp only [eq_iff_iff, iff_true]; omega
    (refine gw2 @ll @e0 ?_; try exact True.intro)
    refine f7 ?_
    (refine gw0 ?_; try exact True.intro)
    exact h
  have e0 : ((40 : Int) < (rows.length : Int)) = False := by simp only [eq_iff_iff, iff_false]; omega
  by_cases h1 : (1152921504606846976 : BitVec 64) < fr
  · have e1 := eq_true h1
    (refine gw3 @ll @e0 @e1 ?_; try exact True.intro)
    refine f7 ?_
    (refine gw0 ?_; try exact True.intro)
    exact h
  have e1 := eq_false h1
  (refine gw3 @ll @e0 @e1 ?_; try exact True.intro)
  refine wp_inv (I3 d fr rows H) rows.length ⟨0, _, _, rfl, rfl, Nat.zero_le _⟩ ?_
  rintro k st ⟨j, u7, u8, rfl, rfl, hj⟩
  by_cases hjl : j < rows.length
  · have e2 : ((j : Int) < (rows.length : Int)) = True := by simp only [eq_iff_iff, iff_true]; omega
    have gp := ld_rw hjl
    (refine gw3 @e2 @ll @gp ?_; try exact True.intro)
    refine drawn _ (f8 (n := fr) (p := rows.getD j (0, 0)) ⟨rfl, rfl⟩) ?_
    (refine gw2 @ll @gp ?_; try exact True.intro)
    (repeat (refine And.intro (by omega) ?_))
    refine drawn _ (f9 (n := fr) (p := rows.getD j (0, 0)) ⟨rfl, rfl⟩) ?_
    have hl := hsh_len (n := fr) (p := rows.getD j (0, 0))
    have hk := m8_kind (d := hsh fr (rows.getD j (0, 0)))
    (refine gw1 @hl ?_; try exact True.intro)
    refine ⟨hk, ?_⟩
    (repeat (refine And.intro (by omega) ?_))
    exact ⟨rows.length - (j + 1), by omega, j + 1, _, _, rfl, rfl, by omega⟩
  · have e2 : ((j : Int) < (rows.length : Int)) = False := by simp only [eq_iff_iff, iff_false]; omega
    unfold bxr
    (refine gw2 @e2 @ll ?_; try exact True.intro)
    refine drawn _ (f11 (d := d) (fr := fr) (rows := rows) (by omega) ⟨rfl, rfl⟩) ?_
    (refine gw0 ?_; try exact True.intro)
    refine drawn _ (f12 (d := d) (fr := fr) (rows := rows) (by omega) ⟨rfl, rfl⟩) ?_
    have hp := prL_isP (l := sndL d fr rows rows.length)
    have hpl := sndL_len (d := d) (fr := fr) (rows := rows) (n := rows.length)
    have hok := sndL_ok (d := d) (fr := fr) (rows := rows) (n := rows.length)
    generalize prL (sndL d fr rows rows.length) = A at *
    generalize sndL d fr rows rows.length = l at *
    (refine gw0 ?_; try exact True.intro)
    refine drawn _ (f10 (l := l) (by omega) hok (.inl rfl) hp ⟨rfl, rfl⟩) ?_
    (refine gw0 ?_; try exact True.intro)
    refine drawn _ (f14 (fr := fr) (rows := rows) (by omega) ⟨rfl, rfl⟩) ?_
    (refine gw0 ?_; try exact True.intro)
    refine drawn _ (f15 (fr := fr) (rows := rows) (by omega) ⟨rfl, rfl⟩) ?_
    have hs := ssL_isS (l := rcvL fr rows rows.length)
    have hsl := rcvL_len (fr := fr) (rows := rows) (n := rows.length)
    have hso := rcvL_ok (fr := fr) (rows := rows) (n := rows.length)
    generalize ssL (rcvL fr rows rows.length) = B at *
    generalize rcvL fr rows rows.length = l2 at *
    (refine gw0 ?_; try exact True.intro)
    refine drawn _ (f13 (ss := l2) (by omega) hso (.inl rfl) hs ⟨rfl, rfl⟩) ?_
    (refine gw0 ?_; try exact True.intro)
    refine drawn _ (f7 ⟨rfl, rfl⟩) ?_
    (refine gw0 ?_; try exact True.intro)
    exact h
end Go.Proofs.YtjilenmngokhpaaDoor
