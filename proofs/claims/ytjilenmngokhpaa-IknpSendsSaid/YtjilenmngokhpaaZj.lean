/-
  Layer 17 (iknp): what both make of each other; awake.
-/
import Derived.Test.YtjilenmngokhpaaZg
import Derived.Test.YtjilenmngokhpaaV38
import Derived.Test.YtjilenmngokhpaaV44
section
open Go Go.V
namespace Go.Proofs.Ytjilenmngokhpaa
/-- trefoil/trefoillaw17.awake (0:, 1:a, 2:b, 3:c, 5:u, 6:t, 7:e, 8:q, 9:f) -/
def s22 : FnS := ⟨74, [0, 1, 2, 3, 5, 6, 7, 8, 9],
    (.seq (.reg [⟨.var 0, (.q .mv), [.c (.bool false)], none⟩])
    (.seq (.reg [⟨.new, (.e (.bld (.arr 32 .leaf) (.agg [(.u8 0), (.u8 0), (.u8 0), (.u8 0), (.u8 0), (.u8 0), (.u8 0), (.u8 0), (.u8 0), (.u8 0), (.u8 0), (.u8 0), (.u8 0), (.u8 0), (.u8 0), (.u8 0), (.u8 0), (.u8 0), (.u8 0), (.u8 0), (.u8 0), (.u8 0), (.u8 0), (.u8 0), (.u8 0), (.u8 0), (.u8 0), (.u8 0), (.u8 0), (.u8 0), (.u8 0), (.u8 0)]) [0])), [.c (.u8 3)], none⟩,
      ⟨.new, (.call 23), [.t 9, .c (.u64 0)], none⟩,
      ⟨.new, (.q .mv), [.t 10], none⟩,
      ⟨.new, (.q (.ext 0)), [.t 11], none⟩,
      ⟨.new, (.q (.ext 1)), [.t 11], none⟩,
      ⟨.var 1, (.e (.alloc 62 (.st [(.st [(.arr 2 .leaf), .leaf]), (.st [.leaf, .leaf])]) (.agg [(.agg [(.agg [(.u64 0), (.u64 0)]), .nils]), (.agg [.nils, .nils])]))), [], none⟩,
      ⟨.var 2, (.e (.alloc 62 (.st [(.st [(.arr 2 .leaf), .leaf]), (.st [.leaf, .leaf])]) (.agg [(.agg [(.agg [(.u64 0), (.u64 0)]), .nils]), (.agg [.nils, .nils])]))), [], none⟩,
      ⟨.none, (.e (.store (.st [(.st [(.arr 2 .leaf), .leaf]), (.st [.leaf, .leaf])]))), [.t 1, .t 12], none⟩,
      ⟨.none, (.e (.store (.st [(.st [(.arr 2 .leaf), .leaf]), (.st [.leaf, .leaf])]))), [.t 2, .t 13], none⟩])
    (.seq (.reg [⟨.new, (.e (.bsl 4 .leaf (.bool false) 2 [0, 1])), [.c (.bool false), .c (.bool true)], none⟩,
      ⟨.new, (.call 16), [.t 9], none⟩,
      ⟨.new, (.q .mv), [.t 10], none⟩,
      ⟨.new, (.q (.ext 0)), [.t 11], none⟩,
      ⟨.new, (.q (.ext 1)), [.t 11], none⟩,
      ⟨.var 3, (.e (.alloc 37 (.st [.leaf, .leaf]) (.agg [(.int 0), .nils]))), [], none⟩,
      ⟨.none, (.e (.store (.st [.leaf, .leaf]))), [.t 3, .t 12], none⟩,
      ⟨.new, (.q .mv), [.t 13], none⟩])
    (.seq (.reg [⟨.new, (.q (.fa [(.st [(.arr 2 .leaf), .leaf]), (.st [.leaf, .leaf])] 1)), [.t 2], none⟩,
      ⟨.new, (.q (.ld (.st [.leaf, .leaf]))), [.t 9], none⟩,
      ⟨.new, (.q (.ld (.st [.leaf, .leaf]))), [.t 3], none⟩,
      ⟨.new, (.call 27), [.t 10, .c (.u64 0), .t 11], none⟩,
      ⟨.new, (.q .mv), [.t 12], none⟩,
      ⟨.new, (.q (.ext 0)), [.t 13], none⟩,
      ⟨.new, (.q (.ext 1)), [.t 13], none⟩,
      ⟨.new, (.q (.ext 2)), [.t 13], none⟩,
      ⟨.var 4, (.q .mv), [.t 14], none⟩,
      ⟨.var 5, (.q .mv), [.t 15], none⟩,
      ⟨.var 6, (.q .mv), [.t 16], none⟩])
    (.seq (.reg [⟨.new, (.q (.fa [(.st [(.arr 2 .leaf), .leaf]), (.st [.leaf, .leaf])] 0)), [.t 1], none⟩,
      ⟨.new, (.q (.ld (.st [(.arr 2 .leaf), .leaf]))), [.t 9], none⟩,
      ⟨.new, (.q .mv), [.t 4], none⟩,
      ⟨.new, (.call 24), [.t 10, .c (.u64 0), .t 11], none⟩,
      ⟨.new, (.q .mv), [.t 12], none⟩,
      ⟨.new, (.q (.ext 0)), [.t 13], none⟩,
      ⟨.new, (.q (.ext 1)), [.t 13], none⟩,
      ⟨.var 7, (.q .mv), [.t 14], none⟩,
      ⟨.var 8, (.q .mv), [.t 15], none⟩])
    (.seq (.draw [⟨.new, (.q .mv), [.t 6], none⟩,
      ⟨.new, (.q (.bin .eql)), [.t 9, .c (.int 0)], none⟩,
      ⟨.new, (.q .mv), [.t 10], none⟩,
      ⟨.new, (.q .mv), [.t 8], (some (11, true))⟩,
      ⟨.new, (.q .mv), [.t 6], (some (11, true))⟩,
      ⟨.new, (.q (.bin .eql)), [.t 12, .t 13], (some (11, true))⟩,
      ⟨.new, (.q .pick), [.t 11, .t 14, .c (.bool false)], none⟩,
      ⟨.new, (.q .mv), [.t 15], none⟩,
      ⟨.new, (.q .mv), [.t 5], (some (16, true))⟩,
      ⟨.new, (.q .len), [.t 17], (some (16, true))⟩,
      ⟨.new, (.q (.bin .eql)), [.t 18, .c (.int 2)], (some (16, true))⟩,
      ⟨.new, (.q .pick), [.t 16, .t 19, .c (.bool false)], none⟩,
      ⟨.new, (.q .mv), [.t 20], none⟩,
      ⟨.new, (.q .mv), [.t 7], (some (21, true))⟩,
      ⟨.new, (.q .len), [.t 22], (some (21, true))⟩,
      ⟨.new, (.q (.bin .eql)), [.t 23, .c (.int 2)], (some (21, true))⟩,
      ⟨.new, (.q .pick), [.t 21, .t 24, .c (.bool false)], none⟩,
      ⟨.new, (.q .mv), [.t 25], none⟩,
      ⟨.new, (.q .mv), [.t 7], (some (26, true))⟩,
      ⟨.new, (.q (.iaS (.arr 2 .leaf))), [.t 27, .c (.int 0)], (some (26, true))⟩,
      ⟨.new, (.q (.ld (.arr 2 .leaf))), [.t 28], (some (26, true))⟩,
      ⟨.new, (.q .mv), [.t 5], (some (26, true))⟩,
      ⟨.new, (.q (.iaS (.arr 2 .leaf))), [.t 30, .c (.int 0)], (some (26, true))⟩,
      ⟨.new, (.q (.ld (.arr 2 .leaf))), [.t 31], (some (26, true))⟩,
      ⟨.new, (.q (.eqA false 2 .u64)), [.t 29, .t 32], (some (26, true))⟩,
      ⟨.new, (.q .pick), [.t 26, .t 33, .c (.bool false)], none⟩,
      ⟨.new, (.q .mv), [.t 34], none⟩,
      ⟨.new, (.q .mv), [.t 7], (some (35, true))⟩,
      ⟨.new, (.q (.iaS (.arr 2 .leaf))), [.t 36, .c (.int 1)], (some (35, true))⟩,
      ⟨.new, (.q (.ld (.arr 2 .leaf))), [.t 37], (some (35, true))⟩,
      ⟨.new, (.q .mv), [.t 5], (some (35, true))⟩,
      ⟨.new, (.q (.iaS (.arr 2 .leaf))), [.t 39, .c (.int 1)], (some (35, true))⟩,
      ⟨.new, (.q (.ld (.arr 2 .leaf))), [.t 40], (some (35, true))⟩,
      ⟨.new, (.q (.fa [(.st [(.arr 2 .leaf), .leaf]), (.st [.leaf, .leaf])] 0)), [.t 1], (some (35, true))⟩,
      ⟨.new, (.q (.fa [(.arr 2 .leaf), .leaf] 0)), [.t 42], (some (35, true))⟩,
      ⟨.new, (.q (.ld (.arr 2 .leaf))), [.t 43], (some (35, true))⟩,
      ⟨.new, (.call 49), [.t 41, .t 44], (some (35, true))⟩,
      ⟨.new, (.q (.eqA false 2 .u64)), [.t 38, .t 45], (some (35, true))⟩,
      ⟨.new, (.q .pick), [.t 35, .t 46, .c (.bool false)], none⟩,
      ⟨.var 0, (.q .mv), [.t 47], none⟩])
    .ret)))))),
    [.t 0]⟩

set_option maxRecDepth 100000
set_option linter.unusedSimpArgs false
set_option linter.unusedVariables false
theorem c22 : cF P [] (drP P []) 22 0 s22.vm = some s22 := by kernel_rfl
theorem rb_wd {x y : BitVec 64} : wd (fun i => rb x y (i : Int)) 0 = x ∧ wd (fun i => rb x y (i : Int)) 1 = y := by
  constructor
  · refine (wd_of fun j hj => ?_).symm
    unfold rb
    rw [if_pos (by omega)]
    exact congrArg _ (by omega)
  · refine (wd_of fun j hj => ?_).symm
    unfold rb
    rw [if_neg (by omega), if_pos (by omega)]
    exact congrArg _ (by omega)
/-- the columns of who sends are those of who chooses, changed where the bit is 1 and 1 was chosen -/
theorem sF_uF {d0 d1 : BitVec 64} {fk fz fo : Nat → List (BitVec 8)} (hk : ∀ i, fk i = if rb d0 d1 (i : Int) = true then fo i else fz i) {a n : Nat} {c : Nat → Bool} {i j : Nat} :
    sF d0 d1 fk a n (uF fz fo a n c) i j = (clF fz a n i j != (c j && rb d0 d1 (i : Int))) := by
  unfold sF uF clF
  rw [hk]
  cases rb d0 d1 (i : Int)
  · simp
  · rw [if_pos rfl]
    generalize cl (fz i) a n j = p
    generalize cl (fo i) a n j = q
    generalize c j = r
    cases p <;> cases q <;> cases r <;> rfl
theorem cw_sF {d0 d1 : BitVec 64} {fk fz fo : Nat → List (BitVec 8)} (hk : ∀ i, fk i = if rb d0 d1 (i : Int) = true then fo i else fz i) {a n : Nat} {c : Nat → Bool} {j : Nat} :
    jrow d0 d1 (c j) (cw (sF d0 d1 fk a n (uF fz fo a n c)) 0 j) (cw (sF d0 d1 fk a n (uF fz fo a n c)) 1 j) (cw (clF fz a n) 0 j) (cw (clF fz a n) 1 j) = true := by
  have e : ∀ h, cw (sF d0 d1 fk a n (uF fz fo a n c)) h j = cw (clF fz a n) h j ^^^ wd (fun i => c j && rb d0 d1 (i : Int)) h := fun h => by
    unfold cw
    rw [wd_xor]
    exact wd_congr fun i hi => sF_uF hk
  unfold jrow
  rw [decide_eq_true_eq, e, e]
  cases c j
  · rw [if_neg (by decide), if_neg (by decide)]
    simp only [Bool.false_and, wd_false]
    exact ⟨trivial, trivial⟩
  · rw [if_pos rfl, if_pos rfl]
    simp only [Bool.true_and, rb_wd.1, rb_wd.2]
    exact ⟨trivial, trivial⟩
theorem jns_all {d0 d1 : BitVec 64} {x y z w : Nat → BitVec 64} {c : Nat → Bool} : ∀ {n : Nat}, (∀ j, j < n → jrow d0 d1 (c j) (x j) (y j) (z j) (w j) = true) → jns d0 d1 x y z w c n = true
  | 0, _ => rfl
  | n + 1, h => by rw [jns, jns_all fun j hj => h j (by omega), h n (by omega)]; rfl
theorem kS_if {ks : List (BitVec 8)} {i : Nat} : kS ks i = if rb (wdg ks 9 0) (wdg ks 9 1) (i : Int) = true then oS ks i else zS ks i := rfl
theorem jns_deal {ks : List (BitVec 8)} {a n : Nat} {c c' : Nat → Bool} (hc : ∀ j, j < n → c' j = c j) :
    jns (wdg ks 9 0) (wdg ks 9 1) (cw (sF (wdg ks 9 0) (wdg ks 9 1) (kS ks) a n (uF (zS ks) (oS ks) a n c)) 0) (cw (sF (wdg ks 9 0) (wdg ks 9 1) (kS ks) a n (uF (zS ks) (oS ks) a n c)) 1) (cw (clF (zS ks) a n) 0) (cw (clF (zS ks) a n) 1) c' n = true :=
  jns_all fun j hj => by rw [hc j hj]; exact cw_sF fun i => kS_if
theorem f22 {K : AV → Heap → Prop} {H : Heap} (h : K (.bool true) H) : wpF P [] 22 [] H K := by
  refine wpF_go c22 rfl 3 ?_
  intro ha hb
  simp only [s22]
  clear ha hb
  (refine gw0 ?_; try exact True.intro)
  generalize hks : [(3 : BitVec 8), 0, 0, 0, 0, 0, 0, 0, 0, 0, 0, 0, 0, 0, 0, 0, 0, 0, 0, 0, 0, 0, 0, 0, 0, 0, 0, 0, 0, 0, 0, 0] = ks
  have hk : ks.length = 32 := by rw [← hks]; rfl
  have hka : AV.agg [AV.u8 3, AV.u8 0, AV.u8 0, AV.u8 0, AV.u8 0, AV.u8 0, AV.u8 0, AV.u8 0, AV.u8 0, AV.u8 0, AV.u8 0, AV.u8 0, AV.u8 0, AV.u8 0, AV.u8 0, AV.u8 0, AV.u8 0, AV.u8 0, AV.u8 0, AV.u8 0, AV.u8 0, AV.u8 0, AV.u8 0, AV.u8 0, AV.u8 0, AV.u8 0, AV.u8 0, AV.u8 0, AV.u8 0, AV.u8 0, AV.u8 0, AV.u8 0] = .agg (ks.map .u8) := by rw [← hks]; rfl
  rw [hka]
  refine f23 hk ?_
  simp only [sndA, rcvA]
  have hx := child_len (child ks 0) 0
  generalize child (child ks 0) 0 = r0 at *
  generalize child (child ks 0) 1 = r1 at *
  have he : spn 0 ((2 : Nat) : Int) = 0 := rfl
  have h27 : ∀ {K : AV → Heap → Prop} {H : Heap}, K (.tup [.ro vS (veL (fun _ => 2) (uF (zS r0) (oS r0) 0 2 (bfn [false, true])) 128), .ro (.arr 2 .leaf) (rwA (cw (clF (zS r0) 0 2) 0) (cw (clF (zS r0) 0 2) 1) 2), .int 0]) H → wpF P [] 27 [.agg [.ro (.arr 32 .leaf) (sdL (zS r0) 128), .ro (.arr 32 .leaf) (sdL (oS r0) 128)], .u64 0, vec 2 (bfn [false, true])] H K := fun h => f27 (fun _ => zS_len) (fun _ => oS_len) he h
  have h24 : ∀ {K : AV → Heap → Prop} {H : Heap}, K (.tup [.ro (.arr 2 .leaf) (rwA (cw (sF (wdg r0 9 0) (wdg r0 9 1) (kS r0) 0 2 (uF (zS r0) (oS r0) 0 2 (bfn [false, true]))) 0) (cw (sF (wdg r0 9 0) (wdg r0 9 1) (kS r0) 0 2 (uF (zS r0) (oS r0) 0 2 (bfn [false, true]))) 1) 2), .int 0]) H → wpF P [] 24 [.agg [.agg [.u64 (wdg r0 9 0), .u64 (wdg r0 9 1)], .ro (.arr 32 .leaf) (sdL (kS r0) 128)], .u64 0, .ro vS (veL (fun _ => 2) (uF (zS r0) (oS r0) 0 2 (bfn [false, true])) 128)] H K := fun h => f24 (fun _ => kS_len) (fun _ => by omega) rfl he (fun ⟨_, _, hn⟩ => absurd rfl hn) (fun _ => h)
  have hj := jns_deal (ks := r0) (a := 0) (n := 2) (c := bfn [false, true]) (c' := bfn [false, true]) (fun _ _ => rfl)
  have hq : ∀ x y : Nat → BitVec 64, rwA x y 2 = [.agg [.u64 (x 0), .u64 (y 0)], .agg [.u64 (x 1), .u64 (y 1)]] := fun _ _ => rfl
  simp only [hq] at h24 h27
  simp only [jns, jrow, Bool.true_and, Bool.and_eq_true, decide_eq_true_eq] at hj
  obtain ⟨⟨j1, j2⟩, j3, j4⟩ := hj
  rw [show (if bfn [false, true] 0 = true then wdg r0 9 0 else 0) = 0 from rfl] at j1
  rw [show (if bfn [false, true] 0 = true then wdg r0 9 1 else 0) = 0 from rfl] at j2
  rw [show (if bfn [false, true] 1 = true then wdg r0 9 0 else 0) = wdg r0 9 0 from rfl] at j3
  rw [show (if bfn [false, true] 1 = true then wdg r0 9 1 else 0) = wdg r0 9 1 from rfl] at j4
  have z0 : ∀ x : BitVec 64, x ^^^ 0 = x := fun x => by simp
  rw [z0] at j1 j2
  generalize hb : bfn [false, true] = bq at *
  generalize cw (sF (wdg r0 9 0) (wdg r0 9 1) (kS r0) 0 2 (uF (zS r0) (oS r0) 0 2 bq)) 0 0 = a1 at *
  generalize cw (sF (wdg r0 9 0) (wdg r0 9 1) (kS r0) 0 2 (uF (zS r0) (oS r0) 0 2 bq)) 1 0 = a2 at *
  generalize cw (sF (wdg r0 9 0) (wdg r0 9 1) (kS r0) 0 2 (uF (zS r0) (oS r0) 0 2 bq)) 0 1 = a3 at *
  generalize cw (sF (wdg r0 9 0) (wdg r0 9 1) (kS r0) 0 2 (uF (zS r0) (oS r0) 0 2 bq)) 1 1 = a4 at *
  have hbu : ∀ {k : Nat}, AV.bnds k (veL (fun _ => 2) (uF (zS r0) (oS r0) 0 2 bq) 128) = true := bnds_veL
  generalize veL (fun _ => 2) (uF (zS r0) (oS r0) 0 2 bq) 128 = U at *
  generalize cw (clF (zS r0) 0 2) 0 0 = b1 at *
  generalize cw (clF (zS r0) 0 2) 1 0 = b2 at *
  generalize cw (clF (zS r0) 0 2) 0 1 = b3 at *
  generalize cw (clF (zS r0) 0 2) 1 1 = b4 at *
  generalize sdL (kS r0) 128 = lk at *
  generalize sdL (zS r0) 128 = lz at *
  generalize sdL (oS r0) 128 = lo at *
  generalize wdg r0 9 0 = d0 at *
  generalize wdg r0 9 1 = d1 at *
  generalize sdL (kS r1) 128 = lk1 at *
  generalize sdL (zS r1) 128 = lz1 at *
  generalize sdL (oS r1) 128 = lo1 at *
  (refine gw0 ?_; try exact True.intro)
  refine wpF_give1 (H.length + 2) 2 ?_
  (refine gw0 ?_; try exact True.intro)
  refine f16 (l := [false, true]) (by decide) ?_
  rw [hb]
  have hv : vec [false, true].length bq = .agg [.int 2, .ro .leaf (wdA 2 bq)] := rfl
  have hv2 : vec 2 bq = .agg [.int 2, .ro .leaf (wdA 2 bq)] := rfl
  rw [hv]
  rw [hv2] at h27
  generalize wdA 2 bq = W at *
  (refine gw0 ?_; try exact True.intro)
  refine h27 ?_
  (refine gw0 ?_; try exact True.intro)
  refine h24 ?_
  (refine gw2 @j1 @j2 ?_; try exact True.intro)
  refine ⟨rfl, rfl, drawn _ (f49 (x := b3) (y := b4) (z := d0) (w := d1) ⟨rfl, rfl⟩) ?_⟩
  rw [← j3, ← j4]
  unfold rowV
  (refine gw0 ?_; try exact True.intro)
  first | exact ⟨rfl, rfl, h⟩ | exact h | trace_state
end Go.Proofs.Ytjilenmngokhpaa

end

section
/-
  Layer 17 (iknp): IknpSends walked.
-/
open Go Go.V
namespace Go.Proofs.Ytjilenmngokhpaa
/-- trefoil/trefoillaw17.IknpSends (0:master, 1:from, 2:seed, 3:n, 4:count, 5:odd, 6:master, 12:, 13:m, 14:k, 15:a, 17:cols, 18:own, 19:i, 20:c, 21:j, 22:v, 24:q, 25:e, 26:w, 27:f, 42:, 51:, 56:, 77:) -/
def s7 : FnS := ⟨125, [0, 1, 2, 3, 4, 5, 6, 12, 13, 14, 15, 17, 18, 19, 20, 21, 22, 24, 25, 26, 27, 42, 51, 56, 77],
    (.seq (.reg [⟨.var 6, (.e (.box 46 (.arr 32 .leaf))), [.t 0], none⟩,
      ⟨.var 7, (.q .mv), [.c (.bool false)], none⟩])
    (.seq (.reg [⟨.new, (.q .mv), [.t 3], none⟩,
      ⟨.new, (.q (.cv .i64)), [.t 25], none⟩,
      ⟨.new, (.q (.bin .rem)), [.t 26, .c (.int 120)], none⟩,
      ⟨.new, (.q .mv), [.t 4], none⟩,
      ⟨.new, (.q (.bin .rem)), [.t 28, .c (.u8 16)], none⟩,
      ⟨.new, (.q (.cv .i64)), [.t 29], none⟩,
      ⟨.new, (.q (.bin .add)), [.c (.int 120), .t 30], none⟩,
      ⟨.var 8, (.q .mv), [.t 27], none⟩,
      ⟨.var 9, (.q .mv), [.t 31], none⟩])
    (.seq (.seq (.reg [⟨.new, (.q .mv), [.t 2], none⟩,
      ⟨.new, (.q .len), [.t 25], none⟩,
      ⟨.new, (.q (.bin .eql)), [.t 26, .c (.int 0)], none⟩,
      ⟨.new, (.q .mv), [.t 27], none⟩,
      ⟨.new, (.q .mv), [.t 2], (some (28, false))⟩,
      ⟨.new, (.q .len), [.t 29], (some (28, false))⟩,
      ⟨.new, (.q (.bin .gtr)), [.t 30, .c (.int 600)], (some (28, false))⟩,
      ⟨.var 21, (.q .pick), [.t 28, .c (.bool true), .t 31], none⟩])
    (.cond (.t 21) (.seq (.reg [⟨.new, (.call 22), [], none⟩,
      ⟨.var 7, (.q .mv), [.t 25], none⟩])
    .ret)
    .skip))
    (.seq (.reg [⟨.new, (.q (.ld (.arr 32 .leaf))), [.t 6], none⟩,
      ⟨.new, (.call 23), [.t 25, .c (.u64 0)], none⟩,
      ⟨.new, (.q .mv), [.t 26], none⟩,
      ⟨.new, (.q (.ext 0)), [.t 27], none⟩,
      ⟨.new, (.q (.ext 1)), [.t 27], none⟩,
      ⟨.var 10, (.e (.alloc 62 (.st [(.st [(.arr 2 .leaf), .leaf]), (.st [.leaf, .leaf])]) (.agg [(.agg [(.agg [(.u64 0), (.u64 0)]), .nils]), (.agg [.nils, .nils])]))), [], none⟩,
      ⟨.new, (.e (.alloc 62 (.st [(.st [(.arr 2 .leaf), .leaf]), (.st [.leaf, .leaf])]) (.agg [(.agg [(.agg [(.u64 0), (.u64 0)]), .nils]), (.agg [.nils, .nils])]))), [], none⟩,
      ⟨.none, (.e (.store (.st [(.st [(.arr 2 .leaf), .leaf]), (.st [.leaf, .leaf])]))), [.t 10, .t 28], none⟩,
      ⟨.none, (.e (.store (.st [(.st [(.arr 2 .leaf), .leaf]), (.st [.leaf, .leaf])]))), [.t 30, .t 29], none⟩])
    (.seq (.reg [⟨.var 11, (.q .mv), [.c .nils], none⟩])
    (.seq (.reg [⟨.var 12, (.q .mv), [.c .nils], none⟩])
    (.seq (.seq (.reg [⟨.var 13, (.q .mv), [.c (.int 0)], none⟩])
    (.block 0 (.loop (.seq (.seq (.reg [⟨.new, (.q .mv), [.t 13], none⟩,
      ⟨.new, (.q .mv), [.t 9], none⟩,
      ⟨.var 22, (.q (.bin .lss)), [.t 25, .t 26], none⟩])
    (.cond (.t 22) .skip
    (.exit 0)))
    (.seq (.block 1 (.seq (.reg [⟨.var 14, (.q .mv), [.c .nils], none⟩])
    (.seq (.seq (.reg [⟨.var 15, (.q .mv), [.c (.int 0)], none⟩])
    (.block 2 (.loop (.seq (.seq (.reg [⟨.new, (.q .mv), [.t 15], none⟩,
      ⟨.new, (.q .mv), [.t 8], none⟩,
      ⟨.var 23, (.q (.bin .lss)), [.t 25, .t 26], none⟩])
    (.cond (.t 23) .skip
    (.exit 2)))
    (.seq (.block 3 (.reg [⟨.new, (.q .mv), [.t 14], none⟩,
      ⟨.new, (.q .mv), [.t 2], none⟩,
      ⟨.new, (.q .mv), [.t 13], none⟩,
      ⟨.new, (.q (.bin .mul)), [.t 27, .c (.int 7)], none⟩,
      ⟨.new, (.q .mv), [.t 15], none⟩,
      ⟨.new, (.q .mv), [.t 15], none⟩,
      ⟨.new, (.q (.bin .mul)), [.t 29, .t 30], none⟩,
      ⟨.new, (.q (.bin .add)), [.t 28, .t 31], none⟩,
      ⟨.new, (.q .mv), [.t 2], none⟩,
      ⟨.new, (.q .len), [.t 33], none⟩,
      ⟨.new, (.q (.bin .rem)), [.t 32, .t 34], none⟩,
      ⟨.new, (.q (.iaS .leaf)), [.t 26, .t 35], none⟩,
      ⟨.new, (.q (.ld .leaf)), [.t 36], none⟩,
      ⟨.new, (.e (.bsl 4 .leaf (.bool false) 1 [0])), [.t 37], none⟩,
      ⟨.new, (.e (.app 4 .leaf 1)), [.t 25, .t 38], none⟩,
      ⟨.var 14, (.q .mv), [.t 39], none⟩]))
    (.reg [⟨.new, (.q .mv), [.t 15], none⟩,
      ⟨.new, (.q (.bin .add)), [.t 25, .c (.int 1)], none⟩,
      ⟨.var 15, (.q .mv), [.t 26], none⟩]))))))
    (.seq (.seq (.reg [⟨.new, (.q .mv), [.t 13], none⟩,
      ⟨.new, (.q .mv), [.t 5], none⟩,
      ⟨.new, (.q (.cv .i64)), [.t 26], none⟩,
      ⟨.var 24, (.q (.bin .eql)), [.t 25, .t 27], none⟩])
    (.cond (.t 24) (.reg [⟨.new, (.q .mv), [.t 14], none⟩,
      ⟨.new, (.e (.bsl 4 .leaf (.bool false) 1 [0])), [.c (.bool true)], none⟩,
      ⟨.new, (.e (.app 4 .leaf 1)), [.t 25, .t 26], none⟩,
      ⟨.var 14, (.q .mv), [.t 27], none⟩])
    .skip))
    (.seq (.reg [⟨.new, (.q .mv), [.t 14], none⟩,
      ⟨.new, (.call 16), [.t 25], none⟩,
      ⟨.new, (.q .mv), [.t 26], none⟩,
      ⟨.new, (.q (.ext 0)), [.t 27], none⟩,
      ⟨.new, (.q (.ext 1)), [.t 27], none⟩,
      ⟨.var 16, (.e (.alloc 37 (.st [.leaf, .leaf]) (.agg [(.int 0), .nils]))), [], none⟩,
      ⟨.none, (.e (.store (.st [.leaf, .leaf]))), [.t 16, .t 28], none⟩,
      ⟨.new, (.q .mv), [.t 29], none⟩])
    (.draw [⟨.none, (.pairs [(3, 5)]), [], none⟩,
      ⟨.new, (.q .mv), [.t 11], none⟩,
      ⟨.new, (.q .mv), [.t 14], none⟩,
      ⟨.new, (.e (.bsl 35 .leaf .nils 1 [0])), [.t 26], none⟩,
      ⟨.new, (.e (.app 35 .leaf 24)), [.t 25, .t 27], none⟩,
      ⟨.new, (.q .mv), [.t 12], none⟩,
      ⟨.new, (.q (.ld (.st [.leaf, .leaf]))), [.t 16], none⟩,
      ⟨.new, (.e (.bsl 37 (.st [.leaf, .leaf]) (.agg [(.int 0), .nils]) 1 [0])), [.t 30], none⟩,
      ⟨.new, (.e (.app 37 (.st [.leaf, .leaf]) 32)), [.t 29, .t 31], none⟩,
      ⟨.var 11, (.q .mv), [.t 28], none⟩,
      ⟨.var 12, (.q .mv), [.t 32], none⟩]))))))
    (.reg [⟨.new, (.q .mv), [.t 13], none⟩,
      ⟨.new, (.q (.bin .add)), [.t 25, .c (.int 1)], none⟩,
      ⟨.var 13, (.q .mv), [.t 26], none⟩]))))))
    (.seq (.reg [⟨.new, (.q (.fa [(.st [(.arr 2 .leaf), .leaf]), (.st [.leaf, .leaf])] 0)), [.t 10], none⟩,
      ⟨.new, (.q (.ld (.st [(.arr 2 .leaf), .leaf]))), [.t 25], none⟩,
      ⟨.new, (.q .mv), [.t 1], none⟩,
      ⟨.new, (.q .mv), [.t 12], none⟩,
      ⟨.new, (.call 24), [.t 26, .t 27, .t 28], none⟩,
      ⟨.new, (.q .mv), [.t 29], none⟩,
      ⟨.new, (.q (.ext 0)), [.t 30], none⟩,
      ⟨.new, (.q (.ext 1)), [.t 30], none⟩,
      ⟨.var 17, (.q .mv), [.t 31], none⟩,
      ⟨.var 18, (.q .mv), [.t 32], none⟩])
    (.seq (.reg [⟨.new, (.q (.fa [(.st [(.arr 2 .leaf), .leaf]), (.st [.leaf, .leaf])] 0)), [.t 10], none⟩,
      ⟨.new, (.q (.fa [(.arr 2 .leaf), .leaf] 0)), [.t 25], none⟩,
      ⟨.new, (.q (.ld (.arr 2 .leaf))), [.t 26], none⟩,
      ⟨.new, (.q (.fa [(.st [(.arr 2 .leaf), .leaf]), (.st [.leaf, .leaf])] 0)), [.t 10], none⟩,
      ⟨.new, (.q (.fa [(.arr 2 .leaf), .leaf] 1)), [.t 28], none⟩,
      ⟨.new, (.q (.ld .leaf)), [.t 29], none⟩,
      ⟨.new, (.q .mv), [.t 1], none⟩,
      ⟨.new, (.q .mv), [.t 11], none⟩,
      ⟨.new, (.call 25), [.t 27, .t 30, .t 31, .t 32], none⟩,
      ⟨.new, (.q .mv), [.t 33], none⟩,
      ⟨.new, (.q (.ext 0)), [.t 34], none⟩,
      ⟨.new, (.q (.ext 1)), [.t 34], none⟩,
      ⟨.var 19, (.q .mv), [.t 35], none⟩,
      ⟨.var 20, (.q .mv), [.t 36], none⟩])
    (.seq (.reg [⟨.new, (.q .mv), [.t 17], none⟩,
      ⟨.new, (.q .mv), [.t 19], none⟩,
      ⟨.new, (.call 26), [.t 25, .t 26], none⟩,
      ⟨.new, (.q .mv), [.t 27], none⟩,
      ⟨.new, (.q .mv), [.t 18], (some (28, true))⟩,
      ⟨.new, (.q .mv), [.t 20], (some (28, true))⟩,
      ⟨.new, (.q (.bin .eql)), [.t 29, .t 30], (some (28, true))⟩,
      ⟨.new, (.q .pick), [.t 28, .t 31, .c (.bool false)], none⟩,
      ⟨.new, (.q .mv), [.t 32], none⟩,
      ⟨.new, (.call 22), [], (some (33, true))⟩,
      ⟨.new, (.q .pick), [.t 33, .t 34, .c (.bool false)], none⟩,
      ⟨.var 7, (.q .mv), [.t 35], none⟩])
    .ret)))))))))),
    [.t 7]⟩

set_option maxRecDepth 100000
set_option linter.unusedSimpArgs false
set_option linter.unusedVariables false
theorem c7 : cF P [] (drP P []) 7 6 s7.vm = some s7 := by kernel_rfl
def I16o (b n : Nat) (f : Nat → Bool) (B : Option Blk) (H : Heap) (k : Nat) (st : St) : Prop :=
  ∃ (i : Nat) (u1 u2 u4 u5 : AV), st = ⟨[.own b n [] 0 n .leaf, .ptr H.length 0 [0] (.st [.leaf, .leaf]), .int 0, .ptr (H.length + 3) 0 [0] (.st [.leaf, .leaf]), .int 0, u1, u2, .bool false, .own b n [] 0 n .leaf, .int (n : Int), .int (i : Int), u4, u5],
    H ++ [rblk, B, wblk n (cut i f), vblk n (H.length + 2)]⟩ ∧ k = n - i ∧ i ≤ n
/-- bits of a list that the caller made -/
theorem f16o {K : AV → Heap → Prop} {H : Heap} {b n : Nat} {f : Nat → Bool} (hn : n ≤ 100000) (hg : ∀ X, Heap.get (H ++ X) b = boB n ((List.range n).map fun j => .bool (f j))) (h : K (.tup [vec n (cut n f), .int 0]) H) : wpF P [] 16 [.own b n [] 0 n .leaf] H K := by
  refine wpF_go c16 rfl 4 ?_
  intro ha hb
  simp only [s16]
  clear ha hb
  (refine gw0 ?_; try exact True.intro)
  refine f45 (by omega) ?_
  intro B
  have e2 : H.length + 1 + 1 = H.length + 2 := rfl
  (refine gw1 @e2 ?_; try exact True.intro)
  refine wp_inv (I16o b n f B H) n ⟨0, _, _, _, _, by rw [cut_zero]; rfl, rfl, by omega⟩ ?_
  rintro k st ⟨i, u1, u2, u4, u5, rfl, rfl, hi⟩
  unfold wblk vblk rblk
  unfold boB at hg
  by_cases hil : i < n
  · have h1 : ((i : Int) < (n : Int)) = True := by simp only [eq_iff_iff, iff_true]; omega
    have gl : ((List.range n).map fun j => AV.bool (f j))[i]? = some (.bool (f i)) := by rw [List.getElem?_map, List.getElem?_range hil]; rfl
    cases hb2 : f i with
    | false =>
      rw [hb2] at gl
      (refine gw3 @h1 @hg @gl ?_; try exact True.intro)
      (repeat (refine And.intro (by omega) ?_))
      refine ⟨n - (i + 1), by omega, i + 1, _, _, _, _, by rw [cut_false hb2]; rfl, rfl, by omega⟩
    | true =>
      rw [hb2] at gl
      have hd := tdiv64 i
      have hm := tmod64 i
      have he := sh64 i
      have hg2 := wdA_get (f := cut i f) hil
      have hw : i / 64 < nw n := by unfold nw; omega
      have hget := lget_at (ps := wdA n (cut i f)) (i := i / 64) (by rw [wdA_len]; exact hw)
      (refine gw9 @h1 @hg @gl @hb2 @hd @hm @he @hg2 @hget ?_; try exact True.intro)
      (repeat (refine And.intro (by omega) ?_))
      refine ⟨n - (i + 1), by omega, i + 1, _, _, _, _, by rw [wdA_or (cut_true hb2)]; rfl, rfl, by omega⟩
  · have h1 : ((i : Int) < (n : Int)) = False := by simp only [eq_iff_iff, iff_false]; omega
    have hie : i = n := by omega
    subst hie
    (refine gw2 @h1 @demA ?_; try exact True.intro)
    exact h
theorem f16bl {K : AV → Heap → Prop} {H L : Heap} {lo hi n : Nat} {c : AV} {f : Nat → Bool} (hn : n ≤ 100000) (hb : bl H.length L lo hi c n f) (h : K (.tup [vec n (cut n f), .int 0]) (H ++ L)) : wpF P [] 16 [c] (H ++ L) K := by
  rcases hb with ⟨rfl, rfl⟩ | ⟨h0, b, h1, h2, rfl, hg⟩
  · exact f16n h
  · exact f16o hn (fun X => by rw [List.append_assoc, hget_k]; exact Heap.get_some_append hg) h

/-- the columns of truths that the law makes -/
def oL (od : BitVec 8) (m i : Nat) : Nat := if i = od.toNat then m + 1 else m
def oG (sd : List Bool) (m i j : Nat) : Bool := if j < m then bfn sd ((i * 7 + j * j) % sd.length) else true
def oC (sd : List Bool) (od : BitVec 8) (m i : Nat) : Nat → Bool := cut (oL od m i) (oG sd m i)
theorem oL_le {od : BitVec 8} {m i : Nat} : oL od m i ≤ m + 1 := by unfold oL; split <;> omega
theorem rwA_congr {x y z w : Nat → BitVec 64} {n : Nat} (h : ∀ j, j < n → x j = z j ∧ y j = w j) : rwA x y n = rwA z w n := by
  unfold rwA
  refine rng_congr fun j hj => ?_
  rw [(h j hj).1, (h j hj).2]
theorem snd_both {ks : List (BitVec 8)} {a : BitVec 64} {sd : List Bool} {od : BitVec 8} {m k : Nat} (hm : m ≤ 1000) :
    ∃ (R : AV) (e : Int), (∀ K H, K (.tup [R, .int e]) H → wpF P [] 24 [.agg [.agg [.u64 (wdg ks 9 0), .u64 (wdg ks 9 1)], .ro (.arr 32 .leaf) (sdL (kS ks) 128)], .u64 a, .ro vS (veL (oL od m) (oC sd od m) k)] H K) ∧
      (∀ K H, K (.tup [R, .int e]) H → wpF P [] 25 [.agg [.u64 (wdg ks 9 0), .u64 (wdg ks 9 1)], .ro (.arr 32 .leaf) (sdL (kS ks) 128), .u64 a, .ro .leaf (teL (oL od m) (oG sd m) k)] H K) ∧
      (∀ K H, K (.bool true) H → wpF P [] 26 [R, R] H K) := by
  have hle : ∀ i, oL od m i ≤ 65536 := fun i => by have := oL_le (od := od) (m := m) (i := i); omega
  by_cases hk : k = 128
  · subst hk
    by_cases he : spn a (oL od m 0) = 0
    · obtain ⟨n1, n2, n3⟩ := spn_0 he
      by_cases hall : ∀ i, i < 128 → oL od m i = oL od m 0
      · refine ⟨_, 0, fun K H h => f24 (fun _ => kS_len) hle rfl he (fun ⟨i, hi, hn⟩ => absurd (hall i hi) hn) (fun _ => h), fun K H h => f25 (fun _ => kS_len) hle rfl he (fun ⟨i, hi, hn⟩ => absurd (hall i hi) hn) (fun _ => ?_), fun K H h => f26 (by have := oL_le (od := od) (m := m) (i := 0); omega) h⟩
        have e : ∀ hh j, j < oL od m 0 → cw (sF (wdg ks 9 0) (wdg ks 9 1) (kS ks) a.toNat (oL od m 0) (oG sd m)) hh j = cw (sF (wdg ks 9 0) (wdg ks 9 1) (kS ks) a.toNat (oL od m 0) (oC sd od m)) hh j := fun hh j hj => by
          unfold cw
          refine wd_congr fun i hi => ?_
          unfold sF oC
          by_cases hi2 : 64 * hh + i < 128
          · rw [show cut (oL od m (64 * hh + i)) (oG sd m (64 * hh + i)) j = oG sd m (64 * hh + i) j by rw [hall _ hi2]; simp [cut, hj]]
          · have : rb (wdg ks 9 0) (wdg ks 9 1) ((64 * hh + i : Nat) : Int) = false := by unfold rb; rw [if_neg (by omega), if_neg (by omega)]
            rw [this, Bool.false_and, Bool.false_and]
        rw [rwA_congr fun j hj => ⟨e 0 j hj, e 1 j hj⟩]
        exact h
      · have hx : ∃ i, i < 128 ∧ oL od m i ≠ oL od m 0 := by
          by_cases hq : ∃ i, i < 128 ∧ oL od m i ≠ oL od m 0
          · exact hq
          · exact absurd (fun i hi => Decidable.byContradiction fun hn => hq ⟨i, hi, hn⟩) hall
        exact ⟨.nils, 11, fun K H h => f24 (fun _ => kS_len) hle rfl he (fun _ => h) (fun hg => absurd hg hall), fun K H h => f25 (fun _ => kS_len) hle rfl he (fun _ => h) (fun hg => absurd hg hall), fun K H h => f26n h⟩
    · exact ⟨.nils, spn a (oL od m 0), fun K H h => f24e he h, fun K H h => f25e (by have := hle 0; omega) he h, fun K H h => f26n h⟩
  · exact ⟨.nils, 11, fun K H h => f24c hk h, fun K H h => f25c hk h, fun K H h => f26n h⟩

/-- the vectors that were made -/
def oV (N : Nat) (L : Heap) (o : AV) (i : Nat) (xs : List AV) : Prop :=
  (i = 0 ∧ o = .nils) ∨ (0 < i ∧ ∃ b, b < L.length ∧ o = .own (N + b) i [] 0 i vS ∧ Heap.get L b = vB i xs)
theorem oV.push {N : Nat} {L : Heap} {o : AV} {i : Nat} {xs : List AV} (h : oV N L o i xs) (X : Heap) : oV N (L ++ X) o i xs := by
  rcases h with h | ⟨h0, b, h1, h2, h3⟩
  · exact .inl h
  · exact .inr ⟨h0, b, by simp; omega, h2, Heap.get_some_append h3⟩
theorem oV.set4 {N : Nat} {L : Heap} {o : AV} {i : Nat} {xs : List AV} (h : oV N L o i xs) {a : Nat} {y : Option Blk} (ha : a < L.length) (hne : (Heap.get L a).map (·.e) ≠ some 37) : oV N (List.set L a y) o i xs := by
  rcases h with h | ⟨h0, b, h1, h2, h3⟩
  · exact .inl h
  · refine .inr ⟨h0, b, by simp; omega, h2, ?_⟩
    rw [Heap.get_set _ _ _ _ ha, if_neg, h3]
    intro e; subst e; rw [h3] at hne; exact hne rfl
theorem LL.set5 {N : Nat} {L : Heap} {B : Nat} {l : AV} {i k : Nat} {es ys : List AV} {m : Nat → Nat} {g : Nat → Nat → Bool} (h : LL N L B l i es m g) {b : Nat} {y : Option Blk} (hb : b < L.length) (hg : Heap.get L b = vB k ys) : LL N (List.set L b y) B l i es m g := by
  obtain ⟨h1, h2, h3, h4⟩ := h
  refine ⟨h1, by simp; omega, ?_, fun t ht => (h4 t ht).set hb (.inr (by rw [hg]; simp [vB]))⟩
  rcases h3 with h | ⟨h0, a, g1, g2, g3⟩
  · exact .inl h
  · refine .inr ⟨h0, a, g1, g2, ?_⟩
    rw [Heap.get_set _ _ _ _ hb, if_neg, g3]
    intro e; subst e; rw [hg] at g3; simp [vB, lsB] at g3
theorem demV {H L : Heap} {b i : Nat} {xs : List AV} {M d : Nat} (hg : Heap.get L b = vB i xs) (hl : xs.length = i) (hm : ∀ {kp : Nat → Bool} {N : Nat} {h : Heap} {d : Nat}, mapO (demK kp N h (d + 3)) xs = some xs) : demK (fun c => c != H.length + b) M (H ++ L) (d + 4) (.own (H.length + b) i [] 0 i vS) = some (.ro vS xs) := by
  rw [demK_own, if_neg (by simp)]
  have hr : rd (H ++ L) (.own (H.length + b) i [] 0 i vS) = some xs := by
    unfold rd
    simp only [hget_k, hg, vB, if_true, getP, List.drop_zero]
    rw [List.take_of_length_le (by omega)]
  rw [hr]
  simp only
  rw [hm]
  rfl
theorem mapO3 {f : AV → Option AV} {x y z x' y' z' : AV} (h1 : f x = some x') (h2 : f y = some y') (h3 : f z = some z') : mapO f [x, y, z] = some [x', y', z'] := by
  simp only [mapO, h1, h2, h3]
theorem mapO4 {f : AV → Option AV} {x y z w x' y' z' w' : AV} (h1 : f x = some x') (h2 : f y = some y') (h3 : f z = some z') (h4 : f w = some w') : mapO f [x, y, z, w] = some [x', y', z', w'] := by
  simp only [mapO, h1, h2, h3, h4]
theorem demSnd {kp : Nat → Bool} {N : Nat} {h : Heap} {d : Nat} {d0 d1 : BitVec 64} {lk : List AV} (hb : AV.bnds N lk = true) : demK kp N h (d + 3) (.agg [.agg [.u64 d0, .u64 d1], .ro (.arr 32 .leaf) lk]) = some (.agg [.agg [.u64 d0, .u64 d1], .ro (.arr 32 .leaf) lk]) := by
  rw [demK_agg]
  simp only [mapO]
  rw [dem_row, demK_roI hb]
  rfl
def acl (ks0 ks1 : List (BitVec 8)) : Option Blk := some ⟨62, 0, false, .arr 1 (.st [.st [.arr 2 .leaf, .leaf], .st [.leaf, .leaf]]), .agg [.agg [sndA ks0, rcvA ks1]]⟩
def I7a (M S A : AV) (a : BitVec 64) (sd : List Bool) (nn cc od : BitVec 8) (m q : Nat) (X : Option Blk) (H : Heap) (k : Nat) (st : St) : Prop :=
  ∃ (i : Nat) (l o c u15 u16 u22 u23 u24 : AV) (es : List AV) (B : Nat) (L : Heap), st = ⟨[M, .u64 a, S, .u8 nn, .u8 cc, .u8 od, .ptr H.length 0 [0] (.arr 32 .leaf), .bool false, .int (m : Int), .int (q : Int), A, l, o, .int (i : Int), c, u15, u16, .un, .un, .un, .un, .bool false, u22, u23, u24], H ++ L⟩ ∧ k = q - i ∧ i ≤ q ∧
    Heap.get L 1 = X ∧ 3 ≤ B ∧ LL H.length L B l i es (oL od m) (oG sd m) ∧ oV H.length L o i (veL (oL od m) (oC sd od m) i)
def I7b (M S A : AV) (a : BitVec 64) (sd : List Bool) (nn cc od : BitVec 8) (m q : Nat) (X : Option Blk) (i : Nat) (l o u16 u24 : AV) (es : List AV) (B : Nat) (H : Heap) (k : Nat) (st : St) : Prop :=
  ∃ (j : Nat) (c u23 : AV) (L : Heap), st = ⟨[M, .u64 a, S, .u8 nn, .u8 cc, .u8 od, .ptr H.length 0 [0] (.arr 32 .leaf), .bool false, .int (m : Int), .int (q : Int), A, l, o, .int (i : Int), c, .int (j : Int), u16, .un, .un, .un, .un, .bool false, .bool true, u23, u24], H ++ L⟩ ∧ k = m - j ∧ j ≤ m ∧
    Heap.get L 1 = X ∧ 3 ≤ B ∧ LL H.length L B l i es (oL od m) (oG sd m) ∧ oV H.length L o i (veL (oL od m) (oC sd od m) i) ∧ bl H.length L B L.length c j (oG sd m i)
set_option maxHeartbeats 4000000 in
theorem f7 {K : AV → Heap → Prop} {H : Heap} {ks : List (BitVec 8)} {a : BitVec 64} {sd : List Bool} {nn cc od : BitVec 8} (hk : ks.length = 32) (h : K (.bool true) H) : wpF P [] 7 [.agg (ks.map .u8), .u64 a, .ro .leaf (sd.map .bool), .u8 nn, .u8 cc, .u8 od] H K := by
  refine wpF_go c7 rfl 3 ?_
  intro ha hb
  simp only [s7]
  clear ha hb
  have ls : (sd.map AV.bool).length = sd.length := by simp
  have hc16 : (cc % 16).toNat < 16 := by rw [BitVec.toNat_umod]; exact Nat.mod_lt _ (by decide)
  have e120 : 120 + ((cc % 16).toNat : Int) = ((120 + (cc % 16).toNat : Nat) : Int) := by omega
  obtain ⟨q, hq⟩ : ∃ q, 120 + (cc % 16).toNat = q := ⟨_, rfl⟩
  rw [hq] at e120
  have em := tmod_nat nn.toNat 120 (by omega)
  have hm : nn.toNat % 120 < 120 := Nat.mod_lt _ (by omega)
  generalize nn.toNat % 120 = m at em hm
  have em' : Int.tmod (nn.toNat : Int) 120 = (m : Int) := em
  by_cases h0 : sd.length = 0
  · have h2 : ((sd.length : Int) = 0) = True := by simp only [eq_iff_iff, iff_true]; omega
    (refine gw5 @e120 @em' @ls @h2 @hk ?_; try exact True.intro)
    (repeat (refine And.intro (by omega) ?_))
    refine ⟨by decide, ?_⟩
    (repeat (refine And.intro (by omega) ?_))
    refine f22 ?_
    (refine gw0 ?_; try exact True.intro)
    exact h
  have h2 : ((sd.length : Int) = 0) = False := by simp only [eq_iff_iff, iff_false]; omega
  by_cases h6 : 600 < sd.length
  · have h1 : ((600 : Int) < (sd.length : Int)) = True := by simp only [eq_iff_iff, iff_true]; omega
    (refine gw6 @e120 @em' @ls @h2 @h1 @hk ?_; try exact True.intro)
    (repeat (refine And.intro (by omega) ?_))
    refine ⟨by decide, ?_⟩
    (repeat (refine And.intro (by omega) ?_))
    refine f22 ?_
    (refine gw0 ?_; try exact True.intro)
    exact h
  have h1 : ((600 : Int) < (sd.length : Int)) = False := by simp only [eq_iff_iff, iff_false]; omega
  (refine gw6 @e120 @em' @ls @h2 @h1 @hk ?_; try exact True.intro)
  (repeat (refine And.intro (by omega) ?_))
  refine ⟨by decide, ?_⟩
  (repeat (refine And.intro (by omega) ?_))
  refine f23 hk ?_
  generalize child (child ks 0) 0 = r0 at *
  generalize child (child ks 0) 1 = r1 at *
  obtain ⟨R, e, p24, p25, p26⟩ := snd_both (ks := r0) (a := a) (sd := sd) (od := od) (m := m) (k := q) (by omega)
  simp only [sndA, rcvA]
  have hblk : ∀ {k : Nat}, AV.bnds k (sdL (kS r0) 128) = true := bnds_sd
  generalize sdL (kS r0) 128 = lk at *
  generalize sdL (zS r0) 128 = lz at *
  generalize sdL (oS r0) 128 = lo at *
  generalize wdg r0 9 0 = d0 at *
  generalize wdg r0 9 1 = d1 at *
  generalize sdL (kS r1) 128 = lk1 at *
  generalize sdL (zS r1) 128 = lz1 at *
  generalize sdL (oS r1) 128 = lo1 at *
  generalize wdg r1 9 0 = x1 at *
  generalize wdg r1 9 1 = y1 at *
  (refine gw0 ?_; try exact True.intro)
  refine wp_inv (I7a _ _ _ a sd nn cc od m q (some ⟨62, 0, false, .arr 1 (.st [.st [.arr 2 .leaf, .leaf], .st [.leaf, .leaf]]), .agg [.agg [.agg [.agg [.u64 d0, .u64 d1], .ro (.arr 32 .leaf) lk], .agg [.ro (.arr 32 .leaf) lz1, .ro (.arr 32 .leaf) lo1]]]⟩) H) q ⟨0, _, _, _, _, _, _, _, _, [], 3, [_, _, _], rfl, rfl, by omega, rfl, by omega, ⟨rfl, by simp, .inl ⟨rfl, rfl⟩, fun t ht => absurd ht (Nat.not_lt_zero t)⟩, .inl ⟨rfl, rfl⟩⟩ ?_
  rintro κ st ⟨i, l, o, c, u15, u16, u22, u23, u24, es, B, L, rfl, rfl, hi, hX, hB3, hLL, hoV⟩
  by_cases hik : i < q
  · have h3 : ((i : Int) < (q : Int)) = True := by simp only [eq_iff_iff, iff_true]; omega
    (refine gw1 @h3 ?_; try exact True.intro)
    refine wp_inv (I7b _ _ _ a sd nn cc od m q _ i l o u16 u24 es B H) m ⟨0, .nils, _, L, rfl, rfl, by omega, hX, hB3, hLL, hoV, .inl ⟨rfl, rfl⟩⟩ ?_
    clear hLL hoV hX hB3
    rintro κ st ⟨j, c, u23, L, rfl, rfl, hj, hX, hB3, hLL, hoV, hc⟩
    have hBL := hLL.2.1
    by_cases hjm : j < m
    · have h4 : ((j : Int) < (m : Int)) = True := by simp only [eq_iff_iff, iff_true]; omega
      have e1 : (i : Int) * 7 = ((i * 7 : Nat) : Int) := by simp
      have e2 : (j : Int) * (j : Int) = ((j * j : Nat) : Int) := by simp
      have e3 : ((i * 7 : Nat) : Int) + ((j * j : Nat) : Int) = ((i * 7 + j * j : Nat) : Int) := by simp
      have e4 := tmod_nat (i * 7 + j * j) sd.length (by omega)
      have b2 : j * j ≤ 120 * 120 := Nat.mul_le_mul (by omega) (by omega)
      have hx : (i * 7 + j * j) % sd.length < sd.length := Nat.mod_lt _ (by omega)
      have hgv : oG sd m i j = bfn sd ((i * 7 + j * j) % sd.length) := by unfold oG; rw [if_pos hjm]
      have gl := ld_bfn hx
      rw [← hgv] at gl
      generalize (i * 7 + j * j) % sd.length = x at *
      generalize j * j = jj at *
      rcases hc with ⟨hj0, rfl⟩ | ⟨hj0, b, hb1, hb2, rfl, hgb⟩
      · (refine gw8 @h4 @e1 @e2 @e3 @e4 @gl @ls @h2 ?_; try exact True.intro)
        (repeat (refine And.intro (by omega) ?_))
        subst hj0
        exact ⟨m - 1, by omega, 1, _, _, _, rfl, rfl, by omega, Heap.get_some_append hX, hB3, hLL.push _, hoV.push _, by have := bl_new (N := H.length) (L := L) (lo := B) (f := oG sd m i) rfl hBL (some ⟨4, 0, true, .arr 1 .leaf, .agg [.bool (oG sd m i 0)]⟩); simpa using this⟩
      · have gb : ∀ X : List (Option Blk), Heap.get (L ++ X) b = boB j ((List.range j).map fun j => .bool (oG sd m i j)) := fun X => Heap.get_some_append hgb
        have sb : ∀ (X : List (Option Blk)) y, List.set (L ++ X) b y = List.set L b y ++ X := fun X y => List.set_append_left _ _ hb2
        have hne : (Heap.get L b).map (·.e) ≠ some 37 := by rw [hgb]; simp [boB]
        unfold boB at gb
        (refine gw10 @h4 @e1 @e2 @e3 @e4 @gl @ls @h2 @gb @sb ?_; try exact True.intro)
        (repeat (refine And.intro (by omega) ?_))
        exact ⟨m - (j + 1), by omega, j + 1, _, _, _, rfl, rfl, by omega, Heap.get_some_append (by rw [Heap.get_set _ _ _ _ (by omega), if_neg (by omega), hX]), hB3, (hLL.set hb1 hb2).push _, (hoV.set4 hb2 hne).push _, bl_app rfl hb1 hb2 _⟩
    · have h4 : ((m : Int) < (m : Int)) = False := by simp
      have hjm' : m = j := by omega
      subst hjm'
      have hgt : oG sd m i m = true := by unfold oG; rw [if_neg (by omega)]
      by_cases ho : i = od.toNat
      · have h5 : ((i : Int) = (od.toNat : Int)) = True := by rw [show ((od.toNat : Nat) : Int) = ((i : Nat) : Int) by rw [ho]]; simp
        have hol : oL od m i = m + 1 := if_pos ho
        rcases hc with ⟨hj0, rfl⟩ | ⟨hj0, b, hb1, hb2, rfl, hgb⟩
        · have hg0 : oG sd m i 0 = true := by unfold oG; rw [if_neg (by omega)]
          have hol1 : oL od m i = 1 := by omega
          have hcc0 := bl_new (N := H.length) (L := L) (lo := B) (f := oG sd m i) (v := true) hg0 hBL (some ⟨4, 0, true, .arr 1 .leaf, .agg [.bool true]⟩)
          have hcc1 : bl H.length (L ++ ([some ⟨4, 0, true, .arr 1 .leaf, .agg [.bool true]⟩, some ⟨4, 1, true, .arr 1 .leaf, .agg [.bool true]⟩] : List (Option Blk))) B (L ++ ([some ⟨4, 0, true, .arr 1 .leaf, .agg [.bool true]⟩, some ⟨4, 1, true, .arr 1 .leaf, .agg [.bool true]⟩] : List (Option Blk))).length (.own (H.length + (L.length + 1)) 1 [] 0 1 .leaf) (oL od m i) (oG sd m i) := by rw [hol1]; exact hcc0.mono2 (by simp)
          have hLL1 := hLL.push ([some ⟨4, 0, true, .arr 1 .leaf, .agg [.bool true]⟩, some ⟨4, 1, true, .arr 1 .leaf, .agg [.bool true]⟩] : List (Option Blk))
          have hoV1 := hoV.push ([some ⟨4, 0, true, .arr 1 .leaf, .agg [.bool true]⟩, some ⟨4, 1, true, .arr 1 .leaf, .agg [.bool true]⟩] : List (Option Blk))
          have hX1 : Heap.get (L ++ ([some ⟨4, 0, true, .arr 1 .leaf, .agg [.bool true]⟩, some ⟨4, 1, true, .arr 1 .leaf, .agg [.bool true]⟩] : List (Option Blk))) 1 = _ := Heap.get_some_append hX
          (refine gw2 @h4 @h5 ?_; try exact True.intro)
          (repeat (refine And.intro (by omega) ?_))
          clear hcc0 hLL hoV hX
          generalize L ++ ([some ⟨4, 0, true, .arr 1 .leaf, .agg [.bool true]⟩, some ⟨4, 1, true, .arr 1 .leaf, .agg [.bool true]⟩] : List (Option Blk)) = L2 at *
          generalize AV.own (H.length + (L.length + 1)) 1 [] 0 1 .leaf = cv at *
          have hcc := hcc1
          have hLL := hLL1
          have hoV := hoV1
          have hX := hX1
          clear hcc1 hLL1 hoV1 hX1
          have hcell := cell_m (bl_cell hcc)
          refine f16bl (by have := oL_le (od := od) (m := m) (i := i); omega) hcc ?_
          rw [show vec (oL od m i) (cut (oL od m i) (oG sd m i)) = .agg [.int ((oL od m i : Nat) : Int), .ro .leaf (wdA (oL od m i) (oC sd od m i))] from rfl]
          have hvs : veL (oL od m) (oC sd od m) i ++ [.agg [.int ((oL od m i : Nat) : Int), .ro .leaf (wdA (oL od m i) (oC sd od m i))]] = veL (oL od m) (oC sd od m) (i + 1) := veL_succ
          generalize wdA (oL od m i) (oC sd od m i) = W at *
          rcases hLL.2.2.1 with ⟨hi0, rfl⟩ | ⟨hi0, a1, ha1, rfl, hga⟩
          · rcases hoV with ⟨_, rfl⟩ | ⟨h0', _⟩
            rotate_left
            · omega
            (refine gw0 ?_; try exact True.intro)
            refine ⟨hcell, hcell, ?_⟩
            (repeat (refine And.intro (by omega) ?_))
            subst hi0
            have r1 := ((hLL.push [some ⟨37, 0, false, .arr 1 (.st [.leaf, .leaf]), .agg [.agg [.int ((oL od m 0 : Nat) : Int), .ro .leaf W]]⟩]).fin_nil ((hcc.push _).mono2 (by simp)) (some ⟨35, 0, true, .arr 1 .leaf, .agg [cv]⟩)).push [some ⟨37, 0, true, .arr 1 (.st [.leaf, .leaf]), .agg [.agg [.int ((oL od m 0 : Nat) : Int), .ro .leaf W]]⟩, some ⟨37, 1, true, .arr 1 (.st [.leaf, .leaf]), .agg [.agg [.int ((oL od m 0 : Nat) : Int), .ro .leaf W]]⟩]
            simp only [List.length_append, List.length_cons, List.length_nil, List.append_assoc, List.cons_append, List.nil_append] at r1
            refine ⟨q - 1, by omega, 1, _, _, _, _, _, _, _, _, _, _, _, rfl, rfl, by omega, Heap.get_some_append hX, by omega, r1, .inr ⟨by omega, L2.length + 4, by simp, rfl, ?_⟩⟩
            rw [hget_k, ← hvs]; rfl
          · rcases hoV with ⟨h0', _⟩ | ⟨_, b2, hb2, rfl, hg2⟩
            · omega
            have hBL := hLL.2.1
            have hbb : a1 ≠ b2 := fun e => by rw [e, hg2] at hga; simp [vB, lsB] at hga
            have ha10 : a1 ≠ 1 := fun e => by rw [e, hX] at hga; simp [lsB] at hga
            have hb20 : b2 ≠ 1 := fun e => by rw [e, hX] at hg2; simp [vB] at hg2
            obtain ⟨L3, hL3⟩ : ∃ L3, List.set L2 a1 (lsB (i + 1) (es ++ [cv])) = L3 := ⟨_, rfl⟩
            have lL3 : L3.length = L2.length := by rw [← hL3, List.length_set]
            have hg3 : Heap.get L3 b2 = vB i (veL (oL od m) (oC sd od m) i) := by rw [← hL3, Heap.get_set _ _ _ _ (by omega), if_neg (Ne.symm hbb), hg2]
            have hX3 : Heap.get L3 1 = Heap.get L2 1 := by rw [← hL3, Heap.get_set _ _ _ _ (by omega), if_neg (Ne.symm ha10)]
            rw [hX] at hX3
            have r1 := fun X => hLL.fin_own ha1 hga hcc X
            rw [hL3] at r1
            have hg3' := hg3
            have hbb' : (a1 = b2) = False := eq_false hbb
            have hbb2 : (b2 = a1) = False := eq_false (Ne.symm hbb)
            unfold lsB at hga hL3
            unfold vB vS at hg3
            have ga : ∀ X, Heap.get (L2 ++ X) a1 = _ := fun X => Heap.get_some_append hga
            have gb : ∀ X, Heap.get (L3 ++ X) b2 = _ := fun X => Heap.get_some_append hg3
            have sa : ∀ X y, List.set (L2 ++ X) a1 y = List.set L2 a1 y ++ X := fun X y => List.set_append_left _ _ (by omega)
            have sb : ∀ X y, List.set (L3 ++ X) b2 y = List.set L3 b2 y ++ X := fun X y => List.set_append_left _ _ (by omega)
            unfold vS
            have gv : ∀ (x : Option Blk) X, Heap.get (L3 ++ x :: X) L2.length = x := fun x X => by rw [← lL3, hget_0]; rfl
            (refine gw9 @ga @gb @sa @sb @hL3 @hbb' @hbb2 @hvs @gv ?_; try exact True.intro)
            refine ⟨hcell, hcell, ?_⟩
            (repeat (refine And.intro (by omega) ?_))
            have r2 := (r1 [some ⟨37, 0, false, .arr 1 (.st [.leaf, .leaf]), .agg [.agg [.int ((oL od m i : Nat) : Int), .ro .leaf W]]⟩, some ⟨35, 0, true, .arr 1 .leaf, .agg [cv]⟩, some ⟨37, 0, true, .arr 1 (.st [.leaf, .leaf]), .agg [.agg [.int ((oL od m i : Nat) : Int), .ro .leaf W]]⟩]).set5 (b := b2) (y := vB (i + 1) (veL (oL od m) (oC sd od m) (i + 1))) (by simp; omega) (Heap.get_some_append hg3')
            rw [sb] at r2
            refine ⟨q - (i + 1), by omega, i + 1, _, _, _, _, _, _, _, _, _, _, _, rfl, rfl, by omega, ?_, by omega, r2, .inr ⟨by omega, b2, by simp; omega, rfl, ?_⟩⟩
            · exact Heap.get_some_append (by rw [Heap.get_set _ _ _ _ (by omega), if_neg (Ne.symm hb20), hX3])
            · exact Heap.get_some_append (by rw [Heap.get_set _ _ _ _ (by omega), if_pos rfl]; rfl)
        · have gb : ∀ X : List (Option Blk), Heap.get (L ++ X) b = boB m ((List.range m).map fun j => .bool (oG sd m i j)) := fun X => Heap.get_some_append hgb
          have sb : ∀ (X : List (Option Blk)) y, List.set (L ++ X) b y = List.set L b y ++ X := fun X y => List.set_append_left _ _ hb2
          have hne : (Heap.get L b).map (·.e) ≠ some 37 := by rw [hgb]; simp [boB]
          unfold boB at gb
          have hcc0 := bl_app (N := H.length) (f := oG sd m i) (v := true) hgt hb1 hb2 [some ⟨4, 0, true, .arr 1 .leaf, .agg [.bool true]⟩]
          have hLL1 := (hLL.set (y := (some ⟨4, m + 1, true, .arr (m + 1) .leaf, .agg (((List.range m).map fun q => .bool (oG sd m i q)) ++ [.bool true])⟩)) hb1 hb2).push [some ⟨4, 0, true, .arr 1 .leaf, .agg [.bool true]⟩]
          have hoV1 := (hoV.set4 (y := (some ⟨4, m + 1, true, .arr (m + 1) .leaf, .agg (((List.range m).map fun q => .bool (oG sd m i q)) ++ [.bool true])⟩)) hb2 hne).push [some ⟨4, 0, true, .arr 1 .leaf, .agg [.bool true]⟩]
          have hX0 : Heap.get (List.set L b (some ⟨4, m + 1, true, .arr (m + 1) .leaf, .agg (((List.range m).map fun q => .bool (oG sd m i q)) ++ [.bool true])⟩)) 1 = Heap.get L 1 := by rw [Heap.get_set _ _ _ _ (by omega), if_neg (by omega)]
          rw [hX] at hX0
          have hX1 : Heap.get (List.set L b (some ⟨4, m + 1, true, .arr (m + 1) .leaf, .agg (((List.range m).map fun q => .bool (oG sd m i q)) ++ [.bool true])⟩) ++ ([some ⟨4, 0, true, .arr 1 .leaf, .agg [.bool true]⟩] : List (Option Blk))) 1 = _ := Heap.get_some_append hX0
          (refine gw4 @h4 @h5 @gb @sb ?_; try exact True.intro)
          (repeat (refine And.intro (by omega) ?_))
          clear hLL hoV hX hX0 gb sb hne
          generalize List.set L b (some ⟨4, m + 1, true, .arr (m + 1) .leaf, .agg (((List.range m).map fun q => .bool (oG sd m i q)) ++ [.bool true])⟩) ++ ([some ⟨4, 0, true, .arr 1 .leaf, .agg [.bool true]⟩] : List (Option Blk)) = L2 at *
          generalize AV.own (H.length + b) (m + 1) [] 0 (m + 1) .leaf = cv at *
          have hcc : bl H.length L2 B L2.length cv (oL od m i) (oG sd m i) := by rw [hol]; exact hcc0
          have hLL := hLL1
          have hoV := hoV1
          have hX := hX1
          clear hcc0 hLL1 hoV1 hX1
          have hcell := cell_m (bl_cell hcc)
          refine f16bl (by have := oL_le (od := od) (m := m) (i := i); omega) hcc ?_
          rw [show vec (oL od m i) (cut (oL od m i) (oG sd m i)) = .agg [.int ((oL od m i : Nat) : Int), .ro .leaf (wdA (oL od m i) (oC sd od m i))] from rfl]
          have hvs : veL (oL od m) (oC sd od m) i ++ [.agg [.int ((oL od m i : Nat) : Int), .ro .leaf (wdA (oL od m i) (oC sd od m i))]] = veL (oL od m) (oC sd od m) (i + 1) := veL_succ
          generalize wdA (oL od m i) (oC sd od m i) = W at *
          rcases hLL.2.2.1 with ⟨hi0, rfl⟩ | ⟨hi0, a1, ha1, rfl, hga⟩
          · rcases hoV with ⟨_, rfl⟩ | ⟨h0', _⟩
            rotate_left
            · omega
            (refine gw0 ?_; try exact True.intro)
            refine ⟨hcell, hcell, ?_⟩
            (repeat (refine And.intro (by omega) ?_))
            subst hi0
            have r1 := ((hLL.push [some ⟨37, 0, false, .arr 1 (.st [.leaf, .leaf]), .agg [.agg [.int ((oL od m 0 : Nat) : Int), .ro .leaf W]]⟩]).fin_nil ((hcc.push _).mono2 (by simp)) (some ⟨35, 0, true, .arr 1 .leaf, .agg [cv]⟩)).push [some ⟨37, 0, true, .arr 1 (.st [.leaf, .leaf]), .agg [.agg [.int ((oL od m 0 : Nat) : Int), .ro .leaf W]]⟩, some ⟨37, 1, true, .arr 1 (.st [.leaf, .leaf]), .agg [.agg [.int ((oL od m 0 : Nat) : Int), .ro .leaf W]]⟩]
            simp only [List.length_append, List.length_cons, List.length_nil, List.append_assoc, List.cons_append, List.nil_append] at r1
            refine ⟨q - 1, by omega, 1, _, _, _, _, _, _, _, _, _, _, _, rfl, rfl, by omega, Heap.get_some_append hX, by omega, r1, .inr ⟨by omega, L2.length + 4, by simp, rfl, ?_⟩⟩
            rw [hget_k, ← hvs]; rfl
          · rcases hoV with ⟨h0', _⟩ | ⟨_, b2, hb2, rfl, hg2⟩
            · omega
            have hBL := hLL.2.1
            have hbb : a1 ≠ b2 := fun e => by rw [e, hg2] at hga; simp [vB, lsB] at hga
            have ha10 : a1 ≠ 1 := fun e => by rw [e, hX] at hga; simp [lsB] at hga
            have hb20 : b2 ≠ 1 := fun e => by rw [e, hX] at hg2; simp [vB] at hg2
            obtain ⟨L3, hL3⟩ : ∃ L3, List.set L2 a1 (lsB (i + 1) (es ++ [cv])) = L3 := ⟨_, rfl⟩
            have lL3 : L3.length = L2.length := by rw [← hL3, List.length_set]
            have hg3 : Heap.get L3 b2 = vB i (veL (oL od m) (oC sd od m) i) := by rw [← hL3, Heap.get_set _ _ _ _ (by omega), if_neg (Ne.symm hbb), hg2]
            have hX3 : Heap.get L3 1 = Heap.get L2 1 := by rw [← hL3, Heap.get_set _ _ _ _ (by omega), if_neg (Ne.symm ha10)]
            rw [hX] at hX3
            have r1 := fun X => hLL.fin_own ha1 hga hcc X
            rw [hL3] at r1
            have hg3' := hg3
            have hbb' : (a1 = b2) = False := eq_false hbb
            have hbb2 : (b2 = a1) = False := eq_false (Ne.symm hbb)
            unfold lsB at hga hL3
            unfold vB vS at hg3
            have ga : ∀ X, Heap.get (L2 ++ X) a1 = _ := fun X => Heap.get_some_append hga
            have gb : ∀ X, Heap.get (L3 ++ X) b2 = _ := fun X => Heap.get_some_append hg3
            have sa : ∀ X y, List.set (L2 ++ X) a1 y = List.set L2 a1 y ++ X := fun X y => List.set_append_left _ _ (by omega)
            have sb : ∀ X y, List.set (L3 ++ X) b2 y = List.set L3 b2 y ++ X := fun X y => List.set_append_left _ _ (by omega)
            unfold vS
            have gv : ∀ (x : Option Blk) X, Heap.get (L3 ++ x :: X) L2.length = x := fun x X => by rw [← lL3, hget_0]; rfl
            (refine gw9 @ga @gb @sa @sb @hL3 @hbb' @hbb2 @hvs @gv ?_; try exact True.intro)
            refine ⟨hcell, hcell, ?_⟩
            (repeat (refine And.intro (by omega) ?_))
            have r2 := (r1 [some ⟨37, 0, false, .arr 1 (.st [.leaf, .leaf]), .agg [.agg [.int ((oL od m i : Nat) : Int), .ro .leaf W]]⟩, some ⟨35, 0, true, .arr 1 .leaf, .agg [cv]⟩, some ⟨37, 0, true, .arr 1 (.st [.leaf, .leaf]), .agg [.agg [.int ((oL od m i : Nat) : Int), .ro .leaf W]]⟩]).set5 (b := b2) (y := vB (i + 1) (veL (oL od m) (oC sd od m) (i + 1))) (by simp; omega) (Heap.get_some_append hg3')
            rw [sb] at r2
            refine ⟨q - (i + 1), by omega, i + 1, _, _, _, _, _, _, _, _, _, _, _, rfl, rfl, by omega, ?_, by omega, r2, .inr ⟨by omega, b2, by simp; omega, rfl, ?_⟩⟩
            · exact Heap.get_some_append (by rw [Heap.get_set _ _ _ _ (by omega), if_neg (Ne.symm hb20), hX3])
            · exact Heap.get_some_append (by rw [Heap.get_set _ _ _ _ (by omega), if_pos rfl]; rfl)
      · have h5 : ((i : Int) = (od.toNat : Int)) = False := by simp only [eq_iff_iff, iff_false]; omega
        have hol : oL od m i = m := if_neg ho
        have hcc : bl H.length L B L.length c (oL od m i) (oG sd m i) := by rw [hol]; exact hc
        (refine gw2 @h4 @h5 ?_; try exact True.intro)
        have hcell := cell_m (bl_cell hcc)
        refine f16bl (by have := oL_le (od := od) (m := m) (i := i); omega) hcc ?_
        rw [show vec (oL od m i) (cut (oL od m i) (oG sd m i)) = .agg [.int ((oL od m i : Nat) : Int), .ro .leaf (wdA (oL od m i) (oC sd od m i))] from rfl]
        have hvs : veL (oL od m) (oC sd od m) i ++ [.agg [.int ((oL od m i : Nat) : Int), .ro .leaf (wdA (oL od m i) (oC sd od m i))]] = veL (oL od m) (oC sd od m) (i + 1) := veL_succ
        generalize wdA (oL od m i) (oC sd od m i) = W at *
        rcases hLL.2.2.1 with ⟨hi0, rfl⟩ | ⟨hi0, a1, ha1, rfl, hga⟩
        · rcases hoV with ⟨_, rfl⟩ | ⟨h0', _⟩
          rotate_left
          · omega
          (refine gw0 ?_; try exact True.intro)
          refine ⟨hcell, hcell, ?_⟩
          (repeat (refine And.intro (by omega) ?_))
          subst hi0
          have r1 := ((hLL.push [some ⟨37, 0, false, .arr 1 (.st [.leaf, .leaf]), .agg [.agg [.int ((oL od m 0 : Nat) : Int), .ro .leaf W]]⟩]).fin_nil ((hcc.push _).mono2 (by simp)) (some ⟨35, 0, true, .arr 1 .leaf, .agg [c]⟩)).push [some ⟨37, 0, true, .arr 1 (.st [.leaf, .leaf]), .agg [.agg [.int ((oL od m 0 : Nat) : Int), .ro .leaf W]]⟩, some ⟨37, 1, true, .arr 1 (.st [.leaf, .leaf]), .agg [.agg [.int ((oL od m 0 : Nat) : Int), .ro .leaf W]]⟩]
          simp only [List.length_append, List.length_cons, List.length_nil, List.append_assoc, List.cons_append, List.nil_append] at r1
          refine ⟨q - 1, by omega, 1, _, _, _, _, _, _, _, _, _, _, _, rfl, rfl, by omega, Heap.get_some_append hX, by omega, r1, .inr ⟨by omega, L.length + 4, by simp, rfl, ?_⟩⟩
          rw [hget_k, ← hvs]; rfl
        · rcases hoV with ⟨h0', _⟩ | ⟨_, b2, hb2, rfl, hg2⟩
          · omega
          have hBL := hLL.2.1
          have hbb : a1 ≠ b2 := fun e => by rw [e, hg2] at hga; simp [vB, lsB] at hga
          have ha10 : a1 ≠ 1 := fun e => by rw [e, hX] at hga; simp [lsB] at hga
          have hb20 : b2 ≠ 1 := fun e => by rw [e, hX] at hg2; simp [vB] at hg2
          obtain ⟨L3, hL3⟩ : ∃ L3, List.set L a1 (lsB (i + 1) (es ++ [c])) = L3 := ⟨_, rfl⟩
          have lL3 : L3.length = L.length := by rw [← hL3, List.length_set]
          have hg3 : Heap.get L3 b2 = vB i (veL (oL od m) (oC sd od m) i) := by rw [← hL3, Heap.get_set _ _ _ _ (by omega), if_neg (Ne.symm hbb), hg2]
          have hX3 : Heap.get L3 1 = Heap.get L 1 := by rw [← hL3, Heap.get_set _ _ _ _ (by omega), if_neg (Ne.symm ha10)]
          rw [hX] at hX3
          have r1 := fun X => hLL.fin_own ha1 hga hcc X
          rw [hL3] at r1
          have hg3' := hg3
          have hbb' : (a1 = b2) = False := eq_false hbb
          have hbb2 : (b2 = a1) = False := eq_false (Ne.symm hbb)
          unfold lsB at hga hL3
          unfold vB vS at hg3
          have ga : ∀ X, Heap.get (L ++ X) a1 = _ := fun X => Heap.get_some_append hga
          have gb : ∀ X, Heap.get (L3 ++ X) b2 = _ := fun X => Heap.get_some_append hg3
          have sa : ∀ X y, List.set (L ++ X) a1 y = List.set L a1 y ++ X := fun X y => List.set_append_left _ _ (by omega)
          have sb : ∀ X y, List.set (L3 ++ X) b2 y = List.set L3 b2 y ++ X := fun X y => List.set_append_left _ _ (by omega)
          unfold vS
          have gv : ∀ (x : Option Blk) X, Heap.get (L3 ++ x :: X) L.length = x := fun x X => by rw [← lL3, hget_0]; rfl
          (refine gw9 @ga @gb @sa @sb @hL3 @hbb' @hbb2 @hvs @gv ?_; try exact True.intro)
          refine ⟨hcell, hcell, ?_⟩
          (repeat (refine And.intro (by omega) ?_))
          have r2 := (r1 [some ⟨37, 0, false, .arr 1 (.st [.leaf, .leaf]), .agg [.agg [.int ((oL od m i : Nat) : Int), .ro .leaf W]]⟩, some ⟨35, 0, true, .arr 1 .leaf, .agg [c]⟩, some ⟨37, 0, true, .arr 1 (.st [.leaf, .leaf]), .agg [.agg [.int ((oL od m i : Nat) : Int), .ro .leaf W]]⟩]).set5 (b := b2) (y := vB (i + 1) (veL (oL od m) (oC sd od m) (i + 1))) (by simp; omega) (Heap.get_some_append hg3')
          rw [sb] at r2
          refine ⟨q - (i + 1), by omega, i + 1, _, _, _, _, _, _, _, _, _, _, _, rfl, rfl, by omega, ?_, by omega, r2, .inr ⟨by omega, b2, by simp; omega, rfl, ?_⟩⟩
          · exact Heap.get_some_append (by rw [Heap.get_set _ _ _ _ (by omega), if_neg (Ne.symm hb20), hX3])
          · exact Heap.get_some_append (by rw [Heap.get_set _ _ _ _ (by omega), if_pos rfl]; rfl)
  · have h3 : ((i : Int) < (q : Int)) = False := by simp only [eq_iff_iff, iff_false]; omega
    have hie : i = q := by omega
    subst hie
    have hi120 : 0 < i := by omega
    rcases hoV with ⟨h0', _⟩ | ⟨_, b2, hb2, rfl, hg2⟩
    · omega
    have hb20 : b2 ≠ 1 := fun e => by rw [e, hX] at hg2; simp [vB] at hg2
    have hLL2 := hLL.set5 (y := none) hb2 hg2
    have hX2 : Heap.get (List.set L b2 none) 1 = Heap.get L 1 := by rw [Heap.get_set _ _ _ _ hb2, if_neg (Ne.symm hb20)]
    rw [hX] at hX2
    have lt : List.take i (veL (oL od m) (oC sd od m) i) = veL (oL od m) (oC sd od m) i := List.take_of_length_le (by rw [veL_len]; exact Nat.le_refl _)
    have mo : ∀ {kp : Nat → Bool} {N : Nat} {h : Heap} {d : Nat}, mapO (demK kp N h (d + 3)) (veL (oL od m) (oC sd od m) i) = some (veL (oL od m) (oC sd od m) i) := mapO_veL
    have r2 := fun M d => hLL2.dem (H := H) (M := M) (d := d) (by omega)
    have hg2' := hg2
    unfold vB vS at hg2
    obtain ⟨L', hL'⟩ : ∃ L', List.set L b2 none = L' := ⟨_, rfl⟩
    rw [hL'] at r2 hX2
    have hd := demV (H := H) (d := 1) (M := (H ++ L).length) (i := i) (xs := veL (oL od m) (oC sd od m) i) hg2' (by rw [veL_len]) mo
    unfold vS at hd
    unfold vS
    (refine gw2 @h3 @hX ?_; try exact True.intro)
    refine wpF_give (args' := [.agg [.agg [.u64 d0, .u64 d1], .ro (.arr 32 .leaf) lk], .u64 a, .ro (.st [.leaf, .leaf]) (veL (oL od m) (oC sd od m) i)]) (fun b => b != H.length + b2) 5 ?_ ?_
    · exact mapO3 (demSnd hblk) demK_u64 hd
    rw [kill_set (Nat.zero_le _), Nat.sub_zero, hset_k, hL']
    refine p24 _ _ ?_
    (refine gw1 @hX2 ?_; try exact True.intro)
    refine wpF_give (args' := [.agg [.u64 d0, .u64 d1], .ro (.arr 32 .leaf) lk, .u64 a, .ro .leaf (teL (oL od m) (oG sd m) i)]) (fun b => decide (b < H.length)) 4 ?_ ?_
    · exact mapO4 (dem_row (d := 2)) (demK_roI hblk) demK_u64 (r2 _ 1)
    rw [kill_own]
    refine p25 _ _ ?_
    (refine gw0 ?_; try exact True.intro)
    refine p26 _ _ ?_
    (refine gw0 ?_; try exact True.intro)
    refine f22 ?_
    (refine gw0 ?_; try exact True.intro)
    exact h

end Go.Proofs.Ytjilenmngokhpaa

end
