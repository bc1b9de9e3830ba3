/-
  Layer 17 (iknp): what both make of each other; awake.
-/
import Derived.Test.YtjilenmngokhpaaZg
import Derived.Test.YtjilenmngokhpaaV38
import Derived.Test.YtjilenmngokhpaaV44
section
open Go Go.V
namespace Go.Proofs.Ytjilenmngokhpaa
/-- trefoil/trefoillaw17.awake (0:, 1:a, 2:b, 3:c, 5:u, 6:t, 7:e, 8:q, 9:f) -/
def s22 : FnS := ⟨74, [0, 1, 2, 3, 5, 6, 7, 8, 9],
    (.seq (.reg [⟨.var 0, (.q .mv), [.c (.bool false)], none⟩])
    (.seq (.reg [⟨.new, (.e (.bld (.arr 32 .leaf) (.agg [(.u8 0), (.u8 0), (.u8 0), (.u8 0), (.u8 0), (.u8 0), (.u8 0), (.u8 0), (.u8 0), (.u8 0), (.u8 0), (.u8 0), (.u8 0), (.u8 0), (.u8 0), (.u8 0), (.u8 0), (.u8 0), (.u8 0), (.u8 0), (.u8 0), (.u8 0), (.u8 0), (.u8 0), (.u8 0), (.u8 0), (.u8 0), (.u8 0), (.u8 0), (.u8 0), (.u8 0), (.u8 0)]) [0])), [.c (.u8 3)], none⟩,
      ⟨.new, (.call 23), [.t 9, .c (.u64 0)], none⟩,
      ⟨.new, (.q .mv), [.t 10], none⟩,
      ⟨.new, (.q (.ext 0)), [.t 11], none⟩,
      ⟨.new, (.q (.ext 1)), [.t 11], none⟩,
      ⟨.var 1, (.e (.alloc 62 (.st [(.st [(.arr 2 .leaf), .leaf]), (.st [.leaf, .leaf])]) (.agg [(.agg [(.agg [(.u64 0), (.u64 0)]), .nils]), (.agg [.nils, .nils])]))), [], none⟩,
      ⟨.var 2, (.e (.alloc 62 (.st [(.st [(.arr 2 .leaf), .leaf]), (.st [.leaf, .leaf])]) (.agg [(.agg [(.agg [(.u64 0), (.u64 0)]), .nils]), (.agg [.nils, .nils])]))), [], none⟩,
      ⟨.none, (.e (.store (.st [(.st [(.arr 2 .leaf), .leaf]), (.st [.leaf, .leaf])]))), [.t 1, .t 12], none⟩,
      ⟨.none, (.e (.store (.st [(.st [(.arr 2 .leaf), .leaf]), (.st [.leaf, .leaf])]))), [.t 2, .t 13], none⟩])
    (.seq (.reg [⟨.new, (.e (.bsl 4 .leaf (.bool false) 2 [0, 1])), [.c (.bool false), .c (.bool true)], none⟩,
      ⟨.new, (.call 16), [.t 9], none⟩,
      ⟨.new, (.q .mv), [.t 10], none⟩,
      ⟨.new, (.q (.ext 0)), [.t 11], none⟩,
      ⟨.new, (.q (.ext 1)), [.t 11], none⟩,
      ⟨.var 3, (.e (.alloc 37 (.st [.leaf, .leaf]) (.agg [(.int 0), .nils]))), [], none⟩,
      ⟨.none, (.e (.store (.st [.leaf, .leaf]))), [.t 3, .t 12], none⟩,
      ⟨.new, (.q .mv), [.t 13], none⟩])
    (.seq (.reg [⟨.new, (.q (.fa [(.st [(.arr 2 .leaf), .leaf]), (.st [.leaf, .leaf])] 1)), [.t 2], none⟩,
      ⟨.new, (.q (.ld (.st [.leaf, .leaf]))), [.t 9], none⟩,
      ⟨.new, (.q (.ld (.st [.leaf, .leaf]))), [.t 3], none⟩,
      ⟨.new, (.call 27), [.t 10, .c (.u64 0), .t 11], none⟩,
      ⟨.new, (.q .mv), [.t 12], none⟩,
      ⟨.new, (.q (.ext 0)), [.t 13], none⟩,
      ⟨.new, (.q (.ext 1)), [.t 13], none⟩,
      ⟨.new, (.q (.ext 2)), [.t 13], none⟩,
      ⟨.var 4, (.q .mv), [.t 14], none⟩,
      ⟨.var 5, (.q .mv), [.t 15], none⟩,
      ⟨.var 6, (.q .mv), [.t 16], none⟩])
    (.seq (.reg [⟨.new, (.q (.fa [(.st [(.arr 2 .leaf), .leaf]), (.st [.leaf, .leaf])] 0)), [.t 1], none⟩,
      ⟨.new, (.q (.ld (.st [(.arr 2 .leaf), .leaf]))), [.t 9], none⟩,
      ⟨.new, (.q .mv), [.t 4], none⟩,
      ⟨.new, (.call 24), [.t 10, .c (.u64 0), .t 11], none⟩,
      ⟨.new, (.q .mv), [.t 12], none⟩,
      ⟨.new, (.q (.ext 0)), [.t 13], none⟩,
      ⟨.new, (.q (.ext 1)), [.t 13], none⟩,
      ⟨.var 7, (.q .mv), [.t 14], none⟩,
      ⟨.var 8, (.q .mv), [.t 15], none⟩])
    (.seq (.draw [⟨.new, (.q .mv), [.t 6], none⟩,
      ⟨.new, (.q (.bin .eql)), [.t 9, .c (.int 0)], none⟩,
      ⟨.new, (.q .mv), [.t 10], none⟩,
      ⟨.new, (.q .mv), [.t 8], (some (11, true))⟩,
      ⟨.new, (.q .mv), [.t 6], (some (11, true))⟩,
      ⟨.new, (.q (.bin .eql)), [.t 12, .t 13], (some (11, true))⟩,
      ⟨.new, (.q .pick), [.t 11, .t 14, .c (.bool false)], none⟩,
      ⟨.new, (.q .mv), [.t 15], none⟩,
      ⟨.new, (.q .mv), [.t 5], (some (16, true))⟩,
      ⟨.new, (.q .len), [.t 17], (some (16, true))⟩,
      ⟨.new, (.q (.bin .eql)), [.t 18, .c (.int 2)], (some (16, true))⟩,
      ⟨.new, (.q .pick), [.t 16, .t 19, .c (.bool false)], none⟩,
      ⟨.new, (.q .mv), [.t 20], none⟩,
      ⟨.new, (.q .mv), [.t 7], (some (21, true))⟩,
      ⟨.new, (.q .len), [.t 22], (some (21, true))⟩,
      ⟨.new, (.q (.bin .eql)), [.t 23, .c (.int 2)], (some (21, true))⟩,
      ⟨.new, (.q .pick), [.t 21, .t 24, .c (.bool false)], none⟩,
      ⟨.new, (.q .mv), [.t 25], none⟩,
      ⟨.new, (.q .mv), [.t 7], (some (26, true))⟩,
      ⟨.new, (.q (.iaS (.arr 2 .leaf))), [.t 27, .c (.int 0)], (some (26, true))⟩,
      ⟨.new, (.q (.ld (.arr 2 .leaf))), [.t 28], (some (26, true))⟩,
      ⟨.new, (.q .mv), [.t 5], (some (26, true))⟩,
      ⟨.new, (.q (.iaS (.arr 2 .leaf))), [.t 30, .c (.int 0)], (some (26, true))⟩,
      ⟨.new, (.q (.ld (.arr 2 .leaf))), [.t 31], (some (26, true))⟩,
      ⟨.new, (.q (.eqA false 2 .u64)), [.t 29, .t 32], (some (26, true))⟩,
      ⟨.new, (.q .pick), [.t 26, .t 33, .c (.bool false)], none⟩,
      ⟨.new, (.q .mv), [.t 34], none⟩,
      ⟨.new, (.q .mv), [.t 7], (some (35, true))⟩,
      ⟨.new, (.q (.iaS (.arr 2 .leaf))), [.t 36, .c (.int 1)], (some (35, true))⟩,
      ⟨.new, (.q (.ld (.arr 2 .leaf))), [.t 37], (some (35, true))⟩,
      ⟨.new, (.q .mv), [.t 5], (some (35, true))⟩,
      ⟨.new, (.q (.iaS (.arr 2 .leaf))), [.t 39, .c (.int 1)], (some (35, true))⟩,
      ⟨.new, (.q (.ld (.arr 2 .leaf))), [.t 40], (some (35, true))⟩,
      ⟨.new, (.q (.fa [(.st [(.arr 2 .leaf), .leaf]), (.st [.leaf, .leaf])] 0)), [.t 1], (some (35, true))⟩,
      ⟨.new, (.q (.fa [(.arr 2 .leaf), .leaf] 0)), [.t 42], (some (35, true))⟩,
      ⟨.new, (.q (.ld (.arr 2 .leaf))), [.t 43], (some (35, true))⟩,
      ⟨.new, (.call 49), [.t 41, .t 44], (some (35, true))⟩,
      ⟨.new, (.q (.eqA false 2 .u64)), [.t 38, .t 45], (some (35, true))⟩,
      ⟨.new, (.q .pick), [.t 35, .t 46, .c (.bool false)], none⟩,
      ⟨.var 0, (.q .mv), [.t 47], none⟩])
    .ret)))))),
    [.t 0]⟩

set_option maxRecDepth 100000
set_option linter.unusedSimpArgs false
set_option linter.unusedVariables false
theorem c22 : cF P [] (drP P []) 22 0 s22.vm = some s22 := by kernel_rfl
theorem rb_wd {x y : BitVec 64} : wd (fun i => rb x y (i : Int)) 0 = x ∧ wd (fun i => rb x y (i : Int)) 1 = y := by
  constructor
  · refine (wd_of fun j hj => ?_).symm
    unfold rb
    rw [if_pos (by omega)]
    exact congrArg _ (by omega)
  · refine (wd_of fun j hj => ?_).symm
    unfold rb
    rw [if_neg (by omega), if_pos (by omega)]
    exact congrArg _ (by omega)
/-- the columns of who sends are those of who chooses, changed where the bit is 1 and 1 was chosen -/
theorem sF_uF {d0 d1 : BitVec 64} {fk fz fo : Nat → List (BitVec 8)} (hk : ∀ i, fk i = if rb d0 d1 (i : Int) = true then fo i else fz i) {a n : Nat} {c : Nat → Bool} {i j : Nat} :
    sF d0 d1 fk a n (uF fz fo a n c) i j = (clF fz a n i j != (c j && rb d0 d1 (i : Int))) := by
  unfold sF uF clF
  rw [hk]
  cases rb d0 d1 (i : Int)
  · simp
  · rw [if_pos rfl]
    generalize cl (fz i) a n j = p
    generalize cl (fo i) a n j = q
    generalize c j = r
    cases p <;> cases q <;> cases r <;> rfl
theorem cw_sF {d0 d1 : BitVec 64} {fk fz fo : Nat → List (BitVec 8)} (hk : ∀ i, fk i = if rb d0 d1 (i : Int) = true then fo i else fz i) {a n : Nat} {c : Nat → Bool} {j : Nat} :
    jrow d0 d1 (c j) (cw (sF d0 d1 fk a n (uF fz fo a n c)) 0 j) (cw (sF d0 d1 fk a n (uF fz fo a n c)) 1 j) (cw (clF fz a n) 0 j) (cw (clF fz a n) 1 j) = true := by
  have e : ∀ h, cw (sF d0 d1 fk a n (uF fz fo a n c)) h j = cw (clF fz a n) h j ^^^ wd (fun i => c j && rb d0 d1 (i : Int)) h := fun h => by
    unfold cw
    rw [wd_xor]
    exact wd_congr fun i hi => sF_uF hk
  unfold jrow
  rw [decide_eq_true_eq, e, e]
  cases c j
  · rw [if_neg (by decide), if_neg (by decide)]
    simp only [Bool.false_and, wd_false]
    exact ⟨trivial, trivial⟩
  · rw [if_pos rfl, if_pos rfl]
    simp only [Bool.true_and, rb_wd.1, rb_wd.2]
    exact ⟨trivial, trivial⟩
theorem jns_all {d0 d1 : BitVec 64} {x y z w : Nat → BitVec 64} {c : Nat → Bool} : ∀ {n : Nat}, (∀ j, j < n → jrow d0 d1 (c j) (x j) (y j) (z j) (w j) = true) → jns d0 d1 x y z w c n = true
  | 0, _ => rfl
  | n + 1, h => by rw [jns, jns_all fun j hj => h j (by omega), h n (by omega)]; rfl
theorem kS_if {ks : List (BitVec 8)} {i : Nat} : kS ks i = if rb (wdg ks 9 0) (wdg ks 9 1) (i : Int) = true then oS ks i else zS ks i := rfl
theorem jns_deal {ks : List (BitVec 8)} {a n : Nat} {c c' : Nat → Bool} (hc : ∀ j, j < n → c' j = c j) :
    jns (wdg ks 9 0) (wdg ks 9 1) (cw (sF (wdg ks 9 0) (wdg ks 9 1) (kS ks) a n (uF (zS ks) (oS ks) a n c)) 0) (cw (sF (wdg ks 9 0) (wdg ks 9 1) (kS ks) a n (uF (zS ks) (oS ks) a n c)) 1) (cw (clF (zS ks) a n) 0) (cw (clF (zS ks) a n) 1) c' n = true :=
  jns_all fun j hj => by rw [hc j hj]; exact cw_sF fun i => kS_if
theorem f22 {K : AV → Heap → Prop} {H : Heap} (h : K (.bool true) H) : wpF P [] 22 [] H K := by
  refine wpF_go c22 rfl 3 ?_
  intro ha hb
  simp only [s22]
  clear ha hb
  (refine gw0 ?_; try exact True.intro)
  generalize hks : [(3 : BitVec 8), 0, 0, 0, 0, 0, 0, 0, 0, 0, 0, 0, 0, 0, 0, 0, 0, 0, 0, 0, 0, 0, 0, 0, 0, 0, 0, 0, 0, 0, 0, 0] = ks
  have hk : ks.length = 32 := by rw [← hks]; rfl
  have hka : AV.agg [AV.u8 3, AV.u8 0, AV.u8 0, AV.u8 0, AV.u8 0, AV.u8 0, AV.u8 0, AV.u8 0, AV.u8 0, AV.u8 0, AV.u8 0, AV.u8 0, AV.u8 0, AV.u8 0, AV.u8 0, AV.u8 0, AV.u8 0, AV.u8 0, AV.u8 0, AV.u8 0, AV.u8 0, AV.u8 0, AV.u8 0, AV.u8 0, AV.u8 0, AV.u8 0, AV.u8 0, AV.u8 0, AV.u8 0, AV.u8 0, AV.u8 0, AV.u8 0] = .agg (ks.map .u8) := by rw [← hks]; rfl
  rw [hka]
  refine f23 hk ?_
  simp only [sndA, rcvA]
  have hx := child_len (child ks 0) 0
  generalize child (child ks 0) 0 = r0 at *
  generalize child (child ks 0) 1 = r1 at *
  have he : spn 0 ((2 : Nat) : Int) = 0 := rfl
  have h27 : ∀ {K : AV → Heap → Prop} {H : Heap}, K (.tup [.ro vS (veL (fun _ => 2) (uF (zS r0) (oS r0) 0 2 (bfn [false, true])) 128), .ro (.arr 2 .leaf) (rwA (cw (clF (zS r0) 0 2) 0) (cw (clF (zS r0) 0 2) 1) 2), .int 0]) H → wpF P [] 27 [.agg [.ro (.arr 32 .leaf) (sdL (zS r0) 128), .ro (.arr 32 .leaf) (sdL (oS r0) 128)], .u64 0, vec 2 (bfn [false, true])] H K := fun h => f27 (fun _ => zS_len) (fun _ => oS_len) he h
  have h24 : ∀ {K : AV → Heap → Prop} {H : Heap}, K (.tup [.ro (.arr 2 .leaf) (rwA (cw (sF (wdg r0 9 0) (wdg r0 9 1) (kS r0) 0 2 (uF (zS r0) (oS r0) 0 2 (bfn [false, true]))) 0) (cw (sF (wdg r0 9 0) (wdg r0 9 1) (kS r0) 0 2 (uF (zS r0) (oS r0) 0 2 (bfn [false, true]))) 1) 2), .int 0]) H → wpF P [] 24 [.agg [.agg [.u64 (wdg r0 9 0), .u64 (wdg r0 9 1)], .ro (.arr 32 .leaf) (sdL (kS r0) 128)], .u64 0, .ro vS (veL (fun _ => 2) (uF (zS r0) (oS r0) 0 2 (bfn [false, true])) 128)] H K := fun h => f24 (fun _ => kS_len) (fun _ => by omega) rfl he (fun ⟨_, _, hn⟩ => absurd rfl hn) (fun _ => h)
  have hj := jns_deal (ks := r0) (a := 0) (n := 2) (c := bfn [false, true]) (c' := bfn [false, true]) (fun _ _ => rfl)
  have hq : ∀ x y : Nat → BitVec 64, rwA x y 2 = [.agg [.u64 (x 0), .u64 (y 0)], .agg [.u64 (x 1), .u64 (y 1)]] := fun _ _ => rfl
  simp only [hq] at h24 h27
  simp only [jns, jrow, Bool.true_and, Bool.and_eq_true, decide_eq_true_eq] at hj
  obtain ⟨⟨j1, j2⟩, j3, j4⟩ := hj
  rw [show (if bfn [false, true] 0 = true then wdg r0 9 0 else 0) = 0 from rfl] at j1
  rw [show (if bfn [false, true] 0 = true then wdg r0 9 1 else 0) = 0 from rfl] at j2
  rw [show (if bfn [false, true] 1 = true then wdg r0 9 0 else 0) = wdg r0 9 0 from rfl] at j3
  rw [show (if bfn [false, true] 1 = true then wdg r0 9 1 else 0) = wdg r0 9 1 from rfl] at j4
  have z0 : ∀ x : BitVec 64, x ^^^ 0 = x := fun x => by simp
  rw [z0] at j1 j2
  generalize hb : bfn [false, true] = bq at *
  generalize cw (sF (wdg r0 9 0) (wdg r0 9 1) (kS r0) 0 2 (uF (zS r0) (oS r0) 0 2 bq)) 0 0 = a1 at *
  generalize cw (sF (wdg r0 9 0) (wdg r0 9 1) (kS r0) 0 2 (uF (zS r0) (oS r0) 0 2 bq)) 1 0 = a2 at *
  generalize cw (sF (wdg r0 9 0) (wdg r0 9 1) (kS r0) 0 2 (uF (zS r0) (oS r0) 0 2 bq)) 0 1 = a3 at *
  generalize cw (sF (wdg r0 9 0) (wdg r0 9 1) (kS r0) 0 2 (uF (zS r0) (oS r0) 0 2 bq)) 1 1 = a4 at *
  have hbu : ∀ {k : Nat}, AV.bnds k (veL (fun _ => 2) (uF (zS r0) (oS r0) 0 2 bq) 128) = true := bnds_veL
  generalize veL (fun _ => 2) (uF (zS r0) (oS r0) 0 2 bq) 128 = U at *
  generalize cw (clF (zS r0) 0 2) 0 0 = b1 at *
  generalize cw (clF (zS r0) 0 2) 1 0 = b2 at *
  generalize cw (clF (zS r0) 0 2) 0 1 = b3 at *
  generalize cw (clF (zS r0) 0 2) 1 1 = b4 at *
  generalize sdL (kS r0) 128 = lk at *
  generalize sdL (zS r0) 128 = lz at *
  generalize sdL (oS r0) 128 = lo at *
  generalize wdg r0 9 0 = d0 at *
  generalize wdg r0 9 1 = d1 at *
  generalize sdL (kS r1) 128 = lk1 at *
  generalize sdL (zS r1) 128 = lz1 at *
  generalize sdL (oS r1) 128 = lo1 at *
  (refine gw0 ?_; try exact True.intro)
  refine wpF_give1 (H.length + 2) 2 ?_
  (refine gw0 ?_; try exact True.intro)
  refine f16 (l := [false, true]) (by decide) ?_
  rw [hb]
  have hv : vec [false, true].length bq = .agg [.int 2, .ro .leaf (wdA 2 bq)] := rfl
  have hv2 : vec 2 bq = .agg [.int 2, .ro .leaf (wdA 2 bq)] := rfl
  rw [hv]
  rw [hv2] at h27
  generalize wdA 2 bq = W at *
  (refine gw0 ?_; try exact True.intro)
  refine h27 ?_
  (refine gw0 ?_; try exact True.intro)
  refine h24 ?_
  (refine gw2 @j1 @j2 ?_; try exact True.intro)
  refine ⟨rfl, rfl, drawn _ (f49 (x := b3) (y := b4) (z := d0) (w := d1) ⟨rfl, rfl⟩) ?_⟩
  rw [← j3, ← j4]
  unfold rowV
  (refine gw0 ?_; try exact True.intro)
  first | exact ⟨rfl, rfl, h⟩ | exact h | trace_state
end Go.Proofs.Ytjilenmngokhpaa

end

section
/-
  Layer 17 (iknp): IknpReceives walked.
-/
open Go Go.V
namespace Go.Proofs.Ytjilenmngokhpaa
/-- trefoil/trefoillaw17.IknpReceives (0:master, 1:from, 2:choices, 3:lack, 4:master, 8:, 9:a, 11:r, 12:v, 14:u, 15:t, 16:e, 17:c, 18:w, 19:f, 20:i, 23:, 38:, 82:, 86:, 99:) -/
def s8 : FnS := ⟨101, [0, 1, 2, 3, 4, 8, 9, 11, 12, 14, 15, 16, 17, 18, 19, 20, 23, 38, 82, 86, 99],
    (.seq (.reg [⟨.var 4, (.e (.box 46 (.arr 32 .leaf))), [.t 0], none⟩,
      ⟨.var 5, (.q .mv), [.c (.bool false)], none⟩])
    (.seq (.seq (.reg [⟨.new, (.q .mv), [.t 2], none⟩,
      ⟨.new, (.q .len), [.t 21], none⟩,
      ⟨.var 16, (.q (.bin .gtr)), [.t 22, .c (.int 200)], none⟩])
    (.cond (.t 16) (.seq (.reg [⟨.new, (.call 22), [], none⟩,
      ⟨.var 5, (.q .mv), [.t 21], none⟩])
    .ret)
    .skip))
    (.seq (.reg [⟨.new, (.q (.ld (.arr 32 .leaf))), [.t 4], none⟩,
      ⟨.new, (.call 23), [.t 21, .c (.u64 0)], none⟩,
      ⟨.new, (.q .mv), [.t 22], none⟩,
      ⟨.new, (.q (.ext 0)), [.t 23], none⟩,
      ⟨.new, (.q (.ext 1)), [.t 23], none⟩,
      ⟨.var 6, (.e (.alloc 62 (.st [(.st [(.arr 2 .leaf), .leaf]), (.st [.leaf, .leaf])]) (.agg [(.agg [(.agg [(.u64 0), (.u64 0)]), .nils]), (.agg [.nils, .nils])]))), [], none⟩,
      ⟨.new, (.e (.alloc 62 (.st [(.st [(.arr 2 .leaf), .leaf]), (.st [.leaf, .leaf])]) (.agg [(.agg [(.agg [(.u64 0), (.u64 0)]), .nils]), (.agg [.nils, .nils])]))), [], none⟩,
      ⟨.none, (.e (.store (.st [(.st [(.arr 2 .leaf), .leaf]), (.st [.leaf, .leaf])]))), [.t 6, .t 24], none⟩,
      ⟨.none, (.e (.store (.st [(.st [(.arr 2 .leaf), .leaf]), (.st [.leaf, .leaf])]))), [.t 26, .t 25], none⟩])
    (.seq (.reg [⟨.new, (.q (.fa [(.st [(.arr 2 .leaf), .leaf]), (.st [.leaf, .leaf])] 1)), [.t 6], none⟩,
      ⟨.new, (.q (.ld (.st [.leaf, .leaf]))), [.t 21], none⟩,
      ⟨.var 7, (.e (.alloc 60 (.st [.leaf, .leaf]) (.agg [.nils, .nils]))), [], none⟩,
      ⟨.none, (.e (.store (.st [.leaf, .leaf]))), [.t 7, .t 22], none⟩])
    (.seq (.seq (.reg [⟨.new, (.q .mv), [.t 3], none⟩,
      ⟨.new, (.q .mv), [.t 21], none⟩,
      ⟨.new, (.q (.fa [.leaf, .leaf] 1)), [.t 7], (some (22, true))⟩,
      ⟨.new, (.q (.ld .leaf)), [.t 23], (some (22, true))⟩,
      ⟨.new, (.q .len), [.t 24], (some (22, true))⟩,
      ⟨.new, (.q (.bin .gtr)), [.t 25, .c (.int 0)], (some (22, true))⟩,
      ⟨.var 17, (.q .pick), [.t 22, .t 26, .c (.bool false)], none⟩])
    (.cond (.t 17) (.reg [⟨.new, (.q (.fa [.leaf, .leaf] 1)), [.t 7], none⟩,
      ⟨.new, (.q (.ld .leaf)), [.t 21], none⟩,
      ⟨.new, (.q (.slV (.arr 32 .leaf) true false)), [.t 22, .c (.int 1)], none⟩,
      ⟨.new, (.q (.fa [.leaf, .leaf] 1)), [.t 7], none⟩,
      ⟨.none, (.e (.store .leaf)), [.t 24, .t 23], none⟩])
    .skip))
    (.seq (.reg [⟨.new, (.q .mv), [.t 2], none⟩,
      ⟨.new, (.call 16), [.t 21], none⟩,
      ⟨.new, (.q .mv), [.t 22], none⟩,
      ⟨.new, (.q (.ext 0)), [.t 23], none⟩,
      ⟨.new, (.q (.ext 1)), [.t 23], none⟩,
      ⟨.var 8, (.e (.alloc 37 (.st [.leaf, .leaf]) (.agg [(.int 0), .nils]))), [], none⟩,
      ⟨.none, (.e (.store (.st [.leaf, .leaf]))), [.t 8, .t 24], none⟩,
      ⟨.new, (.q .mv), [.t 25], none⟩])
    (.seq (.reg [⟨.new, (.q (.ld (.st [.leaf, .leaf]))), [.t 7], none⟩,
      ⟨.new, (.q .mv), [.t 1], none⟩,
      ⟨.new, (.q (.ld (.st [.leaf, .leaf]))), [.t 8], none⟩,
      ⟨.new, (.call 27), [.t 21, .t 22, .t 23], none⟩,
      ⟨.new, (.q .mv), [.t 24], none⟩,
      ⟨.new, (.q (.ext 0)), [.t 25], none⟩,
      ⟨.new, (.q (.ext 1)), [.t 25], none⟩,
      ⟨.new, (.q (.ext 2)), [.t 25], none⟩,
      ⟨.var 9, (.q .mv), [.t 26], none⟩,
      ⟨.var 10, (.q .mv), [.t 27], none⟩,
      ⟨.var 11, (.q .mv), [.t 28], none⟩])
    (.seq (.reg [⟨.new, (.q (.fa [.leaf, .leaf] 0)), [.t 7], none⟩,
      ⟨.new, (.q (.ld .leaf)), [.t 21], none⟩,
      ⟨.new, (.q (.fa [.leaf, .leaf] 1)), [.t 7], none⟩,
      ⟨.new, (.q (.ld .leaf)), [.t 23], none⟩,
      ⟨.new, (.q .mv), [.t 1], none⟩,
      ⟨.new, (.q .mv), [.t 2], none⟩,
      ⟨.new, (.call 28), [.t 22, .t 24, .t 25, .t 26], none⟩,
      ⟨.new, (.q .mv), [.t 27], none⟩,
      ⟨.new, (.q (.ext 0)), [.t 28], none⟩,
      ⟨.new, (.q (.ext 1)), [.t 28], none⟩,
      ⟨.new, (.q (.ext 2)), [.t 28], none⟩,
      ⟨.var 12, (.q .mv), [.t 29], none⟩,
      ⟨.var 13, (.q .mv), [.t 30], none⟩,
      ⟨.var 14, (.q .mv), [.t 31], none⟩])
    (.seq (.seq (.reg [⟨.new, (.q .mv), [.t 11], none⟩,
      ⟨.new, (.q .mv), [.t 14], none⟩,
      ⟨.new, (.q (.bin .neq)), [.t 21, .t 22], none⟩,
      ⟨.new, (.q .mv), [.t 23], none⟩,
      ⟨.new, (.q .mv), [.t 10], (some (24, false))⟩,
      ⟨.new, (.q .mv), [.t 13], (some (24, false))⟩,
      ⟨.new, (.call 26), [.t 25, .t 26], (some (24, false))⟩,
      ⟨.new, (.q (.un .not)), [.t 27], (some (24, false))⟩,
      ⟨.new, (.q .pick), [.t 24, .c (.bool true), .t 28], none⟩,
      ⟨.new, (.q .mv), [.t 29], none⟩,
      ⟨.new, (.q .mv), [.t 9], (some (30, false))⟩,
      ⟨.new, (.q .len), [.t 31], (some (30, false))⟩,
      ⟨.new, (.q .mv), [.t 12], (some (30, false))⟩,
      ⟨.new, (.q .len), [.t 33], (some (30, false))⟩,
      ⟨.new, (.q (.bin .neq)), [.t 32, .t 34], (some (30, false))⟩,
      ⟨.var 18, (.q .pick), [.t 30, .c (.bool true), .t 35], none⟩])
    (.cond (.t 18) (.seq (.reg [⟨.var 5, (.q .mv), [.c (.bool false)], none⟩])
    .ret)
    .skip))
    (.seq (.seq (.reg [⟨.var 15, (.q .mv), [.c (.int 0)], none⟩])
    (.block 0 (.loop (.seq (.seq (.reg [⟨.new, (.q .mv), [.t 15], none⟩,
      ⟨.new, (.q .mv), [.t 12], none⟩,
      ⟨.new, (.q .len), [.t 22], none⟩,
      ⟨.var 19, (.q (.bin .lss)), [.t 21, .t 23], none⟩])
    (.cond (.t 19) .skip
    (.exit 0)))
    (.seq (.block 1 (.seq (.draw [⟨.new, (.q .mv), [.t 9], none⟩,
      ⟨.new, (.q .mv), [.t 15], none⟩,
      ⟨.new, (.q (.iaS (.st [.leaf, .leaf]))), [.t 21, .t 22], none⟩,
      ⟨.new, (.q (.ld (.st [.leaf, .leaf]))), [.t 23], none⟩,
      ⟨.new, (.call 30), [.t 24], none⟩,
      ⟨.new, (.q .mv), [.t 12], none⟩,
      ⟨.new, (.q .mv), [.t 15], none⟩,
      ⟨.new, (.q (.iaS .leaf)), [.t 26, .t 27], none⟩,
      ⟨.new, (.q (.ld .leaf)), [.t 28], none⟩,
      ⟨.new, (.call 29), [.t 25, .t 29], none⟩,
      ⟨.var 20, (.q (.un .not)), [.t 30], none⟩])
    (.cond (.t 20) (.seq (.reg [⟨.var 5, (.q .mv), [.c (.bool false)], none⟩])
    .ret)
    .skip)))
    (.reg [⟨.new, (.q .mv), [.t 15], none⟩,
      ⟨.new, (.q (.bin .add)), [.t 21, .c (.int 1)], none⟩,
      ⟨.var 15, (.q .mv), [.t 22], none⟩]))))))
    (.seq (.reg [⟨.new, (.call 22), [], none⟩,
      ⟨.var 5, (.q .mv), [.t 21], none⟩])
    .ret))))))))))),
    [.t 5]⟩

set_option maxRecDepth 100000
set_option linter.unusedSimpArgs false
set_option linter.unusedVariables false
theorem c8 : cF P [] (drP P []) 8 4 s8.vm = some s8 := by kernel_rfl
theorem boL_map2 {cs : List Bool} : cs.map AV.bool = boL (bfn cs) cs.length := by
  unfold boL
  apply List.ext_getElem?
  intro i
  by_cases h : i < cs.length
  · rw [List.getElem?_map, List.getElem?_map, List.getElem?_range h, List.getElem?_eq_getElem h]
    simp [bfn, h]
  · rw [List.getElem?_eq_none (by simp; omega), List.getElem?_eq_none (by simp; omega)]
theorem sdL_drop {f : Nat → List (BitVec 8)} : List.drop 1 (sdL f 128) = sdL (fun i => f (i + 1)) 127 := by
  unfold sdL
  apply List.ext_getElem?
  intro i
  by_cases h : i < 127
  · rw [List.getElem?_drop, List.getElem?_map, List.getElem?_map, List.getElem?_range h, List.getElem?_range (by omega), Nat.add_comm]
    rfl
  · rw [List.getElem?_eq_none (by simp; omega), List.getElem?_eq_none (by simp; omega)]
theorem f29s {K : AV → Heap → Prop} {H : Heap} {f : Nat → Bool} {n : Nat} (h : K (.bool true) H) : wpF P [] 29 [.ro .leaf (boL f n), .ro .leaf (boL f n)] H K := by
  have e : boL f n = ((List.range n).map f).map .bool := by unfold boL; rw [List.map_map]; rfl
  rw [e]
  exact f29r (by simpa using h)
def I8 (v0 v1 v2 v3 v4 v5 v6 v7 v8 v9 v10 v11 v12 v13 v14 : AV) (G : Heap) (k : Nat) (st : St) : Prop :=
  ∃ (i : Nat) (u19 u20 : AV), st = ⟨[v0, v1, v2, v3, v4, v5, v6, v7, v8, v9, v10, v11, v12, v13, v14, .int (i : Int), .bool false, .bool false, .bool false, u19, u20], G⟩ ∧ k = 128 - i ∧ i ≤ 128
theorem f8 {K : AV → Heap → Prop} {H : Heap} {ks : List (BitVec 8)} {a : BitVec 64} {cs : List Bool} {t : Bool} (hk : ks.length = 32) (h : K (.bool true) H) : wpF P [] 8 [.agg (ks.map .u8), .u64 a, .ro .leaf (cs.map .bool), .bool t] H K := by
  refine wpF_go c8 rfl 3 ?_
  intro ha hb
  simp only [s8]
  clear ha hb
  by_cases h1 : 200 < cs.length
  · have lc : (cs.map AV.bool).length = cs.length := by simp
    have e1 : ((200 : Int) < (cs.length : Int)) = True := by simp only [eq_iff_iff, iff_true]; omega
    (refine gw3 @hk @lc @e1 ?_; try exact True.intro)
    refine f22 ?_
    (refine gw0 ?_; try exact True.intro)
    exact h
  have e1 : ((200 : Int) < (cs.length : Int)) = False := by simp only [eq_iff_iff, iff_false]; omega
  have hn : cs.length ≤ 100000 := by omega
  have h16 : ∀ {K : AV → Heap → Prop} {H : Heap}, K (.tup [.agg [.int (cs.length : Int), .ro .leaf (wdA cs.length (bfn cs))], .int 0]) H → wpF P [] 16 [.ro .leaf (boL (bfn cs) cs.length)] H K := fun h => by rw [← boL_map2]; exact f16 (by omega) h
  rw [boL_map2]
  have lb : (boL (bfn cs) cs.length).length = cs.length := by simp [boL]
  (refine gw3 @hk @lb @e1 ?_; try exact True.intro)
  refine f23 hk ?_
  simp only [sndA, rcvA]
  generalize child (child ks 0) 0 = r0 at *
  generalize child (child ks 0) 1 = r1 at *
  generalize hkn : cs.length = n at *
  generalize hcb : bfn cs = c at *
  have hv : vec n c = .agg [.int (n : Int), .ro .leaf (wdA n c)] := rfl
  have ll : (sdL (oS r1) 128).length = 128 := sdL_len
  have ll2 : (sdL (fun i => oS r1 (i + 1)) 127).length = 127 := sdL_len
  have dr := sdL_drop (f := oS r1)
  have dt : List.take 127 (sdL (fun i => oS r1 (i + 1)) 127) = sdL (fun i => oS r1 (i + 1)) 127 := List.take_of_length_le (by rw [ll2]; exact Nat.le_refl _)
  by_cases he : spn a n = 0
  · have p27 := fun K H => @f27 K H (zS r1) (oS r1) a n c (fun _ => zS_len) (fun _ => oS_len) he
    have p28 := fun K H => @f28 K H (zS r1) (oS r1) a n c (fun _ => zS_len) (fun _ => oS_len) he
    have z27 := fun K H => @f27s K H (zS r1) (fun i => oS r1 (i + 1)) a n 128 127 c he (.inr (by decide))
    have z28 := fun K H => @f28s K H (zS r1) (fun i => oS r1 (i + 1)) a n 128 127 c he (.inr (by decide))
    rw [hv] at p27 z27
    obtain ⟨n1, n2, n3⟩ := spn_0 he
    have gu : ∀ i, i < 128 → (veL (fun _ => n) (uF (zS r1) (oS r1) a.toNat n c) 128).getD i .un = .agg [.int (n : Int), .ro .leaf (wdA n (uF (zS r1) (oS r1) a.toNat n c i))] := fun i hi => veL_get hi
    have gt : ∀ i, i < 128 → (teL (fun _ => n) (uF (zS r1) (oS r1) a.toNat n c) 128).getD i .un = .ro .leaf (boL (uF (zS r1) (oS r1) a.toNat n c i) n) := fun i hi => by rw [teL_get hi]; exact bel_pos (by omega)
    have lu := veL_len (m := fun _ => n) (f := uF (zS r1) (oS r1) a.toNat n c) (t := 128)
    have lt := teL_len (m := fun _ => n) (f := uF (zS r1) (oS r1) a.toNat n c) (t := 128)
    have h26 := fun K H => @f26 K H (cw (clF (zS r1) a.toNat n) 0) (cw (clF (zS r1) a.toNat n) 1) n (by omega)
    have h30 := fun K H i => @f30 K H n (uF (zS r1) (oS r1) a.toNat n c i) (by omega)
    have h29 := fun K H i => @f29s K H (uF (zS r1) (oS r1) a.toNat n c i) n
    simp only [vec] at h30
    generalize veL (fun _ => n) (uF (zS r1) (oS r1) a.toNat n c) 128 = UL at *
    generalize teL (fun _ => n) (uF (zS r1) (oS r1) a.toNat n c) 128 = TL at *
    generalize rwA (cw (clF (zS r1) a.toNat n) 0) (cw (clF (zS r1) a.toNat n) 1) n = R at *
    obtain ⟨X, hX⟩ : ∃ X, uF (zS r1) (oS r1) a.toNat n c = X := ⟨_, rfl⟩
    rw [hX] at gu gt h30 h29
    clear hX
    generalize sdL (fun i => oS r1 (i + 1)) 127 = lo1 at *
    generalize sdL (oS r1) 128 = lo at *
    generalize sdL (zS r1) 128 = lz at *
    generalize sdL (kS r1) 128 = lk1 at *
    generalize sdL (kS r0) 128 = lk0 at *
    generalize sdL (zS r0) 128 = lz0 at *
    generalize sdL (oS r0) 128 = lo0 at *
    generalize wdg r0 9 0 = x0 at *
    generalize wdg r0 9 1 = y0 at *
    generalize wdg r1 9 0 = x1 at *
    generalize wdg r1 9 1 = y1 at *
    generalize boL c n = C at *
    generalize wdA n c = W at *
    have e128 : ((128 : Nat) : Int) = 128 := rfl
    cases t
    · (refine gw1 @ll ?_; try exact True.intro)
      refine h16 ?_
      (refine gw0 ?_; try exact True.intro)
      refine p27 _ _ ?_
      (refine gw0 ?_; try exact True.intro)
      refine p28 _ _ ?_
      (refine gw0 ?_; try exact True.intro)
      refine h26 _ _ ?_
      (refine gw3 @lu @lt @e128 ?_; try exact True.intro)
      refine wp_inv (I8 _ _ _ _ _ _ _ _ _ _ _ _ _ _ _ _) 128 ⟨0, _, _, rfl, rfl, by omega⟩ ?_
      rintro k st ⟨i, u19, u20, rfl, rfl, hi⟩
      by_cases hil : i < 128
      · have h2 : ((i : Int) < 128) = True := by simp only [eq_iff_iff, iff_true]; omega
        have g1 := gu i hil
        have g2 := gt i hil
        (refine gw6 @h2 @lu @lt @e128 @g1 @g2 ?_; try exact True.intro)
        refine ⟨rfl, drawn _ (h30 _ _ i ⟨rfl, rfl⟩) ?_⟩
        rw [show ((List.range n).map fun k => AV.bool (X i k)) = boL (X i) n from rfl]
        (refine gw6 @h2 @lu @lt @e128 @g1 @g2 ?_; try exact True.intro)
        refine drawn _ (h29 _ _ i ⟨rfl, rfl⟩) ?_
        (refine gw0 ?_; try exact True.intro)
        (repeat (refine And.intro (by omega) ?_))
        exact ⟨128 - (i + 1), by omega, i + 1, _, _, rfl, rfl, by omega⟩
      · have h2 : ((i : Int) < 128) = False := by simp only [eq_iff_iff, iff_false]; omega
        (refine gw3 @h2 @lt @e128 ?_; try exact True.intro)
        refine f22 ?_
        (refine gw0 ?_; try exact True.intro)
        exact h
    · (refine gw3 @ll @dr @dt ?_; try exact True.intro)
      refine h16 ?_
      (refine gw0 ?_; try exact True.intro)
      refine z27 _ _ ?_
      (refine gw0 ?_; try exact True.intro)
      refine z28 _ _ ?_
      (refine gw0 ?_; try exact True.intro)
      refine f26n ?_
      (refine gw0 ?_; try exact True.intro)
      refine wp_unroll 1 ?_
      (refine gw0 ?_; try exact True.intro)
      refine f22 ?_
      (refine gw0 ?_; try exact True.intro)
      exact h
  · have x27 := fun K H p q fo => @f27e K H (zS r1) fo a n p q c he
    have x28 := fun K H p q fo => @f28e K H (zS r1) fo a n p q c hn he
    rw [hv] at x27
    have y27 := fun K H => x27 K H 128 128 (oS r1)
    have z27 := fun K H => x27 K H 128 127 (fun i => oS r1 (i + 1))
    have y28 := fun K H => x28 K H 128 128 (oS r1)
    have z28 := fun K H => x28 K H 128 127 (fun i => oS r1 (i + 1))
    clear x27 x28
    generalize sdL (fun i => oS r1 (i + 1)) 127 = lo1 at *
    generalize sdL (oS r1) 128 = lo at *
    generalize sdL (zS r1) 128 = lz at *
    generalize sdL (kS r1) 128 = lk1 at *
    generalize sdL (kS r0) 128 = lk0 at *
    generalize sdL (zS r0) 128 = lz0 at *
    generalize sdL (oS r0) 128 = lo0 at *
    generalize wdg r0 9 0 = x0 at *
    generalize wdg r0 9 1 = y0 at *
    generalize wdg r1 9 0 = x1 at *
    generalize wdg r1 9 1 = y1 at *
    generalize boL c n = C at *
    generalize wdA n c = W at *
    generalize spn a n = e at *
    cases t
    · (refine gw1 @ll ?_; try exact True.intro)
      refine h16 ?_
      (refine gw0 ?_; try exact True.intro)
      refine y27 _ _ ?_
      (refine gw0 ?_; try exact True.intro)
      refine y28 _ _ ?_
      (refine gw0 ?_; try exact True.intro)
      refine f26n ?_
      (refine gw0 ?_; try exact True.intro)
      refine wp_unroll 1 ?_
      (refine gw0 ?_; try exact True.intro)
      refine f22 ?_
      (refine gw0 ?_; try exact True.intro)
      exact h
    · (refine gw3 @ll @dr @dt ?_; try exact True.intro)
      refine h16 ?_
      (refine gw0 ?_; try exact True.intro)
      refine z27 _ _ ?_
      (refine gw0 ?_; try exact True.intro)
      refine z28 _ _ ?_
      (refine gw0 ?_; try exact True.intro)
      refine f26n ?_
      (refine gw0 ?_; try exact True.intro)
      refine wp_unroll 1 ?_
      (refine gw0 ?_; try exact True.intro)
      refine f22 ?_
      (refine gw0 ?_; try exact True.intro)
      exact h
end Go.Proofs.Ytjilenmngokhpaa

end
