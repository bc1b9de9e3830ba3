/-
  Layer 17 (iknp): what both make of each other; awake.
-/
import Derived.Test.YtjilenmngokhpaaZg
import Derived.Test.YtjilenmngokhpaaV38
import Derived.Test.YtjilenmngokhpaaV44
section
open Go Go.V
namespace Go.Proofs.Ytjilenmngokhpaa
/-- trefoil/trefoillaw17.awake (0:, 1:a, 2:b, 3:c, 5:u, 6:t, 7:e, 8:q, 9:f) -/
def s22 : FnS := ⟨74, [0, 1, 2, 3, 5, 6, 7, 8, 9],
    (.seq (.reg [⟨.var 0, (.q .mv), [.c (.bool false)], none⟩])
    (.seq (.reg [⟨.new, (.e (.bld (.arr 32 .leaf) (.agg [(.u8 0), (.u8 0), (.u8 0), (.u8 0), (.u8 0), (.u8 0), (.u8 0), (.u8 0), (.u8 0), (.u8 0), (.u8 0), (.u8 0), (.u8 0), (.u8 0), (.u8 0), (.u8 0), (.u8 0), (.u8 0), (.u8 0), (.u8 0), (.u8 0), (.u8 0), (.u8 0), (.u8 0), (.u8 0), (.u8 0), (.u8 0), (.u8 0), (.u8 0), (.u8 0), (.u8 0), (.u8 0)]) [0])), [.c (.u8 3)], none⟩,
      ⟨.new, (.call 23), [.t 9, .c (.u64 0)], none⟩,
      ⟨.new, (.q .mv), [.t 10], none⟩,
      ⟨.new, (.q (.ext 0)), [.t 11], none⟩,
      ⟨.new, (.q (.ext 1)), [.t 11], none⟩,
      ⟨.var 1, (.e (.alloc 62 (.st [(.st [(.arr 2 .leaf), .leaf]), (.st [.leaf, .leaf])]) (.agg [(.agg [(.agg [(.u64 0), (.u64 0)]), .nils]), (.agg [.nils, .nils])]))), [], none⟩,
      ⟨.var 2, (.e (.alloc 62 (.st [(.st [(.arr 2 .leaf), .leaf]), (.st [.leaf, .leaf])]) (.agg [(.agg [(.agg [(.u64 0), (.u64 0)]), .nils]), (.agg [.nils, .nils])]))), [], none⟩,
      ⟨.none, (.e (.store (.st [(.st [(.arr 2 .leaf), .leaf]), (.st [.leaf, .leaf])]))), [.t 1, .t 12], none⟩,
      ⟨.none, (.e (.store (.st [(.st [(.arr 2 .leaf), .leaf]), (.st [.leaf, .leaf])]))), [.t 2, .t 13], none⟩])
    (.seq (.reg [⟨.new, (.e (.bsl 4 .leaf (.bool false) 2 [0, 1])), [.c (.bool false), .c (.bool true)], none⟩,
      ⟨.new, (.call 16), [.t 9], none⟩,
      ⟨.new, (.q .mv), [.t 10], none⟩,
      ⟨.new, (.q (.ext 0)), [.t 11], none⟩,
      ⟨.new, (.q (.ext 1)), [.t 11], none⟩,
      ⟨.var 3, (.e (.alloc 37 (.st [.leaf, .leaf]) (.agg [(.int 0), .nils]))), [], none⟩,
      ⟨.none, (.e (.store (.st [.leaf, .leaf]))), [.t 3, .t 12], none⟩,
      ⟨.new, (.q .mv), [.t 13], none⟩])
    (.seq (.reg [⟨.new, (.q (.fa [(.st [(.arr 2 .leaf), .leaf]), (.st [.leaf, .leaf])] 1)), [.t 2], none⟩,
      ⟨.new, (.q (.ld (.st [.leaf, .leaf]))), [.t 9], none⟩,
      ⟨.new, (.q (.ld (.st [.leaf, .leaf]))), [.t 3], none⟩,
      ⟨.new, (.call 27), [.t 10, .c (.u64 0), .t 11], none⟩,
      ⟨.new, (.q .mv), [.t 12], none⟩,
      ⟨.new, (.q (.ext 0)), [.t 13], none⟩,
      ⟨.new, (.q (.ext 1)), [.t 13], none⟩,
      ⟨.new, (.q (.ext 2)), [.t 13], none⟩,
      ⟨.var 4, (.q .mv), [.t 14], none⟩,
      ⟨.var 5, (.q .mv), [.t 15], none⟩,
      ⟨.var 6, (.q .mv), [.t 16], none⟩])
    (.seq (.reg [⟨.new, (.q (.fa [(.st [(.arr 2 .leaf), .leaf]), (.st [.leaf, .leaf])] 0)), [.t 1], none⟩,
      ⟨.new, (.q (.ld (.st [(.arr 2 .leaf), .leaf]))), [.t 9], none⟩,
      ⟨.new, (.q .mv), [.t 4], none⟩,
      ⟨.new, (.call 24), [.t 10, .c (.u64 0), .t 11], none⟩,
      ⟨.new, (.q .mv), [.t 12], none⟩,
      ⟨.new, (.q (.ext 0)), [.t 13], none⟩,
      ⟨.new, (.q (.ext 1)), [.t 13], none⟩,
      ⟨.var 7, (.q .mv), [.t 14], none⟩,
      ⟨.var 8, (.q .mv), [.t 15], none⟩])
    (.seq (.draw [⟨.new, (.q .mv), [.t 6], none⟩,
      ⟨.new, (.q (.bin .eql)), [.t 9, .c (.int 0)], none⟩,
      ⟨.new, (.q .mv), [.t 10], none⟩,
      ⟨.new, (.q .mv), [.t 8], (some (11, true))⟩,
      ⟨.new, (.q .mv), [.t 6], (some (11, true))⟩,
      ⟨.new, (.q (.bin .eql)), [.t 12, .t 13], (some (11, true))⟩,
      ⟨.new, (.q .pick), [.t 11, .t 14, .c (.bool false)], none⟩,
      ⟨.new, (.q .mv), [.t 15], none⟩,
      ⟨.new, (.q .mv), [.t 5], (some (16, true))⟩,
      ⟨.new, (.q .len), [.t 17], (some (16, true))⟩,
      ⟨.new, (.q (.bin .eql)), [.t 18, .c (.int 2)], (some (16, true))⟩,
      ⟨.new, (.q .pick), [.t 16, .t 19, .c (.bool false)], none⟩,
      ⟨.new, (.q .mv), [.t 20], none⟩,
      ⟨.new, (.q .mv), [.t 7], (some (21, true))⟩,
      ⟨.new, (.q .len), [.t 22], (some (21, true))⟩,
      ⟨.new, (.q (.bin .eql)), [.t 23, .c (.int 2)], (some (21, true))⟩,
      ⟨.new, (.q .pick), [.t 21, .t 24, .c (.bool false)], none⟩,
      ⟨.new, (.q .mv), [.t 25], none⟩,
      ⟨.new, (.q .mv), [.t 7], (some (26, true))⟩,
      ⟨.new, (.q (.iaS (.arr 2 .leaf))), [.t 27, .c (.int 0)], (some (26, true))⟩,
      ⟨.new, (.q (.ld (.arr 2 .leaf))), [.t 28], (some (26, true))⟩,
      ⟨.new, (.q .mv), [.t 5], (some (26, true))⟩,
      ⟨.new, (.q (.iaS (.arr 2 .leaf))), [.t 30, .c (.int 0)], (some (26, true))⟩,
      ⟨.new, (.q (.ld (.arr 2 .leaf))), [.t 31], (some (26, true))⟩,
      ⟨.new, (.q (.eqA false 2 .u64)), [.t 29, .t 32], (some (26, true))⟩,
      ⟨.new, (.q .pick), [.t 26, .t 33, .c (.bool false)], none⟩,
      ⟨.new, (.q .mv), [.t 34], none⟩,
      ⟨.new, (.q .mv), [.t 7], (some (35, true))⟩,
      ⟨.new, (.q (.iaS (.arr 2 .leaf))), [.t 36, .c (.int 1)], (some (35, true))⟩,
      ⟨.new, (.q (.ld (.arr 2 .leaf))), [.t 37], (some (35, true))⟩,
      ⟨.new, (.q .mv), [.t 5], (some (35, true))⟩,
      ⟨.new, (.q (.iaS (.arr 2 .leaf))), [.t 39, .c (.int 1)], (some (35, true))⟩,
      ⟨.new, (.q (.ld (.arr 2 .leaf))), [.t 40], (some (35, true))⟩,
      ⟨.new, (.q (.fa [(.st [(.arr 2 .leaf), .leaf]), (.st [.leaf, .leaf])] 0)), [.t 1], (some (35, true))⟩,
      ⟨.new, (.q (.fa [(.arr 2 .leaf), .leaf] 0)), [.t 42], (some (35, true))⟩,
      ⟨.new, (.q (.ld (.arr 2 .leaf))), [.t 43], (some (35, true))⟩,
      ⟨.new, (.call 49), [.t 41, .t 44], (some (35, true))⟩,
      ⟨.new, (.q (.eqA false 2 .u64)), [.t 38, .t 45], (some (35, true))⟩,
      ⟨.new, (.q .pick), [.t 35, .t 46, .c (.bool false)], none⟩,
      ⟨.var 0, (.q .mv), [.t 47], none⟩])
    .ret)))))),
    [.t 0]⟩

set_option maxRecDepth 100000
set_option linter.unusedSimpArgs false
set_option linter.unusedVariables false
theorem c22 : cF P [] (drP P []) 22 0 s22.vm = some s22 := by kernel_rfl
theorem rb_wd {x y : BitVec 64} : wd (fun i => rb x y (i : Int)) 0 = x ∧ wd (fun i => rb x y (i : Int)) 1 = y := by
  constructor
  · refine (wd_of fun j hj => ?_).symm
    unfold rb
    rw [if_pos (by omega)]
    exact congrArg _ (by omega)
  · refine (wd_of fun j hj => ?_).symm
    unfold rb
    rw [if_neg (by omega), if_pos (by omega)]
    exact congrArg _ (by omega)
/-- the columns of who sends are those of who chooses, changed where the bit is 1 and 1 was chosen -/
theorem sF_uF {d0 d1 : BitVec 64} {fk fz fo : Nat → List (BitVec 8)} (hk : ∀ i, fk i = if rb d0 d1 (i : Int) = true then fo i else fz i) {a n : Nat} {c : Nat → Bool} {i j : Nat} :
    sF d0 d1 fk a n (uF fz fo a n c) i j = (clF fz a n i j != (c j && rb d0 d1 (i : Int))) := by
  unfold sF uF clF
  rw [hk]
  cases rb d0 d1 (i : Int)
  · simp
  · rw [if_pos rfl]
    generalize cl (fz i) a n j = p
    generalize cl (fo i) a n j = q
    generalize c j = r
    cases p <;> cases q <;> cases r <;> rfl
theorem cw_sF {d0 d1 : BitVec 64} {fk fz fo : Nat → List (BitVec 8)} (hk : ∀ i, fk i = if rb d0 d1 (i : Int) = true then fo i else fz i) {a n : Nat} {c : Nat → Bool} {j : Nat} :
    jrow d0 d1 (c j) (cw (sF d0 d1 fk a n (uF fz fo a n c)) 0 j) (cw (sF d0 d1 fk a n (uF fz fo a n c)) 1 j) (cw (clF fz a n) 0 j) (cw (clF fz a n) 1 j) = true := by
  have e : ∀ h, cw (sF d0 d1 fk a n (uF fz fo a n c)) h j = cw (clF fz a n) h j ^^^ wd (fun i => c j && rb d0 d1 (i : Int)) h := fun h => by
    unfold cw
    rw [wd_xor]
    exact wd_congr fun i hi => sF_uF hk
  unfold jrow
  rw [decide_eq_true_eq, e, e]
  cases c j
  · rw [if_neg (by decide), if_neg (by decide)]
    simp only [Bool.false_and, wd_false]
    exact ⟨trivial, trivial⟩
  · rw [if_pos rfl, if_pos rfl]
    simp only [Bool.true_and, rb_wd.1, rb_wd.2]
    exact ⟨trivial, trivial⟩
theorem jns_all {d0 d1 : BitVec 64} {x y z w : Nat → BitVec 64} {c : Nat → Bool} : ∀ {n : Nat}, (∀ j, j < n → jrow d0 d1 (c j) (x j) (y j) (z j) (w j) = true) → jns d0 d1 x y z w c n = true
  | 0, _ => rfl
  | n + 1, h => by rw [jns, jns_all fun j hj => h j (by omega), h n (by omega)]; rfl
theorem kS_if {ks : List (BitVec 8)} {i : Nat} : kS ks i = if rb (wdg ks 9 0) (wdg ks 9 1) (i : Int) = true then oS ks i else zS ks i := rfl
theorem jns_deal {ks : List (BitVec 8)} {a n : Nat} {c c' : Nat → Bool} (hc : ∀ j, j < n → c' j = c j) :
    jns (wdg ks 9 0) (wdg ks 9 1) (cw (sF (wdg ks 9 0) (wdg ks 9 1) (kS ks) a n (uF (zS ks) (oS ks) a n c)) 0) (cw (sF (wdg ks 9 0) (wdg ks 9 1) (kS ks) a n (uF (zS ks) (oS ks) a n c)) 1) (cw (clF (zS ks) a n) 0) (cw (clF (zS ks) a n) 1) c' n = true :=
  jns_all fun j hj => by rw [hc j hj]; exact cw_sF fun i => kS_if
theorem f22 {K : AV → Heap → Prop} {H : Heap} (h : K (.bool true) H) : wpF P [] 22 [] H K := by
  refine wpF_go c22 rfl 3 ?_
  intro ha hb
  simp only [s22]
  clear ha hb
  (refine gw0 ?_; try exact True.intro)
  generalize hks : [(3 : BitVec 8), 0, 0, 0, 0, 0, 0, 0, 0, 0, 0, 0, 0, 0, 0, 0, 0, 0, 0, 0, 0, 0, 0, 0, 0, 0, 0, 0, 0, 0, 0, 0] = ks
  have hk : ks.length = 32 := by rw [← hks]; rfl
  have hka : AV.agg [AV.u8 3, AV.u8 0, AV.u8 0, AV.u8 0, AV.u8 0, AV.u8 0, AV.u8 0, AV.u8 0, AV.u8 0, AV.u8 0, AV.u8 0, AV.u8 0, AV.u8 0, AV.u8 0, AV.u8 0, AV.u8 0, AV.u8 0, AV.u8 0, AV.u8 0, AV.u8 0, AV.u8 0, AV.u8 0, AV.u8 0, AV.u8 0, AV.u8 0, AV.u8 0, AV.u8 0, AV.u8 0, AV.u8 0, AV.u8 0, AV.u8 0, AV.u8 0] = .agg (ks.map .u8) := by rw [← hks]; rfl
  rw [hka]
  refine f23 hk ?_
  simp only [sndA, rcvA]
  have hx := child_len (child ks 0) 0
  generalize child (child ks 0) 0 = r0 at *
  generalize child (child ks 0) 1 = r1 at *
  have he : spn 0 ((2 : Nat) : Int) = 0 := rfl
  have h27 : ∀ {K : AV → Heap → Prop} {H : Heap}, K (.tup [.ro vS (veL (fun _ => 2) (uF (zS r0) (oS r0) 0 2 (bfn [false, true])) 128), .ro (.arr 2 .leaf) (rwA (cw (clF (zS r0) 0 2) 0) (cw (clF (zS r0) 0 2) 1) 2), .int 0]) H → wpF P [] 27 [.agg [.ro (.arr 32 .leaf) (sdL (zS r0) 128), .ro (.arr 32 .leaf) (sdL (oS r0) 128)], .u64 0, vec 2 (bfn [false, true])] H K := fun h => f27 (fun _ => zS_len) (fun _ => oS_len) he h
  have h24 : ∀ {K : AV → Heap → Prop} {H : Heap}, K (.tup [.ro (.arr 2 .leaf) (rwA (cw (sF (wdg r0 9 0) (wdg r0 9 1) (kS r0) 0 2 (uF (zS r0) (oS r0) 0 2 (bfn [false, true]))) 0) (cw (sF (wdg r0 9 0) (wdg r0 9 1) (kS r0) 0 2 (uF (zS r0) (oS r0) 0 2 (bfn [false, true]))) 1) 2), .int 0]) H → wpF P [] 24 [.agg [.agg [.u64 (wdg r0 9 0), .u64 (wdg r0 9 1)], .ro (.arr 32 .leaf) (sdL (kS r0) 128)], .u64 0, .ro vS (veL (fun _ => 2) (uF (zS r0) (oS r0) 0 2 (bfn [false, true])) 128)] H K := fun h => f24 (fun _ => kS_len) (fun _ => by omega) rfl he (fun ⟨_, _, hn⟩ => absurd rfl hn) (fun _ => h)
  have hj := jns_deal (ks := r0) (a := 0) (n := 2) (c := bfn [false, true]) (c' := bfn [false, true]) (fun _ _ => rfl)
  have hq : ∀ x y : Nat → BitVec 64, rwA x y 2 = [.agg [.u64 (x 0), .u64 (y 0)], .agg [.u64 (x 1), .u64 (y 1)]] := fun _ _ => rfl
  simp only [hq] at h24 h27
  simp only [jns, jrow, Bool.true_and, Bool.and_eq_true, decide_eq_true_eq] at hj
  obtain ⟨⟨j1, j2⟩, j3, j4⟩ := hj
  rw [show (if bfn [false, true] 0 = true then wdg r0 9 0 else 0) = 0 from rfl] at j1
  rw [show (if bfn [false, true] 0 = true then wdg r0 9 1 else 0) = 0 from rfl] at j2
  rw [show (if bfn [false, true] 1 = true then wdg r0 9 0 else 0) = wdg r0 9 0 from rfl] at j3
  rw [show (if bfn [false, true] 1 = true then wdg r0 9 1 else 0) = wdg r0 9 1 from rfl] at j4
  have z0 : ∀ x : BitVec 64, x ^^^ 0 = x := fun x => by simp
  rw [z0] at j1 j2
  generalize hb : bfn [false, true] = bq at *
  generalize cw (sF (wdg r0 9 0) (wdg r0 9 1) (kS r0) 0 2 (uF (zS r0) (oS r0) 0 2 bq)) 0 0 = a1 at *
  generalize cw (sF (wdg r0 9 0) (wdg r0 9 1) (kS r0) 0 2 (uF (zS r0) (oS r0) 0 2 bq)) 1 0 = a2 at *
  generalize cw (sF (wdg r0 9 0) (wdg r0 9 1) (kS r0) 0 2 (uF (zS r0) (oS r0) 0 2 bq)) 0 1 = a3 at *
  generalize cw (sF (wdg r0 9 0) (wdg r0 9 1) (kS r0) 0 2 (uF (zS r0) (oS r0) 0 2 bq)) 1 1 = a4 at *
  have hbu : ∀ {k : Nat}, AV.bnds k (veL (fun _ => 2) (uF (zS r0) (oS r0) 0 2 bq) 128) = true := bnds_veL
  generalize veL (fun _ => 2) (uF (zS r0) (oS r0) 0 2 bq) 128 = U at *
  generalize cw (clF (zS r0) 0 2) 0 0 = b1 at *
  generalize cw (clF (zS r0) 0 2) 1 0 = b2 at *
  generalize cw (clF (zS r0) 0 2) 0 1 = b3 at *
  generalize cw (clF (zS r0) 0 2) 1 1 = b4 at *
  generalize sdL (kS r0) 128 = lk at *
  generalize sdL (zS r0) 128 = lz at *
  generalize sdL (oS r0) 128 = lo at *
  generalize wdg r0 9 0 = d0 at *
  generalize wdg r0 9 1 = d1 at *
  generalize sdL (kS r1) 128 = lk1 at *
  generalize sdL (zS r1) 128 = lz1 at *
  generalize sdL (oS r1) 128 = lo1 at *
  (refine gw0 ?_; try exact True.intro)
  refine wpF_give1 (H.length + 2) 2 ?_
  (refine gw0 ?_; try exact True.intro)
  refine f16 (l := [false, true]) (by decide) ?_
  rw [hb]
  have hv : vec [false, true].length bq = .agg [.int 2, .ro .leaf (wdA 2 bq)] := rfl
  have hv2 : vec 2 bq = .agg [.int 2, .ro .leaf (wdA 2 bq)] := rfl
  rw [hv]
  rw [hv2] at h27
  generalize wdA 2 bq = W at *
  (refine gw0 ?_; try exact True.intro)
  refine h27 ?_
  (refine gw0 ?_; try exact True.intro)
  refine h24 ?_
  (refine gw2 @j1 @j2 ?_; try exact True.intro)
  refine ⟨rfl, rfl, drawn _ (f49 (x := b3) (y := b4) (z := d0) (w := d1) ⟨rfl, rfl⟩) ?_⟩
  rw [← j3, ← j4]
  unfold rowV
  (refine gw0 ?_; try exact True.intro)
  first | exact ⟨rfl, rfl, h⟩ | exact h | trace_state
end Go.Proofs.Ytjilenmngokhpaa

end

section
/-
  Layer 17 (iknp): IknpTells walked.
-/
open Go Go.V
namespace Go.Proofs.Ytjilenmngokhpaa
/-- trefoil/trefoillaw17.IknpTells (0:delta, 1:sent, 2:received, 3:choices, 4:turn, 5:delta, 10:, 11:v, 13:made, 14:j, 15:x, 28:, 45:, 55:, 65:, 82:) -/
def s10 : FnS := ⟨105, [0, 1, 2, 3, 4, 5, 10, 11, 13, 14, 15, 28, 45, 55, 65, 82],
    (.seq (.reg [⟨.var 5, (.e (.box 56 (.arr 2 .leaf))), [.t 0], none⟩,
      ⟨.var 6, (.q .mv), [.c (.bool false)], none⟩])
    (.seq (.seq (.reg [⟨.new, (.q .mv), [.t 1], none⟩,
      ⟨.new, (.q .len), [.t 16], none⟩,
      ⟨.new, (.q (.bin .gtr)), [.t 17, .c (.int 60)], none⟩,
      ⟨.new, (.q .mv), [.t 18], none⟩,
      ⟨.new, (.q .mv), [.t 2], (some (19, false))⟩,
      ⟨.new, (.q .len), [.t 20], (some (19, false))⟩,
      ⟨.new, (.q (.bin .gtr)), [.t 21, .c (.int 60)], (some (19, false))⟩,
      ⟨.new, (.q .pick), [.t 19, .c (.bool true), .t 22], none⟩,
      ⟨.new, (.q .mv), [.t 23], none⟩,
      ⟨.new, (.q .mv), [.t 3], (some (24, false))⟩,
      ⟨.new, (.q .len), [.t 25], (some (24, false))⟩,
      ⟨.new, (.q (.bin .gtr)), [.t 26, .c (.int 60)], (some (24, false))⟩,
      ⟨.var 11, (.q .pick), [.t 24, .c (.bool true), .t 27], none⟩])
    (.cond (.t 11) (.seq (.reg [⟨.new, (.call 22), [], none⟩,
      ⟨.var 6, (.q .mv), [.t 16], none⟩])
    .ret)
    .skip))
    (.seq (.reg [⟨.new, (.q .mv), [.t 3], none⟩,
      ⟨.new, (.call 16), [.t 16], none⟩,
      ⟨.new, (.q .mv), [.t 17], none⟩,
      ⟨.new, (.q (.ext 0)), [.t 18], none⟩,
      ⟨.new, (.q (.ext 1)), [.t 18], none⟩,
      ⟨.var 7, (.e (.alloc 37 (.st [.leaf, .leaf]) (.agg [(.int 0), .nils]))), [], none⟩,
      ⟨.none, (.e (.store (.st [.leaf, .leaf]))), [.t 7, .t 19], none⟩,
      ⟨.new, (.q .mv), [.t 20], none⟩])
    (.seq (.seq (.draw [⟨.new, (.q (.ld (.arr 2 .leaf))), [.t 5], none⟩,
      ⟨.new, (.q .mv), [.t 1], none⟩,
      ⟨.new, (.q .mv), [.t 2], none⟩,
      ⟨.new, (.q (.ld (.st [.leaf, .leaf]))), [.t 7], none⟩,
      ⟨.new, (.call 32), [.t 16, .t 17, .t 18, .t 19], none⟩,
      ⟨.new, (.q (.ld (.arr 2 .leaf))), [.t 5], none⟩,
      ⟨.new, (.q .mv), [.t 1], none⟩,
      ⟨.new, (.q .mv), [.t 2], none⟩,
      ⟨.new, (.q .mv), [.t 3], none⟩,
      ⟨.new, (.call 31), [.t 21, .t 22, .t 23, .t 24], none⟩,
      ⟨.var 12, (.q (.eqB true)), [.t 20, .t 25], none⟩])
    (.cond (.t 12) (.seq (.reg [⟨.var 6, (.q .mv), [.c (.bool false)], none⟩])
    .ret)
    .skip))
    (.seq (.reg [⟨.var 8, (.q .mv), [.c .nils], none⟩])
    (.seq (.seq (.reg [⟨.var 9, (.q .mv), [.c (.int 0)], none⟩])
    (.block 0 (.loop (.seq (.seq (.reg [⟨.new, (.q .mv), [.t 9], none⟩,
      ⟨.new, (.q .mv), [.t 2], none⟩,
      ⟨.new, (.q .len), [.t 17], none⟩,
      ⟨.new, (.q (.bin .lss)), [.t 16, .t 18], none⟩,
      ⟨.new, (.q .mv), [.t 19], none⟩,
      ⟨.new, (.q .mv), [.t 9], (some (20, true))⟩,
      ⟨.new, (.q .mv), [.t 3], (some (20, true))⟩,
      ⟨.new, (.q .len), [.t 22], (some (20, true))⟩,
      ⟨.new, (.q (.bin .lss)), [.t 21, .t 23], (some (20, true))⟩,
      ⟨.var 13, (.q .pick), [.t 20, .t 24, .c (.bool false)], none⟩])
    (.cond (.t 13) .skip
    (.exit 0)))
    (.seq (.block 1 (.seq (.reg [⟨.new, (.q .mv), [.t 2], none⟩,
      ⟨.new, (.q .mv), [.t 9], none⟩,
      ⟨.new, (.q (.iaS (.arr 2 .leaf))), [.t 16, .t 17], none⟩,
      ⟨.new, (.q (.ld (.arr 2 .leaf))), [.t 18], none⟩,
      ⟨.var 10, (.e (.alloc 56 (.arr 2 .leaf) (.agg [(.u64 0), (.u64 0)]))), [], none⟩,
      ⟨.none, (.e (.store (.arr 2 .leaf))), [.t 10, .t 19], none⟩])
    (.seq (.seq (.reg [⟨.new, (.q .mv), [.t 3], none⟩,
      ⟨.new, (.q .mv), [.t 9], none⟩,
      ⟨.new, (.q (.iaS .leaf)), [.t 16, .t 17], none⟩,
      ⟨.var 14, (.q (.ld .leaf)), [.t 18], none⟩])
    (.cond (.t 14) (.draw [⟨.none, (.pairs [(8, 11)]), [], none⟩,
      ⟨.new, (.q (.iaA 2 .leaf)), [.t 10, .c (.int 0)], none⟩,
      ⟨.new, (.q (.ld .leaf)), [.t 16], none⟩,
      ⟨.new, (.q (.iaA 2 .leaf)), [.t 5, .c (.int 0)], none⟩,
      ⟨.new, (.q (.ld .leaf)), [.t 18], none⟩,
      ⟨.new, (.q (.bin .xor)), [.t 17, .t 19], none⟩,
      ⟨.new, (.q (.iaA 2 .leaf)), [.t 10, .c (.int 1)], none⟩,
      ⟨.new, (.q (.ld .leaf)), [.t 21], none⟩,
      ⟨.new, (.q (.iaA 2 .leaf)), [.t 5, .c (.int 1)], none⟩,
      ⟨.new, (.q (.ld .leaf)), [.t 23], none⟩,
      ⟨.new, (.q (.bin .xor)), [.t 22, .t 24], none⟩,
      ⟨.new, (.q (.iaA 2 .leaf)), [.t 10, .c (.int 0)], none⟩,
      ⟨.none, (.e (.store .leaf)), [.t 26, .t 20], none⟩,
      ⟨.new, (.q (.iaA 2 .leaf)), [.t 10, .c (.int 1)], none⟩,
      ⟨.none, (.e (.store .leaf)), [.t 27, .t 25], none⟩])
    .skip))
    (.seq (.seq (.reg [⟨.new, (.q .mv), [.t 4], none⟩,
      ⟨.new, (.q .mv), [.t 16], none⟩,
      ⟨.new, (.q .mv), [.t 9], (some (17, true))⟩,
      ⟨.new, (.q (.bin .eql)), [.t 18, .c (.int 0)], (some (17, true))⟩,
      ⟨.var 15, (.q .pick), [.t 17, .t 19, .c (.bool false)], none⟩])
    (.cond (.t 15) (.reg [⟨.new, (.q (.iaA 2 .leaf)), [.t 10, .c (.int 1)], none⟩,
      ⟨.new, (.q (.ld .leaf)), [.t 16], none⟩,
      ⟨.new, (.q (.bin .xor)), [.t 17, .c (.u64 9223372036854775808)], none⟩,
      ⟨.new, (.q (.iaA 2 .leaf)), [.t 10, .c (.int 1)], none⟩,
      ⟨.none, (.e (.store .leaf)), [.t 19, .t 18], none⟩])
    .skip))
    (.reg [⟨.new, (.q .mv), [.t 8], none⟩,
      ⟨.new, (.q (.ld (.arr 2 .leaf))), [.t 10], none⟩,
      ⟨.new, (.e (.bsl 56 (.arr 2 .leaf) (.agg [(.u64 0), (.u64 0)]) 1 [0])), [.t 17], none⟩,
      ⟨.new, (.e (.app 56 (.arr 2 .leaf) 16)), [.t 16, .t 18], none⟩,
      ⟨.var 8, (.q .mv), [.t 19], none⟩])))))
    (.reg [⟨.new, (.q .mv), [.t 9], none⟩,
      ⟨.new, (.q (.bin .add)), [.t 16, .c (.int 1)], none⟩,
      ⟨.var 9, (.q .mv), [.t 17], none⟩]))))))
    (.seq (.draw [⟨.new, (.q (.ld (.arr 2 .leaf))), [.t 5], none⟩,
      ⟨.new, (.q .mv), [.t 8], none⟩,
      ⟨.new, (.q .mv), [.t 2], none⟩,
      ⟨.new, (.q (.ld (.st [.leaf, .leaf]))), [.t 7], none⟩,
      ⟨.new, (.call 32), [.t 16, .t 17, .t 18, .t 19], none⟩,
      ⟨.new, (.q (.ld (.arr 2 .leaf))), [.t 5], none⟩,
      ⟨.new, (.q .mv), [.t 8], none⟩,
      ⟨.new, (.q .mv), [.t 2], none⟩,
      ⟨.new, (.q .mv), [.t 3], none⟩,
      ⟨.new, (.call 31), [.t 21, .t 22, .t 23, .t 24], none⟩,
      ⟨.new, (.q (.eqB false)), [.t 20, .t 25], none⟩,
      ⟨.new, (.q .mv), [.t 26], none⟩,
      ⟨.new, (.call 22), [], (some (27, true))⟩,
      ⟨.new, (.q .pick), [.t 27, .t 28, .c (.bool false)], none⟩,
      ⟨.var 6, (.q .mv), [.t 29], none⟩])
    .ret))))))),
    [.t 6]⟩

set_option maxRecDepth 100000
set_option linter.unusedSimpArgs false
set_option linter.unusedVariables false
theorem c10 : cF P [] (drP P []) 10 5 s10.vm = some s10 := by kernel_rfl
theorem boL_map' {cs : List Bool} : cs.map AV.bool = boL (bfn cs) cs.length := by
  unfold boL
  apply List.ext_getElem?
  intro i
  by_cases h : i < cs.length
  · rw [List.getElem?_map, List.getElem?_map, List.getElem?_range h, List.getElem?_eq_getElem h]
    simp [bfn, h]
  · rw [List.getElem?_eq_none (by simp; omega), List.getElem?_eq_none (by simp; omega)]
theorem jns_congr {d0 d1 : BitVec 64} {x y z w : Nat → BitVec 64} {c c' : Nat → Bool} : ∀ {n : Nat}, (∀ j, j < n → c j = c' j) → jns d0 d1 x y z w c n = jns d0 d1 x y z w c' n
  | 0, _ => rfl
  | n + 1, h => by rw [jns, jns, jns_congr fun j hj => h j (by omega), h n (by omega)]
theorem jnd_cut {d0 d1 : BitVec 64} {x y z w : Nat → BitVec 64} {c : Nat → Bool} {n m q : Nat} : jnd d0 d1 x y z w (cut q c) n m q = jnd d0 d1 x y z w c n m q := by
  unfold jnd
  by_cases h : n = q
  · subst h
    rw [jns_congr (c' := c) fun j hj => by simp [cut, hj]]
  · rw [decide_eq_false h]; simp
/-- the rows that the law makes -/
def mdA (d : BitVec 64) (z : Nat → BitVec 64) (c : Nat → Bool) (j : Nat) : BitVec 64 := if c j = true then z j ^^^ d else z j
def mdB (d : BitVec 64) (z : Nat → BitVec 64) (c : Nat → Bool) (t : Bool) (j : Nat) : BitVec 64 := if t = true ∧ j = 0 then mdA d z c j ^^^ 9223372036854775808 else mdA d z c j
theorem rwA_succ {x y : Nat → BitVec 64} {n : Nat} : rwA x y n ++ [.agg [.u64 (x n), .u64 (y n)]] = rwA x y (n + 1) := rng_snoc
def I10 (d0 d1 : BitVec 64) (A B C : AV) (z w : Nat → BitVec 64) (c : Nat → Bool) (t : Bool) (n : Nat) (D V : Option Blk) (H : Heap) (k : Nat) (st : St) : Prop :=
  ∃ (j : Nat) (l u10 u13 u14 u15 : AV) (L : Heap), st = ⟨[.agg [.u64 d0, .u64 d1], A, B, C, .bool t, .ptr H.length 0 [0] (.arr 2 .leaf), .bool false, .ptr (H.length + 1) 0 [0] (.st [.leaf, .leaf]), l, .int (j : Int), u10, .bool false, .bool false, u13, u14, u15],
    H ++ D :: V :: L⟩ ∧ k = n - j ∧ j ≤ n ∧ ((j = 0 ∧ l = .nils ∧ L = []) ∨ (0 < j ∧ l = .own (H.length + 4) j [] 0 j (.arr 2 .leaf) ∧ ∃ g1 g2 J, L = g1 :: g2 :: some ⟨56, j, true, .arr j (.arr 2 .leaf), .agg (rwA (mdA d0 z c) (mdB d1 w c t) j)⟩ :: J))
theorem f10 {K : AV → Heap → Prop} {H : Heap} {d0 d1 : BitVec 64} {x y z w : Nat → BitVec 64} {n m : Nat} {cs : List Bool} {t : Bool} (h : K (.bool true) H) : wpF P [] 10 [rowV d0 d1, .ro (.arr 2 .leaf) (rwA x y n), .ro (.arr 2 .leaf) (rwA z w m), .ro .leaf (cs.map .bool), .bool t] H K := by
  refine wpF_go c10 rfl 3 ?_
  intro ha hb
  simp only [s10]
  clear ha hb
  have l1 := rwA_len (x := x) (y := y) (n := n)
  have l2 := rwA_len (x := z) (y := w) (n := m)
  have lc : (cs.map AV.bool).length = cs.length := by simp
  have hrv : rowV d0 d1 = .agg [.u64 d0, .u64 d1] := rfl
  rw [hrv]
  by_cases h1 : 60 < n
  · have e1 : ((60 : Int) < (n : Int)) = True := by simp only [eq_iff_iff, iff_true]; omega
    (refine gw4 @l1 @l2 @lc @e1 ?_; try exact True.intro)
    refine f22 ?_
    (refine gw0 ?_; try exact True.intro)
    exact h
  have e1 : ((60 : Int) < (n : Int)) = False := by simp only [eq_iff_iff, iff_false]; omega
  by_cases h2 : 60 < m
  · have e2 : ((60 : Int) < (m : Int)) = True := by simp only [eq_iff_iff, iff_true]; omega
    (refine gw5 @l1 @l2 @lc @e1 @e2 ?_; try exact True.intro)
    refine f22 ?_
    (refine gw0 ?_; try exact True.intro)
    exact h
  have e2 : ((60 : Int) < (m : Int)) = False := by simp only [eq_iff_iff, iff_false]; omega
  by_cases h3 : 60 < cs.length
  · have e3 : ((60 : Int) < (cs.length : Int)) = True := by simp only [eq_iff_iff, iff_true]; omega
    (refine gw6 @l1 @l2 @lc @e1 @e2 @e3 ?_; try exact True.intro)
    refine f22 ?_
    (refine gw0 ?_; try exact True.intro)
    exact h
  have e3 : ((60 : Int) < (cs.length : Int)) = False := by simp only [eq_iff_iff, iff_false]; omega
  (refine gw6 @l1 @l2 @lc @e1 @e2 @e3 ?_; try exact True.intro)
  refine f16 (by omega) ?_
  generalize hc : bfn cs = c at *
  have h32 : ∀ {K : AV → Heap → Prop} {H : Heap} {x y : Nat → BitVec 64} {n : Nat}, n ≤ 100000 → K (.bool (jnd d0 d1 x y z w c n m cs.length)) H → wpF P [] 32 [.agg [.u64 d0, .u64 d1], .ro (.arr 2 .leaf) (rwA x y n), .ro (.arr 2 .leaf) (rwA z w m), .agg [.int (cs.length : Int), .ro .leaf (wdA cs.length c)]] H K := fun hn h => f32 hn (by rw [jnd_cut]; exact h)
  have h31 : ∀ {K : AV → Heap → Prop} {H : Heap} {x y : Nat → BitVec 64} {n : Nat}, n ≤ 100000 → K (.bool (jnd d0 d1 x y z w c n m cs.length)) H → wpF P [] 31 [.agg [.u64 d0, .u64 d1], .ro (.arr 2 .leaf) (rwA x y n), .ro (.arr 2 .leaf) (rwA z w m), .ro .leaf (cs.map .bool)] H K := fun hn h => by rw [boL_map', hc]; exact f31j hn h
  have h32n : ∀ {K : AV → Heap → Prop} {H : Heap}, K (.bool (decide (0 = m) && decide (0 = cs.length))) H → wpF P [] 32 [.agg [.u64 d0, .u64 d1], .nils, .ro (.arr 2 .leaf) (rwA z w m), .agg [.int (cs.length : Int), .ro .leaf (wdA cs.length c)]] H K := fun h => f32n (x := z) (y := w) (c := c) (by unfold jnd jns; rw [Bool.and_true]; exact h)
  have h31n : ∀ {K : AV → Heap → Prop} {H : Heap}, K (.bool (decide (0 = m) && decide (0 = cs.length))) H → wpF P [] 31 [.agg [.u64 d0, .u64 d1], .nils, .ro (.arr 2 .leaf) (rwA z w m), .ro .leaf (cs.map .bool)] H K := fun h => by rw [boL_map', hc]; exact f31n (x := z) (y := w) (by unfold jnd jns; rw [Bool.and_true]; exact h)
  have gb : ∀ j, j < cs.length → (cs.map AV.bool).getD j .un = .bool (c j) := fun j hj => by rw [← hc]; exact ld_bfn hj
  rw [show vec cs.length c = .agg [.int (cs.length : Int), .ro .leaf (wdA cs.length c)] from rfl]
  have hbW : ∀ {k : Nat}, AV.bnds k (wdA cs.length c) = true := bndA
  have hbl : ∀ {k : Nat}, AV.bnds k (cs.map AV.bool) = true := bnds_bool
  have hbZ : ∀ {k : Nat}, AV.bnds k (rwA z w m) = true := by
    intro k
    refine bnds_iff.2 fun x hx => ?_
    obtain ⟨j, _, rfl⟩ := List.mem_map.1 hx
    rfl
  generalize wdA cs.length c = W at *
  generalize cs.map AV.bool = lb at *
  (refine gw0 ?_; try exact True.intro)
  refine drawn _ (h32 (by omega) ⟨rfl, rfl⟩) ?_
  (refine gw0 ?_; try exact True.intro)
  refine drawn _ (h31 (by omega) ⟨rfl, rfl⟩) ?_
  generalize jnd d0 d1 x y z w c n m cs.length = b
  (refine gw0 ?_; try exact True.intro)
  generalize hlk : cs.length = q at *
  refine wp_inv (I10 d0 d1 (.ro (.arr 2 .leaf) (rwA x y n)) (.ro (.arr 2 .leaf) (rwA z w m)) (.ro .leaf lb) z w c t (min m q) (some ⟨56, 0, false, .arr 1 (.arr 2 .leaf), .agg [.agg [.u64 d0, .u64 d1]]⟩) (some ⟨37, 0, false, .arr 1 (.st [.leaf, .leaf]), .agg [.agg [.int (q : Int), .ro .leaf W]]⟩) H) (min m q) ⟨0, _, _, _, _, _, [], rfl, rfl, by omega, .inl ⟨rfl, rfl, rfl⟩⟩ ?_
  rintro k st ⟨j, l, u10, u13, u14, u15, L, rfl, rfl, hj, hl⟩
  by_cases hjl : j < min m q
  · have h4 : ((j : Int) < (m : Int)) = True := by simp only [eq_iff_iff, iff_true]; omega
    have h5 : ((j : Int) < (q : Int)) = True := by simp only [eq_iff_iff, iff_true]; omega
    have g2 := rwA_get (x := z) (y := w) (n := m) (j := j) (by omega)
    have gc := gb j (by omega)
    unfold rowV at g2
    have hs := rwA_succ (x := mdA d0 z c) (y := mdB d1 w c t) (n := j)
    rcases hl with ⟨hj0, rfl, rfl⟩ | ⟨hj0, rfl, g1, g2', J, rfl⟩
    · subst hj0
      have h4 : ((0 : Int) < (m : Int)) = True := by simp only [eq_iff_iff, iff_true]; omega
      have h5 : ((0 : Int) < (q : Int)) = True := by simp only [eq_iff_iff, iff_true]; omega
      cases hcj : c 0 <;> cases ht : t <;> rw [hcj] at gc <;> (refine gw6 @h4 @h5 @l2 @lc @g2 @gc ?_; try exact True.intro) <;> (repeat (refine And.intro (by omega) ?_))
      all_goals
        refine ⟨min m q - 1, by omega, 1, _, _, _, _, _, _, rfl, rfl, by omega, .inr ⟨by omega, rfl, _, _, [], congrArg (fun l => _ :: _ :: some (Blk.mk 56 1 true (.arr 1 (.arr 2 .leaf)) (.agg l)) :: []) ?_⟩⟩
        simp [rwA, rowV, mdA, mdB, hcj]
    · have h0 : ((j : Int) = 0) = False := by simp only [eq_iff_iff, iff_false]; omega
      have hB : mdB d1 w c t j = mdA d1 w c j := if_neg (fun e => by omega)
      have hl3 := rwA_len (x := mdA d0 z c) (y := mdB d1 w c t) (n := j)
      cases hcj : c j
      · have a0 : mdA d0 z c j = z j := if_neg (by rw [hcj]; decide)
        have a1 : mdA d1 w c j = w j := if_neg (by rw [hcj]; decide)
        rw [hB, a0, a1] at hs
        rw [hcj] at gc
        cases t
        all_goals
          (refine gw8 @h4 @h5 @l2 @lc @g2 @gc @h0 @hs ?_; try exact True.intro)
          (repeat (refine And.intro (by omega) ?_))
          exact ⟨min m q - (j + 1), by omega, j + 1, _, _, _, _, _, _, rfl, rfl, by omega, .inr ⟨by omega, rfl, _, _, _, rfl⟩⟩
      · have a0 : mdA d0 z c j = z j ^^^ d0 := if_pos hcj
        have a1 : mdA d1 w c j = w j ^^^ d1 := if_pos hcj
        rw [hB, a0, a1] at hs
        rw [hcj] at gc
        cases t
        all_goals
          (refine gw8 @h4 @h5 @l2 @lc @g2 @gc @h0 @hs ?_; try exact True.intro)
          (repeat (refine And.intro (by omega) ?_))
          exact ⟨min m q - (j + 1), by omega, j + 1, _, _, _, _, _, _, rfl, rfl, by omega, .inr ⟨by omega, rfl, _, _, _, rfl⟩⟩
  · have hfl : ∀ {X : Prop}, (((j : Int) < (m : Int)) = False → X) → (((j : Int) < (m : Int)) = True → ((j : Int) < (q : Int)) = False → X) → X := fun a b => by
      by_cases e : j < m
      · exact b (by simp only [eq_iff_iff, iff_true]; omega) (by simp only [eq_iff_iff, iff_false]; omega)
      · exact a (by simp only [eq_iff_iff, iff_false]; omega)
    have hnt := fun (X : Nat → BitVec 64) (Y : Nat → BitVec 64) => rwA_len (x := X) (y := Y) (n := j)
    have eqb : ∀ b : Bool, (b == b) = true := fun b => by cases b <;> rfl
    rcases hl with ⟨hj0, rfl, rfl⟩ | ⟨hj0, rfl, g1, g2', J, rfl⟩
    · subst hj0
      have k32 := fun HH => h32n (K := fun r h => r = _ ∧ h = HH) (H := HH) ⟨rfl, rfl⟩
      have k31 := fun HH => h31n (K := fun r h => r = _ ∧ h = HH) (H := HH) ⟨rfl, rfl⟩
      generalize (decide (0 = m) && decide (0 = q)) = bb at *
      have hfl2 : ∀ {X : Prop}, (((0 : Int) < (m : Int)) = False → X) → (((0 : Int) < (m : Int)) = True → ((0 : Int) < (q : Int)) = False → X) → X := hfl
      refine hfl2 (fun h4 => ?_) (fun h4 h5 => ?_)
      · (refine gw3 @h4 @l2 @lc ?_; try exact True.intro)
        refine drawn _ (k32 _) ?_
        (refine gw0 ?_; try exact True.intro)
        refine drawn _ (k31 _) ?_
        (refine gw0 ?_; try exact True.intro)
        refine drawn _ (f22 ⟨rfl, rfl⟩) ?_
        (refine gw0 ?_; try exact True.intro)
        exact h
      · (refine gw4 @h4 @h5 @l2 @lc ?_; try exact True.intro)
        refine drawn _ (k32 _) ?_
        (refine gw0 ?_; try exact True.intro)
        refine drawn _ (k31 _) ?_
        (refine gw0 ?_; try exact True.intro)
        refine drawn _ (f22 ⟨rfl, rfl⟩) ?_
        (refine gw0 ?_; try exact True.intro)
        exact h
    · have lt : List.take j (rwA (mdA d0 z c) (mdB d1 w c t) j) = rwA (mdA d0 z c) (mdB d1 w c t) j := List.take_of_length_le (by rw [rwA_len]; exact Nat.le_refl _)
      have mr : ∀ {kp : Nat → Bool} {N : Nat} {h : Heap} {d : Nat}, mapO (demK kp N h (d + 2)) (rwA (mdA d0 z c) (mdB d1 w c t) j) = some (rwA (mdA d0 z c) (mdB d1 w c t) j) := mapO_rw
      have hne : j ≠ 0 := by omega
      obtain ⟨bb, hbb⟩ : ∃ bb, jnd d0 d1 (mdA d0 z c) (mdB d1 w c t) z w c j m q = bb := ⟨_, rfl⟩
      have p32 : ∀ {K : AV → Heap → Prop} {H : Heap}, K (.bool bb) H → wpF P [] 32 [.agg [.u64 d0, .u64 d1], .ro (.arr 2 .leaf) (rwA (mdA d0 z c) (mdB d1 w c t) j), .ro (.arr 2 .leaf) (rwA z w m), .agg [.int (q : Int), .ro .leaf W]] H K := fun h => h32 (by omega) (by rw [hbb]; exact h)
      have p31 : ∀ {K : AV → Heap → Prop} {H : Heap}, K (.bool bb) H → wpF P [] 31 [.agg [.u64 d0, .u64 d1], .ro (.arr 2 .leaf) (rwA (mdA d0 z c) (mdB d1 w c t) j), .ro (.arr 2 .leaf) (rwA z w m), .ro .leaf lb] H K := fun h => h31 (by omega) (by rw [hbb]; exact h)
      generalize rwA (mdA d0 z c) (mdB d1 w c t) j = R at *
      generalize rwA z w m = Z at *
      generalize rwA x y n = Y at *
      refine hfl (fun h4 => ?_) (fun h4 h5 => ?_)
      · (refine gw3 @h4 @l2 @lc ?_; try exact True.intro)
        refine drawn (.bool bb) ?_ ?_
        · refine wpF_lend1 4 ?_
          (refine gw4 @lt @mr @hbZ @hbW ?_; try exact True.intro)
          refine p32 ⟨rfl, rfl, rfl⟩
        (refine gw0 ?_; try exact True.intro)
        refine drawn (.bool bb) ?_ ?_
        · refine wpF_lend1 4 ?_
          (refine gw4 @lt @mr @hbZ @hbl ?_; try exact True.intro)
          refine p31 ⟨rfl, rfl, rfl⟩
        (refine gw0 ?_; try exact True.intro)
        refine drawn _ (f22 ⟨rfl, rfl⟩) ?_
        (refine gw0 ?_; try exact True.intro)
        exact h
      · (refine gw4 @h4 @h5 @l2 @lc ?_; try exact True.intro)
        refine drawn (.bool bb) ?_ ?_
        · refine wpF_lend1 4 ?_
          (refine gw4 @lt @mr @hbZ @hbW ?_; try exact True.intro)
          refine p32 ⟨rfl, rfl, rfl⟩
        (refine gw0 ?_; try exact True.intro)
        refine drawn (.bool bb) ?_ ?_
        · refine wpF_lend1 4 ?_
          (refine gw4 @lt @mr @hbZ @hbl ?_; try exact True.intro)
          refine p31 ⟨rfl, rfl, rfl⟩
        (refine gw0 ?_; try exact True.intro)
        refine drawn _ (f22 ⟨rfl, rfl⟩) ?_
        (refine gw0 ?_; try exact True.intro)
        exact h
end Go.Proofs.Ytjilenmngokhpaa

end
