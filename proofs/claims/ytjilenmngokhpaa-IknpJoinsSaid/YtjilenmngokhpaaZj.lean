/-
  Layer 17 (iknp): what both make of each other; awake.
-/
import Derived.Test.YtjilenmngokhpaaZg
import Derived.Test.YtjilenmngokhpaaV38
import Derived.Test.YtjilenmngokhpaaV44
section
open Go Go.V
namespace Go.Proofs.Ytjilenmngokhpaa
/-- trefoil/trefoillaw17.awake (0:, 1:a, 2:b, 3:c, 5:u, 6:t, 7:e, 8:q, 9:f) -/
def s22 : FnS := ⟨74, [0, 1, 2, 3, 5, 6, 7, 8, 9],
    (.seq (.reg [⟨.var 0, (.q .mv), [.c (.bool false)], none⟩])
    (.seq (.reg [⟨.new, (.e (.bld (.arr 32 .leaf) (.agg [(.u8 0), (.u8 0), (.u8 0), (.u8 0), (.u8 0), (.u8 0), (.u8 0), (.u8 0), (.u8 0), (.u8 0), (.u8 0), (.u8 0), (.u8 0), (.u8 0), (.u8 0), (.u8 0), (.u8 0), (.u8 0), (.u8 0), (.u8 0), (.u8 0), (.u8 0), (.u8 0), (.u8 0), (.u8 0), (.u8 0), (.u8 0), (.u8 0), (.u8 0), (.u8 0), (.u8 0), (.u8 0)]) [0])), [.c (.u8 3)], none⟩,
      ⟨.new, (.call 23), [.t 9, .c (.u64 0)], none⟩,
      ⟨.new, (.q .mv), [.t 10], none⟩,
      ⟨.new, (.q (.ext 0)), [.t 11], none⟩,
      ⟨.new, (.q (.ext 1)), [.t 11], none⟩,
      ⟨.var 1, (.e (.alloc 62 (.st [(.st [(.arr 2 .leaf), .leaf]), (.st [.leaf, .leaf])]) (.agg [(.agg [(.agg [(.u64 0), (.u64 0)]), .nils]), (.agg [.nils, .nils])]))), [], none⟩,
      ⟨.var 2, (.e (.alloc 62 (.st [(.st [(.arr 2 .leaf), .leaf]), (.st [.leaf, .leaf])]) (.agg [(.agg [(.agg [(.u64 0), (.u64 0)]), .nils]), (.agg [.nils, .nils])]))), [], none⟩,
      ⟨.none, (.e (.store (.st [(.st [(.arr 2 .leaf), .leaf]), (.st [.leaf, .leaf])]))), [.t 1, .t 12], none⟩,
      ⟨.none, (.e (.store (.st [(.st [(.arr 2 .leaf), .leaf]), (.st [.leaf, .leaf])]))), [.t 2, .t 13], none⟩])
    (.seq (.reg [⟨.new, (.e (.bsl 4 .leaf (.bool false) 2 [0, 1])), [.c (.bool false), .c (.bool true)], none⟩,
      ⟨.new, (.call 16), [.t 9], none⟩,
      ⟨.new, (.q .mv), [.t 10], none⟩,
      ⟨.new, (.q (.ext 0)), [.t 11], none⟩,
      ⟨.new, (.q (.ext 1)), [.t 11], none⟩,
      ⟨.var 3, (.e (.alloc 37 (.st [.leaf, .leaf]) (.agg [(.int 0), .nils]))), [], none⟩,
      ⟨.none, (.e (.store (.st [.leaf, .leaf]))), [.t 3, .t 12], none⟩,
      ⟨.new, (.q .mv), [.t 13], none⟩])
    (.seq (.reg [⟨.new, (.q (.fa [(.st [(.arr 2 .leaf), .leaf]), (.st [.leaf, .leaf])] 1)), [.t 2], none⟩,
      ⟨.new, (.q (.ld (.st [.leaf, .leaf]))), [.t 9], none⟩,
      ⟨.new, (.q (.ld (.st [.leaf, .leaf]))), [.t 3], none⟩,
      ⟨.new, (.call 27), [.t 10, .c (.u64 0), .t 11], none⟩,
      ⟨.new, (.q .mv), [.t 12], none⟩,
      ⟨.new, (.q (.ext 0)), [.t 13], none⟩,
      ⟨.new, (.q (.ext 1)), [.t 13], none⟩,
      ⟨.new, (.q (.ext 2)), [.t 13], none⟩,
      ⟨.var 4, (.q .mv), [.t 14], none⟩,
      ⟨.var 5, (.q .mv), [.t 15], none⟩,
      ⟨.var 6, (.q .mv), [.t 16], none⟩])
    (.seq (.reg [⟨.new, (.q (.fa [(.st [(.arr 2 .leaf), .leaf]), (.st [.leaf, .leaf])] 0)), [.t 1], none⟩,
      ⟨.new, (.q (.ld (.st [(.arr 2 .leaf), .leaf]))), [.t 9], none⟩,
      ⟨.new, (.q .mv), [.t 4], none⟩,
      ⟨.new, (.call 24), [.t 10, .c (.u64 0), .t 11], none⟩,
      ⟨.new, (.q .mv), [.t 12], none⟩,
      ⟨.new, (.q (.ext 0)), [.t 13], none⟩,
      ⟨.new, (.q (.ext 1)), [.t 13], none⟩,
      ⟨.var 7, (.q .mv), [.t 14], none⟩,
      ⟨.var 8, (.q .mv), [.t 15], none⟩])
    (.seq (.draw [⟨.new, (.q .mv), [.t 6], none⟩,
      ⟨.new, (.q (.bin .eql)), [.t 9, .c (.int 0)], none⟩,
      ⟨.new, (.q .mv), [.t 10], none⟩,
      ⟨.new, (.q .mv), [.t 8], (some (11, true))⟩,
      ⟨.new, (.q .mv), [.t 6], (some (11, true))⟩,
      ⟨.new, (.q (.bin .eql)), [.t 12, .t 13], (some (11, true))⟩,
      ⟨.new, (.q .pick), [.t 11, .t 14, .c (.bool false)], none⟩,
      ⟨.new, (.q .mv), [.t 15], none⟩,
      ⟨.new, (.q .mv), [.t 5], (some (16, true))⟩,
      ⟨.new, (.q .len), [.t 17], (some (16, true))⟩,
      ⟨.new, (.q (.bin .eql)), [.t 18, .c (.int 2)], (some (16, true))⟩,
      ⟨.new, (.q .pick), [.t 16, .t 19, .c (.bool false)], none⟩,
      ⟨.new, (.q .mv), [.t 20], none⟩,
      ⟨.new, (.q .mv), [.t 7], (some (21, true))⟩,
      ⟨.new, (.q .len), [.t 22], (some (21, true))⟩,
      ⟨.new, (.q (.bin .eql)), [.t 23, .c (.int 2)], (some (21, true))⟩,
      ⟨.new, (.q .pick), [.t 21, .t 24, .c (.bool false)], none⟩,
      ⟨.new, (.q .mv), [.t 25], none⟩,
      ⟨.new, (.q .mv), [.t 7], (some (26, true))⟩,
      ⟨.new, (.q (.iaS (.arr 2 .leaf))), [.t 27, .c (.int 0)], (some (26, true))⟩,
      ⟨.new, (.q (.ld (.arr 2 .leaf))), [.t 28], (some (26, true))⟩,
      ⟨.new, (.q .mv), [.t 5], (some (26, true))⟩,
      ⟨.new, (.q (.iaS (.arr 2 .leaf))), [.t 30, .c (.int 0)], (some (26, true))⟩,
      ⟨.new, (.q (.ld (.arr 2 .leaf))), [.t 31], (some (26, true))⟩,
      ⟨.new, (.q (.eqA false 2 .u64)), [.t 29, .t 32], (some (26, true))⟩,
      ⟨.new, (.q .pick), [.t 26, .t 33, .c (.bool false)], none⟩,
      ⟨.new, (.q .mv), [.t 34], none⟩,
      ⟨.new, (.q .mv), [.t 7], (some (35, true))⟩,
      ⟨.new, (.q (.iaS (.arr 2 .leaf))), [.t 36, .c (.int 1)], (some (35, true))⟩,
      ⟨.new, (.q (.ld (.arr 2 .leaf))), [.t 37], (some (35, true))⟩,
      ⟨.new, (.q .mv), [.t 5], (some (35, true))⟩,
      ⟨.new, (.q (.iaS (.arr 2 .leaf))), [.t 39, .c (.int 1)], (some (35, true))⟩,
      ⟨.new, (.q (.ld (.arr 2 .leaf))), [.t 40], (some (35, true))⟩,
      ⟨.new, (.q (.fa [(.st [(.arr 2 .leaf), .leaf]), (.st [.leaf, .leaf])] 0)), [.t 1], (some (35, true))⟩,
      ⟨.new, (.q (.fa [(.arr 2 .leaf), .leaf] 0)), [.t 42], (some (35, true))⟩,
      ⟨.new, (.q (.ld (.arr 2 .leaf))), [.t 43], (some (35, true))⟩,
      ⟨.new, (.call 49), [.t 41, .t 44], (some (35, true))⟩,
      ⟨.new, (.q (.eqA false 2 .u64)), [.t 38, .t 45], (some (35, true))⟩,
      ⟨.new, (.q .pick), [.t 35, .t 46, .c (.bool false)], none⟩,
      ⟨.var 0, (.q .mv), [.t 47], none⟩])
    .ret)))))),
    [.t 0]⟩

set_option maxRecDepth 100000
set_option linter.unusedSimpArgs false
set_option linter.unusedVariables false
theorem c22 : cF P [] (drP P []) 22 0 s22.vm = some s22 := by kernel_rfl
theorem rb_wd {x y : BitVec 64} : wd (fun i => rb x y (i : Int)) 0 = x ∧ wd (fun i => rb x y (i : Int)) 1 = y := by
  constructor
  · refine (wd_of fun j hj => ?_).symm
    unfold rb
    rw [if_pos (by omega)]
    exact congrArg _ (by omega)
  · refine (wd_of fun j hj => ?_).symm
    unfold rb
    rw [if_neg (by omega), if_pos (by omega)]
    exact congrArg _ (by omega)
/-- the columns of who sends are those of who chooses, changed where the bit is 1 and 1 was chosen -/
theorem sF_uF {d0 d1 : BitVec 64} {fk fz fo : Nat → List (BitVec 8)} (hk : ∀ i, fk i = if rb d0 d1 (i : Int) = true then fo i else fz i) {a n : Nat} {c : Nat → Bool} {i j : Nat} :
    sF d0 d1 fk a n (uF fz fo a n c) i j = (clF fz a n i j != (c j && rb d0 d1 (i : Int))) := by
  unfold sF uF clF
  rw [hk]
  cases rb d0 d1 (i : Int)
  · simp
  · rw [if_pos rfl]
    generalize cl (fz i) a n j = p
    generalize cl (fo i) a n j = q
    generalize c j = r
    cases p <;> cases q <;> cases r <;> rfl
theorem cw_sF {d0 d1 : BitVec 64} {fk fz fo : Nat → List (BitVec 8)} (hk : ∀ i, fk i = if rb d0 d1 (i : Int) = true then fo i else fz i) {a n : Nat} {c : Nat → Bool} {j : Nat} :
    jrow d0 d1 (c j) (cw (sF d0 d1 fk a n (uF fz fo a n c)) 0 j) (cw (sF d0 d1 fk a n (uF fz fo a n c)) 1 j) (cw (clF fz a n) 0 j) (cw (clF fz a n) 1 j) = true := by
  have e : ∀ h, cw (sF d0 d1 fk a n (uF fz fo a n c)) h j = cw (clF fz a n) h j ^^^ wd (fun i => c j && rb d0 d1 (i : Int)) h := fun h => by
    unfold cw
    rw [wd_xor]
    exact wd_congr fun i hi => sF_uF hk
  unfold jrow
  rw [decide_eq_true_eq, e, e]
  cases c j
  · rw [if_neg (by decide), if_neg (by decide)]
    simp only [Bool.false_and, wd_false]
    exact ⟨trivial, trivial⟩
  · rw [if_pos rfl, if_pos rfl]
    simp only [Bool.true_and, rb_wd.1, rb_wd.2]
    exact ⟨trivial, trivial⟩
theorem jns_all {d0 d1 : BitVec 64} {x y z w : Nat → BitVec 64} {c : Nat → Bool} : ∀ {n : Nat}, (∀ j, j < n → jrow d0 d1 (c j) (x j) (y j) (z j) (w j) = true) → jns d0 d1 x y z w c n = true
  | 0, _ => rfl
  | n + 1, h => by rw [jns, jns_all fun j hj => h j (by omega), h n (by omega)]; rfl
theorem kS_if {ks : List (BitVec 8)} {i : Nat} : kS ks i = if rb (wdg ks 9 0) (wdg ks 9 1) (i : Int) = true then oS ks i else zS ks i := rfl
theorem jns_deal {ks : List (BitVec 8)} {a n : Nat} {c c' : Nat → Bool} (hc : ∀ j, j < n → c' j = c j) :
    jns (wdg ks 9 0) (wdg ks 9 1) (cw (sF (wdg ks 9 0) (wdg ks 9 1) (kS ks) a n (uF (zS ks) (oS ks) a n c)) 0) (cw (sF (wdg ks 9 0) (wdg ks 9 1) (kS ks) a n (uF (zS ks) (oS ks) a n c)) 1) (cw (clF (zS ks) a n) 0) (cw (clF (zS ks) a n) 1) c' n = true :=
  jns_all fun j hj => by rw [hc j hj]; exact cw_sF fun i => kS_if
theorem f22 {K : AV → Heap → Prop} {H : Heap} (h : K (.bool true) H) : wpF P [] 22 [] H K := by
  refine wpF_go c22 rfl 3 ?_
  intro ha hb
  simp only [s22]
  clear ha hb
  (refine gw0 ?_; try exact True.intro)
  generalize hks : [(3 : BitVec 8), 0, 0, 0, 0, 0, 0, 0, 0, 0, 0, 0, 0, 0, 0, 0, 0, 0, 0, 0, 0, 0, 0, 0, 0, 0, 0, 0, 0, 0, 0, 0] = ks
  have hk : ks.length = 32 := by rw [← hks]; rfl
  have hka : AV.agg [AV.u8 3, AV.u8 0, AV.u8 0, AV.u8 0, AV.u8 0, AV.u8 0, AV.u8 0, AV.u8 0, AV.u8 0, AV.u8 0, AV.u8 0, AV.u8 0, AV.u8 0, AV.u8 0, AV.u8 0, AV.u8 0, AV.u8 0, AV.u8 0, AV.u8 0, AV.u8 0, AV.u8 0, AV.u8 0, AV.u8 0, AV.u8 0, AV.u8 0, AV.u8 0, AV.u8 0, AV.u8 0, AV.u8 0, AV.u8 0, AV.u8 0, AV.u8 0] = .agg (ks.map .u8) := by rw [← hks]; rfl
  rw [hka]
  refine f23 hk ?_
  simp only [sndA, rcvA]
  have hx := child_len (child ks 0) 0
  generalize child (child ks 0) 0 = r0 at *
  generalize child (child ks 0) 1 = r1 at *
  have he : spn 0 ((2 : Nat) : Int) = 0 := rfl
  have h27 : ∀ {K : AV → Heap → Prop} {H : Heap}, K (.tup [.ro vS (veL (fun _ => 2) (uF (zS r0) (oS r0) 0 2 (bfn [false, true])) 128), .ro (.arr 2 .leaf) (rwA (cw (clF (zS r0) 0 2) 0) (cw (clF (zS r0) 0 2) 1) 2), .int 0]) H → wpF P [] 27 [.agg [.ro (.arr 32 .leaf) (sdL (zS r0) 128), .ro (.arr 32 .leaf) (sdL (oS r0) 128)], .u64 0, vec 2 (bfn [false, true])] H K := fun h => f27 (fun _ => zS_len) (fun _ => oS_len) he h
  have h24 : ∀ {K : AV → Heap → Prop} {H : Heap}, K (.tup [.ro (.arr 2 .leaf) (rwA (cw (sF (wdg r0 9 0) (wdg r0 9 1) (kS r0) 0 2 (uF (zS r0) (oS r0) 0 2 (bfn [false, true]))) 0) (cw (sF (wdg r0 9 0) (wdg r0 9 1) (kS r0) 0 2 (uF (zS r0) (oS r0) 0 2 (bfn [false, true]))) 1) 2), .int 0]) H → wpF P [] 24 [.agg [.agg [.u64 (wdg r0 9 0), .u64 (wdg r0 9 1)], .ro (.arr 32 .leaf) (sdL (kS r0) 128)], .u64 0, .ro vS (veL (fun _ => 2) (uF (zS r0) (oS r0) 0 2 (bfn [false, true])) 128)] H K := fun h => f24 (fun _ => kS_len) (fun _ => by omega) rfl he (fun ⟨_, _, hn⟩ => absurd rfl hn) (fun _ => h)
  have hj := jns_deal (ks := r0) (a := 0) (n := 2) (c := bfn [false, true]) (c' := bfn [false, true]) (fun _ _ => rfl)
  have hq : ∀ x y : Nat → BitVec 64, rwA x y 2 = [.agg [.u64 (x 0), .u64 (y 0)], .agg [.u64 (x 1), .u64 (y 1)]] := fun _ _ => rfl
  simp only [hq] at h24 h27
  simp only [jns, jrow, Bool.true_and, Bool.and_eq_true, decide_eq_true_eq] at hj
  obtain ⟨⟨j1, j2⟩, j3, j4⟩ := hj
  rw [show (if bfn [false, true] 0 = true then wdg r0 9 0 else 0) = 0 from rfl] at j1
  rw [show (if bfn [false, true] 0 = true then wdg r0 9 1 else 0) = 0 from rfl] at j2
  rw [show (if bfn [false, true] 1 = true then wdg r0 9 0 else 0) = wdg r0 9 0 from rfl] at j3
  rw [show (if bfn [false, true] 1 = true then wdg r0 9 1 else 0) = wdg r0 9 1 from rfl] at j4
  have z0 : ∀ x : BitVec 64, x ^^^ 0 = x := fun x => by simp
  rw [z0] at j1 j2
  generalize hb : bfn [false, true] = bq at *
  generalize cw (sF (wdg r0 9 0) (wdg r0 9 1) (kS r0) 0 2 (uF (zS r0) (oS r0) 0 2 bq)) 0 0 = a1 at *
  generalize cw (sF (wdg r0 9 0) (wdg r0 9 1) (kS r0) 0 2 (uF (zS r0) (oS r0) 0 2 bq)) 1 0 = a2 at *
  generalize cw (sF (wdg r0 9 0) (wdg r0 9 1) (kS r0) 0 2 (uF (zS r0) (oS r0) 0 2 bq)) 0 1 = a3 at *
  generalize cw (sF (wdg r0 9 0) (wdg r0 9 1) (kS r0) 0 2 (uF (zS r0) (oS r0) 0 2 bq)) 1 1 = a4 at *
  have hbu : ∀ {k : Nat}, AV.bnds k (veL (fun _ => 2) (uF (zS r0) (oS r0) 0 2 bq) 128) = true := bnds_veL
  generalize veL (fun _ => 2) (uF (zS r0) (oS r0) 0 2 bq) 128 = U at *
  generalize cw (clF (zS r0) 0 2) 0 0 = b1 at *
  generalize cw (clF (zS r0) 0 2) 1 0 = b2 at *
  generalize cw (clF (zS r0) 0 2) 0 1 = b3 at *
  generalize cw (clF (zS r0) 0 2) 1 1 = b4 at *
  generalize sdL (kS r0) 128 = lk at *
  generalize sdL (zS r0) 128 = lz at *
  generalize sdL (oS r0) 128 = lo at *
  generalize wdg r0 9 0 = d0 at *
  generalize wdg r0 9 1 = d1 at *
  generalize sdL (kS r1) 128 = lk1 at *
  generalize sdL (zS r1) 128 = lz1 at *
  generalize sdL (oS r1) 128 = lo1 at *
  (refine gw0 ?_; try exact True.intro)
  refine wpF_give1 (H.length + 2) 2 ?_
  (refine gw0 ?_; try exact True.intro)
  refine f16 (l := [false, true]) (by decide) ?_
  rw [hb]
  have hv : vec [false, true].length bq = .agg [.int 2, .ro .leaf (wdA 2 bq)] := rfl
  have hv2 : vec 2 bq = .agg [.int 2, .ro .leaf (wdA 2 bq)] := rfl
  rw [hv]
  rw [hv2] at h27
  generalize wdA 2 bq = W at *
  (refine gw0 ?_; try exact True.intro)
  refine h27 ?_
  (refine gw0 ?_; try exact True.intro)
  refine h24 ?_
  (refine gw2 @j1 @j2 ?_; try exact True.intro)
  refine ⟨rfl, rfl, drawn _ (f49 (x := b3) (y := b4) (z := d0) (w := d1) ⟨rfl, rfl⟩) ?_⟩
  rw [← j3, ← j4]
  unfold rowV
  (refine gw0 ?_; try exact True.intro)
  first | exact ⟨rfl, rfl, h⟩ | exact h | trace_state
end Go.Proofs.Ytjilenmngokhpaa

end

section
/-
  Layer 17 (iknp): IknpJoins walked.
-/
open Go Go.V
namespace Go.Proofs.Ytjilenmngokhpaa
/-- trefoil/trefoillaw17.IknpJoins (0:master, 1:epoch, 2:from, 3:choices, 4:master, 8:, 9:a, 10:b, 11:v, 13:u, 14:t, 15:e, 16:q, 17:f, 18:x, 19:y, 20:g, 21:z, 22:h, 34:, 97:) -/
def s9 : FnS := ⟨135, [0, 1, 2, 3, 4, 8, 9, 10, 11, 13, 14, 15, 16, 17, 18, 19, 20, 21, 22, 34, 97],
    (.seq (.reg [⟨.var 4, (.e (.box 46 (.arr 32 .leaf))), [.t 0], none⟩,
      ⟨.var 5, (.q .mv), [.c (.bool false)], none⟩])
    (.seq (.seq (.reg [⟨.new, (.q .mv), [.t 3], none⟩,
      ⟨.new, (.q .len), [.t 21], none⟩,
      ⟨.new, (.q (.bin .gtr)), [.t 22, .c (.int 200)], none⟩,
      ⟨.new, (.q .mv), [.t 23], none⟩,
      ⟨.new, (.q .mv), [.t 3], (some (24, false))⟩,
      ⟨.new, (.q .len), [.t 25], (some (24, false))⟩,
      ⟨.new, (.q (.bin .eql)), [.t 26, .c (.int 0)], (some (24, false))⟩,
      ⟨.new, (.q .pick), [.t 24, .c (.bool true), .t 27], none⟩,
      ⟨.new, (.q .mv), [.t 28], none⟩,
      ⟨.new, (.q .mv), [.t 2], (some (29, false))⟩,
      ⟨.new, (.q (.bin .gtr)), [.t 30, .c (.u64 33554432)], (some (29, false))⟩,
      ⟨.var 19, (.q .pick), [.t 29, .c (.bool true), .t 31], none⟩])
    (.cond (.t 19) (.seq (.reg [⟨.new, (.call 22), [], none⟩,
      ⟨.var 5, (.q .mv), [.t 21], none⟩])
    .ret)
    .skip))
    (.seq (.reg [⟨.new, (.q (.ld (.arr 32 .leaf))), [.t 4], none⟩,
      ⟨.new, (.q .mv), [.t 1], none⟩,
      ⟨.new, (.call 23), [.t 21, .t 22], none⟩,
      ⟨.new, (.q .mv), [.t 23], none⟩,
      ⟨.new, (.q (.ext 0)), [.t 24], none⟩,
      ⟨.new, (.q (.ext 1)), [.t 24], none⟩,
      ⟨.var 6, (.e (.alloc 62 (.st [(.st [(.arr 2 .leaf), .leaf]), (.st [.leaf, .leaf])]) (.agg [(.agg [(.agg [(.u64 0), (.u64 0)]), .nils]), (.agg [.nils, .nils])]))), [], none⟩,
      ⟨.var 7, (.e (.alloc 62 (.st [(.st [(.arr 2 .leaf), .leaf]), (.st [.leaf, .leaf])]) (.agg [(.agg [(.agg [(.u64 0), (.u64 0)]), .nils]), (.agg [.nils, .nils])]))), [], none⟩,
      ⟨.none, (.e (.store (.st [(.st [(.arr 2 .leaf), .leaf]), (.st [.leaf, .leaf])]))), [.t 6, .t 25], none⟩,
      ⟨.none, (.e (.store (.st [(.st [(.arr 2 .leaf), .leaf]), (.st [.leaf, .leaf])]))), [.t 7, .t 26], none⟩])
    (.seq (.reg [⟨.new, (.q .mv), [.t 3], none⟩,
      ⟨.new, (.call 16), [.t 21], none⟩,
      ⟨.new, (.q .mv), [.t 22], none⟩,
      ⟨.new, (.q (.ext 0)), [.t 23], none⟩,
      ⟨.new, (.q (.ext 1)), [.t 23], none⟩,
      ⟨.var 8, (.e (.alloc 37 (.st [.leaf, .leaf]) (.agg [(.int 0), .nils]))), [], none⟩,
      ⟨.none, (.e (.store (.st [.leaf, .leaf]))), [.t 8, .t 24], none⟩,
      ⟨.new, (.q .mv), [.t 25], none⟩])
    (.seq (.reg [⟨.new, (.q (.fa [(.st [(.arr 2 .leaf), .leaf]), (.st [.leaf, .leaf])] 1)), [.t 7], none⟩,
      ⟨.new, (.q (.ld (.st [.leaf, .leaf]))), [.t 21], none⟩,
      ⟨.new, (.q .mv), [.t 2], none⟩,
      ⟨.new, (.q (.ld (.st [.leaf, .leaf]))), [.t 8], none⟩,
      ⟨.new, (.call 27), [.t 22, .t 23, .t 24], none⟩,
      ⟨.new, (.q .mv), [.t 25], none⟩,
      ⟨.new, (.q (.ext 0)), [.t 26], none⟩,
      ⟨.new, (.q (.ext 1)), [.t 26], none⟩,
      ⟨.new, (.q (.ext 2)), [.t 26], none⟩,
      ⟨.var 9, (.q .mv), [.t 27], none⟩,
      ⟨.var 10, (.q .mv), [.t 28], none⟩,
      ⟨.var 11, (.q .mv), [.t 29], none⟩])
    (.seq (.reg [⟨.new, (.q (.fa [(.st [(.arr 2 .leaf), .leaf]), (.st [.leaf, .leaf])] 0)), [.t 6], none⟩,
      ⟨.new, (.q (.ld (.st [(.arr 2 .leaf), .leaf]))), [.t 21], none⟩,
      ⟨.new, (.q .mv), [.t 2], none⟩,
      ⟨.new, (.q .mv), [.t 9], none⟩,
      ⟨.new, (.call 24), [.t 22, .t 23, .t 24], none⟩,
      ⟨.new, (.q .mv), [.t 25], none⟩,
      ⟨.new, (.q (.ext 0)), [.t 26], none⟩,
      ⟨.new, (.q (.ext 1)), [.t 26], none⟩,
      ⟨.var 12, (.q .mv), [.t 27], none⟩,
      ⟨.var 13, (.q .mv), [.t 28], none⟩])
    (.seq (.reg [⟨.new, (.q (.fa [(.st [(.arr 2 .leaf), .leaf]), (.st [.leaf, .leaf])] 1)), [.t 6], none⟩,
      ⟨.new, (.q (.ld (.st [.leaf, .leaf]))), [.t 21], none⟩,
      ⟨.new, (.q .mv), [.t 2], none⟩,
      ⟨.new, (.q (.ld (.st [.leaf, .leaf]))), [.t 8], none⟩,
      ⟨.new, (.call 27), [.t 22, .t 23, .t 24], none⟩,
      ⟨.new, (.q .mv), [.t 25], none⟩,
      ⟨.new, (.q (.ext 0)), [.t 26], none⟩,
      ⟨.new, (.q (.ext 1)), [.t 26], none⟩,
      ⟨.new, (.q (.ext 2)), [.t 26], none⟩,
      ⟨.var 14, (.q .mv), [.t 27], none⟩,
      ⟨.var 15, (.q .mv), [.t 28], none⟩,
      ⟨.var 16, (.q .mv), [.t 29], none⟩])
    (.seq (.reg [⟨.new, (.q (.fa [(.st [(.arr 2 .leaf), .leaf]), (.st [.leaf, .leaf])] 0)), [.t 7], none⟩,
      ⟨.new, (.q (.ld (.st [(.arr 2 .leaf), .leaf]))), [.t 21], none⟩,
      ⟨.new, (.q .mv), [.t 2], none⟩,
      ⟨.new, (.q .mv), [.t 14], none⟩,
      ⟨.new, (.call 24), [.t 22, .t 23, .t 24], none⟩,
      ⟨.new, (.q .mv), [.t 25], none⟩,
      ⟨.new, (.q (.ext 0)), [.t 26], none⟩,
      ⟨.new, (.q (.ext 1)), [.t 26], none⟩,
      ⟨.var 17, (.q .mv), [.t 27], none⟩,
      ⟨.var 18, (.q .mv), [.t 28], none⟩])
    (.seq (.seq (.reg [⟨.new, (.q .mv), [.t 11], none⟩,
      ⟨.new, (.q (.bin .neq)), [.t 21, .c (.int 0)], none⟩,
      ⟨.new, (.q .mv), [.t 22], none⟩,
      ⟨.new, (.q .mv), [.t 13], (some (23, false))⟩,
      ⟨.new, (.q .mv), [.t 11], (some (23, false))⟩,
      ⟨.new, (.q (.bin .neq)), [.t 24, .t 25], (some (23, false))⟩,
      ⟨.new, (.q .pick), [.t 23, .c (.bool true), .t 26], none⟩,
      ⟨.new, (.q .mv), [.t 27], none⟩,
      ⟨.new, (.q .mv), [.t 16], (some (28, false))⟩,
      ⟨.new, (.q .mv), [.t 11], (some (28, false))⟩,
      ⟨.new, (.q (.bin .neq)), [.t 29, .t 30], (some (28, false))⟩,
      ⟨.new, (.q .pick), [.t 28, .c (.bool true), .t 31], none⟩,
      ⟨.new, (.q .mv), [.t 32], none⟩,
      ⟨.new, (.q .mv), [.t 18], (some (33, false))⟩,
      ⟨.new, (.q .mv), [.t 11], (some (33, false))⟩,
      ⟨.new, (.q (.bin .neq)), [.t 34, .t 35], (some (33, false))⟩,
      ⟨.var 20, (.q .pick), [.t 33, .c (.bool true), .t 36], none⟩])
    (.cond (.t 20) (.seq (.reg [⟨.var 5, (.q .mv), [.c (.bool false)], none⟩])
    .ret)
    .skip))
    (.seq (.reg [⟨.new, (.q (.fa [(.st [(.arr 2 .leaf), .leaf]), (.st [.leaf, .leaf])] 0)), [.t 6], none⟩,
      ⟨.new, (.q (.fa [(.arr 2 .leaf), .leaf] 0)), [.t 21], none⟩,
      ⟨.new, (.q (.ld (.arr 2 .leaf))), [.t 22], none⟩,
      ⟨.new, (.q .mv), [.t 12], none⟩,
      ⟨.new, (.q .mv), [.t 10], none⟩,
      ⟨.new, (.q .mv), [.t 3], none⟩,
      ⟨.new, (.call 31), [.t 23, .t 24, .t 25, .t 26], none⟩,
      ⟨.new, (.q .mv), [.t 27], none⟩,
      ⟨.new, (.q (.fa [(.st [(.arr 2 .leaf), .leaf]), (.st [.leaf, .leaf])] 0)), [.t 7], (some (28, true))⟩,
      ⟨.new, (.q (.fa [(.arr 2 .leaf), .leaf] 0)), [.t 29], (some (28, true))⟩,
      ⟨.new, (.q (.ld (.arr 2 .leaf))), [.t 30], (some (28, true))⟩,
      ⟨.new, (.q .mv), [.t 17], (some (28, true))⟩,
      ⟨.new, (.q .mv), [.t 15], (some (28, true))⟩,
      ⟨.new, (.q .mv), [.t 3], (some (28, true))⟩,
      ⟨.new, (.call 31), [.t 31, .t 32, .t 33, .t 34], (some (28, true))⟩,
      ⟨.new, (.q .pick), [.t 28, .t 35, .c (.bool false)], none⟩,
      ⟨.new, (.q .mv), [.t 36], none⟩,
      ⟨.new, (.q (.fa [(.st [(.arr 2 .leaf), .leaf]), (.st [.leaf, .leaf])] 0)), [.t 6], (some (37, true))⟩,
      ⟨.new, (.q (.fa [(.arr 2 .leaf), .leaf] 0)), [.t 38], (some (37, true))⟩,
      ⟨.new, (.q (.ld (.arr 2 .leaf))), [.t 39], (some (37, true))⟩,
      ⟨.new, (.q .mv), [.t 12], (some (37, true))⟩,
      ⟨.new, (.q .mv), [.t 10], (some (37, true))⟩,
      ⟨.new, (.q (.ld (.st [.leaf, .leaf]))), [.t 8], (some (37, true))⟩,
      ⟨.new, (.call 32), [.t 40, .t 41, .t 42, .t 43], (some (37, true))⟩,
      ⟨.new, (.q .pick), [.t 37, .t 44, .c (.bool false)], none⟩,
      ⟨.new, (.q .mv), [.t 45], none⟩,
      ⟨.new, (.q (.fa [(.st [(.arr 2 .leaf), .leaf]), (.st [.leaf, .leaf])] 0)), [.t 7], (some (46, true))⟩,
      ⟨.new, (.q (.fa [(.arr 2 .leaf), .leaf] 0)), [.t 47], (some (46, true))⟩,
      ⟨.new, (.q (.ld (.arr 2 .leaf))), [.t 48], (some (46, true))⟩,
      ⟨.new, (.q .mv), [.t 17], (some (46, true))⟩,
      ⟨.new, (.q .mv), [.t 15], (some (46, true))⟩,
      ⟨.new, (.q (.ld (.st [.leaf, .leaf]))), [.t 8], (some (46, true))⟩,
      ⟨.new, (.call 32), [.t 49, .t 50, .t 51, .t 52], (some (46, true))⟩,
      ⟨.new, (.q .pick), [.t 46, .t 53, .c (.bool false)], none⟩,
      ⟨.new, (.q .mv), [.t 54], none⟩,
      ⟨.new, (.call 22), [], (some (55, true))⟩,
      ⟨.new, (.q .pick), [.t 55, .t 56, .c (.bool false)], none⟩,
      ⟨.var 5, (.q .mv), [.t 57], none⟩])
    .ret)))))))))),
    [.t 5]⟩

set_option maxRecDepth 100000
set_option linter.unusedSimpArgs false
set_option linter.unusedVariables false
theorem c9 : cF P [] (drP P []) 9 4 s9.vm = some s9 := by kernel_rfl
def colD (ks : List (BitVec 8)) (a n : Nat) (c : Nat → Bool) : List AV := veL (fun _ => n) (uF (zS ks) (oS ks) a n c) 128
def rowT (ks : List (BitVec 8)) (a n : Nat) : List AV := rwA (cw (clF (zS ks) a n) 0) (cw (clF (zS ks) a n) 1) n
def rowS (ks : List (BitVec 8)) (a n : Nat) (c : Nat → Bool) : List AV := rwA (cw (sF (wdg ks 9 0) (wdg ks 9 1) (kS ks) a n (uF (zS ks) (oS ks) a n c)) 0) (cw (sF (wdg ks 9 0) (wdg ks 9 1) (kS ks) a n (uF (zS ks) (oS ks) a n c)) 1) n
theorem f27d {K : AV → Heap → Prop} {H : Heap} {ks : List (BitVec 8)} {a : BitVec 64} {n : Nat} {c : Nat → Bool} (he : spn a n = 0) (h : K (.tup [.ro vS (colD ks a.toNat n c), .ro (.arr 2 .leaf) (rowT ks a.toNat n), .int 0]) H) : wpF P [] 27 [.agg [.ro (.arr 32 .leaf) (sdL (zS ks) 128), .ro (.arr 32 .leaf) (sdL (oS ks) 128)], .u64 a, vec n c] H K :=
  f27 (fun _ => zS_len) (fun _ => oS_len) he h
theorem f24d {K : AV → Heap → Prop} {H : Heap} {ks : List (BitVec 8)} {a : BitVec 64} {n : Nat} {c : Nat → Bool} (he : spn a n = 0) (h : K (.tup [.ro (.arr 2 .leaf) (rowS ks a.toNat n c), .int 0]) H) : wpF P [] 24 [.agg [.agg [.u64 (wdg ks 9 0), .u64 (wdg ks 9 1)], .ro (.arr 32 .leaf) (sdL (kS ks) 128)], .u64 a, .ro vS (colD ks a.toNat n c)] H K :=
  f24 (m := fun _ => n) (fun _ => kS_len) (fun _ => by have := spn_0 he; omega) rfl he (fun ⟨_, _, hn⟩ => absurd rfl hn) (fun _ => h)
theorem f31d {K : AV → Heap → Prop} {H : Heap} {ks : List (BitVec 8)} {a n : Nat} {c : Nat → Bool} (hn : n ≤ 100000) (h : K (.bool true) H) : wpF P [] 31 [.agg [.u64 (wdg ks 9 0), .u64 (wdg ks 9 1)], .ro (.arr 2 .leaf) (rowS ks a n c), .ro (.arr 2 .leaf) (rowT ks a n), .ro .leaf (boL c n)] H K :=
  f31 hn (by rw [jns_deal fun _ _ => rfl]; exact h)
theorem f32d {K : AV → Heap → Prop} {H : Heap} {ks : List (BitVec 8)} {a n : Nat} {c : Nat → Bool} (hn : n ≤ 100000) (h : K (.bool true) H) : wpF P [] 32 [.agg [.u64 (wdg ks 9 0), .u64 (wdg ks 9 1)], .ro (.arr 2 .leaf) (rowS ks a n c), .ro (.arr 2 .leaf) (rowT ks a n), vec n c] H K :=
  f32 hn (by
    have e : jnd (wdg ks 9 0) (wdg ks 9 1) (cw (sF (wdg ks 9 0) (wdg ks 9 1) (kS ks) a n (uF (zS ks) (oS ks) a n c)) 0) (cw (sF (wdg ks 9 0) (wdg ks 9 1) (kS ks) a n (uF (zS ks) (oS ks) a n c)) 1) (cw (clF (zS ks) a n) 0) (cw (clF (zS ks) a n) 1) (cut n c) n n n = true := by
      unfold jnd
      rw [jns_deal fun j hj => by simp [cut, hj]]
      simp
    rw [e]
    exact h)
theorem boL_map {cs : List Bool} : cs.map AV.bool = boL (bfn cs) cs.length := by
  unfold boL
  apply List.ext_getElem?
  intro i
  by_cases h : i < cs.length
  · rw [List.getElem?_map, List.getElem?_map, List.getElem?_range h, List.getElem?_eq_getElem h]
    simp [bfn, h]
  · rw [List.getElem?_eq_none (by simp; omega), List.getElem?_eq_none (by simp; omega)]
theorem bnds_col {ks : List (BitVec 8)} {a n k : Nat} {c : Nat → Bool} : AV.bnds k (colD ks a n c) = true := bnds_veL
theorem f9 {K : AV → Heap → Prop} {H : Heap} {ks : List (BitVec 8)} {ep a : BitVec 64} {cs : List Bool} (hk : ks.length = 32) (h : K (.bool true) H) : wpF P [] 9 [.agg (ks.map .u8), .u64 ep, .u64 a, .ro .leaf (cs.map .bool)] H K := by
  refine wpF_go c9 rfl 3 ?_
  intro ha hb
  simp only [s9]
  clear ha hb
  have lc : (cs.map AV.bool).length = cs.length := by simp
  by_cases h1 : 200 < cs.length
  · have e1 : ((200 : Int) < (cs.length : Int)) = True := by simp only [eq_iff_iff, iff_true]; omega
    (refine gw3 @hk @lc @e1 ?_; try exact True.intro)
    refine f22 ?_
    (refine gw0 ?_; try exact True.intro)
    exact h
  have e1 : ((200 : Int) < (cs.length : Int)) = False := by simp only [eq_iff_iff, iff_false]; omega
  by_cases h2 : cs.length = 0
  · have e2 : ((cs.length : Int) = 0) = True := by simp only [eq_iff_iff, iff_true]; omega
    (refine gw4 @hk @lc @e1 @e2 ?_; try exact True.intro)
    refine f22 ?_
    (refine gw0 ?_; try exact True.intro)
    exact h
  have e2 : ((cs.length : Int) = 0) = False := by simp only [eq_iff_iff, iff_false]; omega
  by_cases h3 : 33554432 < a
  · have e3 := eq_true h3
    (refine gw5 @hk @lc @e1 @e2 @e3 ?_; try exact True.intro)
    refine f22 ?_
    (refine gw0 ?_; try exact True.intro)
    exact h
  have e3 := eq_false h3
  rw [BitVec.lt_def] at h3
  have h3' : ¬ 33554432 < a.toNat := h3
  have he : spn a cs.length = 0 := by
    unfold spn
    rw [if_neg (by omega), if_neg (by omega)]
  have hn : cs.length ≤ 100000 := by omega
  have hv : ∀ f, vec cs.length f = .agg [.int (cs.length : Int), .ro .leaf (wdA cs.length f)] := fun _ => rfl
  have h16 : ∀ {K : AV → Heap → Prop} {H : Heap}, K (.tup [vec cs.length (bfn cs), .int 0]) H → wpF P [] 16 [.ro .leaf (boL (bfn cs) cs.length)] H K := fun h => by rw [← boL_map]; exact f16 (by omega) h
  rw [boL_map]
  have lb : (boL (bfn cs) cs.length).length = cs.length := by simp [boL]
  (refine gw5 @hk @lb @e1 @e2 @e3 ?_; try exact True.intro)
  refine f23 hk ?_
  simp only [sndA, rcvA]
  generalize child (child ks ep) 0 = r0 at *
  generalize child (child ks ep) 1 = r1 at *
  have p27 := fun K H => @f27d K H r0 a cs.length (bfn cs) he
  have p24 := fun K H => @f24d K H r0 a cs.length (bfn cs) he
  have p31 := fun K H => @f31d K H r0 a.toNat cs.length (bfn cs) hn
  have p32 := fun K H => @f32d K H r0 a.toNat cs.length (bfn cs) hn
  have q27 := fun K H => @f27d K H r1 a cs.length (bfn cs) he
  have q24 := fun K H => @f24d K H r1 a cs.length (bfn cs) he
  have q31 := fun K H => @f31d K H r1 a.toNat cs.length (bfn cs) hn
  have q32 := fun K H => @f32d K H r1 a.toNat cs.length (bfn cs) hn
  rw [hv] at p27 q27 p32 q32 h16
  generalize boL (bfn cs) cs.length = C at *
  generalize wdA cs.length (bfn cs) = W at *
  generalize colD r0 a.toNat cs.length (bfn cs) = U0 at *
  generalize rowT r0 a.toNat cs.length = T0 at *
  generalize rowS r0 a.toNat cs.length (bfn cs) = S0 at *
  generalize sdL (kS r0) 128 = lk0 at *
  generalize sdL (zS r0) 128 = lz0 at *
  generalize sdL (oS r0) 128 = lo0 at *
  generalize wdg r0 9 0 = x0 at *
  generalize wdg r0 9 1 = y0 at *
  generalize colD r1 a.toNat cs.length (bfn cs) = U1 at *
  generalize rowT r1 a.toNat cs.length = T1 at *
  generalize rowS r1 a.toNat cs.length (bfn cs) = S1 at *
  generalize sdL (kS r1) 128 = lk1 at *
  generalize sdL (zS r1) 128 = lz1 at *
  generalize sdL (oS r1) 128 = lo1 at *
  generalize wdg r1 9 0 = x1 at *
  generalize wdg r1 9 1 = y1 at *
  (refine gw0 ?_; try exact True.intro)
  refine h16 ?_
  (refine gw0 ?_; try exact True.intro)
  refine p27 _ _ ?_
  (refine gw0 ?_; try exact True.intro)
  refine p24 _ _ ?_
  (refine gw0 ?_; try exact True.intro)
  refine q27 _ _ ?_
  (refine gw0 ?_; try exact True.intro)
  refine q24 _ _ ?_
  (refine gw0 ?_; try exact True.intro)
  refine p31 _ _ ?_
  (refine gw0 ?_; try exact True.intro)
  refine q31 _ _ ?_
  (refine gw0 ?_; try exact True.intro)
  refine p32 _ _ ?_
  (refine gw0 ?_; try exact True.intro)
  refine q32 _ _ ?_
  (refine gw0 ?_; try exact True.intro)
  refine f22 ?_
  (refine gw0 ?_; try exact True.intro)
  exact h
end Go.Proofs.Ytjilenmngokhpaa

end
