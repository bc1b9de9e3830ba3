import Derived.Test.YtjilenmngokhpaaDoorV30
import Derived.WalkKit
import Derived.ProofKit
import Derived.OpenShut
/- From what a law's function hands back to what its row says. -/
namespace Go.V
open Go Go.ChangeShapes Go.WideShapes Go.ChangeAt Go.RowKit

/-- what was there is there as it was -/
def Still (w w' : World) : Prop := w'.os = w.os ∧ w'.output = w.output ∧ w.heap.size ≤ w'.heap.size ∧ ∀ k, k < w.heap.size → w'.heap[k]? = w.heap[k]?

theorem calls_of {P : Program} {f : FuncId} {args : List AV} {vs : List Value} (h : wpF P [] f args [] fun r _ => r = .bool true) (w : World) (hr : RepVs w (fun _ => none) 0 vs args) :
    Calls P f vs.toArray w fun e w' => e = .returned (.bool true) ∧ Still w w' := by
  have hI : HeapInv w (fun _ => none) [] := ⟨fun b _ => rfl, fun b blk hb => by simp [Heap.get] at hb, fun b b' l l' k h1 => by cases h1⟩
  refine (h.2 w (fun _ => none) vs hI (fun g s a hm => by simp at hm) hr).mono ?_
  rintro e w' ⟨v, r, H', loc', h1, _, h3, h4, _, rfl⟩
  refine ⟨?_, h4.os, h4.output, h4.size, fun k hk => h4.block k hk fun b l hl => by cases hl⟩
  have := (h3.rep rfl).bool_inv
  simp at this
  rw [h1, this]

theorem keptBut_of {w w' : World} (h : Still w w') (may : MemPlace → Prop) : w.keptBut w' may := by
  refine ⟨h.1, h.2.1, fun i hi => ?_⟩
  rw [h.2.2.2 i hi]
  cases w.heap[i]? with
  | none => rfl
  | some o => cases o <;> simp

theorem frozen_of {w w' : World} (h : Still w w') {a : Addr} (ha : a.block < w.heap.size) : w'.frozen? a = w.frozen? a := by
  simp only [World.frozen?, h.2.2.2 _ ha]

variable {H : Type} {enc : TypeId × Value → H} {P : Program}

theorem post_law {f : Func} {s : ChangeSpec} {apart fresh handsOn again : Bool} {W W' : World} {args : Array Value} {ds gs : List (DataW H)} {before pa pv : List MemPlace} (t : TypeId) (hrt : f.resultTypes = #[t]) (htb : P.underlying t = some .bool)
    (hW : DataW.Whole enc P f.params.toList s.vars apart W args.toList ds gs before) (hst : Still W W')
    (hres : (s.fn H (ds ++ gs)).results = [.lit (.bool true)])
    (hargs : ∀ sp : Nat → Bool, (∀ p ∈ before, sp p.block = true) → DataW.TrodAll enc P W' 0 sp true f.params.toList args.toList (s.fn H (ds ++ gs)).args pa)
    (hvars : ∀ sp : Nat → Bool, (∀ p ∈ before, sp p.block = true) → DataW.TrodVars enc P W' sp s.vars (s.fn H (ds ++ gs)).vars pv)
    (hps : before = pa ++ pv) :
    s.post enc P f apart fresh handsOn again W args (.bool true) W' := by
  have hold : ∀ p ∈ before, (fun b => decide (b < W.heap.size)) p.block = true := fun p hp => by simpa using hW.lt p hp
  have hlt := fun p hp => hW.lt p hp
  have hr : ∀ (b : Nat) (sp : Nat → Bool) (hd : Bool), DataW.TrodAll enc P W' b sp hd f.resultTypes.toList ((Value.bool true).resultList f.resultTypes.size) (s.fn H (ds ++ gs)).results [] := by
    intro b sp hd
    rw [hres, hrt]
    exact trodAll_cons_mk (shut_bool htb _) trodAll_mk0
  refine ⟨ds, gs, before, [], pa, pv, hW, hr _ _ _, hargs _ hold, hvars _ hold, keptBut_of hst _, fun _ => ?_⟩
  have hok : ∀ (j : Nat) (u : TypeId) (r : Value), f.resultTypes[j]? = some u → ((Value.bool true).resultList f.resultTypes.size)[j]? = some r → Value.okWide P W' .any 0 u r :=
    ok_one hrt rfl (okWide_bool_mk htb _)
  obtain ⟨_, _, _, _, _, hz, hn⟩ := hW
  refine ⟨hok, _, _, ([] ++ pa) ++ pv, ⟨[] ++ pa, pv, trodAll_append (hargs _ (fun _ _ => rfl)) (hr _ _ _), hvars _ (fun _ _ => rfl), rfl, ?_, ?_⟩, ?_⟩
  · intro b off hp
    have hp' : MemPlace.cell b off ∈ before := by rw [hps]; simpa using hp
    rw [frozen_of hst (hlt _ hp')]
    exact hz b off hp'
  · intro ha
    have := hn ha
    rw [hps] at this
    simpa using this
  · intro p hp _
    rw [hps]
    simpa using hp

/-! Values of the plain kinds -/

theorem repV_u8 {w : World} {loc : Loc} {N : Nat} {a : Int} (h : (Lit.int .u8 a).wf = true) : RepV w loc N (.int .u8 a) (.u8 (BitVec.ofInt 8 a)) := by
  simp [Lit.wf, IntKind.min, IntKind.max, IntKind.bits, IntKind.signed] at h
  have : ((BitVec.ofInt 8 a).toNat : Int) = a := by rw [BitVec.toNat_ofInt]; omega
  refine .cell _ _ rfl ?_
  have h1 := Rep.u8 (w := w) (loc := loc) (N := N) (BitVec.ofInt 8 a)
  rwa [this] at h1
theorem repV_u32 {w : World} {loc : Loc} {N : Nat} {a : Int} (h : (Lit.int .u32 a).wf = true) : RepV w loc N (.int .u32 a) (.u32 (BitVec.ofInt 32 a)) := by
  simp [Lit.wf, IntKind.min, IntKind.max, IntKind.bits, IntKind.signed] at h
  have : ((BitVec.ofInt 32 a).toNat : Int) = a := by rw [BitVec.toNat_ofInt]; omega
  refine .cell _ _ rfl ?_
  have h1 := Rep.u32 (w := w) (loc := loc) (N := N) (BitVec.ofInt 32 a)
  rwa [this] at h1
theorem repV_u64 {w : World} {loc : Loc} {N : Nat} {a : Int} (h : (Lit.int .u64 a).wf = true) : RepV w loc N (.int .u64 a) (.u64 (BitVec.ofInt 64 a)) := by
  simp [Lit.wf, IntKind.min, IntKind.max, IntKind.bits, IntKind.signed] at h
  have : ((BitVec.ofInt 64 a).toNat : Int) = a := by rw [BitVec.toNat_ofInt]; omega
  refine .cell _ _ rfl ?_
  have h1 := Rep.u64 (w := w) (loc := loc) (N := N) (BitVec.ofInt 64 a)
  rwa [this] at h1
theorem repV_int {w : World} {loc : Loc} {N : Nat} {a : Int} (h : (Lit.int .i64 a).wf = true) : RepV w loc N (.int .i64 a) (.int a) := by
  simp [Lit.wf, IntKind.min, IntKind.max, IntKind.bits, IntKind.signed] at h
  exact .cell _ _ rfl (.int a (by unfold InR; omega))
theorem repV_bool {w : World} {loc : Loc} {N : Nat} {b : Bool} : RepV w loc N (.bool b) (.bool b) := .cell _ _ rfl (.bool b)

end Go.V
