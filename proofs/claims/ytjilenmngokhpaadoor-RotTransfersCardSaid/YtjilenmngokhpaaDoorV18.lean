import Derived.Test.YtjilenmngokhpaaDoorV17
/- Instructions; a function's weakest precondition; regions that keep the text's order. -/
namespace Go.V
open Go

inductive Opd where
  | t (i : Nat)
  | c (a : AV)

def Opd.get (env : List AV) : Opd → AV
  | .t i => env.getD i .un
  | .c a => a

inductive Dst where
  | none
  | var (i : Nat)
  | new

inductive Iop where
  | q (q : Q)
  | e (e : E)
  | call (f : FuncId)
  | callv
  /-- a call that hangs on no memory -/
  | callp (f : FuncId)
  /-- is a list there at all? (an empty one may be or not) -/
  | nilq (neg : Bool)
  /-- a call that hangs on no memory, and makes one list -/
  | callm (f : FuncId)
  /-- a call that may write the memory that it is handed -/
  | callw (f : FuncId)
  /-- no operation: which two of a region may change places, where they reach other memory -/
  | pairs (ps : List (Nat × Nat))

structure Ins where
  dst : Dst
  op : Iop
  args : List Opd
  g : Option (Nat × Bool) := Option.none

def putE (env : List AV) (d : Dst) (v : AV) : List AV :=
  match d with
  | .none => env
  | .var i => env.set i v
  | .new => env ++ [v]

/-- The package variables that are read: where they lie, and what they hold. -/
abbrev Globs := List (Nat × Shape × AV)

def GlobOk (G : Globs) (w : World) (loc : Loc) : Prop := ∀ g s a, (g, s, a) ∈ G → Rep w loc 0 [.pointer (some ⟨g, 0, none⟩)] (.rp s a)

theorem GlobOk.mono {G : Globs} {w w' : World} {loc loc' : Loc} {N : Nat} (h : GlobOk G w loc) (hE : Ext w loc N w' loc') : GlobOk G w' loc' := by
  intro g s a hm
  refine (h g s a hm).mono ⟨hE.os, hE.tape, hE.output, hE.size, hE.block, ?_, hE.wb⟩ (Nat.le_refl 0)
  intro b l' hl
  exact .inl (Nat.zero_le _)

structure FnOk (P : Program) (f : FuncId) : Prop where
  ex : ∃ fn, P.funcs[f]? = some fn ∧ (fn.name == "runtime.NumGoroutine") = false ∧ fn.body.isNone = false

/-- Called with these values, the function returns, and what it returns meets K. -/
def wpF (P : Program) (G : Globs) (f : FuncId) (args : List AV) (H : Heap) (K : AV → Heap → Prop) : Prop :=
  FnOk P f ∧ ∀ (w : World) (loc : Loc) (vs : List Value), HeapInv w loc H → GlobOk G w loc → RepVs w loc H.length vs args →
    Calls P f vs.toArray w fun e w' => ∃ v r H' loc', e = .returned v ∧ HeapInv w' loc' H' ∧ RepV w' loc' H'.length v r ∧ Ext w loc H.length w' loc' ∧ H.length ≤ H'.length ∧ K r H'

theorem wpF.mono {P : Program} {G : Globs} {f : FuncId} {args : List AV} {H : Heap} {K K' : AV → Heap → Prop} (h : wpF P G f args H K) (hk : ∀ r H', K r H' → K' r H') : wpF P G f args H K' :=
  ⟨h.1, fun w loc vs hI hG hr => (h.2 w loc vs hI hG hr).mono fun _ _ ⟨v, r, H', loc', h1, h2, h3, h4, h5, h6⟩ => ⟨v, r, H', loc', h1, h2, h3, h4, h5, hk _ _ h6⟩⟩

/-- One instruction, its guard being met. -/
def nilK (neg : Bool) (as : List AV) (K : Bool → Prop) : Prop :=
  match as with
  | [.nils] => K (!neg)
  | [.own _ _ _ _ n _] => (n = 0 → K (!neg)) ∧ K neg
  | [.ro _ xs] => (xs = [] → K (!neg)) ∧ K neg
  | _ => False

def stepI (P : Program) (G : Globs) (i : Ins) (env : List AV) (h : Heap) (K : List AV → Heap → Prop) : Prop :=
  match i.op with
  | .q q => match qev h q (i.args.map (Opd.get env)) with
    | some (p, v) => p ∧ K (putE env i.dst v) h
    | none => False
  | .e e => match eev h e (i.args.map (Opd.get env)) with
    | some (p, v, h') => p ∧ K (putE env i.dst v) h'
    | none => False
  | .call f => wpF P G f (i.args.map (Opd.get env)) h fun v h' => K (putE env i.dst v) h'
  | .callv => match i.args.map (Opd.get env) with
    | .fn f caps :: rest => wpF P G f (rest ++ caps) h fun v h' => K (putE env i.dst v) h'
    | _ => False
  | .callp f => wpF P G f (i.args.map (Opd.get env)) h fun v h' => K (putE env i.dst v) h'
  | .nilq neg => nilK neg (i.args.map (Opd.get env)) fun b => K (putE env i.dst (.bool b)) h
  | .callm f => wpF P G f (i.args.map (Opd.get env)) h fun v h' => K (putE env i.dst v) h'
  | .callw f => wpF P G f (i.args.map (Opd.get env)) h fun v h' => K (putE env i.dst v) h'
  | .pairs _ => False

/-- Instructions, one behind the other. -/
def wpI (P : Program) (G : Globs) : List Ins → List AV → Heap → (List AV → Heap → Prop) → Prop
  | [], env, h, K => K env h
  | i :: r, env, h, K =>
    match i.g with
    | none => stepI P G i env h fun env h => wpI P G r env h K
    | some (j, want) => match env.getD j .un with
      | .bool b => (b = want → stepI P G i env h fun env h => wpI P G r env h K) ∧ (b = !want → wpI P G r (putE env i.dst (.tup [])) h K)
      | .tup [] => wpI P G r (putE env i.dst (.tup [])) h K
      | _ => False

/-! What the slots hold -/

structure EnvOk (w : World) (loc : Loc) (N : Nat) (sl : List Nat) (tmps : Array Value) (env : List AV) : Prop where
  len : sl.length = env.length
  nd : sl.Nodup
  lt : ∀ s ∈ sl, s < tmps.size
  rep : ∀ (i s : Nat) (a : AV), sl[i]? = some s → env[i]? = some a → RepV w loc N (tmps.getD s undef) a

theorem EnvOk.mono {w w' : World} {loc loc' : Loc} {N N' : Nat} {sl : List Nat} {tmps : Array Value} {env : List AV} (h : EnvOk w loc N sl tmps env) (hE : Ext w loc N w' loc') (hN : N ≤ N') : EnvOk w' loc' N' sl tmps env :=
  ⟨h.len, h.nd, h.lt, fun i s a h1 h2 => (h.rep i s a h1 h2).mono hE hN⟩

/-- The slots after a write. -/
def slD (sl : List Nat) (o : Option Nat) (d : Dst) : Option (List Nat) :=
  match d, o with
  | .none, none => some sl
  | .var i, some s => if sl[i]? = some s then some sl else none
  | .new, some s => if s ∈ sl then none else some (sl ++ [s])
  | _, _ => none

theorem EnvOk.put {w : World} {loc : Loc} {N : Nat} {sl sl' : List Nat} {a : Act} {env : List AV} (h : EnvOk w loc N sl a.tmps env) {o : Option Nat} {d : Dst} (hd : slD sl o d = some sl') (hs : ∀ s, o = some s → s < a.tmps.size) {v : Value} {r : AV}
    (hr : RepV w loc N v r) : EnvOk w loc N sl' (a.put o v).tmps (putE env d r) ∧ (a.put o v).tmps.size = a.tmps.size ∧ (a.put o v).defers = a.defers := by
  cases d with
  | none =>
    cases o with
    | none => simp [slD] at hd; subst hd; exact ⟨h, rfl, rfl⟩
    | some s => simp [slD] at hd
  | var i =>
    cases o with
    | none => simp [slD] at hd
    | some s =>
      simp only [slD] at hd
      split at hd
      · rename_i hi
        cases hd
        refine ⟨⟨by simp [putE, h.len], h.nd, fun x hx => by simp [Act.put]; exact h.lt x hx, ?_⟩, by simp [Act.put], rfl⟩
        intro j s' b h1 h2
        simp only [putE, List.getElem?_set] at h2
        split at h2
        · rename_i hij; subst hij
          rw [hi] at h1; cases h1
          split at h2
          · cases h2
            have := hs s rfl
            simpa [Act.put, Array.getD_eq_getD_getElem?, this] using hr
          · cases h2
        · rename_i hij
          have hne : s ≠ s' := by
            intro e; subst e
            exact hij (List.getElem?_inj (List.getElem?_eq_some_iff.1 hi).1 h.nd |>.1 (hi.trans h1.symm))
          have := h.rep j s' b h1 h2
          simpa [Act.put, Array.getD_eq_getD_getElem?, Array.getElem?_setIfInBounds_ne hne] using this
      · cases hd
  | new =>
    cases o with
    | none => simp [slD] at hd
    | some s =>
      simp only [slD] at hd
      split at hd
      · cases hd
      · rename_i hns
        cases hd
        refine ⟨⟨by simp [putE, h.len], ?_, ?_, ?_⟩, by simp [Act.put], rfl⟩
        · rw [List.nodup_append]
          exact ⟨h.nd, by simp, fun x hx y hy e => by simp at hy; subst hy; subst e; exact hns hx⟩
        · intro x hx
          simp only [List.mem_append, List.mem_singleton] at hx
          simp only [Act.put, Array.size_setIfInBounds]
          rcases hx with hx | rfl
          · exact h.lt x hx
          · exact hs _ rfl
        · intro j s' b h1 h2
          simp only [putE] at h2
          rcases Nat.lt_or_ge j sl.length with hj | hj
          · rw [List.getElem?_append_left hj] at h1
            rw [List.getElem?_append_left (by rw [← h.len]; exact hj)] at h2
            have hne : s ≠ s' := fun e => hns (e ▸ List.mem_of_getElem? h1)
            have := h.rep j s' b h1 h2
            simpa [Act.put, Array.getD_eq_getD_getElem?, Array.getElem?_setIfInBounds_ne hne] using this
          · rw [List.getElem?_append_right hj] at h1
            rw [List.getElem?_append_right (by rw [← h.len]; exact hj)] at h2
            rw [← h.len] at h2
            cases hjj : j - sl.length with
            | zero =>
              rw [hjj] at h1 h2
              simp at h1 h2
              subst h1; subst h2
              have := hs s rfl
              simpa [Act.put, Array.getD_eq_getD_getElem?, this] using hr
            | succ m => rw [hjj] at h1; simp at h1

/-- an operand's meaning -/
inductive OpdOk (G : Globs) (sl : List Nat) : Operand → Opd → Prop
  | tmp (i s : Nat) : sl[i]? = some s → OpdOk G sl (.tmp s) (.t i)
  | const (v : Value) (a : AV) : (∀ w loc N, RepV w loc N v a) → OpdOk G sl (.const v) (.c a)
  | func (f : FuncId) : OpdOk G sl (.func f) (.c (.fn f []))
  | glob (g : Nat) (s : Shape) (a : AV) : (g, s, a) ∈ G → OpdOk G sl (.global g) (.c (.rp s a))

theorem OpdOk.rep {G : Globs} {sl : List Nat} {x : Operand} {o : Opd} (h : OpdOk G sl x o) {w : World} {loc : Loc} {N : Nat} {a : Act} {env : List AV} (he : EnvOk w loc N sl a.tmps env) (hG : GlobOk G w loc) : RepV w loc N (a.eval x) (o.get env) := by
  cases h with
  | tmp i s hi =>
    have hil : i < env.length := by rw [← he.len]; exact (List.getElem?_eq_some_iff.1 hi).1
    have hg : env[i]? = some env[i] := List.getElem?_eq_getElem hil
    have := he.rep i s env[i] hi hg
    simpa [Act.eval, Opd.get, List.getD, hg] using this
  | const v b h => exact h w loc N
  | func f =>
    refine .cell _ _ rfl ?_
    have := Rep.fn (w := w) (loc := loc) (N := N) f [] [] rfl (by simp) .agg0
    exact this
  | glob g s b hm =>
    refine .cell _ _ rfl ?_
    have := hG g s b hm
    exact this.mono ⟨rfl, rfl, rfl, Nat.le_refl _, fun _ _ _ => rfl, fun _ _ _ => .inl (Nat.zero_le _), fun b l' k h hk => .inr ⟨b, l', h, hk⟩⟩ (Nat.zero_le _)

inductive OpdsOk (G : Globs) (sl : List Nat) : List Operand → List Opd → Prop
  | nil : OpdsOk G sl [] []
  | cons (x : Operand) (o : Opd) (xs : List Operand) (os : List Opd) : OpdOk G sl x o → OpdsOk G sl xs os → OpdsOk G sl (x :: xs) (o :: os)

theorem OpdsOk.rep {G : Globs} {sl : List Nat} {xs : List Operand} {os : List Opd} (h : OpdsOk G sl xs os) {w : World} {loc : Loc} {N : Nat} {a : Act} {env : List AV} (he : EnvOk w loc N sl a.tmps env) (hG : GlobOk G w loc) :
    RepVs w loc N (xs.map a.eval) (os.map (Opd.get env)) := by
  induction h with
  | nil => exact .nil
  | cons x o xs os h _ ih => exact .cons _ _ _ _ (h.rep he hG) ih

/-- Which of Go's operations is which instruction. -/
inductive IOp (P : Program) (G : Globs) (sl : List Nat) : Op → Iop → List Opd → Prop
  | q (op : Op) (q : Q) (xs : List Operand) (os : List Opd) : QOp P op q xs → OpdsOk G sl xs os → IOp P G sl op (.q q) os
  | e (op : Op) (e : E) (xs : List Operand) (os : List Opd) : EOp P op e xs → OpdsOk G sl xs os → IOp P G sl op (.e e) os
  | call (f : FuncId) (xs : Array Operand) (ts : Array TypeId) (os : List Opd) : OpdsOk G sl xs.toList os → IOp P G sl (.call ⟨.value (.func f), xs, ts⟩) (.call f) os
  | callv (s : Nat) (xs : Array Operand) (ts : Array TypeId) (os : List Opd) : OpdsOk G sl (.tmp s :: xs.toList) os → IOp P G sl (.call ⟨.value (.tmp s), xs, ts⟩) .callv os
  | callp (f : FuncId) (xs : Array Operand) (ts : Array TypeId) (os : List Opd) : OpdsOk G sl xs.toList os → IOp P G sl (.call ⟨.value (.func f), xs, ts⟩) (.callp f) os
  | callm (f : FuncId) (xs : Array Operand) (ts : Array TypeId) (os : List Opd) : OpdsOk G sl xs.toList os → IOp P G sl (.call ⟨.value (.func f), xs, ts⟩) (.callm f) os
  | callw (f : FuncId) (xs : Array Operand) (ts : Array TypeId) (os : List Opd) : OpdsOk G sl xs.toList os → IOp P G sl (.call ⟨.value (.func f), xs, ts⟩) (.callw f) os
  | nilq (t e : TypeId) (x : Operand) (yt : TypeId) (neg : Bool) (os : List Opd) : P.underlying t = some (.slice e) → OpdsOk G sl [x] os → IOp P G sl (.binOp (if neg = true then .neq else .eql) t x (.const (.slice none 0 0)) yt) (.nilq neg) os

end Go.V
