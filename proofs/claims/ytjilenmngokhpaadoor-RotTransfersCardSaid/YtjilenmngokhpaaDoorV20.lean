import Derived.Test.YtjilenmngokhpaaDoorV19
/- Code: what must hold ahead of it, so that something holds behind it. -/
namespace Go.V
open Go

structure St where
  env : List AV
  h : Heap

inductive Scr where
  | skip
  | reg (l : List Ins)
  | draw (l : List Ins)
  | seq (a b : Scr)
  | cond (o : Opd) (a b : Scr)
  | block (id : Nat) (a : Scr)
  | loop (a : Scr)
  | exit (id : Nat)
  | ret

/-- what stays fixed while a function's body runs: the program, the package variables read, how many blocks there were at its begin, its variables' slots, how many slots there are -/
structure Cx where
  P : Program
  G : Globs
  N0 : Nat
  vm : List Nat
  n : Nat

def Good (X : Cx) (w0 : World) (loc0 : Loc) (st : St) (a : Act) (w : World) : Prop :=
  ∃ loc, EnvOk w loc st.h.length X.vm a.tmps st.env ∧ HeapInv w loc st.h ∧ GlobOk X.G w loc ∧ Ext w0 loc0 X.N0 w loc ∧ X.N0 ≤ st.h.length ∧ a.defers = [] ∧ a.tmps.size = X.n

def Lift (X : Cx) (w0 : World) (loc0 : Loc) (Q : Exit → St → Prop) : Exit → Act → World → Prop := fun e a w => ∃ st, Good X w0 loc0 st a w ∧ Q e st

def WP (X : Cx) (c : Code) (Q : Exit → St → Prop) (st : St) : Prop := ∀ w0 loc0 a w, Good X w0 loc0 st a w → c.wp X.P (Lift X w0 loc0 Q) a w

/-- Which code is which script (regions that draw their order: another file). -/
inductive ScrOk (P : Program) (G : Globs) (vm : List Nat) (n : Nat) (D : Nat → Array Oper → List Ins → Prop) : Code → Scr → Prop
  | skip : ScrOk P G vm n D .skip .skip
  | reg (id : Nat) (ops : Array Oper) (l : List Ins) (sl : List Nat) : RegOk P G n ops vm ops.toList l (vm ++ sl) → ScrOk P G vm n D (.region id ops false) (.reg l)
  | draw (id : Nat) (ops : Array Oper) (l : List Ins) : D id ops l → ScrOk P G vm n D (.region id ops true) (.draw l)
  | seq (x y : Code) (a b : Scr) : ScrOk P G vm n D x a → ScrOk P G vm n D y b → ScrOk P G vm n D (.seq x y) (.seq a b)
  | cond (x : Operand) (o : Opd) (c d : Code) (a b : Scr) : OpdOk G vm x o → ScrOk P G vm n D c a → ScrOk P G vm n D d b → ScrOk P G vm n D (.cond x c d) (.cond o a b)
  | block (id : Nat) (c : Code) (a : Scr) : ScrOk P G vm n D c a → ScrOk P G vm n D (.block id c) (.block id a)
  | loop (c : Code) (a : Scr) : ScrOk P G vm n D c a → ScrOk P G vm n D (.loop c) (.loop a)
  | exit (id : Nat) : ScrOk P G vm n D (.exit id) (.exit id)
  | ret : ScrOk P G vm n D .ret .ret

section
variable {X : Cx} {D : Nat → Array Oper → List Ins → Prop} {Q : Exit → St → Prop} {st : St}

def WPS (X : Cx) (D : Nat → Array Oper → List Ins → Prop) (s : Scr) (Q : Exit → St → Prop) (st : St) : Prop := ∀ c, ScrOk X.P X.G X.vm X.n D c s → WP X c Q st

def thenQ (R : St → Prop) (Q : Exit → St → Prop) : Exit → St → Prop
  | .normal, st => R st
  | e, st => Q e st

theorem WPS_mono {s : Scr} {Q' : Exit → St → Prop} (h : WPS X D s Q st) (hq : ∀ e st, Q e st → Q' e st) : WPS X D s Q' st := fun c hc w0 loc0 a w hg =>
  wp_mono (h c hc w0 loc0 a w hg) fun _ _ _ ⟨st', g, q⟩ => ⟨st', g, hq _ _ q⟩

theorem WPS_skip (h : Q .normal st) : WPS X D .skip Q st := by
  intro c hc w0 loc0 a w hg
  cases hc
  exact wp_skip ⟨st, hg, h⟩

theorem WPS_exit {id : Nat} (h : Q (.exit id) st) : WPS X D (.exit id) Q st := by
  intro c hc w0 loc0 a w hg
  cases hc
  exact wp_exit ⟨st, hg, h⟩

theorem WPS_ret (h : Q .ret st) : WPS X D .ret Q st := by
  intro c hc w0 loc0 a w hg
  cases hc
  exact wp_ret ⟨st, hg, h⟩

theorem WPS_seq {x y : Scr} (h : WPS X D x (thenQ (fun st => WPS X D y Q st) Q) st) : WPS X D (.seq x y) Q st := by
  intro c hc w0 loc0 a w hg
  cases hc with
  | seq cx cy _ _ h1 h2 =>
    refine wp_seq (wp_mono (h cx h1 w0 loc0 a w hg) ?_)
    rintro e a' w' ⟨st', g, q⟩
    cases e with
    | normal => exact q cy h2 w0 loc0 a' w' g
    | _ => exact ⟨st', g, q⟩

theorem WPS_cond {o : Opd} {x y : Scr} {b : Bool} (hb : o.get st.env = .bool b) (h1 : b = true → WPS X D x Q st) (h2 : b = false → WPS X D y Q st) : WPS X D (.cond o x y) Q st := by
  intro c hc w0 loc0 a w hg
  cases hc with
  | cond xo _ cx cy _ _ ho g1 g2 =>
    have hg' := hg
    obtain ⟨loc, e1, e2, e3, _⟩ := hg'
    have hr := ho.rep (a := a) e1 e3
    rw [hb] at hr
    have hv := (hr.rep rfl).bool_inv
    simp at hv
    exact wp_cond_split hv (fun h => h1 h cx g1 w0 loc0 a w hg) (fun h => h2 h cy g2 w0 loc0 a w hg)

theorem WPS_block {id : Nat} {x : Scr} (h : WPS X D x (fun e st => match e with | .exit id' => if id' = id then Q .normal st else Q (.exit id') st | e => Q e st) st) : WPS X D (.block id x) Q st := by
  intro c hc w0 loc0 a w hg
  cases hc with
  | block _ cx _ h1 =>
    refine wp_block (wp_mono (h cx h1 w0 loc0 a w hg) ?_)
    rintro e a' w' ⟨st', g, q⟩
    cases e with
    | exit id' =>
      simp only [Exit.inBlock]
      simp only at q
      split
      · rename_i hid; rw [if_pos hid] at q; exact ⟨st', g, q⟩
      · rename_i hid; rw [if_neg hid] at q; exact ⟨st', g, q⟩
    | _ => exact ⟨st', g, q⟩

theorem EnvOk.take {w : World} {loc : Loc} {N : Nat} {sl sl2 : List Nat} {tmps : Array Value} {env : List AV} (h : EnvOk w loc N (sl ++ sl2) tmps env) : EnvOk w loc N sl tmps (env.take sl.length) := by
  refine ⟨?_, (List.nodup_append.1 h.nd).1, fun s hs => h.lt s (List.mem_append_left _ hs), fun i s a h1 h2 => ?_⟩
  · have := h.len
    simp only [List.length_append] at this
    simp; omega
  · have hi : i < sl.length := (List.getElem?_eq_some_iff.1 h1).1
    rw [List.getElem?_take, if_pos hi] at h2
    exact h.rep i s a (by rw [List.getElem?_append_left hi]; exact h1) h2

theorem WPS_reg {l : List Ins} (h : wpI X.P X.G l st.env st.h fun env h => Q .normal ⟨env.take X.vm.length, h⟩) : WPS X D (.reg l) Q st := by
  intro c hc w0 loc0 a w hg
  cases hc with
  | reg id ops _ sl hr =>
    obtain ⟨loc, e1, e2, e3, e4, e5, e6, e7⟩ := hg
    refine wp_region_list (reg_sound hr e1 e2 e3 e7 h ?_)
    intro env' h' a' w' loc' hk g1 g2 g3 g4 g5 g6
    exact ⟨⟨env'.take X.vm.length, h'⟩, ⟨loc', g1.take, g2, e3.mono g3, e4.trans g3 e5, Nat.le_trans e5 g4, g5.trans e6, g6.trans e7⟩, hk⟩

/-- A loop: a relation that each round keeps with a smaller number, or leaves by. -/
theorem WPS_loop {x : Scr} (I : Nat → St → Prop) {k0 : Nat} (h0 : I k0 st) (round : ∀ k st, I k st → WPS X D x (thenQ (fun st' => ∃ k', k' < k ∧ I k' st') Q) st) : WPS X D (.loop x) Q st := by
  intro c hc w0 loc0 a w hg
  cases hc with
  | loop cx _ h1 =>
    intro b k cs
    have key : ∀ m st a w, I m st → Good X w0 loc0 st a w →
        ∃ e a' w', Lift X w0 loc0 Q e a' w' ∧ Arrives X.P (lone (b.at a (.code cx :: .inLoop cx :: k)) cs w) b k cs e a' w' := by
      intro m
      induction m using Nat.strongRecOn with
      | _ m ih =>
        intro st a w hI hg
        obtain ⟨e, a₁, w₁, ⟨st1, g1, hq⟩, harr⟩ := round m st hI cx h1 w0 loc0 a w hg b (.inLoop cx :: k) cs
        cases e with
        | normal =>
          obtain ⟨m', hlt, hI'⟩ := hq
          obtain ⟨e₂, a₂, w₂, hq₂, harr₂⟩ := ih m' hlt st1 a₁ w₁ hI' g1
          exact ⟨e₂, a₂, w₂, hq₂, .of_steps (Steps.trans harr (.one step_inLoop)) harr₂⟩
        | exit id => exact ⟨_, a₁, w₁, ⟨st1, g1, hq⟩, .pass (x := .inLoop cx) rfl (fun _ _ => .inl (by simp)) harr⟩
        | goto l => exact ⟨_, a₁, w₁, ⟨st1, g1, hq⟩, .pass (x := .inLoop cx) rfl (fun _ _ => .inl (by simp)) harr⟩
        | ret => exact ⟨_, a₁, w₁, ⟨st1, g1, hq⟩, .pass (x := .inLoop cx) rfl (fun _ _ => .inl (by simp)) harr⟩
        | panic ch => exact ⟨_, a₁, w₁, ⟨st1, g1, hq⟩, .pass (x := .inLoop cx) rfl (fun _ _ => .inl (by simp)) harr⟩
        | outgrown => exact ⟨_, a₁, w₁, ⟨st1, g1, hq⟩, .pass (x := .inLoop cx) rfl (fun _ _ => .inl (by simp)) harr⟩
    obtain ⟨e, a', w', hq, harr⟩ := key k0 st a w h0 hg
    exact ⟨e, a', w', hq, .of_steps (.one step_loop) harr⟩

end

/-! Results and functions -/

inductive Rv where
  | t (i : Nat)
  | cell (i : Nat) (s : Shape)

inductive RvOk (P : Program) (vm : List Nat) : ResultVar → Rv → Prop
  | tmp (i s : Nat) : vm[i]? = some s → RvOk P vm (.tmp s) (.t i)
  | cell (i s : Nat) (t : TypeId) (sh : Shape) : vm[i]? = some s → TyOk P t sh → RvOk P vm (.cell s t) (.cell i sh)

inductive RvsOk (P : Program) (vm : List Nat) : List ResultVar → List Rv → Prop
  | nil : RvsOk P vm [] []
  | cons (x : ResultVar) (r : Rv) (xs : List ResultVar) (rs : List Rv) : RvOk P vm x r → RvsOk P vm xs rs → RvsOk P vm (x :: xs) (r :: rs)

/-- what a result is -/
def rvGet (st : St) : Rv → Option (Prop × AV)
  | .t i => some (True, st.env.getD i .un)
  | .cell i s => (ldP st.h (st.env.getD i .un)).map fun a => (psh (st.env.getD i .un) = some s, a)

def rsGet (st : St) : List Rv → Option (Prop × List AV)
  | [] => some (True, [])
  | r :: rs => match rvGet st r, rsGet st rs with
    | some (p, a), some (q, l) => some (p ∧ q, a :: l)
    | _, _ => none

def oneOf : List AV → AV
  | [a] => a
  | l => .tup l

mutual
/-- all blocks that are named lie below a number -/
def AV.bnd (k : Nat) : AV → Bool
  | .agg ps => AV.bnds k ps
  | .tup ps => AV.bnds k ps
  | .ro _ xs => AV.bnds k xs
  | .rp _ a => AV.bnd k a
  | .own b _ _ _ _ _ => decide (b < k)
  | .ptr b _ _ _ => decide (b < k)
  | .fn _ cap => AV.bnds k cap
  | _ => true
def AV.bnds (k : Nat) : List AV → Bool
  | [] => true
  | a :: l => AV.bnd k a && AV.bnds k l
end

theorem bnds_iff {k : Nat} : ∀ {l : List AV}, AV.bnds k l = true ↔ ∀ a ∈ l, a.bnd k = true
  | [] => by simp [AV.bnds]
  | a :: l => by simp [AV.bnds, bnds_iff (l := l)]

theorem Rep.bnd {w : World} {loc : Loc} {N : Nat} {cs : List Value} {a : AV} (h : Rep w loc N cs a) : a.bnd N = true := by
  induction h with
  | agg cs ds a ps _ _ ih1 ih2 => simp only [AV.bnd, AV.bnds, ih1, Bool.true_and]; simpa [AV.bnd] using ih2
  | ro k o n cap c t fr e xs cs _ _ _ _ _ _ _ _ ih => simpa [AV.bnd] using ih
  | rp k o c t fr s a cs _ _ _ _ _ ih => simpa [AV.bnd] using ih
  | own b ver pa off n e ad cap hb _ _ _ _ _ => simpa [AV.bnd] using hb
  | ptr b ver pa s k o hb _ _ => simpa [AV.bnd] using hb
  | fn f cap vs _ _ _ ih => simpa [AV.bnd] using ih
  | _ => simp [AV.bnd, AV.bnds]

theorem RepV.bnd {w : World} {loc : Loc} {N : Nat} {v : Value} {a : AV} (h : RepV w loc N v a) : a.bnd N = true := by
  induction h with
  | un v => simp [AV.bnd]
  | cell v a _ h => exact h.bnd
  | agg cs ps h => exact h.bnd
  | tup vs ps hl _ ih =>
    simp only [AV.bnd, bnds_iff]
    intro a ha
    obtain ⟨i, hi, rfl⟩ := List.mem_iff_getElem.1 ha
    exact ih i vs[i] _ (List.getElem?_eq_getElem (by omega)) (List.getElem?_eq_getElem hi)

/-- what every value of its kind meets -/
def AV.fact : AV → Prop
  | .int x => InR x
  | .str l => l.length ≤ maxLen
  | .ro e xs => xs.length ≤ maxLen ∧ ∀ x ∈ xs, HasSh e x
  | .own _ _ _ _ n _ => n ≤ maxLen
  | _ => True

theorem Rep.fact {w : World} {loc : Loc} {N : Nat} {cs : List Value} {a : AV} (h : Rep w loc N cs a) : a.fact := by
  cases h with
  | int x h => exact h
  | str s l h h' => exact h'
  | ro0 a cap e => exact ⟨by simp [maxLen], by simp⟩
  | ro k o n cap c t fr e xs cs _ _ _ _ hl _ hm hs => exact ⟨by omega, hs⟩
  | own b ver pa off n e ad cap _ _ _ _ hm _ => exact hm
  | _ => trivial

theorem RepV.fact {w : World} {loc : Loc} {N : Nat} {v : Value} {a : AV} (h : RepV w loc N v a) : a.fact := by
  cases h with
  | un v => trivial
  | cell v a _ h => exact h.fact
  | agg cs ps h => trivial
  | tup vs ps hl _ => trivial

def trunc (loc : Loc) (k : Nat) : Loc := fun b => if b < k then loc b else none

theorem trunc_some {loc : Loc} {k b : Nat} {l : Lc} (h : trunc loc k b = some l) : b < k ∧ loc b = some l := by
  unfold trunc at h; split at h
  · exact ⟨by assumption, h⟩
  · cases h

theorem Rep.trunc {w : World} {loc : Loc} {N k : Nat} {cs : List Value} {a : AV} (h : Rep w loc N cs a) : a.bnd k = true → Rep w (trunc loc k) k cs a := by
  induction h with
  | agg cs ds a ps _ _ ih1 ih2 =>
    intro hb
    simp only [AV.bnd, AV.bnds, Bool.and_eq_true] at hb
    exact .agg _ _ _ _ (ih1 hb.1) (ih2 (by simpa [AV.bnd] using hb.2))
  | ro0 a cap e => intro _; exact .ro0 a cap e
  | ro k' o n cap c t fr e xs cs hk hn ht _ hl hc hm hs ih =>
    intro hb
    exact .ro k' o n cap c t fr e xs cs hk (fun b l hl => hn b l (trunc_some hl).2) ht (ih (by simpa [AV.bnd] using hb)) hl hc hm hs
  | rp k' o c t fr s a cs hk hn ht _ hs ih =>
    intro hb
    exact .rp k' o c t fr s a cs hk (fun b l hl => hn b l (trunc_some hl).2) ht (ih (by simpa [AV.bnd] using hb)) hs
  | own b ver pa off n e ad cap _ hv hc h1 hm ho =>
    intro hb
    exact .own b ver pa off n e ad cap (by simpa [AV.bnd] using hb) (fun l hl => hv l (trunc_some hl).2) hc h1 hm (fun l hl => ho l (trunc_some hl).2)
  | ptr b ver pa s k' o _ hv ho =>
    intro hb
    exact .ptr b ver pa s k' o (by simpa [AV.bnd] using hb) (fun l hl => hv l (trunc_some hl).2) (fun l hl => ho l (trunc_some hl).2)
  | fn f cap vs hl hc _ ih => intro hb; exact .fn f cap vs hl hc (ih (by simpa [AV.bnd] using hb))
  | bool b => intro _; exact .bool b
  | u8 x => intro _; exact .u8 x
  | u16 x => intro _; exact .u16 x
  | u32 x => intro _; exact .u32 x
  | u64 x => intro _; exact .u64 x
  | int x h => intro _; exact .int x h
  | str s l h h' => intro _; exact .str s l h h'
  | nilp => intro _; exact .nilp
  | nils => intro _; exact .nils
  | nilf => intro _; exact .nilf
  | agg0 => intro _; exact .agg0

theorem RepV.trunc {w : World} {loc : Loc} {N k : Nat} {v : Value} {a : AV} (h : RepV w loc N v a) : a.bnd k = true → RepV w (trunc loc k) k v a := by
  induction h with
  | un v => intro _; exact .un v
  | cell v a ha h => intro hb; exact .cell v a ha (h.trunc hb)
  | agg cs ps h => intro hb; exact .agg cs ps (h.trunc hb)
  | tup vs ps hl _ ih =>
    intro hb
    refine .tup vs ps hl fun i v p h1 h2 => ih i v p h1 h2 ?_
    simp only [AV.bnd, bnds_iff] at hb
    exact hb p (List.mem_of_getElem? h2)

/-- all kept blocks name kept blocks alone -/
def HBnd (k : Nat) (h : Heap) : Prop := ∀ b blk, b < k → h.get b = some blk → blk.root.bnd k = true

theorem Heap.get_take {h : Heap} {k b : Nat} : Heap.get (h.take k) b = if b < k then h.get b else none := by
  unfold Heap.get
  rw [List.getElem?_take]
  split <;> rfl

theorem HeapInv.hbnd {w : World} {loc : Loc} {h : Heap} (hI : HeapInv w loc h) : HBnd h.length h := by
  intro b blk _ hg
  obtain ⟨l, hl, h1, h2, h3, h4⟩ := hI.blk b blk hg
  cases hw : l.wb with
  | none =>
    rw [hw] at h4
    obtain ⟨_, e, he⟩ := h4
    rw [he] at h3
    obtain ⟨ps, hps, hl, _⟩ := hasSh_arr.1 h3
    have : ps = [] := List.eq_nil_of_length_eq_zero hl
    subst this
    rw [hps]; simp [AV.bnd, AV.bnds]
  | some k =>
    rw [hw] at h4
    obtain ⟨c, fr, cs, _, _, hr, _⟩ := h4
    exact hr.bnd

theorem HeapInv.take {w : World} {loc : Loc} {h : Heap} (hI : HeapInv w loc h) {k : Nat} (hk : k ≤ h.length) (hb : HBnd k h) : HeapInv w (trunc loc k) (h.take k) := by
  refine ⟨?_, ?_, ?_⟩
  · intro b hg
    rw [Heap.get_take] at hg
    unfold trunc
    split
    · rename_i hlt; rw [if_pos hlt] at hg; exact hI.out b hg
    · rfl
  · intro b blk hg
    rw [Heap.get_take] at hg
    split at hg
    · rename_i hlt
      obtain ⟨l, hl, h1, h2, h3, h4⟩ := hI.blk b blk hg
      refine ⟨l, by simp [trunc, hlt, hl], h1, h2, h3, ?_⟩
      rw [List.length_take, Nat.min_eq_left hk]
      cases hw : l.wb with
      | none => rw [hw] at h4; exact h4
      | some k' =>
        rw [hw] at h4
        obtain ⟨c, fr, cs, g1, g2, g3, g4⟩ := h4
        exact ⟨c, fr, cs, g1, g2, g3.trunc (hb b blk hlt hg), g4⟩
    · cases hg
  · intro b b' l l' k' h1 h2 h3 h4
    exact hI.inj b b' l l' k' (trunc_some h1).2 (trunc_some h2).2 h3 h4

theorem Ext.trunc {w w' : World} {loc loc' : Loc} {N k : Nat} (h : Ext w loc N w' loc') : Ext w loc N w' (trunc loc' k) :=
  ⟨h.os, h.tape, h.output, h.size, h.block, fun b l' hl => h.lc b l' (trunc_some hl).2, fun b l' k' hl hk => h.wb b l' k' (trunc_some hl).2 hk⟩

/-- what is handed back, and how much of the heap is kept -/
def Fin (N0 : Nat) (K : AV → Heap → Prop) (r : AV) (h : Heap) : Prop := K r h ∨ ∃ k, N0 ≤ k ∧ k ≤ h.length ∧ r.bnd k = true ∧ HBnd k h ∧ K r (h.take k)

def rvSem (tmps : Array Value) : ResultVar → Sem Value
  | .tmp t => pure (tmps.getD t undef)
  | .cell a t => do loadVar t (← asAddr (tmps.getD a undef))

theorem results_run {P : Program} {vm : List Nat} {fn : Func} {rs : List Rv} (hr : RvsOk P vm fn.results.toList rs) {st : St} {tmps : Array Value} {w : World} {loc : Loc} (he : EnvOk w loc st.h.length vm tmps st.env) (hI : HeapInv w loc st.h) {p : Prop} {l : List AV}
    (hg : rsGet st rs = some (p, l)) (hp : p) : ∃ v, (results fn tmps).run P w = .ok v w ∧ RepV w loc st.h.length v (oneOf l) := by
  have key : ∀ (xs : List ResultVar) (rs : List Rv) (p : Prop) (l : List AV), RvsOk P vm xs rs → rsGet st rs = some (p, l) → p →
      ∃ vs : List Value, (xs.mapM (rvSem tmps)).run P w = .ok vs w ∧ RepVs w loc st.h.length vs l := by
    intro xs
    induction xs with
    | nil =>
      intro rs p l hr hg hp
      cases hr
      simp [rsGet] at hg
      obtain ⟨-, rfl⟩ := hg
      exact ⟨[], by simp, .nil⟩
    | cons x xs ih =>
      intro rs p l hr hg hp
      cases hr with
      | cons _ r _ rs h1 h2 =>
        simp only [rsGet] at hg
        cases hr1 : rvGet st r with
        | none => simp [hr1] at hg
        | some pa =>
          obtain ⟨p1, a⟩ := pa
          cases hr2 : rsGet st rs with
          | none => simp [hr1, hr2] at hg
          | some ql =>
            obtain ⟨p2, l2⟩ := ql
            simp only [hr1, hr2, Option.some.injEq, Prod.mk.injEq] at hg
            obtain ⟨rfl, rfl⟩ := hg
            obtain ⟨vs, hvs, hrep⟩ := ih rs p2 l2 h2 hr2 hp.2
            have hone : ∃ v, (rvSem tmps x).run P w = .ok v w ∧ RepV w loc st.h.length v a := by
              cases h1 with
              | tmp i s hi =>
                simp only [rvGet, Option.some.injEq, Prod.mk.injEq] at hr1
                obtain ⟨-, rfl⟩ := hr1
                have hil : i < st.env.length := by rw [← he.len]; exact (List.getElem?_eq_some_iff.1 hi).1
                have hgi : st.env[i]? = some st.env[i] := List.getElem?_eq_getElem hil
                refine ⟨tmps.getD s undef, rfl, ?_⟩
                have := he.rep i s _ hi hgi
                simpa [List.getD, hgi] using this
              | cell i s t sh hi hty =>
                simp only [rvGet, Option.map_eq_some_iff, Prod.mk.injEq] at hr1
                obtain ⟨a', hl, rfl, rfl⟩ := hr1
                have hil : i < st.env.length := by rw [← he.len]; exact (List.getElem?_eq_some_iff.1 hi).1
                have hgi : st.env[i]? = some st.env[i] := List.getElem?_eq_getElem hil
                have hgd : st.env.getD i .un = st.env[i] := by simp [List.getD, hgi]
                rw [hgd] at hl hp
                have hrp := he.rep i s _ hi hgi
                obtain ⟨k, o, hv⟩ := ptr_val hrp hp.1
                rw [hv] at hrp
                obtain ⟨u, hu, hru⟩ := load_run (P := P) hty hI hrp hp.1 hl
                refine ⟨u, ?_, hru⟩
                simp only [Instr.loadAt, Instr.sureAddr, Sem.run_bind, Sem.run_pure, Result.andThen_ok] at hu
                simp only [rvSem, hv, asAddr, Sem.run_bind, Sem.run_pure, Result.andThen_ok, hu]
            obtain ⟨v, hv, hrv⟩ := hone
            refine ⟨v :: vs, ?_, .cons _ _ _ _ hrv hrep⟩
            rw [List.mapM_cons]
            simp only [Sem.run_bind, hv, Result.andThen_ok, hvs, Sem.run_pure]
  obtain ⟨vs, hvs, hrep⟩ := key fn.results.toList rs p l hr hg hp
  have hrun : (results fn tmps).run P w = .ok (if h : vs.toArray.size = 1 then vs.toArray[0] else .tuple vs.toArray) w := by
    show (do let vs ← fn.results.mapM (rvSem tmps); pure (if h : vs.size = 1 then vs[0] else .tuple vs) : Sem Value).run P w = _
    rw [Array.mapM_eq_mapM_toList]
    simp only [Sem.run_bind, Sem.run_map, hvs, Result.andThen_ok, Sem.run_pure]
  refine ⟨_, hrun, ?_⟩
  cases hrep with
  | nil => simpa [oneOf] using RepV.tup [] [] rfl (by simp)
  | cons v a vs as h1 h2 =>
    cases h2 with
    | nil => simpa [oneOf] using h1
    | cons v2 a2 vs as h2 h3 =>
      simp only [oneOf]
      rw [dif_neg (by simp)]
      refine .tup _ _ (by simp [h3.length]) ?_
      have hall := RepVs.cons _ _ _ _ h1 (RepVs.cons _ _ _ _ h2 h3)
      have get : ∀ {vs : List Value} {as : List AV}, RepVs w loc st.h.length vs as → ∀ (i : Nat) (v : Value) (p : AV), vs[i]? = some v → as[i]? = some p → RepV w loc st.h.length v p := by
        intro vs as h
        induction h with
        | nil => intro i v p h1; simp at h1
        | cons v a vs as h _ ih =>
          intro i u p h1 h2
          cases i with
          | zero => simp at h1 h2; subst h1; subst h2; exact h
          | succ i => exact ih i u p (by simpa using h1) (by simpa using h2)
      exact get hall

theorem wpF_intro {P : Program} {G : Globs} {D : Nat → Array Oper → List Ins → Prop} {f : FuncId} {fn : Func} {c : Code} {s : Scr} {vm : List Nat} {rs : List Rv} {args : List AV} {H : Heap} {K : AV → Heap → Prop}
    (hf : P.funcs[f]? = some fn) (hname : (fn.name == "runtime.NumGoroutine") = false) (hb : fn.body = some c) (hs : ScrOk P G vm fn.ntmps D c s) (hr : RvsOk P vm fn.results.toList rs)
    (hvm : vm.take args.length = List.range args.length) (hnd : vm.Nodup) (hlt : ∀ x ∈ vm, x < fn.ntmps) (hlen : args.length ≤ vm.length)
    (h : (∀ a ∈ args, a.bnd H.length = true ∧ a.fact) → HBnd H.length H →
      WPS ⟨P, G, H.length, vm, fn.ntmps⟩ D s (fun e st => (e = .normal ∨ e = .ret) ∧ ∃ p l, rsGet st rs = some (p, l) ∧ p ∧ Fin H.length K (oneOf l) st.h) ⟨args ++ List.replicate (vm.length - args.length) .un, H⟩) : wpF P G f args H K := by
  refine ⟨⟨fn, hf, hname, by simp [hb]⟩, fun w loc vs hI hG hrep => ?_⟩
  have hal := hrep.length
  have hfacts : ∀ {vs : List Value} {as : List AV}, RepVs w loc H.length vs as → ∀ a ∈ as, a.bnd H.length = true ∧ a.fact := by
    intro vs as h
    induction h with
    | nil => intro a ha; cases ha
    | cons v a vs as h _ ih =>
      intro b hb
      rcases List.mem_cons.1 hb with rfl | hb
      · exact ⟨h.bnd, h.fact⟩
      · exact ih b hb
  refine calls_of_wp hf hb ?_
  have hget : ∀ {vs : List Value} {as : List AV}, RepVs w loc H.length vs as → ∀ (i : Nat) (p : AV), as[i]? = some p → ∃ v, vs[i]? = some v ∧ RepV w loc H.length v p := by
    intro vs as h
    induction h with
    | nil => intro i p h1; simp at h1
    | cons v a vs as h _ ih =>
      intro i p h1
      cases i with
      | zero => simp at h1; subst h1; exact ⟨v, by simp, h⟩
      | succ i => obtain ⟨u, hu, hr⟩ := ih i p (by simpa using h1); exact ⟨u, by simpa using hu, hr⟩
  have hnt : args.length ≤ fn.ntmps := by
    rcases Nat.eq_zero_or_pos args.length with h0 | h0
    · omega
    · have h1 : args.length - 1 ∈ vm := by
        have : args.length - 1 ∈ vm.take args.length := by rw [hvm]; simp; omega
        exact List.mem_of_mem_take this
      have := hlt _ h1
      omega
  have henv : EnvOk w loc H.length vm (vs.toArray ++ Array.replicate (fn.ntmps - vs.toArray.size) undef) (args ++ List.replicate (vm.length - args.length) .un) := by
    refine ⟨by simp; omega, hnd, fun x hx => by simp; have := hlt x hx; omega, ?_⟩
    intro i x a h1 h2
    rcases Nat.lt_or_ge i args.length with hi | hi
    · rw [List.getElem?_append_left hi] at h2
      have h3 : vm[i]? = (List.range args.length)[i]? := by rw [← hvm, List.getElem?_take, if_pos hi]
      rw [h3] at h1
      simp [hi] at h1
      subst h1
      obtain ⟨v, hv, hr⟩ := hget hrep i a h2
      have hiv : i < vs.length := (List.getElem?_eq_some_iff.1 hv).1
      have hve : vs[i] = v := (List.getElem?_eq_some_iff.1 hv).2
      have e : (vs.toArray ++ Array.replicate (fn.ntmps - vs.toArray.size) undef).getD i undef = v := by
        rw [Array.getD_eq_getD_getElem?, Array.getElem?_append_left (by simpa using hiv)]
        simp [hiv, hve]
      rw [e]; exact hr
    · rw [List.getElem?_append_right hi, List.getElem?_replicate] at h2
      split at h2
      · cases h2; exact .un _
      · cases h2
  refine wp_mono (h (hfacts hrep) hI.hbnd c hs w loc _ w ⟨loc, henv, hI, hG, Ext.refl _ _ _, Nat.le_refl _, rfl, by simp [hal]; omega⟩) ?_
  rintro e a' w' ⟨st', ⟨loc', g1, g2, g3, g4, g5, g6, g7⟩, hee, p, l, hg, hp, hfin⟩
  obtain ⟨v, hv, hrv⟩ := results_run hr g1 g2 hg hp
  have hR : ∃ v r H' loc', Ending.returned v = .returned v ∧ (results fn a'.tmps).run P w' = .ok v w' ∧ HeapInv w' loc' H' ∧ RepV w' loc' H'.length v r ∧ Ext w loc H.length w' loc' ∧ H.length ≤ H'.length ∧ K r H' := by
    rcases hfin with hk | ⟨k, h1, h2, h3, h4, h5⟩
    · exact ⟨v, _, st'.h, loc', rfl, hv, g2, hrv, g4, g5, hk⟩
    · have hl : (st'.h.take k).length = k := by simp; omega
      exact ⟨v, _, st'.h.take k, trunc loc' k, rfl, hv, g2.take h2 h4, by rw [hl]; exact hrv.trunc h3, g4.trunc, by rw [hl]; exact h1, h5⟩
  obtain ⟨v, r, H', loc'', -, hv, k1, k2, k3, k4, k5⟩ := hR
  rcases hee with rfl | rfl
  · exact ⟨g6, v, hv, v, r, H', loc'', rfl, k1, k2, k3, k4, k5⟩
  · exact ⟨g6, v, hv, v, r, H', loc'', rfl, k1, k2, k3, k4, k5⟩

end Go.V
