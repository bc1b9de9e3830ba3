import Derived.Test.YtjilenmngokhpaaDoorV26
/- Regions that draw their order: the invariant. -/
set_option linter.unusedVariables false
namespace Go.V
open Go

section
variable {P : Program} {G : Globs}

theorem HeapInv.same {w w' : World} {loc : Loc} {h : Heap} (hI : HeapInv w loc h) (hE : Ext w loc h.length w' loc) (hh : w'.heap = w.heap) : HeapInv w' loc h := by
  refine ⟨hI.out, fun b blk hb => ?_, hI.inj⟩
  obtain ⟨l, h1, h2, h3, h4, h5⟩ := hI.blk b blk hb
  refine ⟨l, h1, h2, h3, h4, ?_⟩
  cases hw : l.wb with
  | none => simpa [hw] using h5
  | some k =>
    simp only [hw] at h5 ⊢
    obtain ⟨c, fr, cs, g1, g2, g3, g4, g5⟩ := h5
    exact ⟨c, fr, cs, by rw [hh]; exact g1, g2, g3.mono hE (Nat.le_refl _), g4, g5⟩

theorem OpdOk.wide {sl ext : List Nat} {x : Operand} {o : Opd} (h : OpdOk G sl x o) : OpdOk G (sl ++ ext) x o := by
  cases h with
  | tmp i s hi => exact .tmp i s (by rw [List.getElem?_append_left (List.getElem?_eq_some_iff.1 hi).1]; exact hi)
  | const v a h => exact .const v a h
  | func f => exact .func f
  | glob g s a h => exact .glob g s a h

theorem OpdsOk.wide {sl ext : List Nat} {xs : List Operand} {os : List Opd} (h : OpdsOk G sl xs os) : OpdsOk G (sl ++ ext) xs os := by
  induction h with
  | nil => exact .nil
  | cons x o xs os h _ ih => exact .cons _ _ _ _ h.wide ih

theorem IOp.wide {sl ext : List Nat} {op : Op} {i : Iop} {os : List Opd} (h : IOp P G sl op i os) : IOp P G (sl ++ ext) op i os := by
  cases h with
  | q op q xs os h1 h2 => exact .q _ _ _ _ h1 h2.wide
  | e op e xs os h1 h2 => exact .e _ _ _ _ h1 h2.wide
  | call f xs ts os h => exact .call _ _ _ _ h.wide
  | callv s xs ts os h => exact .callv _ _ _ _ h.wide
  | callp f xs ts os h => exact .callp _ _ _ _ h.wide
  | callm f xs ts os h => exact .callm _ _ _ _ h.wide
  | callw f xs ts os h => exact .callw _ _ _ _ h.wide
  | nilq t e x yt neg os ht h => exact .nilq _ _ _ _ _ _ ht h.wide

/-- the operands' places are there -/
theorem IOp.args_lt {sl : List Nat} {op : Op} {i : Iop} {os : List Opd} (h : IOp P G sl op i os) : ∀ x, x ∈ os.flatMap Opd.rds → x < sl.length := by
  have key : ∀ {xs : List Operand} {os : List Opd}, OpdsOk G sl xs os → ∀ x, x ∈ os.flatMap Opd.rds → x < sl.length := by
    intro xs os h
    induction h with
    | nil => intro x hx; simp at hx
    | cons y o xs os h _ ih =>
      intro x hx
      simp only [List.flatMap_cons, List.mem_append] at hx
      rcases hx with hx | hx
      · cases h with
        | tmp i s hi => simp [Opd.rds] at hx; subst hx; exact (List.getElem?_eq_some_iff.1 hi).1
        | const v a h => simp [Opd.rds] at hx
        | func f => simp [Opd.rds] at hx
        | glob g s a h => simp [Opd.rds] at hx
      · exact ih x hx
  cases h with
  | q op q xs os h1 h2 => exact key h2
  | e op e xs os h1 h2 => exact key h2
  | call f xs ts os h => exact key h
  | callv s xs ts os h => exact key h
  | callp f xs ts os h => exact key h
  | callm f xs ts os h => exact key h
  | callw f xs ts os h => exact key h
  | nilq t e x yt neg os ht h => exact key h

theorem OpdsOk.opd {sl : List Nat} {xs : List Operand} {os : List Opd} (h : OpdsOk G sl xs os) : ∀ od ∈ os, ∃ xo, OpdOk G sl xo od := by
  induction h with
  | nil => simp
  | cons y o xs os h _ ih =>
    intro od h'
    simp only [List.mem_cons] at h'
    rcases h' with rfl | h'
    · exact ⟨y, h⟩
    · exact ih od h'

theorem IOp.opd {sl : List Nat} {op : Op} {i : Iop} {os : List Opd} (h : IOp P G sl op i os) : ∀ od ∈ os, ∃ xo, OpdOk G sl xo od := by
  cases h with
  | q op q xs os h1 h2 => exact h2.opd
  | e op e xs os h1 h2 => exact h2.opd
  | call f xs ts os h => exact h.opd
  | callv s xs ts os h => exact h.opd
  | callp f xs ts os h => exact h.opd
  | callm f xs ts os h => exact h.opd
  | callw f xs ts os h => exact h.opd
  | nilq t e x yt neg os ht h => exact h.opd

def setO (cur : List AV) (d : Option Nat) (v : AV) : List AV :=
  match d with
  | some x => cur.set x v
  | none => cur

theorem setO_get {cur : List AV} {d : Option Nat} {v : AV} {x : Nat} (h : d ≠ some x) : (setO cur d v)[x]? = cur[x]? := by
  cases d with
  | none => rfl
  | some y =>
    have : y ≠ x := fun e => h (by rw [e])
    simp [setO, this]

theorem args_eq {env env' : List AV} {os : List Opd} (h : ∀ x, x ∈ os.flatMap Opd.rds → env[x]? = env'[x]?) : os.map (Opd.get env) = os.map (Opd.get env') := by
  apply List.map_congr_left
  intro o ho
  cases o with
  | t i =>
    have := h i (List.mem_flatMap.2 ⟨_, ho, by simp [Opd.rds]⟩)
    simp [Opd.get, List.getD_eq_getElem?_getD, this]
  | c a => rfl

variable {n n0 : Nat} {ops : Array Oper} {is : List Ins} {E : Nat → List AV} {T : Nat → Heap} {V : Nat → AV} {SL : List Nat}

/-- the block that a free one makes -/
def zb (is : List Ins) (j : Nat) : Option Blk :=
  match is[j]? with
  | some ⟨_, .e (.alloc te s z), _, _⟩ => some ⟨te, 0, false, .arr 1 s, .agg [z]⟩
  | _ => none

theorem free_inv {i : Ins} (h : i.free = true) : ∃ te s z as x, i = ⟨.var x, .e (.alloc te s z), as, none⟩ := by
  obtain ⟨dst, op, as, g⟩ := i
  unfold Ins.free at h
  split at h
  · rename_i te s z h1 h2 h3
    simp only at h1 h2 h3
    subst h1 h2 h3
    rename_i x
    exact ⟨_, _, _, _, _, rfl⟩
  · cases h

theorem free_cls {i : Ins} (h : i.free = true) : i.op.cls = 2 ∧ i.op.mk1 = true := by
  obtain ⟨te, s, z, as, x, rfl⟩ := free_inv h
  exact ⟨rfl, rfl⟩

/-- What an instruction comes to, in the machine. -/
theorem stepD_sound {o : Oper} {i : Ins} {a : Act} {w : World} {loc : Loc} {h h' : Heap} {v : AV} {sl : List Nat} {env : List AV} {Kn : Act → World → Prop} {Q : Exit → Act → World → Prop}
    (hI : HeapInv w loc h) (hG : GlobOk G w loc) (he : EnvOk w loc h.length sl a.tmps env) (hi : IOp P G sl o.op i.op i.args) (hs : stepD P G i env h v h')
    (hK : ∀ u w' loc', RepV w' loc' h'.length u v → HeapInv w' loc' h' → Ext w loc h.length w' loc' → h.length ≤ h'.length → Kn (a.put o.dst u) w') : o.wp P a w Kn Q := by
  have call : ∀ {f : FuncId} {args : List AV} {vs : List Value}, RepVs w loc h.length vs args → (execOp a.eval o).run P w = (callFunc f vs.toArray).run P w → wpF P G f args h (fun a b => a = v ∧ b = h') → o.wp P a w Kn Q := by
    intro f args vs hr hex hf
    obtain ⟨⟨fn, h1, h2, h3⟩, hc⟩ := hf
    have hrun : (callFunc f vs.toArray).run P w = .ok (.enter f vs.toArray) w := by
      simp only [callFunc, Sem.run_bind, run_program, Result.andThen_ok, h1, h2, h3, Bool.false_eq_true, if_false, Sem.run_pure]
    unfold Oper.wp
    rw [hex, hrun, Oper.upon_enter]
    refine (hc w loc vs hI hG hr).mono ?_
    rintro e w' ⟨u, r, H', loc', rfl, g1, g2, g3, g4, g5, rfl⟩
    rw [g5] at g2
    exact hK u w' loc' g2 g1 g3 g4
  have callf : ∀ {f : FuncId} {xs : Array Operand} {ts : Array TypeId} {os : List Opd}, OpdsOk G sl xs.toList os → o.op = .call ⟨.value (.func f), xs, ts⟩ → wpF P G f (os.map (Opd.get env)) h (fun a b => a = v ∧ b = h') → o.wp P a w Kn Q := by
    intro f xs ts os hx hop hf
    refine call (hx.rep he hG) ?_ hf
    have e1 : (xs.toList.map a.eval).toArray = xs.map a.eval := by apply Array.ext'; simp
    rw [e1]
    simp [execOp, hop, resolve, Act.eval, Deferred.ofValue, invoke]
  obtain ⟨dst, op, args, g⟩ := i
  simp only at hi
  generalize hop : o.op = oo at hi
  cases hi with
  | q _ q xs os hq hx =>
    simp only [stepD] at hs
    obtain ⟨p, hev, hp, rfl⟩ := hs
    obtain ⟨u, hv, hrep⟩ := q_sound hI hq (hx.rep he hG) hev hp o hop
    unfold Oper.wp
    rw [hv, Oper.upon_value]
    exact hK u w loc hrep hI (Ext.refl _ _ _) (Nat.le_refl _)
  | e _ e xs os hq hx =>
    simp only [stepD] at hs
    obtain ⟨p, hev, hp⟩ := hs
    obtain ⟨nx, w', loc', hv, g1, g2, g3, g4⟩ := e_sound hI hq (hx.rep he hG) hev hp o hop
    unfold Oper.wp
    rw [hv]
    rcases g4 with ⟨u, rfl, hrep⟩ | ⟨rfl, rfl⟩
    · rw [Oper.upon_value]; exact hK u w' loc' hrep g1 g2 g3
    · rw [Oper.upon_skip]; exact hK undef w' loc' (RepV.un undef) g1 g2 g3
  | call f xs ts os hx =>
    simp only [stepD] at hs
    exact callf hx hop hs.2
  | callp f xs ts os hx =>
    simp only [stepD] at hs
    obtain ⟨rfl, _, hs⟩ := hs
    exact callf hx hop (hs h')
  | callm f xs ts os hx =>
    simp only [stepD] at hs
    obtain ⟨ver, nn, e, blk, rfl, rfl, _, hs⟩ := hs
    exact callf hx hop (hs h)
  | callw f xs ts os hx =>
    simp only [stepD] at hs
    exact callf hx hop hs.2
  | nilq t e x yt neg os ht hx =>
    simp only [stepD] at hs
  | callv s xs ts os hx =>
    simp only [stepD] at hs
    obtain ⟨_, f, caps, rest, hm, hf⟩ := hs
    have hr := hx.rep he hG
    rw [List.map_cons, hm] at hr
    cases hr with
    | cons v0 b vs bs h1 h2 =>
      obtain ⟨cv, hcv, hcl, hcc, hcr⟩ := (h1.rep rfl).fn_inv
      simp at hcv
      have hrc : ∀ {cv : List Value} {caps : List AV}, Rep w loc h.length cv (.agg caps) → cv.length = caps.length → (∀ c ∈ caps, c.isCell = true) → RepVs w loc h.length cv caps := by
        intro cv caps
        induction caps generalizing cv with
        | nil => intro h _ _; rw [h.nil_inv]; exact .nil
        | cons c caps ih =>
          intro h hl hc
          obtain ⟨us, ys, rfl, k1, k2⟩ := h.cons_inv
          obtain ⟨u, rfl⟩ := k1.cell (hc c (by simp))
          exact .cons _ _ _ _ (.cell _ _ (hc c (by simp)) k1) (ih k2 (by simpa using hl) fun d hd => hc d (by simp [hd]))
      have happ : ∀ {xs ys : List Value} {as bs : List AV}, RepVs w loc h.length xs as → RepVs w loc h.length ys bs → RepVs w loc h.length (xs ++ ys) (as ++ bs) := by
        intro xs ys as bs h1 h2
        induction h1 with
        | nil => exact h2
        | cons _ _ _ _ g _ ih => exact .cons _ _ _ _ g ih
      refine call (happ h2 (hrc hcr hcl hcc)) ?_ hf
      have e1 : (xs.toList.map a.eval ++ cv).toArray = xs.map a.eval ++ cv.toArray := by apply Array.ext'; simp
      rw [e1]
      simp [execOp, hop, resolve, hcv, Deferred.ofValue, invoke]

/-- Midway: some operations were done, whichever. New variables that were made ahead of their turn (pd) lie behind the memory of the text's order. -/
structure Mid (P : Program) (G : Globs) (n n0 : Nat) (ops : Array Oper) (is : List Ins) (E : Nat → List AV) (T : Nat → Heap) (SL : List Nat) (a0 : Act) (w0 : World) (loc0 : Loc) (listed : Array Bool) (a : Act) (w : World)
    (loc : Loc) (cur : List AV) (m : Nat) (pd : List Nat) : Prop where
  sz : listed.size = ops.size
  cl : ∀ (k : Nat) (o : Oper), ops[k]? = some o → listed.getD k false = true → ∀ e ∈ o.after, Region.binds .any e = true → listed.getD e.on false = true
  env : EnvOk w loc (T m).length SL a.tmps cur
  fin : ∀ (x j : Nat), (dix n0 is)[j]? = some (some x) → listed.getD j false = true → j ∉ pd → cur[x]? = (E is.length)[x]?
  ini : ∀ (x : Nat), x < n0 → (∀ (j : Nat), (dix n0 is)[j]? = some (some x) → listed.getD j false = false) → cur[x]? = (E 0)[x]?
  ml : m ≤ is.length
  mm : ∀ (j : Nat) (i : Ins), is[j]? = some i → 2 ≤ i.op.cls → i.free = false → (listed.getD j false = true ↔ j < m)
  mf : ∀ (j : Nat) (i : Ins), is[j]? = some i → i.free = true → j < m → listed.getD j false = true
  pd1 : ∀ j ∈ pd, m ≤ j ∧ listed.getD j false = true ∧ ∃ i, is[j]? = some i ∧ i.free = true
  pd2 : ∀ (j : Nat) (i : Ins), is[j]? = some i → i.free = true → listed.getD j false = true → j < m ∨ j ∈ pd
  nd : pd.Nodup
  pv : ∀ (k j : Nat), pd[k]? = some j → ∃ x s te sh z as, is[j]? = some ⟨.var x, .e (.alloc te sh z), as, none⟩ ∧ SL[x]? = some s ∧ cur[x]? = some .un ∧ z.bnd 0 = true ∧
    RepV w loc ((T m).length + pd.length) (a.tmps.getD s undef) (.ptr ((T m).length + k) 0 [0] sh)
  hI : HeapInv w loc (T m ++ pd.map (zb is))
  hb : HBnd (T m).length (T m)
  hG : GlobOk G w loc
  ext : Ext w0 loc0 (T 0).length w loc
  le : (T 0).length ≤ (T m).length
  df : a.defers = a0.defers
  ts : a.tmps.size = n

theorem Mid.bnd {a0 : Act} {w0 : World} {loc0 : Loc} {listed : Array Bool} {a : Act} {w : World} {loc : Loc} {cur : List AV} {m : Nat} {pd : List Nat} (hm : Mid P G n n0 ops is E T SL a0 w0 loc0 listed a w loc cur m pd) :
    ∀ b blk, Heap.get (T m ++ pd.map (zb is)) b = some blk → blk.root.bnd (T m).length = true := by
  intro b blk hg
  rcases Nat.lt_or_ge b (T m).length with h | h
  · rw [Heap.get_append _ _ _ h] at hg
    exact hm.hb b blk h hg
  · rw [Heap.get_append_right _ _ _ h] at hg
    unfold Heap.get at hg
    rw [List.getElem?_map] at hg
    cases hp : pd[b - (T m).length]? with
    | none => rw [hp] at hg; simp at hg
    | some j =>
      rw [hp] at hg
      obtain ⟨x, s, te, sh, z, as, h1, _, _, h4, _⟩ := hm.pv _ _ hp
      simp [zb, h1] at hg
      subst hg
      have := AV.bnd_le (Nat.zero_le (T m).length) z h4
      simpa [AV.bnd, AV.bnds] using this

/-- memory's end moves on over what takes no part in its order, and over new variables that were made -/
theorem Mid.adv1 {a0 : Act} {w0 : World} {loc0 : Loc} {listed : Array Bool} {a : Act} {w : World} {loc : Loc} {cur : List AV} {m : Nat} {pd : List Nat} (hO : Ordered ops n0 is) (hT : Tr P G n0 is E T V) (hsl0 : SL.length = (E is.length).length)
    (hm : Mid P G n n0 ops is E T SL a0 w0 loc0 listed a w loc cur m pd) {i : Ins} (hi : is[m]? = some i) (hc : i.op.cls ≤ 1 ∨ (i.free = true ∧ listed.getD m false = true)) :
    ∃ loc' cur' pd', Mid P G n n0 ops is E T SL a0 w0 loc0 listed a w loc' cur' (m + 1) pd' := by
  have hml : m < is.length := (List.getElem?_eq_some_iff.1 hi).1
  rcases hc with hc | ⟨hf, hl⟩
  · have hTT : T (m + 1) = T m := goD_free hc (hT.go m i hi)
    have hne : ∀ (j : Nat) (i' : Ins), is[j]? = some i' → 2 ≤ i'.op.cls → j ≠ m := by
      intro j i' h1 h2 e
      subst e; rw [hi] at h1; cases h1; omega
    refine ⟨loc, cur, pd, hm.sz, hm.cl, by rw [hTT]; exact hm.env, hm.fin, hm.ini, hml, ?_, ?_, ?_, ?_, hm.nd, by rw [hTT]; exact hm.pv, by rw [hTT]; exact hm.hI, by rw [hTT]; exact hm.hb, hm.hG, hm.ext, by rw [hTT]; exact hm.le, hm.df, hm.ts⟩
    · intro j i' h1 h2 h3
      have := hne j i' h1 h2
      rw [hm.mm j i' h1 h2 h3]; omega
    · intro j i' h1 h2 h3
      have := hne j i' h1 (by rw [(free_cls h2).1]; omega)
      exact hm.mf j i' h1 h2 (by omega)
    · intro j hj
      obtain ⟨h1, h2, i', h3, h4⟩ := hm.pd1 j hj
      have := hne j i' h3 (by rw [(free_cls h4).1]; omega)
      exact ⟨by omega, h2, i', h3, h4⟩
    · intro j i' h1 h2 h3
      rcases hm.pd2 j i' h1 h2 h3 with h | h
      · exact .inl (by omega)
      · exact .inr h
  · obtain ⟨te, sh, z, as, x, rfl⟩ := free_inv hf
    have hmp : m ∈ pd := by
      rcases hm.pd2 m _ hi hf hl with h | h
      · omega
      · exact h
    obtain ⟨P1, P2, hpd⟩ := List.append_of_mem hmp
    subst hpd
    have hgo := hT.go m _ hi
    simp only [goD, stepD] at hgo
    obtain ⟨p, hev, hp⟩ := hgo
    have has : as = [] := by
      cases as with
      | nil => rfl
      | cons a as => simp [eev] at hev
    subst has
    simp only [List.map_nil, eev, Option.some.injEq, Prod.mk.injEq] at hev
    obtain ⟨-, hV, hTT⟩ := hev
    have hdx : (dix n0 is)[m]? = some (some x) := dix_get (n := n0) hi
    have hpv := hm.pv P1.length m (by simp)
    obtain ⟨x', s, te', sh', z', as', g1, g2, g3, g4, g5⟩ := hpv
    rw [hi] at g1
    cases g1
    have hzb : zb is m = some ⟨te, 0, false, .arr 1 sh, .agg [z]⟩ := by simp [zb, hi]
    have hlenT : (T (m + 1)).length = (T m).length + 1 := by rw [← hTT]; simp
    have hxl : x < cur.length := by
      rcases Nat.lt_or_ge x cur.length with h | h
      · exact h
      · rw [List.getElem?_eq_none h] at g3; cases g3
    have hxinj : ∀ j y, (dix n0 is)[j]? = some (some y) → j ≠ m → y ≠ x := by
      intro j y h1 h2 e
      subst e
      exact h2 (hO.inj j m y h1 hdx)
    have hxn : ∀ (j : Nat), (dix n0 is)[j]? = some (some x) → j = m := fun j h => hO.inj j m x h hdx
    have hEx : (E is.length)[x]? = some (V m) := by
      obtain ⟨w1, w2⟩ := hT.wrote hdx
      rw [hT.keep (a := m + 1) (b := is.length) (by omega) (Nat.le_refl _) w2 fun q h1 _ he => by have := hxn q he; omega, w1]
    have hI2 : HeapInv w (rot loc (T m).length P1.length) (T m ++ zb is m :: (P1.map (zb is) ++ P2.map (zb is))) := by
      have h1 := hm.hI
      have h2 := hm.bnd
      rw [List.map_append, List.map_cons] at h1 h2
      have h3 := HeapInv.rot h1 h2
      rwa [List.length_map] at h3
    have hTe : T m ++ zb is m :: (P1.map (zb is) ++ P2.map (zb is)) = T (m + 1) ++ (P1 ++ P2).map (zb is) := by
      rw [← hTT, hzb]; simp
    refine ⟨rot loc (T m).length P1.length, cur.set x (V m), P1 ++ P2, hm.sz, hm.cl, ?_, ?_, ?_, hml, ?_, ?_, ?_, ?_, ?_, ?_, by rw [← hTe]; exact hI2, ?_, hm.hG.rot, hm.ext.rot hm.le, by rw [hlenT]; have := hm.le; omega, hm.df, hm.ts⟩
    · have he := (hm.env.rot (p := P1.length)).mono (Ext.refl w _ (T m).length) (show (T m).length ≤ (T (m + 1)).length by omega)
      refine ⟨by rw [List.length_set]; exact he.len, he.nd, he.lt, ?_⟩
      intro y s' b h1 h2
      rw [List.getElem?_set] at h2
      split at h2
      · rename_i hxy
        subst hxy
        cases h2
        rw [g2] at h1; cases h1
        rw [← hV]
        refine g5.ptr_at ?_ (by omega)
        simp [rot, rotI]
      · exact he.rep y s' b h1 h2
    · intro y j h1 h2 h3
      by_cases hjm : j = m
      · subst hjm
        rw [hdx] at h1; cases h1
        rw [hEx, List.getElem?_set, if_pos rfl, if_pos hxl]
      · have hyx := hxinj j y h1 hjm
        rw [List.getElem?_set, if_neg (Ne.symm hyx)]
        refine hm.fin y j h1 h2 ?_
        simp only [List.mem_append, List.mem_cons, not_or] at h3 ⊢
        exact ⟨h3.1, hjm, h3.2⟩
    · intro y hy hno
      have hyx : y ≠ x := by
        intro e; subst e
        have := hno m hdx
        rw [hl] at this; cases this
      rw [List.getElem?_set, if_neg (Ne.symm hyx)]
      exact hm.ini y hy hno
    · intro j i' h1 h2 h3
      have hjm : j ≠ m := by
        intro e; subst e; rw [hi] at h1; cases h1; rw [hf] at h3; cases h3
      rw [hm.mm j i' h1 h2 h3]; omega
    · intro j i' h1 h2 h3
      by_cases hjm : j = m
      · subst hjm; exact hl
      · exact hm.mf j i' h1 h2 (by omega)
    · intro j hj
      have hjm : j ≠ m := by
        intro e; subst e
        have := hm.nd
        rw [List.nodup_append] at this
        obtain ⟨_, n2, n3⟩ := this
        rw [List.nodup_cons] at n2
        rcases List.mem_append.1 hj with h | h
        · exact n3 j h j (by simp) rfl
        · exact n2.1 h
      obtain ⟨h1, h2, h3⟩ := hm.pd1 j (by rcases List.mem_append.1 hj with h | h <;> simp [h])
      exact ⟨by omega, h2, h3⟩
    · intro j i' h1 h2 h3
      rcases hm.pd2 j i' h1 h2 h3 with h | h
      · exact .inl (by omega)
      · simp only [List.mem_append, List.mem_cons] at h
        rcases h with h | h | h
        · exact .inr (by simp [h])
        · exact .inl (by omega)
        · exact .inr (by simp [h])
    · have := hm.nd
      rw [List.nodup_append] at this
      obtain ⟨n1, n2, n3⟩ := this
      rw [List.nodup_cons] at n2
      exact List.nodup_append.2 ⟨n1, n2.2, fun a ha b hb => n3 a ha b (by simp [hb])⟩
    · intro k j hk
      have hj : ∃ k0, (P1 ++ m :: P2)[k0]? = some j ∧ ((k < P1.length ∧ k0 = k) ∨ (P1.length ≤ k ∧ k0 = k + 1)) := by
        rcases Nat.lt_or_ge k P1.length with h | h
        · exact ⟨k, by rw [List.getElem?_append_left h] at hk ⊢; exact hk, .inl ⟨h, rfl⟩⟩
        · refine ⟨k + 1, ?_, .inr ⟨h, rfl⟩⟩
          rw [List.getElem?_append_right h] at hk
          rw [List.getElem?_append_right (by omega), show k + 1 - P1.length = (k - P1.length) + 1 by omega, List.getElem?_cons_succ]
          exact hk
      obtain ⟨k0, hk0, hkk⟩ := hj
      obtain ⟨y, s', te', sh', z', as', f1, f2, f3, f4, f5⟩ := hm.pv k0 j hk0
      have hjm : j ≠ m := by
        intro e; subst e
        have := hm.nd
        rw [List.nodup_append] at this
        obtain ⟨_, n2, n3⟩ := this
        rw [List.nodup_cons] at n2
        have hmem := List.mem_of_getElem? hk
        rcases List.mem_append.1 hmem with h | h
        · exact n3 j h j (by simp) rfl
        · exact n2.1 h
      have hyx := hxinj j y (dix_get (n := n0) f1) hjm
      refine ⟨y, s', te', sh', z', as', f1, f2, by rw [List.getElem?_set, if_neg (Ne.symm hyx)]; exact f3, f4, ?_⟩
      have hkl : k < (P1 ++ P2).length := (List.getElem?_eq_some_iff.1 hk).1
      refine f5.ptr_at ?_ (by omega)
      simp only [rot, rotI, hlenT]
      rcases hkk with ⟨h1, rfl⟩ | ⟨h1, rfl⟩
      · rw [if_neg (by omega), if_neg (by omega), if_pos (by omega)]
        congr 1; omega
      · rw [if_neg (by omega), if_neg (by omega), if_neg (by omega)]
        congr 1; omega
    · intro b blk hbl hg
      rw [← hTT] at hg
      rcases Nat.lt_or_ge b (T m).length with h | h
      · rw [Heap.get_append _ _ _ h] at hg
        exact AV.bnd_le (by omega) _ (hm.hb b blk h hg)
      · have : b = (T m).length := by omega
        subst this
        rw [Heap.get_append_right _ _ _ (Nat.le_refl _)] at hg
        simp [Heap.get] at hg
        subst hg
        have := AV.bnd_le (Nat.zero_le (T (m + 1)).length) z g4
        simpa [AV.bnd, AV.bnds] using this

theorem Mid.adv {a0 : Act} {w0 : World} {loc0 : Loc} {listed : Array Bool} {a : Act} {w : World} (hO : Ordered ops n0 is) (hT : Tr P G n0 is E T V) (hsl0 : SL.length = (E is.length).length) :
    ∀ (d m : Nat) (loc : Loc) (cur : List AV) (pd : List Nat), Mid P G n n0 ops is E T SL a0 w0 loc0 listed a w loc cur m pd → m + d ≤ is.length →
      (∀ (q : Nat) (i : Ins), m ≤ q → q < m + d → is[q]? = some i → i.op.cls ≤ 1 ∨ (i.free = true ∧ listed.getD q false = true)) → ∃ loc' cur' pd', Mid P G n n0 ops is E T SL a0 w0 loc0 listed a w loc' cur' (m + d) pd'
  | 0, m, loc, cur, pd, hm, _, _ => ⟨loc, cur, pd, hm⟩
  | d + 1, m, loc, cur, pd, hm, hl, hc => by
    have hi : is[m]? = some is[m] := List.getElem?_eq_getElem (by omega)
    obtain ⟨loc1, cur1, pd1, hm1⟩ := hm.adv1 hO hT hsl0 hi (hc m _ (Nat.le_refl _) (by omega) hi)
    obtain ⟨loc2, cur2, pd2, hm2⟩ := Mid.adv hO hT hsl0 d (m + 1) loc1 cur1 pd1 hm1 (by omega) fun q i h1 h2 h3 => hc q i (by omega) (by omega) h3
    exact ⟨loc2, cur2, pd2, by rw [show m + (d + 1) = m + 1 + d by omega]; exact hm2⟩


/-- the slots keep what isn't put -/
theorem put_keep {a : Act} {o : Option Nat} {u : Value} {s : Nat} (h : o ≠ some s) : (a.put o u).tmps.getD s undef = a.tmps.getD s undef := by
  cases o with
  | none => rfl
  | some s' =>
    have hne : s' ≠ s := fun e => h (by rw [e])
    simp [Act.put, Array.getD_eq_getD_getElem?, Array.getElem?_setIfInBounds_ne hne]

theorem put_there {a : Act} {u : Value} {s : Nat} (h : s < a.tmps.size) : (a.put (some s) u).tmps.getD s undef = u := by
  simp [Act.put, Array.getD_eq_getD_getElem?, h]

theorem Mid.step {a0 : Act} {w0 : World} {loc0 : Loc} {listed : Array Bool} {a : Act} {w : World} {loc : Loc} {cur : List AV} {m : Nat} {pd : List Nat} (hO : Ordered ops n0 is) (hT : Tr P G n0 is E T V) (hil : ops.size = is.length) (hsl0 : SL.length = (E is.length).length)
    (hat : ∀ (j : Nat) (o : Oper) (i : Ins), ops[j]? = some o → is[j]? = some i → ∃ slj d, (dix n0 is)[j]? = some d ∧ AtOk P G n ops SL o i slj d ∧ slj.length = n0 + cntN is j)
    (hm : Mid P G n n0 ops is E T SL a0 w0 loc0 listed a w loc cur m pd) {j : Nat} (hj : j ∈ Region.ready .any ops listed) {Q : Exit → Act → World → Prop} {Kn : Act → World → Prop}
    (hK : ∀ a' w' loc' cur' m' pd', Mid P G n n0 ops is E T SL a0 w0 loc0 (listed.setIfInBounds j true) a' w' loc' cur' m' pd' → Kn a' w') : wpOp P ops Q j Kn a w := by
  obtain ⟨hju, o, ho, hall⟩ := mem_ready.1 hj
  have hjl : j < ops.size := (Array.getElem?_eq_some_iff.1 ho).1
  have hjs : j < listed.size := by rw [hm.sz]; exact hjl
  have hju' : listed.getD j false = false := by
    simp [Array.getD_eq_getD_getElem?, hjs] at hju ⊢; exact hju
  have hi : is[j]? = some is[j] := List.getElem?_eq_getElem (by omega)
  generalize is[j] = i at hi
  obtain ⟨slj, d, hd, hA, hsl⟩ := hat j o i ho hi
  obtain ⟨ext, hext⟩ := hA.pre
  -- what came before was done; what comes behind was not
  have bef : ∀ k, Dep ops k j → listed.getD k false = true := fun k hk => hk.listed hm.cl fun o' ho' => by
    rw [ho] at ho'; cases ho'; exact hall
  have aft : ∀ k, Dep ops j k → listed.getD k false = false := by
    intro k hk
    cases hlk : listed.getD k false with
    | false => rfl
    | true =>
      have := hk.listed hm.cl fun o' ho' => hm.cl k o' ho' hlk
      rw [this] at hju'; cases hju'
  have hlen : (E j).length = slj.length := by rw [hT.len j (by omega), hsl]
  have hcll : i.op.cls ≤ 3 := by
    have hcc : ∀ i : Iop, i.cls ≤ 3 := by
      intro i; cases i with
      | q q => cases q <;> simp [Iop.cls]
      | e e => cases e <;> simp [Iop.cls]
      | _ => simp [Iop.cls]
    exact hcc _
  -- the list of what was done, one more
  have set1 : ∀ k, (listed.setIfInBounds j true).getD k false = true ↔ k = j ∨ listed.getD k false = true := by
    intro k
    by_cases hkj : j = k
    · subst hkj; simp [Array.getD_eq_getD_getElem?, hjs]
    · simp [Array.getD_eq_getD_getElem?, Array.getElem?_setIfInBounds_ne hkj, Ne.symm hkj]
  have set0 : ∀ k, (listed.setIfInBounds j true).getD k false = false ↔ k ≠ j ∧ listed.getD k false = false := by
    intro k
    have := set1 k
    cases h1 : (listed.setIfInBounds j true).getD k false <;> cases h2 : listed.getD k false <;> simp [h1, h2] at this ⊢ <;> exact this
  have cl' : ∀ (k : Nat) (o : Oper), ops[k]? = some o → (listed.setIfInBounds j true).getD k false = true → ∀ e ∈ o.after, Region.binds .any e = true → (listed.setIfInBounds j true).getD e.on false = true := by
    intro k o' ho' hk e he hb
    refine (set1 _).2 (.inr ?_)
    rcases (set1 k).1 hk with rfl | hk
    · rw [ho] at ho'; cases ho'; exact hall e he hb
    · exact hm.cl k o' ho' hk e he hb
  -- the place written, as a place of the whole list
  obtain ⟨dd, hdd, hput⟩ : ∃ dd : Dst, slD SL o.dst dd = some SL ∧ ∀ (cur : List AV) v, putE cur dd v = setO cur d v := by
    have hdst := hA.dst
    cases d with
    | none => simp only at hdst; exact ⟨.none, by simp [slD, hdst], fun c v => rfl⟩
    | some x =>
      simp only at hdst
      obtain ⟨s, h1, h2⟩ := hdst
      exact ⟨.var x, by simp [slD, h1, h2], fun c v => rfl⟩
  have hlt : ∀ s, o.dst = some s → s < a.tmps.size := by rw [hm.ts]; exact hA.lt
  -- another place is kept
  have hkeep : ∀ (u : Value) (y s : Nat), SL[y]? = some s → d ≠ some y → (a.put o.dst u).tmps.getD s undef = a.tmps.getD s undef := by
    intro u y s hy hne
    refine put_keep ?_
    intro he
    have hdst := hA.dst
    cases d with
    | none => simp only at hdst; rw [hdst] at he; cases he
    | some x =>
      simp only at hdst
      obtain ⟨s', h1, h2⟩ := hdst
      rw [he] at h1; cases h1
      have hnd := hm.env.nd
      have hx := (List.getElem?_eq_some_iff.1 h2).1
      have hyl := (List.getElem?_eq_some_iff.1 hy).1
      have : x = y := (List.getElem?_inj hx hnd).1 (by rw [h2, hy])
      exact hne (by rw [this])
  -- what is read is what the text's order reads
  have rdx : ∀ {loc1 : Loc} {cur1 : List AV} {m1 : Nat} {pd1 : List Nat}, Mid P G n n0 ops is E T SL a0 w0 loc0 listed a w loc1 cur1 m1 pd1 → (∀ k x, k ∈ pd1 → k < j → (dix n0 is)[k]? = some (some x) → x ∈ i.reads → False) →
      ∀ x, x ∈ i.reads → x < slj.length → cur1[x]? = (E j)[x]? := by
    intro loc1 cur1 m1 pd1 hm hnp x hx hxl
    by_cases hw : ∃ k, k < j ∧ (dix n0 is)[k]? = some (some x)
    · obtain ⟨k, hkj, hk⟩ := hw
      rw [hm.fin x k hk (bef k (hO.wr k j x i hkj hi hk hx)) fun h => hnp k x h hkj hk hx]
      obtain ⟨g1, g2⟩ := hT.wrote hk
      have one : ∀ q, k + 1 ≤ q → (dix n0 is)[q]? ≠ some (some x) := fun q hq he => by
        have := hO.inj k q x hk he; omega
      rw [hT.keep (a := k + 1) (b := is.length) (by omega) (Nat.le_refl _) g2 fun q h1 _ => one q h1, hT.keep (a := k + 1) (b := j) (by omega) (by omega) g2 fun q h1 _ => one q h1]
    · have hx0 : x < n0 := by
        rcases Nat.lt_or_ge x n0 with h | h
        · exact h
        · obtain ⟨k, h1, h2⟩ := hT.writer (j := j) (by omega) (by rw [hlen]; exact hxl) h
          exact absurd ⟨k, h1, h2⟩ hw
      rw [hm.ini x hx0 ?_, hT.keep (a := 0) (b := j) (by omega) (by omega) (by rw [hT.l0]; exact hx0) fun q _ h1 he => hw ⟨q, h1, he⟩]
      intro k hk
      rcases Nat.lt_trichotomy k j with h | h | h
      · exact absurd ⟨k, h, hk⟩ hw
      · subst h; exact hju'
      · exact aft k (hO.rw j k x i h hi hk hx)
  have hfinj : ∀ x, d = some x → (E is.length)[x]? = some (V j) ∧ x < SL.length := by
    intro x hx
    subst hx
    obtain ⟨g1, g2⟩ := hT.wrote hd
    have hone := hT.keep (a := j + 1) (b := is.length) (by omega) (Nat.le_refl _) g2 fun q h1 _ he => by
      have := hO.inj j q x hd he; omega
    refine ⟨by rw [hone, g1], ?_⟩
    rw [hsl0]
    exact Nat.lt_of_lt_of_le g2 (hT.mono_len (by omega) (Nat.le_refl _))
  -- what is done then, of one that is not free
  have next : ∀ {loc1 : Loc} {cur1 : List AV} {m1 : Nat} {pd1 : List Nat}, Mid P G n n0 ops is E T SL a0 w0 loc0 listed a w loc1 cur1 m1 pd1 → i.free = false → ∀ (m' : Nat) (u : Value) (w' : World) (loc' : Loc),
      ((2 ≤ i.op.cls ∧ m1 = j ∧ m' = j + 1 ∧ (∀ (k : Nat) (b : Ins), is[k]? = some b → 2 ≤ b.op.cls → k < j → listed.getD k false = true) ∧ (∀ (k : Nat) (b : Ins), is[k]? = some b → 2 ≤ b.op.cls → b.free = false → j < k → listed.getD k false = false)) ∨ (i.op.cls ≤ 1 ∧ m' = m1)) →
      RepV w' loc' (T m').length u (V j) → EnvOk w' loc' (T m').length SL a.tmps cur1 → HeapInv w' loc' (T m' ++ pd1.map (zb is)) → HBnd (T m').length (T m') → GlobOk G w' loc' → Ext w0 loc0 (T 0).length w' loc' → (T 0).length ≤ (T m').length →
      (∀ (k : Nat) (sh : Shape) (v : Value), k < pd1.length → RepV w loc1 ((T m1).length + pd1.length) v (.ptr ((T m1).length + k) 0 [0] sh) → RepV w' loc' ((T m').length + pd1.length) v (.ptr ((T m').length + k) 0 [0] sh)) → Kn (a.put o.dst u) w' := by
    intro loc1 cur1 m1 pd1 hm1 hnf m' u w' loc' hm' hru he hI' hb' hG' hE' hle hpv
    obtain ⟨p1, p2, p3⟩ := he.put hdd hlt hru
    rw [hput] at p1
    have hcl : cur1.length = SL.length := hm1.env.len.symm
    have hnjp : j ∉ pd1 := fun h => by
      have := (hm1.pd1 j h).2.1
      rw [hju'] at this; cases this
    refine hK _ w' loc' (setO cur1 d (V j)) m' pd1 ⟨by simp [hm1.sz], cl', p1, ?_, ?_, ?_, ?_, ?_, ?_, ?_, hm1.nd, ?_, hI', hb', hG', hE', hle, p3.trans hm1.df, p2.trans hm1.ts⟩
    · intro x k hk hlk hkp
      rcases (set1 k).1 hlk with rfl | hlk
      · rw [hd] at hk; cases hk
        obtain ⟨g1, g2⟩ := hfinj x rfl
        rw [g1]
        simp [setO, hcl, g2]
      · have hne : d ≠ some x := by
          intro he
          rw [he] at hd
          have := hO.inj j k x hd hk
          subst this; rw [hlk] at hju'; cases hju'
        rw [← hm1.fin x k hk hlk hkp]
        exact setO_get hne
    · intro x hx hno
      have hne : d ≠ some x := by
        intro he
        rw [he] at hd
        have := hno j hd
        rw [(set1 j).2 (.inl rfl)] at this; cases this
      rw [← hm1.ini x hx fun k hk => ((set0 k).1 (hno k hk)).2]
      exact setO_get hne
    · rcases hm' with ⟨_, _, rfl, _⟩ | ⟨_, rfl⟩
      · omega
      · exact hm1.ml
    · intro k b hb hc hf
      rcases hm' with ⟨h2, rfl, rfl, hbe, haf⟩ | ⟨h1, rfl⟩
      · rw [set1 k]
        constructor
        · rintro (h | h)
          · omega
          · rcases Nat.lt_or_ge m1 k with h3 | h3
            · rw [haf k b hb hc hf h3] at h; cases h
            · omega
        · intro hk
          rcases Nat.lt_or_ge k m1 with h | h
          · exact .inr (hbe k b hb hc h)
          · exact .inl (by omega)
      · have hne : k ≠ j := by
          intro e; subst e; rw [hi] at hb; cases hb; omega
        rw [set1 k, ← hm1.mm k b hb hc hf]
        constructor
        · rintro (h | h)
          · exact absurd h hne
          · exact h
        · intro h; exact .inr h
    · intro k b hb hf hk
      refine (set1 k).2 ?_
      rcases hm' with ⟨h2, rfl, rfl, hbe, haf⟩ | ⟨h1, rfl⟩
      · rcases Nat.lt_or_ge k m1 with h | h
        · exact .inr (hbe k b hb (by rw [(free_cls hf).1]; omega) h)
        · exact .inl (by omega)
      · exact .inr (hm1.mf k b hb hf hk)
    · intro k hk
      obtain ⟨h1, h2, b, h3, h4⟩ := hm1.pd1 k hk
      refine ⟨?_, (set1 k).2 (.inr h2), b, h3, h4⟩
      rcases hm' with ⟨_, rfl, rfl, _, _⟩ | ⟨_, rfl⟩
      · have : k ≠ m1 := fun e => hnjp (e ▸ hk)
        omega
      · exact h1
    · intro k b hb hf hlk
      rcases (set1 k).1 hlk with rfl | hlk
      · rw [hi] at hb; cases hb; rw [hf] at hnf; cases hnf
      · rcases hm1.pd2 k b hb hf hlk with h | h
        · rcases hm' with ⟨_, rfl, rfl, _, _⟩ | ⟨_, rfl⟩
          · exact .inl (by omega)
          · exact .inl h
        · exact .inr h
    · intro k q hk
      obtain ⟨x, s, te, sh, z, as, h1, h2, h3, h4, h5⟩ := hm1.pv k q hk
      have hqj : q ≠ j := fun e => hnjp (e ▸ List.mem_of_getElem? hk)
      have hne : d ≠ some x := by
        intro he
        rw [he] at hd
        exact hqj (hO.inj q j x (dix_get (n := n0) h1) hd)
      refine ⟨x, s, te, sh, z, as, h1, h2, by rw [setO_get hne]; exact h3, h4, ?_⟩
      rw [hkeep u x s h2 hne]
      exact hpv k sh _ (List.getElem?_eq_some_iff.1 hk).1 h5
  have hgo := hT.go j i hi
  unfold wpOp
  simp only [ho]
  by_cases hfree : i.free = true
  · -- a new variable, made ahead of its turn
    obtain ⟨te, sh, z, as, x, rfl⟩ := free_inv hfree
    have hdx : d = some x := by
      have := dix_get (n := n0) hi
      rw [hd] at this
      simpa using this
    subst hdx
    simp only [goD, stepD] at hgo
    obtain ⟨p, hev, hp⟩ := hgo
    have has : as = [] := by
      cases as with
      | nil => rfl
      | cons a as => simp [eev] at hev
    subst has
    obtain ⟨s, hs1, hs2⟩ := hA.dst
    have hg : o.guard = none := by
      rcases hA.gd with ⟨h, _⟩ | ⟨_, _, _, _, _, _, h, _⟩
      · exact h
      · cases h
    rw [if_pos (by simp [Region.wanted, hg])]
    refine .inl ?_
    have hiop : IOp P G SL o.op (.e (.alloc te sh z)) [] := by rw [hext]; exact hA.iop.wide
    have hz : z.bnd 0 = true := by
      have hiop2 := hiop
      generalize o.op = oo at hiop2
      cases hiop2 with
      | e _ _ xs _ hq _ => exact z0_ok hq
    have heN := hm.env.mono (Ext.refl w loc (T m).length) (show (T m).length ≤ (T m ++ pd.map (zb is)).length by simp)
    refine stepD_sound (i := ⟨.var x, .e (.alloc te sh z), [], none⟩) (h := T m ++ pd.map (zb is)) (h' := T m ++ (pd ++ [j]).map (zb is)) (v := .ptr ((T m).length + pd.length) 0 [0] sh) hm.hI hm.hG heN hiop ?_ ?_
    · refine ⟨True, ?_, trivial⟩
      simp [eev, zb, hi]
    intro u w' loc' hru hI' hE' hle'
    have hEm : Ext w loc (T m).length w' loc' := hE'.weak (by simp)
    have heu := (hm.env.mono hEm (Nat.le_refl _))
    obtain ⟨p1, p2, p3⟩ := heu.put hdd hlt (RepV.un u)
    rw [hput] at p1
    have hcl : cur.length = SL.length := hm.env.len.symm
    have hxl : x < cur.length := by rw [hcl]; exact (hfinj x rfl).2
    have hjp : j ∉ pd := fun h => by
      have := (hm.pd1 j h).2.1
      rw [hju'] at this; cases this
    have hmj : m ≤ j := by
      rcases Nat.lt_or_ge j m with h | h
      · rw [hm.mf j _ hi hfree h] at hju'; cases hju'
      · exact h
    refine hK _ w' loc' (setO cur (some x) .un) m (pd ++ [j]) ⟨by simp [hm.sz], cl', p1, ?_, ?_, hm.ml, ?_, ?_, ?_, ?_, ?_, ?_, hI', hm.hb, hm.hG.mono hEm, hm.ext.trans hEm hm.le, hm.le, p3.trans hm.df, p2.trans hm.ts⟩
    · intro y k hk hlk hkp
      have hkj : k ≠ j := fun e => hkp (by simp [e])
      rcases (set1 k).1 hlk with h | h
      · exact absurd h hkj
      · have hne : some x ≠ some y := by
          intro he
          cases he
          exact hkj (hO.inj k j x hk hd)
        rw [setO_get hne]
        exact hm.fin y k hk h fun hp => hkp (by simp [hp])
    · intro y hy hno
      have hne : some x ≠ some y := by
        intro he
        cases he
        have := hno j hd
        rw [(set1 j).2 (.inl rfl)] at this; cases this
      rw [setO_get hne]
      exact hm.ini y hy fun k hk => ((set0 k).1 (hno k hk)).2
    · intro k b hb hc hf
      have hne : k ≠ j := by
        intro e; subst e; rw [hi] at hb; cases hb; rw [hfree] at hf; cases hf
      rw [set1 k, ← hm.mm k b hb hc hf]
      constructor
      · rintro (h | h)
        · exact absurd h hne
        · exact h
      · intro h; exact .inr h
    · intro k b hb hf hk
      exact (set1 k).2 (.inr (hm.mf k b hb hf hk))
    · intro k hk
      rcases List.mem_append.1 hk with h | h
      · obtain ⟨h1, h2, h3⟩ := hm.pd1 k h
        exact ⟨h1, (set1 k).2 (.inr h2), h3⟩
      · simp at h; subst h
        exact ⟨hmj, (set1 k).2 (.inl rfl), _, hi, hfree⟩
    · intro k b hb hf hlk
      rcases (set1 k).1 hlk with rfl | hlk
      · exact .inr (by simp)
      · rcases hm.pd2 k b hb hf hlk with h | h
        · exact .inl h
        · exact .inr (by simp [h])
    · exact List.nodup_append.2 ⟨hm.nd, by simp, fun a ha b hb e => by simp at hb; subst hb; subst e; exact hjp ha⟩
    · intro k q hk
      rcases Nat.lt_or_ge k pd.length with h | h
      · rw [List.getElem?_append_left h] at hk
        obtain ⟨y, s', te', sh', z', as', f1, f2, f3, f4, f5⟩ := hm.pv k q hk
        have hqj : q ≠ j := fun e => hjp (e ▸ List.mem_of_getElem? hk)
        have hne : some x ≠ some y := by
          intro he
          cases he
          exact hqj (hO.inj q j x (dix_get (n := n0) f1) hd)
        refine ⟨y, s', te', sh', z', as', f1, f2, by rw [setO_get hne]; exact f3, f4, ?_⟩
        rw [hkeep u y s' f2 hne]
        exact f5.mono (hE'.weak (by simp)) (by simp)
      · rw [List.getElem?_append_right h] at hk
        have hk0 : k = pd.length := by
          have := (List.getElem?_eq_some_iff.1 hk).1
          simp at this; omega
        subst hk0
        simp at hk; subst hk
        refine ⟨x, s, te, sh, z, [], hi, hs2, by simp [setO, hxl], hz, ?_⟩
        rw [hs1, put_there (hlt s hs1)]
        simpa [Nat.add_assoc] using hru
  · have hnf : i.free = false := by simpa using hfree
    -- ahead of it: memory's end, where it is to be
    obtain ⟨loc1, cur1, m1, pd1, hm1, hmem⟩ : ∃ (loc1 : Loc) (cur1 : List AV) (m1 : Nat) (pd1 : List Nat), Mid P G n n0 ops is E T SL a0 w0 loc0 listed a w loc1 cur1 m1 pd1 ∧
        ((2 ≤ i.op.cls ∧ m1 = j ∧ (∀ (k : Nat) (b : Ins), is[k]? = some b → 2 ≤ b.op.cls → k < j → listed.getD k false = true) ∧ (∀ (k : Nat) (b : Ins), is[k]? = some b → 2 ≤ b.op.cls → b.free = false → j < k → listed.getD k false = false)) ∨ i.op.cls ≤ 1) := by
      rcases Nat.lt_or_ge i.op.cls 2 with hc | hc
      · exact ⟨loc, cur, m, pd, hm, .inr (by omega)⟩
      · have hbe : ∀ (k : Nat) (b : Ins), is[k]? = some b → 2 ≤ b.op.cls → k < j → listed.getD k false = true := fun k b hb h2 hk =>
          bef k (hO.cl k j b i hk hb hi (by simp [clash, h2, hc]) (fun h => by rw [hnf] at h; cases h))
        have haf : ∀ (k : Nat) (b : Ins), is[k]? = some b → 2 ≤ b.op.cls → b.free = false → j < k → listed.getD k false = false := fun k b hb h2 hf hk =>
          aft k (hO.cl j k i b hk hi hb (by simp [clash, h2, hc]) (fun h => by rw [hf] at h; cases h))
        have hmj : m ≤ j := by
          rcases Nat.lt_or_ge j m with h | h
          · rw [(hm.mm j i hi hc hnf).2 h] at hju'; cases hju'
          · exact h
        obtain ⟨loc1, cur1, pd1, hm1⟩ := hm.adv hO hT hsl0 (j - m) m loc cur pd (by omega) fun q b h1 h2 h3 => by
          rcases Nat.lt_or_ge b.op.cls 2 with h | h
          · exact .inl (by omega)
          · have hlq := hbe q b h3 h (by omega)
            cases hbf : b.free with
            | true => exact .inr ⟨rfl, hlq⟩
            | false =>
              have := (hm.mm q b h3 h hbf).1 hlq
              omega
        rw [show m + (j - m) = j by omega] at hm1
        exact ⟨loc1, cur1, j, pd1, hm1, .inl ⟨hc, rfl, hbe, haf⟩⟩
    have hrd := rdx hm1 (by
      intro k x hk hkj hkd hx
      obtain ⟨h1, h2, b, h3, h4⟩ := hm1.pd1 k hk
      rcases hmem with ⟨_, rfl, _, _⟩ | hc
      · omega
      · have := hO.fr k x b i j h3 h4 hkd hi hx
        omega)
    have hargs : i.args.map (Opd.get cur1) = i.args.map (Opd.get (E j)) := args_eq fun x hx => hrd x (by simp [Ins.reads, hx]) (hA.iop.args_lt x hx)
    have hiop : IOp P G SL o.op i.op i.args := by rw [hext]; exact hA.iop.wide
    have hab : ∀ y ∈ i.args.map (Opd.get cur1), y.bnd (T m1).length = true := by
      intro y hy
      obtain ⟨od, hod, rfl⟩ := List.mem_map.1 hy
      obtain ⟨xo, hxo⟩ := hiop.opd od hod
      exact (hxo.rep hm1.env hm1.hG).bnd
    have heN := hm1.env.mono (Ext.refl w loc1 (T m1).length) (show (T m1).length ≤ (T m1 ++ pd1.map (zb is)).length by simp)
    have hIR : HeapInv w (trunc loc1 (T m1).length) (T m1) := by
      have := hm1.hI.take (k := (T m1).length) (by simp) (fun b blk h1 h2 => hm1.bnd b blk h2)
      rwa [List.take_left' rfl] at this
    have act : stepD P G i (E j) (T j) (V j) (T (j + 1)) → o.wp P a w Kn Q := by
      intro hs
      rcases hmem with ⟨hc, rfl, hbe, haf⟩ | hc
      · -- it takes its turn in memory's order
        by_cases hmk : i.op.mk1 = true
        · -- one new block: it is moved ahead of the variables that were made early
          obtain ⟨dst, op, args, g⟩ := i
          cases op with
          | e e =>
            simp only [stepD] at hs
            obtain ⟨p, hev, hp⟩ := hs
            obtain ⟨blk, hTT, hroot, hsh⟩ := mk1_eev hmk hev
            have hzz : e.z0.bnd 0 = true := by
              have hiop2 := hiop
              generalize o.op = oo at hiop2
              cases hiop2 with
              | e _ _ xs _ hq _ => exact z0_ok hq
            have hrootb : blk.root.bnd (T m1).length = true := hroot _ (AV.bnd_le (Nat.zero_le _) _ hzz) (by rw [← hargs]; exact hab)
            have hlenT : (T (m1 + 1)).length = (T m1).length + 1 := by rw [hTT]; simp
            have hplen : (pd1.map (zb is)).length = pd1.length := List.length_map _
            obtain ⟨v2, hev2, hv2⟩ : ∃ v2, eev (T m1 ++ pd1.map (zb is)) e (args.map (Opd.get cur1)) = some (p, v2, (T m1 ++ pd1.map (zb is)) ++ [some blk]) ∧
                ∀ {w' : World} {loc' : Loc} {N : Nat} {u : Value}, RepV w' loc' N u v2 → RepV w' (rot loc' (T m1).length pd1.length) (T (m1 + 1)).length u (V m1) := by
              have hrot : ∀ loc' : Loc, rot loc' (T m1).length pd1.length (T m1).length = loc' ((T m1 ++ pd1.map (zb is)).length) := by
                intro loc'; simp [rot, rotI]
              rcases hsh with ⟨sh, hv, h3⟩ | ⟨ver, nn, sh, hv, h3⟩
              · exact ⟨_, by rw [hargs]; exact h3 _, fun hr => by rw [hv]; exact hr.ptr_at (hrot _) (by omega)⟩
              · exact ⟨_, by rw [hargs]; exact h3 _, fun hr => by rw [hv]; exact hr.own_at (hrot _) (by omega)⟩
            refine stepD_sound (i := ⟨dst, .e e, args, g⟩) (h := T m1 ++ pd1.map (zb is)) (h' := (T m1 ++ pd1.map (zb is)) ++ [some blk]) (v := v2) hm1.hI hm1.hG heN hiop ⟨p, hev2, hp⟩ ?_
            intro u w' loc' hru hI' hE' hle'
            have hbnd2 : ∀ b bl, Heap.get (T m1 ++ (pd1.map (zb is) ++ some blk :: [])) b = some bl → bl.root.bnd (T m1).length = true := by
              intro b bl hg
              rw [← List.append_assoc] at hg
              rcases Nat.lt_or_ge b (T m1 ++ pd1.map (zb is)).length with h | h
              · rw [Heap.get_append _ _ _ h] at hg
                exact hm1.bnd b bl hg
              · rw [Heap.get_append_right _ _ _ h] at hg
                unfold Heap.get at hg
                rcases hq : b - (T m1 ++ pd1.map (zb is)).length with _ | q
                · rw [hq] at hg; simp at hg; subst hg; exact hrootb
                · rw [hq] at hg; simp at hg
            have hI2 := HeapInv.rot (P2 := []) (by rw [← List.append_assoc]; exact hI') hbnd2
            rw [hplen] at hI2
            have hTe : T m1 ++ some blk :: (pd1.map (zb is) ++ []) = T (m1 + 1) ++ pd1.map (zb is) := by rw [hTT]; simp
            rw [hTe] at hI2
            have hEm : Ext w loc1 (T m1).length w' loc' := hE'.weak (by simp)
            have he2 := ((hm1.env.mono hEm (Nat.le_refl _)).rot (p := pd1.length)).mono (Ext.refl w' _ (T m1).length) (show (T m1).length ≤ (T (m1 + 1)).length by omega)
            refine next hm1 hnf (m1 + 1) u w' (rot loc' (T m1).length pd1.length) (.inl ⟨hc, rfl, rfl, hbe, haf⟩) (hv2 hru) he2 hI2 ?_ (hm1.hG.mono hEm).rot ((hm1.ext.trans hEm hm1.le).rot hm1.le) (by have := hm1.le; omega) ?_
            · intro b bl hbl hg
              rw [hTT] at hg
              rcases Nat.lt_or_ge b (T m1).length with h | h
              · rw [Heap.get_append _ _ _ h] at hg
                exact AV.bnd_le (by omega) _ (hm1.hb b bl h hg)
              · have : b = (T m1).length := by omega
                subst this
                rw [Heap.get_append_right _ _ _ (Nat.le_refl _)] at hg
                simp [Heap.get] at hg
                subst hg
                exact AV.bnd_le (by omega) _ hrootb
            · intro k sh v hk hr
              refine (hr.mono (hE'.weak (by simp)) (Nat.le_refl _)).ptr_at ?_ (by omega)
              simp only [rot, rotI, hlenT]
              rw [if_neg (by omega), if_neg (by omega), if_pos (by omega)]
              congr 1; omega
          | _ => simp [Iop.mk1] at hmk
        · -- nothing was made early then
          have hpn : pd1 = [] := by
            rw [List.eq_nil_iff_forall_not_mem]
            intro k hk
            obtain ⟨h1, h2, b, h3, h4⟩ := hm1.pd1 k hk
            have hkj : k ≠ m1 := by
              intro e; subst e; rw [h2] at hju'; cases hju'
            have := aft k (hO.cl m1 k i b (by omega) hi h3 (by simp [clash, hc, (free_cls h4).1]) fun _ => by simpa using hmk)
            rw [h2] at this; cases this
          subst hpn
          simp only [List.map_nil, List.append_nil] at heN
          have hI0 : HeapInv w loc1 (T m1) := by simpa using hm1.hI
          refine stepD_sound (i := i) (h := T m1) (h' := T (m1 + 1)) (v := V m1) hI0 hm1.hG hm1.env hiop ?_ ?_
          · have hcg : ∀ {X : Prop}, X → X := fun h => h
            unfold stepD at hs ⊢
            rw [hargs]
            exact hs
          intro u w' loc' hru hI' hE' hle'
          refine next hm1 hnf (m1 + 1) u w' loc' (.inl ⟨hc, rfl, rfl, hbe, haf⟩) hru (hm1.env.mono hE' hle') (by simpa using hI') hI'.hbnd (hm1.hG.mono hE') (hm1.ext.trans hE' hm1.le) (Nat.le_trans hm1.le hle') ?_
          intro k sh v hk _
          simp at hk
      · -- memory's order is of no account
        have mem1 : i.op.cls = 1 → (∃ l, T m1 = T j ++ l) ∨ (∃ l, T j = T m1 ++ l) := by
          intro hc1
          have no3 : ∀ k b, is[k]? = some b → ((m1 ≤ k ∧ k < j) ∨ (j ≤ k ∧ k < m1)) → b.op.cls ≤ 2 := by
            intro k b hb hk
            rcases Nat.lt_or_ge b.op.cls 3 with h | h
            · omega
            · exfalso
              have hcc : ∀ i : Iop, i.cls ≤ 3 := by
                intro i; cases i with
                | q q => cases q <;> simp [Iop.cls]
                | e e => cases e <;> simp [Iop.cls]
                | _ => simp [Iop.cls]
              have h3 : b.op.cls = 3 := by have := hcc b.op; omega
              have hbf : b.free = false := by
                cases hbf : b.free with
                | false => rfl
                | true => have := (free_cls hbf).1; omega
              have hmm := hm1.mm k b hb (by omega) hbf
              rcases hk with ⟨h1, h2⟩ | ⟨h1, h2⟩
              · have := bef k (hO.cl k j b i h2 hb hi (by simp [clash, h3, hc1]) (fun h => by rw [hnf] at h; cases h))
                have := hmm.1 this; omega
              · rcases Nat.lt_or_ge j k with h4 | h4
                · have := aft k (hO.cl j k i b h4 hi hb (by simp [clash, h3, hc1]) (fun h => by rw [hbf] at h; cases h))
                  rw [hmm.2 h2] at this; cases this
                · have : k = j := by omega
                  subst this; rw [hi] at hb; cases hb; omega
          rcases Nat.le_total m1 j with h | h
          · exact .inr (hT.grow h (by omega) fun k b h1 h2 h3 => no3 k b h3 (.inl ⟨h1, h2⟩))
          · exact .inl (hT.grow h hm1.ml fun k b h1 h2 h3 => no3 k b h3 (.inr ⟨h1, h2⟩))
        have fin : ∀ (hst : stepD P G i cur1 (T m1 ++ pd1.map (zb is)) (V j) (T m1 ++ pd1.map (zb is))) (hb : (V j).bnd (T m1).length = true), o.wp P a w Kn Q := by
          intro hst hb
          refine stepD_sound (i := i) (h := T m1 ++ pd1.map (zb is)) (h' := T m1 ++ pd1.map (zb is)) (v := V j) hm1.hI hm1.hG heN hiop hst ?_
          intro u w' loc' hru hI' hE' hle'
          have hEm : Ext w loc1 (T m1).length w' loc' := hE'.weak (by simp)
          exact next hm1 hnf m1 u w' loc' (.inr ⟨hc, rfl⟩) (hru.move (fun _ _ => rfl) (fun _ h => h) hb) (hm1.env.mono hEm (Nat.le_refl _)) hI' hm1.hb (hm1.hG.mono hEm) (hm1.ext.trans hEm hm1.le) hm1.le
            fun k sh v hk hr => hr.mono (hE'.weak (by simp)) (Nat.le_refl _)
        have heR := hm1.env.trunc
        have hGR : GlobOk G w (trunc loc1 (T m1).length) := hm1.hG.trunc
        obtain ⟨dst, op, args, g⟩ := i
        cases op with
        | q q =>
          simp only [stepD] at hs
          obtain ⟨p, h1, hp, h2⟩ := hs
          have hcq : (Iop.q q).cls ≤ 1 := by cases q <;> simp [Iop.cls]
          obtain ⟨p', h3, h4⟩ : ∃ p', qev (T m1) q (args.map (Opd.get (E j))) = some (p', V j) ∧ p' := by
            by_cases h0 : (Iop.q q).cls = 0
            · exact ⟨p, by rw [qev_free h0 (T m1) (T j)]; exact h1, hp⟩
            · rcases mem1 (by simp only; omega) with ⟨l, hl⟩ | ⟨l, hl⟩
              · rw [hl]; exact qev_append hcq h1 hp
              · refine ⟨p, ?_, hp⟩
                rw [← h1, hl]
                refine (qev_bnd hcq fun x hx => ?_).symm
                rw [← hargs] at hx
                exact hab x hx
          rw [← hargs] at h3
          obtain ⟨p2, h5, h6⟩ := qev_append (l := pd1.map (zb is)) hcq h3 h4
          refine fin ⟨p2, h5, h6, rfl⟩ ?_
          generalize hop : o.op = oo at hiop
          cases hiop with
          | q _ _ xs _ hq hx =>
            obtain ⟨u, _, hru⟩ := q_sound hIR hq (hx.rep heR hGR) h3 h4 o hop
            exact hru.bnd
        | e e =>
          simp only [stepD] at hs
          obtain ⟨p, h1, hp⟩ := hs
          obtain ⟨s, z, ix, rfl⟩ : ∃ s z ix, e = .bld s z ix := by
            cases e <;> simp [Iop.cls] at hc
            exact ⟨_, _, _, rfl⟩
          have h2 := (bld_free h1).2
          refine fin ⟨p, by rw [hargs]; exact h2 _, hp⟩ ?_
          generalize hop : o.op = oo at hiop
          cases hiop with
          | e _ _ xs _ hq hx =>
            obtain ⟨nx, w', loc', _, _, _, _, g4⟩ := e_sound hIR hq (hx.rep heR hGR) (by rw [hargs]; exact h2 _) hp o hop
            rcases g4 with ⟨u, _, hru⟩ | ⟨_, hru⟩
            · exact hru.bnd
            · rw [hru]; rfl
        | callp f =>
          simp only [stepD] at hs
          obtain ⟨_, hb0, hs⟩ := hs
          refine fin ⟨rfl, hb0, by rw [hargs]; exact hs⟩ (AV.bnd_le (Nat.zero_le _) _ hb0)
        | _ => simp [Iop.cls] at hc
    have skip : V j = .tup [] → T (j + 1) = T j → Kn (a.put o.dst undef) w := by
      intro hv hTT
      have hrt : ∀ (loc : Loc) (N : Nat), RepV w loc N undef (V j) := fun loc N => by rw [hv]; exact .tup [] [] rfl (by simp)
      rcases hmem with ⟨hc, rfl, hbe, haf⟩ | hc
      · exact next hm1 hnf (m1 + 1) undef w loc1 (.inl ⟨hc, rfl, rfl, hbe, haf⟩) (hrt _ _) (by rw [hTT]; exact hm1.env) (by rw [hTT]; exact hm1.hI) (by rw [hTT]; exact hm1.hb) hm1.hG hm1.ext (by rw [hTT]; exact hm1.le)
          fun k sh v hk hr => by rw [hTT]; exact hr
      · exact next hm1 hnf m1 undef w loc1 (.inr ⟨hc, rfl⟩) (hrt _ _) hm1.env hm1.hI hm1.hb hm1.hG hm1.ext hm1.le fun k sh v hk hr => hr
    unfold goD at hgo
    rcases hA.gd with ⟨hg, hig⟩ | ⟨j0, k, s, want, oj, hg, hig, hoj, hojd, hk, hkl⟩
    · rw [if_pos (by simp [Region.wanted, hg])]
      simp only [hig] at hgo
      exact .inl (act hgo)
    · simp only [hig] at hgo
      have hck : cur1[k]? = (E j)[k]? := hrd k (by simp [Ins.reads, hig]) hkl
      have hkc : k < cur1.length := by rw [← hm1.env.len]; exact (List.getElem?_eq_some_iff.1 hk).1
      have hgk : cur1[k]? = some cur1[k] := List.getElem?_eq_getElem hkc
      have hgd : (E j).getD k .un = cur1[k] := by rw [List.getD_eq_getElem?_getD, ← hck, hgk]; rfl
      have hrep := hm1.env.rep k s cur1[k] hk hgk
      have hsl' : s < a.tmps.size := hm1.env.lt s (List.mem_of_getElem? hk)
      have hty : a.tmps[s]? = some (a.tmps.getD s undef) := by simp [Array.getD_eq_getD_getElem?, hsl']
      rw [hgd] at hgo
      have hbv : ∀ b, cur1[k] = .bool b → yielded ops a.tmps j0 = some b := by
        intro b hb
        rw [hb] at hrep
        have hv := (hrep.rep rfl).bool_inv
        simp at hv
        have h5 : a.tmps[s]? = some (.bool b) := by
          rw [hty]; congr 1; simpa [Array.getD_eq_getD_getElem?] using hv
        simp [yielded, hoj, hojd, h5]
      rcases hgo with ⟨hb, hs⟩ | ⟨hb | hb, hv, hTT⟩
      · rw [if_pos (by simp [Region.wanted, hg, hbv _ hb])]
        exact .inl (act hs)
      · rw [if_neg (by simp [Region.wanted, hg, hbv _ hb])]
        exact skip hv hTT
      · have hv2 : a.tmps.getD s undef = .tuple #[] := by
          rw [hb] at hrep
          cases hx : a.tmps.getD s undef <;> rw [hx] at hrep <;> cases hrep
          · rename_i hc _; simp [AV.isCell] at hc
          all_goals first | (rename_i hc _; simp [AV.isCell] at hc; done) | skip
          rename_i vs hl _
          have : vs = [] := List.eq_nil_of_length_eq_zero (by simpa using hl)
          subst this; rfl
        have hy : yielded ops a.tmps j0 = none := by
          have h5 : a.tmps[s]? = some (.tuple #[]) := by rw [hty, hv2]
          simp [yielded, hoj, hojd, h5]
        rw [if_neg (by simp [Region.wanted, hg, hy])]
        exact skip hv hTT

end
end Go.V
