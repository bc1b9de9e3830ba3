import Derived.Test.YthljgbohdfpleaaV26
/- Regions that draw their order: the invariant. -/
namespace Go.V
open Go

section
variable {P : Program} {G : Globs}

theorem HeapInv.same {w w' : World} {loc : Loc} {h : Heap} (hI : HeapInv w loc h) (hE : Ext w loc h.length w' loc) (hh : w'.heap = w.heap) : HeapInv w' loc h := by
  refine ⟨hI.out, fun b blk hb => ?_, hI.inj⟩
  obtain ⟨l, h1, h2, h3, h4, h5⟩ := hI.blk b blk hb
  refine ⟨l, h1, h2, h3, h4, ?_⟩
  cases hw : l.wb with
  | none => simpa [hw] using h5
  | some k =>
    simp only [hw] at h5 ⊢
    obtain ⟨c, fr, cs, g1, g2, g3, g4, g5⟩ := h5
    exact ⟨c, fr, cs, by rw [hh]; exact g1, g2, g3.mono hE (Nat.le_refl _), g4, g5⟩

theorem OpdOk.wide {sl ext : List Nat} {x : Operand} {o : Opd} (h : OpdOk G sl x o) : OpdOk G (sl ++ ext) x o := by
  cases h with
  | tmp i s hi => exact .tmp i s (by rw [List.getElem?_append_left (List.getElem?_eq_some_iff.1 hi).1]; exact hi)
  | const v a h => exact .const v a h
  | func f => exact .func f
  | glob g s a h => exact .glob g s a h

theorem OpdsOk.wide {sl ext : List Nat} {xs : List Operand} {os : List Opd} (h : OpdsOk G sl xs os) : OpdsOk G (sl ++ ext) xs os := by
  induction h with
  | nil => exact .nil
  | cons x o xs os h _ ih => exact .cons _ _ _ _ h.wide ih

theorem IOp.wide {sl ext : List Nat} {op : Op} {i : Iop} {os : List Opd} (h : IOp P G sl op i os) : IOp P G (sl ++ ext) op i os := by
  cases h with
  | q op q xs os h1 h2 => exact .q _ _ _ _ h1 h2.wide
  | e op e xs os h1 h2 => exact .e _ _ _ _ h1 h2.wide
  | call f xs ts os h => exact .call _ _ _ _ h.wide
  | callv s xs ts os h => exact .callv _ _ _ _ h.wide
  | callp f xs ts os h => exact .callp _ _ _ _ h.wide

/-- the operands' places are there -/
theorem IOp.args_lt {sl : List Nat} {op : Op} {i : Iop} {os : List Opd} (h : IOp P G sl op i os) : ∀ x, x ∈ os.flatMap Opd.rds → x < sl.length := by
  have key : ∀ {xs : List Operand} {os : List Opd}, OpdsOk G sl xs os → ∀ x, x ∈ os.flatMap Opd.rds → x < sl.length := by
    intro xs os h
    induction h with
    | nil => intro x hx; simp at hx
    | cons y o xs os h _ ih =>
      intro x hx
      simp only [List.flatMap_cons, List.mem_append] at hx
      rcases hx with hx | hx
      · cases h with
        | tmp i s hi => simp [Opd.rds] at hx; subst hx; exact (List.getElem?_eq_some_iff.1 hi).1
        | const v a h => simp [Opd.rds] at hx
        | func f => simp [Opd.rds] at hx
        | glob g s a h => simp [Opd.rds] at hx
      · exact ih x hx
  cases h with
  | q op q xs os h1 h2 => exact key h2
  | e op e xs os h1 h2 => exact key h2
  | call f xs ts os h => exact key h
  | callv s xs ts os h => exact key h
  | callp f xs ts os h => exact key h

theorem OpdsOk.opd {sl : List Nat} {xs : List Operand} {os : List Opd} (h : OpdsOk G sl xs os) : ∀ od ∈ os, ∃ xo, OpdOk G sl xo od := by
  induction h with
  | nil => simp
  | cons y o xs os h _ ih =>
    intro od h'
    simp only [List.mem_cons] at h'
    rcases h' with rfl | h'
    · exact ⟨y, h⟩
    · exact ih od h'

theorem IOp.opd {sl : List Nat} {op : Op} {i : Iop} {os : List Opd} (h : IOp P G sl op i os) : ∀ od ∈ os, ∃ xo, OpdOk G sl xo od := by
  cases h with
  | q op q xs os h1 h2 => exact h2.opd
  | e op e xs os h1 h2 => exact h2.opd
  | call f xs ts os h => exact h.opd
  | callv s xs ts os h => exact h.opd
  | callp f xs ts os h => exact h.opd

def setO (cur : List AV) (d : Option Nat) (v : AV) : List AV :=
  match d with
  | some x => cur.set x v
  | none => cur

theorem setO_get {cur : List AV} {d : Option Nat} {v : AV} {x : Nat} (h : d ≠ some x) : (setO cur d v)[x]? = cur[x]? := by
  cases d with
  | none => rfl
  | some y =>
    have : y ≠ x := fun e => h (by rw [e])
    simp [setO, this]

theorem args_eq {env env' : List AV} {os : List Opd} (h : ∀ x, x ∈ os.flatMap Opd.rds → env[x]? = env'[x]?) : os.map (Opd.get env) = os.map (Opd.get env') := by
  apply List.map_congr_left
  intro o ho
  cases o with
  | t i =>
    have := h i (List.mem_flatMap.2 ⟨_, ho, by simp [Opd.rds]⟩)
    simp [Opd.get, List.getD_eq_getElem?_getD, this]
  | c a => rfl

variable {n n0 : Nat} {ops : Array Oper} {is : List Ins} {E : Nat → List AV} {T : Nat → Heap} {V : Nat → AV} {SL : List Nat}

/-- Midway: some operations were done, whichever. -/
structure Mid (P : Program) (G : Globs) (n n0 : Nat) (ops : Array Oper) (is : List Ins) (E : Nat → List AV) (T : Nat → Heap) (SL : List Nat) (a0 : Act) (w0 : World) (loc0 : Loc) (listed : Array Bool) (a : Act) (w : World)
    (loc : Loc) (cur : List AV) (m : Nat) : Prop where
  sz : listed.size = ops.size
  cl : ∀ (k : Nat) (o : Oper), ops[k]? = some o → listed.getD k false = true → ∀ e ∈ o.after, Region.binds .any e = true → listed.getD e.on false = true
  env : EnvOk w loc (T m).length SL a.tmps cur
  fin : ∀ (x j : Nat), (dix n0 is)[j]? = some (some x) → listed.getD j false = true → cur[x]? = (E is.length)[x]?
  ini : ∀ (x : Nat), x < n0 → (∀ (j : Nat), (dix n0 is)[j]? = some (some x) → listed.getD j false = false) → cur[x]? = (E 0)[x]?
  ml : m ≤ is.length
  mm : ∀ (j : Nat) (i : Ins), is[j]? = some i → 2 ≤ i.op.cls → (listed.getD j false = true ↔ j < m)
  hI : HeapInv w loc (T m)
  hG : GlobOk G w loc
  ext : Ext w0 loc0 (T 0).length w loc
  le : (T 0).length ≤ (T m).length
  df : a.defers = a0.defers
  ts : a.tmps.size = n

theorem Mid.step {a0 : Act} {w0 : World} {loc0 : Loc} {listed : Array Bool} {a : Act} {w : World} {loc : Loc} {cur : List AV} {m : Nat} (hO : Ordered ops n0 is) (hT : Tr P G n0 is E T V) (hil : ops.size = is.length) (hsl0 : SL.length = (E is.length).length)
    (hat : ∀ (j : Nat) (o : Oper) (i : Ins), ops[j]? = some o → is[j]? = some i → ∃ slj d, (dix n0 is)[j]? = some d ∧ AtOk P G n ops SL o i slj d ∧ slj.length = n0 + cntN is j)
    (hm : Mid P G n n0 ops is E T SL a0 w0 loc0 listed a w loc cur m) {j : Nat} (hj : j ∈ Region.ready .any ops listed) {Q : Exit → Act → World → Prop} {Kn : Act → World → Prop}
    (hK : ∀ a' w' loc' cur' m', Mid P G n n0 ops is E T SL a0 w0 loc0 (listed.setIfInBounds j true) a' w' loc' cur' m' → Kn a' w') : wpOp P ops Q j Kn a w := by
  obtain ⟨hju, o, ho, hall⟩ := mem_ready.1 hj
  have hjl : j < ops.size := (Array.getElem?_eq_some_iff.1 ho).1
  have hjs : j < listed.size := by rw [hm.sz]; exact hjl
  have hju' : listed.getD j false = false := by
    simp [Array.getD_eq_getD_getElem?, hjs] at hju ⊢; exact hju
  have hi : is[j]? = some is[j] := List.getElem?_eq_getElem (by omega)
  generalize is[j] = i at hi
  obtain ⟨slj, d, hd, hA, hsl⟩ := hat j o i ho hi
  obtain ⟨ext, hext⟩ := hA.pre
  -- what came before was done; what comes behind was not
  have bef : ∀ k, Dep ops k j → listed.getD k false = true := fun k hk => hk.listed hm.cl fun o' ho' => by
    rw [ho] at ho'; cases ho'; exact hall
  have aft : ∀ k, Dep ops j k → listed.getD k false = false := by
    intro k hk
    cases hlk : listed.getD k false with
    | false => rfl
    | true =>
      have := hk.listed hm.cl fun o' ho' => hm.cl k o' ho' hlk
      rw [this] at hju'; cases hju'
  -- what is read is what the text's order reads
  have hlen : (E j).length = slj.length := by rw [hT.len j (by omega), hsl]
  have rdx : ∀ x, x ∈ i.reads → x < slj.length → cur[x]? = (E j)[x]? := by
    intro x hx hxl
    by_cases hw : ∃ k, k < j ∧ (dix n0 is)[k]? = some (some x)
    · obtain ⟨k, hkj, hk⟩ := hw
      rw [hm.fin x k hk (bef k (hO.wr k j x i hkj hi hk hx))]
      obtain ⟨g1, g2⟩ := hT.wrote hk
      have one : ∀ q, k + 1 ≤ q → (dix n0 is)[q]? ≠ some (some x) := fun q hq he => by
        have := hO.inj k q x hk he; omega
      rw [hT.keep (a := k + 1) (b := is.length) (by omega) (Nat.le_refl _) g2 fun q h1 _ => one q h1, hT.keep (a := k + 1) (b := j) (by omega) (by omega) g2 fun q h1 _ => one q h1]
    · have hx0 : x < n0 := by
        rcases Nat.lt_or_ge x n0 with h | h
        · exact h
        · obtain ⟨k, h1, h2⟩ := hT.writer (j := j) (by omega) (by rw [hlen]; exact hxl) h
          exact absurd ⟨k, h1, h2⟩ hw
      rw [hm.ini x hx0 ?_, hT.keep (a := 0) (b := j) (by omega) (by omega) (by rw [hT.l0]; exact hx0) fun q _ h1 he => hw ⟨q, h1, he⟩]
      intro k hk
      rcases Nat.lt_trichotomy k j with h | h | h
      · exact absurd ⟨k, h, hk⟩ hw
      · subst h; exact hju'
      · exact aft k (hO.rw j k x i h hi hk hx)
  have hargs : i.args.map (Opd.get cur) = i.args.map (Opd.get (E j)) := args_eq fun x hx => rdx x (by simp [Ins.reads, hx]) (hA.iop.args_lt x hx)
  -- the list of what was done, one more
  have set1 : ∀ k, (listed.setIfInBounds j true).getD k false = true ↔ k = j ∨ listed.getD k false = true := by
    intro k
    by_cases hkj : j = k
    · subst hkj; simp [Array.getD_eq_getD_getElem?, hjs]
    · simp [Array.getD_eq_getD_getElem?, Array.getElem?_setIfInBounds_ne hkj, Ne.symm hkj]
  have set0 : ∀ k, (listed.setIfInBounds j true).getD k false = false ↔ k ≠ j ∧ listed.getD k false = false := by
    intro k
    have := set1 k
    cases h1 : (listed.setIfInBounds j true).getD k false <;> cases h2 : listed.getD k false <;> simp [h1, h2] at this ⊢ <;> exact this
  have cl' : ∀ (k : Nat) (o : Oper), ops[k]? = some o → (listed.setIfInBounds j true).getD k false = true → ∀ e ∈ o.after, Region.binds .any e = true → (listed.setIfInBounds j true).getD e.on false = true := by
    intro k o' ho' hk e he hb
    refine (set1 _).2 (.inr ?_)
    rcases (set1 k).1 hk with rfl | hk
    · rw [ho] at ho'; cases ho'; exact hall e he hb
    · exact hm.cl k o' ho' hk e he hb
  -- where memory stands
  have mem2 : 2 ≤ i.op.cls → T m = T j ∧ m ≤ j := by
    intro hc
    have hmj : m ≤ j := by
      rcases Nat.lt_or_ge j m with h | h
      · have := (hm.mm j i hi hc).2 h; rw [this] at hju'; cases hju'
      · exact h
    refine ⟨(hT.const hmj (by omega) fun k b h1 h2 h3 => ?_).symm, hmj⟩
    rcases Nat.lt_or_ge b.op.cls 2 with h | h
    · omega
    · have hdep := hO.cl k j b i h2 h3 hi (by simp [clash, h, hc])
      have := (hm.mm k b h3 h).1 (bef k hdep)
      omega
  have mem1 : i.op.cls = 1 → (∃ l, T m = T j ++ l) ∨ (∃ l, T j = T m ++ l) := by
    intro hc
    have no3 : ∀ k b, is[k]? = some b → ((m ≤ k ∧ k < j) ∨ (j ≤ k ∧ k < m)) → b.op.cls ≤ 2 := by
      intro k b hb hk
      rcases Nat.lt_or_ge b.op.cls 3 with h | h
      · omega
      · exfalso
        have h3 : b.op.cls = 3 := by
          have hcc : ∀ i : Iop, i.cls ≤ 3 := by
            intro i; cases i with
            | q q => cases q <;> simp [Iop.cls]
            | e e => cases e <;> simp [Iop.cls]
            | call f => simp [Iop.cls]
            | callv => simp [Iop.cls]
            | callp f => simp [Iop.cls]
          have := hcc b.op; omega
        have hmm := hm.mm k b hb (by omega)
        rcases hk with ⟨h1, h2⟩ | ⟨h1, h2⟩
        · have := bef k (hO.cl k j b i h2 hb hi (by simp [clash, h3, hc]))
          have := hmm.1 this; omega
        · rcases Nat.lt_or_ge j k with h4 | h4
          · have := aft k (hO.cl j k i b h4 hi hb (by simp [clash, h3, hc]))
            rw [hmm.2 h2] at this; cases this
          · have : k = j := by omega
            subst this; rw [hi] at hb; cases hb; omega
    rcases Nat.le_total m j with h | h
    · exact .inr (hT.grow h (by omega) fun k b h1 h2 h3 => no3 k b h3 (.inl ⟨h1, h2⟩))
    · exact .inl (hT.grow h hm.ml fun k b h1 h2 h3 => no3 k b h3 (.inr ⟨h1, h2⟩))
  -- what is done then
  have next : ∀ (m' : Nat) (a' : Act) (w' : World) (loc' : Loc) (cur' : List AV), ((2 ≤ i.op.cls ∧ m' = j + 1) ∨ (i.op.cls ≤ 1 ∧ m' = m)) →
      cur' = setO cur d (V j) → EnvOk w' loc' (T m').length SL a'.tmps cur' → HeapInv w' loc' (T m') → Ext w loc (T m).length w' loc' → (T m).length ≤ (T m').length → a'.defers = a.defers → a'.tmps.size = a.tmps.size →
      Mid P G n n0 ops is E T SL a0 w0 loc0 (listed.setIfInBounds j true) a' w' loc' cur' m' := by
    intro m' a' w' loc' cur' hm' hcur he' hI' hE' hle' hdf' hts'
    have hcl : cur.length = SL.length := hm.env.len.symm
    have hfinj : ∀ x, d = some x → (E is.length)[x]? = some (V j) ∧ x < cur.length := by
      intro x hx
      subst hx
      obtain ⟨g1, g2⟩ := hT.wrote hd
      have hone := hT.keep (a := j + 1) (b := is.length) (by omega) (Nat.le_refl _) g2 fun q h1 _ he => by
        have := hO.inj j q x hd he; omega
      refine ⟨by rw [hone, g1], ?_⟩
      rw [hcl, hsl0]
      exact Nat.lt_of_lt_of_le g2 (hT.mono_len (by omega) (Nat.le_refl _))
    refine ⟨by simp [hm.sz], cl', he', ?_, ?_, ?_, ?_, hI', hm.hG.mono hE', hm.ext.trans hE' hm.le, Nat.le_trans hm.le hle', hdf'.trans hm.df, hts'.trans hm.ts⟩
    · intro x k hk hlk
      rcases (set1 k).1 hlk with rfl | hlk
      · rw [hd] at hk; cases hk
        obtain ⟨g1, g2⟩ := hfinj x rfl
        rw [hcur, g1]
        simp [setO, g2]
      · have hne : d ≠ some x := by
          intro he
          rw [he] at hd
          have := hO.inj j k x hd hk
          subst this; rw [hlk] at hju'; cases hju'
        rw [hcur, ← hm.fin x k hk hlk]
        exact setO_get hne
    · intro x hx hno
      have hne : d ≠ some x := by
        intro he
        rw [he] at hd
        have := hno j hd
        rw [(set1 j).2 (.inl rfl)] at this; cases this
      rw [hcur, ← hm.ini x hx fun k hk => ((set0 k).1 (hno k hk)).2]
      exact setO_get hne
    · rcases hm' with ⟨_, rfl⟩ | ⟨_, rfl⟩
      · omega
      · exact hm.ml
    · intro k b hb hc
      rcases hm' with ⟨h2, rfl⟩ | ⟨h1, rfl⟩
      · obtain ⟨_, hmj⟩ := mem2 h2
        constructor
        · intro hk
          rcases (set1 k).1 hk with rfl | hk
          · omega
          · have := (hm.mm k b hb hc).1 hk; omega
        · intro hk
          refine (set1 k).2 ?_
          rcases Nat.lt_or_ge k j with h | h
          · exact .inr (bef k (hO.cl k j b i h hb hi (by simp [clash, h2, hc])))
          · exact .inl (by omega)
      · have hne : k ≠ j := by
          intro e; subst e; rw [hi] at hb; cases hb; omega
        rw [set1 k]
        constructor
        · rintro (h | h)
          · exact absurd h hne
          · exact (hm.mm k b hb hc).1 h
        · intro h; exact .inr ((hm.mm k b hb hc).2 h)
  -- the place written, as a place of the whole list
  obtain ⟨dd, hdd, hput⟩ : ∃ dd : Dst, slD SL o.dst dd = some SL ∧ ∀ v, putE cur dd v = setO cur d v := by
    have hdst := hA.dst
    cases d with
    | none => simp only at hdst; exact ⟨.none, by simp [slD, hdst], fun v => rfl⟩
    | some x =>
      simp only at hdst
      obtain ⟨s, h1, h2⟩ := hdst
      exact ⟨.var x, by simp [slD, h1, h2], fun v => rfl⟩
  have hlt : ∀ s, o.dst = some s → s < a.tmps.size := by rw [hm.ts]; exact hA.lt
  have act : stepD P G i (E j) (T j) (V j) (T (j + 1)) → o.wp P a w Kn Q := by
    intro hs
    have hiop : IOp P G SL o.op i.op i.args := by rw [hext]; exact hA.iop.wide
    refine step_sound (i := ⟨dd, i.op, i.args, none⟩) (sl := SL) (sl' := SL) (env := cur) (h := T m)
      (K := fun env' h' => env' = setO cur d (V j) ∧ ∃ m', h' = T m' ∧ ((2 ≤ i.op.cls ∧ m' = j + 1) ∨ (i.op.cls ≤ 1 ∧ m' = m))) hm.hI hm.hG hm.env hiop hdd hlt ?_ ?_
    · unfold stepI
      unfold stepD at hs
      simp only
      split at hs
      · rename_i q hq
        obtain ⟨p, h1, hp, h2⟩ := hs
        simp only [hq]
        have hcq : (Iop.q q).cls ≤ 1 := by cases q <;> simp [Iop.cls]
        have : ∃ p', qev (T m) q (i.args.map (Opd.get (E j))) = some (p', V j) ∧ p' := by
          by_cases h0 : (Iop.q q).cls = 0
          · exact ⟨p, by rw [qev_free h0 (T m) (T j)]; exact h1, hp⟩
          · rcases mem1 (by rw [hq]; omega) with ⟨l, hl⟩ | ⟨l, hl⟩
            · rw [hl]; exact qev_append hcq h1 hp
            · refine ⟨p, ?_, hp⟩
              rw [← h1, hl]
              refine (qev_bnd hcq fun x hx => ?_).symm
              rw [← hargs] at hx
              obtain ⟨od, hod, rfl⟩ := List.mem_map.1 hx
              obtain ⟨xo, hxo⟩ := hiop.opd od hod
              exact (hxo.rep hm.env hm.hG).bnd
        obtain ⟨p', h3, h4⟩ := this
        rw [hargs, h3]
        exact ⟨h4, hput _, m, rfl, .inr ⟨hcq, rfl⟩⟩
      · rename_i e he
        obtain ⟨p, h1, hp⟩ := hs
        simp only [he]
        by_cases hb : ∃ s z ix, e = .bld s z ix
        · obtain ⟨s, z, ix, rfl⟩ := hb
          have h2 := (bld_free h1).2 (T m)
          rw [hargs, h2]
          exact ⟨hp, hput _, m, rfl, .inr ⟨by simp [Iop.cls], rfl⟩⟩
        · have hce : 2 ≤ (Iop.e e).cls := by
            cases e <;> simp [Iop.cls]
            exact hb ⟨_, _, _, rfl⟩
          have hTm := (mem2 (by rw [he]; exact hce)).1
          rw [hargs, hTm, h1]
          exact ⟨hp, hput _, j + 1, rfl, .inl ⟨hce, rfl⟩⟩
      · rename_i f hf
        simp only [hf]
        have hTm := (mem2 (by rw [hf]; simp [Iop.cls])).1
        rw [hargs, hTm]
        refine hs.2.mono ?_
        rintro r H' ⟨rfl, rfl⟩
        exact ⟨hput _, j + 1, rfl, .inl ⟨by simp [Iop.cls], rfl⟩⟩
      · rename_i hf
        simp only [hf]
        obtain ⟨_, f, caps, rest, h1, h2⟩ := hs
        have hTm := (mem2 (by rw [hf]; simp [Iop.cls])).1
        rw [hargs, hTm, h1]
        refine h2.mono ?_
        rintro r H' ⟨rfl, rfl⟩
        exact ⟨hput _, j + 1, rfl, .inl ⟨by simp [Iop.cls], rfl⟩⟩
      · rename_i f hf
        simp only [hf]
        rw [hargs]
        refine (hs.2 (T m)).mono ?_
        rintro r H' ⟨rfl, rfl⟩
        exact ⟨hput _, m, rfl, .inr ⟨by simp [Iop.cls], rfl⟩⟩
    · rintro env' h' a' w' loc' ⟨hk, m', rfl, hm'⟩ g1 g2 g3 g4 g5 g6
      exact hK a' w' loc' env' m' (next m' a' w' loc' env' hm' hk g1 g2 g3 g4 g5 g6)
  have skip : V j = .tup [] → T (j + 1) = T j → Kn (a.put o.dst undef) w := by
    intro hv hTT
    obtain ⟨p1, p2, p3⟩ := hm.env.put hdd hlt (show RepV w loc (T m).length undef (.tup []) from .tup [] [] rfl (by simp))
    rw [hput, ← hv] at p1
    rcases Nat.lt_or_ge i.op.cls 2 with hc | hc
    · exact hK _ w loc _ m (next m _ w loc _ (.inr ⟨by omega, rfl⟩) rfl p1 hm.hI (Ext.refl _ _ _) (Nat.le_refl _) p3 p2)
    · have hTm := (mem2 hc).1
      have e1 : T (j + 1) = T m := by rw [hTT, hTm]
      exact hK _ w loc _ (j + 1) (next (j + 1) _ w loc _ (.inl ⟨hc, rfl⟩) rfl (by rw [e1]; exact p1) (by rw [e1]; exact hm.hI) (Ext.refl _ _ _) (by rw [e1]; exact Nat.le_refl _) p3 p2)
  unfold wpOp
  simp only [ho]
  have hgo := hT.go j i hi
  unfold goD at hgo
  rcases hA.gd with ⟨hg, hig⟩ | ⟨j0, k, s, want, oj, hg, hig, hoj, hojd, hk, hkl⟩
  · rw [if_pos (by simp [Region.wanted, hg])]
    simp only [hig] at hgo
    exact .inl (act hgo)
  · simp only [hig] at hgo
    have hck : cur[k]? = (E j)[k]? := rdx k (by simp [Ins.reads, hig]) hkl
    have hkc : k < cur.length := by rw [← hm.env.len]; exact (List.getElem?_eq_some_iff.1 hk).1
    have hgk : cur[k]? = some cur[k] := List.getElem?_eq_getElem hkc
    have hgd : (E j).getD k .un = cur[k] := by rw [List.getD_eq_getElem?_getD, ← hck, hgk]; rfl
    have hrep := hm.env.rep k s cur[k] hk hgk
    have hsl' : s < a.tmps.size := hm.env.lt s (List.mem_of_getElem? hk)
    have hty : a.tmps[s]? = some (a.tmps.getD s undef) := by simp [Array.getD_eq_getD_getElem?, hsl']
    rw [hgd] at hgo
    have hbv : ∀ b, cur[k] = .bool b → yielded ops a.tmps j0 = some b := by
      intro b hb
      rw [hb] at hrep
      have hv := (hrep.rep rfl).bool_inv
      simp at hv
      have h5 : a.tmps[s]? = some (.bool b) := by
        rw [hty]; congr 1; simpa [Array.getD_eq_getD_getElem?] using hv
      simp [yielded, hoj, hojd, h5]
    rcases hgo with ⟨hb, hs⟩ | ⟨hb | hb, hv, hTT⟩
    · rw [if_pos (by simp [Region.wanted, hg, hbv _ hb])]
      exact .inl (act hs)
    · rw [if_neg (by simp [Region.wanted, hg, hbv _ hb])]
      exact skip hv hTT
    · have hv2 : a.tmps.getD s undef = .tuple #[] := by
        rw [hb] at hrep
        cases hx : a.tmps.getD s undef <;> rw [hx] at hrep <;> cases hrep
        · rename_i hc _; simp [AV.isCell] at hc
        all_goals first | (rename_i hc _; simp [AV.isCell] at hc; done) | skip
        rename_i vs hl _
        have : vs = [] := List.eq_nil_of_length_eq_zero (by simpa using hl)
        subst this; rfl
      have hy : yielded ops a.tmps j0 = none := by
        have h5 : a.tmps[s]? = some (.tuple #[]) := by rw [hty, hv2]
        simp [yielded, hoj, hojd, h5]
      rw [if_neg (by simp [Region.wanted, hg, hy])]
      exact skip hv hTT

end
end Go.V
