import Derived.Test.YtjilenmngokhpaaDoorV22
/- The scripts are reckoned out of the code: operations that make or write memory, regions, code, functions. -/
namespace Go.V
open Go

section
variable (P : Program) (G : Globs)

def fieldsB (P : Program) : List Field → List Shape → List Shape → Bool
  | [], _, [] => true
  | f :: fs, done, s :: l => (f.offset == Shape.sizes done) && (match tyS P f.type with | some s' => cQ.shEq s s' | none => false) && fieldsB P fs (done ++ [s]) l
  | _, _, _ => false

def cE (op : Op) : Option (E × List Operand) :=
  match op with
  | .alloc t => (zeroS P t).map fun x => (.alloc t x.1 x.2, [])
  | .box t x => (tyS P t).map fun s => (.box t s, [x])
  | .store t a x => (tyS P t).map fun s => (.store s, [a, x])
  | .makeSlice t l c => match P.underlying t with
    | some (.slice e) => match P.info? e, zeroS P e with
      | some i, some (s, z) => some (.mksl e s i.bytes z, [l, c])
      | _, _ => none
    | _ => none
  | .buildSlice t len parts => match P.underlying t with
    | some (.slice e) => match zeroS P e with
      | some (s, z) => if 0 < s.size then some (.bsl e s z len (parts.toList.map (·.1)), parts.toList.map (·.2)) else none
      | none => none
    | _ => none
  | .build t parts => match P.underlying t, zeroS P t with
    | some (.struct fs), some (.st l, z) => if fieldsB P fs.toList [] l = true then some (.bld (.st l) z (parts.toList.map (·.1)), parts.toList.map (·.2)) else none
    | some (.array n e), some (.arr m s, z) => match tyS P e with
      | some s' => if n = m ∧ cQ.shEq s s' = true then some (.bld (.arr m s) z (parts.toList.map (·.1)), parts.toList.map (·.2)) else none
      | none => none
    | _, _ => none
  | .convert src dst x => match P.underlying src, P.underlying dst with
    | some .string, some (.slice e) => match P.underlying e with
      | some (.int .u8) => some (.s2b e, [x])
      | _ => none
    | _, _ => none
  | .call c => match c.callee, c.args.toList, c.argTypes.toList with
    | .builtin .append, [d, x], [t, t2] => match P.underlying t, P.underlying t2 with
      | some (.slice e), some (.slice _) => match P.info? e, zeroS P e with
        | some i, some (s, _) => some (.app e s i.bytes, [d, x])
        | _, _ => none
      | some (.slice e), some .string => match P.info? e, zeroS P e with
        | some i, some (.leaf, _) => if i.bytes = 1 then some (.appS e, [d, x]) else none
        | _, _ => none
      | _, _ => none
    | .builtin .copy, [d, x], [t, t2] => match P.underlying t, P.underlying t2 with
      | some (.slice e), some (.slice _) => (tyS P e).map fun s => (.cpy s, [d, x])
      | some (.slice e), some .string => match tyS P e with
        | some .leaf => some (.cpyS, [d, x])
        | _ => none
      | _, _ => none
    | _, _, _ => none
  | _ => none

theorem fieldsB_ok {P : Program} : ∀ {fs : List Field} {done l : List Shape}, fieldsB P fs done l = true → fs.length = l.length ∧ ∀ (i : Nat) (fd : Field) (s : Shape), fs[i]? = some fd → l[i]? = some s → fd.offset = Shape.sizes (done ++ l.take i) ∧ TyOk P fd.type s
  | [], done, [], _ => ⟨rfl, fun i fd s h => by simp at h⟩
  | f :: fs, done, s :: l, h => by
    simp only [fieldsB, Bool.and_eq_true, beq_iff_eq] at h
    obtain ⟨⟨h1, h2⟩, h3⟩ := h
    obtain ⟨g1, g2⟩ := fieldsB_ok h3
    refine ⟨by simp [g1], fun i fd t hf hs => ?_⟩
    cases i with
    | zero =>
      simp at hf hs
      subst hf; subst hs
      split at h2
      · rename_i s' hs'
        have := shEq_ok h2
        subst this
        exact ⟨by simpa using h1, tyS_ok hs'⟩
      · cases h2
    | succ i =>
      have := g2 i fd t (by simpa using hf) (by simpa using hs)
      refine ⟨?_, this.2⟩
      rw [this.1]; simp
  | [], _, _ :: _, h => by simp [fieldsB] at h
  | _ :: _, _, [], h => by simp [fieldsB] at h

variable {P} {G}

theorem cE_ok {op : Op} {q : E} {xs : List Operand} (h : cE P op = some (q, xs)) : EOp P op q xs := by
  cases op <;> simp only [cE, reduceCtorEq] at h
  case alloc t =>
    simp only [Option.map_eq_some_iff, Prod.mk.injEq] at h
    obtain ⟨⟨s, z⟩, hs, rfl, rfl⟩ := h
    exact .alloc t s z (zeroS_ok hs).1
  case box t x =>
    simp only [Option.map_eq_some_iff, Prod.mk.injEq] at h
    obtain ⟨s, hs, rfl, rfl⟩ := h
    exact .box t s x
  case store t a x =>
    simp only [Option.map_eq_some_iff, Prod.mk.injEq] at h
    obtain ⟨s, hs, rfl, rfl⟩ := h
    exact .store t s a x (tyS_ok hs)
  case makeSlice t l c =>
    split at h
    · rename_i e hu
      split at h
      · rename_i i s z hi hz
        cases h
        exact .mksl t e s z i _ l c hu hi rfl (zeroS_ok hz).1
      · cases h
    · cases h
  case buildSlice t len parts =>
    split at h
    · rename_i e hu
      split at h
      · rename_i s z hz
        split at h
        · rename_i hpos
          cases h
          have := EOp.bsl (P := P) t e s z len parts.toList hu (zeroS_ok hz).1 hpos
          simpa using this
        · cases h
      · cases h
    · cases h
  case build t parts =>
    split at h
    · rename_i fs l z hu hz
      split at h
      · rename_i hf
        cases h
        obtain ⟨g1, g2⟩ := fieldsB_ok hf
        have := EOp.bldS (P := P) t fs l z parts.toList hu ⟨by simpa using g1, fun i fd s h1 h2 => by
          have := g2 i fd s (by simpa using h1) h2
          simpa using this⟩ (zeroS_ok hz).1
        simpa using this
      · cases h
    · rename_i n e m s z hu hz
      split at h
      · rename_i s' hs'
        split at h
        · rename_i hc
          cases h
          obtain ⟨rfl, hc⟩ := hc
          have := shEq_ok hc
          subst this
          have := EOp.bldA (P := P) t e n s z parts.toList hu (tyS_ok hs') (zeroS_ok hz).1
          simpa using this
        · cases h
      · cases h
    · cases h
  case convert src dst x =>
    split at h
    · rename_i e hs hd
      split at h
      · rename_i he; cases h; exact .s2b src dst e x hs hd he
      · cases h
    · cases h
  case call c =>
    obtain ⟨callee, args, ts⟩ := c
    simp only at h
    split at h
    · rename_i d x t t2 ha ht
      have e1 : args = #[d, x] := by apply Array.ext'; simpa using ha
      have e2 : ts = #[t, t2] := by apply Array.ext'; simpa using ht
      subst e1; subst e2
      split at h
      · rename_i e e2 hu hu2
        split at h
        · rename_i i s z hi hz
          cases h
          exact .app t t2 e e2 s z i _ d x hu hu2 hi rfl (zeroS_ok hz).1
        · cases h
      · rename_i e hu hu2
        split at h
        · rename_i i z hi hz
          split at h
          · rename_i hb
            cases h
            exact .appS t t2 e z i d x hu hu2 hi hb (zeroS_ok hz).1
          · cases h
        · cases h
      · cases h
    · rename_i d x t t2 ha ht
      have e1 : args = #[d, x] := by apply Array.ext'; simpa using ha
      have e2 : ts = #[t, t2] := by apply Array.ext'; simpa using ht
      subst e1; subst e2
      split at h
      · rename_i e e2 hu hu2
        simp only [Option.map_eq_some_iff, Prod.mk.injEq] at h
        obtain ⟨s, hs, rfl, rfl⟩ := h
        exact .cpy t t2 e e2 s d x hu hu2 (tyS_ok hs)
      · rename_i e hu hu2
        split at h
        · rename_i hs; cases h; exact .cpyS t t2 e d x hu hu2 (tyS_ok hs)
        · cases h
      · cases h
    · cases h

variable (P) (G)

def cI (sl : List Nat) (op : Op) : Option (Iop × List Opd) :=
  match cQ P op with
  | some (q, xs) => (cOpds G sl xs).map fun os => (.q q, os)
  | none => match cE P op with
    | some (e, xs) => (cOpds G sl xs).map fun os => (.e e, os)
    | none => match op with
      | .call c => match c.callee with
        | .value (.func f) => (cOpds G sl c.args.toList).map fun os => (.call f, os)
        | .value (.tmp s) => (cOpds G sl (.tmp s :: c.args.toList)).map fun os => (.callv, os)
        | _ => none
      | .binOp .eql t x (.const (.slice none 0 0)) _ => match P.underlying t with
        | some (.slice _) => (cOpds G sl [x]).map fun os => (.nilq false, os)
        | _ => none
      | .binOp .neq t x (.const (.slice none 0 0)) _ => match P.underlying t with
        | some (.slice _) => (cOpds G sl [x]).map fun os => (.nilq true, os)
        | _ => none
      | _ => none

def cDst (sl : List Nat) : Option Nat → Dst × List Nat
  | none => (.none, sl)
  | some s => match ixOf sl s with
    | some i => (.var i, sl)
    | none => (.new, sl ++ [s])

def cGuard (ops : Array Oper) (sl : List Nat) : Option (Nat × Bool) → Option (Option (Nat × Bool))
  | none => some none
  | some (j, want) => match ops[j]? with
    | some oj => match oj.dst with
      | some s => (ixOf sl s).map fun k => some (k, want)
      | none => none
    | none => none

def ltB (n : Nat) : Option Nat → Bool
  | some s => decide (s < n)
  | none => true

def cR (n : Nat) (ops : Array Oper) : List Nat → List Oper → Option (List Ins × List Nat)
  | sl, [] => some ([], sl)
  | sl, o :: os => match cI P G sl o.op, cGuard ops sl o.guard with
    | some (iop, args), some g => if ltB n o.dst = true then
        match cR n ops (cDst sl o.dst).2 os with
        | some (is, sl') => some (⟨(cDst sl o.dst).1, iop, args, g⟩ :: is, sl')
        | none => none
      else none
    | _, _ => none

/-- The script of a code; 'dr' takes the regions that draw their order. -/
def cC (vm : List Nat) (n : Nat) (dr : Array Oper → Option (List Ins)) : Code → Option Scr
  | .skip => some .skip
  | .region _ ops false => (cR P G n ops vm ops.toList).map fun x => .reg x.1
  | .region _ ops true => (dr ops).map .draw
  | .seq a b => match cC vm n dr a, cC vm n dr b with
    | some x, some y => some (.seq x y)
    | _, _ => none
  | .cond c a b => match cOpd G vm c, cC vm n dr a, cC vm n dr b with
    | some o, some x, some y => some (.cond o x y)
    | _, _, _ => none
  | .block id a => (cC vm n dr a).map (.block id)
  | .loop a => (cC vm n dr a).map .loop
  | .exit id => some (.exit id)
  | .ret => some .ret
  | _ => none

variable {P} {G}

theorem globG_ok : ∀ {G : Globs} {g : Nat} {s : Shape} {a : AV}, globG G g = some (s, a) → (g, s, a) ∈ G
  | [], g, s, a, h => by simp [globG] at h
  | (k, s', a') :: r, g, s, a, h => by
    simp only [globG] at h
    split at h
    · rename_i e; subst e; cases h; simp
    · exact List.mem_cons_of_mem _ (globG_ok h)

theorem cOpd_ok {sl : List Nat} {x : Operand} {o : Opd} (h : cOpd G sl x = some o) : OpdOk G sl x o := by
  cases x <;> simp only [cOpd] at h
  case tmp s =>
    simp only [Option.map_eq_some_iff] at h
    obtain ⟨i, hi, rfl⟩ := h
    exact .tmp i s (ixOf_some hi)
  case const v =>
    simp only [Option.map_eq_some_iff] at h
    obtain ⟨a, ha, rfl⟩ := h
    exact .const v a fun w loc N => .cell _ _ (cellAV_ok ha w loc N).2 (cellAV_ok ha w loc N).1
  case global g =>
    simp only [Option.map_eq_some_iff] at h
    obtain ⟨⟨s, a⟩, ha, rfl⟩ := h
    exact .glob g s a (globG_ok ha)
  case func f => cases h; exact .func f

theorem cOpds_ok : ∀ {sl : List Nat} {xs : List Operand} {os : List Opd}, cOpds G sl xs = some os → OpdsOk G sl xs os
  | sl, [], os, h => by simp [cOpds] at h; subst h; exact .nil
  | sl, x :: xs, os, h => by
    simp only [cOpds] at h
    split at h
    · rename_i o os' h1 h2; cases h; exact .cons _ _ _ _ (cOpd_ok h1) (cOpds_ok h2)
    · cases h

theorem cI_ok {sl : List Nat} {op : Op} {iop : Iop} {os : List Opd} (h : cI P G sl op = some (iop, os)) : IOp P G sl op iop os := by
  unfold cI at h
  split at h
  · rename_i q xs hq
    simp only [Option.map_eq_some_iff, Prod.mk.injEq] at h
    obtain ⟨os', ho, rfl, rfl⟩ := h
    exact .q op q xs _ (cQ_ok P hq) (cOpds_ok ho)
  · split at h
    · rename_i e xs he
      simp only [Option.map_eq_some_iff, Prod.mk.injEq] at h
      obtain ⟨os', ho, rfl, rfl⟩ := h
      exact .e op e xs _ (cE_ok he) (cOpds_ok ho)
    · split at h
      · rename_i c _ _
        obtain ⟨callee, args, ts⟩ := c
        simp only at h
        split at h
        · simp only [Option.map_eq_some_iff, Prod.mk.injEq] at h
          obtain ⟨os', ho, rfl, rfl⟩ := h
          exact .call _ args ts _ (cOpds_ok ho)
        · simp only [Option.map_eq_some_iff, Prod.mk.injEq] at h
          obtain ⟨os', ho, rfl, rfl⟩ := h
          exact .callv _ args ts _ (cOpds_ok ho)
        · cases h
      · split at h
        · rename_i ht
          simp only [Option.map_eq_some_iff, Prod.mk.injEq] at h
          obtain ⟨os', ho, rfl, rfl⟩ := h
          exact .nilq _ _ _ _ false _ ht (cOpds_ok ho)
        · cases h
      · split at h
        · rename_i ht
          simp only [Option.map_eq_some_iff, Prod.mk.injEq] at h
          obtain ⟨os', ho, rfl, rfl⟩ := h
          exact .nilq _ _ _ _ true _ ht (cOpds_ok ho)
        · cases h
      · cases h

theorem cDst_ok (sl : List Nat) (o : Option Nat) : slD sl o (cDst sl o).1 = some (cDst sl o).2 := by
  cases o with
  | none => rfl
  | some s =>
    simp only [cDst]
    cases hi : ixOf sl s with
    | some i => simp [slD, ixOf_some hi]
    | none => simp [slD, ixOf_none hi]

theorem cR_ok {n : Nat} {ops : Array Oper} : ∀ {os : List Oper} {sl sl' : List Nat} {is : List Ins}, cR P G n ops sl os = some (is, sl') → RegOk P G n ops sl os is sl' ∧ ∃ ext, sl' = sl ++ ext
  | [], sl, sl', is, h => by simp [cR] at h; obtain ⟨rfl, rfl⟩ := h; exact ⟨.nil sl, [], by simp⟩
  | o :: os, sl, sl', is, h => by
    simp only [cR] at h
    split at h
    · rename_i iop args g hi hg
      split at h
      · rename_i hn
        split at h
        · rename_i is' sl2 hr
          cases h
          obtain ⟨h1, ext, h2⟩ := cR_ok hr
          have hs : ∀ s, o.dst = some s → s < n := fun s hs => by rw [hs] at hn; simpa [ltB] using hn
          have hpre : ∃ ext, sl' = sl ++ ext := by
            rw [h2]
            cases hd : o.dst with
            | none => exact ⟨ext, by simp [cDst]⟩
            | some s =>
              simp only [cDst]
              cases hx : ixOf sl s with
              | some i => exact ⟨ext, rfl⟩
              | none => exact ⟨[s] ++ ext, by simp⟩
          refine ⟨?_, hpre⟩
          cases hgd : o.guard with
          | none =>
            rw [hgd] at hg
            simp only [cGuard, Option.some.injEq] at hg
            subst hg
            exact .plain _ _ _ o _ os is' hgd rfl (cI_ok hi) (cDst_ok _ _) hs h1
          | some jw =>
            obtain ⟨j, want⟩ := jw
            rw [hgd] at hg
            simp only [cGuard] at hg
            split at hg
            · rename_i oj hoj
              split at hg
              · rename_i s hs'
                simp only [Option.map_eq_some_iff] at hg
                obtain ⟨k, hk, rfl⟩ := hg
                exact .guarded _ _ _ o _ os is' j k s want oj hgd rfl hoj hs' (ixOf_some hk) (cI_ok hi) (cDst_ok _ _) hs h1
              · cases hg
            · cases hg
        · cases h
      · cases h
    · cases h

theorem cC_ok {vm : List Nat} {n : Nat} {dr : Array Oper → Option (List Ins)} {D : Nat → Array Oper → List Ins → Prop} (hD : ∀ id ops l, dr ops = some l → D id ops l) : ∀ {c : Code} {s : Scr}, cC P G vm n dr c = some s → ScrOk P G vm n D c s
  | .skip, s, h => by simp [cC] at h; subst h; exact .skip
  | .region id ops false, s, h => by
    simp only [cC, Option.map_eq_some_iff] at h
    obtain ⟨⟨is, sl'⟩, hr, rfl⟩ := h
    obtain ⟨h1, ext, rfl⟩ := cR_ok hr
    exact .reg id ops is ext h1
  | .region id ops true, s, h => by
    simp only [cC, Option.map_eq_some_iff] at h
    obtain ⟨l, hl, rfl⟩ := h
    exact .draw id ops l (hD id ops l hl)
  | .seq a b, s, h => by
    simp only [cC] at h
    split at h
    · rename_i x y h1 h2; cases h; exact .seq _ _ _ _ (cC_ok hD h1) (cC_ok hD h2)
    · cases h
  | .cond c a b, s, h => by
    simp only [cC] at h
    split at h
    · rename_i o x y h1 h2 h3; cases h; exact .cond _ _ _ _ _ _ (cOpd_ok h1) (cC_ok hD h2) (cC_ok hD h3)
    · cases h
  | .block id a, s, h => by
    simp only [cC, Option.map_eq_some_iff] at h
    obtain ⟨x, hx, rfl⟩ := h
    exact .block _ _ _ (cC_ok hD hx)
  | .loop a, s, h => by
    simp only [cC, Option.map_eq_some_iff] at h
    obtain ⟨x, hx, rfl⟩ := h
    exact .loop _ _ (cC_ok hD hx)
  | .exit id, s, h => by simp [cC] at h; subst h; exact .exit id
  | .ret, s, h => by simp [cC] at h; subst h; exact .ret
  | .rangeFunc .., s, h => by simp [cC] at h
  | .scope _, s, h => by simp [cC] at h
  | .label _, s, h => by simp [cC] at h
  | .goto _, s, h => by simp [cC] at h
  | .refuse _, s, h => by simp [cC] at h

variable (P)

def cRv (vm : List Nat) : ResultVar → Option Rv
  | .tmp s => (ixOf vm s).map .t
  | .cell s t => match ixOf vm s, tyS P t with
    | some i, some sh => some (.cell i sh)
    | _, _ => none

def cRvs (vm : List Nat) : List ResultVar → Option (List Rv)
  | [] => some []
  | x :: xs => match cRv P vm x, cRvs vm xs with
    | some r, some rs => some (r :: rs)
    | _, _ => none

variable {P}

theorem cRvs_ok : ∀ {vm : List Nat} {xs : List ResultVar} {rs : List Rv}, cRvs P vm xs = some rs → RvsOk P vm xs rs
  | vm, [], rs, h => by simp [cRvs] at h; subst h; exact .nil
  | vm, x :: xs, rs, h => by
    simp only [cRvs] at h
    split at h
    · rename_i r rs' h1 h2
      cases h
      refine .cons _ _ _ _ ?_ (cRvs_ok h2)
      cases x <;> simp only [cRv] at h1
      case tmp s =>
        simp only [Option.map_eq_some_iff] at h1
        obtain ⟨i, hi, rfl⟩ := h1
        exact .tmp i s (ixOf_some hi)
      case cell s t =>
        split at h1
        · rename_i i sh hi hs; cases h1; exact .cell i s t sh (ixOf_some hi) (tyS_ok hs)
        · cases h1
    · cases h

end

/-- A function as it is reckoned: how many parameters, its variables' slots, its script, its results. -/
structure Fn' where
  np : Nat
  nt : Nat
  vm : List Nat
  s : Scr
  rs : List Rv

def nodupB : List Nat → Bool
  | [] => true
  | x :: l => !(l.contains x) && nodupB l

theorem nodupB_ok : ∀ {l : List Nat}, nodupB l = true → l.Nodup
  | [], _ => by simp
  | x :: l, h => by
    simp only [nodupB, Bool.and_eq_true, Bool.not_eq_true', List.contains_eq_mem, decide_eq_false_iff_not] at h
    exact List.nodup_cons.2 ⟨h.1, nodupB_ok h.2⟩

end Go.V
