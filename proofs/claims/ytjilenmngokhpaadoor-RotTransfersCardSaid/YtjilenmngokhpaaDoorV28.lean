import Derived.Test.YtjilenmngokhpaaDoorV43
/- Scripts, with regions that draw their order: what must hold, reckoned by the script. -/
namespace Go.V
open Go

section
variable (P : Program) (G : Globs)

def Ins.toP (i : Ins) : Ins := match i.op with
  | .call f => { i with op := .callp f }
  | _ => i

/-- does a function make a list of a list? -/
def makesL (f : FuncId) : Bool := match P.funcs[f]? with
  | some fn => match fn.resultTypes.toList, fn.params.toList with
    | [t], [u] => match P.underlying t, P.underlying u with
      | some (.slice _), some (.slice _) => true
      | _, _ => false
    | _, _ => false
  | none => false

/-- calls that hang on no memory: of one list, or of none -/
def Ins.toM (i : Ins) : Ins := match i.op with
  | .call f => if makesL P f = true then { i with op := .callm f } else { i with op := .callp f }
  | _ => i

/-- does a function take a pointer? -/
def takesP (f : FuncId) : Bool := match P.funcs[f]? with
  | some fn => fn.params.toList.any fun t => match P.underlying t with
    | some (.pointer _) => true
    | _ => false
  | none => false
/-- calls that may write what they are handed -/
def Ins.toW (i : Ins) : Ins := match i.op with
  | .call f => if takesP P f = true then { i with op := .callw f } else i
  | _ => i

def hasL (is : List Ins) : Bool := is.any fun i => match i.op with
  | .call f => makesL P f
  | _ => false

def drF (vm : List Nat) (ops : Array Oper) (is : List Ins) : List (List Ins) → Option (List Ins)
  | [] => none
  | l :: r => if ordF ops vm.length l (psOf ops l) = true then some (⟨.none, .pairs (psOf ops l), [], none⟩ :: l) else drF vm ops is r

def drP (vm : List Nat) (n : Nat) (ops : Array Oper) : Option (List Ins) :=
  match cR P G n ops vm ops.toList with
  | some (is, _) =>
    if P.follows .mixedOrders = true then
      if ordB ops vm.length (is.map (Ins.toW P)) = true then some (is.map (Ins.toW P))
      else if ordB ops vm.length is = true then some is
      else if hasL P is = false ∧ ordB ops vm.length (is.map Ins.toP) = true then some (is.map Ins.toP)
      else match drF vm ops is [is, is.map (Ins.toM P)] with
        | some l => some l
        | none => if ordB ops vm.length (is.map Ins.toP) = true then some (is.map Ins.toP) else none
    else none
  | none => none

def DP (vm : List Nat) (n : Nat) (_id : Nat) (ops : Array Oper) (l : List Ins) : Prop :=
  P.follows .mixedOrders = true ∧ (((∃ ext, RegOk P G n ops vm ops.toList l (vm ++ ext)) ∧ Ordered ops vm.length l) ∨
    ∃ ps is, l = ⟨.none, .pairs ps, [], none⟩ :: is ∧ (∃ ext, RegOk P G n ops vm ops.toList is (vm ++ ext)) ∧ OrderedF ops vm.length is ps)

/-- a region that draws -/
def wpDX (l : List Ins) (env : List AV) (h : Heap) (K : List AV → Heap → Prop) : Prop := match l with
  | ⟨.none, .pairs ps, [], none⟩ :: is => wpX P G ps is [] env h K
  | l => wpD P G l env h K

variable {P} {G}

theorem IOp.toP {sl : List Nat} {op : Op} {i : Ins} (h : IOp P G sl op i.op i.args) : IOp P G sl op i.toP.op i.toP.args := by
  unfold Ins.toP
  split
  · rename_i f hf
    rw [hf] at h
    cases h with
    | call f xs ts os h => exact .callp _ _ _ _ h
  · exact h
theorem toP_g (i : Ins) : i.toP.g = i.g := by unfold Ins.toP; split <;> rfl
theorem toP_dst (i : Ins) : i.toP.dst = i.dst := by unfold Ins.toP; split <;> rfl
theorem RegOk.toP {n : Nat} {ops : Array Oper} {sl sl' : List Nat} {os : List Oper} {is : List Ins} (h : RegOk P G n ops sl os is sl') : RegOk P G n ops sl os (is.map Ins.toP) sl' := by
  induction h with
  | nil sl => exact .nil sl
  | plain sl sl1 sl2 o i os is hg hig hi hd hs _ ih => exact .plain sl sl1 sl2 o i.toP os _ hg (by rw [toP_g]; exact hig) hi.toP (by rw [toP_dst]; exact hd) hs ih
  | guarded sl sl1 sl2 o i os is j k s want oj hg hig hoj hojd hk hi hd hs _ ih => exact .guarded sl sl1 sl2 o i.toP os _ j k s want oj hg (by rw [toP_g]; exact hig) hoj hojd hk hi.toP (by rw [toP_dst]; exact hd) hs ih

theorem IOp.toM {sl : List Nat} {op : Op} {i : Ins} (h : IOp P G sl op i.op i.args) : IOp P G sl op (i.toM P).op (i.toM P).args := by
  unfold Ins.toM
  split
  · rename_i f hf
    rw [hf] at h
    cases h with
    | call f xs ts os h =>
      split
      · exact .callm _ _ _ _ h
      · exact .callp _ _ _ _ h
  · exact h
theorem toM_g (i : Ins) : (i.toM P).g = i.g := by unfold Ins.toM; split; split <;> rfl; rfl
theorem toM_dst (i : Ins) : (i.toM P).dst = i.dst := by unfold Ins.toM; split; split <;> rfl; rfl
theorem RegOk.toM {n : Nat} {ops : Array Oper} {sl sl' : List Nat} {os : List Oper} {is : List Ins} (h : RegOk P G n ops sl os is sl') : RegOk P G n ops sl os (is.map (Ins.toM P)) sl' := by
  induction h with
  | nil sl => exact .nil sl
  | plain sl sl1 sl2 o i os is hg hig hi hd hs _ ih => exact .plain sl sl1 sl2 o (i.toM P) os _ hg (by rw [toM_g]; exact hig) hi.toM (by rw [toM_dst]; exact hd) hs ih
  | guarded sl sl1 sl2 o i os is j k s want oj hg hig hoj hojd hk hi hd hs _ ih => exact .guarded sl sl1 sl2 o (i.toM P) os _ j k s want oj hg (by rw [toM_g]; exact hig) hoj hojd hk hi.toM (by rw [toM_dst]; exact hd) hs ih

theorem IOp.toW {sl : List Nat} {op : Op} {i : Ins} (h : IOp P G sl op i.op i.args) : IOp P G sl op (i.toW P).op (i.toW P).args := by
  unfold Ins.toW
  split
  · rename_i f hf
    rw [hf] at h
    cases h with
    | call f xs ts os h =>
      split
      · exact .callw _ _ _ _ h
      · rw [hf]; exact .call _ _ _ _ h
  · exact h
theorem toW_g (i : Ins) : (i.toW P).g = i.g := by unfold Ins.toW; split; split <;> rfl; rfl
theorem toW_dst (i : Ins) : (i.toW P).dst = i.dst := by unfold Ins.toW; split; split <;> rfl; rfl
theorem RegOk.toW {n : Nat} {ops : Array Oper} {sl sl' : List Nat} {os : List Oper} {is : List Ins} (h : RegOk P G n ops sl os is sl') : RegOk P G n ops sl os (is.map (Ins.toW P)) sl' := by
  induction h with
  | nil sl => exact .nil sl
  | plain sl sl1 sl2 o i os is hg hig hi hd hs _ ih => exact .plain sl sl1 sl2 o (i.toW P) os _ hg (by rw [toW_g]; exact hig) hi.toW (by rw [toW_dst]; exact hd) hs ih
  | guarded sl sl1 sl2 o i os is j k s want oj hg hig hoj hojd hk hi hd hs _ ih => exact .guarded sl sl1 sl2 o (i.toW P) os _ j k s want oj hg (by rw [toW_g]; exact hig) hoj hojd hk hi.toW (by rw [toW_dst]; exact hd) hs ih

theorem drF_ok {vm : List Nat} {ops : Array Oper} {is l : List Ins} : ∀ {ls : List (List Ins)}, drF vm ops is ls = some l → ∃ ps l', l = ⟨.none, .pairs ps, [], none⟩ :: l' ∧ l' ∈ ls ∧ OrderedF ops vm.length l' ps
  | [], h => by simp [drF] at h
  | l0 :: r, h => by
    simp only [drF] at h
    split at h
    · rename_i ho
      cases h
      exact ⟨_, _, rfl, by simp, ordF_ok ho⟩
    · obtain ⟨ps, l', h1, h2, h3⟩ := drF_ok h
      exact ⟨ps, l', h1, by simp [h2], h3⟩

theorem drP_ok (vm : List Nat) (n id : Nat) (ops : Array Oper) (l : List Ins) (h : drP P G vm n ops = some l) : DP P G vm n id ops l := by
  unfold drP at h
  split at h
  · rename_i is sl' hr
    obtain ⟨h1, ext, rfl⟩ := cR_ok hr
    split at h
    · rename_i hmx
      split at h
      · rename_i hc
        cases h
        exact ⟨hmx, .inl ⟨⟨ext, h1.toW⟩, ordB_ok hc⟩⟩
      split at h
      · rename_i hc
        cases h
        exact ⟨hmx, .inl ⟨⟨ext, h1⟩, ordB_ok hc⟩⟩
      · split at h
        · rename_i hc
          cases h
          exact ⟨hmx, .inl ⟨⟨ext, h1.toP⟩, ordB_ok hc.2⟩⟩
        · split at h
          · rename_i l0 hd
            cases h
            obtain ⟨ps, l', h2, h3, h4⟩ := drF_ok hd
            refine ⟨hmx, .inr ⟨ps, l', h2, ⟨ext, ?_⟩, h4⟩⟩
            simp only [List.mem_cons, List.not_mem_nil, or_false] at h3
            rcases h3 with rfl | rfl
            · exact h1
            · exact h1.toM
          · split at h
            · rename_i hc
              cases h
              exact ⟨hmx, .inl ⟨⟨ext, h1.toP⟩, ordB_ok hc⟩⟩
            · cases h
    · cases h
  · cases h

theorem count_zero {l : List Bool} (h : l.count false = 0) : ∀ (k : Nat), k < l.length → l[k]? = some true := by
  intro k hk
  have h1 : l[k]? = some l[k] := List.getElem?_eq_getElem hk
  cases hb : l[k] with
  | true => rw [h1, hb]
  | false =>
    have : false ∈ l := hb ▸ List.getElem_mem hk
    have := List.count_pos_iff.2 this
    omega

theorem Mid.any {n n0 : Nat} {ops : Array Oper} {is : List Ins} {E : Nat → List AV} {T : Nat → Heap} {V : Nat → AV} {SL : List Nat} {a0 : Act} {w0 : World} {loc0 : Loc} {Q : Exit → Act → World → Prop}
    (hO : Ordered ops n0 is) (hT : Tr P G n0 is E T V) (hil : ops.size = is.length) (hsl0 : SL.length = (E is.length).length)
    (hat : ∀ (j : Nat) (o : Oper) (i : Ins), ops[j]? = some o → is[j]? = some i → ∃ slj d, (dix n0 is)[j]? = some d ∧ AtOk P G n ops SL o i slj d ∧ slj.length = n0 + cntN is j)
    (hQ : ∀ (a : Act) (w : World) (loc : Loc), EnvOk w loc (T is.length).length SL a.tmps (E is.length) → HeapInv w loc (T is.length) → Ext w0 loc0 (T 0).length w loc → (T 0).length ≤ (T is.length).length → a.defers = a0.defers → a.tmps.size = n → Q .normal a w) :
    ∀ (fuel : Nat) (listed : Array Bool) (a : Act) (w : World) (loc : Loc) (cur : List AV) (m : Nat) (pd : List Nat), listed.toList.count false ≤ fuel → Mid P G n n0 ops is E T SL a0 w0 loc0 listed a w loc cur m pd → wpAny P .any ops Q fuel listed a w := by
  have fin : ∀ (listed : Array Bool) (a : Act) (w : World) (loc : Loc) (cur : List AV) (m : Nat) (pd : List Nat), Mid P G n n0 ops is E T SL a0 w0 loc0 listed a w loc cur m pd → (∀ k, k < ops.size → listed.getD k false = true) → Q .normal a w := by
    intro listed a w loc cur m pd hm hall
    obtain ⟨loc, cur, pd, hm⟩ := hm.adv hO hT hsl0 (is.length - m) m loc cur pd (by have := hm.ml; omega) fun q i h1 h2 h3 => by
      have hml := hm.ml
      rcases Nat.lt_or_ge i.op.cls 2 with h | h
      · exact .inl (by omega)
      · cases hf : i.free with
        | true => exact .inr ⟨rfl, hall q (by omega)⟩
        | false => have := (hm.mm q i h3 h hf).1 (hall q (by omega)); omega
    rw [show m + (is.length - m) = is.length by have := hm.ml; omega] at hm
    have hpn : pd = [] := by
      rw [List.eq_nil_iff_forall_not_mem]
      intro k hk
      obtain ⟨h1, _, b, h3, _⟩ := hm.pd1 k hk
      have := (List.getElem?_eq_some_iff.1 h3).1
      omega
    subst hpn
    have hcur : cur = E is.length := by
      apply List.ext_getElem?
      intro x
      rcases Nat.lt_or_ge x (E is.length).length with hx | hx
      · by_cases hw : ∃ j : Nat, (dix n0 is)[j]? = some (some x)
        · obtain ⟨j, hj⟩ := hw
          have : j < is.length := by have := (List.getElem?_eq_some_iff.1 hj).1; rwa [dix_length] at this
          exact hm.fin x j hj (hall j (by omega)) (by simp)
        · have hx0 : x < n0 := by
            rcases Nat.lt_or_ge x n0 with h | h
            · exact h
            · obtain ⟨k, _, h2⟩ := hT.writer (j := is.length) (Nat.le_refl _) hx h
              exact absurd ⟨k, h2⟩ hw
          rw [hm.ini x hx0 fun j hj => absurd ⟨j, hj⟩ hw]
          exact (hT.keep (a := 0) (b := is.length) (Nat.zero_le _) (Nat.le_refl _) (by rw [hT.l0]; exact hx0) fun q _ _ he => hw ⟨q, he⟩).symm
      · have : cur.length ≤ x := by rw [← hm.env.len, hsl0]; exact hx
        rw [List.getElem?_eq_none this, List.getElem?_eq_none hx]
    subst hcur
    exact hQ a w loc hm.env (by simpa using hm.hI) hm.ext hm.le hm.df hm.ts
  have done : ∀ (listed : Array Bool) (a : Act) (w : World) (loc : Loc) (cur : List AV) (m : Nat) (pd : List Nat), Mid P G n n0 ops is E T SL a0 w0 loc0 listed a w loc cur m pd → Region.ready .any ops listed = [] → ∀ k, k < ops.size → listed.getD k false = true := by
    intro listed a w loc cur m pd hm hr k
    induction k using Nat.strongRecOn with
    | _ k ih =>
      intro hk
      cases hlk : listed.getD k false with
      | true => rfl
      | false =>
        exfalso
        have ho : ops[k]? = some ops[k] := Array.getElem?_eq_getElem hk
        have : k ∈ Region.ready .any ops listed := by
          refine mem_ready.2 ⟨?_, ops[k], ho, fun e he hb => ?_⟩
          · have hks : k < listed.size := by rw [hm.sz]; exact hk
            simp [Array.getD_eq_getD_getElem?, hks] at hlk ⊢; exact hlk
          · have hlt := hO.back k _ ho e he hb
            exact ih e.on hlt (by omega)
        rw [hr] at this; cases this
  intro fuel
  induction fuel with
  | zero =>
    intro listed a w loc cur m pd hc hm
    have hall : ∀ k, k < ops.size → listed.getD k false = true := by
      intro k hk
      have := count_zero (by omega : listed.toList.count false = 0) k (by simp [hm.sz, hk])
      simp only [Array.getElem?_toList] at this
      simp [Array.getD_eq_getD_getElem?, this]
    refine ⟨?_, fin listed a w loc cur m pd hm hall⟩
    rw [List.eq_nil_iff_forall_not_mem]
    intro k hk
    obtain ⟨h1, o, ho, _⟩ := mem_ready.1 hk
    have hks : k < ops.size := (Array.getElem?_eq_some_iff.1 ho).1
    have h2 := hall k hks
    have hks' : k < listed.size := by rw [hm.sz]; exact hks
    simp [Array.getD_eq_getD_getElem?, hks'] at h1 h2
    rw [h1] at h2; cases h2
  | succ fuel ih =>
    intro listed a w loc cur m pd hc hm
    refine ⟨fun hr => fin listed a w loc cur m pd hm (done listed a w loc cur m pd hm hr), fun i hi => ?_⟩
    refine hm.step hO hT hil hsl0 hat hi fun a' w' loc' cur' m' pd' hm' => ih _ a' w' loc' cur' m' pd' ?_ hm'
    obtain ⟨h1, o, ho, _⟩ := mem_ready.1 hi
    have hks : i < listed.size := by rw [hm.sz]; exact (Array.getElem?_eq_some_iff.1 ho).1
    have h2 : listed.toList[i]? = some false := by
      simp only [Array.getElem?_toList]
      simp [Array.getD_eq_getD_getElem?, hks] at h1 ⊢; exact h1
    have := cnt_set h2
    rw [Array.toList_setIfInBounds]
    omega

section
variable {X : Cx} {Q : Exit → St → Prop} {st : St}

theorem draw_new {l : List Ins} {ops : Array Oper} {id : Nat} {ps : List (Nat × Nat)} (hmx : X.P.follows .mixedOrders = true) (hr : ∃ ext, RegOk X.P X.G X.n ops X.vm ops.toList l (X.vm ++ ext)) (hO : OrderedF ops X.vm.length l ps)
    (h : wpDX X.P X.G (⟨.none, .pairs ps, [], none⟩ :: l) st.env st.h fun env h => Q .normal ⟨env.take X.vm.length, h⟩) {w0 : World} {loc0 : Loc} {a : Act} {w : World} (hg : Good X w0 loc0 st a w) : (Code.region id ops true).wp X.P (Lift X w0 loc0 Q) a w := by
  obtain ⟨ext, hr⟩ := hr
  obtain ⟨loc, e1, e2, e3, e4, e5, e6, e7⟩ := hg
  obtain ⟨E, T, V, F, t1, t2, t3, t5, t4⟩ := wpX_trace (show wpX X.P X.G ps l [] st.env st.h _ from h)
  obtain ⟨hlen, hat⟩ := hr.at
  have hil : ops.size = l.length := by simpa using hlen
  have hvl : st.env.length = X.vm.length := e1.len.symm
  have hl : ∀ j, j ≤ l.length → (E j).length = X.vm.length + cntN l j := by
    intro j
    induction j with
    | zero => intro _; rw [t1]; simp [hvl, cntN]
    | succ j ih =>
      intro hj
      have hi : l[j]? = some l[j] := List.getElem?_eq_getElem (by omega)
      rw [(t3 j _ hi).2.1, putE_length, ih (by omega), cntN_succ hi, Nat.add_assoc]
  have hat' : ∀ (j : Nat) (o : Oper) (i : Ins), ops[j]? = some o → l[j]? = some i → ∃ slj d, (dix X.vm.length l)[j]? = some d ∧ AtOk X.P X.G X.n ops (X.vm ++ ext) o i slj d ∧ slj.length = X.vm.length + cntN l j :=
    fun j o i ho hi => hat j o i (by simpa using ho) hi
  have hT : Tr X.P X.G X.vm.length l E T V := by
    refine ⟨by rw [t1, hvl], fun j i hi => (t3 j i hi).1, fun j i hi => (t3 j i hi).2.1, fun j x i hi hx => ?_⟩
    have hjl := (List.getElem?_eq_some_iff.1 hi).1
    obtain ⟨slj, d, h1, h2, h3⟩ := hat' j ops[j] i (Array.getElem?_eq_getElem (by omega)) hi
    have := h2.dd
    rw [hx] at this
    rw [hl j (by omega), ← h3]
    exact this.2
  have hnd := hr.nodup e1.nd fun s hs => by rw [← e7]; exact e1.lt s hs
  have hSL : (X.vm ++ ext).length = (E l.length).length := by
    rw [hl _ (Nat.le_refl _)]
    have key : ∀ {sl sl' : List Nat} {os : List Oper} {is : List Ins}, RegOk X.P X.G X.n ops sl os is sl' → sl'.length = sl.length + cntN is is.length := by
      intro sl sl' os is h
      induction h with
      | nil sl => simp [cntN]
      | plain sl sl1 sl2 o i os is _ _ _ hd _ _ ih => rw [ih, slD_length hd]; simp [cntN, Nat.add_assoc]
      | guarded sl sl1 sl2 o i os is j k s want oj _ _ _ _ _ _ hd _ _ ih => rw [ih, slD_length hd]; simp [cntN, Nat.add_assoc]
    exact key hr
  refine wp_region_any hmx ?_
  have hE1 : Ext w loc st.h.length { w with drawn := w.drawn + 1 } loc := ⟨rfl, rfl, rfl, Nat.le_refl _, fun _ _ _ => rfl, fun b l' h => .inr ⟨l', h, .inl rfl⟩, fun b l' k h hk => .inr ⟨b, l', h, hk⟩⟩
  have hTF : TrF X.P X.G X.vm.length l ps E T V F := by
    refine ⟨hT, hO.nw, fun j i hi => (t3 j i hi).2.2, fun i j hi hj hij => ?_, text_run hT hr (a := a) (w := w) (loc := loc) (by rw [t1, t2]; exact e1) (by rw [t2]; exact e2) e3 e7⟩
    have := t5 (i, j) hij
    simpa [List.getD_eq_getElem?_getD, List.getElem?_map, List.getElem?_range, hi, hj] using this
  have hpad : (st.h ++ List.replicate ((T l.length).length - st.h.length) (none : Option Blk)).length = (T l.length).length := by
    have := hTF.mono (a := 0) (b := l.length) (Nat.zero_le _) (Nat.le_refl _)
    rw [t2] at this
    simp; omega
  have hle0 : st.h.length ≤ (T l.length).length := by
    have := hTF.mono (a := 0) (b := l.length) (Nat.zero_le _) (Nat.le_refl _)
    rwa [t2] at this
  have f0 : ∀ k, (Array.replicate ops.size false).getD k false = false := by
    intro k
    rw [Array.getD_eq_getD_getElem?]
    rcases Nat.lt_or_ge k ops.size with h | h
    · simp [h]
    · simp [h]
  have p0 : ∀ b, b < st.h.length → pD T l.length (Array.replicate ops.size false) b = true := fun b hb => pD_iff.2 (.inl (by rw [t2]; exact hb))
  have a0 : ∀ {v : AV}, v.bnd st.h.length = true → v.all (pD T l.length (Array.replicate ops.size false)) = true := fun h => by
    rw [bnd_all] at h; exact AV.all_mono (fun b hb => p0 b (by simpa using hb)) _ h
  have hgp : ∀ b, Heap.get (st.h ++ List.replicate ((T l.length).length - st.h.length) (none : Option Blk)) b = st.h.get b := by
    intro b
    rcases Nat.lt_or_ge b st.h.length with h | h
    · exact Heap.get_append _ _ _ h
    · rw [Heap.get_append_right _ _ _ h, get_out h]
      unfold Heap.get
      rw [List.getElem?_replicate]
      split <;> rfl
  refine MidF.any (V := V) (ps := ps) (F := F) (n := X.n) (SL := X.vm ++ ext) (a0 := a) (w0 := w) (loc0 := loc) hO hTF hil hSL hat' ?_ ops.size (Array.replicate ops.size false) a _ loc (st.env ++ List.replicate ext.length .un) (st.h ++ List.replicate ((T l.length).length - st.h.length) none) (by simp) ?_
  · intro a' w' loc' g1 g2 g3 g4 g5 g6
    refine ⟨⟨(E l.length).take X.vm.length, T l.length⟩, ⟨loc', g1.take, g2, e3.mono g3, ?_, ?_, g5.trans e6, g6⟩, t4⟩
    · rw [t2] at g3
      exact e4.trans g3 e5
    · rw [t2] at g4; exact Nat.le_trans e5 g4
  · refine ⟨by simp, ?_, ?_, ?_, ?_, hpad, ?_, ?_, ?_, ?_, ?_, e3.mono hE1, ?_, rfl, e7⟩
    · intro k o _ hk; rw [f0] at hk; cases hk
    · rw [hpad]
      refine ⟨by simp [hvl], hnd.1, fun s hs => by rw [e7]; exact hnd.2 s hs, fun i s b h1 h2 => ?_⟩
      rcases Nat.lt_or_ge i st.env.length with hi | hi
      · rw [List.getElem?_append_left hi] at h2
        rw [List.getElem?_append_left (by omega)] at h1
        exact (e1.rep i s b h1 h2).mono hE1 hle0
      · rw [List.getElem?_append_right hi, List.getElem?_replicate] at h2
        split at h2
        · cases h2; exact .un _
        · cases h2
    · intro x j _ hk; rw [f0] at hk; cases hk
    · intro x hx _
      rw [t1, List.getElem?_append_left (by omega)]
    · exact (e2.same hE1 rfl).pad _
    · intro b
      refine ⟨0, Nat.zero_le _, by rw [hgp, t2], fun k _ _ => ?_⟩
      rw [f0]; simp
    · intro x v hx
      rcases Nat.lt_or_ge x st.env.length with hi | hi
      · rw [List.getElem?_append_left hi] at hx
        have hs : x < X.vm.length := by omega
        exact a0 (e1.rep x X.vm[x] v (List.getElem?_eq_getElem hs) hx).bnd
      · rw [List.getElem?_append_right hi, List.getElem?_replicate] at hx
        split at hx
        · cases hx; simp [AV.all]
        · cases hx
    · intro b blk hg
      rw [hgp] at hg
      exact a0 (e2.hbnd b blk (Heap.get_lt hg) hg)
    · intro k _ hk; rw [f0] at hk; cases hk
    · rw [t2]; exact hE1

theorem WPS_draw {l : List Ins} (h : wpDX X.P X.G l st.env st.h fun env h => Q .normal ⟨env.take X.vm.length, h⟩) : WPS X (DP X.P X.G X.vm X.n) (.draw l) Q st := by
  intro c hc w0 loc0 a w hg
  cases hc with
  | draw id ops _ hd =>
    obtain ⟨hmx, ⟨⟨ext, hr⟩, hO⟩ | ⟨ps, is, rfl, hr, hO⟩⟩ := hd
    rotate_left
    · exact draw_new hmx hr hO h hg
    obtain ⟨loc, e1, e2, e3, e4, e5, e6, e7⟩ := hg
    have h : wpD X.P X.G l st.env st.h fun env h => Q .normal ⟨env.take X.vm.length, h⟩ := by
      unfold wpDX at h
      split at h
      · exfalso
        generalize ops.toList = os at hr
        cases hr with
        | plain sl sl1 sl2 o i os is hg hig hi hd hs hr =>
          generalize o.op = op at hi
          cases hi
        | guarded sl sl1 sl2 o i os is j k s want oj hg hig hoj hojd hk hi hd hs hr => cases hig
      · exact h
    obtain ⟨E, T, V, t1, t2, t3, t4⟩ := wpD_trace h
    obtain ⟨hlen, hat⟩ := hr.at
    have hil : ops.size = l.length := by simpa using hlen
    have hvl : st.env.length = X.vm.length := e1.len.symm
    have hl : ∀ j, j ≤ l.length → (E j).length = X.vm.length + cntN l j := by
      intro j
      induction j with
      | zero => intro _; rw [t1]; simp [hvl, cntN]
      | succ j ih =>
        intro hj
        have hi : l[j]? = some l[j] := List.getElem?_eq_getElem (by omega)
        rw [(t3 j _ hi).2, putE_length, ih (by omega), cntN_succ hi, Nat.add_assoc]
    have hat' : ∀ (j : Nat) (o : Oper) (i : Ins), ops[j]? = some o → l[j]? = some i → ∃ slj d, (dix X.vm.length l)[j]? = some d ∧ AtOk X.P X.G X.n ops (X.vm ++ ext) o i slj d ∧ slj.length = X.vm.length + cntN l j :=
      fun j o i ho hi => hat j o i (by simpa using ho) hi
    have hT : Tr X.P X.G X.vm.length l E T V := by
      refine ⟨by rw [t1, hvl], fun j i hi => (t3 j i hi).1, fun j i hi => (t3 j i hi).2, fun j x i hi hx => ?_⟩
      have hjl := (List.getElem?_eq_some_iff.1 hi).1
      obtain ⟨slj, d, h1, h2, h3⟩ := hat' j ops[j] i (Array.getElem?_eq_getElem (by omega)) hi
      have := h2.dd
      rw [hx] at this
      rw [hl j (by omega), ← h3]
      exact this.2
    have hnd := hr.nodup e1.nd fun s hs => by rw [← e7]; exact e1.lt s hs
    have hSL : (X.vm ++ ext).length = (E l.length).length := by
      rw [hl _ (Nat.le_refl _)]
      have key : ∀ {sl sl' : List Nat} {os : List Oper} {is : List Ins}, RegOk X.P X.G X.n ops sl os is sl' → sl'.length = sl.length + cntN is is.length := by
        intro sl sl' os is h
        induction h with
        | nil sl => simp [cntN]
        | plain sl sl1 sl2 o i os is _ _ _ hd _ _ ih => rw [ih, slD_length hd]; simp [cntN, Nat.add_assoc]
        | guarded sl sl1 sl2 o i os is j k s want oj _ _ _ _ _ _ hd _ _ ih => rw [ih, slD_length hd]; simp [cntN, Nat.add_assoc]
      exact key hr
    refine wp_region_any hmx ?_
    have hE1 : Ext w loc st.h.length { w with drawn := w.drawn + 1 } loc := ⟨rfl, rfl, rfl, Nat.le_refl _, fun _ _ _ => rfl, fun b l' h => .inr ⟨l', h, .inl rfl⟩, fun b l' k h hk => .inr ⟨b, l', h, hk⟩⟩
    refine Mid.any (V := V) (n := X.n) (SL := X.vm ++ ext) (a0 := a) (w0 := w) (loc0 := loc) hO hT hil hSL hat' ?_ ops.size (Array.replicate ops.size false) a _ loc (st.env ++ List.replicate ext.length .un) 0 [] (by simp) ?_
    · intro a' w' loc' g1 g2 g3 g4 g5 g6
      refine ⟨⟨(E l.length).take X.vm.length, T l.length⟩, ⟨loc', g1.take, g2, e3.mono g3, ?_, ?_, g5.trans e6, g6⟩, t4⟩
      · rw [t2] at g3
        exact e4.trans g3 e5
      · rw [t2] at g4; exact Nat.le_trans e5 g4
    · have f0 : ∀ k, (Array.replicate ops.size false).getD k false = false := by
        intro k
        rw [Array.getD_eq_getD_getElem?]
        rcases Nat.lt_or_ge k ops.size with h | h
        · simp [h]
        · simp [h]
      refine ⟨by simp, ?_, ?_, ?_, ?_, Nat.zero_le _, ?_, fun j i _ _ h => by omega, by simp, ?_, by simp, by simp, ?_, by rw [t2]; exact e2.hbnd, e3.mono hE1, ?_, by rw [t2]; exact Nat.le_refl _, rfl, e7⟩
      · intro k o _ hk; rw [f0] at hk; cases hk
      · refine ⟨by simp [hvl], hnd.1, fun s hs => by rw [e7]; exact hnd.2 s hs, fun i s b h1 h2 => ?_⟩
        rcases Nat.lt_or_ge i st.env.length with hi | hi
        · rw [List.getElem?_append_left hi] at h2
          rw [List.getElem?_append_left (by omega)] at h1
          rw [t2]
          exact (e1.rep i s b h1 h2).mono hE1 (Nat.le_refl _)
        · rw [List.getElem?_append_right hi, List.getElem?_replicate] at h2
          split at h2
          · cases h2; exact .un _
          · cases h2
      · intro x j _ hk; rw [f0] at hk; cases hk
      · intro x hx _
        rw [t1, List.getElem?_append_left (by omega)]
      · intro j i _ _ _; rw [f0]; simp
      · intro j i _ _ hk; rw [f0] at hk; cases hk
      · rw [t2]; simpa using e2.same hE1 rfl
      · rw [t2]; exact hE1

/-! What must hold ahead of a script, reckoned by it -/

/-- ... loops are left as they are -/
def wpS (X : Cx) : Scr → (Exit → St → Prop) → St → Prop
  | .skip, Q, st => Q .normal st
  | .reg l, Q, st => wpI X.P X.G l st.env st.h fun env h => Q .normal ⟨env.take X.vm.length, h⟩
  | .draw l, Q, st => wpDX X.P X.G l st.env st.h fun env h => Q .normal ⟨env.take X.vm.length, h⟩
  | .seq a b, Q, st => wpS X a (thenQ (fun st => wpS X b Q st) Q) st
  | .cond o a b, Q, st => match o.get st.env with
    | .bool c => (c = true → wpS X a Q st) ∧ (c = false → wpS X b Q st)
    | _ => False
  | .block id a, Q, st => wpS X a (fun e st => match e with | .exit id' => if id' = id then Q .normal st else Q (.exit id') st | e => Q e st) st
  | .loop a, Q, st => WPS X (DP X.P X.G X.vm X.n) (.loop a) Q st
  | .exit id, Q, st => Q (.exit id) st
  | .ret, Q, st => Q .ret st

theorem wpS_ok {s : Scr} : ∀ {Q : Exit → St → Prop} {st : St}, wpS X s Q st → WPS X (DP X.P X.G X.vm X.n) s Q st := by
  induction s with
  | skip => exact fun h => WPS_skip h
  | reg l => exact fun h => WPS_reg h
  | draw l => exact fun h => WPS_draw h
  | seq a b iha ihb =>
    intro Q st h
    refine WPS_seq (WPS_mono (iha h) ?_)
    intro e st' h'
    cases e <;> first | exact ihb h' | exact h'
  | cond o a b iha ihb =>
    intro Q st h
    simp only [wpS] at h
    split at h
    · rename_i c hc
      exact WPS_cond hc (fun hb => iha (h.1 hb)) (fun hb => ihb (h.2 hb))
    · exact h.elim
  | block id a ih => exact fun h => WPS_block (ih h)
  | loop a ih => exact fun h => h
  | exit id => exact fun h => WPS_exit h
  | ret => exact fun h => WPS_ret h

/-- A loop with what it keeps. -/
theorem wp_loop {x : Scr} (I : Nat → St → Prop) (k0 : Nat) (h0 : I k0 st) (round : ∀ k st, I k st → wpS X x (thenQ (fun st' => ∃ k', k' < k ∧ I k' st') Q) st) : WPS X (DP X.P X.G X.vm X.n) (.loop x) Q st :=
  WPS_loop I h0 fun k st h => wpS_ok (round k st h)

end

/-- A function, by what its script reckons. -/
theorem wpF_by {f : FuncId} {np : Nat} {vm : List Nat} {F : FnS} (hc : cF P G (drP P G) f np vm = some F) {args : List AV} {H : Heap} {K : AV → Heap → Prop} (hlen : args.length = np)
    (h : (∀ a ∈ args, a.bnd H.length = true ∧ a.fact) → HBnd H.length H → wpS ⟨P, G, H.length, F.vm, F.n⟩ F.s (fun e st => (e = .normal ∨ e = .ret) ∧ ∃ p l, rsGet st F.rs = some (p, l) ∧ p ∧ Fin H.length K (oneOf l) st.h) ⟨args ++ List.replicate (F.vm.length - args.length) .un, H⟩) : wpF P G f args H K :=
  wpF_of (D := DP P G) drP_ok hc hlen fun h1 h2 => wpS_ok (h h1 h2)

end
end Go.V
