import Derived.Test.YtjilenmngokhpaaDoorV25
/- Regions that draw their order, brought to an end. -/
set_option linter.unusedVariables false
namespace Go.V
open Go

section
variable {P : Program} {G : Globs}

theorem nodupB_iff_inj {dx : List (Option Nat)} (h : (dx.filterMap id).Nodup) : ∀ (i j x : Nat), dx[i]? = some (some x) → dx[j]? = some (some x) → i = j := by
  induction dx with
  | nil => intro i j x h1; simp at h1
  | cons d r ih =>
    have hr : (r.filterMap id).Nodup := by
      cases d with
      | none => simpa using h
      | some y => simp at h; simpa using h.2
    have hin : ∀ (k x : Nat), r[k]? = some (some x) → x ∈ r.filterMap id := fun k x hk => List.mem_filterMap.2 ⟨some x, List.mem_of_getElem? hk, rfl⟩
    intro i j x h1 h2
    cases i with
    | zero =>
      simp at h1; subst h1
      cases j with
      | zero => rfl
      | succ j =>
        simp at h2
        have := hin j x h2
        simp at h
        simp at this
        exact (h.1 this).elim
    | succ i =>
      cases j with
      | zero =>
        simp at h2; subst h2
        simp at h1
        have := hin i x h1
        simp at h
        simp at this
        exact (h.1 this).elim
      | succ j =>
        simp at h1 h2
        rw [ih hr i j x h1 h2]

theorem cnt_set : ∀ {l : List Bool} {i : Nat}, l[i]? = some false → (l.set i true).count false + 1 = l.count false
  | [], i, h => by simp at h
  | b :: l, 0, h => by simp at h; subst h; simp
  | b :: l, i + 1, h => by
    simp at h
    have := cnt_set h
    cases b <;> simp <;> omega

theorem backB_ok : ∀ {os : List Oper} {n : Nat}, backB n os = true → ∀ (j : Nat) (o : Oper), os[j]? = some o → ∀ e ∈ o.after, Region.binds .any e = true → e.on < n + j
  | [], n, _, j, o, h => by simp at h
  | o :: os, n, hb, j, o', h => by
    simp only [backB, Bool.and_eq_true, List.all_eq_true, Bool.or_eq_true, Bool.not_eq_true', decide_eq_true_eq] at hb
    cases j with
    | zero =>
      simp at h; subst h
      intro e he hbind
      have := hb.1 e (by simpa using he)
      simp [hbind] at this
      simpa using this
    | succ j =>
      simp at h
      intro e he hbind
      have := backB_ok hb.2 j o' h e he hbind
      omega

/-- What a region's check shows. -/
structure Ordered (ops : Array Oper) (n0 : Nat) (is : List Ins) : Prop where
  back : ∀ (j : Nat) (o : Oper), ops[j]? = some o → ∀ e ∈ o.after, Region.binds .any e = true → e.on < j
  inj : ∀ (i j x : Nat), (dix n0 is)[i]? = some (some x) → (dix n0 is)[j]? = some (some x) → i = j
  wr : ∀ (i j x : Nat) (b : Ins), i < j → is[j]? = some b → (dix n0 is)[i]? = some (some x) → x ∈ b.reads → Dep ops i j
  rw : ∀ (i j x : Nat) (a : Ins), i < j → is[i]? = some a → (dix n0 is)[j]? = some (some x) → x ∈ a.reads → Dep ops i j
  cl : ∀ (i j : Nat) (a b : Ins), i < j → is[i]? = some a → is[j]? = some b → clash a.op.cls b.op.cls = true → (b.free = true → a.op.mk1 = false) → Dep ops i j
  fr : ∀ (j x : Nat) (a b : Ins) (r : Nat), is[j]? = some a → a.free = true → (dix n0 is)[j]? = some (some x) → is[r]? = some b → x ∈ b.reads → 2 ≤ b.op.cls

theorem dix_length : ∀ {is : List Ins} {n : Nat}, (dix n is).length = is.length
  | [], n => rfl
  | i :: r, n => by simp only [dix]; split <;> simp [dix_length]

theorem ordB_ok {ops : Array Oper} {n0 : Nat} {is : List Ins} (h : ordB ops n0 is = true) : Ordered ops n0 is := by
  simp only [ordB, Bool.and_eq_true, List.all_eq_true, List.mem_range] at h
  obtain ⟨⟨⟨h1, h2⟩, h4⟩, h3⟩ := h
  have pr : ∀ (i j : Nat) (a b : Ins), i < j → is[i]? = some a → is[j]? = some b → (hitB ((dix n0 is).getD i none) b.reads || hitB ((dix n0 is).getD j none) a.reads || (clash a.op.cls b.op.cls && !(b.free && a.op.mk1))) = true → Dep ops i j := by
    intro i j a b hij ha hb hc
    have := h3 j (List.getElem?_eq_some_iff.1 hb).1 i hij
    simp only [pairB, ha, hb] at this
    rw [hc] at this
    simp only [Bool.not_true, Bool.false_or] at this
    exact ancs_ok ops.toList [] (by simp) (by simp) j i this
  have lt : ∀ (i x : Nat), (dix n0 is)[i]? = some (some x) → ∃ a, is[i]? = some a := by
    intro i x h
    have := (List.getElem?_eq_some_iff.1 h).1
    rw [dix_length] at this
    exact ⟨is[i], List.getElem?_eq_getElem this⟩
  refine ⟨?_, nodupB_iff_inj (nodupB_ok h2), ?_, ?_, ?_, ?_⟩
  · intro j o ho e he hb
    have := backB_ok h1 j o (by simpa using ho) e he hb
    omega
  · intro i j x b hij hb hd hx
    obtain ⟨a, ha⟩ := lt i x hd
    refine pr i j a b hij ha hb ?_
    have : hitB ((dix n0 is).getD i none) b.reads = true := by simp [List.getD_eq_getElem?_getD, hd, hitB, hx]
    rw [this]; simp
  · intro i j x a hij ha hd hx
    obtain ⟨b, hb⟩ := lt j x hd
    refine pr i j a b hij ha hb ?_
    have : hitB ((dix n0 is).getD j none) a.reads = true := by simp [List.getD_eq_getElem?_getD, hd, hitB, hx]
    rw [this]; simp
  · intro i j a b hij ha hb hc hf
    refine pr i j a b hij ha hb ?_
    have : (!(b.free && a.op.mk1)) = true := by
      cases h5 : b.free with
      | false => rfl
      | true => rw [hf h5]; rfl
    rw [hc, this]; simp
  · intro j x a b r ha hf hd hb hx
    have hj : j < is.length := (List.getElem?_eq_some_iff.1 ha).1
    simp only [freeB, List.all_eq_true, List.mem_range] at h4
    have h5 := h4 j hj
    simp only [ha, hf, Bool.not_true, Bool.false_or, List.all_eq_true] at h5
    have h6 := h5 b (List.mem_of_getElem? hb)
    have h7 : hitB ((dix n0 is).getD j none) b.reads = true := by simp [List.getD_eq_getElem?_getD, hd, hitB, hx]
    rw [h7] at h6
    simpa using h6

theorem Dep.listed {ops : Array Oper} {listed : Array Bool} {i j : Nat} (h : Dep ops i j)
    (hcl : ∀ (k : Nat) (o : Oper), ops[k]? = some o → listed.getD k false = true → ∀ e ∈ o.after, Region.binds .any e = true → listed.getD e.on false = true)
    (hj : ∀ (o : Oper), ops[j]? = some o → ∀ e ∈ o.after, Region.binds .any e = true → listed.getD e.on false = true) : listed.getD i false = true := by
  induction h with
  | edge j o e ho he hb => exact hj o ho e he hb
  | trans i j o e ho he hb _ ih =>
    have h1 := hj o ho e he hb
    refine ih fun o' ho' => hcl e.on o' ho' h1

/-! The values in the text's order -/

section
variable {n0 : Nat} {is : List Ins} {E : Nat → List AV} {T : Nat → Heap} {V : Nat → AV}

/-- the text's order, step by step -/
structure Tr (P : Program) (G : Globs) (n0 : Nat) (is : List Ins) (E : Nat → List AV) (T : Nat → Heap) (V : Nat → AV) : Prop where
  l0 : (E 0).length = n0
  go : ∀ (j : Nat) (i : Ins), is[j]? = some i → goD P G i (E j) (T j) (V j) (T (j + 1))
  st : ∀ (j : Nat) (i : Ins), is[j]? = some i → E (j + 1) = putE (E j) i.dst (V j)
  vr : ∀ (j x : Nat) (i : Ins), is[j]? = some i → i.dst = .var x → x < (E j).length

def cntN (is : List Ins) (j : Nat) : Nat := ((is.take j).map fun i => i.dst.add).sum

theorem cntN_succ {j : Nat} {i : Ins} (h : is[j]? = some i) : cntN is (j + 1) = cntN is j + i.dst.add := by
  unfold cntN
  rw [List.take_add_one, h]
  simp

theorem dix_get : ∀ {is : List Ins} {n j : Nat} {i : Ins}, is[j]? = some i → (dix n is)[j]? = some (match i.dst with
    | .none => none
    | .var x => some x
    | .new => some (n + cntN is j))
  | [], n, j, i, h => by simp at h
  | a :: r, n, 0, i, h => by
    simp at h; subst h
    simp only [dix, cntN]
    split <;> simp [*]
  | a :: r, n, j + 1, i, h => by
    simp at h
    have h1 := fun n => dix_get (n := n) h
    have e1 : (a.dst.add + cntN r j) = cntN (a :: r) (j + 1) := by simp [cntN]
    simp only [dix]
    split
    · rename_i hd
      rw [List.getElem?_cons_succ, h1, ← e1, hd]; simp [Dst.add]
    · rename_i hd
      rw [List.getElem?_cons_succ, h1, ← e1, hd]; simp [Dst.add]
    · rename_i hd
      rw [List.getElem?_cons_succ, h1, ← e1, hd]; simp [Dst.add, Nat.add_assoc]

theorem Tr.len (h : Tr P G n0 is E T V) : ∀ (j : Nat), j ≤ is.length → (E j).length = n0 + cntN is j
  | 0, _ => by simp [h.l0, cntN]
  | j + 1, hj => by
    have hi : is[j]? = some is[j] := List.getElem?_eq_getElem (by omega)
    rw [h.st j _ hi, putE_length, h.len j (by omega), cntN_succ hi, Nat.add_assoc]

/-- one step leaves what it doesn't write -/
theorem Tr.keep1 (h : Tr P G n0 is E T V) {j x : Nat} (hj : j < is.length) (hx : x < (E j).length) (hd : (dix n0 is)[j]? ≠ some (some x)) : (E (j + 1))[x]? = (E j)[x]? := by
  have hi : is[j]? = some is[j] := List.getElem?_eq_getElem hj
  have hdx := dix_get (n := n0) hi
  rw [h.st j _ hi]
  cases hdst : is[j].dst with
  | none => rfl
  | var y =>
    rw [hdst] at hdx
    have hne : y ≠ x := fun e => hd (e ▸ hdx)
    simp [putE, hne]
  | new => simp only [putE]; rw [List.getElem?_append_left hx]

theorem Tr.mono_len (h : Tr P G n0 is E T V) {a b : Nat} (hab : a ≤ b) (hb : b ≤ is.length) : (E a).length ≤ (E b).length := by
  induction b with
  | zero => have : a = 0 := by omega
            subst this; exact Nat.le_refl _
  | succ b ih =>
    by_cases he : a = b + 1
    · subst he; exact Nat.le_refl _
    · have h1 := ih (by omega) (by omega)
      have hi : is[b]? = some is[b] := List.getElem?_eq_getElem (by omega)
      rw [h.st b _ hi, putE_length]
      omega

theorem Tr.keep (h : Tr P G n0 is E T V) {a b x : Nat} (hab : a ≤ b) (hb : b ≤ is.length) (hx : x < (E a).length) (hd : ∀ j, a ≤ j → j < b → (dix n0 is)[j]? ≠ some (some x)) : (E b)[x]? = (E a)[x]? := by
  induction b with
  | zero => have : a = 0 := by omega
            subst this; rfl
  | succ b ih =>
    by_cases he : a = b + 1
    · subst he; rfl
    · rw [h.keep1 (by omega) (Nat.lt_of_lt_of_le hx (h.mono_len (by omega) (by omega))) (hd b (by omega) (by omega))]
      exact ih (by omega) (by omega) fun j h1 h2 => hd j h1 (by omega)

/-- what a step writes is there behind it -/
theorem Tr.wrote (h : Tr P G n0 is E T V) {j x : Nat} (hd : (dix n0 is)[j]? = some (some x)) : (E (j + 1))[x]? = some (V j) ∧ x < (E (j + 1)).length := by
  have hj : j < is.length := by have := (List.getElem?_eq_some_iff.1 hd).1; rwa [dix_length] at this
  have hi : is[j]? = some is[j] := List.getElem?_eq_getElem hj
  have hdx := dix_get (n := n0) hi
  rw [hd] at hdx
  have hl := h.len j (by omega)
  have key : (E (j + 1))[x]? = some (V j) := by
    rw [h.st j _ hi]
    cases hdst : is[j].dst with
    | none => rw [hdst] at hdx; simp at hdx
    | var y =>
      rw [hdst] at hdx
      simp at hdx; subst hdx
      simp [putE, h.vr j _ _ hi hdst]
    | new =>
      rw [hdst] at hdx
      simp at hdx; subst hdx
      simp [putE, ← hl]
  exact ⟨key, (List.getElem?_eq_some_iff.1 key).1⟩

/-- a place that was not there at the beginning is written -/
theorem Tr.writer (h : Tr P G n0 is E T V) {j x : Nat} (hj : j ≤ is.length) (hx : x < (E j).length) (h0 : n0 ≤ x) : ∃ i, i < j ∧ (dix n0 is)[i]? = some (some x) := by
  induction j with
  | zero => rw [h.l0] at hx; omega
  | succ j ih =>
    have hi : is[j]? = some is[j] := List.getElem?_eq_getElem (by omega)
    rcases Nat.lt_or_ge x (E j).length with h1 | h1
    · obtain ⟨i, h2, h3⟩ := ih (by omega) h1
      exact ⟨i, by omega, h3⟩
    · rw [h.st j _ hi, putE_length] at hx
      have hdx := dix_get (n := n0) hi
      refine ⟨j, by omega, ?_⟩
      cases hdst : is[j].dst with
      | none => rw [hdst] at hx; simp [Dst.add] at hx; omega
      | var y => rw [hdst] at hx; simp [Dst.add] at hx; omega
      | new =>
        rw [hdst] at hx hdx
        simp only [Dst.add] at hx
        rw [hdx]
        have := h.len j (by omega)
        simp; omega

theorem Tr.const (h : Tr P G n0 is E T V) {a b : Nat} (hab : a ≤ b) (hb : b ≤ is.length) (hc : ∀ (j : Nat) (i : Ins), a ≤ j → j < b → is[j]? = some i → i.op.cls ≤ 1) : T b = T a := by
  induction b with
  | zero => have : a = 0 := by omega
            subst this; rfl
  | succ b ih =>
    by_cases he : a = b + 1
    · subst he; rfl
    · have hi : is[b]? = some is[b] := List.getElem?_eq_getElem (by omega)
      rw [goD_free (hc b _ (by omega) (by omega) hi) (h.go b _ hi)]
      exact ih (by omega) (by omega) fun j i h1 h2 h3 => hc j i h1 (by omega) h3

theorem Tr.grow (h : Tr P G n0 is E T V) {a b : Nat} (hab : a ≤ b) (hb : b ≤ is.length) (hc : ∀ (j : Nat) (i : Ins), a ≤ j → j < b → is[j]? = some i → i.op.cls ≤ 2) : ∃ l, T b = T a ++ l := by
  induction b with
  | zero => have : a = 0 := by omega
            subst this; exact ⟨[], by simp⟩
  | succ b ih =>
    by_cases he : a = b + 1
    · subst he; exact ⟨[], by simp⟩
    · have hi : is[b]? = some is[b] := List.getElem?_eq_getElem (by omega)
      obtain ⟨l1, h1⟩ := goD_grow (hc b _ (by omega) (by omega) hi) (h.go b _ hi)
      obtain ⟨l2, h2⟩ := ih (by omega) (by omega) fun j i h1 h2 h3 => hc j i h1 (by omega) h3
      exact ⟨l2 ++ l1, by rw [h1, h2, List.append_assoc]⟩

end
end
end Go.V

/- Memory in another order: a block moved ahead of others that nothing names. -/
namespace Go.V
open Go

section
variable {P : Program} {G : Globs}

theorem Rep.move {w : World} {loc loc' : Loc} {N M : Nat} (hlt : ∀ b, b < M → loc' b = loc b) (hno : ∀ k, NotOwn loc k → NotOwn loc' k) {cs : List Value} {a : AV} (h : Rep w loc N cs a) : a.bnd M = true → Rep w loc' M cs a := by
  induction h with
  | agg cs ds a ps _ _ ih1 ih2 =>
    intro hb
    simp only [AV.bnd, AV.bnds, Bool.and_eq_true] at hb
    exact .agg _ _ _ _ (ih1 hb.1) (ih2 (by simpa [AV.bnd] using hb.2))
  | ro0 a cap e => intro _; exact .ro0 a cap e
  | ro k' o n cap c t fr e xs cs hk hn ht _ hl hc hm hs ih =>
    intro hb
    exact .ro k' o n cap c t fr e xs cs hk (hno _ hn) ht (ih (by simpa [AV.bnd] using hb)) hl hc hm hs
  | rp k' o c t fr s a cs hk hn ht _ hs ih =>
    intro hb
    exact .rp k' o c t fr s a cs hk (hno _ hn) ht (ih (by simpa [AV.bnd] using hb)) hs
  | own b ver pa off n e ad cap _ hv hc h1 hm ho =>
    intro hb
    have hb : b < M := by simpa [AV.bnd] using hb
    exact .own b ver pa off n e ad cap hb (fun l hl => hv l (by rw [← hlt b hb]; exact hl)) hc h1 hm (fun l hl => ho l (by rw [← hlt b hb]; exact hl))
  | ptr b ver pa s k' o _ hv ho =>
    intro hb
    have hb : b < M := by simpa [AV.bnd] using hb
    exact .ptr b ver pa s k' o hb (fun l hl => hv l (by rw [← hlt b hb]; exact hl)) (fun l hl => ho l (by rw [← hlt b hb]; exact hl))
  | fn f cap vs hl hc _ ih => intro hb; exact .fn f cap vs hl hc (ih (by simpa [AV.bnd] using hb))
  | bool b => intro _; exact .bool b
  | u8 x => intro _; exact .u8 x
  | u16 x => intro _; exact .u16 x
  | u32 x => intro _; exact .u32 x
  | u64 x => intro _; exact .u64 x
  | int x h => intro _; exact .int x h
  | str s l h h' => intro _; exact .str s l h h'
  | nilp => intro _; exact .nilp
  | nils => intro _; exact .nils
  | nilf => intro _; exact .nilf
  | agg0 => intro _; exact .agg0

theorem RepV.move {w : World} {loc loc' : Loc} {N M : Nat} (hlt : ∀ b, b < M → loc' b = loc b) (hno : ∀ k, NotOwn loc k → NotOwn loc' k) {v : Value} {a : AV} (h : RepV w loc N v a) : a.bnd M = true → RepV w loc' M v a := by
  induction h with
  | un v => intro _; exact .un v
  | cell v a ha h => intro hb; exact .cell v a ha (h.move hlt hno hb)
  | agg cs ps h => intro hb; exact .agg cs ps (h.move hlt hno hb)
  | tup vs ps hl _ ih =>
    intro hb
    refine .tup vs ps hl fun i v p h1 h2 => ih i v p h1 h2 ?_
    simp only [AV.bnd, bnds_iff] at hb
    exact hb p (List.mem_of_getElem? h2)

mutual
theorem AV.bnd_le {k k' : Nat} (h : k ≤ k') : ∀ (a : AV), a.bnd k = true → a.bnd k' = true
  | .agg ps, hb => by simp only [AV.bnd] at hb ⊢; exact AV.bnds_le h ps hb
  | .tup ps, hb => by simp only [AV.bnd] at hb ⊢; exact AV.bnds_le h ps hb
  | .ro _ xs, hb => by simp only [AV.bnd] at hb ⊢; exact AV.bnds_le h xs hb
  | .rp _ a, hb => by simp only [AV.bnd] at hb ⊢; exact AV.bnd_le h a hb
  | .own b _ _ _ _ _, hb => by simp only [AV.bnd, decide_eq_true_eq] at hb ⊢; omega
  | .ptr b _ _ _, hb => by simp only [AV.bnd, decide_eq_true_eq] at hb ⊢; omega
  | .fn _ cap, hb => by simp only [AV.bnd] at hb ⊢; exact AV.bnds_le h cap hb
  | .bool _, _ => by simp [AV.bnd]
  | .u8 _, _ => by simp [AV.bnd]
  | .u16 _, _ => by simp [AV.bnd]
  | .u32 _, _ => by simp [AV.bnd]
  | .u64 _, _ => by simp [AV.bnd]
  | .int _, _ => by simp [AV.bnd]
  | .str _, _ => by simp [AV.bnd]
  | .nilp, _ => by simp [AV.bnd]
  | .nils, _ => by simp [AV.bnd]
  | .nilf, _ => by simp [AV.bnd]
  | .un, _ => by simp [AV.bnd]
theorem AV.bnds_le {k k' : Nat} (h : k ≤ k') : ∀ (l : List AV), AV.bnds k l = true → AV.bnds k' l = true
  | [], _ => by simp [AV.bnds]
  | a :: l, hb => by
    simp only [AV.bnds, Bool.and_eq_true] at hb ⊢
    exact ⟨AV.bnd_le h a hb.1, AV.bnds_le h l hb.2⟩
end

/-- where a block lay that now lies at b: the one at A + p was moved to A -/
def rotI (A p b : Nat) : Nat := if b < A then b else if b = A then A + p else if b ≤ A + p then b - 1 else b
def rot (loc : Loc) (A p : Nat) : Loc := fun b => loc (rotI A p b)

theorem rot_lt {loc : Loc} {A p b : Nat} (h : b < A) : rot loc A p b = loc b := by simp [rot, rotI, h]
theorem rot_no {loc : Loc} {A p k : Nat} (h : NotOwn loc k) : NotOwn (rot loc A p) k := fun b l hl => h (rotI A p b) l hl
theorem rotI_inj {A p b b' : Nat} (h : rotI A p b = rotI A p b') : b = b' := by
  unfold rotI at h
  split at h <;> split at h <;> (try split at h) <;> (try split at h) <;> (try split at h) <;> (try split at h) <;> omega
theorem rotI_ge {A p b : Nat} (h : A ≤ b) : A ≤ rotI A p b := by
  unfold rotI; split <;> (try split) <;> (try split) <;> omega

theorem get_rot {H P1 P2 : Heap} {x : Option Blk} (b : Nat) : Heap.get (H ++ x :: (P1 ++ P2)) b = Heap.get (H ++ (P1 ++ x :: P2)) (rotI H.length P1.length b) := by
  unfold Heap.get rotI
  split
  · rename_i h
    rw [List.getElem?_append_left h, List.getElem?_append_left h]
  · rename_i h
    rw [List.getElem?_append_right (by omega)]
    split
    · rename_i he
      subst he
      rw [List.getElem?_append_right (by omega), List.getElem?_append_right (by omega)]
      simp
    · rename_i hne
      split
      · rename_i hle
        rw [List.getElem?_append_right (by omega), List.getElem?_append_left (by omega)]
        rw [show b - H.length = (b - 1 - H.length) + 1 by omega, List.getElem?_cons_succ, List.getElem?_append_left (by omega)]
      · rename_i hgt
        rw [List.getElem?_append_right (by omega), List.getElem?_append_right (by omega)]
        rw [show b - H.length = (b - 1 - H.length) + 1 by omega, List.getElem?_cons_succ, List.getElem?_append_right (by omega)]
        rw [show b - 1 - H.length + 1 - P1.length = (b - 1 - H.length - P1.length) + 1 by omega, List.getElem?_cons_succ]

theorem HeapInv.rot {w : World} {loc : Loc} {H P1 P2 : Heap} {x : Option Blk} (hI : HeapInv w loc (H ++ (P1 ++ x :: P2))) (hb : ∀ b blk, Heap.get (H ++ (P1 ++ x :: P2)) b = some blk → blk.root.bnd H.length = true) :
    HeapInv w (rot loc H.length P1.length) (H ++ x :: (P1 ++ P2)) := by
  refine ⟨?_, ?_, ?_⟩
  · intro b hg
    rw [get_rot] at hg
    exact hI.out _ hg
  · intro b blk hg
    rw [get_rot] at hg
    obtain ⟨l, hl, h1, h2, h3, h4⟩ := hI.blk _ blk hg
    refine ⟨l, hl, h1, h2, h3, ?_⟩
    cases hw : l.wb with
    | none => rw [hw] at h4; exact h4
    | some k =>
      rw [hw] at h4
      obtain ⟨c, fr, cs, g1, g2, g3, g4⟩ := h4
      exact ⟨c, fr, cs, g1, g2, (g3.move (fun b h => rot_lt h) (fun k h => rot_no h) (hb _ blk hg)).mono (Ext.refl w _ H.length) (by simp), g4⟩
  · intro b b' l l' k h1 h2 h3 h4
    exact rotI_inj (hI.inj _ _ l l' k h1 h2 h3 h4)

theorem Ext.rot {w0 w : World} {loc0 loc : Loc} {N A p : Nat} (h : Ext w0 loc0 N w loc) (hA : N ≤ A) : Ext w0 loc0 N w (rot loc A p) := by
  refine ⟨h.os, h.tape, h.output, h.size, h.block, ?_, fun b l k hl hk => h.wb _ l k hl hk⟩
  intro b l hl
  rcases Nat.lt_or_ge b A with hb | hb
  · rw [rot_lt hb] at hl; exact h.lc b l hl
  · exact .inl (by omega)

theorem GlobOk.rot {w : World} {loc : Loc} {A p : Nat} (h : GlobOk G w loc) : GlobOk G w (rot loc A p) := by
  intro g s a hm
  exact (h g s a hm).move (fun b hb => by omega) (fun k h => rot_no h) (h g s a hm).bnd

theorem GlobOk.trunc {w : World} {loc : Loc} {k : Nat} (h : GlobOk G w loc) : GlobOk G w (trunc loc k) := by
  intro g s a hm
  exact (h g s a hm).move (fun b hb => by omega) (fun k' h b l hl => h b l (trunc_some hl).2) (h g s a hm).bnd

theorem EnvOk.trunc {w : World} {loc : Loc} {N : Nat} {sl : List Nat} {tmps : Array Value} {env : List AV} (h : EnvOk w loc N sl tmps env) : EnvOk w (trunc loc N) N sl tmps env :=
  ⟨h.len, h.nd, h.lt, fun i s a h1 h2 => (h.rep i s a h1 h2).trunc (h.rep i s a h1 h2).bnd⟩

theorem EnvOk.rot {w : World} {loc : Loc} {N p : Nat} {sl : List Nat} {tmps : Array Value} {env : List AV} (h : EnvOk w loc N sl tmps env) : EnvOk w (rot loc N p) N sl tmps env :=
  ⟨h.len, h.nd, h.lt, fun i s a h1 h2 => (h.rep i s a h1 h2).move (fun b h => rot_lt h) (fun k h => rot_no h) (h.rep i s a h1 h2).bnd⟩

theorem Ext.weak {w w' : World} {loc loc' : Loc} {N M : Nat} (h : Ext w loc N w' loc') (hM : M ≤ N) : Ext w loc M w' loc' :=
  ⟨h.os, h.tape, h.output, h.size, h.block, fun b l hl => (h.lc b l hl).imp (fun h => by omega) id, h.wb⟩

/-- a pointer's block has moved -/
theorem RepV.ptr_at {w : World} {loc loc' : Loc} {N N' b b' ver : Nat} {pa : List Nat} {s : Shape} {v : Value} (h : RepV w loc N v (.ptr b ver pa s)) (hl : loc' b' = loc b) (hb : b' < N') : RepV w loc' N' v (.ptr b' ver pa s) := by
  cases h with
  | cell v a ha h =>
    generalize hvs : [v] = vs at h
    cases h with
    | ptr b ver pa s k o h1 h2 h3 =>
      simp at hvs; subst hvs
      exact .cell _ _ rfl (.ptr _ _ _ _ _ _ hb (fun l h => h2 l (by rw [← hl]; exact h)) (fun l h => h3 l (by rw [← hl]; exact h)))

theorem RepV.own_at {w : World} {loc loc' : Loc} {N N' b b' ver off n : Nat} {pa : List Nat} {s : Shape} {v : Value} (h : RepV w loc N v (.own b ver pa off n s)) (hl : loc' b' = loc b) (hb : b' < N') : RepV w loc' N' v (.own b' ver pa off n s) := by
  cases h with
  | cell v a ha h =>
    generalize hvs : [v] = vs at h
    cases h with
    | own b ver pa off n s ad cap h1 h2 h3 h4 h5 h6 =>
      simp at hvs; subst hvs
      exact .cell _ _ rfl (.own _ _ _ _ _ _ _ _ hb (fun l h => h2 l (by rw [← hl]; exact h)) h3 h4 h5 (fun l h => h6 l (by rw [← hl]; exact h)))

def E.z0 : E → AV
  | .alloc _ _ z => z
  | .mksl _ _ _ z => z
  | .bsl _ _ z _ _ => z
  | _ => .un

theorem setAll_bnd {N : Nat} : ∀ {ix : List Nat} {zs vs ps : List AV}, setAll zs ix vs = some ps → (∀ a ∈ zs, a.bnd N = true) → (∀ a ∈ vs, a.bnd N = true) → ∀ a ∈ ps, a.bnd N = true := by
  intro ix
  induction ix with
  | nil =>
    intro zs vs ps h hz hv
    cases vs <;> simp [setAll] at h
    subst h; exact hz
  | cons i ix ih =>
    intro zs vs ps h hz hv
    cases vs with
    | nil => simp [setAll] at h
    | cons v vs =>
      simp only [setAll] at h
      first
      | (refine ih h (fun a ha => ?_) (fun a ha => hv a (by simp [ha])); rcases List.mem_or_eq_of_mem_set ha with h1 | h1; exact hz a h1; exact h1 ▸ hv v (by simp))
      | (split at h
         · refine ih h (fun a ha => ?_) (fun a ha => hv a (by simp [ha]))
           rcases List.mem_or_eq_of_mem_set ha with h1 | h1
           · exact hz a h1
           · exact h1 ▸ hv v (by simp)
         · cases h)

/-- What one that makes one block comes to, wherever memory ends. -/
theorem mk1_eev {e : E} (hm : (Iop.e e).mk1 = true) {H : Heap} {as : List AV} {p : Prop} {v : AV} {H' : Heap} (h : eev H e as = some (p, v, H')) :
    ∃ blk, H' = H ++ [some blk] ∧ (∀ N, e.z0.bnd N = true → (∀ a ∈ as, a.bnd N = true) → blk.root.bnd N = true) ∧
      ((∃ s, v = .ptr H.length 0 [0] s ∧ ∀ H2, eev H2 e as = some (p, .ptr H2.length 0 [0] s, H2 ++ [some blk])) ∨
      (∃ ver n s, v = .own H.length ver [] 0 n s ∧ ∀ H2, eev H2 e as = some (p, .own H2.length ver [] 0 n s, H2 ++ [some blk]))) := by
  cases e with
  | alloc te s z =>
    cases as <;> simp only [eev, reduceCtorEq, Option.some.injEq, Prod.mk.injEq] at h
    obtain ⟨rfl, rfl, rfl⟩ := h
    exact ⟨_, rfl, fun N hz _ => by simpa [AV.bnd, AV.bnds, E.z0] using hz, .inl ⟨_, rfl, fun H2 => rfl⟩⟩
  | box te s =>
    rcases as with _ | ⟨a, _ | ⟨b, as⟩⟩ <;> simp only [eev, reduceCtorEq, Option.some.injEq, Prod.mk.injEq] at h
    obtain ⟨rfl, rfl, rfl⟩ := h
    exact ⟨_, rfl, fun N _ ha => by simpa [AV.bnd, AV.bnds] using ha, .inl ⟨_, rfl, fun H2 => rfl⟩⟩
  | mksl te s by_ z =>
    rcases as with _ | ⟨a, _ | ⟨b, _ | ⟨c, as⟩⟩⟩ <;> simp only [eev, reduceCtorEq] at h
    split at h
    · rename_i i j hi hj
      simp only [Option.some.injEq, Prod.mk.injEq] at h
      obtain ⟨rfl, rfl, rfl⟩ := h
      refine ⟨_, rfl, fun N hz _ => ?_, .inr ⟨_, _, _, rfl, fun H2 => by simp only [eev, hi, hj]⟩⟩
      simp only [AV.bnd, bnds_iff]
      intro a ha
      rw [(List.mem_replicate.1 ha).2]
      exact hz
    · cases h
  | bsl te s z len ix =>
    simp only [eev, Option.map_eq_some_iff, Prod.mk.injEq] at h
    obtain ⟨ps, h1, rfl, rfl, rfl⟩ := h
    refine ⟨_, rfl, fun N hz ha => ?_, .inr ⟨_, _, _, rfl, fun H2 => by simp only [eev, h1, Option.map_some]⟩⟩
    simp only [AV.bnd, bnds_iff]
    exact setAll_bnd h1 (fun a ha => by rw [(List.mem_replicate.1 ha).2]; exact hz) ha
  | s2b te =>
    rcases as with _ | ⟨a, _ | ⟨b, as⟩⟩
    · simp [eev] at h
    · cases a <;> simp only [eev, reduceCtorEq, Option.some.injEq, Prod.mk.injEq] at h
      obtain ⟨rfl, rfl, rfl⟩ := h
      refine ⟨_, rfl, fun N _ _ => ?_, .inr ⟨_, _, _, rfl, fun H2 => rfl⟩⟩
      simp only [AV.bnd, bnds_iff]
      intro a ha
      obtain ⟨x, _, rfl⟩ := List.mem_map.1 ha
      simp [AV.bnd]
    · cases a <;> simp [eev] at h
  | _ => simp [Iop.mk1] at hm

theorem z0_ok {op : Op} {e : E} {xs : List Operand} (h : EOp P op e xs) : e.z0.bnd 0 = true := by
  have zk : ∀ {t s z}, ZeroOk P t s z → z.bnd 0 = true := by
    intro t s z hz
    obtain ⟨i, v, _, _, _, h4⟩ := hz.ex
    exact (h4 default (fun _ => none) 0).bnd
  cases h <;> first | (simp [E.z0, AV.bnd]; done) | (rename_i hz; exact zk hz) | (rename_i hz _; exact zk hz) | skip
end
end Go.V
