import Derived.Test.YthljgbohdfpleaaV25
/- Regions that draw their order, brought to an end. -/
namespace Go.V
open Go

section
variable {P : Program} {G : Globs}

theorem nodupB_iff_inj {dx : List (Option Nat)} (h : (dx.filterMap id).Nodup) : ∀ (i j x : Nat), dx[i]? = some (some x) → dx[j]? = some (some x) → i = j := by
  induction dx with
  | nil => intro i j x h1; simp at h1
  | cons d r ih =>
    have hr : (r.filterMap id).Nodup := by
      cases d with
      | none => simpa using h
      | some y => simp at h; simpa using h.2
    have hin : ∀ (k x : Nat), r[k]? = some (some x) → x ∈ r.filterMap id := fun k x hk => List.mem_filterMap.2 ⟨some x, List.mem_of_getElem? hk, rfl⟩
    intro i j x h1 h2
    cases i with
    | zero =>
      simp at h1; subst h1
      cases j with
      | zero => rfl
      | succ j =>
        simp at h2
        have := hin j x h2
        simp at h
        simp at this
        exact (h.1 this).elim
    | succ i =>
      cases j with
      | zero =>
        simp at h2; subst h2
        simp at h1
        have := hin i x h1
        simp at h
        simp at this
        exact (h.1 this).elim
      | succ j =>
        simp at h1 h2
        rw [ih hr i j x h1 h2]

theorem cnt_set : ∀ {l : List Bool} {i : Nat}, l[i]? = some false → (l.set i true).count false + 1 = l.count false
  | [], i, h => by simp at h
  | b :: l, 0, h => by simp at h; subst h; simp
  | b :: l, i + 1, h => by
    simp at h
    have := cnt_set h
    cases b <;> simp <;> omega

theorem backB_ok : ∀ {os : List Oper} {n : Nat}, backB n os = true → ∀ (j : Nat) (o : Oper), os[j]? = some o → ∀ e ∈ o.after, Region.binds .any e = true → e.on < n + j
  | [], n, _, j, o, h => by simp at h
  | o :: os, n, hb, j, o', h => by
    simp only [backB, Bool.and_eq_true, List.all_eq_true, Bool.or_eq_true, Bool.not_eq_true', decide_eq_true_eq] at hb
    cases j with
    | zero =>
      simp at h; subst h
      intro e he hbind
      have := hb.1 e (by simpa using he)
      simp [hbind] at this
      simpa using this
    | succ j =>
      simp at h
      intro e he hbind
      have := backB_ok hb.2 j o' h e he hbind
      omega

/-- What a region's check shows. -/
structure Ordered (ops : Array Oper) (n0 : Nat) (is : List Ins) : Prop where
  back : ∀ (j : Nat) (o : Oper), ops[j]? = some o → ∀ e ∈ o.after, Region.binds .any e = true → e.on < j
  inj : ∀ (i j x : Nat), (dix n0 is)[i]? = some (some x) → (dix n0 is)[j]? = some (some x) → i = j
  wr : ∀ (i j x : Nat) (b : Ins), i < j → is[j]? = some b → (dix n0 is)[i]? = some (some x) → x ∈ b.reads → Dep ops i j
  rw : ∀ (i j x : Nat) (a : Ins), i < j → is[i]? = some a → (dix n0 is)[j]? = some (some x) → x ∈ a.reads → Dep ops i j
  cl : ∀ (i j : Nat) (a b : Ins), i < j → is[i]? = some a → is[j]? = some b → clash a.op.cls b.op.cls = true → Dep ops i j

theorem dix_length : ∀ {is : List Ins} {n : Nat}, (dix n is).length = is.length
  | [], n => rfl
  | i :: r, n => by simp only [dix]; split <;> simp [dix_length]

theorem ordB_ok {ops : Array Oper} {n0 : Nat} {is : List Ins} (h : ordB ops n0 is = true) : Ordered ops n0 is := by
  simp only [ordB, Bool.and_eq_true, List.all_eq_true, List.mem_range] at h
  obtain ⟨⟨h1, h2⟩, h3⟩ := h
  have pr : ∀ (i j : Nat) (a b : Ins), i < j → is[i]? = some a → is[j]? = some b → (hitB ((dix n0 is).getD i none) b.reads || hitB ((dix n0 is).getD j none) a.reads || clash a.op.cls b.op.cls) = true → Dep ops i j := by
    intro i j a b hij ha hb hc
    have := h3 j (List.getElem?_eq_some_iff.1 hb).1 i hij
    simp only [pairB, ha, hb] at this
    rw [hc] at this
    simp only [Bool.not_true, Bool.false_or] at this
    exact ancs_ok ops.toList [] (by simp) (by simp) j i this
  have lt : ∀ (i x : Nat), (dix n0 is)[i]? = some (some x) → ∃ a, is[i]? = some a := by
    intro i x h
    have := (List.getElem?_eq_some_iff.1 h).1
    rw [dix_length] at this
    exact ⟨is[i], List.getElem?_eq_getElem this⟩
  refine ⟨?_, nodupB_iff_inj (nodupB_ok h2), ?_, ?_, ?_⟩
  · intro j o ho e he hb
    have := backB_ok h1 j o (by simpa using ho) e he hb
    omega
  · intro i j x b hij hb hd hx
    obtain ⟨a, ha⟩ := lt i x hd
    refine pr i j a b hij ha hb ?_
    have : hitB ((dix n0 is).getD i none) b.reads = true := by simp [List.getD_eq_getElem?_getD, hd, hitB, hx]
    rw [this]; simp
  · intro i j x a hij ha hd hx
    obtain ⟨b, hb⟩ := lt j x hd
    refine pr i j a b hij ha hb ?_
    have : hitB ((dix n0 is).getD j none) a.reads = true := by simp [List.getD_eq_getElem?_getD, hd, hitB, hx]
    rw [this]; simp
  · intro i j a b hij ha hb hc
    exact pr i j a b hij ha hb (by simp [hc])

theorem Dep.listed {ops : Array Oper} {listed : Array Bool} {i j : Nat} (h : Dep ops i j)
    (hcl : ∀ (k : Nat) (o : Oper), ops[k]? = some o → listed.getD k false = true → ∀ e ∈ o.after, Region.binds .any e = true → listed.getD e.on false = true)
    (hj : ∀ (o : Oper), ops[j]? = some o → ∀ e ∈ o.after, Region.binds .any e = true → listed.getD e.on false = true) : listed.getD i false = true := by
  induction h with
  | edge j o e ho he hb => exact hj o ho e he hb
  | trans i j o e ho he hb _ ih =>
    have h1 := hj o ho e he hb
    refine ih fun o' ho' => hcl e.on o' ho' h1

/-! The values in the text's order -/

section
variable {n0 : Nat} {is : List Ins} {E : Nat → List AV} {T : Nat → Heap} {V : Nat → AV}

/-- the text's order, step by step -/
structure Tr (P : Program) (G : Globs) (n0 : Nat) (is : List Ins) (E : Nat → List AV) (T : Nat → Heap) (V : Nat → AV) : Prop where
  l0 : (E 0).length = n0
  go : ∀ (j : Nat) (i : Ins), is[j]? = some i → goD P G i (E j) (T j) (V j) (T (j + 1))
  st : ∀ (j : Nat) (i : Ins), is[j]? = some i → E (j + 1) = putE (E j) i.dst (V j)
  vr : ∀ (j x : Nat) (i : Ins), is[j]? = some i → i.dst = .var x → x < (E j).length

def cntN (is : List Ins) (j : Nat) : Nat := ((is.take j).map fun i => i.dst.add).sum

theorem cntN_succ {j : Nat} {i : Ins} (h : is[j]? = some i) : cntN is (j + 1) = cntN is j + i.dst.add := by
  unfold cntN
  rw [List.take_add_one, h]
  simp

theorem dix_get : ∀ {is : List Ins} {n j : Nat} {i : Ins}, is[j]? = some i → (dix n is)[j]? = some (match i.dst with
    | .none => none
    | .var x => some x
    | .new => some (n + cntN is j))
  | [], n, j, i, h => by simp at h
  | a :: r, n, 0, i, h => by
    simp at h; subst h
    simp only [dix, cntN]
    split <;> simp [*]
  | a :: r, n, j + 1, i, h => by
    simp at h
    have h1 := fun n => dix_get (n := n) h
    have e1 : (a.dst.add + cntN r j) = cntN (a :: r) (j + 1) := by simp [cntN]
    simp only [dix]
    split
    · rename_i hd
      rw [List.getElem?_cons_succ, h1, ← e1, hd]; simp [Dst.add]
    · rename_i hd
      rw [List.getElem?_cons_succ, h1, ← e1, hd]; simp [Dst.add]
    · rename_i hd
      rw [List.getElem?_cons_succ, h1, ← e1, hd]; simp [Dst.add, Nat.add_assoc]

theorem Tr.len (h : Tr P G n0 is E T V) : ∀ (j : Nat), j ≤ is.length → (E j).length = n0 + cntN is j
  | 0, _ => by simp [h.l0, cntN]
  | j + 1, hj => by
    have hi : is[j]? = some is[j] := List.getElem?_eq_getElem (by omega)
    rw [h.st j _ hi, putE_length, h.len j (by omega), cntN_succ hi, Nat.add_assoc]

/-- one step leaves what it doesn't write -/
theorem Tr.keep1 (h : Tr P G n0 is E T V) {j x : Nat} (hj : j < is.length) (hx : x < (E j).length) (hd : (dix n0 is)[j]? ≠ some (some x)) : (E (j + 1))[x]? = (E j)[x]? := by
  have hi : is[j]? = some is[j] := List.getElem?_eq_getElem hj
  have hdx := dix_get (n := n0) hi
  rw [h.st j _ hi]
  cases hdst : is[j].dst with
  | none => rfl
  | var y =>
    rw [hdst] at hdx
    have hne : y ≠ x := fun e => hd (e ▸ hdx)
    simp [putE, hne]
  | new => simp only [putE]; rw [List.getElem?_append_left hx]

theorem Tr.mono_len (h : Tr P G n0 is E T V) {a b : Nat} (hab : a ≤ b) (hb : b ≤ is.length) : (E a).length ≤ (E b).length := by
  induction b with
  | zero => have : a = 0 := by omega
            subst this; exact Nat.le_refl _
  | succ b ih =>
    by_cases he : a = b + 1
    · subst he; exact Nat.le_refl _
    · have h1 := ih (by omega) (by omega)
      have hi : is[b]? = some is[b] := List.getElem?_eq_getElem (by omega)
      rw [h.st b _ hi, putE_length]
      omega

theorem Tr.keep (h : Tr P G n0 is E T V) {a b x : Nat} (hab : a ≤ b) (hb : b ≤ is.length) (hx : x < (E a).length) (hd : ∀ j, a ≤ j → j < b → (dix n0 is)[j]? ≠ some (some x)) : (E b)[x]? = (E a)[x]? := by
  induction b with
  | zero => have : a = 0 := by omega
            subst this; rfl
  | succ b ih =>
    by_cases he : a = b + 1
    · subst he; rfl
    · rw [h.keep1 (by omega) (Nat.lt_of_lt_of_le hx (h.mono_len (by omega) (by omega))) (hd b (by omega) (by omega))]
      exact ih (by omega) (by omega) fun j h1 h2 => hd j h1 (by omega)

/-- what a step writes is there behind it -/
theorem Tr.wrote (h : Tr P G n0 is E T V) {j x : Nat} (hd : (dix n0 is)[j]? = some (some x)) : (E (j + 1))[x]? = some (V j) ∧ x < (E (j + 1)).length := by
  have hj : j < is.length := by have := (List.getElem?_eq_some_iff.1 hd).1; rwa [dix_length] at this
  have hi : is[j]? = some is[j] := List.getElem?_eq_getElem hj
  have hdx := dix_get (n := n0) hi
  rw [hd] at hdx
  have hl := h.len j (by omega)
  have key : (E (j + 1))[x]? = some (V j) := by
    rw [h.st j _ hi]
    cases hdst : is[j].dst with
    | none => rw [hdst] at hdx; simp at hdx
    | var y =>
      rw [hdst] at hdx
      simp at hdx; subst hdx
      simp [putE, h.vr j _ _ hi hdst]
    | new =>
      rw [hdst] at hdx
      simp at hdx; subst hdx
      simp [putE, ← hl]
  exact ⟨key, (List.getElem?_eq_some_iff.1 key).1⟩

/-- a place that was not there at the beginning is written -/
theorem Tr.writer (h : Tr P G n0 is E T V) {j x : Nat} (hj : j ≤ is.length) (hx : x < (E j).length) (h0 : n0 ≤ x) : ∃ i, i < j ∧ (dix n0 is)[i]? = some (some x) := by
  induction j with
  | zero => rw [h.l0] at hx; omega
  | succ j ih =>
    have hi : is[j]? = some is[j] := List.getElem?_eq_getElem (by omega)
    rcases Nat.lt_or_ge x (E j).length with h1 | h1
    · obtain ⟨i, h2, h3⟩ := ih (by omega) h1
      exact ⟨i, by omega, h3⟩
    · rw [h.st j _ hi, putE_length] at hx
      have hdx := dix_get (n := n0) hi
      refine ⟨j, by omega, ?_⟩
      cases hdst : is[j].dst with
      | none => rw [hdst] at hx; simp [Dst.add] at hx; omega
      | var y => rw [hdst] at hx; simp [Dst.add] at hx; omega
      | new =>
        rw [hdst] at hx hdx
        simp only [Dst.add] at hx
        rw [hdx]
        have := h.len j (by omega)
        simp; omega

theorem Tr.const (h : Tr P G n0 is E T V) {a b : Nat} (hab : a ≤ b) (hb : b ≤ is.length) (hc : ∀ (j : Nat) (i : Ins), a ≤ j → j < b → is[j]? = some i → i.op.cls ≤ 1) : T b = T a := by
  induction b with
  | zero => have : a = 0 := by omega
            subst this; rfl
  | succ b ih =>
    by_cases he : a = b + 1
    · subst he; rfl
    · have hi : is[b]? = some is[b] := List.getElem?_eq_getElem (by omega)
      rw [goD_free (hc b _ (by omega) (by omega) hi) (h.go b _ hi)]
      exact ih (by omega) (by omega) fun j i h1 h2 h3 => hc j i h1 (by omega) h3

theorem Tr.grow (h : Tr P G n0 is E T V) {a b : Nat} (hab : a ≤ b) (hb : b ≤ is.length) (hc : ∀ (j : Nat) (i : Ins), a ≤ j → j < b → is[j]? = some i → i.op.cls ≤ 2) : ∃ l, T b = T a ++ l := by
  induction b with
  | zero => have : a = 0 := by omega
            subst this; exact ⟨[], by simp⟩
  | succ b ih =>
    by_cases he : a = b + 1
    · subst he; exact ⟨[], by simp⟩
    · have hi : is[b]? = some is[b] := List.getElem?_eq_getElem (by omega)
      obtain ⟨l1, h1⟩ := goD_grow (hc b _ (by omega) (by omega) hi) (h.go b _ hi)
      obtain ⟨l2, h2⟩ := ih (by omega) (by omega) fun j i h1 h2 h3 => hc j i h1 (by omega) h3
      exact ⟨l2 ++ l1, by rw [h1, h2, List.append_assoc]⟩

end
end
end Go.V
