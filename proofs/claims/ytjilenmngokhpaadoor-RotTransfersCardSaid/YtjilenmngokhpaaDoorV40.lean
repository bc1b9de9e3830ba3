import Derived.Test.YtjilenmngokhpaaDoorV39
/- Regions that draw their order, whatever of memory they make, read and write. -/
set_option linter.unusedVariables false
set_option linter.unusedSimpArgs false
namespace Go.V
open Go

/-- what of memory an operation needs: 0 nothing, 1 reads some, 2 makes one block, 3 writes some, 4 all of it -/
def Iop.kd : Iop → Nat
  | .q (.ld _) => 1
  | .q .b2s => 1
  | .q _ => 0
  | .e (.alloc ..) => 2
  | .e (.box ..) => 2
  | .e (.mksl ..) => 2
  | .e (.bsl ..) => 2
  | .e (.s2b _) => 2
  | .e (.bld ..) => 0
  | .e _ => 3
  | .call _ => 4
  | .callv => 4
  | .callp _ => 0
  | .nilq _ => 4
  | .callm _ => 2
  | .callw _ => 4
  | .pairs _ => 4

/-- may it write what it is handed? -/
def Iop.isW : Iop → Bool
  | .callw _ => true
  | _ => false

def clashF (a b : Nat) : Bool := (a == 4 && decide (1 ≤ b)) || (b == 4 && decide (1 ≤ a)) || (a == 3 && b == 3) || (a == 3 && b == 1) || (a == 1 && b == 3)

def pairF (dx : List (Option Nat)) (is : List Ins) (an : List Nat) (ps : List (Nat × Nat)) (i j : Nat) : Bool :=
  match is[i]?, is[j]? with
  | some a, some b => (!(hitB (dx.getD i none) b.reads || hitB (dx.getD j none) a.reads) || (an.getD j 0).testBit i) && (!clashF a.op.kd b.op.kd || (an.getD j 0).testBit i || (a.op.kd != 4 && b.op.kd != 4 && ps.contains (i, j)))
  | _, _ => true

def ordF (ops : Array Oper) (n0 : Nat) (is : List Ins) (ps : List (Nat × Nat)) : Bool :=
  backB 0 ops.toList && nodupB ((dix n0 is).filterMap id) && ((List.range is.length).all fun j => (List.range j).all fun i => pairF (dix n0 is) is (ancs ops.toList []) ps i j) && is.all fun i => !i.op.isW

/-- which two reach memory with no order between them -/
def psOf (ops : Array Oper) (is : List Ins) : List (Nat × Nat) :=
  (List.range is.length).flatMap fun j => (List.range j).filterMap fun i => match is[i]?, is[j]? with
    | some a, some b => if clashF a.op.kd b.op.kd && a.op.kd != 4 && b.op.kd != 4 && !((ancs ops.toList []).getD j 0).testBit i then some (i, j) else none
    | _, _ => none

structure OrderedF (ops : Array Oper) (n0 : Nat) (is : List Ins) (ps : List (Nat × Nat)) : Prop where
  back : ∀ (j : Nat) (o : Oper), ops[j]? = some o → ∀ e ∈ o.after, Region.binds .any e = true → e.on < j
  inj : ∀ (i j x : Nat), (dix n0 is)[i]? = some (some x) → (dix n0 is)[j]? = some (some x) → i = j
  wr : ∀ (i j x : Nat) (b : Ins), i < j → is[j]? = some b → (dix n0 is)[i]? = some (some x) → x ∈ b.reads → Dep ops i j
  rw : ∀ (i j x : Nat) (a : Ins), i < j → is[i]? = some a → (dix n0 is)[j]? = some (some x) → x ∈ a.reads → Dep ops i j
  nw : ∀ (j : Nat) (i : Ins), is[j]? = some i → i.op.isW = false
  cl : ∀ (i j : Nat) (a b : Ins), i < j → is[i]? = some a → is[j]? = some b → clashF a.op.kd b.op.kd = true → Dep ops i j ∨ (a.op.kd ≠ 4 ∧ b.op.kd ≠ 4 ∧ (i, j) ∈ ps)

theorem ordF_ok {ops : Array Oper} {n0 : Nat} {is : List Ins} {ps : List (Nat × Nat)} (h : ordF ops n0 is ps = true) : OrderedF ops n0 is ps := by
  simp only [ordF, Bool.and_eq_true, List.all_eq_true, List.mem_range] at h
  obtain ⟨⟨⟨h1, h2⟩, h3⟩, h4⟩ := h
  have pr : ∀ (i j : Nat) (a b : Ins), i < j → is[i]? = some a → is[j]? = some b → ((hitB ((dix n0 is).getD i none) b.reads || hitB ((dix n0 is).getD j none) a.reads) = true → Dep ops i j) ∧ (clashF a.op.kd b.op.kd = true → Dep ops i j ∨ (a.op.kd ≠ 4 ∧ b.op.kd ≠ 4 ∧ (i, j) ∈ ps)) := by
    intro i j a b hij ha hb
    have := h3 j (List.getElem?_eq_some_iff.1 hb).1 i hij
    simp only [pairF, ha, hb, Bool.and_eq_true] at this
    obtain ⟨g1, g2⟩ := this
    refine ⟨fun hc => ?_, fun hc => ?_⟩
    · rw [hc] at g1
      simp only [Bool.not_true, Bool.false_or] at g1
      exact ancs_ok ops.toList [] (by simp) (by simp) j i g1
    · rw [hc] at g2
      simp only [Bool.not_true, Bool.false_or, Bool.or_eq_true, Bool.and_eq_true, bne_iff_ne, ne_eq, List.contains_iff_mem] at g2
      rcases g2 with g2 | g2
      · exact .inl (ancs_ok ops.toList [] (by simp) (by simp) j i g2)
      · exact .inr ⟨g2.1.1, g2.1.2, g2.2⟩
  have lt : ∀ (i x : Nat), (dix n0 is)[i]? = some (some x) → ∃ a, is[i]? = some a := by
    intro i x h
    have := (List.getElem?_eq_some_iff.1 h).1
    rw [dix_length] at this
    exact ⟨is[i], List.getElem?_eq_getElem this⟩
  refine ⟨?_, nodupB_iff_inj (nodupB_ok h2), ?_, ?_, fun j i hi => by simpa using h4 i (List.mem_of_getElem? hi), ?_⟩
  · intro j o ho e he hb
    have := backB_ok h1 j o (by simpa using ho) e he hb
    omega
  · intro i j x b hij hb hd hx
    obtain ⟨a, ha⟩ := lt i x hd
    refine (pr i j a b hij ha hb).1 ?_
    have : hitB ((dix n0 is).getD i none) b.reads = true := by simp [List.getD_eq_getElem?_getD, hd, hitB, hx]
    rw [this]; simp
  · intro i j x a hij ha hd hx
    obtain ⟨b, hb⟩ := lt j x hd
    refine (pr i j a b hij ha hb).1 ?_
    have : hitB ((dix n0 is).getD j none) a.reads = true := by simp [List.getD_eq_getElem?_getD, hd, hitB, hx]
    rw [this]; simp
  · exact fun i j a b hij ha hb hc => (pr i j a b hij ha hb).2 hc

/-! One behind the other, with what each reads and writes -/

/-- one may go ahead of the other -/
def apartL (x y : List Nat × List Nat) : Prop := (∀ b ∈ x.2, b ∉ y.1 ∧ b ∉ y.2) ∧ (∀ b ∈ x.1, b ∉ y.2)

def chkL (ps : List (Nat × Nat)) (log : List (List Nat × List Nat)) : Prop := ∀ p ∈ ps, apartL (log.getD p.1 ([], [])) (log.getD p.2 ([], []))

section
variable (P : Program) (G : Globs)
def wpX (ps : List (Nat × Nat)) : List Ins → List (List Nat × List Nat) → List AV → Heap → (List AV → Heap → Prop) → Prop
  | [], log, env, h, K => chkL ps log ∧ K env h
  | i :: r, log, env, h, K =>
    match i.g with
    | none => stepW P G i env h fun env' h' => wpX ps r (log ++ [fpO i.op (i.args.map (Opd.get env))]) env' h' K
    | some (j, want) => match env.getD j .un with
      | .bool b => (b = want → stepW P G i env h fun env' h' => wpX ps r (log ++ [fpO i.op (i.args.map (Opd.get env))]) env' h' K) ∧ (b = !want → wpX ps r (log ++ [([], [])]) (putE env i.dst (.tup [])) h K)
      | .tup [] => wpX ps r (log ++ [([], [])]) (putE env i.dst (.tup [])) h K
      | _ => False

variable {P} {G}

/-- the step's footprint, or none where it was left out -/
def fpS (i : Ins) (env : List AV) (f : List Nat × List Nat) : Prop :=
  match i.g with
  | none => f = fpO i.op (i.args.map (Opd.get env))
  | some (k, want) => (env.getD k .un = .bool want ∧ f = fpO i.op (i.args.map (Opd.get env))) ∨ ((env.getD k .un = .bool (!want) ∨ env.getD k .un = .tup []) ∧ f = ([], []))

theorem wpX_cons {ps : List (Nat × Nat)} {i : Ins} {r : List Ins} {log : List (List Nat × List Nat)} {env : List AV} {h : Heap} {K : List AV → Heap → Prop} (hw : wpX P G ps (i :: r) log env h K) :
    ∃ v h' f, goD P G i env h v h' ∧ fpS i env f ∧ wpX P G ps r (log ++ [f]) (putE env i.dst v) h' K := by
  simp only [wpX] at hw
  unfold goD fpS
  cases hg : i.g with
  | none =>
    simp only [hg] at hw
    obtain ⟨v, h', h1, h2⟩ := stepW_ok hw
    exact ⟨v, h', _, h1, rfl, h2⟩
  | some kw =>
    obtain ⟨k, want⟩ := kw
    simp only [hg] at hw
    split at hw
    · rename_i b hb
      by_cases hbw : b = want
      · subst hbw
        obtain ⟨v, h', h1, h2⟩ := stepW_ok (hw.1 rfl)
        exact ⟨v, h', _, .inl ⟨hb, h1⟩, .inl ⟨hb, rfl⟩, h2⟩
      · have : b = !want := by cases b <;> cases want <;> simp_all
        exact ⟨.tup [], h, _, .inr ⟨.inl (this ▸ hb), rfl, rfl⟩, .inr ⟨.inl (this ▸ hb), rfl⟩, hw.2 this⟩
    · rename_i hb
      exact ⟨.tup [], h, _, .inr ⟨.inr hb, rfl, rfl⟩, .inr ⟨.inr hb, rfl⟩, hw⟩
    · exact hw.elim

theorem wpX_trace {ps : List (Nat × Nat)} : ∀ {is : List Ins} {log : List (List Nat × List Nat)} {env : List AV} {h : Heap} {K : List AV → Heap → Prop}, wpX P G ps is log env h K →
    ∃ (E : Nat → List AV) (T : Nat → Heap) (V : Nat → AV) (F : Nat → List Nat × List Nat), E 0 = env ∧ T 0 = h ∧ (∀ j i, is[j]? = some i → goD P G i (E j) (T j) (V j) (T (j + 1)) ∧ E (j + 1) = putE (E j) i.dst (V j) ∧ fpS i (E j) (F j)) ∧
      chkL ps (log ++ (List.range is.length).map F) ∧ K (E is.length) (T is.length)
  | [], log, env, h, K, hw => ⟨fun _ => env, fun _ => h, fun _ => .un, fun _ => ([], []), rfl, rfl, by simp, by simpa using hw.1, hw.2⟩
  | i :: r, log, env, h, K, hw => by
    obtain ⟨v, h', f, h1, hf, h2⟩ := wpX_cons hw
    obtain ⟨E, T, V, F, e1, e2, e3, e5, e4⟩ := wpX_trace h2
    refine ⟨fun | 0 => env | j + 1 => E j, fun | 0 => h | j + 1 => T j, fun | 0 => v | j + 1 => V j, fun | 0 => f | j + 1 => F j, rfl, rfl, ?_, ?_, e4⟩
    · intro j i' hi
      cases j with
      | zero =>
        simp at hi; subst hi
        simp only [e1, e2]
        exact ⟨h1, trivial, hf⟩
      | succ j =>
        simp at hi
        exact e3 j i' hi
    · rw [List.length_cons, List.range_succ_eq_map, List.map_cons, List.map_map]
      rw [List.append_assoc] at e5
      exact e5
end

/-! The text's order, in the machine: what it shows of the values -/
section
variable {P : Program} {G : Globs}

theorem Oper.wp_ex {o : Oper} {a : Act} {w : World} {Kn : Act → World → Prop} {Q : Exit → Act → World → Prop} (hQ : ∀ e a w, Q e a w → e = .normal) (h : o.wp P a w Kn Q) : ∃ a' w', Kn a' w' := by
  unfold Oper.wp at h
  generalize (execOp a.eval o).run P w = r at h
  cases r with
  | ok n w' =>
    cases n with
    | value v => exact ⟨_, _, h⟩
    | skip => exact ⟨_, _, h⟩
    | defer d => exact ⟨_, _, h⟩
    | enter f args =>
      rw [Oper.upon_enter] at h
      obtain ⟨e, w'', fr, hR, _⟩ := h []
      cases e with
      | returned v => exact ⟨_, _, hR⟩
      | panicked c => cases hQ _ _ _ hR
      | outgrown =>
        obtain ⟨a2, w2, h2⟩ := hR
        cases hQ _ _ _ h2
    | row row args =>
      rw [Oper.upon_row] at h
      obtain ⟨v, w'', hR, _⟩ := h (Frame.enter P 0 #[] .normal) []
      exact ⟨_, _, hR⟩
    | _ => exact h.elim
  | halt x w' =>
    cases x with
    | panic v => cases hQ _ _ _ h
    | _ => exact h.elim

theorem wpList_ex {ops : Array Oper} {Q : Exit → Act → World → Prop} (hQ : ∀ e a w, Q e a w → e = .normal) : ∀ {os : List Oper} {a : Act} {w : World}, wpList P ops Q os a w → ∃ a' w', Q .normal a' w'
  | [], a, w, h => ⟨a, w, h⟩
  | o :: os, a, w, h => by
    unfold wpList at h
    split at h
    · rcases h with h | ⟨_, a2, w2, h2⟩
      · obtain ⟨a', w', h'⟩ := Oper.wp_ex hQ h
        exact wpList_ex hQ h'
      · cases hQ _ _ _ h2
    · exact wpList_ex hQ h

theorem stepD_I {i : Ins} {env : List AV} {h h' : Heap} {v : AV} {K : List AV → Heap → Prop} (hs : stepD P G i env h v h') (hK : K (putE env i.dst v) h') : stepI P G i env h K := by
  obtain ⟨dst, op, args, g⟩ := i
  cases op with
  | q q =>
    simp only [stepD] at hs
    simp only [stepI]
    obtain ⟨p, h1, h2, rfl⟩ := hs
    rw [h1]; exact ⟨h2, hK⟩
  | e e =>
    simp only [stepD] at hs
    simp only [stepI]
    obtain ⟨p, h1, h2⟩ := hs
    rw [h1]; exact ⟨h2, hK⟩
  | call f =>
    simp only [stepD] at hs
    simp only [stepI]
    exact hs.2.mono fun a b ⟨e1, e2⟩ => by rw [e1, e2]; exact hK
  | callv =>
    simp only [stepD] at hs
    simp only [stepI]
    obtain ⟨_, f, caps, rest, h1, h2⟩ := hs
    rw [h1]
    exact h2.mono fun a b ⟨e1, e2⟩ => by rw [e1, e2]; exact hK
  | callp f =>
    simp only [stepD] at hs
    simp only [stepI]
    obtain ⟨rfl, _, h2⟩ := hs
    exact (h2 _).mono fun a b ⟨e1, e2⟩ => by rw [e1, e2]; exact hK
  | nilq neg => simp only [stepD] at hs
  | callm f =>
    simp only [stepD] at hs
    simp only [stepI]
    obtain ⟨ver, n, e, blk, rfl, rfl, _, h2⟩ := hs
    exact (h2 _).mono fun a b ⟨e1, e2⟩ => by rw [e1, e2]; exact hK
  | callw f =>
    simp only [stepD] at hs
    simp only [stepI]
    exact hs.2.mono fun a b ⟨e1, e2⟩ => by rw [e1, e2]; exact hK
  | pairs ps => simp only [stepD] at hs

theorem RegOk.take {n : Nat} {ops : Array Oper} {sl sl' : List Nat} {os : List Oper} {is : List Ins} (h : RegOk P G n ops sl os is sl') : ∀ (j : Nat), ∃ slj, RegOk P G n ops sl (os.take j) (is.take j) slj := by
  induction h with
  | nil sl => intro j; exact ⟨sl, by simpa using RegOk.nil sl⟩
  | plain sl sl1 sl2 o i os is hg hig hi hd hs _ ih =>
    intro j
    cases j with
    | zero => exact ⟨sl, .nil sl⟩
    | succ j =>
      obtain ⟨slj, h⟩ := ih j
      exact ⟨slj, .plain sl sl1 slj o i _ _ hg hig hi hd hs h⟩
  | guarded sl sl1 sl2 o i os is j0 k s0 want oj hg hig hoj hojd hk hi hd hs _ ih =>
    intro j
    cases j with
    | zero => exact ⟨sl, .nil sl⟩
    | succ j =>
      obtain ⟨slj, h⟩ := ih j
      exact ⟨slj, .guarded sl sl1 slj o i _ _ j0 k s0 want oj hg hig hoj hojd hk hi hd hs h⟩

section
variable {n n0 : Nat} {is : List Ins} {E : Nat → List AV} {T : Nat → Heap} {V : Nat → AV}

theorem Tr.wpI (hT : Tr P G n0 is E T V) : ∀ (d m : Nat), m + d ≤ is.length → wpI P G ((is.drop m).take d) (E m) (T m) fun env h => env = E (m + d) ∧ h = T (m + d)
  | 0, m, _ => by simp [Go.V.wpI]
  | d + 1, m, hm => by
    have hi : is[m]? = some is[m] := List.getElem?_eq_getElem (by omega)
    have ih := Tr.wpI hT d (m + 1) (by omega)
    rw [show m + 1 + d = m + (d + 1) by omega] at ih
    rw [List.drop_eq_getElem_cons (by omega), List.take_succ_cons]
    have hgo := hT.go m _ hi
    have hst := hT.st m _ hi
    generalize is[m] = i at hgo hst
    simp only [Go.V.wpI]
    unfold goD at hgo
    rw [hst] at ih
    cases hg : i.g with
    | none =>
      simp only [hg] at hgo
      exact stepD_I hgo ih
    | some kw =>
      obtain ⟨k, want⟩ := kw
      simp only [hg] at hgo
      rcases hgo with ⟨h1, h2⟩ | ⟨h1 | h1, h2, h3⟩
      · simp only [h1]
        refine ⟨fun _ => stepD_I h2 ih, fun hb => ?_⟩
        cases want <;> cases hb
      · simp only [h1]
        refine ⟨fun hb => ?_, fun _ => ?_⟩
        · cases want <;> cases hb
        · rw [← h2, ← h3]; exact ih
      · simp only [h1]
        rw [← h2, ← h3]; exact ih

/-- what the text's order comes to names only what was made by then -/
theorem text_run {ops : Array Oper} {sl sl' : List Nat} (hT : Tr P G n0 is E T V) (hr : RegOk P G n ops sl ops.toList is sl') {a : Act} {w : World} {loc : Loc} (he : EnvOk w loc (T 0).length sl a.tmps (E 0)) (hI : HeapInv w loc (T 0)) (hG : GlobOk G w loc) (hn : a.tmps.size = n) :
    ∀ j, j ≤ is.length → HBnd (T j).length (T j) ∧ ∀ (x : Nat) (v : AV), (E j)[x]? = some v → v.bnd (T j).length = true := by
  intro j hj
  obtain ⟨slj, hrj⟩ := hr.take j
  have h1 := hT.wpI j 0 (by omega)
  rw [List.drop_zero, Nat.zero_add] at h1
  have h2 := reg_sound hrj (Q := fun e a' w' => e = .normal ∧ ∃ loc', EnvOk w' loc' (T j).length slj a'.tmps (E j) ∧ HeapInv w' loc' (T j)) he hI hG hn h1 (by
    intro env' h' a' w' loc' hk g1 g2 g3 g4 g5 g6
    obtain ⟨rfl, rfl⟩ := hk
    exact ⟨rfl, loc', g1, g2⟩)
  obtain ⟨a', w', _, loc', g1, g2⟩ := wpList_ex (fun e a w h => h.1) h2
  refine ⟨g2.hbnd, fun x v hx => ?_⟩
  have hxl : x < slj.length := by rw [g1.len]; exact (List.getElem?_eq_some_iff.1 hx).1
  exact (g1.rep x slj[x] v (List.getElem?_eq_getElem hxl) hx).bnd
end
end
end Go.V
