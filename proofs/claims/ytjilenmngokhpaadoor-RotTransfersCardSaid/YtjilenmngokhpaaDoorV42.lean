import Derived.Test.YtjilenmngokhpaaDoorV41
/- Regions that draw their order: whatever the order, they come to what the text's order comes to. -/
set_option linter.unusedVariables false
set_option linter.unusedSimpArgs false
namespace Go.V
open Go

section
variable {P : Program} {G : Globs}
variable {n n0 : Nat} {ops : Array Oper} {is : List Ins} {ps : List (Nat × Nat)} {E : Nat → List AV} {T : Nat → Heap} {V : Nat → AV} {F : Nat → List Nat × List Nat} {SL : List Nat}

/-- the block was there, or was made by what was done -/
def pD (T : Nat → Heap) (N : Nat) (listed : Array Bool) (b : Nat) : Bool :=
  decide (b < (T 0).length) || (List.range N).any fun k => listed.getD k false && decide ((T k).length ≤ b) && decide (b < (T (k + 1)).length)

theorem pD_iff {N b : Nat} {listed : Array Bool} : pD T N listed b = true ↔ b < (T 0).length ∨ ∃ k, k < N ∧ listed.getD k false = true ∧ (T k).length ≤ b ∧ b < (T (k + 1)).length := by
  unfold pD
  simp only [Bool.or_eq_true, decide_eq_true_eq, List.any_eq_true, List.mem_range, Bool.and_eq_true]
  constructor
  · rintro (h | ⟨k, h1, ⟨h2, h3⟩, h4⟩)
    · exact .inl h
    · exact .inr ⟨k, h1, h2, h3, h4⟩
  · rintro (h | ⟨k, h1, h2, h3, h4⟩)
    · exact .inl h
    · exact .inr ⟨k, h1, ⟨h2, h3⟩, h4⟩

/-- the text's order, with what is read and written at each step -/
structure TrF (P : Program) (G : Globs) (n0 : Nat) (is : List Ins) (ps : List (Nat × Nat)) (E : Nat → List AV) (T : Nat → Heap) (V : Nat → AV) (F : Nat → List Nat × List Nat) : Prop where
  tr : Tr P G n0 is E T V
  nw : ∀ (j : Nat) (i : Ins), is[j]? = some i → i.op.isW = false
  fp : ∀ (j : Nat) (i : Ins), is[j]? = some i → fpS i (E j) (F j)
  ap : ∀ (i j : Nat), i < is.length → j < is.length → (i, j) ∈ ps → apartL (F i) (F j)
  hb : ∀ j, j ≤ is.length → HBnd (T j).length (T j) ∧ ∀ (x : Nat) (v : AV), (E j)[x]? = some v → v.bnd (T j).length = true

def Wr (T : Nat → Heap) (k b : Nat) : Prop := (T k).get b ≠ (T (k + 1)).get b

/-- done, or left out -/
theorem go_cases {i : Ins} {env : List AV} {h h' : Heap} {v : AV} {f : List Nat × List Nat} (hg : goD P G i env h v h') (hf : fpS i env f) :
    (stepD P G i env h v h' ∧ f = fpO i.op (i.args.map (Opd.get env)) ∧ (i.g = none ∨ ∃ k want, i.g = some (k, want) ∧ env.getD k .un = .bool want)) ∨
    (v = .tup [] ∧ h' = h ∧ f = ([], []) ∧ ∃ k want, i.g = some (k, want) ∧ (env.getD k .un = .bool (!want) ∨ env.getD k .un = .tup [])) := by
  unfold goD at hg
  unfold fpS at hf
  cases hgi : i.g with
  | none =>
    simp only [hgi] at hg hf
    exact .inl ⟨hg, hf, .inl rfl⟩
  | some kw =>
    obtain ⟨k, want⟩ := kw
    simp only [hgi] at hg hf
    rcases hg with ⟨h1, h2⟩ | ⟨h1, h2, h3⟩
    · rcases hf with ⟨_, h4⟩ | ⟨h4, _⟩
      · exact .inl ⟨h2, h4, .inr ⟨k, want, rfl, h1⟩⟩
      · rw [h1] at h4
        rcases h4 with h4 | h4
        · cases want <;> cases h4
        · cases h4
    · rcases hf with ⟨h4, _⟩ | ⟨_, h4⟩
      · rw [h4] at h1
        rcases h1 with h1 | h1
        · cases want <;> cases h1
        · cases h1
      · exact .inr ⟨h2, h3, h4, k, want, rfl, h1⟩

theorem TrF.wr (h : TrF P G n0 is ps E T V F) {k : Nat} {i : Ins} (hi : is[k]? = some i) : ((T k).length ≤ (T (k + 1)).length ∧ ((T k).length < (T (k + 1)).length → 2 ≤ i.op.kd)) ∧
    ∀ b, Wr T k b → (b ∈ (F k).2 ∨ ((T k).length ≤ b ∧ b < (T (k + 1)).length)) ∧ 2 ≤ i.op.kd := by
  rcases go_cases (h.tr.go k i hi) (h.fp k i hi) with ⟨h1, h2, _⟩ | ⟨_, h2, _⟩
  · rw [h2]; exact stepD_wr h1 (h.nw k i hi)
  · exact ⟨⟨by rw [h2]; exact Nat.le_refl _, fun h => by rw [h2] at h; exact absurd h (Nat.lt_irrefl _)⟩, fun b hb => absurd (by rw [h2]) hb⟩

theorem TrF.mono (h : TrF P G n0 is ps E T V F) {a b : Nat} (hab : a ≤ b) (hb : b ≤ is.length) : (T a).length ≤ (T b).length := by
  induction b with
  | zero => have : a = 0 := by omega
            subst this; exact Nat.le_refl _
  | succ b ih =>
    by_cases he : a = b + 1
    · subst he; exact Nat.le_refl _
    · have h1 := ih (by omega) (by omega)
      have h2 := (h.wr (k := b) (List.getElem?_eq_getElem (by omega))).1.1
      omega

theorem TrF.uniq (h : TrF P G n0 is ps E T V F) {k k' b : Nat} (hk : k < is.length) (hk' : k' < is.length) (h1 : (T k).length ≤ b) (h2 : b < (T (k + 1)).length) (h3 : (T k').length ≤ b) (h4 : b < (T (k' + 1)).length) : k = k' := by
  rcases Nat.lt_trichotomy k k' with h5 | h5 | h5
  · have := h.mono (a := k + 1) (b := k') (by omega) (by omega); omega
  · exact h5
  · have := h.mono (a := k' + 1) (b := k) (by omega) (by omega); omega

theorem TrF.cover (h : TrF P G n0 is ps E T V F) : ∀ (q b : Nat), q ≤ is.length → b < (T q).length → b < (T 0).length ∨ ∃ k, k < q ∧ (T k).length ≤ b ∧ b < (T (k + 1)).length
  | 0, b, _, hb => .inl hb
  | q + 1, b, hq, hb => by
    rcases Nat.lt_or_ge b (T q).length with h1 | h1
    · rcases h.cover q b (by omega) h1 with h2 | ⟨k, h2, h3⟩
      · exact .inl h2
      · exact .inr ⟨k, by omega, h3⟩
    · exact .inr ⟨q, by omega, h1, hb⟩

theorem T_const {b : Nat} : ∀ (d m : Nat), (∀ k, m ≤ k → k < m + d → ¬ Wr T k b) → (T (m + d)).get b = (T m).get b
  | 0, m, _ => rfl
  | d + 1, m, h => by
    have h1 := T_const d m fun k h1 h2 => h k h1 (by omega)
    have h2 := h (m + d) (by omega) (by omega)
    unfold Wr at h2
    have h3 : (T (m + d)).get b = (T (m + d + 1)).get b := Classical.byContradiction (fun hh => h2 hh)
    rw [show m + (d + 1) = m + d + 1 by omega, ← h3, h1]

theorem opd_all {w : World} {loc : Loc} {sl : List Nat} {xo : Operand} {od : Opd} (h : OpdOk G sl xo od) (hG : GlobOk G w loc) {env : List AV} {p : Nat → Bool} (he : ∀ (x : Nat) (v : AV), env[x]? = some v → v.all p = true) : (od.get env).all p = true := by
  cases h with
  | tmp i s hi =>
    simp only [Opd.get, List.getD_eq_getElem?_getD]
    cases hx : env[i]? with
    | none => simp [AV.all]
    | some v => exact he i v hx
  | const v a h => exact bnd0_all (h w loc 0).bnd
  | func f => simp [Opd.get, AV.all, AV.alls]
  | glob g s a hm =>
    have := (hG g s a hm).bnd
    exact bnd0_all this

/-- Midway: some operations were done, whichever. -/
structure MidF (P : Program) (G : Globs) (n n0 : Nat) (ops : Array Oper) (is : List Ins) (E : Nat → List AV) (T : Nat → Heap) (F : Nat → List Nat × List Nat) (SL : List Nat) (a0 : Act) (w0 : World) (loc0 : Loc) (listed : Array Bool) (a : Act) (w : World)
    (loc : Loc) (cur : List AV) (M : Heap) : Prop where
  sz : listed.size = ops.size
  cl : ∀ (k : Nat) (o : Oper), ops[k]? = some o → listed.getD k false = true → ∀ e ∈ o.after, Region.binds .any e = true → listed.getD e.on false = true
  env : EnvOk w loc M.length SL a.tmps cur
  fin : ∀ (x j : Nat), (dix n0 is)[j]? = some (some x) → listed.getD j false = true → cur[x]? = (E is.length)[x]?
  ini : ∀ (x : Nat), x < n0 → (∀ (j : Nat), (dix n0 is)[j]? = some (some x) → listed.getD j false = false) → cur[x]? = (E 0)[x]?
  hl : M.length = (T is.length).length
  hI : HeapInv w loc M
  clk : ∀ b, ∃ m, m ≤ is.length ∧ M.get b = (T m).get b ∧ ∀ k, k < is.length → Wr T k b → (listed.getD k false = true ↔ k < m)
  allE : ∀ (x : Nat) (v : AV), cur[x]? = some v → v.all (pD T is.length listed) = true
  allM : HAll (pD T is.length listed) M
  fpd : ∀ k, k < is.length → listed.getD k false = true → ∀ b, b ∈ (F k).1 ∨ b ∈ (F k).2 → pD T is.length listed b = true
  hG : GlobOk G w loc
  ext : Ext w0 loc0 (T 0).length w loc
  df : a.defers = a0.defers
  ts : a.tmps.size = n

theorem Ext.untrunc {w w' : World} {loc loc' : Loc} {N k : Nat} (h : Ext w (Go.V.trunc loc k) N w' loc') : Ext w loc N w' loc' := by
  refine ⟨h.os, h.tape, h.output, h.size, fun q hq hn => h.block q hq fun b l hl => hn b l (trunc_some hl).2, fun b l' hl => ?_, fun b l' q hl hq => ?_⟩
  · rcases h.lc b l' hl with h1 | ⟨l, h1, h2⟩
    · exact .inl h1
    · exact .inr ⟨l, (trunc_some h1).2, h2⟩
  · rcases h.wb b l' q hl hq with h1 | ⟨b0, l0, h1, h2⟩
    · exact .inl h1
    · exact .inr ⟨b0, l0, (trunc_some h1).2, h2⟩

end
end Go.V
