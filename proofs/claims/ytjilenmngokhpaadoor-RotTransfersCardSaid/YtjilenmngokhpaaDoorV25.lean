import Derived.Test.YtjilenmngokhpaaDoorV24
import Derived.Orders
/- Regions that draw their order: whatever the order, they come to what the text's order comes to. -/
namespace Go.V
open Go

/-! Which places an instruction reads and writes -/

def dix : Nat → List Ins → List (Option Nat)
  | _, [] => []
  | n, i :: r => match i.dst with
    | .none => none :: dix n r
    | .var x => some x :: dix n r
    | .new => some n :: dix (n + 1) r

def Opd.rds : Opd → List Nat
  | .t i => [i]
  | .c _ => []

def Ins.reads (i : Ins) : List Nat := i.args.flatMap Opd.rds ++ (match i.g with
  | some (k, _) => [k]
  | none => [])

/-- 0: memory is of no account; 1: reads memory; 2: at most makes new memory; 3: may write -/
def Iop.cls : Iop → Nat
  | .q (.ld _) => 1
  | .q .b2s => 1
  | .q _ => 0
  | .e (.alloc ..) => 2
  | .e (.box ..) => 2
  | .e (.mksl ..) => 2
  | .e (.bsl ..) => 2
  | .e (.bld ..) => 0
  | .e (.s2b _) => 2
  | .e _ => 3
  | .call _ => 2
  | .callv => 2
  | .callp _ => 0
  | .nilq _ => 3
  | .callm _ => 2
  | .callw _ => 3
  | .pairs _ => 3

/-- a new variable, whose making hangs on nothing -/
def Ins.free (i : Ins) : Bool :=
  match i.op, i.g, i.dst with
  | .e (.alloc ..), none, .var _ => true
  | _, _, _ => false

/-- makes one block of new memory, and hangs on no memory -/
def Iop.mk1 : Iop → Bool
  | .e (.alloc ..) => true
  | .e (.box ..) => true
  | .e (.mksl ..) => true
  | .e (.bsl ..) => true
  | .e (.s2b _) => true
  | _ => false

def clash (a b : Nat) : Bool := (decide (2 ≤ a) && decide (2 ≤ b)) || (a == 3 && b == 1) || (a == 1 && b == 3)

def hitB (d : Option Nat) (r : List Nat) : Bool :=
  match d with
  | some x => r.contains x
  | none => false

def bitsOf (o : Oper) (acc : List Nat) : Nat := o.after.toList.foldl (fun s e => if Region.binds .any e = true then s ||| (2 ^ e.on ||| acc.getD e.on 0) else s) 0

def ancs : List Oper → List Nat → List Nat
  | [], acc => acc
  | o :: os, acc => ancs os (acc ++ [bitsOf o acc])

def pairB (dx : List (Option Nat)) (is : List Ins) (an : List Nat) (i j : Nat) : Bool :=
  match is[i]?, is[j]? with
  | some a, some b => !(hitB (dx.getD i none) b.reads || hitB (dx.getD j none) a.reads || (clash a.op.cls b.op.cls && !(b.free && a.op.mk1))) || (an.getD j 0).testBit i
  | _, _ => true

/-- what a free one makes is read by nothing but what takes memory's order -/
def freeB (dx : List (Option Nat)) (is : List Ins) : Bool :=
  (List.range is.length).all fun j => match is[j]? with
    | some a => !a.free || is.all fun b => !hitB (dx.getD j none) b.reads || decide (2 ≤ b.op.cls)
    | none => true

def backB : Nat → List Oper → Bool
  | _, [] => true
  | j, o :: os => (o.after.toList.all fun e => !Region.binds .any e || decide (e.on < j)) && backB (j + 1) os

def ordB (ops : Array Oper) (n0 : Nat) (is : List Ins) : Bool :=
  backB 0 ops.toList && nodupB ((dix n0 is).filterMap id) && freeB (dix n0 is) is && (List.range is.length).all fun j => (List.range j).all fun i => pairB (dix n0 is) is (ancs ops.toList []) i j

inductive Dep (ops : Array Oper) : Nat → Nat → Prop
  | edge (j : Nat) (o : Oper) (e : Edge) : ops[j]? = some o → e ∈ o.after → Region.binds .any e = true → Dep ops e.on j
  | trans (i j : Nat) (o : Oper) (e : Edge) : ops[j]? = some o → e ∈ o.after → Region.binds .any e = true → Dep ops i e.on → Dep ops i j

theorem bitsOf_ok {o : Oper} {acc : List Nat} {i : Nat} (h : (bitsOf o acc).testBit i = true) : ∃ e ∈ o.after, Region.binds .any e = true ∧ (e.on = i ∨ (acc.getD e.on 0).testBit i = true) := by
  have key : ∀ (l : List Edge) (s : Nat), (l.foldl (fun s e => if Region.binds .any e = true then s ||| (2 ^ e.on ||| acc.getD e.on 0) else s) s).testBit i = true →
      s.testBit i = true ∨ ∃ e ∈ l, Region.binds .any e = true ∧ (e.on = i ∨ (acc.getD e.on 0).testBit i = true) := by
    intro l
    induction l with
    | nil => intro s h; exact .inl h
    | cons e l ih =>
      intro s h
      simp only [List.foldl_cons] at h
      rcases ih _ h with h1 | ⟨e', he', h2⟩
      · split at h1
        · rename_i hb
          simp only [Nat.testBit_or, Bool.or_eq_true, Nat.testBit_two_pow, decide_eq_true_eq] at h1
          rcases h1 with h1 | h1 | h1
          · exact .inl h1
          · exact .inr ⟨e, by simp, hb, .inl h1⟩
          · exact .inr ⟨e, by simp, hb, .inr h1⟩
        · exact .inl h1
      · exact .inr ⟨e', by simp [he'], h2⟩
  rcases key _ _ h with h1 | ⟨e, he, h2⟩
  · simp at h1
  · exact ⟨e, by simpa using he, h2⟩

theorem ancs_ok {ops : Array Oper} : ∀ (os : List Oper) (acc : List Nat), os = ops.toList.drop acc.length → (∀ k i, (acc.getD k 0).testBit i = true → Dep ops i k) → ∀ k i, ((ancs os acc).getD k 0).testBit i = true → Dep ops i k
  | [], acc, _, h, k, i, hk => h k i hk
  | o :: os, acc, ho, h, k, i, hk => by
    simp only [ancs] at hk
    have ho2 : ops.toList[acc.length]? = some o := by
      have : (ops.toList.drop acc.length)[0]? = some o := by rw [← ho]; rfl
      simpa using this
    refine ancs_ok os (acc ++ [bitsOf o acc]) ?_ ?_ k i hk
    · have : (ops.toList.drop acc.length).tail = os := by rw [← ho]; rfl
      simpa using this.symm
    · intro k i hki
      rcases Nat.lt_trichotomy k acc.length with hlt | heq | hgt
      · rw [List.getD_eq_getElem?_getD, List.getElem?_append_left hlt, ← List.getD_eq_getElem?_getD] at hki
        exact h k i hki
      · subst heq
        simp [List.getD_eq_getElem?_getD] at hki
        obtain ⟨e, he, hb, h1⟩ := bitsOf_ok hki
        have hop : ops[acc.length]? = some o := by simpa using ho2
        rcases h1 with rfl | h1
        · exact .edge _ o e hop he hb
        · exact .trans _ _ o e hop he hb (h _ _ h1)
      · rw [List.getD_eq_getElem?_getD, List.getElem?_eq_none (by simp; omega)] at hki
        simp at hki

/-! What an instruction comes to -/

section
variable (P : Program) (G : Globs)

def stepD (i : Ins) (env : List AV) (h : Heap) (v : AV) (h' : Heap) : Prop :=
  match i.op with
  | .q q => ∃ p, qev h q (i.args.map (Opd.get env)) = some (p, v) ∧ p ∧ h' = h
  | .e e => ∃ p, eev h e (i.args.map (Opd.get env)) = some (p, v, h') ∧ p
  | .call f => (∃ l, h' = h ++ l) ∧ wpF P G f (i.args.map (Opd.get env)) h fun a b => a = v ∧ b = h'
  | .callv => (∃ l, h' = h ++ l) ∧ ∃ f caps rest, i.args.map (Opd.get env) = .fn f caps :: rest ∧ wpF P G f (rest ++ caps) h fun a b => a = v ∧ b = h'
  | .callp f => h' = h ∧ v.bnd 0 = true ∧ ∀ H, wpF P G f (i.args.map (Opd.get env)) H fun a b => a = v ∧ b = H
  | .nilq _ => False
  | .callm f => ∃ ver n e blk, v = .own h.length ver [] 0 n e ∧ h' = h ++ [some blk] ∧ blk.root.bnd 0 = true ∧ ∀ H, wpF P G f (i.args.map (Opd.get env)) H fun a b => a = .own H.length ver [] 0 n e ∧ b = H ++ [some blk]
  | .callw f => h.length ≤ h'.length ∧ wpF P G f (i.args.map (Opd.get env)) h fun a b => a = v ∧ b = h'
  | .pairs _ => False

def goD (i : Ins) (env : List AV) (h : Heap) (v : AV) (h' : Heap) : Prop :=
  match i.g with
  | none => stepD P G i env h v h'
  | some (k, want) => (env.getD k .un = .bool want ∧ stepD P G i env h v h') ∨ ((env.getD k .un = .bool (!want) ∨ env.getD k .un = .tup []) ∧ v = .tup [] ∧ h' = h)

def stepW (i : Ins) (env : List AV) (h : Heap) (K : List AV → Heap → Prop) : Prop :=
  match i.op with
  | .q q => match qev h q (i.args.map (Opd.get env)) with
    | some (p, v) => p ∧ K (putE env i.dst v) h
    | none => False
  | .e e => match eev h e (i.args.map (Opd.get env)) with
    | some (p, v, h') => p ∧ K (putE env i.dst v) h'
    | none => False
  | .call f => ∃ v l, wpF P G f (i.args.map (Opd.get env)) h (fun a b => a = v ∧ b = h ++ l) ∧ K (putE env i.dst v) (h ++ l)
  | .callv => match i.args.map (Opd.get env) with
    | .fn f caps :: rest => ∃ v l, wpF P G f (rest ++ caps) h (fun a b => a = v ∧ b = h ++ l) ∧ K (putE env i.dst v) (h ++ l)
    | _ => False
  | .callp f => ∃ v, v.bnd 0 = true ∧ (∀ H, wpF P G f (i.args.map (Opd.get env)) H fun a b => a = v ∧ b = H) ∧ K (putE env i.dst v) h
  | .nilq _ => False
  | .callm f => ∃ ver n e blk, blk.root.bnd 0 = true ∧ (∀ H, wpF P G f (i.args.map (Opd.get env)) H fun a b => a = .own H.length ver [] 0 n e ∧ b = H ++ [some blk]) ∧ K (putE env i.dst (.own h.length ver [] 0 n e)) (h ++ [some blk])
  | .callw f => ∃ v h', h.length ≤ h'.length ∧ wpF P G f (i.args.map (Opd.get env)) h (fun a b => a = v ∧ b = h') ∧ K (putE env i.dst v) h'
  | .pairs _ => False

/-- Instructions, one behind the other, of which each call answers one thing. -/
def wpD : List Ins → List AV → Heap → (List AV → Heap → Prop) → Prop
  | [], env, h, K => K env h
  | i :: r, env, h, K =>
    match i.g with
    | none => stepW P G i env h fun env h => wpD r env h K
    | some (j, want) => match env.getD j .un with
      | .bool b => (b = want → stepW P G i env h fun env h => wpD r env h K) ∧ (b = !want → wpD r (putE env i.dst (.tup [])) h K)
      | .tup [] => wpD r (putE env i.dst (.tup [])) h K
      | _ => False

variable {P} {G}

theorem stepW_ok {i : Ins} {env : List AV} {h : Heap} {K : List AV → Heap → Prop} (hw : stepW P G i env h K) : ∃ v h', stepD P G i env h v h' ∧ K (putE env i.dst v) h' := by
  unfold stepW at hw
  unfold stepD
  split at hw
  · rename_i q hq
    split at hw
    · rename_i p v hv; exact ⟨v, h, ⟨p, hv, hw.1, rfl⟩, hw.2⟩
    · exact hw.elim
  · rename_i e he
    split at hw
    · rename_i p v h' hv; exact ⟨v, h', ⟨p, hv, hw.1⟩, hw.2⟩
    · exact hw.elim
  · obtain ⟨v, l, h1, h2⟩ := hw
    exact ⟨v, h ++ l, ⟨⟨l, rfl⟩, h1⟩, h2⟩
  · split at hw
    · rename_i f caps rest hm
      obtain ⟨v, l, h1, h2⟩ := hw
      exact ⟨v, h ++ l, ⟨⟨l, rfl⟩, f, caps, rest, hm, h1⟩, h2⟩
    · exact hw.elim
  · obtain ⟨v, h0, h1, h2⟩ := hw
    exact ⟨v, h, ⟨rfl, h0, h1⟩, h2⟩
  · exact hw.elim
  · obtain ⟨ver, n, e, blk, h0, h1, h2⟩ := hw
    exact ⟨_, _, ⟨ver, n, e, blk, rfl, rfl, h0, h1⟩, h2⟩
  · obtain ⟨v, h1, h0, h2, h3⟩ := hw
    exact ⟨v, h1, ⟨h0, h2⟩, h3⟩
  · exact hw.elim

theorem wpD_cons {i : Ins} {r : List Ins} {env : List AV} {h : Heap} {K : List AV → Heap → Prop} (hw : wpD P G (i :: r) env h K) : ∃ v h', goD P G i env h v h' ∧ wpD P G r (putE env i.dst v) h' K := by
  simp only [wpD] at hw
  unfold goD
  cases hg : i.g with
  | none =>
    simp only [hg] at hw
    exact stepW_ok hw
  | some kw =>
    obtain ⟨k, want⟩ := kw
    simp only [hg] at hw
    split at hw
    · rename_i b hb
      by_cases hbw : b = want
      · subst hbw
        obtain ⟨v, h', h1, h2⟩ := stepW_ok (hw.1 rfl)
        exact ⟨v, h', .inl ⟨hb, h1⟩, h2⟩
      · have : b = !want := by cases b <;> cases want <;> simp_all
        exact ⟨.tup [], h, .inr ⟨.inl (this ▸ hb), rfl, rfl⟩, hw.2 this⟩
    · rename_i hb
      exact ⟨.tup [], h, .inr ⟨.inr hb, rfl, rfl⟩, hw⟩
    · exact hw.elim

theorem wpD_trace : ∀ {is : List Ins} {env : List AV} {h : Heap} {K : List AV → Heap → Prop}, wpD P G is env h K →
    ∃ (E : Nat → List AV) (T : Nat → Heap) (V : Nat → AV), E 0 = env ∧ T 0 = h ∧ (∀ j i, is[j]? = some i → goD P G i (E j) (T j) (V j) (T (j + 1)) ∧ E (j + 1) = putE (E j) i.dst (V j)) ∧ K (E is.length) (T is.length)
  | [], env, h, K, hw => ⟨fun _ => env, fun _ => h, fun _ => .un, rfl, rfl, by simp, hw⟩
  | i :: r, env, h, K, hw => by
    obtain ⟨v, h', h1, h2⟩ := wpD_cons hw
    obtain ⟨E, T, V, e1, e2, e3, e4⟩ := wpD_trace h2
    refine ⟨fun | 0 => env | j + 1 => E j, fun | 0 => h | j + 1 => T j, fun | 0 => v | j + 1 => V j, rfl, rfl, ?_, e4⟩
    intro j i' hi
    cases j with
    | zero =>
      simp at hi; subst hi
      simp only [e1, e2]
      exact ⟨h1, trivial⟩
    | succ j =>
      simp at hi
      exact e3 j i' hi

/-! Memory that only grew -/

theorem qev_free {q : Q} (hq : (Iop.q q).cls = 0) (h h' : Heap) (as : List AV) : qev h q as = qev h' q as := by
  cases q <;> simp [Iop.cls] at hq <;> (unfold qev; split <;> simp_all)

theorem Heap.get_some_append {h l : Heap} {b : Nat} {blk : Blk} (hg : h.get b = some blk) : Heap.get (h ++ l) b = some blk := by
  rw [Heap.get_append _ _ _ (Heap.get_lt hg)]; exact hg

theorem ldP_append {h l : Heap} {p a : AV} (hl : ldP h p = some a) : ldP (h ++ l) p = some a := by
  cases p <;> simp only [ldP] at hl ⊢ <;> try assumption
  split at hl
  · rename_i blk hg
    rw [Heap.get_some_append hg]; exact hl
  · cases hl

theorem rd_append {h l : Heap} {p : AV} {xs : List AV} (hl : rd h p = some xs) : rd (h ++ l) p = some xs := by
  cases p <;> simp only [rd] at hl ⊢ <;> try assumption
  split at hl
  · rename_i blk hg
    rw [Heap.get_some_append hg]; exact hl
  · cases hl

theorem ldP_bnd {h l : Heap} {p : AV} (hb : p.bnd h.length = true) : ldP (h ++ l) p = ldP h p := by
  cases p <;> simp only [ldP]
  simp only [AV.bnd, decide_eq_true_eq] at hb
  rw [Heap.get_append _ _ _ hb]

theorem rd_bnd {h l : Heap} {p : AV} (hb : p.bnd h.length = true) : rd (h ++ l) p = rd h p := by
  cases p <;> simp only [rd]
  simp only [AV.bnd, decide_eq_true_eq] at hb
  rw [Heap.get_append _ _ _ hb]

theorem qev_append {q : Q} (hq : (Iop.q q).cls ≤ 1) {h l : Heap} {as : List AV} {p : Prop} {v : AV} (he : qev h q as = some (p, v)) (hp : p) : ∃ p', qev (h ++ l) q as = some (p', v) ∧ p' := by
  by_cases h0 : (Iop.q q).cls = 0
  · exact ⟨p, by rw [qev_free h0 (h ++ l) h]; exact he, hp⟩
  · cases q <;> simp [Iop.cls] at h0
    · rename_i s
      rcases as with _ | ⟨a, _ | ⟨b, as⟩⟩ <;> simp only [qev, reduceCtorEq] at he ⊢
      simp only [Option.map_eq_some_iff, Prod.mk.injEq] at he
      obtain ⟨x, h1, rfl, rfl⟩ := he
      exact ⟨_, by simp only [ldP_append h1, Option.map_some], hp⟩
    · rcases as with _ | ⟨a, _ | ⟨b, as⟩⟩ <;> simp only [qev, reduceCtorEq] at he ⊢
      split at he
      · rename_i xs hx
        rw [rd_append hx]
        exact ⟨p, he, hp⟩
      · cases he

theorem qev_bnd {q : Q} (hq : (Iop.q q).cls ≤ 1) {h l : Heap} {as : List AV} (hb : ∀ a ∈ as, a.bnd h.length = true) : qev (h ++ l) q as = qev h q as := by
  by_cases h0 : (Iop.q q).cls = 0
  · exact qev_free h0 _ _ _
  · cases q <;> simp [Iop.cls] at h0
    · rcases as with _ | ⟨a, _ | ⟨b, as⟩⟩ <;> simp only [qev]
      rw [ldP_bnd (hb a (by simp))]
    · rcases as with _ | ⟨a, _ | ⟨b, as⟩⟩ <;> simp only [qev]
      rw [rd_bnd (hb a (by simp))]

theorem eev_grow {e : E} (he : (Iop.e e).cls ≤ 2) {h h' : Heap} {as : List AV} {p : Prop} {v : AV} (hv : eev h e as = some (p, v, h')) : ∃ l, h' = h ++ l := by
  cases e <;> simp [Iop.cls] at he <;> unfold eev at hv
  all_goals
    split at hv <;> simp_all
  all_goals first
    | (have h1 := hv.2.2; exact ⟨_, h1.symm⟩)
    | (obtain ⟨_, _, _, _, h1⟩ := hv; exact ⟨_, h1.symm⟩)
    | (obtain ⟨_, _, _, _, h1⟩ := hv; refine ⟨[], ?_⟩; simp [h1]; done)
    | (split at hv
       · simp only [Option.some.injEq, Prod.mk.injEq] at hv; exact ⟨_, hv.2.2.symm⟩
       · cases hv)

theorem bld_free {s : Shape} {z : AV} {ix : List Nat} {h h1 : Heap} {as : List AV} {p : Prop} {v : AV} (hv : eev h (.bld s z ix) as = some (p, v, h1)) : h1 = h ∧ ∀ h2, eev h2 (.bld s z ix) as = some (p, v, h2) := by
  have key : ∀ h, eev h (.bld s z ix) as = (match z with
      | .agg zs => (setAll zs ix as).map fun ps => (HasAt s ix as, .agg ps, h)
      | _ => none) := by
    intro h
    cases z <;> rfl
  rw [key] at hv
  cases z with
  | agg zs =>
    simp only [Option.map_eq_some_iff, Prod.mk.injEq] at hv
    obtain ⟨ps, h3, h4, h5, h6⟩ := hv
    refine ⟨h6.symm, fun h2 => ?_⟩
    rw [key]
    subst h4 h5
    simp only [h3, Option.map_some]
  | _ => cases hv

theorem goD_free {i : Ins} {env : List AV} {h h' : Heap} {v : AV} (hc : i.op.cls ≤ 1) (hg : goD P G i env h v h') : h' = h := by
  have hs : stepD P G i env h v h' → h' = h := by
    intro hs
    unfold stepD at hs
    split at hs
    · obtain ⟨p, _, _, h1⟩ := hs; exact h1
    · rename_i e he
      rw [he] at hc
      obtain ⟨p, h1, _⟩ := hs
      cases e <;> simp [Iop.cls] at hc
      exact (bld_free h1).1
    · rename_i e he; rw [he] at hc; simp [Iop.cls] at hc
    · rename_i he; rw [he] at hc; simp [Iop.cls] at hc
    · exact hs.1
    · exact hs.elim
    · rename_i he; rw [he] at hc; simp [Iop.cls] at hc
    · rename_i he; rw [he] at hc; simp [Iop.cls] at hc
    · exact hs.elim
  unfold goD at hg
  split at hg
  · exact hs hg
  · rcases hg with ⟨_, h1⟩ | ⟨_, _, h1⟩
    · exact hs h1
    · exact h1

theorem goD_grow {i : Ins} {env : List AV} {h h' : Heap} {v : AV} (hc : i.op.cls ≤ 2) (hg : goD P G i env h v h') : ∃ l, h' = h ++ l := by
  have hs : stepD P G i env h v h' → ∃ l, h' = h ++ l := by
    intro hs
    unfold stepD at hs
    split at hs
    · obtain ⟨p, _, _, h1⟩ := hs; exact ⟨[], by simp [h1]⟩
    · rename_i e he
      obtain ⟨p, h1, _⟩ := hs
      rw [he] at hc
      exact eev_grow hc h1
    · exact hs.1
    · exact hs.1
    · exact ⟨[], by simp [hs.1]⟩
    · exact hs.elim
    · obtain ⟨_, _, _, blk, _, h1, _⟩ := hs
      exact ⟨_, h1⟩
    · rename_i he; rw [he] at hc; simp [Iop.cls] at hc
    · exact hs.elim
  unfold goD at hg
  split at hg
  · exact hs hg
  · rcases hg with ⟨_, h1⟩ | ⟨_, _, h1⟩
    · exact hs h1
    · exact ⟨[], by simp [h1]⟩

/-! Regions, place by place -/

def Dst.add : Dst → Nat
  | .new => 1
  | _ => 0

theorem putE_length {env : List AV} {d : Dst} {v : AV} : (putE env d v).length = env.length + d.add := by
  cases d <;> simp [putE, Dst.add]

theorem slD_length {sl sl' : List Nat} {o : Option Nat} {d : Dst} (h : slD sl o d = some sl') : sl'.length = sl.length + d.add := by
  cases d <;> cases o <;> simp only [slD, reduceCtorEq] at h
  · cases h; rfl
  · split at h
    · cases h; rfl
    · cases h
  · split at h
    · cases h
    · cases h; simp [Dst.add]

/-- what is known of one of a region's operations -/
structure AtOk (P : Program) (G : Globs) (n : Nat) (ops : Array Oper) (sl' : List Nat) (o : Oper) (i : Ins) (slj : List Nat) (d : Option Nat) : Prop where
  pre : ∃ ext, sl' = slj ++ ext
  iop : IOp P G slj o.op i.op i.args
  dst : match d with
    | some x => ∃ s, o.dst = some s ∧ sl'[x]? = some s
    | none => o.dst = none
  dd : match i.dst with
    | .none => d = none
    | .var x => d = some x ∧ x < slj.length
    | .new => d = some slj.length
  lt : ∀ s, o.dst = some s → s < n
  gd : (o.guard = none ∧ i.g = none) ∨ ∃ j k s want oj, o.guard = some (j, want) ∧ i.g = some (k, want) ∧ ops[j]? = some oj ∧ oj.dst = some s ∧ sl'[k]? = some s ∧ k < slj.length

theorem slD_pre {sl sl' : List Nat} {o : Option Nat} {d : Dst} (h : slD sl o d = some sl') : ∃ ext, sl' = sl ++ ext := by
  cases d <;> cases o <;> simp only [slD, reduceCtorEq] at h
  · cases h; exact ⟨[], by simp⟩
  · split at h
    · cases h; exact ⟨[], by simp⟩
    · cases h
  · split at h
    · cases h
    · cases h; exact ⟨_, rfl⟩

theorem RegOk.pre {n : Nat} {ops : Array Oper} {sl sl' : List Nat} {os : List Oper} {is : List Ins} (h : RegOk P G n ops sl os is sl') : ∃ ext, sl' = sl ++ ext := by
  induction h with
  | nil sl => exact ⟨[], by simp⟩
  | plain sl sl1 sl2 o i os is _ _ _ hd _ _ ih =>
    obtain ⟨e1, h1⟩ := slD_pre hd
    obtain ⟨e2, h2⟩ := ih
    exact ⟨e1 ++ e2, by rw [h2, h1]; simp⟩
  | guarded sl sl1 sl2 o i os is j k s want oj _ _ _ _ _ _ hd _ _ ih =>
    obtain ⟨e1, h1⟩ := slD_pre hd
    obtain ⟨e2, h2⟩ := ih
    exact ⟨e1 ++ e2, by rw [h2, h1]; simp⟩

theorem RegOk.nodup {n : Nat} {ops : Array Oper} {sl sl' : List Nat} {os : List Oper} {is : List Ins} (h : RegOk P G n ops sl os is sl') : sl.Nodup → (∀ s ∈ sl, s < n) → sl'.Nodup ∧ ∀ s ∈ sl', s < n := by
  have one : ∀ {sl sl1 : List Nat} {o : Option Nat} {d : Dst}, slD sl o d = some sl1 → (∀ s, o = some s → s < n) → sl.Nodup → (∀ s ∈ sl, s < n) → sl1.Nodup ∧ ∀ s ∈ sl1, s < n := by
    intro sl sl1 o d h hs hn hl
    cases d <;> cases o <;> simp only [slD, reduceCtorEq] at h
    · cases h; exact ⟨hn, hl⟩
    · split at h
      · cases h; exact ⟨hn, hl⟩
      · cases h
    · split at h
      · cases h
      · rename_i hns
        cases h
        refine ⟨List.nodup_append.2 ⟨hn, by simp, fun x hx y hy e => ?_⟩, fun s h => ?_⟩
        · simp at hy; subst hy; subst e; exact hns hx
        · simp only [List.mem_append, List.mem_singleton] at h
          rcases h with h | rfl
          · exact hl s h
          · exact hs _ rfl
  induction h with
  | nil sl => exact fun h1 h2 => ⟨h1, h2⟩
  | plain sl sl1 sl2 o i os is _ _ _ hd hs _ ih =>
    intro h1 h2
    obtain ⟨g1, g2⟩ := one hd hs h1 h2
    exact ih g1 g2
  | guarded sl sl1 sl2 o i os is j k s want oj _ _ _ _ _ _ hd hs _ ih =>
    intro h1 h2
    obtain ⟨g1, g2⟩ := one hd hs h1 h2
    exact ih g1 g2

def DstAt (sl sl' : List Nat) (o : Option Nat) : Dst → Prop
  | .none => o = none
  | .var x => (∃ s, o = some s ∧ sl'[x]? = some s) ∧ x < sl.length
  | .new => ∃ s, o = some s ∧ sl'[sl.length]? = some s

theorem slD_dst {sl sl1 sl' : List Nat} {o : Option Nat} {d : Dst} (h : slD sl o d = some sl1) (hp : ∃ ext, sl' = sl1 ++ ext) : DstAt sl sl' o d := by
  obtain ⟨ext, rfl⟩ := hp
  cases d <;> cases o <;> simp only [slD, reduceCtorEq] at h
  · rfl
  · rename_i x s
    split at h
    · rename_i hx
      cases h
      have hl := (List.getElem?_eq_some_iff.1 hx).1
      exact ⟨⟨s, rfl, by rw [List.getElem?_append_left hl]; exact hx⟩, hl⟩
    · cases h
  · split at h
    · cases h
    · cases h; exact ⟨_, rfl, by simp⟩

theorem RegOk.at {n : Nat} {ops : Array Oper} {sl sl' : List Nat} {os : List Oper} {is : List Ins} (h : RegOk P G n ops sl os is sl') : os.length = is.length ∧ ∀ (j : Nat) (o : Oper) (i : Ins), os[j]? = some o → is[j]? = some i →
    ∃ slj d, (dix sl.length is)[j]? = some d ∧ AtOk P G n ops sl' o i slj d ∧ slj.length = sl.length + ((is.take j).map fun i => i.dst.add).sum := by
  induction h with
  | nil sl => simp
  | plain sl sl1 sl2 o i os is hg hig hi hd hs hr ih =>
    obtain ⟨il, ih⟩ := ih
    refine ⟨by simp [il], fun j o' i' ho hi' => ?_⟩
    have hsub : ∀ d r, dix sl.length (i :: is) = d :: r → r = dix sl1.length is := by
      intro d r h
      rw [slD_length hd]
      simp only [dix] at h
      split at h <;> (rename_i hx; cases h; rw [hx]; rfl)
    cases hdx : dix sl.length (i :: is) with
    | nil => simp only [dix] at hdx; split at hdx <;> cases hdx
    | cons d r =>
      have hr2 := hsub d r hdx
      subst hr2
      cases j with
      | zero =>
        simp at ho hi'
        subst ho; subst hi'
        obtain ⟨e1, h1⟩ := slD_pre hd
        obtain ⟨e2, h2⟩ := hr.pre
        have hdd := slD_dst hd hr.pre
        refine ⟨sl, d, by simp, ⟨⟨e1 ++ e2, by rw [h2, h1]; simp⟩, hi, ?_, ?_, hs, .inl ⟨hg, hig⟩⟩, by simp⟩
        · simp only [dix] at hdx
          split at hdx <;> (rename_i hx; injection hdx with hdx _; subst hdx; rw [hx] at hdd)
          · exact hdd
          · exact hdd.1
          · exact hdd
        · simp only [dix] at hdx
          split at hdx <;> (rename_i hx; injection hdx with hdx _; subst hdx; rw [hx] at hdd <;> exact ⟨rfl, hdd.2⟩)
      | succ j =>
        simp at ho hi'
        obtain ⟨slj, d', h1, h2, h3⟩ := ih j o' i' ho hi'
        refine ⟨slj, d', by simpa using h1, h2, ?_⟩
        rw [h3, slD_length hd]
        simp [Nat.add_assoc]
  | guarded sl sl1 sl2 o i os is j0 k s0 want oj hg hig hoj hojd hk hi hd hs hr ih =>
    obtain ⟨il, ih⟩ := ih
    refine ⟨by simp [il], fun j o' i' ho hi' => ?_⟩
    have hsub : ∀ d r, dix sl.length (i :: is) = d :: r → r = dix sl1.length is := by
      intro d r h
      rw [slD_length hd]
      simp only [dix] at h
      split at h <;> (rename_i hx; cases h; rw [hx]; rfl)
    cases hdx : dix sl.length (i :: is) with
    | nil => simp only [dix] at hdx; split at hdx <;> cases hdx
    | cons d r =>
      have hr2 := hsub d r hdx
      subst hr2
      cases j with
      | zero =>
        simp at ho hi'
        subst ho; subst hi'
        obtain ⟨e1, h1⟩ := slD_pre hd
        obtain ⟨e2, h2⟩ := hr.pre
        have hdd := slD_dst hd hr.pre
        have hkl := (List.getElem?_eq_some_iff.1 hk).1
        refine ⟨sl, d, by simp, ⟨⟨e1 ++ e2, by rw [h2, h1]; simp⟩, hi, ?_, ?_, hs, .inr ⟨j0, k, s0, want, oj, hg, hig, hoj, hojd, ?_, hkl⟩⟩, by simp⟩
        · simp only [dix] at hdx
          split at hdx <;> (rename_i hx; injection hdx with hdx _; subst hdx; rw [hx] at hdd)
          · exact hdd
          · exact hdd.1
          · exact hdd
        · simp only [dix] at hdx
          split at hdx <;> (rename_i hx; injection hdx with hdx _; subst hdx; rw [hx] at hdd <;> exact ⟨rfl, hdd.2⟩)
        · rw [h2, h1, List.append_assoc, List.getElem?_append_left hkl]; exact hk
      | succ j =>
        simp at ho hi'
        obtain ⟨slj, d', h1, h2, h3⟩ := ih j o' i' ho hi'
        refine ⟨slj, d', by simpa using h1, h2, ?_⟩
        rw [h3, slD_length hd]
        simp [Nat.add_assoc]

end
end Go.V
