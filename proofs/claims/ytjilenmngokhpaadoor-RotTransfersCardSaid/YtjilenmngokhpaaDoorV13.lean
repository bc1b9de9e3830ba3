import Derived.Test.YtjilenmngokhpaaDoorV12
/- Operations that make or write memory. -/
namespace Go.V
open Go

inductive E where
  | alloc (te : TypeId) (s : Shape) (z : AV)
  | box (te : TypeId) (s : Shape)
  | store (s : Shape)
  | mksl (te : TypeId) (e : Shape) (bytes : Nat) (z : AV)
  | bsl (te : TypeId) (e : Shape) (z : AV) (len : Nat) (ix : List Nat)
  | app (te : TypeId) (e : Shape) (bytes : Nat)
  | appS (te : TypeId)
  | cpy (e : Shape)
  | cpyS
  | s2b (te : TypeId)
  | bld (s : Shape) (z : AV) (ix : List Nat)

/-- elements of a container laid anew from a place on -/
def splL (ps : List AV) (off : Nat) (qs : List AV) : List AV := ps.take off ++ qs ++ ps.drop (off + qs.length)

/-- some of a slice's first elements are others then -/
def cpH (H : Heap) (a : AV) (qs : List AV) : Option Heap :=
  match a with
  | .own b ver pa off _ _ => match H.get b with
    | some blk => if blk.ver = ver then (match getP blk.root pa with
      | some (.agg ps) => (setP blk.root pa (.agg (splL ps off qs))).map fun r => H.set b (some { blk with root := r })
      | _ => none) else none
    | none => none
  | _ => none

/-- What an operation that makes or writes memory comes to. -/
noncomputable def eev (H : Heap) (o : E) (args : List AV) : Option (Prop × AV × Heap) :=
  match o, args with
  | .alloc te s z, [] => some (True, .ptr H.length 0 [0] s, H ++ [some ⟨te, 0, false, .arr 1 s, .agg [z]⟩])
  | .box te s, [v] => some (HasSh s v, .ptr H.length 0 [0] s, H ++ [some ⟨te, 0, false, .arr 1 s, .agg [v]⟩])
  | .store s, [p, v] => (stP H p v).map fun H' => (psh p = some s ∧ HasSh s v, .un, H')
  | .mksl te e by_ z, [l, c] => match l.num, c.num with
    | some i, some j => some (0 ≤ i ∧ i ≤ j ∧ (by_ : Int) * j ≤ 281474976710656 ∧ j ≤ 9223372036854775807, .own H.length 0 [] 0 i.toNat e, H ++ [some ⟨te, 0, true, .arr i.toNat e, .agg (List.replicate i.toNat z)⟩])
    | _, _ => none
  | .bsl te e z len ix, vs => (setAll (List.replicate len z) ix vs).map fun ps => (HasAt (.arr len e) ix vs ∧ len * e.size ≤ 16777216, .own H.length 0 [] 0 len e, H ++ [some ⟨te, 0, true, .arr len e, .agg ps⟩])
  | .app te e by_, [.nils, y] => (rd H y).map fun qs => ((∀ q ∈ qs, HasSh e q) ∧ qs.length ≤ maxLen ∧ qs.length * by_ ≤ 140737488355328,
      .own H.length 1 [] 0 qs.length e, H ++ [some ⟨te, 1, true, .arr qs.length e, .agg qs⟩])
  | .app te e by_, [.own b ver pa off n e', y] => match H.get b, rd H y with
    | some blk, some qs => match blk.root with
      | .agg ps => some (blk.ver = ver ∧ pa = [] ∧ off = 0 ∧ e' = e ∧ blk.e = te ∧ blk.app = true ∧ blk.sh = .arr n e ∧ (∀ q ∈ qs, HasSh e q) ∧ n + qs.length ≤ maxLen ∧ (n + qs.length) * by_ ≤ 140737488355328,
          .own b (ver + 1) [] 0 (n + qs.length) e, H.set b (some ⟨te, ver + 1, true, .arr (n + qs.length) e, .agg (ps ++ qs)⟩))
      | _ => none
    | _, _ => none
  | .appS te, [.nils, .str l] => some (l.length ≤ 140737488355328, .own H.length 1 [] 0 l.length .leaf, H ++ [some ⟨te, 1, true, .arr l.length .leaf, .agg (l.map .u8)⟩])
  | .appS te, [.own b ver pa off n e', .str l] => match H.get b with
    | some blk => match blk.root with
      | .agg ps => some (blk.ver = ver ∧ pa = [] ∧ off = 0 ∧ e' = .leaf ∧ blk.e = te ∧ blk.app = true ∧ blk.sh = .arr n .leaf ∧ n + l.length ≤ 140737488355328,
          .own b (ver + 1) [] 0 (n + l.length) .leaf, H.set b (some ⟨te, ver + 1, true, .arr (n + l.length) .leaf, .agg (ps ++ l.map .u8)⟩))
      | _ => none
    | none => none
  | .cpy e, [.own b ver pa off n e', y] => match rd H y with
    | some qs => (cpH H (.own b ver pa off n e') (qs.take (min qs.length n))).map fun H' => (e' = e ∧ (∀ q ∈ qs, HasSh e q), .int (min qs.length n : Nat), H')
    | none => none
  | .cpyS, [.own b ver pa off n e', .str l] => (cpH H (.own b ver pa off n e') ((l.map AV.u8).take (min l.length n))).map fun H' => (e' = .leaf, .int (min l.length n : Nat), H')
  | .bld s (.agg zs) ix, vs => (setAll zs ix vs).map fun ps => (HasAt s ix vs, .agg ps, H)
  | .s2b te, [.str l] => some (l.length ≤ 140737488355328, .own H.length 0 [] 0 l.length .leaf, H ++ [some ⟨te, 0, false, .arr l.length .leaf, .agg (l.map .u8)⟩])
  | _, _ => none

structure ZeroOk (P : Program) (t : TypeId) (s : Shape) (z : AV) : Prop where
  ex : ∃ i v, P.info? t = some i ∧ i.zero = some v ∧ i.size = s.size ∧ (∀ w loc N, Rep w loc N v.cells.toList z)
  sh : HasSh s z

section
variable {P : Program} {w : World} {loc : Loc} {H : Heap}

theorem agg_one {N : Nat} {cs : List Value} {a : AV} (h : Rep w loc N cs a) : Rep w loc N cs (.agg [a]) := by
  have := Rep.agg cs [] a [] h .agg0
  simpa using this

/-- A new variable. -/
theorem var_new (hI : HeapInv w loc H) (te : TypeId) {s : Shape} {a : AV} {cs : Array Value} (hr : Rep w loc H.length cs.toList a) (hs : HasSh s a) :
    ∃ loc', HeapInv (w.alloc (.cells cs te)) loc' (H ++ [some ⟨te, 0, false, .arr 1 s, .agg [a]⟩]) ∧ Ext w loc H.length (w.alloc (.cells cs te)) loc' ∧
      Rep (w.alloc (.cells cs te)) loc' (H.length + 1) [.pointer (some ⟨w.heap.size, 0, none⟩)] (.ptr H.length 0 [0] s) := by
  have h := inv_new (w' := w.alloc (.cells cs te)) (c := cs) (fr := (0, 0)) (cs := cs.toList) (blk := ⟨te, 0, false, .arr 1 s, .agg [a]⟩) (cap := 0) hI rfl rfl rfl rfl (hasSh_arr_agg.2 ⟨rfl, by simpa using hs⟩) List.take_length (agg_one hr)
    (by simp) (by simp)
  refine ⟨_, h.1, h.2, .ptr _ _ _ _ _ _ (by omega) (fun l hl => ?_) (fun l hl _ => ?_)⟩
  · simp [updL] at hl; subst hl; exact Nat.le_refl _
  · simp [updL] at hl; subst hl
    exact ⟨w.heap.size, rfl, atS_arr (by omega), by simp [offS]⟩

/-- A new row of elements that may grow. -/
theorem row_new (hI : HeapInv w loc H) {w' : World} (te : TypeId) {e : Shape} {ps : List AV} {c : Array Value} {cs : List Value} {cap ver : Nat} (hh : w'.heap = w.heap.push (.cells c te)) (hos : w'.os = w.os) (htp : w'.tape = w.tape) (hou : w'.output = w.output)
    (ht : c.toList.take cs.length = cs) (hr : Rep w loc H.length cs (.agg ps)) (hs : ∀ p ∈ ps, HasSh e p) (hn : ps.length ≤ cap) (hcm : cap ≤ maxLen) (hcs : c.size = cap * e.size) :
    ∃ loc', HeapInv w' loc' (H ++ [some ⟨te, ver, true, .arr ps.length e, .agg ps⟩]) ∧ Ext w loc H.length w' loc' ∧
      Rep w' loc' (H.length + 1) [.slice (some ⟨w.heap.size, 0, none⟩) ps.length cap] (.own H.length ver [] 0 ps.length e) := by
  have h := inv_new (w' := w') (c := c) (fr := (0, 0)) (cs := cs) (blk := ⟨te, ver, true, .arr ps.length e, .agg ps⟩) (cap := cap) hI hh hos htp hou (hasSh_arr_agg.2 ⟨rfl, hs⟩) ht hr (by simp)
    (fun _ => ⟨rfl, _, _, rfl, hn, hcm, hcs⟩)
  refine ⟨_, h.1, h.2, .own _ _ _ _ _ _ _ _ (by omega) (fun l hl => ?_) hn (fun _ => ⟨_, _, rfl⟩) (by omega) (fun l hl _ => ?_)⟩
  · simp [updL] at hl; subst hl; exact Nat.le_refl _
  · simp [updL] at hl; subst hl
    exact ⟨ps.length, 0, cap, by simp [atS], by omega, rfl, hn, fun _ => by simp [offS], fun _ _ _ => ⟨rfl, rfl⟩⟩

theorem storeVar_run {t : TypeId} {s : Shape} (ht : TyOk P t s) (hI : HeapInv w loc H) {p v : AV} {H' : Heap} (hst : stP H p v = some H') (hps : psh p = some s) (hs : HasSh s v) {pv vv : Value} (hp : RepV w loc H.length pv p) (hv : RepV w loc H.length vv v) :
    ∃ w', (Instr.storeAt t pv vv).run P w = .ok () w' ∧ HeapInv w' loc H' ∧ Ext w loc H.length w' loc ∧ H'.length = H.length := by
  cases p <;> simp only [psh, Option.some.injEq, reduceCtorEq] at hps <;> try (simp [stP] at hst; done)
  rename_i b ver pa s'
  subst hps
  obtain ⟨k, o, cur, te, fr, rfl, hk, hfit, hfr, h1, hI', hE, hl⟩ := st_heap hI (hp.rep rfl) hst hs (hv.cells hs)
  refine ⟨_, ?_, hI', hE, hl⟩
  have hsz : vv.cells.size = s'.size := by
    have := (hv.cells hs).size s' hs
    simpa using this
  have hst := run_storeCells_row P k o te fr vv.cells.toList 0 cur w hk (by simpa using hfit) hfr h1
  simp only [Nat.add_zero] at hst
  simp only [Instr.storeAt, Instr.sureAddr, Sem.run_bind, Sem.run_pure, Result.andThen_ok, storeVar, ht.run_size, hsz, ne_eq, not_true_eq_false, if_false]
  exact hst

end
end Go.V
