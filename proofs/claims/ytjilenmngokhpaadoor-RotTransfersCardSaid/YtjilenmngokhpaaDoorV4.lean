import Derived.Test.YtjilenmngokhpaaDoorV3
/- Writing into a block of the call's own; a new block; append. -/
namespace Go.V
open Go

theorem run_storeCells_row (P : Program) (g o : Nat) (t : TypeId) (fr : Nat × Nat) : ∀ (vs : List Value) (i : Nat) (cur : Array Value) (w : World), w.heap[g]? = some (.cells cur t fr) → o + i + vs.length ≤ cur.size →
    (∀ j, j < cur.size → ¬ (fr.1 ≤ j ∧ j < fr.2)) → (∀ v ∈ vs, v.oneCell' = true) →
    (storeCells ⟨g, o, none⟩ vs i).run P w = .ok () (w.setRow g (cur.toList.take (o + i) ++ vs ++ cur.toList.drop (o + i + vs.length)).toArray)
  | [], i, cur, w, hg, _, _, _ => by
    simp only [storeCells, List.append_nil, List.length_nil, Nat.add_zero, List.take_append_drop, Array.toArray_toList]
    rw [setRow_self w g cur t fr hg]
    rfl
  | v :: rest, i, cur, w, hg, hl, hfr, h1 => by
    have hi : o + i < cur.size := by simp at hl; omega
    have hcell : w.cell? ⟨g, o + i, none⟩ = some cur[o + i] := by simp [World.cell?, hg, hi]
    have hfro : w.frozen? ⟨g, o + i, none⟩ = false := by
      have := hfr (o + i) hi
      simp only [World.frozen?, hg]
      simpa using this
    have hst : (store ((⟨g, o, none⟩ : Addr).add i) v).run P w = .ok () (w.setRow g (cur.setIfInBounds (o + i) v)) := by
      rw [add_plain, run_store P w _ v _ (h1 v (by simp)), hcell]
      simp [hfro, setCell_eq_setRow w g (o + i) cur t fr v hg]
    have ih := run_storeCells_row P g o t fr rest (i + 1) (cur.setIfInBounds (o + i) v) (w.setRow g (cur.setIfInBounds (o + i) v)) (setRow_heap w g cur _ t _ hg) (by simp at hl ⊢; omega)
      (fun j hj => hfr j (by simpa using hj)) (fun x hx => h1 x (by simp [hx]))
    simp only [storeCells, Sem.run_bind, hst, Result.andThen_ok, ih, setRow_setRow]
    congr 3
    have e := list_seg_step cur.toList (o + i) v rest (by simp at hl ⊢; omega)
    simpa [Array.toList_setIfInBounds, Nat.add_assoc] using e

theorem ext_setRow {w : World} {loc : Loc} {N k b : Nat} {l : Lc} (hb : loc b = some l) (hk : l.wb = some k) (cs : Array Value) : Ext w loc N (w.setRow k cs) loc :=
  ⟨rfl, rfl, rfl, by simp, fun i _ hn => setRow_other w k i cs (fun e => hn b l hb (e ▸ hk)), fun _ l' h => .inr ⟨l', h, .inl rfl⟩, fun b' l' _ h hk => .inr ⟨b', l', h, hk⟩⟩

/-- A block's row is another one then: the heap's invariant is kept. -/
theorem inv_setRow {w : World} {loc : Loc} {H : Heap} (hI : HeapInv w loc H) {b : Nat} {blk : Blk} {l : Lc} {k : Nat} (hg : H.get b = some blk) (hl : loc b = some l) (hk : l.wb = some k)
    {cur : Array Value} {fr : Nat × Nat} (hc : w.heap[k]? = some (.cells cur blk.e fr)) (new : Array Value) (hsz : new.size = cur.size) (cs' : List Value) (root' : AV)
    (htake : new.toList.take cs'.length = cs') (hr : Rep w loc H.length cs' root') (hsh : HasSh blk.sh root') :
    HeapInv (w.setRow k new) loc (H.set b (some { blk with root := root' })) := by
  have hb : b < H.length := Heap.get_lt hg
  have hE : Ext w loc H.length (w.setRow k new) loc := ext_setRow hl hk new
  refine ⟨?_, ?_, hI.inj⟩
  · intro b' h'
    rw [Heap.get_set _ _ _ _ hb] at h'
    split at h'
    · cases h'
    · exact hI.out b' h'
  · intro b' blk' h'
    rw [Heap.get_set _ _ _ _ hb] at h'
    split at h'
    · rename_i e
      subst e
      cases h'
      obtain ⟨l', hl', h1, h2, h3, h4⟩ := hI.blk b' blk hg
      rw [hl] at hl'; cases hl'
      rw [hk] at h4
      obtain ⟨c, fr', cs, hc', ht, _, hfr, happ⟩ := h4
      rw [hc] at hc'
      obtain ⟨rfl, rfl⟩ : cur = c ∧ fr = fr' := by simpa using hc'
      refine ⟨l, hl, h1, h2, hsh, ?_⟩
      rw [hk]
      refine ⟨new, fr, cs', setRow_heap w k cur new _ fr hc, htake, ?_, fun i hi => hfr i (by omega), ?_⟩
      · simp only [List.length_set]
        exact hr.mono hE (Nat.le_refl _)
      · intro ha
        obtain ⟨e1, n, e, e2, e3, e4, e5⟩ := happ ha
        exact ⟨e1, n, e, e2, e3, e4, by omega⟩
    · rename_i hne
      obtain ⟨l', hl', hB⟩ := hI.blk b' blk' h'
      refine ⟨l', hl', ?_⟩
      simp only [List.length_set]
      refine hB.mono hE (Nat.le_refl _) fun k' hk' => setRow_other w k k' new fun e => ?_
      subst e
      exact hne (hI.inj b' b l' l k' hl' hl hk' hk)

theorem seg_take {cur : List Value} {cs ds : List Value} {o : Nat} (ht : cur.take cs.length = cs) (h : o + ds.length ≤ cs.length) :
    (cur.take o ++ ds ++ cur.drop (o + ds.length)).take cs.length = cs.take o ++ ds ++ cs.drop (o + ds.length) := by
  have hle : cs.length ≤ cur.length := by
    rw [← ht, List.length_take]; exact Nat.min_le_right _ _
  have h1 : cur.take o = cs.take o := by rw [← ht, List.take_take, Nat.min_eq_left (by omega)]
  have h2 : cur.drop (o + ds.length) = cs.drop (o + ds.length) ++ cur.drop cs.length := by
    conv => lhs; rw [← List.take_append_drop cs.length cur, ht]
    rw [List.drop_append_of_le_length h]
  rw [h1, h2, ← List.append_assoc]
  rw [List.take_left']
  simp only [List.length_append, List.length_take, List.length_drop]
  omega

/-- What a store does. -/
theorem st_heap {w : World} {loc : Loc} {H H' : Heap} (hI : HeapInv w loc H) {v : Value} {b ver : Nat} {pa : List Nat} {s : Shape} {a : AV} {ds : List Value} (hp : Rep w loc H.length [v] (.ptr b ver pa s))
    (hst : stP H (.ptr b ver pa s) a = some H') (hs : HasSh s a) (hr : Rep w loc H.length ds a) :
    ∃ k o cur t fr, v = .pointer (some ⟨k, o, none⟩) ∧ w.heap[k]? = some (.cells cur t fr) ∧ o + ds.length ≤ cur.size ∧ (∀ j, j < cur.size → ¬ (fr.1 ≤ j ∧ j < fr.2)) ∧ (∀ u ∈ ds, u.oneCell' = true) ∧
      HeapInv (w.setRow k (cur.toList.take o ++ ds ++ cur.toList.drop (o + ds.length)).toArray) loc H' ∧ Ext w loc H.length (w.setRow k (cur.toList.take o ++ ds ++ cur.toList.drop (o + ds.length)).toArray) loc ∧
      H'.length = H.length := by
  obtain ⟨k', o', hv', hb, hv, ho⟩ := hp.ptr_inv
  simp only [List.cons.injEq, and_true] at hv'
  subst hv'
  simp only [stP] at hst
  cases hg : H.get b with
  | none => simp [hg] at hst
  | some blk =>
    simp only [hg] at hst
    split at hst
    · rename_i hver
      obtain ⟨l, hlb, hB⟩ := hI.blk b blk hg
      obtain ⟨e1, e2, hsh, hB⟩ := hB
      obtain ⟨k, hwb, hat, hvk⟩ := ho l hlb (e1.trans hver)
      rw [hwb] at hB
      obtain ⟨c, fr, cs, hc, ht, hrr, hfr, happ⟩ := hB
      rw [e2] at hat hvk
      cases hsp : setP blk.root pa a with
      | none => simp [hsp] at hst
      | some root' =>
        simp [hsp] at hst
        subst hst
        have hnew := hrr.set_at pa hsh hsp hat hr hs
        have hnsh := setP_hasSh pa hsh hsp hat hs
        have hdl := hr.size s hs
        have h3 := offS_le pa hat
        have h4 := hrr.size _ hsh
        have hle : cs.length ≤ c.size := by
          have := congrArg List.length ht
          simp only [List.length_take, Array.length_toList] at this
          omega
        rw [← hdl] at hnew h3
        refine ⟨k, _, c, _, fr, hvk, hc, by omega, hfr, hr.one, ?_, ext_setRow hlb hwb _, by simp⟩
        refine inv_setRow hI hg hlb hwb hc _ ?_ _ root' ?_ hnew hnsh
        · simp only [List.size_toArray, List.length_append, List.length_take, List.length_drop, Array.length_toList]
          omega
        · simp only [List.length_append, List.length_take, List.length_drop]
          rw [show min (offS blk.sh pa) cs.length + ds.length + (cs.length - (offS blk.sh pa + ds.length)) = cs.length by omega]
          exact seg_take ht (by omega)
    · cases hst

/-! A new block -/

def updL (loc : Loc) (b : Nat) (l : Lc) : Loc := fun b' => if b' = b then some l else loc b'

theorem notOwn_new {w : World} {loc : Loc} {H : Heap} (hI : HeapInv w loc H) {b : Nat} {l : Lc} {k : Nat} (hb : loc b = some l) (hk : l.wb = some k) : k < w.heap.size := by
  cases hg : H.get b with
  | none => rw [hI.out b hg] at hb; cases hb
  | some blk =>
    obtain ⟨l', hl', _, _, _, h4⟩ := hI.blk b blk hg
    rw [hb] at hl'; cases hl'
    rw [hk] at h4
    obtain ⟨c, fr, cs, hc, _⟩ := h4
    exact lt_of_heap hc

theorem ext_new {w w' : World} {loc : Loc} {H : Heap} (_hI : HeapInv w loc H) {o : Obj} (hh : w'.heap = w.heap.push o) (hos : w'.os = w.os) (htp : w'.tape = w.tape) (hou : w'.output = w.output) {l : Lc}
    (hl : l.wb = some w.heap.size ∨ l.wb = none) : Ext w loc H.length w' (updL loc H.length l) := by
  refine ⟨hos, htp, hou, by rw [hh]; simp, ?_, ?_, ?_⟩
  · intro k hk _
    rw [hh, Array.getElem?_push, if_neg (Nat.ne_of_lt hk)]
  · intro b l' h
    unfold updL at h
    split at h
    · exact .inl (by omega)
    · exact .inr ⟨l', h, .inl rfl⟩
  · intro b l' k h hk
    unfold updL at h
    split at h
    · cases h
      rcases hl with hl | hl <;> rw [hl] at hk <;> cases hk
      exact .inl (Nat.le_refl _)
    · exact .inr ⟨b, l', h, hk⟩

theorem inv_new {w w' : World} {loc : Loc} {H : Heap} (hI : HeapInv w loc H) {c : Array Value} {fr : Nat × Nat} {cs : List Value} {blk : Blk} {cap : Nat} (hh : w'.heap = w.heap.push (.cells c blk.e fr))
    (hos : w'.os = w.os) (htp : w'.tape = w.tape) (hou : w'.output = w.output) (hsh : HasSh blk.sh blk.root) (ht : c.toList.take cs.length = cs) (hr : Rep w loc H.length cs blk.root)
    (hfr : ∀ i, i < c.size → ¬ (fr.1 ≤ i ∧ i < fr.2)) (happ : blk.app = true → fr = (0, 0) ∧ ∃ n e, blk.sh = .arr n e ∧ n ≤ cap ∧ cap ≤ maxLen ∧ c.size = cap * e.size) :
    HeapInv w' (updL loc H.length ⟨blk.ver, blk.sh, some w.heap.size, cap⟩) (H ++ [some blk]) ∧ Ext w loc H.length w' (updL loc H.length ⟨blk.ver, blk.sh, some w.heap.size, cap⟩) := by
  have hE : Ext w loc H.length w' (updL loc H.length ⟨blk.ver, blk.sh, some w.heap.size, cap⟩) := ext_new hI hh hos htp hou (.inl rfl)
  refine ⟨⟨?_, ?_, ?_⟩, hE⟩
  · intro b hb
    rcases Nat.lt_trichotomy b H.length with h | h | h
    · rw [Heap.get_append _ _ _ h] at hb
      unfold updL
      rw [if_neg (by omega)]
      exact hI.out b hb
    · subst h
      rw [Heap.get_append_right _ _ _ (Nat.le_refl _)] at hb
      simp [Heap.get] at hb
    · unfold updL
      rw [if_neg (by omega)]
      refine hI.out b ?_
      simp [Heap.get, List.getElem?_eq_none (Nat.le_of_lt h)]
  · intro b blk' hb
    rcases Nat.lt_trichotomy b H.length with h | h | h
    · rw [Heap.get_append _ _ _ h] at hb
      obtain ⟨l, hl, hB⟩ := hI.blk b blk' hb
      refine ⟨l, ?_, ?_⟩
      · unfold updL
        rw [if_neg (by omega)]
        exact hl
      · refine hB.mono hE (by simp) fun k hk => ?_
        have := notOwn_new hI hl hk
        rw [hh, Array.getElem?_push, if_neg (Nat.ne_of_lt this)]
    · subst h
      rw [Heap.get_append_right _ _ _ (Nat.le_refl _)] at hb
      simp [Heap.get] at hb
      subst hb
      refine ⟨⟨blk.ver, blk.sh, some w.heap.size, cap⟩, by simp [updL], rfl, rfl, hsh, ?_⟩
      exact ⟨c, fr, cs, by rw [hh]; simp, ht, hr.mono hE (by simp), hfr, happ⟩
    · simp [Heap.get, List.getElem?_eq_none (show (H ++ [some blk]).length ≤ b by simp; omega)] at hb
  · intro b b' l l' k h h' hk hk'
    unfold updL at h h'
    split at h <;> split at h'
    · omega
    · cases h
      cases hk
      exact absurd (notOwn_new hI h' hk') (Nat.lt_irrefl _)
    · cases h'
      cases hk'
      exact absurd (notOwn_new hI h hk) (Nat.lt_irrefl _)
    · exact hI.inj b b' l l' k h h' hk hk'

end Go.V
