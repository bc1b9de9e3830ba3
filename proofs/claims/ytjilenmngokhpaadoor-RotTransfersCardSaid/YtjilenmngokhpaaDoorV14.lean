import Derived.Test.YtjilenmngokhpaaDoorV13
/- Rows made of zero values; parts laid into a row; copy. -/
namespace Go.V
open Go

section
variable {P : Program} {w : World} {loc : Loc} {H : Heap}

theorem rep_replicate {N : Nat} {cs : List Value} {z : AV} (h : Rep w loc N cs z) : ∀ n : Nat, Rep w loc N (List.replicate n cs).flatten (.agg (List.replicate n z))
  | 0 => by simpa using Rep.agg0
  | n + 1 => by
    rw [List.replicate_succ, List.replicate_succ, List.flatten_cons]
    exact .agg _ _ _ _ h (rep_replicate h n)

theorem flatten_get {cs : List Value} : ∀ (n i : Nat), i < n * cs.length → (List.replicate n cs).flatten[i]? = cs[i % cs.length]?
  | 0, i, h => by omega
  | n + 1, i, h => by
    rw [List.replicate_succ, List.flatten_cons]
    by_cases hi : i < cs.length
    · rw [List.getElem?_append_left hi, Nat.mod_eq_of_lt hi]
    · rw [List.getElem?_append_right (by omega), flatten_get n _ (by rw [Nat.add_mul] at h; omega)]
      congr 1
      conv => rhs; rw [← Nat.sub_add_cancel (show cs.length ≤ i by omega), Nat.add_mod_right]

theorem made_take (z : Array Value) (l c : Nat) (hlc : l ≤ c) : (madeCells z (c * z.size)).toList.take (l * z.size) = (List.replicate l z.toList).flatten := by
  have hle : l * z.size ≤ c * z.size := Nat.mul_le_mul_right _ hlc
  apply List.ext_getElem?
  intro i
  rw [List.getElem?_take]
  have hfl : (List.replicate l z.toList).flatten.length = l * z.size := by simp
  split
  · rename_i hi
    have hz : 0 < z.size := by
      rcases Nat.eq_zero_or_pos z.size with h | h
      · rw [h] at hi; omega
      · exact h
    rw [flatten_get l i (by simpa using hi)]
    have hm : i % z.size < z.size := Nat.mod_lt _ hz
    simp [madeCells, show i < c * z.size by omega, hm]
  · rename_i hi
    rw [List.getElem?_eq_none (by omega)]

/-- parts stored one behind the other -/
theorem fold_set : ∀ (vs : List Value) (off j : Nat) (cells : Array Value), off + j + vs.length ≤ cells.size →
    ((vs.zipIdx j).foldl (fun (cs : Array Value) (x : Value × Nat) => cs.setIfInBounds (off + x.2) x.1) cells).toList = cells.toList.take (off + j) ++ vs ++ cells.toList.drop (off + j + vs.length)
  | [], off, j, cells, _ => by simp
  | v :: vs, off, j, cells, h => by
    simp only [List.length_cons] at h
    rw [List.zipIdx_cons, List.foldl_cons, fold_set vs off (j + 1) _ (by simp; omega)]
    have e := list_seg_step cells.toList (off + j) v vs (by simp; omega)
    simpa [Array.toList_setIfInBounds, Nat.add_assoc] using e

theorem fill_step {s t : Shape} {ps : List AV} {cells : Array Value} {N i : Nat} {v : Value} {a : AV} (hs : HasSh s (.agg ps)) (hr : Rep w loc N cells.toList (.agg ps)) (ht : subS s i = some t) (hv : RepV w loc N v a) (ha : HasSh t a)
    (place : Nat → Option (Nat × Nat)) (hp : place i = some (offS s [i], t.size)) (rest : List (Nat × Value)) :
    i < ps.length ∧ HasSh s (.agg (ps.set i a)) ∧ ∃ cells' : Array Value, Instr.fill place cells ((i, v) :: rest) = Instr.fill place cells' rest ∧ Rep w loc N cells'.toList (.agg (ps.set i a)) := by
  have hat : atS s [i] = some t := by
    cases s with
    | leaf => simp [subS] at ht
    | arr n e => simp only [subS] at ht; simp only [atS]; split at ht <;> simp_all
    | st l => simp only [subS] at ht; simp only [atS, ht]
  obtain ⟨u, hu⟩ := getP_some [i] hs hat
  simp only [getP] at hu
  cases hpi : ps[i]? with
  | none => simp [hpi] at hu
  | some q =>
    have hil : i < ps.length := (List.getElem?_eq_some_iff.1 hpi).1
    have hset : setP (.agg ps) [i] a = some (.agg (ps.set i a)) := by simp [setP, hpi]
    have hds := hv.cells ha
    have hdl : v.cells.size = t.size := by simpa using hds.size t ha
    have h3 := offS_le [i] hat
    have h4 := hr.size s hs
    simp only [Array.length_toList] at h4
    have hnew := hr.set_at [i] hs hset hat hds ha
    refine ⟨hil, setP_hasSh [i] hs hset hat ha, v.cells.zipIdx.foldl (fun cs (x : Value × Nat) => match x with | (c, j) => cs.setIfInBounds (offS s [i] + j) c) cells, ?_, ?_⟩
    · simp only [Instr.fill, hp]
      rw [if_neg (by simp [hdl]; omega)]
    · have e := fold_set v.cells.toList (offS s [i]) 0 cells (by simp; omega)
      have e2 : (v.cells.zipIdx.foldl (fun cs (x : Value × Nat) => match x with | (c, j) => cs.setIfInBounds (offS s [i] + j) c) cells) = (v.cells.toList.zipIdx 0).foldl (fun (cs : Array Value) (x : Value × Nat) => cs.setIfInBounds (offS s [i] + x.2) x.1) cells := by
        rw [← Array.foldl_toList, Array.toList_zipIdx]
      rw [e2, e]
      simp only [Nat.add_zero, Array.length_toList, hdl]
      exact hnew

theorem fill_run {s : Shape} {N : Nat} (place : Nat → Option (Nat × Nat)) (hplace : ∀ i t, subS s i = some t → place i = some (offS s [i], t.size)) : ∀ (ix : List Nat) (vs : List Value) (as : List AV) (ps qs : List AV) (cells : Array Value),
    HasSh s (.agg ps) → Rep w loc N cells.toList (.agg ps) → RepVs w loc N vs as → HasAt s ix as → setAll ps ix as = some qs →
    ∃ cells' : Array Value, Instr.fill place cells (ix.zip vs) = some cells' ∧ Rep w loc N cells'.toList (.agg qs) ∧ HasSh s (.agg qs)
  | [], vs, as, ps, qs, cells, hs, hr, hv, hat, hset => by
    cases as with
    | nil => simp [setAll] at hset; subst hset; exact ⟨cells, by simp [Instr.fill], hr, hs⟩
    | cons a as => simp [HasAt] at hat
  | i :: ix, vs, as, ps, qs, cells, hs, hr, hv, hat, hset => by
    cases hv with
    | nil => simp [HasAt] at hat
    | cons v a vs as h1 h2 =>
      simp only [HasAt] at hat
      obtain ⟨hat1, hat2⟩ := hat
      cases ht : subS s i with
      | none => simp [ht] at hat1
      | some t =>
        simp only [ht] at hat1
        obtain ⟨hil, hs', cells', hf, hr'⟩ := fill_step hs hr ht h1 hat1 place (hplace i t ht) (ix.zip vs)
        simp only [setAll, hil, if_true] at hset
        obtain ⟨cells'', hf', hr'', hs''⟩ := fill_run place hplace ix vs as _ qs cells' hs' hr' h2 hat2 hset
        exact ⟨cells'', by rw [List.zip_cons_cons, hf, hf'], hr'', hs''⟩

/-! copy -/

theorem splL_length {ps qs : List AV} {off : Nat} (h : off + qs.length ≤ ps.length) : (splL ps off qs).length = ps.length := by
  simp [splL]; omega

theorem rep_splL {N : Nat} {e : Shape} : ∀ {off : Nat} {ps qs : List AV} {cs ds : List Value}, (∀ p ∈ ps, HasSh e p) → (∀ q ∈ qs, HasSh e q) → Rep w loc N cs (.agg ps) → Rep w loc N ds (.agg qs) → off + qs.length ≤ ps.length →
    Rep w loc N (cs.take (off * e.size) ++ ds ++ cs.drop (off * e.size + ds.length)) (.agg (splL ps off qs)) := by
  have hdrop : ∀ (off : Nat) (ps : List AV) (cs : List Value), (∀ p ∈ ps, HasSh e p) → Rep w loc N cs (.agg ps) → off ≤ ps.length → Rep w loc N (cs.take (off * e.size)) (.agg (ps.take off)) ∧ Rep w loc N (cs.drop (off * e.size)) (.agg (ps.drop off)) := by
    intro off
    induction off with
    | zero => intro ps cs _ h _; exact ⟨by simpa using Rep.agg0, by simpa using h⟩
    | succ off ih =>
      intro ps cs hp h hle
      cases ps with
      | nil => simp at hle
      | cons p ps =>
        obtain ⟨xs, ys, rfl, h1, h2⟩ := h.cons_inv
        have e1 := Rep.size e (hp p (by simp)) h1
        obtain ⟨g1, g2⟩ := ih ps ys (fun q hq => hp q (by simp [hq])) h2 (by simpa using hle)
        rw [show (off + 1) * e.size = xs.length + off * e.size by rw [e1, Nat.add_mul]; omega, List.take_length_add_append, List.take_succ_cons, ← List.drop_drop, List.drop_left]
        exact ⟨.agg _ _ _ _ h1 g1, g2⟩
  intro off ps qs cs ds hp hq hr hr' hle
  have h1 := (hdrop off ps cs hp hr (by omega)).1
  have h2 := (hdrop (off + qs.length) ps cs hp hr hle).2
  have hdl : ds.length = qs.length * e.size := by
    have := hr'.size (.arr qs.length e) (hasSh_arr_agg.2 ⟨rfl, hq⟩)
    simpa using this
  rw [hdl, ← Nat.add_mul]
  exact agg_append (agg_append h1 hr') h2

/-- What a copy does. -/
theorem cp_heap {H' : Heap} (hI : HeapInv w loc H) {ad : Option Addr} {n cap b ver off : Nat} {pa : List Nat} {e : Shape} {qs : List AV} {ds : List Value} (hp : Rep w loc H.length [.slice ad n cap] (.own b ver pa off n e))
    (hst : cpH H (.own b ver pa off n e) qs = some H') (hq : ∀ q ∈ qs, HasSh e q) (hr : Rep w loc H.length ds (.agg qs)) (hn : qs.length ≤ n) :
    (qs = [] ∧ HeapInv w loc H' ∧ H'.length = H.length) ∨ ∃ k o cur t fr, ad = some ⟨k, o, none⟩ ∧ w.heap[k]? = some (.cells cur t fr) ∧ o + ds.length ≤ cur.size ∧ (∀ j, j < cur.size → ¬ (fr.1 ≤ j ∧ j < fr.2)) ∧ (∀ u ∈ ds, u.oneCell' = true) ∧
      HeapInv (w.setRow k (cur.toList.take o ++ ds ++ cur.toList.drop (o + ds.length)).toArray) loc H' ∧ Ext w loc H.length (w.setRow k (cur.toList.take o ++ ds ++ cur.toList.drop (o + ds.length)).toArray) loc ∧
      H'.length = H.length := by
  obtain ⟨ad', cap', hv', hb, hv, hc, hne, hmx, ho⟩ := hp.own_inv
  simp at hv'
  obtain ⟨rfl, rfl⟩ := hv'
  simp only [cpH] at hst
  cases hg : H.get b with
  | none => simp [hg] at hst
  | some blk =>
    simp only [hg] at hst
    split at hst
    · rename_i hver
      obtain ⟨l, hlb, hB⟩ := hI.blk b blk hg
      obtain ⟨e1, e2, hsh, hB'⟩ := hB
      have hO := ho l hlb (e1.trans hver)
      cases hgp : getP blk.root pa with
      | none => simp [hgp] at hst
      | some q0 =>
        simp only [hgp] at hst
        cases q0 <;> simp only [reduceCtorEq] at hst
        rename_i ps
        cases hsp : setP blk.root pa (.agg (splL ps off qs)) with
        | none => simp [hsp] at hst
        | some root' =>
          simp [hsp] at hst
          subst hst
          by_cases hq0 : qs = []
          · subst hq0
            refine .inl ⟨rfl, ?_, by simp⟩
            -- nothing is laid: the block is as it was
            have hsame : setP blk.root pa (.agg ps) = some blk.root := by
              have key : ∀ (pa : List Nat) (a v : AV), getP a pa = some v → setP a pa v = some a := by
                intro pa
                induction pa with
                | nil => intro a v h; simp [getP] at h; simp [setP, h]
                | cons i pa ih =>
                  intro a v h
                  cases a <;> simp only [getP, reduceCtorEq] at h
                  rename_i rs
                  cases hri : rs[i]? with
                  | none => simp [hri] at h
                  | some r =>
                    simp only [hri] at h
                    simp only [setP, hri, ih r v h, Option.map_some, Option.some.injEq, AV.agg.injEq]
                    apply List.ext_getElem?
                    intro j
                    rw [List.getElem?_set]
                    split
                    · rename_i hij; subst hij
                      rw [if_pos (List.getElem?_eq_some_iff.1 hri).1, hri]
                    · rfl
              exact key pa _ _ hgp
            have : splL ps off [] = ps := by simp [splL]
            rw [this, hsame] at hsp
            cases hsp
            have hH : H.set b (some blk) = H := by
              apply List.ext_getElem?
              intro j
              rw [List.getElem?_set]
              split
              · rename_i hij; subst hij
                unfold Heap.get at hg
                rw [List.getElem?_eq_getElem hb] at hg ⊢
                simp at hg
                rw [hg]
              · rfl
            have hbb : ({ blk with root := blk.root } : Blk) = blk := rfl
            rw [hbb, hH]
            exact hI
          · refine .inr ?_
            have hpos : 0 < qs.length := List.length_pos_iff.2 hq0
            unfold OwnAt at hO
            cases hw : l.wb with
            | none => simp only [hw] at hO; omega
            | some k =>
              simp only [hw] at hO hB'
              obtain ⟨len, o, cap2, hat, hlen, h6, hcap, hoff, -⟩ := hO
              simp only [Value.slice.injEq, true_and] at h6
              obtain ⟨rfl, rfl⟩ := h6
              obtain ⟨c, fr, cs, hcc, ht, hrr, hfr, happ⟩ := hB'
              rw [e2] at hat hoff
              have hqsh := getP_hasSh pa hsh hgp hat
              obtain ⟨hpl, hpe⟩ := hasSh_arr_agg.1 hqsh
              have hseg := hrr.at pa hsh hgp hat
              have h3 := offS_le pa hat
              have h4 := hrr.size _ hsh
              have h5 := hseg.size _ hqsh
              simp only [Shape.size_arr] at h3 h5 hseg
              have hdl : ds.length = qs.length * e.size := by
                have := hr.size (.arr qs.length e) (hasSh_arr_agg.2 ⟨rfl, hq⟩)
                simpa using this
              have hmul : off * e.size + qs.length * e.size ≤ len * e.size := by rw [← Nat.add_mul]; exact Nat.mul_le_mul_right _ (by omega)
              have hspl := rep_splL hpe hq hseg hr (by omega : off + qs.length ≤ ps.length)
              have hsplsh : HasSh (.arr len e) (.agg (splL ps off qs)) := hasSh_arr_agg.2 ⟨by rw [splL_length (by omega)]; exact hpl, fun p hp => by
                simp only [splL, List.mem_append] at hp
                rcases hp with (hp | hp) | hp
                · exact hpe p (List.mem_of_mem_take hp)
                · exact hq p hp
                · exact hpe p (List.mem_of_mem_drop hp)⟩
              have hnew := hrr.set_at pa hsh hsp hat hspl hsplsh
              have hnsh := setP_hasSh pa hsh hsp hat hsplsh
              have hle : cs.length ≤ c.size := by
                have := congrArg List.length ht
                simp only [List.length_take, Array.length_toList] at this
                omega
              have hoo := hoff (by omega)
              subst hoo
              simp only [Shape.size_arr] at hnew
              rw [← hdl] at hmul
              rw [splice_in cs ds (offS blk.sh pa) (len * e.size) (off * e.size) ds.length hmul (by omega) rfl] at hnew
              refine ⟨k, _, c, _, fr, rfl, hcc, by omega, hfr, hr.one, ?_, ext_setRow hlb hw _, by simp⟩
              refine inv_setRow hI hg hlb hw hcc _ ?_ _ root' ?_ hnew hnsh
              · simp only [List.size_toArray, List.length_append, List.length_take, List.length_drop, Array.length_toList]
                omega
              · simp only [List.length_append, List.length_take, List.length_drop]
                rw [show min (offS blk.sh pa + off * e.size) cs.length + ds.length + (cs.length - (offS blk.sh pa + off * e.size + ds.length)) = cs.length by omega]
                exact seg_take ht (by omega)
    · cases hst

end
end Go.V
