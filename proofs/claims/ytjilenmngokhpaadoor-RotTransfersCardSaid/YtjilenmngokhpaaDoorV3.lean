import Derived.Test.YtjilenmngokhpaaDoorV2
/- The heap's invariant; what reading, writing and making memory do to it. -/
namespace Go.V
open Go

theorem add_plain (k o i : Nat) : (⟨k, o, none⟩ : Addr).add i = ⟨k, o + i, none⟩ := by unfold Addr.add; split <;> simp_all

inductive RepV (w : World) (loc : Loc) (N : Nat) : Value → AV → Prop
  | un (v : Value) : RepV w loc N v .un
  | cell (v : Value) (a : AV) : a.isCell = true → Rep w loc N [v] a → RepV w loc N v a
  | agg (cs : List Value) (ps : List AV) : Rep w loc N cs (.agg ps) → RepV w loc N (.agg cs.toArray) (.agg ps)
  | tup (vs : List Value) (ps : List AV) : vs.length = ps.length → (∀ (i : Nat) (v : Value) (p : AV), vs[i]? = some v → ps[i]? = some p → RepV w loc N v p) → RepV w loc N (.tuple vs.toArray) (.tup ps)

theorem RepV.mono {w w' : World} {loc loc' : Loc} {N N' : Nat} (hE : Ext w loc N w' loc') (hN : N ≤ N') {v : Value} {a : AV} (h : RepV w loc N v a) : RepV w' loc' N' v a := by
  induction h with
  | un v => exact .un v
  | cell v a ha h => exact .cell v a ha (h.mono hE hN)
  | agg cs ps h => exact .agg cs ps (h.mono hE hN)
  | tup vs ps hl _ ih => exact .tup vs ps hl ih

theorem RepV.rep {w : World} {loc : Loc} {N : Nat} {v : Value} {a : AV} (h : RepV w loc N v a) (ha : a.isCell = true) : Rep w loc N [v] a := by
  cases h with
  | un => simp [AV.isCell] at ha
  | cell _ _ _ h => exact h
  | agg => simp [AV.isCell] at ha
  | tup => simp [AV.isCell] at ha

theorem RepV.of_rep {w : World} {loc : Loc} {N : Nat} {v : Value} {a : AV} (h : Rep w loc N [v] a) (ha : a.isCell = true) : RepV w loc N v a := .cell v a ha h

theorem RepV.cells {w : World} {loc : Loc} {N : Nat} {v : Value} {a : AV} {s : Shape} (h : RepV w loc N v a) (hs : HasSh s a) : Rep w loc N v.cells.toList a := by
  cases h with
  | un =>
    cases s with
    | leaf => simp [hasSh_leaf, AV.isCell] at hs
    | arr n e => obtain ⟨ps, h, _⟩ := hasSh_arr.1 hs; cases h
    | st l => obtain ⟨ps, h, _⟩ := hasSh_st.1 hs; cases h
  | cell _ _ ha h =>
    have h1 := h.one v (by simp)
    cases v <;> first | (simp [Value.oneCell'] at h1; done) | exact h
  | agg cs ps h => simpa [Value.cells] using h
  | tup =>
    cases s with
    | leaf => simp [hasSh_leaf, AV.isCell] at hs
    | arr n e => obtain ⟨ps, h, _⟩ := hasSh_arr.1 hs; cases h
    | st l => obtain ⟨ps, h, _⟩ := hasSh_st.1 hs; cases h

def BlkOk (w : World) (loc : Loc) (N : Nat) (l : Lc) (blk : Blk) : Prop :=
  l.ver = blk.ver ∧ l.sh = blk.sh ∧ HasSh blk.sh blk.root ∧
  match l.wb with
  | none => blk.app = true ∧ ∃ e, blk.sh = .arr 0 e
  | some k => ∃ c fr cs, w.heap[k]? = some (.cells c blk.e fr) ∧ c.toList.take cs.length = cs ∧ Rep w loc N cs blk.root ∧ (∀ i, i < c.size → ¬ (fr.1 ≤ i ∧ i < fr.2)) ∧
      (blk.app = true → fr = (0, 0) ∧ ∃ n e, blk.sh = .arr n e ∧ n ≤ l.cap ∧ l.cap ≤ maxLen ∧ c.size = l.cap * e.size)

structure HeapInv (w : World) (loc : Loc) (H : Heap) : Prop where
  out : ∀ b, H.get b = none → loc b = none
  blk : ∀ b blk, H.get b = some blk → ∃ l, loc b = some l ∧ BlkOk w loc H.length l blk
  inj : ∀ b b' l l' k, loc b = some l → loc b' = some l' → l.wb = some k → l'.wb = some k → b = b'

theorem Heap.get_lt {H : Heap} {b : Nat} {blk : Blk} (h : H.get b = some blk) : b < H.length := by
  unfold Heap.get at h
  rcases Nat.lt_or_ge b H.length with hb | hb
  · exact hb
  · simp [List.getElem?_eq_none hb] at h

theorem Heap.get_append (H L : Heap) (b : Nat) (h : b < H.length) : Heap.get (H ++ L) b = H.get b := by
  unfold Heap.get; rw [List.getElem?_append_left h]

theorem Heap.get_append_right (H L : Heap) (b : Nat) (h : H.length ≤ b) : Heap.get (H ++ L) b = Heap.get L (b - H.length) := by
  unfold Heap.get; rw [List.getElem?_append_right h]

theorem Heap.get_set (H : Heap) (b b' : Nat) (x : Option Blk) (h : b < H.length) : Heap.get (H.set b x) b' = if b' = b then x else H.get b' := by
  unfold Heap.get
  rw [List.getElem?_set]
  by_cases hb : b = b'
  · subst hb; simp [h]
  · simp [hb, Ne.symm hb]

theorem BlkOk.mono {w w' : World} {loc loc' : Loc} {N N' : Nat} {l : Lc} {blk : Blk} (h : BlkOk w loc N l blk) (hE : Ext w loc N w' loc') (hN : N ≤ N')
    (hk : ∀ k, l.wb = some k → w'.heap[k]? = w.heap[k]?) : BlkOk w' loc' N' l blk := by
  obtain ⟨h1, h2, h3, h4⟩ := h
  refine ⟨h1, h2, h3, ?_⟩
  cases hw : l.wb with
  | none => rw [hw] at h4; exact h4
  | some k =>
    rw [hw] at h4
    obtain ⟨c, fr, cs, hc, ht, hr, hf⟩ := h4
    exact ⟨c, fr, cs, (hk k hw).trans hc, ht, hr.mono hE hN, hf⟩

/-! Reading -/

theorem take_drop_of_take {L cs : List Value} (h : L.take cs.length = cs) (o t : Nat) (ho : o + t ≤ cs.length) : (L.drop o).take t = (cs.drop o).take t := by
  rw [← h, List.drop_take, List.take_take, Nat.min_eq_left]
  omega

theorem cell_of_seg {w : World} {k o : Nat} {c : Array Value} {t : TypeId} {fr : Nat × Nat} {cs : List Value} (hk : w.heap[k]? = some (.cells c t fr)) (ht : (c.toList.drop o).take cs.length = cs) :
    ∀ j v, cs[j]? = some v → w.cell? ((⟨k, o, none⟩ : Addr).add j) = some v := by
  intro j v hj
  rw [add_plain, cell_of_row w k (o + j) c t fr hk]
  rw [← ht, List.getElem?_take] at hj
  split at hj
  · simpa [List.getElem?_drop] using hj
  · cases hj

/-- Where a pointer's variable lies, and what it holds. -/
theorem ld_cells {w : World} {loc : Loc} {H : Heap} (hI : HeapInv w loc H) {v : Value} {p a : AV} {s : Shape} (hp : Rep w loc H.length [v] p) (hs : p = .rp s a ∨ ∃ b ver pa, p = .ptr b ver pa s) (hl : ldP H p = some a) :
    ∃ k o c t fr cs, v = .pointer (some ⟨k, o, none⟩) ∧ w.heap[k]? = some (.cells c t fr) ∧ (c.toList.drop o).take cs.length = cs ∧ Rep w loc H.length cs a ∧ HasSh s a := by
  rcases hs with rfl | ⟨b, ver, pa, rfl⟩
  · obtain ⟨k, o, c, t, fr, cs, hv, hk, hn, ht, hr, hs⟩ := hp.rp_inv
    simp only [List.cons.injEq, and_true] at hv
    exact ⟨k, o, c, t, fr, cs, hv, hk, ht, hr, hs⟩
  · obtain ⟨k', o', hv', hb, hv, ho⟩ := hp.ptr_inv
    · simp only [List.cons.injEq, and_true] at hv'
      subst hv'
      simp only [ldP] at hl
      cases hg : H.get b with
      | none => simp [hg] at hl
      | some blk =>
        simp only [hg] at hl
        split at hl
        · rename_i hver
          obtain ⟨l, hlb, hB⟩ := hI.blk b blk hg
          obtain ⟨e1, e2, hsh, hB⟩ := hB
          obtain ⟨k, hwb, hat, hvk⟩ := ho l hlb (e1.trans hver)
          rw [hwb] at hB
          obtain ⟨c, fr, cs, hc, ht, hr, -⟩ := hB
          rw [e2] at hat
          have h2 := hr.at pa hsh hl hat
          have h3 := offS_le pa hat
          have h4 := hr.size _ hsh
          have hs' := getP_hasSh pa hsh hl hat
          have h5 := h2.size s hs'
          refine ⟨k, _, c, _, fr, _, by rw [hvk, e2], hc, ?_, h2, hs'⟩
          rw [h5]
          exact take_drop_of_take ht _ _ (by omega)
        · cases hl

/-- The elements of a slice, where they lie. -/
theorem rd_cells {w : World} {loc : Loc} {H : Heap} (hI : HeapInv w loc H) {v : Value} {a : AV} {xs : List AV} (hp : Rep w loc H.length [v] a) (hl : rd H a = some xs) :
    ∃ ad n cap, v = .slice ad n cap ∧ n = xs.length ∧ n ≤ cap + n ∧ ∃ e, (∀ x ∈ xs, HasSh e x) ∧ (0 < n → ∃ k o c t fr cs, ad = some ⟨k, o, none⟩ ∧ w.heap[k]? = some (.cells c t fr) ∧ (c.toList.drop o).take cs.length = cs ∧ Rep w loc H.length cs (.agg xs)) := by
  cases a with
  | nils =>
    have hv := hp.nils_inv
    simp only [List.cons.injEq, and_true] at hv
    simp [rd] at hl; subst hl
    exact ⟨none, 0, 0, hv, rfl, by omega, .leaf, by simp, by simp⟩
  | ro e ys =>
    simp [rd] at hl; subst hl
    rcases hp.ro_inv with ⟨a, cap, hv, rfl⟩ | ⟨k, o, n, cap, c, t, fr, cs, hv, hk, hn, ht, hr, hlen, hc, hm, hs⟩
    · simp only [List.cons.injEq, and_true] at hv
      exact ⟨a, 0, cap, hv, rfl, by omega, e, by simp, by simp⟩
    · simp only [List.cons.injEq, and_true] at hv
      exact ⟨_, n, cap, hv, hlen.symm, by omega, e, hs, fun _ => ⟨k, o, c, t, fr, cs, rfl, hk, ht, hr⟩⟩
  | own b ver pa off n e =>
    obtain ⟨ad', cap', hv', hb, hv, hcp, h1, hm, ho⟩ := hp.own_inv
    · simp only [List.cons.injEq, and_true] at hv'
      subst hv'
      simp only [rd] at hl
      cases hg : H.get b with
      | none => simp [hg] at hl
      | some blk =>
        simp only [hg] at hl
        split at hl
        · rename_i hver
          obtain ⟨l, hlb, hB⟩ := hI.blk b blk hg
          obtain ⟨e1, e2, hsh, hB⟩ := hB
          have hO := ho l hlb (e1.trans hver)
          unfold OwnAt at hO
          cases hw : l.wb with
          | none =>
            simp only [hw] at hO
            obtain ⟨h6, rfl, rfl, rfl, h5⟩ := hO
            simp only [Value.slice.injEq] at h6
            obtain ⟨rfl, -, rfl⟩ := h6
            simp only [getP] at hl
            rw [← e2, h5] at hsh
            obtain ⟨ps, hps, hlen, _⟩ := hasSh_arr.1 hsh
            rw [hps] at hl
            simp at hl; subst hl
            exact ⟨none, 0, 0, rfl, rfl, by omega, e, by simp, by simp⟩
          | some k =>
            simp only [hw] at hO hB
            obtain ⟨len, o, cap, hat, hlen, h6, hcap, hoff, -⟩ := hO
            simp only [Value.slice.injEq, true_and] at h6
            obtain ⟨rfl, rfl⟩ := h6
            obtain ⟨c, fr, cs, hc, ht, hr, -⟩ := hB
            rw [e2] at hat hoff
            cases hgp : getP blk.root pa with
            | none => simp [hgp] at hl
            | some q =>
              have hq := getP_hasSh pa hsh hgp hat
              obtain ⟨ps, rfl, hpl, hpe⟩ := hasSh_arr.1 hq
              simp [hgp] at hl
              subst hl
              have h2 := hr.at pa hsh hgp hat
              have h3 := offS_le pa hat
              have h4 := hr.size _ hsh
              have h5 := h2.size _ hq
              simp only [Shape.size_arr] at h3 h5
              -- the elements from off on
              have hdrop : ∀ (off : Nat) (ps : List AV) (cs : List Value), (∀ p ∈ ps, HasSh e p) → Rep w loc H.length cs (.agg ps) → off ≤ ps.length → Rep w loc H.length (cs.drop (off * e.size)) (.agg (ps.drop off)) := by
                intro off
                induction off with
                | zero => intro ps cs _ h _; simpa using h
                | succ off ih =>
                  intro ps cs hp h hle
                  cases ps with
                  | nil => simp at hle
                  | cons p ps =>
                    obtain ⟨xs, ys, rfl, h1, h2⟩ := h.cons_inv
                    have e1 := Rep.size e (hp p (by simp)) h1
                    rw [show (off + 1) * e.size = xs.length + off * e.size by rw [e1, Nat.add_mul]; omega, ← List.drop_drop, List.drop_left]
                    exact ih ps ys (fun q hq => hp q (by simp [hq])) h2 (by simpa using hle)
              have htake : ∀ (n : Nat) (ps : List AV) (cs : List Value), (∀ p ∈ ps, HasSh e p) → Rep w loc H.length cs (.agg ps) → n ≤ ps.length → Rep w loc H.length (cs.take (n * e.size)) (.agg (ps.take n)) := by
                intro n
                induction n with
                | zero => intro ps cs _ h _; simpa using Rep.agg0
                | succ n ih =>
                  intro ps cs hp h hle
                  cases ps with
                  | nil => simp at hle
                  | cons p ps =>
                    obtain ⟨xs, ys, rfl, h1, h2⟩ := h.cons_inv
                    have e1 := Rep.size e (hp p (by simp)) h1
                    rw [show (n + 1) * e.size = xs.length + n * e.size by rw [e1, Nat.add_mul]; omega, List.take_length_add_append, List.take_succ_cons]
                    exact .agg _ _ _ _ h1 (ih ps ys (fun q hq => hp q (by simp [hq])) h2 (by simpa using hle))
              have hd := hdrop off ps _ hpe h2 (by omega)
              have hpe' : ∀ p ∈ ps.drop off, HasSh e p := fun p hp => hpe p (List.mem_of_mem_drop hp)
              have htk := htake n (ps.drop off) _ hpe' hd (by simp; omega)
              have hl1 : ((ps.drop off).take n).length = n := by simp; omega
              refine ⟨_, n, _, rfl, hl1.symm, by omega, e, fun x hx => hpe' x (List.mem_of_mem_take hx), fun hn => ?_⟩
              refine ⟨k, o, c, _, fr, _, rfl, hc, ?_, htk⟩
              have hoo := hoff hn
              have hsz := htk.size (.arr n e) (hasSh_arr.2 ⟨_, rfl, hl1, fun x hx => hpe' x (List.mem_of_mem_take hx)⟩)
              simp only [Shape.size_arr] at hsz ⊢
              have hmul : off * e.size + n * e.size ≤ len * e.size := by rw [← Nat.add_mul]; exact Nat.mul_le_mul_right _ hlen
              rw [hsz, hoo]
              rw [take_drop_of_take ht _ _ (by omega)]
              rw [List.drop_take, List.take_take, List.drop_drop, Nat.min_eq_left (by omega)]
        · cases hl
  | _ => simp [rd] at hl

end Go.V
