import Derived.Test.YtjilenmngokhpaaDoorV4
/- append, copy, make and their kin on blocks of the call's own. -/
namespace Go.V
open Go

theorem inv_ver {w w' : World} {loc : Loc} {H : Heap} (hI : HeapInv w loc H) {b : Nat} {blk blk' : Blk} {l l' : Lc} (hg : H.get b = some blk) (hl : loc b = some l)
    (hwb : ∀ k, l'.wb = some k → l.wb = some k ∨ w.heap.size ≤ k) (hE : Ext w loc H.length w' (updL loc b l'))
    (hoth : ∀ k, k < w.heap.size → l.wb ≠ some k → w'.heap[k]? = w.heap[k]?) (hB : BlkOk w' (updL loc b l') H.length l' blk') : HeapInv w' (updL loc b l') (H.set b (some blk')) := by
  have hb : b < H.length := Heap.get_lt hg
  refine ⟨?_, ?_, ?_⟩
  · intro b' h'
    rw [Heap.get_set _ _ _ _ hb] at h'
    split at h'
    · cases h'
    · rename_i hne
      unfold updL
      rw [if_neg hne]
      exact hI.out b' h'
  · intro b' blk1 h'
    rw [Heap.get_set _ _ _ _ hb] at h'
    simp only [List.length_set]
    split at h'
    · rename_i e; subst e; cases h'
      exact ⟨l', by simp [updL], hB⟩
    · rename_i hne
      obtain ⟨l1, hl1, hB1⟩ := hI.blk b' blk1 h'
      refine ⟨l1, by simp [updL, hne, hl1], hB1.mono hE (Nat.le_refl _) fun k hk => ?_⟩
      exact hoth k (notOwn_new hI hl1 hk) fun e => hne (hI.inj b' b l1 l k hl1 hl hk e)
  · intro b1 b2 l1 l2 k h1 h2 hk1 hk2
    unfold updL at h1 h2
    split at h1 <;> split at h2
    · omega
    · rename_i e hne
      cases h1
      rcases hwb k hk1 with h | h
      · exact absurd (hI.inj b2 b l2 l k h2 hl hk2 h) hne
      · exact absurd (notOwn_new hI h2 hk2) (by omega)
    · rename_i hne e
      cases h2
      rcases hwb k hk2 with h | h
      · exact absurd (hI.inj b1 b l1 l k h1 hl hk1 h) hne
      · exact absurd (notOwn_new hI h1 hk1) (by omega)
    · exact hI.inj b1 b2 l1 l2 k h1 h2 hk1 hk2

theorem ext_ver {w w' : World} {loc : Loc} {H : Heap} {b : Nat} {l l' : Lc} (hl : loc b = some l) (hv : l.ver < l'.ver) (hwb : ∀ k, l'.wb = some k → l.wb = some k ∨ w.heap.size ≤ k)
    (hos : w'.os = w.os) (htp : w'.tape = w.tape) (hou : w'.output = w.output) (hsz : w.heap.size ≤ w'.heap.size)
    (hoth : ∀ k, k < w.heap.size → l.wb ≠ some k → w'.heap[k]? = w.heap[k]?) : Ext w loc H.length w' (updL loc b l') := by
  refine ⟨hos, htp, hou, hsz, fun k hk hn => hoth k hk (hn b l hl), ?_, ?_⟩
  · intro b' l1 h
    unfold updL at h
    split at h
    · rename_i e; subst e; cases h
      exact .inr ⟨l, hl, .inr hv⟩
    · exact .inr ⟨l1, h, .inl rfl⟩
  · intro b' l1 k h hk
    unfold updL at h
    split at h
    · cases h
      rcases hwb k hk with h1 | h1
      · exact .inr ⟨b, l, hl, h1⟩
      · exact .inl h1
    · exact .inr ⟨b', l1, h, hk⟩

section
variable {P : Program}

theorem run_append_room2 (w : World) (t t2 ty e : TypeId) (i : TypeInfo) (d2 : TypeDesc) (ht : P.underlying t = some (.slice e)) (hi : P.info? e = some i) (h2 : P.underlying t2 = some d2) (hd2 : ∀ k, d2 ≠ .int k)
    (g sLen sCap : Nat) (cur : Array Value) (te : TypeId) (hg : w.heap[g]? = some (.cells cur te (0, 0))) (x : Value) (m : Nat) (news : List Value)
    (hln : (Builtin.lenOf x).run P w = .ok m w) (hf : (Builtin.firstCells i.size m x).run P w = .ok news.toArray w) (h1 : ∀ u ∈ news, u.oneCell' = true)
    (hroom : sLen + m ≤ sCap) (hfit : sLen * i.size + news.length ≤ cur.size) :
    (Builtin.append_ #[t, t2] ty #[.slice (some ⟨g, 0, none⟩) sLen sCap, x]).run P w =
      .ok (.slice (some ⟨g, 0, none⟩) (sLen + m) sCap) (w.setRow g (cur.toList.take (sLen * i.size) ++ news ++ cur.toList.drop (sLen * i.size + news.length)).toArray) := by
  have hst := run_storeCells_row P g (sLen * i.size) te (0, 0) news 0 cur w hg (by simpa using hfit) (by simp) h1
  simp only [Nat.add_zero] at hst
  simp [Builtin.append_, run_underlying ht, run_underlying h2, sizeOf, typeInfo, hi, hln, hroom, hf, Addr.add_lit, hst]

theorem run_append_grow2 (w : World) (t t2 ty e : TypeId) (i : TypeInfo) (z : Value) (d2 : TypeDesc) (ht : P.underlying t = some (.slice e)) (hi : P.info? e = some i) (hz : i.zero = some z) (h2 : P.underlying t2 = some d2) (hd2 : ∀ k, d2 ≠ .int k)
    (base : Option Addr) (sLen sCap : Nat) (olds : List Value) (hfo : (Builtin.firstCells i.size sLen (.slice base sLen sCap)).run P w.drew = .ok olds.toArray w.drew)
    (x : Value) (m : Nat) (news : List Value) (hln : (Builtin.lenOf x).run P w = .ok m w) (hf : (Builtin.firstCells i.size m x).run P w.drew = .ok news.toArray w.drew)
    (hg : sCap < sLen + m) (h63 : ((sLen + m : Nat) : Int) ≤ 9223372036854775807) (hfit : Builtin.nextslicecap (sLen + m) sCap * i.bytes ≤ 281474976710656) :
    (Builtin.append_ #[t, t2] ty #[.slice base sLen sCap, x]).run P w =
      .ok (.slice (some ⟨w.heap.size, 0, none⟩) (sLen + m) (grownCap w (sLen + m) sCap e))
        (w.drew.alloc (.cells (olds ++ news ++ (Builtin.zeroCells z.cells (grownCap w (sLen + m) sCap e - (sLen + m))).toList).toArray e)) := by
  have hn : ¬ (sLen + m ≤ sCap) := by omega
  have h63' : ¬ (9223372036854775807 < ((sLen : Int) + (m : Int))) := by omega
  have h48' : ¬ (281474976710656 < Builtin.nextslicecap (sLen + m) sCap * i.bytes) := by omega
  simp [Builtin.append_, run_underlying ht, run_underlying h2, sizeOf, typeInfo, zeroValue, hi, hz, hln, hn, h63', h48', Question.forced, hf, hfo, newRow, grownCap]
  congr 2
  apply Array.ext'
  simp

theorem run_append_none0 (w : World) (t t2 ty e : TypeId) (i : TypeInfo) (d2 : TypeDesc) (ht : P.underlying t = some (.slice e)) (hi : P.info? e = some i) (h2 : P.underlying t2 = some d2) (hd2 : ∀ k, d2 ≠ .int k)
    (x : Value) (news : List Value) (hln : (Builtin.lenOf x).run P w = .ok 0 w) (hf : (Builtin.firstCells i.size 0 x).run P w = .ok news.toArray w) :
    (Builtin.append_ #[t, t2] ty #[.slice none 0 0, x]).run P w = .ok (.slice none 0 0) w := by
  simp [Builtin.append_, run_underlying ht, run_underlying h2, sizeOf, typeInfo, hi, hln, hf]

theorem agg_append {w : World} {loc : Loc} {N : Nat} : ∀ {ps : List AV} {cs ds : List Value} {qs : List AV}, Rep w loc N cs (.agg ps) → Rep w loc N ds (.agg qs) → Rep w loc N (cs ++ ds) (.agg (ps ++ qs))
  | [], cs, ds, qs, h, h' => by rw [h.nil_inv]; simpa using h'
  | p :: ps, cs, ds, qs, h, h' => by
    obtain ⟨xs, ys, rfl, h1, h2⟩ := h.cons_inv
    rw [List.append_assoc]
    exact .agg _ _ _ _ h1 (agg_append h2 h')

/-- append onto a whole block of the call's own. -/
theorem append_heap {w : World} {loc : Loc} {H : Heap} (hI : HeapInv w loc H) {v : Value} {b ver n : Nat} {e : Shape} {blk : Blk} {ps : List AV} (hp : Rep w loc H.length [v] (.own b ver [] 0 n e))
    (hg : H.get b = some blk) (hver : blk.ver = ver) (happ : blk.app = true) (hsh : blk.sh = .arr n e) (hroot : blk.root = .agg ps)
    (t t2 ty : TypeId) (i : TypeInfo) (z : Value) (d2 : TypeDesc) (ht : P.underlying t = some (.slice blk.e)) (hi : P.info? blk.e = some i) (hz : i.zero = some z) (hzs : z.cells.size = e.size) (his : i.size = e.size)
    (h2 : P.underlying t2 = some d2) (hd2 : ∀ k, d2 ≠ .int k)
    (x : Value) (m : Nat) (news : List Value) (qs : List AV) (hln : ∀ w', w'.heap = w.heap → (Builtin.lenOf x).run P w' = .ok m w') (hf : ∀ w', w'.heap = w.heap → (Builtin.firstCells i.size m x).run P w' = .ok news.toArray w')
    (hnews : Rep w loc H.length news (.agg qs)) (hqs : qs.length = m) (hqe : ∀ q ∈ qs, HasSh e q) (hmax : n + m ≤ maxLen) (hbytes : (n + m) * i.bytes ≤ 140737488355328) :
    ∃ v' w' loc', (Builtin.append_ #[t, t2] ty #[v, x]).run P w = .ok v' w' ∧ HeapInv w' loc' (H.set b (some { blk with ver := ver + 1, sh := .arr (n + m) e, root := .agg (ps ++ qs) })) ∧ Ext w loc H.length w' loc' ∧
      Rep w' loc' H.length [v'] (.own b (ver + 1) [] 0 (n + m) e) := by
  obtain ⟨ad', cap', hv', hb, hv, hcp, h1, hmx, ho⟩ := hp.own_inv
  simp only [List.cons.injEq, and_true] at hv'
  obtain ⟨l, hlb, hB⟩ := hI.blk b blk hg
  obtain ⟨e1, e2, hhs, hB⟩ := hB
  have hO := ho l hlb (e1.trans hver)
  rw [hsh, hroot] at hhs
  obtain ⟨hpl, hpe⟩ := hasSh_arr_agg.1 hhs
  have hnewsh : HasSh (.arr (n + m) e) (.agg (ps ++ qs)) := hasSh_arr_agg.2 ⟨by simp [hpl, hqs], fun p hp => by
    rcases List.mem_append.1 hp with h | h
    · exact hpe p h
    · exact hqe p h⟩
  have hnl : news.length = m * e.size := by
    have := hnews.size (.arr m e) (hasSh_arr_agg.2 ⟨hqs, hqe⟩)
    simpa using this
  have hsmall : n + m ≤ 9223372036854775807 := by simp only [maxLen] at hmax; omega
  -- the grown case, whatever the old place
  have grown : ∀ (base : Option Addr) (sCap : Nat) (olds : List Value), v = .slice base n sCap → sCap < n + m → Rep w loc H.length olds (.agg ps) →
      (∀ w', w'.heap = w.heap → (Builtin.firstCells i.size n (.slice base n sCap)).run P w' = .ok olds.toArray w') →
      ∃ v' w' loc', (Builtin.append_ #[t, t2] ty #[v, x]).run P w = .ok v' w' ∧ HeapInv w' loc' (H.set b (some { blk with ver := ver + 1, sh := .arr (n + m) e, root := .agg (ps ++ qs) })) ∧ Ext w loc H.length w' loc' ∧
        Rep w' loc' H.length [v'] (.own b (ver + 1) [] 0 (n + m) e) := by
    intro base sCap olds hvb hlt hro hfo
    have hrun := run_append_grow2 (P := P) w t t2 ty blk.e i z d2 ht hi hz h2 hd2 base n sCap olds (hfo w.drew rfl) x m news (hln w rfl) (hf w.drew rfl) hlt (by omega) (growslice_fits hlt hbytes)
    have hge := grownCap_ge w (n + m) sCap blk.e
    have hcm : grownCap w (n + m) sCap blk.e ≤ maxLen := grownCap_le_maxLen w (n + m) sCap blk.e hmax
    have hol : olds.length = n * e.size := by
      have := hro.size (.arr n e) (hasSh_arr_agg.2 ⟨hpl, hpe⟩)
      simpa using this
    have hE : Ext w loc H.length (w.drew.alloc (.cells (olds ++ news ++ (Builtin.zeroCells z.cells (grownCap w (n + m) sCap blk.e - (n + m))).toList).toArray blk.e)) (updL loc b ⟨ver + 1, .arr (n + m) e, some w.heap.size, grownCap w (n + m) sCap blk.e⟩) :=
      ext_ver (H := H) hlb (show l.ver < ver + 1 by omega) (fun k hk => .inr (by simp at hk; omega)) rfl rfl rfl (by simp) (fun k hk _ => heap_alloc_old w.drew _ k hk)
    refine ⟨_, _, updL loc b ⟨ver + 1, .arr (n + m) e, some w.heap.size, grownCap w (n + m) sCap blk.e⟩, by rw [hvb]; exact hrun, ?_, hE, ?_⟩
    · refine inv_ver hI hg hlb (fun k hk => .inr (by simp at hk; omega)) hE (fun k hk _ => heap_alloc_old w.drew _ k hk) ⟨rfl, rfl, hnewsh, ?_⟩
      refine ⟨_, (0, 0), olds ++ news, heap_alloc_new w.drew _, ?_, (agg_append hro hnews).mono hE (Nat.le_refl _), by simp, fun _ => ⟨rfl, n + m, e, rfl, hge, hcm, ?_⟩⟩
      · rw [List.take_left']; rfl
      · simp only [List.size_toArray, List.length_append, Array.length_toList, size_zeroCells, hzs, hol, hnl, ← Nat.add_mul]
        congr 1; omega
    · refine .own b (ver + 1) [] 0 (n + m) e _ _ hb (fun l' hl' => ?_) (by omega) (fun _ => ⟨_, _, rfl⟩) (by omega) (fun l' hl' _ => ?_)
      · simp [updL] at hl'; subst hl'; exact Nat.le_refl _
      · simp [updL] at hl'; subst hl'
        exact ⟨n + m, 0, _, by simp [atS], by omega, rfl, hge, fun _ => by simp [offS], fun _ _ _ => ⟨rfl, rfl⟩⟩
  unfold OwnAt at hO
  cases hw : l.wb with
  | none =>
    simp only [hw] at hO
    obtain ⟨h6, rfl, -, -, h5⟩ := hO
    simp only [Value.slice.injEq] at h6
    obtain ⟨rfl, -, rfl⟩ := h6
    have hps : ps = [] := List.eq_nil_of_length_eq_zero hpl
    subst hps
    by_cases hm : m = 0
    · subst hm
      have hq0 : qs = [] := List.eq_nil_of_length_eq_zero hqs
      subst hq0
      have hrun := run_append_none0 (P := P) w t t2 ty blk.e i d2 ht hi h2 hd2 x news (hln w rfl) (hf w rfl)
      have hE : Ext w loc H.length w (updL loc b ⟨ver + 1, .arr 0 e, none, 0⟩) := ext_ver (H := H) hlb (show l.ver < ver + 1 by omega) (fun k hk => by cases hk) rfl rfl rfl (Nat.le_refl _) (fun _ _ _ => rfl)
      refine ⟨_, w, updL loc b ⟨ver + 1, .arr 0 e, none, 0⟩, by rw [hv']; exact hrun, ?_, hE, ?_⟩
      · exact inv_ver hI hg hlb (fun k hk => by cases hk) hE (fun _ _ _ => rfl) ⟨rfl, rfl, hnewsh, happ, e, rfl⟩
      · refine .own b (ver + 1) [] 0 0 e _ _ hb (fun l' hl' => ?_) (by omega) (fun h => absurd h (by omega)) (by omega) (fun l' hl' _ => ?_)
        · simp [updL] at hl'; subst hl'; exact Nat.le_refl _
        · simp [updL] at hl'; subst hl'
          exact ⟨rfl, rfl, rfl, rfl, rfl⟩
    · exact grown none 0 [] hv' (by omega) (by simpa using Rep.agg0) (fun w' _ => by simp [Builtin.firstCells])
  | some k =>
    simp only [hw] at hO hB
    obtain ⟨len, o, cap, hat, hlen, h6, hcap, hoff, hfull⟩ := hO
    simp only [Value.slice.injEq, true_and] at h6
    obtain ⟨rfl, rfl⟩ := h6
    rw [e2, hsh] at hat
    simp [atS] at hat
    subst hat
    obtain ⟨rfl, rfl⟩ := hfull (by simp) (by simp) rfl
    obtain ⟨c, fr, cs, hc, htk, hr, hfr, hap⟩ := hB
    obtain ⟨rfl, n', e', hsh', hnc, hcm, hcs⟩ := hap happ
    rw [hsh] at hsh'
    cases hsh'
    rw [hroot] at hr
    have hcl : cs.length = n * e.size := by
      have := hr.size (.arr n e) (hasSh_arr_agg.2 ⟨hpl, hpe⟩)
      simpa using this
    by_cases hroom : n + m ≤ l.cap
    · have hfit : n * i.size + news.length ≤ c.size := by rw [his, hnl, hcs, ← Nat.add_mul]; exact Nat.mul_le_mul_right _ hroom
      have hrun := run_append_room2 (P := P) w t t2 ty blk.e i d2 ht hi h2 hd2 k n l.cap c blk.e hc x m news (hln w rfl) (hf w rfl) hnews.one hroom hfit
      have hE : Ext w loc H.length (w.setRow k (c.toList.take (n * i.size) ++ news ++ c.toList.drop (n * i.size + news.length)).toArray) (updL loc b ⟨ver + 1, .arr (n + m) e, some k, l.cap⟩) :=
        ext_ver (H := H) hlb (show l.ver < ver + 1 by omega) (fun k' hk' => .inl (by rw [hw]; exact hk')) rfl rfl rfl (by simp) (fun k' _ hk' => setRow_other w k k' _ (fun e => hk' (by rw [hw, e])))
      refine ⟨_, _, updL loc b ⟨ver + 1, .arr (n + m) e, some k, l.cap⟩, by rw [hv']; exact hrun, ?_, hE, ?_⟩
      · refine inv_ver hI hg hlb (fun k' hk' => .inl (by rw [hw]; exact hk')) hE (fun k' _ hk' => setRow_other w k k' _ (fun e => hk' (by rw [hw, e]))) ⟨rfl, rfl, hnewsh, ?_⟩
        refine ⟨_, (0, 0), cs ++ news, setRow_heap w k c _ blk.e _ hc, ?_, (agg_append hr hnews).mono hE (Nat.le_refl _), by simp, fun _ => ⟨rfl, n + m, e, rfl, hroom, hcm, ?_⟩⟩
        · have : c.toList.take (n * i.size) = cs := by rw [his, ← hcl]; exact htk
          rw [this, List.take_left']; rfl
        · rw [his] at hfit
          simp only [List.size_toArray, List.length_append, List.length_take, List.length_drop, Array.length_toList, his]
          omega
      · refine .own b (ver + 1) [] 0 (n + m) e _ _ hb (fun l' hl' => ?_) (by omega) (fun _ => ⟨_, _, rfl⟩) (by omega) (fun l' hl' _ => ?_)
        · simp [updL] at hl'; subst hl'; exact Nat.le_refl _
        · simp [updL] at hl'; subst hl'
          exact ⟨n + m, 0, _, by simp [atS], by omega, rfl, hroom, fun _ => by simp [offS], fun _ _ _ => ⟨rfl, rfl⟩⟩
    · refine grown (some ⟨k, 0, none⟩) l.cap cs hv' (by omega) hr (fun w' hw' => ?_)
      refine run_firstCells_some (P := P) w' i.size n ⟨k, 0, none⟩ n l.cap cs (by rw [his]; exact hcl) ?_
      exact cell_of_seg (w := w') (by rw [hw']; exact hc) (by simpa using htk)

end
end Go.V
