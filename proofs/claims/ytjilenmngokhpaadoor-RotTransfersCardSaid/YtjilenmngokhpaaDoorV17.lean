import Derived.Test.YtjilenmngokhpaaDoorV16
/- Each operation that makes or writes memory comes to what is reckoned: all of them. -/
namespace Go.V
open Go

section
variable {P : Program} {w : World} {loc : Loc} {H : Heap}

theorem setAll_agg {N : Nat} {s : Shape} {z : AV} {u : Value} {ix : List Nat} {as : List AV} {zs qs : List AV} (hz : z = .agg zs) (hs : HasSh s z) (hu : Rep w loc N u.cells.toList z) (place : Nat → Option (Nat × Nat))
    (hplace : ∀ i t, subS s i = some t → place i = some (offS s [i], t.size)) {vs : List Value} (hv : RepVs w loc N vs as) (hat : HasAt s ix as) (hset : setAll zs ix as = some qs) :
    ∃ cells' : Array Value, Instr.fill place u.cells (ix.zip vs) = some cells' ∧ Rep w loc N cells'.toList (.agg qs) ∧ HasSh s (.agg qs) := by
  subst hz
  exact fill_run place hplace ix vs as zs qs u.cells hs hu hv hat hset

theorem mapM_fields {fs : List Field} {l : List Shape} (h : ∀ (i : Nat) (fd : Field) (s : Shape), fs[i]? = some fd → l[i]? = some s → TyOk P fd.type s) (hl : fs.length = l.length) :
    (fs.mapM fun f => do pure (f.offset, ← sizeOf f.type) : Sem (List (Nat × Nat))).run P w = .ok ((fs.zip l).map fun x => (x.1.offset, x.2.size)) w := by
  induction fs generalizing l with
  | nil => simp
  | cons f fs ih =>
    cases l with
    | nil => simp at hl
    | cons s l =>
      have h0 := h 0 f s (by simp) (by simp)
      have := ih (l := l) (fun i fd t h1 h2 => h (i + 1) fd t (by simpa using h1) (by simpa using h2)) (by simpa using hl)
      simp only [List.mapM_cons, Sem.run_bind, h0.run_size, Result.andThen_ok, Sem.run_pure, this]
      rfl

theorem size_drew' (w : World) : w.drew.heap.size = w.heap.size := rfl

theorem rep_u8s {N : Nat} : ∀ l : List (BitVec 8), Rep w loc N (l.map fun x => .int .u8 (x.toNat : Int)) (.agg (l.map AV.u8))
  | [] => .agg0
  | x :: l => by simpa using Rep.agg [.int .u8 (x.toNat : Int)] _ (.u8 x) _ (.u8 x) (rep_u8s l)

theorem zip_parts (parts : List (Nat × Operand)) (ev : Operand → Value) : (parts.map (·.1)).zip ((parts.map (·.2)).map ev) = parts.map fun x => (x.1, ev x.2) := by
  induction parts with
  | nil => rfl
  | cons x parts ih => simp only [List.map_cons, List.zip_cons_cons, ih]

theorem e_sound (hI : HeapInv w loc H) {op : Op} {q : E} {xs : List Operand} (hq : EOp P op q xs) {ev : Operand → Value} {args : List AV} (ha : RepVs w loc H.length (xs.map ev) args) {p : Prop} {r : AV} {H' : Heap}
    (he : eev H q args = some (p, r, H')) (hp : p) (o : Oper) (ho : o.op = op) :
    ∃ nx w' loc', (execOp ev o).run P w = .ok nx w' ∧ HeapInv w' loc' H' ∧ Ext w loc H.length w' loc' ∧ H.length ≤ H'.length ∧ ((∃ v, nx = .value v ∧ RepV w' loc' H'.length v r) ∨ (nx = .skip ∧ r = .un)) := by
  cases hq with
  | alloc t s z hz =>
    cases ha
    simp only [eev, Option.some.injEq, Prod.mk.injEq] at he
    obtain ⟨rfl, rfl, rfl⟩ := he
    obtain ⟨v, w', loc', h1, h2, h3, h4⟩ := alloc_run hz hI
    exact ⟨_, w', loc', by simp only [execOp, ho, Sem.run_bind, h1, Result.andThen_ok, Sem.run_pure], h2, h3, by simp, .inl ⟨v, rfl, by simpa using h4⟩⟩
  | box t s x =>
    obtain ⟨a, rfl, hx⟩ := RepVs.inv1 (by simpa using ha)
    simp only [eev, Option.some.injEq, Prod.mk.injEq] at he
    obtain ⟨rfl, rfl, rfl⟩ := he
    obtain ⟨loc', g1, g2, g3⟩ := var_new hI t (hx.cells hp) hp
    exact ⟨.value (.pointer (some ⟨w.heap.size, 0, none⟩)), _, loc', by simp [execOp, ho, Instr.box, newVar, newRow], g1, g2, by simp, .inl ⟨_, rfl, .cell _ _ rfl (by simpa using g3)⟩⟩
  | store t s a x hty =>
    obtain ⟨b, c, rfl, hx, hy⟩ := RepVs.inv2 (by simpa using ha)
    simp only [eev, Option.map_eq_some_iff, Prod.mk.injEq] at he
    obtain ⟨H1, hst, rfl, rfl, rfl⟩ := he
    obtain ⟨w', h1, h2, h3, h4⟩ := storeVar_run hty hI hst hp.1 hp.2 hx hy
    exact ⟨_, w', loc, by simp only [execOp, ho, Sem.run_bind, h1, Result.andThen_ok, Sem.run_pure], h2, h3, by omega, .inr ⟨rfl, rfl⟩⟩
  | mksl t e s z i by_ l c ht hi hb hz =>
    obtain ⟨a, b, rfl, hx, hy⟩ := RepVs.inv2 (by simpa using ha)
    simp only [eev] at he
    cases hna : a.num with
    | none => simp [hna] at he
    | some m =>
      cases hnb : b.num with
      | none => simp [hna, hnb] at he
      | some m' =>
        simp only [hna, hnb, Option.some.injEq, Prod.mk.injEq] at he
        obtain ⟨rfl, rfl, rfl⟩ := he
        obtain ⟨kk, hv⟩ := num_inv (hx.rep (num_cell hna)) hna
        obtain ⟨kk', hv'⟩ := num_inv (hy.rep (num_cell hnb)) hnb
        obtain ⟨h0, h1, h2, h3⟩ := hp
        subst hb
        obtain ⟨v, w', loc', g1, g2, g3, g4⟩ := mksl_run (kl := kk) (kc := kk') ht hi hz hI h0 h1 h2 h3
        exact ⟨_, w', loc', by simp only [execOp, ho, hv, hv', Sem.run_bind, g1, Result.andThen_ok, Sem.run_pure], g2, g3, by simp, .inl ⟨v, rfl, by simpa using g4⟩⟩
  | bsl t e s z len parts ht hz hpos =>
    simp only [eev, Option.map_eq_some_iff, Prod.mk.injEq] at he
    obtain ⟨ps, hset, rfl, rfl, rfl⟩ := he
    obtain ⟨hat, hbig⟩ := hp
    obtain ⟨i, u, g1, g2, g3, g4, g5⟩ := hz.tyOk_size
    have hrep := rep_replicate (g5 w loc H.length) len
    have hmade := made_take u.cells len len (Nat.le_refl _)
    have hml : (madeCells u.cells (len * u.cells.size)).toList.length = len * u.cells.size := by simp [size_madeCells]
    rw [List.take_of_length_le (by rw [hml]; exact Nat.le_refl _)] at hmade
    rw [← hmade] at hrep
    have hsh : HasSh (.arr len s) (.agg (List.replicate len z)) := hasSh_arr_agg.2 ⟨by simp, fun p hp => by rw [(List.mem_replicate.1 hp).2]; exact hz.sh⟩
    obtain ⟨cells', hf, hr', hs'⟩ := fill_run (fun i => some (i * s.size, s.size)) (fun i t hit => by
      simp only [subS] at hit
      split at hit
      · cases hit; rw [offS_arr]
      · cases hit) (parts.map (·.1)) ((parts.map (·.2)).map ev) args _ ps _ hsh hrep ha hat hset
    obtain ⟨hpl, hpe⟩ := hasSh_arr_agg.1 hs'
    have hzip := zip_parts parts ev
    rw [hzip] at hf
    have hcl := cells_len hpe hr'
    simp only [Array.length_toList] at hcl
    have hmx : len ≤ maxLen := by
      have := Nat.le_mul_of_pos_right len hpos
      simp only [maxLen]; omega
    obtain ⟨loc', r1, r2, r3⟩ := row_new (w' := w.alloc (.cells cells' e)) (ver := 0) hI e (c := cells') (cs := cells'.toList) (cap := len) (e := s) rfl rfl rfl rfl List.take_length hr' hpe (by omega) hmx (by rw [hcl, hpl])
    rw [hpl] at r1 r3
    refine ⟨_, _, loc', ?_, r1, r2, by simp, .inl ⟨_, rfl, .cell _ _ rfl (by simpa using r3)⟩⟩
    have hbig' : ¬ (2 ^ 24 < len * s.size) := by omega
    have hsz : (sizeOf e).run P w = .ok s.size w := by simp [sizeOf, typeInfo, g1, g3]
    have hzv : (zeroValue e).run P w = .ok u w := by simp [zeroValue, typeInfo, g1, g2]
    by_cases h0 : len * s.size = 0
    · have hm0 : madeCells u.cells (len * u.cells.size) = #[] := by rw [g4, h0]; simp [madeCells]
      rw [hm0] at hf
      simp only [execOp, ho, Sem.run_bind, Instr.buildSlice, run_underlying ht, Result.andThen_ok, hsz, gt_iff_lt, Nat.not_lt_zero, if_false, h0, if_true, Array.range_zero', List.map_nil, List.map_toArray, Sem.run_pure]
      simp only [hf, newRow, Sem.run_bind, run_newObj, Sem.run_pure, Result.andThen_ok]
      rfl
    · have hm0 : (Array.range (len * s.size)).map (u.cells[· % u.cells.size]!) = madeCells u.cells (len * u.cells.size) := by simp only [madeCells, g4]
      simp only [execOp, ho, Sem.run_bind, Instr.buildSlice, run_underlying ht, Result.andThen_ok, hsz, gt_iff_lt, hbig', if_false, h0, hzv, Sem.run_pure, hm0, List.map_toArray, hf, newRow, run_newObj]
      rfl
  | bldS t fs l z parts ht hfs hz =>
    simp only [eev] at he
    have hz' := hz.sh
    obtain ⟨zs, rfl, hzs⟩ := hasSh_st.1 hz'
    simp only [Option.map_eq_some_iff, Prod.mk.injEq] at he
    obtain ⟨ps, hset, rfl, rfl, rfl⟩ := he
    obtain ⟨i, u, g1, g2, g3, g4, g5⟩ := hz.tyOk_size
    obtain ⟨hfl, hff⟩ := hfs
    have hpl : ∀ i t, subS (.st l) i = some t → (((fs.toList.zip l).map fun x => (x.1.offset, x.2.size)).toArray)[i]? = some (offS (.st l) [i], t.size) := by
      intro i t hit
      simp only [subS] at hit
      have hil : i < l.length := (List.getElem?_eq_some_iff.1 hit).1
      have hif : i < fs.toList.length := by simp [hfl, hil]
      have hfi : fs[i]? = some (fs.toList[i]) := by simp [show i < fs.size by omega]
      have hh := hff i _ t hfi hit
      have hli : l[i] = t := by rw [List.getElem?_eq_getElem hil] at hit; simpa using hit
      rw [offS_st hit, ← hh.1]
      have hz2 : (fs.toList.zip l)[i]? = some (fs.toList[i], l[i]) := by
        rw [List.getElem?_eq_getElem (by rw [List.length_zip]; omega), List.getElem_zip]
      rw [List.getElem?_toArray, List.getElem?_map, hz2, Option.map_some, hli]
    obtain ⟨cells', hf, hr', hs'⟩ := setAll_agg rfl hz' (g5 w loc H.length) _ hpl ha hp hset
    have hzip := zip_parts parts ev
    rw [hzip] at hf
    refine ⟨_, w, loc, ?_, hI, Ext.refl _ _ _, Nat.le_refl _, .inl ⟨.agg cells', rfl, by simpa using RepV.agg _ _ hr'⟩⟩
    have hm := mapM_fields (w := w) (fs := fs.toList) (l := l) (fun i fd s h1 h2 => (hff i fd s (by simpa using h1) h2).2) (by simpa using hfl)
    have hm2 : (fs.mapM fun f => do pure (f.offset, ← sizeOf f.type) : Sem (Array (Nat × Nat))).run P w = .ok ((fs.toList.zip l).map fun x => (x.1.offset, x.2.size)).toArray w := by
      rw [Array.mapM_eq_mapM_toList, Sem.run_map, hm]; rfl
    simp only [execOp, ho, Sem.run_bind, Instr.build, zeroValue, typeInfo, run_program, Result.andThen_ok, g1, g2, Sem.run_pure, run_underlying ht, hm2, List.map_toArray, hf]
  | bldA t e n s z parts ht hty hz =>
    simp only [eev] at he
    have hz' := hz.sh
    obtain ⟨zs, rfl, hzl, hzs⟩ := hasSh_arr.1 hz'
    simp only [Option.map_eq_some_iff, Prod.mk.injEq] at he
    obtain ⟨ps, hset, rfl, rfl, rfl⟩ := he
    obtain ⟨i, u, g1, g2, g3, g4, g5⟩ := hz.tyOk_size
    obtain ⟨cells', hf, hr', hs'⟩ := setAll_agg rfl hz' (g5 w loc H.length) (fun i => some (i * s.size, s.size)) (fun i t hit => by
      simp only [subS] at hit
      split at hit
      · cases hit; rw [offS_arr]
      · cases hit) ha hp hset
    have hzip := zip_parts parts ev
    rw [hzip] at hf
    refine ⟨_, w, loc, ?_, hI, Ext.refl _ _ _, Nat.le_refl _, .inl ⟨.agg cells', rfl, by simpa using RepV.agg _ _ hr'⟩⟩
    simp only [execOp, ho, Sem.run_bind, Instr.build, zeroValue, typeInfo, run_program, Result.andThen_ok, g1, g2, Sem.run_pure, run_underlying ht, hty.run_size, List.map_toArray, hf]
  | app t t2 e e2 s z i by_ d x ht ht2 hi hb hz =>
    obtain ⟨a, b, rfl, hd, hx⟩ := RepVs.inv2 (by simpa using ha)
    obtain ⟨j, u, g1, g2, g3, g4, g5⟩ := hz.tyOk_size
    rw [hi] at g1; cases g1
    subst hb
    cases a <;> simp only [eev, reduceCtorEq] at he
    case nils =>
      simp only [Option.map_eq_some_iff, Prod.mk.injEq] at he
      obtain ⟨qs, hrd, rfl, rfl, rfl⟩ := he
      obtain ⟨h1, h2, h3⟩ := hp
      obtain ⟨news, n1, n2, n3⟩ := src_slice (P := P) hI hx hrd h1 qs.length (Nat.le_refl _)
      rw [List.take_length] at n1
      rw [← g3] at n3
      obtain ⟨v, w', loc', r1, r2, r3, r4⟩ := app_nil hI ht ht2 (by simp) hi hz n1 n2 n3 h1 h2 h3 o.type
      have hv := (hd.rep rfl).nils_inv; simp at hv
      exact ⟨_, w', loc', by simp [execOp, ho, resolve, invoke, builtin, hv, r1], r2, r3, by simp, .inl ⟨v, rfl, by simpa using r4⟩⟩
    case own bb ver pa off n e' =>
      cases hg : H.get bb with
      | none => simp [hg] at he
      | some blk =>
        cases hrd : rd H b with
        | none => simp [hg, hrd] at he
        | some qs =>
          simp only [hg, hrd] at he
          cases hroot : blk.root <;> simp only [hroot, reduceCtorEq] at he
          rename_i ps
          simp only [Option.some.injEq, Prod.mk.injEq] at he
          obtain ⟨rfl, rfl, rfl⟩ := he
          obtain ⟨h1, rfl, rfl, rfl, rfl, h2, h3, h4, h5, h6⟩ := hp
          obtain ⟨news, n1, n2, n3⟩ := src_slice (P := P) hI hx hrd h4 qs.length (Nat.le_refl _)
          rw [List.take_length] at n1
          rw [← g3] at n3
          obtain ⟨v', w', loc', r1, r2, r3, r4⟩ := append_heap (P := P) hI (hd.rep rfl) hg h1 h2 h3 hroot t t2 o.type i u _ ht hi g2 g4 g3 ht2 (by simp) (ev x) qs.length news qs n2 n3 n1 rfl h4 h5 h6
          refine ⟨_, w', loc', by simp [execOp, ho, resolve, invoke, builtin, r1], ?_, r3, by simp, .inl ⟨v', rfl, .cell _ _ rfl (by simpa using r4)⟩⟩
          rw [h2] at r2
          exact r2
  | appS t t2 e z i d x ht ht2 hi hb hz =>
    obtain ⟨a, b, rfl, hd, hx⟩ := RepVs.inv2 (by simpa using ha)
    obtain ⟨j, u, g1, g2, g3, g4, g5⟩ := hz.tyOk_size
    rw [hi] at g1; cases g1
    have hu8 : ∀ (l : List (BitVec 8)), ∀ q ∈ l.map AV.u8, HasSh .leaf q := by
      intro l q hq
      obtain ⟨y, _, rfl⟩ := List.mem_map.1 hq
      exact hasSh_leaf.2 rfl
    cases a <;> cases b <;> simp only [eev, reduceCtorEq] at he
    case nils.str l =>
      simp only [Option.some.injEq, Prod.mk.injEq] at he
      obtain ⟨rfl, rfl, rfl⟩ := he
      obtain ⟨news, n1, n2, n3⟩ := src_str (P := P) hx l.length
      have hlen : (l.map AV.u8).length = l.length := by simp
      rw [List.take_of_length_le (by simp)] at n1
      obtain ⟨v, w', loc', r1, r2, r3, r4⟩ := app_nil hI ht ht2 (by simp) hi hz n1 (fun w' _ => by rw [hlen]; exact n2 w') (fun w' _ => by rw [g3, hlen]; exact n3 w') (hu8 l) (by rw [hlen]; simp only [maxLen]; omega) (by rw [hlen, hb]; omega) o.type
      have hv := (hd.rep rfl).nils_inv; simp at hv
      rw [hlen] at r2 r4
      exact ⟨_, w', loc', by simp [execOp, ho, resolve, invoke, builtin, hv, r1], r2, r3, by simp, .inl ⟨v, rfl, by simpa using r4⟩⟩
    case own.str bb ver pa off n e' l =>
      cases hg : H.get bb with
      | none => simp [hg] at he
      | some blk =>
        simp only [hg] at he
        cases hroot : blk.root <;> simp only [hroot, reduceCtorEq] at he
        rename_i ps
        simp only [Option.some.injEq, Prod.mk.injEq] at he
        obtain ⟨rfl, rfl, rfl⟩ := he
        obtain ⟨h1, rfl, rfl, rfl, rfl, h2, h3, h5⟩ := hp
        obtain ⟨news, n1, n2, n3⟩ := src_str (P := P) hx l.length
        rw [List.take_of_length_le (by simp)] at n1
        obtain ⟨v', w', loc', r1, r2, r3, r4⟩ := append_heap (P := P) hI (hd.rep rfl) hg h1 h2 h3 hroot t t2 o.type i u _ ht hi g2 g4 g3 ht2 (by simp) (ev x) l.length news (l.map AV.u8) (fun w' _ => n2 w') (fun w' _ => by rw [g3]; exact n3 w') n1 (by simp) (hu8 l) (by simp only [maxLen]; omega) (by rw [hb]; omega)
        refine ⟨_, w', loc', by simp [execOp, ho, resolve, invoke, builtin, r1], ?_, r3, by simp, .inl ⟨v', rfl, .cell _ _ rfl (by simpa using r4)⟩⟩
        rw [h2] at r2
        exact r2
  | cpy t t2 e e2 s d x ht ht2 hty =>
    obtain ⟨a, b, rfl, hd, hx⟩ := RepVs.inv2 (by simpa using ha)
    cases a <;> simp only [eev, reduceCtorEq] at he
    rename_i bb ver pa off n e'
    cases hrd : rd H b with
    | none => simp [hrd] at he
    | some qs =>
      simp only [hrd, Option.map_eq_some_iff, Prod.mk.injEq] at he
      obtain ⟨H1, hcp, rfl, rfl, rfl⟩ := he
      obtain ⟨rfl, hq⟩ := hp
      have hq' : ∀ q ∈ qs.take (min qs.length n), HasSh e' q := fun q h => hq q (List.mem_of_mem_take h)
      obtain ⟨news, n1, n2, n3⟩ := src_slice (P := P) hI hx hrd hq (min qs.length n) (Nat.min_le_left _ _)
      obtain ⟨ad, cap, hv, hbb, hver, hc, hne, hmx, hO⟩ := (hd.rep rfl).own_inv
      simp at hv
      have hdr := hd.rep rfl
      rw [hv] at hdr
      have hle : (qs.take (min qs.length n)).length ≤ n := by rw [List.length_take]; omega
      have hmin : Nat.min qs.length n = min qs.length n := rfl
      have hn0 : Nat.min qs.length n ≤ maxLen := by rw [hmin]; omega
      rcases cp_heap hI hdr hcp hq' n1 hle with ⟨h0, hI', hl⟩ | ⟨k, o2, cur, te, fr, rfl, hk, hfit, hfr, h1, hI', hE, hl⟩
      · rw [h0] at n1
        have hnews := n1.nil_inv
        subst hnews
        refine ⟨_, w, loc, ?_, hI', Ext.refl _ _ _, by omega, .inl ⟨_, rfl, .cell _ _ rfl (.int _ (inR_nat hn0))⟩⟩
        cases ad <;> simp [execOp, ho, resolve, invoke, builtin, hv, Builtin.copy_, run_underlying ht, n2 w rfl, hty.run_size, n3 w rfl, hmin, goInt, storeCells]
      · refine ⟨_, _, loc, ?_, hI', hE, by omega, .inl ⟨_, rfl, .cell _ _ rfl (.int _ (inR_nat hn0))⟩⟩
        have hst := run_storeCells_row P k o2 te fr news 0 cur w hk (by simpa using hfit) hfr h1
        simp only [Nat.add_zero] at hst
        simp [execOp, ho, resolve, invoke, builtin, hv, Builtin.copy_, run_underlying ht, n2 w rfl, hty.run_size, n3 w rfl, hmin, goInt, hst]
  | cpyS t t2 e d x ht ht2 hty =>
    obtain ⟨a, b, rfl, hd, hx⟩ := RepVs.inv2 (by simpa using ha)
    cases a <;> cases b <;> simp only [eev, reduceCtorEq] at he
    rename_i bb ver pa off n e' l
    simp only [Option.map_eq_some_iff, Prod.mk.injEq] at he
    obtain ⟨H1, hcp, rfl, rfl, rfl⟩ := he
    subst hp
    have hq' : ∀ q ∈ (l.map AV.u8).take (min l.length n), HasSh .leaf q := fun q h => by
      obtain ⟨y, _, rfl⟩ := List.mem_map.1 (List.mem_of_mem_take h)
      exact hasSh_leaf.2 rfl
    obtain ⟨news, n1, n2, n3⟩ := src_str (P := P) hx (min l.length n)
    obtain ⟨ad, cap, hv, hbb, hver, hc, hne, hmx, hO⟩ := (hd.rep rfl).own_inv
    simp at hv
    have hdr := hd.rep rfl
    rw [hv] at hdr
    have hle : ((l.map AV.u8).take (min l.length n)).length ≤ n := by rw [List.length_take]; omega
    have hmin : Nat.min l.length n = min l.length n := rfl
    have hn0 : Nat.min l.length n ≤ maxLen := by rw [hmin]; omega
    have hsz := hty.run_size (w := w)
    rw [Shape.size_leaf] at hsz
    rcases cp_heap hI hdr hcp hq' n1 hle with ⟨h0, hI', hl⟩ | ⟨k, o2, cur, te, fr, rfl, hk, hfit, hfr, h1, hI', hE, hl⟩
    · rw [h0] at n1
      have hnews := n1.nil_inv
      subst hnews
      refine ⟨_, w, loc, ?_, hI', Ext.refl _ _ _, by omega, .inl ⟨_, rfl, .cell _ _ rfl (.int _ (inR_nat hn0))⟩⟩
      cases ad <;> simp [execOp, ho, resolve, invoke, builtin, hv, Builtin.copy_, run_underlying ht, n2 w, hsz, n3 w, hmin, goInt, storeCells]
    · refine ⟨_, _, loc, ?_, hI', hE, by omega, .inl ⟨_, rfl, .cell _ _ rfl (.int _ (inR_nat hn0))⟩⟩
      have hst := run_storeCells_row P k o2 te fr news 0 cur w hk (by simpa using hfit) hfr h1
      simp only [Nat.add_zero] at hst
      simp [execOp, ho, resolve, invoke, builtin, hv, Builtin.copy_, run_underlying ht, n2 w, hsz, n3 w, hmin, goInt, hst]
  | s2b src dst e x hs hd hee =>
    obtain ⟨a, rfl, hx⟩ := RepVs.inv1 (by simpa using ha)
    cases a <;> simp only [eev, Option.some.injEq, Prod.mk.injEq, reduceCtorEq] at he
    rename_i l
    obtain ⟨rfl, rfl, rfl⟩ := he
    obtain ⟨s, hsv, hl, hmx⟩ := (hx.rep rfl).str_inv
    simp at hsv
    have hsz := size_of_bytes hl
    obtain ⟨cap, hcap, hge⟩ : ∃ cap, cap = grownCap w s.size 0 e ∧ s.size ≤ cap := ⟨_, rfl, grownCap_ge w s.size 0 e⟩
    have hcm : cap ≤ maxLen := by rw [hcap]; exact grownCap_le_maxLen w s.size 0 e (by rw [hsz]; exact hmx)
    obtain ⟨c, hc⟩ : ∃ c : Array Value, c = (s.data.map fun b => Value.int .u8 b.toNat) ++ Array.replicate (cap - s.size) (.int .u8 0) := ⟨_, rfl⟩
    have hcs : c.size = cap := by rw [hc]; simp; have : s.data.size = s.size := rfl; omega
    have hbytes := rep_u8s (w := w) (loc := loc) (N := H.length) l
    have htk : c.toList.take l.length = l.map fun x => .int .u8 (x.toNat : Int) := by
      rw [hc, Array.toList_append, List.take_append_of_le_length (by simp [← hsz]), Array.toList_map, ← hl, List.map_map]
      rw [List.take_of_length_le (by simp)]
      apply List.map_congr_left
      intro b _
      rfl
    have hfreeze : ((w.drew.alloc (.cells c e)).freeze ⟨w.heap.size, c.size, none⟩ 1).heap = w.heap.push (.cells c e (c.size, c.size + 1)) := by
      simp only [World.freeze, if_neg (show ¬ (1 = 0) by omega), World.alloc, World.drew]
      apply Array.ext
      · simp
      · intro i h1 h2
        simp only [Array.getElem_modify, Array.getElem_push]
        split
        · rename_i hi; subst hi; simp
        · rename_i hi
          simp at h2
          have : i < w.heap.size := by omega
          simp [this]
    have hsh : HasSh (.arr l.length .leaf) (.agg (l.map AV.u8)) := hasSh_arr_agg.2 ⟨by simp, fun q hq => by
      obtain ⟨y, _, rfl⟩ := List.mem_map.1 hq
      exact hasSh_leaf.2 rfl⟩
    have hnew := inv_new (w' := (w.drew.alloc (.cells c e)).freeze ⟨w.heap.size, c.size, none⟩ 1) (c := c) (fr := (c.size, c.size + 1)) (cs := l.map fun x => .int .u8 (x.toNat : Int)) (blk := ⟨e, 0, false, .arr l.length .leaf, .agg (l.map .u8)⟩) (cap := cap)
      hI hfreeze rfl rfl rfl hsh (by simpa using htk) hbytes (fun i hi => by simp; omega) (by simp)
    refine ⟨.value (.slice (some ⟨w.heap.size, 0, none⟩) s.size cap), _, _, ?_, hnew.1, hnew.2, by simp, .inl ⟨_, rfl, .cell _ _ rfl ?_⟩⟩
    · have hgc : (choose (.appendCap s.size 0 e)).run P w = .ok cap w.drew := by simp [Question.forced, hcap, grownCap]
      have hshape : (w.drew.alloc (.cells c e)).shape? w.heap.size = some (e, c.size) := by
        have hh := heap_alloc_new w.drew (.cells c e)
        rw [size_drew'] at hh
        simp only [World.shape?, hh]
      simp only [execOp, ho, hsv, convert, Sem.run_bind, run_underlying hs, run_underlying hd, run_underlying hee, Result.andThen_ok, Conv.stringToBytes, hgc, newRow, run_newObj, ← hc, markStringish, run_shape, Sem.run_pure]
      have hw : ({ w.drew with heap := w.drew.heap.push (.cells c e) } : World) = w.drew.alloc (.cells c e) := rfl
      rw [hw]
      have hsz2 : w.drew.heap.size = w.heap.size := rfl
      simp only [hsz2, hshape, run_freeze, Result.andThen_ok]
    · rw [hsz]
      refine .own _ _ _ _ _ _ _ _ (by simp) (fun l' hl' => ?_) (by omega) (fun _ => ⟨_, _, rfl⟩) hmx (fun l' hl' _ => ?_)
      · simp [updL] at hl'; subst hl'; exact Nat.le_refl _
      · simp [updL] at hl'; subst hl'
        exact ⟨l.length, 0, cap, by simp [atS], by omega, rfl, by omega, fun _ => by simp [offS], fun _ _ _ => ⟨rfl, rfl⟩⟩

end
end Go.V
