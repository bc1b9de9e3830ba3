import Derived.Test.YtjilenmngokhpaaDoorV28
/- What a function made and hands back, read as lists: the function as a function of values. -/
namespace Go.V
open Go

def mapO (f : AV → Option AV) : List AV → Option (List AV)
  | [] => some []
  | x :: xs => match f x, mapO f xs with
    | some y, some ys => some (y :: ys)
    | _, _ => none

/-- The value, with what lies in blocks that are not kept read as lists. -/
def demK (kp : Nat → Bool) (N : Nat) (h : Heap) : Nat → AV → Option AV
  | 0, _ => none
  | d + 1, a => match a with
    | .own b ver pa off n e => if kp b = true ∧ b < N then some (.own b ver pa off n e) else match rd h (.own b ver pa off n e) with
      | some xs => (mapO (demK kp N h d) xs).map (.ro e)
      | none => none
    | .ptr b ver pa s => if kp b = true ∧ b < N then some (.ptr b ver pa s) else match ldP h (.ptr b ver pa s) with
      | some x => (demK kp N h d x).map (.rp s)
      | none => none
    | .agg ps => (mapO (demK kp N h d) ps).map .agg
    | .tup ps => (mapO (demK kp N h d) ps).map .tup
    | .fn f ps => (mapO (demK kp N h d) ps).map (.fn f)
    | .ro e xs => if AV.bnds N xs = true then some (.ro e xs) else none
    | .rp s x => if AV.bnd N x = true then some (.rp s x) else none
    | a => some a

theorem mapO_get {f : AV → Option AV} : ∀ {xs ys : List AV}, mapO f xs = some ys → ys.length = xs.length ∧ ∀ (i : Nat) (y : AV), ys[i]? = some y → ∃ x, xs[i]? = some x ∧ f x = some y
  | [], ys, h => by simp [mapO] at h; subst h; simp
  | x :: xs, ys, h => by
    simp only [mapO] at h
    split at h
    · rename_i y ys' h1 h2
      cases h
      obtain ⟨g1, g2⟩ := mapO_get h2
      refine ⟨by simp [g1], fun i z hz => ?_⟩
      cases i with
      | zero => simp at hz; subst hz; exact ⟨x, by simp, h1⟩
      | succ i => simp at hz; obtain ⟨u, hu⟩ := g2 i z hz; exact ⟨u, by simpa using hu⟩
    · cases h

/-- the places of the kept blocks alone -/
def mask (loc : Loc) (kp : Nat → Bool) : Loc := fun b => if kp b = true then loc b else none

theorem mask_some {loc : Loc} {kp : Nat → Bool} {b : Nat} {l : Lc} (h : mask loc kp b = some l) : kp b = true ∧ loc b = some l := by
  unfold mask at h; split at h
  · exact ⟨by assumption, h⟩
  · cases h

theorem Rep.mask {w : World} {loc : Loc} {N k : Nat} {kp : Nat → Bool} {cs : List Value} {a : AV} (h : Rep w loc N cs a) : a.bnd k = true → Rep w (mask loc kp) k cs a := by
  induction h with
  | agg cs ds a ps _ _ ih1 ih2 =>
    intro hb
    simp only [AV.bnd, AV.bnds, Bool.and_eq_true] at hb
    exact .agg _ _ _ _ (ih1 hb.1) (ih2 (by simpa [AV.bnd] using hb.2))
  | ro0 a cap e => intro _; exact .ro0 a cap e
  | ro k' o n cap c t fr e xs cs hk hn ht _ hl hc hm hs ih =>
    intro hb
    exact .ro k' o n cap c t fr e xs cs hk (fun b l hl => hn b l (mask_some hl).2) ht (ih (by simpa [AV.bnd] using hb)) hl hc hm hs
  | rp k' o c t fr s a cs hk hn ht _ hs ih =>
    intro hb
    exact .rp k' o c t fr s a cs hk (fun b l hl => hn b l (mask_some hl).2) ht (ih (by simpa [AV.bnd] using hb)) hs
  | own b ver pa off n e ad cap _ hv hc h1 hm ho =>
    intro hb
    exact .own b ver pa off n e ad cap (by simpa [AV.bnd] using hb) (fun l hl => hv l (mask_some hl).2) hc h1 hm (fun l hl => ho l (mask_some hl).2)
  | ptr b ver pa s k' o _ hv ho =>
    intro hb
    exact .ptr b ver pa s k' o (by simpa [AV.bnd] using hb) (fun l hl => hv l (mask_some hl).2) (fun l hl => ho l (mask_some hl).2)
  | fn f cap vs hl hc _ ih => intro hb; exact .fn f cap vs hl hc (ih (by simpa [AV.bnd] using hb))
  | bool b => intro _; exact .bool b
  | u8 x => intro _; exact .u8 x
  | u16 x => intro _; exact .u16 x
  | u32 x => intro _; exact .u32 x
  | u64 x => intro _; exact .u64 x
  | int x h => intro _; exact .int x h
  | str s l h h' => intro _; exact .str s l h h'
  | nilp => intro _; exact .nilp
  | nils => intro _; exact .nils
  | nilf => intro _; exact .nilf
  | agg0 => intro _; exact .agg0

theorem RepV.mask {w : World} {loc : Loc} {N k : Nat} {kp : Nat → Bool} {v : Value} {a : AV} (h : RepV w loc N v a) : a.bnd k = true → RepV w (mask loc kp) k v a := by
  induction h with
  | un v => intro _; exact .un v
  | cell v a ha h => intro hb; exact .cell v a ha (h.mask hb)
  | agg cs ps h => intro hb; exact .agg cs ps (h.mask hb)
  | tup vs ps hl _ ih =>
    intro hb
    refine .tup vs ps hl fun i v p h1 h2 => ih i v p h1 h2 ?_
    simp only [AV.bnd, bnds_iff] at hb
    exact hb p (List.mem_of_getElem? h2)

theorem dem_cell {kp : Nat → Bool} {N : Nat} {h : Heap} {d : Nat} {a a' : AV} (hd : demK kp N h d a = some a') : a'.isCell = a.isCell := by
  cases d with
  | zero => simp [demK] at hd
  | succ d =>
    cases a <;> simp only [demK] at hd
    case own =>
      split at hd
      · cases hd; rfl
      · split at hd
        · simp only [Option.map_eq_some_iff] at hd; obtain ⟨ys, _, rfl⟩ := hd; rfl
        · cases hd
    case ptr =>
      split at hd
      · cases hd; rfl
      · split at hd
        · simp only [Option.map_eq_some_iff] at hd; obtain ⟨ys, _, rfl⟩ := hd; rfl
        · cases hd
    case agg => simp only [Option.map_eq_some_iff] at hd; obtain ⟨ys, _, rfl⟩ := hd; rfl
    case tup => simp only [Option.map_eq_some_iff] at hd; obtain ⟨ys, _, rfl⟩ := hd; rfl
    case fn => simp only [Option.map_eq_some_iff] at hd; obtain ⟨ys, _, rfl⟩ := hd; rfl
    case ro => split at hd <;> cases hd; rfl
    case rp => split at hd <;> cases hd; rfl
    all_goals (cases hd; rfl)

mutual
theorem dem_hasSh {kp : Nat → Bool} {N : Nat} {h : Heap} : ∀ (s : Shape) {d : Nat} {a a' : AV}, HasSh s a → demK kp N h d a = some a' → HasSh s a'
  | .leaf, d, a, a', hs, hd => by rw [hasSh_leaf] at hs ⊢; rw [dem_cell hd]; exact hs
  | .arr n e, 0, a, a', hs, hd => by simp [demK] at hd
  | .arr n e, d + 1, a, a', hs, hd => by
    obtain ⟨ps, rfl, hl, hp⟩ := hasSh_arr.1 hs
    simp only [demK, Option.map_eq_some_iff] at hd
    obtain ⟨ys, hy, rfl⟩ := hd
    obtain ⟨g1, g2⟩ := mapO_get hy
    refine hasSh_arr.2 ⟨ys, rfl, by omega, fun y hy => ?_⟩
    obtain ⟨i, hi, rfl⟩ := List.mem_iff_getElem.1 hy
    obtain ⟨x, hx, hf⟩ := g2 i _ (List.getElem?_eq_getElem hi)
    exact dem_hasSh e (hp x (List.mem_of_getElem? hx)) hf
  | .st l, 0, a, a', hs, hd => by simp [demK] at hd
  | .st l, d + 1, a, a', hs, hd => by
    obtain ⟨ps, rfl, hp⟩ := hasSh_st.1 hs
    simp only [demK, Option.map_eq_some_iff] at hd
    obtain ⟨ys, hy, rfl⟩ := hd
    exact hasSh_st.2 ⟨ys, rfl, dem_hasShs l hp hy⟩
theorem dem_hasShs {kp : Nat → Bool} {N : Nat} {h : Heap} : ∀ (l : List Shape) {d : Nat} {ps ys : List AV}, HasShs l ps → mapO (demK kp N h d) ps = some ys → HasShs l ys
  | [], d, ps, ys, hs, hd => by
    cases ps with
    | nil => simp [mapO] at hd; subst hd; simp
    | cons p ps => simp [HasShs] at hs
  | s :: l, d, ps, ys, hs, hd => by
    cases ps with
    | nil => simp [HasShs] at hs
    | cons p ps =>
      simp only [mapO] at hd
      split at hd
      · rename_i y ys' h1 h2
        cases hd
        exact hasShs_cons.2 ⟨dem_hasSh s (hasShs_cons.1 hs).1 h1, dem_hasShs l (hasShs_cons.1 hs).2 h2⟩
      · cases hd
end

theorem AV.bnd_ro {k : Nat} {e : Shape} {xs : List AV} : AV.bnd k (.ro e xs) = AV.bnds k xs := by simp [AV.bnd]

theorem dem_rep {w : World} {loc : Loc} {h : Heap} (hI : HeapInv w loc h) {kp : Nat → Bool} {N : Nat} (hN : ∀ b, kp b = true → b < h.length → b < N) : ∀ (d : Nat) {a a' : AV} {cs : List Value}, Rep w loc h.length cs a → demK kp N h d a = some a' → Rep w (mask loc kp) N cs a'
  | 0, a, a', cs, hr, hd => by simp [demK] at hd
  | d + 1, a, a', cs, hr, hd => by
    have hno : ∀ {b : Nat} {l : Lc} {k : Nat}, ¬ (kp b = true ∧ b < N) → loc b = some l → l.wb = some k → NotOwn (mask loc kp) k := by
      intro b l k hb hl hk b' l' hl' hk'
      obtain ⟨h1, h2⟩ := mask_some hl'
      have hbb := hI.inj b b' l l' k hl h2 hk hk'
      subst hbb
      refine hb ⟨h1, hN b h1 ?_⟩
      rcases Nat.lt_or_ge b h.length with hlt | hge
      · exact hlt
      · have : h.get b = none := by unfold Heap.get; rw [List.getElem?_eq_none hge]; rfl
        rw [hI.out b this] at hl; cases hl
    have hmap : ∀ {ps ys : List AV} {cs : List Value}, Rep w loc h.length cs (.agg ps) → mapO (demK kp N h d) ps = some ys → Rep w (mask loc kp) N cs (.agg ys) := by
      intro ps
      induction ps with
      | nil => intro ys cs hr hm; simp [mapO] at hm; subst hm; rw [hr.nil_inv]; exact .agg0
      | cons p ps ih =>
        intro ys cs hr hm
        simp only [mapO] at hm
        split at hm
        · rename_i y ys' h1 h2
          cases hm
          obtain ⟨us, vs, rfl, g1, g2⟩ := hr.cons_inv
          exact .agg _ _ _ _ (dem_rep hI hN d g1 h1) (ih g2 h2)
        · cases hm
    cases a <;> simp only [demK] at hd
    case own b ver pa off n e =>
      split at hd
      · rename_i hb
        cases hd
        exact hr.mask (by simpa [AV.bnd] using hb.2)
      · rename_i hb
        split at hd
        · rename_i xs hx
          simp only [Option.map_eq_some_iff] at hd
          obtain ⟨ys, hy, rfl⟩ := hd
          obtain ⟨ad, cap, rfl, hbn, hv, hcp, h1, hm, ho⟩ := hr.own_inv
          obtain ⟨ad', n', cap', e1, e2, _, e0, _, e4⟩ := rd_cells hI hr hx
          simp only [Value.slice.injEq] at e1
          obtain ⟨rfl, rfl, rfl⟩ := e1
          obtain ⟨gl, gm⟩ := mapO_get hy
          have hsh : ∀ x ∈ xs, HasSh e x := by
            simp only [rd] at hx
            split at hx
            · rename_i blk hg
              split at hx
              · rename_i hver
                obtain ⟨l, hlb, hB1, hB2, hB3, hB4⟩ := hI.blk b blk hg
                have hO := ho l hlb (hB1.trans hver)
                split at hx
                · rename_i ps hgp
                  cases hx
                  unfold OwnAt at hO
                  split at hO
                  · rw [hO.2.1]; simp
                  · obtain ⟨len, o, cap2, hat, _⟩ := hO
                    rw [hB2] at hat
                    obtain ⟨ps', h7, _, h8⟩ := hasSh_arr.1 (getP_hasSh pa hB3 hgp hat)
                    cases h7
                    exact fun x hx => h8 x (List.mem_of_mem_drop (List.mem_of_mem_take hx))
                · cases hx
              · cases hx
            · cases hx
          rcases Nat.eq_zero_or_pos n with h0 | hpos
          · have : ys = [] := List.eq_nil_of_length_eq_zero (by omega)
            subst this; subst h0
            exact .ro0 ad cap e
          · obtain ⟨k, o, c, t, fr, cs, rfl, hk, ht, hrr⟩ := e4 hpos
            obtain ⟨l, hlb, hwb⟩ : ∃ l, loc b = some l ∧ l.wb = some k := by
              simp only [rd] at hx
              split at hx
              · rename_i blk hg
                split at hx
                · rename_i hver
                  obtain ⟨l, hlb, hB1, _⟩ := hI.blk b blk hg
                  have hO := ho l hlb (hB1.trans hver)
                  unfold OwnAt at hO
                  split at hO
                  · obtain ⟨hc, _⟩ := hO; cases hc
                  · rename_i k' hw
                    obtain ⟨len, o', cap2, _, _, hc, _⟩ := hO
                    simp only [Value.slice.injEq, Option.some.injEq, Addr.mk.injEq] at hc
                    exact ⟨l, hlb, by rw [hw, hc.1.1]⟩
                · cases hx
              · cases hx
            refine .ro k o n cap c t fr e ys cs hk (hno hb hlb hwb) ht (hmap hrr hy) (by omega) hcp hm ?_
            intro y hyy
            obtain ⟨i, hi, rfl⟩ := List.mem_iff_getElem.1 hyy
            obtain ⟨x, hx', hf⟩ := gm i _ (List.getElem?_eq_getElem hi)
            exact dem_hasSh e (hsh x (List.mem_of_getElem? hx')) hf
        · cases hd
    case ptr b ver pa s =>
      split at hd
      · rename_i hb
        cases hd
        exact hr.mask (by simpa [AV.bnd] using hb.2)
      · rename_i hb
        split at hd
        · rename_i x hx
          simp only [Option.map_eq_some_iff] at hd
          obtain ⟨y, hy, rfl⟩ := hd
          obtain ⟨k0, o0, rfl, hbn, hv, ho⟩ := hr.ptr_inv
          obtain ⟨k, o, c, t, fr, cs, e1, hk, ht, hrr, hs⟩ := ld_cells hI hr (.inr ⟨_, _, _, rfl⟩) hx
          simp only [Value.pointer.injEq, Option.some.injEq, Addr.mk.injEq] at e1
          obtain ⟨rfl, rfl, _⟩ := e1
          obtain ⟨l, hlb, hwb⟩ : ∃ l, loc b = some l ∧ l.wb = some k0 := by
            simp only [ldP] at hx
            split at hx
            · rename_i blk hg
              split at hx
              · rename_i hver
                obtain ⟨l, hlb, hB1, _⟩ := hI.blk b blk hg
                obtain ⟨k', hw, _, hc⟩ := ho l hlb (hB1.trans hver)
                simp only [Value.pointer.injEq, Option.some.injEq, Addr.mk.injEq] at hc
                exact ⟨l, hlb, by rw [hw, hc.1]⟩
              · cases hx
            · cases hx
          exact .rp k0 o0 c t fr s y cs hk (hno hb hlb hwb) ht (dem_rep hI hN d hrr hy) (dem_hasSh s hs hy)
        · cases hd
    case agg ps =>
      simp only [Option.map_eq_some_iff] at hd
      obtain ⟨ys, hy, rfl⟩ := hd
      exact hmap hr hy
    case tup ps => cases hr
    case fn f ps =>
      simp only [Option.map_eq_some_iff] at hd
      obtain ⟨ys, hy, rfl⟩ := hd
      obtain ⟨vs, rfl, h1, h2, h3⟩ := hr.fn_inv
      obtain ⟨gl, gm⟩ := mapO_get hy
      refine .fn f ys vs (by omega) (fun y hyy => ?_) (hmap h3 hy)
      obtain ⟨i, hi, rfl⟩ := List.mem_iff_getElem.1 hyy
      obtain ⟨x, hx', hf⟩ := gm i _ (List.getElem?_eq_getElem hi)
      rw [dem_cell hf]; exact h2 x (List.mem_of_getElem? hx')
    case ro e xs =>
      split at hd
      · rename_i hb; cases hd; exact hr.mask (by simpa [AV.bnd] using hb)
      · cases hd
    case rp s x =>
      split at hd
      · rename_i hb; cases hd; exact hr.mask (by simpa [AV.bnd] using hb)
      · cases hd
    all_goals (cases hd; exact hr.mask (by simp [AV.bnd]))

theorem dem_repV {w : World} {loc : Loc} {h : Heap} (hI : HeapInv w loc h) {kp : Nat → Bool} {N : Nat} (hN : ∀ b, kp b = true → b < h.length → b < N) {v : Value} {a : AV} (hr : RepV w loc h.length v a) : ∀ (d : Nat) {a' : AV}, demK kp N h d a = some a' → RepV w (mask loc kp) N v a' := by
  induction hr with
  | un v =>
    intro d a' hd
    cases d with
    | zero => simp [demK] at hd
    | succ d => simp only [demK, Option.some.injEq] at hd; subst hd; exact .un v
  | cell v a ha hr => intro d a' hd; exact .cell v a' (by rw [dem_cell hd]; exact ha) (dem_rep hI hN d hr hd)
  | agg cs ps hr =>
    intro d a' hd
    have h1 := dem_rep hI hN d hr hd
    cases d with
    | zero => simp [demK] at hd
    | succ d =>
      simp only [demK, Option.map_eq_some_iff] at hd
      obtain ⟨ys, hy, rfl⟩ := hd
      exact .agg cs ys h1
  | tup vs ps hl _ ih =>
    intro d a' hd
    cases d with
    | zero => simp [demK] at hd
    | succ d =>
      simp only [demK, Option.map_eq_some_iff] at hd
      obtain ⟨ys, hy, rfl⟩ := hd
      obtain ⟨gl, gm⟩ := mapO_get hy
      refine .tup vs ys (by omega) fun i v p h1 h2 => ?_
      obtain ⟨x, hx, hf⟩ := gm i p h2
      exact ih i v x h1 hx d hf

/-- ... in blocks from N0 on -/
def dem (N0 : Nat) (h : Heap) (d : Nat) (a : AV) : Option AV := demK (fun b => decide (b < N0)) N0 h d a

theorem mask_trunc {loc : Loc} {k : Nat} : mask loc (fun b => decide (b < k)) = trunc loc k := by
  funext b; simp [mask, trunc]

/-- A function that leaves all that was there as it was: what it hands back, read as lists. -/
theorem wpF_pure {P : Program} {G : Globs} {f : FuncId} {args : List AV} {H : Heap} {K : AV → Heap → Prop} (d : Nat) (h : wpF P G f args H fun r h => ∃ r', dem H.length h d r = some r' ∧ h.take H.length = H ∧ K r' H) : wpF P G f args H K := by
  refine ⟨h.1, fun w loc vs hI hG hr => (h.2 w loc vs hI hG hr).mono ?_⟩
  rintro e w' ⟨v, r, H', loc', h1, h2, h3, h4, h5, r', g1, g2, g3⟩
  refine ⟨v, r', H, trunc loc' H.length, h1, ?_, mask_trunc ▸ dem_repV h2 (fun b hb _ => by simpa using hb) h3 d g1, h4.trunc, Nat.le_refl _, g3⟩
  have hb : HBnd H.length H' := by
    intro b blk hb hg
    have : Heap.get H b = some blk := by rw [← g2, Heap.get_take, if_pos hb]; exact hg
    exact hI.hbnd b blk hb this
  have := h2.take h5 hb
  rwa [g2] at this

/-- blocks that are not kept are forgotten -/
def kill (kp : Nat → Bool) : Nat → Heap → Heap
  | _, [] => []
  | i, x :: h => (if kp i = true then x else none) :: kill kp (i + 1) h

theorem kill_get {kp : Nat → Bool} : ∀ {h : Heap} {i j : Nat}, (kill kp i h)[j]? = h[j]?.map fun x => if kp (i + j) = true then x else none
  | [], i, j => by simp [kill]
  | x :: h, i, 0 => by simp [kill]
  | x :: h, i, j + 1 => by simp only [kill, List.getElem?_cons_succ, kill_get]; rw [Nat.add_assoc, Nat.add_comm 1 j]

theorem kill_length {kp : Nat → Bool} : ∀ {h : Heap} {i : Nat}, (kill kp i h).length = h.length
  | [], i => rfl
  | x :: h, i => by simp [kill, kill_length]

theorem get_kill {kp : Nat → Bool} {h : Heap} {b : Nat} : Heap.get (kill kp 0 h) b = if kp b = true then h.get b else none := by
  unfold Heap.get
  rw [kill_get, Nat.zero_add]
  cases h[b]? with
  | none => simp
  | some x => simp only [Option.map_some, Option.join_some]

theorem HeapInv.kill {w : World} {loc : Loc} {h : Heap} (hI : HeapInv w loc h) (kp : Nat → Bool) : HeapInv w (mask loc kp) (kill kp 0 h) := by
  refine ⟨?_, ?_, ?_⟩
  · intro b hg
    rw [get_kill] at hg
    unfold V.mask
    split
    · rename_i hlt; rw [if_pos hlt] at hg; exact hI.out b hg
    · rfl
  · intro b blk hg
    rw [get_kill] at hg
    split at hg
    · rename_i hlt
      obtain ⟨l, hl, h1, h2, h3, h4⟩ := hI.blk b blk hg
      refine ⟨l, by simp [V.mask, hlt, hl], h1, h2, h3, ?_⟩
      rw [kill_length]
      cases hw : l.wb with
      | none => rw [hw] at h4; exact h4
      | some k' =>
        rw [hw] at h4
        obtain ⟨c, fr, cs, g1, g2, g3, g4⟩ := h4
        exact ⟨c, fr, cs, g1, g2, g3.mask g3.bnd, g4⟩
    · cases hg
  · intro b b' l l' k' h1 h2 h3 h4
    exact hI.inj b b' l l' k' (mask_some h1).2 (mask_some h2).2 h3 h4

theorem dem_repVs {w : World} {loc : Loc} {h : Heap} (hI : HeapInv w loc h) {kp : Nat → Bool} {N : Nat} (hN : ∀ b, kp b = true → b < h.length → b < N) {d : Nat} {vs : List Value} {as : List AV} (hr : RepVs w loc h.length vs as) : ∀ {as' : List AV}, mapO (demK kp N h d) as = some as' → RepVs w (mask loc kp) N vs as' := by
  induction hr with
  | nil => intro as' hm; simp [mapO] at hm; subst hm; exact .nil
  | cons v a vs as h1 _ ih =>
    intro as' hm
    simp only [mapO] at hm
    split at hm
    · rename_i y ys g1 g2
      cases hm
      exact .cons _ _ _ _ (dem_repV hI hN h1 d g1) (ih g2)
    · cases hm

/-- A function is handed what the caller has no more use for: it reads it as lists. -/
theorem wpF_give {P : Program} {G : Globs} {f : FuncId} {args args' : List AV} {H : Heap} {K : AV → Heap → Prop} (kp : Nat → Bool) (d : Nat) (hm : mapO (demK kp H.length H d) args = some args') (h : wpF P G f args' (kill kp 0 H) K) : wpF P G f args H K := by
  refine ⟨h.1, fun w loc vs hI hG hr => ?_⟩
  have hE : Ext w loc H.length w (mask loc kp) := ⟨rfl, rfl, rfl, Nat.le_refl _, fun _ _ _ => rfl, fun b l' hl => .inr ⟨l', (mask_some hl).2, .inl rfl⟩, fun b l' k hl hk => .inr ⟨b, l', (mask_some hl).2, hk⟩⟩
  have hr' := dem_repVs hI (kp := kp) (N := H.length) (fun _ _ h => h) hr hm
  have := h.2 w (mask loc kp) vs (hI.kill kp) (hG.mono hE) (by rw [kill_length]; exact hr')
  refine this.mono ?_
  rintro e w' ⟨v, r, H', loc', h1, h2, h3, h4, h5, h6⟩
  rw [kill_length] at h4 h5
  refine ⟨v, r, H', loc', h1, h2, h3, ?_, h5, h6⟩
  exact hE.trans h4 (Nat.le_refl _)

/-- no memory -/
def AV.plain : AV → Bool
  | .bool _ | .u8 _ | .u16 _ | .u32 _ | .u64 _ | .int _ | .str _ | .nilp | .nils | .nilf => true
  | _ => false

def AV.plain2 : AV → Bool
  | .tup ps => ps.all AV.plain
  | .agg ps => ps.all AV.plain
  | a => a.plain

theorem Rep.plain {w w' : World} {loc loc' : Loc} {N N' : Nat} {cs : List Value} {a : AV} (h : Rep w loc N cs a) (hp : a.plain = true) : Rep w' loc' N' cs a := by
  cases h <;> first | (simp [AV.plain] at hp; done) | (constructor <;> assumption) | constructor

theorem Rep.plains {w w' : World} {loc loc' : Loc} {N N' : Nat} : ∀ {ps : List AV} {cs : List Value}, Rep w loc N cs (.agg ps) → ps.all AV.plain = true → Rep w' loc' N' cs (.agg ps)
  | [], cs, h, _ => by rw [h.nil_inv]; exact .agg0
  | p :: ps, cs, h, hp => by
    obtain ⟨xs, ys, rfl, h1, h2⟩ := h.cons_inv
    simp only [List.all_cons, Bool.and_eq_true] at hp
    exact .agg _ _ _ _ (h1.plain hp.1) (h2.plains hp.2)

theorem RepV.plain {w w' : World} {loc loc' : Loc} {N N' : Nat} {v : Value} {a : AV} (h : RepV w loc N v a) (hp : a.plain = true) : RepV w' loc' N' v a := by
  cases h with
  | un => simp [AV.plain] at hp
  | cell v a ha h => exact .cell v a ha (h.plain hp)
  | agg => simp [AV.plain] at hp
  | tup => simp [AV.plain] at hp

theorem RepV.plain2 {w w' : World} {loc loc' : Loc} {N N' : Nat} {v : Value} {a : AV} (h : RepV w loc N v a) (hp : a.plain2 = true) : RepV w' loc' N' v a := by
  cases h with
  | un => simp [AV.plain2, AV.plain] at hp
  | cell v a ha h =>
    refine .cell v a ha (h.plain ?_)
    cases a <;> first | exact hp | (simp [AV.isCell] at ha)
  | agg cs ps h => exact .agg cs ps (h.plains hp)
  | tup vs ps hl h =>
    refine .tup vs ps hl fun i v p h1 h2 => (h i v p h1 h2).plain ?_
    simp only [AV.plain2, List.all_eq_true] at hp
    exact hp p (List.mem_of_getElem? h2)

/-- A function reads, as lists, what its caller goes on with, and hands back nothing but plain values. -/
theorem wpF_lend {P : Program} {G : Globs} {f : FuncId} {args args' : List AV} {H : Heap} {K : AV → Heap → Prop} (d : Nat) (hm : mapO (demK (fun _ => false) 0 H d) args = some args') (h : wpF P G f args' [] fun r _ => r.plain2 = true ∧ K r H) : wpF P G f args H K := by
  refine ⟨h.1, fun w loc vs hI hG hr => ?_⟩
  have hE0 : Ext w loc H.length w (mask loc fun _ => false) := ⟨rfl, rfl, rfl, Nat.le_refl _, fun _ _ _ => rfl, fun b l' hl => .inr ⟨l', (mask_some hl).2, .inl rfl⟩, fun b l' k hl hk => .inr ⟨b, l', (mask_some hl).2, hk⟩⟩
  have hno : ∀ b, mask loc (fun _ => false) b = none := fun b => by simp [mask]
  have hr' := dem_repVs hI (kp := fun _ => false) (N := 0) (fun _ h => by cases h) hr hm
  have hI0 : HeapInv w (mask loc fun _ => false) [] := ⟨fun b _ => hno b, fun b blk hb => by simp [Heap.get] at hb, fun b b' l l' k h1 => by rw [hno] at h1; cases h1⟩
  refine (h.2 w _ vs hI0 (hG.mono hE0) hr').mono ?_
  rintro e w' ⟨v, r, H', loc', h1, h2, h3, h4, h5, h6, h7⟩
  have hE : Ext w loc H.length w' loc := ⟨h4.os, h4.tape, h4.output, h4.size, fun k hk _ => h4.block k hk (fun b l hl => by rw [hno] at hl; cases hl), fun b l' hl => .inr ⟨l', hl, .inl rfl⟩, fun b l' k hl hk => .inr ⟨b, l', hl, hk⟩⟩
  refine ⟨v, r, H, loc, h1, ?_, h3.plain2 h6, hE, Nat.le_refl _, h7⟩
  refine ⟨hI.out, fun b blk hb => ?_, hI.inj⟩
  obtain ⟨l, g1, g2, g3, g4, g5⟩ := hI.blk b blk hb
  refine ⟨l, g1, g2, g3, g4, ?_⟩
  cases hw : l.wb with
  | none => simpa [hw] using g5
  | some k =>
    simp only [hw] at g5 ⊢
    obtain ⟨c, fr, cs, k1, k2, k3, k4, k5⟩ := g5
    exact ⟨c, fr, cs, by rw [h4.block k (lt_of_heap k1) (fun b l hl => by rw [hno] at hl; cases hl)]; exact k1, k2, k3.mono hE (Nat.le_refl _), k4, k5⟩

/-- A function that only reads and writes what it made: its script, to the end. -/
theorem wpF_fun {P : Program} {G : Globs} {f : FuncId} {np : Nat} {vm : List Nat} {F : FnS} (hc : cF P G (drP P G) f np vm = some F) {args : List AV} {H : Heap} {K : AV → Heap → Prop} (hlen : args.length = np) (d : Nat)
    (h : (∀ a ∈ args, a.bnd H.length = true ∧ a.fact) → HBnd H.length H → wpS ⟨P, G, H.length, F.vm, F.n⟩ F.s (fun e st => (e = .normal ∨ e = .ret) ∧ ∃ p l, rsGet st F.rs = some (p, l) ∧ p ∧ ∃ r, dem H.length st.h d (oneOf l) = some r ∧ st.h.take H.length = H ∧ K r H) ⟨args ++ List.replicate (F.vm.length - args.length) .un, H⟩) : wpF P G f args H K := by
  refine wpF_pure d (wpF_of (D := DP P G) drP_ok hc hlen fun h1 h2 => WPS_mono (wpS_ok (h h1 h2)) ?_)
  rintro e st ⟨h3, p, l, h4, h5, r, h6, h7, h8⟩
  exact ⟨h3, p, l, h4, h5, .inl ⟨r, h6, h7, h8⟩⟩

end Go.V
