import Derived.Test.YtjilenmngokhpaaDoorV46
/- Arguments that are lists of structures. -/
namespace Go.V
open Go Go.ChangeShapes Go.WideShapes Go.ChangeAt Go.RowKit
set_option linter.unusedVariables false

/-- a parameter: of a kind, or a list of structures with fields of kinds -/
inductive Kx where
  | k (k : Kd)
  | ls (fs : List Kd)
def shs (fs : List Kd) : List Shape := fs.map Kd.sh
/-- the fields lie one behind the other -/
def lay (P : Program) : Nat → List Kd → List Field → Prop
  | _, [], [] => True
  | o, k :: ks, f :: fs => kdOk P k f.type ∧ f.offset = o ∧ P.cellsOf f.type = k.sh.size ∧ lay P (o + k.sh.size) ks fs
  | _, _, _ => False
def kxOk (P : Program) : Kx → TypeId → Prop
  | .k k, t => kdOk P k t
  | .ls ks, t => ∃ e fs, P.underlying t = some (.slice e) ∧ P.underlying e = some (.struct fs) ∧ P.cellsOf e = Shape.sizes (shs ks) ∧ 0 < Shape.sizes (shs ks) ∧ lay P 0 ks fs.toList
/-- a structure with such fields -/
def isSt (ks : List Kd) (a : AV) : Prop := ∃ ps, a = .agg ps ∧ F2 isK ks ps
def isX : Kx → AV → Prop
  | .k k, a => isK k a
  | .ls ks, a => ∃ xs, a = .ro (.st (shs ks)) xs ∧ xs.length ≤ maxLen ∧ ∀ x ∈ xs, isSt ks x
theorem isSt_sh {ks : List Kd} {a : AV} (h : isSt ks a) : HasSh (.st (shs ks)) a := by
  obtain ⟨ps, rfl, h⟩ := h
  rw [hasSh_st_agg]
  induction h with
  | nil => simp [shs]
  | cons h _ ih => exact hasShs_cons.2 ⟨isK_sh _ h, ih⟩

section
variable {H : Type} {enc : TypeId × Value → H} {P : Program}
theorem rep_st {W : World} {spare : Nat → Bool} {n : Nat} {cs : List Value} : ∀ {ks : List Kd} {fs : List Field} {o q : Nat}, lay P o ks fs → cs.length = o + Shape.sizes (shs ks) →
    (∀ (i : Nat) (f : Field), fs[i]? = some f → ∃ y, DataW.trod enc P W 0 spare true n f.type ((cs.drop f.offset).take (P.cellsOf f.type)) = some y) → ∃ ps, F2 isK ks ps ∧ Rep W (fun _ => none) 0 (cs.drop o) (.agg ps)
  | [], [], o, q, _, hl, _ => ⟨[], .nil, by
      rw [List.drop_of_length_le (by simp [shs] at hl; omega)]
      exact .agg0⟩
  | k :: ks, f :: fs, o, q, ⟨hk, hfo, hc, hr⟩, hl, h => by
    obtain ⟨y, hy⟩ := h 0 f rfl
    rw [hfo, hc] at hy
    obtain ⟨a, ha, hrep⟩ := rep_trod k hk hy
    simp only [shs, List.map_cons, Shape.sizes_cons] at hl
    obtain ⟨ps, hps, hrest⟩ := rep_st (q := q) hr (by simp only [shs]; omega) (fun i g hg => h (i + 1) g hg)
    refine ⟨a :: ps, .cons ha hps, ?_⟩
    have e : cs.drop o = (cs.drop o).take k.sh.size ++ cs.drop (o + k.sh.size) := by
      rw [← List.drop_drop, List.take_append_drop]
    rw [e]
    exact .agg _ _ _ _ hrep hrest
  | [], _ :: _, o, q, h, _, _ => h.elim
  | _ :: _, [], o, q, h, _, _ => h.elim
theorem rep_trod_st {W : World} {spare : Nat → Bool} {ks : List Kd} {e : TypeId} {fs : Array Field} (he : P.underlying e = some (.struct fs)) (hc : P.cellsOf e = Shape.sizes (shs ks)) (hl : lay P 0 ks fs.toList)
    {fuel : Nat} {cs : List Value} {x : DataW H × List MemPlace} (h : DataW.trod enc P W 0 spare true fuel e cs = some x) : ∃ a, isSt ks a ∧ Rep W (fun _ => none) 0 cs a := by
  obtain ⟨xs, n, _, _, h1, h2, h3⟩ := DataW.trod_struct he h
  obtain ⟨ps, h4, h5⟩ := rep_st (enc := enc) (W := W) (spare := spare) (n := n) (cs := cs) (q := 0) hl (by rw [h1, hc, Nat.zero_add]) (fun i f hf => by
    have hf' : fs[i]? = some f := by simpa using hf
    have := h3 i f hf'
    have hi : i < fs.size := (Array.getElem?_eq_some_iff.1 hf').1
    exact ⟨xs[i]'(by omega), by rw [this]; simp [h2, hi]⟩)
  exact ⟨.agg ps, ⟨ps, rfl, h4⟩, by simpa using h5⟩
theorem trod_up_st {W W' : World} (hst : Still W W') {sp : Nat → Bool} {ks : List Kd} {e : TypeId} {fs : Array Field} (he : P.underlying e = some (.struct fs)) (hl : lay P 0 ks fs.toList)
    {fuel : Nat} {cs : List Value} {x : DataW H × List MemPlace} (h : DataW.trod enc P W 0 (fun _ => true) true fuel e cs = some x) (hp : ∀ p ∈ x.2, sp p.block = true) : DataW.trod enc P W' 0 sp true fuel e cs = some x := by
  obtain ⟨xs, n, rfl, rfl, h1, h2, h3⟩ := DataW.trod_struct he h
  refine trod_struct_mk he h1 (mapM_some_of_get _ _ (by simp [h2]) fun i f hf => ?_)
  have hf' : fs[i]? = some f := by simpa using hf
  have hi : i < fs.size := (Array.getElem?_eq_some_iff.1 hf').1
  have h4 := h3 i f hf'
  obtain ⟨y, hy⟩ : ∃ y, xs[i]? = some y := ⟨xs[i]'(by omega), by simp [h2, hi]⟩
  rw [hy] at h4 ⊢
  have key : ∀ {ks : List Kd} {fl : List Field} {o j : Nat}, lay P o ks fl → fl[j]? = some f → ∃ k, kdOk P k f.type := by
    intro ks
    induction ks with
    | nil => intro fl o j h hf; cases fl with | nil => simp at hf | cons _ _ => exact h.elim
    | cons k ks ih =>
      intro fl o j h hf
      cases fl with
      | nil => exact h.elim
      | cons g fl =>
        obtain ⟨a, _, _, b⟩ := h
        cases j with
        | zero => simp at hf; subst hf; exact ⟨k, a⟩
        | succ j => exact ih b (by simpa using hf)
  obtain ⟨k, hk⟩ := key hl hf
  exact trod_up hst k hk h4 fun p hpp => hp p (List.mem_flatMap.2 ⟨y, List.mem_of_getElem? hy, hpp⟩)
theorem rep_sl {W : World} {spare : Nat → Bool} {Q : AV → Prop} {sh : Shape} {S : Nat} {t e : TypeId} (ht : P.underlying t = some (.slice e)) (hc : P.cellsOf e = S) (hpos : 0 < S) (hQ : ∀ y, Q y → HasSh sh y)
    (hrep : ∀ {fuel : Nat} {cs : List Value} {x : DataW H × List MemPlace}, DataW.trod enc P W 0 spare true fuel e cs = some x → ∃ a, Q a ∧ Rep W (fun _ => none) 0 cs a)
    {fuel : Nat} {cs : List Value} {x : DataW H × List MemPlace} (h : DataW.trod enc P W 0 spare true fuel t cs = some x) : ∃ ys, ys.length ≤ maxLen ∧ (∀ y ∈ ys, Q y) ∧ Rep W (fun _ => none) 0 cs (.ro sh ys) := by
    rcases DataW.trod_slice ht h with ⟨rfl, _⟩ | ⟨a, len, cap, elems, rest, n, rfl, rfl, rfl, hb, hl, hm, hlen, hel, _⟩
    · exact ⟨[], by simp, by simp, .ro0 _ _ _⟩
    · by_cases h0 : len = 0
      · subst h0
        exact ⟨[], by simp, by simp, .ro0 _ _ _⟩
      · rw [hc] at hel
        have each : ∀ i, i < len → ∃ cs', W.cells? 0 (a.add (i * S)) S = some cs' ∧ ∃ y, DataW.trod enc P W 0 spare true n e cs' = some y := by
          intro i hi
          have := hel i hi
          obtain ⟨y, hy⟩ : ∃ y, elems[i]? = some y := ⟨elems[i]'(by omega), by simp [hlen, hi]⟩
          rw [hy] at this
          obtain ⟨cs', h1, h2⟩ := Option.bind_eq_some_iff.1 this
          exact ⟨cs', h1, y, h2⟩
        obtain ⟨cs0, h00, _⟩ := each 0 (by omega)
        obtain ⟨_, hl0, hc0⟩ := World.cells?_some h00
        have hcell := hc0 0 hpos
        have hcs0 : cs0[0]? = some (cs0[0]'(by omega)) := by simp [hl0, hpos]
        rw [hcs0] at hcell
        obtain ⟨bk, off, spot⟩ := a
        simp only [Nat.zero_mul, Addr.add, if_true, World.cell?] at hcell
        split at hcell
        case h_2 => exact absurd hcell (by simp)
        rename_i c et fr hheap
        have hspot : spot = none := by cases spot with | none => rfl | some _ => simp at hcell
        subst hspot
        have hsegs : ∀ i, i < len → ∃ y, Q y ∧ ((c.toList.drop (off + i * S)).take S).length = S ∧
            Rep W (fun _ => none) 0 ((c.toList.drop (off + i * S)).take S) y := by
          intro i hi
          obtain ⟨cs', h1, y, h2⟩ := each i hi
          rw [add_plain] at h1
          have h3 := cells?_seg hheap h1
          obtain ⟨z, hz, hr⟩ := hrep h2
          rw [h3]
          exact ⟨z, hz, (World.cells?_some h1).2.1, hr⟩
        have hlast : off + len * S ≤ c.toList.length := by
          obtain ⟨y, _, h1, _⟩ := hsegs (len - 1) (by omega)
          rw [List.length_take, List.length_drop] at h1
          have : (len - 1) * S + S = len * S := by
            rw [← Nat.succ_mul]; congr 1; omega
          omega
        have hlseg : ((c.toList.drop off).take (len * S)).length = len * S := by
          rw [List.length_take, List.length_drop]; omega
        obtain ⟨ys, h1, h2, h3⟩ := agg_ofQ (w := W) (loc := fun _ => none) (N := 0) (Q := Q) len ((c.toList.drop off).take (len * S)) hlseg (fun i hi => by
          obtain ⟨y, h1, h2, h3⟩ := hsegs i hi
          refine ⟨y, h1, ?_⟩
          have hle : i * S + S ≤ len * S := by
            rw [← Nat.succ_mul]; exact Nat.mul_le_mul_right _ (by omega)
          rw [List.drop_take, List.drop_drop, List.take_take, Nat.min_eq_left (by omega)]
          exact h3)
        refine ⟨ys, by omega, h2, .ro bk off len cap c et fr sh ys _ hheap (fun _ _ h => by cases h) ?_ h3 h1 hl (by omega) (fun y hy => hQ y (h2 y hy))⟩
        rw [hlseg]

theorem trod_up_sl {W W' : World} (hst : Still W W') {sp : Nat → Bool} {S : Nat} {t e : TypeId} (ht : P.underlying t = some (.slice e)) (hc : P.cellsOf e = S) (hpos : 0 < S)
    (hup : ∀ {fuel : Nat} {cs : List Value} {x : DataW H × List MemPlace}, DataW.trod enc P W 0 (fun _ => true) true fuel e cs = some x → (∀ p ∈ x.2, sp p.block = true) → DataW.trod enc P W' 0 sp true fuel e cs = some x)
    {fuel : Nat} {cs : List Value} {x : DataW H × List MemPlace} (h : DataW.trod enc P W 0 (fun _ => true) true fuel t cs = some x) (hp : ∀ p ∈ x.2, sp p.block = true) : DataW.trod enc P W' 0 sp true fuel t cs = some x := by
    rcases DataW.trod_slice ht h with ⟨rfl, rfl⟩ | ⟨a, len, cap, elems, rest, n, rfl, rfl, rfl, hb, hl, hm, hlen, hel, hsp, _⟩
    · cases fuel with
      | zero => simp [DataW.trod] at h
      | succ n => simp [DataW.trod, ht]
    · obtain ⟨hrl, hrest⟩ := hsp rfl
      have up : ∀ (b : Addr) y, y ∈ elems ++ rest → (W.cells? 0 b (P.cellsOf e)).bind (DataW.trod enc P W 0 (fun _ => true) true n e) = some y →
          (W'.cells? 0 b (P.cellsOf e)).bind (DataW.trod enc P W' 0 sp true n e) = some y := by
        intro b y hy h1
        obtain ⟨cs', h1, h2⟩ := Option.bind_eq_some_iff.1 h1
        rw [still_cells hst h1]
        refine hup h2 fun p hpp => hp p ?_
        simp only [List.mem_append, List.mem_flatMap]
        exact .inr ⟨y, by simpa using hy, hpp⟩
      have he : (List.range len).mapM (fun i => (W'.cells? 0 (a.add (i * P.cellsOf e)) (P.cellsOf e)).bind (DataW.trod enc P W' 0 sp true n e)) = some elems := by
        refine mapM_some_of_get _ _ (by simp [hlen]) fun i j hj => ?_
        have hin : i < len := by have := (List.getElem?_eq_some_iff.1 hj).1; simpa using this
        have hji : j = i := by
          rw [List.getElem?_range hin] at hj; exact (Option.some.inj hj).symm
        subst hji
        obtain ⟨y, hy⟩ : ∃ y, elems[j]? = some y := ⟨elems[j]'(by omega), by simp [hlen, hin]⟩
        have := hel j hin
        rw [hy] at this ⊢
        exact up _ _ (List.mem_append_left _ (List.mem_of_getElem? hy)) this
      have hr : (List.range (cap - len)).mapM (fun j => (W'.cells? 0 (a.add ((len + j) * P.cellsOf e)) (P.cellsOf e)).bind (DataW.trod enc P W' 0 sp true n e)) = some rest := by
        refine mapM_some_of_get _ _ (by simp [hrl]) fun i j hj => ?_
        have hin : i < cap - len := by have := (List.getElem?_eq_some_iff.1 hj).1; simpa using this
        have hji : j = i := by
          rw [List.getElem?_range hin] at hj; exact (Option.some.inj hj).symm
        subst hji
        obtain ⟨y, hy⟩ : ∃ y, rest[j]? = some y := ⟨rest[j]'(by omega), by simp [hrl, hin]⟩
        have := hrest j hin
        rw [hy] at this ⊢
        exact up _ _ (List.mem_append_right _ (List.mem_of_getElem? hy)) this
      have hsp' : sp a.block = false → rest = [] := by
        intro hf
        by_cases h0 : 0 < (elems.length + rest.length) * P.cellsOf e
        · have := hp (.cell a.block (a.off + 0)) (by simp only [List.mem_append, MemPlace.row, List.mem_map, List.mem_range]; exact .inl ⟨0, h0, rfl⟩)
          simp [MemPlace.block, hf] at this
        · have : (elems.length + rest.length) * S = 0 := by rw [hc] at h0; omega
          rcases Nat.mul_eq_zero.1 this with h | h
          · exact List.eq_nil_of_length_eq_zero (by omega)
          · omega
      simp only [DataW.trod, ht, he, Nat.zero_le, hl, hm, and_self, if_true, Option.bind_some]
      cases hs : sp a.block with
      | true => simp only [if_true, hr, Option.map_some]
      | false => simp [hsp' hs]


theorem trod_upX {W W' : World} (hst : Still W W') {sp : Nat → Bool} : ∀ (k : Kx) {t : TypeId}, kxOk P k t → ∀ {fuel : Nat} {cs : List Value} {x : DataW H × List MemPlace},
    DataW.trod enc P W 0 (fun _ => true) true fuel t cs = some x → (∀ p ∈ x.2, sp p.block = true) → DataW.trod enc P W' 0 sp true fuel t cs = some x
  | .k k, t, hk, _, _, _, h, hp => trod_up hst k hk h hp
  | .ls ks, t, ⟨e, fs, h1, h2, h3, h4, h5⟩, _, _, _, h, hp => trod_up_sl hst h1 h3 h4 (fun h hp => trod_up_st hst h2 h5 h hp) h hp
theorem repV_kx {W : World} {r : Reach} {b0 : Nat} {spare : Nat → Bool} : ∀ (k : Kx) {t : TypeId}, kxOk P k t → ∀ {v : Value}, Value.okWide P W r b0 t v → ∀ {d : DataW H} {ps : List MemPlace},
    DataW.Trod enc P W 0 spare true t v d ps → ∃ a, isX k a ∧ RepV W (fun _ => none) 0 v a
  | .k k, t, hk, v, hval, d, ps, h => repV_kd k hk hval h
  | .ls ks, t, ⟨e, fs, h1, h2, h3, h4, h5⟩, v, hval, d, ps, h => by
    obtain ⟨fuel, h⟩ := h
    obtain ⟨ys, g1, g2, g3⟩ := rep_sl (Q := isSt ks) (sh := .st (shs ks)) h1 h3 h4 (fun y hy => isSt_sh hy) (fun h => rep_trod_st h2 h3 h5 h) h
    refine ⟨_, ⟨ys, rfl, g1, g2⟩, ?_⟩
    obtain ⟨x, n, c, rfl⟩ := okWide_slice h1 hval
    exact .cell _ _ rfl g3
theorem trodAll_upX {W W' : World} (hst : Still W W') {sp : Nat → Bool} : ∀ {ks : List Kx} {ts : List TypeId}, F2 (kxOk P) ks ts → ∀ {vs : List Value} {ds : List (DataW H)} {ps : List MemPlace},
    DataW.TrodAll enc P W 0 (fun _ => true) true ts vs ds ps → (∀ p ∈ ps, sp p.block = true) → DataW.TrodAll enc P W' 0 sp true ts vs ds ps
  | [], [], .nil, [], [], ps, h, _ => h
  | [], [], .nil, _ :: _, _, ps, h, _ => by cases h
  | [], [], .nil, [], _ :: _, ps, h, _ => by cases h
  | k :: ks, t :: ts, .cons hk hks, v :: vs, d :: ds, ps, h, hp => by
    obtain ⟨p, q, ⟨fuel, h1⟩, h2, rfl⟩ := h
    exact ⟨p, q, ⟨fuel, trod_upX hst k hk h1 fun a ha => hp a (by simp [ha])⟩, trodAll_upX hst hks h2 fun a ha => hp a (by simp [ha]), rfl⟩
  | k :: ks, t :: ts, .cons hk hks, [], _, ps, h, _ => by cases h
  | k :: ks, t :: ts, .cons hk hks, _ :: _, [], ps, h, _ => by cases h

theorem repVs_upX {W : World} {r : Reach} {b0 : Nat} : ∀ {ks : List Kx} {ts : List TypeId}, F2 (kxOk P) ks ts → ∀ {vs : List Value} {ds : List (DataW H)} {ps : List MemPlace},
    (∀ (j : Nat) t v, ts[j]? = some t → vs[j]? = some v → Value.okWide P W r b0 t v) →
    DataW.TrodAll enc P W 0 (fun _ => true) true ts vs ds ps → ∃ as, F2 isX ks as ∧ RepVs W (fun _ => none) 0 vs as
  | [], [], .nil, [], [], ps, _, h => ⟨[], .nil, .nil⟩
  | [], [], .nil, _ :: _, _, ps, _, h => by cases h
  | [], [], .nil, [], _ :: _, ps, _, h => by cases h
  | k :: ks, t :: ts, .cons hk hks, v :: vs, d :: ds, ps, hv, h => by
    obtain ⟨p, q, h1, h2, rfl⟩ := h
    obtain ⟨a, ha, hr⟩ := repV_kx k hk (hv 0 t v rfl rfl) h1
    obtain ⟨as, has, hrs⟩ := repVs_upX hks (fun j t v h1 h2 => hv (j + 1) t v h1 h2) h2
    exact ⟨a :: as, .cons ha has, .cons _ _ _ _ hr hrs⟩
  | k :: ks, t :: ts, .cons hk hks, [], _, ps, _, h => by cases h
  | k :: ks, t :: ts, .cons hk hks, _ :: _, [], ps, _, h => by cases h

end
theorem law_postX {P : Program} {G : Globs} {H : Type} {enc : TypeId × Value → H} {f : Func} {fn : FuncId} {s : ChangeSpec} {apart fresh handsOn again : Bool} {W : World} {r : Reach} {b0 : Nat} {args : Array Value} {ds gs : List (DataW H)} {before : List MemPlace} (t : TypeId) (hrt : f.resultTypes = #[t]) (htb : P.underlying t = some .bool)
    {ks : List Kx} (hks : F2 (kxOk P) ks f.params.toList) (hvars : s.vars = []) (hns : (s.fn H ds).vars = [])
    (hres : (s.fn H ds).results = [.lit (.bool true)]) (hargs : (s.fn H ds).args = ds)
    (hval : ∀ (j : Nat) t v, f.params[j]? = some t → args[j]? = some v → Value.okWide P W r b0 t v)
    (hW : DataW.Whole enc P f.params.toList s.vars apart W args.toList ds gs before) (hG : GlobOk G W (fun _ => none))
    (walk : ∀ as, F2 isX ks as → wpF P G fn as [] fun r _ => r = .bool true) :
    Calls P fn args W fun e W' => e = .returned (.bool true) ∧ s.post enc P f apart fresh handsOn again W args (.bool true) W' := by
  have hW' := hW
  obtain ⟨p, q, hA, hV, rfl, _, _⟩ := hW
  rw [hvars] at hV
  obtain ⟨rfl, rfl⟩ := trodVars_none hV
  obtain ⟨as, has, hrs⟩ := repVs_upX hks (fun j t v h1 h2 => hval j t v (by simpa using h1) (by simpa using h2)) hA
  have hc := calls_ofG (walk as has) W hG hrs
  simp only [Array.toArray_toList] at hc
  refine hc.mono fun e W' ⟨he, hg⟩ => ⟨he, ?_⟩
  simp only [List.append_nil] at hW' ⊢
  refine post_law t hrt htb (pa := p) (pv := []) (by simpa using hW') hg (by simpa using hres) (fun sp hs => ?_) (fun sp hs => ?_) (by simp)
  · simp only [List.append_nil, hargs]
    exact trodAll_upX hg hks hA hs
  · simp only [List.append_nil, hvars, hns]
    rfl

end Go.V
