import Derived.Test.YtjilenmngokhpaaDoorV45
/- Arguments whose texts are known to be no longer than so much. -/
namespace Go.V
open Go Go.ChangeShapes Go.WideShapes Go.ChangeAt Go.RowKit

/-- the data's texts are no longer than M -/
def szd {H : Type} (M : Nat) : Kd → DataW H → Prop
  | .str, d => ∀ b, d = .lit (.string b) → b.length ≤ M
  | .sl k, d => ∀ es sp, d = .slice es sp → ∀ e ∈ es, szd M k e
  | .arr _ k, d => ∀ es, d = .agg es → ∀ e ∈ es, szd M k e
  | _, _ => True
/-- the value's texts are no longer than M -/
def szK (M : Nat) : Kd → AV → Prop
  | .str, a => ∀ l, a = .str l → l.length ≤ M
  | .sl k, a => ∀ s xs, a = .ro s xs → ∀ x ∈ xs, szK M k x
  | .arr _ k, a => ∀ xs, a = .agg xs → ∀ x ∈ xs, szK M k x
  | _, _ => True
section
variable {H : Type} {enc : TypeId × Value → H} {P : Program}
theorem weightsAll_mem {e : TypeId} {M : Nat} : ∀ {l : List (DataW H)}, (DataW.weightsAll P e l).all (· ≤ M) = true → ∀ d ∈ l, (d.weights P e).all (· ≤ M) = true
  | [], _, d, hd => by cases hd
  | x :: r, h, d, hd => by
    rw [DataW.weightsAll, List.all_append, Bool.and_eq_true] at h
    rcases List.mem_cons.1 hd with rfl | hd
    · exact h.1
    · exact weightsAll_mem h.2 d hd
theorem szd_of {M : Nat} : ∀ (k : Kd) {t : TypeId}, kdOk P k t → ∀ {d : DataW H}, (d.weights P t).all (· ≤ M) = true → szd M k d
  | .bool, t, _, d, _ => trivial
  | .u8, t, _, d, _ => trivial
  | .u16, t, _, d, _ => trivial
  | .u32, t, _, d, _ => trivial
  | .u64, t, _, d, _ => trivial
  | .int, t, _, d, _ => trivial
  | .str, t, _, d, h => by
    rintro b rfl
    simpa [DataW.weights] using h
  | .sl k, t, ⟨e, ht, _, _, hk⟩, d, h => by
    rintro es sp rfl x hx
    simp only [DataW.weights, ht, List.all_cons, List.all_append, Bool.and_eq_true] at h
    exact szd_of k hk (weightsAll_mem h.2.1 x hx)
  | .arr n k, t, ⟨e, ht, _, _, hk⟩, d, h => by
    rintro es rfl x hx
    simp only [DataW.weights, ht] at h
    exact szd_of k hk (weightsAll_mem h x hx)
theorem szd_each {M : Nat} : ∀ {ks : List Kd} {ts : List TypeId}, F2 (kdOk P) ks ts → ∀ {ds : List (DataW H)}, ds.length = ts.length → (DataW.weightsEach P ts ds).all (· ≤ M) = true → F2 (szd M) ks ds
  | [], [], .nil, [], _, _ => .nil
  | [], [], .nil, _ :: _, h, _ => by simp at h
  | k :: ks, t :: ts, .cons hk hks, d :: ds, hl, h => by
    rw [DataW.weightsEach, List.all_append, Bool.and_eq_true] at h
    exact .cons (szd_of k hk h.1) (szd_each hks (by simpa using hl) h.2)
  | k :: ks, t :: ts, .cons hk hks, [], h, _ => by simp at h
theorem weightsEach_left {M : Nat} : ∀ {ts us : List TypeId} {ds gs : List (DataW H)}, ds.length = ts.length → (DataW.weightsEach P (ts ++ us) (ds ++ gs)).all (· ≤ M) = true → (DataW.weightsEach P ts ds).all (· ≤ M) = true
  | [], us, [], gs, _, _ => by simp [DataW.weightsEach]
  | [], us, _ :: _, gs, h, _ => by simp at h
  | t :: ts, us, [], gs, h, _ => by simp at h
  | t :: ts, us, d :: ds, gs, hl, h => by
    simp only [List.cons_append, DataW.weightsEach, List.all_append, Bool.and_eq_true] at h ⊢
    exact ⟨h.1, weightsEach_left (by simpa using hl) h.2⟩
theorem agg_ofQ {w : World} {loc : Loc} {N s : Nat} {Q : AV → Prop} : ∀ (n : Nat) (cs : List Value), cs.length = n * s →
    (∀ i, i < n → ∃ a, Q a ∧ Rep w loc N ((cs.drop (i * s)).take s) a) → ∃ xs, xs.length = n ∧ (∀ x ∈ xs, Q x) ∧ Rep w loc N cs (.agg xs)
  | 0, cs, hl, _ => by
    have : cs = [] := by simpa using hl
    subst this
    exact ⟨[], rfl, by simp, .agg0⟩
  | n + 1, cs, hl, h => by
    have hl' : cs.length = n * s + s := by rw [hl, Nat.succ_mul]
    obtain ⟨a, ha, hr⟩ := h 0 (by omega)
    obtain ⟨xs, hx1, hx2, hx3⟩ := agg_ofQ (s := s) n (cs.drop s) (by simp [hl']) (fun i hi => by
      obtain ⟨a, ha, hr⟩ := h (i + 1) (by omega)
      refine ⟨a, ha, ?_⟩
      rw [List.drop_drop]
      rw [Nat.succ_mul, Nat.add_comm] at hr
      exact hr)
    refine ⟨a :: xs, by simp [hx1], ?_, ?_⟩
    · intro x hx
      rcases List.mem_cons.1 hx with rfl | hx
      · exact ha
      · exact hx2 x hx
    · have : cs = cs.take s ++ cs.drop s := (List.take_append_drop s cs).symm
      rw [this]
      simp only [Nat.zero_mul, List.drop_zero] at hr
      exact .agg _ _ _ _ hr hx3

theorem rep_trodM {M : Nat} {W : World} {spare : Nat → Bool} : ∀ (k : Kd) {t : TypeId}, kdOk P k t → ∀ {fuel : Nat} {cs : List Value} {x : DataW H × List MemPlace},
    DataW.trod enc P W 0 spare true fuel t cs = some x → szd M k x.1 → ∃ a, (isK k a ∧ szK M k a) ∧ Rep W (fun _ => none) 0 cs a
  | .bool, t, ht, fuel, cs, x, h, _ => by
    obtain ⟨a, ha, hr⟩ := rep_trod .bool ht h
    exact ⟨a, ⟨ha, trivial⟩, hr⟩
  | .u8, t, ht, fuel, cs, x, h, _ => by
    obtain ⟨a, ha, hr⟩ := rep_trod .u8 ht h
    exact ⟨a, ⟨ha, trivial⟩, hr⟩
  | .u16, t, ht, fuel, cs, x, h, _ => by
    obtain ⟨a, ha, hr⟩ := rep_trod .u16 ht h
    exact ⟨a, ⟨ha, trivial⟩, hr⟩
  | .u32, t, ht, fuel, cs, x, h, _ => by
    obtain ⟨a, ha, hr⟩ := rep_trod .u32 ht h
    exact ⟨a, ⟨ha, trivial⟩, hr⟩
  | .u64, t, ht, fuel, cs, x, h, _ => by
    obtain ⟨a, ha, hr⟩ := rep_trod .u64 ht h
    exact ⟨a, ⟨ha, trivial⟩, hr⟩
  | .int, t, ht, fuel, cs, x, h, _ => by
    obtain ⟨a, ha, hr⟩ := rep_trod .int ht h
    exact ⟨a, ⟨ha, trivial⟩, hr⟩
  | .str, t, ht, fuel, cs, x, h, hs => by
    obtain ⟨s, rfl, rfl, hm⟩ := DataW.trod_string ht h
    have hm' : (s.data.toList.map UInt8.toBitVec).length ≤ maxLen := by simpa using hm
    refine ⟨.str (s.data.toList.map UInt8.toBitVec), ⟨⟨_, rfl, hm'⟩, ?_⟩, .str s _ rfl hm'⟩
    intro l hl
    cases hl
    have := hs _ rfl
    simpa using this
  | .arr n k, t, ⟨e, ht, hc, hct, hk⟩, fuel, cs, x, h, hs => by
    obtain ⟨xs, m, rfl, rfl, hl, hx, hi⟩ := DataW.trod_array ht h
    rw [hct] at hl
    obtain ⟨ys, h1, h2, h3⟩ := agg_ofQ (w := W) (loc := fun _ => none) (N := 0) (Q := fun a => isK k a ∧ szK M k a) n cs hl (fun i hin => by
      have := hi i hin
      obtain ⟨y, hy⟩ : ∃ y, xs[i]? = some y := ⟨xs[i]'(by omega), by simp [hx, hin]⟩
      rw [hy, hc] at this
      exact rep_trodM k hk this (hs _ rfl y.1 (List.mem_map.2 ⟨y, List.mem_of_getElem? hy, rfl⟩)))
    exact ⟨_, ⟨⟨ys, rfl, h1, fun p hp => (h2 p hp).1⟩, fun zs hz => by cases hz; exact fun p hp => (h2 p hp).2⟩, h3⟩
  | .sl k, t, ⟨e, ht, hc, hpos, hk⟩, fuel, cs, x, h, hs => by
    rcases DataW.trod_slice ht h with ⟨rfl, _⟩ | ⟨a, len, cap, elems, rest, n, rfl, rfl, rfl, hb, hl, hm, hlen, hel, _⟩
    · exact ⟨.ro k.sh [], ⟨⟨[], rfl, by simp, by simp⟩, fun s zs hz => by cases hz; simp⟩, .ro0 _ _ _⟩
    · by_cases h0 : len = 0
      · subst h0
        exact ⟨.ro k.sh [], ⟨⟨[], rfl, by simp, by simp⟩, fun s zs hz => by cases hz; simp⟩, .ro0 _ _ _⟩
      · rw [hc] at hel
        have each : ∀ i, i < len → ∃ cs', W.cells? 0 (a.add (i * k.sh.size)) k.sh.size = some cs' ∧ ∃ y, DataW.trod enc P W 0 spare true n e cs' = some y ∧ szd M k y.1 := by
          intro i hi
          have := hel i hi
          obtain ⟨y, hy⟩ : ∃ y, elems[i]? = some y := ⟨elems[i]'(by omega), by simp [hlen, hi]⟩
          rw [hy] at this
          obtain ⟨cs', h1, h2⟩ := Option.bind_eq_some_iff.1 this
          exact ⟨cs', h1, y, h2, hs _ _ rfl y.1 (List.mem_map.2 ⟨y, List.mem_of_getElem? hy, rfl⟩)⟩
        obtain ⟨cs0, h00, _⟩ := each 0 (by omega)
        obtain ⟨_, hl0, hc0⟩ := World.cells?_some h00
        have hcell := hc0 0 hpos
        have hcs0 : cs0[0]? = some (cs0[0]'(by omega)) := by simp [hl0, hpos]
        rw [hcs0] at hcell
        obtain ⟨bk, off, spot⟩ := a
        simp only [Nat.zero_mul, Addr.add, if_true, World.cell?] at hcell
        split at hcell
        case h_2 => exact absurd hcell (by simp)
        rename_i c et fr hheap
        have hspot : spot = none := by cases spot with | none => rfl | some _ => simp at hcell
        subst hspot
        have hsegs : ∀ i, i < len → ∃ y, (isK k y ∧ szK M k y) ∧ ((c.toList.drop (off + i * k.sh.size)).take k.sh.size).length = k.sh.size ∧
            Rep W (fun _ => none) 0 ((c.toList.drop (off + i * k.sh.size)).take k.sh.size) y := by
          intro i hi
          obtain ⟨cs', h1, y, h2, h2'⟩ := each i hi
          rw [add_plain] at h1
          have h3 := cells?_seg hheap h1
          obtain ⟨z, hz, hr⟩ := rep_trodM k hk h2 h2'
          rw [h3]
          exact ⟨z, hz, (World.cells?_some h1).2.1, hr⟩
        have hlast : off + len * k.sh.size ≤ c.toList.length := by
          obtain ⟨y, _, h1, _⟩ := hsegs (len - 1) (by omega)
          rw [List.length_take, List.length_drop] at h1
          have : (len - 1) * k.sh.size + k.sh.size = len * k.sh.size := by
            rw [← Nat.succ_mul]; congr 1; omega
          omega
        have hlseg : ((c.toList.drop off).take (len * k.sh.size)).length = len * k.sh.size := by
          rw [List.length_take, List.length_drop]; omega
        obtain ⟨ys, h1, h2, h3⟩ := agg_ofQ (w := W) (loc := fun _ => none) (N := 0) (Q := fun a => isK k a ∧ szK M k a) len ((c.toList.drop off).take (len * k.sh.size)) hlseg (fun i hi => by
          obtain ⟨y, h1, h2, h3⟩ := hsegs i hi
          refine ⟨y, h1, ?_⟩
          have hle : i * k.sh.size + k.sh.size ≤ len * k.sh.size := by
            rw [← Nat.succ_mul]; exact Nat.mul_le_mul_right _ (by omega)
          rw [List.drop_take, List.drop_drop, List.take_take, Nat.min_eq_left (by omega)]
          exact h3)
        refine ⟨.ro k.sh ys, ⟨⟨ys, rfl, by omega, fun p hp => (h2 p hp).1⟩, fun s zs hz => by cases hz; exact fun p hp => (h2 p hp).2⟩, .ro bk off len cap c et fr k.sh ys _ hheap (fun _ _ h => by cases h) ?_ h3 h1 hl (by omega) (fun y hy => isK_sh k (h2 y hy).1)⟩
        rw [hlseg]

/-- A parameter of a kind: read as an abstract value. -/
theorem repV_kdM {M : Nat} {W : World} {r : Reach} {b0 : Nat} {spare : Nat → Bool} (k : Kd) {t : TypeId} (hk : kdOk P k t) {v : Value} (hval : Value.okWide P W r b0 t v) {d : DataW H} {ps : List MemPlace}
    (h : DataW.Trod enc P W 0 spare true t v d ps) (hs : szd M k d) : ∃ a, (isK k a ∧ szK M k a) ∧ RepV W (fun _ => none) 0 v a := by
  obtain ⟨fuel, h⟩ := h
  obtain ⟨a, ⟨ha, hz⟩, hr⟩ := rep_trodM k hk h hs
  refine ⟨a, ⟨ha, hz⟩, ?_⟩
  have one : ∀ {u : Value}, v = u → u.cells.toList = [u] → a.isCell = true → RepV W (fun _ => none) 0 v a := by
    intro u hu hc hcell
    subst hu
    rw [hc] at hr
    exact .cell _ _ hcell hr
  clear hz hs
  cases k with
  | bool => obtain ⟨x, rfl⟩ := okWide_bool hk hval; obtain ⟨y, rfl⟩ := ha; exact one rfl rfl rfl
  | u8 => obtain ⟨x, rfl⟩ := okWide_int hk hval; obtain ⟨y, rfl⟩ := ha; exact one rfl rfl rfl
  | u16 => obtain ⟨x, rfl⟩ := okWide_int hk hval; obtain ⟨y, rfl⟩ := ha; exact one rfl rfl rfl
  | u32 => obtain ⟨x, rfl⟩ := okWide_int hk hval; obtain ⟨y, rfl⟩ := ha; exact one rfl rfl rfl
  | u64 => obtain ⟨x, rfl⟩ := okWide_int hk hval; obtain ⟨y, rfl⟩ := ha; exact one rfl rfl rfl
  | int => obtain ⟨x, rfl⟩ := okWide_int hk hval; obtain ⟨y, rfl, _⟩ := ha; exact one rfl rfl rfl
  | str => obtain ⟨x, rfl⟩ := okWide_string hk hval; obtain ⟨y, rfl, _⟩ := ha; exact one rfl rfl rfl
  | sl k => obtain ⟨e, ht, _⟩ := hk; obtain ⟨x, n, c, rfl⟩ := okWide_slice ht hval; obtain ⟨y, rfl, _⟩ := ha; exact one rfl rfl rfl
  | arr n k =>
    obtain ⟨e, ht, _⟩ := hk
    obtain ⟨cs, rfl, _⟩ : ∃ cs, v = .agg cs ∧ cs.size = P.cellsOf t := by
      unfold Value.okWide at hval
      rw [ht] at hval
      obtain ⟨cs, h1, h2, _⟩ := hval
      exact ⟨cs, h1, h2⟩
    obtain ⟨y, rfl, _⟩ := ha
    have := RepV.agg (w := W) (loc := fun _ => none) (N := 0) cs.toList y (by simpa [Value.cells] using hr)
    simpa using this

theorem repVs_upM {M : Nat} {W : World} {r : Reach} {b0 : Nat} : ∀ {ks : List Kd} {ts : List TypeId}, F2 (kdOk P) ks ts → ∀ {vs : List Value} {ds : List (DataW H)} {ps : List MemPlace},
    (∀ (j : Nat) t v, ts[j]? = some t → vs[j]? = some v → Value.okWide P W r b0 t v) →
    DataW.TrodAll enc P W 0 (fun _ => true) true ts vs ds ps → F2 (szd M) ks ds → ∃ as, F2 (fun k a => isK k a ∧ szK M k a) ks as ∧ RepVs W (fun _ => none) 0 vs as
  | [], [], .nil, [], [], ps, _, h, _ => ⟨[], .nil, .nil⟩
  | [], [], .nil, _ :: _, _, ps, _, h, _ => by cases h
  | [], [], .nil, [], _ :: _, ps, _, h, _ => by cases h
  | k :: ks, t :: ts, .cons hk hks, v :: vs, d :: ds, ps, hv, h, .cons hz hzs => by
    obtain ⟨p, q, h1, h2, rfl⟩ := h
    obtain ⟨a, ha, hr⟩ := repV_kdM k hk (hv 0 t v rfl rfl) h1 hz
    obtain ⟨as, has, hrs⟩ := repVs_upM hks (fun j t v h1 h2 => hv (j + 1) t v h1 h2) h2 hzs
    exact ⟨a :: as, .cons ha has, .cons _ _ _ _ hr hrs⟩
  | k :: ks, t :: ts, .cons hk hks, [], _, ps, _, h, _ => by cases h
  | k :: ks, t :: ts, .cons hk hks, _ :: _, [], ps, _, h, _ => by cases h

end
theorem law_postGM {M : Nat} {P : Program} {G : Globs} {H : Type} {enc : TypeId × Value → H} {f : Func} {fn : FuncId} {s : ChangeSpec} {apart fresh handsOn again : Bool} {W : World} {r : Reach} {b0 : Nat} {args : Array Value} {ds gs : List (DataW H)} {before : List MemPlace} (t : TypeId) (hrt : f.resultTypes = #[t]) (htb : P.underlying t = some .bool)
    {ks : List Kd} (hks : F2 (kdOk P) ks f.params.toList) (hvars : s.vars = []) (hns : (s.fn H ds).vars = [])
    (hres : (s.fn H ds).results = [.lit (.bool true)]) (hargs : (s.fn H ds).args = ds)
    (hval : ∀ (j : Nat) t v, f.params[j]? = some t → args[j]? = some v → Value.okWide P W r b0 t v)
    (hW : DataW.Whole enc P f.params.toList s.vars apart W args.toList ds gs before) (hG : GlobOk G W (fun _ => none))
    (hsz : (DataW.weightsEach P f.params.toList ds).all (· ≤ M) = true) (walk : ∀ as, F2 (fun k a => isK k a ∧ szK M k a) ks as → wpF P G fn as [] fun r _ => r = .bool true) :
    Calls P fn args W fun e W' => e = .returned (.bool true) ∧ s.post enc P f apart fresh handsOn again W args (.bool true) W' := by
  have hW' := hW
  obtain ⟨p, q, hA, hV, rfl, _, _⟩ := hW
  rw [hvars] at hV
  obtain ⟨rfl, rfl⟩ := trodVars_none hV
  obtain ⟨as, has, hrs⟩ := repVs_upM (M := M) hks (fun j t v h1 h2 => hval j t v (by simpa using h1) (by simpa using h2)) hA (szd_each hks (trodAll_len hA) hsz)
  have hc := calls_ofG (walk as has) W hG hrs
  simp only [Array.toArray_toList] at hc
  refine hc.mono fun e W' ⟨he, hg⟩ => ⟨he, ?_⟩
  simp only [List.append_nil] at hW' ⊢
  refine post_law t hrt htb (pa := p) (pv := []) (by simpa using hW') hg (by simpa using hres) (fun sp hs => ?_) (fun sp hs => ?_) (by simp)
  · simp only [List.append_nil, hargs]
    exact trodAll_up hg hks hA hs
  · simp only [List.append_nil, hvars, hns]
    rfl

end Go.V
