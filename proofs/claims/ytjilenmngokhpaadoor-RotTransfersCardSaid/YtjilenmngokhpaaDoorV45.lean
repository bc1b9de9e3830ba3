import Derived.Test.YtjilenmngokhpaaDoorV44
/- Package variables that are read: a table of numbers that the program's own text lays. -/
namespace Go.V
open Go Go.ChangeShapes Go.WideShapes Go.ChangeAt Go.RowKit

theorem calls_ofG {P : Program} {G : Globs} {f : FuncId} {args : List AV} {vs : List Value} (h : wpF P G f args [] fun r _ => r = .bool true) (w : World) (hG : GlobOk G w (fun _ => none)) (hr : RepVs w (fun _ => none) 0 vs args) :
    Calls P f vs.toArray w fun e w' => e = .returned (.bool true) ∧ Still w w' := by
  have hI : HeapInv w (fun _ => none) [] := ⟨fun b _ => rfl, fun b blk hb => by simp [Heap.get] at hb, fun b b' l l' k h1 => by cases h1⟩
  refine (h.2 w (fun _ => none) vs hI hG hr).mono ?_
  rintro e w' ⟨v, r, H', loc', h1, _, h3, h4, _, rfl⟩
  refine ⟨?_, h4.os, h4.output, h4.size, fun k hk => h4.block k hk fun b l hl => by cases hl⟩
  have := (h3.rep rfl).bool_inv
  simp at this
  rw [h1, this]

theorem law_postG {P : Program} {G : Globs} {H : Type} {enc : TypeId × Value → H} {f : Func} {fn : FuncId} {s : ChangeSpec} {apart fresh handsOn again : Bool} {W : World} {r : Reach} {b0 : Nat} {args : Array Value} {ds gs : List (DataW H)} {before : List MemPlace} (t : TypeId) (hrt : f.resultTypes = #[t]) (htb : P.underlying t = some .bool)
    {ks : List Kd} (hks : F2 (kdOk P) ks f.params.toList) (hvars : s.vars = []) (hns : (s.fn H ds).vars = [])
    (hres : (s.fn H ds).results = [.lit (.bool true)]) (hargs : (s.fn H ds).args = ds)
    (hval : ∀ (j : Nat) t v, f.params[j]? = some t → args[j]? = some v → Value.okWide P W r b0 t v)
    (hW : DataW.Whole enc P f.params.toList s.vars apart W args.toList ds gs before) (hG : GlobOk G W (fun _ => none))
    (walk : ∀ as, F2 isK ks as → wpF P G fn as [] fun r _ => r = .bool true) :
    Calls P fn args W fun e W' => e = .returned (.bool true) ∧ s.post enc P f apart fresh handsOn again W args (.bool true) W' := by
  have hW' := hW
  obtain ⟨p, q, hA, hV, rfl, _, _⟩ := hW
  rw [hvars] at hV
  obtain ⟨rfl, rfl⟩ := trodVars_none hV
  obtain ⟨as, has, hrs⟩ := repVs_up hks (fun j t v h1 h2 => hval j t v (by simpa using h1) (by simpa using h2)) hA
  have hc := calls_ofG (walk as has) W hG hrs
  simp only [Array.toArray_toList] at hc
  refine hc.mono fun e W' ⟨he, hg⟩ => ⟨he, ?_⟩
  simp only [List.append_nil] at hW' ⊢
  refine post_law t hrt htb (pa := p) (pv := []) (by simpa using hW') hg (by simpa using hres) (fun sp hs => ?_) (fun sp hs => ?_) (by simp)
  · simp only [List.append_nil, hargs]
    exact trodAll_up hg hks hA hs
  · simp only [List.append_nil, hvars, hns]
    rfl

theorem rep_u32s {w : World} {loc : Loc} {N : Nat} : ∀ (l : List Int) (cs : List Value), cs.length = l.length → (∀ (i : Nat) (n : Int), l[i]? = some n → cs[i]? = some (Value.int .u32 n) ∧ (Lit.int .u32 n).wf = true) → Rep w loc N cs (.agg (l.map fun n => .u32 (BitVec.ofInt 32 n)))
  | [], [], _, _ => .agg0
  | n :: l, c :: cs, hl, h => by
    obtain ⟨h1, h2⟩ := h 0 n rfl
    simp only [List.getElem?_cons_zero, Option.some.injEq] at h1
    subst h1
    have hr := (repV_u32 (w := w) (loc := loc) (N := N) h2).rep rfl
    exact .agg [.int .u32 n] cs _ _ hr (rep_u32s l cs (by simpa using hl) fun i m hi => by simpa using h (i + 1) m (by simpa using hi))
  | [], _ :: _, hl, _ => by simp at hl
  | _ :: _, [], hl, _ => by simp at hl

/-- a table of numbers, by what the row says of it -/
theorem glob_u32 {P : Program} {W : World} {name : String} {l : List Int} {g : Nat} {t e : TypeId} (hg : P.globalNamed name = some g) (ht : (P.globals[g]?).map (·.type) = some t) (hu : P.underlying t = some (.array l.length e)) (he : P.underlying e = some (.int .u32)) (hce : P.cellsOf e = 1) (hct : P.cellsOf t = l.length)
    (h : laidMet P [(name, .agg (l.map fun n => .lit (.int .u32 n)))] W) : GlobOk [(g, .arr l.length .leaf, .agg (l.map fun n => .u32 (BitVec.ofInt 32 n)))] W (fun _ => none) := by
  obtain ⟨ps, ⟨g0, t0, cs, fuel, p, q, e1, e2, e3, e4, _, _⟩, _⟩ := h
  obtain rfl := Option.some.inj (hg.symm.trans e1)
  obtain rfl := Option.some.inj (ht.symm.trans e2)
  obtain ⟨xs, m, rfl, hx, hl, hn, hi⟩ := DataW.trod_array hu e4
  simp only [Prod.mk.injEq, DataW.agg.injEq] at hx
  have hc : cs.toList.length = l.length := by rw [hl, hct]
  have each : ∀ (i : Nat) (n : Int), l[i]? = some n → cs.toList[i]? = some (Value.int .u32 n) ∧ (Lit.int .u32 n).wf = true := by
    intro i n hin
    have hlt : i < l.length := (List.getElem?_eq_some_iff.1 hin).1
    have h1 := hi i hlt
    obtain ⟨x, hxi⟩ : ∃ x, xs[i]? = some x := ⟨xs[i]'(by omega), by simp [hn, hlt]⟩
    rw [hxi, hce] at h1
    obtain ⟨n', h2, h3, h4⟩ := DataW.trod_int he h1
    have h5 : (xs.map (·.1))[i]? = some (.lit (.int .u32 n')) := by rw [List.getElem?_map, hxi, h3]; rfl
    rw [← hx.1, List.getElem?_map, hin] at h5
    simp at h5
    subst h5
    refine ⟨?_, h4⟩
    have h6 := congrArg (fun z : List Value => z[0]?) h2
    simpa using h6
  have hr := rep_u32s (w := W) (loc := fun _ => none) (N := 0) l cs.toList hc each
  intro g' s a hm
  rw [List.mem_singleton] at hm
  cases hm
  have hv : ∃ ty fr, W.heap[g]? = some (.cells cs ty fr) := by
    simp only [World.var?, hg, Option.bind_some] at e3
    split at e3
    · rename_i c ty fr hh; cases e3; exact ⟨ty, fr, hh⟩
    · cases e3
  obtain ⟨ty, fr, hh⟩ := hv
  exact .rp g 0 cs ty fr _ _ cs.toList hh (fun b l hl => by cases hl) (by rw [List.drop_zero, List.take_length]) hr (by
    rw [hasSh_arr_agg]
    refine ⟨by simp, fun q hq => ?_⟩
    obtain ⟨n, _, rfl⟩ := List.mem_map.1 hq
    simp [HasSh, AV.isCell])
end Go.V
