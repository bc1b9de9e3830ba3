import Derived.Test.YtjilenmngokhpaaDoorV18
/- An instruction and a region that keeps the text's order, in the machine. -/
namespace Go.V
open Go

section
variable {P : Program} {G : Globs}

/-- what follows an instruction -/
def Cont (sl : List Nat) (w : World) (loc : Loc) (h : Heap) (a : Act) (K : List AV → Heap → Prop) (Kn : Act → World → Prop) : Prop :=
  ∀ env' h' a' w' loc', K env' h' → EnvOk w' loc' h'.length sl a'.tmps env' → HeapInv w' loc' h' → Ext w loc h.length w' loc' → h.length ≤ h'.length → a'.defers = a.defers → a'.tmps.size = a.tmps.size → Kn a' w'

theorem call_sound {f : FuncId} {o : Oper} {a : Act} {w : World} {loc : Loc} {h : Heap} {sl sl' : List Nat} {env : List AV} {d : Dst} {args : List AV} {vs : List Value} {K : List AV → Heap → Prop} {Kn : Act → World → Prop} {Q : Exit → Act → World → Prop}
    (hI : HeapInv w loc h) (hG : GlobOk G w loc) (he : EnvOk w loc h.length sl a.tmps env) (hd : slD sl o.dst d = some sl') (hs : ∀ s, o.dst = some s → s < a.tmps.size)
    (hr : RepVs w loc h.length vs args) (hex : (execOp a.eval o).run P w = (callFunc f vs.toArray).run P w) (hf : wpF P G f args h fun v h' => K (putE env d v) h') (hK : Cont sl' w loc h a K Kn) : o.wp P a w Kn Q := by
  obtain ⟨⟨fn, h1, h2, h3⟩, hc⟩ := hf
  have hrun : (callFunc f vs.toArray).run P w = .ok (.enter f vs.toArray) w := by
    simp only [callFunc, Sem.run_bind, run_program, Result.andThen_ok, h1, h2, h3, Bool.false_eq_true, if_false, Sem.run_pure]
  unfold Oper.wp
  rw [hex, hrun, Oper.upon_enter]
  refine (hc w loc vs hI hG hr).mono ?_
  rintro e w' ⟨v, r, H', loc', rfl, g1, g2, g3, g4, g5⟩
  obtain ⟨p1, p2, p3⟩ := (he.mono g3 g4).put hd hs g2
  exact hK _ _ _ _ loc' g5 p1 g1 g3 g4 p3 p2

theorem slice_nil_run {t e : TypeId} (ht : P.underlying t = some (.slice e)) (w : World) (a : Option Addr) (l c : Nat) : (Op.equal t (.slice a l c) (.slice none 0 0)).run P w = .ok a.isNone w := by
  have key : ∀ d, (Op.equalIn (d + 1) t (.slice a l c) (.slice none 0 0)).run P w = .ok a.isNone w := by
    intro d
    cases a <;> simp [Op.equalIn, run_underlying ht]
  exact key 9999

theorem nilK_ok {w : World} {loc : Loc} {N : Nat} {v : Value} {as : List AV} {neg : Bool} {K : Bool → Prop} (hr : RepVs w loc N [v] as) (h : nilK neg as K) : ∃ ad n cap, v = .slice ad n cap ∧ K (if neg = true then !ad.isNone else ad.isNone) := by
  obtain ⟨a, rfl, hx⟩ := RepVs.inv1 hr
  have two : ∀ (ad : Option Addr), (ad = none → K (!neg)) → K neg → K (if neg = true then !ad.isNone else ad.isNone) := by
    intro ad h1 h2
    cases ad with
    | none => have := h1 rfl; cases neg <;> simpa using this
    | some ad => cases neg <;> simpa using h2
  cases a <;> simp only [nilK] at h
  case nils =>
    have hv := (hx.rep rfl).nils_inv
    simp at hv
    exact ⟨_, _, _, hv, by cases neg <;> simpa using h⟩
  case ro e xs =>
    obtain ⟨h1, h2⟩ := h
    have hv := hx.rep rfl
    generalize hvs : [v] = vs at hv
    cases hv with
    | ro0 ad cap e => simp at hvs; exact ⟨_, _, _, hvs, two _ (fun _ => h1 rfl) h2⟩
    | ro k o n cap c t fr e xs cs => simp at hvs; exact ⟨_, _, _, hvs, two _ (fun h => by cases h) h2⟩
  case own b ver pa off n e =>
    obtain ⟨h1, h2⟩ := h
    have hv := hx.rep rfl
    generalize hvs : [v] = vs at hv
    cases hv with
    | own b ver pa off n e ad cap hb hl hc ha hm ho =>
      simp at hvs
      refine ⟨_, _, _, hvs, two _ (fun h => h1 ?_) h2⟩
      rcases Nat.eq_zero_or_pos n with hn | hn
      · exact hn
      · obtain ⟨k, o, h3⟩ := ha hn
        rw [h] at h3; cases h3

theorem step_sound {o : Oper} {i : Ins} {a : Act} {w : World} {loc : Loc} {h : Heap} {sl sl' : List Nat} {env : List AV} {K : List AV → Heap → Prop} {Kn : Act → World → Prop} {Q : Exit → Act → World → Prop}
    (hI : HeapInv w loc h) (hG : GlobOk G w loc) (he : EnvOk w loc h.length sl a.tmps env) (hi : IOp P G sl o.op i.op i.args) (hd : slD sl o.dst i.dst = some sl') (hs : ∀ s, o.dst = some s → s < a.tmps.size)
    (hst : stepI P G i env h K) (hK : Cont sl' w loc h a K Kn) : o.wp P a w Kn Q := by
  obtain ⟨dst, op, args, g⟩ := i
  simp only at hi hd
  generalize hop : o.op = oo at hi
  cases hi with
  | q _ q xs os hq hx =>
    simp only [stepI] at hst
    cases hev : qev h q (args.map (Opd.get env)) with
    | none => simp [hev] at hst
    | some pr =>
      obtain ⟨p, r⟩ := pr
      simp only [hev] at hst
      obtain ⟨v, hv, hrep⟩ := q_sound hI hq (hx.rep he hG) hev hst.1 o hop
      unfold Oper.wp
      rw [hv, Oper.upon_value]
      obtain ⟨p1, p2, p3⟩ := he.put hd hs hrep
      exact hK _ _ _ _ loc hst.2 p1 hI (Ext.refl _ _ _) (Nat.le_refl _) p3 p2
  | e _ e xs os hq hx =>
    simp only [stepI] at hst
    cases hev : eev h e (args.map (Opd.get env)) with
    | none => simp [hev] at hst
    | some pr =>
      obtain ⟨p, r, h'⟩ := pr
      simp only [hev] at hst
      obtain ⟨nx, w', loc', hv, g1, g2, g3, g4⟩ := e_sound hI hq (hx.rep he hG) hev hst.1 o hop
      unfold Oper.wp
      rw [hv]
      rcases g4 with ⟨v, rfl, hrep⟩ | ⟨rfl, rfl⟩
      · rw [Oper.upon_value]
        obtain ⟨p1, p2, p3⟩ := (he.mono g2 g3).put hd hs hrep
        exact hK _ _ _ _ loc' hst.2 p1 g1 g2 g3 p3 p2
      · rw [Oper.upon_skip]
        obtain ⟨p1, p2, p3⟩ := (he.mono g2 g3).put hd hs (RepV.un undef)
        exact hK _ _ _ _ loc' hst.2 p1 g1 g2 g3 p3 p2
  | call f xs ts os hx =>
    simp only [stepI] at hst
    refine call_sound hI hG he hd hs (hx.rep he hG) ?_ hst hK
    have e1 : (xs.toList.map a.eval).toArray = xs.map a.eval := by apply Array.ext'; simp
    rw [e1]
    simp [execOp, hop, resolve, Act.eval, Deferred.ofValue, invoke]
  | callp f xs ts os hx =>
    simp only [stepI] at hst
    refine call_sound hI hG he hd hs (hx.rep he hG) ?_ hst hK
    have e1 : (xs.toList.map a.eval).toArray = xs.map a.eval := by apply Array.ext'; simp
    rw [e1]
    simp [execOp, hop, resolve, Act.eval, Deferred.ofValue, invoke]
  | callm f xs ts os hx =>
    simp only [stepI] at hst
    refine call_sound hI hG he hd hs (hx.rep he hG) ?_ hst hK
    have e1 : (xs.toList.map a.eval).toArray = xs.map a.eval := by apply Array.ext'; simp
    rw [e1]
    simp [execOp, hop, resolve, Act.eval, Deferred.ofValue, invoke]
  | callw f xs ts os hx =>
    simp only [stepI] at hst
    refine call_sound hI hG he hd hs (hx.rep he hG) ?_ hst hK
    have e1 : (xs.toList.map a.eval).toArray = xs.map a.eval := by apply Array.ext'; simp
    rw [e1]
    simp [execOp, hop, resolve, Act.eval, Deferred.ofValue, invoke]
  | nilq t e x yt neg os ht hx =>
    simp only [stepI] at hst
    have hr := hx.rep he hG
    obtain ⟨ad, n, cap, h1, h2⟩ := nilK_ok (by simpa using hr) hst
    unfold Oper.wp
    have hrun : (execOp a.eval o).run P w = .ok (.value (.bool (if neg = true then !ad.isNone else ad.isNone))) w := by
      have he2 : a.eval (.const (.slice none 0 0)) = .slice none 0 0 := rfl
      cases neg
      · simp only [execOp, hop, h1, he2, Sem.run_bind, Bool.false_eq_true, if_false, eqGuard_other .eql t x (.const (.slice none 0 0)) (.slice ad n cap) (.slice none 0 0) (by simp) (by simp), Result.andThen_ok, binOp, slice_nil_run ht, Sem.run_pure]
      · simp only [execOp, hop, h1, he2, Sem.run_bind, if_true, eqGuard_other .neq t x (.const (.slice none 0 0)) (.slice ad n cap) (.slice none 0 0) (by simp) (by simp), Result.andThen_ok, binOp, slice_nil_run ht, Sem.run_pure]
    rw [hrun, Oper.upon_value]
    obtain ⟨p1, p2, p3⟩ := he.put hd hs (RepV.cell _ _ rfl (Rep.bool (w := w) (loc := loc) (N := h.length) _))
    exact hK _ _ _ _ loc h2 p1 hI (Ext.refl _ _ _) (Nat.le_refl _) p3 p2
  | callv s xs ts os hx =>
    simp only [stepI] at hst
    have hr := hx.rep he hG
    rw [List.map_cons] at hr
    generalize hm : args.map (Opd.get env) = as at hr hst
    cases hr with
    | cons v b vs bs h1 h2 =>
      cases b <;> simp only at hst
      rename_i f caps
      obtain ⟨cv, hcv, hcl, hcc, hcr⟩ := (h1.rep rfl).fn_inv
      simp at hcv
      have hrc : ∀ {cv : List Value} {caps : List AV}, Rep w loc h.length cv (.agg caps) → cv.length = caps.length → (∀ c ∈ caps, c.isCell = true) → RepVs w loc h.length cv caps := by
        intro cv caps
        induction caps generalizing cv with
        | nil => intro h _ _; rw [h.nil_inv]; exact .nil
        | cons c caps ih =>
          intro h hl hc
          obtain ⟨us, ys, rfl, k1, k2⟩ := h.cons_inv
          obtain ⟨u, rfl⟩ := k1.cell (hc c (by simp))
          exact .cons _ _ _ _ (.cell _ _ (hc c (by simp)) k1) (ih k2 (by simpa using hl) fun d hd => hc d (by simp [hd]))
      have happ : ∀ {xs ys : List Value} {as bs : List AV}, RepVs w loc h.length xs as → RepVs w loc h.length ys bs → RepVs w loc h.length (xs ++ ys) (as ++ bs) := by
        intro xs ys as bs h1 h2
        induction h1 with
        | nil => exact h2
        | cons _ _ _ _ g _ ih => exact .cons _ _ _ _ g ih
      refine call_sound hI hG he hd hs (happ h2 (hrc hcr hcl hcc)) ?_ hst hK
      have e1 : (xs.toList.map a.eval ++ cv).toArray = xs.map a.eval ++ cv.toArray := by apply Array.ext'; simp
      rw [e1]
      simp [execOp, hop, resolve, hcv, Deferred.ofValue, invoke]

/-- Which of Go's regions is which list of instructions. -/
inductive RegOk (P : Program) (G : Globs) (n : Nat) (ops : Array Oper) : List Nat → List Oper → List Ins → List Nat → Prop
  | nil (sl : List Nat) : RegOk P G n ops sl [] [] sl
  | plain (sl sl1 sl2 : List Nat) (o : Oper) (i : Ins) (os : List Oper) (is : List Ins) : o.guard = none → i.g = none → IOp P G sl o.op i.op i.args → slD sl o.dst i.dst = some sl1 → (∀ s, o.dst = some s → s < n) → RegOk P G n ops sl1 os is sl2 →
      RegOk P G n ops sl (o :: os) (i :: is) sl2
  | guarded (sl sl1 sl2 : List Nat) (o : Oper) (i : Ins) (os : List Oper) (is : List Ins) (j k s : Nat) (want : Bool) (oj : Oper) : o.guard = some (j, want) → i.g = some (k, want) → ops[j]? = some oj → oj.dst = some s → sl[k]? = some s →
      IOp P G sl o.op i.op i.args → slD sl o.dst i.dst = some sl1 → (∀ s, o.dst = some s → s < n) → RegOk P G n ops sl1 os is sl2 → RegOk P G n ops sl (o :: os) (i :: is) sl2

theorem reg_sound {n : Nat} {ops : Array Oper} {sl sl' : List Nat} {os : List Oper} {is : List Ins} (hr : RegOk P G n ops sl os is sl') : ∀ {env : List AV} {h : Heap} {a : Act} {w : World} {loc : Loc} {K : List AV → Heap → Prop} {Q : Exit → Act → World → Prop},
    EnvOk w loc h.length sl a.tmps env → HeapInv w loc h → GlobOk G w loc → a.tmps.size = n → wpI P G is env h K → Cont sl' w loc h a K (Q .normal) → wpList P ops Q os a w := by
  induction hr with
  | nil sl =>
    intro env h a w loc K Q he hI hG hn hw hK
    exact hK env h a w loc hw he hI (Ext.refl _ _ _) (Nat.le_refl _) rfl rfl
  | plain sl sl1 sl2 o i os is hg hig hi hd hs _ ih =>
    intro env h a w loc K Q he hI hG hn hw hK
    simp only [wpI, hig] at hw
    unfold wpList
    rw [if_pos (by simp [Region.wanted, hg])]
    refine .inl (step_sound hI hG he hi hd (by rw [hn]; exact hs) hw ?_)
    intro env' h' a' w' loc' hk g1 g2 g3 g4 g5 g6
    refine ih g1 g2 (hG.mono g3) (g6.trans hn) hk ?_
    intro env2 h2 a2 w2 loc2 hk2 k1 k2 k3 k4 k5 k6
    exact hK env2 h2 a2 w2 loc2 hk2 k1 k2 (g3.trans k3 g4) (Nat.le_trans g4 k4) (k5.trans g5) (k6.trans g6)
  | guarded sl sl1 sl2 o i os is j k s want oj hg hig hj hjd hk hi hd hs _ ih =>
    intro env h a w loc K Q he hI hG hn hw hK
    have skip : wpI P G is (putE env i.dst (.tup [])) h K → wpList P ops Q os (a.put o.dst undef) w := by
      intro hw
      obtain ⟨p1, p2, p3⟩ := he.put hd (by rw [hn]; exact hs) (show RepV w loc h.length undef (.tup []) from .tup [] [] rfl (by simp))
      refine ih p1 hI hG (p2.trans hn) hw ?_
      intro env2 h2 a2 w2 loc2 hk2 k1 k2 k3 k4 k5 k6
      exact hK env2 h2 a2 w2 loc2 hk2 k1 k2 k3 k4 (k5.trans p3) (k6.trans p2)
    have hkl : k < env.length := by rw [← he.len]; exact (List.getElem?_eq_some_iff.1 hk).1
    have hgk : env[k]? = some env[k] := List.getElem?_eq_getElem hkl
    have hgd : env.getD k .un = env[k] := by simp [List.getD, hgk]
    have hrep := he.rep k s env[k] hk hgk
    have hsl : s < a.tmps.size := he.lt s (List.mem_of_getElem? hk)
    have hty : a.tmps[s]? = some (a.tmps.getD s undef) := by simp [Array.getD_eq_getD_getElem?, hsl]
    simp only [wpI, hig, hgd] at hw
    unfold wpList
    generalize he2 : env[k] = ek at hw hrep
    cases ek <;> try (exact False.elim hw)
    case bool b =>
      have hv := (hrep.rep rfl).bool_inv
      simp at hv
      have hy : yielded ops a.tmps j = some b := by
        have h5 : a.tmps[s]? = some (.bool b) := by
          rw [hty]
          congr 1
          simpa [Array.getD_eq_getD_getElem?] using hv
        simp [yielded, hj, hjd, h5]
      by_cases hbw : b = want
      · rw [if_pos (by simp [Region.wanted, hg, hy, hbw])]
        refine .inl (step_sound hI hG he hi hd (by rw [hn]; exact hs) (hw.1 hbw) ?_)
        intro env' h' a' w' loc' hk g1 g2 g3 g4 g5 g6
        refine ih g1 g2 (hG.mono g3) (g6.trans hn) hk ?_
        intro env2 h2 a2 w2 loc2 hk2 k1 k2 k3 k4 k5 k6
        exact hK env2 h2 a2 w2 loc2 hk2 k1 k2 (g3.trans k3 g4) (Nat.le_trans g4 k4) (k5.trans g5) (k6.trans g6)
      · rw [if_neg (by simp [Region.wanted, hg, hy, hbw])]
        refine skip (hw.2 ?_)
        cases b <;> cases want <;> simp_all
    case tup ps =>
      rcases ps with _ | ⟨p0, ps⟩
      rotate_left
      · exact hw.elim
      have hv : a.tmps.getD s undef = .tuple #[] := by
        cases hx : a.tmps.getD s undef <;> rw [hx] at hrep <;> cases hrep
        · rename_i hc _; simp [AV.isCell] at hc
        all_goals first | (rename_i hc _; simp [AV.isCell] at hc; done) | skip
        rename_i vs hl _
        have : vs = [] := List.eq_nil_of_length_eq_zero (by simpa using hl)
        subst this; rfl
      have hy : yielded ops a.tmps j = none := by
        have h5 : a.tmps[s]? = some (.tuple #[]) := by rw [hty, hv]
        simp [yielded, hj, hjd, h5]
      rw [if_neg (by simp [Region.wanted, hg, hy])]
      exact skip hw

end
end Go.V
