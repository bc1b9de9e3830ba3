import Derived.Test.YtjilenmngokhpaaDoorV42
/- Regions that draw their order: one more operation. -/
set_option linter.unusedVariables false
set_option linter.unusedSimpArgs false
namespace Go.V
open Go

section
variable {P : Program} {G : Globs}
variable {n n0 : Nat} {ops : Array Oper} {is : List Ins} {ps : List (Nat × Nat)} {E : Nat → List AV} {T : Nat → Heap} {V : Nat → AV} {F : Nat → List Nat × List Nat} {SL : List Nat}

theorem fpS_kr {i : Ins} {env : List AV} {f : List Nat × List Nat} (h : fpS i env f) {b : Nat} (hb : b ∈ f.1) : i.op.kd = 1 ∨ i.op.kd = 3 := by
  unfold fpS at h
  split at h
  · rw [h] at hb; exact fpO_kr hb
  · rcases h with ⟨_, h⟩ | ⟨_, h⟩
    · rw [h] at hb; exact fpO_kr hb
    · rw [h] at hb; cases hb
theorem fpS_kw {i : Ins} {env : List AV} {f : List Nat × List Nat} (h : fpS i env f) {b : Nat} (hb : b ∈ f.2) : i.op.kd = 3 := by
  unfold fpS at h
  split at h
  · rw [h] at hb; exact fpO_kw hb
  · rcases h with ⟨_, h⟩ | ⟨_, h⟩
    · rw [h] at hb; exact fpO_kw hb
    · rw [h] at hb; cases hb
theorem fpS_top {i : Ins} {env : List AV} {f : List Nat × List Nat} (h : fpS i env f) {b : Nat} (hb : b ∈ f.1 ∨ b ∈ f.2) : ∃ a ∈ i.args.map (Opd.get env), b ∈ topB a := by
  unfold fpS at h
  split at h
  · rw [h] at hb; exact fpO_top hb
  · rcases h with ⟨_, h⟩ | ⟨_, h⟩
    · rw [h] at hb; exact fpO_top hb
    · rw [h] at hb; rcases hb with hb | hb <;> cases hb

theorem kd_le (i : Iop) : i.kd ≤ 4 := by
  cases i with
  | q q => cases q <;> simp [Iop.kd]
  | e e => cases e <;> simp [Iop.kd]
  | _ => simp [Iop.kd]

theorem clk_eq {N : Nat} {M : Heap} {listed : Array Bool} {b j : Nat} (hj : j < N) (hju : listed.getD j false = false) (hclk : ∃ m, m ≤ N ∧ M.get b = (T m).get b ∧ ∀ k, k < N → Wr T k b → (listed.getD k false = true ↔ k < m))
    (hC : ∀ k, k < N → k ≠ j → Wr T k b → (listed.getD k false = true ↔ k < j)) : M.get b = (T j).get b := by
  obtain ⟨m, hm, h1, h2⟩ := hclk
  rw [h1]
  rcases Nat.le_total m j with h | h
  · have := T_const (T := T) (b := b) (j - m) m fun k h3 h4 hw => by
      have h5 := h2 k (by omega) hw
      have h6 := hC k (by omega) (by omega) hw
      have := h5.1 (h6.2 (by omega))
      omega
    rw [show m + (j - m) = j by omega] at this
    exact this.symm
  · have := T_const (T := T) (b := b) (m - j) j fun k h3 h4 hw => by
      have h5 := h2 k (by omega) hw
      by_cases hkj : k = j
      · subst hkj
        have := h5.2 (by omega)
        rw [hju] at this; cases this
      · have h6 := hC k (by omega) hkj hw
        have := h6.1 (h5.2 (by omega))
        omega
    rw [show j + (m - j) = m by omega] at this
    exact this

theorem opd_bnd {w : World} {loc : Loc} {sl : List Nat} {xo : Operand} {od : Opd} (h : OpdOk G sl xo od) (hG : GlobOk G w loc) {env : List AV} {N : Nat} (he : ∀ (x : Nat) (v : AV), env[x]? = some v → v.bnd N = true) : (od.get env).bnd N = true := by
  rw [bnd_all]
  exact opd_all h hG fun x v hx => by rw [← bnd_all]; exact he x v hx

theorem setO_some {cur : List AV} {d : Option Nat} {v u : AV} {x : Nat} (h : (setO cur d v)[x]? = some u) : u = v ∨ cur[x]? = some u := by
  cases d with
  | none => exact .inr h
  | some y =>
    simp only [setO, List.getElem?_set] at h
    split at h
    · split at h
      · cases h; exact .inl rfl
      · cases h
    · exact .inr h

theorem MidF.step {a0 : Act} {w0 : World} {loc0 : Loc} {listed : Array Bool} {a : Act} {w : World} {loc : Loc} {cur : List AV} {M : Heap} (hO : OrderedF ops n0 is ps) (hT : TrF P G n0 is ps E T V F) (hil : ops.size = is.length) (hsl0 : SL.length = (E is.length).length)
    (hat : ∀ (j : Nat) (o : Oper) (i : Ins), ops[j]? = some o → is[j]? = some i → ∃ slj d, (dix n0 is)[j]? = some d ∧ AtOk P G n ops SL o i slj d ∧ slj.length = n0 + cntN is j)
    (hm : MidF P G n n0 ops is E T F SL a0 w0 loc0 listed a w loc cur M) {j : Nat} (hj : j ∈ Region.ready .any ops listed) {Q : Exit → Act → World → Prop} {Kn : Act → World → Prop}
    (hK : ∀ a' w' loc' cur' M', MidF P G n n0 ops is E T F SL a0 w0 loc0 (listed.setIfInBounds j true) a' w' loc' cur' M' → Kn a' w') : wpOp P ops Q j Kn a w := by
  obtain ⟨hju, o, ho, hall⟩ := mem_ready.1 hj
  have hjl : j < ops.size := (Array.getElem?_eq_some_iff.1 ho).1
  have hjs : j < listed.size := by rw [hm.sz]; exact hjl
  have hju' : listed.getD j false = false := by
    simp [Array.getD_eq_getD_getElem?, hjs] at hju ⊢; exact hju
  have hjN : j < is.length := by omega
  have hi : is[j]? = some is[j] := List.getElem?_eq_getElem (by omega)
  generalize is[j] = i at hi
  obtain ⟨slj, d, hd, hA, hsl⟩ := hat j o i ho hi
  obtain ⟨ext, hext⟩ := hA.pre
  have hTr := hT.tr
  have bef : ∀ k, Dep ops k j → listed.getD k false = true := fun k hk => hk.listed hm.cl fun o' ho' => by
    rw [ho] at ho'; cases ho'; exact hall
  have aft : ∀ k, Dep ops j k → listed.getD k false = false := by
    intro k hk
    cases hlk : listed.getD k false with
    | false => rfl
    | true =>
      have := hk.listed hm.cl fun o' ho' => hm.cl k o' ho' hlk
      rw [this] at hju'; cases hju'
  have hlen : (E j).length = slj.length := by rw [hTr.len j (by omega), hsl]
  have set1 : ∀ k, (listed.setIfInBounds j true).getD k false = true ↔ k = j ∨ listed.getD k false = true := by
    intro k
    by_cases hkj : j = k
    · subst hkj; simp [Array.getD_eq_getD_getElem?, hjs]
    · simp [Array.getD_eq_getD_getElem?, Array.getElem?_setIfInBounds_ne hkj, Ne.symm hkj]
  have set0 : ∀ k, (listed.setIfInBounds j true).getD k false = false ↔ k ≠ j ∧ listed.getD k false = false := by
    intro k
    have := set1 k
    cases h1 : (listed.setIfInBounds j true).getD k false <;> cases h2 : listed.getD k false <;> simp [h1, h2] at this ⊢ <;> exact this
  have cl' : ∀ (k : Nat) (o : Oper), ops[k]? = some o → (listed.setIfInBounds j true).getD k false = true → ∀ e ∈ o.after, Region.binds .any e = true → (listed.setIfInBounds j true).getD e.on false = true := by
    intro k o' ho' hk e he hb
    refine (set1 _).2 (.inr ?_)
    rcases (set1 k).1 hk with rfl | hk
    · rw [ho] at ho'; cases ho'; exact hall e he hb
    · exact hm.cl k o' ho' hk e he hb
  obtain ⟨dd, hdd, hput⟩ : ∃ dd : Dst, slD SL o.dst dd = some SL ∧ ∀ (cur : List AV) v, putE cur dd v = setO cur d v := by
    have hdst := hA.dst
    cases d with
    | none => simp only at hdst; exact ⟨.none, by simp [slD, hdst], fun c v => rfl⟩
    | some x =>
      simp only at hdst
      obtain ⟨s, h1, h2⟩ := hdst
      exact ⟨.var x, by simp [slD, h1, h2], fun c v => rfl⟩
  have hlt : ∀ s, o.dst = some s → s < a.tmps.size := by rw [hm.ts]; exact hA.lt
  have hrd : ∀ x, x ∈ i.reads → x < slj.length → cur[x]? = (E j)[x]? := by
    intro x hx hxl
    by_cases hw : ∃ k, k < j ∧ (dix n0 is)[k]? = some (some x)
    · obtain ⟨k, hkj, hk⟩ := hw
      rw [hm.fin x k hk (bef k (hO.wr k j x i hkj hi hk hx))]
      obtain ⟨g1, g2⟩ := hTr.wrote hk
      have one : ∀ q, k + 1 ≤ q → (dix n0 is)[q]? ≠ some (some x) := fun q hq he => by
        have := hO.inj k q x hk he; omega
      rw [hTr.keep (a := k + 1) (b := is.length) (by omega) (Nat.le_refl _) g2 fun q h1 _ => one q h1, hTr.keep (a := k + 1) (b := j) (by omega) (by omega) g2 fun q h1 _ => one q h1]
    · have hx0 : x < n0 := by
        rcases Nat.lt_or_ge x n0 with h | h
        · exact h
        · obtain ⟨k, h1, h2⟩ := hTr.writer (j := j) (by omega) (by rw [hlen]; exact hxl) h
          exact absurd ⟨k, h1, h2⟩ hw
      rw [hm.ini x hx0 ?_, hTr.keep (a := 0) (b := j) (by omega) (by omega) (by rw [hTr.l0]; exact hx0) fun q _ h1 he => hw ⟨q, h1, he⟩]
      intro k hk
      rcases Nat.lt_trichotomy k j with h | h | h
      · exact absurd ⟨k, h, hk⟩ hw
      · subst h; exact hju'
      · exact aft k (hO.rw j k x i h hi hk hx)
  have hfinj : ∀ x, d = some x → (E is.length)[x]? = some (V j) ∧ x < SL.length := by
    intro x hx
    subst hx
    obtain ⟨g1, g2⟩ := hTr.wrote hd
    have hone := hTr.keep (a := j + 1) (b := is.length) (by omega) (Nat.le_refl _) g2 fun q h1 _ he => by
      have := hO.inj j q x hd he; omega
    refine ⟨by rw [hone, g1], ?_⟩
    rw [hsl0]
    exact Nat.lt_of_lt_of_le g2 (hTr.mono_len (by omega) (Nat.le_refl _))
  have hargs : i.args.map (Opd.get cur) = i.args.map (Opd.get (E j)) := args_eq fun x hx => hrd x (by simp [Ins.reads, hx]) (hA.iop.args_lt x hx)
  have hiop : IOp P G SL o.op i.op i.args := by rw [hext]; exact hA.iop.wide
  -- what was made
  generalize hp : pD T is.length listed = p at *
  have pI : ∀ {b}, p b = true ↔ b < (T 0).length ∨ ∃ k, k < is.length ∧ listed.getD k false = true ∧ (T k).length ≤ b ∧ b < (T (k + 1)).length := by
    intro b; rw [← hp]; exact pD_iff
  have allE : ∀ (x : Nat) (v : AV), cur[x]? = some v → v.all p = true := by rw [← hp]; exact hm.allE
  have allM : HAll p M := by rw [← hp]; exact hm.allM
  have fpd : ∀ k, k < is.length → listed.getD k false = true → ∀ b, b ∈ (F k).1 ∨ b ∈ (F k).2 → p b = true := by rw [← hp]; exact hm.fpd
  have pN : ∀ {b}, p b = true → b < M.length := by
    intro b hb
    rw [hm.hl]
    rcases pI.1 hb with h | ⟨k, h1, _, _, h2⟩
    · exact Nat.lt_of_lt_of_le h (hT.mono (Nat.zero_le _) (Nat.le_refl _))
    · exact Nat.lt_of_lt_of_le h2 (hT.mono (by omega) (Nat.le_refl _))
  have pm : ∀ b, p b = true → pD T is.length (listed.setIfInBounds j true) b = true := by
    intro b hb
    refine pD_iff.2 ?_
    rcases pI.1 hb with h | ⟨k, h1, h2, h3⟩
    · exact .inl h
    · exact .inr ⟨k, h1, (set1 k).2 (.inr h2), h3⟩
  have pj : ∀ b, (T j).length ≤ b → b < (T (j + 1)).length → pD T is.length (listed.setIfInBounds j true) b = true := fun b h1 h2 => pD_iff.2 (.inr ⟨j, hjN, (set1 j).2 (.inl rfl), h1, h2⟩)
  have pjn : ∀ b, (T j).length ≤ b → b < (T (j + 1)).length → p b = false := by
    intro b h1 h2
    cases hb : p b with
    | false => rfl
    | true =>
      rcases pI.1 hb with h | ⟨k, h3, h4, h5, h6⟩
      · have := hT.mono (a := 0) (b := j) (Nat.zero_le _) (by omega); omega
      · have := hT.uniq h3 hjN h5 h6 h1 h2
        subst this; rw [hju'] at h4; cases h4
  have aall : ∀ x ∈ i.args.map (Opd.get (E j)), x.all p = true := by
    rw [← hargs]
    intro x hx
    obtain ⟨od, hod, rfl⟩ := List.mem_map.1 hx
    obtain ⟨xo, hxo⟩ := hiop.opd od hod
    exact opd_all hxo hm.hG allE
  have fpb : ∀ k (i' : Ins), is[k]? = some i' → ∀ b, b ∈ (F k).1 ∨ b ∈ (F k).2 → b < (T k).length := by
    intro k i' hi' b hb
    have hk : k < is.length := (List.getElem?_eq_some_iff.1 hi').1
    obtain ⟨x, hx, hbx⟩ := fpS_top (hT.fp k i' hi') hb
    obtain ⟨slk, dk, _, hAk, _⟩ := hat k ops[k] i' (Array.getElem?_eq_getElem (by omega)) hi'
    obtain ⟨od, hod, rfl⟩ := List.mem_map.1 hx
    obtain ⟨xo, hxo⟩ := hAk.iop.opd od hod
    exact topB_bnd (opd_bnd hxo hm.hG ((hT.hb k (by omega)).2)) hbx
  have fpp : ∀ b, b ∈ (F j).1 ∨ b ∈ (F j).2 → p b = true := by
    intro b hb
    obtain ⟨x, hx, hbx⟩ := fpS_top (hT.fp j i hi) hb
    exact topB_all (aall x hx) hbx
  -- which of a block's writers were done
  have hC : ∀ b, b ∈ (F j).1 ∨ b ∈ (F j).2 → ∀ k, k < is.length → k ≠ j → Wr T k b → (listed.getD k false = true ↔ k < j) := by
    intro b hb k hk hkj hw
    have hik : is[k]? = some is[k] := List.getElem?_eq_getElem hk
    generalize is[k] = ik at hik
    have hkd : i.op.kd = 1 ∨ i.op.kd = 3 := by
      rcases hb with hb | hb
      · exact fpS_kr (hT.fp j i hi) hb
      · exact .inr (fpS_kw (hT.fp j i hi) hb)
    rcases (hT.wr hik).2 b hw with ⟨h1 | h1, h2⟩
    · have h3 : ik.op.kd = 3 := fpS_kw (hT.fp k ik hik) h1
      rcases Nat.lt_or_gt_of_ne hkj with h4 | h4
      · refine ⟨fun _ => h4, fun _ => ?_⟩
        rcases hO.cl k j ik i h4 hik hi (by rcases hkd with h | h <;> simp [clashF, h3, h]) with h5 | ⟨_, _, h5⟩
        · exact bef k h5
        · exact absurd h1 (fun h1 => by
            have := (hT.ap k j hk hjN h5).1 b h1
            rcases hb with hb | hb
            · exact this.1 hb
            · exact this.2 hb)
      · refine ⟨fun hdn => ?_, fun h => by omega⟩
        rcases hO.cl j k i ik h4 hi hik (by rcases hkd with h | h <;> simp [clashF, h3, h]) with h5 | ⟨_, _, h5⟩
        · rw [aft k h5] at hdn; cases hdn
        · have := hT.ap j k hjN hk h5
          rcases hb with hb | hb
          · exact absurd h1 (this.2 b hb)
          · exact absurd h1 (this.1 b hb).2
    · rcases Nat.lt_or_gt_of_ne hkj with h4 | h4
      · refine ⟨fun _ => h4, fun _ => ?_⟩
        rcases pI.1 (fpp b hb) with h5 | ⟨k', h5, h6, h7, h8⟩
        · have := hT.mono (a := 0) (b := k) (Nat.zero_le _) (by omega); omega
        · rw [← hT.uniq h5 hk h7 h8 h1.1 h1.2]; exact h6
      · have := fpb j i hi b hb
        have := hT.mono (a := j) (b := k) (by omega) (by omega)
        omega
  have hMf : ∀ b, b ∈ (F j).1 ∨ b ∈ (F j).2 → M.get b = (T j).get b := fun b hb => clk_eq hjN hju' (hm.clk b) (hC b hb)
  have clkB : ∀ {M' : Heap} (b : Nat), M'.get b = M.get b → ¬ Wr T j b → ∃ m, m ≤ is.length ∧ M'.get b = (T m).get b ∧ ∀ k, k < is.length → Wr T k b → ((listed.setIfInBounds j true).getD k false = true ↔ k < m) := by
    intro M' b h1 h2
    obtain ⟨m, h3, h4, h5⟩ := hm.clk b
    refine ⟨m, h3, h1.trans h4, fun k hk hw => ?_⟩
    rw [set1 k, ← h5 k hk hw]
    constructor
    · rintro (rfl | h)
      · exact absurd hw h2
      · exact h
    · exact .inr
  have clkA : ∀ {M' : Heap} (b : Nat), M'.get b = (T (j + 1)).get b → (∀ k, k < is.length → k ≠ j → Wr T k b → (listed.getD k false = true ↔ k < j)) → ∃ m, m ≤ is.length ∧ M'.get b = (T m).get b ∧ ∀ k, k < is.length → Wr T k b → ((listed.setIfInBounds j true).getD k false = true ↔ k < m) := by
    intro M' b h1 h2
    refine ⟨j + 1, by omega, h1, fun k hk hw => ?_⟩
    rw [set1 k]
    by_cases hkj : k = j
    · subst hkj; simp
    · rw [h2 k hk hkj hw]
      constructor
      · rintro (h | h)
        · exact absurd h hkj
        · omega
      · intro h; exact .inr (by omega)
  -- what is done then
  have next : ∀ (u : Value) (w' : World) (loc' : Loc) (M' : Heap), M'.length = M.length → RepV w' loc' M'.length u (V j) → EnvOk w' loc' M'.length SL a.tmps cur → HeapInv w' loc' M' → (V j).all (pD T is.length (listed.setIfInBounds j true)) = true → HAll (pD T is.length (listed.setIfInBounds j true)) M' →
      (∀ b, ∃ m, m ≤ is.length ∧ M'.get b = (T m).get b ∧ ∀ k, k < is.length → Wr T k b → ((listed.setIfInBounds j true).getD k false = true ↔ k < m)) → GlobOk G w' loc' → Ext w0 loc0 (T 0).length w' loc' → Kn (a.put o.dst u) w' := by
    intro u w' loc' M' hl hru he hI' hv hM hck hG' hE'
    obtain ⟨p1, p2, p3⟩ := he.put hdd hlt hru
    rw [hput] at p1
    have hcl : cur.length = SL.length := hm.env.len.symm
    refine hK _ w' loc' (setO cur d (V j)) M' ⟨by simp [hm.sz], cl', p1, ?_, ?_, hl.trans hm.hl, hI', hck, ?_, hM, ?_, hG', hE', p3.trans hm.df, p2.trans hm.ts⟩
    · intro x k hk hlk
      rcases (set1 k).1 hlk with rfl | hlk
      · rw [hd] at hk; cases hk
        obtain ⟨g1, g2⟩ := hfinj x rfl
        rw [g1]
        simp [setO, hcl, g2]
      · have hne : d ≠ some x := by
          intro he
          rw [he] at hd
          have := hO.inj j k x hd hk
          subst this; rw [hlk] at hju'; cases hju'
        rw [← hm.fin x k hk hlk]
        exact setO_get hne
    · intro x hx hno
      have hne : d ≠ some x := by
        intro he
        rw [he] at hd
        have := hno j hd
        rw [(set1 j).2 (.inl rfl)] at this; cases this
      rw [← hm.ini x hx fun k hk => ((set0 k).1 (hno k hk)).2]
      exact setO_get hne
    · intro x v hx
      rcases setO_some hx with rfl | h
      · exact hv
      · exact AV.all_mono pm v (allE x v h)
    · intro k hk hlk b hb
      rcases (set1 k).1 hlk with rfl | hlk
      · exact pm b (fpp b hb)
      · exact pm b (fpd k hk hlk b hb)
  have pmM : HAll (pD T is.length (listed.setIfInBounds j true)) M := fun b blk h => AV.all_mono pm _ (allM b blk h)
  -- memory is left as it is
  have still : T (j + 1) = T j → ∀ (u : Value) (w' : World) (loc' : Loc), RepV w' loc' M.length u (V j) → HeapInv w' loc' M → Ext w loc M.length w' loc' → (V j).all p = true → Kn (a.put o.dst u) w' := by
    intro hTT u w' loc' hru hI' hE hv
    refine next u w' loc' M rfl hru (hm.env.mono hE (Nat.le_refl _)) hI' (AV.all_mono pm _ hv) pmM (fun b => clkB b rfl fun h => h (by rw [hTT])) (hm.hG.mono hE) (hm.ext.trans hE ?_)
    rw [hm.hl]; exact hT.mono (Nat.zero_le _) (Nat.le_refl _)
  -- one block is made
  have made : ∀ (blk : Blk), blk.root.all p = true → T (j + 1) = T j ++ [some blk] → ∀ (v2 : AV), (∀ {w' : World} {loc' loc2 : Loc} {N2 : Nat} {u : Value}, RepV w' loc' (M ++ [some blk]).length u v2 → loc2 (T j).length = loc' M.length → (T j).length < N2 → RepV w' loc2 N2 u (V j)) → (V j).all (fun b => decide (b = (T j).length)) = true →
      stepD P G i cur M v2 (M ++ [some blk]) → o.wp P a w Kn Q := by
    intro blk hroot hTT v2 htr hvj hst
    have hlT : (T (j + 1)).length = (T j).length + 1 := by rw [hTT]; simp
    have hcM : (T j).length < M.length := by
      have := hT.mono (a := j + 1) (b := is.length) (by omega) (Nat.le_refl _)
      rw [hm.hl]; omega
    have h0c : (T 0).length ≤ (T j).length := hT.mono (Nat.zero_le _) (by omega)
    have hWc : Wr T j (T j).length := by
      unfold Wr
      rw [hTT, get_snoc, if_pos rfl, get_out (Nat.le_refl _)]
      simp
    have hno : M.get (T j).length = none := by
      obtain ⟨m, h1, h2, h3⟩ := hm.clk (T j).length
      rw [h2]
      rcases Nat.lt_or_ge j m with h4 | h4
      · have := (h3 j hjN hWc).2 h4
        rw [hju'] at this; cases this
      · exact get_out (hT.mono h4 (by omega))
    have hpc : p (T j).length = false := pjn _ (Nat.le_refl _) (by omega)
    refine stepD_sound (i := i) (h := M) (h' := M ++ [some blk]) (v := v2) hm.hI hm.hG hm.env hiop hst ?_
    intro u w' loc' hru hI' hE' hle'
    have hI2 := hI'.reloc hcM hno hpc (fun b hb => pN hb) allM hroot
    have hls : (M.set (T j).length (some blk)).length = M.length := by simp
    refine next u w' (reloc loc' (T j).length M.length) (M.set (T j).length (some blk)) hls (htr hru (by simp [reloc]) (by rw [hls]; exact hcM)) ?_ hI2 ?_ ?_ ?_ (hm.hG.mono hE').reloc ((hm.ext.trans hE' (by omega)).reloc h0c)
    · have he2 := hm.env.mono hE' (Nat.le_refl _)
      rw [hls]
      exact ⟨he2.len, he2.nd, he2.lt, fun x s v h1 h2 => (he2.rep x s v h1 h2).moveP (reloc_p hpc fun b hb => pN hb) (fun k h => reloc_no h) (allE x v h2)⟩
    · refine AV.all_mono (fun b hb => ?_) _ hvj
      have hb : b = (T j).length := by simpa using hb
      exact pj b (by omega) (by omega)
    · intro b bl hg
      rw [Heap.get_set _ _ _ _ hcM] at hg
      split at hg
      · cases hg; exact AV.all_mono pm _ hroot
      · exact pmM b bl hg
    · intro b
      by_cases hb : b = (T j).length
      · subst hb
        refine clkA _ ?_ ?_
        · rw [Heap.get_set _ _ _ _ hcM, if_pos rfl, hTT, get_snoc, if_pos rfl]
        · intro k hk hkj hw
          have hik : is[k]? = some is[k] := List.getElem?_eq_getElem hk
          generalize is[k] = ik at hik
          rcases (hT.wr hik).2 _ hw with ⟨h1 | h1, h2⟩
          · constructor
            · intro hdn
              have := fpd k hk hdn _ (.inr h1)
              rw [hpc] at this; cases this
            · intro h3
              have := fpb k ik hik _ (.inr h1)
              have := hT.mono (a := k) (b := j) (by omega) (by omega)
              omega
          · have := hT.uniq hk hjN h1.1 h1.2 (Nat.le_refl _) (by omega)
            exact absurd this hkj
      · refine clkB b ?_ ?_
        · rw [Heap.get_set _ _ _ _ hcM, if_neg hb]
        · unfold Wr
          rw [hTT, get_snoc, if_neg hb]
          simp
  -- all of memory is of account
  have total : i.op.kd = 4 → stepD P G i (E j) (T j) (V j) (T (j + 1)) → o.wp P a w Kn Q := by
    intro hk4 hs
    have hCt : ∀ b k, k < is.length → k ≠ j → Wr T k b → (listed.getD k false = true ↔ k < j) := by
      intro b k hk hkj hw
      have hik : is[k]? = some is[k] := List.getElem?_eq_getElem hk
      generalize is[k] = ik at hik
      have h2 := ((hT.wr hik).2 b hw).2
      rcases Nat.lt_or_gt_of_ne hkj with h4 | h4
      · refine ⟨fun _ => h4, fun _ => ?_⟩
        rcases hO.cl k j ik i h4 hik hi (by simp [clashF, hk4]; omega) with h5 | ⟨_, h5, _⟩
        · exact bef k h5
        · exact absurd hk4 h5
      · refine ⟨fun hdn => ?_, fun h => by omega⟩
        rcases hO.cl j k i ik h4 hi hik (by simp [clashF, hk4]; omega) with h5 | ⟨h5, _, _⟩
        · rw [aft k h5] at hdn; cases hdn
        · exact absurd hk4 h5
    have hkb : ∀ k, k < is.length → (T k).length < (T (k + 1)).length → (k < j → listed.getD k false = true) ∧ (j < k → listed.getD k false = false) := by
      intro k hk hlt
      have hik : is[k]? = some is[k] := List.getElem?_eq_getElem hk
      generalize is[k] = ik at hik
      have h2 := (hT.wr hik).1.2 hlt
      constructor
      · intro h4
        rcases hO.cl k j ik i h4 hik hi (by simp [clashF, hk4]; omega) with h5 | ⟨_, h5, _⟩
        · exact bef k h5
        · exact absurd hk4 h5
      · intro h4
        rcases hO.cl j k i ik h4 hi hik (by simp [clashF, hk4]; omega) with h5 | ⟨h5, _, _⟩
        · exact aft k h5
        · exact absurd hk4 h5
    have hMT : ∀ b, M.get b = (T j).get b := fun b => clk_eq hjN hju' (hm.clk b) (hCt b)
    have hlj : (T j).length ≤ M.length := by rw [hm.hl]; exact hT.mono (by omega) (Nat.le_refl _)
    have htake : M.take (T j).length = T j := by
      refine heap_ext (by simp; omega) fun b => ?_
      rcases Nat.lt_or_ge b (T j).length with h | h
      · rw [← hMT b]; unfold Heap.get; rw [List.getElem?_take_of_lt h]
      · rw [get_out (by simp; omega), get_out h]
    have pT : ∀ b, p b = true → b < (T j).length := by
      intro b hb
      rcases pI.1 hb with h | ⟨k, h1, h2, h3, h4⟩
      · exact Nat.lt_of_lt_of_le h (hT.mono (Nat.zero_le _) (by omega))
      · have h5 := hkb k h1 (by omega)
        rcases Nat.lt_trichotomy k j with h6 | h6 | h6
        · have := hT.mono (a := k + 1) (b := j) (by omega) (by omega); omega
        · subst h6; rw [hju'] at h2; cases h2
        · rw [h5.2 h6] at h2; cases h2
    have bndOf : ∀ {v : AV}, v.all p = true → v.bnd (T j).length = true := fun h => by
      rw [bnd_all]; exact AV.all_mono (fun b hb => by simpa using pT b hb) _ h
    have hIj : HeapInv w (trunc loc (T j).length) (T j) := by
      have := hm.hI.take (k := (T j).length) hlj (fun b blk _ h2 => bndOf (allM b blk h2))
      rwa [htake] at this
    have hEj : EnvOk w (trunc loc (T j).length) (T j).length SL a.tmps cur :=
      ⟨hm.env.len, hm.env.nd, hm.env.lt, fun x s v h1 h2 => (hm.env.rep x s v h1 h2).trunc (bndOf (allE x v h2))⟩
    refine stepD_sound (i := i) (h := T j) (h' := T (j + 1)) (v := V j) hIj hm.hG.trunc hEj hiop ?_ ?_
    · unfold stepD at hs ⊢
      rw [hargs]; exact hs
    intro u w' loc' hru hI' hE' hle'
    have hlj1 : (T (j + 1)).length ≤ M.length := by rw [hm.hl]; exact hT.mono (by omega) (Nat.le_refl _)
    have hle : (T (j + 1) ++ List.replicate (M.length - (T (j + 1)).length) (none : Option Blk)).length = M.length := by simp; omega
    have hgp : ∀ b, Heap.get (T (j + 1) ++ List.replicate (M.length - (T (j + 1)).length) (none : Option Blk)) b = (T (j + 1)).get b := by
      intro b
      rcases Nat.lt_or_ge b (T (j + 1)).length with h | h
      · exact Heap.get_append _ _ _ h
      · rw [Heap.get_append_right _ _ _ h, get_out h]
        unfold Heap.get
        rw [List.getElem?_replicate]
        split <;> rfl
    have pC : ∀ b, b < (T (j + 1)).length → pD T is.length (listed.setIfInBounds j true) b = true := by
      intro b hb
      refine pD_iff.2 ?_
      rcases hT.cover (j + 1) b (by omega) hb with h | ⟨k, h1, h2, h3⟩
      · exact .inl h
      · refine .inr ⟨k, by omega, (set1 k).2 ?_, h2, h3⟩
        by_cases hkj : k = j
        · exact .inl hkj
        · exact .inr ((hkb k (by omega) (by omega)).1 (by omega))
    have bndA : ∀ {v : AV}, v.bnd (T (j + 1)).length = true → v.all (pD T is.length (listed.setIfInBounds j true)) = true := fun h => by
      rw [bnd_all] at h; exact AV.all_mono (fun b hb => pC b (by simpa using hb)) _ h
    have hE2 := hE'.untrunc
    refine next u w' loc' (T (j + 1) ++ List.replicate (M.length - (T (j + 1)).length) none) hle ?_ ?_ (hI'.pad _) (bndA hru.bnd) ?_ ?_ ?_ (hm.ext.trans hE2 (hT.mono (Nat.zero_le _) (by omega)))
    · rw [hle]; exact hru.mono (Ext.refl _ _ _) hlj1
    · rw [hle]; exact hEj.mono hE' (by omega)
    · intro b blk hg
      rw [hgp] at hg
      exact bndA (hI'.hbnd b blk (Heap.get_lt hg) hg)
    · exact fun b => clkA b (hgp b) (hCt b)
    · exact hm.hG.mono hE2
  have hgo := hTr.go j i hi
  have hfp := hT.fp j i hi
  have act : stepD P G i (E j) (T j) (V j) (T (j + 1)) → F j = fpO i.op (i.args.map (Opd.get (E j))) → o.wp P a w Kn Q := by
    intro hs hF
    have sound : ∀ (v : AV), stepD P G i cur M v M → v = V j → T (j + 1) = T j → (V j).all p = true → o.wp P a w Kn Q := by
      intro v hst hv hTT hva
      subst hv
      exact stepD_sound (i := i) (h := M) (h' := M) (v := V j) hm.hI hm.hG hm.env hiop hst fun u w' loc' hru hI' hE' _ => still hTT u w' loc' hru hI' hE' hva
    have hown : ∀ (b ver nn : Nat) (e : Shape), (AV.own b ver [] 0 nn e).all (fun x => decide (x = b)) = true := fun b ver nn e => by simp [AV.all]
    obtain ⟨dst, op, args, g⟩ := i
    cases op with
    | q q =>
      simp only [stepD] at hs
      obtain ⟨pr, h1, hpr, h2⟩ := hs
      have h3 : qev M q (args.map (Opd.get (E j))) = qev (T j) q (args.map (Opd.get (E j))) := qev_loc fun b hb => hMf b (.inl (by rw [hF]; exact hb))
      rw [← h3] at h1
      exact sound (V j) ⟨pr, by rw [hargs]; exact h1, hpr, rfl⟩ rfl h2 (qev_all allM aall h1)
    | e e =>
      simp only [stepD] at hs
      obtain ⟨pr, h1, hpr⟩ := hs
      have hz : e.z1.all p = true := by
        have hiop2 := hiop
        generalize o.op = oo at hiop2
        cases hiop2 with
        | e _ _ xs _ hq _ => exact bnd0_all (z1_ok hq)
      have hl : ∀ b, b ∈ (fpO (.e e) (args.map (Opd.get (E j)))).1 ∨ b ∈ (fpO (.e e) (args.map (Opd.get (E j)))).2 → M.get b = (T j).get b := fun b hb => hMf b (by rw [hF]; exact hb)
      have hef := eev_eff h1 hl allM aall hz
      generalize hVj : V j = vj at hef
      generalize hTj : T (j + 1) = tj at hef
      cases hef with
      | mkp blk s hr hev =>
        refine made blk hr hTj (.ptr M.length 0 [0] s) (fun h h1 h2 => by rw [hVj]; exact h.ptr_at h1 h2) (by rw [hVj]; simp [AV.all]) ⟨pr, by rw [hargs]; exact hev, hpr⟩
      | mko blk ver nn s hr hev =>
        refine made blk hr hTj (.own M.length ver [] 0 nn s) (fun h h1 h2 => by rw [hVj]; exact h.own_at h1 h2) (by rw [hVj]; simp [AV.all]) ⟨pr, by rw [hargs]; exact hev, hpr⟩
      | wr b blk0 blk v hb hg hr hva hev =>
        have hgM : M.get b = some blk0 := by rw [hl b (.inr hb)]; exact hg
        have hbM := Heap.get_lt hgM
        have hbT := Heap.get_lt hg
        have hls : (M.set b (some blk)).length = M.length := by simp
        refine stepD_sound (i := ⟨dst, .e e, args, g⟩) (h := M) (h' := M.set b (some blk)) (v := vj) hm.hI hm.hG hm.env hiop ⟨pr, by rw [hargs]; exact hev, hpr⟩ ?_
        intro u w' loc' hru hI' hE' hle'
        refine next u w' loc' (M.set b (some blk)) hls (by rw [hVj]; exact hru) (by rw [hls]; exact hm.env.mono hE' (Nat.le_refl _)) hI' (by rw [hVj]; exact AV.all_mono pm _ hva) ?_ ?_ (hm.hG.mono hE') (hm.ext.trans hE' ?_)
        · intro b' bl hg'
          rw [Heap.get_set _ _ _ _ hbM] at hg'
          split at hg'
          · cases hg'; exact AV.all_mono pm _ hr
          · exact pmM b' bl hg'
        · intro b'
          by_cases hbb : b' = b
          · subst hbb
            refine clkA _ ?_ (hC b' (.inr (by rw [hF]; exact hb)))
            rw [hTj, Heap.get_set _ _ _ _ hbM, Heap.get_set _ _ _ _ hbT, if_pos rfl, if_pos rfl]
          · refine clkB b' ?_ ?_
            · rw [Heap.get_set _ _ _ _ hbM, if_neg hbb]
            · unfold Wr
              rw [hTj, Heap.get_set _ _ _ _ hbT, if_neg hbb]
              simp
        · rw [hm.hl]; exact hT.mono (Nat.zero_le _) (Nat.le_refl _)
      | st v hva hev =>
        exact sound vj ⟨pr, by rw [hargs]; exact hev, hpr⟩ hVj.symm hTj (by rw [hVj]; exact hva)
    | call f => exact total rfl hs
    | callv => exact total rfl hs
    | callp f =>
      simp only [stepD] at hs
      obtain ⟨h1, hb0, hs⟩ := hs
      exact sound (V j) ⟨rfl, hb0, by rw [hargs]; exact hs⟩ rfl h1 (bnd0_all hb0)
    | nilq neg => simp only [stepD] at hs
    | callm f =>
      simp only [stepD] at hs
      obtain ⟨ver, nn, e, blk, hV, hTT, hb0, hs⟩ := hs
      exact made blk (bnd0_all hb0) hTT (.own M.length ver [] 0 nn e) (fun h h1 h2 => by rw [hV]; exact h.own_at h1 h2) (by rw [hV]; simp [AV.all]) ⟨ver, nn, e, blk, rfl, rfl, hb0, by rw [hargs]; exact hs⟩
    | callw f => exact total rfl hs
    | pairs ps => simp only [stepD] at hs
  have skip : V j = .tup [] → T (j + 1) = T j → Kn (a.put o.dst undef) w := by
    intro hv hTT
    exact still hTT undef w loc (by rw [hv]; exact .tup [] [] rfl (by simp)) hm.hI (Ext.refl _ _ _) (by rw [hv]; simp [AV.all, AV.alls])
  unfold goD at hgo
  unfold fpS at hfp
  rcases hA.gd with ⟨hg, hig⟩ | ⟨j0, k, s, want, oj, hg, hig, hoj, hojd, hk, hkl⟩
  · unfold wpOp
    simp only [ho]
    rw [if_pos (by simp [Region.wanted, hg])]
    simp only [hig] at hgo hfp
    exact .inl (act hgo hfp)
  · unfold wpOp
    simp only [ho]
    simp only [hig] at hgo hfp
    have hck : cur[k]? = (E j)[k]? := hrd k (by simp [Ins.reads, hig]) hkl
    have hkc : k < cur.length := by rw [← hm.env.len]; exact (List.getElem?_eq_some_iff.1 hk).1
    have hgk : cur[k]? = some cur[k] := List.getElem?_eq_getElem hkc
    have hgd : (E j).getD k .un = cur[k] := by rw [List.getD_eq_getElem?_getD, ← hck, hgk]; rfl
    have hrep := hm.env.rep k s cur[k] hk hgk
    have hsl' : s < a.tmps.size := hm.env.lt s (List.mem_of_getElem? hk)
    have hty : a.tmps[s]? = some (a.tmps.getD s undef) := by simp [Array.getD_eq_getD_getElem?, hsl']
    rw [hgd] at hgo hfp
    have hbv : ∀ b, cur[k] = .bool b → yielded ops a.tmps j0 = some b := by
      intro b hb
      rw [hb] at hrep
      have hv := (hrep.rep rfl).bool_inv
      simp at hv
      have h5 : a.tmps[s]? = some (.bool b) := by
        rw [hty]; congr 1; simpa [Array.getD_eq_getD_getElem?] using hv
      simp [yielded, hoj, hojd, h5]
    rcases hgo with ⟨hb, hs⟩ | ⟨hb | hb, hv, hTT⟩
    · rw [if_pos (by simp [Region.wanted, hg, hbv _ hb])]
      refine .inl (act hs ?_)
      rcases hfp with ⟨_, h⟩ | ⟨h1, _⟩
      · exact h
      · rw [hb] at h1
        rcases h1 with h1 | h1
        · cases want <;> cases h1
        · cases h1
    · rw [if_neg (by simp [Region.wanted, hg, hbv _ hb])]
      exact skip hv hTT
    · have hv2 : a.tmps.getD s undef = .tuple #[] := by
        rw [hb] at hrep
        cases hx : a.tmps.getD s undef <;> rw [hx] at hrep <;> cases hrep
        · rename_i hc _; simp [AV.isCell] at hc
        all_goals first | (rename_i hc _; simp [AV.isCell] at hc; done) | skip
        rename_i vs hl _
        have : vs = [] := List.eq_nil_of_length_eq_zero (by simpa using hl)
        subst this; rfl
      have hy : yielded ops a.tmps j0 = none := by
        have h5 : a.tmps[s]? = some (.tuple #[]) := by rw [hty, hv2]
        simp [yielded, hoj, hojd, h5]
      rw [if_neg (by simp [Region.wanted, hg, hy])]
      exact skip hv hTT

theorem countF_zero {l : List Bool} (h : l.count false = 0) : ∀ (k : Nat), k < l.length → l[k]? = some true := by
  intro k hk
  have h1 : l[k]? = some l[k] := List.getElem?_eq_getElem hk
  cases hb : l[k] with
  | true => rw [h1, hb]
  | false =>
    have : false ∈ l := hb ▸ List.getElem_mem hk
    have := List.count_pos_iff.2 this
    omega

theorem MidF.any {a0 : Act} {w0 : World} {loc0 : Loc} {Q : Exit → Act → World → Prop} (hO : OrderedF ops n0 is ps) (hT : TrF P G n0 is ps E T V F) (hil : ops.size = is.length) (hsl0 : SL.length = (E is.length).length)
    (hat : ∀ (j : Nat) (o : Oper) (i : Ins), ops[j]? = some o → is[j]? = some i → ∃ slj d, (dix n0 is)[j]? = some d ∧ AtOk P G n ops SL o i slj d ∧ slj.length = n0 + cntN is j)
    (hQ : ∀ (a : Act) (w : World) (loc : Loc), EnvOk w loc (T is.length).length SL a.tmps (E is.length) → HeapInv w loc (T is.length) → Ext w0 loc0 (T 0).length w loc → (T 0).length ≤ (T is.length).length → a.defers = a0.defers → a.tmps.size = n → Q .normal a w) :
    ∀ (fuel : Nat) (listed : Array Bool) (a : Act) (w : World) (loc : Loc) (cur : List AV) (M : Heap), listed.toList.count false ≤ fuel → MidF P G n n0 ops is E T F SL a0 w0 loc0 listed a w loc cur M → wpAny P .any ops Q fuel listed a w := by
  have hTr := hT.tr
  have fin : ∀ (listed : Array Bool) (a : Act) (w : World) (loc : Loc) (cur : List AV) (M : Heap), MidF P G n n0 ops is E T F SL a0 w0 loc0 listed a w loc cur M → (∀ k, k < ops.size → listed.getD k false = true) → Q .normal a w := by
    intro listed a w loc cur M hm hall
    have hM : M = T is.length := by
      refine heap_ext hm.hl fun b => ?_
      obtain ⟨m, h1, h2, h3⟩ := hm.clk b
      rw [h2]
      have := T_const (T := T) (b := b) (is.length - m) m fun k h4 h5 hw => by
        have := (h3 k (by omega) hw).1 (hall k (by omega))
        omega
      rw [show m + (is.length - m) = is.length by omega] at this
      exact this.symm
    subst hM
    have hcur : cur = E is.length := by
      apply List.ext_getElem?
      intro x
      rcases Nat.lt_or_ge x (E is.length).length with hx | hx
      · by_cases hw : ∃ j : Nat, (dix n0 is)[j]? = some (some x)
        · obtain ⟨j, hj⟩ := hw
          have : j < is.length := by have := (List.getElem?_eq_some_iff.1 hj).1; rwa [dix_length] at this
          exact hm.fin x j hj (hall j (by omega))
        · have hx0 : x < n0 := by
            rcases Nat.lt_or_ge x n0 with h | h
            · exact h
            · obtain ⟨k, _, h2⟩ := hTr.writer (j := is.length) (Nat.le_refl _) hx h
              exact absurd ⟨k, h2⟩ hw
          rw [hm.ini x hx0 fun j hj => absurd ⟨j, hj⟩ hw]
          exact (hTr.keep (a := 0) (b := is.length) (Nat.zero_le _) (Nat.le_refl _) (by rw [hTr.l0]; exact hx0) fun q _ _ he => hw ⟨q, he⟩).symm
      · have : cur.length ≤ x := by rw [← hm.env.len, hsl0]; exact hx
        rw [List.getElem?_eq_none this, List.getElem?_eq_none hx]
    subst hcur
    exact hQ a w loc hm.env hm.hI hm.ext (hT.mono (Nat.zero_le _) (Nat.le_refl _)) hm.df hm.ts
  have done : ∀ (listed : Array Bool) (a : Act) (w : World) (loc : Loc) (cur : List AV) (M : Heap), MidF P G n n0 ops is E T F SL a0 w0 loc0 listed a w loc cur M → Region.ready .any ops listed = [] → ∀ k, k < ops.size → listed.getD k false = true := by
    intro listed a w loc cur M hm hr k
    induction k using Nat.strongRecOn with
    | _ k ih =>
      intro hk
      cases hlk : listed.getD k false with
      | true => rfl
      | false =>
        exfalso
        have ho : ops[k]? = some ops[k] := Array.getElem?_eq_getElem hk
        have : k ∈ Region.ready .any ops listed := by
          refine mem_ready.2 ⟨?_, ops[k], ho, fun e he hb => ?_⟩
          · have hks : k < listed.size := by rw [hm.sz]; exact hk
            simp [Array.getD_eq_getD_getElem?, hks] at hlk ⊢; exact hlk
          · have hlt := hO.back k _ ho e he hb
            exact ih e.on hlt (by omega)
        rw [hr] at this; cases this
  intro fuel
  induction fuel with
  | zero =>
    intro listed a w loc cur M hc hm
    have hall : ∀ k, k < ops.size → listed.getD k false = true := by
      intro k hk
      have := countF_zero (by omega : listed.toList.count false = 0) k (by simp [hm.sz, hk])
      simp only [Array.getElem?_toList] at this
      simp [Array.getD_eq_getD_getElem?, this]
    refine ⟨?_, fin listed a w loc cur M hm hall⟩
    rw [List.eq_nil_iff_forall_not_mem]
    intro k hk
    obtain ⟨h1, o, ho, _⟩ := mem_ready.1 hk
    have hks : k < ops.size := (Array.getElem?_eq_some_iff.1 ho).1
    have h2 := hall k hks
    have hks' : k < listed.size := by rw [hm.sz]; exact hks
    simp [Array.getD_eq_getD_getElem?, hks'] at h1 h2
    rw [h1] at h2; cases h2
  | succ fuel ih =>
    intro listed a w loc cur M hc hm
    refine ⟨fun hr => fin listed a w loc cur M hm (done listed a w loc cur M hm hr), fun i hi => ?_⟩
    refine hm.step hO hT hil hsl0 hat hi fun a' w' loc' cur' M' hm' => ih _ a' w' loc' cur' M' ?_ hm'
    obtain ⟨h1, o, ho, _⟩ := mem_ready.1 hi
    have hks : i < listed.size := by rw [hm.sz]; exact (Array.getElem?_eq_some_iff.1 ho).1
    have h2 : listed.toList[i]? = some false := by
      simp only [Array.getElem?_toList]
      simp [Array.getD_eq_getD_getElem?, hks] at h1 ⊢; exact h1
    have := cnt_set h2
    rw [Array.toList_setIfInBounds]
    omega

end
end Go.V
