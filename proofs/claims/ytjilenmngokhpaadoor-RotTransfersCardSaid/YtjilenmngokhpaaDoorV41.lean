import Derived.Test.YtjilenmngokhpaaDoorV40
/- Regions that draw their order: memory with holes. -/
set_option linter.unusedVariables false
set_option linter.unusedSimpArgs false
namespace Go.V
open Go

mutual
theorem AV.all_true : ∀ (a : AV), a.all (fun _ => true) = true
  | .agg ps => by simp only [AV.all]; exact AV.alls_true ps
  | .tup ps => by simp only [AV.all]; exact AV.alls_true ps
  | .ro _ xs => by simp only [AV.all]; exact AV.alls_true xs
  | .rp _ a => by simp only [AV.all]; exact AV.all_true a
  | .own b _ _ _ _ _ => by simp [AV.all]
  | .ptr b _ _ _ => by simp [AV.all]
  | .fn _ cap => by simp only [AV.all]; exact AV.alls_true cap
  | .bool _ => by simp [AV.all]
  | .u8 _ => by simp [AV.all]
  | .u16 _ => by simp [AV.all]
  | .u32 _ => by simp [AV.all]
  | .u64 _ => by simp [AV.all]
  | .int _ => by simp [AV.all]
  | .str _ => by simp [AV.all]
  | .nilp => by simp [AV.all]
  | .nils => by simp [AV.all]
  | .nilf => by simp [AV.all]
  | .un => by simp [AV.all]
theorem AV.alls_true : ∀ (l : List AV), AV.alls (fun _ => true) l = true
  | [] => by simp [AV.alls]
  | a :: l => by simp only [AV.alls, AV.all_true a, AV.alls_true l, Bool.and_self]
end

theorem get_snoc {H : Heap} {x : Option Blk} {b : Nat} : Heap.get (H ++ [x]) b = if b = H.length then x else H.get b := by
  rcases Nat.lt_trichotomy b H.length with h | h | h
  · rw [Heap.get_append _ _ _ h, if_neg (by omega)]
  · subst h; rw [Heap.get_append_right _ _ _ (Nat.le_refl _), if_pos rfl]; simp [Heap.get]
  · rw [Heap.get_append_right _ _ _ (by omega), if_neg (by omega)]
    unfold Heap.get
    rw [List.getElem?_eq_none (by simp; omega), List.getElem?_eq_none (by omega)]
theorem get_out {H : Heap} {b : Nat} (h : H.length ≤ b) : H.get b = none := by
  unfold Heap.get; rw [List.getElem?_eq_none h]; rfl

theorem fpO_kr {o : Iop} {as : List AV} {b : Nat} (h : b ∈ (fpO o as).1) : o.kd = 1 ∨ o.kd = 3 := by
  unfold fpO at h
  split at h <;> simp_all [Iop.kd]
theorem fpO_kw {o : Iop} {as : List AV} {b : Nat} (h : b ∈ (fpO o as).2) : o.kd = 3 := by
  unfold fpO at h
  split at h <;> simp_all [Iop.kd]
theorem fpO_top {o : Iop} {as : List AV} {b : Nat} (h : b ∈ (fpO o as).1 ∨ b ∈ (fpO o as).2) : ∃ a ∈ as, b ∈ topB a := by
  unfold fpO at h
  split at h <;> simp at h
  · exact ⟨_, by simp, h⟩
  · exact ⟨_, by simp, h⟩
  · exact ⟨_, by simp, h⟩
  · rcases h with h | h <;> exact ⟨_, by simp, h⟩
  · exact ⟨_, by simp, h⟩
  · rcases h with h | h <;> exact ⟨_, by simp, h⟩
  · exact ⟨_, by simp, h⟩
theorem topB_all {p : Nat → Bool} {a : AV} {b : Nat} (ha : a.all p = true) (h : b ∈ topB a) : p b = true := by
  cases a <;> simp only [topB, List.not_mem_nil, List.mem_singleton] at h
  · subst h; simpa [AV.all] using ha
  · subst h; simpa [AV.all] using ha
theorem topB_bnd {n : Nat} {a : AV} {b : Nat} (ha : a.bnd n = true) (h : b ∈ topB a) : b < n := by
  rw [bnd_all] at ha
  simpa using topB_all ha h

section
variable {P : Program} {G : Globs}

theorem stepD_wr {i : Ins} {env : List AV} {h h' : Heap} {v : AV} (hs : stepD P G i env h v h') (hw : i.op.isW = false) : (h.length ≤ h'.length ∧ (h.length < h'.length → 2 ≤ i.op.kd)) ∧ ∀ b, h.get b ≠ h'.get b → (b ∈ (fpO i.op (i.args.map (Opd.get env))).2 ∨ (h.length ≤ b ∧ b < h'.length)) ∧ 2 ≤ i.op.kd := by
  have app : ∀ (l : List (Option Blk)) b, h.get b ≠ Heap.get (h ++ l) b → h.length ≤ b ∧ b < (h ++ l).length := by
    intro l b hb
    rcases Nat.lt_or_ge b h.length with h1 | h1
    · exact absurd (Heap.get_append _ _ _ h1).symm hb
    · refine ⟨h1, ?_⟩
      rcases Nat.lt_or_ge b (h ++ l).length with h2 | h2
      · exact h2
      · rw [get_out h1, get_out h2] at hb; exact absurd rfl hb
  obtain ⟨dst, op, args, g⟩ := i
  cases op with
  | q q =>
    simp only [stepD] at hs
    obtain ⟨p, _, _, rfl⟩ := hs
    exact ⟨⟨Nat.le_refl _, fun h => absurd h (Nat.lt_irrefl _)⟩, fun b hb => absurd rfl hb⟩
  | e e =>
    simp only [stepD] at hs
    obtain ⟨p, hev, hp⟩ := hs
    have := eev_eff (p := fun _ => true) (M := h) hev (fun b _ => rfl) (fun b blk _ => AV.all_true _) (fun a _ => AV.all_true _) (AV.all_true _)
    have kmk : ∀ {s : AV} {x : Heap}, eev h e (args.map (Opd.get env)) = some (p, s, h ++ x) → x ≠ [] → 2 ≤ (Iop.e e).kd := by
      intro s x hx hne
      cases e <;> simp [Iop.kd]
      rename_i s0 z0 ix
      have h1 := (bld_free hx).1
      have h2 := congrArg List.length h1
      simp at h2
      exact hne h2
    cases this with
    | mkp blk s h1 h2 => exact ⟨⟨by simp, fun _ => kmk hev (by simp)⟩, fun b hb => ⟨.inr (app _ b hb), kmk hev (by simp)⟩⟩
    | mko blk ver n s h1 h2 => exact ⟨⟨by simp, fun _ => kmk hev (by simp)⟩, fun b hb => ⟨.inr (app _ b hb), kmk hev (by simp)⟩⟩
    | wr b0 blk0 blk v hb0 h1 h2 h3 h4 =>
      refine ⟨⟨by simp, fun h => by simp at h⟩, fun b hb => ?_⟩
      have hlt := Heap.get_lt h1
      rw [Heap.get_set _ _ _ _ hlt] at hb
      split at hb
      · rename_i hbb; subst hbb
        exact ⟨.inl hb0, by rw [fpO_kw hb0]; omega⟩
      · exact absurd rfl hb
    | st v h1 h2 => exact ⟨⟨Nat.le_refl _, fun h => absurd h (Nat.lt_irrefl _)⟩, fun b hb => absurd rfl hb⟩
  | call f =>
    simp only [stepD] at hs
    obtain ⟨⟨l, rfl⟩, _⟩ := hs
    exact ⟨⟨by simp, fun _ => by simp [Iop.kd]⟩, fun b hb => ⟨.inr (app _ b hb), by simp [Iop.kd]⟩⟩
  | callv =>
    simp only [stepD] at hs
    obtain ⟨⟨l, rfl⟩, _⟩ := hs
    exact ⟨⟨by simp, fun _ => by simp [Iop.kd]⟩, fun b hb => ⟨.inr (app _ b hb), by simp [Iop.kd]⟩⟩
  | callp f =>
    simp only [stepD] at hs
    obtain ⟨rfl, _⟩ := hs
    exact ⟨⟨Nat.le_refl _, fun h => absurd h (Nat.lt_irrefl _)⟩, fun b hb => absurd rfl hb⟩
  | nilq neg => simp only [stepD] at hs
  | callm f =>
    simp only [stepD] at hs
    obtain ⟨ver, n, e, blk, _, rfl, _⟩ := hs
    exact ⟨⟨by simp, fun _ => by simp [Iop.kd]⟩, fun b hb => ⟨.inr (app _ b hb), by simp [Iop.kd]⟩⟩
  | callw f => simp [Iop.isW] at hw
  | pairs ps => simp only [stepD] at hs

/-! A block is moved into a hole -/

def reloc (loc : Loc) (c m : Nat) : Loc := fun b => if b = c then loc m else if b < m then loc b else none

theorem Rep.moveP {w : World} {loc loc' : Loc} {N N' : Nat} {p : Nat → Bool} (hp : ∀ b, p b = true → loc' b = loc b ∧ b < N') (hno : ∀ k, NotOwn loc k → NotOwn loc' k) {cs : List Value} {a : AV} (h : Rep w loc N cs a) : a.all p = true → Rep w loc' N' cs a := by
  induction h with
  | agg cs ds a ps _ _ ih1 ih2 =>
    intro hb
    simp only [AV.all, AV.alls, Bool.and_eq_true] at hb
    exact .agg _ _ _ _ (ih1 hb.1) (ih2 (by simpa [AV.all] using hb.2))
  | ro0 a cap e => intro _; exact .ro0 a cap e
  | ro k' o n cap c t fr e xs cs hk hn ht _ hl hc hm hs ih =>
    intro hb
    exact .ro k' o n cap c t fr e xs cs hk (hno _ hn) ht (ih (by simpa [AV.all] using hb)) hl hc hm hs
  | rp k' o c t fr s a cs hk hn ht _ hs ih =>
    intro hb
    exact .rp k' o c t fr s a cs hk (hno _ hn) ht (ih (by simpa [AV.all] using hb)) hs
  | own b ver pa off n e ad cap _ hv hc h1 hm ho =>
    intro hb
    obtain ⟨h2, h3⟩ := hp b (by simpa [AV.all] using hb)
    exact .own b ver pa off n e ad cap h3 (fun l hl => hv l (by rw [← h2]; exact hl)) hc h1 hm (fun l hl => ho l (by rw [← h2]; exact hl))
  | ptr b ver pa s k' o _ hv ho =>
    intro hb
    obtain ⟨h2, h3⟩ := hp b (by simpa [AV.all] using hb)
    exact .ptr b ver pa s k' o h3 (fun l hl => hv l (by rw [← h2]; exact hl)) (fun l hl => ho l (by rw [← h2]; exact hl))
  | fn f cap vs hl hc _ ih => intro hb; exact .fn f cap vs hl hc (ih (by simpa [AV.all] using hb))
  | bool b => intro _; exact .bool b
  | u8 x => intro _; exact .u8 x
  | u16 x => intro _; exact .u16 x
  | u32 x => intro _; exact .u32 x
  | u64 x => intro _; exact .u64 x
  | int x h => intro _; exact .int x h
  | str s l h h' => intro _; exact .str s l h h'
  | nilp => intro _; exact .nilp
  | nils => intro _; exact .nils
  | nilf => intro _; exact .nilf
  | agg0 => intro _; exact .agg0

theorem RepV.moveP {w : World} {loc loc' : Loc} {N N' : Nat} {p : Nat → Bool} (hp : ∀ b, p b = true → loc' b = loc b ∧ b < N') (hno : ∀ k, NotOwn loc k → NotOwn loc' k) {v : Value} {a : AV} (h : RepV w loc N v a) : a.all p = true → RepV w loc' N' v a := by
  induction h with
  | un v => intro _; exact .un v
  | cell v a ha h => intro hb; exact .cell v a ha (h.moveP hp hno hb)
  | agg cs ps h => intro hb; exact .agg cs ps (h.moveP hp hno hb)
  | tup vs ps hl _ ih =>
    intro hb
    refine .tup vs ps hl fun i v p' h1 h2 => ih i v p' h1 h2 ?_
    simp only [AV.all, alls_iff] at hb
    exact hb p' (List.mem_of_getElem? h2)

theorem reloc_no {loc : Loc} {c m k : Nat} (h : NotOwn loc k) : NotOwn (reloc loc c m) k := by
  intro b l hl
  unfold reloc at hl
  split at hl
  · exact h _ l hl
  · split at hl
    · exact h _ l hl
    · cases hl
theorem reloc_p {loc : Loc} {c m : Nat} {p : Nat → Bool} (hpc : p c = false) (hpm : ∀ b, p b = true → b < m) : ∀ b, p b = true → reloc loc c m b = loc b ∧ b < m := by
  intro b hb
  have h1 := hpm b hb
  refine ⟨?_, h1⟩
  unfold reloc
  rw [if_neg (fun e => by subst e; rw [hpc] at hb; cases hb), if_pos h1]

theorem HeapInv.reloc {w : World} {loc : Loc} {M : Heap} {blk : Blk} {c : Nat} {p : Nat → Bool} (hI : HeapInv w loc (M ++ [some blk])) (hc : c < M.length) (hn : M.get c = none) (hpc : p c = false) (hpm : ∀ b, p b = true → b < M.length) (hM : HAll p M) (hb : blk.root.all p = true) :
    HeapInv w (reloc loc c M.length) (M.set c (some blk)) := by
  have mv : ∀ {l : Lc} {blk' : Blk}, BlkOk w loc (M ++ [some blk]).length l blk' → blk'.root.all p = true → BlkOk w (Go.V.reloc loc c M.length) (M.set c (some blk)).length l blk' := by
    intro l blk' h hr
    obtain ⟨h1, h2, h3, h4⟩ := h
    refine ⟨h1, h2, h3, ?_⟩
    cases hw : l.wb with
    | none => rw [hw] at h4; exact h4
    | some k =>
      rw [hw] at h4
      obtain ⟨cc, fr, cs, g1, g2, g3, g4⟩ := h4
      rw [List.length_set]
      exact ⟨cc, fr, cs, g1, g2, g3.moveP (reloc_p hpc hpm) (fun k h => reloc_no h) hr, g4⟩
  refine ⟨?_, ?_, ?_⟩
  · intro b hg
    rw [Heap.get_set _ _ _ _ hc] at hg
    unfold Go.V.reloc
    split at hg
    · cases hg
    · rename_i hbc
      rw [if_neg hbc]
      split
      · rename_i hbm
        exact hI.out b (by rw [get_snoc, if_neg (by omega)]; exact hg)
      · rfl
  · intro b blk' hg
    rw [Heap.get_set _ _ _ _ hc] at hg
    unfold Go.V.reloc
    split at hg
    · rename_i hbc
      cases hg
      obtain ⟨l, h1, h2⟩ := hI.blk M.length blk (by rw [get_snoc, if_pos rfl])
      rw [if_pos hbc]
      exact ⟨l, h1, mv h2 hb⟩
    · rename_i hbc
      have hbm := Heap.get_lt hg
      obtain ⟨l, h1, h2⟩ := hI.blk b blk' (by rw [get_snoc, if_neg (by omega)]; exact hg)
      rw [if_neg hbc, if_pos hbm]
      exact ⟨l, h1, mv h2 (hM b blk' hg)⟩
  · intro b b' l l' k h1 h2 h3 h4
    unfold Go.V.reloc at h1 h2
    split at h1 <;> split at h2
    · omega
    · split at h2
      · have := hI.inj _ _ l l' k h1 h2 h3 h4; omega
      · cases h2
    · split at h1
      · have := hI.inj _ _ l l' k h1 h2 h3 h4; omega
      · cases h1
    · split at h1
      · split at h2
        · exact hI.inj _ _ l l' k h1 h2 h3 h4
        · cases h2
      · cases h1

theorem Ext.reloc {w0 w : World} {loc0 loc : Loc} {N c m : Nat} (h : Ext w0 loc0 N w loc) (hc : N ≤ c) : Ext w0 loc0 N w (reloc loc c m) := by
  refine ⟨h.os, h.tape, h.output, h.size, h.block, ?_, ?_⟩
  · intro b l hl
    unfold Go.V.reloc at hl
    split at hl
    · exact .inl (by omega)
    · split at hl
      · exact h.lc b l hl
      · cases hl
  · intro b l k hl hk
    unfold Go.V.reloc at hl
    split at hl
    · exact h.wb _ l k hl hk
    · split at hl
      · exact h.wb b l k hl hk
      · cases hl

theorem GlobOk.reloc {w : World} {loc : Loc} {c m : Nat} (h : GlobOk G w loc) : GlobOk G w (reloc loc c m) := by
  intro g s a hm
  exact (h g s a hm).moveP (p := fun _ => false) (fun b hb => by cases hb) (fun k h => reloc_no h) (bnd0_all (h g s a hm).bnd)

theorem HeapInv.pad {w : World} {loc : Loc} {H : Heap} (hI : HeapInv w loc H) (q : Nat) : HeapInv w loc (H ++ List.replicate q none) := by
  have hg : ∀ b, Heap.get (H ++ List.replicate q none) b = H.get b := by
    intro b
    rcases Nat.lt_or_ge b H.length with h | h
    · exact Heap.get_append _ _ _ h
    · rw [Heap.get_append_right _ _ _ h, get_out h]
      unfold Heap.get
      rw [List.getElem?_replicate]
      split <;> rfl
  refine ⟨fun b h => hI.out b (by rw [← hg]; exact h), fun b blk h => ?_, hI.inj⟩
  obtain ⟨l, h1, h2⟩ := hI.blk b blk (by rw [← hg]; exact h)
  exact ⟨l, h1, h2.mono (Ext.refl w loc H.length) (by simp) (fun _ _ => rfl)⟩

theorem heap_ext {A B : Heap} (hl : A.length = B.length) (h : ∀ b, A.get b = B.get b) : A = B := by
  apply List.ext_getElem hl
  intro i h1 h2
  have := h i
  unfold Heap.get at this
  rw [List.getElem?_eq_getElem h1, List.getElem?_eq_getElem h2] at this
  exact this
end
end Go.V
