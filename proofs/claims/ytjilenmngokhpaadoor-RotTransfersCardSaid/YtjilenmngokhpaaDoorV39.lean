import Derived.Test.YtjilenmngokhpaaDoorV27
/- Which blocks values name; what operations read and write of memory. -/
set_option linter.unusedVariables false
set_option linter.unusedSimpArgs false
namespace Go.V
open Go

/-! The blocks that a value names -/
mutual
def AV.all (p : Nat → Bool) : AV → Bool
  | .agg ps => AV.alls p ps
  | .tup ps => AV.alls p ps
  | .ro _ xs => AV.alls p xs
  | .rp _ a => AV.all p a
  | .own b _ _ _ _ _ => p b
  | .ptr b _ _ _ => p b
  | .fn _ cap => AV.alls p cap
  | _ => true
def AV.alls (p : Nat → Bool) : List AV → Bool
  | [] => true
  | a :: l => AV.all p a && AV.alls p l
end

theorem alls_iff {p : Nat → Bool} : ∀ {l : List AV}, AV.alls p l = true ↔ ∀ a ∈ l, a.all p = true
  | [] => by simp [AV.alls]
  | a :: l => by simp [AV.alls, alls_iff (l := l)]

mutual
theorem AV.all_mono {p q : Nat → Bool} (h : ∀ b, p b = true → q b = true) : ∀ (a : AV), a.all p = true → a.all q = true
  | .agg ps, hb => by simp only [AV.all] at hb ⊢; exact AV.alls_mono h ps hb
  | .tup ps, hb => by simp only [AV.all] at hb ⊢; exact AV.alls_mono h ps hb
  | .ro _ xs, hb => by simp only [AV.all] at hb ⊢; exact AV.alls_mono h xs hb
  | .rp _ a, hb => by simp only [AV.all] at hb ⊢; exact AV.all_mono h a hb
  | .own b _ _ _ _ _, hb => by simp only [AV.all] at hb ⊢; exact h b hb
  | .ptr b _ _ _, hb => by simp only [AV.all] at hb ⊢; exact h b hb
  | .fn _ cap, hb => by simp only [AV.all] at hb ⊢; exact AV.alls_mono h cap hb
  | .bool _, _ => by simp [AV.all]
  | .u8 _, _ => by simp [AV.all]
  | .u16 _, _ => by simp [AV.all]
  | .u32 _, _ => by simp [AV.all]
  | .u64 _, _ => by simp [AV.all]
  | .int _, _ => by simp [AV.all]
  | .str _, _ => by simp [AV.all]
  | .nilp, _ => by simp [AV.all]
  | .nils, _ => by simp [AV.all]
  | .nilf, _ => by simp [AV.all]
  | .un, _ => by simp [AV.all]
theorem AV.alls_mono {p q : Nat → Bool} (h : ∀ b, p b = true → q b = true) : ∀ (l : List AV), AV.alls p l = true → AV.alls q l = true
  | [], _ => by simp [AV.alls]
  | a :: l, hb => by
    simp only [AV.alls, Bool.and_eq_true] at hb ⊢
    exact ⟨AV.all_mono h a hb.1, AV.alls_mono h l hb.2⟩
end
mutual
theorem bnd_all {k : Nat} : ∀ (a : AV), a.bnd k = a.all fun b => decide (b < k)
  | .agg ps => by simp only [AV.bnd, AV.all]; exact bnds_alls ps
  | .tup ps => by simp only [AV.bnd, AV.all]; exact bnds_alls ps
  | .ro _ xs => by simp only [AV.bnd, AV.all]; exact bnds_alls xs
  | .rp _ a => by simp only [AV.bnd, AV.all]; exact bnd_all a
  | .own b _ _ _ _ _ => by simp [AV.bnd, AV.all]
  | .ptr b _ _ _ => by simp [AV.bnd, AV.all]
  | .fn _ cap => by simp only [AV.bnd, AV.all]; exact bnds_alls cap
  | .bool _ => by simp [AV.bnd, AV.all]
  | .u8 _ => by simp [AV.bnd, AV.all]
  | .u16 _ => by simp [AV.bnd, AV.all]
  | .u32 _ => by simp [AV.bnd, AV.all]
  | .u64 _ => by simp [AV.bnd, AV.all]
  | .int _ => by simp [AV.bnd, AV.all]
  | .str _ => by simp [AV.bnd, AV.all]
  | .nilp => by simp [AV.bnd, AV.all]
  | .nils => by simp [AV.bnd, AV.all]
  | .nilf => by simp [AV.bnd, AV.all]
  | .un => by simp [AV.bnd, AV.all]
theorem bnds_alls {k : Nat} : ∀ (l : List AV), AV.bnds k l = AV.alls (fun b => decide (b < k)) l
  | [] => by simp [AV.bnds, AV.alls]
  | a :: l => by simp only [AV.bnds, AV.alls, bnd_all a, bnds_alls l]
end
theorem bnd0_all {p : Nat → Bool} {a : AV} (h : a.bnd 0 = true) : a.all p = true := by
  rw [bnd_all] at h
  exact AV.all_mono (fun b hb => by simp at hb) a h

theorem getP_all {p : Nat → Bool} : ∀ (pa : List Nat) {a v : AV}, a.all p = true → getP a pa = some v → v.all p = true
  | [], a, v, h, hg => by simp [getP] at hg; subst hg; exact h
  | i :: pa, a, v, h, hg => by
    cases a <;> simp only [getP, reduceCtorEq] at hg
    split at hg
    · rename_i x hx
      simp only [AV.all] at h
      exact getP_all pa (alls_iff.1 h x (List.mem_of_getElem? hx)) hg
    · cases hg
theorem setP_all {p : Nat → Bool} : ∀ (pa : List Nat) {a v a' : AV}, a.all p = true → v.all p = true → setP a pa v = some a' → a'.all p = true
  | [], a, v, a', h, hv, hg => by simp [setP] at hg; subst hg; exact hv
  | i :: pa, a, v, a', h, hv, hg => by
    cases a <;> simp only [setP, reduceCtorEq] at hg
    split at hg
    · rename_i ps x hx
      simp only [Option.map_eq_some_iff] at hg
      obtain ⟨y, hy, rfl⟩ := hg
      simp only [AV.all] at h ⊢
      have h1 := setP_all pa (alls_iff.1 h x (List.mem_of_getElem? hx)) hv hy
      refine alls_iff.2 fun z hz => ?_
      rcases List.mem_or_eq_of_mem_set hz with hz | rfl
      · exact alls_iff.1 h z hz
      · exact h1
    · cases hg

def HAll (p : Nat → Bool) (H : Heap) : Prop := ∀ b blk, H.get b = some blk → blk.root.all p = true

theorem ldP_all {p : Nat → Bool} {H : Heap} (hH : HAll p H) {a v : AV} (ha : a.all p = true) (h : ldP H a = some v) : v.all p = true := by
  cases a <;> simp only [ldP, reduceCtorEq] at h
  · simp at h; subst h; simpa [AV.all] using ha
  · split at h
    · rename_i blk hg
      split at h
      · exact getP_all _ (hH _ _ hg) h
      · cases h
    · cases h

theorem rd_all {p : Nat → Bool} {H : Heap} (hH : HAll p H) {a : AV} {xs : List AV} (ha : a.all p = true) (h : rd H a = some xs) : ∀ x ∈ xs, x.all p = true := by
  cases a <;> simp only [rd, reduceCtorEq] at h
  · simp at h; subst h; simp
  · simp at h; subst h; simpa [AV.all, alls_iff] using ha
  · split at h
    · rename_i blk hg
      split at h
      · split at h
        · rename_i ps hp
          cases h
          have := getP_all _ (hH _ _ hg) hp
          simp only [AV.all] at this
          exact fun x hx => alls_iff.1 this x (List.mem_of_mem_drop (List.mem_of_mem_take hx))
        · cases h
      · cases h
    · cases h

theorem bvBin_all {op : BinOp} {k : Nat} {mk : BitVec k → AV} (hmk : ∀ z p, (mk z).all p = true) {x y : BitVec k} {pr : Prop} {v : AV} (h : bvBin op mk x y = some (pr, v)) (p : Nat → Bool) : v.all p = true := by
  unfold bvBin at h
  split at h
  · cases h; exact hmk _ _
  · split at h
    · cases h; simp [AV.all]
    · cases h
theorem bvSh_all {op : BinOp} {k : Nat} {mk : BitVec k → AV} (hmk : ∀ z p, (mk z).all p = true) {x : BitVec k} {c : AV} {pr : Prop} {v : AV} (h : bvSh op mk x c = some (pr, v)) (p : Nat → Bool) : v.all p = true := by
  unfold bvSh at h
  split at h
  · cases h
  · split at h <;> first | (cases h; exact hmk _ _) | cases h
theorem intBin_all {op : BinOp} {x y : Int} {pr : Prop} {v : AV} (h : intBin op x y = some (pr, v)) (p : Nat → Bool) : v.all p = true := by
  unfold intBin at h
  split at h <;> first | (cases h; simp [AV.all]; done) | cases h
theorem intSh_all {op : BinOp} {x : Int} {c : AV} {pr : Prop} {v : AV} (h : intSh op x c = some (pr, v)) (p : Nat → Bool) : v.all p = true := by
  unfold intSh at h
  split at h
  · cases h
  · split at h <;> first | (cases h; simp [AV.all]; done) | cases h
theorem binAV_all {op : BinOp} {x y : AV} {pr : Prop} {v : AV} (h : binAV op x y = some (pr, v)) (p : Nat → Bool) : v.all p = true := by
  have a8 : ∀ (z : BitVec 8) p, (AV.u8 z).all p = true := fun _ _ => by simp [AV.all]
  have a16 : ∀ (z : BitVec 16) p, (AV.u16 z).all p = true := fun _ _ => by simp [AV.all]
  have a32 : ∀ (z : BitVec 32) p, (AV.u32 z).all p = true := fun _ _ => by simp [AV.all]
  have a64 : ∀ (z : BitVec 64) p, (AV.u64 z).all p = true := fun _ _ => by simp [AV.all]
  cases x <;> simp only [binAV, reduceCtorEq] at h
  case u8 a => split at h; exact bvSh_all a8 h p; cases y <;> simp only [reduceCtorEq] at h; exact bvBin_all a8 h p
  case u16 a => split at h; exact bvSh_all a16 h p; cases y <;> simp only [reduceCtorEq] at h; exact bvBin_all a16 h p
  case u32 a => split at h; exact bvSh_all a32 h p; cases y <;> simp only [reduceCtorEq] at h; exact bvBin_all a32 h p
  case u64 a => split at h; exact bvSh_all a64 h p; cases y <;> simp only [reduceCtorEq] at h; exact bvBin_all a64 h p
  case int a => split at h; exact intSh_all h p; cases y <;> simp only [reduceCtorEq] at h; exact intBin_all h p
  case str a =>
    cases y <;> simp only [reduceCtorEq] at h
    split at h <;> first | (cases h; simp [AV.all]; done) | cases h
theorem unAV_all {op : UnOp} {x : AV} {pr : Prop} {v : AV} (h : unAV op x = some (pr, v)) (p : Nat → Bool) : v.all p = true := by
  unfold unAV at h
  split at h <;> first | (cases h; simp [AV.all]; done) | cases h
theorem cvAV_all {k : IntKind} {x v : AV} (h : cvAV k x = some v) (p : Nat → Bool) : v.all p = true := by
  unfold cvAV at h
  split at h <;> first | (cases h; simp [AV.all]; done) | cases h

theorem qev_all {p : Nat → Bool} {H : Heap} (hH : HAll p H) {q : Q} {as : List AV} (ha : ∀ a ∈ as, a.all p = true) {pr : Prop} {v : AV} (h : qev H q as = some (pr, v)) : v.all p = true := by
  have un : AV.un.all p = true := by simp [AV.all]
  have gD : ∀ {l : List AV} {i : Nat}, (∀ x ∈ l, x.all p = true) → (l.getD i .un).all p = true := by
    intro l i hl
    rw [List.getD_eq_getElem?_getD]
    cases hx : l[i]? with
    | none => exact un
    | some x => exact hl x (List.mem_of_getElem? hx)
  have pO : ∀ {a : AV}, a.all p = true → ∀ x ∈ partsOf a, x.all p = true := by
    intro a ha x hx
    cases a <;> simp only [partsOf, List.not_mem_nil] at hx
    simp only [AV.all] at ha
    exact alls_iff.1 ha x hx
  unfold qev at h
  split at h
  all_goals first | (cases h; done) | skip
  all_goals try simp only [List.forall_mem_cons, List.not_mem_nil, false_implies, implies_true, and_true] at ha
  all_goals first
    | (simp only [Option.some.injEq, Prod.mk.injEq] at h; obtain ⟨-, rfl⟩ := h; first | exact ha | (simp [AV.all]; done) | exact ha.1 | (split; exact ha.2.1; exact ha.2.2) | (simp only [AV.all]; exact alls_iff.2 ha))
    | exact binAV_all h p
    | exact unAV_all h p
    | skip
  all_goals first
    | (simp only [Option.map_eq_some_iff, Prod.mk.injEq] at h; obtain ⟨z, hz, -, rfl⟩ := h; first
        | exact cvAV_all hz p
        | (simp [AV.all]; done)
        | (simp only [AV.all] at ha ⊢; first
            | exact ha.1
            | exact ha
            | exact gD (alls_iff.1 ha.1)
            | exact gD (alls_iff.1 ha)
            | exact gD (pO ha.1)
            | exact gD (pO ha)
            | exact alls_iff.1 ha _ (List.mem_of_getElem? hz)
            | exact alls_iff.2 fun x hx => alls_iff.1 ha.1 x (List.mem_of_mem_drop (List.mem_of_mem_take hx)))
        | exact ldP_all hH ha hz)
    | skip
  · split at h
    · rename_i xs hx
      simp only [Option.map_eq_some_iff, Prod.mk.injEq] at h
      obtain ⟨z, hz, -, rfl⟩ := h
      simp [AV.all]
    · cases h

/-! What is read, and what is written -/
def topB : AV → List Nat
  | .own b _ _ _ _ _ => [b]
  | .ptr b _ _ _ => [b]
  | _ => []

def fpO (o : Iop) (as : List AV) : List Nat × List Nat :=
  match o, as with
  | .q (.ld _), [p] => (topB p, [])
  | .q .b2s, [p] => (topB p, [])
  | .e (.store _), [p, _] => ([], topB p)
  | .e (.app ..), [d, y] => (topB y, topB d)
  | .e (.appS _), [d, _] => ([], topB d)
  | .e (.cpy _), [d, y] => (topB y, topB d)
  | .e .cpyS, [d, _] => ([], topB d)
  | _, _ => ([], [])

theorem ldP_loc {H M : Heap} {a : AV} (h : ∀ b ∈ topB a, M.get b = H.get b) : ldP M a = ldP H a := by
  cases a <;> simp only [ldP]
  rw [h _ (by simp [topB])]
theorem rd_loc {H M : Heap} {a : AV} (h : ∀ b ∈ topB a, M.get b = H.get b) : rd M a = rd H a := by
  cases a <;> simp only [rd]
  rw [h _ (by simp [topB])]

theorem qev_loc {q : Q} {H M : Heap} {as : List AV} (h : ∀ b ∈ (fpO (.q q) as).1, M.get b = H.get b) : qev M q as = qev H q as := by
  by_cases h0 : (Iop.q q).cls = 0
  · exact qev_free h0 _ _ _
  · cases q <;> simp [Iop.cls] at h0
    · rcases as with _ | ⟨a, _ | ⟨b, as⟩⟩ <;> simp only [qev]
      rw [ldP_loc (by simpa [fpO] using h)]
    · rcases as with _ | ⟨a, _ | ⟨b, as⟩⟩ <;> simp only [qev]
      rw [rd_loc (by simpa [fpO] using h)]

def E.z1 : E → AV
  | .bld _ z _ => z
  | e => e.z0

theorem z1_ok {P : Program} {op : Op} {e : E} {xs : List Operand} (h : EOp P op e xs) : e.z1.bnd 0 = true := by
  have zk : ∀ {t s z}, ZeroOk P t s z → z.bnd 0 = true := by
    intro t s z hz
    obtain ⟨i, v, _, _, _, h4⟩ := hz.ex
    exact (h4 default (fun _ => none) 0).bnd
  cases h with
  | bldS t fs l z parts h1 h2 h3 => exact zk h3
  | bldA t e n s z parts h1 h2 h3 => exact zk h3
  | alloc t s z hz => exact zk hz
  | mksl t e s z i by_ l c h1 h2 h3 hz => exact zk hz
  | bsl t e s z len parts h1 hz h3 => exact zk hz
  | _ => simp [E.z1, E.z0, AV.bnd]

theorem setAll_all {p : Nat → Bool} : ∀ {ix : List Nat} {zs vs ps : List AV}, setAll zs ix vs = some ps → (∀ a ∈ zs, a.all p = true) → (∀ a ∈ vs, a.all p = true) → ∀ a ∈ ps, a.all p = true := by
  intro ix
  induction ix with
  | nil =>
    intro zs vs ps h hz hv
    cases vs <;> simp [setAll] at h
    subst h; exact hz
  | cons i ix ih =>
    intro zs vs ps h hz hv
    cases vs with
    | nil => simp [setAll] at h
    | cons v vs =>
      simp only [setAll] at h
      split at h
      · refine ih h (fun a ha => ?_) (fun a ha => hv a (by simp [ha]))
        rcases List.mem_or_eq_of_mem_set ha with h1 | h1
        · exact hz a h1
        · exact h1 ▸ hv v (by simp)
      · cases h

/-- an effect makes one block, or writes one, or leaves memory -/
inductive Eff (H M : Heap) (e : E) (as : List AV) (pr : Prop) (p : Nat → Bool) : AV → Heap → Prop
  | mkp (blk : Blk) (s : Shape) : blk.root.all p = true → eev M e as = some (pr, .ptr M.length 0 [0] s, M ++ [some blk]) → Eff H M e as pr p (.ptr H.length 0 [0] s) (H ++ [some blk])
  | mko (blk : Blk) (ver n : Nat) (s : Shape) : blk.root.all p = true → eev M e as = some (pr, .own M.length ver [] 0 n s, M ++ [some blk]) → Eff H M e as pr p (.own H.length ver [] 0 n s) (H ++ [some blk])
  | wr (b : Nat) (blk0 blk : Blk) (v : AV) : b ∈ (fpO (.e e) as).2 → H.get b = some blk0 → blk.root.all p = true → v.all p = true → eev M e as = some (pr, v, M.set b (some blk)) → Eff H M e as pr p v (H.set b (some blk))
  | st (v : AV) : v.all p = true → eev M e as = some (pr, v, M) → Eff H M e as pr p v H

theorem eev_eff {p : Nat → Bool} {H M : Heap} {e : E} {as : List AV} {pr : Prop} {v : AV} {H' : Heap} (hv : eev H e as = some (pr, v, H')) (hl : ∀ b, b ∈ (fpO (.e e) as).1 ∨ b ∈ (fpO (.e e) as).2 → M.get b = H.get b) (hM : HAll p M)
    (ha : ∀ a ∈ as, a.all p = true) (hz : e.z1.all p = true) : Eff H M e as pr p v H' := by
  have agg1 : ∀ {a : AV}, a.all p = true → (AV.agg [a]).all p = true := by intro a h; simp [AV.all, AV.alls, h]
  have rep : ∀ {n : Nat} {z : AV}, z.all p = true → (AV.agg (List.replicate n z)).all p = true := by
    intro n z h; simp only [AV.all]; exact alls_iff.2 fun x hx => by rw [(List.mem_replicate.1 hx).2]; exact h
  have m8 : ∀ {l : List (BitVec 8)}, (AV.agg (l.map .u8)).all p = true := by
    intro l; simp only [AV.all]; refine alls_iff.2 fun x hx => ?_
    obtain ⟨y, _, rfl⟩ := List.mem_map.1 hx
    simp [AV.all]
  have cat : ∀ {xs ys : List AV}, (AV.agg xs).all p = true → (∀ y ∈ ys, y.all p = true) → (AV.agg (xs ++ ys)).all p = true := by
    intro xs ys h1 h2
    simp only [AV.all] at h1 ⊢
    refine alls_iff.2 fun x hx => ?_
    rcases List.mem_append.1 hx with h | h
    · exact alls_iff.1 h1 x h
    · exact h2 x h
  have mm8 : ∀ {l : List (BitVec 8)}, ∀ x ∈ l.map AV.u8, x.all p = true := by
    intro l x hx
    obtain ⟨y, _, rfl⟩ := List.mem_map.1 hx
    simp [AV.all]
  have cph : ∀ {b ver off n : Nat} {pa : List Nat} {e' : Shape} {qs : List AV} {H'' : Heap}, M.get b = H.get b → (∀ q ∈ qs, q.all p = true) → cpH H (.own b ver pa off n e') qs = some H'' →
      ∃ blk0 blk, H.get b = some blk0 ∧ blk.root.all p = true ∧ H'' = H.set b (some blk) ∧ cpH M (.own b ver pa off n e') qs = some (M.set b (some blk)) := by
    intro b ver off n pa e' qs H'' hb hq h
    simp only [cpH] at h ⊢
    rw [hb]
    split at h
    · rename_i blk hg
      split at h
      · rename_i hver
        split at h
        · rename_i ps hp
          simp only [Option.map_eq_some_iff] at h
          obtain ⟨r, hr, rfl⟩ := h
          have hrt := hM b blk (by rw [hb]; exact hg)
          have hps := getP_all _ hrt hp
          refine ⟨blk, _, hg, setP_all _ hrt ?_ hr, rfl, ?_⟩
          · simp only [AV.all] at hps ⊢
            refine alls_iff.2 fun x hx => ?_
            unfold splL at hx
            rcases List.mem_append.1 hx with hx | hx
            · rcases List.mem_append.1 hx with hx | hx
              · exact alls_iff.1 hps x (List.mem_of_mem_take hx)
              · exact hq x hx
            · exact alls_iff.1 hps x (List.mem_of_mem_drop hx)
          · simp only [hg, hver, if_true, hp, hr, Option.map_some]
        · cases h
      · cases h
    · cases h
  cases e with
  | alloc te s z =>
    cases as <;> simp only [eev, reduceCtorEq, Option.some.injEq, Prod.mk.injEq] at hv
    obtain ⟨rfl, rfl, rfl⟩ := hv
    exact .mkp _ _ (agg1 hz) rfl
  | box te s =>
    rcases as with _ | ⟨a, _ | ⟨b, as⟩⟩ <;> simp only [eev, reduceCtorEq, Option.some.injEq, Prod.mk.injEq] at hv
    obtain ⟨rfl, rfl, rfl⟩ := hv
    exact .mkp _ _ (agg1 (ha a (by simp))) rfl
  | mksl te s by_ z =>
    rcases as with _ | ⟨a, _ | ⟨b, _ | ⟨c, as⟩⟩⟩ <;> simp only [eev, reduceCtorEq] at hv
    split at hv
    · rename_i i j hi hj
      simp only [Option.some.injEq, Prod.mk.injEq] at hv
      obtain ⟨rfl, rfl, rfl⟩ := hv
      exact .mko _ _ _ _ (rep hz) (by simp only [eev, hi, hj])
    · cases hv
  | bsl te s z len ix =>
    simp only [eev, Option.map_eq_some_iff, Prod.mk.injEq] at hv
    obtain ⟨ps, h1, rfl, rfl, rfl⟩ := hv
    refine .mko _ _ _ _ ?_ (by simp only [eev, h1, Option.map_some])
    simp only [AV.all]
    exact alls_iff.2 (setAll_all h1 (fun a h => by rw [(List.mem_replicate.1 h).2]; exact hz) ha)
  | s2b te =>
    rcases as with _ | ⟨a, _ | ⟨b, as⟩⟩
    · simp [eev] at hv
    · cases a <;> simp only [eev, reduceCtorEq, Option.some.injEq, Prod.mk.injEq] at hv
      obtain ⟨rfl, rfl, rfl⟩ := hv
      exact .mko _ _ _ _ m8 rfl
    · cases a <;> simp [eev] at hv
  | bld s z ix =>
    cases z <;> simp only [eev, reduceCtorEq] at hv
    rename_i zs
    simp only [Option.map_eq_some_iff, Prod.mk.injEq] at hv
    obtain ⟨ps, h1, rfl, rfl, rfl⟩ := hv
    simp only [E.z1, AV.all] at hz
    refine .st _ ?_ (by simp only [eev, h1, Option.map_some])
    simp only [AV.all]
    exact alls_iff.2 (setAll_all h1 (alls_iff.1 hz) ha)
  | store s =>
    rcases as with _ | ⟨a, _ | ⟨b, _ | ⟨c, as⟩⟩⟩ <;> simp only [eev, reduceCtorEq] at hv
    simp only [Option.map_eq_some_iff, Prod.mk.injEq] at hv
    obtain ⟨h2, hst, rfl, rfl, rfl⟩ := hv
    cases a <;> simp only [stP, reduceCtorEq] at hst
    rename_i k ver pa s'
    have hb := hl k (.inr (by simp [fpO, topB]))
    split at hst
    · rename_i blk hg
      split at hst
      · rename_i hver
        simp only [Option.map_eq_some_iff] at hst
        obtain ⟨r, hr, rfl⟩ := hst
        refine .wr k blk _ _ (by simp [fpO, topB]) hg (setP_all _ (hM k blk (by rw [hb]; exact hg)) (ha b (by simp)) hr) (by simp [AV.all]) ?_
        simp only [eev, stP, hb, hg, hver, if_true, hr, Option.map_some]
      · cases hst
    · cases hst
  | app te s by_ =>
    rcases as with _ | ⟨a, _ | ⟨y, _ | ⟨c, as⟩⟩⟩
    · simp [eev] at hv
    · cases a <;> simp [eev] at hv
    · have hy : rd M y = rd H y := rd_loc fun b hb => hl b (.inl (by simpa [fpO] using hb))
      have hya := ha y (by simp)
      cases a <;> simp only [eev, reduceCtorEq] at hv
      case nils =>
        simp only [Option.map_eq_some_iff, Prod.mk.injEq] at hv
        obtain ⟨qs, h1, rfl, rfl, rfl⟩ := hv
        rw [← hy] at h1
        refine .mko _ _ _ _ ?_ (by simp only [eev, h1, Option.map_some])
        simp only [AV.all]
        exact alls_iff.2 (rd_all hM hya h1)
      case own k ver pa off n e' =>
        have hb := hl k (.inr (by simp [fpO, topB]))
        split at hv
        · rename_i blk qs hg h1
          split at hv
          · rename_i ps hr
            simp only [Option.some.injEq, Prod.mk.injEq] at hv
            obtain ⟨rfl, rfl, rfl⟩ := hv
            rw [← hy] at h1
            have hrt := hM k blk (by rw [hb]; exact hg)
            rw [hr] at hrt
            refine .wr k blk _ _ (by simp [fpO, topB]) hg (cat hrt (rd_all hM hya h1)) ?_ ?_
            · have := ha _ (List.mem_cons_self); simpa [AV.all] using this
            · simp only [eev, hb, hg, h1, hr]
          · cases hv
        · cases hv
    · cases a <;> simp [eev] at hv
  | appS te =>
    rcases as with _ | ⟨a, _ | ⟨y, _ | ⟨c, as⟩⟩⟩
    · simp [eev] at hv
    · cases a <;> simp [eev] at hv
    · cases a <;> cases y <;> simp only [eev, reduceCtorEq] at hv
      case nils.str l =>
        simp only [Option.some.injEq, Prod.mk.injEq] at hv
        obtain ⟨rfl, rfl, rfl⟩ := hv
        exact .mko _ _ _ _ m8 rfl
      case own.str k ver pa off n e' l =>
        have hb := hl k (.inr (by simp [fpO, topB]))
        split at hv
        · rename_i blk hg
          split at hv
          · rename_i ps hr
            simp only [Option.some.injEq, Prod.mk.injEq] at hv
            obtain ⟨rfl, rfl, rfl⟩ := hv
            have hrt := hM k blk (by rw [hb]; exact hg)
            rw [hr] at hrt
            refine .wr k blk _ _ (by simp [fpO, topB]) hg (cat hrt mm8) ?_ ?_
            · have := ha _ (List.mem_cons_self); simpa [AV.all] using this
            · simp only [eev, hb, hg, hr]
          · cases hv
        · cases hv
    · cases a <;> cases y <;> simp [eev] at hv
  | cpy s =>
    rcases as with _ | ⟨a, _ | ⟨y, _ | ⟨c, as⟩⟩⟩
    · simp [eev] at hv
    · cases a <;> simp [eev] at hv
    · have hy : rd M y = rd H y := rd_loc fun b hb => hl b (.inl (by simpa [fpO] using hb))
      have hya := ha y (by simp)
      cases a <;> simp only [eev, reduceCtorEq] at hv
      rename_i k ver pa off n e'
      have hb := hl k (.inr (by simp [fpO, topB]))
      split at hv
      · rename_i qs h1
        simp only [Option.map_eq_some_iff, Prod.mk.injEq] at hv
        obtain ⟨H2, h2, rfl, rfl, rfl⟩ := hv
        rw [← hy] at h1
        obtain ⟨blk0, blk, g1, g2, rfl, g4⟩ := cph hb (fun q hq => rd_all hM hya h1 q (List.mem_of_mem_take hq)) h2
        exact .wr k blk0 blk _ (by simp [fpO, topB]) g1 g2 (by simp [AV.all]) (by simp only [eev, h1, g4, Option.map_some])
      · cases hv
    · cases a <;> simp [eev] at hv
  | cpyS =>
    rcases as with _ | ⟨a, _ | ⟨y, _ | ⟨c, as⟩⟩⟩
    · simp [eev] at hv
    · cases a <;> simp [eev] at hv
    · cases a <;> cases y <;> simp only [eev, reduceCtorEq] at hv
      rename_i k ver pa off n e' l
      have hb := hl k (.inr (by simp [fpO, topB]))
      simp only [Option.map_eq_some_iff, Prod.mk.injEq] at hv
      obtain ⟨H2, h2, rfl, rfl, rfl⟩ := hv
      obtain ⟨blk0, blk, g1, g2, rfl, g4⟩ := cph hb (fun q hq => mm8 q (List.mem_of_mem_take hq)) h2
      exact .wr k blk0 blk _ (by simp [fpO, topB]) g1 g2 (by simp [AV.all]) (by simp only [eev, g4, Option.map_some])
    · cases a <;> cases y <;> simp [eev] at hv
end Go.V
