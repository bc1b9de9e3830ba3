import Derived.Test.YtjilenmngokhpaaDoorV9
/- Each quiet operation comes to what is reckoned on abstract values. -/
namespace Go.V
open Go

inductive RepVs (w : World) (loc : Loc) (N : Nat) : List Value → List AV → Prop
  | nil : RepVs w loc N [] []
  | cons (v : Value) (a : AV) (vs : List Value) (as : List AV) : RepV w loc N v a → RepVs w loc N vs as → RepVs w loc N (v :: vs) (a :: as)

theorem RepVs.mono {w w' : World} {loc loc' : Loc} {N N' : Nat} (hE : Ext w loc N w' loc') (hN : N ≤ N') {vs : List Value} {as : List AV} (h : RepVs w loc N vs as) : RepVs w' loc' N' vs as := by
  induction h with
  | nil => exact .nil
  | cons v a vs as h _ ih => exact .cons _ _ _ _ (h.mono hE hN) ih

section
variable {P : Program} {w : World} {loc : Loc} {H : Heap}

theorem RepVs.inv1 {N : Nat} {v : Value} {as : List AV} (h : RepVs w loc N [v] as) : ∃ a, as = [a] ∧ RepV w loc N v a := by
  cases h with | cons _ a _ _ h1 h2 => cases h2; exact ⟨a, rfl, h1⟩
theorem RepVs.inv2 {N : Nat} {v u : Value} {as : List AV} (h : RepVs w loc N [v, u] as) : ∃ a b, as = [a, b] ∧ RepV w loc N v a ∧ RepV w loc N u b := by
  cases h with | cons _ a _ _ h1 h2 => obtain ⟨b, rfl, h3⟩ := h2.inv1; exact ⟨a, b, rfl, h1, h3⟩
theorem RepVs.inv3 {N : Nat} {v u z : Value} {as : List AV} (h : RepVs w loc N [v, u, z] as) : ∃ a b c, as = [a, b, c] ∧ RepV w loc N v a ∧ RepV w loc N u b ∧ RepV w loc N z c := by
  cases h with | cons _ a _ _ h1 h2 => obtain ⟨b, c, rfl, h3, h4⟩ := h2.inv2; exact ⟨a, b, c, rfl, h1, h3, h4⟩

/-- A pointer's value. -/
theorem ptr_val {N : Nat} {v : Value} {p : AV} {s : Shape} (hp : RepV w loc N v p) (h : psh p = some s) : ∃ k o, v = .pointer (some ⟨k, o, none⟩) := by
  cases p <;> simp only [psh, Option.some.injEq, reduceCtorEq] at h
  case ptr b ver pa s' => obtain ⟨k, o, hv, _⟩ := (hp.rep rfl).ptr_inv; simp at hv; exact ⟨k, o, hv⟩
  case rp s' a => obtain ⟨k, o, c, t, fr, ds, hv, _⟩ := (hp.rep rfl).rp_inv; simp at hv; exact ⟨k, o, hv⟩

theorem nilc_run {v : Value} {p : AV} {s : Shape} (hp : RepV w loc H.length v p) (h : psh p = some s) (ev : Operand → Value) (o : Oper) (x : Operand) (ho : o.op = .nilCheck x) (hx : ev x = v) :
    (execOp ev o).run P w = .ok (.value v) w := by
  obtain ⟨k, o', rfl⟩ := ptr_val hp h
  simp only [execOp, ho, hx, Sem.run_pure]

theorem load_run {t : TypeId} {s : Shape} (ht : TyOk P t s) (hI : HeapInv w loc H) {v : Value} {p a : AV} (hp : RepV w loc H.length v p) (hs : psh p = some s) (hl : ldP H p = some a) :
    ∃ u, (Instr.loadAt t v).run P w = .ok u w ∧ RepV w loc H.length u a := by
  have hc : p.isCell = true := by cases p <;> simp_all [psh, AV.isCell]
  have hsp : p = .rp s a ∨ ∃ b ver pa, p = .ptr b ver pa s := by
    cases p <;> simp only [psh, Option.some.injEq, reduceCtorEq] at hs
    case ptr b ver pa s' => subst hs; exact .inr ⟨b, ver, pa, rfl⟩
    case rp s' a' => subst hs; simp only [ldP, Option.some.injEq] at hl; subst hl; exact .inl rfl
  obtain ⟨k, o, c, te, fr, cs, rfl, hk, htk, hr, hsh⟩ := ld_cells hI (hp.rep hc) hsp hl
  obtain ⟨u, hu, hv⟩ := loadVar_run ht hk htk hr hsh
  exact ⟨u, by simp only [Instr.loadAt, Instr.sureAddr, Sem.run_bind, Sem.run_pure, Result.andThen_ok, hu], hv⟩

theorem atS_append : ∀ (pa : List Nat) {s t : Shape} (i : Nat), atS s pa = some t → atS s (pa ++ [i]) = atS t [i] ∧ offS s (pa ++ [i]) = offS s pa + offS t [i]
  | [], s, t, i, h => by simp [atS] at h; subst h; simp [offS]
  | j :: pa, .leaf, t, i, h => by simp [atS] at h
  | j :: pa, .arr n e, t, i, h => by
    simp only [atS] at h
    split at h
    · rename_i hj
      obtain ⟨h1, h2⟩ := atS_append pa i h
      simp only [List.cons_append, atS, hj, if_true, offS, h1, h2, true_and]
      omega
    · cases h
  | j :: pa, .st l, t, i, h => by
    simp only [atS] at h
    split at h
    · rename_i s' hs'
      obtain ⟨h1, h2⟩ := atS_append pa i h
      simp only [List.cons_append, atS, hs', offS, h1, h2, true_and]
      rw [Nat.add_assoc]
    · cases h

/-- the address of a part, behind a pointer to memory that is only read -/
theorem rp_part {N k o : Nat} {s s' : Shape} {a a' : AV} (hp : Rep w loc N [.pointer (some ⟨k, o, none⟩)] (.rp s a)) (i : Nat) (hat : atS s [i] = some s') (hg : getP a [i] = some a') :
    Rep w loc N [.pointer (some ⟨k, o + offS s [i], none⟩)] (.rp s' a') := by
  obtain ⟨k', o', c, t, fr, ds, hv, hk, hn, htk, hr, hs⟩ := hp.rp_inv
  simp at hv
  obtain ⟨rfl, rfl⟩ := hv
  have h1 := hr.at [i] hs hg hat
  have h2 := getP_hasSh [i] hs hg hat
  have h3 := offS_le [i] hat
  have h4 := h1.size s' h2
  have h5 := hr.size s hs
  refine .rp k (o + offS s [i]) c t fr s' a' _ hk hn ?_ h1 h2
  rw [h4, ← List.drop_drop]
  exact take_drop_of_take htk _ _ (by omega)

theorem ptr_part {N k o b ver : Nat} {pa : List Nat} {s s' : Shape} (hp : Rep w loc N [.pointer (some ⟨k, o, none⟩)] (.ptr b ver pa s)) (i : Nat) (hat : atS s [i] = some s') :
    Rep w loc N [.pointer (some ⟨k, o + offS s [i], none⟩)] (.ptr b ver (pa ++ [i]) s') := by
  obtain ⟨k', o', hv, hb, hver, ho⟩ := hp.ptr_inv
  simp at hv
  obtain ⟨rfl, rfl⟩ := hv
  refine .ptr b ver _ s' _ _ hb hver fun l hl hlv => ?_
  obtain ⟨k2, hw, ha, hv2⟩ := ho l hl hlv
  simp at hv2
  obtain ⟨rfl, rfl⟩ := hv2
  obtain ⟨h1, h2⟩ := atS_append pa i ha
  exact ⟨k, hw, by rw [h1, hat], by rw [h2]⟩

theorem atS_arr {n i : Nat} {e : Shape} (h : i < n) : atS (.arr n e) [i] = some e := by simp [atS, h]
theorem offS_arr {n i : Nat} {e : Shape} : offS (.arr n e) [i] = i * e.size := by simp [offS]
theorem atS_st {l : List Shape} {i : Nat} {s : Shape} (h : l[i]? = some s) : atS (.st l) [i] = some s := by simp [atS, h]
theorem offS_st {l : List Shape} {i : Nat} {s : Shape} (h : l[i]? = some s) : offS (.st l) [i] = Shape.sizes (l.take i) := by simp [offS, h]

/-- indexAddr at an array. -/
theorem iaA_run {t e : TypeId} {n : Nat} {s : Shape} (ht : P.underlying t = some (.array n e)) (he : TyOk P e s) {k o : Nat} {iv : Value} {kk : IntKind} {i : Int} (hi : iv = .int kk i) (h0 : 0 ≤ i) (h1 : i < n) :
    (Instr.indexAt t (.pointer (some ⟨k, o, none⟩)) iv).run P w = .ok (.pointer (some ⟨k, o + i.toNat * s.size, none⟩)) w := by
  subst hi
  simp [Instr.indexAt, asIntOf, run_underlying ht, Instr.sureAddr, h0, h1, he.run_size, add_plain]

theorem iaS_run {t e : TypeId} {s : Shape} (ht : P.underlying t = some (.slice e)) (he : TyOk P e s) {k o n cap : Nat} {iv : Value} {kk : IntKind} {i : Int} (hi : iv = .int kk i) (h0 : 0 ≤ i) (h1 : i < n) :
    (Instr.indexAt t (.slice (some ⟨k, o, none⟩) n cap) iv).run P w = .ok (.pointer (some ⟨k, o + i.toNat * s.size, none⟩)) w := by
  subst hi
  simp [Instr.indexAt, asIntOf, run_underlying ht, h0, h1, he.run_size, add_plain]

theorem elem_of_ro {N k o n cap : Nat} {e : Shape} {xs : List AV} (h : Rep w loc N [.slice (some ⟨k, o, none⟩) n cap] (.ro e xs)) (i : Nat) (hi : i < xs.length) :
    Rep w loc N [.pointer (some ⟨k, o + i * e.size, none⟩)] (.rp e (xs.getD i .un)) := by
  rcases h.ro_inv with ⟨a, cap, hv, rfl⟩ | ⟨k', o', n', cap', c, t, fr, ds, hv, hk, hn, htk, hr, hl, hc, hm, hs⟩
  · simp at hi
  · simp at hv
    obtain ⟨⟨rfl, rfl⟩, rfl, rfl⟩ := hv
    have hg : xs[i]? = some xs[i] := List.getElem?_eq_getElem hi
    have h1 := hr.elem hs i xs[i] hg
    have h2 := hs xs[i] (List.getElem_mem _)
    have h3 := h1.size e h2
    have h4 := hr.size (.arr xs.length e) (hasSh_arr_agg.2 ⟨rfl, hs⟩)
    have h5 := mul_size_le (z := e.size) hi
    simp only [Shape.size_arr] at h4
    have e1 : xs.getD i .un = xs[i] := by simp [List.getD, hg]
    rw [e1]
    refine .rp k (o + i * e.size) c t fr e xs[i] _ hk hn ?_ h1 h2
    rw [h3, ← List.drop_drop]
    exact take_drop_of_take htk _ _ (by omega)

theorem elem_of_own {N k o n cap b ver off : Nat} {pa : List Nat} {e : Shape} (h : Rep w loc N [.slice (some ⟨k, o, none⟩) n cap] (.own b ver pa off n e)) (i : Nat) (hi : i < n) :
    Rep w loc N [.pointer (some ⟨k, o + i * e.size, none⟩)] (.ptr b ver (pa ++ [off + i]) e) := by
  obtain ⟨ad, cap', hv, hb, hver, hc, h1, hm, ho⟩ := h.own_inv
  simp at hv
  obtain ⟨rfl, rfl⟩ := hv
  refine .ptr b ver _ e _ _ hb hver fun l hl hlv => ?_
  have hO := ho l hl hlv
  unfold OwnAt at hO
  cases hw : l.wb with
  | none => simp [hw] at hO
  | some k2 =>
    simp only [hw] at hO
    obtain ⟨len, o2, cap2, hat, hlen, hv2, hc2, hoff, -⟩ := hO
    simp at hv2
    obtain ⟨⟨rfl, rfl⟩, rfl⟩ := hv2
    obtain ⟨g1, g2⟩ := atS_append pa (off + i) hat
    refine ⟨k, hw, by rw [g1, atS_arr (by omega)], ?_⟩
    rw [g2, offS_arr, hoff (by omega), Nat.add_mul, Nat.add_assoc]

theorem len_run {t e : TypeId} (ht : P.underlying t = some (.slice e)) {v : Value} {a : AV} {n : Nat} (ha : RepV w loc H.length v a) (hn : slen a = some n) (ty : TypeId) :
    (Builtin.len_ #[t] ty #[v]).run P w = .ok (.int .i64 n) w ∧ n ≤ maxLen := by
  have hv : (∃ ad cap, v = .slice ad n cap) ∧ n ≤ maxLen := by
    cases a <;> simp only [slen, Option.some.injEq, reduceCtorEq] at hn
    case nils => subst hn; have := (ha.rep rfl).nils_inv; simp at this; exact ⟨⟨_, _, this⟩, by simp [maxLen]⟩
    case ro e xs =>
      subst hn
      rcases (ha.rep rfl).ro_inv with ⟨ad, cap, hv, rfl⟩ | ⟨k', o', n', cap', c, t, fr, ds, hv, hk, hn, htk, hr, hl, hc, hm, hs⟩
      · simp at hv; exact ⟨⟨_, _, hv⟩, by simp [maxLen]⟩
      · simp at hv; rw [hl]; exact ⟨⟨_, _, hv⟩, hm⟩
    case own b ver pa off m e =>
      subst hn
      obtain ⟨ad, cap', hv, hb, hver, hc, h1, hm, ho⟩ := (ha.rep rfl).own_inv
      simp at hv; exact ⟨⟨_, _, hv⟩, hm⟩
  obtain ⟨⟨ad, cap, rfl⟩, hm⟩ := hv
  exact ⟨by simp [Builtin.len_, run_underlying ht, goInt], hm⟩

end
end Go.V
