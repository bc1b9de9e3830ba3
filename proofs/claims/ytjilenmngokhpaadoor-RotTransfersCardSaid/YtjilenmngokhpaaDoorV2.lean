import Derived.Test.YtjilenmngokhpaaDoorV1
/- How abstract values are read in a world. -/
namespace Go.V
open Go

/-- Where an abstract block lies. -/
structure Lc where
  ver : Nat
  sh : Shape
  wb : Option Nat
  cap : Nat

abbrev Loc := Nat → Option Lc

def OwnAt (l : Lc) (pa : List Nat) (off n : Nat) (e : Shape) (v : Value) : Prop :=
  match l.wb with
  | none => v = .slice none 0 0 ∧ n = 0 ∧ off = 0 ∧ pa = [] ∧ l.sh = .arr 0 e
  | some k => ∃ len o cap, atS l.sh pa = some (.arr len e) ∧ off + n ≤ len ∧ v = .slice (some ⟨k, o, none⟩) n cap ∧ n ≤ cap ∧
      (0 < n → o = offS l.sh pa + off * e.size) ∧ (pa = [] → off = 0 → n = len → o = 0 ∧ cap = l.cap)

def PtrAt (l : Lc) (pa : List Nat) (s : Shape) (v : Value) : Prop :=
  ∃ k, l.wb = some k ∧ atS l.sh pa = some s ∧ v = .pointer (some ⟨k, offS l.sh pa, none⟩)

/-- a whole number of Go's int -/
def InR (x : Int) : Prop := -9223372036854775808 ≤ x ∧ x ≤ 9223372036854775807

def NotOwn (loc : Loc) (k : Nat) : Prop := ∀ b l, loc b = some l → l.wb ≠ some k

inductive Rep (w : World) (loc : Loc) (N : Nat) : List Value → AV → Prop
  | bool (b : Bool) : Rep w loc N [.bool b] (.bool b)
  | u8 (x : BitVec 8) : Rep w loc N [.int .u8 x.toNat] (.u8 x)
  | u16 (x : BitVec 16) : Rep w loc N [.int .u16 x.toNat] (.u16 x)
  | u32 (x : BitVec 32) : Rep w loc N [.int .u32 x.toNat] (.u32 x)
  | u64 (x : BitVec 64) : Rep w loc N [.int .u64 x.toNat] (.u64 x)
  | int (x : Int) : InR x → Rep w loc N [.int .i64 x] (.int x)
  | str (s : ByteArray) (l : List (BitVec 8)) : s.data.toList.map UInt8.toBitVec = l → l.length ≤ maxLen → Rep w loc N [.string s] (.str l)
  | nilp : Rep w loc N [.pointer none] .nilp
  | nils : Rep w loc N [.slice none 0 0] .nils
  | nilf : Rep w loc N [.nilFunc] .nilf
  | agg0 : Rep w loc N [] (.agg [])
  | agg (cs ds : List Value) (a : AV) (ps : List AV) : Rep w loc N cs a → Rep w loc N ds (.agg ps) → Rep w loc N (cs ++ ds) (.agg (a :: ps))
  | ro0 (a : Option Addr) (cap : Nat) (e : Shape) : Rep w loc N [.slice a 0 cap] (.ro e [])
  | ro (k o n cap : Nat) (c : Array Value) (t : TypeId) (fr : Nat × Nat) (e : Shape) (xs : List AV) (cs : List Value) :
      w.heap[k]? = some (.cells c t fr) → NotOwn loc k → (c.toList.drop o).take cs.length = cs → Rep w loc N cs (.agg xs) → xs.length = n → n ≤ cap → n ≤ maxLen →
      (∀ x ∈ xs, HasSh e x) → Rep w loc N [.slice (some ⟨k, o, none⟩) n cap] (.ro e xs)
  | rp (k o : Nat) (c : Array Value) (t : TypeId) (fr : Nat × Nat) (s : Shape) (a : AV) (cs : List Value) :
      w.heap[k]? = some (.cells c t fr) → NotOwn loc k → (c.toList.drop o).take cs.length = cs → Rep w loc N cs a → HasSh s a →
      Rep w loc N [.pointer (some ⟨k, o, none⟩)] (.rp s a)
  | own (b ver : Nat) (pa : List Nat) (off n : Nat) (e : Shape) (ad : Option Addr) (cap : Nat) : b < N → (∀ l, loc b = some l → ver ≤ l.ver) → n ≤ cap → (0 < n → ∃ k o, ad = some ⟨k, o, none⟩) → n ≤ maxLen →
      (∀ l, loc b = some l → l.ver = ver → OwnAt l pa off n e (.slice ad n cap)) → Rep w loc N [.slice ad n cap] (.own b ver pa off n e)
  | ptr (b ver : Nat) (pa : List Nat) (s : Shape) (k o : Nat) : b < N → (∀ l, loc b = some l → ver ≤ l.ver) →
      (∀ l, loc b = some l → l.ver = ver → PtrAt l pa s (.pointer (some ⟨k, o, none⟩))) → Rep w loc N [.pointer (some ⟨k, o, none⟩)] (.ptr b ver pa s)
  | fn (f : FuncId) (cap : List AV) (vs : List Value) : vs.length = cap.length → (∀ c ∈ cap, c.isCell = true) → Rep w loc N vs (.agg cap) → Rep w loc N [.func (.func f) #[] vs.toArray] (.fn f cap)

/-- One world follows another one: what is not the call's own is as it was. -/
structure Ext (w : World) (loc : Loc) (N : Nat) (w' : World) (loc' : Loc) : Prop where
  os : w'.os = w.os
  tape : w'.tape = w.tape
  output : w'.output = w.output
  size : w.heap.size ≤ w'.heap.size
  block : ∀ k, k < w.heap.size → NotOwn loc k → w'.heap[k]? = w.heap[k]?
  lc : ∀ b l', loc' b = some l' → N ≤ b ∨ ∃ l, loc b = some l ∧ (l' = l ∨ l.ver < l'.ver)
  wb : ∀ b l' k, loc' b = some l' → l'.wb = some k → w.heap.size ≤ k ∨ ∃ b0 l0, loc b0 = some l0 ∧ l0.wb = some k

theorem Ext.refl (w : World) (loc : Loc) (N : Nat) : Ext w loc N w loc :=
  ⟨rfl, rfl, rfl, Nat.le_refl _, fun _ _ _ => rfl, fun _ l' h => .inr ⟨l', h, .inl rfl⟩, fun b l' _ h hk => .inr ⟨b, l', h, hk⟩⟩

theorem lt_of_heap {w : World} {k : Nat} {o : Obj} (h : w.heap[k]? = some o) : k < w.heap.size := (Array.getElem?_eq_some_iff.1 h).1

theorem Ext.notOwn {w w' : World} {loc loc' : Loc} {N k : Nat} (h : Ext w loc N w' loc') (hk : k < w.heap.size) (hn : NotOwn loc k) : NotOwn loc' k := by
  intro b l' hl' hw
  rcases h.wb b l' k hl' hw with h1 | ⟨b0, l0, h1, h2⟩
  · omega
  · exact hn b0 l0 h1 h2

theorem Ext.trans {w w1 w2 : World} {loc loc1 loc2 : Loc} {N N1 : Nat} (h : Ext w loc N w1 loc1) (h' : Ext w1 loc1 N1 w2 loc2) (hN : N ≤ N1) : Ext w loc N w2 loc2 := by
  refine ⟨h'.os.trans h.os, h'.tape.trans h.tape, h'.output.trans h.output, Nat.le_trans h.size h'.size, ?_, ?_, ?_⟩
  · intro k hk hn
    rw [h'.block k (Nat.lt_of_lt_of_le hk h.size) (h.notOwn hk hn), h.block k hk hn]
  · intro b l2 h2
    rcases h'.lc b l2 h2 with hb | ⟨l1, h1, hr⟩
    · exact .inl (Nat.le_trans hN hb)
    · rcases h.lc b l1 h1 with hb | ⟨l, h0, hr0⟩
      · exact .inl hb
      · refine .inr ⟨l, h0, ?_⟩
        rcases hr with rfl | hr <;> rcases hr0 with rfl | hr0
        · exact .inl rfl
        · exact .inr hr0
        · exact .inr hr
        · exact .inr (by omega)
  · intro b l2 k h2 hk
    rcases h'.wb b l2 k h2 hk with hs | ⟨b1, l1, h1, hk1⟩
    · exact .inl (Nat.le_trans h.size hs)
    · exact h.wb b1 l1 k h1 hk1

theorem Rep.mono {w w' : World} {loc loc' : Loc} {N N' : Nat} (hE : Ext w loc N w' loc') (hN : N ≤ N') {cs : List Value} {a : AV} (h : Rep w loc N cs a) : Rep w' loc' N' cs a := by
  induction h with
  | bool b => exact .bool b
  | u8 x => exact .u8 x
  | u16 x => exact .u16 x
  | u32 x => exact .u32 x
  | u64 x => exact .u64 x
  | int x h => exact .int x h
  | str s l h h' => exact .str s l h h'
  | nilp => exact .nilp
  | nils => exact .nils
  | nilf => exact .nilf
  | agg0 => exact .agg0
  | agg cs ds a ps _ _ ih1 ih2 => exact .agg cs ds a ps ih1 ih2
  | ro0 a cap e => exact .ro0 a cap e
  | ro k o n cap c t fr e xs cs hk hn ht _ hl hc hm hs ih =>
    exact .ro k o n cap c t fr e xs cs ((hE.block k (lt_of_heap hk) hn).trans hk) (hE.notOwn (lt_of_heap hk) hn) ht ih hl hc hm hs
  | rp k o c t fr s a cs hk hn ht _ hs ih =>
    exact .rp k o c t fr s a cs ((hE.block k (lt_of_heap hk) hn).trans hk) (hE.notOwn (lt_of_heap hk) hn) ht ih hs
  | own b ver pa off n e ad cap hb hv hc h1 hm ho =>
    refine .own b ver pa off n e ad cap (by omega) ?_ hc h1 hm ?_
    · intro l' hl'
      rcases hE.lc b l' hl' with h | ⟨l, hl, rfl | hr⟩
      · omega
      · exact hv _ hl
      · have := hv _ hl; omega
    · intro l' hl' hver
      rcases hE.lc b l' hl' with h | ⟨l, hl, rfl | hr⟩
      · omega
      · exact ho _ hl hver
      · have := hv _ hl; omega
  | ptr b ver pa s k o hb hv ho =>
    refine .ptr b ver pa s k o (by omega) ?_ ?_
    · intro l' hl'
      rcases hE.lc b l' hl' with h | ⟨l, hl, rfl | hr⟩
      · omega
      · exact hv _ hl
      · have := hv _ hl; omega
    · intro l' hl' hver
      rcases hE.lc b l' hl' with h | ⟨l, hl, rfl | hr⟩
      · omega
      · exact ho _ hl hver
      · have := hv _ hl; omega
  | fn f cap vs hl hc _ ih => exact .fn f cap vs hl hc ih

theorem Rep.one {w : World} {loc : Loc} {N : Nat} {cs : List Value} {a : AV} (h : Rep w loc N cs a) : ∀ v ∈ cs, v.oneCell' = true := by
  induction h with
  | agg cs ds a ps _ _ ih1 ih2 =>
    intro v hv
    rcases List.mem_append.1 hv with h | h
    · exact ih1 v h
    · exact ih2 v h
  | agg0 => intro v hv; cases hv
  | _ => intro u hu; simp at hu; subst hu; rfl

theorem Rep.cell {w : World} {loc : Loc} {N : Nat} {cs : List Value} {a : AV} (h : Rep w loc N cs a) (ha : a.isCell = true) : ∃ v, cs = [v] := by
  cases h <;> first | exact ⟨_, rfl⟩ | simp [AV.isCell] at ha

theorem Rep.cons_inv {w : World} {loc : Loc} {N : Nat} {cs : List Value} {a : AV} {ps : List AV} (h : Rep w loc N cs (.agg (a :: ps))) :
    ∃ xs ys, cs = xs ++ ys ∧ Rep w loc N xs a ∧ Rep w loc N ys (.agg ps) := by
  cases h with
  | agg xs ys _ _ h1 h2 => exact ⟨xs, ys, rfl, h1, h2⟩

theorem Rep.nil_inv {w : World} {loc : Loc} {N : Nat} {cs : List Value} (h : Rep w loc N cs (.agg [])) : cs = [] := by
  cases h; rfl

mutual
theorem Rep.size {w : World} {loc : Loc} {N : Nat} : ∀ (s : Shape) {cs : List Value} {a : AV}, HasSh s a → Rep w loc N cs a → cs.length = s.size
  | .leaf, cs, a, hs, h => by
    obtain ⟨v, rfl⟩ := h.cell (hasSh_leaf.1 hs)
    simp
  | .arr n e, cs, a, hs, h => by
    obtain ⟨ps, rfl, rfl, hp⟩ := hasSh_arr.1 hs
    have key : ∀ (ps : List AV) (cs : List Value), (∀ p ∈ ps, HasSh e p) → Rep w loc N cs (.agg ps) → cs.length = ps.length * e.size := by
      intro ps
      induction ps with
      | nil => intro cs _ h; simp [h.nil_inv]
      | cons p ps ih =>
        intro cs hp h
        obtain ⟨xs, ys, rfl, h1, h2⟩ := h.cons_inv
        have e1 := Rep.size e (hp p (by simp)) h1
        have e2 := ih ys (fun q hq => hp q (by simp [hq])) h2
        simp [e1, e2, Nat.add_mul, Nat.add_comm]
    simpa using key ps cs hp h
  | .st l, cs, a, hs, h => by
    obtain ⟨ps, rfl, hp⟩ := hasSh_st.1 hs
    simpa using Rep.sizes l hp h
theorem Rep.sizes {w : World} {loc : Loc} {N : Nat} : ∀ (l : List Shape) {cs : List Value} {ps : List AV}, HasShs l ps → Rep w loc N cs (.agg ps) → cs.length = Shape.sizes l
  | [], cs, [], _, h => by simp [h.nil_inv]
  | s :: l, cs, p :: ps, hs, h => by
    obtain ⟨xs, ys, rfl, h1, h2⟩ := h.cons_inv
    have e1 := Rep.size s (hasShs_cons.1 hs).1 h1
    have e2 := Rep.sizes l (hasShs_cons.1 hs).2 h2
    simp [e1, e2]
  | [], _, _ :: _, h, _ => by simp [HasShs] at h
  | _ :: _, _, [], h, _ => by simp [HasShs] at h
end

/-- An element's cells. -/
theorem Rep.elem {w : World} {loc : Loc} {N : Nat} {e : Shape} : ∀ {ps : List AV} {cs : List Value}, (∀ p ∈ ps, HasSh e p) → Rep w loc N cs (.agg ps) → ∀ (i : Nat) (p : AV), ps[i]? = some p →
    Rep w loc N ((cs.drop (i * e.size)).take e.size) p
  | [], cs, hp, h, i, p, hi => by simp at hi
  | q :: ps, cs, hp, h, 0, p, hi => by
    simp at hi; subst hi
    obtain ⟨xs, ys, rfl, h1, h2⟩ := h.cons_inv
    have e1 := Rep.size e (hp q (by simp)) h1
    simp only [Nat.zero_mul, List.drop_zero]
    rw [List.take_left' e1]
    exact h1
  | q :: ps, cs, hp, h, i + 1, p, hi => by
    simp at hi
    obtain ⟨xs, ys, rfl, h1, h2⟩ := h.cons_inv
    have e1 := Rep.size e (hp q (by simp)) h1
    have := Rep.elem (fun x hx => hp x (by simp [hx])) h2 i p hi
    rw [show (i + 1) * e.size = xs.length + i * e.size by rw [e1, Nat.add_mul]; omega, ← List.drop_drop, List.drop_left]
    exact this

theorem Rep.field {w : World} {loc : Loc} {N : Nat} : ∀ {l : List Shape} {ps : List AV} {cs : List Value}, HasShs l ps → Rep w loc N cs (.agg ps) → ∀ (i : Nat) (p : AV) (s : Shape), ps[i]? = some p → l[i]? = some s →
    Rep w loc N ((cs.drop (Shape.sizes (l.take i))).take s.size) p
  | [], ps, cs, hp, h, i, p, s, hi, hs => by simp at hs
  | t :: l, [], cs, hp, h, i, p, s, hi, hs => by simp at hi
  | t :: l, q :: ps, cs, hp, h, 0, p, s, hi, hs => by
    simp at hi hs; subst hi; subst hs
    obtain ⟨xs, ys, rfl, h1, h2⟩ := h.cons_inv
    have e1 := Rep.size t (hasShs_cons.1 hp).1 h1
    simp only [List.take_zero, Shape.sizes_nil, List.drop_zero]
    rw [List.take_left' e1]
    exact h1
  | t :: l, q :: ps, cs, hp, h, i + 1, p, s, hi, hs => by
    simp at hi hs
    obtain ⟨xs, ys, rfl, h1, h2⟩ := h.cons_inv
    have e1 := Rep.size t (hasShs_cons.1 hp).1 h1
    have := Rep.field (hasShs_cons.1 hp).2 h2 i p s hi hs
    rw [List.take_succ_cons, Shape.sizes_cons, ← e1, ← List.drop_drop, List.drop_left]
    exact this

theorem mul_size_le {i n z : Nat} (h : i < n) : i * z + z ≤ n * z := by
  have := Nat.mul_le_mul_right z (show i + 1 ≤ n by omega)
  rw [Nat.add_mul] at this; omega

theorem sizes_take_le : ∀ {l : List Shape} {i : Nat} {s : Shape}, l[i]? = some s → Shape.sizes (l.take i) + s.size ≤ Shape.sizes l
  | [], i, s, h => by simp at h
  | t :: l, 0, s, h => by simp at h; subst h; simp
  | t :: l, i + 1, s, h => by
    simp at h
    have := sizes_take_le h
    simp; omega

theorem offS_le : ∀ (pa : List Nat) {s t : Shape}, atS s pa = some t → offS s pa + t.size ≤ s.size
  | [], s, t, h => by simp [atS] at h; subst h; simp [offS]
  | i :: pa, .leaf, t, h => by simp [atS] at h
  | i :: pa, .arr n e, t, h => by
    simp only [atS] at h
    split at h
    · rename_i hi
      have h1 := offS_le pa h
      have h2 := mul_size_le (z := e.size) hi
      simp only [offS, Shape.size_arr]
      omega
    · cases h
  | i :: pa, .st l, t, h => by
    simp only [atS] at h
    split at h
    · rename_i s hs
      have h1 := offS_le pa h
      have h2 := sizes_take_le hs
      simp only [offS, hs, Shape.size_st]
      omega
    · cases h

/-- The cells of what lies at a place. -/
theorem Rep.at {w : World} {loc : Loc} {N : Nat} : ∀ (pa : List Nat) {s t : Shape} {a v : AV} {cs : List Value}, HasSh s a → Rep w loc N cs a → getP a pa = some v → atS s pa = some t →
    Rep w loc N ((cs.drop (offS s pa)).take t.size) v
  | [], s, t, a, v, cs, hs, h, hg, ht => by
    simp [getP] at hg; simp [atS] at ht; subst hg; subst ht
    simp only [offS, List.drop_zero]
    rw [List.take_of_length_le (by rw [h.size s hs]; exact Nat.le_refl _)]
    exact h
  | i :: pa, .leaf, t, a, v, cs, hs, h, hg, ht => by simp [atS] at ht
  | i :: pa, .arr n e, t, a, v, cs, hs, h, hg, ht => by
    obtain ⟨ps, rfl, hl, hp⟩ := hasSh_arr.1 hs
    simp only [getP] at hg
    simp only [atS] at ht
    split at hg
    · rename_i p hpi
      split at ht
      · have h1 := Rep.elem hp h i p hpi
        have h2 := Rep.at pa (hp p (List.mem_of_getElem? hpi)) h1 hg ht
        have h3 := offS_le pa ht
        simp only [offS]
        rw [List.drop_take, List.take_take, List.drop_drop, Nat.min_eq_left (by omega)] at h2
        exact h2
      · cases ht
    · cases hg
  | i :: pa, .st l, t, a, v, cs, hs, h, hg, ht => by
    obtain ⟨ps, rfl, hp⟩ := hasSh_st.1 hs
    simp only [getP] at hg
    simp only [atS] at ht
    split at hg
    · rename_i p hpi
      split at ht
      · rename_i s' hs'
        obtain ⟨s'', hs'', hh⟩ := hasShs_get hp i p hpi
        rw [hs'] at hs''; cases hs''
        have h1 := Rep.field hp h i p s' hpi hs'
        have h2 := Rep.at pa hh h1 hg ht
        have h3 := offS_le pa ht
        simp only [offS, hs']
        rw [List.drop_take, List.take_take, List.drop_drop, Nat.min_eq_left (by omega)] at h2
        exact h2
      · cases ht
    · cases hg

/-- One element is another one then. -/
theorem Rep.elem_set {w : World} {loc : Loc} {N : Nat} {e : Shape} : ∀ {ps : List AV} {cs ds : List Value} {v : AV}, (∀ p ∈ ps, HasSh e p) → Rep w loc N cs (.agg ps) → ∀ (i : Nat), i < ps.length →
    Rep w loc N ds v → ds.length = e.size → Rep w loc N (cs.take (i * e.size) ++ ds ++ cs.drop (i * e.size + e.size)) (.agg (ps.set i v))
  | [], cs, ds, v, hp, h, i, hi, hv, hd => by simp at hi
  | q :: ps, cs, ds, v, hp, h, 0, hi, hv, hd => by
    obtain ⟨xs, ys, rfl, h1, h2⟩ := h.cons_inv
    have e1 := Rep.size e (hp q (by simp)) h1
    simp only [Nat.zero_mul, List.take_zero, List.nil_append, Nat.zero_add, List.set_cons_zero]
    rw [← e1, List.drop_left]
    exact .agg _ _ _ _ hv h2
  | q :: ps, cs, ds, v, hp, h, i + 1, hi, hv, hd => by
    obtain ⟨xs, ys, rfl, h1, h2⟩ := h.cons_inv
    have e1 := Rep.size e (hp q (by simp)) h1
    have := Rep.elem_set (fun x hx => hp x (by simp [hx])) h2 i (by simpa using hi) hv hd
    have e2 : (i + 1) * e.size = xs.length + i * e.size := by rw [e1, Nat.add_mul]; omega
    rw [List.set_cons_succ, e2, List.take_length_add_append, Nat.add_assoc, List.drop_length_add_append, List.append_assoc, List.append_assoc, ← List.append_assoc _ ds]
    exact .agg _ _ _ _ h1 this

theorem Rep.field_set {w : World} {loc : Loc} {N : Nat} : ∀ {l : List Shape} {ps : List AV} {cs ds : List Value} {v : AV}, HasShs l ps → Rep w loc N cs (.agg ps) → ∀ (i : Nat) (s : Shape), l[i]? = some s →
    Rep w loc N ds v → ds.length = s.size → Rep w loc N (cs.take (Shape.sizes (l.take i)) ++ ds ++ cs.drop (Shape.sizes (l.take i) + s.size)) (.agg (ps.set i v))
  | [], ps, cs, ds, v, hp, h, i, s, hs, hv, hd => by simp at hs
  | t :: l, [], cs, ds, v, hp, h, i, s, hs, hv, hd => by simp [HasShs] at hp
  | t :: l, q :: ps, cs, ds, v, hp, h, 0, s, hs, hv, hd => by
    simp at hs; subst hs
    obtain ⟨xs, ys, rfl, h1, h2⟩ := h.cons_inv
    have e1 := Rep.size t (hasShs_cons.1 hp).1 h1
    simp only [List.take_zero, Shape.sizes_nil, List.nil_append, Nat.zero_add, List.set_cons_zero]
    rw [← e1, List.drop_left]
    exact .agg _ _ _ _ hv h2
  | t :: l, q :: ps, cs, ds, v, hp, h, i + 1, s, hs, hv, hd => by
    simp at hs
    obtain ⟨xs, ys, rfl, h1, h2⟩ := h.cons_inv
    have e1 := Rep.size t (hasShs_cons.1 hp).1 h1
    have := Rep.field_set (hasShs_cons.1 hp).2 h2 i s hs hv hd
    rw [List.set_cons_succ, List.take_succ_cons, Shape.sizes_cons, ← e1, List.take_length_add_append, Nat.add_assoc, List.drop_length_add_append, List.append_assoc, List.append_assoc, ← List.append_assoc _ ds]
    exact .agg _ _ _ _ h1 this

/-- A part's cells laid into the whole's. -/
theorem splice_in (cs ds : List Value) (a z o t : Nat) (h : o + t ≤ z) (_hz : a + z ≤ cs.length) (hd : ds.length = t) :
    cs.take a ++ (((cs.drop a).take z).take o ++ ds ++ ((cs.drop a).take z).drop (o + t)) ++ cs.drop (a + z) = cs.take (a + o) ++ ds ++ cs.drop (a + o + t) := by
  subst hd
  rw [List.take_take, Nat.min_eq_left (by omega), List.drop_take, List.drop_drop, List.take_add]
  simp only [List.append_assoc]
  congr 3
  have h1 := List.take_append_drop (z - (o + ds.length)) (cs.drop (a + (o + ds.length)))
  rw [List.drop_drop, show a + (o + ds.length) + (z - (o + ds.length)) = a + z by omega] at h1
  rw [Nat.add_assoc]
  exact h1

theorem Rep.set_at {w : World} {loc : Loc} {N : Nat} : ∀ (pa : List Nat) {s t : Shape} {a v a' : AV} {cs ds : List Value}, HasSh s a → Rep w loc N cs a → setP a pa v = some a' → atS s pa = some t →
    Rep w loc N ds v → HasSh t v → Rep w loc N (cs.take (offS s pa) ++ ds ++ cs.drop (offS s pa + t.size)) a'
  | [], s, t, a, v, a', cs, ds, hs, h, hg, ht, hv, hsv => by
    simp [setP] at hg; simp [atS] at ht; subst hg; subst ht
    simp only [offS, List.take_zero, List.nil_append, Nat.zero_add]
    rw [List.drop_of_length_le (by rw [h.size s hs]; exact Nat.le_refl _), List.append_nil]
    exact hv
  | i :: pa, .leaf, t, a, v, a', cs, ds, hs, h, hg, ht, hv, hsv => by simp [atS] at ht
  | i :: pa, .arr n e, t, a, v, a', cs, ds, hs, h, hg, ht, hv, hsv => by
    obtain ⟨ps, rfl, hl, hp⟩ := hasSh_arr.1 hs
    simp only [setP] at hg
    simp only [atS] at ht
    split at hg
    · rename_i p hpi
      split at ht
      · rename_i hin
        cases hsp : setP p pa v with
        | none => simp [hsp] at hg
        | some p' =>
          simp [hsp] at hg
          subst hg
          have hpe := hp p (List.mem_of_getElem? hpi)
          have h1 := Rep.elem hp h i p hpi
          have h2 := Rep.set_at pa hpe h1 hsp ht hv hsv
          have hdl := hv.size t hsv
          have h3 := offS_le pa ht
          have hcl := h.size (.arr n e) hs
          have hm := mul_size_le (z := e.size) hin
          simp only [Shape.size_arr] at hcl
          have h4 := Rep.elem_set hp h i (by omega) h2 (by simp only [List.length_append, List.length_take, List.length_drop]; omega)
          rw [splice_in cs ds (i * e.size) e.size (offS e pa) t.size h3 (by omega) hdl] at h4
          exact h4
      · cases ht
    · cases hg
  | i :: pa, .st l, t, a, v, a', cs, ds, hs, h, hg, ht, hv, hsv => by
    obtain ⟨ps, rfl, hp⟩ := hasSh_st.1 hs
    simp only [setP] at hg
    simp only [atS] at ht
    split at hg
    · rename_i p hpi
      split at ht
      · rename_i s' hs'
        obtain ⟨s'', hs'', hh⟩ := hasShs_get hp i p hpi
        rw [hs'] at hs''; cases hs''
        cases hsp : setP p pa v with
        | none => simp [hsp] at hg
        | some p' =>
          simp [hsp] at hg
          subst hg
          have h1 := Rep.field hp h i p s' hpi hs'
          have h2 := Rep.set_at pa hh h1 hsp ht hv hsv
          have hdl := hv.size t hsv
          have h3 := offS_le pa ht
          have hcl := h.sizes l hp
          have hm := sizes_take_le hs'
          have h4 := Rep.field_set hp h i s' hs' h2 (by simp only [List.length_append, List.length_take, List.length_drop]; omega)
          rw [splice_in cs ds (Shape.sizes (l.take i)) s'.size (offS s' pa) t.size h3 (by omega) hdl] at h4
          simp only [offS, hs']
          exact h4
      · cases ht
    · cases hg

/-! What a value's reading says -/
section
variable {w : World} {loc : Loc} {N : Nat} {cs : List Value}
theorem Rep.bool_inv {b : Bool} (h : Rep w loc N cs (.bool b)) : cs = [.bool b] := by cases h; rfl
theorem Rep.u8_inv {x : BitVec 8} (h : Rep w loc N cs (.u8 x)) : cs = [.int .u8 x.toNat] := by cases h; rfl
theorem Rep.u16_inv {x : BitVec 16} (h : Rep w loc N cs (.u16 x)) : cs = [.int .u16 x.toNat] := by cases h; rfl
theorem Rep.u32_inv {x : BitVec 32} (h : Rep w loc N cs (.u32 x)) : cs = [.int .u32 x.toNat] := by cases h; rfl
theorem Rep.u64_inv {x : BitVec 64} (h : Rep w loc N cs (.u64 x)) : cs = [.int .u64 x.toNat] := by cases h; rfl
theorem Rep.int_inv {x : Int} (h : Rep w loc N cs (.int x)) : cs = [.int .i64 x] ∧ InR x := by
  cases h with
  | int _ h => exact ⟨rfl, h⟩
theorem Rep.str_inv {l : List (BitVec 8)} (h : Rep w loc N cs (.str l)) : ∃ s : ByteArray, cs = [.string s] ∧ s.data.toList.map UInt8.toBitVec = l ∧ l.length ≤ maxLen := by
  cases h with
  | str s _ h h' => exact ⟨s, rfl, h, h'⟩
theorem Rep.nilp_inv (h : Rep w loc N cs .nilp) : cs = [.pointer none] := by cases h; rfl
theorem Rep.nils_inv (h : Rep w loc N cs .nils) : cs = [.slice none 0 0] := by cases h; rfl
theorem Rep.nilf_inv (h : Rep w loc N cs .nilf) : cs = [.nilFunc] := by cases h; rfl
theorem Rep.ro_inv {e : Shape} {xs : List AV} (h : Rep w loc N cs (.ro e xs)) : (∃ a cap, cs = [.slice a 0 cap] ∧ xs = []) ∨
    ∃ k o n cap c t fr ds, cs = [.slice (some ⟨k, o, none⟩) n cap] ∧ w.heap[k]? = some (.cells c t fr) ∧ NotOwn loc k ∧ (c.toList.drop o).take ds.length = ds ∧ Rep w loc N ds (.agg xs) ∧ xs.length = n ∧ n ≤ cap ∧ n ≤ maxLen ∧
      (∀ x ∈ xs, HasSh e x) := by
  cases h with
  | ro0 a cap => exact .inl ⟨a, cap, rfl, rfl⟩
  | ro k o n cap c t fr _ _ ds h1 h2 h3 h4 h5 h6 h7 h8 => exact .inr ⟨k, o, n, cap, c, t, fr, ds, rfl, h1, h2, h3, h4, h5, h6, h7, h8⟩
theorem Rep.rp_inv {s : Shape} {a : AV} (h : Rep w loc N cs (.rp s a)) : ∃ k o c t fr ds, cs = [.pointer (some ⟨k, o, none⟩)] ∧ w.heap[k]? = some (.cells c t fr) ∧ NotOwn loc k ∧ (c.toList.drop o).take ds.length = ds ∧
    Rep w loc N ds a ∧ HasSh s a := by
  cases h with
  | rp k o c t fr _ _ ds h1 h2 h3 h4 h5 => exact ⟨k, o, c, t, fr, ds, rfl, h1, h2, h3, h4, h5⟩
theorem Rep.own_inv {b ver : Nat} {pa : List Nat} {off n : Nat} {e : Shape} (h : Rep w loc N cs (.own b ver pa off n e)) : ∃ ad cap, cs = [.slice ad n cap] ∧ b < N ∧ (∀ l, loc b = some l → ver ≤ l.ver) ∧ n ≤ cap ∧ (0 < n → ∃ k o, ad = some ⟨k, o, none⟩) ∧ n ≤ maxLen ∧
    (∀ l, loc b = some l → l.ver = ver → OwnAt l pa off n e (.slice ad n cap)) := by
  cases h with
  | own _ _ _ _ _ _ ad cap h1 h2 h3 h4 h5 h6 => exact ⟨ad, cap, rfl, h1, h2, h3, h4, h5, h6⟩
theorem Rep.ptr_inv {b ver : Nat} {pa : List Nat} {s : Shape} (h : Rep w loc N cs (.ptr b ver pa s)) : ∃ k o, cs = [.pointer (some ⟨k, o, none⟩)] ∧ b < N ∧ (∀ l, loc b = some l → ver ≤ l.ver) ∧
    (∀ l, loc b = some l → l.ver = ver → PtrAt l pa s (.pointer (some ⟨k, o, none⟩))) := by
  cases h with
  | ptr _ _ _ _ k o h1 h2 h3 => exact ⟨k, o, rfl, h1, h2, h3⟩
theorem Rep.fn_inv {f : FuncId} {cap : List AV} (h : Rep w loc N cs (.fn f cap)) : ∃ vs : List Value, cs = [.func (.func f) #[] vs.toArray] ∧ vs.length = cap.length ∧ (∀ c ∈ cap, c.isCell = true) ∧ Rep w loc N vs (.agg cap) := by
  cases h with
  | fn _ _ vs h1 h2 h3 => exact ⟨vs, rfl, h1, h2, h3⟩
end

end Go.V
