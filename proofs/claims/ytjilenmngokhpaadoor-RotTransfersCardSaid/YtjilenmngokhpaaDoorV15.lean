import Derived.Test.YtjilenmngokhpaaDoorV14
/- Each operation that makes or writes memory. -/
namespace Go.V
open Go

/-- the struct's fields lie as the shapes say -/
def FieldsOk (P : Program) (fs : Array Field) (l : List Shape) : Prop :=
  fs.size = l.length ∧ ∀ i fd s, fs[i]? = some fd → l[i]? = some s → fd.offset = Shape.sizes (l.take i) ∧ TyOk P fd.type s

/-- Which of Go's operations is which of ours. -/
inductive EOp (P : Program) : Op → E → List Operand → Prop
  | alloc (t : TypeId) (s : Shape) (z : AV) : ZeroOk P t s z → EOp P (.alloc t) (.alloc t s z) []
  | box (t : TypeId) (s : Shape) (x : Operand) : EOp P (.box t x) (.box t s) [x]
  | store (t : TypeId) (s : Shape) (a x : Operand) : TyOk P t s → EOp P (.store t a x) (.store s) [a, x]
  | mksl (t e : TypeId) (s : Shape) (z : AV) (i : TypeInfo) (by_ : Nat) (l c : Operand) : P.underlying t = some (.slice e) → P.info? e = some i → i.bytes = by_ → ZeroOk P e s z → EOp P (.makeSlice t l c) (.mksl e s by_ z) [l, c]
  | bsl (t e : TypeId) (s : Shape) (z : AV) (len : Nat) (parts : List (Nat × Operand)) : P.underlying t = some (.slice e) → ZeroOk P e s z → 0 < s.size → EOp P (.buildSlice t len parts.toArray) (.bsl e s z len (parts.map (·.1))) (parts.map (·.2))
  | bldS (t : TypeId) (fs : Array Field) (l : List Shape) (z : AV) (parts : List (Nat × Operand)) : P.underlying t = some (.struct fs) → FieldsOk P fs l → ZeroOk P t (.st l) z → EOp P (.build t parts.toArray) (.bld (.st l) z (parts.map (·.1))) (parts.map (·.2))
  | bldA (t e : TypeId) (n : Nat) (s : Shape) (z : AV) (parts : List (Nat × Operand)) : P.underlying t = some (.array n e) → TyOk P e s → ZeroOk P t (.arr n s) z → EOp P (.build t parts.toArray) (.bld (.arr n s) z (parts.map (·.1))) (parts.map (·.2))
  | app (t t2 e e2 : TypeId) (s : Shape) (z : AV) (i : TypeInfo) (by_ : Nat) (d x : Operand) : P.underlying t = some (.slice e) → P.underlying t2 = some (.slice e2) → P.info? e = some i → i.bytes = by_ → ZeroOk P e s z →
      EOp P (.call ⟨.builtin .append, #[d, x], #[t, t2]⟩) (.app e s by_) [d, x]
  | appS (t t2 e : TypeId) (z : AV) (i : TypeInfo) (d x : Operand) : P.underlying t = some (.slice e) → P.underlying t2 = some .string → P.info? e = some i → i.bytes = 1 → ZeroOk P e .leaf z →
      EOp P (.call ⟨.builtin .append, #[d, x], #[t, t2]⟩) (.appS e) [d, x]
  | cpy (t t2 e e2 : TypeId) (s : Shape) (d x : Operand) : P.underlying t = some (.slice e) → P.underlying t2 = some (.slice e2) → TyOk P e s → EOp P (.call ⟨.builtin .copy, #[d, x], #[t, t2]⟩) (.cpy s) [d, x]
  | cpyS (t t2 e : TypeId) (d x : Operand) : P.underlying t = some (.slice e) → P.underlying t2 = some .string → TyOk P e .leaf → EOp P (.call ⟨.builtin .copy, #[d, x], #[t, t2]⟩) .cpyS [d, x]
  | s2b (src dst e : TypeId) (x : Operand) : P.underlying src = some .string → P.underlying dst = some (.slice e) → P.underlying e = some (.int .u8) → EOp P (.convert src dst x) (.s2b e) [x]

section
variable {P : Program} {w : World} {loc : Loc} {H : Heap}

theorem ZeroOk.tyOk_size {t : TypeId} {s : Shape} {z : AV} (h : ZeroOk P t s z) : ∃ i v, P.info? t = some i ∧ i.zero = some v ∧ i.size = s.size ∧ v.cells.size = s.size ∧ (∀ w loc N, Rep w loc N v.cells.toList z) := by
  obtain ⟨i, v, h1, h2, h3, h4⟩ := h.ex
  have := (h4 default (fun _ => none) 0).size s h.sh
  exact ⟨i, v, h1, h2, h3, by simpa using this, h4⟩

theorem cells_len {N : Nat} {e : Shape} {xs : List AV} {cs : List Value} (hs : ∀ x ∈ xs, HasSh e x) (hr : Rep w loc N cs (.agg xs)) : cs.length = xs.length * e.size := by
  have := hr.size (.arr xs.length e) (hasSh_arr_agg.2 ⟨rfl, hs⟩)
  simpa using this

/-- what is appended or copied: a slice's elements -/
theorem src_slice (hI : HeapInv w loc H) {v : Value} {a : AV} {xs : List AV} {e : Shape} (hv : RepV w loc H.length v a) (hr : rd H a = some xs) (hs : ∀ x ∈ xs, HasSh e x) (m : Nat) (hm : m ≤ xs.length) :
    ∃ news : List Value, Rep w loc H.length news (.agg (xs.take m)) ∧ (∀ w', w'.heap = w.heap → (Builtin.lenOf v).run P w' = .ok xs.length w') ∧ (∀ w', w'.heap = w.heap → (Builtin.firstCells e.size m v).run P w' = .ok news.toArray w') := by
  have hc : a.isCell = true := by cases a <;> simp_all [rd, AV.isCell]
  obtain ⟨ad, n, cap, rfl, hn, -, sh, hsh, hcells⟩ := rd_cells hI (hv.rep hc) hr
  subst hn
  have hlen : ∀ w', w'.heap = w.heap → (Builtin.lenOf (.slice ad xs.length cap)).run P w' = .ok xs.length w' := fun w' _ => by simp [Builtin.lenOf]
  by_cases h0 : xs.length = 0
  · have hx : xs = [] := List.eq_nil_of_length_eq_zero h0
    subst hx
    have hm0 : m = 0 := by simpa using hm
    subst hm0
    refine ⟨[], by simpa using Rep.agg0, hlen, fun w' _ => ?_⟩
    cases ad with
    | none => simp [Builtin.firstCells]
    | some ad => simp [Builtin.firstCells, loadCells, loadCellsFrom]
  · obtain ⟨k, o, c, t, fr, cs, rfl, hk, htk, hrep⟩ := hcells (by omega)
    have hcl := cells_len hs hrep
    have hmul : m * e.size ≤ xs.length * e.size := Nat.mul_le_mul_right _ hm
    have htake : ∀ (n : Nat) (ps : List AV) (cs : List Value), (∀ p ∈ ps, HasSh e p) → Rep w loc H.length cs (.agg ps) → n ≤ ps.length → Rep w loc H.length (cs.take (n * e.size)) (.agg (ps.take n)) := by
      intro n
      induction n with
      | zero => intro ps cs _ h _; simpa using Rep.agg0
      | succ n ih =>
        intro ps cs hp h hle
        cases ps with
        | nil => simp at hle
        | cons p ps =>
          obtain ⟨xs, ys, rfl, h1, h2⟩ := h.cons_inv
          have e1 := Rep.size e (hp p (by simp)) h1
          rw [show (n + 1) * e.size = xs.length + n * e.size by rw [e1, Nat.add_mul]; omega, List.take_length_add_append, List.take_succ_cons]
          exact .agg _ _ _ _ h1 (ih ps ys (fun q hq => hp q (by simp [hq])) h2 (by simpa using hle))
    have h1 := htake m xs cs hs hrep hm
    have hnl : (cs.take (m * e.size)).length = m * e.size := by simp; omega
    refine ⟨_, h1, hlen, fun w' hw' => ?_⟩
    refine run_firstCells_some w' e.size m ⟨k, o, none⟩ xs.length cap _ hnl ?_
    refine cell_of_seg (w := w') (by rw [hw']; exact hk) ?_
    rw [hnl]
    have := congrArg (List.take (m * e.size)) htk
    rw [List.take_take, Nat.min_eq_left (by omega)] at this
    exact this

theorem src_str {N : Nat} {v : Value} {l : List (BitVec 8)} (hv : RepV w loc N v (.str l)) (m : Nat) :
    ∃ news : List Value, Rep w loc N news (.agg ((l.map AV.u8).take m)) ∧ (∀ w' : World, (Builtin.lenOf v).run P w' = .ok l.length w') ∧ (∀ w' : World, (Builtin.firstCells 1 m v).run P w' = .ok news.toArray w') := by
  obtain ⟨s, hs, hl, hmx⟩ := (hv.rep rfl).str_inv
  simp at hs; subst hs
  have hsz := size_of_bytes hl
  have hrep : ∀ (l : List (BitVec 8)), Rep w loc N (l.map fun x => .int .u8 (x.toNat : Int)) (.agg (l.map AV.u8)) := by
    intro l
    induction l with
    | nil => exact .agg0
    | cons x l ih => simpa using Rep.agg [.int .u8 (x.toNat : Int)] _ (.u8 x) _ (.u8 x) ih
  refine ⟨(l.take m).map fun x => .int .u8 (x.toNat : Int), ?_, fun w' => by simp [Builtin.lenOf, hsz], fun w' => ?_⟩
  · rw [← List.map_take]; exact hrep _
  · simp only [Builtin.firstCells, Sem.run_pure]
    congr 1
    apply Array.ext'
    rw [Array.toList_map, ByteArray.data_extract, Array.toList_extract, List.extract_eq_take_drop, Nat.sub_zero, List.drop_zero, ← hl, ← List.map_take, List.map_map]
    rfl

theorem alloc_run {t : TypeId} {s : Shape} {z : AV} (h : ZeroOk P t s z) (hI : HeapInv w loc H) :
    ∃ v w' loc', (Instr.alloc t true (.tuple #[])).run P w = .ok v w' ∧ HeapInv w' loc' (H ++ [some ⟨t, 0, false, .arr 1 s, .agg [z]⟩]) ∧ Ext w loc H.length w' loc' ∧ RepV w' loc' (H.length + 1) v (.ptr H.length 0 [0] s) := by
  obtain ⟨i, u, h1, h2, h3, h4, h5⟩ := h.tyOk_size
  obtain ⟨loc', g1, g2, g3⟩ := var_new hI t (h5 w loc H.length) h.sh
  exact ⟨_, _, loc', by simp [Instr.alloc, zeroValue, typeInfo, h1, h2, newVar, newRow], g1, g2, .cell _ _ rfl g3⟩

theorem mksl_run {t e : TypeId} {s : Shape} {z : AV} {ti : TypeInfo} (ht : P.underlying t = some (.slice e)) (hti : P.info? e = some ti) (h : ZeroOk P e s z) (hI : HeapInv w loc H) {kl kc : IntKind} {l c : Int} (h0 : 0 ≤ l) (h1 : l ≤ c)
    (h2 : (ti.bytes : Int) * c ≤ 281474976710656) (h3 : c ≤ 9223372036854775807) :
    ∃ v w' loc', (Instr.makeSlice t (.int kl l) (.int kc c)).run P w = .ok v w' ∧ HeapInv w' loc' (H ++ [some ⟨e, 0, true, .arr l.toNat s, .agg (List.replicate l.toNat z)⟩]) ∧ Ext w loc H.length w' loc' ∧
      RepV w' loc' (H.length + 1) v (.own H.length 0 [] 0 l.toNat s) := by
  obtain ⟨i, u, g1, g2, g3, g4, g5⟩ := h.tyOk_size
  rw [hti] at g1; cases g1
  have hrun := run_make (P := P) w t e ti u ht hti g2 kl kc l c h0 h1 h2 h3
  rw [g3, ← g4] at hrun
  have hrep := rep_replicate (g5 w loc H.length) l.toNat
  have hlen : (List.replicate l.toNat u.cells.toList).flatten.length = l.toNat * u.cells.size := by simp
  obtain ⟨loc', r1, r2, r3⟩ := row_new (w' := w.alloc (.cells (madeCells u.cells (c.toNat * u.cells.size)) e)) (ver := 0) hI e (ps := List.replicate l.toNat z) (c := madeCells u.cells (c.toNat * u.cells.size))
    (cs := (List.replicate l.toNat u.cells.toList).flatten) (cap := c.toNat) (e := s) rfl rfl rfl rfl (by rw [hlen]; exact made_take u.cells l.toNat c.toNat (by omega)) hrep (fun p hp => by rw [(List.mem_replicate.1 hp).2]; exact h.sh)
    (by simp; omega) (by simp only [maxLen]; omega) (by rw [size_madeCells, g4])
  simp only [List.length_replicate] at r1 r2 r3
  exact ⟨_, _, loc', hrun, r1, r2, .cell _ _ rfl r3⟩

end
end Go.V
