import Derived.Test.YtjilenmngokhpaaDoorV8
/- The quiet operations in a world. -/
namespace Go.V
open Go

def isAggD : TypeDesc → Bool
  | .struct _ | .array _ _ => true
  | _ => false

def Shape.isAgg : Shape → Bool
  | .leaf => false
  | _ => true

structure TyOk (P : Program) (t : TypeId) (s : Shape) : Prop where
  info : ∃ i, P.info? t = some i ∧ i.size = s.size
  un : ∃ d, P.underlying t = some d ∧ isAggD d = s.isAgg

section
variable {P : Program} {w : World} {loc : Loc} {N : Nat}

theorem TyOk.run_size {t : TypeId} {s : Shape} (h : TyOk P t s) : (sizeOf t).run P w = .ok s.size w := by
  obtain ⟨i, hi, hs⟩ := h.info
  simp [sizeOf, typeInfo, hi, hs]

theorem TyOk.run_agg {t : TypeId} {s : Shape} (h : TyOk P t s) : (isAgg t).run P w = .ok s.isAgg w := by
  obtain ⟨d, hd, hs⟩ := h.un
  unfold isAgg
  rw [Sem.run_bind, run_underlying hd w]
  cases d <;> simp_all [isAggD]

/-- A value out of its cells. -/
theorem repV_of_cells {s : Shape} {a : AV} {cs : List Value} (hs : HasSh s a) (hr : Rep w loc N cs a) : (s.isAgg = true → RepV w loc N (.agg cs.toArray) a) ∧ (s.isAgg = false → ∃ v, cs = [v] ∧ RepV w loc N v a) := by
  cases s with
  | leaf =>
    refine ⟨fun h => by simp [Shape.isAgg] at h, fun _ => ?_⟩
    obtain ⟨v, rfl⟩ := hr.cell (hasSh_leaf.1 hs)
    exact ⟨v, rfl, .cell v a (hasSh_leaf.1 hs) hr⟩
  | arr n e =>
    obtain ⟨ps, rfl, _⟩ := hasSh_arr.1 hs
    exact ⟨fun _ => .agg cs ps hr, fun h => by simp [Shape.isAgg] at h⟩
  | st l =>
    obtain ⟨ps, rfl, _⟩ := hasSh_st.1 hs
    exact ⟨fun _ => .agg cs ps hr, fun h => by simp [Shape.isAgg] at h⟩

theorem loadVar_run {t : TypeId} {s : Shape} (ht : TyOk P t s) {k o : Nat} {c : Array Value} {te : TypeId} {fr : Nat × Nat} {cs : List Value} {a : AV} (hk : w.heap[k]? = some (.cells c te fr))
    (htk : (c.toList.drop o).take cs.length = cs) (hr : Rep w loc N cs a) (hs : HasSh s a) : ∃ v, (loadVar t ⟨k, o, none⟩).run P w = .ok v w ∧ RepV w loc N v a := by
  have hcell := cell_of_seg hk htk
  obtain ⟨h1, h2⟩ := repV_of_cells hs hr
  have hlen := hr.size s hs
  unfold loadVar
  rw [Sem.run_bind, ht.run_agg]
  simp only [Result.andThen_ok]
  cases hb : s.isAgg with
  | true =>
    refine ⟨_, ?_, h1 hb⟩
    simp only [if_true, Sem.run_bind, ht.run_size, Result.andThen_ok]
    rw [← hlen, run_loadCells_list w _ cs hcell]
    simp
  | false =>
    obtain ⟨v, rfl, hv⟩ := h2 hb
    refine ⟨v, ?_, hv⟩
    have := hcell 0 v rfl
    rw [add_plain, Nat.add_zero] at this
    simp [this]

theorem part_run {t : TypeId} {s : Shape} (ht : TyOk P t s) {cs : Array Value} {o : Nat} {a : AV} (hr : Rep w loc N ((cs.toList.drop o).take s.size) a) (hs : HasSh s a) :
    ∃ v, (part t cs o).run P w = .ok v w ∧ RepV w loc N v a := by
  obtain ⟨h1, h2⟩ := repV_of_cells hs hr
  unfold part
  rw [Sem.run_bind, ht.run_agg]
  simp only [Result.andThen_ok]
  cases hb : s.isAgg with
  | true =>
    refine ⟨_, ?_, h1 hb⟩
    simp only [if_true, Sem.run_bind, ht.run_size, Result.andThen_ok, Sem.run_pure]
    congr 2
    apply Array.ext'
    simp only [Array.toList_extract, List.extract_eq_take_drop]
    congr 1
    omega
  | false =>
    obtain ⟨v, hv, hv'⟩ := h2 hb
    refine ⟨v, ?_, hv'⟩
    have hsz : s.size = 1 := by cases s <;> simp [Shape.isAgg] at hb; simp
    rw [hsz] at hv
    have : cs[o]? = some v := by
      have h3 := congrArg (·[0]?) hv
      simpa [List.getElem?_take, List.getElem?_drop] using h3
    simp [this]

theorem run_value {α : Type} (s : Sem Value) (v : Value) (f : Value → α) (h : s.run P w = .ok v w) : (do let x ← s; pure (f x) : Sem α).run P w = .ok (f v) w := by
  simp [h]

/-- Which of Go's operations is which of ours, and what must hold of the program's types. -/
inductive QOp (P : Program) : Op → Q → List Operand → Prop
  | move (x : Operand) : QOp P (.move x) .mv [x]
  | assign (x : Operand) : QOp P (.assign x) .mv [x]
  | nilc (x : Operand) : QOp P (.nilCheck x) .nilc [x]
  | pick (c a b : Operand) : QOp P (.pick c a b) .pick [c, a, b]
  | bin (op : BinOp) (t : TypeId) (x y : Operand) (yt : TypeId) : QOp P (.binOp op t x y yt) (.bin op) [x, y]
  | eqB (t : TypeId) (x y : Operand) (yt : TypeId) : P.underlying t = some .bool → QOp P (.binOp .eql t x y yt) (.eqB false) [x, y]
  | neB (t : TypeId) (x y : Operand) (yt : TypeId) : P.underlying t = some .bool → QOp P (.binOp .neq t x y yt) (.eqB true) [x, y]
  | eqP (t e : TypeId) (x y : Operand) (yt : TypeId) : P.underlying t = some (.pointer e) → QOp P (.binOp .eql t x y yt) (.eqP false) [x, y]
  | neP (t e : TypeId) (x y : Operand) (yt : TypeId) : P.underlying t = some (.pointer e) → QOp P (.binOp .neq t x y yt) (.eqP true) [x, y]
  | eqA (t e : TypeId) (n : Nat) (k : IntKind) (x y : Operand) (yt : TypeId) : P.underlying t = some (.array n e) → P.underlying e = some (.int k) → TyOk P e .leaf → P.eqGuardType P.depth t = false → QOp P (.binOp .eql t x y yt) (.eqA false n k) [x, y]
  | neA (t e : TypeId) (n : Nat) (k : IntKind) (x y : Operand) (yt : TypeId) : P.underlying t = some (.array n e) → P.underlying e = some (.int k) → TyOk P e .leaf → P.eqGuardType P.depth t = false → QOp P (.binOp .neq t x y yt) (.eqA true n k) [x, y]
  | un (op : UnOp) (t : TypeId) (x : Operand) : QOp P (.unOp op t x) (.un op) [x]
  | cv (src dst : TypeId) (d : TypeDesc) (k : IntKind) (x : Operand) : P.underlying src = some d → P.underlying dst = some (.int k) → QOp P (.convert src dst x) (.cv k) [x]
  | cs (src dst : TypeId) (d : TypeDesc) (x : Operand) : P.underlying src = some d → P.underlying dst = some .string → QOp P (.convert src dst x) .cs [x]
  | b2s (src dst e : TypeId) (x : Operand) : P.underlying src = some (.slice e) → P.underlying e = some (.int .u8) → P.underlying dst = some .string → QOp P (.convert src dst x) .b2s [x]
  | ext (x : Operand) (i : Nat) : QOp P (.extract x i) (.ext i) [x]
  | fld (t : TypeId) (fs : Array Field) (l : List Shape) (f : Nat) (fd : Field) (s : Shape) (x : Operand) : P.underlying t = some (.struct fs) → fs[f]? = some fd → l[f]? = some s → fd.offset = Shape.sizes (l.take f) → TyOk P fd.type s →
      QOp P (.field t x f) (.fld l f) [x]
  | idx (t e : TypeId) (n : Nat) (s : Shape) (x i : Operand) : P.underlying t = some (.array n e) → TyOk P e s → QOp P (.index t x i) (.idx n s) [x, i]
  | idxS (t : TypeId) (x i : Operand) : P.underlying t = some .string → QOp P (.index t x i) .idxS [x, i]
  | iaA (t e : TypeId) (n : Nat) (s : Shape) (x i : Operand) : P.underlying t = some (.array n e) → TyOk P e s → QOp P (.indexAddr t x i) (.iaA n s) [x, i]
  | iaS (t e : TypeId) (s : Shape) (x i : Operand) : P.underlying t = some (.slice e) → TyOk P e s → QOp P (.indexAddr t x i) (.iaS s) [x, i]
  | fa (t : TypeId) (fs : Array Field) (l : List Shape) (f : Nat) (fd : Field) (s : Shape) (x : Operand) : P.underlying t = some (.struct fs) → fs[f]? = some fd → l[f]? = some s → fd.offset = Shape.sizes (l.take f) → TyOk P fd.type s → 0 < s.size →
      QOp P (.fieldAddr t x f) (.fa l f) [x]
  | ld (t : TypeId) (s : Shape) (x : Operand) : TyOk P t s → QOp P (.load t x) (.ld s) [x]
  | lenS (t : TypeId) (x : Operand) : P.underlying t = some .string → QOp P (.call ⟨.builtin .len, #[x], #[t]⟩) .lenS [x]
  | len (t e : TypeId) (x : Operand) : P.underlying t = some (.slice e) → QOp P (.call ⟨.builtin .len, #[x], #[t]⟩) .len [x]
  | lenA (t e : TypeId) (n : Nat) (x : Operand) : P.underlying t = some (.array n e) → QOp P (.call ⟨.builtin .len, #[x], #[t]⟩) (.lenA n) [x]
  | slS (t : TypeId) (x : Operand) (lo hi : Option Operand) : P.underlying t = some .string → QOp P (.slice t x lo hi none) (.slS lo.isSome hi.isSome) (x :: (lo.toList ++ hi.toList))
  | slV (t e : TypeId) (s : Shape) (x : Operand) (lo hi : Option Operand) : P.underlying t = some (.slice e) → TyOk P e s → QOp P (.slice t x lo hi none) (.slV s lo.isSome hi.isSome) (x :: (lo.toList ++ hi.toList))
  | slA (t e : TypeId) (n : Nat) (s : Shape) (x : Operand) (lo hi : Option Operand) : P.underlying t = some (.array n e) → TyOk P e s → QOp P (.slice t x lo hi none) (.slA n s lo.isSome hi.isSome) (x :: (lo.toList ++ hi.toList))
  | mkf (f : FuncId) (caps : Array Operand) : QOp P (.makeFunc (.func f) #[] caps) (.mkf f) caps.toList

end
end Go.V
