import Derived.Test.YtjilenmngokhpaaDoorV11
import Derived.Laws.Pointers
/- Arrays of numbers compared; every quiet operation. -/
namespace Go.V
open Go

section
variable {P : Program} {w : World} {loc : Loc} {H : Heap}

def numD (x : AV) : Int := x.num.getD 0

theorem kind_cells {N : Nat} {k : IntKind} : ∀ {xs : List AV} {cs : List Value}, (∀ x ∈ xs, x.isKind k = true) → Rep w loc N cs (.agg xs) → cs = xs.map fun x => .int k (numD x)
  | [], cs, _, h => h.nil_inv
  | x :: xs, cs, hx, h => by
    obtain ⟨us, ys, rfl, h1, h2⟩ := h.cons_inv
    have e2 := kind_cells (fun y hy => hx y (by simp [hy])) h2
    have hk := hx x (by simp)
    have e1 : us = [.int k (numD x)] := by
      cases k <;> cases x <;> simp [AV.isKind] at hk
      · exact h1.int_inv.1
      · exact h1.u8_inv
      · exact h1.u16_inv
      · exact h1.u32_inv
      · exact h1.u64_inv
    rw [e1, e2]; rfl

theorem numD_inj {k : IntKind} {x y : AV} (hx : x.isKind k = true) (hy : y.isKind k = true) : numD x = numD y ↔ x = y := by
  refine ⟨fun h => ?_, fun h => by rw [h]⟩
  cases k <;> cases x <;> simp [AV.isKind] at hx <;> cases y <;> simp [AV.isKind] at hy <;> simp only [numD, AV.num, Option.getD_some] at h
  · rw [h]
  all_goals (congr 1; apply BitVec.eq_of_toNat_eq; omega)

open Classical in
theorem run_equal_nums (d : Nat) {t e : TypeId} {n : Nat} {k : IntKind} (ht : P.underlying t = some (.array n e)) (he : P.underlying e = some (.int k)) (hsz : TyOk P e .leaf) {xs ys : List AV} (hx : xs.length = n) (hy : ys.length = n)
    (kx : ∀ x ∈ xs, x.isKind k = true) (ky : ∀ y ∈ ys, y.isKind k = true) :
    (Op.equalIn (d + 2) t (.agg (xs.map fun x => .int k (numD x)).toArray) (.agg (ys.map fun x => .int k (numD x)).toArray)).run P w = .ok (decide (xs = ys)) w := by
  have hs := hsz.run_size (w := w)
  rw [Shape.size_leaf] at hs
  -- the comparison, place by place
  have hall : ∀ (m : Nat) (xs ys : List AV), xs.length = m → ys.length = m → (∀ x ∈ xs, x.isKind k = true) → (∀ y ∈ ys, y.isKind k = true) →
      ((List.range m).all fun i => decide (numD (xs.getD i .un) = numD (ys.getD i .un))) = decide (xs = ys) := by
    intro m
    induction m with
    | zero => intro xs ys h1 h2 _ _; simp [List.eq_nil_of_length_eq_zero h1, List.eq_nil_of_length_eq_zero h2]
    | succ m ih =>
      intro xs ys h1 h2 h3 h4
      cases xs with
      | nil => simp at h1
      | cons x xs =>
        cases ys with
        | nil => simp at h2
        | cons y ys =>
          have := ih xs ys (by simpa using h1) (by simpa using h2) (fun z hz => h3 z (by simp [hz])) (fun z hz => h4 z (by simp [hz]))
          rw [List.range_succ_eq_map, List.all_cons, List.all_map]
          simp only [List.getD_cons_zero, Function.comp_def, List.getD_cons_succ, this]
          rw [Bool.eq_iff_iff]
          simp [numD_inj (h3 x (by simp)) (h4 y (by simp))]
  rw [← hall n xs ys hx hy kx ky, List.range_eq_range', Op.equalIn]
  simp only [Sem.run_bind, run_underlying ht, Result.andThen_ok, hs, Std.Legacy.Range.forIn_eq_forIn_range', Std.Legacy.Range.size, Nat.sub_zero, Nat.add_sub_cancel, Nat.div_one]
  have hl : ∀ i ∈ List.range' 0 n 1, i < n := fun i hi => by simpa using (List.mem_range'_1.1 hi).2
  generalize List.range' 0 n 1 = l at hl ⊢
  induction l with
  | nil => simp
  | cons i l ih =>
    have hi : i < n := hl i (by simp)
    have px : (part e (xs.map fun x => Value.int k (numD x)).toArray (i * 1)).run P w = .ok (.int k (numD (xs.getD i .un))) w := by
      simp [part, isAgg, run_underlying he, List.getD, List.getElem?_eq_getElem (show i < xs.length by omega)]
    have py : (part e (ys.map fun x => Value.int k (numD x)).toArray (i * 1)).run P w = .ok (.int k (numD (ys.getD i .un))) w := by
      simp [part, isAgg, run_underlying he, List.getD, List.getElem?_eq_getElem (show i < ys.length by omega)]
    have pe : (Op.equalIn (d + 1) e (.int k (numD (xs.getD i .un))) (.int k (numD (ys.getD i .un)))).run P w = .ok (decide (numD (xs.getD i .un) = numD (ys.getD i .un))) w := by
      rw [run_equalIn_int w d e k k _ _ he]
      congr 1
    simp only [List.forIn_cons, Sem.run_bind, px, py, pe, Result.andThen_ok, List.all_cons]
    cases hb : decide (numD (xs.getD i .un) = numD (ys.getD i .un))
    · simp
    · simp only [Bool.not_true, Bool.false_eq_true, if_false, Sem.run_pure, Result.andThen_ok, Bool.true_and]
      exact ih fun j hj => hl j (by simp [hj])

theorem eqGuard_other (op : BinOp) (t : TypeId) (x y : Operand) (a b : Value) (hn : a ≠ .nilIface) (ha : ∀ cs, a ≠ .agg cs) : (eqGuard op t x y a b).run P w = .ok () w := by
  cases a <;> first | exact absurd rfl hn | exact absurd rfl (ha _) | (cases op <;> simp [eqGuard])

theorem binAV_val {N : Nat} {op : BinOp} {x y r : AV} {p : Prop} (h : binAV op x y = some (p, r)) {xv : Value} (hx : RepV w loc N xv x) : xv ≠ .nilIface ∧ ∀ cs, xv ≠ .agg cs := by
  cases x <;> simp only [binAV, reduceCtorEq] at h
  case u8 a => have e := (hx.rep rfl).u8_inv; simp at e; subst e; simp
  case u16 a => have e := (hx.rep rfl).u16_inv; simp at e; subst e; simp
  case u32 a => have e := (hx.rep rfl).u32_inv; simp at e; subst e; simp
  case u64 a => have e := (hx.rep rfl).u64_inv; simp at e; subst e; simp
  case int a => have e := (hx.rep rfl).int_inv.1; simp at e; subst e; simp
  case str a => obtain ⟨s, e, _⟩ := (hx.rep rfl).str_inv; simp at e; subst e; simp

theorem bvBin_cell {op : BinOp} {k : Nat} {mk : BitVec k → AV} {x y : BitVec k} {p : Prop} {r : AV} (hmk : ∀ z, (mk z).isCell = true) (h : bvBin op mk x y = some (p, r)) : r.isCell = true := by
  unfold bvBin at h
  split at h
  · simp only [Option.some.injEq, Prod.mk.injEq] at h; obtain ⟨-, rfl⟩ := h; exact hmk _
  · split at h
    · simp only [Option.some.injEq, Prod.mk.injEq] at h; obtain ⟨-, rfl⟩ := h; rfl
    · cases h

theorem bvSh_cell {op : BinOp} {k : Nat} {mk : BitVec k → AV} {x : BitVec k} {c : AV} {p : Prop} {r : AV} (hmk : ∀ z, (mk z).isCell = true) (h : bvSh op mk x c = some (p, r)) : r.isCell = true := by
  unfold bvSh at h
  split at h
  · cases h
  · split at h
    · simp only [Option.some.injEq, Prod.mk.injEq] at h; obtain ⟨-, rfl⟩ := h; exact hmk _
    · simp only [Option.some.injEq, Prod.mk.injEq] at h; obtain ⟨-, rfl⟩ := h; exact hmk _
    · cases h

theorem binAV_cell {op : BinOp} {x y r : AV} {p : Prop} (h : binAV op x y = some (p, r)) : r.isCell = true := by
  cases x <;> simp only [binAV, reduceCtorEq] at h
  case int a =>
    split at h
    · unfold intSh at h
      split at h
      · cases h
      · split at h
        · simp only [Option.some.injEq, Prod.mk.injEq] at h; obtain ⟨-, rfl⟩ := h; rfl
        · simp only [Option.some.injEq, Prod.mk.injEq] at h; obtain ⟨-, rfl⟩ := h; rfl
        · cases h
    · split at h
      · cases op <;> simp only [intBin, Option.some.injEq, Prod.mk.injEq, reduceCtorEq] at h <;> obtain ⟨-, rfl⟩ := h <;> rfl
      · cases h
  case str a =>
    split at h
    · split at h <;> simp only [Option.some.injEq, Prod.mk.injEq, reduceCtorEq] at h <;> obtain ⟨-, rfl⟩ := h <;> rfl
    · cases h
  all_goals
    split at h
    · exact bvSh_cell (fun _ => rfl) h
    · split at h
      · exact bvBin_cell (fun _ => rfl) h
      · cases h

theorem unAV_cell {op : UnOp} {x r : AV} {p : Prop} (h : unAV op x = some (p, r)) : r.isCell = true := by
  cases op <;> cases x <;> simp only [unAV, Option.some.injEq, Prod.mk.injEq, reduceCtorEq] at h <;> obtain ⟨-, rfl⟩ := h <;> rfl

theorem cvAV_cell {k : IntKind} {x r : AV} (h : cvAV k x = some r) : r.isCell = true := by
  cases k <;> cases x <;> simp only [cvAV, Option.some.injEq, reduceCtorEq] at h <;> subst h <;> rfl

theorem RepVs.one_of {N : Nat} {ev : Operand → Value} : ∀ {xs : List Operand} {as : List AV}, RepVs w loc N (xs.map ev) as → (∀ a ∈ as, a.isCell = true) → Rep w loc N (xs.map ev) (.agg as)
  | [], as, h, _ => by cases h; exact .agg0
  | x :: xs, as, h, hc => by
    cases h with
    | cons _ a _ as h1 h2 =>
      have := Rep.agg [ev x] (xs.map ev) a as (h1.rep (hc a (by simp))) (h2.one_of fun b hb => hc b (by simp [hb]))
      simpa using this

theorem RepVs.length {N : Nat} {vs : List Value} {as : List AV} (h : RepVs w loc N vs as) : vs.length = as.length := by
  induction h with
  | nil => rfl
  | cons _ _ _ _ _ _ ih => simp [ih]

theorem eql_nil {t e : TypeId} (ht : P.underlying t = some (.pointer e)) (z : Option Addr) : (binOp .eql t (.pointer z) (.pointer none)).run P w = .ok (.bool z.isNone) w ∧ (binOp .neq t (.pointer z) (.pointer none)).run P w = .ok (.bool (!z.isNone)) w := by
  have he : P.underlying t = some (.pointer (P.pointee t)) := by simp [Program.pointee, ht]
  have h := run_equal_pointer_nil w t z he
  exact ⟨by simp only [binOp, Sem.run_bind, h, Result.andThen_ok, Sem.run_pure], by simp only [binOp, Sem.run_bind, h, Result.andThen_ok, Sem.run_pure]⟩

/-- A quiet operation comes to what is reckoned. -/
theorem q_sound (hI : HeapInv w loc H) {op : Op} {q : Q} {xs : List Operand} (hq : QOp P op q xs) {ev : Operand → Value} {args : List AV} (ha : RepVs w loc H.length (xs.map ev) args) {p : Prop} {r : AV} (he : qev H q args = some (p, r)) (hp : p)
    (o : Oper) (ho : o.op = op) : ∃ v, (execOp ev o).run P w = .ok (.value v) w ∧ RepV w loc H.length v r := by
  cases hq with
  | move x =>
    obtain ⟨a, rfl, hx⟩ := RepVs.inv1 (by simpa using ha)
    simp only [qev, Option.some.injEq, Prod.mk.injEq] at he
    obtain ⟨rfl, rfl⟩ := he
    exact ⟨_, by simp only [execOp, ho, Sem.run_pure], hx⟩
  | assign x =>
    obtain ⟨a, rfl, hx⟩ := RepVs.inv1 (by simpa using ha)
    simp only [qev, Option.some.injEq, Prod.mk.injEq] at he
    obtain ⟨rfl, rfl⟩ := he
    exact ⟨_, by simp only [execOp, ho, Sem.run_pure], hx⟩
  | nilc x =>
    obtain ⟨a, rfl, hx⟩ := RepVs.inv1 (by simpa using ha)
    cases a <;> simp only [qev, Option.some.injEq, Prod.mk.injEq, reduceCtorEq] at he <;> obtain ⟨rfl, rfl⟩ := he
    case rp s a => exact ⟨_, nilc_run hx (s := s) rfl ev o x ho rfl, hx⟩
    case ptr b v pa s => exact ⟨_, nilc_run hx (s := s) rfl ev o x ho rfl, hx⟩
  | pick c a b =>
    obtain ⟨c', a', b', rfl, hc, ha', hb'⟩ := RepVs.inv3 (by simpa using ha)
    cases c' <;> simp only [qev, Option.some.injEq, Prod.mk.injEq, reduceCtorEq] at he
    obtain ⟨rfl, rfl⟩ := he
    have e := (hc.rep rfl).bool_inv; simp at e
    rename_i b0
    refine ⟨if b0 = true then ev a else ev b, ?_, ?_⟩
    · simp [execOp, ho, e, asBool]
    · cases b0 <;> simp <;> assumption
  | bin op t x y yt =>
    obtain ⟨a, b, rfl, hx, hy⟩ := RepVs.inv2 (by simpa using ha)
    simp only [qev] at he
    obtain ⟨v, hv, hr⟩ := bin_run (P := P) he hp hx hy t
    obtain ⟨n1, n2⟩ := binAV_val he hx
    refine ⟨v, ?_, ?_⟩
    · simp only [execOp, ho, Sem.run_bind, eqGuard_other op t x y _ _ n1 n2, Result.andThen_ok, hv, Sem.run_pure]
    · exact .cell v r (binAV_cell he) hr
  | eqB t x y yt ht =>
    obtain ⟨a, b, rfl, hx, hy⟩ := RepVs.inv2 (by simpa using ha)
    cases a <;> cases b <;> simp only [qev, Option.some.injEq, Prod.mk.injEq, reduceCtorEq] at he
    rename_i c d
    obtain ⟨rfl, rfl⟩ := he
    have e1 := (hx.rep rfl).bool_inv; simp at e1
    have e2 := (hy.rep rfl).bool_inv; simp at e2
    refine ⟨_, ?_, .cell _ _ rfl (.bool _)⟩
    simp [execOp, ho, e1, e2, eqGuard_other, binOp, run_equal_bool w t c d ht]
  | neB t x y yt ht =>
    obtain ⟨a, b, rfl, hx, hy⟩ := RepVs.inv2 (by simpa using ha)
    cases a <;> cases b <;> simp only [qev, Option.some.injEq, Prod.mk.injEq, reduceCtorEq] at he
    rename_i c d
    obtain ⟨rfl, rfl⟩ := he
    have e1 := (hx.rep rfl).bool_inv; simp at e1
    have e2 := (hy.rep rfl).bool_inv; simp at e2
    refine ⟨_, ?_, .cell _ _ rfl (.bool _)⟩
    simp [execOp, ho, e1, e2, eqGuard_other, binOp, run_equal_bool w t c d ht]
  | eqP t e x y yt ht =>
    obtain ⟨a, b, rfl, hx, hy⟩ := RepVs.inv2 (by simpa using ha)
    have hval : ∃ z, ev x = .pointer z ∧ ev y = .pointer none ∧ r = .bool z.isNone := by
      cases a <;> cases b <;> simp only [qev, Option.some.injEq, Prod.mk.injEq, reduceCtorEq] at he <;> obtain ⟨-, rfl⟩ := he
      all_goals (have e2 := (hy.rep rfl).nilp_inv; simp at e2)
      · have e1 := (hx.rep rfl).nilp_inv; simp at e1; exact ⟨_, e1, e2, rfl⟩
      · obtain ⟨k, o, hv⟩ := ptr_val hx rfl; exact ⟨_, hv, e2, rfl⟩
      · obtain ⟨k, o, hv⟩ := ptr_val hx rfl; exact ⟨_, hv, e2, rfl⟩
    obtain ⟨z, h1, h2, rfl⟩ := hval
    refine ⟨_, ?_, .cell _ _ rfl (.bool _)⟩
    simp only [execOp, ho, h1, h2, Sem.run_bind, eqGuard_other .eql t x y (.pointer z) (.pointer none) (by simp) (by simp), Result.andThen_ok, (eql_nil ht z).1, Sem.run_pure]
  | neP t e x y yt ht =>
    obtain ⟨a, b, rfl, hx, hy⟩ := RepVs.inv2 (by simpa using ha)
    have hval : ∃ z, ev x = .pointer z ∧ ev y = .pointer none ∧ r = .bool (!z.isNone) := by
      cases a <;> cases b <;> simp only [qev, Option.some.injEq, Prod.mk.injEq, reduceCtorEq] at he <;> obtain ⟨-, rfl⟩ := he
      all_goals (have e2 := (hy.rep rfl).nilp_inv; simp at e2)
      · have e1 := (hx.rep rfl).nilp_inv; simp at e1; exact ⟨_, e1, e2, rfl⟩
      · obtain ⟨k, o, hv⟩ := ptr_val hx rfl; exact ⟨_, hv, e2, rfl⟩
      · obtain ⟨k, o, hv⟩ := ptr_val hx rfl; exact ⟨_, hv, e2, rfl⟩
    obtain ⟨z, h1, h2, rfl⟩ := hval
    refine ⟨_, ?_, .cell _ _ rfl (.bool _)⟩
    simp only [execOp, ho, h1, h2, Sem.run_bind, eqGuard_other .neq t x y (.pointer z) (.pointer none) (by simp) (by simp), Result.andThen_ok, (eql_nil ht z).2, Sem.run_pure]
  | eqA t e n k x y yt ht hek hz hg =>
    obtain ⟨a, b, rfl, hx, hy⟩ := RepVs.inv2 (by simpa using ha)
    cases a <;> cases b <;> simp only [qev, Option.some.injEq, Prod.mk.injEq, reduceCtorEq] at he
    obtain ⟨rfl, rfl⟩ := he
    obtain ⟨h1, h2, h3, h4⟩ := hp
    rename_i ps qs
    have e1 : ev x = .agg (ps.map fun x => .int k (numD x)).toArray := by
      cases hx' : ev x <;> rw [hx'] at hx <;> cases hx <;> first | (rename_i h; rw [kind_cells h3 h]) | (rename_i h _; simp [AV.isCell] at h)
    have e2 : ev y = .agg (qs.map fun x => .int k (numD x)).toArray := by
      cases hx' : ev y <;> rw [hx'] at hy <;> cases hy <;> first | (rename_i h; rw [kind_cells h4 h]) | (rename_i h _; simp [AV.isCell] at h)
    refine ⟨_, ?_, .cell _ _ rfl (.bool _)⟩
    simp only [execOp, ho, e1, e2, Sem.run_bind, run_eqGuard_agg w .eql t x y _ _ hg, Result.andThen_ok, run_eql_struct, run_equal_nums (P := P) (w := w) 9998 ht hek hz h1 h2 h3 h4, Sem.run_pure]; rfl
  | neA t e n k x y yt ht hek hz hg =>
    obtain ⟨a, b, rfl, hx, hy⟩ := RepVs.inv2 (by simpa using ha)
    cases a <;> cases b <;> simp only [qev, Option.some.injEq, Prod.mk.injEq, reduceCtorEq] at he
    obtain ⟨rfl, rfl⟩ := he
    obtain ⟨h1, h2, h3, h4⟩ := hp
    rename_i ps qs
    have e1 : ev x = .agg (ps.map fun x => .int k (numD x)).toArray := by
      cases hx' : ev x <;> rw [hx'] at hx <;> cases hx <;> first | (rename_i h; rw [kind_cells h3 h]) | (rename_i h _; simp [AV.isCell] at h)
    have e2 : ev y = .agg (qs.map fun x => .int k (numD x)).toArray := by
      cases hx' : ev y <;> rw [hx'] at hy <;> cases hy <;> first | (rename_i h; rw [kind_cells h4 h]) | (rename_i h _; simp [AV.isCell] at h)
    refine ⟨_, ?_, .cell _ _ rfl (.bool _)⟩
    simp only [execOp, ho, e1, e2, Sem.run_bind, run_eqGuard_agg w .neq t x y _ _ hg, Result.andThen_ok, run_neq_struct, run_equal_nums (P := P) (w := w) 9998 ht hek hz h1 h2 h3 h4, Sem.run_pure, if_true]
  | un op t x =>
    obtain ⟨a, rfl, hx⟩ := RepVs.inv1 (by simpa using ha)
    simp only [qev] at he
    obtain ⟨v, hv, hr⟩ := un_run (P := P) (w := w) he hp hx
    exact ⟨v, by simp only [execOp, ho, Sem.run_bind, hv, Result.andThen_ok, Sem.run_pure], .cell v r (unAV_cell he) hr⟩
  | cv src dst d k x hs hd =>
    obtain ⟨a, rfl, hx⟩ := RepVs.inv1 (by simpa using ha)
    simp only [qev, Option.map_eq_some_iff, Prod.mk.injEq] at he
    obtain ⟨y, hy, rfl, rfl⟩ := he
    obtain ⟨v, hv, hr⟩ := cv_run (P := P) (w := w) hy hx src dst d hs hd
    exact ⟨v, by simp only [execOp, ho, Sem.run_bind, hv, Result.andThen_ok, Sem.run_pure], .cell v y (cvAV_cell hy) hr⟩
  | cs src dst d x hs hd =>
    obtain ⟨a, rfl, hx⟩ := RepVs.inv1 (by simpa using ha)
    cases a <;> simp only [qev, Option.some.injEq, Prod.mk.injEq, reduceCtorEq] at he
    obtain ⟨rfl, rfl⟩ := he
    obtain ⟨s, e, _⟩ := (hx.rep rfl).str_inv; simp at e
    exact ⟨ev x, by simp [execOp, ho, e, convert, run_underlying hs, run_underlying hd], hx⟩
  | b2s src dst e x hs hee hd =>
    obtain ⟨a, rfl, hx⟩ := RepVs.inv1 (by simpa using ha)
    simp only [qev] at he
    split at he
    · rename_i ys hys
      simp only [Option.map_eq_some_iff, Prod.mk.injEq] at he
      obtain ⟨l, hl, rfl, rfl⟩ := he
      obtain ⟨u, hu, hr⟩ := b2s_run hs hee hd hI hx hys hl
      exact ⟨u, by simp only [execOp, ho, Sem.run_bind, hu, Result.andThen_ok, Sem.run_pure], hr⟩
    · cases he
  | ext x i =>
    obtain ⟨a, rfl, hx⟩ := RepVs.inv1 (by simpa using ha)
    cases a <;> simp only [qev, reduceCtorEq] at he
    rename_i ps
    simp only [Option.map_eq_some_iff, Prod.mk.injEq] at he
    obtain ⟨q, hq, rfl, rfl⟩ := he
    cases hx' : ev x <;> rw [hx'] at hx <;> cases hx <;> try (rename_i h _; simp [AV.isCell] at h; done)
    rename_i vs hl hrep
    have hil : i < vs.length := by rw [hl]; exact (List.getElem?_eq_some_iff.1 hq).1
    refine ⟨vs[i], ?_, hrep i _ _ (List.getElem?_eq_getElem hil) hq⟩
    simp [execOp, ho, hx', Instr.extract, hil]
  | fld t fs l f fd s x ht hf hl hoff hty =>
    obtain ⟨a, rfl, hx⟩ := RepVs.inv1 (by simpa using ha)
    cases a <;> simp only [qev, reduceCtorEq] at he
    rename_i ps
    simp only [Option.map_eq_some_iff, Prod.mk.injEq] at he
    obtain ⟨q, hq, rfl, rfl⟩ := he
    cases hx' : ev x <;> rw [hx'] at hx <;> cases hx <;> try (rename_i h _; simp [AV.isCell] at h; done)
    rename_i cs hr
    have h1 := hr.field hp f q s hq hl
    have h2 : HasSh s q := by
      obtain ⟨s', hs', hh⟩ := hasShs_get hp f q hq
      rw [hl] at hs'; cases hs'; exact hh
    rw [← hoff] at h1
    obtain ⟨v, hv, hr'⟩ := part_run (P := P) (cs := cs.toArray) hty h1 h2
    exact ⟨v, by simp [execOp, ho, hx', Instr.field, run_underlying ht, hf, asAgg, hv], hr'⟩
  | idx t e n s x i ht hty =>
    obtain ⟨a, b, rfl, hx, hi⟩ := RepVs.inv2 (by simpa using ha)
    cases a <;> simp only [qev, reduceCtorEq] at he
    rename_i ps
    simp only [Option.map_eq_some_iff, Prod.mk.injEq] at he
    obtain ⟨m, hm, rfl, rfl⟩ := he
    obtain ⟨h0, h1, h2⟩ := hp
    obtain ⟨kk, hv⟩ := num_inv (hi.rep (num_cell hm)) hm
    obtain ⟨hpl, hpe⟩ := hasSh_arr_agg.1 h2
    cases hx' : ev x <;> rw [hx'] at hx <;> cases hx <;> try (rename_i h _; simp [AV.isCell] at h; done)
    rename_i cs hr
    have hil : m.toNat < ps.length := by omega
    have hg : ps[m.toNat]? = some ps[m.toNat] := List.getElem?_eq_getElem hil
    have e1 : ps.getD m.toNat .un = ps[m.toNat] := by simp [List.getD, hg]
    rw [e1]
    obtain ⟨v, hv', hr'⟩ := part_run (P := P) (cs := cs.toArray) hty (hr.elem hpe m.toNat _ hg) (hpe _ (List.getElem_mem _))
    exact ⟨v, by simp [execOp, ho, hx', hv, Instr.index, asIntOf, run_underlying ht, h0, h1, hty.run_size, hv'], hr'⟩
  | idxS t x i ht =>
    obtain ⟨a, b, rfl, hx, hi⟩ := RepVs.inv2 (by simpa using ha)
    cases a <;> simp only [qev, reduceCtorEq] at he
    rename_i l
    simp only [Option.map_eq_some_iff, Prod.mk.injEq] at he
    obtain ⟨m, hm, rfl, rfl⟩ := he
    obtain ⟨h0, h1⟩ := hp
    obtain ⟨kk, hv⟩ := num_inv (hi.rep (num_cell hm)) hm
    obtain ⟨s, e, hl, _⟩ := (hx.rep rfl).str_inv; simp at e
    have hsz := size_of_bytes hl
    have hil : m.toNat < s.size := by omega
    refine ⟨.int .u8 (s[m.toNat]).toNat, ?_, ?_⟩
    · simp [execOp, ho, e, hv, Instr.index, asIntOf, run_underlying ht, h0, hil]
    · have : l.getD m.toNat 0 = (s[m.toNat]).toBitVec := by
        subst hl
        have h3 : m.toNat < (s.data.toList.map UInt8.toBitVec).length := by rw [← hsz]; exact hil
        rw [List.getD_eq_getElem?_getD, List.getElem?_eq_getElem h3, Option.getD_some, List.getElem_map]
        rfl
      rw [this]
      exact .cell _ _ rfl (.u8 _)
  | iaA t e n s x i ht hty =>
    obtain ⟨a, b, rfl, hx, hi⟩ := RepVs.inv2 (by simpa using ha)
    cases a <;> simp only [qev, reduceCtorEq] at he
    case rp sh a =>
      cases sh <;> simp only [reduceCtorEq] at he
      rename_i m' e'
      simp only [Option.map_eq_some_iff, Prod.mk.injEq] at he
      obtain ⟨m, hm, rfl, rfl⟩ := he
      obtain ⟨h0, h1, rfl, rfl⟩ := hp
      obtain ⟨kk, hv⟩ := num_inv (hi.rep (num_cell hm)) hm
      obtain ⟨k, o', hv'⟩ := ptr_val hx rfl
      rw [hv'] at hx
      have hr := hx.rep rfl
      obtain ⟨_, _, _, _, _, ds, _, _, _, _, _, hs⟩ := hr.rp_inv
      obtain ⟨ps, rfl, hpl, hpe⟩ := hasSh_arr.1 hs
      have hil : m.toNat < ps.length := by omega
      have hg : ps[m.toNat]? = some ps[m.toNat] := List.getElem?_eq_getElem hil
      have e1 : (partsOf (.agg ps)).getD m.toNat .un = ps[m.toNat] := by simp [partsOf, List.getD, hg]
      have hrp := rp_part hr m.toNat (atS_arr (by omega)) (a' := ps[m.toNat]) (by simp [getP, hg])
      rw [offS_arr] at hrp
      rw [e1]
      exact ⟨_, by simp only [execOp, ho, hv', Sem.run_bind, iaA_run ht hty hv h0 h1, Result.andThen_ok, Sem.run_pure], .cell _ _ rfl hrp⟩
    case ptr bb ver pa sh =>
      cases sh <;> simp only [reduceCtorEq] at he
      rename_i m' e'
      simp only [Option.map_eq_some_iff, Prod.mk.injEq] at he
      obtain ⟨m, hm, rfl, rfl⟩ := he
      obtain ⟨h0, h1, rfl, rfl⟩ := hp
      obtain ⟨kk, hv⟩ := num_inv (hi.rep (num_cell hm)) hm
      obtain ⟨k, o', hv'⟩ := ptr_val hx rfl
      rw [hv'] at hx
      have hrp := ptr_part (hx.rep rfl) m.toNat (atS_arr (show m.toNat < m' by omega))
      rw [offS_arr] at hrp
      exact ⟨_, by simp only [execOp, ho, hv', Sem.run_bind, iaA_run ht hty hv h0 h1, Result.andThen_ok, Sem.run_pure], .cell _ _ rfl hrp⟩
  | iaS t e s x i ht hty =>
    obtain ⟨a, b, rfl, hx, hi⟩ := RepVs.inv2 (by simpa using ha)
    cases a <;> simp only [qev, reduceCtorEq] at he
    case ro sh ys =>
      simp only [Option.map_eq_some_iff, Prod.mk.injEq] at he
      obtain ⟨m, hm, rfl, rfl⟩ := he
      obtain ⟨h0, h1, rfl⟩ := hp
      obtain ⟨kk, hv⟩ := num_inv (hi.rep (num_cell hm)) hm
      have hr := hx.rep rfl
      rcases hr.ro_inv with ⟨a, cap, hv', rfl⟩ | ⟨k', o', n', cap', c, t', fr, ds, hv', hk, hn, htk, hr', hl, hc, hmx, hs⟩
      · simp at h1; omega
      · simp at hv'
        rw [hv'] at hr
        have hel := elem_of_ro hr m.toNat (by omega)
        exact ⟨_, by simp only [execOp, ho, hv', Sem.run_bind, iaS_run ht hty hv h0 (show m < (n' : Int) by omega), Result.andThen_ok, Sem.run_pure], .cell _ _ rfl hel⟩
    case own bb ver pa off n sh =>
      simp only [Option.map_eq_some_iff, Prod.mk.injEq] at he
      obtain ⟨m, hm, rfl, rfl⟩ := he
      obtain ⟨h0, h1, rfl⟩ := hp
      obtain ⟨kk, hv⟩ := num_inv (hi.rep (num_cell hm)) hm
      have hr := hx.rep rfl
      obtain ⟨ad, cap', hv', hb, hver, hc, hne, hmx, hO⟩ := hr.own_inv
      simp at hv'
      obtain ⟨k, o', rfl⟩ := hne (by omega)
      rw [hv'] at hr
      have hel := elem_of_own hr m.toNat (by omega)
      exact ⟨_, by simp only [execOp, ho, hv', Sem.run_bind, iaS_run ht hty hv h0 h1, Result.andThen_ok, Sem.run_pure], .cell _ _ rfl hel⟩
  | fa t fs l f fd s x ht hf hl hoff hty hpos =>
    obtain ⟨a, rfl, hx⟩ := RepVs.inv1 (by simpa using ha)
    have hfp : ∀ (k o : Nat), (Instr.fieldAt t (.pointer (some ⟨k, o, none⟩)) f).run P w = .ok (.pointer (some ⟨k, o + Shape.sizes (l.take f), none⟩)) w := by
      intro k o
      have hne : s.size ≠ 0 := by omega
      simp [Instr.fieldAt, run_underlying ht, hf, Instr.sureAddr, fieldPlace, hty.run_size, hne, hoff, add_plain]
    cases a <;> simp only [qev, reduceCtorEq] at he
    case rp sh a =>
      cases sh <;> simp only [reduceCtorEq] at he
      rename_i l'
      simp only [Option.map_eq_some_iff, Prod.mk.injEq] at he
      obtain ⟨s', hs', rfl, rfl⟩ := he
      subst hp
      rw [hl] at hs'; cases hs'
      obtain ⟨k, o', hv'⟩ := ptr_val hx rfl
      rw [hv'] at hx
      have hr := hx.rep rfl
      obtain ⟨_, _, _, _, _, ds, _, _, _, _, _, hs⟩ := hr.rp_inv
      obtain ⟨ps, rfl, hpe⟩ := hasSh_st.1 hs
      have hil : f < ps.length := by rw [hasShs_length hpe]; exact (List.getElem?_eq_some_iff.1 hl).1
      have hg : ps[f]? = some ps[f] := List.getElem?_eq_getElem hil
      have e1 : (partsOf (.agg ps)).getD f .un = ps[f] := by simp [partsOf, List.getD, hg]
      have hrp := rp_part hr f (atS_st hl) (a' := ps[f]) (by simp [getP, hg])
      rw [offS_st hl] at hrp
      rw [e1]
      exact ⟨_, by simp only [execOp, ho, hv', Sem.run_bind, hfp, Result.andThen_ok, Sem.run_pure], .cell _ _ rfl hrp⟩
    case ptr bb ver pa sh =>
      cases sh <;> simp only [reduceCtorEq] at he
      rename_i l'
      simp only [Option.map_eq_some_iff, Prod.mk.injEq] at he
      obtain ⟨s', hs', rfl, rfl⟩ := he
      subst hp
      rw [hl] at hs'; cases hs'
      obtain ⟨k, o', hv'⟩ := ptr_val hx rfl
      rw [hv'] at hx
      have hrp := ptr_part (hx.rep rfl) f (atS_st hl)
      rw [offS_st hl] at hrp
      exact ⟨_, by simp only [execOp, ho, hv', Sem.run_bind, hfp, Result.andThen_ok, Sem.run_pure], .cell _ _ rfl hrp⟩
  | ld t s x hty =>
    obtain ⟨a, rfl, hx⟩ := RepVs.inv1 (by simpa using ha)
    simp only [qev, Option.map_eq_some_iff, Prod.mk.injEq] at he
    obtain ⟨q, hq, rfl, rfl⟩ := he
    obtain ⟨u, hu, hr⟩ := load_run hty hI hx hp hq
    exact ⟨u, by simp only [execOp, ho, Sem.run_bind, hu, Result.andThen_ok, Sem.run_pure], hr⟩
  | lenS t x ht =>
    obtain ⟨a, rfl, hx⟩ := RepVs.inv1 (by simpa using ha)
    cases a <;> simp only [qev, Option.some.injEq, Prod.mk.injEq, reduceCtorEq] at he
    rename_i l
    obtain ⟨rfl, rfl⟩ := he
    obtain ⟨s, e, hl, hm⟩ := (hx.rep rfl).str_inv; simp at e
    refine ⟨_, ?_, .cell _ _ rfl (.int _ (inR_nat hm))⟩
    rw [← size_of_bytes hl]
    simp [execOp, ho, resolve, invoke, builtin, e, Builtin.len_, run_underlying ht, goInt]
  | len t e x ht =>
    obtain ⟨a, rfl, hx⟩ := RepVs.inv1 (by simpa using ha)
    simp only [qev, Option.map_eq_some_iff, Prod.mk.injEq] at he
    obtain ⟨n, hn, rfl, rfl⟩ := he
    obtain ⟨h1, h2⟩ := len_run (P := P) ht hx hn o.type
    refine ⟨_, ?_, .cell _ _ rfl (.int _ (inR_nat h2))⟩
    simp [execOp, ho, resolve, invoke, builtin, h1]
  | lenA t e n x ht =>
    obtain ⟨a, rfl, hx⟩ := RepVs.inv1 (by simpa using ha)
    simp only [qev, Option.some.injEq, Prod.mk.injEq] at he
    obtain ⟨rfl, rfl⟩ := he
    refine ⟨_, ?_, .cell _ _ rfl (.int _ (inR_nat hp))⟩
    simp [execOp, ho, resolve, invoke, builtin, Builtin.len_, run_underlying ht, goInt]
  | slS t x lo hi ht =>
    rw [List.map_cons] at ha
    cases ha with
    | cons _ a _ as hx ha =>
      cases a <;> simp only [qev, reduceCtorEq] at he
      simp only [Option.map_eq_some_iff, Prod.mk.injEq, Prod.exists] at he
      obtain ⟨i, j, hb, rfl, rfl⟩ := he
      obtain ⟨h0, h1, h2⟩ := hp
      obtain ⟨u, hu, hr⟩ := slS_run (P := P) (w := w) ht ha hx hb h0 h1 h2
      exact ⟨u, by simp only [execOp, ho, Option.map_none, Sem.run_bind, hu, Result.andThen_ok, Sem.run_pure], hr⟩
  | slV t e s x lo hi ht hty =>
    rw [List.map_cons] at ha
    cases ha with
    | cons _ a _ as hx ha =>
      cases a <;> simp only [qev, reduceCtorEq] at he
      case nils =>
        simp only [Option.map_eq_some_iff, Prod.mk.injEq, Prod.exists] at he
        obtain ⟨i, j, hb, rfl, rfl⟩ := he
        obtain ⟨rfl, rfl⟩ := hp
        have hv := (hx.rep rfl).nils_inv; simp at hv
        have hrun := slV_run (P := P) (w := w) (ad := none) (cap := 0) ht hty ha (Nat.le_refl _) hb (by omega) (by omega) (by omega)
        simp at hrun
        refine ⟨_, ?_, .cell (.slice none 0 0) _ rfl .nils⟩
        simp only [execOp, ho, hv, Option.map_none, Sem.run_bind, hrun, Result.andThen_ok, Sem.run_pure]
      case ro sh ys =>
        simp only [Option.map_eq_some_iff, Prod.mk.injEq, Prod.exists] at he
        obtain ⟨i, j, hb, rfl, rfl⟩ := he
        obtain ⟨h0, h1, h2, rfl⟩ := hp
        have hr := hx.rep rfl
        have hval : ∃ ad n cap, ev x = .slice ad n cap ∧ n ≤ cap ∨ (∃ ad cap, ev x = .slice ad 0 cap ∧ ys = []) := by
          rcases hr.ro_inv with ⟨a, cap, hv', h5⟩ | ⟨k', o', n', cap', c, t', fr, ds, hv', hk, hn, htk, hr', hl, hc, hmx, hs⟩
          · simp at hv'; exact ⟨none, 0, 0, .inr ⟨a, cap, hv', h5⟩⟩
          · simp at hv'; exact ⟨_, _, _, .inl ⟨hv', hc⟩⟩
        obtain ⟨ad, n, cap, h5 | ⟨ad, cap, h5, rfl⟩⟩ := hval
        · obtain ⟨hv', hc⟩ := h5
          rw [hv'] at hr
          obtain ⟨hn, hp2⟩ := ro_part hr (i := i.toNat) (j := j.toNat) (by omega) (by omega)
          subst hn
          have hrun := slV_run (P := P) (w := w) (ad := ad) (cap := cap) ht hty ha hc hb h0 h1 h2
          exact ⟨_, by simp only [execOp, ho, hv', Option.map_none, Sem.run_bind, hrun, Result.andThen_ok, Sem.run_pure], .cell _ _ rfl hp2⟩
        · rw [h5] at hr
          obtain ⟨hn, hp2⟩ := ro_part hr (i := i.toNat) (j := j.toNat) (by omega) (by omega)
          have hrun := slV_run (P := P) (w := w) (n := 0) (ad := ad) (cap := cap) ht hty ha (Nat.zero_le _) hb h0 h1 h2
          exact ⟨_, by simp only [execOp, ho, h5, Option.map_none, Sem.run_bind, hrun, Result.andThen_ok, Sem.run_pure], .cell _ _ rfl hp2⟩
      case own bb ver pa off n sh =>
        simp only [Option.map_eq_some_iff, Prod.mk.injEq, Prod.exists] at he
        obtain ⟨i, j, hb, rfl, rfl⟩ := he
        obtain ⟨h0, h1, h2, rfl⟩ := hp
        have hr := hx.rep rfl
        obtain ⟨ad, cap', hv', hbb, hver, hc, hne, hmx, hO⟩ := hr.own_inv
        simp at hv'
        rw [hv'] at hr
        have hp2 := own_part hr (i := i.toNat) (j := j.toNat) (by omega) (by omega)
        have hrun := slV_run (P := P) (w := w) (ad := ad) (cap := cap') ht hty ha hc hb h0 h1 h2
        exact ⟨_, by simp only [execOp, ho, hv', Option.map_none, Sem.run_bind, hrun, Result.andThen_ok, Sem.run_pure], .cell _ _ rfl hp2⟩
  | slA t e n s x lo hi ht hty =>
    rw [List.map_cons] at ha
    cases ha with
    | cons _ a _ as hx ha =>
      cases a <;> simp only [qev, reduceCtorEq] at he
      rename_i bb ver pa sh
      cases sh <;> simp only [reduceCtorEq] at he
      simp only [Option.map_eq_some_iff, Prod.mk.injEq, Prod.exists] at he
      obtain ⟨i, j, hb, rfl, rfl⟩ := he
      obtain ⟨h0, h1, h2, rfl, rfl, hmx, hpa⟩ := hp
      obtain ⟨k, o', hv'⟩ := ptr_val hx rfl
      rw [hv'] at hx
      have hp2 := arr_part (hx.rep rfl) (i := i.toNat) (j := j.toNat) (by omega) (by omega) hmx hpa
      have hrun := slA_run (P := P) (w := w) (k := k) (o := o') ht hty ha hb h0 h1 h2
      exact ⟨_, by simp only [execOp, ho, hv', Option.map_none, Sem.run_bind, hrun, Result.andThen_ok, Sem.run_pure], .cell _ _ rfl hp2⟩
  | mkf f caps =>
    simp only [qev, Option.some.injEq, Prod.mk.injEq] at he
    obtain ⟨rfl, rfl⟩ := he
    have h1 := ha.one_of hp
    have h2 := ha.length
    refine ⟨.func (.func f) #[] (caps.map ev), by simp [execOp, ho, Instr.makeFunc], .cell _ _ rfl ?_⟩
    have := Rep.fn f args (caps.toList.map ev) h2 hp h1
    have e : (caps.toList.map ev).toArray = caps.map ev := by
      apply Array.ext'; simp
    rwa [e] at this

end
end Go.V
