import Derived.Test.YtjilenmngokhpaaDoorV21
/- The scripts are reckoned out of the code: operations, regions, code. -/
namespace Go.V
open Go

def ixOf : List Nat → Nat → Option Nat
  | [], _ => none
  | x :: l, s => if x = s then some 0 else (ixOf l s).map (· + 1)

theorem ixOf_some : ∀ {l : List Nat} {s i : Nat}, ixOf l s = some i → l[i]? = some s
  | [], s, i, h => by simp [ixOf] at h
  | x :: l, s, i, h => by
    simp only [ixOf] at h
    split at h
    · rename_i e; subst e; cases h; rfl
    · simp only [Option.map_eq_some_iff] at h
      obtain ⟨j, hj, rfl⟩ := h
      simpa using ixOf_some hj

theorem ixOf_none : ∀ {l : List Nat} {s : Nat}, ixOf l s = none → s ∉ l
  | [], s, _ => by simp
  | x :: l, s, h => by
    simp only [ixOf] at h
    split at h
    · cases h
    · rename_i hne
      simp only [Option.map_eq_none_iff] at h
      simp only [List.mem_cons, not_or]
      exact ⟨fun e => hne e.symm, ixOf_none h⟩

section
variable (P : Program) (G : Globs)

def globG : Globs → Nat → Option (Shape × AV)
  | [], _ => none
  | (g, s, a) :: r, k => if g = k then some (s, a) else globG r k

def cOpd (sl : List Nat) : Operand → Option Opd
  | .tmp s => (ixOf sl s).map .t
  | .const v => (cellAV v).map .c
  | .func f => some (.c (.fn f []))
  | .global g => (globG G g).map fun x => .c (.rp x.1 x.2)

def cOpds (sl : List Nat) : List Operand → Option (List Opd)
  | [] => some []
  | x :: xs => match cOpd G sl x, cOpds sl xs with
    | some o, some os => some (o :: os)
    | _, _ => none

def isLeafS : Shape → Bool
  | .leaf => true
  | _ => false

/-- the quiet operation that an operation is -/
def cQ (op : Op) : Option (Q × List Operand) :=
  match op with
  | .move x => some (.mv, [x])
  | .assign x => some (.mv, [x])
  | .nilCheck x => some (.nilc, [x])
  | .pick c a b => some (.pick, [c, a, b])
  | .binOp op t x y _ => match P.underlying t with
    | some .bool => match op with
      | .eql => some (.eqB false, [x, y])
      | .neq => some (.eqB true, [x, y])
      | _ => none
    | some (.pointer _) => match op with
      | .eql => some (.eqP false, [x, y])
      | .neq => some (.eqP true, [x, y])
      | _ => none
    | some (.array n e) => match P.underlying e, tyS P e, P.eqGuardType P.depth t with
      | some (.int k), some .leaf, false => match op with
        | .eql => some (.eqA false n k, [x, y])
        | .neq => some (.eqA true n k, [x, y])
        | _ => none
      | _, _, _ => none
    | some (.int _) => some (.bin op, [x, y])
    | some .string => some (.bin op, [x, y])
    | _ => none
  | .unOp op _ x => some (.un op, [x])
  | .convert src dst x => match P.underlying src, P.underlying dst with
    | some _, some (.int k) => some (.cv k, [x])
    | some (.slice e), some .string => match P.underlying e with
      | some (.int .u8) => some (.b2s, [x])
      | _ => none
    | some .string, some .string => some (.cs, [x])
    | _, _ => none
  | .extract x i => some (.ext i, [x])
  | .field t x f => match P.underlying t, shp P 40 t with
    | some (.struct fs), some (.st l) => match fs[f]?, l[f]? with
      | some fd, some s => match tyS P fd.type with
        | some s' => if fd.offset = Shape.sizes (l.take f) ∧ shEq s s' = true then some (.fld l f, [x]) else none
        | none => none
      | _, _ => none
    | _, _ => none
  | .index t x i => match P.underlying t with
    | some (.array n e) => (tyS P e).map fun s => (.idx n s, [x, i])
    | some .string => some (.idxS, [x, i])
    | _ => none
  | .indexAddr t x i => match P.underlying t with
    | some (.array n e) => (tyS P e).map fun s => (.iaA n s, [x, i])
    | some (.slice e) => (tyS P e).map fun s => (.iaS s, [x, i])
    | _ => none
  | .fieldAddr t x f => match P.underlying t, shp P 40 t with
    | some (.struct fs), some (.st l) => match fs[f]?, l[f]? with
      | some fd, some s => match tyS P fd.type with
        | some s' => if fd.offset = Shape.sizes (l.take f) ∧ shEq s s' = true ∧ 0 < s.size then some (.fa l f, [x]) else none
        | none => none
      | _, _ => none
    | _, _ => none
  | .load t x => (tyS P t).map fun s => (.ld s, [x])
  | .call c => match c.callee, c.args.toList, c.argTypes.toList with
    | .builtin .len, [x], [t] => match P.underlying t with
      | some .string => some (.lenS, [x])
      | some (.slice _) => some (.len, [x])
      | some (.array n _) => some (.lenA n, [x])
      | _ => none
    | _, _, _ => none
  | .slice t x lo hi none => match P.underlying t with
    | some .string => some (.slS lo.isSome hi.isSome, x :: (lo.toList ++ hi.toList))
    | some (.slice e) => (tyS P e).map fun s => (.slV s lo.isSome hi.isSome, x :: (lo.toList ++ hi.toList))
    | some (.array n e) => (tyS P e).map fun s => (.slA n s lo.isSome hi.isSome, x :: (lo.toList ++ hi.toList))
    | _ => none
  | .makeFunc (.func f) first caps => match first.toList with
    | [] => some (.mkf f, caps.toList)
    | _ => none
  | _ => none
where
  shEq : Shape → Shape → Bool
    | .leaf, .leaf => true
    | .arr n e, .arr m e' => n == m && shEq e e'
    | .st l, .st l' => shEqs l l'
    | _, _ => false
  shEqs : List Shape → List Shape → Bool
    | [], [] => true
    | s :: l, s' :: l' => shEq s s' && shEqs l l'
    | _, _ => false

mutual
theorem shEq_ok : ∀ {s t : Shape}, cQ.shEq s t = true → s = t
  | .leaf, .leaf, _ => rfl
  | .arr n e, .arr m e', h => by
    simp only [cQ.shEq, Bool.and_eq_true, beq_iff_eq] at h
    rw [h.1, shEq_ok h.2]
  | .st l, .st l', h => by
    simp only [cQ.shEq] at h
    rw [shEqs_ok h]
  | .leaf, .arr _ _, h => by simp [cQ.shEq] at h
  | .leaf, .st _, h => by simp [cQ.shEq] at h
  | .arr _ _, .leaf, h => by simp [cQ.shEq] at h
  | .arr _ _, .st _, h => by simp [cQ.shEq] at h
  | .st _, .leaf, h => by simp [cQ.shEq] at h
  | .st _, .arr _ _, h => by simp [cQ.shEq] at h
theorem shEqs_ok : ∀ {s t : List Shape}, cQ.shEqs s t = true → s = t
  | [], [], _ => rfl
  | s :: l, s' :: l', h => by
    simp only [cQ.shEqs, Bool.and_eq_true] at h
    rw [shEq_ok h.1, shEqs_ok h.2]
  | [], _ :: _, h => by simp [cQ.shEqs] at h
  | _ :: _, [], h => by simp [cQ.shEqs] at h
end

theorem cQ_ok {op : Op} {q : Q} {xs : List Operand} (h : cQ P op = some (q, xs)) : QOp P op q xs := by
  cases op <;> simp only [cQ, reduceCtorEq] at h
  case move x => cases h; exact .move x
  case assign x => cases h; exact .assign x
  case nilCheck x => cases h; exact .nilc x
  case pick c a b => cases h; exact .pick c a b
  case binOp op t x y yt =>
    split at h
    · rename_i hu
      split at h <;> cases h
      · exact .eqB t x y yt hu
      · exact .neB t x y yt hu
    · rename_i e hu
      split at h <;> cases h
      · exact .eqP t e x y yt hu
      · exact .neP t e x y yt hu
    · rename_i n e hu
      split at h
      · rename_i k he hs hg
        split at h <;> cases h
        · exact .eqA t e n k x y yt hu he (tyS_ok hs) hg
        · exact .neA t e n k x y yt hu he (tyS_ok hs) hg
      · cases h
    · cases h; exact .bin op t x y yt
    · cases h; exact .bin op t x y yt
    · cases h
  case unOp op t x => cases h; exact .un op t x
  case convert src dst x =>
    split at h
    · rename_i d k hs hd; cases h; exact .cv src dst d k x hs hd
    · rename_i e hs hd
      split at h
      · rename_i he; cases h; exact .b2s src dst e x hs he hd
      · cases h
    · rename_i hs hd; cases h; exact .cs src dst .string x hs hd
    · cases h
  case extract x i => cases h; exact .ext x i
  case field t x f =>
    split at h
    · rename_i fs l hu hl
      split at h
      · rename_i fd s hf hs
        split at h
        · rename_i s' hty
          split at h
          · rename_i hc
            cases h
            have := shEq_ok hc.2
            subst this
            exact .fld t fs l f fd s x hu hf hs hc.1 (tyS_ok hty)
          · cases h
        · cases h
      · cases h
    · cases h
  case index t x i =>
    split at h
    · rename_i n e hu
      simp only [Option.map_eq_some_iff, Prod.mk.injEq] at h
      obtain ⟨s, hs, rfl, rfl⟩ := h
      exact .idx t e n s x i hu (tyS_ok hs)
    · rename_i hu; cases h; exact .idxS t x i hu
    · cases h
  case indexAddr t x i =>
    split at h
    · rename_i n e hu
      simp only [Option.map_eq_some_iff, Prod.mk.injEq] at h
      obtain ⟨s, hs, rfl, rfl⟩ := h
      exact .iaA t e n s x i hu (tyS_ok hs)
    · rename_i e hu
      simp only [Option.map_eq_some_iff, Prod.mk.injEq] at h
      obtain ⟨s, hs, rfl, rfl⟩ := h
      exact .iaS t e s x i hu (tyS_ok hs)
    · cases h
  case fieldAddr t x f =>
    split at h
    · rename_i fs l hu hl
      split at h
      · rename_i fd s hf hs
        split at h
        · rename_i s' hty
          split at h
          · rename_i hc
            cases h
            have := shEq_ok hc.2.1
            subst this
            exact .fa t fs l f fd s x hu hf hs hc.1 (tyS_ok hty) hc.2.2
          · cases h
        · cases h
      · cases h
    · cases h
  case load t x =>
    simp only [Option.map_eq_some_iff, Prod.mk.injEq] at h
    obtain ⟨s, hs, rfl, rfl⟩ := h
    exact .ld t s x (tyS_ok hs)
  case slice t x lo hi mx =>
    cases mx <;> simp only [reduceCtorEq] at h
    split at h
    · rename_i hu; cases h; exact .slS t x lo hi hu
    · rename_i e hu
      simp only [Option.map_eq_some_iff, Prod.mk.injEq] at h
      obtain ⟨s, hs, rfl, rfl⟩ := h
      exact .slV t e s x lo hi hu (tyS_ok hs)
    · rename_i n e hu
      simp only [Option.map_eq_some_iff, Prod.mk.injEq] at h
      obtain ⟨s, hs, rfl, rfl⟩ := h
      exact .slA t e n s x lo hi hu (tyS_ok hs)
    · cases h
  case makeFunc f first caps =>
    cases f <;> simp only [reduceCtorEq] at h
    split at h
    · rename_i hfst
      cases h
      have : first = #[] := by apply Array.ext'; simpa using hfst
      subst this
      exact .mkf _ caps
    · cases h
  case call c =>
    obtain ⟨callee, args, ts⟩ := c
    simp only at h
    split at h
    · rename_i x t ha ht
      have e1 : args = #[x] := by apply Array.ext'; simpa using ha
      have e2 : ts = #[t] := by apply Array.ext'; simpa using ht
      subst e1; subst e2
      split at h
      · rename_i hu; cases h; exact .lenS t x hu
      · rename_i e hu; cases h; exact .len t e x hu
      · rename_i n e hu; cases h; exact .lenA t e n x hu
      · cases h
    · cases h

end
end Go.V
