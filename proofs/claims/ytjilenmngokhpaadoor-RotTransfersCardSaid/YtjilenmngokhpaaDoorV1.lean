import Derived.Calls
import Derived.Tactics
import Derived.Laws.AppendOwn
import Derived.Laws.MakeOwn
import Derived.Laws.CopyRow
import Derived.Laws.BytesArg
import Derived.Laws.Slices
/- Abstract values, shapes and heaps for reading Go's functions without memory: lists in the place of slices that are only read, blocks of the call's own for what is written. -/
namespace Go.V
open Go

/-- The shape of a variable: how its cells lie. -/
inductive Shape where
  | leaf
  | arr (n : Nat) (e : Shape)
  | st (l : List Shape)
  deriving Inhabited

/-- An abstract value. -/
inductive AV where
  | bool (b : Bool)
  | u8 (x : BitVec 8)
  | u16 (x : BitVec 16)
  | u32 (x : BitVec 32)
  | u64 (x : BitVec 64)
  | int (x : Int)
  | str (l : List (BitVec 8))
  | nilp
  | nils
  | nilf
  | agg (ps : List AV)
  | tup (ps : List AV)
  | ro (e : Shape) (xs : List AV)
  | rp (s : Shape) (a : AV)
  | own (b ver : Nat) (pa : List Nat) (off n : Nat) (e : Shape)
  | ptr (b ver : Nat) (pa : List Nat) (s : Shape)
  | fn (f : FuncId) (cap : List AV)
  | un
  deriving Inhabited

mutual
def Shape.size : Shape → Nat
  | .leaf => 1
  | .arr n e => n * e.size
  | .st l => Shape.sizes l
def Shape.sizes : List Shape → Nat
  | [] => 0
  | s :: l => s.size + Shape.sizes l
end

@[simp] theorem Shape.size_leaf : Shape.leaf.size = 1 := by simp [Shape.size]
@[simp] theorem Shape.size_arr (n : Nat) (e : Shape) : (Shape.arr n e).size = n * e.size := by simp [Shape.size]
@[simp] theorem Shape.size_st (l : List Shape) : (Shape.st l).size = Shape.sizes l := by simp [Shape.size]
@[simp] theorem Shape.sizes_nil : Shape.sizes [] = 0 := by simp [Shape.sizes]
@[simp] theorem Shape.sizes_cons (s : Shape) (l : List Shape) : Shape.sizes (s :: l) = s.size + Shape.sizes l := by simp [Shape.sizes]

def AV.isCell : AV → Bool
  | .agg _ | .tup _ | .un => false
  | _ => true

mutual
/-- The value has the shape. -/
def HasSh : Shape → AV → Prop
  | .leaf, a => a.isCell = true
  | .arr n e, a => ∃ ps, a = .agg ps ∧ ps.length = n ∧ ∀ p ∈ ps, HasSh e p
  | .st l, a => ∃ ps, a = .agg ps ∧ HasShs l ps
def HasShs : List Shape → List AV → Prop
  | [], [] => True
  | s :: l, p :: ps => HasSh s p ∧ HasShs l ps
  | _, _ => False
end

theorem hasSh_leaf {a : AV} : HasSh .leaf a ↔ a.isCell = true := by simp [HasSh]
theorem hasSh_arr {n : Nat} {e : Shape} {a : AV} : HasSh (.arr n e) a ↔ ∃ ps, a = .agg ps ∧ ps.length = n ∧ ∀ p ∈ ps, HasSh e p := by simp [HasSh]
theorem hasSh_st {l : List Shape} {a : AV} : HasSh (.st l) a ↔ ∃ ps, a = .agg ps ∧ HasShs l ps := by simp [HasSh]
@[simp] theorem hasShs_nil : HasShs [] [] := by simp [HasShs]
@[simp] theorem hasShs_cons {s : Shape} {l : List Shape} {p : AV} {ps : List AV} : HasShs (s :: l) (p :: ps) ↔ HasSh s p ∧ HasShs l ps := by simp [HasShs]
@[simp] theorem hasSh_arr_agg {n : Nat} {e : Shape} {ps : List AV} : HasSh (.arr n e) (.agg ps) ↔ ps.length = n ∧ ∀ p ∈ ps, HasSh e p := by simp [hasSh_arr]
@[simp] theorem hasSh_st_agg {l : List Shape} {ps : List AV} : HasSh (.st l) (.agg ps) ↔ HasShs l ps := by simp [hasSh_st]

/-! Places inside a value -/

def atS : Shape → List Nat → Option Shape
  | s, [] => some s
  | .leaf, _ :: _ => none
  | .arr n e, i :: pa => if i < n then atS e pa else none
  | .st l, i :: pa => match l[i]? with
    | some s => atS s pa
    | none => none

def offS : Shape → List Nat → Nat
  | _, [] => 0
  | .leaf, _ :: _ => 0
  | .arr _ e, i :: pa => i * e.size + offS e pa
  | .st l, i :: pa => Shape.sizes (l.take i) + match l[i]? with
    | some s => offS s pa
    | none => 0

def getP : AV → List Nat → Option AV
  | a, [] => some a
  | .agg ps, i :: pa => match ps[i]? with
    | some p => getP p pa
    | none => none
  | _, _ :: _ => none

def setP : AV → List Nat → AV → Option AV
  | _, [], v => some v
  | .agg ps, i :: pa, v => match ps[i]? with
    | some p => (setP p pa v).map fun p' => .agg (ps.set i p')
    | none => none
  | _, _ :: _, _ => none

theorem hasShs_length : ∀ {l : List Shape} {ps : List AV}, HasShs l ps → ps.length = l.length
  | [], [], _ => rfl
  | _ :: _, _ :: _, h => by simp [hasShs_length (hasShs_cons.1 h).2]
  | [], _ :: _, h => by simp [HasShs] at h
  | _ :: _, [], h => by simp [HasShs] at h

theorem hasShs_get : ∀ {l : List Shape} {ps : List AV}, HasShs l ps → ∀ (i : Nat) (p : AV), ps[i]? = some p → ∃ s, l[i]? = some s ∧ HasSh s p
  | [], [], _, i, p, hp => by simp at hp
  | s :: l, q :: ps, h, 0, p, hp => by
    simp at hp; subst hp
    exact ⟨s, by simp, (hasShs_cons.1 h).1⟩
  | s :: l, q :: ps, h, i + 1, p, hp => by
    simp at hp
    obtain ⟨t, ht, hh⟩ := hasShs_get (hasShs_cons.1 h).2 i p hp
    exact ⟨t, by simpa using ht, hh⟩
  | [], _ :: _, h, _, _, _ => by simp [HasShs] at h
  | _ :: _, [], h, _, _, _ => by simp [HasShs] at h

theorem hasShs_set : ∀ {l : List Shape} {ps : List AV}, HasShs l ps → ∀ (i : Nat) (s : Shape) (v : AV), l[i]? = some s → HasSh s v → HasShs l (ps.set i v)
  | [], [], _, i, s, v, hs, _ => by simp at hs
  | s :: l, q :: ps, h, 0, t, v, hs, hv => by
    simp at hs; subst hs
    simp only [List.set_cons_zero, hasShs_cons]
    exact ⟨hv, (hasShs_cons.1 h).2⟩
  | s :: l, q :: ps, h, i + 1, t, v, hs, hv => by
    simp at hs
    simp only [List.set_cons_succ, hasShs_cons]
    exact ⟨(hasShs_cons.1 h).1, hasShs_set (hasShs_cons.1 h).2 i t v hs hv⟩
  | [], _ :: _, h, _, _, _, _, _ => by simp [HasShs] at h
  | _ :: _, [], h, _, _, _, _, _ => by simp [HasShs] at h

/-- What lies at a place has the place's shape. -/
theorem getP_hasSh : ∀ (pa : List Nat) {s : Shape} {a v : AV} {t : Shape}, HasSh s a → getP a pa = some v → atS s pa = some t → HasSh t v
  | [], s, a, v, t, h, hg, ht => by
    simp [getP] at hg; simp [atS] at ht; subst hg; subst ht; exact h
  | i :: pa, .leaf, a, v, t, h, hg, ht => by simp [atS] at ht
  | i :: pa, .arr n e, a, v, t, h, hg, ht => by
    obtain ⟨ps, rfl, hl, hp⟩ := hasSh_arr.1 h
    simp only [getP] at hg
    simp only [atS] at ht
    split at hg
    · rename_i p hpi
      split at ht
      · exact getP_hasSh pa (hp p (List.mem_of_getElem? hpi)) hg ht
      · cases ht
    · cases hg
  | i :: pa, .st l, a, v, t, h, hg, ht => by
    obtain ⟨ps, rfl, hp⟩ := hasSh_st.1 h
    simp only [getP] at hg
    simp only [atS] at ht
    split at hg
    · rename_i p hpi
      obtain ⟨s, hs, hh⟩ := hasShs_get hp i p hpi
      rw [hs] at ht
      exact getP_hasSh pa hh hg ht
    · cases hg

theorem getP_some : ∀ (pa : List Nat) {s : Shape} {a : AV} {t : Shape}, HasSh s a → atS s pa = some t → ∃ v, getP a pa = some v
  | [], s, a, t, h, ht => ⟨a, by simp [getP]⟩
  | i :: pa, .leaf, a, t, h, ht => by simp [atS] at ht
  | i :: pa, .arr n e, a, t, h, ht => by
    obtain ⟨ps, rfl, hl, hp⟩ := hasSh_arr.1 h
    simp only [atS] at ht
    split at ht
    · rename_i hi
      have hpi : ps[i]? = some ps[i] := List.getElem?_eq_getElem (by omega)
      obtain ⟨v, hv⟩ := getP_some pa (hp ps[i] (List.getElem_mem _)) ht
      exact ⟨v, by simp [getP, hpi, hv]⟩
    · cases ht
  | i :: pa, .st l, a, t, h, ht => by
    obtain ⟨ps, rfl, hp⟩ := hasSh_st.1 h
    simp only [atS] at ht
    split at ht
    · rename_i s hs
      have hil : i < l.length := (List.getElem?_eq_some_iff.1 hs).1
      have hpi : ps[i]? = some (ps[i]'(by rw [hasShs_length hp]; exact hil)) := List.getElem?_eq_getElem _
      obtain ⟨s', hs', hh⟩ := hasShs_get hp i _ hpi
      rw [hs] at hs'; cases hs'
      obtain ⟨v, hv⟩ := getP_some pa hh ht
      exact ⟨v, by simp [getP, hpi, hv]⟩
    · cases ht

theorem setP_hasSh : ∀ (pa : List Nat) {s : Shape} {a v a' : AV} {t : Shape}, HasSh s a → setP a pa v = some a' → atS s pa = some t → HasSh t v → HasSh s a'
  | [], s, a, v, a', t, h, hg, ht, hv => by
    simp [setP] at hg; simp [atS] at ht; subst hg; subst ht; exact hv
  | i :: pa, .leaf, a, v, a', t, h, hg, ht, hv => by simp [atS] at ht
  | i :: pa, .arr n e, a, v, a', t, h, hg, ht, hv => by
    obtain ⟨ps, rfl, hl, hp⟩ := hasSh_arr.1 h
    simp only [setP] at hg
    simp only [atS] at ht
    split at hg
    · rename_i p hpi
      split at ht
      · cases hs : setP p pa v with
        | none => simp [hs] at hg
        | some p' =>
          simp [hs] at hg
          subst hg
          have := setP_hasSh pa (hp p (List.mem_of_getElem? hpi)) hs ht hv
          refine hasSh_arr.2 ⟨_, rfl, by simp [hl], fun q hq => ?_⟩
          rcases List.mem_or_eq_of_mem_set hq with hq | rfl
          · exact hp q hq
          · exact this
      · cases ht
    · cases hg
  | i :: pa, .st l, a, v, a', t, h, hg, ht, hv => by
    obtain ⟨ps, rfl, hp⟩ := hasSh_st.1 h
    simp only [setP] at hg
    simp only [atS] at ht
    split at hg
    · rename_i p hpi
      obtain ⟨s, hs, hh⟩ := hasShs_get hp i p hpi
      rw [hs] at ht
      cases hsp : setP p pa v with
      | none => simp [hsp] at hg
      | some p' =>
        simp [hsp] at hg
        subst hg
        exact hasSh_st.2 ⟨_, rfl, hasShs_set hp i s p' hs (setP_hasSh pa hh hsp ht hv)⟩
    · cases hg

/-! The heap of blocks -/

structure Blk where
  e : TypeId
  ver : Nat
  /-- may it be appended to? Then its root is an array of elements of this shape -/
  app : Bool
  sh : Shape
  root : AV
  deriving Inhabited

abbrev Heap := List (Option Blk)

def Heap.get (h : Heap) (b : Nat) : Option Blk := (h[b]?).join

def ldP (h : Heap) : AV → Option AV
  | .rp _ a => some a
  | .ptr b ver pa _ => match h.get b with
    | some blk => if blk.ver = ver then getP blk.root pa else none
    | none => none
  | _ => none

def stP (h : Heap) (p v : AV) : Option Heap :=
  match p with
  | .ptr b ver pa _ => match h.get b with
    | some blk => if blk.ver = ver then (setP blk.root pa v).map fun r => h.set b (some { blk with root := r }) else none
    | none => none
  | _ => none

def rd (h : Heap) : AV → Option (List AV)
  | .nils => some []
  | .ro _ xs => some xs
  | .own b ver pa off n _ => match h.get b with
    | some blk => if blk.ver = ver then (match getP blk.root pa with
      | some (.agg ps) => some ((ps.drop off).take n)
      | _ => none) else none
    | none => none
  | _ => none

/-- How many elements a slice has. -/
def slen : AV → Option Nat
  | .nils => some 0
  | .ro _ xs => some xs.length
  | .own _ _ _ _ n _ => some n
  | _ => none

/-- Where element i lies. -/
def elp : AV → Nat → AV
  | .ro e xs, i => .rp e (xs.getD i .un)
  | .own b ver pa off _ e, i => .ptr b ver (pa ++ [off + i]) e
  | _, _ => .un

end Go.V
