import Derived.Test.YtjilenmngokhpaaDoorV31
/- Lists that are filled place by place; values without memory. -/
namespace Go.V
open Go

def fillL (f : Nat → AV) (z : AV) (n i : Nat) : List AV := (List.range i).map f ++ List.replicate (n - i) z

theorem fill_length {f : Nat → AV} {z : AV} {n i : Nat} (h : i ≤ n) : (fillL f z n i).length = n := by simp [fillL]; omega
theorem fill_zero {f : Nat → AV} {z : AV} {n : Nat} : List.replicate n z = fillL f z n 0 := by simp [fillL]
theorem fill_all {f : Nat → AV} {z : AV} {n : Nat} : fillL f z n n = (List.range n).map f := by simp [fillL]
theorem fill_set {f : Nat → AV} {z : AV} {n i : Nat} (h : i < n) : (fillL f z n i).set i (f i) = fillL f z n (i + 1) := by
  have e : n - i = (n - (i + 1)) + 1 := by omega
  unfold fillL
  rw [e, List.replicate_succ, List.set_append_right _ _ (by simp), List.range_succ, List.map_append]
  simp

theorem setP_at {ps : List AV} {i : Nat} {v : AV} (h : i < ps.length) : setP (.agg ps) [i] v = some (.agg (ps.set i v)) := by
  simp [setP, List.getElem?_eq_getElem h]
theorem getP_at {ps : List AV} {i : Nat} (h : i < ps.length) : getP (.agg ps) [i] = some (ps.getD i .un) := by
  simp [getP, List.getElem?_eq_getElem h]

theorem demK_plain {kp : Nat → Bool} {N : Nat} {h : Heap} {d : Nat} {a : AV} (ha : a.plain = true) : demK kp N h (d + 1) a = some a := by
  cases a <;> first | rfl | (simp [AV.plain] at ha)

theorem mapO_plain {kp : Nat → Bool} {N : Nat} {h : Heap} {d : Nat} : ∀ {xs : List AV}, (∀ x ∈ xs, x.plain = true) → mapO (demK kp N h (d + 1)) xs = some xs
  | [], _ => rfl
  | x :: xs, hx => by
    have h1 : mapO (demK kp N h (d + 1)) xs = some xs := mapO_plain fun y hy => hx y (List.mem_cons_of_mem _ hy)
    simp only [mapO, demK_plain (hx x List.mem_cons_self), h1]

theorem bnds_plain {k : Nat} : ∀ {xs : List AV}, (∀ x ∈ xs, x.plain = true) → AV.bnds k xs = true
  | [], _ => rfl
  | x :: xs, hx => by
    simp only [AV.bnds, Bool.and_eq_true]
    refine ⟨?_, bnds_plain fun y hy => hx y (List.mem_cons_of_mem _ hy)⟩
    have := hx x List.mem_cons_self
    cases x <;> first | rfl | (simp [AV.plain] at this)

theorem plain_map_bool {α : Type} {l : List α} {f : α → Bool} : ∀ x ∈ l.map (fun a => AV.bool (f a)), x.plain = true := by simp [AV.plain]
theorem plain_map_u8 {α : Type} {l : List α} {f : α → BitVec 8} : ∀ x ∈ l.map (fun a => AV.u8 (f a)), x.plain = true := by simp [AV.plain]
theorem plain_map_u32 {α : Type} {l : List α} {f : α → BitVec 32} : ∀ x ∈ l.map (fun a => AV.u32 (f a)), x.plain = true := by simp [AV.plain]
theorem plain_map_u64 {α : Type} {l : List α} {f : α → BitVec 64} : ∀ x ∈ l.map (fun a => AV.u64 (f a)), x.plain = true := by simp [AV.plain]

section
variable {kp : Nat → Bool} {N : Nat} {h : Heap} {d : Nat}
theorem demK_own {b ver : Nat} {pa : List Nat} {off n : Nat} {e : Shape} : demK kp N h (d + 1) (.own b ver pa off n e) = if kp b = true ∧ b < N then some (.own b ver pa off n e) else match rd h (.own b ver pa off n e) with
      | some xs => (mapO (demK kp N h d) xs).map (.ro e)
      | none => none := rfl
theorem demK_ptr {b ver : Nat} {pa : List Nat} {s : Shape} : demK kp N h (d + 1) (.ptr b ver pa s) = if kp b = true ∧ b < N then some (.ptr b ver pa s) else match ldP h (.ptr b ver pa s) with
      | some x => (demK kp N h d x).map (.rp s)
      | none => none := rfl
theorem demK_agg {ps : List AV} : demK kp N h (d + 1) (.agg ps) = (mapO (demK kp N h d) ps).map .agg := rfl
theorem demK_tup {ps : List AV} : demK kp N h (d + 1) (.tup ps) = (mapO (demK kp N h d) ps).map .tup := rfl
theorem demK_fn {f : FuncId} {ps : List AV} : demK kp N h (d + 1) (.fn f ps) = (mapO (demK kp N h d) ps).map (.fn f) := rfl
theorem demK_ro {e : Shape} {xs : List AV} : demK kp N h (d + 1) (.ro e xs) = if AV.bnds N xs = true then some (.ro e xs) else none := rfl
theorem demK_rp {s : Shape} {x : AV} : demK kp N h (d + 1) (.rp s x) = if AV.bnd N x = true then some (.rp s x) else none := rfl
theorem demK_bool {x : Bool} : demK kp N h (d + 1) (.bool x) = some (.bool x) := rfl
theorem demK_u8 {x : BitVec 8} : demK kp N h (d + 1) (.u8 x) = some (.u8 x) := rfl
theorem demK_u16 {x : BitVec 16} : demK kp N h (d + 1) (.u16 x) = some (.u16 x) := rfl
theorem demK_u32 {x : BitVec 32} : demK kp N h (d + 1) (.u32 x) = some (.u32 x) := rfl
theorem demK_u64 {x : BitVec 64} : demK kp N h (d + 1) (.u64 x) = some (.u64 x) := rfl
theorem demK_int {x : Int} : demK kp N h (d + 1) (.int x) = some (.int x) := rfl
theorem demK_str {x : List (BitVec 8)} : demK kp N h (d + 1) (.str x) = some (.str x) := rfl
theorem demK_nilp : demK kp N h (d + 1) .nilp = some .nilp := rfl
theorem demK_nils : demK kp N h (d + 1) .nils = some .nils := rfl
theorem demK_nilf : demK kp N h (d + 1) .nilf = some .nilf := rfl
theorem demK_un : demK kp N h (d + 1) .un = some .un := rfl
end

theorem lget_at {ps : List AV} {i : Nat} (h : i < ps.length) : ps[i]? = some (ps.getD i .un) := by
  simp [List.getElem?_eq_getElem h]

end Go.V
