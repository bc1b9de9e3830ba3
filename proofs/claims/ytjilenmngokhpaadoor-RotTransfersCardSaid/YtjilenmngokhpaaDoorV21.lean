import Derived.Test.YtjilenmngokhpaaDoorV20
/- The scripts are reckoned out of the code. -/
namespace Go.V
open Go

/-! Shapes and zero values of types -/

mutual
def shp (P : Program) : Nat → TypeId → Option Shape
  | 0, _ => none
  | d + 1, t => match P.underlying t with
    | some (.array n e) => (shp P d e).map (.arr n)
    | some (.struct fs) => (shps P d (fs.toList.map (·.type))).map .st
    | some (.tuple _) => none
    | some _ => some .leaf
    | none => none
def shps (P : Program) : Nat → List TypeId → Option (List Shape)
  | _, [] => some []
  | 0, _ :: _ => none
  | d + 1, t :: ts => match shp P d t, shps P d ts with
    | some s, some l => some (s :: l)
    | _, _ => none
end

def tyS (P : Program) (t : TypeId) : Option Shape :=
  match shp P 40 t, P.info? t with
  | some s, some i => if i.size = s.size then some s else none
  | _, _ => none

theorem shp_agg {P : Program} {d : Nat} {t : TypeId} {s : Shape} (h : shp P d t = some s) : ∃ u, P.underlying t = some u ∧ isAggD u = s.isAgg := by
  cases d with
  | zero => simp [shp] at h
  | succ d =>
    simp only [shp] at h
    split at h
    · rename_i n e hu
      cases hs : shp P d e with
      | none => simp [hs] at h
      | some s' => simp [hs] at h; subst h; exact ⟨_, hu, rfl⟩
    · rename_i fs hu
      cases hs : shps P d (fs.toList.map (·.type)) with
      | none => simp [hs] at h
      | some s' => simp [hs] at h; subst h; exact ⟨_, hu, rfl⟩
    · cases h
    · rename_i u h1 h2 h3 hu
      cases h
      refine ⟨u, hu, ?_⟩
      cases u <;> first | rfl | exact absurd rfl (h1 _ _) | exact absurd rfl (h2 _)
    · cases h

theorem tyS_ok {P : Program} {t : TypeId} {s : Shape} (h : tyS P t = some s) : TyOk P t s := by
  unfold tyS at h
  split at h
  · rename_i s' i hs hi
    split at h
    · rename_i hsz
      cases h
      exact ⟨⟨i, hi, hsz⟩, shp_agg hs⟩
    · cases h
  · cases h

/-- a value that leads nowhere -/
def cellAV : Value → Option AV
  | .bool b => some (.bool b)
  | .int .u8 n => if 0 ≤ n ∧ n < 256 then some (.u8 (BitVec.ofInt 8 n)) else none
  | .int .u16 n => if 0 ≤ n ∧ n < 65536 then some (.u16 (BitVec.ofInt 16 n)) else none
  | .int .u32 n => if 0 ≤ n ∧ n < 4294967296 then some (.u32 (BitVec.ofInt 32 n)) else none
  | .int .u64 n => if 0 ≤ n ∧ n < 18446744073709551616 then some (.u64 (BitVec.ofInt 64 n)) else none
  | .int .i64 n => if -9223372036854775808 ≤ n ∧ n ≤ 9223372036854775807 then some (.int n) else none
  | .string s => if s.data.toList.length ≤ 1000000 then some (.str (s.data.toList.map UInt8.toBitVec)) else none
  | .pointer none => some .nilp
  | .slice none 0 0 => some .nils
  | .nilFunc => some .nilf
  | _ => none

theorem cellAV_ok {v : Value} {a : AV} (h : cellAV v = some a) (w : World) (loc : Loc) (N : Nat) : Rep w loc N [v] a ∧ a.isCell = true := by
  unfold cellAV at h
  split at h <;> try (split at h <;> try (cases h; done))
  all_goals (try cases h)
  · exact ⟨.bool _, rfl⟩
  · rename_i n hn
    have e : n = ((BitVec.ofInt 8 n).toNat : Int) := by rw [← emod_ofInt]; omega
    refine ⟨?_, rfl⟩
    have := Rep.u8 (w := w) (loc := loc) (N := N) (BitVec.ofInt 8 n)
    rw [← e] at this
    exact this
  · rename_i n hn
    have e : n = ((BitVec.ofInt 16 n).toNat : Int) := by rw [← emod_ofInt]; omega
    refine ⟨?_, rfl⟩
    have := Rep.u16 (w := w) (loc := loc) (N := N) (BitVec.ofInt 16 n)
    rw [← e] at this
    exact this
  · rename_i n hn
    have e : n = ((BitVec.ofInt 32 n).toNat : Int) := by rw [← emod_ofInt]; omega
    refine ⟨?_, rfl⟩
    have := Rep.u32 (w := w) (loc := loc) (N := N) (BitVec.ofInt 32 n)
    rw [← e] at this
    exact this
  · rename_i n hn
    have e : n = ((BitVec.ofInt 64 n).toNat : Int) := by rw [← emod_ofInt]; omega
    refine ⟨?_, rfl⟩
    have := Rep.u64 (w := w) (loc := loc) (N := N) (BitVec.ofInt 64 n)
    rw [← e] at this
    exact this
  · rename_i hn; exact ⟨.int _ hn, rfl⟩
  · rename_i s hs; exact ⟨.str _ _ rfl (by simp only [List.length_map, maxLen]; omega), rfl⟩
  · exact ⟨.nilp, rfl⟩
  · exact ⟨.nils, rfl⟩
  · exact ⟨.nilf, rfl⟩

def absN (f : List Value → Option (AV × List Value)) : Nat → List Value → Option (List AV × List Value)
  | 0, vs => some ([], vs)
  | n + 1, vs => match f vs with
    | some (a, r) => match absN f n r with
      | some (as, r') => some (a :: as, r')
      | none => none
    | none => none

mutual
/-- a value of a shape out of its cells -/
def absC : Shape → List Value → Option (AV × List Value)
  | .leaf, v :: vs => (cellAV v).map fun a => (a, vs)
  | .leaf, [] => none
  | .arr n e, vs => (absN (absC e) n vs).map fun x => (.agg x.1, x.2)
  | .st l, vs => (absL l vs).map fun x => (.agg x.1, x.2)
def absL : List Shape → List Value → Option (List AV × List Value)
  | [], vs => some ([], vs)
  | s :: l, vs => match absC s vs with
    | some (a, r) => match absL l r with
      | some (as, r') => some (a :: as, r')
      | none => none
    | none => none
end

def AbsOk (s : Shape) (vs : List Value) (a : AV) (r : List Value) : Prop := ∃ cs, vs = cs ++ r ∧ (∀ w loc N, Rep w loc N cs a) ∧ HasSh s a

mutual
theorem absC_ok : ∀ (s : Shape) {vs : List Value} {a : AV} {r : List Value}, absC s vs = some (a, r) → AbsOk s vs a r
  | .leaf, [], a, r, h => by simp [absC] at h
  | .leaf, v :: vs, a, r, h => by
    simp only [absC, Option.map_eq_some_iff, Prod.mk.injEq] at h
    obtain ⟨b, hb, rfl, rfl⟩ := h
    exact ⟨[v], rfl, fun w loc N => (cellAV_ok hb w loc N).1, hasSh_leaf.2 (cellAV_ok hb default (fun _ => none) 0).2⟩
  | .arr n e, vs, a, r, h => by
    simp only [absC, Option.map_eq_some_iff, Prod.mk.injEq] at h
    obtain ⟨⟨as, r'⟩, hx, rfl, rfl⟩ := h
    have key : ∀ (n : Nat) (vs : List Value) (as : List AV) (r : List Value), absN (absC e) n vs = some (as, r) → ∃ cs, vs = cs ++ r ∧ (∀ w loc N, Rep w loc N cs (.agg as)) ∧ as.length = n ∧ ∀ a ∈ as, HasSh e a := by
      intro n
      induction n with
      | zero => intro vs as r h; simp [absN] at h; obtain ⟨rfl, rfl⟩ := h; exact ⟨[], rfl, fun _ _ _ => .agg0, rfl, by simp⟩
      | succ n ih =>
        intro vs as r h
        simp only [absN] at h
        split at h
        · rename_i a1 r1 h1
          split at h
          · rename_i as1 r2 h2
            cases h
            obtain ⟨cs, rfl, g1, g2⟩ := absC_ok e h1
            obtain ⟨ds, rfl, g3, g4, g5⟩ := ih _ _ _ h2
            exact ⟨cs ++ ds, by simp, fun w loc N => .agg _ _ _ _ (g1 w loc N) (g3 w loc N), by simp [g4], fun a ha => by
              rcases List.mem_cons.1 ha with rfl | ha
              · exact g2
              · exact g5 a ha⟩
          · cases h
        · cases h
    obtain ⟨cs, h1, h2, h3, h4⟩ := key n vs as r' hx
    exact ⟨cs, h1, h2, hasSh_arr_agg.2 ⟨h3, h4⟩⟩
  | .st l, vs, a, r, h => by
    simp only [absC, Option.map_eq_some_iff, Prod.mk.injEq] at h
    obtain ⟨⟨as, r'⟩, hx, rfl, rfl⟩ := h
    obtain ⟨cs, h1, h2, h3⟩ := absL_ok l hx
    exact ⟨cs, h1, h2, hasSh_st_agg.2 h3⟩
theorem absL_ok : ∀ (l : List Shape) {vs : List Value} {as : List AV} {r : List Value}, absL l vs = some (as, r) → ∃ cs, vs = cs ++ r ∧ (∀ w loc N, Rep w loc N cs (.agg as)) ∧ HasShs l as
  | [], vs, as, r, h => by simp [absL] at h; obtain ⟨rfl, rfl⟩ := h; exact ⟨[], rfl, fun _ _ _ => .agg0, hasShs_nil⟩
  | s :: l, vs, as, r, h => by
    simp only [absL] at h
    split at h
    · rename_i a1 r1 h1
      split at h
      · rename_i as1 r2 h2
        cases h
        obtain ⟨cs, rfl, g1, g2⟩ := absC_ok s h1
        obtain ⟨ds, rfl, g3, g4⟩ := absL_ok l h2
        exact ⟨cs ++ ds, by simp, fun w loc N => .agg _ _ _ _ (g1 w loc N) (g3 w loc N), hasShs_cons.2 ⟨g2, g4⟩⟩
      · cases h
    · cases h
end

def zeroS (P : Program) (t : TypeId) : Option (Shape × AV) :=
  match tyS P t, P.info? t with
  | some s, some i => match i.zero with
    | some v => match absC s v.cells.toList with
      | some (a, []) => if i.size = s.size then some (s, a) else none
      | _ => none
    | none => none
  | _, _ => none

theorem zeroS_ok {P : Program} {t : TypeId} {s : Shape} {z : AV} (h : zeroS P t = some (s, z)) : ZeroOk P t s z ∧ TyOk P t s := by
  unfold zeroS at h
  split at h
  · rename_i s' i hs hi
    split at h
    · rename_i v hv
      split at h
      · rename_i a ha
        split at h
        · rename_i hsz
          cases h
          obtain ⟨cs, h1, h2, h3⟩ := absC_ok s ha
          simp at h1
          exact ⟨⟨⟨i, v, hi, hv, hsz, fun w loc N => by rw [h1]; exact h2 w loc N⟩, h3⟩, tyS_ok hs⟩
        · cases h
      · cases h
    · cases h
  · cases h

end Go.V
