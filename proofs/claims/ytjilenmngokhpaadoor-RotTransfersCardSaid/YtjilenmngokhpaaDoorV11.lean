import Derived.Test.YtjilenmngokhpaaDoorV10
/- Slicing, bytes, comparisons of arrays; all quiet operations together. -/
namespace Go.V
open Go

section
variable {P : Program} {w : World} {loc : Loc} {H : Heap}

/-- the bounds that stand in the text -/
theorem bnds_run {lo hi : Option Operand} {ev : Operand → Value} {as : List AV} {N : Nat} (ha : RepVs w loc N ((lo.toList ++ hi.toList).map ev) as) {n : Nat} {i j : Int} (hb : bnds lo.isSome hi.isSome n as = some (i, j))
    (isSlice : Bool) (len cap : Nat) (hn : len = n) (h0 : 0 ≤ i) (h1 : i ≤ j) (h2 : j ≤ n) (hc : n ≤ cap) :
    (Instr.sliceBounds isSlice len cap (lo.map ev) (hi.map ev) none).run P w = .ok (i.toNat, j.toNat, cap) w := by
  subst hn
  cases lo with
  | none =>
    cases hi with
    | none =>
      cases as with
      | nil => simp [bnds] at hb; obtain ⟨rfl, rfl⟩ := hb; simp [Instr.sliceBounds]
      | cons a as => simp [bnds] at hb
    | some y =>
      obtain ⟨a, rfl, hy⟩ := RepVs.inv1 (by simpa using ha)
      simp only [bnds, Option.isSome_none, Option.isSome_some, Option.map_eq_some_iff, Prod.mk.injEq] at hb
      obtain ⟨m, hm, rfl, rfl⟩ := hb
      obtain ⟨kk, hv⟩ := num_inv (hy.rep (num_cell hm)) hm
      simp [Instr.sliceBounds, hv, run_sliceBound _ _ _ _ _ h1 (show m ≤ (cap : Int) by omega)]
  | some x =>
    cases hi with
    | none =>
      obtain ⟨a, rfl, hy⟩ := RepVs.inv1 (by simpa using ha)
      simp only [bnds, Option.isSome_none, Option.isSome_some, Option.map_eq_some_iff, Prod.mk.injEq] at hb
      obtain ⟨m, hm, rfl, rfl⟩ := hb
      obtain ⟨kk, hv⟩ := num_inv (hy.rep (num_cell hm)) hm
      simp [Instr.sliceBounds, hv, run_sliceBound _ _ _ _ _ h0 h1]
    | some y =>
      obtain ⟨a, b, rfl, hx, hy⟩ := RepVs.inv2 (by simpa using ha)
      simp only [bnds, Option.isSome_some] at hb
      cases hna : a.num with
      | none => simp [hna] at hb
      | some m =>
        cases hnb : b.num with
        | none => simp [hna, hnb] at hb
        | some m' =>
          simp [hna, hnb] at hb
          obtain ⟨rfl, rfl⟩ := hb
          obtain ⟨kk, hv⟩ := num_inv (hx.rep (num_cell hna)) hna
          obtain ⟨kk', hv'⟩ := num_inv (hy.rep (num_cell hnb)) hnb
          have e : ((m'.toNat : Nat) : Int) = m' := Int.toNat_of_nonneg (by omega)
          simp [Instr.sliceBounds, hv, hv', run_sliceBound _ _ _ _ _ (show 0 ≤ m' by omega) (show m' ≤ (cap : Int) by omega), run_sliceBound _ _ _ _ _ h0 (show m ≤ ((m'.toNat : Nat) : Int) by omega)]

theorem slS_run {t : TypeId} (ht : P.underlying t = some .string) {lo hi : Option Operand} {ev : Operand → Value} {as : List AV} {N : Nat} (ha : RepVs w loc N ((lo.toList ++ hi.toList).map ev) as) {l : List (BitVec 8)} {v : Value}
    (hv : RepV w loc N v (.str l)) {i j : Int} (hb : bnds lo.isSome hi.isSome l.length as = some (i, j)) (h0 : 0 ≤ i) (h1 : i ≤ j) (h2 : j ≤ l.length) :
    ∃ u, (Instr.sliceAt t v (lo.map ev) (hi.map ev) none).run P w = .ok u w ∧ RepV w loc N u (.str ((l.drop i.toNat).take (j.toNat - i.toNat))) := by
  obtain ⟨s, hs, hl, hm⟩ := (hv.rep rfl).str_inv
  simp at hs; subst hs
  have hsz := size_of_bytes hl
  have hB := bnds_run (P := P) (w := w) ha hb false s.size s.size hsz h0 h1 h2 (by omega)
  refine ⟨.string (s.extract i.toNat j.toNat), ?_, .cell _ _ rfl (.str _ _ ?_ ?_)⟩
  · simp [Instr.sliceAt, run_underlying ht, Instr.slice, hB]
  · rw [← hl, ByteArray.data_extract, Array.toList_extract, List.extract_eq_take_drop, List.map_take, List.map_drop]
  · rw [List.length_take, List.length_drop]; omega

theorem slV_run {t e : TypeId} {s : Shape} (ht : P.underlying t = some (.slice e)) (he : TyOk P e s) {lo hi : Option Operand} {ev : Operand → Value} {as : List AV} {N : Nat} (ha : RepVs w loc N ((lo.toList ++ hi.toList).map ev) as)
    {ad : Option Addr} {n cap : Nat} (hn : n ≤ cap) {i j : Int} (hb : bnds lo.isSome hi.isSome n as = some (i, j)) (h0 : 0 ≤ i) (h1 : i ≤ j) (h2 : j ≤ n) :
    (Instr.sliceAt t (.slice ad n cap) (lo.map ev) (hi.map ev) none).run P w = .ok (.slice (if cap = i.toNat then ad else ad.map (·.add (i.toNat * s.size))) (j.toNat - i.toNat) (cap - i.toNat)) w := by
  have hB := bnds_run (P := P) (w := w) ha hb true n cap rfl h0 h1 h2 hn
  simp [Instr.sliceAt, run_underlying ht, Instr.slice, hB, he.run_size]

theorem slA_run {t e : TypeId} {m : Nat} {s : Shape} (ht : P.underlying t = some (.array m e)) (he : TyOk P e s) {lo hi : Option Operand} {ev : Operand → Value} {as : List AV} {N : Nat} (ha : RepVs w loc N ((lo.toList ++ hi.toList).map ev) as)
    {k o : Nat} {i j : Int} (hb : bnds lo.isSome hi.isSome m as = some (i, j)) (h0 : 0 ≤ i) (h1 : i ≤ j) (h2 : j ≤ m) :
    (Instr.sliceAt t (.pointer (some ⟨k, o, none⟩)) (lo.map ev) (hi.map ev) none).run P w = .ok (.slice (some (if m = i.toNat then ⟨k, o, none⟩ else ⟨k, o + i.toNat * s.size, none⟩)) (j.toNat - i.toNat) (m - i.toNat)) w := by
  have hB := bnds_run (P := P) (w := w) ha hb false m m rfl h0 h1 h2 (Nat.le_refl _)
  simp [Instr.sliceAt, run_underlying ht, Instr.sureAddr, hB, he.run_size, add_plain]

/-- a part of a slice that is only read -/
theorem ro_part {N : Nat} {ad : Option Addr} {n cap : Nat} {e : Shape} {xs : List AV} (h : Rep w loc N [.slice ad n cap] (.ro e xs)) {i j : Nat} (h1 : i ≤ j) (h2 : j ≤ xs.length) :
    n = xs.length ∧ Rep w loc N [.slice (if cap = i then ad else ad.map (·.add (i * e.size))) (j - i) (cap - i)] (.ro e ((xs.drop i).take (j - i))) := by
  rcases h.ro_inv with ⟨a, cap', hv, rfl⟩ | ⟨k', o', n', cap', c, t, fr, ds, hv, hk, hn, htk, hr, hl, hc, hm, hs⟩
  · simp at hv
    obtain ⟨rfl, rfl, rfl⟩ := hv
    have : i = 0 := by simp at h2; omega
    have : j = 0 := by simp at h2; omega
    subst i; subst j
    exact ⟨rfl, by simpa using Rep.ro0 _ _ _⟩
  · simp at hv
    obtain ⟨rfl, rfl, rfl⟩ := hv
    refine ⟨hl.symm, ?_⟩
    by_cases hz : j - i = 0
    · rw [hz, List.take_zero]; exact .ro0 _ _ _
    · have hne : ¬ cap = i := by omega
      rw [if_neg hne]
      simp only [Option.map_some, add_plain]
      have hd : HasSh (.arr xs.length e) (.agg xs) := hasSh_arr_agg.2 ⟨rfl, hs⟩
      have hsz := hr.size _ hd
      simp only [Shape.size_arr] at hsz
      -- the cells of the part
      have key : ∀ (i : Nat) (xs : List AV) (ds : List Value), (∀ x ∈ xs, HasSh e x) → Rep w loc N ds (.agg xs) → i ≤ xs.length → Rep w loc N (ds.drop (i * e.size)) (.agg (xs.drop i)) := by
        intro i
        induction i with
        | zero => intro xs ds _ h _; simpa using h
        | succ i ih =>
          intro xs ds hp h hle
          cases xs with
          | nil => simp at hle
          | cons p xs =>
            obtain ⟨us, ys, rfl, g1, g2⟩ := h.cons_inv
            have e1 := Rep.size e (hp p (by simp)) g1
            rw [show (i + 1) * e.size = us.length + i * e.size by rw [e1, Nat.add_mul]; omega, ← List.drop_drop, List.drop_left]
            exact ih xs ys (fun q hq => hp q (by simp [hq])) g2 (by simpa using hle)
      have keyt : ∀ (n : Nat) (xs : List AV) (ds : List Value), (∀ x ∈ xs, HasSh e x) → Rep w loc N ds (.agg xs) → n ≤ xs.length → Rep w loc N (ds.take (n * e.size)) (.agg (xs.take n)) := by
        intro n
        induction n with
        | zero => intro xs ds _ h _; simpa using Rep.agg0
        | succ n ih =>
          intro xs ds hp h hle
          cases xs with
          | nil => simp at hle
          | cons p xs =>
            obtain ⟨us, ys, rfl, g1, g2⟩ := h.cons_inv
            have e1 := Rep.size e (hp p (by simp)) g1
            rw [show (n + 1) * e.size = us.length + n * e.size by rw [e1, Nat.add_mul]; omega, List.take_length_add_append, List.take_succ_cons]
            exact .agg _ _ _ _ g1 (ih xs ys (fun q hq => hp q (by simp [hq])) g2 (by simpa using hle))
      have hs1 : ∀ x ∈ xs.drop i, HasSh e x := fun x hx => hs x (List.mem_of_mem_drop hx)
      have g3 := keyt (j - i) _ _ hs1 (key i xs ds hs hr (by omega)) (by simp; omega)
      have hl1 : ((xs.drop i).take (j - i)).length = j - i := by simp; omega
      have hs2 : ∀ x ∈ (xs.drop i).take (j - i), HasSh e x := fun x hx => hs1 x (List.mem_of_mem_take hx)
      have hsz2 := g3.size (.arr (j - i) e) (hasSh_arr_agg.2 ⟨hl1, hs2⟩)
      simp only [Shape.size_arr] at hsz2
      have hmul : i * e.size + (j - i) * e.size ≤ xs.length * e.size := by rw [← Nat.add_mul]; exact Nat.mul_le_mul_right _ (by omega)
      refine .ro k' (o' + i * e.size) (j - i) (cap - i) c t fr e _ _ hk hn ?_ g3 hl1 (by omega) (by omega) hs2
      rw [hsz2, ← List.drop_drop, take_drop_of_take htk _ _ (by omega)]

theorem own_part {N : Nat} {ad : Option Addr} {n cap b ver off : Nat} {pa : List Nat} {e : Shape} (h : Rep w loc N [.slice ad n cap] (.own b ver pa off n e)) {i j : Nat} (h1 : i ≤ j) (h2 : j ≤ n) :
    Rep w loc N [.slice (if cap = i then ad else ad.map (·.add (i * e.size))) (j - i) (cap - i)] (.own b ver pa (off + i) (j - i) e) := by
  obtain ⟨ad', cap', hv, hb, hver, hc, ha, hm, ho⟩ := h.own_inv
  simp at hv
  obtain ⟨rfl, rfl⟩ := hv
  refine .own b ver pa (off + i) (j - i) e _ _ hb hver (by omega) (fun hp => ?_) (by omega) (fun l hl hlv => ?_)
  · obtain ⟨k, o, rfl⟩ := ha (by omega)
    rw [if_neg (by omega)]
    exact ⟨k, o + i * e.size, by simp [add_plain]⟩
  · have hO := ho l hl hlv
    unfold OwnAt at hO ⊢
    cases hw : l.wb with
    | none =>
      simp only [hw] at hO ⊢
      obtain ⟨h6, rfl, rfl, rfl, h5⟩ := hO
      simp only [Value.slice.injEq] at h6
      obtain ⟨rfl, -, rfl⟩ := h6
      have : i = 0 := by omega
      have : j = 0 := by omega
      subst i; subst j
      simp [h5]
    | some k =>
      simp only [hw] at hO ⊢
      obtain ⟨len, o, cap2, hat, hlen, h6, hcap, hoff, hfull⟩ := hO
      simp only [Value.slice.injEq, true_and] at h6
      obtain ⟨rfl, rfl⟩ := h6
      by_cases hci : cap = i
      · refine ⟨len, o, cap - i, hat, by omega, by simp [hci], by omega, fun hp => by omega, fun g1 g2 g3 => ?_⟩
        have : i = 0 := by omega
        subst this
        have := hfull g1 (by omega) (by omega)
        exact ⟨this.1, by omega⟩
      · refine ⟨len, o + i * e.size, cap - i, hat, by omega, by simp [hci, add_plain], by omega, fun hp => ?_, fun g1 g2 g3 => ?_⟩
        · rw [hoff (by omega), Nat.add_mul]; omega
        · have : i = 0 := by omega
          subst this
          have := hfull g1 (by omega) (by omega)
          exact ⟨by simpa using this.1, by omega⟩

theorem arr_part {N : Nat} {k o b ver m : Nat} {pa : List Nat} {e : Shape} (h : Rep w loc N [.pointer (some ⟨k, o, none⟩)] (.ptr b ver pa (.arr m e))) {i j : Nat} (h1 : i ≤ j) (h2 : j ≤ m) (hm : m ≤ maxLen) (hpa : 0 < pa.length) :
    Rep w loc N [.slice (some (if m = i then ⟨k, o, none⟩ else ⟨k, o + i * e.size, none⟩)) (j - i) (m - i)] (.own b ver pa i (j - i) e) := by
  obtain ⟨k', o', hv, hb, hver, ho⟩ := h.ptr_inv
  simp at hv
  obtain ⟨rfl, rfl⟩ := hv
  refine .own b ver pa i (j - i) e _ _ hb hver (by omega) (fun hp => ?_) (by omega) (fun l hl hlv => ?_)
  · rw [if_neg (by omega)]; exact ⟨_, _, rfl⟩
  · obtain ⟨k2, hw, hat, hv2⟩ := ho l hl hlv
    simp at hv2
    obtain ⟨rfl, rfl⟩ := hv2
    unfold OwnAt
    simp only [hw]
    by_cases hci : m = i
    · exact ⟨m, _, m - i, hat, by omega, by rw [if_pos hci], by omega, fun hp => by omega, fun h1 => by subst h1; simp at hpa⟩
    · exact ⟨m, _, m - i, hat, by omega, by rw [if_neg hci], by omega, fun hp => rfl, fun h1 => by subst h1; simp at hpa⟩

theorem bytesOf_map : ∀ {xs : List AV} {l : List (BitVec 8)}, bytesOf xs = some l → xs = l.map AV.u8
  | [], l, h => by simp [bytesOf] at h; subst h; rfl
  | x :: xs, l, h => by
    cases x <;> simp only [bytesOf, reduceCtorEq] at h
    case u8 b =>
      cases hb : bytesOf xs with
      | none => simp [hb] at h
      | some l' =>
        simp [hb] at h
        subst h
        rw [bytesOf_map hb]; rfl

theorem rep_bytes {N : Nat} : ∀ {l : List (BitVec 8)} {cs : List Value}, Rep w loc N cs (.agg (l.map AV.u8)) → cs = l.map fun x => .int .u8 (x.toNat : Int)
  | [], cs, h => h.nil_inv
  | x :: l, cs, h => by
    obtain ⟨us, ys, rfl, h1, h2⟩ := h.cons_inv
    rw [h1.u8_inv, rep_bytes h2]; rfl

theorem b2s_run {src dst e : TypeId} (hs : P.underlying src = some (.slice e)) (he : P.underlying e = some (.int .u8)) (hd : P.underlying dst = some .string) (hI : HeapInv w loc H) {v : Value} {a : AV} {xs : List AV} {l : List (BitVec 8)}
    (hv : RepV w loc H.length v a) (hr : rd H a = some xs) (hb : bytesOf xs = some l) : ∃ u, (convert src dst v).run P w = .ok u w ∧ RepV w loc H.length u (.str l) := by
  have hc : a.isCell = true := by cases a <;> simp_all [rd, AV.isCell]
  have hlen : slen a = some xs.length ∧ xs.length ≤ maxLen := by
    obtain ⟨ad, n, cap, hv', hn, -⟩ := rd_cells hI (hv.rep hc) hr
    have h1 : ∃ m, slen a = some m := by cases a <;> simp_all [rd, slen]
    obtain ⟨m, hm⟩ := h1
    have h2 := len_run (P := P) (H := H) hs hv hm 0
    subst hv'
    have h3 := h2.1
    simp [Builtin.len_, run_underlying hs, goInt] at h3
    exact ⟨by rw [hm, ← hn]; congr 1; omega, by omega⟩
  obtain ⟨ad, n, cap, rfl, hn, -, sh, hsh, hcells⟩ := rd_cells hI (hv.rep hc) hr
  have hxs := bytesOf_map hb
  have hll : l.length = n := by rw [hn, hxs]; simp
  have hmax : l.length ≤ maxLen := by rw [hll, hn]; exact hlen.2
  by_cases h0 : n = 0
  · subst h0
    have hl0 : l = [] := List.eq_nil_of_length_eq_zero (by omega)
    subst hl0
    cases ad with
    | none => exact ⟨_, run_convert_bytes_nil w src e hs he 0 cap dst hd, .cell _ _ rfl (.str _ _ rfl (by simp))⟩
    | some ad =>
      refine ⟨.string ByteArray.empty, ?_, .cell _ _ rfl (.str _ _ rfl (by simp))⟩
      rw [run_convert_bytes_string w src dst e _ 0 cap hs he hd, run_bytesToString w ad 0 cap [] (by simp [loadCells, loadCellsFrom])]
      rfl
  · obtain ⟨k, o, c, t, fr, cs, rfl, hk, htk, hrep⟩ := hcells (by omega)
    rw [hxs] at hrep
    have hcs := rep_bytes hrep
    have hcell := cell_of_seg hk htk
    refine ⟨_, run_convert_bytes_arg w src e hs he k o n cap (l.map fun x => (x.toNat : Int)) (by simpa using hll) (fun i hi => ?_) dst hd, .cell _ _ rfl (.str _ _ ?_ hmax)⟩
    · have := hcell i (.int .u8 ((l.map fun x => (x.toNat : Int)).getD i 0)) (by
        rw [hcs]
        simp [List.getD, List.getElem?_eq_getElem (show i < l.length by omega)])
      rw [add_plain] at this
      exact this
    · rw [strOfNums_data, List.map_map, List.map_map]
      rw [List.map_congr_left (g := id) (fun x _ => ?_)]
      · simp
      · simp only [Function.comp_apply, Int.toNat_natCast, id_eq]
        apply BitVec.eq_of_toNat_eq
        simp

end
end Go.V
