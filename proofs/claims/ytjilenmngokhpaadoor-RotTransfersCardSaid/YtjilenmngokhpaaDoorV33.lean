import Derived.Test.YtjilenmngokhpaaDoorV32
/- What a law's arguments lie like: kinds; the data read as abstract values, and there as before when the call is over. -/
namespace Go.V
open Go Go.ChangeShapes Go.WideShapes Go.ChangeAt Go.RowKit

inductive F2 {α β : Type} (R : α → β → Prop) : List α → List β → Prop
  | nil : F2 R [] []
  | cons {a : α} {b : β} {as : List α} {bs : List β} : R a b → F2 R as bs → F2 R (a :: as) (b :: bs)

inductive Kd where
  | bool | u8 | u16 | u32 | u64 | int | str
  | sl (e : Kd)
  | arr (n : Nat) (e : Kd)

def Kd.sh : Kd → Shape
  | .arr n e => .arr n e.sh
  | _ => .leaf

/-- the type is of the kind -/
def kdOk (P : Program) : Kd → TypeId → Prop
  | .bool, t => P.underlying t = some .bool
  | .u8, t => P.underlying t = some (.int .u8)
  | .u16, t => P.underlying t = some (.int .u16)
  | .u32, t => P.underlying t = some (.int .u32)
  | .u64, t => P.underlying t = some (.int .u64)
  | .int, t => P.underlying t = some (.int .i64)
  | .str, t => P.underlying t = some .string
  | .sl k, t => ∃ e, P.underlying t = some (.slice e) ∧ P.cellsOf e = k.sh.size ∧ 0 < k.sh.size ∧ kdOk P k e
  | .arr n k, t => ∃ e, P.underlying t = some (.array n e) ∧ P.cellsOf e = k.sh.size ∧ P.cellsOf t = n * k.sh.size ∧ kdOk P k e

/-- the abstract values of a kind -/
def isK : Kd → AV → Prop
  | .bool, a => ∃ x, a = .bool x
  | .u8, a => ∃ x, a = .u8 x
  | .u16, a => ∃ x, a = .u16 x
  | .u32, a => ∃ x, a = .u32 x
  | .u64, a => ∃ x, a = .u64 x
  | .int, a => ∃ x, a = .int x ∧ InR x
  | .str, a => ∃ l, a = .str l ∧ l.length ≤ maxLen
  | .sl k, a => ∃ xs, a = .ro k.sh xs ∧ xs.length ≤ maxLen ∧ ∀ x ∈ xs, isK k x
  | .arr n k, a => ∃ xs, a = .agg xs ∧ xs.length = n ∧ ∀ x ∈ xs, isK k x

theorem isK_sh : ∀ (k : Kd) {a : AV}, isK k a → HasSh k.sh a
  | .bool, a, ⟨x, h⟩ => by subst h; simp [Kd.sh, HasSh, AV.isCell]
  | .u8, a, ⟨x, h⟩ => by subst h; simp [Kd.sh, HasSh, AV.isCell]
  | .u16, a, ⟨x, h⟩ => by subst h; simp [Kd.sh, HasSh, AV.isCell]
  | .u32, a, ⟨x, h⟩ => by subst h; simp [Kd.sh, HasSh, AV.isCell]
  | .u64, a, ⟨x, h⟩ => by subst h; simp [Kd.sh, HasSh, AV.isCell]
  | .int, a, ⟨x, h, _⟩ => by subst h; simp [Kd.sh, HasSh, AV.isCell]
  | .str, a, ⟨x, h, _⟩ => by subst h; simp [Kd.sh, HasSh, AV.isCell]
  | .sl k, a, ⟨x, h, _⟩ => by subst h; simp [Kd.sh, HasSh, AV.isCell]
  | .arr n k, a, ⟨xs, h, hl, hx⟩ => by
    subst h
    simp only [Kd.sh, hasSh_arr_agg]
    exact ⟨hl, fun p hp => isK_sh k (hx p hp)⟩

section
variable {H : Type} {enc : TypeId × Value → H} {P : Program}

theorem agg_of {w : World} {loc : Loc} {N s : Nat} {k : Kd} : ∀ (n : Nat) (cs : List Value), cs.length = n * s →
    (∀ i, i < n → ∃ a, isK k a ∧ Rep w loc N ((cs.drop (i * s)).take s) a) → ∃ xs, xs.length = n ∧ (∀ x ∈ xs, isK k x) ∧ Rep w loc N cs (.agg xs)
  | 0, cs, hl, _ => by
    have : cs = [] := by simpa using hl
    subst this
    exact ⟨[], rfl, by simp, .agg0⟩
  | n + 1, cs, hl, h => by
    have hl' : cs.length = n * s + s := by rw [hl, Nat.succ_mul]
    obtain ⟨a, ha, hr⟩ := h 0 (by omega)
    obtain ⟨xs, hx1, hx2, hx3⟩ := agg_of (s := s) n (cs.drop s) (by simp [hl']) (fun i hi => by
      obtain ⟨a, ha, hr⟩ := h (i + 1) (by omega)
      refine ⟨a, ha, ?_⟩
      rw [List.drop_drop]
      rw [Nat.succ_mul, Nat.add_comm] at hr
      exact hr)
    refine ⟨a :: xs, by simp [hx1], ?_, ?_⟩
    · intro x hx
      rcases List.mem_cons.1 hx with rfl | hx
      · exact ha
      · exact hx2 x hx
    · have : cs = cs.take s ++ cs.drop s := (List.take_append_drop s cs).symm
      rw [this]
      simp only [Nat.zero_mul, List.drop_zero] at hr
      exact .agg _ _ _ _ hr hx3

theorem cells?_seg {W : World} {k o n : Nat} {c : Array Value} {t : TypeId} {fr : Nat × Nat} (hk : W.heap[k]? = some (.cells c t fr)) {cs : List Value}
    (h : W.cells? 0 ⟨k, o, none⟩ n = some cs) : (c.toList.drop o).take n = cs := by
  obtain ⟨_, hl, hc⟩ := World.cells?_some h
  apply List.ext_getElem?
  intro i
  by_cases hi : i < n
  · rw [List.getElem?_take_of_lt hi, List.getElem?_drop, ← hc i hi, add_plain]
    simp [World.cell?, hk]
  · rw [List.getElem?_eq_none (by simp; omega), List.getElem?_eq_none (by omega)]

theorem rep_trod {W : World} {spare : Nat → Bool} : ∀ (k : Kd) {t : TypeId}, kdOk P k t → ∀ {fuel : Nat} {cs : List Value} {x : DataW H × List MemPlace},
    DataW.trod enc P W 0 spare true fuel t cs = some x → ∃ a, isK k a ∧ Rep W (fun _ => none) 0 cs a
  | .bool, t, ht, fuel, cs, x, h => by
    obtain ⟨b, rfl, _⟩ := DataW.trod_bool ht h
    exact ⟨_, ⟨b, rfl⟩, .bool b⟩
  | .u8, t, ht, fuel, cs, x, h => by
    obtain ⟨n, rfl, _, hw⟩ := DataW.trod_int ht h
    exact ⟨_, ⟨_, rfl⟩, (repV_u8 (loc := fun _ => none) (N := 0) hw).rep rfl⟩
  | .u16, t, ht, fuel, cs, x, h => by
    obtain ⟨n, rfl, _, hw⟩ := DataW.trod_int ht h
    refine ⟨.u16 (BitVec.ofInt 16 n), ⟨_, rfl⟩, ?_⟩
    simp [Lit.wf, IntKind.min, IntKind.max, IntKind.bits, IntKind.signed] at hw
    have : ((BitVec.ofInt 16 n).toNat : Int) = n := by rw [BitVec.toNat_ofInt]; omega
    have h1 := Rep.u16 (w := W) (loc := fun _ => none) (N := 0) (BitVec.ofInt 16 n)
    rwa [this] at h1
  | .u32, t, ht, fuel, cs, x, h => by
    obtain ⟨n, rfl, _, hw⟩ := DataW.trod_int ht h
    exact ⟨_, ⟨_, rfl⟩, (repV_u32 (loc := fun _ => none) (N := 0) hw).rep rfl⟩
  | .u64, t, ht, fuel, cs, x, h => by
    obtain ⟨n, rfl, _, hw⟩ := DataW.trod_int ht h
    exact ⟨_, ⟨_, rfl⟩, (repV_u64 (loc := fun _ => none) (N := 0) hw).rep rfl⟩
  | .int, t, ht, fuel, cs, x, h => by
    obtain ⟨n, rfl, _, hw⟩ := DataW.trod_int ht h
    refine ⟨_, ⟨n, rfl, ?_⟩, (repV_int (loc := fun _ => none) (N := 0) hw).rep rfl⟩
    simp [Lit.wf, IntKind.min, IntKind.max, IntKind.bits, IntKind.signed] at hw
    unfold InR; omega
  | .str, t, ht, fuel, cs, x, h => by
    obtain ⟨s, rfl, _, hm⟩ := DataW.trod_string ht h
    have hm' : (s.data.toList.map UInt8.toBitVec).length ≤ maxLen := by simpa using hm
    exact ⟨.str (s.data.toList.map UInt8.toBitVec), ⟨_, rfl, hm'⟩, .str s _ rfl hm'⟩
  | .arr n k, t, ⟨e, ht, hc, hct, hk⟩, fuel, cs, x, h => by
    obtain ⟨xs, m, rfl, rfl, hl, hx, hi⟩ := DataW.trod_array ht h
    rw [hct] at hl
    obtain ⟨ys, h1, h2, h3⟩ := agg_of (w := W) (loc := fun _ => none) (N := 0) (k := k) n cs hl (fun i hin => by
      have := hi i hin
      obtain ⟨y, hy⟩ : ∃ y, xs[i]? = some y := ⟨xs[i]'(by omega), by simp [hx, hin]⟩
      rw [hy, hc] at this
      exact rep_trod k hk this)
    exact ⟨_, ⟨ys, rfl, h1, h2⟩, h3⟩
  | .sl k, t, ⟨e, ht, hc, hpos, hk⟩, fuel, cs, x, h => by
    rcases DataW.trod_slice ht h with ⟨rfl, _⟩ | ⟨a, len, cap, elems, rest, n, rfl, rfl, rfl, hb, hl, hm, hlen, hel, _⟩
    · exact ⟨.ro k.sh [], ⟨[], rfl, by simp, by simp⟩, .ro0 _ _ _⟩
    · by_cases h0 : len = 0
      · subst h0
        exact ⟨.ro k.sh [], ⟨[], rfl, by simp, by simp⟩, .ro0 _ _ _⟩
      · rw [hc] at hel
        have each : ∀ i, i < len → ∃ cs', W.cells? 0 (a.add (i * k.sh.size)) k.sh.size = some cs' ∧ ∃ y, DataW.trod enc P W 0 spare true n e cs' = some y := by
          intro i hi
          have := hel i hi
          obtain ⟨y, hy⟩ : ∃ y, elems[i]? = some y := ⟨elems[i]'(by omega), by simp [hlen, hi]⟩
          rw [hy] at this
          obtain ⟨cs', h1, h2⟩ := Option.bind_eq_some_iff.1 this
          exact ⟨cs', h1, y, h2⟩
        obtain ⟨cs0, h00, _⟩ := each 0 (by omega)
        obtain ⟨_, hl0, hc0⟩ := World.cells?_some h00
        have hcell := hc0 0 hpos
        have hcs0 : cs0[0]? = some (cs0[0]'(by omega)) := by simp [hl0, hpos]
        rw [hcs0] at hcell
        obtain ⟨bk, off, spot⟩ := a
        simp only [Nat.zero_mul, Addr.add, if_true, World.cell?] at hcell
        split at hcell
        case h_2 => exact absurd hcell (by simp)
        rename_i c et fr hheap
        have hspot : spot = none := by cases spot with | none => rfl | some _ => simp at hcell
        subst hspot
        have hsegs : ∀ i, i < len → ∃ y, isK k y ∧ ((c.toList.drop (off + i * k.sh.size)).take k.sh.size).length = k.sh.size ∧
            Rep W (fun _ => none) 0 ((c.toList.drop (off + i * k.sh.size)).take k.sh.size) y := by
          intro i hi
          obtain ⟨cs', h1, y, h2⟩ := each i hi
          rw [add_plain] at h1
          have h3 := cells?_seg hheap h1
          obtain ⟨z, hz, hr⟩ := rep_trod k hk h2
          rw [h3]
          exact ⟨z, hz, (World.cells?_some h1).2.1, hr⟩
        have hlast : off + len * k.sh.size ≤ c.toList.length := by
          obtain ⟨y, _, h1, _⟩ := hsegs (len - 1) (by omega)
          rw [List.length_take, List.length_drop] at h1
          have : (len - 1) * k.sh.size + k.sh.size = len * k.sh.size := by
            rw [← Nat.succ_mul]; congr 1; omega
          omega
        have hlseg : ((c.toList.drop off).take (len * k.sh.size)).length = len * k.sh.size := by
          rw [List.length_take, List.length_drop]; omega
        obtain ⟨ys, h1, h2, h3⟩ := agg_of (w := W) (loc := fun _ => none) (N := 0) (k := k) len ((c.toList.drop off).take (len * k.sh.size)) hlseg (fun i hi => by
          obtain ⟨y, h1, h2, h3⟩ := hsegs i hi
          refine ⟨y, h1, ?_⟩
          have hle : i * k.sh.size + k.sh.size ≤ len * k.sh.size := by
            rw [← Nat.succ_mul]; exact Nat.mul_le_mul_right _ (by omega)
          rw [List.drop_take, List.drop_drop, List.take_take, Nat.min_eq_left (by omega)]
          exact h3)
        refine ⟨.ro k.sh ys, ⟨ys, rfl, by omega, h2⟩, .ro bk off len cap c et fr k.sh ys _ hheap (fun _ _ h => by cases h) ?_ h3 h1 hl (by omega) (fun y hy => isK_sh k (h2 y hy))⟩
        rw [hlseg]

theorem still_cell {W W' : World} (hst : Still W W') {a : Addr} {v : Value} (h : W.cell? a = some v) : W'.cell? a = some v := by
  have hlt : a.block < W.heap.size := by
    unfold World.cell? at h
    split at h
    · rename_i hh; exact lt_of_heap hh
    · cases h
  simp only [World.cell?, hst.2.2.2 _ hlt] at h ⊢
  exact h

theorem mapM_some_of_get {α β : Type} {f : α → Option β} : ∀ (l : List α) (r : List β), r.length = l.length → (∀ (i : Nat) (x : α), l[i]? = some x → f x = r[i]?) → l.mapM f = some r
  | [], [], _, _ => rfl
  | [], _ :: _, h, _ => by simp at h
  | _ :: _, [], h, _ => by simp at h
  | x :: l, y :: r, h, hf => by
    have h0 := hf 0 x rfl
    rw [List.mapM_cons, h0, mapM_some_of_get l r (by simpa using h) (fun i z hz => hf (i + 1) z (by simpa using hz))]
    rfl

theorem mapM_up {α β : Type} {f g : α → Option β} : ∀ {l : List α} {r : List β}, l.mapM f = some r → (∀ x y, x ∈ l → y ∈ r → f x = some y → g x = some y) → l.mapM g = some r
  | [], r, h, _ => by simpa using h
  | x :: l, r, h, hg => by
    rw [List.mapM_cons] at h ⊢
    simp only [Option.bind_eq_bind, Option.bind_eq_some_iff, Option.pure_def] at h ⊢
    obtain ⟨y, hy, ys, hys, hr⟩ := h
    simp only [Option.some.injEq] at hr
    subst hr
    exact ⟨y, hg x y (by simp) (by simp) hy, ys, mapM_up hys (fun a b ha hb => hg a b (by simp [ha]) (by simp [hb])), rfl⟩

theorem still_cells {W W' : World} (hst : Still W W') {a : Addr} {n : Nat} {cs : List Value} (h : W.cells? 0 a n = some cs) : W'.cells? 0 a n = some cs := by
  unfold World.cells? at h ⊢
  simp only [Nat.zero_le, if_true] at h ⊢
  exact mapM_up h fun i v _ _ => still_cell hst

theorem trod_up {W W' : World} (hst : Still W W') {sp : Nat → Bool} : ∀ (k : Kd) {t : TypeId}, kdOk P k t → ∀ {fuel : Nat} {cs : List Value} {x : DataW H × List MemPlace},
    DataW.trod enc P W 0 (fun _ => true) true fuel t cs = some x → (∀ p ∈ x.2, sp p.block = true) → DataW.trod enc P W' 0 sp true fuel t cs = some x
  | .bool, t, ht, 0, cs, x, h, _ => by simp [DataW.trod] at h
  | .bool, t, ht, fuel + 1, cs, x, h, _ => by
    obtain ⟨b, rfl, _⟩ := DataW.trod_bool ht h
    simp only [kdOk] at ht
    simpa [DataW.trod, ht] using h
  | .u8, t, ht, 0, cs, x, h, _ => by simp [DataW.trod] at h
  | .u8, t, ht, fuel + 1, cs, x, h, _ => by
    obtain ⟨b, rfl, _⟩ := DataW.trod_int ht h
    simp only [kdOk] at ht
    simpa [DataW.trod, ht] using h
  | .u16, t, ht, 0, cs, x, h, _ => by simp [DataW.trod] at h
  | .u16, t, ht, fuel + 1, cs, x, h, _ => by
    obtain ⟨b, rfl, _⟩ := DataW.trod_int ht h
    simp only [kdOk] at ht
    simpa [DataW.trod, ht] using h
  | .u32, t, ht, 0, cs, x, h, _ => by simp [DataW.trod] at h
  | .u32, t, ht, fuel + 1, cs, x, h, _ => by
    obtain ⟨b, rfl, _⟩ := DataW.trod_int ht h
    simp only [kdOk] at ht
    simpa [DataW.trod, ht] using h
  | .u64, t, ht, 0, cs, x, h, _ => by simp [DataW.trod] at h
  | .u64, t, ht, fuel + 1, cs, x, h, _ => by
    obtain ⟨b, rfl, _⟩ := DataW.trod_int ht h
    simp only [kdOk] at ht
    simpa [DataW.trod, ht] using h
  | .int, t, ht, 0, cs, x, h, _ => by simp [DataW.trod] at h
  | .int, t, ht, fuel + 1, cs, x, h, _ => by
    obtain ⟨b, rfl, _⟩ := DataW.trod_int ht h
    simp only [kdOk] at ht
    simpa [DataW.trod, ht] using h
  | .str, t, ht, 0, cs, x, h, _ => by simp [DataW.trod] at h
  | .str, t, ht, fuel + 1, cs, x, h, _ => by
    obtain ⟨b, rfl, _⟩ := DataW.trod_string ht h
    simp only [kdOk] at ht
    simpa [DataW.trod, ht] using h
  | .arr n k, t, ⟨e, ht, hc, hct, hk⟩, fuel, cs, x, h, hp => by
    obtain ⟨xs, m, rfl, rfl, hl, hx, hi⟩ := DataW.trod_array ht h
    have hm : (List.range n).mapM (fun i => DataW.trod enc P W' 0 sp true m e ((cs.drop (i * P.cellsOf e)).take (P.cellsOf e))) = some xs := by
      refine mapM_some_of_get _ _ (by simp [hx]) fun i j hj => ?_
      have hin : i < n := by have := (List.getElem?_eq_some_iff.1 hj).1; simpa using this
      have hji : j = i := by
        rw [List.getElem?_range hin] at hj; exact (Option.some.inj hj).symm
      subst hji
      obtain ⟨y, hy⟩ : ∃ y, xs[j]? = some y := ⟨xs[j]'(by omega), by simp [hx, hin]⟩
      have := hi j hin
      rw [hy] at this ⊢
      exact trod_up hst k hk this fun p hpp => hp p (by simp; exact ⟨y.1, y.2, List.mem_of_getElem? hy, hpp⟩)
    have hne : ∀ u, cs = [u] → True := fun _ _ => trivial
    rw [DataW.trod.eq_def]
    simp only [ht]
    split <;> simp_all
  | .sl k, t, ⟨e, ht, hc, hpos, hk⟩, fuel, cs, x, h, hp => by
    rcases DataW.trod_slice ht h with ⟨rfl, rfl⟩ | ⟨a, len, cap, elems, rest, n, rfl, rfl, rfl, hb, hl, hm, hlen, hel, hsp, _⟩
    · cases fuel with
      | zero => simp [DataW.trod] at h
      | succ n => simp [DataW.trod, ht]
    · obtain ⟨hrl, hrest⟩ := hsp rfl
      have up : ∀ (b : Addr) y, y ∈ elems ++ rest → (W.cells? 0 b (P.cellsOf e)).bind (DataW.trod enc P W 0 (fun _ => true) true n e) = some y →
          (W'.cells? 0 b (P.cellsOf e)).bind (DataW.trod enc P W' 0 sp true n e) = some y := by
        intro b y hy h1
        obtain ⟨cs', h1, h2⟩ := Option.bind_eq_some_iff.1 h1
        rw [still_cells hst h1]
        refine trod_up hst k hk h2 fun p hpp => hp p ?_
        simp only [List.mem_append, List.mem_flatMap]
        exact .inr ⟨y, by simpa using hy, hpp⟩
      have he : (List.range len).mapM (fun i => (W'.cells? 0 (a.add (i * P.cellsOf e)) (P.cellsOf e)).bind (DataW.trod enc P W' 0 sp true n e)) = some elems := by
        refine mapM_some_of_get _ _ (by simp [hlen]) fun i j hj => ?_
        have hin : i < len := by have := (List.getElem?_eq_some_iff.1 hj).1; simpa using this
        have hji : j = i := by
          rw [List.getElem?_range hin] at hj; exact (Option.some.inj hj).symm
        subst hji
        obtain ⟨y, hy⟩ : ∃ y, elems[j]? = some y := ⟨elems[j]'(by omega), by simp [hlen, hin]⟩
        have := hel j hin
        rw [hy] at this ⊢
        exact up _ _ (List.mem_append_left _ (List.mem_of_getElem? hy)) this
      have hr : (List.range (cap - len)).mapM (fun j => (W'.cells? 0 (a.add ((len + j) * P.cellsOf e)) (P.cellsOf e)).bind (DataW.trod enc P W' 0 sp true n e)) = some rest := by
        refine mapM_some_of_get _ _ (by simp [hrl]) fun i j hj => ?_
        have hin : i < cap - len := by have := (List.getElem?_eq_some_iff.1 hj).1; simpa using this
        have hji : j = i := by
          rw [List.getElem?_range hin] at hj; exact (Option.some.inj hj).symm
        subst hji
        obtain ⟨y, hy⟩ : ∃ y, rest[j]? = some y := ⟨rest[j]'(by omega), by simp [hrl, hin]⟩
        have := hrest j hin
        rw [hy] at this ⊢
        exact up _ _ (List.mem_append_right _ (List.mem_of_getElem? hy)) this
      have hsp' : sp a.block = false → rest = [] := by
        intro hf
        by_cases h0 : 0 < (elems.length + rest.length) * P.cellsOf e
        · have := hp (.cell a.block (a.off + 0)) (by simp only [List.mem_append, MemPlace.row, List.mem_map, List.mem_range]; exact .inl ⟨0, h0, rfl⟩)
          simp [MemPlace.block, hf] at this
        · have : (elems.length + rest.length) * k.sh.size = 0 := by rw [hc] at h0; omega
          rcases Nat.mul_eq_zero.1 this with h | h
          · exact List.eq_nil_of_length_eq_zero (by omega)
          · omega
      simp only [DataW.trod, ht, he, Nat.zero_le, hl, hm, and_self, if_true, Option.bind_some]
      cases hs : sp a.block with
      | true => simp only [if_true, hr, Option.map_some]
      | false => simp [hsp' hs]

/-- A parameter of a kind: read as an abstract value. -/
theorem repV_kd {W : World} {r : Reach} {b0 : Nat} {spare : Nat → Bool} (k : Kd) {t : TypeId} (hk : kdOk P k t) {v : Value} (hval : Value.okWide P W r b0 t v) {d : DataW H} {ps : List MemPlace}
    (h : DataW.Trod enc P W 0 spare true t v d ps) : ∃ a, isK k a ∧ RepV W (fun _ => none) 0 v a := by
  obtain ⟨fuel, h⟩ := h
  obtain ⟨a, ha, hr⟩ := rep_trod k hk h
  refine ⟨a, ha, ?_⟩
  have one : ∀ {u : Value}, v = u → u.cells.toList = [u] → a.isCell = true → RepV W (fun _ => none) 0 v a := by
    intro u hu hc hcell
    subst hu
    rw [hc] at hr
    exact .cell _ _ hcell hr
  cases k with
  | bool => obtain ⟨x, rfl⟩ := okWide_bool hk hval; obtain ⟨y, rfl⟩ := ha; exact one rfl rfl rfl
  | u8 => obtain ⟨x, rfl⟩ := okWide_int hk hval; obtain ⟨y, rfl⟩ := ha; exact one rfl rfl rfl
  | u16 => obtain ⟨x, rfl⟩ := okWide_int hk hval; obtain ⟨y, rfl⟩ := ha; exact one rfl rfl rfl
  | u32 => obtain ⟨x, rfl⟩ := okWide_int hk hval; obtain ⟨y, rfl⟩ := ha; exact one rfl rfl rfl
  | u64 => obtain ⟨x, rfl⟩ := okWide_int hk hval; obtain ⟨y, rfl⟩ := ha; exact one rfl rfl rfl
  | int => obtain ⟨x, rfl⟩ := okWide_int hk hval; obtain ⟨y, rfl, _⟩ := ha; exact one rfl rfl rfl
  | str => obtain ⟨x, rfl⟩ := okWide_string hk hval; obtain ⟨y, rfl, _⟩ := ha; exact one rfl rfl rfl
  | sl k => obtain ⟨e, ht, _⟩ := hk; obtain ⟨x, n, c, rfl⟩ := okWide_slice ht hval; obtain ⟨y, rfl, _⟩ := ha; exact one rfl rfl rfl
  | arr n k =>
    obtain ⟨e, ht, _⟩ := hk
    obtain ⟨cs, rfl, _⟩ : ∃ cs, v = .agg cs ∧ cs.size = P.cellsOf t := by
      unfold Value.okWide at hval
      rw [ht] at hval
      obtain ⟨cs, h1, h2, _⟩ := hval
      exact ⟨cs, h1, h2⟩
    obtain ⟨y, rfl, _⟩ := ha
    have := RepV.agg (w := W) (loc := fun _ => none) (N := 0) cs.toList y (by simpa [Value.cells] using hr)
    simpa using this

theorem trodAll_up {W W' : World} (hst : Still W W') {sp : Nat → Bool} : ∀ {ks : List Kd} {ts : List TypeId}, F2 (kdOk P) ks ts → ∀ {vs : List Value} {ds : List (DataW H)} {ps : List MemPlace},
    DataW.TrodAll enc P W 0 (fun _ => true) true ts vs ds ps → (∀ p ∈ ps, sp p.block = true) → DataW.TrodAll enc P W' 0 sp true ts vs ds ps
  | [], [], .nil, [], [], ps, h, _ => h
  | [], [], .nil, _ :: _, _, ps, h, _ => by cases h
  | [], [], .nil, [], _ :: _, ps, h, _ => by cases h
  | k :: ks, t :: ts, .cons hk hks, v :: vs, d :: ds, ps, h, hp => by
    obtain ⟨p, q, ⟨fuel, h1⟩, h2, rfl⟩ := h
    exact ⟨p, q, ⟨fuel, trod_up hst k hk h1 fun a ha => hp a (by simp [ha])⟩, trodAll_up hst hks h2 fun a ha => hp a (by simp [ha]), rfl⟩
  | k :: ks, t :: ts, .cons hk hks, [], _, ps, h, _ => by cases h
  | k :: ks, t :: ts, .cons hk hks, _ :: _, [], ps, h, _ => by cases h

theorem repVs_up {W : World} {r : Reach} {b0 : Nat} : ∀ {ks : List Kd} {ts : List TypeId}, F2 (kdOk P) ks ts → ∀ {vs : List Value} {ds : List (DataW H)} {ps : List MemPlace},
    (∀ (j : Nat) t v, ts[j]? = some t → vs[j]? = some v → Value.okWide P W r b0 t v) →
    DataW.TrodAll enc P W 0 (fun _ => true) true ts vs ds ps → ∃ as, F2 isK ks as ∧ RepVs W (fun _ => none) 0 vs as
  | [], [], .nil, [], [], ps, _, h => ⟨[], .nil, .nil⟩
  | [], [], .nil, _ :: _, _, ps, _, h => by cases h
  | [], [], .nil, [], _ :: _, ps, _, h => by cases h
  | k :: ks, t :: ts, .cons hk hks, v :: vs, d :: ds, ps, hv, h => by
    obtain ⟨p, q, h1, h2, rfl⟩ := h
    obtain ⟨a, ha, hr⟩ := repV_kd k hk (hv 0 t v rfl rfl) h1
    obtain ⟨as, has, hrs⟩ := repVs_up hks (fun j t v h1 h2 => hv (j + 1) t v h1 h2) h2
    exact ⟨a :: as, .cons ha has, .cons _ _ _ _ hr hrs⟩
  | k :: ks, t :: ts, .cons hk hks, [], _, ps, _, h => by cases h
  | k :: ks, t :: ts, .cons hk hks, _ :: _, [], ps, _, h => by cases h

/-- A law without package variables: from what it hands back to what its row says. -/
theorem law_post {f : Func} {fn : FuncId} {s : ChangeSpec} {apart fresh handsOn again : Bool} {W : World} {r : Reach} {b0 : Nat} {args : Array Value} {ds gs : List (DataW H)} {before : List MemPlace} (t : TypeId) (hrt : f.resultTypes = #[t]) (htb : P.underlying t = some .bool)
    {ks : List Kd} (hks : F2 (kdOk P) ks f.params.toList) (hvars : s.vars = []) (hns : (s.fn H ds).vars = [])
    (hres : (s.fn H ds).results = [.lit (.bool true)]) (hargs : (s.fn H ds).args = ds)
    (hval : ∀ (j : Nat) t v, f.params[j]? = some t → args[j]? = some v → Value.okWide P W r b0 t v)
    (hW : DataW.Whole enc P f.params.toList s.vars apart W args.toList ds gs before)
    (walk : ∀ as, F2 isK ks as → wpF P [] fn as [] fun r _ => r = .bool true) :
    Calls P fn args W fun e W' => e = .returned (.bool true) ∧ s.post enc P f apart fresh handsOn again W args (.bool true) W' := by
  have hW' := hW
  obtain ⟨p, q, hA, hV, rfl, _, _⟩ := hW
  rw [hvars] at hV
  obtain ⟨rfl, rfl⟩ := trodVars_none hV
  obtain ⟨as, has, hrs⟩ := repVs_up hks (fun j t v h1 h2 => hval j t v (by simpa using h1) (by simpa using h2)) hA
  have hc := calls_of (walk as has) W hrs
  simp only [Array.toArray_toList] at hc
  refine hc.mono fun e W' ⟨he, hg⟩ => ⟨he, ?_⟩
  simp only [List.append_nil] at hW' ⊢
  refine post_law t hrt htb (pa := p) (pv := []) (by simpa using hW') hg (by simpa using hres) (fun sp hs => ?_) (fun sp hs => ?_) (by simp)
  · simp only [List.append_nil, hargs]
    exact trodAll_up hg hks hA hs
  · simp only [List.append_nil, hvars, hns]
    rfl

theorem trodAll_len {W : World} {sp : Nat → Bool} {b : Nat} {hd : Bool} : ∀ {ts : List TypeId} {vs : List Value} {ds : List (DataW H)} {ps : List MemPlace}, DataW.TrodAll enc P W b sp hd ts vs ds ps → ds.length = ts.length
  | [], [], [], _, _ => rfl
  | [], _ :: _, _, _, h => by cases h
  | [], [], _ :: _, _, h => by cases h
  | t :: ts, [], _, _, h => by cases h
  | t :: ts, _ :: _, [], _, h => by cases h
  | t :: ts, v :: vs, d :: ds, _, h => by
    obtain ⟨p, q, _, h2, _⟩ := h
    simp [trodAll_len h2]
end

theorem all_of {α : Type} (f : α → AV) : ∀ {xs : List AV}, (∀ x ∈ xs, ∃ a, x = f a) → ∃ ns : List α, xs = ns.map f
  | [], _ => ⟨[], rfl⟩
  | x :: xs, h => by
    obtain ⟨a, rfl⟩ := h x (by simp)
    obtain ⟨ns, rfl⟩ := all_of f (xs := xs) fun y hy => h y (List.mem_cons_of_mem _ hy)
    exact ⟨a :: ns, rfl⟩
theorem all_of2 {α : Type} (f : α → AV) (q : α → Prop) : ∀ {xs : List AV}, (∀ x ∈ xs, ∃ a, x = f a ∧ q a) → ∃ ns : List α, xs = ns.map f ∧ ∀ n ∈ ns, q n
  | [], _ => ⟨[], rfl, by simp⟩
  | x :: xs, h => by
    obtain ⟨a, rfl, ha⟩ := h x (by simp)
    obtain ⟨ns, rfl, hn⟩ := all_of2 f q (xs := xs) fun y hy => h y (List.mem_cons_of_mem _ hy)
    exact ⟨a :: ns, rfl, by
      intro n hm
      rcases List.mem_cons.1 hm with rfl | hm
      · exact ha
      · exact hn n hm⟩
end Go.V
