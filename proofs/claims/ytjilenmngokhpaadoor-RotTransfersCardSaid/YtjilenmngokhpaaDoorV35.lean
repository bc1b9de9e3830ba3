import Derived.Test.YtjilenmngokhpaaDoorV34
/- Functions that write memory which their caller handed to them. -/
namespace Go.V
open Go

def Kmut (rs : List Rv) (H : Heap) (K : AV → Heap → Prop) : Exit → St → Prop := fun e st =>
  (e = .normal ∨ e = .ret) ∧ ∃ p l, rsGet st rs = some (p, l) ∧ p ∧ (oneOf l).bnd H.length = true ∧ H.length ≤ st.h.length ∧ HBnd H.length st.h ∧ K (oneOf l) (st.h.take H.length)
def Km2 (H : Heap) (K : AV → Heap → Prop) (h : Heap) (x : Option (Prop × List AV)) : Prop := ∃ p l, x = some (p, l) ∧ p ∧ (oneOf l).bnd H.length = true ∧ H.length ≤ h.length ∧ HBnd H.length h ∧ K (oneOf l) (h.take H.length)

theorem Kmut_n {rs : List Rv} {H : Heap} {K : AV → Heap → Prop} {st : St} : Kmut rs H K .normal st = Km2 H K st.h (rsGet st rs) := by simp [Kmut, Km2]
theorem Kmut_r {rs : List Rv} {H : Heap} {K : AV → Heap → Prop} {st : St} : Kmut rs H K .ret st = Km2 H K st.h (rsGet st rs) := by simp [Kmut, Km2]
theorem Km2_s {H : Heap} {K : AV → Heap → Prop} {h : Heap} {p : Prop} {l : List AV} : Km2 H K h (some (p, l)) = (p ∧ (oneOf l).bnd H.length = true ∧ H.length ≤ h.length ∧ HBnd H.length h ∧ K (oneOf l) (h.take H.length)) := by
  simp only [Km2, Option.some.injEq, Prod.mk.injEq]
  apply propext
  constructor
  · rintro ⟨p', l', ⟨rfl, rfl⟩, h1, h2⟩; exact ⟨h1, h2⟩
  · rintro ⟨h1, h2⟩; exact ⟨p, l, ⟨rfl, rfl⟩, h1, h2⟩

theorem wpF_goM {P : Program} {G : Globs} {f : FuncId} {np : Nat} {vm : List Nat} {F : FnS} (hc : cF P G (drP P G) f np vm = some F) {args : List AV} {H : Heap} {K : AV → Heap → Prop} (hlen : args.length = np)
    (h : (∀ a ∈ args, a.bnd H.length = true ∧ a.fact) → HBnd H.length H → wpS ⟨P, G, H.length, F.vm, F.n⟩ F.s (Kmut F.rs H K) ⟨args ++ List.replicate (F.vm.length - args.length) .un, H⟩) : wpF P G f args H K := by
  refine wpF_of (D := DP P G) drP_ok hc hlen fun h1 h2 => WPS_mono (wpS_ok (h h1 h2)) ?_
  rintro e st ⟨h3, p, l, h4, h5, h6, h6', h7, h8⟩
  exact ⟨h3, p, l, h4, h5, .inr ⟨H.length, Nat.le_refl _, h6', h6, h7, h8⟩⟩

theorem HBnd_upd {k : Nat} {H0 L : Heap} {x y : Option Blk} (h : HBnd k (H0 ++ x :: L)) (hy : ∀ blk, y = some blk → blk.root.bnd k = true) : HBnd k (H0 ++ y :: L) := by
  intro b blk hb hg
  by_cases he : b = H0.length
  · subst he
    rw [hget_0, hget_z] at hg
    exact hy blk hg
  · refine h b blk hb ?_
    rw [← hg]
    unfold Heap.get
    by_cases hlt : b < H0.length
    · rw [List.getElem?_append_left hlt, List.getElem?_append_left hlt]
    · rw [List.getElem?_append_right (by omega), List.getElem?_append_right (by omega)]
      have : b - H0.length = (b - H0.length - 1) + 1 := by omega
      rw [this, List.getElem?_cons_succ, List.getElem?_cons_succ]
theorem hasSh_mbool {n : Nat} {l : List Bool} : HasSh (.arr n .leaf) (.agg (l.map AV.bool)) = (l.length = n) := by
  rw [hasSh_aa, List.length_map]
  exact propext ⟨fun h => h.1, fun h => ⟨h, by intro x hx; obtain ⟨a, _, rfl⟩ := List.mem_map.1 hx; rfl⟩⟩
theorem hasSh_mu8 {n : Nat} {l : List (BitVec 8)} : HasSh (.arr n .leaf) (.agg (l.map AV.u8)) = (l.length = n) := by
  rw [hasSh_aa, List.length_map]
  exact propext ⟨fun h => h.1, fun h => ⟨h, by intro x hx; obtain ⟨a, _, rfl⟩ := List.mem_map.1 hx; rfl⟩⟩
theorem hasSh_mu16 {n : Nat} {l : List (BitVec 16)} : HasSh (.arr n .leaf) (.agg (l.map AV.u16)) = (l.length = n) := by
  rw [hasSh_aa, List.length_map]
  exact propext ⟨fun h => h.1, fun h => ⟨h, by intro x hx; obtain ⟨a, _, rfl⟩ := List.mem_map.1 hx; rfl⟩⟩
theorem hasSh_mu32 {n : Nat} {l : List (BitVec 32)} : HasSh (.arr n .leaf) (.agg (l.map AV.u32)) = (l.length = n) := by
  rw [hasSh_aa, List.length_map]
  exact propext ⟨fun h => h.1, fun h => ⟨h, by intro x hx; obtain ⟨a, _, rfl⟩ := List.mem_map.1 hx; rfl⟩⟩
theorem hasSh_mu64 {n : Nat} {l : List (BitVec 64)} : HasSh (.arr n .leaf) (.agg (l.map AV.u64)) = (l.length = n) := by
  rw [hasSh_aa, List.length_map]
  exact propext ⟨fun h => h.1, fun h => ⟨h, by intro x hx; obtain ⟨a, _, rfl⟩ := List.mem_map.1 hx; rfl⟩⟩
theorem hasSh_mint {n : Nat} {l : List Int} : HasSh (.arr n .leaf) (.agg (l.map AV.int)) = (l.length = n) := by
  rw [hasSh_aa, List.length_map]
  exact propext ⟨fun h => h.1, fun h => ⟨h, by intro x hx; obtain ⟨a, _, rfl⟩ := List.mem_map.1 hx; rfl⟩⟩
theorem bytesOf_m : ∀ {l : List (BitVec 8)}, bytesOf (l.map AV.u8) = some l
  | [] => rfl
  | x :: l => by simp only [List.map_cons, bytesOf, bytesOf_m (l := l), Option.map_some]
end Go.V
