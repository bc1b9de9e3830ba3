import Derived.Test.YtjilenmngokhpaaDoorV35
/- Functions that hand back memory of their own, to be written by their caller. -/
namespace Go.V
open Go

def Kall (rs : List Rv) (K : AV → Heap → Prop) : Exit → St → Prop := fun e st =>
  (e = .normal ∨ e = .ret) ∧ ∃ p l, rsGet st rs = some (p, l) ∧ p ∧ K (oneOf l) st.h
def Ka2 (K : AV → Heap → Prop) (h : Heap) (x : Option (Prop × List AV)) : Prop := ∃ p l, x = some (p, l) ∧ p ∧ K (oneOf l) h
theorem Kall_n {rs : List Rv} {K : AV → Heap → Prop} {st : St} : Kall rs K .normal st = Ka2 K st.h (rsGet st rs) := by simp [Kall, Ka2]
theorem Kall_r {rs : List Rv} {K : AV → Heap → Prop} {st : St} : Kall rs K .ret st = Ka2 K st.h (rsGet st rs) := by simp [Kall, Ka2]
theorem Ka2_s {K : AV → Heap → Prop} {h : Heap} {p : Prop} {l : List AV} : Ka2 K h (some (p, l)) = (p ∧ K (oneOf l) h) := by
  simp only [Ka2, Option.some.injEq, Prod.mk.injEq]
  apply propext
  constructor
  · rintro ⟨p', l', ⟨rfl, rfl⟩, h1, h2⟩; exact ⟨h1, h2⟩
  · rintro ⟨h1, h2⟩; exact ⟨p, l, ⟨rfl, rfl⟩, h1, h2⟩

theorem wpF_goK {P : Program} {G : Globs} {f : FuncId} {np : Nat} {vm : List Nat} {F : FnS} (hc : cF P G (drP P G) f np vm = some F) {args : List AV} {H : Heap} {K : AV → Heap → Prop} (hlen : args.length = np)
    (h : (∀ a ∈ args, a.bnd H.length = true ∧ a.fact) → HBnd H.length H → wpS ⟨P, G, H.length, F.vm, F.n⟩ F.s (Kall F.rs K) ⟨args ++ List.replicate (F.vm.length - args.length) .un, H⟩) : wpF P G f args H K := by
  refine wpF_of (D := DP P G) drP_ok hc hlen fun h1 h2 => WPS_mono (wpS_ok (h h1 h2)) ?_
  rintro e st ⟨h3, p, l, h4, h5, h6⟩
  exact ⟨h3, p, l, h4, h5, .inl h6⟩
end Go.V
