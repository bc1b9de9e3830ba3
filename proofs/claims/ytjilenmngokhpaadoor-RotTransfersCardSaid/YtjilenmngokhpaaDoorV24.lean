import Derived.Test.YtjilenmngokhpaaDoorV23
/- A function's script, reckoned; what is to be shown of it. -/
namespace Go.V
open Go

structure FnS where
  n : Nat
  vm : List Nat
  s : Scr
  rs : List Rv

section
variable (P : Program) (G : Globs) (dr : List Nat → Nat → Array Oper → Option (List Ins))

def eqRange : List Nat → Nat → Nat → Bool
  | _, 0, _ => true
  | x :: l, n + 1, k => x == k && eqRange l n (k + 1)
  | [], _ + 1, _ => false

def cF (f : FuncId) (np : Nat) (vm : List Nat) : Option FnS :=
  match P.funcs[f]? with
  | some fn => match fn.body with
    | some c => match cC P G vm fn.ntmps (dr vm fn.ntmps) c, cRvs P vm fn.results.toList with
      | some s, some rs => if (fn.name == "runtime.NumGoroutine") = false ∧ eqRange vm np 0 = true ∧ nodupB vm = true ∧ (vm.all fun x => decide (x < fn.ntmps)) = true then some ⟨fn.ntmps, vm, s, rs⟩ else none
      | _, _ => none
    | none => none
  | none => none

variable {P} {G} {dr}

theorem eqRange_ok : ∀ {l : List Nat} {n k : Nat}, eqRange l n k = true → l.take n = List.range' k n ∧ n ≤ l.length
  | l, 0, k, _ => by simp
  | [], n + 1, k, h => by simp [eqRange] at h
  | x :: l, n + 1, k, h => by
    simp only [eqRange, Bool.and_eq_true, beq_iff_eq] at h
    obtain ⟨rfl, h⟩ := h
    obtain ⟨h1, h2⟩ := eqRange_ok h
    exact ⟨by rw [List.take_succ_cons, h1]; rfl, by simpa using h2⟩

/-- What is to be shown of a function: its script, run from its arguments, ends in what K says. -/
def Body (P : Program) (G : Globs) (D : List Nat → Nat → Nat → Array Oper → List Ins → Prop) (F : FnS) (args : List AV) (H : Heap) (K : AV → Heap → Prop) : Prop :=
  WPS ⟨P, G, H.length, F.vm, F.n⟩ (D F.vm F.n) F.s (fun e st => (e = .normal ∨ e = .ret) ∧ ∃ p l, rsGet st F.rs = some (p, l) ∧ p ∧ Fin H.length K (oneOf l) st.h) ⟨args ++ List.replicate (F.vm.length - args.length) .un, H⟩

theorem wpF_of {D : List Nat → Nat → Nat → Array Oper → List Ins → Prop} (hD : ∀ vm n id ops l, dr vm n ops = some l → D vm n id ops l) {f : FuncId} {np : Nat} {vm : List Nat} {F : FnS} (hc : cF P G dr f np vm = some F) {args : List AV} {H : Heap} {K : AV → Heap → Prop} (hlen : args.length = np)
    (h : (∀ a ∈ args, a.bnd H.length = true ∧ a.fact) → HBnd H.length H → Body P G D F args H K) : wpF P G f args H K := by
  unfold cF at hc
  split at hc
  · rename_i fn hf
    split at hc
    · rename_i c hb
      split at hc
      · rename_i s rs hs hr
        split at hc
        · rename_i hk
          cases hc
          obtain ⟨h1, h2, h3, h4⟩ := hk
          obtain ⟨g1, g2⟩ := eqRange_ok h2
          subst hlen
          refine wpF_intro hf h1 hb (cC_ok (D := D vm fn.ntmps) (fun id ops l => hD vm fn.ntmps id ops l) hs) (cRvs_ok hr) ?_ (nodupB_ok h3) (fun x hx => by simpa using List.all_eq_true.1 h4 x hx) g2 h
          rw [g1, List.range_eq_range']
        · cases hc
      · cases hc
    · cases hc
  · cases hc

end
end Go.V
