/-
  The law CotOpens returns true for all inputs: both shares come to the sender's numbers where 1 was chosen, and to 0 else.
-/
import Derived.Test.YtjilenmngokhpaaYg
import Derived.Test.YtjilenmngokhpaaV47
import Derived.WalkKit
import Derived.ProofKit
import Derived.OpenShut
open Go Go.V
namespace Go.Proofs.Ytjilenmngokhpaa.cotOpens
open Go.ChangeShapes Go.WideShapes Go.ChangeAt Go.RowKit
set_option linter.unusedVariables false
theorem all_pr : ∀ {xs : List AV}, (∀ x ∈ xs, isSt [.arr 32 .u8, .arr 32 .u8] x) → ∃ l : List Pr, xs = l.map prA ∧ ∀ p ∈ l, p.ok
  | [], _ => ⟨[], rfl, by simp⟩
  | x :: xs, h => by
    obtain ⟨al, rfl, hal⟩ := all_pr (xs := xs) fun y hy => h y (by simp [hy])
    obtain ⟨ps, rfl, hp⟩ := h x (by simp)
    obtain _ | ⟨h3, hp⟩ := hp
    obtain _ | ⟨h4, hp⟩ := hp
    obtain _ | _ := hp
    obtain ⟨y3, rfl, r3, q3⟩ := h3
    obtain ⟨y4, rfl, r4, q4⟩ := h4
    obtain ⟨d, rfl⟩ := all_of AV.u8 q3
    obtain ⟨s, rfl⟩ := all_of AV.u8 q4
    refine ⟨⟨d, s⟩ :: al, rfl, fun a ha => ?_⟩
    rcases List.mem_cons.1 ha with rfl | ha
    · exact ⟨by simpa using r3, by simpa using r4⟩
    · exact hal a ha
theorem own : ownKnob Try.prog.godebug = none := by kernel_rfl
theorem kinds : F2 (kxOk Try.prog) [.k .int, .k .int, .ls [.arr 32 .u8, .arr 32 .u8], .k (.sl .u64), .k (.sl .bool)] Try.f5.params.toList := by
  rw [Try.params5]
  exact (.cons Try.underlying3 (.cons Try.underlying3 (.cons (⟨48, _, Try.underlying22, Try.underlying48, by kernel_rfl, by decide, ⟨⟨5, Try.underlying46, by kernel_rfl, by kernel_rfl, Try.underlying5⟩, by kernel_rfl, by kernel_rfl, ⟨5, Try.underlying46, by kernel_rfl, by kernel_rfl, Try.underlying5⟩, by kernel_rfl, by kernel_rfl, trivial⟩⟩) (.cons (⟨49, Try.underlying23, by kernel_rfl, by decide, Try.underlying49⟩) (.cons (⟨4, Try.underlying35, by kernel_rfl, by decide, Try.underlying4⟩) .nil)))))
theorem walk : ∀ av, F2 isX [.k .int, .k .int, .ls [.arr 32 .u8, .arr 32 .u8], .k (.sl .u64), .k (.sl .bool)] av → wpF Try.prog [] 5 av [] fun r _ => r = .bool true := by
  intro av h
  obtain _ | ⟨h0, h⟩ := h
  obtain _ | ⟨h1, h⟩ := h
  obtain _ | ⟨h2, h⟩ := h
  obtain _ | ⟨h3, h⟩ := h
  obtain _ | ⟨h4, h⟩ := h
  obtain _ | _ := h
  obtain ⟨x0, rfl, r0⟩ := h0
  obtain ⟨x1, rfl, r1⟩ := h1
  obtain ⟨y2, rfl, r2, q2⟩ := h2
  obtain ⟨y3, rfl, r3, q3⟩ := h3
  obtain ⟨x3, rfl⟩ := all_of AV.u64 q3
  obtain ⟨y4, rfl, r4, q4⟩ := h4
  obtain ⟨x4, rfl⟩ := all_of AV.bool q4
  obtain ⟨l, rfl, hl⟩ := all_pr q2
  exact f5 (by simpa using r2) (by simpa using r3) (by simpa using r4) hl rfl
set_option maxRecDepth 100000 in
theorem lifted (os : Os) (started : os.Started) (H : Type) (enc : TypeId × Value → H) :
    ReturnsInHanded {} Try.checked os 5 .any (Rows.cotOpensSpec.pre6 enc Try.prog Try.f5 Rows.cotOpensRow.domain false) (Rows.cotOpensSpec.post enc Try.prog Try.f5 false true false false) := by
  refine returnsInHanded_of_change (C := Try.checked) own started (by kernel_rfl) Try.func5
    (ChangeSpec.witness6 (enc := enc) (C := Try.checked) false ⟨#[], #[.int .i64 0, .int .i64 0, .slice none 0 0, .slice none 0 0, .slice none 0 0], []⟩ 8 (by kernel_rfl) (by kernel_rfl) (by kernel_rfl) (by kernel_rfl)) ?_
  intro W base args ds gs before hval0 hW hcnd _
  obtain ⟨d0, d1, d2, d3, d4, rfl⟩ : ∃ d0 d1 d2 d3 d4 : DataW H, ds = [d0, d1, d2, d3, d4] := by
    obtain ⟨p, q, hA, _⟩ := hW
    have hl := trodAll_len hA
    rw [Try.params5] at hl
    match ds, hl with
    | [d0, d1, d2, d3, d4], _ => exact ⟨d0, d1, d2, d3, d4, rfl⟩
  exact (law_postX (fn := 5) 4 (by kernel_rfl) Try.underlying4 kinds rfl rfl rfl rfl hval0 hW (fun _ _ _ hm => by cases hm) walk).mono fun e W' ⟨he, hp⟩ => ⟨_, he, hp⟩

theorem over : Rows.cotOpensRow.holds Try.pinned (OpenSpec.ofChange Rows.cotOpensSpec) :=
  OpenClaim.holds_of_wide 5 Try.f5 rfl rfl rfl rfl rfl rfl rfl ⟨rfl, rfl, rfl, rfl, rfl⟩ rfl rfl rfl rfl rfl (by kernel_rfl) Try.func5 (by kernel_rfl)
    (of_decide_eq_true (by kernel_rfl)) (by unfold Func.isWrapper; first | (rw [if_pos (by decide +kernel)]; kernel_rfl) | (rw [if_neg (by decide +kernel)]; exact ⟨rfl, rfl⟩))
    (fun os started H enc _ => lifted os started H enc)

theorem proved : Rows.CotOpensSaid :=
  over
#print axioms proved
end Go.Proofs.Ytjilenmngokhpaa.cotOpens
