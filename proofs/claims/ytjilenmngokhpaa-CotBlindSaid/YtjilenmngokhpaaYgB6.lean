/-
  The law CotBlind returns true for all inputs: the sender's shares hang on the pairs alone, and how many corrections there are on how many transfers there are.
-/
import Derived.Test.YtjilenmngokhpaaYg
import Derived.Test.YtjilenmngokhpaaV47
import Derived.WalkKit
import Derived.ProofKit
import Derived.OpenShut
open Go Go.V
namespace Go.Proofs.Ytjilenmngokhpaa.cotBlind
open Go.ChangeShapes Go.WideShapes Go.ChangeAt Go.RowKit
set_option linter.unusedVariables false
theorem all_pr : ∀ {xs : List AV}, (∀ x ∈ xs, isSt [.arr 32 .u8, .arr 32 .u8] x) → ∃ l : List Pr, xs = l.map prA ∧ ∀ p ∈ l, p.ok
  | [], _ => ⟨[], rfl, by simp⟩
  | x :: xs, h => by
    obtain ⟨al, rfl, hal⟩ := all_pr (xs := xs) fun y hy => h y (by simp [hy])
    obtain ⟨ps, rfl, hp⟩ := h x (by simp)
    obtain _ | ⟨h3, hp⟩ := hp
    obtain _ | ⟨h4, hp⟩ := hp
    obtain _ | _ := hp
    obtain ⟨y3, rfl, r3, q3⟩ := h3
    obtain ⟨y4, rfl, r4, q4⟩ := h4
    obtain ⟨d, rfl⟩ := all_of AV.u8 q3
    obtain ⟨s, rfl⟩ := all_of AV.u8 q4
    refine ⟨⟨d, s⟩ :: al, rfl, fun a ha => ?_⟩
    rcases List.mem_cons.1 ha with rfl | ha
    · exact ⟨by simpa using r3, by simpa using r4⟩
    · exact hal a ha
theorem own : ownKnob Try.prog.godebug = none := by kernel_rfl
theorem kinds : F2 (kxOk Try.prog) [.k .int, .k .int, .ls [.arr 32 .u8, .arr 32 .u8], .k (.sl .u64), .k (.sl .u64)] Try.f6.params.toList := by
  rw [Try.params6]
  exact (.cons Try.underlying3 (.cons Try.underlying3 (.cons (⟨48, _, Try.underlying22, Try.underlying48, by kernel_rfl, by decide, ⟨⟨5, Try.underlying46, by kernel_rfl, by kernel_rfl, Try.underlying5⟩, by kernel_rfl, by kernel_rfl, ⟨5, Try.underlying46, by kernel_rfl, by kernel_rfl, Try.underlying5⟩, by kernel_rfl, by kernel_rfl, trivial⟩⟩) (.cons (⟨49, Try.underlying23, by kernel_rfl, by decide, Try.underlying49⟩) (.cons (⟨49, Try.underlying23, by kernel_rfl, by decide, Try.underlying49⟩) .nil)))))
theorem walk : ∀ av, F2 isX [.k .int, .k .int, .ls [.arr 32 .u8, .arr 32 .u8], .k (.sl .u64), .k (.sl .u64)] av → wpF Try.prog [] 6 av [] fun r _ => r = .bool true := by
  intro av h
  obtain _ | ⟨h0, h⟩ := h
  obtain _ | ⟨h1, h⟩ := h
  obtain _ | ⟨h2, h⟩ := h
  obtain _ | ⟨h3, h⟩ := h
  obtain _ | ⟨h4, h⟩ := h
  obtain _ | _ := h
  obtain ⟨x0, rfl, r0⟩ := h0
  obtain ⟨x1, rfl, r1⟩ := h1
  obtain ⟨y2, rfl, r2, q2⟩ := h2
  obtain ⟨y3, rfl, r3, q3⟩ := h3
  obtain ⟨x3, rfl⟩ := all_of AV.u64 q3
  obtain ⟨y4, rfl, r4, q4⟩ := h4
  obtain ⟨x4, rfl⟩ := all_of AV.u64 q4
  obtain ⟨l, rfl, hl⟩ := all_pr q2
  exact f6 (by simpa using r2) (by simpa using r3) (by simpa using r4) hl rfl
set_option maxRecDepth 100000 in
theorem lifted (os : Os) (started : os.Started) (H : Type) (enc : TypeId × Value → H) :
    ReturnsInHanded {} Try.checked os 6 .any (Rows.cotBlindSpec.pre6 enc Try.prog Try.f6 Rows.cotBlindRow.domain false) (Rows.cotBlindSpec.post enc Try.prog Try.f6 false true false false) := by
  refine returnsInHanded_of_change (C := Try.checked) own started (by kernel_rfl) Try.func6
    (ChangeSpec.witness6 (enc := enc) (C := Try.checked) false ⟨#[], #[.int .i64 0, .int .i64 0, .slice none 0 0, .slice none 0 0, .slice none 0 0], []⟩ 8 (by kernel_rfl) (by kernel_rfl) (by kernel_rfl) (by kernel_rfl)) ?_
  intro W base args ds gs before hval0 hW hcnd _
  obtain ⟨d0, d1, d2, d3, d4, rfl⟩ : ∃ d0 d1 d2 d3 d4 : DataW H, ds = [d0, d1, d2, d3, d4] := by
    obtain ⟨p, q, hA, _⟩ := hW
    have hl := trodAll_len hA
    rw [Try.params6] at hl
    match ds, hl with
    | [d0, d1, d2, d3, d4], _ => exact ⟨d0, d1, d2, d3, d4, rfl⟩
  exact (law_postX (fn := 6) 4 (by kernel_rfl) Try.underlying4 kinds rfl rfl rfl rfl hval0 hW (fun _ _ _ hm => by cases hm) walk).mono fun e W' ⟨he, hp⟩ => ⟨_, he, hp⟩

theorem over : Rows.cotBlindRow.holds Try.pinned (OpenSpec.ofChange Rows.cotBlindSpec) :=
  OpenClaim.holds_of_wide 6 Try.f6 rfl rfl rfl rfl rfl rfl rfl ⟨rfl, rfl, rfl, rfl, rfl⟩ rfl rfl rfl rfl rfl (by kernel_rfl) Try.func6 (by kernel_rfl)
    (of_decide_eq_true (by kernel_rfl)) (by unfold Func.isWrapper; first | (rw [if_pos (by decide +kernel)]; kernel_rfl) | (rw [if_neg (by decide +kernel)]; exact ⟨rfl, rfl⟩))
    (fun os started H enc _ => lifted os started H enc)

theorem proved : Rows.CotBlindSaid :=
  over
#print axioms proved
end Go.Proofs.Ytjilenmngokhpaa.cotBlind
