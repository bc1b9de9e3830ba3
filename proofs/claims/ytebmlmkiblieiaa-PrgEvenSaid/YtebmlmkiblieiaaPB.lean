/-
  The law PrgEven returns true for all inputs: what is below a bound is below it, and as many words below the cut come to each number.
-/
import Derived.Test.YtebmlmkiblieiaaPg
import Derived.WalkKit
import Derived.ProofKit
import Derived.OpenShut
open Go Go.V
namespace Go.Proofs.Ytebmlmkiblieiaa.prgEven
open Go.ChangeShapes Go.WideShapes Go.ChangeAt Go.RowKit
set_option linter.unusedVariables false
theorem own : ownKnob Try.prog.godebug = none := by kernel_rfl
theorem kinds : F2 (kdOk Try.prog) [.u64, .u64] Try.f5.params.toList := by
  rw [Try.params5]
  exact (.cons Try.underlying22 (.cons Try.underlying22 .nil))
theorem walk : ∀ av, F2 isK [.u64, .u64] av → wpF Try.prog [] 5 av [] fun r _ => r = .bool true := by
  intro av h
  obtain _ | ⟨h0, h⟩ := h
  obtain _ | ⟨h1, h⟩ := h
  obtain _ | _ := h
  obtain ⟨x0, rfl⟩ := h0
  obtain ⟨x1, rfl⟩ := h1
  exact f5 rfl
set_option maxRecDepth 100000 in
theorem lifted (os : Os) (started : os.Started) (H : Type) (enc : TypeId × Value → H) :
    ReturnsInHanded {} Try.checked os 5 .any (Rows.prgEvenSpec.pre6 enc Try.prog Try.f5 Rows.prgEvenRow.domain false) (Rows.prgEvenSpec.post enc Try.prog Try.f5 false true false false) := by
  refine returnsInHanded_of_change (C := Try.checked) own started (by kernel_rfl) Try.func5
    (ChangeSpec.witness6 (enc := enc) (C := Try.checked) false ⟨#[], #[.int .u64 0, .int .u64 0], []⟩ 8 (by kernel_rfl) (by kernel_rfl) (by kernel_rfl) (by kernel_rfl)) ?_
  intro W base args ds gs before hval0 hW hcnd _
  obtain ⟨d0, d1, rfl⟩ : ∃ d0 d1 : DataW H, ds = [d0, d1] := by
    obtain ⟨p, q, hA, _⟩ := hW
    have hl := trodAll_len hA
    rw [Try.params5] at hl
    match ds, hl with
    | [d0, d1], _ => exact ⟨d0, d1, rfl⟩
  exact (law_post (fn := 5) 4 (by kernel_rfl) Try.underlying4 kinds rfl rfl rfl rfl hval0 hW walk).mono fun e W' ⟨he, hp⟩ => ⟨_, he, hp⟩

theorem over : Rows.prgEvenRow.holds Try.pinned (OpenSpec.ofChange Rows.prgEvenSpec) :=
  OpenClaim.holds_of_wide 5 Try.f5 rfl rfl rfl rfl rfl rfl rfl ⟨rfl, rfl, rfl, rfl, rfl⟩ rfl rfl rfl rfl rfl (by kernel_rfl) Try.func5 (by kernel_rfl)
    (of_decide_eq_true (by kernel_rfl)) (by unfold Func.isWrapper; first | (rw [if_pos (by decide +kernel)]; kernel_rfl) | (rw [if_neg (by decide +kernel)]; exact ⟨rfl, rfl⟩))
    (fun os started H enc _ => lifted os started H enc)

theorem proved : Rows.PrgEvenSaid :=
  over
#print axioms proved
end Go.Proofs.Ytebmlmkiblieiaa.prgEven
