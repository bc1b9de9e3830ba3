/-
  The law GilboaFolds returns true for all inputs: shares that come to what is spread, where 1 is chosen, fold to shares of the products.
-/
import Derived.Test.YtajkclooknanjaaKo
import Derived.WalkKit
import Derived.ProofKit
import Derived.OpenShut
open Go Go.V
namespace Go.Proofs.Ytajkclooknanjaa.gilboaFolds
open Go.ChangeShapes Go.WideShapes Go.ChangeAt Go.RowKit
set_option linter.unusedVariables false
theorem own : ownKnob Try.prog.godebug = none := by kernel_rfl
theorem kinds : F2 (kdOk Try.prog) [.int, .int, .sl .u64, .sl .u64, .sl .u64] Try.f5.params.toList := by
  rw [Try.params5]
  exact (.cons Try.underlying3 (.cons Try.underlying3 (.cons (⟨44, Try.underlying22, by kernel_rfl, by decide, Try.underlying44⟩) (.cons (⟨44, Try.underlying22, by kernel_rfl, by decide, Try.underlying44⟩) (.cons (⟨44, Try.underlying22, by kernel_rfl, by decide, Try.underlying44⟩) .nil)))))
theorem walk : ∀ av, F2 isK [.int, .int, .sl .u64, .sl .u64, .sl .u64] av → wpF Try.prog [] 5 av [] fun r _ => r = .bool true := by
  intro av h
  obtain _ | ⟨h0, h⟩ := h
  obtain _ | ⟨h1, h⟩ := h
  obtain _ | ⟨h2, h⟩ := h
  obtain _ | ⟨h3, h⟩ := h
  obtain _ | ⟨h4, h⟩ := h
  obtain _ | _ := h
  obtain ⟨x0, rfl, r0⟩ := h0
  obtain ⟨x1, rfl, r1⟩ := h1
  obtain ⟨y2, rfl, r2, q2⟩ := h2
  obtain ⟨x2, rfl⟩ := all_of AV.u64 q2
  obtain ⟨y3, rfl, r3, q3⟩ := h3
  obtain ⟨x3, rfl⟩ := all_of AV.u64 q3
  obtain ⟨y4, rfl, r4, q4⟩ := h4
  obtain ⟨x4, rfl⟩ := all_of AV.u64 q4
  exact f5 (by simpa using r2) (by simpa using r3) (by simpa using r4) rfl
set_option maxRecDepth 100000 in
theorem lifted (os : Os) (started : os.Started) (H : Type) (enc : TypeId × Value → H) :
    ReturnsInHanded {} Try.checked os 5 .any (Rows.gilboaFoldsSpec.pre6 enc Try.prog Try.f5 Rows.gilboaFoldsRow.domain false) (Rows.gilboaFoldsSpec.post enc Try.prog Try.f5 false true false false) := by
  refine returnsInHanded_of_change (C := Try.checked) own started (by kernel_rfl) Try.func5
    (ChangeSpec.witness6 (enc := enc) (C := Try.checked) false ⟨#[], #[.int .i64 0, .int .i64 0, .slice none 0 0, .slice none 0 0, .slice none 0 0], []⟩ 8 (by kernel_rfl) (by kernel_rfl) (by kernel_rfl) (by kernel_rfl)) ?_
  intro W base args ds gs before hval0 hW hcnd _
  obtain ⟨d0, d1, d2, d3, d4, rfl⟩ : ∃ d0 d1 d2 d3 d4 : DataW H, ds = [d0, d1, d2, d3, d4] := by
    obtain ⟨p, q, hA, _⟩ := hW
    have hl := trodAll_len hA
    rw [Try.params5] at hl
    match ds, hl with
    | [d0, d1, d2, d3, d4], _ => exact ⟨d0, d1, d2, d3, d4, rfl⟩
  exact (law_post (fn := 5) 4 (by kernel_rfl) Try.underlying4 kinds rfl rfl rfl rfl hval0 hW walk).mono fun e W' ⟨he, hp⟩ => ⟨_, he, hp⟩

theorem over : Rows.gilboaFoldsRow.holds Try.pinned (OpenSpec.ofChange Rows.gilboaFoldsSpec) :=
  OpenClaim.holds_of_wide 5 Try.f5 rfl rfl rfl rfl rfl rfl rfl ⟨rfl, rfl, rfl, rfl, rfl⟩ rfl rfl rfl rfl rfl (by kernel_rfl) Try.func5 (by kernel_rfl)
    (of_decide_eq_true (by kernel_rfl)) (by unfold Func.isWrapper; first | (rw [if_pos (by decide +kernel)]; kernel_rfl) | (rw [if_neg (by decide +kernel)]; exact ⟨rfl, rfl⟩))
    (fun os started H enc _ => lifted os started H enc)

theorem proved : Rows.GilboaFoldsSaid :=
  over
#print axioms proved
end Go.Proofs.Ytajkclooknanjaa.gilboaFolds
