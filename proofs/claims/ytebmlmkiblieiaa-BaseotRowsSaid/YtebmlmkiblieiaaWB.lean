/-
  The law BaseotRows returns true for all inputs: every bit of a row, rows put together, and their bytes are what the reference says.
-/
import Derived.Test.YtebmlmkiblieiaaW
import Derived.WalkKit
import Derived.ProofKit
import Derived.OpenShut
open Go Go.V
namespace Go.Proofs.Ytebmlmkiblieiaa.baseotRows
open Go.ChangeShapes Go.WideShapes Go.ChangeAt Go.RowKit
set_option linter.unusedVariables false
theorem own : ownKnob Try.prog.godebug = none := by kernel_rfl
theorem kinds : F2 (kdOk Try.prog) [.arr 2 .u64, .arr 2 .u64, .int, .bool] Try.f3.params.toList := by
  rw [Try.params3]
  exact (.cons (⟨22, Try.underlying24, by kernel_rfl, by kernel_rfl, Try.underlying22⟩) (.cons (⟨22, Try.underlying24, by kernel_rfl, by kernel_rfl, Try.underlying22⟩) (.cons Try.underlying3 (.cons Try.underlying4 .nil))))
theorem walk : ∀ av, F2 isK [.arr 2 .u64, .arr 2 .u64, .int, .bool] av → wpF Try.prog [] 3 av [] fun r _ => r = .bool true := by
  intro av h
  obtain _ | ⟨h0, h⟩ := h
  obtain _ | ⟨h1, h⟩ := h
  obtain _ | ⟨h2, h⟩ := h
  obtain _ | ⟨h3, h⟩ := h
  obtain _ | _ := h
  obtain ⟨y0, rfl, r0, q0⟩ := h0
  obtain ⟨x0, rfl⟩ := all_of AV.u64 q0
  obtain ⟨y1, rfl, r1, q1⟩ := h1
  obtain ⟨x1, rfl⟩ := all_of AV.u64 q1
  obtain ⟨x2, rfl, r2⟩ := h2
  obtain ⟨x3, rfl⟩ := h3
  have l0 : x0.length = 2 := by simpa using r0
  have l1 : x1.length = 2 := by simpa using r1
  obtain ⟨a, b, rfl⟩ : ∃ a b, x0 = [a, b] := by match x0, l0 with | [a, b], _ => exact ⟨a, b, rfl⟩
  obtain ⟨c, d, rfl⟩ : ∃ c d, x1 = [c, d] := by match x1, l1 with | [c, d], _ => exact ⟨c, d, rfl⟩
  exact f3 rfl
set_option maxRecDepth 100000 in
theorem lifted (os : Os) (started : os.Started) (H : Type) (enc : TypeId × Value → H) :
    ReturnsInHanded {} Try.checked os 3 .any (Rows.baseotRowsSpec.pre6 enc Try.prog Try.f3 Rows.baseotRowsRow.domain false) (Rows.baseotRowsSpec.post enc Try.prog Try.f3 false true false false) := by
  refine returnsInHanded_of_change (C := Try.checked) own started (by kernel_rfl) Try.func3
    (ChangeSpec.witness6 (enc := enc) (C := Try.checked) false ⟨#[], #[.agg #[.int .u64 0, .int .u64 0], .agg #[.int .u64 0, .int .u64 0], .int .i64 0, .bool false], []⟩ 8 (by kernel_rfl) (by kernel_rfl) (by kernel_rfl) (by kernel_rfl)) ?_
  intro W base args ds gs before hval0 hW hcnd _
  obtain ⟨d0, d1, d2, d3, rfl⟩ : ∃ d0 d1 d2 d3 : DataW H, ds = [d0, d1, d2, d3] := by
    obtain ⟨p, q, hA, _⟩ := hW
    have hl := trodAll_len hA
    rw [Try.params3] at hl
    match ds, hl with
    | [d0, d1, d2, d3], _ => exact ⟨d0, d1, d2, d3, rfl⟩
  exact (law_post (fn := 3) 4 (by kernel_rfl) Try.underlying4 kinds rfl rfl rfl rfl hval0 hW walk).mono fun e W' ⟨he, hp⟩ => ⟨_, he, hp⟩

theorem over : Rows.baseotRowsRow.holds Try.pinned (OpenSpec.ofChange Rows.baseotRowsSpec) :=
  OpenClaim.holds_of_wide 3 Try.f3 rfl rfl rfl rfl rfl rfl rfl ⟨rfl, rfl, rfl, rfl, rfl⟩ rfl rfl rfl rfl rfl (by kernel_rfl) Try.func3 (by kernel_rfl)
    (of_decide_eq_true (by kernel_rfl)) (by unfold Func.isWrapper; first | (rw [if_pos (by decide +kernel)]; kernel_rfl) | (rw [if_neg (by decide +kernel)]; exact ⟨rfl, rfl⟩))
    (fun os started H enc _ => lifted os started H enc)

theorem proved : Rows.BaseotRowsSaid :=
  over
#print axioms proved
end Go.Proofs.Ytebmlmkiblieiaa.baseotRows
