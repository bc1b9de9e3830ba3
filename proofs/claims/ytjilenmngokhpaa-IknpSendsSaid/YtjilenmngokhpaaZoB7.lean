/-
  The law IknpSends returns true for all inputs: code and reference make the same rows of who sends, or the same error.
-/
import Derived.Test.YtjilenmngokhpaaZj
import Derived.WalkKit
import Derived.ProofKit
import Derived.OpenShut
open Go Go.V
namespace Go.Proofs.Ytjilenmngokhpaa.iknpSends
open Go.ChangeShapes Go.WideShapes Go.ChangeAt Go.RowKit
set_option linter.unusedVariables false
theorem own : ownKnob Try.prog.godebug = none := by kernel_rfl
theorem kinds : F2 (kdOk Try.prog) [.arr 32 .u8, .u64, .sl .bool, .u8, .u8, .u8] Try.f7.params.toList := by
  rw [Try.params7]
  exact (.cons (⟨5, Try.underlying46, by kernel_rfl, by kernel_rfl, Try.underlying5⟩) (.cons Try.underlying49 (.cons (⟨4, Try.underlying35, by kernel_rfl, by decide, Try.underlying4⟩) (.cons Try.underlying5 (.cons Try.underlying5 (.cons Try.underlying5 .nil))))))
theorem walk : ∀ av, F2 isK [.arr 32 .u8, .u64, .sl .bool, .u8, .u8, .u8] av → wpF Try.prog [] 7 av [] fun r _ => r = .bool true := by
  intro av h
  obtain _ | ⟨h0, h⟩ := h
  obtain _ | ⟨h1, h⟩ := h
  obtain _ | ⟨h2, h⟩ := h
  obtain _ | ⟨h3, h⟩ := h
  obtain _ | ⟨h4, h⟩ := h
  obtain _ | ⟨h5, h⟩ := h
  obtain _ | _ := h
  obtain ⟨y0, rfl, r0, q0⟩ := h0
  obtain ⟨x0, rfl⟩ := all_of AV.u8 q0
  obtain ⟨x1, rfl⟩ := h1
  obtain ⟨y2, rfl, r2, q2⟩ := h2
  obtain ⟨x2, rfl⟩ := all_of AV.bool q2
  obtain ⟨x3, rfl⟩ := h3
  obtain ⟨x4, rfl⟩ := h4
  obtain ⟨x5, rfl⟩ := h5
  exact f7 (by simpa using r0) rfl
set_option maxRecDepth 100000 in
theorem lifted (os : Os) (started : os.Started) (H : Type) (enc : TypeId × Value → H) :
    ReturnsInHanded {} Try.checked os 7 .any (Rows.iknpSendsSpec.pre6 enc Try.prog Try.f7 Rows.iknpSendsRow.domain false) (Rows.iknpSendsSpec.post enc Try.prog Try.f7 false true false false) := by
  refine returnsInHanded_of_change (C := Try.checked) own started (by kernel_rfl) Try.func7
    (ChangeSpec.witness6 (enc := enc) (C := Try.checked) false ⟨#[], #[.agg #[.int .u8 0, .int .u8 0, .int .u8 0, .int .u8 0, .int .u8 0, .int .u8 0, .int .u8 0, .int .u8 0, .int .u8 0, .int .u8 0, .int .u8 0, .int .u8 0, .int .u8 0, .int .u8 0, .int .u8 0, .int .u8 0, .int .u8 0, .int .u8 0, .int .u8 0, .int .u8 0, .int .u8 0, .int .u8 0, .int .u8 0, .int .u8 0, .int .u8 0, .int .u8 0, .int .u8 0, .int .u8 0, .int .u8 0, .int .u8 0, .int .u8 0, .int .u8 0], .int .u64 0, .slice none 0 0, .int .u8 0, .int .u8 0, .int .u8 0], []⟩ 8 (by kernel_rfl) (by kernel_rfl) (by kernel_rfl) (by kernel_rfl)) ?_
  intro W base args ds gs before hval0 hW hcnd _
  obtain ⟨d0, d1, d2, d3, d4, d5, rfl⟩ : ∃ d0 d1 d2 d3 d4 d5 : DataW H, ds = [d0, d1, d2, d3, d4, d5] := by
    obtain ⟨p, q, hA, _⟩ := hW
    have hl := trodAll_len hA
    rw [Try.params7] at hl
    match ds, hl with
    | [d0, d1, d2, d3, d4, d5], _ => exact ⟨d0, d1, d2, d3, d4, d5, rfl⟩
  exact (law_post (fn := 7) 4 (by kernel_rfl) Try.underlying4 kinds rfl rfl rfl rfl hval0 hW walk).mono fun e W' ⟨he, hp⟩ => ⟨_, he, hp⟩

theorem over : Rows.iknpSendsRow.holds Try.pinned (OpenSpec.ofChange Rows.iknpSendsSpec) :=
  OpenClaim.holds_of_wide 7 Try.f7 rfl rfl rfl rfl rfl rfl rfl ⟨rfl, rfl, rfl, rfl, rfl⟩ rfl rfl rfl rfl rfl (by kernel_rfl) Try.func7 (by kernel_rfl)
    (of_decide_eq_true (by kernel_rfl)) (by unfold Func.isWrapper; first | (rw [if_pos (by decide +kernel)]; kernel_rfl) | (rw [if_neg (by decide +kernel)]; exact ⟨rfl, rfl⟩))
    (fun os started H enc _ => lifted os started H enc)

theorem proved : Rows.IknpSendsSaid :=
  over
#print axioms proved
end Go.Proofs.Ytjilenmngokhpaa.iknpSends
