/-
  The law GilboaSpreads returns true for all inputs: what the other one has, what shares fold to, and rows multiplied by numbers are what the reference says.
-/
import Derived.Test.YtajkclooknanjaaKn
import Derived.WalkKit
import Derived.ProofKit
import Derived.OpenShut
open Go Go.V
namespace Go.Proofs.Ytajkclooknanjaa.gilboaSpreads
open Go.ChangeShapes Go.WideShapes Go.ChangeAt Go.RowKit
set_option linter.unusedVariables false
theorem own : ownKnob Try.prog.godebug = none := by kernel_rfl
theorem kinds : F2 (kdOk Try.prog) [.int, .int, .sl .u64, .sl .u64] Try.f4.params.toList := by
  rw [Try.params4]
  exact (.cons Try.underlying3 (.cons Try.underlying3 (.cons (⟨44, Try.underlying22, by kernel_rfl, by decide, Try.underlying44⟩) (.cons (⟨44, Try.underlying22, by kernel_rfl, by decide, Try.underlying44⟩) .nil))))
theorem walk : ∀ av, F2 isK [.int, .int, .sl .u64, .sl .u64] av → wpF Try.prog [] 4 av [] fun r _ => r = .bool true := by
  intro av h
  obtain _ | ⟨h0, h⟩ := h
  obtain _ | ⟨h1, h⟩ := h
  obtain _ | ⟨h2, h⟩ := h
  obtain _ | ⟨h3, h⟩ := h
  obtain _ | _ := h
  obtain ⟨x0, rfl, r0⟩ := h0
  obtain ⟨x1, rfl, r1⟩ := h1
  obtain ⟨y2, rfl, r2, q2⟩ := h2
  obtain ⟨x2, rfl⟩ := all_of AV.u64 q2
  obtain ⟨y3, rfl, r3, q3⟩ := h3
  obtain ⟨x3, rfl⟩ := all_of AV.u64 q3
  exact f4 rfl
set_option maxRecDepth 100000 in
theorem lifted (os : Os) (started : os.Started) (H : Type) (enc : TypeId × Value → H) :
    ReturnsInHanded {} Try.checked os 4 .any (Rows.gilboaSpreadsSpec.pre6 enc Try.prog Try.f4 Rows.gilboaSpreadsRow.domain false) (Rows.gilboaSpreadsSpec.post enc Try.prog Try.f4 false true false false) := by
  refine returnsInHanded_of_change (C := Try.checked) own started (by kernel_rfl) Try.func4
    (ChangeSpec.witness6 (enc := enc) (C := Try.checked) false ⟨#[], #[.int .i64 0, .int .i64 0, .slice none 0 0, .slice none 0 0], []⟩ 8 (by kernel_rfl) (by kernel_rfl) (by kernel_rfl) (by kernel_rfl)) ?_
  intro W base args ds gs before hval0 hW hcnd _
  obtain ⟨d0, d1, d2, d3, rfl⟩ : ∃ d0 d1 d2 d3 : DataW H, ds = [d0, d1, d2, d3] := by
    obtain ⟨p, q, hA, _⟩ := hW
    have hl := trodAll_len hA
    rw [Try.params4] at hl
    match ds, hl with
    | [d0, d1, d2, d3], _ => exact ⟨d0, d1, d2, d3, rfl⟩
  exact (law_post (fn := 4) 4 (by kernel_rfl) Try.underlying4 kinds rfl rfl rfl rfl hval0 hW walk).mono fun e W' ⟨he, hp⟩ => ⟨_, he, hp⟩

theorem over : Rows.gilboaSpreadsRow.holds Try.pinned (OpenSpec.ofChange Rows.gilboaSpreadsSpec) :=
  OpenClaim.holds_of_wide 4 Try.f4 rfl rfl rfl rfl rfl rfl rfl ⟨rfl, rfl, rfl, rfl, rfl⟩ rfl rfl rfl rfl rfl (by kernel_rfl) Try.func4 (by kernel_rfl)
    (of_decide_eq_true (by kernel_rfl)) (by unfold Func.isWrapper; first | (rw [if_pos (by decide +kernel)]; kernel_rfl) | (rw [if_neg (by decide +kernel)]; exact ⟨rfl, rfl⟩))
    (fun os started H enc _ => lifted os started H enc)

theorem proved : Rows.GilboaSpreadsSaid :=
  over
#print axioms proved
end Go.Proofs.Ytajkclooknanjaa.gilboaSpreads
