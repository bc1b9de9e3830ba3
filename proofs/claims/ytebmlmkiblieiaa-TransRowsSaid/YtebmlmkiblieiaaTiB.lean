/-
  The law TransRows returns true for all inputs: the rows of all columns, and which columns make none.
-/
import Derived.Test.YtebmlmkiblieiaaTi
import Derived.WalkKit
import Derived.ProofKit
import Derived.OpenShut
open Go Go.V
namespace Go.Proofs.Ytebmlmkiblieiaa.transRows
open Go.ChangeShapes Go.WideShapes Go.ChangeAt Go.RowKit
set_option linter.unusedVariables false
theorem own : ownKnob Try.prog.godebug = none := by kernel_rfl
theorem kinds : F2 (kdOk Try.prog) [.sl .bool, .u8, .u8, .u8] Try.f13.params.toList := by
  rw [Try.params13]
  exact (.cons (⟨4, Try.underlying75, by kernel_rfl, by decide, Try.underlying4⟩) (.cons Try.underlying5 (.cons Try.underlying5 (.cons Try.underlying5 .nil))))
theorem walk : ∀ av, F2 isK [.sl .bool, .u8, .u8, .u8] av → wpF Try.prog [] 13 av [] fun r _ => r = .bool true := by
  intro av h
  obtain _ | ⟨h0, h⟩ := h
  obtain _ | ⟨h1, h⟩ := h
  obtain _ | ⟨h2, h⟩ := h
  obtain _ | ⟨h3, h⟩ := h
  obtain _ | _ := h
  obtain ⟨y0, rfl, r0, q0⟩ := h0
  obtain ⟨x0, rfl⟩ := all_of AV.bool q0
  obtain ⟨x1, rfl⟩ := h1
  obtain ⟨x2, rfl⟩ := h2
  obtain ⟨x3, rfl⟩ := h3
  exact f13 rfl
set_option maxRecDepth 100000 in
theorem lifted (os : Os) (started : os.Started) (H : Type) (enc : TypeId × Value → H) :
    ReturnsInHanded {} Try.checked os 13 .any (Rows.transRowsSpec.pre6 enc Try.prog Try.f13 Rows.transRowsRow.domain false) (Rows.transRowsSpec.post enc Try.prog Try.f13 false true false false) := by
  refine returnsInHanded_of_change (C := Try.checked) own started (by kernel_rfl) Try.func13
    (ChangeSpec.witness6 (enc := enc) (C := Try.checked) false ⟨#[], #[.slice none 0 0, .int .u8 0, .int .u8 0, .int .u8 0], []⟩ 8 (by kernel_rfl) (by kernel_rfl) (by kernel_rfl) (by kernel_rfl)) ?_
  intro W base args ds gs before hval0 hW hcnd _
  obtain ⟨d0, d1, d2, d3, rfl⟩ : ∃ d0 d1 d2 d3 : DataW H, ds = [d0, d1, d2, d3] := by
    obtain ⟨p, q, hA, _⟩ := hW
    have hl := trodAll_len hA
    rw [Try.params13] at hl
    match ds, hl with
    | [d0, d1, d2, d3], _ => exact ⟨d0, d1, d2, d3, rfl⟩
  exact (law_post (fn := 13) 4 (by kernel_rfl) Try.underlying4 kinds rfl rfl rfl rfl hval0 hW walk).mono fun e W' ⟨he, hp⟩ => ⟨_, he, hp⟩

theorem over : Rows.transRowsRow.holds Try.pinned (OpenSpec.ofChange Rows.transRowsSpec) :=
  OpenClaim.holds_of_wide 13 Try.f13 rfl rfl rfl rfl rfl rfl rfl ⟨rfl, rfl, rfl, rfl, rfl⟩ rfl rfl rfl rfl rfl (by kernel_rfl) Try.func13 (by kernel_rfl)
    (of_decide_eq_true (by kernel_rfl)) (by unfold Func.isWrapper; first | (rw [if_pos (by decide +kernel)]; kernel_rfl) | (rw [if_neg (by decide +kernel)]; exact ⟨rfl, rfl⟩))
    (fun os started H enc _ => lifted os started H enc)

theorem proved : Rows.TransRowsSaid :=
  over
#print axioms proved
end Go.Proofs.Ytebmlmkiblieiaa.transRows
