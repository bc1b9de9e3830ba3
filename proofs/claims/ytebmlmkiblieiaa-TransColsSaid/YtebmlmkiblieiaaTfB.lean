/-
  The law TransCols returns true for all inputs: the columns of all rows, and that these are made of them again.
-/
import Derived.Test.YtebmlmkiblieiaaTf
import Derived.WalkKit
import Derived.ProofKit
import Derived.OpenShut
open Go Go.V
namespace Go.Proofs.Ytebmlmkiblieiaa.transCols
open Go.ChangeShapes Go.WideShapes Go.ChangeAt Go.RowKit
set_option linter.unusedVariables false
theorem own : ownKnob Try.prog.godebug = none := by kernel_rfl
theorem kinds : F2 (kdOk Try.prog) [.sl (.arr 2 .u64)] Try.f9.params.toList := by
  rw [Try.params9]
  exact (.cons (⟨24, Try.underlying70, by kernel_rfl, by decide, ⟨22, Try.underlying24, by kernel_rfl, by kernel_rfl, Try.underlying22⟩⟩) .nil)
theorem walk : ∀ av, F2 isK [.sl (.arr 2 .u64)] av → wpF Try.prog [] 9 av [] fun r _ => r = .bool true := by
  intro av h
  obtain _ | ⟨h0, h⟩ := h
  obtain _ | _ := h
  obtain ⟨y0, rfl, r0, q0⟩ := h0
  -- list of ('arr', ('u64', None, 0, '22'), 2, '24')
  obtain ⟨x, y, n, rfl⟩ := rows_of q0
  exact f9 rfl
set_option maxRecDepth 100000 in
theorem lifted (os : Os) (started : os.Started) (H : Type) (enc : TypeId × Value → H) :
    ReturnsInHanded {} Try.checked os 9 .any (Rows.transColsSpec.pre6 enc Try.prog Try.f9 Rows.transColsRow.domain false) (Rows.transColsSpec.post enc Try.prog Try.f9 false true false false) := by
  refine returnsInHanded_of_change (C := Try.checked) own started (by kernel_rfl) Try.func9
    (ChangeSpec.witness6 (enc := enc) (C := Try.checked) false ⟨#[], #[.slice none 0 0], []⟩ 8 (by kernel_rfl) (by kernel_rfl) (by kernel_rfl) (by kernel_rfl)) ?_
  intro W base args ds gs before hval0 hW hcnd _
  obtain ⟨d0, rfl⟩ : ∃ d0 : DataW H, ds = [d0] := by
    obtain ⟨p, q, hA, _⟩ := hW
    have hl := trodAll_len hA
    rw [Try.params9] at hl
    match ds, hl with
    | [d0], _ => exact ⟨d0, rfl⟩
  exact (law_post (fn := 9) 4 (by kernel_rfl) Try.underlying4 kinds rfl rfl rfl rfl hval0 hW walk).mono fun e W' ⟨he, hp⟩ => ⟨_, he, hp⟩

theorem over : Rows.transColsRow.holds Try.pinned (OpenSpec.ofChange Rows.transColsSpec) :=
  OpenClaim.holds_of_wide 9 Try.f9 rfl rfl rfl rfl rfl rfl rfl ⟨rfl, rfl, rfl, rfl, rfl⟩ rfl rfl rfl rfl rfl (by kernel_rfl) Try.func9 (by kernel_rfl)
    (of_decide_eq_true (by kernel_rfl)) (by unfold Func.isWrapper; first | (rw [if_pos (by decide +kernel)]; kernel_rfl) | (rw [if_neg (by decide +kernel)]; exact ⟨rfl, rfl⟩))
    (fun os started H enc _ => lifted os started H enc)

theorem proved : Rows.TransColsSaid :=
  over
#print axioms proved
end Go.Proofs.Ytebmlmkiblieiaa.transCols
