/-
  The law TransPacks returns true for all inputs: which columns all bytes are, and that they are packed so again.
-/
import Derived.Test.YtebmlmkiblieiaaTd
import Derived.WalkKit
import Derived.ProofKit
import Derived.OpenShut
open Go Go.V
namespace Go.Proofs.Ytebmlmkiblieiaa.transPacks
open Go.ChangeShapes Go.WideShapes Go.ChangeAt Go.RowKit
set_option linter.unusedVariables false
theorem own : ownKnob Try.prog.godebug = none := by kernel_rfl
theorem kinds : F2 (kdOk Try.prog) [.int, .str] Try.f10.params.toList := by
  rw [Try.params10]
  exact (.cons Try.underlying3 (.cons Try.underlying9 .nil))
theorem walk : ∀ av, F2 isK [.int, .str] av → wpF Try.prog [] 10 av [] fun r _ => r = .bool true := by
  intro av h
  obtain _ | ⟨h0, h⟩ := h
  obtain _ | ⟨h1, h⟩ := h
  obtain _ | _ := h
  obtain ⟨x0, rfl, r0⟩ := h0
  obtain ⟨x1, rfl, r1⟩ := h1
  exact f10 rfl
set_option maxRecDepth 100000 in
theorem lifted (os : Os) (started : os.Started) (H : Type) (enc : TypeId × Value → H) :
    ReturnsInHanded {} Try.checked os 10 .any (Rows.transPacksSpec.pre6 enc Try.prog Try.f10 Rows.transPacksRow.domain false) (Rows.transPacksSpec.post enc Try.prog Try.f10 false true false false) := by
  refine returnsInHanded_of_change (C := Try.checked) own started (by kernel_rfl) Try.func10
    (ChangeSpec.witness6 (enc := enc) (C := Try.checked) false ⟨#[], #[.int .i64 0, .string ⟨#[]⟩], []⟩ 8 (by kernel_rfl) (by kernel_rfl) (by kernel_rfl) (by kernel_rfl)) ?_
  intro W base args ds gs before hval0 hW hcnd _
  obtain ⟨d0, d1, rfl⟩ : ∃ d0 d1 : DataW H, ds = [d0, d1] := by
    obtain ⟨p, q, hA, _⟩ := hW
    have hl := trodAll_len hA
    rw [Try.params10] at hl
    match ds, hl with
    | [d0, d1], _ => exact ⟨d0, d1, rfl⟩
  exact (law_post (fn := 10) 4 (by kernel_rfl) Try.underlying4 kinds rfl rfl rfl rfl hval0 hW walk).mono fun e W' ⟨he, hp⟩ => ⟨_, he, hp⟩

theorem over : Rows.transPacksRow.holds Try.pinned (OpenSpec.ofChange Rows.transPacksSpec) :=
  OpenClaim.holds_of_wide 10 Try.f10 rfl rfl rfl rfl rfl rfl rfl ⟨rfl, rfl, rfl, rfl, rfl⟩ rfl rfl rfl rfl rfl (by kernel_rfl) Try.func10 (by kernel_rfl)
    (of_decide_eq_true (by kernel_rfl)) (by unfold Func.isWrapper; first | (rw [if_pos (by decide +kernel)]; kernel_rfl) | (rw [if_neg (by decide +kernel)]; exact ⟨rfl, rfl⟩))
    (fun os started H enc _ => lifted os started H enc)

theorem proved : Rows.TransPacksSaid :=
  over
#print axioms proved
end Go.Proofs.Ytebmlmkiblieiaa.transPacks
