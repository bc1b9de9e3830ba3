/-
  The law CotReceives returns true for all inputs: the shares of who chose are what the reference says, or there are none for the same reason.
-/
import Derived.Test.YtjilenmngokhpaaYe
import Derived.WalkKit
import Derived.ProofKit
import Derived.OpenShut
open Go Go.V
namespace Go.Proofs.Ytjilenmngokhpaa.cotReceives
open Go.ChangeShapes Go.WideShapes Go.ChangeAt Go.RowKit
set_option linter.unusedVariables false
theorem all_sd : ∀ {xs : List AV}, (∀ x ∈ xs, isK (.arr 32 .u8) x) → ∃ l : List (List (BitVec 8)), xs = l.map sdA ∧ ∀ s ∈ l, s.length = 32
  | [], _ => ⟨[], rfl, by simp⟩
  | x :: xs, h => by
    obtain ⟨al, rfl, hal⟩ := all_sd (xs := xs) fun y hy => h y (by simp [hy])
    obtain ⟨y3, rfl, r3, q3⟩ := h x (by simp)
    obtain ⟨d, rfl⟩ := all_of AV.u8 q3
    refine ⟨d :: al, rfl, fun a ha => ?_⟩
    rcases List.mem_cons.1 ha with rfl | ha
    · simpa using r3
    · exact hal a ha
theorem own : ownKnob Try.prog.godebug = none := by kernel_rfl
theorem kinds : F2 (kdOk Try.prog) [.int, .int, .sl (.arr 32 .u8), .sl .bool, .sl .u64] Try.f4.params.toList := by
  rw [Try.params4]
  exact (.cons Try.underlying3 (.cons Try.underlying3 (.cons (⟨46, Try.underlying34, by kernel_rfl, by decide, ⟨5, Try.underlying46, by kernel_rfl, by kernel_rfl, Try.underlying5⟩⟩) (.cons (⟨4, Try.underlying35, by kernel_rfl, by decide, Try.underlying4⟩) (.cons (⟨49, Try.underlying23, by kernel_rfl, by decide, Try.underlying49⟩) .nil)))))
theorem walk : ∀ av, F2 isK [.int, .int, .sl (.arr 32 .u8), .sl .bool, .sl .u64] av → wpF Try.prog [] 4 av [] fun r _ => r = .bool true := by
  intro av h
  obtain _ | ⟨h0, h⟩ := h
  obtain _ | ⟨h1, h⟩ := h
  obtain _ | ⟨h2, h⟩ := h
  obtain _ | ⟨h3, h⟩ := h
  obtain _ | ⟨h4, h⟩ := h
  obtain _ | _ := h
  obtain ⟨x0, rfl, r0⟩ := h0
  obtain ⟨x1, rfl, r1⟩ := h1
  obtain ⟨y2, rfl, r2, q2⟩ := h2
  -- list of ('arr', ('u8', None, 0, '5'), 32, '46')
  obtain ⟨y3, rfl, r3, q3⟩ := h3
  obtain ⟨x3, rfl⟩ := all_of AV.bool q3
  obtain ⟨y4, rfl, r4, q4⟩ := h4
  obtain ⟨x4, rfl⟩ := all_of AV.u64 q4
  obtain ⟨l, rfl, hl⟩ := all_sd q2
  exact f4 hl rfl
set_option maxRecDepth 100000 in
theorem lifted (os : Os) (started : os.Started) (H : Type) (enc : TypeId × Value → H) :
    ReturnsInHanded {} Try.checked os 4 .any (Rows.cotReceivesSpec.pre6 enc Try.prog Try.f4 Rows.cotReceivesRow.domain false) (Rows.cotReceivesSpec.post enc Try.prog Try.f4 false true false false) := by
  refine returnsInHanded_of_change (C := Try.checked) own started (by kernel_rfl) Try.func4
    (ChangeSpec.witness6 (enc := enc) (C := Try.checked) false ⟨#[], #[.int .i64 0, .int .i64 0, .slice none 0 0, .slice none 0 0, .slice none 0 0], []⟩ 8 (by kernel_rfl) (by kernel_rfl) (by kernel_rfl) (by kernel_rfl)) ?_
  intro W base args ds gs before hval0 hW hcnd _
  obtain ⟨d0, d1, d2, d3, d4, rfl⟩ : ∃ d0 d1 d2 d3 d4 : DataW H, ds = [d0, d1, d2, d3, d4] := by
    obtain ⟨p, q, hA, _⟩ := hW
    have hl := trodAll_len hA
    rw [Try.params4] at hl
    match ds, hl with
    | [d0, d1, d2, d3, d4], _ => exact ⟨d0, d1, d2, d3, d4, rfl⟩
  exact (law_post (fn := 4) 4 (by kernel_rfl) Try.underlying4 kinds rfl rfl rfl rfl hval0 hW walk).mono fun e W' ⟨he, hp⟩ => ⟨_, he, hp⟩

theorem over : Rows.cotReceivesRow.holds Try.pinned (OpenSpec.ofChange Rows.cotReceivesSpec) :=
  OpenClaim.holds_of_wide 4 Try.f4 rfl rfl rfl rfl rfl rfl rfl ⟨rfl, rfl, rfl, rfl, rfl⟩ rfl rfl rfl rfl rfl (by kernel_rfl) Try.func4 (by kernel_rfl)
    (of_decide_eq_true (by kernel_rfl)) (by unfold Func.isWrapper; first | (rw [if_pos (by decide +kernel)]; kernel_rfl) | (rw [if_neg (by decide +kernel)]; exact ⟨rfl, rfl⟩))
    (fun os started H enc _ => lifted os started H enc)

theorem proved : Rows.CotReceivesSaid :=
  over
#print axioms proved
end Go.Proofs.Ytjilenmngokhpaa.cotReceives
