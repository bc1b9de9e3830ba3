/-
  CommitSums: the sum that binds every party to every seed, for every input (the table of rounds is tied to the program's text).
-/
import Derived.Test.YtajkclooknanjaaDoorHk
import Derived.Test.YtajkclooknanjaaDoorUz
import Derived.Test.YtajkclooknanjaaDoorCards
import Derived.Test.YtajkclooknanjaaDoorTie
import Derived.WalkKit
import Derived.ProofKit
import Derived.OpenShut
import Derived.SevenTiedAt
open Go Go.V
namespace Go.Proofs.YtajkclooknanjaaDoor.commitSums
open Go.ChangeShapes Go.WideShapes Go.ChangeAt Go.RowKit
set_option linter.unusedVariables false
theorem own : ownKnob Tryd.prog.godebug = none := by kernel_rfl
theorem kinds : F2 (kdOk Tryd.prog) [.u16, .u32, .arr 32 .u8, .arr 32 .u8, .bool] Tryd.f3.params.toList := by
  rw [Tryd.params3]
  exact (.cons Tryd.underlying22 (.cons Tryd.underlying23 (.cons (⟨5, Tryd.underlying25, by kernel_rfl, by kernel_rfl, Tryd.underlying5⟩) (.cons (⟨5, Tryd.underlying26, by kernel_rfl, by kernel_rfl, Tryd.underlying5⟩) (.cons Tryd.underlying4 .nil)))))
theorem walk : ∀ av, F2 isK [.u16, .u32, .arr 32 .u8, .arr 32 .u8, .bool] av → wpF Tryd.prog G 3 av [] fun r _ => r = .bool true := by
  intro av h
  obtain _ | ⟨h0, h⟩ := h
  obtain _ | ⟨h1, h⟩ := h
  obtain _ | ⟨h2, h⟩ := h
  obtain _ | ⟨h3, h⟩ := h
  obtain _ | ⟨h4, h⟩ := h
  obtain _ | _ := h
  obtain ⟨x0, rfl⟩ := h0
  obtain ⟨x1, rfl⟩ := h1
  obtain ⟨y2, rfl, r2, q2⟩ := h2
  obtain ⟨x2, rfl⟩ := all_of AV.u8 q2
  obtain ⟨y3, rfl, r3, q3⟩ := h3
  obtain ⟨x3, rfl⟩ := all_of AV.u8 q3
  obtain ⟨x4, rfl⟩ := h4
  exact f3 (by simpa using r2) (by simpa using r3) rfl
set_option maxRecDepth 100000 in
theorem lifted (os : Os) (started : os.Started) (H : Type) (enc : TypeId × Value → H) :
    ReturnsInHanded {} Tryd.checked os 3 .any (fun w args => (Rows.commitSumsSpec.pre enc Tryd.prog Tryd.f3 [] false w args ∧ laidMetH Tryd.prog Rows.commitSumsRow.laid w) ∧ sizedMet enc Tryd.prog Tryd.f3 (OpenSpec.ofChange Rows.commitSumsSpec) false w args) (Rows.commitSumsSpec.post enc Tryd.prog Tryd.f3 false true false false) := by
  refine returnsInHanded_of_change_and (C := Tryd.checked) (X := fun w _ => laidMetH Tryd.prog Rows.commitSumsRow.laid w) (fun _ _ _ hh h => h.of_heap hh) own started (by kernel_rfl) Tryd.func3
    (ChangeSpec.witness_shaped (enc := enc) (C := Tryd.checked) (os := os) (X := fun w _ => laidMetH Tryd.prog Rows.commitSumsRow.laid w) false (World.doorLaid Tryd.prog 400 os) #[.int .u16 0, .int .u32 0, .agg #[.int .u8 0, .int .u8 0, .int .u8 0, .int .u8 0, .int .u8 0, .int .u8 0, .int .u8 0, .int .u8 0, .int .u8 0, .int .u8 0, .int .u8 0, .int .u8 0, .int .u8 0, .int .u8 0, .int .u8 0, .int .u8 0, .int .u8 0, .int .u8 0, .int .u8 0, .int .u8 0, .int .u8 0, .int .u8 0, .int .u8 0, .int .u8 0, .int .u8 0, .int .u8 0, .int .u8 0, .int .u8 0, .int .u8 0, .int .u8 0, .int .u8 0, .int .u8 0], .agg #[.int .u8 0, .int .u8 0, .int .u8 0, .int .u8 0, .int .u8 0, .int .u8 0, .int .u8 0, .int .u8 0, .int .u8 0, .int .u8 0, .int .u8 0, .int .u8 0, .int .u8 0, .int .u8 0, .int .u8 0, .int .u8 0, .int .u8 0, .int .u8 0, .int .u8 0, .int .u8 0, .int .u8 0, .int .u8 0, .int .u8 0, .int .u8 0, .int .u8 0, .int .u8 0, .int .u8 0, .int .u8 0, .int .u8 0, .int .u8 0, .int .u8 0, .int .u8 0], .bool false] 8 rfl (World.shaped_of_RefB (by kernel_rfl) (by kernel_rfl)) (by kernel_rfl) (by kernel_rfl) (by kernel_rfl) (door_met os _)) ?_
  intro W base args ds gs before hval0 hW _ _ hL _
  obtain ⟨d0, d1, d2, d3, d4, rfl⟩ : ∃ d0 d1 d2 d3 d4 : DataW H, ds = [d0, d1, d2, d3, d4] := by
    obtain ⟨p, q, hA, _⟩ := hW
    have hl := trodAll_len hA
    rw [Tryd.params3] at hl
    match ds, hl with
    | [d0, d1, d2, d3, d4], _ => exact ⟨d0, d1, d2, d3, d4, rfl⟩
  exact (law_postG (fn := 3) 4 (by kernel_rfl) Tryd.underlying4 kinds rfl rfl rfl rfl hval0 hW (glob_of hL) walk).mono fun e W' ⟨he, hp⟩ => ⟨_, he, hp⟩

theorem over : Rows.commitSumsRow.holds Tryd.pinned (OpenSpec.ofChange Rows.commitSumsSpec) :=
  OpenClaim.holds_of_wide 3 Tryd.f3 rfl rfl rfl rfl rfl rfl rfl ⟨rfl, rfl, rfl, rfl, rfl⟩ rfl rfl rfl rfl rfl (by kernel_rfl) Tryd.func3 (by kernel_rfl)
    (of_decide_eq_true (by kernel_rfl)) (by unfold Func.isWrapper; first | (rw [if_pos (by decide +kernel)]; kernel_rfl) | (rw [if_neg (by decide +kernel)]; exact ⟨rfl, rfl⟩))
    (fun os started H enc _ => lifted os started H enc)

theorem proved : Rows.CommitSumsCardSaid :=
  Claim7.holds_tied_plain_at .later [] [.data] true (true, "76c30030f4f16e0cab80c7227be92bd16545c1c7aab4e4eb45320bdb0e7ec2e6") false
    over (fun _ h => by cases h) (by kernel_rfl) (fun _ h => by cases h) commitSums_row_tie rfl ⟨rfl, rfl⟩ (by kernel_rfl) rfl
    (fun f fn hf hfn => by
      obtain rfl : f = 3 := Option.some.inj ((show Tryd.prog.funcNamed "trefoil/trefoillaw27.CommitSums" = some 3 by kernel_rfl).symm.trans hf) |>.symm
      obtain rfl : fn = Tryd.f3 := (Option.some.inj (Tryd.func3.symm.trans hfn)).symm
      exact ⟨by kernel_rfl, fun j t ht => by
        rw [Tryd.params3] at ht
        have hm : t ∈ [22, 23, 25, 26, 4] := by simpa using Array.mem_of_getElem? ht
        have hall : ([22, 23, 25, 26, 4].all fun u => !Tryd.prog.wantsStandIn u) = true := by kernel_rfl
        exact (show Tryd.prog.wantsStandIn t = false by simpa using List.all_eq_true.1 hall t hm)⟩)
    (by kernel_rfl)
#print axioms proved
end Go.Proofs.YtajkclooknanjaaDoor.commitSums
