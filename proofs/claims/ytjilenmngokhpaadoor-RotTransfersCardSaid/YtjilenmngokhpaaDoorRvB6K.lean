/-
  RotTransfers: of what was dealt, and extended, who chooses has just the seeds that it chose, for every input (the table of rounds is tied to the program's text).
-/
import Derived.Test.YtjilenmngokhpaaDoorTm
import Derived.Test.YtjilenmngokhpaaDoorRz
import Derived.Test.YtjilenmngokhpaaDoorCards
import Derived.Test.YtjilenmngokhpaaDoorTie
import Derived.WalkKit
import Derived.ProofKit
import Derived.OpenShut
import Derived.SevenTiedAt
open Go Go.V
namespace Go.Proofs.YtjilenmngokhpaaDoor.rotTransfers
open Go.ChangeShapes Go.WideShapes Go.ChangeAt Go.RowKit
set_option linter.unusedVariables false
theorem own : ownKnob Tryd.prog.godebug = none := by kernel_rfl
theorem kinds : F2 (kdOk Tryd.prog) [.arr 32 .u8, .u64, .sl .bool] Tryd.f6.params.toList := by
  rw [Tryd.params6]
  exact (.cons (⟨5, Tryd.underlying28, by kernel_rfl, by kernel_rfl, Tryd.underlying5⟩) (.cons Tryd.underlying22 (.cons (⟨4, Tryd.underlying39, by kernel_rfl, by decide, Tryd.underlying4⟩) .nil)))
theorem walk : ∀ av, F2 isK [.arr 32 .u8, .u64, .sl .bool] av → wpF Tryd.prog G 6 av [] fun r _ => r = .bool true := by
  intro av h
  obtain _ | ⟨h0, h⟩ := h
  obtain _ | ⟨h1, h⟩ := h
  obtain _ | ⟨h2, h⟩ := h
  obtain _ | _ := h
  obtain ⟨y0, rfl, r0, q0⟩ := h0
  obtain ⟨x0, rfl⟩ := all_of AV.u8 q0
  obtain ⟨x1, rfl⟩ := h1
  obtain ⟨y2, rfl, r2, q2⟩ := h2
  obtain ⟨x2, rfl⟩ := all_of AV.bool q2
  exact f6 (by simpa using r0) rfl
set_option maxRecDepth 100000 in
theorem lifted (os : Os) (started : os.Started) (H : Type) (enc : TypeId × Value → H) :
    ReturnsInHanded {} Tryd.checked os 6 .any (fun w args => (Rows.rotTransfersSpec.pre enc Tryd.prog Tryd.f6 [] false w args ∧ laidMetH Tryd.prog Rows.rotTransfersRow.laid w) ∧ sizedMet enc Tryd.prog Tryd.f6 (OpenSpec.ofChange Rows.rotTransfersSpec) false w args) (Rows.rotTransfersSpec.post enc Tryd.prog Tryd.f6 false true false false) := by
  refine returnsInHanded_of_change_and (C := Tryd.checked) (X := fun w _ => laidMetH Tryd.prog Rows.rotTransfersRow.laid w) (fun _ _ _ hh h => h.of_heap hh) own started (by kernel_rfl) Tryd.func6
    (ChangeSpec.witness_shaped (enc := enc) (C := Tryd.checked) (os := os) (X := fun w _ => laidMetH Tryd.prog Rows.rotTransfersRow.laid w) false (World.doorLaid Tryd.prog 400 os) #[.agg #[.int .u8 0, .int .u8 0, .int .u8 0, .int .u8 0, .int .u8 0, .int .u8 0, .int .u8 0, .int .u8 0, .int .u8 0, .int .u8 0, .int .u8 0, .int .u8 0, .int .u8 0, .int .u8 0, .int .u8 0, .int .u8 0, .int .u8 0, .int .u8 0, .int .u8 0, .int .u8 0, .int .u8 0, .int .u8 0, .int .u8 0, .int .u8 0, .int .u8 0, .int .u8 0, .int .u8 0, .int .u8 0, .int .u8 0, .int .u8 0, .int .u8 0, .int .u8 0], .int .u64 0, .slice none 0 0] 8 rfl (World.shaped_of_RefB (by kernel_rfl) (by kernel_rfl)) (by kernel_rfl) (by kernel_rfl) (by kernel_rfl) (door_met os _)) ?_
  intro W base args ds gs before hval0 hW _ _ hL _
  obtain ⟨d0, d1, d2, rfl⟩ : ∃ d0 d1 d2 : DataW H, ds = [d0, d1, d2] := by
    obtain ⟨p, q, hA, _⟩ := hW
    have hl := trodAll_len hA
    rw [Tryd.params6] at hl
    match ds, hl with
    | [d0, d1, d2], _ => exact ⟨d0, d1, d2, rfl⟩
  exact (law_postG (fn := 6) 4 (by kernel_rfl) Tryd.underlying4 kinds rfl rfl rfl rfl hval0 hW (glob_of hL) walk).mono fun e W' ⟨he, hp⟩ => ⟨_, he, hp⟩

theorem over : Rows.rotTransfersRow.holds Tryd.pinned (OpenSpec.ofChange Rows.rotTransfersSpec) :=
  OpenClaim.holds_of_wide 6 Tryd.f6 rfl rfl rfl rfl rfl rfl rfl ⟨rfl, rfl, rfl, rfl, rfl⟩ rfl rfl rfl rfl rfl (by kernel_rfl) Tryd.func6 (by kernel_rfl)
    (of_decide_eq_true (by kernel_rfl)) (by unfold Func.isWrapper; first | (rw [if_pos (by decide +kernel)]; kernel_rfl) | (rw [if_neg (by decide +kernel)]; exact ⟨rfl, rfl⟩))
    (fun os started H enc _ => lifted os started H enc)

theorem proved : Rows.RotTransfersCardSaid :=
  Claim7.holds_tied_plain_at .later [] [.data] true (true, "eac4a608aea576130c7d0e11a0395033ad0786c7d60ba3827d0a50149d955a0a") false
    over (fun _ h => by cases h) (by kernel_rfl) (fun _ h => by cases h) rotTransfers_row_tie rfl ⟨rfl, rfl⟩ (by kernel_rfl) rfl
    (fun f fn hf hfn => by
      obtain rfl : f = 6 := Option.some.inj ((show Tryd.prog.funcNamed "trefoil/trefoillaw18.RotTransfers" = some 6 by kernel_rfl).symm.trans hf) |>.symm
      obtain rfl : fn = Tryd.f6 := (Option.some.inj (Tryd.func6.symm.trans hfn)).symm
      exact ⟨by kernel_rfl, fun j t ht => by
        rw [Tryd.params6] at ht
        have hm : t ∈ [28, 22, 39] := by simpa using Array.mem_of_getElem? ht
        have hall : ([28, 22, 39].all fun u => !Tryd.prog.wantsStandIn u) = true := by kernel_rfl
        exact (show Tryd.prog.wantsStandIn t = false by simpa using List.all_eq_true.1 hall t hm)⟩)
    (by kernel_rfl)
#print axioms proved
end Go.Proofs.YtjilenmngokhpaaDoor.rotTransfers
