/-
  ShaParts: the sum does not hang on how bytes come in parts, for every input (the table of rounds is tied to the program's text).
-/
import Derived.Test.YtnnopgichjnhdaaDoorHj
import Derived.Test.YtnnopgichjnhdaaDoorHz
import Derived.Test.YtnnopgichjnhdaaDoorCards
import Derived.Test.YtnnopgichjnhdaaDoorTie
import Derived.WalkKit
import Derived.ProofKit
import Derived.OpenShut
import Derived.SevenTiedAt
open Go Go.V
namespace Go.Proofs.YtnnopgichjnhdaaDoor.shaParts
open Go.ChangeShapes Go.WideShapes Go.ChangeAt Go.RowKit
set_option linter.unusedVariables false
theorem own : ownKnob Tryd.prog.godebug = none := by kernel_rfl
theorem kinds : F2 (kdOk Tryd.prog) [.sl .str] Tryd.f3.params.toList := by
  rw [Tryd.params3]
  exact (.cons (⟨9, Tryd.underlying22, by kernel_rfl, by decide, Tryd.underlying9⟩) .nil)
theorem walk : ∀ av, F2 isK [.sl .str] av → wpF Tryd.prog G 3 av [] fun r _ => r = .bool true := by
  intro av h
  obtain _ | ⟨h0, h⟩ := h
  obtain _ | _ := h
  obtain ⟨y0, rfl, r0, q0⟩ := h0
  obtain ⟨x0, rfl, z0⟩ := all_of2 AV.str _ q0
  exact f3 (Nat.le_trans (by simpa using r0) (show maxLen ≤ 9223372036854775807 by decide)) z0 rfl
set_option maxRecDepth 100000 in
theorem lifted (os : Os) (started : os.Started) (H : Type) (enc : TypeId × Value → H) :
    ReturnsInHanded {} Tryd.checked os 3 .any (fun w args => (Rows.shaPartsSpec.pre enc Tryd.prog Tryd.f3 [] false w args ∧ laidMetH Tryd.prog Rows.shaPartsRow.laid w) ∧ sizedMet enc Tryd.prog Tryd.f3 (OpenSpec.ofChange Rows.shaPartsSpec) false w args) (Rows.shaPartsSpec.post enc Tryd.prog Tryd.f3 false true false false) := by
  refine returnsInHanded_of_change_and (C := Tryd.checked) (X := fun w _ => laidMetH Tryd.prog Rows.shaPartsRow.laid w) (fun _ _ _ hh h => h.of_heap hh) own started (by kernel_rfl) Tryd.func3
    (ChangeSpec.witness_shaped (enc := enc) (C := Tryd.checked) (os := os) (X := fun w _ => laidMetH Tryd.prog Rows.shaPartsRow.laid w) false (World.doorLaid Tryd.prog 400 os) #[.slice none 0 0] 8 rfl (World.shaped_of_RefB (by kernel_rfl) (by kernel_rfl)) (by kernel_rfl) (by kernel_rfl) (by kernel_rfl) (door_met os _)) ?_
  intro W base args ds gs before hval0 hW _ _ hL _
  obtain ⟨d0, rfl⟩ : ∃ d0 : DataW H, ds = [d0] := by
    obtain ⟨p, q, hA, _⟩ := hW
    have hl := trodAll_len hA
    rw [Tryd.params3] at hl
    match ds, hl with
    | [d0], _ => exact ⟨d0, rfl⟩
  exact (law_postG (fn := 3) 4 (by kernel_rfl) Tryd.underlying4 kinds rfl rfl rfl rfl hval0 hW (glob_of hL) walk).mono fun e W' ⟨he, hp⟩ => ⟨_, he, hp⟩

theorem over : Rows.shaPartsRow.holds Tryd.pinned (OpenSpec.ofChange Rows.shaPartsSpec) :=
  OpenClaim.holds_of_wide 3 Tryd.f3 rfl rfl rfl rfl rfl rfl rfl ⟨rfl, rfl, rfl, rfl, rfl⟩ rfl rfl rfl rfl rfl (by kernel_rfl) Tryd.func3 (by kernel_rfl)
    (of_decide_eq_true (by kernel_rfl)) (by unfold Func.isWrapper; first | (rw [if_pos (by decide +kernel)]; kernel_rfl) | (rw [if_neg (by decide +kernel)]; exact ⟨rfl, rfl⟩))
    (fun os started H enc _ => lifted os started H enc)

theorem proved : Rows.ShaPartsCardSaid :=
  Claim7.holds_tied_plain_at .later [] [.data] true (true, "7fa7f25de8fbc4e328081a10ebc5ab6e7584724c2871b458ca3961379c77f655") false
    over (fun _ h => by cases h) (by kernel_rfl) (fun _ h => by cases h) shaParts_row_tie rfl ⟨rfl, rfl⟩ (by kernel_rfl) rfl
    (fun f fn hf hfn => by
      obtain rfl : f = 3 := Option.some.inj ((show Tryd.prog.funcNamed "trefoil/trefoillaw04.ShaParts" = some 3 by kernel_rfl).symm.trans hf) |>.symm
      obtain rfl : fn = Tryd.f3 := (Option.some.inj (Tryd.func3.symm.trans hfn)).symm
      exact ⟨by kernel_rfl, fun j t ht => by
        rw [Tryd.params3] at ht
        have hm : t ∈ [22] := by simpa using Array.mem_of_getElem? ht
        have hall : ([22].all fun u => !Tryd.prog.wantsStandIn u) = true := by kernel_rfl
        exact (show Tryd.prog.wantsStandIn t = false by simpa using List.all_eq_true.1 hall t hm)⟩)
    (by kernel_rfl)
#print axioms proved
end Go.Proofs.YtnnopgichjnhdaaDoor.shaParts
