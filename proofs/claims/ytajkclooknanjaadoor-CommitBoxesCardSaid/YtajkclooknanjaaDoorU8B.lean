/-
  CommitBoxes: what every call answers, and what is told behind each, for every input (the table of rounds is tied to the program's text).
-/
import Derived.Test.YtajkclooknanjaaDoorU8
import Derived.Test.YtajkclooknanjaaDoorUz
import Derived.Test.YtajkclooknanjaaDoorCards
import Derived.Test.YtajkclooknanjaaDoorTie
import Derived.WalkKit
import Derived.ProofKit
import Derived.OpenShut
import Derived.SevenTiedAt
open Go Go.V
namespace Go.Proofs.YtajkclooknanjaaDoor.commitBoxes
open Go.ChangeShapes Go.WideShapes Go.ChangeAt Go.RowKit
set_option linter.unusedVariables false
theorem all_ac : ∀ {xs : List AV}, (∀ x ∈ xs, isSt [.int, .u8, .u32, .arr 32 .u8, .arr 32 .u8] x) → ∃ al : List Ac, xs = al.map acA ∧ ∀ a ∈ al, acOk a
  | [], _ => ⟨[], rfl, by simp⟩
  | x :: xs, h => by
    obtain ⟨al, rfl, hal⟩ := all_ac (xs := xs) fun y hy => h y (by simp [hy])
    obtain ⟨ps, rfl, hp⟩ := h x (by simp)
    obtain _ | ⟨h0, hp⟩ := hp
    obtain _ | ⟨h1, hp⟩ := hp
    obtain _ | ⟨h2, hp⟩ := hp
    obtain _ | ⟨h3, hp⟩ := hp
    obtain _ | ⟨h4, hp⟩ := hp
    obtain _ | _ := hp
    obtain ⟨k, rfl, _⟩ := h0
    obtain ⟨p, rfl⟩ := h1
    obtain ⟨b, rfl⟩ := h2
    obtain ⟨y3, rfl, r3, q3⟩ := h3
    obtain ⟨y4, rfl, r4, q4⟩ := h4
    obtain ⟨d, rfl⟩ := all_of AV.u8 q3
    obtain ⟨s, rfl⟩ := all_of AV.u8 q4
    refine ⟨⟨k, p, b, d, s⟩ :: al, rfl, fun a ha => ?_⟩
    rcases List.mem_cons.1 ha with rfl | ha
    · exact ⟨by simpa using r3, by simpa using r4⟩
    · exact hal a ha
theorem own : ownKnob Tryd.prog.godebug = none := by kernel_rfl
theorem kinds : F2 (kxOk Tryd.prog) [.ls [.int, .u8, .u32, .arr 32 .u8, .arr 32 .u8]] Tryd.f4.params.toList := by
  rw [Tryd.params4]
  exact (.cons (⟨37, _, Tryd.underlying31, Tryd.underlying37, by kernel_rfl, by decide, ⟨Tryd.underlying3, by kernel_rfl, by kernel_rfl, Tryd.underlying5, by kernel_rfl, by kernel_rfl, Tryd.underlying23, by kernel_rfl, by kernel_rfl, ⟨5, Tryd.underlying26, by kernel_rfl, by kernel_rfl, Tryd.underlying5⟩, by kernel_rfl, by kernel_rfl, ⟨5, Tryd.underlying25, by kernel_rfl, by kernel_rfl, Tryd.underlying5⟩, by kernel_rfl, by kernel_rfl, trivial⟩⟩) .nil)
theorem walk : ∀ av, F2 isX [.ls [.int, .u8, .u32, .arr 32 .u8, .arr 32 .u8]] av → wpF Tryd.prog G 4 av [] fun r _ => r = .bool true := by
  intro av h
  obtain _ | ⟨h0, h⟩ := h
  obtain _ | _ := h
  obtain ⟨y0, rfl, r0, q0⟩ := h0
  obtain ⟨al, rfl, hal⟩ := all_ac q0
  exact f4 (Nat.le_trans (by simpa using r0) (show maxLen ≤ 9223372036854775807 by decide)) hal rfl
set_option maxRecDepth 100000 in
theorem lifted (os : Os) (started : os.Started) (H : Type) (enc : TypeId × Value → H) :
    ReturnsInHanded {} Tryd.checked os 4 .any (fun w args => (Rows.commitBoxesSpec.pre enc Tryd.prog Tryd.f4 [] false w args ∧ laidMetH Tryd.prog Rows.commitBoxesRow.laid w) ∧ sizedMet enc Tryd.prog Tryd.f4 (OpenSpec.ofChange Rows.commitBoxesSpec) false w args) (Rows.commitBoxesSpec.post enc Tryd.prog Tryd.f4 false true false false) := by
  refine returnsInHanded_of_change_and (C := Tryd.checked) (X := fun w _ => laidMetH Tryd.prog Rows.commitBoxesRow.laid w) (fun _ _ _ hh h => h.of_heap hh) own started (by kernel_rfl) Tryd.func4
    (ChangeSpec.witness_shaped (enc := enc) (C := Tryd.checked) (os := os) (X := fun w _ => laidMetH Tryd.prog Rows.commitBoxesRow.laid w) false (World.doorLaid Tryd.prog 400 os) #[.slice none 0 0] 8 rfl (World.shaped_of_RefB (by kernel_rfl) (by kernel_rfl)) (by kernel_rfl) (by kernel_rfl) (by kernel_rfl) (door_met os _)) ?_
  intro W base args ds gs before hval0 hW _ _ hL _
  obtain ⟨d0, rfl⟩ : ∃ d0 : DataW H, ds = [d0] := by
    obtain ⟨p, q, hA, _⟩ := hW
    have hl := trodAll_len hA
    rw [Tryd.params4] at hl
    match ds, hl with
    | [d0], _ => exact ⟨d0, rfl⟩
  exact (law_postX (fn := 4) 4 (by kernel_rfl) Tryd.underlying4 kinds rfl rfl rfl rfl hval0 hW (glob_of hL) walk).mono fun e W' ⟨he, hp⟩ => ⟨_, he, hp⟩

theorem over : Rows.commitBoxesRow.holds Tryd.pinned (OpenSpec.ofChange Rows.commitBoxesSpec) :=
  OpenClaim.holds_of_wide 4 Tryd.f4 rfl rfl rfl rfl rfl rfl rfl ⟨rfl, rfl, rfl, rfl, rfl⟩ rfl rfl rfl rfl rfl (by kernel_rfl) Tryd.func4 (by kernel_rfl)
    (of_decide_eq_true (by kernel_rfl)) (by unfold Func.isWrapper; first | (rw [if_pos (by decide +kernel)]; kernel_rfl) | (rw [if_neg (by decide +kernel)]; exact ⟨rfl, rfl⟩))
    (fun os started H enc _ => lifted os started H enc)

theorem proved : Rows.CommitBoxesCardSaid :=
  Claim7.holds_tied_plain_at .later [] [.data] true (true, "76c30030f4f16e0cab80c7227be92bd16545c1c7aab4e4eb45320bdb0e7ec2e6") false
    over (fun _ h => by cases h) (by kernel_rfl) (fun _ h => by cases h) commitBoxes_row_tie rfl ⟨rfl, rfl⟩ (by kernel_rfl) rfl
    (fun f fn hf hfn => by
      obtain rfl : f = 4 := Option.some.inj ((show Tryd.prog.funcNamed "trefoil/trefoillaw27.CommitBoxes" = some 4 by kernel_rfl).symm.trans hf) |>.symm
      obtain rfl : fn = Tryd.f4 := (Option.some.inj (Tryd.func4.symm.trans hfn)).symm
      exact ⟨by kernel_rfl, fun j t ht => by
        rw [Tryd.params4] at ht
        have hm : t ∈ [31] := by simpa using Array.mem_of_getElem? ht
        have hall : ([31].all fun u => !Tryd.prog.wantsStandIn u) = true := by kernel_rfl
        exact (show Tryd.prog.wantsStandIn t = false by simpa using List.all_eq_true.1 hall t hm)⟩)
    (by kernel_rfl)
#print axioms proved
end Go.Proofs.YtajkclooknanjaaDoor.commitBoxes
