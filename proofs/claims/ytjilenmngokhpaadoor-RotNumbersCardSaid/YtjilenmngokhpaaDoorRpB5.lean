/-
  RotNumbers: the numbers of every seed, and its bit, for every input (the table of rounds is tied to the program's text).
-/
import Derived.Test.YtjilenmngokhpaaDoorRr
import Derived.Test.YtjilenmngokhpaaDoorRz
import Derived.Test.YtjilenmngokhpaaDoorCards
import Derived.Test.YtjilenmngokhpaaDoorTie
import Derived.WalkKit
import Derived.ProofKit
import Derived.OpenShut
import Derived.SevenTiedAt
open Go Go.V
namespace Go.Proofs.YtjilenmngokhpaaDoor.rotNumbers
open Go.ChangeShapes Go.WideShapes Go.ChangeAt Go.RowKit
set_option linter.unusedVariables false
theorem all_sd : ∀ {xs : List AV}, (∀ x ∈ xs, isK (.arr 32 .u8) x) → ∃ l : List (List (BitVec 8)), xs = l.map sdA ∧ ∀ s ∈ l, s.length = 32
  | [], _ => ⟨[], rfl, by simp⟩
  | x :: xs, h => by
    obtain ⟨al, rfl, hal⟩ := all_sd (xs := xs) fun y hy => h y (by simp [hy])
    obtain ⟨y3, rfl, r3, q3⟩ := h x (by simp)
    obtain ⟨d, rfl⟩ := all_of AV.u8 q3
    refine ⟨d :: al, rfl, fun a ha => ?_⟩
    rcases List.mem_cons.1 ha with rfl | ha
    · simpa using r3
    · exact hal a ha
theorem own : ownKnob Tryd.prog.godebug = none := by kernel_rfl
theorem kinds : F2 (kdOk Tryd.prog) [.sl (.arr 32 .u8), .int, .int] Tryd.f5.params.toList := by
  rw [Tryd.params5]
  exact (.cons (⟨28, Tryd.underlying36, by kernel_rfl, by decide, ⟨5, Tryd.underlying28, by kernel_rfl, by kernel_rfl, Tryd.underlying5⟩⟩) (.cons Tryd.underlying3 (.cons Tryd.underlying3 .nil)))
theorem walk : ∀ av, F2 isK [.sl (.arr 32 .u8), .int, .int] av → wpF Tryd.prog G 5 av [] fun r _ => r = .bool true := by
  intro av h
  obtain _ | ⟨h0, h⟩ := h
  obtain _ | ⟨h1, h⟩ := h
  obtain _ | ⟨h2, h⟩ := h
  obtain _ | _ := h
  obtain ⟨y0, rfl, r0, q0⟩ := h0
  -- list of ('arr', ('u8', None, 0, '5'), 32, '28')
  obtain ⟨x1, rfl, r1⟩ := h1
  obtain ⟨x2, rfl, r2⟩ := h2
  obtain ⟨l0, rfl, k0⟩ := all_sd q0
  exact f5 k0 rfl
set_option maxRecDepth 100000 in
theorem lifted (os : Os) (started : os.Started) (H : Type) (enc : TypeId × Value → H) :
    ReturnsInHanded {} Tryd.checked os 5 .any (fun w args => (Rows.rotNumbersSpec.pre enc Tryd.prog Tryd.f5 [] false w args ∧ laidMetH Tryd.prog Rows.rotNumbersRow.laid w) ∧ sizedMet enc Tryd.prog Tryd.f5 (OpenSpec.ofChange Rows.rotNumbersSpec) false w args) (Rows.rotNumbersSpec.post enc Tryd.prog Tryd.f5 false true false false) := by
  refine returnsInHanded_of_change_and (C := Tryd.checked) (X := fun w _ => laidMetH Tryd.prog Rows.rotNumbersRow.laid w) (fun _ _ _ hh h => h.of_heap hh) own started (by kernel_rfl) Tryd.func5
    (ChangeSpec.witness_shaped (enc := enc) (C := Tryd.checked) (os := os) (X := fun w _ => laidMetH Tryd.prog Rows.rotNumbersRow.laid w) false (World.doorLaid Tryd.prog 400 os) #[.slice none 0 0, .int .i64 0, .int .i64 0] 8 rfl (World.shaped_of_RefB (by kernel_rfl) (by kernel_rfl)) (by kernel_rfl) (by kernel_rfl) (by kernel_rfl) (door_met os _)) ?_
  intro W base args ds gs before hval0 hW _ _ hL _
  obtain ⟨d0, d1, d2, rfl⟩ : ∃ d0 d1 d2 : DataW H, ds = [d0, d1, d2] := by
    obtain ⟨p, q, hA, _⟩ := hW
    have hl := trodAll_len hA
    rw [Tryd.params5] at hl
    match ds, hl with
    | [d0, d1, d2], _ => exact ⟨d0, d1, d2, rfl⟩
  exact (law_postG (fn := 5) 4 (by kernel_rfl) Tryd.underlying4 kinds rfl rfl rfl rfl hval0 hW (glob_of hL) walk).mono fun e W' ⟨he, hp⟩ => ⟨_, he, hp⟩

theorem over : Rows.rotNumbersRow.holds Tryd.pinned (OpenSpec.ofChange Rows.rotNumbersSpec) :=
  OpenClaim.holds_of_wide 5 Tryd.f5 rfl rfl rfl rfl rfl rfl rfl ⟨rfl, rfl, rfl, rfl, rfl⟩ rfl rfl rfl rfl rfl (by kernel_rfl) Tryd.func5 (by kernel_rfl)
    (of_decide_eq_true (by kernel_rfl)) (by unfold Func.isWrapper; first | (rw [if_pos (by decide +kernel)]; kernel_rfl) | (rw [if_neg (by decide +kernel)]; exact ⟨rfl, rfl⟩))
    (fun os started H enc _ => lifted os started H enc)

theorem proved : Rows.RotNumbersCardSaid :=
  Claim7.holds_tied_plain_at .later [] [.data] true (true, "eac4a608aea576130c7d0e11a0395033ad0786c7d60ba3827d0a50149d955a0a") false
    over (fun _ h => by cases h) (by kernel_rfl) (fun _ h => by cases h) rotNumbers_row_tie rfl ⟨rfl, rfl⟩ (by kernel_rfl) rfl
    (fun f fn hf hfn => by
      obtain rfl : f = 5 := Option.some.inj ((show Tryd.prog.funcNamed "trefoil/trefoillaw18.RotNumbers" = some 5 by kernel_rfl).symm.trans hf) |>.symm
      obtain rfl : fn = Tryd.f5 := (Option.some.inj (Tryd.func5.symm.trans hfn)).symm
      exact ⟨by kernel_rfl, fun j t ht => by
        rw [Tryd.params5] at ht
        have hm : t ∈ [36, 3, 3] := by simpa using Array.mem_of_getElem? ht
        have hall : ([36, 3, 3].all fun u => !Tryd.prog.wantsStandIn u) = true := by kernel_rfl
        exact (show Tryd.prog.wantsStandIn t = false by simpa using List.all_eq_true.1 hall t hm)⟩)
    (by kernel_rfl)
#print axioms proved
end Go.Proofs.YtjilenmngokhpaaDoor.rotNumbers
