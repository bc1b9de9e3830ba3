/-
  RotChosen: which seeds choices choose, for every input (the table of rounds is tied to the program's text).
-/
import Derived.Test.YtjilenmngokhpaaDoorRi
import Derived.Test.YtjilenmngokhpaaDoorRz
import Derived.Test.YtjilenmngokhpaaDoorCards
import Derived.Test.YtjilenmngokhpaaDoorTie
import Derived.WalkKit
import Derived.ProofKit
import Derived.OpenShut
import Derived.SevenTiedAt
open Go Go.V
namespace Go.Proofs.YtjilenmngokhpaaDoor.rotChosen
open Go.ChangeShapes Go.WideShapes Go.ChangeAt Go.RowKit
set_option linter.unusedVariables false
theorem all_pr : ∀ {xs : List AV}, (∀ x ∈ xs, isSt [.arr 32 .u8, .arr 32 .u8] x) → ∃ l : List Pr, xs = l.map prA ∧ ∀ p ∈ l, p.ok
  | [], _ => ⟨[], rfl, by simp⟩
  | x :: xs, h => by
    obtain ⟨al, rfl, hal⟩ := all_pr (xs := xs) fun y hy => h y (by simp [hy])
    obtain ⟨ps, rfl, hp⟩ := h x (by simp)
    obtain _ | ⟨h3, hp⟩ := hp
    obtain _ | ⟨h4, hp⟩ := hp
    obtain _ | _ := hp
    obtain ⟨y3, rfl, r3, q3⟩ := h3
    obtain ⟨y4, rfl, r4, q4⟩ := h4
    obtain ⟨d, rfl⟩ := all_of AV.u8 q3
    obtain ⟨s, rfl⟩ := all_of AV.u8 q4
    refine ⟨⟨d, s⟩ :: al, rfl, fun a ha => ?_⟩
    rcases List.mem_cons.1 ha with rfl | ha
    · exact ⟨by simpa using r3, by simpa using r4⟩
    · exact hal a ha
theorem all_sd : ∀ {xs : List AV}, (∀ x ∈ xs, isK (.arr 32 .u8) x) → ∃ l : List (List (BitVec 8)), xs = l.map sdA ∧ ∀ s ∈ l, s.length = 32
  | [], _ => ⟨[], rfl, by simp⟩
  | x :: xs, h => by
    obtain ⟨al, rfl, hal⟩ := all_sd (xs := xs) fun y hy => h y (by simp [hy])
    obtain ⟨y3, rfl, r3, q3⟩ := h x (by simp)
    obtain ⟨d, rfl⟩ := all_of AV.u8 q3
    refine ⟨d :: al, rfl, fun a ha => ?_⟩
    rcases List.mem_cons.1 ha with rfl | ha
    · simpa using r3
    · exact hal a ha
theorem own : ownKnob Tryd.prog.godebug = none := by kernel_rfl
theorem kinds : F2 (kxOk Tryd.prog) [.ls [.arr 32 .u8, .arr 32 .u8], .k (.sl (.arr 32 .u8)), .k (.sl .bool), .k .bool] Tryd.f4.params.toList := by
  rw [Tryd.params4]
  exact (.cons (⟨47, _, Tryd.underlying33, Tryd.underlying47, by kernel_rfl, by decide, ⟨⟨5, Tryd.underlying28, by kernel_rfl, by kernel_rfl, Tryd.underlying5⟩, by kernel_rfl, by kernel_rfl, ⟨5, Tryd.underlying28, by kernel_rfl, by kernel_rfl, Tryd.underlying5⟩, by kernel_rfl, by kernel_rfl, trivial⟩⟩) (.cons (⟨28, Tryd.underlying36, by kernel_rfl, by decide, ⟨5, Tryd.underlying28, by kernel_rfl, by kernel_rfl, Tryd.underlying5⟩⟩) (.cons (⟨4, Tryd.underlying39, by kernel_rfl, by decide, Tryd.underlying4⟩) (.cons Tryd.underlying4 .nil))))
theorem walk : ∀ av, F2 isX [.ls [.arr 32 .u8, .arr 32 .u8], .k (.sl (.arr 32 .u8)), .k (.sl .bool), .k .bool] av → wpF Tryd.prog G 4 av [] fun r _ => r = .bool true := by
  intro av h
  obtain _ | ⟨h0, h⟩ := h
  obtain _ | ⟨h1, h⟩ := h
  obtain _ | ⟨h2, h⟩ := h
  obtain _ | ⟨h3, h⟩ := h
  obtain _ | _ := h
  obtain ⟨y0, rfl, r0, q0⟩ := h0
  obtain ⟨y1, rfl, r1, q1⟩ := h1
  -- list of ('arr', ('u8', None, 0, '5'), 32, '28')
  obtain ⟨y2, rfl, r2, q2⟩ := h2
  obtain ⟨x2, rfl⟩ := all_of AV.bool q2
  obtain ⟨x3, rfl⟩ := h3
  obtain ⟨l0, rfl, k0⟩ := all_pr q0
  obtain ⟨l1, rfl, k1⟩ := all_sd q1
  exact f4 k0 k1 rfl
set_option maxRecDepth 100000 in
theorem lifted (os : Os) (started : os.Started) (H : Type) (enc : TypeId × Value → H) :
    ReturnsInHanded {} Tryd.checked os 4 .any (fun w args => (Rows.rotChosenSpec.pre enc Tryd.prog Tryd.f4 [] false w args ∧ laidMetH Tryd.prog Rows.rotChosenRow.laid w) ∧ sizedMet enc Tryd.prog Tryd.f4 (OpenSpec.ofChange Rows.rotChosenSpec) false w args) (Rows.rotChosenSpec.post enc Tryd.prog Tryd.f4 false true false false) := by
  refine returnsInHanded_of_change_and (C := Tryd.checked) (X := fun w _ => laidMetH Tryd.prog Rows.rotChosenRow.laid w) (fun _ _ _ hh h => h.of_heap hh) own started (by kernel_rfl) Tryd.func4
    (ChangeSpec.witness_shaped (enc := enc) (C := Tryd.checked) (os := os) (X := fun w _ => laidMetH Tryd.prog Rows.rotChosenRow.laid w) false (World.doorLaid Tryd.prog 400 os) #[.slice none 0 0, .slice none 0 0, .slice none 0 0, .bool false] 8 rfl (World.shaped_of_RefB (by kernel_rfl) (by kernel_rfl)) (by kernel_rfl) (by kernel_rfl) (by kernel_rfl) (door_met os _)) ?_
  intro W base args ds gs before hval0 hW _ _ hL _
  obtain ⟨d0, d1, d2, d3, rfl⟩ : ∃ d0 d1 d2 d3 : DataW H, ds = [d0, d1, d2, d3] := by
    obtain ⟨p, q, hA, _⟩ := hW
    have hl := trodAll_len hA
    rw [Tryd.params4] at hl
    match ds, hl with
    | [d0, d1, d2, d3], _ => exact ⟨d0, d1, d2, d3, rfl⟩
  exact (law_postX (fn := 4) 4 (by kernel_rfl) Tryd.underlying4 kinds rfl rfl rfl rfl hval0 hW (glob_of hL) walk).mono fun e W' ⟨he, hp⟩ => ⟨_, he, hp⟩

theorem over : Rows.rotChosenRow.holds Tryd.pinned (OpenSpec.ofChange Rows.rotChosenSpec) :=
  OpenClaim.holds_of_wide 4 Tryd.f4 rfl rfl rfl rfl rfl rfl rfl ⟨rfl, rfl, rfl, rfl, rfl⟩ rfl rfl rfl rfl rfl (by kernel_rfl) Tryd.func4 (by kernel_rfl)
    (of_decide_eq_true (by kernel_rfl)) (by unfold Func.isWrapper; first | (rw [if_pos (by decide +kernel)]; kernel_rfl) | (rw [if_neg (by decide +kernel)]; exact ⟨rfl, rfl⟩))
    (fun os started H enc _ => lifted os started H enc)

theorem proved : Rows.RotChosenCardSaid :=
  Claim7.holds_tied_plain_at .later [] [.data] true (true, "eac4a608aea576130c7d0e11a0395033ad0786c7d60ba3827d0a50149d955a0a") false
    over (fun _ h => by cases h) (by kernel_rfl) (fun _ h => by cases h) rotChosen_row_tie rfl ⟨rfl, rfl⟩ (by kernel_rfl) rfl
    (fun f fn hf hfn => by
      obtain rfl : f = 4 := Option.some.inj ((show Tryd.prog.funcNamed "trefoil/trefoillaw18.RotChosen" = some 4 by kernel_rfl).symm.trans hf) |>.symm
      obtain rfl : fn = Tryd.f4 := (Option.some.inj (Tryd.func4.symm.trans hfn)).symm
      exact ⟨by kernel_rfl, fun j t ht => by
        rw [Tryd.params4] at ht
        have hm : t ∈ [33, 36, 39, 4] := by simpa using Array.mem_of_getElem? ht
        have hall : ([33, 36, 39, 4].all fun u => !Tryd.prog.wantsStandIn u) = true := by kernel_rfl
        exact (show Tryd.prog.wantsStandIn t = false by simpa using List.all_eq_true.1 hall t hm)⟩)
    (by kernel_rfl)
#print axioms proved
end Go.Proofs.YtjilenmngokhpaaDoor.rotChosen
