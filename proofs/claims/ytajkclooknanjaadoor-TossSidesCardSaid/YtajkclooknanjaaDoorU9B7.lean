/-
  TossSides: what every call answers, the sum that binds, and the coin, behind each, for every input (the table of rounds is tied to the program's text).
-/
import Derived.Test.YtajkclooknanjaaDoorU3
import Derived.Test.YtajkclooknanjaaDoorUz
import Derived.Test.YtajkclooknanjaaDoorCards
import Derived.Test.YtajkclooknanjaaDoorTie
import Derived.WalkKit
import Derived.ProofKit
import Derived.OpenShut
import Derived.SevenTiedAt
open Go Go.V
namespace Go.Proofs.YtajkclooknanjaaDoor.tossSides
open Go.ChangeShapes Go.WideShapes Go.ChangeAt Go.RowKit
set_option linter.unusedVariables false
theorem all_at : ∀ {xs : List AV}, (∀ x ∈ xs, isSt [.int, .arr 32 .u8, .arr 32 .u8] x) → ∃ al : List At, xs = al.map atA ∧ ∀ a ∈ al, atOk a
  | [], _ => ⟨[], rfl, by simp⟩
  | x :: xs, h => by
    obtain ⟨al, rfl, hal⟩ := all_at (xs := xs) fun y hy => h y (by simp [hy])
    obtain ⟨ps, rfl, hp⟩ := h x (by simp)
    obtain _ | ⟨h0, hp⟩ := hp
    obtain _ | ⟨h3, hp⟩ := hp
    obtain _ | ⟨h4, hp⟩ := hp
    obtain _ | _ := hp
    obtain ⟨k, rfl, _⟩ := h0
    obtain ⟨y3, rfl, r3, q3⟩ := h3
    obtain ⟨y4, rfl, r4, q4⟩ := h4
    obtain ⟨d, rfl⟩ := all_of AV.u8 q3
    obtain ⟨s, rfl⟩ := all_of AV.u8 q4
    refine ⟨⟨k, d, s⟩ :: al, rfl, fun a ha => ?_⟩
    rcases List.mem_cons.1 ha with rfl | ha
    · exact ⟨by simpa using r3, by simpa using r4⟩
    · exact hal a ha
theorem own : ownKnob Tryd.prog.godebug = none := by kernel_rfl
theorem kinds : F2 (kxOk Tryd.prog) [.k .int, .k .u32, .k (.arr 32 .u8), .ls [.int, .arr 32 .u8, .arr 32 .u8]] Tryd.f7.params.toList := by
  rw [Tryd.params7]
  exact (.cons Tryd.underlying3 (.cons Tryd.underlying23 (.cons (⟨5, Tryd.underlying25, by kernel_rfl, by kernel_rfl, Tryd.underlying5⟩) (.cons (⟨63, _, Tryd.underlying57, Tryd.underlying63, by kernel_rfl, by decide, ⟨Tryd.underlying3, by kernel_rfl, by kernel_rfl, ⟨5, Tryd.underlying26, by kernel_rfl, by kernel_rfl, Tryd.underlying5⟩, by kernel_rfl, by kernel_rfl, ⟨5, Tryd.underlying25, by kernel_rfl, by kernel_rfl, Tryd.underlying5⟩, by kernel_rfl, by kernel_rfl, trivial⟩⟩) .nil))))
theorem walk : ∀ av, F2 isX [.k .int, .k .u32, .k (.arr 32 .u8), .ls [.int, .arr 32 .u8, .arr 32 .u8]] av → wpF Tryd.prog G 7 av [] fun r _ => r = .bool true := by
  intro av h
  obtain _ | ⟨h0, h⟩ := h
  obtain _ | ⟨h1, h⟩ := h
  obtain _ | ⟨h2, h⟩ := h
  obtain _ | ⟨h3, h⟩ := h
  obtain _ | _ := h
  obtain ⟨x0, rfl, r0⟩ := h0
  obtain ⟨x1, rfl⟩ := h1
  obtain ⟨y2, rfl, r2, q2⟩ := h2
  obtain ⟨x2, rfl⟩ := all_of AV.u8 q2
  obtain ⟨y3, rfl, r3, q3⟩ := h3
  obtain ⟨al, rfl, hal⟩ := all_at q3
  exact f7 (by simpa using r2) (Nat.le_trans (by simpa using r3) (show maxLen ≤ 9223372036854775807 by decide)) hal rfl
set_option maxRecDepth 100000 in
theorem lifted (os : Os) (started : os.Started) (H : Type) (enc : TypeId × Value → H) :
    ReturnsInHanded {} Tryd.checked os 7 .any (fun w args => (Rows.tossSidesSpec.pre enc Tryd.prog Tryd.f7 [] false w args ∧ laidMetH Tryd.prog Rows.tossSidesRow.laid w) ∧ sizedMet enc Tryd.prog Tryd.f7 (OpenSpec.ofChange Rows.tossSidesSpec) false w args) (Rows.tossSidesSpec.post enc Tryd.prog Tryd.f7 false true false false) := by
  refine returnsInHanded_of_change_and (C := Tryd.checked) (X := fun w _ => laidMetH Tryd.prog Rows.tossSidesRow.laid w) (fun _ _ _ hh h => h.of_heap hh) own started (by kernel_rfl) Tryd.func7
    (ChangeSpec.witness_shaped (enc := enc) (C := Tryd.checked) (os := os) (X := fun w _ => laidMetH Tryd.prog Rows.tossSidesRow.laid w) false (World.doorLaid Tryd.prog 400 os) #[.int .i64 0, .int .u32 0, .agg #[.int .u8 0, .int .u8 0, .int .u8 0, .int .u8 0, .int .u8 0, .int .u8 0, .int .u8 0, .int .u8 0, .int .u8 0, .int .u8 0, .int .u8 0, .int .u8 0, .int .u8 0, .int .u8 0, .int .u8 0, .int .u8 0, .int .u8 0, .int .u8 0, .int .u8 0, .int .u8 0, .int .u8 0, .int .u8 0, .int .u8 0, .int .u8 0, .int .u8 0, .int .u8 0, .int .u8 0, .int .u8 0, .int .u8 0, .int .u8 0, .int .u8 0, .int .u8 0], .slice none 0 0] 8 rfl (World.shaped_of_RefB (by kernel_rfl) (by kernel_rfl)) (by kernel_rfl) (by kernel_rfl) (by kernel_rfl) (door_met os _)) ?_
  intro W base args ds gs before hval0 hW _ _ hL _
  obtain ⟨d0, d1, d2, d3, rfl⟩ : ∃ d0 d1 d2 d3 : DataW H, ds = [d0, d1, d2, d3] := by
    obtain ⟨p, q, hA, _⟩ := hW
    have hl := trodAll_len hA
    rw [Tryd.params7] at hl
    match ds, hl with
    | [d0, d1, d2, d3], _ => exact ⟨d0, d1, d2, d3, rfl⟩
  exact (law_postX (fn := 7) 4 (by kernel_rfl) Tryd.underlying4 kinds rfl rfl rfl rfl hval0 hW (glob_of hL) walk).mono fun e W' ⟨he, hp⟩ => ⟨_, he, hp⟩

theorem over : Rows.tossSidesRow.holds Tryd.pinned (OpenSpec.ofChange Rows.tossSidesSpec) :=
  OpenClaim.holds_of_wide 7 Tryd.f7 rfl rfl rfl rfl rfl rfl rfl ⟨rfl, rfl, rfl, rfl, rfl⟩ rfl rfl rfl rfl rfl (by kernel_rfl) Tryd.func7 (by kernel_rfl)
    (of_decide_eq_true (by kernel_rfl)) (by unfold Func.isWrapper; first | (rw [if_pos (by decide +kernel)]; kernel_rfl) | (rw [if_neg (by decide +kernel)]; exact ⟨rfl, rfl⟩))
    (fun os started H enc _ => lifted os started H enc)

theorem proved : Rows.TossSidesCardSaid :=
  Claim7.holds_tied_plain_at .later [] [.data] true (true, "76c30030f4f16e0cab80c7227be92bd16545c1c7aab4e4eb45320bdb0e7ec2e6") false
    over (fun _ h => by cases h) (by kernel_rfl) (fun _ h => by cases h) tossSides_row_tie rfl ⟨rfl, rfl⟩ (by kernel_rfl) rfl
    (fun f fn hf hfn => by
      obtain rfl : f = 7 := Option.some.inj ((show Tryd.prog.funcNamed "trefoil/trefoillaw28.TossSides" = some 7 by kernel_rfl).symm.trans hf) |>.symm
      obtain rfl : fn = Tryd.f7 := (Option.some.inj (Tryd.func7.symm.trans hfn)).symm
      exact ⟨by kernel_rfl, fun j t ht => by
        rw [Tryd.params7] at ht
        have hm : t ∈ [3, 23, 25, 57] := by simpa using Array.mem_of_getElem? ht
        have hall : ([3, 23, 25, 57].all fun u => !Tryd.prog.wantsStandIn u) = true := by kernel_rfl
        exact (show Tryd.prog.wantsStandIn t = false by simpa using List.all_eq_true.1 hall t hm)⟩)
    (by kernel_rfl)
#print axioms proved
end Go.Proofs.YtajkclooknanjaaDoor.tossSides
