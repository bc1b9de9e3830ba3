/-
  ShaTagged: the sum of all parts behind a tag, for every input (the table of rounds is tied to the program's text).
-/
import Derived.Test.YtnnopgichjnhdaaDoorHj
import Derived.Test.YtnnopgichjnhdaaDoorHz
import Derived.Test.YtnnopgichjnhdaaDoorCards
import Derived.Test.YtnnopgichjnhdaaDoorTie
import Derived.WalkKit
import Derived.ProofKit
import Derived.OpenShut
import Derived.SevenTiedAt
open Go Go.V
namespace Go.Proofs.YtnnopgichjnhdaaDoor.shaTagged
open Go.ChangeShapes Go.WideShapes Go.ChangeAt Go.RowKit
set_option linter.unusedVariables false
theorem own : ownKnob Tryd.prog.godebug = none := by kernel_rfl
theorem kinds : F2 (kdOk Tryd.prog) [.str, .sl .str] Tryd.f7.params.toList := by
  rw [Tryd.params7]
  exact (.cons Tryd.underlying9 (.cons (⟨9, Tryd.underlying22, by kernel_rfl, by decide, Tryd.underlying9⟩) .nil))
theorem walk : ∀ av, F2 (fun k a => isK k a ∧ szK reachBytes k a) [.str, .sl .str] av → wpF Tryd.prog G 7 av [] fun r _ => r = .bool true := by
  intro av h
  obtain _ | ⟨⟨h0, m0⟩, h⟩ := h
  obtain _ | ⟨⟨h1, m1⟩, h⟩ := h
  obtain _ | _ := h
  obtain ⟨x0, rfl, r0⟩ := h0
  obtain ⟨y1, rfl, r1, q1⟩ := h1
  obtain ⟨x1, rfl, z1⟩ := all_of2 AV.str _ q1
  exact f7 (Nat.le_trans (by simpa using r1) (show maxLen ≤ 9223372036854775807 by decide)) (m0 _ rfl) (fun x hx => m1 _ _ rfl (.str x) (List.mem_map_of_mem hx) x rfl) rfl
set_option maxRecDepth 100000 in
theorem lifted (os : Os) (started : os.Started) (H : Type) (enc : TypeId × Value → H) :
    ReturnsInHanded {} Tryd.checked os 7 .any (fun w args => (Rows.shaTaggedSpec.pre enc Tryd.prog Tryd.f7 [] false w args ∧ laidMetH Tryd.prog Rows.shaTaggedRow.laid w) ∧ sizedMet enc Tryd.prog Tryd.f7 (OpenSpec.ofChange Rows.shaTaggedSpec) false w args) (Rows.shaTaggedSpec.post enc Tryd.prog Tryd.f7 false true false false) := by
  refine returnsInHanded_of_change_and (C := Tryd.checked) (X := fun w _ => laidMetH Tryd.prog Rows.shaTaggedRow.laid w) (fun _ _ _ hh h => h.of_heap hh) own started (by kernel_rfl) Tryd.func7
    (ChangeSpec.witness_shaped (enc := enc) (C := Tryd.checked) (os := os) (X := fun w _ => laidMetH Tryd.prog Rows.shaTaggedRow.laid w) false (World.doorLaid Tryd.prog 400 os) #[.string ⟨#[]⟩, .slice none 0 0] 8 rfl (World.shaped_of_RefB (by kernel_rfl) (by kernel_rfl)) (by kernel_rfl) (by kernel_rfl) (by kernel_rfl) (door_met os _)) ?_
  intro W base args ds gs before hval0 hW _ hsz hL _
  have hlen : ds.length = Tryd.f7.params.toList.length := by obtain ⟨p, q, hA, _⟩ := hW; exact trodAll_len hA
  have hsz2 := weightsEach_left hlen hsz
  obtain ⟨d0, d1, rfl⟩ : ∃ d0 d1 : DataW H, ds = [d0, d1] := by
    obtain ⟨p, q, hA, _⟩ := hW
    have hl := trodAll_len hA
    rw [Tryd.params7] at hl
    match ds, hl with
    | [d0, d1], _ => exact ⟨d0, d1, rfl⟩
  exact (law_postGM (M := reachBytes) (fn := 7) 4 (by kernel_rfl) Tryd.underlying4 kinds rfl rfl rfl rfl hval0 hW (glob_of hL) hsz2 walk).mono fun e W' ⟨he, hp⟩ => ⟨_, he, hp⟩

theorem over : Rows.shaTaggedRow.holds Tryd.pinned (OpenSpec.ofChange Rows.shaTaggedSpec) :=
  OpenClaim.holds_of_wide 7 Tryd.f7 rfl rfl rfl rfl rfl rfl rfl ⟨rfl, rfl, rfl, rfl, rfl⟩ rfl rfl rfl rfl rfl (by kernel_rfl) Tryd.func7 (by kernel_rfl)
    (of_decide_eq_true (by kernel_rfl)) (by unfold Func.isWrapper; first | (rw [if_pos (by decide +kernel)]; kernel_rfl) | (rw [if_neg (by decide +kernel)]; exact ⟨rfl, rfl⟩))
    (fun os started H enc _ => lifted os started H enc)

theorem proved : Rows.ShaTaggedCardSaid :=
  Claim7.holds_tied_plain_at .later [] [.data] true (true, "7fa7f25de8fbc4e328081a10ebc5ab6e7584724c2871b458ca3961379c77f655") false
    over (fun _ h => by cases h) (by kernel_rfl) (fun _ h => by cases h) shaTagged_row_tie rfl ⟨rfl, rfl⟩ (by kernel_rfl) rfl
    (fun f fn hf hfn => by
      obtain rfl : f = 7 := Option.some.inj ((show Tryd.prog.funcNamed "trefoil/trefoillaw04.ShaTagged" = some 7 by kernel_rfl).symm.trans hf) |>.symm
      obtain rfl : fn = Tryd.f7 := (Option.some.inj (Tryd.func7.symm.trans hfn)).symm
      exact ⟨by kernel_rfl, fun j t ht => by
        rw [Tryd.params7] at ht
        have hm : t ∈ [9, 22] := by simpa using Array.mem_of_getElem? ht
        have hall : ([9, 22].all fun u => !Tryd.prog.wantsStandIn u) = true := by kernel_rfl
        exact (show Tryd.prog.wantsStandIn t = false by simpa using List.all_eq_true.1 hall t hm)⟩)
    (by kernel_rfl)
#print axioms proved
end Go.Proofs.YtnnopgichjnhdaaDoor.shaTagged
