/-
  The law IknpTells returns true for all inputs: code and reference agree on which rows are those of one extension.
-/
import Derived.Test.YtjilenmngokhpaaZj
import Derived.WalkKit
import Derived.ProofKit
import Derived.OpenShut
open Go Go.V
namespace Go.Proofs.Ytjilenmngokhpaa.iknpTells
open Go.ChangeShapes Go.WideShapes Go.ChangeAt Go.RowKit
set_option linter.unusedVariables false
theorem all_rw : ∀ {xs : List AV}, (∀ x ∈ xs, isK (.arr 2 .u64) x) → ∃ l : List (BitVec 64 × BitVec 64), xs = l.map fun p => rowV p.1 p.2
  | [], _ => ⟨[], rfl⟩
  | x :: xs, h => by
    obtain ⟨al, rfl⟩ := all_rw (xs := xs) fun y hy => h y (by simp [hy])
    obtain ⟨y3, rfl, r3, q3⟩ := h x (by simp)
    obtain ⟨d, rfl⟩ := all_of AV.u64 q3
    match d, r3 with
    | [a, b], _ => exact ⟨(a, b) :: al, rfl⟩
theorem rows_rw {l : List (BitVec 64 × BitVec 64)} : (l.map fun p => rowV p.1 p.2) = rwA (fun j => (l.getD j (0, 0)).1) (fun j => (l.getD j (0, 0)).2) l.length := by
  unfold rwA
  apply List.ext_getElem?
  intro i
  by_cases h : i < l.length
  · rw [List.getElem?_map, List.getElem?_map, List.getElem?_range h, List.getElem?_eq_getElem h]
    simp [h]
  · rw [List.getElem?_eq_none (by simp; omega), List.getElem?_eq_none (by simp; omega)]
theorem own : ownKnob Try.prog.godebug = none := by kernel_rfl
theorem kinds : F2 (kdOk Try.prog) [.arr 2 .u64, .sl (.arr 2 .u64), .sl (.arr 2 .u64), .sl .bool, .bool] Try.f10.params.toList := by
  rw [Try.params10]
  exact (.cons (⟨49, Try.underlying56, by kernel_rfl, by kernel_rfl, Try.underlying49⟩) (.cons (⟨56, Try.underlying67, by kernel_rfl, by decide, ⟨49, Try.underlying56, by kernel_rfl, by kernel_rfl, Try.underlying49⟩⟩) (.cons (⟨56, Try.underlying67, by kernel_rfl, by decide, ⟨49, Try.underlying56, by kernel_rfl, by kernel_rfl, Try.underlying49⟩⟩) (.cons (⟨4, Try.underlying35, by kernel_rfl, by decide, Try.underlying4⟩) (.cons Try.underlying4 .nil)))))
theorem walk : ∀ av, F2 isK [.arr 2 .u64, .sl (.arr 2 .u64), .sl (.arr 2 .u64), .sl .bool, .bool] av → wpF Try.prog [] 10 av [] fun r _ => r = .bool true := by
  intro av h
  obtain _ | ⟨h0, h⟩ := h
  obtain _ | ⟨h1, h⟩ := h
  obtain _ | ⟨h2, h⟩ := h
  obtain _ | ⟨h3, h⟩ := h
  obtain _ | ⟨h4, h⟩ := h
  obtain _ | _ := h
  obtain ⟨y0, rfl, r0, q0⟩ := h0
  obtain ⟨x0, rfl⟩ := all_of AV.u64 q0
  obtain ⟨y1, rfl, r1, q1⟩ := h1
  -- list of ('arr', ('u64', None, 0, '49'), 2, '56')
  obtain ⟨y2, rfl, r2, q2⟩ := h2
  -- list of ('arr', ('u64', None, 0, '49'), 2, '56')
  obtain ⟨y3, rfl, r3, q3⟩ := h3
  obtain ⟨x3, rfl⟩ := all_of AV.bool q3
  obtain ⟨x4, rfl⟩ := h4
  obtain ⟨l1, rfl⟩ := all_rw q1
  obtain ⟨l2, rfl⟩ := all_rw q2
  obtain ⟨a, b, rfl⟩ : ∃ a b, x0 = [a, b] := by
    match x0, r0 with
    | [a, b], _ => exact ⟨a, b, rfl⟩
  rw [rows_rw, rows_rw]
  exact f10 rfl
set_option maxRecDepth 100000 in
theorem lifted (os : Os) (started : os.Started) (H : Type) (enc : TypeId × Value → H) :
    ReturnsInHanded {} Try.checked os 10 .any (Rows.iknpTellsSpec.pre6 enc Try.prog Try.f10 Rows.iknpTellsRow.domain false) (Rows.iknpTellsSpec.post enc Try.prog Try.f10 false true false false) := by
  refine returnsInHanded_of_change (C := Try.checked) own started (by kernel_rfl) Try.func10
    (ChangeSpec.witness6 (enc := enc) (C := Try.checked) false ⟨#[], #[.agg #[.int .u64 0, .int .u64 0], .slice none 0 0, .slice none 0 0, .slice none 0 0, .bool false], []⟩ 8 (by kernel_rfl) (by kernel_rfl) (by kernel_rfl) (by kernel_rfl)) ?_
  intro W base args ds gs before hval0 hW hcnd _
  obtain ⟨d0, d1, d2, d3, d4, rfl⟩ : ∃ d0 d1 d2 d3 d4 : DataW H, ds = [d0, d1, d2, d3, d4] := by
    obtain ⟨p, q, hA, _⟩ := hW
    have hl := trodAll_len hA
    rw [Try.params10] at hl
    match ds, hl with
    | [d0, d1, d2, d3, d4], _ => exact ⟨d0, d1, d2, d3, d4, rfl⟩
  exact (law_post (fn := 10) 4 (by kernel_rfl) Try.underlying4 kinds rfl rfl rfl rfl hval0 hW walk).mono fun e W' ⟨he, hp⟩ => ⟨_, he, hp⟩

theorem over : Rows.iknpTellsRow.holds Try.pinned (OpenSpec.ofChange Rows.iknpTellsSpec) :=
  OpenClaim.holds_of_wide 10 Try.f10 rfl rfl rfl rfl rfl rfl rfl ⟨rfl, rfl, rfl, rfl, rfl⟩ rfl rfl rfl rfl rfl (by kernel_rfl) Try.func10 (by kernel_rfl)
    (of_decide_eq_true (by kernel_rfl)) (by unfold Func.isWrapper; first | (rw [if_pos (by decide +kernel)]; kernel_rfl) | (rw [if_neg (by decide +kernel)]; exact ⟨rfl, rfl⟩))
    (fun os started H enc _ => lifted os started H enc)

theorem proved : Rows.IknpTellsSaid :=
  over
#print axioms proved
end Go.Proofs.Ytjilenmngokhpaa.iknpTells
