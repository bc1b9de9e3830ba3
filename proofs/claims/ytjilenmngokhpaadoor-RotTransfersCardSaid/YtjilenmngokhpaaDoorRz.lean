/-
  What the row says of the table of rounds, as the package variable that the functions read.
-/
import Derived.Test.YtjilenmngokhpaaDoorRa
import Derived.Test.YtjilenmngokhpaaDoorV47
import Derived.LaidMore
import Derived.MakeChecks
import Derived.LaidHandle
import Derived.ProofKit
open Go Go.V
namespace Go.Proofs.YtjilenmngokhpaaDoor
set_option maxRecDepth 100000
abbrev lds : List (String × DataW Unit) := [("trefoil/sha.rounds", Rows.laid_trefoil_sha_rounds)]
theorem door_met (os : Os) (args : Array Value) : laidMetH Tryd.prog lds ((World.doorLaid Tryd.prog 400 os).forCall (fun _ _ => 0) ⟨#[], args, []⟩).memory :=
  laidMetH_of_parts3 (fuel := 8) (laidMet_of_run' 8 (by kernel_rfl) (by kernel_rfl)) (by kernel_rfl) (by kernel_rfl)
theorem glob_of {W : World} (h : laidMetH Tryd.prog lds W) : GlobOk G W (fun _ => none) := by
  rw [MakeChecks.laidMetH_plain _ _ _ (by kernel_rfl)] at h
  have e : lds = [("trefoil/sha.rounds", .agg (rndI.map fun n => .lit (.int .u32 n)))] := by rfl
  rw [e] at h
  have := glob_u32 (P := Tryd.prog) (l := rndI) (g := 0) (t := 136) (e := 87) (by kernel_rfl) (by kernel_rfl) Tryd.underlying136 Tryd.underlying87 (by kernel_rfl) (by kernel_rfl) h
  unfold G rnds
  rw [List.map_map]
  exact this
end Go.Proofs.YtjilenmngokhpaaDoor
