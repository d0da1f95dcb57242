/- HealCounts: the row's closed facts, one by one (together they pass the memory that a text may have). -/
import Derived.Test.YtljjjpakcbcioaaGreatRows
import Derived.WalkKit
import Derived.ProofKit
import Derived.OpenShut
import Derived.SizedLaws
namespace Go.Proofs.YtljjjpakcbcioaaGreat.healCounts
open Go.ChangeShapes Go.WideShapes Go.ChangeAt Go.RowKit
theorem k10 : (Rows.healCountsRow.inPlace == Tryz.prog.inPlace 3) = true := by kernel_rfl
theorem k11 : (Rows.healCountsRow.unfollowed == Tryz.prog.unfollowed 3) = true := by kernel_rfl
theorem k12 : (Rows.healCountsRow.recurses == Tryz.prog.recurses 3) = true := by kernel_rfl
theorem k13 : (Rows.healCountsRow.named == Tryz.prog.varsNamed 3) = true := by kernel_rfl
theorem closed : joinedFacts Tryz.prog 3 Tryz.f3 Rows.healCountsSpec Rows.healCountsRow = true := by
  unfold joinedFacts
  rw [k10, k11, k12, k13]
  kernel_rfl
end Go.Proofs.YtljjjpakcbcioaaGreat.healCounts
