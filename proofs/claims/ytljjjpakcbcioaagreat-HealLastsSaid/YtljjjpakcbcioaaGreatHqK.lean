/- HealLasts: the row's closed facts, one by one (together they pass the memory that a text may have). -/
import Derived.Test.YtljjjpakcbcioaaGreatRows
import Derived.WalkKit
import Derived.ProofKit
import Derived.OpenShut
import Derived.SizedLaws
namespace Go.Proofs.YtljjjpakcbcioaaGreat.healLasts
open Go.ChangeShapes Go.WideShapes Go.ChangeAt Go.RowKit
theorem k10 : (Rows.healLastsRow.inPlace == Tryz.prog.inPlace 7) = true := by kernel_rfl
theorem k11 : (Rows.healLastsRow.unfollowed == Tryz.prog.unfollowed 7) = true := by kernel_rfl
theorem k12 : (Rows.healLastsRow.recurses == Tryz.prog.recurses 7) = true := by kernel_rfl
theorem k13 : (Rows.healLastsRow.named == Tryz.prog.varsNamed 7) = true := by kernel_rfl
theorem closed : joinedFacts Tryz.prog 7 Tryz.f7 Rows.healLastsSpec Rows.healLastsRow = true := by
  unfold joinedFacts
  rw [k10, k11, k12, k13]
  kernel_rfl
end Go.Proofs.YtljjjpakcbcioaaGreat.healLasts
