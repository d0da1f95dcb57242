/- ArrayRefuses: the row's closed facts, one by one (together they pass the memory that a text may have). -/
import Derived.Test.YtmemlkmnhcealaaGreatRows
import Derived.WalkKit
import Derived.ProofKit
import Derived.OpenShut
import Derived.SizedLaws
namespace Go.Proofs.YtmemlkmnhcealaaGreat.arrayRefuses
open Go.ChangeShapes Go.WideShapes Go.ChangeAt Go.RowKit
theorem k10 : (Rows.arrayRefusesRow.inPlace == Tryz.prog.inPlace 4) = true := by kernel_rfl
theorem k11 : (Rows.arrayRefusesRow.unfollowed == Tryz.prog.unfollowed 4) = true := by kernel_rfl
theorem k12 : (Rows.arrayRefusesRow.recurses == Tryz.prog.recurses 4) = true := by kernel_rfl
theorem k13 : (Rows.arrayRefusesRow.named == Tryz.prog.varsNamed 4) = true := by kernel_rfl
theorem closed : joinedFacts Tryz.prog 4 Tryz.f4 Rows.arrayRefusesSpec Rows.arrayRefusesRow = true := by
  unfold joinedFacts
  rw [k10, k11, k12, k13]
  kernel_rfl
end Go.Proofs.YtmemlkmnhcealaaGreat.arrayRefuses
