/- ArrayPieces: the row's closed facts, one by one (together they pass the memory that a text may have). -/
import Derived.Test.YtmemlkmnhcealaaGreatRows
import Derived.WalkKit
import Derived.ProofKit
import Derived.OpenShut
import Derived.SizedLaws
namespace Go.Proofs.YtmemlkmnhcealaaGreat.arrayPieces
open Go.ChangeShapes Go.WideShapes Go.ChangeAt Go.RowKit
theorem k10 : (Rows.arrayPiecesRow.inPlace == Tryz.prog.inPlace 5) = true := by kernel_rfl
theorem k11 : (Rows.arrayPiecesRow.unfollowed == Tryz.prog.unfollowed 5) = true := by kernel_rfl
theorem k12 : (Rows.arrayPiecesRow.recurses == Tryz.prog.recurses 5) = true := by kernel_rfl
theorem k13 : (Rows.arrayPiecesRow.named == Tryz.prog.varsNamed 5) = true := by kernel_rfl
theorem closed : joinedFacts Tryz.prog 5 Tryz.f5 Rows.arrayPiecesSpec Rows.arrayPiecesRow = true := by
  unfold joinedFacts
  rw [k10, k11, k12, k13]
  kernel_rfl
end Go.Proofs.YtmemlkmnhcealaaGreat.arrayPieces
