/- Patches lent: rows of them. -/
import Derived.Test.YtpegbgomnpinfaaGreatMrg13
import Derived.Test.YtpegbgomnpinfaaGreatMrg16
set_option linter.unusedVariables false
namespace Go.Proofs.YtpegbgomnpinfaaGreat
open Go.RowKit

def opRow (X : List OP) : List Value := elems (fun i => opCells (X.getD i op0)) X.length
theorem opRow_at (X : List OP) (j i : Nat) (hj : j < X.length) (hi : i < 3) : (opRow X)[j * 3 + i]? = (opCells (X[j]'hj))[i]? := by
  unfold opRow
  rw [elems_at (sz := 3) (fun k => rfl) X.length j i hj hi, List.getD_eq_getElem?_getD, List.getElem?_eq_getElem hj]
  rfl
theorem opRow_len (X : List OP) : (opRow X).length = X.length * 3 := elems_length (sz := 3) (fun k => rfl) _
theorem opRow_snoc (X : List OP) (x : OP) : opRow (X ++ [x]) = opRow X ++ opCells x := opElems_snoc X x
theorem opCells_lent {w : World} {lo : Nat} {x : OP} (h : Lent w lo x.2 x.1.d) : ∀ u ∈ opCells x, u.oneCell' = true := by
  obtain ⟨g, -, e, -⟩ := h
  intro u hu
  unfold opCells at hu
  rw [e] at hu
  simp only [List.mem_cons, List.not_mem_nil, or_false] at hu
  rcases hu with rfl | rfl | rfl <;> rfl

end Go.Proofs.YtpegbgomnpinfaaGreat
