/- RingGoes: its walk, told of what an argument's reading gives. -/
import Derived.Test.YtjmnbpghfnageaaRingL
set_option linter.unusedVariables false
namespace Go.Proofs.Ytjmnbpghfnageaa
open Go.RowKit Go.ChangeShapes Go.WideShapes Go.ChangeAt Go.Deep

set_option maxRecDepth 100000 in
theorem ringGoes_walk {H : Type} (w : World) (a : Int) (_ : (Lit.int .i64 a).wf = true) (b : Int) (_ : (Lit.int .i64 b).wf = true) (c : Int) (_ : (Lit.int .i64 c).wf = true) (enc : TypeId × Value → H) (base : Nat) (v : Value) (d : DataW H) (ps : List MemPlace) (hok : Value.okWide Try.prog w .any base 38 v)
    (h : DataW.Trod enc Try.prog w 0 (fun _ => true) true 38 v d ps) :
    Calls Try.prog 5 #[.int .i64 a, .int .i64 b, .int .i64 c, v] w fun e w' => e = .returned (.bool true) ∧ Below w.heap.size w w' := by
  obtain ⟨l, hv⟩ := ops_of_trod Try.underlying38 Try.underlying43 (by kernel_rfl) (by rfl) (by rfl) (by kernel_rfl) (by kernel_rfl) Try.underlying3 Try.underlying3 hok h
  by_cases hl : l.length ≤ 20000
  · by_cases hr : RingOk a b c
    · exact ringgoes_good a b c v l w hr hv hl
    · exact ringgoes_bad a b c v l w hr hv hl
  · exact ringgoes_long a b c v l w hv (by omega)

end Go.Proofs.Ytjmnbpghfnageaa
