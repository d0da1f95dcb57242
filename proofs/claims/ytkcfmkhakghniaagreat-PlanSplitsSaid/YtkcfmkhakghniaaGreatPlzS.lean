/- PlanSplits: the walk, of any input. -/
import Derived.Test.YtkcfmkhakghniaaGreatPlzR
import Derived.OpenShut
set_option linter.unusedVariables false
namespace Go.Proofs.YtkcfmkhakghniaaGreat
open Go.RowKit Go.WideShapes Go.ChangeAt

set_option maxRecDepth 100000 in
theorem planSplits_walk {H : Type} (w : World) (enc : TypeId × Value → H)
    (base : Nat) (v : Value) (d : DataW H) (ps : List MemPlace) (hok : Value.okWide Tryz.prog w .any base 23 v) (h : DataW.Trod enc Tryz.prog w 0 (fun _ => true) true 23 v d ps)
    (enc1 : TypeId × Value → H) (base1 : Nat) (v1 : Value) (d1 : DataW H) (ps1 : List MemPlace) (hok1 : Value.okWide Tryz.prog w .any base1 68 v1) (h1 : DataW.Trod enc1 Tryz.prog w 0 (fun _ => true) true 68 v1 d1 ps1) (hw1 : ∀ n ∈ d1.weights Tryz.prog 68, n ≤ reachBytes) :
    Calls Tryz.prog 4 #[v, v1] w fun e w' => e = .returned (.bool true) ∧ Below w.heap.size w w' := by
  obtain ⟨m, c, s, rfl⟩ := geo_of_trod hok h
  obtain ⟨us, hu⟩ := puts_of_trod hok1 h1 hw1
  by_cases hm1 : muchIs (us.map (·.2.length)) = true
  · exact splits_much m c s v1 us w hu hm1
  by_cases hz : splitCode m c s us = 0
  · obtain ⟨M, C, S, rfl, rfl, rfl, ok⟩ := split_zero hz
    exact splits_ok M C S v1 us w hu ok law13_known (by simpa using hm1)
  · exact splits_bad m c s v1 us w hu hz law13_known (by simpa using hm1)

end Go.Proofs.YtkcfmkhakghniaaGreat
