/- ScrubDoes: the walk, of any input. -/
import Derived.Test.YtleicmmbaacbmaaGreatRfW
set_option linter.unusedVariables false
namespace Go.Proofs.YtleicmmbaacbmaaGreat
open Go.RowKit

set_option maxRecDepth 100000 in
theorem scrubDoes_walk {H : Type} (w : World) (enc : TypeId × Value → H) (base : Nat) (v : Value) (d : DataW H) (ps : List MemPlace) (hok : Value.okWide Tryz.prog w .any base 23 v) (h : DataW.Trod enc Tryz.prog w 0 (fun _ => true) true 23 v d ps)
    (enc1 : TypeId × Value → H) (base1 : Nat) (v1 : Value) (d1 : DataW H) (ps1 : List MemPlace) (hok1 : Value.okWide Tryz.prog w .any base1 23 v1) (h1 : DataW.Trod enc1 Tryz.prog w 0 (fun _ => true) true 23 v1 d1 ps1)
    (enc' : TypeId × Value → H) (base' : Nat) (v' : Value) (d' : DataW H) (ps' : List MemPlace) (hok' : Value.okWide Tryz.prog w .any base' 24 v') (h' : DataW.Trod enc' Tryz.prog w 0 (fun _ => true) true 24 v' d' ps') :
    Calls Tryz.prog 3 #[v, v1, v'] w fun e w' => e = .returned (.bool true) ∧ Below w.heap.size w w' := by
  obtain ⟨m, k, s, rfl⟩ := geo_of_trod hok h
  obtain ⟨m2, k2, s2, rfl⟩ := geo_of_trod hok1 h1
  obtain ⟨l, hv⟩ := ops_of_trod hok' h'
  exact scrubDoes_run m k s m2 k2 s2 v' l w hv

end Go.Proofs.YtleicmmbaacbmaaGreat
