/- A row is mended: the walk, of any input. -/
import Derived.Test.YtkcfmkhakghniaaLawK
import Derived.Test.YtkcfmkhakghniaaLawL
import Derived.Test.YtkcfmkhakghniaaGeoP
set_option linter.unusedVariables false
namespace Go.Proofs.Ytkcfmkhakghniaa
open Go.RowKit

set_option maxRecDepth 100000 in
theorem scrubMends_walk {H : Type} (w : World) (enc : TypeId × Value → H) (base : Nat) (v : Value) (d : DataW H) (ps : List MemPlace) (hok : Value.okWide Try.prog w .any base 23 v) (h : DataW.Trod enc Try.prog w 0 (fun _ => true) true 23 v d ps)
    (a : Int) (_ : (Lit.int .i64 a).wf = true)
    (enc' : TypeId × Value → H) (base' : Nat) (v' : Value) (d' : DataW H) (ps' : List MemPlace) (hok' : Value.okWide Try.prog w .any base' 45 v') (h' : DataW.Trod enc' Try.prog w 0 (fun _ => true) true 45 v' d' ps') :
    Calls Try.prog 4 #[v, .int .i64 a, v'] w fun e w' => e = .returned (.bool true) ∧ Below w.heap.size w w' := by
  obtain ⟨m, k, s, rfl⟩ := geo_of_trod hok h
  obtain ⟨l, hv⟩ := acts_of_trod hok' h'
  cases hg : geoIs m k s
  · exact mends_bad m k s a v' l w hv hg
  · obtain ⟨h1, h2, h3, h4, h5, h6⟩ := (geoIs_iff m k s).1 hg
    obtain ⟨M, rfl⟩ : ∃ M : Nat, m = M := ⟨m.toNat, by omega⟩
    obtain ⟨C, rfl⟩ : ∃ C : Nat, k = C := ⟨k.toNat, by omega⟩
    obtain ⟨S, rfl⟩ : ∃ S : Nat, s = S := ⟨s.toNat, by omega⟩
    exact mends_ok M C S a v' l w hv hg

end Go.Proofs.Ytkcfmkhakghniaa
