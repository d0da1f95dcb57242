/- One sector that turned is told with its row: the walk, of any input. -/
import Derived.Test.YtkcfmkhakghniaaLawF
import Derived.Test.YtkcfmkhakghniaaGeoO
set_option linter.unusedVariables false
namespace Go.Proofs.Ytkcfmkhakghniaa
open Go.RowKit

theorem u8_of_wf {n : Int} (h : (Lit.int .u8 n).wf = true) : ∃ x : UInt8, n = ((x.toNat : Nat) : Int) := by
  have hb := bounds_u8 h
  refine ⟨UInt8.ofNat n.toNat, ?_⟩
  rw [UInt8.toNat_ofNat']
  omega

set_option maxRecDepth 100000 in
theorem scrubTurned_walk {H : Type} (w : World) (enc : TypeId × Value → H) (base : Nat) (v : Value) (d : DataW H) (ps : List MemPlace) (hok : Value.okWide Try.prog w .any base 23 v) (h : DataW.Trod enc Try.prog w 0 (fun _ => true) true 23 v d ps)
    (a : Int) (_ : (Lit.int .i64 a).wf = true) (b : Int) (_ : (Lit.int .i64 b).wf = true) (c : Int) (_ : (Lit.int .i64 c).wf = true) (x : Int) (hx : (Lit.int .u8 x).wf = true) :
    Calls Try.prog 3 #[v, .int .i64 a, .int .i64 b, .int .i64 c, .int .u8 x] w fun e w' => e = .returned (.bool true) ∧ Below w.heap.size w w' := by
  obtain ⟨m, k, s, rfl⟩ := geo_of_trod hok h
  obtain ⟨y, rfl⟩ := u8_of_wf hx
  cases hg : geoIs m k s
  · exact turned_bad m k s a b c _ w hg
  · obtain ⟨h1, h2, h3, h4, h5, h6⟩ := (geoIs_iff m k s).1 hg
    obtain ⟨M, rfl⟩ : ∃ M : Nat, m = M := ⟨m.toNat, by omega⟩
    obtain ⟨C, rfl⟩ : ∃ C : Nat, k = C := ⟨k.toNat, by omega⟩
    obtain ⟨S, rfl⟩ : ∃ S : Nat, s = S := ⟨s.toNat, by omega⟩
    exact turned_ok M C S a b c y w hg

end Go.Proofs.Ytkcfmkhakghniaa
