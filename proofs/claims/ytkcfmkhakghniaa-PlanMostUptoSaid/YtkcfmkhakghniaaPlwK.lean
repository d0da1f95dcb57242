/- PlanEven: the walk, of any input. -/
import Derived.Test.YtkcfmkhakghniaaPlwI
import Derived.Test.YtkcfmkhakghniaaPlwJ
import Derived.OpenShut
set_option linter.unusedVariables false
namespace Go.Proofs.Ytkcfmkhakghniaa
open Go.RowKit Go.WideShapes Go.ChangeAt

theorem u8_nat {n : Int} (h : (Lit.int .u8 n).wf = true) : ∃ x : Nat, n = (x : Int) ∧ x < 256 := by
  have hb := bounds_u8 h
  exact ⟨n.toNat, by omega, by omega⟩

set_option maxRecDepth 100000 in
theorem planEven_walk {H : Type} (w : World) (a : Int) (ha : (Lit.int .u8 a).wf = true) (b : Int) (hb : (Lit.int .u8 b).wf = true) (c : Int) (hc : (Lit.int .u8 c).wf = true)
    (enc : TypeId × Value → H) (base : Nat) (v : Value) (d : DataW H) (ps : List MemPlace) (hok : Value.okWide Try.prog w .any base 51 v) (h : DataW.Trod enc Try.prog w 0 (fun _ => true) true 51 v d ps) (hw : ∀ n ∈ d.weights Try.prog 51, n ≤ reachBytes)
    (g : Int) (hg : (Lit.int .u16 g).wf = true) :
    Calls Try.prog 7 #[.int .u8 a, .int .u8 b, .int .u8 c, v, .int .u16 g] w fun e w' => e = .returned (.bool true) ∧ Below w.heap.size w w' := by
  obtain ⟨A, rfl, hA⟩ := u8_nat ha
  obtain ⟨B, rfl, hB⟩ := u8_nat hb
  obtain ⟨C, rfl, hC⟩ := u8_nat hc
  obtain ⟨ls, hs, h1, h2⟩ := segs_of_trod Try.underlying51 Try.underlying34 Try.underlying5 (by kernel_rfl) (by kernel_rfl) (by kernel_rfl) (by decide +kernel) hok h hw
  have hgb := bounds_u16 hg
  exact even_walk A B C g v ls w hA hB hC hgb.1 hgb.2 hs h1 h2 law13_known

end Go.Proofs.Ytkcfmkhakghniaa
