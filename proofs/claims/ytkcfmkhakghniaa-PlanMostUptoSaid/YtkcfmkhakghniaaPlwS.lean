/- PlanMost: the walk, of any input. -/
import Derived.Test.YtkcfmkhakghniaaPlwR
import Derived.Test.YtkcfmkhakghniaaGeoQ
import Derived.Test.YtkcfmkhakghniaaPlwK
set_option linter.unusedVariables false
namespace Go.Proofs.Ytkcfmkhakghniaa
open Go.RowKit Go.WideShapes Go.ChangeAt

theorem cap_of_trod {H : Type} {enc : TypeId × Value → H} {P : Program} {W : World} {T E : Nat} {v : Value} {d : DataW H} {ps : List MemPlace} {base : Nat}
    (hT : P.underlying T = some (.slice E)) (hv : Value.okWide P W .any base T v) (h : DataW.Trod enc P W 0 (fun _ => true) true T v d ps) : ∀ a n c, v = .slice a n c → n ≤ c := by
  obtain ⟨a, len, cap, rfl⟩ := Go.WideShapes.okWide_slice hT hv
  obtain ⟨fuel, hf⟩ := h
  intro a' n c e
  simp only [Value.slice.injEq] at e
  obtain ⟨rfl, rfl, rfl⟩ := e
  rcases Go.Deep.open_slice hT hf with ⟨hcs, _⟩ | ⟨x, l, c, m, n, D, Pl, hcs, _, hl, hm, hmm, hd, hx⟩
  · simp [Value.cells] at hcs
    omega
  · simp [Value.cells] at hcs
    omega

set_option maxRecDepth 100000 in
theorem planMost_walk {H : Type} (w : World) (enc : TypeId × Value → H)
    (base : Nat) (v : Value) (d : DataW H) (ps : List MemPlace) (hok : Value.okWide Try.prog w .any base 23 v) (h : DataW.Trod enc Try.prog w 0 (fun _ => true) true 23 v d ps)
    (enc1 : TypeId × Value → H) (base1 : Nat) (v1 : Value) (d1 : DataW H) (ps1 : List MemPlace) (hok1 : Value.okWide Try.prog w .any base1 57 v1) (h1 : DataW.Trod enc1 Try.prog w 0 (fun _ => true) true 57 v1 d1 ps1) (hw1 : ∀ n ∈ d1.weights Try.prog 57, n ≤ reachBytes)
    (a : Int) (ha : (Lit.int .u8 a).wf = true)
    (enc2 : TypeId × Value → H) (base2 : Nat) (v2 : Value) (d2 : DataW H) (ps2 : List MemPlace) (hok2 : Value.okWide Try.prog w .any base2 51 v2) (h2 : DataW.Trod enc2 Try.prog w 0 (fun _ => true) true 51 v2 d2 ps2) (hw2 : ∀ n ∈ d2.weights Try.prog 51, n ≤ reachBytes) :
    Calls Try.prog 6 #[v, v1, .int .u8 a, v2] w fun e w' => e = .returned (.bool true) ∧ Below w.heap.size w w' := by
  obtain ⟨A, rfl, hA⟩ := u8_nat ha
  obtain ⟨m, c, s, rfl⟩ := geo_of_trod hok h
  obtain ⟨us, hu⟩ := puts_of_trod hok1 h1 hw1
  obtain ⟨ls, hs, e1, e2⟩ := segs_of_trod Try.underlying51 Try.underlying34 Try.underlying5 (by kernel_rfl) (by kernel_rfl) (by kernel_rfl) (by decide +kernel) hok2 h2 hw2
  have hcap := cap_of_trod Try.underlying57 hok1 h1
  by_cases hm1 : muchIs (us.map (·.2.length)) = true
  · exact most_short m c s A v1 v2 us ls w hu hs e1 e2 law13_known (.inl hm1)
  by_cases hm2 : muchIs (ls.map List.length) = true
  · exact most_short m c s A v1 v2 us ls w hu hs e1 e2 law13_known (.inr (.inl hm2))
  by_cases hz : splitCode m c s us = 0
  · obtain ⟨M, C, S, rfl, rfl, rfl, ok⟩ := split_zero hz
    exact most_main M C S A v1 v2 us ls w ok hA hu hs e1 e2 law13_known (by simpa using hm1) (by simpa using hm2) hcap
  · exact most_short m c s A v1 v2 us ls w hu hs e1 e2 law13_known (.inr (.inr hz))

end Go.Proofs.Ytkcfmkhakghniaa
