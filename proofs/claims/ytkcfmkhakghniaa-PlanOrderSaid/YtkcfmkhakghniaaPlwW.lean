/- PlanOrder: the walk, of any input. -/
import Derived.Test.YtkcfmkhakghniaaPlwV
import Derived.Test.YtkcfmkhakghniaaGeoQ
set_option linter.unusedVariables false
namespace Go.Proofs.Ytkcfmkhakghniaa
open Go.RowKit Go.WideShapes Go.ChangeAt

set_option maxRecDepth 100000 in
set_option maxHeartbeats 4000000 in
/-- .. where nothing is looked at. -/
theorem order_short (m c s : Int) (vu : Value) (us : List (Int × List UInt8)) (w : World) (hu : PutSeg w vu us) (hs : muchIs (us.map (·.2.length)) = true ∨ 300 < us.length) :
    Calls Try.prog 5 #[geo m c s, vu] w fun e w' => e = .returned (.bool true) ∧ Below w.heap.size w w' := by
  have hb0 : Below w.heap.size w (w.alloc (.cells (cgeoI m c s) 23)) := (Below.refl _ _).alloc (Nat.le_refl _) _
  have HB0 := Lib.hid hb0
  have hmp : Hid (∀ W, Below w.heap.size w W → _) := fun W hW => much_puts vu us W (hu.below hW)
  cases hm1 : muchIs (us.map (·.2.length))
  · have h300 : decide ((300 : Int) < (us.length : Int)) = true := decide_eq_true (by
      rcases hs with h | h
      · rw [hm1] at h; cases h
      · omega)
    rw [hm1] at hmp
    obtain ⟨ua, uc, rfl⟩ := hu.shape
    clear hu hs hm1 hb0
    unfold geo at *
    go_enter Try.func5, Try.ntmps5
    go_wp2_with (first
      | (go_at_call 25; (with_reducible refine (hmp.out _ HB0.out).mono ?_); rintro e w1 ⟨rfl, rfl⟩))
    go_ret
    exact ⟨rfl, HB0.out⟩
  · rw [hm1] at hmp
    obtain ⟨ua, uc, rfl⟩ := hu.shape
    clear hu hs hm1 hb0
    unfold geo at *
    go_enter Try.func5, Try.ntmps5
    go_wp2_with (first
      | (go_at_call 25; (with_reducible refine (hmp.out _ HB0.out).mono ?_); rintro e w1 ⟨rfl, rfl⟩))
    go_ret
    exact ⟨rfl, HB0.out⟩

set_option maxRecDepth 100000 in
theorem planOrder_walk {H : Type} (w : World) (enc : TypeId × Value → H)
    (base : Nat) (v : Value) (d : DataW H) (ps : List MemPlace) (hok : Value.okWide Try.prog w .any base 23 v) (h : DataW.Trod enc Try.prog w 0 (fun _ => true) true 23 v d ps)
    (enc1 : TypeId × Value → H) (base1 : Nat) (v1 : Value) (d1 : DataW H) (ps1 : List MemPlace) (hok1 : Value.okWide Try.prog w .any base1 57 v1) (h1 : DataW.Trod enc1 Try.prog w 0 (fun _ => true) true 57 v1 d1 ps1) (hw1 : ∀ n ∈ d1.weights Try.prog 57, n ≤ reachBytes) :
    Calls Try.prog 5 #[v, v1] w fun e w' => e = .returned (.bool true) ∧ Below w.heap.size w w' := by
  obtain ⟨m, c, s, rfl⟩ := geo_of_trod hok h
  obtain ⟨us, hu⟩ := puts_of_trod hok1 h1 hw1
  by_cases hm1 : muchIs (us.map (·.2.length)) = true
  · exact order_short m c s v1 us w hu (.inl hm1)
  by_cases hl : 300 < us.length
  · exact order_short m c s v1 us w hu (.inr hl)
  · exact order_main m c s v1 us w hu (by omega) law13_known (by simpa using hm1)

end Go.Proofs.Ytkcfmkhakghniaa
