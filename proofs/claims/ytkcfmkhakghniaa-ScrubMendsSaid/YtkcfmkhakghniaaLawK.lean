/- A row is mended: the walk. -/
import Derived.Test.YtkcfmkhakghniaaLawJ
import Derived.Test.YtkcfmkhakghniaaLawI
set_option linter.unusedVariables false
namespace Go.Proofs.Ytkcfmkhakghniaa
open Go.RowKit

set_option maxRecDepth 100000 in
set_option maxHeartbeats 4000000 in
theorem mends_bad (m c s a : Int) (v : Value) (l : List (Int × Int × List UInt8)) (w : World) (hv : Acts w v l) (hg : geoIs m c s = false) :
    Calls Try.prog 4 #[geo m c s, .int .i64 a, v] w fun e w' => e = .returned (.bool true) ∧ Below w.heap.size w w' := by
  have hk := Lib.hid (fun W => ref_check m c s W)
  have hb0 : Below w.heap.size w (w.alloc (.cells #[.int .i64 m, .int .i64 c, .int .i64 s] 23)) := (Below.refl _ _).alloc (Nat.le_refl _) _
  have hu := Lib.hid (law_much_bad m c s v l _ (hv.below hb0) hg)
  have ha0 : At (w.alloc (.cells #[.int .i64 m, .int .i64 c, .int .i64 s] 23)) w.heap.size #[.int .i64 m, .int .i64 c, .int .i64 s] 23 := At.new _ _ _
  have HA0 := Lib.hid ha0
  have HAL := Lib.hid ha0.lt
  obtain ⟨va, vc, rfl⟩ := hv.shape
  clear ha0 hv
  unfold geoCode at hk
  rw [hg] at hk
  simp only [if_false, Bool.false_eq_true] at hk
  unfold geo at *
  go_enter Try.func4, Try.ntmps4
  go_wp2_with (first
    | (go_at_call 10; refine hu.out.mono ?_; rintro e w1 ⟨r, rfl, hb1⟩; have ha1 := HA0.out.below hb1 HAL.out; have c0 := ha1.cell 0; have c1 := ha1.cell 1; have c2 := ha1.cell 2; clear ha1)
    | (go_at_call 9; (with_reducible refine (hk.out _).mono ?_); rintro e w2 ⟨rfl, hb2⟩))
  all_goals go_ret
  all_goals first | exact ⟨rfl, below_then hb0 hb1⟩ | exact ⟨rfl, below_then (below_then hb0 hb1) hb2⟩

end Go.Proofs.Ytkcfmkhakghniaa
