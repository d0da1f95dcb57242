/- spindleref06.At: which block lies there. -/
import Derived.Test.YtkcfmkhakghniaaPlwD
import Derived.Test.YtkcfmkhakghniaaGeoD
import Derived.Test.YtkcfmkhakghniaaPlnN
import Derived.OwnWalk
set_option linter.unusedVariables false
namespace Go.Proofs.Ytkcfmkhakghniaa
open Go.RowKit

set_option maxRecDepth 100000 in
set_option maxHeartbeats 4000000 in
theorem ref_at (M C S r m : Nat) (w : World) (h : geoIs M C S = true) (hr : r < S * C) (hm : m < M) (hp : m ≠ parOf M C r) :
    Calls Try.prog 29 #[geo M C S, .int .i64 m, .int .i64 r] w fun e w' => e = .returned (.tuple #[.int .i64 (blockAt M C m r : Nat), .bool false, .int .i64 0]) ∧ Below w.heap.size w w' := by
  obtain ⟨h1, h2, h3, h4, h5, h6⟩ := (geoIs_iff M C S).1 h
  have hC16 : C ≤ 16 := by omega
  have hk := Lib.hid (fun W => ref_check M C S W)
  have hpa := Lib.hid (fun W => ref_parity M C S r W h hr)
  obtain ⟨hlo, hhi⟩ := geo_bounds h
  have hSC : S * C ≤ 4096 := by exact_mod_cast hhi
  have hpM : parOf M C r < M := by unfold parOf; omega
  have hr2 : r ≤ 4096 := by omega
  have hdC : r / C ≤ 4096 := Nat.le_trans (Nat.div_le_self _ _) hr2
  have hmC : r % C < C := Nat.mod_lt _ (by omega)
  have hB : behind M (parOf M C r) m < M := Nat.mod_lt _ (by omega)
  have hQe : ((m + 2 * M - parOf M C r - 1 : Nat) : Int) = (m : Int) - (parOf M C r : Nat) - 1 + 2 * (M : Int) := by omega
  have hQm : Int.tmod ((m + 2 * M - parOf M C r - 1 : Nat) : Int) (M : Int) = ((behind M (parOf M C r) m : Nat) : Int) := rfl
  have hXe : (r : Int) / (C : Int) = ((r / C : Nat) : Int) := rfl
  have hKe : Int.tmod (r : Int) (C : Int) = ((r % C : Nat) : Int) := rfl
  have hYe : ((r / C : Nat) : Int) * ((M : Int) - 1) = ((r / C * (M - 1) : Nat) : Int) := by rw [Int.natCast_mul]; congr 1; omega
  have hYb : r / C * (M - 1) ≤ 4096 * 15 := Nat.mul_le_mul hdC (by omega)
  have hZe : ((r / C * (M - 1) : Nat) : Int) * (C : Int) = ((r / C * (M - 1) * C : Nat) : Int) := (Int.natCast_mul _ _).symm
  have hZb : r / C * (M - 1) * C ≤ 61440 * 16 := Nat.mul_le_mul hYb (by omega)
  have hEe : ((behind M (parOf M C r) m : Nat) : Int) * (C : Int) = ((behind M (parOf M C r) m * C : Nat) : Int) := (Int.natCast_mul _ _).symm
  have hEb : behind M (parOf M C r) m * C ≤ 16 * 16 := Nat.mul_le_mul (by omega) (by omega)
  have hne : ((m : Int) == ((parOf M C r : Nat) : Int)) = false := by simp; omega
  unfold geoCode at hk
  rw [h] at hk
  simp only [if_true] at hk
  unfold blockAt
  generalize behind M (parOf M C r) m * C = E at *
  generalize r / C * (M - 1) * C = Z at *
  generalize r / C * (M - 1) = Y at *
  generalize r / C = X at *
  generalize r % C = K at *
  generalize behind M (parOf M C r) m = D at *
  generalize m + 2 * M - parOf M C r - 1 = Q at *
  generalize parOf M C r = p at *
  have hY2 : Y ≤ 61440 := hYb
  have hZ2 : Z ≤ 983040 := hZb
  have hE2 : E ≤ 256 := hEb
  clear hYb hZb hEb hSC hlo hhi hr h
  have hq3 := hQe.symm
  have hK16 : K ≤ 16 := Nat.le_trans (Nat.le_of_lt hmC) hC16
  clear hQe
  have hCn : ¬ (C : Int) = 0 := by omega
  have hMn : ¬ (M : Int) = 0 := by omega
  have hCn' : ¬ C = 0 := by omega
  have hMn' : ¬ M = 0 := by omega
  have hb : Below w.heap.size w (w.alloc (.cells #[.int .i64 M, .int .i64 C, .int .i64 S] 23)) := (Below.refl _ _).alloc (Nat.le_refl _) _
  have ha : At (w.alloc (.cells #[.int .i64 M, .int .i64 C, .int .i64 S] 23)) w.heap.size #[.int .i64 M, .int .i64 C, .int .i64 S] 23 := At.new _ _ _
  have HA := Lib.hid ha
  have HL := Lib.hid ha.lt
  clear ha
  unfold geo at *
  go_enter Try.func29, Try.ntmps29
  go_wp2_with (first
    | (go_at_call 9; (with_reducible refine (hk.out _).mono ?_); rintro e w1 ⟨rfl, hb1⟩; have hA1 := HA.out.below hb1 HL.out; have c0 := hA1.cell 0; have c1 := hA1.cell 1; have c2 := hA1.cell 2; have HA1 := Lib.hid hA1; clear hA1)
    | (go_at_call 21; (with_reducible refine (hpa.out _).mono ?_); rintro e w2 ⟨rfl, hb2⟩; have hA2 := HA1.out.below hb2 HA1.out.lt; have c0 := hA2.cell 0; have c1 := hA2.cell 1; have c2 := hA2.cell 2; clear hA2))
  go_quiet (fail)
  go_wp2_with fail
  go_ret3
  exact ⟨rfl, below_drewN (below_then (below_then hb hb1) hb2) _⟩

end Go.Proofs.Ytkcfmkhakghniaa
